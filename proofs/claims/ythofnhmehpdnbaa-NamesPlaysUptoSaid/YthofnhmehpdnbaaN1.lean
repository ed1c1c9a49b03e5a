/- Walks: small functions of names. -/
import Derived.Test.YthofnhmehpdnbaaRep
import Derived.Test.YthofnhmehpdnbaaChecked
set_option linter.unusedVariables false
namespace Go.Proofs.Ythofnhmehpdnbaa
open Go.RowKit
set_option maxHeartbeats 400000
theorem is_any (b : Nat) (m : Bool) (w : World) (hc : w.cell? ⟨b, 1, none⟩ = some (.bool m)) :
    Calls Try.prog 24 #[.pointer (some ⟨b, 0, none⟩)] w fun e w' => e = .returned (.bool m) ∧ w = w' := by
  go_enter Try.func24, Try.ntmps24
  go_wp2
  all_goals (go_ret; exact ⟨rfl, rfl⟩)
theorem is_nil (w : World) :
    Calls Try.prog 24 #[.pointer none] w fun e w' => e = .returned (.bool false) ∧ w = w' := by
  go_enter Try.func24, Try.ntmps24
  go_wp2
  go_ret
  exact ⟨rfl, rfl⟩
def momB (n : Int) : Bool := decide (0 ≤ n) && decide (n ≤ 1099511627776)
theorem moment_any (n : Int) (w : World) :
    Calls Try.prog 25 #[.int .i64 n] w fun e w' => e = .returned (.bool (momB n)) ∧ w = w' := by
  by_cases h : 0 ≤ n
  · go_enter Try.func25, Try.ntmps25
    go_wp2
    go_ret
    exact ⟨by simp [momB, h], rfl⟩
  · go_enter Try.func25, Try.ntmps25
    go_wp2
    go_ret
    exact ⟨by simp [momB]; omega, rfl⟩
def holdsB (nm : ByteArray) (till now : Int) : Bool := !nm.toList.isEmpty && decide (now < till)
theorem holds_any (nm : ByteArray) (av : Value) (till now : Int) (w : World) (ho : av.oneCell' = true) :
    Calls Try.prog 29 #[.agg #[.string nm, av, .int .i64 till], .int .i64 now] w fun e w' => e = .returned (.bool (holdsB nm till now)) ∧ Below w.heap.size w w' := by
  cases h : nm.toList.isEmpty
  · go_enter Try.func29, Try.ntmps29
    go_wp2
    go_ret
    exact ⟨by simp [holdsB, h], (Below.refl _ _).alloc (Nat.le_refl _) _⟩
  · go_enter Try.func29, Try.ntmps29
    go_wp2
    go_ret
    exact ⟨by simp [holdsB, h], (Below.refl _ _).alloc (Nat.le_refl _) _⟩

structure Ad where
  A : Int
  B : Int
  C : Int
  D : Int
  deriving DecidableEq
structure Ent where
  name : ByteArray
  addrs : List Ad
  till : Int
def kAd : Kd Ad := Kd.iso (Kd.pair (Kd.int .u8) (Kd.pair (Kd.int .u8) (Kd.pair (Kd.int .u8) (Kd.int .u8)))) (fun x => (x.A, x.B, x.C, x.D))
def kEnt : Kd Ent := Kd.iso (Kd.pair Kd.str (Kd.pair (Kd.sl kAd) (Kd.int .i64))) (fun x => (x.name, x.addrs, x.till))
theorem kAd_cells {H : Hp} {x : Ad} {cs : List Value} (h : kAd.rep H x cs) : cs = [.int .u8 x.A, .int .u8 x.B, .int .u8 x.C, .int .u8 x.D] := by
  obtain ⟨_, _, rfl, rfl, _, _, rfl, rfl, _, _, rfl, rfl, rfl⟩ := h
  rfl
theorem kEnt_cells {H : Hp} {x : Ent} {cs : List Value} (h : kEnt.rep H x cs) : ∃ v, cs = [.string x.name, v, .int .i64 x.till] ∧ kAd.IsSl H v x.addrs := by
  obtain ⟨_, _, rfl, rfl, _, _, rfl, ⟨v, rfl, hv⟩, rfl⟩ := h
  exact ⟨v, rfl, hv⟩
theorem kEnt_mk {H : Hp} {x : Ent} {v : Value} (h : kAd.IsSl H v x.addrs) : kEnt.rep H x [.string x.name, v, .int .i64 x.till] :=
  ⟨[_], [_, _], rfl, rfl, [_], [_], rfl, ⟨v, rfl, h⟩, rfl⟩
def idxI {α : Type} (p : α → Bool) (xs : List α) : Int := match xs.findIdx? p with | some i => (i : Int) | none => -1
theorem idxI_yes {α : Type} (p : α → Bool) (xs : List α) (k : Nat) (x : α) (hx : xs[k]? = some x) (hp : p x = true) (hn : ∀ (j : Nat) (y : α), j < k → xs[j]? = some y → p y = false) : idxI p xs = k := by
  have hk := (List.getElem?_eq_some_iff.1 hx).1
  have he := (List.getElem?_eq_some_iff.1 hx).2
  have : xs.findIdx? p = some k := by
    rw [List.findIdx?_eq_some_iff_getElem]
    exact ⟨hk, by rw [he]; exact hp, fun j hj => by rw [hn j _ hj (List.getElem?_eq_getElem (by omega))]; simp⟩
  simp [idxI, this]
theorem idxI_no {α : Type} (p : α → Bool) (xs : List α) (hn : ∀ (j : Nat) (y : α), xs[j]? = some y → p y = false) : idxI p xs = -1 := by
  have : xs.findIdx? p = none := by
    rw [List.findIdx?_eq_none_iff]
    intro x hx
    obtain ⟨i, hi⟩ := List.getElem?_of_mem hx
    exact hn i x hi
  simp [idxI, this]
section
variable {σ : World} {Hs : List Hp} {H : Hp}
theorem enters_of {P : Program} {F : FuncId} {fn : Func} (hf : P.funcs[F]? = some fn) (hn : (fn.name == "runtime.NumGoroutine") = false) (hb : fn.body.isNone = false) : ∀ (args : Array Value) (w : World), (callFunc F args).run P w = .ok (.enter F args) w := by
  intro args w
  have h1 : ¬ fn.name = "runtime.NumGoroutine" := by simpa using hn
  have h2 : ¬ fn.body = none := by intro h; rw [h] at hb; simp at hb
  simp [callFunc, Sem.run_bind, hf, h1, h2]
theorem index_any (v : Value) (xs : List Ent) (F : Nat) (caps : Array Value) (AR : Value → Array Value) (hAR : ∀ x, #[x] ++ caps = AR x) (p : Ent → Bool) (w : World) (hw : Sat σ w Hs) (hH : H ∈ Hs) (hs : kEnt.IsSl H v xs) (hE : ∀ (args : Array Value) (w : World), (callFunc F args).run Try.prog w = .ok (.enter F args) w)
    (hf : ∀ (i : Nat) (x : Ent), xs[i]? = some x → ∀ u, kAd.IsSl H u x.addrs → ∀ w', Sat σ w' Hs → Calls Try.prog F (AR (.agg #[.string x.name, u, .int .i64 x.till])) w' fun e w2 => e = .returned (.bool (p x)) ∧ Sat σ w2 Hs) :
    Calls Try.prog 38 #[v, .func (.func F) #[] caps] w fun e w' => e = .returned (.int .i64 (idxI p xs)) ∧ Sat σ w' Hs := by
  have HAR := Lib.hid hAR; clear hAR
  obtain ⟨A, c, rfl, hc1, hc2, _⟩ := hs.form
  go_enter Try.func38, Try.ntmps38
  go_wp2
  go_loopw [8, 5] (fun i _ wr => ∃ k : Nat, k ≤ xs.length ∧ i = .int .i64 k ∧ Sat σ wr Hs ∧ Eager (∀ (j : Nat) (y : Ent), j < k → xs[j]? = some y → p y = false)) (fun i _ _ => xs.length - (intOf i).toNat)
  case atStart => exact ⟨0, by omega, rfl, hw, ⟨fun j y hj => by omega⟩⟩
  case round =>
    obtain ⟨k, hk, rfl, hwr, hn⟩ := hrel
    by_cases hlt : k < xs.length
    · obtain ⟨x, hx⟩ : ∃ x, xs[k]? = some x := ⟨_, List.getElem?_eq_getElem hlt⟩
      obtain ⟨b, off, cs, rfl, hcs, hcell⟩ := hs.get k _ hx
      obtain ⟨u, rfl, hu⟩ := kEnt_cells hcs
      have c0 : wr.cell? ⟨b, off + k * 3, none⟩ = _ := hpOf_cell (Hp.cell_le (hwr.has _ hH) (hcell 0 _ rfl))
      have c1 : wr.cell? ⟨b, off + k * 3 + 1, none⟩ = _ := hpOf_cell (Hp.cell_le (hwr.has _ hH) (hcell 1 _ rfl))
      have c2 : wr.cell? ⟨b, off + k * 3 + 2, none⟩ = _ := hpOf_cell (Hp.cell_le (hwr.has _ hH) (hcell 2 _ rfl))
      have HC := Lib.hid (hf k _ hx u hu)
      have HX := Lib.hid hx
      clear hcell hf hx hcs
      go_wp2_with fail
      rw [HAR.out]
      refine (HC.out _ hwr).mono ?_
      rintro e w2 ⟨rfl, hw2⟩
      cases hpx : p x
      · have HPX := Lib.hid hpx; clear hpx
        go_wp2
        go_roundw
        case measure => simp [intOf]; omega
        case rel => exact ⟨k + 1, by omega, by go_num, hw2, ⟨fun j y hj hy => by
          by_cases e : j = k
          · subst e; rw [HX.out] at hy; cases hy; exact HPX.out
          · exact hn.out j y (by omega) hy⟩⟩
      · have HPX := Lib.hid hpx; clear hpx
        go_wp2
        go_ret
        exact ⟨by rw [idxI_yes p xs k x HX.out HPX.out hn.out]; rfl, hw2⟩
    · obtain rfl : k = xs.length := by omega
      go_wp2
      go_ret
      exact ⟨by rw [idxI_no p xs (fun j y hy => hn.out j y (List.getElem?_eq_some_iff.1 hy).1 hy)]; rfl, hwr⟩
end
end Go.Proofs.Ythofnhmehpdnbaa
