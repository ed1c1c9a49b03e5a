/- Walks: Put, where it is done. -/
import Derived.Test.YthofnhmehpdnbaaN8
set_option linter.unusedVariables false
namespace Go.Proofs.Ythofnhmehpdnbaa
open Go.RowKit
set_option maxHeartbeats 1000000
theorem idxI_congr {α : Type} {p q : α → Bool} {xs : List α} (h : ∀ x ∈ xs, p x = q x) : idxI p xs = idxI q xs := by
  have : xs.findIdx? p = xs.findIdx? q := by
    induction xs with
    | nil => rfl
    | cons x xs ih =>
      rw [List.findIdx?_cons, List.findIdx?_cons, h x (by simp), ih (fun y hy => h y (by simp [hy]))]
  unfold idxI
  rw [this]
def nmP (nm : ByteArray) (x : Ent) : Bool := sEq x.name nm
def deadP (now : Int) (x : Ent) : Bool := !holdsB x.name x.till now
def leastP (xs : List Ent) (x : Ent) : Bool := xs.all fun y => decide (x.till ≤ y.till)
def placeI (xs : List Ent) (now : Int) (nm : ByteArray) : Int :=
  if 0 ≤ idxI (nmP nm) xs then idxI (nmP nm) xs else if 0 ≤ idxI (deadP now) xs then idxI (deadP now) xs else idxI (leastP xs) xs
def putL (xs : List Ent) (now : Int) (nm : ByteArray) (addrs : List Ad) (ttl : Int) : List Ent :=
  if ttl = 0 then (if 0 ≤ idxI (nmP nm) xs then xs.set (idxI (nmP nm) xs).toNat ⟨⟨#[]⟩, [], 0⟩ else xs) else xs.set (placeI xs now nm).toNat ⟨nm, addrs, now + ttl⟩
theorem E_put1 : ∀ (args : Array Value) (w : World), (callFunc 27 args).run Try.prog w = .ok (.enter 27 args) w :=
  enters_of (fn := Try.f27) Try.func27 (by kernel_rfl) (by kernel_rfl)
theorem E_put2 : ∀ (args : Array Value) (w : World), (callFunc 28 args).run Try.prog w = .ok (.enter 28 args) w :=
  enters_of (fn := Try.f28) Try.func28 (by kernel_rfl) (by kernel_rfl)
theorem E_put4 : ∀ (args : Array Value) (w : World), (callFunc 32 args).run Try.prog w = .ok (.enter 32 args) w :=
  enters_of (fn := Try.f32) Try.func32 (by kernel_rfl) (by kernel_rfl)
section
variable {σ : World} {Hs : List Hp} {H M N : Hp}
theorem TabR.sl {eT tT : TypeId} {tl : List Value} {b : Nat} {xs : List Ent} (h : TabR eT tT tl M b xs) : ∃ A c, M b = some (.cells (.slice A xs.length c :: tl).toArray tT (0, 0)) ∧ kEnt.IsSl M (.slice A xs.length c) xs := by
  obtain ⟨v, Hi, cells, hb, hown, hreps, hle, hib, hig, htill, hlen, hal⟩ := h.out
  have hs : kEnt.IsSl M v xs := hown.isSl (Kd.reps_mono hle hreps) rfl (Hp.le_refl _)
  obtain ⟨A, c, rfl, _⟩ := hs.form
  exact ⟨A, c, hb, hs⟩
theorem TabR.facts {eT tT : TypeId} {tl : List Value} {b : Nat} {xs : List Ent} (h : TabR eT tT tl M b xs) : (∀ x ∈ xs, 0 ≤ x.till ∧ x.till ≤ 4398046511104) ∧ xs.length ≤ 4096 ∧ ∀ x ∈ xs, x.addrs.length ≤ 16 := by
  obtain ⟨v, Hi, cells, hb, hown, hreps, hle, hib, hig, htill, hlen, hal⟩ := h.out
  exact ⟨htill, hlen, hal⟩
/-- A part of a table's memory that holds neither the table nor its slots. -/
structure Safe (M : Hp) (b : Nat) (Hi : Hp) : Prop where mk :: (le : Hp.le Hi M) (tab : Hi b = none) (row : ∀ (a : Addr) (n c : Nat) (tl : List Value) (t : TypeId) (fr : Nat × Nat), M b = some (.cells (.slice (some a) n c :: tl).toArray t fr) → Hi a.block = none)
/-- Such a part has not changed. -/
structure Keep (M : Hp) (b : Nat) (M' : Hp) : Prop where mk :: (out : ∀ Hi, Safe M b Hi → Safe M' b Hi)
theorem keep_refl (M : Hp) (b : Nat) : Keep M b M := ⟨fun _ h => h⟩
theorem keep_put {M N : Hp} {b g n c : Nat} {tl : List Value} {t : TypeId} {fr : Nat × Nat} {o : Obj} (hb : M b = some (.cells (.slice (some ⟨g, 0, none⟩) n c :: tl).toArray t fr)) (hgb : g ≠ b) : Keep M b (Hp.or (Hp.upd M g o) N) := ⟨fun Hi h => by
  have hg : Hi g = none := h.row _ _ _ _ _ _ hb
  refine ⟨fun k x hk => ?_, h.tab, fun a n' c' tl' t' fr' he => ?_⟩
  · refine Hp.le_or_left _ _ _ _ ?_
    rw [Hp.upd_ne (fun e => by subst e; rw [hg] at hk; cases hk)]
    exact h.le _ _ hk
  · have h1 : Hp.or (Hp.upd M g o) N b = some (.cells (.slice (some ⟨g, 0, none⟩) n c :: tl).toArray t fr) := Hp.le_or_left _ _ _ _ (by rw [Hp.upd_ne hgb.symm]; exact hb)
    rw [h1] at he
    simp at he
    rw [← he.1.1.1]
    exact hg⟩
def PutPost (σ : World) (Hs : List Hp) (M : Hp) (b : Nat) (xs : List Ent) (e : Ending) (w' : World) : Prop := e = .returned (.int .i64 0) ∧ ∃ M', Sat σ w' (M' :: Hs) ∧ TabRep M' b xs ∧ Keep M b M'
theorem put_zero (b : Nat) (xs : List Ent) (now : Int) (nm : ByteArray) (A : Option Addr) (m c : Nat) (addrs : List Ad) (w : World) (hw : Sat σ w (M :: Hs)) (hT : TabRep M b xs) (h0 : 0 < xs.length) (hs : nm.size ≤ 9223372036854775807) (hn : m ≤ 9223372036854775807) (hbad : putBad now nm m 0 = false) :
    Calls Try.prog 11 #[.pointer (some ⟨b, 0, none⟩), .int .i64 now, .string nm, .slice A m c, .int .i64 0] w (PutPost σ Hs M b (putL xs now nm addrs 0)) := by
  simp [putBad] at hbad
  obtain ⟨⟨⟨h1, h2⟩, h3⟩, h4⟩ := hbad
  have h2 : nm.toList.isEmpty = false := by simpa using h2
  obtain ⟨g, cap, cur, hb, hg, hsz, hput⟩ := hT.put h0
  obtain ⟨A', c', hb', hsl⟩ := hT.sl
  obtain ⟨rfl, rfl⟩ : A' = some ⟨g, 0, none⟩ ∧ c' = cap := by rw [hb] at hb'; simpa [eq_comm] using hb'
  have hlen := hT.facts.2.1
  have hcap := hsl.cap
  have hz : ((xs.length : Int) == 0) = false := beq_eq_false_iff_ne.2 (by omega)
  have HB := Lib.hid hb; have HG := Lib.hid hg; have HPUT := Lib.hid hput; have HT := Lib.hid hT; have HSL := Lib.hid hsl
  clear hb hb' hg hput hT hsl
  go_enter Try.func11, Try.ntmps11
  go_wp2_with fail
  have hw2 := (hw.alloc (.cells #[.int .i64 now] 3)).alloc (.cells #[.string nm] 9)
  generalize hW : World.alloc (World.alloc w _) _ = w2 at *
  simp only [World.size_alloc] at hw2
  clear hW hw
  generalize w.heap.size = n0 at *
  have cb1 : w2.cell? ⟨b, 1, none⟩ = some (.bool true) := hw2.drop.drop.m_cell HB.out rfl
  have cb0 : w2.cell? ⟨b, 0, none⟩ = some (.slice (some ⟨g, 0, none⟩) xs.length c') := hw2.drop.drop.m_cell HB.out rfl
  have ct : w2.cell? ⟨n0, 0, none⟩ = some (.int .i64 now) := hw2.drop.one_cell rfl
  have cn : w2.cell? ⟨n0 + 1, 0, none⟩ = some (.string nm) := hw2.one_cell rfl
  refine (is_any b true w2 cb1).mono ?_
  rintro e w3 ⟨rfl, rfl⟩
  go_wp2_with (go_at_call 25; refine (moment_any _ _).mono ?_; rintro e w3 ⟨rfl, rfl⟩)
  refine (first_any (H := M) _ xs 27 _ (fun x => #[x, .pointer (some ⟨n0 + 1, 0, none⟩)]) (fun x => by simp) (nmP nm) _ hw2 (by simp) HSL.out E_put1 (fun i x hx u hu w' hw' => (put1_any nm x.name u x.till (n0 + 1) w' (hw'.one_cell rfl) hw'.one_lt hu.oneCell).mono (fun e w3 ⟨he, hb⟩ => ⟨he, hw'.below hb⟩))).mono ?_
  rintro e w3 ⟨rfl, hw3⟩
  clear cb1 cb0 ct cn hw2 w2
  rcases idx_cases (nmP nm) xs with ⟨hi, hf⟩ | ⟨k, x, hi, hx, hf, hp, _⟩
  · have HI := Lib.hid hi
    rw [hi]
    clear hi hf
    go_wp2
    go_ret
    exact ⟨rfl, M, hw3.drop.drop, by unfold putL; rw [HI.out]; exact HT.out, keep_refl M b⟩
  · have hk := (List.getElem?_eq_some_iff.1 hx).1
    have HI := Lib.hid hi
    rw [hi]
    clear hi hf hx hp
    have cb0 : w3.cell? ⟨b, 0, none⟩ = some (.slice (some ⟨g, 0, none⟩) xs.length c') := hw3.drop.drop.m_cell HB.out rfl
    have k0 : w3.cell? ⟨g, k * 3, none⟩ = some cur[k * 3] := hw3.drop.drop.m_cell HG.out (Array.getElem?_eq_getElem (by omega))
    have k1 : w3.cell? ⟨g, k * 3 + 1, none⟩ = some cur[k * 3 + 1] := hw3.drop.drop.m_cell HG.out (Array.getElem?_eq_getElem (by omega))
    have k2 : w3.cell? ⟨g, k * 3 + 2, none⟩ = some cur[k * 3 + 2] := hw3.drop.drop.m_cell HG.out (Array.getElem?_eq_getElem (by omega))
    have hgb := hw3.drop.drop.le g _ HG.out
    have f0 := heap_free hgb (k * 3)
    have f1 := heap_free hgb (k * 3 + 1)
    have f2 := heap_free hgb (k * 3 + 2)
    have hfin := HPUT.out _ _ _ _ (hw3.drop.drop.emp.swap) k hk ⟨⟨#[]⟩, [], 0⟩ (.slice none 0 0) Kd.IsSl.nil (by decide) (by decide) (by decide)
    have HFIN := Lib.hid hfin
    clear hfin hgb
    go_wp2
    go_ret
    exact ⟨rfl, _, HFIN.out.1, by unfold putL; rw [HI.out, if_pos rfl, if_pos (by omega), Int.toNat_natCast]; exact HFIN.out.2, keep_put HB.out (fun e => by subst e; have := HB.out.symm.trans HG.out; simp at this)⟩
end
end Go.Proofs.Ythofnhmehpdnbaa
