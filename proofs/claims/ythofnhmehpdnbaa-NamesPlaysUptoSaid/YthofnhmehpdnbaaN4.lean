/- Walks: what a table tells. -/
import Derived.Test.YthofnhmehpdnbaaN3
set_option linter.unusedVariables false
namespace Go.Proofs.Ythofnhmehpdnbaa
open Go.RowKit
set_option maxHeartbeats 400000
theorem idx_cases {α : Type} (p : α → Bool) (xs : List α) : (idxI p xs = -1 ∧ xs.find? p = none) ∨ ∃ (k : Nat) (x : α), idxI p xs = k ∧ xs[k]? = some x ∧ xs.find? p = some x ∧ p x = true ∧ xs.findIdx? p = some k := by
  unfold idxI
  cases h : xs.findIdx? p with
  | none => exact .inl ⟨rfl, by rw [List.findIdx?_eq_none_iff] at h; rw [List.find?_eq_none]; intro x hx; simp [h x hx]⟩
  | some k =>
    obtain ⟨hk, hp, hn⟩ := List.findIdx?_eq_some_iff_getElem.1 h
    refine .inr ⟨k, xs[k], rfl, List.getElem?_eq_getElem hk, ?_, hp, rfl⟩
    rw [List.find?_eq_some_iff_getElem]
    exact ⟨hp, k, hk, rfl, fun j hj => by simpa using hn j hj⟩
theorem kAd_reps {H H' : Hp} : ∀ {xs : List Ad} {cs : List Value}, kAd.reps H xs cs → kAd.reps H' xs cs
  | [], _, h => h
  | x :: xs, _, ⟨c, r, e, hc, hr⟩ => ⟨c, r, e, hc, kAd_reps hr⟩
/-- A table at a block: its entries. -/
structure TabR (eT tT : TypeId) (tl : List Value) (M : Hp) (b : Nat) (xs : List Ent) : Prop where mk :: (out : ∃ (v : Value) (Hi : Hp) (cells : List Value), M b = some (.cells (v :: tl).toArray tT (0, 0)) ∧ Own M eT 3 v xs.length cells ∧ kEnt.reps Hi xs cells ∧ Hp.le Hi M ∧ Hi b = none ∧ (∀ g, v.ownBlock = some g → Hi g = none ∧ g ≠ b) ∧ (∀ x ∈ xs, 0 ≤ x.till ∧ x.till ≤ 4398046511104) ∧ xs.length ≤ 4096 ∧ ∀ x ∈ xs, x.addrs.length ≤ 16)
abbrev TabRep := TabR 59 53 [.bool true]
abbrev RTab := TabR 68 66 []
def getP (nm : ByteArray) (now : Int) (x : Ent) : Bool := sEq x.name nm && holdsB x.name x.till now
def getT (xs : List Ent) (now : Int) (nm : ByteArray) : List Ad × Int × Int :=
  if momB now then match xs.find? (getP nm now) with | some x => (x.addrs, x.till - now, 0) | none => ([], 0, 5) else ([], 0, 2)
section
variable {σ : World} {Hs : List Hp} {H M : Hp}
theorem E_get1 : ∀ (args : Array Value) (w : World), (callFunc 34 args).run Try.prog w = .ok (.enter 34 args) w :=
  enters_of (fn := Try.f34) Try.func34 (by kernel_rfl) (by kernel_rfl)
def GetPost (σ : World) (Hs : List Hp) (M : Hp) (r : List Ad × Int × Int) (e : Ending) (w' : World) : Prop :=
  ∃ v N, e = .returned (.tuple #[v, .int .i64 r.2.1, .int .i64 r.2.2]) ∧ Sat σ w' (N :: M :: Hs) ∧ kAd.IsSl N v r.1
/-- What is got is the caller's own. -/
def GetOwn (σ : World) (Hs : List Hp) (M : Hp) (r : List Ad × Int × Int) (e : Ending) (w' : World) : Prop :=
  ∃ v N cells, e = .returned (.tuple #[v, .int .i64 r.2.1, .int .i64 r.2.2]) ∧ Sat σ w' (N :: M :: Hs) ∧ Own N 39 4 v r.1.length cells ∧ kAd.reps N r.1 cells
theorem get_own (b : Nat) (xs : List Ent) (now : Int) (nm : ByteArray) (w : World) (hw : Sat σ w (M :: Hs)) (hT : TabRep M b xs) :
    Calls Try.prog 12 #[.pointer (some ⟨b, 0, none⟩), .int .i64 now, .string nm] w (GetOwn σ Hs M (getT xs now nm)) := by
  obtain ⟨v, Hi, cells, hb, hown, hreps, hle, hib, hig, htill, hlen, hal⟩ := hT.out
  have hs : kEnt.IsSl M v xs := hown.isSl (Kd.reps_mono hle hreps) rfl (Hp.le_refl _)
  obtain ⟨A, c, rfl, hc1, hc2, hrow⟩ := hs.form
  have HB := Lib.hid hb; have HTILL := Lib.hid htill; have HAL := Lib.hid hal
  clear hrow hig hib hreps hown hle hb htill hT hal
  go_enter Try.func12, Try.ntmps12
  go_wp2_with fail
  have hw2 := (hw.alloc (.cells #[.int .i64 now] 3)).alloc (.cells #[.string nm] 9)
  generalize hW : World.alloc (World.alloc w _) _ = w2 at *
  have hsz : w2.heap.size = w.heap.size + 2 := by rw [← hW]; simp
  clear hW hw
  simp only [World.size_alloc] at hw2
  have HSZ := Lib.hid hsz; clear hsz
  generalize w.heap.size = n0 at *
  have cb1 : w2.cell? ⟨b, 1, none⟩ = some (.bool true) := hw2.drop.drop.m_cell HB.out rfl
  refine (is_any b true w2 cb1).mono ?_
  rintro e w3 ⟨rfl, rfl⟩
  have ct : w2.cell? ⟨n0, 0, none⟩ = some (.int .i64 now) := hw2.drop.one_cell rfl
  have cn : w2.cell? ⟨n0 + 1, 0, none⟩ = some (.string nm) := hw2.one_cell rfl
  have cb0 : w2.cell? ⟨b, 0, none⟩ = some (.slice A xs.length c) := hw2.drop.drop.m_cell HB.out rfl
  cases hm : momB now
  · have HM := Lib.hid hm
    go_wp2_with (go_at_call 25; refine (moment_any _ _).mono ?_; rintro e w3 ⟨rfl, rfl⟩)
    go_ret3
    exact ⟨.slice none 0 0, Hp.emp, [], by simp [getT, HM.out], hw2.drop.drop.emp, by simp [getT, HM.out]; exact Own.nil _ _ _, by simp [getT, HM.out]; rfl⟩
  · have HM := Lib.hid hm
    go_wp2_with (go_at_call 25; refine (moment_any _ _).mono ?_; rintro e w3 ⟨rfl, rfl⟩)
    refine (first_any (H := M) _ xs 34 _ (fun x => #[x, .pointer (some ⟨n0 + 1, 0, none⟩), .pointer (some ⟨n0, 0, none⟩)]) (fun x => by simp) (getP nm now) _ hw2 (by simp) hs E_get1 (fun i x hx u hu w' hw' => (get1_any nm x.name u x.till now (n0 + 1) n0 w' (hw'.one_cell rfl) hw'.one_lt (hw'.drop.one_cell rfl) hw'.drop.one_lt hu.oneCell).mono (fun e w3 ⟨he, hb⟩ => ⟨he, hw'.below hb⟩))).mono ?_
    rintro e w3 ⟨rfl, hw3⟩
    have HNN : Hid (True) := trivial
    clear cb1 ct cn cb0 hm hw2 HSZ w2
    have ct : w3.cell? ⟨n0, 0, none⟩ = some (.int .i64 now) := hw3.drop.one_cell rfl
    have cb0 : w3.cell? ⟨b, 0, none⟩ = some (.slice A xs.length c) := hw3.drop.drop.m_cell HB.out rfl
    rcases idx_cases (getP nm now) xs with ⟨hi, hf⟩ | ⟨k, x, hi, hx, hf, hp, _⟩
    · rw [hi]
      have HF := Lib.hid hf
      clear hi hf
      go_wp2
      go_ret3
      exact ⟨.slice none 0 0, Hp.emp, [], by simp [getT, HM.out, HF.out], hw3.drop.drop.emp, by simp [getT, HM.out, HF.out]; exact Own.nil _ _ _, by simp [getT, HM.out, HF.out]; rfl⟩
    · rw [hi]
      have hk := (List.getElem?_eq_some_iff.1 hx).1
      obtain ⟨gb, off, cs, rfl, hcs, hcell⟩ := hs.get k _ hx
      obtain ⟨u, rfl, hu⟩ := kEnt_cells hcs
      have hxt := HTILL.out x (List.mem_of_getElem? hx)
      have hxa := HAL.out x (List.mem_of_getElem? hx)
      have HF := Lib.hid hf; have HX := Lib.hid hx; have HU := Lib.hid hu
      have hcu : Hp.cell M gb (off + k * 3 + 1) = _ := hcell 1 _ rfl
      have hct : Hp.cell M gb (off + k * 3 + 2) = _ := hcell 2 _ rfl
      have HCU := Lib.hid hcu; have HCT := Lib.hid hct
      clear hi hf hx hcell hcs hu hcu hct hp
      have hnow : 0 ≤ now ∧ now ≤ 1099511627776 := by have := HM.out; simpa [momB] using this
      have m1 : IntKind.i64.wrap (x.till - now) = x.till - now := IntWalk.i64_in _ (by omega)
      have HS : Hid (∀ w', Sat σ w' (Hp.one (n0 + 1) (.cells #[.string nm] 9 (0, 0)) :: Hp.one n0 (.cells #[.int .i64 now] 3 (0, 0)) :: M :: Hs) → (w'.cell? ⟨b, 0, none⟩ = some (.slice (some ⟨gb, off, none⟩) xs.length c) ∧ w'.cell? ⟨gb, off + k * 3 + 1, none⟩ = some u ∧ w'.cell? ⟨gb, off + k * 3 + 2, none⟩ = some (.int .i64 x.till) ∧ w'.cell? ⟨n0, 0, none⟩ = some (.int .i64 now) ∧ Eager (Sat σ w' (Hp.one (n0 + 1) (.cells #[.string nm] 9 (0, 0)) :: Hp.one n0 (.cells #[.int .i64 now] 3 (0, 0)) :: M :: Hs)))) := Lib.hid (fun w' h => ⟨h.drop.drop.m_cell HB.out rfl, h.drop.drop.cellAt List.mem_cons_self HCU.out, h.drop.drop.cellAt List.mem_cons_self HCT.out, h.drop.one_cell rfl, ⟨h⟩⟩)
      have HCL : Hid (∀ w', (w'.cell? ⟨b, 0, none⟩ = some (.slice (some ⟨gb, off, none⟩) xs.length c) ∧ w'.cell? ⟨gb, off + k * 3 + 1, none⟩ = some u ∧ w'.cell? ⟨gb, off + k * 3 + 2, none⟩ = some (.int .i64 x.till) ∧ w'.cell? ⟨n0, 0, none⟩ = some (.int .i64 now) ∧ Eager (Sat σ w' (Hp.one (n0 + 1) (.cells #[.string nm] 9 (0, 0)) :: Hp.one n0 (.cells #[.int .i64 now] 3 (0, 0)) :: M :: Hs))) → Calls Try.prog 33 #[u] w' (Cloned kAd 39 σ (Hp.one (n0 + 1) (.cells #[.string nm] 9 (0, 0)) :: Hp.one n0 (.cells #[.int .i64 now] 3 (0, 0)) :: M :: Hs) M x.addrs)) := Lib.hid (fun w' h => cloneA_any u x.addrs w' h.2.2.2.2.out (by simp) HU.out (by omega))
      clear ct cb0 HCU HCT
      go_wp2
      go_region_held3 (fun w' => w'.cell? ⟨b, 0, none⟩ = some (.slice (some ⟨gb, off, none⟩) xs.length c) ∧ w'.cell? ⟨gb, off + k * 3 + 1, none⟩ = some u ∧ w'.cell? ⟨gb, off + k * 3 + 2, none⟩ = some (.int .i64 x.till) ∧ w'.cell? ⟨n0, 0, none⟩ = some (.int .i64 now) ∧ Eager (Sat σ w' (Hp.one (n0 + 1) (.cells #[.string nm] 9 (0, 0)) :: Hp.one n0 (.cells #[.int .i64 now] 3 (0, 0)) :: M :: Hs)))
        (first | exact HS.out _ (Sat.drop (by assumption)) | exact HS.out _ (Sat.drew (by assumption)))
        (first | (go_at_call 33; refine (HCL.out _ (by assumption)).mono ?_; rintro e w4 ⟨A1, c1, N, cl, rfl, hw4, ho, hr⟩))
      go_wp2
      go_ret3
      exact ⟨.slice A1 x.addrs.length c1, N, cl, by simp [getT, HM.out, HF.out], hw4.drop2, by simp [getT, HM.out, HF.out]; exact ho, by simp [getT, HM.out, HF.out]; exact kAd_reps hr⟩
theorem get_any (b : Nat) (xs : List Ent) (now : Int) (nm : ByteArray) (w : World) (hw : Sat σ w (M :: Hs)) (hT : TabRep M b xs) :
    Calls Try.prog 12 #[.pointer (some ⟨b, 0, none⟩), .int .i64 now, .string nm] w (GetPost σ Hs M (getT xs now nm)) :=
  (get_own b xs now nm w hw hT).mono fun e w' ⟨v, N, cl, he, h, ho, hr⟩ => ⟨v, N, he, h, ho.isSl (d := kAd) hr rfl (Hp.le_refl _)⟩
end
end Go.Proofs.Ythofnhmehpdnbaa
