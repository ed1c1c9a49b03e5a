/- Walk: PutGreeting. -/
import Derived.Test.YtcndkpmeakaapaaDoorFvP
set_option linter.unusedVariables false
set_option linter.unusedSimpArgs false
namespace Go.Proofs.YtcndkpmeakaapaaDoor
open Go Go.RowKit
def putGV (ms : List Int) : Bool := decide (1 ≤ ms.length ∧ ms.length ≤ 255) && ms.all smallB
def putGO (ms : List Int) : List Int × Int := if putGV ms = true then ([5, (ms.length : Int)] ++ ms, 0) else ([], 2)
theorem gr_head {bs : List Int} (h0 : bs[0]? = some 5) {n : Nat} (h1 : bs[1]? = some (n : Int)) (hn : 1 ≤ n) (hn2 : n ≤ 255) (hl : 2 + n ≤ bs.length) : gr2 bs = (strOfNums ((bs.drop 2).take n), ⟨2 + n, none⟩) := by
  unfold gr2
  rw [versL_ok h0, textL_ok h1 hn (by omega) (by omega)]
theorem gr_zero {bs : List Int} (h0 : bs[0]? = some 5) (h1 : bs[1]? = some 0) : (gr2 bs).2.err ≠ none := by
  unfold gr2
  rw [versL_ok h0]
  have e : text1 bs 255 ⟨1, none⟩ = (0, failL ⟨2, none⟩ 1 72) := by
    unfold text1
    rw [oneL_ok h1, if_pos ⟨rfl, .inl (by decide)⟩]; rfl
  unfold textL
  rw [e]
  intro h
  have h2 : (failL ⟨2, none⟩ 1 72).err ≠ none := by
    intro h3
    cases h3
  rw [if_neg h2] at h
  exact h2 h
theorem putG_out {ms : List Int} (hs : ∀ x ∈ ms, smallB x = true) : 
    ((gr2 ([5, ((ms.length % 256 : Nat) : Int)] ++ ms)).2.err ≠ none ∧ putGO ms = ([], 2)) ∨
    ((gr2 ([5, ((ms.length % 256 : Nat) : Int)] ++ ms)).2.err = none ∧ (grO ([5, ((ms.length % 256 : Nat) : Int)] ++ ms)).2 ≠ 2 + (ms.length : Int) ∧ putGO ms = ([], 2)) ∨
    ((gr2 ([5, ((ms.length % 256 : Nat) : Int)] ++ ms)).2.err = none ∧ (grO ([5, ((ms.length % 256 : Nat) : Int)] ++ ms)).2 = 2 + (ms.length : Int) ∧ putGO ms = ([5, ((ms.length % 256 : Nat) : Int)] ++ ms, 0)) := by
  have hall : ms.all smallB = true := List.all_eq_true.2 hs
  by_cases h0 : ms.length % 256 = 0
  · refine .inl ⟨?_, if_neg ?_⟩
    · rw [h0]; exact gr_zero rfl rfl
    · unfold putGV
      rw [decide_eq_false (by omega)]; simp
  · have hg := gr_head (bs := [5, ((ms.length % 256 : Nat) : Int)] ++ ms) rfl (n := ms.length % 256) rfl (by omega) (by omega) (by simp only [List.length_append, List.length_cons, List.length_nil]; omega)
    have hgo : (grO ([5, ((ms.length % 256 : Nat) : Int)] ++ ms)).2 = ((2 + ms.length % 256 : Nat) : Int) := by
      unfold grO
      rw [hg]; rfl
    by_cases h1 : ms.length ≤ 255
    · have hm : ms.length % 256 = ms.length := by omega
      refine .inr (.inr ⟨by rw [hg], by rw [hgo, hm]; omega, ?_⟩)
      rw [hm]
      refine if_pos ?_
      unfold putGV
      rw [hall, decide_eq_true (by omega)]; rfl
    · refine .inr (.inl ⟨by rw [hg], by rw [hgo]; omega, if_neg ?_⟩)
      unfold putGV
      rw [decide_eq_false (by omega)]; simp
section
variable {σ w w' : World} {Hs : List Hp} {H H1 H2 M N Y R E X HB : Hp}
set_option maxHeartbeats 4000000
set_option maxRecDepth 10000 in
theorem putGreeting_any (v0 : Value) (ms : List Int) (hl : ms.length ≤ 10485760) (w : World) (hw : Sat σ w Hs) (hB : H1 ∈ Hs) (hb : (Kd.int .i64).IsSl H1 v0 ms) :
    Calls Tryd.prog 29 #[v0] w (PutP σ Hs (putGO ms)) := by
  obtain ⟨A, c, rfl, hc1, hc2, _⟩ := id hb.form
  have HB := Lib.hid hb
  have HBAD : Hid (∀ x ∈ ms, smallB x = false → putGO ms = ([], 2)) := Lib.hid (fun x hx h => if_neg (fun h2 => by
    unfold putGV at h2
    have := List.all_eq_true.1 ((Bool.and_eq_true _ _).mp h2).2 x hx
    rw [h] at this; cases this))
  have HOUT := Lib.hid (@putG_out ms)
  have HL := Lib.hid hl
  have m1 : IntKind.u8.wrap (ms.length : Int) = ((ms.length % 256 : Nat) : Int) := rfl
  obtain ⟨q, hq⟩ : ∃ q, ms.length % 256 = q := ⟨_, rfl⟩
  have hq2 : q < 256 := by omega
  rw [hq] at m1 HOUT
  have HQ := Lib.hid hq2
  have HBY : Hid (∀ k, (∀ x ∈ ms.take k, smallB x = true) → ∀ x ∈ [5, (q : Int)] ++ ms.take k, 0 ≤ x ∧ x < 256) := Lib.hid (fun k h x hx => by
    rcases List.mem_append.1 hx with hx | hx
    · simp at hx; omega
    · have := smallB_t (h x hx); omega)
  have hw2 := hw.alloc (.cells (ints .u8 [5, (q : Int)]).toArray 5)
  have ho2 : Own (Hp.one w.heap.size (.cells (ints .u8 [5, (q : Int)]).toArray 5 (0, 0))) 5 1 (.slice (some ⟨w.heap.size, 0, none⟩) 2 2) 2 (ints .u8 [5, (q : Int)]) := own_lit w.heap.size _ _ 1 2 rfl (by decide)
  have HO2 := Lib.hid ho2
  clear hb hl hq hq2 ho2
  generalize putGO ms = po at *
  go_enter Tryd.func29, Tryd.ntmps29
  go_wp2
  go_loopw [18, 4, 6, 7, 8] (fun i o _ _ _ wr => ∃ (k : Nat) (A1 : Option Addr) (c1 : Nat) (N : Hp), k ≤ ms.length ∧ i = .int .i64 k ∧ o = .slice A1 (2 + k) c1 ∧ Sat σ wr (N :: Hs) ∧ Own N 5 1 (.slice A1 (2 + k) c1) (2 + k) (ints .u8 ([5, (q : Int)] ++ ms.take k)) ∧ Eager (∀ x ∈ ms.take k, smallB x = true)) (fun i _ _ _ _ _ => ms.length - (intOf i).toNat)
  case atStart => exact ⟨0, some ⟨w.heap.size, 0, none⟩, 2, _, by omega, rfl, rfl, hw2, HO2.out, ⟨fun x hx => by simp at hx⟩⟩
  case round =>
    obtain ⟨k, A1, c1, N, hk, rfl, rfl, hwr, ho, hsm⟩ := hrel
    have HSM := Lib.hid hsm.out
    have HO := Lib.hid ho
    clear hw hw2 hsm ho
    by_cases hlt : k < ms.length
    · obtain ⟨x, hx⟩ : ∃ x, ms[k]? = some x := ⟨_, List.getElem?_eq_getElem hlt⟩
      obtain ⟨b, off, cs, rfl, hcs, hcell⟩ := HB.out.get k x hx
      obtain rfl : cs = [.int .i64 x] := hcs
      have hki : (k : Int) < ms.length := by omega
      have hk0 : (0 : Int) ≤ k := by omega
      have hc0 := hwr.cellAt (H := H1) (List.mem_cons_of_mem _ hB) (hcell 0 _ rfl)
      simp only [show (Kd.int .i64).sz = 1 from rfl, Nat.mul_one, Nat.add_zero] at hc0
      have HTK : Hid (ms.take (k + 1) = ms.take k ++ [x]) := Lib.hid (by rw [List.take_succ_eq_append_getElem hlt]; congr 2; have := List.getElem?_eq_getElem hlt; rw [hx] at this; injection this with this; exact this.symm)
      have HMEM := Lib.hid (List.mem_of_getElem? hx)
      clear hx hcell
      go_wp2_with fail
      refine (byteOf_any x _).mono ?_
      rintro e w2 ⟨⟨y, rfl, hy⟩, rfl⟩
      cases hsx : smallB x with
      | false =>
        have hr := Lib.hid (HBAD.out x HMEM.out hsx)
        clear hy hsx
        go_wp2
        go_ret2
        rw [hr.out]
        exact PutP.mk _ Hp.emp rfl hwr.drop.emp Kd.IsSl.nil
      | true =>
        obtain rfl := hy hsx
        have HSX := Lib.hid hsx
        clear hy hsx
        have HWR := Lib.hid (hwr.alloc' (.cells (ints .u8 [y]).toArray 5))
        clear hwr
        go_wp2_with (at_builtin; go_must (refine wpList_app HWR.out rfl (.tmp 29) (.tmp 31) 22 22 5 (.int .u8 0) 1 1 rfl Tryd.underlying22 (by kernel_rfl) rfl (by decide) _ _ (2 + k) 1 (ints .u8 ([5, (q : Int)] ++ ms.take k)) [.int .u8 y] rfl rfl HO.out (src_new Tryd.underlying22 _ [.int .u8 y] _ 1 1 1 (by simp) rfl rfl) (by have := HL.out; omega) ?_); intro A2 c2 w2 N2 hw2 ho2 _ _)
        go_roundw
        case measure => simp [intOf]; omega
        case rel =>
          refine ⟨k + 1, A2, c2, N2, by omega, by go_num, rfl, hw2, ?_, ⟨fun z hz => ?_⟩⟩
          · rw [HTK.out, ← List.append_assoc, ints_append]; exact ho2
          · rw [HTK.out] at hz
            rcases List.mem_append.1 hz with hz | hz
            · exact HSM.out z hz
            · simp at hz; subst hz; exact HSX.out
    · obtain rfl : k = ms.length := by omega
      have HSL := Lib.hid (HO.out.isSl (d := kB) (reps_ints _) (by rw [List.length_append, List.length_take]; simp) (Hp.le_refl _))
      have hby := HBY.out _ HSM.out
      rw [List.take_of_length_le (Nat.le_refl _)] at HSL HSM hby
      have HG := Lib.hid (greeting_any _ _ hby wr hwr List.mem_cons_self HSL.out)
      have hor := HOUT.out HSM.out
      unfold GrP at HG
      clear hby
      have HOW := Lib.hid (show Own N 5 1 (.slice A1 (2 + ms.length) c1) (2 + ms.length) (ints .u8 ([5, (q : Int)] ++ ms)) by have := HO.out; rwa [List.take_of_length_le (Nat.le_refl _)] at this)
      clear HO
      generalize [5, (q : Int)] ++ ms = out at *
      generalize gr2 out = gs at *
      generalize grO out = go at *
      obtain ⟨gn, ge⟩ := gs
      obtain ⟨g1, g2⟩ := go
      go_wp2_with fail
      refine HG.out.mono ?_
      rintro e w3 ⟨v, u, N3, E3, rfl, hw3, h3, hn3⟩
      obtain ⟨A3, c3, rfl, _⟩ := hn3.form
      have h3' : EV E3 u ge.err := h3
      clear HG hn3 hwr h3
      rcases hor with ⟨h1, h2⟩ | ⟨h1, h2, h4⟩ | ⟨h1, h2, h4⟩
      · have huf : ∃ t x, u = .iface t x := by
          cases er : ge.err with
          | none => exact absurd er h1
          | some x => rw [er] at h3'; exact ev_form h3'
        obtain ⟨tv, uv, rfl⟩ := huf
        have hr := Lib.hid h2
        clear h1 h2 h3'
        go_wp2
        go_ret2
        rw [hr.out]
        exact PutP.mk _ Hp.emp rfl hw3.drop.drop.drop.emp Kd.IsSl.nil
      · have h1' : ge.err = none := h1
        rw [h1'] at h3'
        obtain rfl : u = .nilIface := h3'
        have hr := Lib.hid h4
        have h2' : g2 ≠ 2 + (ms.length : Int) := h2
        have h5 : (g2 != 2 + (ms.length : Int)) = true := by rw [bne_iff_ne]; omega
        have h6 : (g2 != ((2 + ms.length : Nat) : Int)) = true := by rw [bne_iff_ne]; omega
        clear h1 h1' h2 h2' h4 HSL
        go_wp2
        go_ret2
        rw [hr.out]
        exact PutP.mk _ Hp.emp rfl hw3.drop.drop.drop.emp Kd.IsSl.nil
      · have h1' : ge.err = none := h1
        rw [h1'] at h3'
        obtain rfl : u = .nilIface := h3'
        have hr := Lib.hid h4
        have h2' : g2 = 2 + (ms.length : Int) := h2
        have h5 : (g2 != 2 + (ms.length : Int)) = false := by rw [bne_eq_false_iff_eq]; omega
        have h6 : (g2 != ((2 + ms.length : Nat) : Int)) = false := by rw [bne_eq_false_iff_eq]; omega
        clear h1 h1' h2 h2' h4
        go_wp2_with (go_at_call 54; refine (isShort_nil _).mono ?_; rintro e w5 ⟨rfl, rfl⟩)
        go_ret2
        rw [hr.out]
        exact PutP.mk _ N rfl (hw3.drop.drop) HSL.out
end
end Go.Proofs.YtcndkpmeakaapaaDoor
