/- Walk: the reader's text. -/
import Derived.Test.YtcndkpmeakaapaaDoorFvC
set_option linter.unusedVariables false
set_option linter.unusedSimpArgs false
namespace Go.Proofs.YtcndkpmeakaapaaDoor
open Go Go.RowKit
def text1 (bs : List Int) (most : Int) (s : St) : Int × St := ((oneL bs s).1, if (oneL bs s).2.err = none ∧ ((oneL bs s).1 < 1 ∨ most < (oneL bs s).1) then failL (oneL bs s).2 s.at_ 72 else (oneL bs s).2)
def textL (bs : List Int) (most : Int) (s : St) : ByteArray × St :=
  if (text1 bs most s).2.err = none then (strOfNums (takeL bs (text1 bs most s).1.toNat (text1 bs most s).2).1, (takeL bs (text1 bs most s).1.toNat (text1 bs most s).2).2) else (⟨#[]⟩, (text1 bs most s).2)
theorem oneL_byte {bs : List Int} (hb : ∀ x ∈ bs, 0 ≤ x ∧ x < 256) (s : St) : 0 ≤ (oneL bs s).1 ∧ (oneL bs s).1 < 256 := by
  have h1 := takeL_len bs 1 s
  have h2 := takeL_byte hb 1 s
  unfold oneL
  cases e : (takeL bs 1 s).1 with
  | nil => rw [e] at h1; cases h1
  | cons x l => exact h2 x (by rw [e]; simp)
theorem oneL_at (bs : List Int) (s : St) (h : s.at_ ≤ bs.length) : (oneL bs s).2.at_ ≤ bs.length := takeL_at bs 1 s h
section
variable {σ w w' : World} {Hs : List Hp} {H H1 H2 M N Y R E X HB : Hp}
set_option maxHeartbeats 4000000
theorem text_any {r : Nat} {bv : Value} {bs : List Int} (most : Int) (hbs : ∀ x ∈ bs, 0 ≤ x ∧ x < 256) (s : St) (hs : s.at_ ≤ bs.length) (w : World) (hw : Sat σ w (R :: E :: Hs)) (hB : HB ∈ Hs) (hb : kB.IsSl HB bv bs) (h : FvR R E r bv (s.at_ : Int) s.err) :
    Calls Tryd.prog 46 #[.pointer (some ⟨r, 0, none⟩), .int .i64 most] w (RdP σ Hs r bv (textL bs most s).2 (.string (textL bs most s).1)) := by
  have HO := Lib.hid (one_any hbs s hs w hw hB hb h)
  have HT1 : Hid (text1 bs most s = ((oneL bs s).1, if (oneL bs s).2.err = none ∧ ((oneL bs s).1 < 1 ∨ most < (oneL bs s).1) then failL (oneL bs s).2 s.at_ 72 else (oneL bs s).2)) := Lib.hid rfl
  have HTL : Hid (textL bs most s = if (text1 bs most s).2.err = none then (strOfNums (takeL bs (text1 bs most s).1.toNat (text1 bs most s).2).1, (takeL bs (text1 bs most s).1.toNat (text1 bs most s).2).2) else (⟨#[]⟩, (text1 bs most s).2)) := Lib.hid rfl
  have hby := oneL_byte hbs s
  have hat := oneL_at bs s hs
  obtain ⟨ev0, d0, d1, d2, _, _⟩ := fvr_cells hw h
  have HBB := Lib.hid hb
  unfold RdP at *
  generalize textL bs most s = o at *
  obtain ⟨x, s2, hox⟩ : ∃ x s2, oneL bs s = (x, s2) := ⟨_, _, rfl⟩
  rw [hox] at HO HT1 hby hat
  generalize text1 bs most s = t at *
  clear hw h hb hox d0 d2
  go_enter Tryd.func46, Tryd.ntmps46
  go_wp2_with fail
  refine HO.out.mono ?_
  rintro e w2 ⟨R', E', rfl, hw2, h2⟩
  obtain ⟨ev, c0, c1, c2, hn, hi⟩ := fvr_cells hw2 h2
  have HF := Lib.hid (failS_any s2 (s.at_ : Int) 72 w2 hw2 h2)
  have H2 := Lib.hid h2
  have hxl : 0 ≤ x := hby.1
  have hxu : x < 256 := hby.2
  clear d1 hby HO
  by_cases he : s2.err = none
  · obtain rfl := hn he
    by_cases hx1 : x < 1
    · have hb1 : decide (x < 1) = true := decide_eq_true hx1
      have HR : Hid (o = (⟨#[]⟩, failL s2 s.at_ 72)) := Lib.hid (by
        have ht : t = (x, failL s2 s.at_ 72) := by
          rw [HT1.out]
          show (x, if s2.err = none ∧ (x < 1 ∨ most < x) then failL s2 s.at_ 72 else s2) = _
          rw [if_pos ⟨he, .inl hx1⟩]
        rw [HTL.out, ht]
        refine if_neg ?_
        show ¬ (keep s2.err (some ([(fiveB, (s.at_ : Int))], 72))) = none
        rw [he]; exact fun h => by cases h)
      have hek : (failL s2 s.at_ 72).err ≠ none := by
        show ¬ (keep s2.err (some ([(fiveB, (s.at_ : Int))], 72))) = none
        rw [he]; exact fun h => by cases h
      have HEK := Lib.hid hek
      clear hn hi h2 HTL HT1 hek
      go_wp2_with (go_at_call 40; refine HF.out.mono ?_; rintro e w3 ⟨v3, R3, E3, rfl, hw3, h3⟩; obtain ⟨ev3, _, _, c3, _, hi3⟩ := fvr_cells hw3 h3; obtain ⟨t3, u3, rfl⟩ := hi3 HEK.out; have H3 := Lib.hid h3; clear h3 hi3)
      go_ret
      exact ⟨R3, E3, by rw [HR.out]; rfl, hw3, by rw [HR.out]; exact H3.out⟩
    by_cases hx2 : most < x
    · have hb1 : decide (x < 1) = false := decide_eq_false hx1
      have hb2 : decide (most < x) = true := decide_eq_true hx2
      have HR : Hid (o = (⟨#[]⟩, failL s2 s.at_ 72)) := Lib.hid (by
        have ht : t = (x, failL s2 s.at_ 72) := by
          rw [HT1.out]
          show (x, if s2.err = none ∧ (x < 1 ∨ most < x) then failL s2 s.at_ 72 else s2) = _
          rw [if_pos ⟨he, .inr hx2⟩]
        rw [HTL.out, ht]
        refine if_neg ?_
        show ¬ (keep s2.err (some ([(fiveB, (s.at_ : Int))], 72))) = none
        rw [he]; exact fun h => by cases h)
      have hek : (failL s2 s.at_ 72).err ≠ none := by
        show ¬ (keep s2.err (some ([(fiveB, (s.at_ : Int))], 72))) = none
        rw [he]; exact fun h => by cases h
      have HEK := Lib.hid hek
      clear hn hi h2 HTL HT1 hek
      go_wp2_with (go_at_call 40; refine HF.out.mono ?_; rintro e w3 ⟨v3, R3, E3, rfl, hw3, h3⟩; obtain ⟨ev3, _, _, c3, _, hi3⟩ := fvr_cells hw3 h3; obtain ⟨t3, u3, rfl⟩ := hi3 HEK.out; have H3 := Lib.hid h3; clear h3 hi3)
      go_ret
      exact ⟨R3, E3, by rw [HR.out]; rfl, hw3, by rw [HR.out]; exact H3.out⟩
    have hb1 : decide (x < 1) = false := decide_eq_false hx1
    have hb2 : decide (most < x) = false := decide_eq_false hx2
    obtain ⟨n, rfl⟩ : ∃ n : Nat, x = n := ⟨x.toNat, by omega⟩
    have HR : Hid (o = (strOfNums (takeL bs n s2).1, (takeL bs n s2).2)) := Lib.hid (by
      have ht : t = ((n : Int), s2) := by
        rw [HT1.out]
        show ((n : Int), if s2.err = none ∧ ((n : Int) < 1 ∨ most < (n : Int)) then failL s2 s.at_ 72 else s2) = _
        rw [if_neg (fun h => h.2.elim hx1 hx2)]
      rw [HTL.out, ht]
      exact if_pos he)
    have HTK := Lib.hid (fun w' (h' : Sat σ w' (R' :: E' :: Hs)) => take_any n (by omega) (by omega) s2 hat w' h' hB HBB.out h2)
    unfold TakeP at HTK
    clear hn hi h2 HTL HT1 hx1 hx2
    go_wp2_with (go_at_call 42; refine (HTK.out _ hw2).mono ?_; rintro e w3 ⟨v, R3, E3, Z, K, rfl, hw3, h3, hK, hsl⟩; have kc := (bytes_rd hsl hw3 (takeK hK hB)).conv (P := Tryd.prog) (src := 22) (dst := 9) Tryd.underlying22 Tryd.underlying5 Tryd.underlying9; have H3 := Lib.hid h3; clear h3 hsl)
    go_ret
    exact ⟨R3, E3, by rw [HR.out]; rfl, hw3.sub (List.Sublist.cons_cons _ (List.Sublist.cons_cons _ (List.sublist_cons_self _ _))), by rw [HR.out]; exact H3.out⟩
  · obtain ⟨t0, u0, rfl⟩ := hi he
    have HR : Hid (o = (⟨#[]⟩, s2)) := Lib.hid (by
      have ht : t = (x, s2) := by
        rw [HT1.out]
        show (x, if s2.err = none ∧ (x < 1 ∨ most < x) then failL s2 s.at_ 72 else s2) = _
        rw [if_neg (fun h => he h.1)]
      rw [HTL.out, ht]
      exact if_neg he)
    clear hn hi h2 HTL HT1 he
    go_wp2
    go_ret
    exact ⟨R', E', by rw [HR.out]; rfl, hw2, by rw [HR.out]; exact H2.out⟩
end
end Go.Proofs.YtcndkpmeakaapaaDoor
