/- Walk: ChunkLess. -/
import Derived.Test.YtgpmkiamfbbfmaaCkW
set_option linter.unusedVariables false
set_option linter.unusedSimpArgs false
namespace Go.Proofs.Ytgpmkiamfbbfmaa
open Go Go.RowKit
/-- How many bytes must come, at least, ahead of the next byte of data. -/
def farC (st : Nat) : Nat := if st = 0 then 3 else if st = 1 then 2 else if st = 2 then 1 else if st = 3 then 0 else if st = 5 then 4 else 5
theorem far_must (s : CS) (c a : Int) (n : Nat) (he : (mustC s c a n).err = none) : (mustC s c a n).st = n := by
  unfold mustC at *
  split
  · rfl
  · rename_i h; rw [if_neg h] at he; simp [failC] at he
theorem far_dig (s : CS) (c : Int) (he : (digC s c).err = none) : (digC s c).st = 1 := by
  unfold digC at *
  split
  · rename_i h; rw [if_pos h] at he; simp [failC] at he
  · split
    · rename_i h1 h2; rw [if_neg h1, if_pos h2] at he; simp [failC] at he
    · rfl
theorem far_head (s : CS) (c : Int) (he : (headC s c).err = none) : (headC s c).st = 1 ∨ (headC s c).st = 2 := by
  unfold headC at *
  split
  · rename_i h; rw [if_pos h] at he; exact .inl (far_dig s c he)
  · split
    · rename_i h1 h2; rw [if_neg h1, if_pos h2] at he; simp [failC] at he
    · exact .inr rfl
theorem far_step (s : CS) (c : Int) (h3 : s.st ≠ 3) (h6 : s.st ≠ 6) (hle : s.st ≤ 6) (he : (stepC s c).err = none) : farC s.st ≤ farC (stepC s c).st + 1 := by
  unfold stepC at *
  by_cases h0 : s.st = 0
  · rw [if_pos h0] at he ⊢
    have e : headC (zeroC s) c = digC (zeroC s) c := by unfold headC; rw [if_pos (.inr rfl)]
    rw [e] at he ⊢
    rw [far_dig _ _ he, h0]
    decide
  · rw [if_neg h0] at he ⊢
    by_cases h1 : s.st = 1
    · rw [if_pos h1] at he ⊢
      rcases far_head s c he with h | h <;> rw [h, h1] <;> decide
    · rw [if_neg h1] at he ⊢
      by_cases h2 : s.st = 2
      · rw [if_pos h2] at he ⊢
        rw [far_must _ _ _ _ he, h2]
        split <;> decide
      · rw [if_neg h2] at he ⊢
        by_cases h4 : s.st = 4
        · rw [if_pos h4] at he ⊢
          rw [far_must _ _ _ _ he, h4]
          decide
        · rw [if_neg h4] at he ⊢
          have h5 : s.st = 5 := by omega
          rw [far_must _ _ _ _ he, h5]
          split <;> decide
theorem run_far : ∀ (cs : List Int) (s : CS), CI s → (runC s cs).2.1 ≠ [] → (runC s cs).2.1.length + farC s.st ≤ (runC s cs).2.2
  | [], s, _, h => absurd rfl h
  | c :: cs, s, hI, h => by
    by_cases h0 : s.err ≠ none ∨ s.st = 6
    · rw [run_stop s _ h0] at h; exact absurd rfl h
    · have he : s.err = none := by simpa using (not_or.1 h0).1
      have h6 := (not_or.1 h0).2
      by_cases h3 : s.st = 3
      · rw [run_data1 s c cs he h3]
        have hf : farC s.st = 0 := by rw [h3]; rfl
        rw [hf]
        show ([c] ++ (runC (dataC s 1) cs).2.1).length + 0 ≤ 1 + (runC (dataC s 1) cs).2.2
        by_cases hn : (runC (dataC s 1) cs).2.1 = []
        · rw [hn]; simp
        · have := run_far cs (dataC s 1) (hI.take 1 h3 (hI.data h3).1) hn
          simp only [List.length_append, List.length_singleton]
          omega
      · by_cases hf : (stepC s c).err = none
        · rw [run_ok s c cs he h6 h3 hf] at h ⊢
          have hd := far_step s c h3 h6 hI.st hf
          have := run_far cs (posC (stepC s c)) (hI.step c).pos (by simpa [comb] using h)
          have e : farC (posC (stepC s c)).st = farC (stepC s c).st := rfl
          rw [e] at this
          show ([] ++ (runC (posC (stepC s c)) cs).2.1).length + farC s.st ≤ 1 + (runC (posC (stepC s c)) cs).2.2
          rw [List.nil_append]
          omega
        · rw [run_fail s c cs he h6 h3 hf] at h; exact absurd rfl h
section
variable {σ w w' : World} {Hs : List Hp} {H H1 H2 M N Y : Hp}
set_option maxHeartbeats 8000000
set_option maxRecDepth 10000 in
theorem less_any (v : Value) (bs : List Int) (w : World) (hw : Sat σ w Hs) (hH : H ∈ Hs) (hs : kB.IsSl H v bs) (hby : ∀ x ∈ bs, 0 ≤ x ∧ x ≤ 255) :
    Calls Try.prog 5 #[v] w fun e w' => e = .returned (.bool true) ∧ Sat σ w' Hs := by
  obtain ⟨A, c, rfl, hc1, hc2, _⟩ := hs.form
  have hle := run_le bs cs0
  have hfar := run_far bs cs0 ci0
  have hADD := Lib.hid (fun g M w' Hs' (h : Sat σ w' (M :: Hs')) (hm : H ∈ Hs') (hr : Rdr M g cs0) => add_any (.slice A bs.length c) bs w' h hm hs hr ci0 hby (by show 0 + bs.length ≤ _; omega))
  generalize runC cs0 bs = r at *
  obtain ⟨s1, out, k⟩ := r
  clear hs hby
  go_enter Try.func5, Try.ntmps5
  go_wp2_with fail
  refine (works_any w hw).mono ?_
  rintro e w1 ⟨rfl, hw1⟩
  go_wp2_with fail
  refine (new_c w1 hw1).mono ?_
  rintro e w2 ⟨g1, M1, rfl, hw2, h1⟩
  clear hw hw1
  have hw3 := (hw2.alloc (.cells #[.int .i64 0, .int .i64 0, .int .i64 0, .int .i64 0, .int .i64 0, .int .i64 0, .pointer none, .bool false] 48)).swap
  go_wp2_with fail
  refine (hADD.out g1 M1 _ _ hw3 (by simp [hH]) h1).mono ?_
  rintro e w4 ⟨v1, ve1, M2, N2, rfl, hw4, hr2, ho2, hev2⟩
  obtain ⟨A1, c1, rfl, _⟩ := ho2.slice
  generalize w2.heap.size = z at *
  clear hADD h1 hw2 hw3 hev2 hr2 ho2
  have HZ : Hid (∀ w' Hs', Sat σ w' Hs' → Hp.one z (.cells #[.int .i64 0, .int .i64 0, .int .i64 0, .int .i64 0, .int .i64 0, .int .i64 0, .pointer none, .bool false] 48 (0, 0)) ∈ Hs' → ZR (.pointer (some ⟨z, 0, none⟩)) w') := Lib.hid (fun w' Hs' h hm => .inr ⟨z, rfl, h.cellAt hm ((Hp.one_cell _ _ _ _).trans rfl), h.cellAt hm ((Hp.one_cell _ _ _ _).trans rfl), h.cellAt hm ((Hp.one_cell _ _ _ _).trans rfl), h.cellAt hm ((Hp.one_cell _ _ _ _).trans rfl)⟩)
  go_wp2_with fail
  refine (add_none _ _ w4 hw4 (HZ.out _ _ hw4 (by simp))).mono ?_
  rintro e w5 ⟨ve5, N5, rfl, hw5, hev5⟩
  have HE5 := Lib.hid hev5
  clear hev5 hw4
  go_wp2_with fail
  refine (add_none _ _ w5 hw5 (.inl rfl)).mono ?_
  rintro e w6 ⟨ve6, N6, rfl, hw6, hev6⟩
  have HE6 := Lib.hid hev6
  clear hev6 hw5
  go_wp2_with fail
  refine (read_none _ w6 hw6 (HZ.out _ _ hw6 (by simp))).mono ?_
  rintro e w7 ⟨rfl, hw7⟩
  clear hw6
  go_wp2_with fail
  refine (read_none _ w7 hw7 (.inl rfl)).mono ?_
  rintro e w8 ⟨rfl, hw8⟩
  clear hw7
  have hki : (k : Int) ≤ bs.length := by have : k ≤ bs.length := hle; omega
  have hok : (out.length : Int) ≤ k := by
    by_cases h : out = []
    · subst h; show (0 : Int) ≤ k; omega
    · have : out.length + 3 ≤ k := hfar h; omega
  have HF := Lib.hid (fun w' Hs' (h : Sat σ w' Hs') => fail_any chunkB 0 1 w' h)
  have HI5 := Lib.hid (fun w' Hs' (h : Sat σ w' Hs') (hm : N5 ∈ Hs') => isE_any ve5 _ w' h hm HE5.out)
  have HI6 := Lib.hid (fun w' Hs' (h : Sat σ w' Hs') (hm : N6 ∈ Hs') => isE_any ve6 _ w' h hm HE6.out)
  have HZN : Hid (∀ w : World, ZR (.pointer none) w) := Lib.hid (fun w => .inl rfl)
  by_cases h0 : out = []
  · subst h0
    clear hle hfar
    go_wp2_with (first | (go_at_call 17; first | (refine (HF.out _ _ hwb).mono ?_; rintro e wc ⟨rfl, hwc⟩) | (refine (HF.out _ _ hw8).mono ?_; rintro e wa ⟨rfl, hwa⟩)) | (go_at_call 13; first | (refine (HI6.out _ _ hwc (by simp)).mono ?_; rintro e wd ⟨rfl, hwd⟩) | (refine (HI5.out _ _ hwa (by simp)).mono ?_; rintro e wb ⟨rfl, hwb⟩)) | (go_at_call 12; first | (with_reducible refine (done_none _ _ (HZ.out _ _ hwd (by simp))).mono ?_; rintro e we ⟨rfl, rfl⟩) | (with_reducible refine (done_none _ _ (HZN.out _)).mono ?_; rintro e we ⟨rfl, rfl⟩)) | (go_at_call 15; first | (with_reducible refine (clone_none _ _ (HZ.out _ _ hwd (by simp))).mono ?_; rintro e we ⟨rfl, rfl⟩) | (with_reducible refine (clone_none _ _ (HZN.out _)).mono ?_; rintro e we ⟨rfl, rfl⟩)))
    go_ret
    exact ⟨rfl, hwd.drop.drop.drop.drop.drop⟩
  · have h3 : ((out.length : Nat) : Int) + 3 ≤ k := by have : out.length + 3 ≤ k := hfar h0; omega
    have hz0 : ((out.length : Int) == 0) = false := by simp; omega
    clear hle hfar
    go_wp2_with (first | (go_at_call 17; first | (refine (HF.out _ _ hwb).mono ?_; rintro e wc ⟨rfl, hwc⟩) | (refine (HF.out _ _ hw8).mono ?_; rintro e wa ⟨rfl, hwa⟩)) | (go_at_call 13; first | (refine (HI6.out _ _ hwc (by simp)).mono ?_; rintro e wd ⟨rfl, hwd⟩) | (refine (HI5.out _ _ hwa (by simp)).mono ?_; rintro e wb ⟨rfl, hwb⟩)) | (go_at_call 12; first | (with_reducible refine (done_none _ _ (HZ.out _ _ hwd (by simp))).mono ?_; rintro e we ⟨rfl, rfl⟩) | (with_reducible refine (done_none _ _ (HZN.out _)).mono ?_; rintro e we ⟨rfl, rfl⟩)) | (go_at_call 15; first | (with_reducible refine (clone_none _ _ (HZ.out _ _ hwd (by simp))).mono ?_; rintro e we ⟨rfl, rfl⟩) | (with_reducible refine (clone_none _ _ (HZN.out _)).mono ?_; rintro e we ⟨rfl, rfl⟩)))
    go_ret
    exact ⟨rfl, hwd.drop.drop.drop.drop.drop⟩
end
end Go.Proofs.Ytgpmkiamfbbfmaa
