/- Plain: a reader's place is bounded by its body. -/
import Derived.Test.YtgpmkiamfbbfmaaCkD
set_option linter.unusedVariables false
set_option linter.unusedSimpArgs false
namespace Go.Proofs.Ytgpmkiamfbbfmaa
structure PB (s : CS) : Prop where
  p0 : s.st = 0 → s.pos ≤ 12 * s.body
  p1 : s.st = 1 → s.pos ≤ 12 * s.body + s.many
  p2 : s.st = 2 → s.pos ≤ 12 * s.body + 8
  p3 : s.st = 3 → s.size ≠ 0 ∧ s.left ≤ s.size ∧ (s.left = s.size → s.pos ≤ 12 * s.body + 9) ∧ (s.left < s.size → s.pos + 2 ≤ 12 * s.body)
  p4 : s.st = 4 → (s.size = 0 → s.pos ≤ 12 * s.body + 9) ∧ (s.size ≠ 0 → s.pos + 2 ≤ 12 * s.body)
  p5 : s.st = 5 → (s.size = 0 → s.pos ≤ 12 * s.body + 10) ∧ (s.size ≠ 0 → s.pos + 1 ≤ 12 * s.body)
  p6 : s.st = 6 → s.pos ≤ 12 * s.body + 11
theorem pb0 : PB cs0 := ⟨by decide, by decide, by decide, by decide, by decide, by decide, by decide⟩
theorem dig_ok {s : CS} {c : Int} (he : (digC s c).err = none) : digC s c = { s with size := s.size * 16 + (valC c).toNat, many := s.many + 1, st := 1 } := by
  unfold digC at *
  split
  · rename_i h; rw [if_pos h] at he; simp [failC] at he
  · split
    · rename_i h1 h2; rw [if_neg h1, if_pos h2] at he; simp [failC] at he
    · rfl
theorem must_ok {s : CS} {c a : Int} {n : Nat} (he : (mustC s c a n).err = none) : mustC s c a n = { s with st := n } := by
  unfold mustC at *
  split
  · rfl
  · rename_i h; rw [if_neg h] at he; simp [failC] at he
theorem PB.step {s : CS} (h : PB s) (hI : CI s) (c : Int) (h3 : s.st ≠ 3) (h6 : s.st ≠ 6) (he : (stepC s c).err = none) : PB (posC (stepC s c)) := by
  have hm := hI.many
  unfold stepC at *
  by_cases h0 : s.st = 0
  · rw [if_pos h0] at he ⊢
    have e : headC (zeroC s) c = digC (zeroC s) c := by unfold headC; rw [if_pos (.inr rfl)]
    rw [e] at he ⊢
    rw [dig_ok he]
    have := h.p0 h0
    refine ⟨?_, ?_, ?_, ?_, ?_, ?_, ?_⟩ <;> (simp only [posC, zeroC]; omega)
  · rw [if_neg h0] at he ⊢
    by_cases h1 : s.st = 1
    · rw [if_pos h1] at he ⊢
      have := h.p1 h1
      unfold headC at *
      split at he
      · rename_i hd
        rw [if_pos hd, dig_ok he]
        refine ⟨?_, ?_, ?_, ?_, ?_, ?_, ?_⟩ <;> (simp only [posC]; omega)
      · rename_i hd
        rw [if_neg hd]
        split at he
        · simp [failC] at he
        · rename_i hd2
          rw [if_neg hd2]
          refine ⟨?_, ?_, ?_, ?_, ?_, ?_, ?_⟩ <;> (simp only [posC]; omega)
    · rw [if_neg h1] at he ⊢
      by_cases h2 : s.st = 2
      · rw [if_pos h2] at he ⊢
        rw [must_ok he]
        have := h.p2 h2
        by_cases hs : s.size = 0
        · rw [if_pos hs]
          refine ⟨?_, ?_, ?_, ?_, ?_, ?_, ?_⟩ <;> (simp only [posC, leftC]; omega)
        · rw [if_neg hs]
          refine ⟨?_, ?_, ?_, ?_, ?_, ?_, ?_⟩ <;> (simp only [posC, leftC]; omega)
      · rw [if_neg h2] at he ⊢
        by_cases h4 : s.st = 4
        · rw [if_pos h4] at he ⊢
          rw [must_ok he]
          obtain ⟨q1, q2⟩ := h.p4 h4
          refine ⟨?_, ?_, ?_, ?_, ?_, ?_, ?_⟩ <;> (simp only [posC]; omega)
        · rw [if_neg h4] at he ⊢
          have h5 : s.st = 5 := by have := hI.st; omega
          rw [must_ok he]
          obtain ⟨q1, q2⟩ := h.p5 h5
          by_cases hs : s.size = 0
          · rw [if_pos hs]
            refine ⟨?_, ?_, ?_, ?_, ?_, ?_, ?_⟩ <;> (simp only [posC]; omega)
          · rw [if_neg hs]
            refine ⟨?_, ?_, ?_, ?_, ?_, ?_, ?_⟩ <;> (simp only [posC]; omega)
theorem PB.data {s : CS} (h : PB s) (h3 : s.st = 3) (hl : 0 < s.left) : PB (dataC s 1) := by
  obtain ⟨q1, q2, q3, q4⟩ := h.p3 h3
  unfold dataC
  by_cases hz : s.left - 1 = 0
  · rw [if_pos hz]
    refine ⟨?_, ?_, ?_, ?_, ?_, ?_, ?_⟩ <;> (simp only; omega)
  · rw [if_neg hz]
    refine ⟨?_, ?_, ?_, ?_, ?_, ?_, ?_⟩ <;> (simp only; omega)
theorem PB.run : ∀ (cs : List Int) {s : CS}, CI s → PB s → (runC s cs).1.err = none → PB (runC s cs).1
  | [], s, _, h, _ => h
  | c :: cs, s, hI, h, hf => by
    by_cases h0 : s.err ≠ none ∨ s.st = 6
    · rw [run_stop s _ h0] at hf ⊢; exact h
    · have he : s.err = none := by simpa using (not_or.1 h0).1
      have h6 := (not_or.1 h0).2
      by_cases h3 : s.st = 3
      · rw [run_data1 s c cs he h3] at hf ⊢
        exact PB.run cs (hI.take 1 h3 (hI.data h3).1) (h.data h3 (hI.data h3).1) hf
      · by_cases hs : (stepC s c).err = none
        · rw [run_ok s c cs he h6 h3 hs] at hf ⊢
          exact PB.run cs (hI.step c).pos (h.step hI c h3 h6 hs) hf
        · rw [run_fail s c cs he h6 h3 hs] at hf
          exact absurd hf hs
theorem PB.small {s : CS} (h : PB s) (hI : CI s) : s.pos ≤ 100000000 := by
  have h1 := hI.st; have h2 := hI.body; have h3 := hI.many
  obtain e | e | e | e | e | e | e : s.st = 0 ∨ s.st = 1 ∨ s.st = 2 ∨ s.st = 3 ∨ s.st = 4 ∨ s.st = 5 ∨ s.st = 6 := by omega
  · have := h.p0 e; omega
  · have := h.p1 e; omega
  · have := h.p2 e; omega
  · obtain ⟨_, q2, q3, q4⟩ := h.p3 e
    by_cases hl : s.left = s.size
    · have := q3 hl; omega
    · have := q4 (by omega); omega
  · obtain ⟨q1, q2⟩ := h.p4 e
    by_cases hz : s.size = 0
    · have := q1 hz; omega
    · have := q2 hz; omega
  · obtain ⟨q1, q2⟩ := h.p5 e
    by_cases hz : s.size = 0
    · have := q1 hz; omega
    · have := q2 hz; omega
  · have := h.p6 e; omega
end Go.Proofs.Ytgpmkiamfbbfmaa
