/- What Put writes, and that it is read back. -/
import Derived.Test.YtgpmkiamfbbfmaaDoorCkJ
set_option linter.unusedVariables false
set_option linter.unusedSimpArgs false
namespace Go.Proofs.YtgpmkiamfbbfmaaDoor
open Go Go.RowKit
def hexD (d : Nat) : Int := if d < 10 then 48 + d else 87 + d
def hexL (n : Nat) : List Int := if h : n < 16 then [hexD n] else hexL (n / 16) ++ [hexD (n % 16)]
termination_by n
decreasing_by omega
theorem hexL_small {n : Nat} (h : n < 16) : hexL n = [hexD n] := by unfold hexL; rw [dif_pos h]
theorem hexL_step {n : Nat} (h : ¬ n < 16) : hexL n = hexL (n / 16) ++ [hexD (n % 16)] := by conv => lhs; unfold hexL; rw [dif_neg h]
theorem valC_hexD {d : Nat} (h : d < 16) : valC (hexD d) = d := by
  have h16 : ∀ m : Fin 16, valC (hexD m.val) = m.val := by decide
  exact h16 ⟨d, h⟩
theorem hexD_byte {d : Nat} (h : d < 16) : 48 ≤ hexD d ∧ hexD d ≤ 102 := by unfold hexD; split <;> omega
theorem hexL_byte : ∀ (k n : Nat), n ≤ k → ∀ x ∈ hexL n, 48 ≤ x ∧ x ≤ 102 := fun k => by
  induction k with
  | zero => intro n hn x hx; rw [hexL_small (by omega)] at hx; simp at hx; subst hx; exact hexD_byte (by omega)
  | succ k ih =>
    intro n hn x hx
    by_cases h : n < 16
    · rw [hexL_small h] at hx; simp at hx; subst hx; exact hexD_byte h
    · rw [hexL_step h] at hx
      rcases List.mem_append.1 hx with hx | hx
      · exact ih (n / 16) (by omega) x hx
      · simp at hx; subst hx; exact hexD_byte (Nat.mod_lt _ (by decide))
theorem hexL_len : ∀ (k n : Nat), n < 16 ^ (k + 1) → (hexL n).length ≤ k + 1 := fun k => by
  induction k with
  | zero => intro n hn; rw [hexL_small (by simpa using hn)]; simp
  | succ k ih =>
    intro n hn
    by_cases h : n < 16
    · rw [hexL_small h]; simp
    · rw [hexL_step h, List.length_append]
      have := ih (n / 16) (by rw [Nat.div_lt_iff_lt_mul (by decide)]; rw [Nat.pow_succ] at hn; exact hn)
      simp; omega
theorem hexL_pos (n : Nat) : 0 < (hexL n).length := by
  by_cases h : n < 16
  · rw [hexL_small h]; simp
  · rw [hexL_step h]; simp
def chunkL (size : Nat) (b : List Int) : List Int :=
  if h : b = [] ∨ size = 0 then [] else hexL (min size b.length) ++ [13, 10] ++ b.take (min size b.length) ++ [13, 10] ++ chunkL size (b.drop (min size b.length))
termination_by b.length
decreasing_by
  have h0 : b.length ≠ 0 := fun e => h (.inl (List.eq_nil_of_length_eq_zero e))
  rw [List.length_drop]; omega
theorem chunkL_nil (size : Nat) : chunkL size [] = [] := by unfold chunkL; simp
theorem chunkL_step {size : Nat} {b : List Int} (h0 : 0 < size) (hb : b ≠ []) : chunkL size b = hexL (min size b.length) ++ [13, 10] ++ b.take (min size b.length) ++ [13, 10] ++ chunkL size (b.drop (min size b.length)) := by
  conv => lhs; unfold chunkL; rw [dif_neg (by simp [hb]; omega)]
def putL (size : Nat) (b : List Int) : List Int := chunkL size b ++ [48, 13, 10, 13, 10]
theorem at_drop {bs l : List Int} {q : Nat} {x : Int} (h : bs.drop q = x :: l) : bs[q]? = some x ∧ bs.drop (q + 1) = l := by
  have h1 : (bs.drop q)[0]? = some x := by rw [h]; rfl
  refine ⟨by simpa using h1, ?_⟩
  rw [← List.drop_drop, h]; rfl
theorem app_drop {bs l m : List Int} {q : Nat} (h : bs.drop q = l ++ m) : bs.drop (q + l.length) = m := by
  rw [← List.drop_drop, h, List.drop_left]
theorem digits_read {r : CR} {bs : List Int} {p : Nat} {out : List Int} : ∀ (k m : Nat) (s : CS) (rest : List Int), m ≤ k → 0 < m → (hexL m).length ≤ 7 → RdI2 r bs s p p 0 out → bs.drop p = hexL m ++ rest → ∃ t, RdI2 r bs t p (p + (hexL m).length) m out := fun k => by
  induction k with
  | zero => intro m s rest h1 h2; omega
  | succ k ih =>
    intro m s rest hk h0 h7 hr hd
    by_cases h : m < 16
    · rw [hexL_small h] at hd ⊢
      obtain ⟨hx, _⟩ := at_drop hd
      have hv := valC_hexD h
      have hb := hexD_byte h
      obtain ⟨_, _, h3⟩ := step_size hr hx (by omega)
      obtain ⟨t, ht⟩ := h3 ⟨by omega, by omega, by omega⟩
      refine ⟨t, ?_⟩
      rw [hv] at ht
      simpa using ht
    · rw [hexL_step h] at hd h7 ⊢
      rw [List.append_assoc] at hd
      rw [List.length_append, List.length_singleton] at h7 ⊢
      obtain ⟨s1, hs1⟩ := ih (m / 16) s _ (by omega) (by omega) (by omega) hr hd
      have hd2 := app_drop hd
      obtain ⟨hx, _⟩ := at_drop hd2
      have hm : m % 16 < 16 := Nat.mod_lt _ (by decide)
      have hv := valC_hexD hm
      have hb := hexD_byte hm
      have hp := hexL_pos (m / 16)
      obtain ⟨_, _, h3⟩ := step_size hs1 hx (by omega)
      obtain ⟨t, ht⟩ := h3 ⟨by omega, by omega, by omega⟩
      refine ⟨t, ?_⟩
      rw [hv, Int.toNat_natCast, show m / 16 * 16 + m % 16 = m from by omega, Nat.add_assoc] at ht
      exact ht
/-- A chunk is read. -/
theorem chunk_read {r : CR} {bs d rest : List Int} {s : CS} {p : Nat} {out : List Int} (h : RdO r bs s p out) (h0 : 0 < d.length) (hn : d.length + out.length ≤ 1048576) (hd : bs.drop p = hexL d.length ++ 13 :: 10 :: (d ++ 13 :: 10 :: rest)) :
    ∃ t, RdO r bs t (p + (hexL d.length ++ [13, 10] ++ d ++ [13, 10]).length) (out ++ d) := by
  have h7 := hexL_len 5 d.length (by omega)
  obtain ⟨s1, h1⟩ := digits_read d.length d.length s _ (Nat.le_refl _) h0 (by omega) h.in hd
  have d1 := app_drop hd
  obtain ⟨x1, d2⟩ := at_drop d1
  obtain ⟨x2, d3⟩ := at_drop d2
  have hp := hexL_pos d.length
  obtain ⟨g, hg⟩ : ∃ g, (hexL d.length).length = g := ⟨_, rfl⟩
  rw [hg] at h1 d1 x1 d2 x2 d3 hp h7
  obtain ⟨_, _, h3⟩ := size_line h1 (by omega) x1 hn
  obtain ⟨s2, h4⟩ := h3 x2
  have hl := congrArg List.length d3
  rw [List.length_drop, List.length_append] at hl
  simp at hl
  obtain ⟨s3, h5⟩ := data_full h4 (by omega) (by omega)
  have e1 : (bs.drop (p + g + 2)).take d.length = d := by
    rw [show p + g + 2 = p + g + 1 + 1 from rfl, d3]; exact List.take_left
  rw [e1] at h5
  have d4 := app_drop d3
  obtain ⟨x3, d5⟩ := at_drop d4
  obtain ⟨x4, d6⟩ := at_drop d5
  obtain ⟨_, _, _, _, _, h6⟩ := end_line h5 (by omega)
  obtain ⟨t, ht⟩ := h6 x3 x4 (by omega)
  refine ⟨t, ?_⟩
  have e2 : p + (hexL d.length ++ [13, 10] ++ d ++ [13, 10]).length = p + g + 2 + d.length + 2 := by
    simp only [List.length_append, hg]
    simp; omega
  rw [e2]
  exact ht
theorem chunks_read {r : CR} {bs : List Int} {size : Nat} (h0 : 0 < size) : ∀ (k : Nat) (b : List Int) (s : CS) (p : Nat) (out tail : List Int), b.length ≤ k → RdO r bs s p out → b.length + out.length ≤ 1048576 → bs.drop p = chunkL size b ++ tail → ∃ t, RdO r bs t (p + (chunkL size b).length) (out ++ b) := fun k => by
  induction k with
  | zero =>
    intro b s p out tail hk h _ hd
    obtain rfl := List.eq_nil_of_length_eq_zero (Nat.le_zero.1 hk)
    rw [chunkL_nil, List.append_nil]
    exact ⟨s, h⟩
  | succ k ih =>
    intro b s p out tail hk h hn hd
    by_cases hb : b = []
    · subst hb; rw [chunkL_nil, List.append_nil]; exact ⟨s, h⟩
    · have hl : b.length ≠ 0 := fun e => hb (List.eq_nil_of_length_eq_zero e)
      rw [chunkL_step h0 hb] at hd ⊢
      have hm : (b.take (min size b.length)).length = min size b.length := by rw [List.length_take]; omega
      obtain ⟨t1, h1⟩ := chunk_read (d := b.take (min size b.length)) (rest := chunkL size (b.drop (min size b.length)) ++ tail) h (by omega) (by omega) (by rw [hd, hm]; simp)
      rw [hm] at h1
      have hd2 : bs.drop (p + (hexL (min size b.length) ++ [13, 10] ++ b.take (min size b.length) ++ [13, 10]).length) = chunkL size (b.drop (min size b.length)) ++ tail := app_drop (by rw [hd, List.append_assoc _ _ tail])
      obtain ⟨t, ht⟩ := ih (b.drop (min size b.length)) t1 _ _ tail (by rw [List.length_drop]; omega) h1 (by rw [List.length_drop, List.length_append, hm]; omega) hd2
      refine ⟨t, ?_⟩
      rw [List.append_assoc out, List.take_append_drop, Nat.add_assoc, ← List.length_append] at ht
      exact ht
/-- What Put writes is read as it was, whatever stands behind it. -/
theorem put_read {size : Nat} (h0 : 0 < size) (b more : List Int) (hn : b.length ≤ 1048576) : ∃ t : CS, runC cs0 (putL size b ++ more) = (t, b, (putL size b).length) ∧ t.err = none ∧ t.st = 6 := by
  obtain ⟨bs, hbs⟩ : ∃ bs, putL size b ++ more = bs := ⟨_, rfl⟩
  have hbs' : bs = chunkL size b ++ 48 :: 13 :: 10 :: 13 :: 10 :: more := by rw [← hbs]; unfold putL; simp
  have h : RdO (runC cs0 bs) bs cs0 0 [] := ⟨rfl, rfl, ci0, rfl, rfl, by rw [List.drop_zero]; exact comb_zero _⟩
  rw [hbs]
  generalize runC cs0 bs = r at *
  obtain ⟨s1, h1⟩ := chunks_read h0 b.length b cs0 0 [] (48 :: 13 :: 10 :: 13 :: 10 :: more) (Nat.le_refl _) h (by simpa using hn) (by rw [List.drop_zero]; exact hbs')
  rw [List.nil_append, Nat.zero_add] at h1
  have d0 : bs.drop (chunkL size b).length = 48 :: 13 :: 10 :: 13 :: 10 :: more := by rw [hbs']; exact List.drop_left
  have hpl : (putL size b).length = (chunkL size b).length + 5 := by unfold putL; rw [List.length_append]; rfl
  generalize (chunkL size b).length = p at *
  obtain ⟨x0, d1⟩ := at_drop d0
  obtain ⟨x1, d2⟩ := at_drop d1
  obtain ⟨x2, d3⟩ := at_drop d2
  obtain ⟨x3, d4⟩ := at_drop d3
  obtain ⟨x4, d5⟩ := at_drop d4
  obtain ⟨_, _, k1⟩ := step_size h1.in x0 (by omega)
  obtain ⟨s2, h2⟩ := k1 ⟨by decide, by omega, by omega⟩
  rw [show 0 * 16 + (valC 48).toNat = 0 from by decide] at h2
  obtain ⟨_, _, k2⟩ := size_line h2 (by omega) x1 (by omega)
  obtain ⟨s3, h3⟩ := k2 x2
  have hl := congrArg List.length d3
  rw [List.length_drop] at hl
  simp only [List.length_cons] at hl
  obtain ⟨s4, h4⟩ := data_full h3 (by omega) (by omega)
  rw [List.take_zero, List.append_nil] at h4
  obtain ⟨_, _, _, _, k3, _⟩ := end_line h4 (by omega)
  obtain ⟨t, e, te, ts⟩ := k3 x3 x4 rfl
  exact ⟨t, by rw [e, hpl], te, ts⟩
theorem chunkL_byte {size : Nat} (h0 : 0 < size) : ∀ (k : Nat) (b : List Int), b.length ≤ k → (∀ x ∈ b, 0 ≤ x ∧ x ≤ 255) → ∀ x ∈ chunkL size b, 0 ≤ x ∧ x ≤ 255 := fun k => by
  induction k with
  | zero =>
    intro b hk _ x hx
    obtain rfl := List.eq_nil_of_length_eq_zero (Nat.le_zero.1 hk)
    rw [chunkL_nil] at hx
    cases hx
  | succ k ih =>
    intro b hk hb x hx
    by_cases h : b = []
    · subst h; rw [chunkL_nil] at hx; cases hx
    · have hl : b.length ≠ 0 := fun e => h (List.eq_nil_of_length_eq_zero e)
      rw [chunkL_step h0 h] at hx
      rcases List.mem_append.1 hx with hx | hx
      · rcases List.mem_append.1 hx with hx | hx
        · rcases List.mem_append.1 hx with hx | hx
          · rcases List.mem_append.1 hx with hx | hx
            · have := hexL_byte _ _ (Nat.le_refl _) x hx; omega
            · simp at hx; omega
          · exact hb x (List.mem_of_mem_take hx)
        · simp at hx; omega
      · exact ih _ (by rw [List.length_drop]; omega) (fun y hy => hb y (List.mem_of_mem_drop hy)) x hx
theorem chunkL_len {size : Nat} (h0 : 0 < size) (hs : size ≤ 65536) : ∀ (k : Nat) (b : List Int), b.length ≤ k → (chunkL size b).length ≤ 10 * b.length := fun k => by
  induction k with
  | zero =>
    intro b hk
    obtain rfl := List.eq_nil_of_length_eq_zero (Nat.le_zero.1 hk)
    rw [chunkL_nil]; simp
  | succ k ih =>
    intro b hk
    by_cases h : b = []
    · subst h; rw [chunkL_nil]; simp
    · have hl : b.length ≠ 0 := fun e => h (List.eq_nil_of_length_eq_zero e)
      rw [chunkL_step h0 h]
      have h1 := ih (b.drop (min size b.length)) (by rw [List.length_drop]; omega)
      have h2 := hexL_len 4 (min size b.length) (by omega)
      rw [List.length_drop] at h1
      simp only [List.length_append, List.length_take, List.length_cons, List.length_nil]
      omega
end Go.Proofs.YtgpmkiamfbbfmaaDoor
