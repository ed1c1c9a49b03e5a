/- Plain: words of free blocks. -/
import Derived.Test.YtebdgohkhadgpaaDoorApp
import Derived.Laws.BitsAllLaws
import Derived.Laws.Bits64b
import Derived.Lib.TrailingZeros
set_option linter.unusedVariables false
set_option linter.unusedSimpArgs false
namespace Go.Proofs.YtebdgohkhadgpaaDoor
open Go Go.RowKit
/-- whether block b is free -/
def freeAt (held : List Bool) (b : Nat) : Bool := held[b]? == some false
structure FW (held : List Bool) (ws : Nat → Nat) : Prop where
  lt : ∀ i, i < 64 → ws i < 18446744073709551616
  bit : ∀ i j, i < 64 → j < 64 → (ws i).testBit j = freeAt held (i * 64 + j)
def updW (ws : Nat → Nat) (i x : Nat) : Nat → Nat := fun k => if k = i then x else ws k
theorem freeAt_set (held : List Bool) (b c : Nat) (x : Bool) (hb : b < held.length) : freeAt (held.set b x) c = if c = b then !x else freeAt held c := by
  unfold freeAt
  by_cases h : c = b
  · subst h
    rw [List.getElem?_set_self hb, if_pos rfl]
    cases x <;> rfl
  · rw [List.getElem?_set_ne (fun e => h e.symm), if_neg h]
theorem FW.put {held : List Bool} {ws : Nat → Nat} (h : FW held ws) {b : Nat} (hb : b < held.length) (hl : held.length ≤ 4096) : FW (held.set b false) (updW ws (b / 64) (ws (b / 64) ||| 2 ^ (b % 64))) := by
  have hp : 2 ^ (b % 64) < 2 ^ 64 := Nat.pow_lt_pow_right (by omega) (by omega)
  refine ⟨fun i hi => ?_, fun i j hi hj => ?_⟩
  · unfold updW
    split
    · have := h.lt (b / 64) (by omega)
      exact Nat.or_lt_two_pow (n := 64) (by omega) hp
    · exact h.lt i hi
  · rw [freeAt_set _ _ _ _ hb]
    unfold updW
    split
    · rename_i e
      subst e
      rw [Nat.testBit_or, h.bit _ _ hi hj, Nat.testBit_two_pow]
      by_cases e : b % 64 = j
      · rw [if_pos (by omega)]; simp [e]
      · rw [if_neg (by omega)]; simp [e]
    · rename_i e
      rw [if_neg (by omega), h.bit _ _ hi hj]
theorem testBit_not64 (x j : Nat) (hx : x < 2 ^ 64) (hj : j < 64) : (18446744073709551615 - x).testBit j = !x.testBit j := by
  have h := Nat.testBit_two_pow_sub_succ hx j
  rw [show (2 ^ 64 - (x + 1)) = 18446744073709551615 - x by omega] at h
  simp [h, hj]
theorem FW.get {held : List Bool} {ws : Nat → Nat} (h : FW held ws) {b : Nat} (hb : b < held.length) (hl : held.length ≤ 4096) : FW (held.set b true) (updW ws (b / 64) (ws (b / 64) &&& (18446744073709551615 - 2 ^ (b % 64)))) := by
  have hp : 2 ^ (b % 64) < 2 ^ 64 := Nat.pow_lt_pow_right (by omega) (by omega)
  refine ⟨fun i hi => ?_, fun i j hi hj => ?_⟩
  · unfold updW
    split
    · exact Nat.lt_of_le_of_lt Nat.and_le_left (h.lt (b / 64) (by omega))
    · exact h.lt i hi
  · rw [freeAt_set _ _ _ _ hb]
    unfold updW
    split
    · rename_i e
      subst e
      rw [Nat.testBit_and, h.bit _ _ hi hj, testBit_not64 _ _ hp hj, Nat.testBit_two_pow]
      by_cases e : b % 64 = j
      · rw [if_pos (by omega)]; simp [e]
      · rw [if_neg (by omega)]; simp [e]
    · rename_i e
      rw [if_neg (by omega), h.bit _ _ hi hj]
/-- the least free block -/
def least (held : List Bool) : Nat := held.findIdx (· == false)
theorem least_le (held : List Bool) : least held ≤ held.length := List.findIdx_le_length
theorem least_free {held : List Bool} (h : least held < held.length) : freeAt held (least held) = true := by
  have := List.findIdx_getElem (w := h)
  unfold freeAt
  rw [List.getElem?_eq_getElem h]
  simpa [least] using this
theorem least_not {held : List Bool} {b : Nat} (h : b < least held) : freeAt held b = false := by
  have := List.not_of_lt_findIdx h
  have hb : b < held.length := Nat.lt_of_lt_of_le h (least_le held)
  unfold freeAt
  rw [List.getElem?_eq_getElem hb]
  simpa using this
theorem least_of {held : List Bool} {b : Nat} (h1 : freeAt held b = true) (h2 : ∀ c, c < b → freeAt held c = false) : least held = b ∧ b < held.length := by
  have hb : b < held.length := by
    refine Decidable.byContradiction fun hn => ?_
    unfold freeAt at h1
    rw [List.getElem?_eq_none (by omega)] at h1
    cases h1
  have h3 : ¬ b < least held := fun h => by rw [least_not h] at h1; cases h1
  have h4 : ¬ least held < b := fun h => by have := least_free (held := held) (by omega); rw [h2 _ h] at this; cases this
  omega
theorem least_none {held : List Bool} (h : ∀ c, c < held.length → freeAt held c = false) : least held = held.length := by
  have := least_le held
  refine Decidable.byContradiction fun hn => ?_
  have h1 := least_free (held := held) (by omega)
  rw [h _ (by omega)] at h1
  cases h1
theorem zero_word {held : List Bool} {ws : Nat → Nat} (h : FW held ws) {i : Nat} (hi : i < 64) (h0 : ws i = 0) : ∀ j, j < 64 → freeAt held (i * 64 + j) = false := fun j hj => by
  rw [← h.bit i j hi hj, h0, Nat.zero_testBit]
theorem some_word {held : List Bool} {ws : Nat → Nat} (h : FW held ws) {i : Nat} (hi : i < 64) (h0 : ws i ≠ 0) (hlow : ∀ c, c < i * 64 → freeAt held c = false) : i * 64 + Lib.ctz 64 (ws i) = least held ∧ least held < held.length ∧ Lib.ctz 64 (ws i) < 64 := by
  have hlt := h.lt i hi
  obtain ⟨m, hm, hk⟩ := Lib.ctzFrom_spec 64 (ws i) (by omega) hlt
  have hc : Lib.ctz 64 (ws i) = Lib.ctzFrom 64 (ws i) := by simp [Lib.ctz, h0]
  rw [hc]
  generalize Lib.ctzFrom 64 (ws i) = k at *
  have hbit : ∀ j, j < 64 → (ws i).testBit j = (decide (k ≤ j) && (2 * m + 1).testBit (j - k)) := fun j hj => by
    rw [hm, Nat.mul_comm, Nat.testBit_mul_two_pow]
  obtain ⟨e, hb⟩ := least_of (held := held) (b := i * 64 + k) (by rw [← h.bit i k hi hk, hbit k hk]; simp) (fun c hc => by
    by_cases hci : c < i * 64
    · exact hlow c hci
    · obtain ⟨j, rfl⟩ : ∃ j, c = i * 64 + j := ⟨c - i * 64, by omega⟩
      rw [← h.bit i j hi (by omega), hbit j (by omega)]
      have hd : ¬ k ≤ j := by omega
      simp [hd])
  exact ⟨e.symm, e ▸ hb, hk⟩
/-- whether a block is held, as the code reckons it -/
theorem held_word {held : List Bool} {ws : Nat → Nat} (h : FW held ws) {b : Nat} (hb : b < held.length) (hl : held.length ≤ 4096) : (((ws (b / 64) >>> (b % 64)) &&& 1) = 0) ↔ held[b]? = some true := by
  have h1 := h.bit (b / 64) (b % 64) (by omega) (by omega)
  rw [show b / 64 * 64 + b % 64 = b by omega] at h1
  unfold freeAt at h1
  rw [List.getElem?_eq_getElem hb] at h1 ⊢
  rw [Nat.testBit, Nat.and_comm] at h1
  cases hx : held[b] <;> rw [hx] at h1 <;> simp_all
end Go.Proofs.YtebdgohkhadgpaaDoor
