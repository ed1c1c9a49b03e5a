/- What Length tells: a plain law of decimal numerals. -/
import Derived.Lib.AtoiTie
import Derived.Lib.AtoiAll
import Derived.Lib.ItoaNum
set_option linter.unusedVariables false
namespace Go.Proofs.YtgpmkiamfbbfmaaDoor
open Go Go.Lib
def lenD (l : List UInt8) : Option Nat := match atoiAll l with
  | .ok v => if 0 ≤ v ∧ v ≤ 1048576 ∧ itoa v = l then some v.toNat else none
  | _ => none
def wholeD (k : Nat) (l : List UInt8) : Option Nat := if l = [] ∨ k < l.length ∨ (1 < l.length ∧ l.head? = some 48) then none else decFrom 0 l
theorem dec_app : ∀ (l : List UInt8) (acc : Nat) (b : UInt8), decFrom acc (l ++ [b]) = (decFrom acc l).bind fun m => (digitVal b).map fun d => m * 10 + d
  | [], acc, b => by simp only [List.nil_append, decFrom]; cases digitVal b <;> rfl
  | c :: l, acc, b => by
    simp only [List.cons_append, decFrom]
    cases digitVal c with
    | none => rfl
    | some d => exact dec_app l _ b
theorem dig_ofNat {d : Nat} (h : d < 10) : digitVal (UInt8.ofNat (48 + d)) = some d := by
  have h10 : ∀ m : Fin 10, digitVal (UInt8.ofNat (48 + m.val)) = some m.val := by decide
  exact h10 ⟨d, h⟩
theorem dec_digits : ∀ (k n : Nat), n ≤ k → decFrom 0 (decDigits n) = some n := fun k => by
  induction k with
  | zero => intro n hn; rw [decDigits, dif_pos (by omega)]; simp only [decFrom, dig_ofNat (show n < 10 by omega)]; congr 1; omega
  | succ k ih =>
    intro n hn
    by_cases h : n < 10
    · rw [decDigits, dif_pos h]; simp only [decFrom, dig_ofNat h]; congr 1; omega
    · rw [decDigits, dif_neg h, dec_app, ih (n / 10) (by omega), dig_ofNat (Nat.mod_lt _ (by decide))]
      show some (n / 10 * 10 + n % 10) = some n
      congr 1; omega
theorem byte_of {b : UInt8} {d : Nat} (h : digitVal b = some d) : b = UInt8.ofNat (48 + d) ∧ d < 10 := by
  obtain ⟨h1, h2, h3⟩ := digitVal_eq h
  refine ⟨?_, by omega⟩
  rw [h3, show 48 + (b.toNat - 48) = b.toNat from by omega, UInt8.ofNat_toNat]
theorem digits_dec : ∀ (k : Nat) (l : List UInt8) (n : Nat), l.length ≤ k → l ≠ [] → decFrom 0 l = some n → (l.length = 1 ∨ l.head? ≠ some 48) → decDigits n = l := fun k => by
  induction k with
  | zero => intro l n hk h0; exact absurd (List.eq_nil_of_length_eq_zero (Nat.le_zero.1 hk)) h0
  | succ k ih =>
    intro l n hk h0 hd hh
    obtain ⟨l', b, rfl⟩ : ∃ l' b, l = l' ++ [b] := ⟨l.dropLast, l.getLast h0, (List.dropLast_concat_getLast h0).symm⟩
    rw [dec_app] at hd
    obtain ⟨m, hm, hd⟩ := Option.bind_eq_some_iff.1 hd
    obtain ⟨d, hdv, rfl⟩ := Option.map_eq_some_iff.1 hd
    obtain ⟨hb, hd10⟩ := byte_of hdv
    by_cases h1 : l' = []
    · subst h1
      obtain rfl : 0 = m := Option.some.inj hm
      rw [decDigits, dif_pos (by omega), hb]
      simp
    · have hne : l'.length ≠ 0 := fun e => h1 (List.eq_nil_of_length_eq_zero e)
      rw [List.length_append, List.length_singleton] at hk hh
      have hh2 : l'.head? ≠ some 48 := by
        rcases hh with hh | hh
        · omega
        · cases l' with
          | nil => exact absurd rfl h1
          | cons c r => exact hh
      have hI := ih l' m (by omega) h1 hm (.inr hh2)
      have hm0 : m ≠ 0 := fun e => by
        subst e
        rw [decDigits, dif_pos (by decide)] at hI
        rw [← hI] at hh2
        exact hh2 rfl
      rw [decDigits, dif_neg (by omega), show (m * 10 + d) / 10 = m from by omega, show (m * 10 + d) % 10 = d from by omega, hI, ← hb]
theorem digits_ne (n : Nat) : decDigits n ≠ [] := by
  by_cases h : n < 10
  · rw [decDigits, dif_pos h]; simp
  · rw [decDigits, dif_neg h]; simp
theorem digits_head : ∀ (k n : Nat), n ≤ k → 0 < n → (decDigits n).head? ≠ some 48 := fun k => by
  induction k with
  | zero => intro n h1 h2; omega
  | succ k ih =>
    intro n hn h0
    by_cases h : n < 10
    · rw [decDigits, dif_pos h]
      have h10 : ∀ m : Fin 10, 0 < m.val → ([UInt8.ofNat (48 + m.val)] : List UInt8).head? ≠ some 48 := by decide
      exact h10 ⟨n, h⟩ h0
    · rw [decDigits, dif_neg h]
      have := ih (n / 10) (by omega) (by omega)
      have hne := digits_ne (n / 10)
      cases hl : decDigits (n / 10) with
      | nil => exact absurd hl hne
      | cons c r => rw [hl] at this; exact this
theorem digits_len : ∀ (k n : Nat), n < 10 ^ (k + 1) → (decDigits n).length ≤ k + 1 := fun k => by
  induction k with
  | zero => intro n hn; rw [decDigits, dif_pos (by simpa using hn)]; simp
  | succ k ih =>
    intro n hn
    by_cases h : n < 10
    · rw [decDigits, dif_pos h]; simp
    · rw [decDigits, dif_neg h, List.length_append]
      have := ih (n / 10) (by rw [Nat.div_lt_iff_lt_mul (by decide)]; rw [Nat.pow_succ] at hn; exact hn)
      simp; omega
/-- Both ways to read a length tell the same. -/
theorem len_whole (l : List UInt8) : lenD l = (wholeD 7 l).bind fun n => if n ≤ 1048576 then some n else none := by
  by_cases hc : l = [] ∨ 7 < l.length ∨ (1 < l.length ∧ l.head? = some 48)
  · have hw : wholeD 7 l = none := by unfold wholeD; rw [if_pos hc]
    rw [hw]
    unfold lenD
    cases ha : atoiAll l with
    | ok v =>
      show (if 0 ≤ v ∧ v ≤ 1048576 ∧ itoa v = l then some v.toNat else none) = none
      rw [if_neg]
      rintro ⟨h0, h1, hi⟩
      unfold itoa at hi
      rw [if_neg (by omega)] at hi
      have e1 := digits_ne v.toNat
      have e2 := digits_len 6 v.toNat (by omega)
      rw [hi] at e1 e2
      rcases hc with hc | hc | ⟨hc, hd⟩
      · exact e1 hc
      · omega
      · have h2 : 0 < v.toNat := by
          refine Nat.pos_of_ne_zero fun e => ?_
          rw [e, decDigits, dif_pos (by decide)] at hi
          rw [← hi] at hc
          simp at hc
        have := digits_head _ _ (Nat.le_refl _) h2
        rw [hi] at this
        exact this hd
    | «syntax» => rfl
    | range => rfl
  · have hne : l ≠ [] := fun h => hc (.inl h)
    have h7 : l.length ≤ 7 := by have h := fun h => hc (.inr (.inl h)); omega
    have hw : wholeD 7 l = decFrom 0 l := by unfold wholeD; rw [if_neg hc]
    rw [hw]
    have hat : atoiAll l = NumEnd.ofOption (atoi l) := atoiAll_short l (by omega)
    cases hd : decFrom 0 l with
    | some n =>
      have hdig := digits_dec _ l n (Nat.le_refl _) hne hd (by
        by_cases h1 : l.length = 1
        · exact .inl h1
        · refine .inr fun h => hc (.inr (.inr ⟨?_, h⟩))
          have : l.length ≠ 0 := fun e => hne (List.eq_nil_of_length_eq_zero e)
          omega)
      have hatoi : atoi l = some (n : Int) := by
        cases l with
        | nil => exact absurd rfl hne
        | cons b r =>
          have hb : ∃ d, digitVal b = some d := by
            cases h : digitVal b with
            | some d => exact ⟨d, rfl⟩
            | none => simp [decFrom, h] at hd
          obtain ⟨d, hb⟩ := hb
          obtain ⟨b1, b2, _⟩ := digitVal_eq hb
          have n45 : (b == 45) = false := by rw [beq_eq_false_iff_ne]; intro e; subst e; simp at b1
          have n43 : (b == 43) = false := by rw [beq_eq_false_iff_ne]; intro e; subst e; simp at b1
          unfold atoi
          simp only [n45, n43, Bool.false_eq_true, if_false]
          simp [decNat, hd]
      have hok : atoiAll l = .ok (n : Int) := by rw [hat, hatoi]; rfl
      unfold lenD
      rw [hok]
      show (if 0 ≤ (n : Int) ∧ (n : Int) ≤ 1048576 ∧ itoa n = l then some (n : Int).toNat else none) = if n ≤ 1048576 then some n else none
      have hit : itoa (n : Int) = l := by unfold itoa; rw [if_neg (by omega)]; exact hdig
      by_cases hn : n ≤ 1048576
      · rw [if_pos hn, if_pos ⟨by omega, by omega, hit⟩]; simp
      · rw [if_neg hn, if_neg (fun h => hn (by omega))]
    | none =>
      show lenD l = none
      unfold lenD
      cases ha : atoiAll l with
      | ok v =>
        show (if 0 ≤ v ∧ v ≤ 1048576 ∧ itoa v = l then some v.toNat else none) = none
        rw [if_neg]
        rintro ⟨h0, h1, hi⟩
        unfold itoa at hi
        rw [if_neg (by omega)] at hi
        have := dec_digits _ v.toNat (Nat.le_refl _)
        rw [hi, hd] at this
        cases this
      | «syntax» => rfl
      | range => rfl
end Go.Proofs.YtgpmkiamfbbfmaaDoor
