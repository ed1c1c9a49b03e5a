/- The digest's plain law: what is fed piece by piece is fed at once. No program in sight. -/
import Derived.Test.YteggcfcjajpcgaaDoorDgS
set_option linter.unusedVariables false
namespace Go.Proofs.YteggcfcjajpcgaaDoor
open Go
theorem schL_congr {b b' : Nat → Int} (h : ∀ i, i < 64 → b i = b' i) (k : Nat) : schL b k = schL b' k := by
  induction k with
  | zero => rfl
  | succ k ih =>
    rw [schL, schL, ih]
    unfold schN
    by_cases hk : k < 16
    · rw [if_pos hk, if_pos hk, h _ (by omega), h _ (by omega), h _ (by omega), h _ (by omega)]
    · rw [if_neg hk, if_neg hk]
theorem sch_congr {b b' : Nat → Int} (h : ∀ i, i < 64 → b i = b' i) : sch b = sch b' := by
  funext k
  unfold sch
  rw [schL_congr h]
  unfold schN
  by_cases hk : k < 16
  · rw [if_pos hk, if_pos hk, h _ (by omega), h _ (by omega), h _ (by omega), h _ (by omega)]
  · rw [if_neg hk, if_neg hk]
theorem comp_congr (v : W8) {b b' : Nat → Int} (h : ∀ i, i < 64 → b i = b' i) : comp v b = comp v b' := by
  unfold comp
  rw [sch_congr h]
theorem feed_append (ys : List Int) : ∀ (n : Nat) (xs : List Int) (st : W8), xs.length = n → feed st (xs ++ ys) = feed (feed st xs).1 ((feed st xs).2 ++ ys) := by
  intro n
  induction n using Nat.strongRecOn with
  | _ n ih =>
    intro xs st hn
    by_cases h : 64 ≤ xs.length
    · rw [feed_big st xs h, feed_big st (xs ++ ys) (by simp; omega)]
      have e : comp st (fun i => (xs ++ ys).getD i 0) = comp st (fun i => xs.getD i 0) :=
        comp_congr st (fun i hi => by simp only [List.getD_eq_getElem?_getD]; rw [List.getElem?_append_left (by omega)])
      rw [e, List.drop_append_of_le_length h]
      exact ih (xs.drop 64).length (by simp; omega) (xs.drop 64) _ rfl
    · rw [feed_small st xs h]
theorem feed_len : ∀ (n : Nat) (xs : List Int) (st : W8), xs.length = n → (feed st xs).2.length = xs.length % 64 := by
  intro n
  induction n using Nat.strongRecOn with
  | _ n ih =>
    intro xs st hn
    by_cases h : 64 ≤ xs.length
    · rw [feed_big st xs h, ih (xs.drop 64).length (by simp; omega) (xs.drop 64) _ rfl]
      simp; omega
    · rw [feed_small st xs h]; simp; omega
def iv0 : W8 := ⟨1779033703, 3144134277, 1013904242, 2773480762, 1359893119, 2600822924, 528734635, 1541459225⟩
theorem stepW_a (K W : Int) (v : W8) : (v.h + bigS1 v.e + chW v + K + W + (bigS0 v.a + majW v)) % 4294967296 = (stepW K W v).a := by
  unfold stepW t1W t2W u32w
  show _ = ((v.h + bigS1 v.e + chW v + K + W) % 4294967296 + (bigS0 v.a + majW v) % 4294967296) % 4294967296
  omega
theorem stepW_e (K W : Int) (v : W8) : (v.d + (v.h + bigS1 v.e + chW v + K + W)) % 4294967296 = (stepW K W v).e := by
  unfold stepW t1W u32w
  show _ = (v.d + (v.h + bigS1 v.e + chW v + K + W) % 4294967296) % 4294967296
  omega
theorem bitB_small (n : Int) (h0 : 0 ≤ n) (h : n * 8 < 18446744073709551616) (k : Nat) (hk : k < 8) : bitB n (7 - k) = n * 8 / 2 ^ (56 - 8 * k) % 256 := by
  unfold bitB
  rw [show 8 * (7 - k) = 56 - 8 * k by omega]
  have e : IntKind.u64.wrap (n * 8) = n * 8 := by simp [IntKind.wrap, IntKind.bits, IntKind.signed]; omega
  rw [e]
  simp [IntKind.wrap, IntKind.bits, IntKind.signed]
theorem padded_mod (xs : List Int) (n : Int) : (padded xs n).length % 64 = 0 := by
  unfold padded
  have := (padZ_stop (xs.length + 1) (padZ (xs.length + 1)) (Nat.le_refl _)).2 rfl
  simp [bitsL_length]
  omega
theorem padded_len (xs : List Int) (n : Int) : (padded xs n).length ≤ xs.length + 73 := by
  unfold padded
  have := padZ_lt (xs.length + 1)
  simp [bitsL_length]
  omega
/-- the document's digest -/
def sha (l : List Int) : List Int := outL (feed iv0 (padded l l.length)).1
theorem padZ_mod (n m : Nat) (h : n % 64 = m % 64) : padZ n = padZ m := by unfold padZ; rw [h]
theorem bitB_wrap (n : Int) (i : Nat) : bitB (IntKind.u64.wrap n) i = bitB n i := by
  unfold bitB
  have e : IntKind.u64.wrap (IntKind.u64.wrap n * 8) = IntKind.u64.wrap (n * 8) := by simp [IntKind.wrap, IntKind.bits, IntKind.signed]; omega
  rw [e]
theorem bitsL_wrap (n : Int) (k : Nat) : bitsL (IntKind.u64.wrap n) k = bitsL n k := by
  unfold bitsL
  congr 1
  funext i
  exact bitB_wrap n _
/-- what Sum comes to, from whatever stands -/
theorem sha_of (l : List Int) (st : W8) (rest : List Int) (h : feed iv0 l = (st, rest)) : outL (feed st (padded rest (IntKind.u64.wrap l.length))).1 = sha l := by
  have hl := feed_len _ l iv0 rfl
  rw [h] at hl
  dsimp only at hl
  have e : padded l l.length = l ++ ([128] ++ List.replicate (padZ (rest.length + 1)) 0 ++ bitsL l.length 8) := by
    unfold padded
    rw [padZ_mod (l.length + 1) (rest.length + 1) (by omega)]
    simp
  unfold sha
  rw [e, feed_append _ _ l iv0 rfl, h]
  unfold padded
  rw [bitsL_wrap]
  simp
end Go.Proofs.YteggcfcjajpcgaaDoor
