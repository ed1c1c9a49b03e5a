/- Plain law: a store's keys, call by call. -/
import Derived.Test.YtfieipigbdopaaaL3
import Derived.Test.YtfieipigbdopaaaS6
set_option linter.unusedVariables false
set_option linter.unusedSimpArgs false
namespace Go.Proofs.Ytfieipigbdopaaa
def stO (acts : List ActT) (k0 : ByteArray) (n0 : Nat) (keep : Int) : Nat → List SE × Nat
  | 0 => (List.replicate n0 se0, 0)
  | k + 1 => match acts[k]? with
    | some a => ((getS (putR keep (stO acts k0 n0 keep k).1 (stO acts k0 n0 keep k).2 a.now a.key a.bytes a.age).1 a.now k0).2, (putR keep (stO acts k0 n0 keep k).1 (stO acts k0 n0 keep k).2 a.now a.key a.bytes a.age).2)
    | none => stO acts k0 n0 keep k
theorem stO_inv (acts : List ActT) (k0 : ByteArray) (n0 : Nat) (keep : Int) : ∀ k, Uniq (stO acts k0 n0 keep k).1 ∧ ((stO acts k0 n0 keep k).2 < (stO acts k0 n0 keep k).1.length ∨ (stO acts k0 n0 keep k).2 = 0) ∧ (stO acts k0 n0 keep k).1.length = n0
  | 0 => ⟨uniq_new n0, .inr rfl, by simp [stO]⟩
  | k + 1 => by
    obtain ⟨hu, hh, hl⟩ := stO_inv acts k0 n0 keep k
    cases ha : acts[k]? with
    | none => simp only [stO, ha]; exact ⟨hu, hh, hl⟩
    | some a =>
      simp only [stO, ha]
      obtain ⟨l1, l2⟩ := putR_len (keep := keep) (now := a.now) (age := a.age) (k := a.key) (bs := a.bytes) hh
      have hu1 : Uniq (putR keep (stO acts k0 n0 keep k).1 (stO acts k0 n0 keep k).2 a.now a.key a.bytes a.age).1 := by
        by_cases h0 : putE keep (stO acts k0 n0 keep k).1 a.now a.key a.bytes.length a.age = 0
        · exact (putR_get hu hh h0).1
        · rw [putR_bad h0]; exact hu
      refine ⟨hu1.of_clr (getS_clr _ _ _), ?_, ?_⟩
      · rw [getS_len, l1]; exact l2
      · rw [getS_len, l1]; exact hl
/-- What the walk needs of the keys. -/
theorem keys_facts {ys : List SE} {n0 : Nat} (hu : Uniq ys) (hl : ys.length = n0) : (ys.map SE.key).length = n0 ∧ usedL ys ≤ n0 ∧
    (∀ (i j : Nat) (s : ByteArray), (ys.map SE.key)[i]? = some s → (ys.map SE.key)[j]? = some s → s.toList.isEmpty = false → i = j) ∧
    ∃ cnt : Nat → Nat, cnt 0 = 0 ∧ cnt n0 = usedL ys ∧ (∀ p, cnt p ≤ p) ∧ ∀ (p : Nat) (s : ByteArray), (ys.map SE.key)[p]? = some s → cnt (p + 1) = cnt p + (if s.toList.isEmpty then 0 else 1) := by
  refine ⟨by rw [List.length_map, hl], by rw [← hl]; exact usedL_le ys, fun i j s hi hj hs => ?_, fun p => usedL (ys.take p), rfl, ?_, fun p => ?_, fun p s hs => ?_⟩
  · rw [List.getElem?_map] at hi hj
    cases h1 : ys[i]? with
    | none => rw [h1] at hi; cases hi
    | some x =>
      cases h2 : ys[j]? with
      | none => rw [h2] at hj; cases hj
      | some y =>
        rw [h1] at hi; rw [h2] at hj
        simp at hi hj
        exact hu i j x y h1 h2 (by rw [hi, hj]) (by rw [hi]; exact hs)
  · simp only [← hl, List.take_length]
  · exact Nat.le_trans (usedL_le _) (List.length_take_le _ _)
  · rw [List.getElem?_map] at hs
    cases h1 : ys[p]? with
    | none => rw [h1] at hs; cases hs
    | some x =>
      rw [h1] at hs
      simp at hs
      subst hs
      show usedL (ys.take (p + 1)) = _
      rw [usedL_take ys p x h1]
      unfold heldB
      cases x.key.toList.isEmpty <;> rfl
theorem newBad_keep (n keep : Nat) (hn : n ≤ 21) (hk : keep ≤ 64) : newBad n keep = false := by
  have h : n * keep ≤ 21 * 64 := Nat.mul_le_mul hn hk
  have h' : (n : Int) * (keep : Int) ≤ 4194304 := by
    have : ((n * keep : Nat) : Int) ≤ 4194304 := by omega
    rwa [Int.natCast_mul] at this
  unfold newBad
  simp
  omega
end Go.Proofs.Ytfieipigbdopaaa
