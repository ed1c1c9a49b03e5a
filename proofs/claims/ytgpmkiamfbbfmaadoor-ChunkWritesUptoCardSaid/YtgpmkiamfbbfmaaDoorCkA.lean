/- Plain: a chunked body's reader as a machine that takes a byte at a time. -/
import Derived.Test.YtgpmkiamfbbfmaaDoorApp
set_option linter.unusedVariables false
set_option linter.unusedSimpArgs false
namespace Go.Proofs.YtgpmkiamfbbfmaaDoor
structure CS where
  st : Nat
  size : Nat
  left : Nat
  many : Nat
  pos : Nat
  body : Nat
  err : Option (Nat × Int)
def cs0 : CS := ⟨0, 0, 0, 0, 0, 0, none⟩
def valC (c : Int) : Int := if 48 ≤ c ∧ c ≤ 57 then c - 48 else if 97 ≤ c ∧ c ≤ 102 then c - 87 else if 65 ≤ c ∧ c ≤ 70 then c - 55 else -1
def failC (s : CS) (code : Int) : CS := { s with err := some (s.pos, code) }
def mustC (s : CS) (c want : Int) (st : Nat) : CS := if c = want then { s with st := st } else failC s 91
def digC (s : CS) (c : Int) : CS :=
  if valC c < 0 ∧ 0 < s.many then failC s 91
  else if valC c < 0 ∨ s.many = 7 ∨ (s.many = 1 ∧ s.size = 0) then failC s 90
  else { s with size := s.size * 16 + (valC c).toNat, many := s.many + 1, st := 1 }
def headC (s : CS) (c : Int) : CS :=
  if c ≠ 13 ∨ s.many = 0 then digC s c else if 1048576 < s.size + s.body then failC s 90 else { s with st := 2 }
def zeroC (s : CS) : CS := { s with size := 0, many := 0 }
def leftC (s : CS) : CS := { s with left := s.size }
def stepC (s : CS) (c : Int) : CS :=
  if s.st = 0 then headC (zeroC s) c
  else if s.st = 1 then headC s c
  else if s.st = 2 then mustC (leftC s) c 10 (if s.size = 0 then 4 else 3)
  else if s.st = 4 then mustC s c 13 5
  else mustC s c 10 (if s.size = 0 then 6 else 0)
def posC (s : CS) : CS := { s with pos := s.pos + 1 }
def dataC (s : CS) (n : Nat) : CS := { s with left := s.left - n, body := s.body + n, pos := s.pos + n, st := if s.left - n = 0 then 4 else 3 }
abbrev CR := CS × List Int × Nat
def comb (o : List Int) (k : Nat) (r : CR) : CR := (r.1, o ++ r.2.1, k + r.2.2)
def runC : CS → List Int → CR
  | s, [] => (s, [], 0)
  | s, c :: cs => if s.err ≠ none ∨ s.st = 6 then (s, [], 0)
    else if s.st = 3 then comb [c] 1 (runC (dataC s 1) cs)
    else if (stepC s c).err ≠ none then (stepC s c, [], 0)
    else comb [] 1 (runC (posC (stepC s c)) cs)
theorem comb_comb (o p : List Int) (j k : Nat) (r : CR) : comb o j (comb p k r) = comb (o ++ p) (j + k) r := by
  unfold comb; simp [Nat.add_assoc]
theorem comb_zero (r : CR) : comb [] 0 r = r := by unfold comb; simp
theorem run_nil (s : CS) : runC s [] = (s, [], 0) := rfl
theorem run_stop (s : CS) (cs : List Int) (h : s.err ≠ none ∨ s.st = 6) : runC s cs = (s, [], 0) := by
  cases cs with
  | nil => rfl
  | cons c cs => unfold runC; rw [if_pos h]
theorem run_fail (s : CS) (c : Int) (cs : List Int) (he : s.err = none) (h6 : s.st ≠ 6) (h3 : s.st ≠ 3) (hf : (stepC s c).err ≠ none) : runC s (c :: cs) = (stepC s c, [], 0) := by
  conv => lhs; unfold runC
  rw [if_neg (by simp [he, h6]), if_neg h3, if_pos hf]
theorem run_ok (s : CS) (c : Int) (cs : List Int) (he : s.err = none) (h6 : s.st ≠ 6) (h3 : s.st ≠ 3) (hf : (stepC s c).err = none) : runC s (c :: cs) = comb [] 1 (runC (posC (stepC s c)) cs) := by
  conv => lhs; unfold runC
  rw [if_neg (by simp [he, h6]), if_neg h3, if_neg (by simp [hf])]
theorem run_data1 (s : CS) (c : Int) (cs : List Int) (he : s.err = none) (h3 : s.st = 3) : runC s (c :: cs) = comb [c] 1 (runC (dataC s 1) cs) := by
  conv => lhs; unfold runC
  rw [if_neg (by simp [he, h3]), if_pos h3]
theorem run_data : ∀ (n : Nat) (s : CS) (cs : List Int), s.err = none → s.st = 3 → 0 < n → n ≤ s.left → n ≤ cs.length → runC s cs = comb (cs.take n) n (runC (dataC s n) (cs.drop n))
  | 0, _, _, _, _, h, _, _ => by omega
  | 1, s, c :: cs, he, h3, _, hl, hc => by simpa using run_data1 s c cs he h3
  | n + 2, s, c :: cs, he, h3, _, hl, hc => by
    rw [run_data1 s c cs he h3, run_data (n + 1) (dataC s 1) cs he (by unfold dataC; simp; omega) (by omega) (by unfold dataC; simp; omega) (by simpa using hc), comb_comb]
    have e : dataC (dataC s 1) (n + 1) = dataC s (n + 2) := by
      unfold dataC
      simp only [CS.mk.injEq]
      refine ⟨?_, trivial, ?_, trivial, ?_, ?_, trivial⟩
      · rw [show s.left - 1 - (n + 1) = s.left - (n + 2) by omega]
      · omega
      · omega
      · omega
    rw [e, show 1 + (n + 1) = n + 2 by omega]
    simp
/-- What always holds of a reader. -/
structure CI (s : CS) : Prop where
  st : s.st ≤ 6
  many : s.many ≤ 7
  size : s.size < 16 ^ s.many
  body : s.body ≤ 1048576
  head : s.st = 1 → 0 < s.many
  sum : s.st = 2 → s.size + s.body ≤ 1048576
  data : s.st = 3 → 0 < s.left ∧ s.left + s.body ≤ 1048576
theorem ci0 : CI cs0 := ⟨by decide, by decide, by decide, by decide, by decide, by decide, by decide⟩
theorem valC_lt (c : Int) : valC c < 16 := by unfold valC; split; omega; split; omega; split; omega; omega
theorem CI.big {s : CS} (h : CI s) : s.size < 268435456 := by
  have h1 := h.size
  have h2 : 16 ^ s.many ≤ 16 ^ 7 := Nat.pow_le_pow_right (by omega) h.many
  omega
theorem CI.fail {s : CS} (h : CI s) (code : Int) : CI (failC s code) := ⟨h.st, h.many, h.size, h.body, h.head, h.sum, h.data⟩
theorem CI.pos {s : CS} (h : CI s) : CI (posC s) := ⟨h.st, h.many, h.size, h.body, h.head, h.sum, h.data⟩
theorem CI.zero {s : CS} (h : CI s) (h0 : s.st = 0) : CI (zeroC s) := ⟨h.st, by unfold zeroC; simp, by unfold zeroC; simp, h.body, fun e => by unfold zeroC at e; simp [h0] at e, fun e => by unfold zeroC at e; simp [h0] at e, fun e => by unfold zeroC at e; simp [h0] at e⟩
theorem CI.dig {s : CS} (h : CI s) (c : Int) : CI (digC s c) := by
  unfold digC
  split
  · exact h.fail _
  · split
    · exact h.fail _
    · rename_i h1 h2
      have hv := valC_lt c
      have hm := h.many
      have hs := h.size
      refine ⟨by simp, by simp; omega, ?_, h.body, by simp, by simp, by simp⟩
      show s.size * 16 + (valC c).toNat < 16 ^ (s.many + 1)
      rw [Nat.pow_succ]
      omega
theorem CI.head_ {s : CS} (h : CI s) (c : Int) : CI (headC s c) := by
  unfold headC
  split
  · exact h.dig c
  · split
    · exact h.fail _
    · exact ⟨by simp, h.many, h.size, h.body, by simp, fun _ => by show s.size + s.body ≤ 1048576; omega, by simp⟩
theorem CI.must {s : CS} (h : CI s) (c want : Int) (st : Nat) (h1 : st ≤ 6) (h2 : st ≠ 1) (h3 : st ≠ 2) (h4 : st = 3 → 0 < s.left ∧ s.left + s.body ≤ 1048576) : CI (mustC s c want st) := by
  unfold mustC
  split
  · exact ⟨h1, h.many, h.size, h.body, fun e => absurd e h2, fun e => absurd e h3, h4⟩
  · exact h.fail _
theorem CI.left {s : CS} (h : CI s) (h2 : s.st = 2) : CI (leftC s) := ⟨h.st, h.many, h.size, h.body, h.head, h.sum, fun e => by unfold leftC at e; simp [h2] at e⟩
theorem CI.step {s : CS} (h : CI s) (c : Int) : CI (stepC s c) := by
  unfold stepC
  split
  · rename_i h0
    exact (h.zero h0).head_ c
  · split
    · exact h.head_ c
    · split
      · rename_i h2
        have hs := h.sum h2
        refine (h.left h2).must _ _ _ (by split <;> omega) (by split <;> omega) (by split <;> omega) fun e => ?_
        split at e
        · omega
        · exact ⟨by unfold leftC; simp; omega, by unfold leftC; simp; omega⟩
      · split
        · exact h.must _ _ _ (by omega) (by omega) (by omega) (by omega)
        · exact h.must _ _ _ (by split <;> omega) (by split <;> omega) (by split <;> omega) (fun e => by split at e <;> omega)
theorem CI.take {s : CS} (h : CI s) (n : Nat) (h3 : s.st = 3) (hn : n ≤ s.left) : CI (dataC s n) := by
  obtain ⟨h1, h2⟩ := h.data h3
  have hb := h.body
  unfold dataC
  refine ⟨?_, h.many, h.size, ?_, ?_, ?_, ?_⟩
  · simp only; split <;> omega
  · simp only; omega
  · simp only; intro e; split at e <;> omega
  · simp only; intro e; split at e <;> omega
  · simp only; intro e
    split at e
    · omega
    · omega
theorem CI.run : ∀ (cs : List Int) {s : CS}, CI s → CI (runC s cs).1
  | [], _, h => h
  | c :: cs, s, h => by
    unfold runC
    split
    · exact h
    · split
      · rename_i h3
        exact CI.run cs (h.take 1 h3 (h.data h3).1)
      · split
        · exact h.step c
        · exact CI.run cs (h.step c).pos
theorem run_le : ∀ (cs : List Int) (s : CS), (runC s cs).2.2 ≤ cs.length
  | [], _ => Nat.le_refl _
  | c :: cs, s => by
    unfold runC
    split
    · simp
    · split
      · have := run_le cs (dataC s 1); simp only [comb, List.length_cons]; omega
      · split
        · simp
        · have := run_le cs (posC (stepC s c)); simp only [comb, List.length_cons]; omega
theorem run_append_ok : ∀ (xs ys : List Int) (s : CS), (runC s xs).1.err = none → runC s (xs ++ ys) = comb (runC s xs).2.1 (runC s xs).2.2 (runC (runC s xs).1 ys)
  | [], ys, s, _ => by rw [List.nil_append, run_nil]; exact (comb_zero _).symm
  | c :: cs, ys, s, h => by
    rw [List.cons_append]
    by_cases h0 : s.err ≠ none ∨ s.st = 6
    · rw [run_stop s _ h0, run_stop s _ h0, comb_zero, run_stop s ys h0]
    · have he : s.err = none := by simpa using (not_or.1 h0).1
      have h6 := (not_or.1 h0).2
      by_cases h3 : s.st = 3
      · rw [run_data1 s c _ he h3] at h ⊢
        rw [run_data1 s c _ he h3, run_append_ok cs ys _ (by simpa [comb] using h), comb_comb]
        rfl
      · by_cases hf : (stepC s c).err = none
        · rw [run_ok s c _ he h6 h3 hf] at h ⊢
          rw [run_ok s c _ he h6 h3 hf, run_append_ok cs ys _ (by simpa [comb] using h), comb_comb]
          rfl
        · rw [run_fail s c _ he h6 h3 hf] at h
          exact absurd h hf
theorem run_append_err : ∀ (xs ys : List Int) (s : CS), s.err = none → (runC s xs).1.err ≠ none → runC s (xs ++ ys) = runC s xs
  | [], ys, s, he, h => absurd he h
  | c :: cs, ys, s, he, h => by
    rw [List.cons_append]
    by_cases h6 : s.st = 6
    · rw [run_stop s _ (.inr h6)] at h
      exact absurd he h
    · by_cases h3 : s.st = 3
      · rw [run_data1 s c _ he h3] at h
        rw [run_data1 s c _ he h3, run_data1 s c _ he h3, run_append_err cs ys (dataC s 1) he (by simpa [comb] using h)]
      · by_cases hf : (stepC s c).err = none
        · rw [run_ok s c _ he h6 h3 hf] at h
          rw [run_ok s c _ he h6 h3 hf, run_ok s c _ he h6 h3 hf, run_append_err cs ys (posC (stepC s c)) hf (by simpa [comb] using h)]
        · rw [run_fail s c _ he h6 h3 hf, run_fail s c _ he h6 h3 hf]
end Go.Proofs.YtgpmkiamfbbfmaaDoor
