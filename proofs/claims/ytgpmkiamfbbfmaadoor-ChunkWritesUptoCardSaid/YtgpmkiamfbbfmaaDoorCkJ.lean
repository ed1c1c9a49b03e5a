/- The machine, a part at a time: a size's digits, its line, a chunk's bytes, its end. -/
import Derived.Test.YtgpmkiamfbbfmaaDoorCkD
set_option linter.unusedVariables false
set_option linter.unusedSimpArgs false
namespace Go.Proofs.YtgpmkiamfbbfmaaDoor
open Go Go.RowKit
section
variable {σ w w' : World} {Hs : List Hp} {H H1 H2 M N Y : Hp}
/-- Ahead of a chunk. -/
structure RdO (r : CR) (bs : List Int) (s : CS) (p : Nat) (out : List Int) : Prop where
  st : s.st = 0
  err : s.err = none
  ci : CI s
  pos : s.pos = p
  body : s.body = out.length
  run : comb out p (runC s (bs.drop p)) = r
/-- Within a size. -/
structure RdI2 (r : CR) (bs : List Int) (s : CS) (p q n : Nat) (out : List Int) : Prop where
  st : (q = p ∧ s.st = 0 ∧ n = 0) ∨ (p < q ∧ s.st = 1 ∧ s.many = q - p ∧ s.size = n)
  err : s.err = none
  ci : CI s
  pos : s.pos = q
  body : s.body = out.length
  run : comb out q (runC s (bs.drop q)) = r
theorem RdO.in {r : CR} {bs : List Int} {s : CS} {p : Nat} {out : List Int} (h : RdO r bs s p out) : RdI2 r bs s p p 0 out := ⟨.inl ⟨rfl, h.st, rfl⟩, h.err, h.ci, h.pos, h.body, h.run⟩
/-- What a size's byte does, by the value of the digit. -/
theorem step_size {r : CR} {bs : List Int} {s : CS} {p q n : Nat} {out : List Int} {x : Int} (h : RdI2 r bs s p q n out) (hx : bs[q]? = some x) (h13 : x ≠ 13) :
    (valC x < 0 ∧ p < q → ∃ t : CS, r = (t, out, q) ∧ t.err = some (q, 91) ∧ t.st ≠ 6) ∧
    ((valC x < 0 ∧ q = p) ∨ (0 ≤ valC x ∧ (q - p = 7 ∨ (q - p = 1 ∧ n = 0))) → ∃ t : CS, r = (t, out, q) ∧ t.err = some (q, 90) ∧ t.st ≠ 6) ∧
    (0 ≤ valC x ∧ q - p ≠ 7 ∧ ¬ (q - p = 1 ∧ n = 0) → ∃ t : CS, RdI2 r bs t p (q + 1) (n * 16 + (valC x).toNat) out) := by
  have hd := drop_cons hx
  have hst : s.st = 0 ∨ s.st = 1 := by rcases h.st with h | h; exact .inl h.2.1; exact .inr h.2.1
  have h6 : s.st ≠ 6 := by omega
  have h3 : s.st ≠ 3 := by omega
  -- the state whose digit is read, and its step
  obtain ⟨s0, e0, em, es, eerr, epos, ebody, est⟩ : ∃ s0 : CS, stepC s x = digC s0 x ∧ s0.many = q - p ∧ s0.size = n ∧ s0.err = none ∧ s0.pos = q ∧ s0.body = out.length ∧ (s0.st = 0 ∨ s0.st = 1) := by
    rcases h.st with ⟨a, b, c⟩ | ⟨a, b, c, d⟩
    · refine ⟨zeroC s, ?_, ?_, ?_, h.err, h.pos, h.body, .inl b⟩
      · unfold stepC; rw [if_pos b]; unfold headC; rw [if_pos (.inl h13)]
      · show 0 = q - p; omega
      · show 0 = n; omega
    · refine ⟨s, ?_, c, d, h.err, h.pos, h.body, .inr b⟩
      unfold stepC; rw [if_neg (by omega), if_pos b]; unfold headC; rw [if_pos (.inl h13)]
  have hfail : ∀ code, digC s0 x = failC s0 code → ∃ t : CS, r = (t, out, q) ∧ t.err = some (q, code) ∧ t.st ≠ 6 := fun code hc => by
    refine ⟨failC s0 code, ?_, by show some (s0.pos, code) = _; rw [epos], by show s0.st ≠ 6; omega⟩
    rw [← h.run, hd, run_fail s x _ h.err h6 h3 (by rw [e0, hc]; simp [failC]), e0, hc]
    unfold comb; simp
  refine ⟨fun hc => hfail 91 ?_, fun hc => hfail 90 ?_, fun hc => ?_⟩
  · unfold digC; rw [if_pos ⟨hc.1, by omega⟩]
  · unfold digC
    rcases hc with ⟨a, b⟩ | ⟨a, b⟩
    · rw [if_neg (by omega), if_pos (.inl a)]
    · rw [if_neg (by omega), if_pos (.inr (by rcases b with b | b; exact .inl (by omega); exact .inr (by omega)))]
  · have ed : digC s0 x = { s0 with size := s0.size * 16 + (valC x).toNat, many := s0.many + 1, st := 1 } := by
      unfold digC
      rw [if_neg (by omega), if_neg (by omega)]
    have hok : (stepC s x).err = none := by rw [e0, ed]; exact eerr
    refine ⟨posC (stepC s x), ⟨.inr ⟨?_, ?_, ?_, ?_⟩, hok, (h.ci.step x).pos, ?_, ?_, ?_⟩⟩
    · rcases h.st with a | a <;> omega
    · rw [e0, ed]; rfl
    · rw [e0, ed]; show s0.many + 1 = _; rcases h.st with a | a <;> omega
    · rw [e0, ed]; show s0.size * 16 + _ = _; rw [es]
    · rw [e0, ed]; show s0.pos + 1 = _; rw [epos]
    · rw [e0, ed]; exact ebody
    · rw [← h.run, hd, run_ok s x _ h.err h6 h3 hok, comb_comb, List.append_nil]
/-- Behind a size's line. -/
structure RdM (r : CR) (bs : List Int) (s : CS) (p n : Nat) (out : List Int) : Prop where
  st : (n = 0 ∧ s.st = 4) ∨ (0 < n ∧ s.st = 3 ∧ s.left = n)
  size : s.size = n
  err : s.err = none
  ci : CI s
  pos : s.pos = p
  body : s.body = out.length
  run : comb out p (runC s (bs.drop p)) = r
/-- Behind a chunk's bytes. -/
structure RdE (r : CR) (bs : List Int) (s : CS) (p n : Nat) (out : List Int) : Prop where
  st : s.st = 4
  size : s.size = n
  err : s.err = none
  ci : CI s
  pos : s.pos = p
  body : s.body = out.length
  run : comb out p (runC s (bs.drop p)) = r
theorem drop_none {bs : List Int} {q : Nat} (h : bs[q]? = none) : bs.drop q = [] := List.drop_eq_nil_of_le (List.getElem?_eq_none_iff.1 h)
theorem size_end {r : CR} {bs : List Int} {s : CS} {p n : Nat} {out : List Int} (h : RdI2 r bs s p bs.length n out) : ∃ t : CS, r = (t, out, bs.length) ∧ t.err = none ∧ t.st ≠ 6 :=
  ⟨s, by rw [← h.run, List.drop_length, run_nil]; unfold comb; simp, h.err, by rcases h.st with a | a <;> omega⟩
theorem size_empty {r : CR} {bs : List Int} {s : CS} {p n : Nat} {out : List Int} (h : RdI2 r bs s p p n out) (hx : bs[p]? = some 13) : ∃ t : CS, r = (t, out, p) ∧ t.err = some (p, 90) ∧ t.st ≠ 6 := by
  have hst : s.st = 0 := by rcases h.st with a | a <;> omega
  have e0 : stepC s 13 = failC (zeroC s) 90 := by
    unfold stepC; rw [if_pos hst]; unfold headC; rw [if_pos (.inr rfl)]
    unfold digC; rw [if_neg (fun h => absurd h.2 (by show ¬ 0 < 0; omega)), if_pos (.inl (by decide))]
  refine ⟨failC (zeroC s) 90, ?_, by show some (s.pos, (90 : Int)) = _; rw [h.pos], by show s.st ≠ 6; omega⟩
  rw [← h.run, drop_cons hx, run_fail s 13 _ h.err (by omega) (by omega) (by rw [e0]; simp [failC]), e0]
  unfold comb; simp
theorem size_big {r : CR} {bs : List Int} {s : CS} {p q n : Nat} {out : List Int} (h : RdI2 r bs s p q n out) (hq : p < q) (hx : bs[q]? = some 13) (hn : 1048576 < n + out.length) : ∃ t : CS, r = (t, out, q) ∧ t.err = some (q, 90) ∧ t.st ≠ 6 := by
  obtain ⟨a, hst, hm, hs⟩ : p < q ∧ s.st = 1 ∧ s.many = q - p ∧ s.size = n := by rcases h.st with a | a; omega; exact a
  have hb := h.body
  have e0 : stepC s 13 = failC s 90 := by
    unfold stepC; rw [if_neg (by omega), if_pos hst]; unfold headC; rw [if_neg (by simp; omega), if_pos (by omega)]
  refine ⟨failC s 90, ?_, by show some (s.pos, (90 : Int)) = _; rw [h.pos], by show s.st ≠ 6; omega⟩
  rw [← h.run, drop_cons hx, run_fail s 13 _ h.err (by omega) (by omega) (by rw [e0]; simp [failC]), e0]
  unfold comb; simp
theorem size_line {r : CR} {bs : List Int} {s : CS} {p q n : Nat} {out : List Int} (h : RdI2 r bs s p q n out) (hq : p < q) (hx : bs[q]? = some 13) (hn : n + out.length ≤ 1048576) :
    (bs[q + 1]? = none → ∃ t : CS, r = (t, out, bs.length) ∧ t.err = none ∧ t.st ≠ 6) ∧
    (∀ y, bs[q + 1]? = some y → y ≠ 10 → ∃ t : CS, r = (t, out, q + 1) ∧ t.err = some (q + 1, 91) ∧ t.st ≠ 6) ∧
    (bs[q + 1]? = some 10 → ∃ t : CS, RdM r bs t (q + 2) n out) := by
  obtain ⟨a, hst, hm, hs⟩ : p < q ∧ s.st = 1 ∧ s.many = q - p ∧ s.size = n := by rcases h.st with a | a; omega; exact a
  have hb := h.body
  have e0 : stepC s 13 = { s with st := 2 } := by
    unfold stepC; rw [if_neg (by omega), if_pos hst]; unfold headC; rw [if_neg (by simp; omega), if_neg (by omega)]
  have hq1 := (List.getElem?_eq_some_iff.1 hx).1
  obtain ⟨t, ht⟩ : ∃ t : CS, t = posC { s with st := 2 } := ⟨_, rfl⟩
  have hr : comb out (q + 1) (runC t (bs.drop (q + 1))) = r := by
    rw [← h.run, drop_cons hx, run_ok s 13 _ h.err (by omega) (by omega) (by rw [e0]; exact h.err), e0, comb_comb, List.append_nil, ht]
  have hci : CI t := by rw [ht, ← e0]; exact (h.ci.step 13).pos
  have t1 : t.st = 2 := by rw [ht]; rfl
  have t2 : t.err = none := by rw [ht]; exact h.err
  have t3 : t.pos = q + 1 := by rw [ht]; show s.pos + 1 = _; rw [h.pos]
  have t4 : t.size = n := by rw [ht]; exact hs
  have t5 : t.body = out.length := by rw [ht]; exact h.body
  clear ht e0
  refine ⟨fun hy => ?_, fun y hy h10 => ?_, fun hy => ?_⟩
  · have := List.getElem?_eq_none_iff.1 hy
    have e : bs.length = q + 1 := by omega
    refine ⟨t, ?_, t2, by omega⟩
    rw [e, ← hr, drop_none hy, run_nil]; unfold comb; simp
  · have e1 : stepC t y = failC (leftC t) 91 := by
      unfold stepC; rw [if_neg (by omega), if_neg (by omega), if_pos t1]; unfold mustC; rw [if_neg h10]
    refine ⟨failC (leftC t) 91, ?_, by show some (t.pos, (91 : Int)) = _; rw [t3], by show t.st ≠ 6; omega⟩
    rw [← hr, drop_cons hy, run_fail t y _ t2 (by omega) (by omega) (by rw [e1]; simp [failC]), e1]
    unfold comb; simp
  · have e1 : stepC t 10 = { leftC t with st := if t.size = 0 then 4 else 3 } := by
      unfold stepC; rw [if_neg (by omega), if_neg (by omega), if_pos t1]; unfold mustC; rw [if_pos rfl]
    have hok : (stepC t 10).err = none := by rw [e1]; exact t2
    refine ⟨posC (stepC t 10), ?_, ?_, hok, (hci.step 10).pos, ?_, ?_, ?_⟩
    · rw [e1]
      by_cases hz : t.size = 0
      · exact .inl ⟨by omega, by show (if t.size = 0 then 4 else 3) = 4; rw [if_pos hz]⟩
      · exact .inr ⟨by omega, by show (if t.size = 0 then 4 else 3) = 3; rw [if_neg hz], t4⟩
    · rw [e1]; exact t4
    · rw [e1]; show t.pos + 1 = _; rw [t3]
    · rw [e1]; exact t5
    · rw [← hr, drop_cons hy, run_ok t 10 _ t2 (by omega) (by omega) hok, comb_comb, List.append_nil]
theorem data_short {r : CR} {bs : List Int} {s : CS} {p n : Nat} {out : List Int} (h : RdM r bs s p n out) (hp : p ≤ bs.length) (hn : bs.length - p < n) : ∃ t : CS, r = (t, out ++ bs.drop p, bs.length) ∧ t.err = none ∧ t.st ≠ 6 := by
  obtain ⟨_, hst, hl⟩ : 0 < n ∧ s.st = 3 ∧ s.left = n := by rcases h.st with a | a; omega; exact a
  by_cases h0 : bs.length - p = 0
  · have e : p = bs.length := by omega
    subst e
    exact ⟨s, by rw [← h.run, List.drop_length, run_nil]; unfold comb; simp, h.err, by omega⟩
  · have hlen : (bs.drop p).length = bs.length - p := List.length_drop
    have hr := run_data (bs.length - p) s (bs.drop p) h.err hst (by omega) (by omega) (by omega)
    rw [← hlen, List.take_length, List.drop_length, run_nil] at hr
    refine ⟨dataC s (bs.drop p).length, ?_, h.err, ?_⟩
    · rw [← h.run, hr, comb_comb]
      unfold comb
      simp
      omega
    · unfold dataC
      simp only
      rw [if_neg (by omega)]
      omega
theorem data_full {r : CR} {bs : List Int} {s : CS} {p n : Nat} {out : List Int} (h : RdM r bs s p n out) (hp : p ≤ bs.length) (hn : n ≤ bs.length - p) : ∃ t : CS, RdE r bs t (p + n) n (out ++ (bs.drop p).take n) := by
  rcases h.st with ⟨hz, hst⟩ | ⟨hz, hst, hl⟩
  · subst hz
    exact ⟨s, hst, h.size, h.err, h.ci, h.pos, by rw [List.take_zero, List.append_nil]; exact h.body, by rw [List.take_zero, List.append_nil]; exact h.run⟩
  · have hlen : (bs.drop p).length = bs.length - p := List.length_drop
    have hr := run_data n s (bs.drop p) h.err hst hz (by omega) (by omega)
    refine ⟨dataC s n, ?_, h.size, h.err, h.ci.take n hst (by omega), ?_, ?_, ?_⟩
    · unfold dataC; simp only; rw [if_pos (by omega)]
    · show s.pos + n = _; rw [h.pos]
    · show s.body + n = _; rw [h.body, List.length_append, List.length_take, hlen]; omega
    · rw [← h.run, hr, comb_comb, List.drop_drop]
theorem end_line {r : CR} {bs : List Int} {s : CS} {p n : Nat} {out : List Int} (h : RdE r bs s p n out) (hp : p ≤ bs.length) :
    (bs[p]? = none → ∃ t : CS, r = (t, out, bs.length) ∧ t.err = none ∧ t.st ≠ 6) ∧
    (∀ x, bs[p]? = some x → x ≠ 13 → ∃ t : CS, r = (t, out, p) ∧ t.err = some (p, 91) ∧ t.st ≠ 6) ∧
    (bs[p]? = some 13 → bs[p + 1]? = none → ∃ t : CS, r = (t, out, bs.length) ∧ t.err = none ∧ t.st ≠ 6) ∧
    (∀ y, bs[p]? = some 13 → bs[p + 1]? = some y → y ≠ 10 → ∃ t : CS, r = (t, out, p + 1) ∧ t.err = some (p + 1, 91) ∧ t.st ≠ 6) ∧
    (bs[p]? = some 13 → bs[p + 1]? = some 10 → n = 0 → ∃ t : CS, r = (t, out, p + 2) ∧ t.err = none ∧ t.st = 6) ∧
    (bs[p]? = some 13 → bs[p + 1]? = some 10 → n ≠ 0 → ∃ t : CS, RdO r bs t (p + 2) out) := by
  have hst := h.st
  have e0 : ∀ x, stepC s x = mustC s x 13 5 := fun x => by unfold stepC; rw [if_neg (by omega), if_neg (by omega), if_neg (by omega), if_pos hst]
  have key : bs[p]? = some 13 → ∃ t : CS, t.st = 5 ∧ t.err = none ∧ t.pos = p + 1 ∧ t.size = n ∧ t.body = out.length ∧ CI t ∧ comb out (p + 1) (runC t (bs.drop (p + 1))) = r := fun hx => by
    have e1 : stepC s 13 = { s with st := 5 } := by rw [e0]; unfold mustC; rw [if_pos rfl]
    have hok : (stepC s 13).err = none := by rw [e1]; exact h.err
    refine ⟨posC (stepC s 13), by rw [e1]; rfl, hok, by rw [e1]; show s.pos + 1 = _; rw [h.pos], by rw [e1]; exact h.size, by rw [e1]; exact h.body, (h.ci.step 13).pos, ?_⟩
    rw [← h.run, drop_cons hx, run_ok s 13 _ h.err (by omega) (by omega) hok, comb_comb, List.append_nil]
  have five : ∀ (t : CS) (x : Int), t.st = 5 → stepC t x = mustC t x 10 (if t.size = 0 then 6 else 0) := fun t x ht => by
    unfold stepC; rw [if_neg (by omega), if_neg (by omega), if_neg (by omega), if_neg (by omega)]
  refine ⟨fun hx => ?_, fun x hx h13 => ?_, fun hx hy => ?_, fun y hx hy h10 => ?_, fun hx hy hn => ?_, fun hx hy hn => ?_⟩
  · have := List.getElem?_eq_none_iff.1 hx
    have e : bs.length = p := by omega
    refine ⟨s, ?_, h.err, by omega⟩
    rw [e, ← h.run, drop_none hx, run_nil]; unfold comb; simp
  · have e1 : stepC s x = failC s 91 := by rw [e0]; unfold mustC; rw [if_neg h13]
    refine ⟨failC s 91, ?_, by show some (s.pos, (91 : Int)) = _; rw [h.pos], by show s.st ≠ 6; omega⟩
    rw [← h.run, drop_cons hx, run_fail s x _ h.err (by omega) (by omega) (by rw [e1]; simp [failC]), e1]
    unfold comb; simp
  · obtain ⟨t, t1, t2, t3, t4, t5, t6, t7⟩ := key hx
    have h1 := (List.getElem?_eq_some_iff.1 hx).1
    have h2 := List.getElem?_eq_none_iff.1 hy
    have e : bs.length = p + 1 := by omega
    refine ⟨t, ?_, t2, by omega⟩
    rw [e, ← t7, drop_none hy, run_nil]; unfold comb; simp
  · obtain ⟨t, t1, t2, t3, t4, t5, t6, t7⟩ := key hx
    have e1 : stepC t y = failC t 91 := by rw [five t y t1]; unfold mustC; rw [if_neg h10]
    refine ⟨failC t 91, ?_, by show some (t.pos, (91 : Int)) = _; rw [t3], by show t.st ≠ 6; omega⟩
    rw [← t7, drop_cons hy, run_fail t y _ t2 (by omega) (by omega) (by rw [e1]; simp [failC]), e1]
    unfold comb; simp
  · obtain ⟨t, t1, t2, t3, t4, t5, t6, t7⟩ := key hx
    have e1 : stepC t 10 = { t with st := 6 } := by rw [five t 10 t1, if_pos (by omega)]; unfold mustC; rw [if_pos rfl]
    have hok : (stepC t 10).err = none := by rw [e1]; exact t2
    refine ⟨posC (stepC t 10), ?_, hok, by rw [e1]; rfl⟩
    rw [← t7, drop_cons hy, run_ok t 10 _ t2 (by omega) (by omega) hok, comb_comb, List.append_nil, run_stop _ _ (.inr (by rw [e1]; rfl))]
    unfold comb; simp
  · obtain ⟨t, t1, t2, t3, t4, t5, t6, t7⟩ := key hx
    have e1 : stepC t 10 = { t with st := 0 } := by rw [five t 10 t1, if_neg (by omega)]; unfold mustC; rw [if_pos rfl]
    have hok : (stepC t 10).err = none := by rw [e1]; exact t2
    refine ⟨posC (stepC t 10), by rw [e1]; rfl, hok, (t6.step 10).pos, by rw [e1]; show t.pos + 1 = _; rw [t3], by rw [e1]; exact t5, ?_⟩
    rw [← t7, drop_cons hy, run_ok t 10 _ t2 (by omega) (by omega) hok, comb_comb, List.append_nil]
end
end Go.Proofs.YtgpmkiamfbbfmaaDoor
