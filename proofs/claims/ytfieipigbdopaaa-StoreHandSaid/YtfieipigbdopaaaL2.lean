/- Plain law: what a store tells of a key is what was put last under it. -/
import Derived.Test.YtfieipigbdopaaaL1
set_option linter.unusedVariables false
set_option linter.unusedSimpArgs false
namespace Go.Proofs.Ytfieipigbdopaaa
structure ActT where
  kind : Int
  now : Int
  age : Int
  key : ByteArray
  bytes : List Int
def stF (acts : List ActT) (key : ByteArray) (n0 : Nat) : Nat → (List SE × Nat) × Int
  | 0 => ((List.replicate n0 se0, 0), -1)
  | k + 1 => match acts[k]? with
    | some a =>
      if amongI a.kind 6 = 4 then ((dropS (stF acts key n0 k).1.1 a.key, (stF acts key n0 k).1.2), if sEq a.key key = true then -1 else (stF acts key n0 k).2)
      else (putR 64 (stF acts key n0 k).1.1 (stF acts key n0 k).1.2 a.now a.key a.bytes a.age, if putE 64 (stF acts key n0 k).1.1 a.now a.key a.bytes.length a.age = 0 ∧ sEq a.key key = true then (k : Int) else (stF acts key n0 k).2)
    | none => stF acts key n0 k
def LastIs (acts : List ActT) (last : Int) (x : SE) : Prop := ∃ (q : Nat) (a : ActT), last = q ∧ acts[q]? = some a ∧ x.b = a.bytes ∧ x.at_ = a.now ∧ x.age = a.age ∧ (0 ≤ a.now ∧ a.now ≤ 1099511627776)
theorem LastIs.of_clr {acts : List ActT} {last : Int} {x y : SE} (h : LastIs acts last x) (e : clr y = clr x) : LastIs acts last y := by
  obtain ⟨q, a, h1, h2, h3, h4, h5, h6⟩ := h
  obtain ⟨-, e2, e3, e4⟩ := clr_key e
  exact ⟨q, a, h1, h2, e2.trans h3, e3.trans h4, e4.trans h5, h6⟩
theorem stF_inv (acts : List ActT) (key : ByteArray) (n0 : Nat) : ∀ k, Uniq (stF acts key n0 k).1.1 ∧ ((stF acts key n0 k).1.2 < (stF acts key n0 k).1.1.length ∨ (stF acts key n0 k).1.2 = 0) ∧ ∀ (j : Nat) (x : SE), (stF acts key n0 k).1.1[j]? = some x → x.key = key → key.toList.isEmpty = false → LastIs acts (stF acts key n0 k).2 x
  | 0 => by
    refine ⟨uniq_new n0, .inr rfl, fun j x hx hxn hne => ?_⟩
    have := (List.mem_replicate.1 (List.mem_of_getElem? hx)).2
    subst this
    subst hxn
    simp [se0, ByteArray.toList_eq] at hne
  | k + 1 => by
    obtain ⟨hu, hh, hl⟩ := stF_inv acts key n0 k
    cases ha : acts[k]? with
    | none => simp only [stF, ha]; exact ⟨hu, hh, hl⟩
    | some a =>
      simp only [stF, ha]
      by_cases hk : amongI a.kind 6 = 4
      · obtain ⟨d1, d2, d3⟩ := dropS_get (k := a.key) hu
        rw [if_pos hk]
        refine ⟨d1, by rw [d2]; exact hh, fun j x hx hxn hne => ?_⟩
        obtain ⟨g1, g2⟩ := d3 j x hx (by rw [hxn]; exact hne)
        rw [if_neg (fun e => g1 (by rw [hxn, ← sEq_iff.1 e]))]
        exact hl j x g2 hxn hne
      · rw [if_neg hk]
        obtain ⟨l1, l2⟩ := putR_len (keep := 64) (now := a.now) (age := a.age) (k := a.key) (bs := a.bytes) hh
        by_cases h0 : putE 64 (stF acts key n0 k).1.1 a.now a.key a.bytes.length a.age = 0
        · obtain ⟨hn, -⟩ := putE_ok h0
          obtain ⟨hu', hg⟩ := putR_get hu hh h0
          refine ⟨hu', by rw [l1]; exact l2, fun j x hx hxn hne => ?_⟩
          obtain ⟨g1, g2⟩ := hg j x hx
          by_cases e : x.key = a.key
          · rw [if_pos ⟨h0, sEq_iff.2 (by rw [← e, hxn])⟩]
            rw [g1 e]
            exact ⟨k, a, rfl, ha, rfl, rfl, rfl, hn⟩
          · rw [if_neg (fun h => e (by rw [hxn, sEq_iff.1 h.2]))]
            obtain ⟨x', hx', ex⟩ := g2 e
            exact (hl j x' hx' (by rw [← (clr_key ex).1, hxn]) hne).of_clr ex
        · rw [if_neg (fun h => h0 h.1), putR_bad h0]
          exact ⟨hu, hh, hl⟩
/-- What is told. -/
theorem get_tells (acts : List ActT) (key : ByteArray) (n0 k : Nat) (now : Int) :
    (∃ c, (getS (stF acts key n0 k).1.1 now key).1 = ([], 0, c) ∧ c ≠ 0) ∨
    ∃ (q : Nat) (a : ActT), (stF acts key n0 k).2 = q ∧ acts[q]? = some a ∧ (getS (stF acts key n0 k).1.1 now key).1 = (a.bytes, now - a.now, 0) ∧ 0 ≤ now ∧ now ≤ 1099511627776 ∧ 0 ≤ a.now ∧ a.now ≤ now ∧ now - a.now < a.age := by
  rcases getS_cases (stF acts key n0 k).1.1 now key with ⟨c, h, hc⟩ | ⟨j, x, hx, hxk, hne, hg, h1, h2, h3, h4⟩
  · exact .inl ⟨c, h, hc⟩
  · obtain ⟨q, a, g1, g2, g3, g4, g5, g6⟩ := (stF_inv acts key n0 k).2.2 j x hx hxk hne
    refine .inr ⟨q, a, g1, g2, ?_, h1, h2, g6.1, by omega, by omega⟩
    rw [hg, g3, g4]
end Go.Proofs.Ytfieipigbdopaaa
