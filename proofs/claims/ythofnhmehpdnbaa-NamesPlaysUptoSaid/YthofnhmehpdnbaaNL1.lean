/- Plain law: what a table tells of a name is what was put last under it. -/
import Derived.Test.YthofnhmehpdnbaaN13
set_option linter.unusedVariables false
namespace Go.Proofs.Ythofnhmehpdnbaa
structure ActT where
  kind : Int
  now : Int
  ttl : Int
  name : ByteArray
  addrs : List Ad
def stF (acts : List ActT) (nm : ByteArray) (n0 : Nat) : Nat → List Ent × Int
  | 0 => (List.replicate n0 ⟨⟨#[]⟩, [], 0⟩, -1)
  | k + 1 => match acts[k]? with
    | some a => (putR (stF acts nm n0 k).1 a.now a.name a.addrs a.ttl, if putE (stF acts nm n0 k).1 a.now a.name a.addrs.length a.ttl = 0 ∧ sEq a.name nm = true then (k : Int) else (stF acts nm n0 k).2)
    | none => stF acts nm n0 k
/-- No name has two entries. -/
def Uniq (xs : List Ent) : Prop := ∀ (i j : Nat) (x y : Ent), xs[i]? = some x → xs[j]? = some y → x.name = y.name → x.name.toList.isEmpty = false → i = j
theorem putR_length (xs : List Ent) (now : Int) (nm : ByteArray) (addrs : List Ad) (ttl : Int) : (putR xs now nm addrs ttl).length = xs.length := by
  unfold putR putL
  split <;> (try split) <;> (try split) <;> simp
theorem nmP_iff {nm : ByteArray} {x : Ent} : nmP nm x = true ↔ x.name = nm := sEq_iff
theorem place_lt {xs : List Ent} (now : Int) (nm : ByteArray) (h : 0 < xs.length) : ∃ k : Nat, placeI xs now nm = k ∧ k < xs.length := by
  have key : ∀ p : Ent → Bool, ¬ (0 ≤ idxI p xs) ∨ ∃ k : Nat, idxI p xs = k ∧ k < xs.length := by
    intro p
    rcases idx_cases p xs with ⟨h1, _⟩ | ⟨k, x, h1, h2, _⟩
    · exact .inl (by omega)
    · exact .inr ⟨k, h1, (List.getElem?_eq_some_iff.1 h2).1⟩
  unfold placeI
  split
  · rcases key (nmP nm) with h1 | h1
    · omega
    · exact h1
  · split
    · rcases key (deadP now) with h1 | h1
      · omega
      · exact h1
    · rcases idx_cases (leastP xs) xs with ⟨h1, h2⟩ | ⟨k, x, h1, h2, _⟩
      · exfalso
        have hmin : ∀ xs : List Ent, 0 < xs.length → ∃ x ∈ xs, ∀ y ∈ xs, x.till ≤ y.till := by
          clear h1 h2 key h
          intro xs h
          induction xs with
          | nil => simp at h
          | cons a l ih =>
            by_cases hl : 0 < l.length
            · obtain ⟨x, hx, hm⟩ := ih hl
              by_cases hc : a.till ≤ x.till
              · exact ⟨a, by simp, fun y hy => by
                  rcases List.mem_cons.1 hy with rfl | hy
                  · exact Int.le_refl _
                  · have := hm y hy; omega⟩
              · exact ⟨x, by simp [hx], fun y hy => by
                  rcases List.mem_cons.1 hy with rfl | hy
                  · omega
                  · exact hm y hy⟩
            · obtain rfl : l = [] := List.eq_nil_of_length_eq_zero (by omega)
              exact ⟨a, by simp, fun y hy => by simp at hy; subst hy; exact Int.le_refl _⟩
        obtain ⟨x, hx, hm⟩ := hmin xs h
        have := List.find?_eq_none.1 h2 x hx
        exact this (by unfold leastP; rw [List.all_eq_true]; intro y hy; simpa using hm y hy)
      · exact ⟨k, h1, (List.getElem?_eq_some_iff.1 h2).1⟩
/-- Of the slots at most one has the name, and if one has it, it is the place. -/
theorem place_name {xs : List Ent} (now : Int) (nm : ByteArray) (hu : Uniq xs) (hn : nm.toList.isEmpty = false) (k : Nat) (hk : placeI xs now nm = k) : ∀ (j : Nat) (x : Ent), xs[j]? = some x → x.name = nm → j = k := by
  intro j x hx hxn
  rcases idx_cases (nmP nm) xs with ⟨h1, h2⟩ | ⟨q, y, h1, h2, _, h3, _⟩
  · have := List.find?_eq_none.1 h2 x (List.mem_of_getElem? hx)
    exact absurd (nmP_iff.2 hxn) (by simpa using this)
  · have : placeI xs now nm = q := by unfold placeI; rw [h1, if_pos (by omega)]
    have hq : q = k := by omega
    subst hq
    exact hu j q x y hx h2 (by rw [hxn, nmP_iff.1 h3]) (by rw [hxn]; exact hn)
theorem bad_name {now ttl : Int} {nm : ByteArray} {n : Nat} (h : putBad now nm n ttl = false) : nm.toList.isEmpty = false ∧ 0 ≤ ttl ∧ ttl ≤ 1048576 ∧ 0 ≤ now ∧ now ≤ 1099511627776 ∧ n ≤ 16 ∧ nm.size ≤ 253 := by
  simp [putBad] at h
  obtain ⟨⟨⟨⟨⟨h1, h2⟩, h3⟩, h4⟩, h5⟩, h6⟩ := h
  have h1' : 0 ≤ now ∧ now ≤ 1099511627776 := by simpa [momB] using h1
  exact ⟨by simpa using h2, h5, h6, h1'.1, h1'.2, h4, h3⟩
/-- What an entry of a table was, or what was put. -/
theorem putR_get {xs : List Ent} {now ttl : Int} {nm : ByteArray} {addrs : List Ad} (hu : Uniq xs) (h0 : putE xs now nm addrs.length ttl = 0) :
    putBad now nm addrs.length ttl = false ∧ Uniq (putR xs now nm addrs ttl) ∧ (∀ (j : Nat) (x : Ent), (putR xs now nm addrs ttl)[j]? = some x → x.name.toList.isEmpty = false → (x.name = nm → 0 < ttl ∧ x = ⟨nm, addrs, now + ttl⟩) ∧ (x.name ≠ nm → xs[j]? = some x)) := by
  have hbad : putBad now nm addrs.length ttl = false := by
    unfold putE at h0
    cases h : putBad now nm addrs.length ttl
    · rfl
    · rw [h] at h0; simp at h0
  obtain ⟨hne, ht0, -⟩ := bad_name hbad
  have hlen : 0 < xs.length := by
    unfold putE at h0
    rw [hbad] at h0
    split at h0
    · simp at h0
    · split at h0
      · simp at h0
      · omega
  have hR : putR xs now nm addrs ttl = putL xs now nm addrs ttl := by unfold putR; rw [if_pos h0]
  refine ⟨hbad, ?_⟩
  rw [hR]
  unfold putL
  by_cases hz : ttl = 0
  · rw [if_pos hz]
    rcases idx_cases (nmP nm) xs with ⟨h1, h2⟩ | ⟨q, y, h1, h2, _, h3, _⟩
    · rw [h1, if_neg (by omega)]
      refine ⟨hu, fun j x hx hxe => ⟨fun hxn => ?_, fun _ => hx⟩⟩
      have := List.find?_eq_none.1 h2 x (List.mem_of_getElem? hx)
      exact absurd (nmP_iff.2 hxn) (by simpa using this)
    · rw [h1, if_pos (by omega), Int.toNat_natCast]
      have hq := (List.getElem?_eq_some_iff.1 h2).1
      have hget : ∀ (j : Nat) (x : Ent), (xs.set q ⟨⟨#[]⟩, [], 0⟩)[j]? = some x → x.name.toList.isEmpty = false → j ≠ q ∧ xs[j]? = some x := by
        intro j x hx hxe
        rw [List.getElem?_set] at hx
        split at hx
        · rename_i e
          cases hx
          simp [ByteArray.toList_eq] at hxe
        · exact ⟨fun e => by omega, hx⟩
      refine ⟨fun i j x y hx hy hxy hxe => ?_, fun j x hx hxe => ⟨fun hxn => ?_, fun _ => (hget j x hx hxe).2⟩⟩
      · exact hu i j x y (hget i x hx hxe).2 (hget j y hy (by rw [← hxy]; exact hxe)).2 hxy hxe
      · obtain ⟨hj, hjx⟩ := hget j x hx hxe
        exact absurd (hu j q x y hjx h2 (by rw [hxn, nmP_iff.1 h3]) hxe) hj
  · rw [if_neg hz]
    obtain ⟨k, hk, hkl⟩ := place_lt now nm hlen
    rw [hk, Int.toNat_natCast]
    have hpn := place_name now nm hu hne k hk
    have hget : ∀ (j : Nat) (x : Ent), (xs.set k ⟨nm, addrs, now + ttl⟩)[j]? = some x → (j = k ∧ x = ⟨nm, addrs, now + ttl⟩) ∨ (j ≠ k ∧ xs[j]? = some x) := by
      intro j x hx
      rw [List.getElem?_set] at hx
      split at hx
      · rename_i e
        cases hx
        exact .inl ⟨e.symm, rfl⟩
      · exact .inr ⟨fun e => by omega, hx⟩
    refine ⟨fun i j x y hx hy hxy hxe => ?_, fun j x hx hxe => ⟨fun hxn => ?_, fun hxn => ?_⟩⟩
    · rcases hget i x hx with ⟨rfl, rfl⟩ | ⟨h1, h2⟩
      · rcases hget j y hy with ⟨rfl, rfl⟩ | ⟨h3, h4⟩
        · rfl
        · exact (hpn j y h4 hxy.symm).symm
      · rcases hget j y hy with ⟨rfl, rfl⟩ | ⟨h3, h4⟩
        · exact hpn i x h2 hxy
        · exact hu i j x y h2 h4 hxy hxe
    · rcases hget j x hx with ⟨rfl, rfl⟩ | ⟨h1, h2⟩
      · exact ⟨by omega, rfl⟩
      · exact absurd (hpn j x h2 hxn) h1
    · rcases hget j x hx with ⟨rfl, rfl⟩ | ⟨h1, h2⟩
      · exact absurd rfl hxn
      · exact h2
def LastIs (acts : List ActT) (last : Int) (x : Ent) : Prop := ∃ (q : Nat) (a : ActT), last = q ∧ acts[q]? = some a ∧ x.addrs = a.addrs ∧ x.till = a.now + a.ttl ∧ 0 < a.ttl ∧ putBad a.now a.name a.addrs.length a.ttl = false
theorem stF_inv (acts : List ActT) (nm : ByteArray) (n0 : Nat) : ∀ k, Uniq (stF acts nm n0 k).1 ∧ ∀ x ∈ (stF acts nm n0 k).1, x.name = nm → nm.toList.isEmpty = false → LastIs acts (stF acts nm n0 k).2 x
  | 0 => by
    have hall : ∀ (j : Nat) (x : Ent), (List.replicate n0 (⟨⟨#[]⟩, [], 0⟩ : Ent))[j]? = some x → x = ⟨⟨#[]⟩, [], 0⟩ := fun j x h => (List.mem_replicate.1 (List.mem_of_getElem? h)).2
    refine ⟨fun i j x y hx hy hxy hxe => ?_, fun x hx hxn hne => ?_⟩
    · have := hall i x hx
      subst this
      simp [ByteArray.toList_eq] at hxe
    · have := (List.mem_replicate.1 hx).2
      subst this
      subst hxn
      simp [ByteArray.toList_eq] at hne
  | k + 1 => by
    obtain ⟨hu, hl⟩ := stF_inv acts nm n0 k
    cases ha : acts[k]? with
    | none => simp only [stF, ha]; exact ⟨hu, hl⟩
    | some a =>
      simp only [stF, ha]
      by_cases h0 : putE (stF acts nm n0 k).1 a.now a.name a.addrs.length a.ttl = 0
      · obtain ⟨hbad, hu', hg⟩ := putR_get hu h0
        refine ⟨hu', fun x hx hxn hne => ?_⟩
        obtain ⟨j, hj⟩ := List.getElem?_of_mem hx
        obtain ⟨g1, g2⟩ := hg j x hj (by rw [hxn]; exact hne)
        by_cases e : x.name = a.name
        · obtain ⟨ht, hxx⟩ := g1 e
          rw [if_pos ⟨h0, sEq_iff.2 (by rw [← e, hxn])⟩]
          exact ⟨k, a, rfl, ha, by rw [hxx], by rw [hxx], ht, hbad⟩
        · rw [if_neg (fun h => e (by rw [hxn, sEq_iff.1 h.2]))]
          exact hl x (List.mem_of_getElem? (g2 e)) hxn hne
      · have hR : putR (stF acts nm n0 k).1 a.now a.name a.addrs a.ttl = (stF acts nm n0 k).1 := by unfold putR; rw [if_neg h0]
        rw [hR, if_neg (fun h => h0 h.1)]
        exact ⟨hu, hl⟩
/-- What is told. -/
theorem get_tells (acts : List ActT) (nm : ByteArray) (n0 k : Nat) (now : Int) :
    (∃ c, getT (stF acts nm n0 k).1 now nm = ([], 0, c) ∧ c ≠ 0) ∨
    ∃ (q : Nat) (a : ActT), (stF acts nm n0 k).2 = q ∧ acts[q]? = some a ∧ getT (stF acts nm n0 k).1 now nm = (a.addrs, a.now + a.ttl - now, 0) ∧ 0 < a.ttl ∧ putBad a.now a.name a.addrs.length a.ttl = false ∧ 0 ≤ now ∧ now < a.now + a.ttl := by
  unfold getT
  cases hm : momB now
  · exact .inl ⟨2, by simp, by decide⟩
  · have hnow : 0 ≤ now ∧ now ≤ 1099511627776 := by simpa [momB] using hm
    rw [if_pos rfl]
    cases hf : (stF acts nm n0 k).1.find? (getP nm now) with
    | none => exact .inl ⟨5, rfl, by decide⟩
    | some x =>
      have hp := List.find?_some hf
      have hx := List.mem_of_find?_eq_some hf
      simp only [getP, holdsB, Bool.and_eq_true, decide_eq_true_eq] at hp
      have hn := sEq_iff.1 hp.1
      obtain ⟨q, a, h1, h2, h3, h4, h5, h6⟩ := (stF_inv acts nm n0 k).2 x hx hn (by rw [← hn]; simpa using hp.2.1)
      exact .inr ⟨q, a, h1, h2, by simp only [h3, h4], h5, h6, hnow.1, by have := hp.2.2; omega⟩
end Go.Proofs.Ythofnhmehpdnbaa
