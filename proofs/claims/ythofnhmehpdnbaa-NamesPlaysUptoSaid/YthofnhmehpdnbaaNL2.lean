/- Plain law: as long as no more names are put than there are slots, each is found until its time is over. -/
import Derived.Test.YthofnhmehpdnbaaNL1
set_option linter.unusedVariables false
namespace Go.Proofs.Ythofnhmehpdnbaa
def validB (s : ByteArray) : Bool := !s.toList.isEmpty && decide (s.size ≤ 253)
def kpF (l : List ByteArray) (now ttl : Int) : Nat → List Ent
  | 0 => List.replicate l.length ⟨⟨#[]⟩, [], 0⟩
  | k + 1 => match l[k]? with
    | some s => putR (kpF l now ttl k) now s [⟨0, 0, 0, (k : Int) % 256⟩] ttl
    | none => kpF l now ttl k
theorem kpF_len (l : List ByteArray) (now ttl : Int) : ∀ k, (kpF l now ttl k).length = l.length
  | 0 => by simp [kpF]
  | k + 1 => by
    simp only [kpF]
    split
    · rw [putR_length, kpF_len l now ttl k]
    · exact kpF_len l now ttl k
def named (x : Ent) : Bool := !x.name.toList.isEmpty
theorem countP_set_le {α : Type} (p : α → Bool) (a : α) : ∀ (l : List α) (i : Nat), (l.set i a).countP p ≤ l.countP p + 1
  | [], _ => by simp
  | x :: l, 0 => by
    rw [List.set_cons_zero, List.countP_cons, List.countP_cons]
    split <;> split <;> omega
  | x :: l, i + 1 => by
    have := countP_set_le p a l i
    rw [List.set_cons_succ, List.countP_cons, List.countP_cons]
    omega
theorem keeps_bad {now ttl : Int} (hn : 0 ≤ now ∧ now < 1000) (ht : 1 ≤ ttl ∧ ttl ≤ 1000) (s : ByteArray) : putBad now s 1 ttl = !validB s := by
  have h1 : momB now = true := by simp [momB]; omega
  have h2 : ¬ ttl < 0 := by omega
  have h3 : ¬ 1048576 < ttl := by omega
  have h5 : decide (253 < s.size) = !decide (s.size ≤ 253) := by rw [Bool.eq_iff_iff]; simp
  unfold putBad validB
  rw [h1, h5, decide_eq_false h2, decide_eq_false h3]
  cases s.toList.isEmpty <;> cases decide (s.size ≤ 253) <;> rfl
theorem keeps_code {now ttl : Int} (hn : 0 ≤ now ∧ now < 1000) (ht : 1 ≤ ttl ∧ ttl ≤ 1000) (xs : List Ent) (s : ByteArray) (h0 : 0 < xs.length) : putE xs now s 1 ttl = if validB s then 0 else 2 := by
  unfold putE
  rw [keeps_bad hn ht]
  cases validB s
  · rfl
  · rw [if_neg (by simp), if_neg (by omega)]
    rfl
structure KInv (l : List ByteArray) (now ttl : Int) (k : Nat) (xs : List Ent) : Prop where
  uniq : Uniq xs
  all : ∀ x ∈ xs, named x = true → x.till = now + ttl ∧ x.name.size ≤ 253
  has : ∀ (j : Nat) (s : ByteArray), j < k → l[j]? = some s → validB s = true → ∃ x ∈ xs, x.name = s
  cnt : xs.countP named ≤ k
theorem keeps_inv {now ttl : Int} (hn : 0 ≤ now ∧ now < 1000) (ht : 1 ≤ ttl ∧ ttl ≤ 1000) (l : List ByteArray) : ∀ k, k ≤ l.length → KInv l now ttl k (kpF l now ttl k)
  | 0, _ => by
    have hall : ∀ x ∈ kpF l now ttl 0, named x = false := fun x h => by
      have := (List.mem_replicate.1 h).2
      subst this
      simp [named, ByteArray.toList_eq]
    refine ⟨fun i j x y hx hy hxy hxe => ?_, fun x hx h => (by rw [hall x hx] at h; cases h), fun j s hj => (by omega), ?_⟩
    · have := hall x (List.mem_of_getElem? hx)
      simp [named, hxe] at this
    · rw [List.countP_eq_zero.2 (fun x hx => by rw [hall x hx]; simp)]; omega
  | k + 1, hk => by
    have ih := keeps_inv hn ht l k (by omega)
    have hs : l[k]? = some l[k] := List.getElem?_eq_getElem (by omega)
    have hlen := kpF_len l now ttl k
    simp only [kpF, hs]
    generalize kpF l now ttl k = xs at *
    generalize l[k] = s at *
    have hcode := keeps_code hn ht xs s (by omega)
    cases hv : validB s
    · have hR : putR xs now s [⟨0, 0, 0, (k : Int) % 256⟩] ttl = xs := by
        unfold putR
        rw [show ([⟨0, 0, 0, (k : Int) % 256⟩] : List Ad).length = 1 from rfl, hcode, hv]
        rfl
      rw [hR]
      refine ⟨ih.uniq, ih.all, fun j t hj ht' hvt => ?_, by have := ih.cnt; omega⟩
      by_cases e : j = k
      · subst e
        rw [hs] at ht'; cases ht'
        rw [hv] at hvt; cases hvt
      · exact ih.has j t (by omega) ht' hvt
    · have h0 : putE xs now s ([⟨0, 0, 0, (k : Int) % 256⟩] : List Ad).length ttl = 0 := by
        rw [show ([⟨0, 0, 0, (k : Int) % 256⟩] : List Ad).length = 1 from rfl, hcode, hv]; rfl
      have hne : s.toList.isEmpty = false := by unfold validB at hv; simp at hv; simpa using hv.1
      have hsz : s.size ≤ 253 := by unfold validB at hv; simp at hv; exact hv.2
      obtain ⟨-, hu', hg⟩ := putR_get ih.uniq h0
      have hR : putR xs now s [⟨0, 0, 0, (k : Int) % 256⟩] ttl = xs.set (placeI xs now s).toNat ⟨s, [⟨0, 0, 0, (k : Int) % 256⟩], now + ttl⟩ := by
        unfold putR putL
        rw [if_pos h0, if_neg (by omega)]
      rw [hR] at hu' hg ⊢
      obtain ⟨p, hp, hpl⟩ := place_lt now s (xs := xs) (by omega)
      rw [hp, Int.toNat_natCast] at hu' hg ⊢
      have hplace : ∀ y, xs[p]? = some y → named y = true → y.name = s := by
        intro y hy hny
        unfold placeI at hp
        rcases idx_cases (nmP s) xs with ⟨h1, h2⟩ | ⟨q, z, h1, h2, h3, h4, _⟩
        · rw [h1, if_neg (by omega)] at hp
          rcases idx_cases (deadP now) xs with ⟨h5, h6⟩ | ⟨q, z, h5, h6, h7, h8, _⟩
          · exfalso
            have : xs.countP named = xs.length := by
              rw [List.countP_eq_length]
              intro x hx
              have := List.find?_eq_none.1 h6 x hx
              simp [deadP, holdsB] at this
              simp [named, this.1]
            have := ih.cnt
            omega
          · rw [h5, if_pos (by omega)] at hp
            have : q = p := by omega
            subst this
            rw [hy] at h6; cases h6
            have := (ih.all y (List.mem_of_getElem? hy) hny).1
            simp [deadP, holdsB] at h8
            have h9 : y.name.toList.isEmpty = false := by simpa [named] using hny
            have h10 : ¬ y.name.toList = [] := by simpa using h9
            rcases h8 with h8 | h8
            · exact absurd h8 h10
            · omega
        · rw [h1, if_pos (by omega)] at hp
          have : q = p := by omega
          subst this
          rw [hy] at h2; cases h2
          exact nmP_iff.1 h4
      refine ⟨hu', fun x hx hnx => ?_, fun j t hj ht' hvt => ?_, by have := countP_set_le named (⟨s, [⟨0, 0, 0, (k : Int) % 256⟩], now + ttl⟩ : Ent) xs p; have := ih.cnt; omega⟩
      · rcases List.mem_or_eq_of_mem_set hx with hx | rfl
        · exact ih.all x hx hnx
        · exact ⟨rfl, hsz⟩
      · by_cases e : j = k
        · subst e
          rw [hs] at ht'; cases ht'
          exact ⟨⟨s, [⟨0, 0, 0, (j : Int) % 256⟩], now + ttl⟩, List.mem_of_getElem? (i := p) (by rw [List.getElem?_set_self (by omega)]), rfl⟩
        · obtain ⟨x, hx, hxn⟩ := ih.has j t (by omega) ht' hvt
          obtain ⟨i, hi⟩ := List.getElem?_of_mem hx
          by_cases e2 : i = p
          · subst e2
            have hnx : named x = true := by
              unfold validB at hvt
              simp only [Bool.and_eq_true] at hvt
              simp only [named, hxn]
              exact hvt.1
            have := hplace x hi hnx
            exact ⟨⟨s, [⟨0, 0, 0, (k : Int) % 256⟩], now + ttl⟩, List.mem_of_getElem? (i := i) (by rw [List.getElem?_set_self (by omega)]), by rw [← hxn, this]⟩
          · exact ⟨x, List.mem_of_getElem? (i := i) (by rw [List.getElem?_set_ne (fun h => e2 h.symm)]; exact hi), hxn⟩
/-- What is told at the end. -/
theorem keeps_tells {now ttl : Int} (hn : 0 ≤ now ∧ now < 1000) (ht : 1 ≤ ttl ∧ ttl ≤ 1000) (l : List ByteArray) (later : Int) (hl : 0 ≤ later ∧ later < 3000) (j : Nat) (s : ByteArray) (hs : l[j]? = some s) :
    ((validB s = true ∧ later < now + ttl) ∧ ∃ a, getT (kpF l now ttl l.length) later s = (a, now + ttl - later, 0)) ∨
    (¬ (validB s = true ∧ later < now + ttl) ∧ getT (kpF l now ttl l.length) later s = ([], 0, 5)) := by
  have hm : momB later = true := by simp [momB]; omega
  have inv := keeps_inv hn ht l l.length (Nat.le_refl _)
  unfold getT
  rw [if_pos hm]
  cases hf : (kpF l now ttl l.length).find? (getP s later) with
  | none =>
    refine .inr ⟨fun ⟨hv, hlt⟩ => ?_, rfl⟩
    obtain ⟨x, hx, hxn⟩ := inv.has j s (List.getElem?_eq_some_iff.1 hs).1 hs hv
    have h1 := List.find?_eq_none.1 hf x hx
    have hnx : named x = true := by
      unfold validB at hv
      simp only [Bool.and_eq_true] at hv
      simp only [named, hxn]
      exact hv.1
    have h2 := (inv.all x hx hnx).1
    refine h1 ?_
    simp only [getP, holdsB, Bool.and_eq_true, decide_eq_true_eq]
    exact ⟨sEq_iff.2 hxn, by simpa [named] using hnx, by omega⟩
  | some x =>
    have hp := List.find?_some hf
    have hx := List.mem_of_find?_eq_some hf
    simp only [getP, holdsB, Bool.and_eq_true, decide_eq_true_eq] at hp
    have hxn := sEq_iff.1 hp.1
    have h2 := inv.all x hx (by unfold named; exact hp.2.1)
    refine .inl ⟨⟨?_, by rw [← h2.1]; exact hp.2.2⟩, x.addrs, by simp only [h2.1]⟩
    unfold validB
    rw [← hxn, hp.2.1]
    simp
    exact h2.2
end Go.Proofs.Ythofnhmehpdnbaa
