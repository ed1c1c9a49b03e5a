/- Plain law: what a store keeps, put by put. -/
import Derived.Test.YtfieipigbdopaaaW1
import Derived.Test.YtfieipigbdopaaaS8
set_option linter.unusedVariables false
set_option linter.unusedSimpArgs false
namespace Go.Proofs.Ytfieipigbdopaaa
theorem clr_clr (x : SE) : clr (clr x) = clr x := rfl
theorem map_clr_set {xs : List SE} {h : Nat} {x y : SE} (hx : xs[h]? = some x) (hy : clr y = clr x) : (xs.set h y).map clr = xs.map clr := by
  rw [List.map_set, hy]
  exact List.ext_getElem? fun i => by
    rw [List.getElem?_set]
    split
    · rename_i e
      subst e
      split
      · simp [hx]
      · rename_i hl
        rw [List.getElem?_eq_none (by omega)]
    · rfl
theorem turnS_spec (now : Int) : ∀ (f : Nat) (xs : List SE) (h : Nat), askedN xs < f → h < xs.length →
    (turnS now f xs h).1.map clr = xs.map clr ∧ (turnS now f xs h).1.length = xs.length ∧ (turnS now f xs h).2.2 < xs.length ∧ (turnS now f xs h).2.1 < xs.length
  | 0, _, _, h0, _ => by omega
  | f + 1, xs, h, h0, hh => by
    obtain ⟨x, hx⟩ : ∃ x, xs[h]? = some x := ⟨_, List.getElem?_eq_getElem hh⟩
    have hml : (h + 1) % xs.length < xs.length := Nat.mod_lt _ (by omega)
    cases hb : hotB now x
    · rw [turnS_cold hx hb]
      exact ⟨rfl, rfl, hh, hml⟩
    · have ha : x.asked = true := by unfold hotB at hb; simp at hb; exact hb.1
      have h1 := asked_clr hx ha
      have ih := turnS_spec now f (xs.set h (clr x)) ((h + 1) % xs.length) (by omega) (by simpa using hml)
      rw [turnS_hot hx hb]
      rw [map_clr_set hx (clr_clr x), List.length_set] at ih
      exact ih
/-- No key has two entries. -/
def Uniq (xs : List SE) : Prop := ∀ (i j : Nat) (x y : SE), xs[i]? = some x → xs[j]? = some y → x.key = y.key → x.key.toList.isEmpty = false → i = j
theorem clr_get {xs ys : List SE} (h : ys.map clr = xs.map clr) {j : Nat} {y : SE} (hy : ys[j]? = some y) : ∃ x, xs[j]? = some x ∧ clr y = clr x := by
  have h1 : (ys.map clr)[j]? = some (clr y) := by simp [hy]
  rw [h, List.getElem?_map] at h1
  cases hx : xs[j]? with
  | none => rw [hx] at h1; cases h1
  | some x => rw [hx] at h1; exact ⟨x, rfl, (Option.some.inj h1).symm⟩
theorem clr_key {x y : SE} (h : clr y = clr x) : y.key = x.key ∧ y.b = x.b ∧ y.at_ = x.at_ ∧ y.age = x.age := by
  unfold clr at h
  simp at h
  exact ⟨h.1, h.2.1, h.2.2.1, h.2.2.2⟩
theorem Uniq.of_clr {xs ys : List SE} (hu : Uniq xs) (h : ys.map clr = xs.map clr) : Uniq ys := by
  intro i j x y hx hy hxy hne
  obtain ⟨x', hx', ex⟩ := clr_get h hx
  obtain ⟨y', hy', ey⟩ := clr_get h hy
  have e1 := (clr_key ex).1
  have e2 := (clr_key ey).1
  exact hu i j x' y' hx' hy' (by rw [← e1, ← e2, hxy]) (by rw [← e1]; exact hne)
theorem keyP_iff {k : ByteArray} {x : SE} : keyP k x = true ↔ x.key = k := sEq_iff
theorem placeS_spec {xs : List SE} {hand : Nat} (now : Int) {k : ByteArray} (h0 : 0 < xs.length) (hh : hand < xs.length ∨ hand = 0) :
    (placeS xs hand now k).1.map clr = xs.map clr ∧ (placeS xs hand now k).1.length = xs.length ∧ (placeS xs hand now k).2.2 < xs.length ∧ (placeS xs hand now k).2.1 < xs.length := by
  have hh : hand < xs.length := by omega
  unfold placeS
  split
  · rcases idx_cases (keyP k) xs with ⟨h1, _⟩ | ⟨q, y, h1, h2, _⟩
    · omega
    · refine ⟨rfl, rfl, ?_, hh⟩
      show (idxI (keyP k) xs).toNat < _
      rw [h1]
      exact (List.getElem?_eq_some_iff.1 h2).1
  · split
    · rcases idx_cases (keyP ⟨#[]⟩) xs with ⟨h1, _⟩ | ⟨q, y, h1, h2, _⟩
      · omega
      · refine ⟨rfl, rfl, ?_, hh⟩
        show (idxI (keyP ⟨#[]⟩) xs).toNat < _
        rw [h1]
        exact (List.getElem?_eq_some_iff.1 h2).1
    · exact turnS_spec now _ xs hand (by omega) hh
/-- A key that is there is the place. -/
theorem placeS_key {xs : List SE} {hand : Nat} (now : Int) {k : ByteArray} (hu : Uniq xs) (hne : k.toList.isEmpty = false) {j : Nat} {x : SE} (hx : xs[j]? = some x) (hk : x.key = k) : placeS xs hand now k = (xs, hand, j) := by
  rcases idx_cases (keyP k) xs with ⟨h1, h2⟩ | ⟨q, y, h1, h2, _, h3, _⟩
  · have := List.find?_eq_none.1 h2 x (List.mem_of_getElem? hx)
    exact absurd (keyP_iff.2 hk) (by simpa using this)
  · have : q = j := hu q j y x h2 hx (by rw [keyP_iff.1 h3, hk]) (by rw [keyP_iff.1 h3]; exact hne)
    subst this
    unfold placeS
    rw [if_pos (by omega), h1]
    rfl
theorem putE_ok {keep : Int} {xs : List SE} {now : Int} {k : ByteArray} {n : Nat} {age : Int} (h : putE keep xs now k n age = 0) :
    (0 ≤ now ∧ now ≤ 1099511627776) ∧ k.toList.isEmpty = false ∧ k.size ≤ 4096 ∧ 1 ≤ age ∧ age ≤ 1048576 ∧ n ≤ keep ∧ 0 < xs.length := by
  unfold putE at h
  split at h
  · rename_i h1; exact absurd h h1
  · rename_i h1
    obtain ⟨a1, a2, a3⟩ := askE_ok (Classical.not_not.1 h1)
    split at h
    · simp at h
    · split at h
      · simp at h
      · split at h
        · simp at h
        · exact ⟨a1, a2, a3, by omega, by omega, by omega, by omega⟩
/-- What an entry was, or what was put. -/
theorem putR_get {keep : Int} {xs : List SE} {hand : Nat} {now age : Int} {k : ByteArray} {bs : List Int} (hu : Uniq xs) (hh : hand < xs.length ∨ hand = 0) (h0 : putE keep xs now k bs.length age = 0) :
    Uniq (putR keep xs hand now k bs age).1 ∧ ∀ (j : Nat) (y : SE), (putR keep xs hand now k bs age).1[j]? = some y → (y.key = k → y = ⟨k, bs, now, age, false⟩) ∧ (y.key ≠ k → ∃ x, xs[j]? = some x ∧ clr y = clr x) := by
  obtain ⟨-, hne, -, -, -, -, hlen⟩ := putE_ok h0
  obtain ⟨p1, p2, p3, p4⟩ := placeS_spec now (k := k) hlen hh
  have hpk := fun j x hx hk => placeS_key (hand := hand) now hu hne (j := j) (x := x) hx hk
  have hR : (putR keep xs hand now k bs age).1 = (placeS xs hand now k).1.set (placeS xs hand now k).2.2 ⟨k, bs, now, age, false⟩ := by unfold putR putS; rw [if_pos h0]
  rw [hR]
  have hget : ∀ (j : Nat) (y : SE), ((placeS xs hand now k).1.set (placeS xs hand now k).2.2 ⟨k, bs, now, age, false⟩)[j]? = some y → (j = (placeS xs hand now k).2.2 ∧ y = ⟨k, bs, now, age, false⟩) ∨ (j ≠ (placeS xs hand now k).2.2 ∧ ∃ x, xs[j]? = some x ∧ clr y = clr x) := by
    intro j y hy
    rw [List.getElem?_set] at hy
    split at hy
    · rename_i e
      split at hy
      · cases hy
        exact .inl ⟨e.symm, rfl⟩
      · cases hy
    · exact .inr ⟨fun e => by omega, clr_get p1 hy⟩
  have hnk : ∀ (j : Nat) (x y : SE), j ≠ (placeS xs hand now k).2.2 → xs[j]? = some x → clr y = clr x → y.key ≠ k := by
    intro j x y hj hx hxy hk
    have := hpk j x hx (by rw [← (clr_key hxy).1, hk])
    rw [this] at hj
    exact hj rfl
  refine ⟨fun i j x y hx hy hxy hxe => ?_, fun j y hy => ⟨fun hk => ?_, fun hk => ?_⟩⟩
  · rcases hget i x hx with ⟨hi, rfl⟩ | ⟨hi, x', hx', ex⟩
    · rcases hget j y hy with ⟨hj, rfl⟩ | ⟨hj, y', hy', ey⟩
      · omega
      · exact absurd hxy.symm (hnk j y' y hj hy' ey)
    · rcases hget j y hy with ⟨hj, rfl⟩ | ⟨hj, y', hy', ey⟩
      · exact absurd hxy (hnk i x' x hi hx' ex)
      · exact hu i j x' y' hx' hy' (by rw [← (clr_key ex).1, ← (clr_key ey).1, hxy]) (by rw [← (clr_key ex).1]; exact hxe)
  · rcases hget j y hy with ⟨hj, rfl⟩ | ⟨hj, x', hx', ex⟩
    · rfl
    · exact absurd hk (hnk j x' y hj hx' ex)
  · rcases hget j y hy with ⟨hj, rfl⟩ | ⟨hj, x', hx', ex⟩
    · exact absurd rfl hk
    · exact ⟨x', hx', ex⟩
theorem putR_bad {keep : Int} {xs : List SE} {hand : Nat} {now age : Int} {k : ByteArray} {bs : List Int} (h : putE keep xs now k bs.length age ≠ 0) : putR keep xs hand now k bs age = (xs, hand) := by unfold putR; rw [if_neg h]
theorem putR_len {keep : Int} {xs : List SE} {hand : Nat} {now age : Int} {k : ByteArray} {bs : List Int} (hh : hand < xs.length ∨ hand = 0) :
    (putR keep xs hand now k bs age).1.length = xs.length ∧ ((putR keep xs hand now k bs age).2 < xs.length ∨ (putR keep xs hand now k bs age).2 = 0) := by
  by_cases h0 : putE keep xs now k bs.length age = 0
  · obtain ⟨-, -, -, -, -, -, hlen⟩ := putE_ok h0
    obtain ⟨p1, p2, p3, p4⟩ := placeS_spec now (k := k) hlen hh
    unfold putR putS
    rw [if_pos h0]
    exact ⟨by rw [List.length_set]; exact p2, .inl p4⟩
  · rw [putR_bad h0]
    exact ⟨rfl, hh⟩
theorem dropS_get {xs : List SE} {k : ByteArray} (hu : Uniq xs) : Uniq (dropS xs k) ∧ (dropS xs k).length = xs.length ∧ ∀ (j : Nat) (y : SE), (dropS xs k)[j]? = some y → y.key.toList.isEmpty = false → y.key ≠ k ∧ xs[j]? = some y := by
  unfold dropS
  cases hb : dropB xs k
  · have hn : ∀ (j : Nat) (y : SE), xs[j]? = some y → y.key.toList.isEmpty = false → y.key ≠ k := by
      intro j y hy hne hk
      unfold dropB at hb
      rw [Bool.and_eq_false_iff] at hb
      rcases hb with hb | hb
      · rw [hk] at hne; rw [hne] at hb; cases hb
      · rcases idx_cases (keyP k) xs with ⟨h1, h2⟩ | ⟨q, z, h1, h2, _, h3, _⟩
        · have := List.find?_eq_none.1 h2 y (List.mem_of_getElem? hy)
          exact absurd (keyP_iff.2 hk) (by simpa using this)
        · rw [h1] at hb; simp at hb
    exact ⟨hu, rfl, fun j y hy hne => ⟨hn j y hy hne, hy⟩⟩
  · rcases idx_cases (keyP k) xs with ⟨h1, h2⟩ | ⟨q, z, h1, h2, _, h3, _⟩
    · unfold dropB at hb; rw [h1] at hb; simp at hb
    · rw [if_pos rfl, h1, Int.toNat_natCast]
      have hg : ∀ (j : Nat) (y : SE), (xs.set q se0)[j]? = some y → y.key.toList.isEmpty = false → j ≠ q ∧ xs[j]? = some y := by
        intro j y hy hne
        rw [List.getElem?_set] at hy
        split at hy
        · split at hy
          · cases hy
            simp [se0, ByteArray.toList_eq] at hne
          · cases hy
        · exact ⟨fun e => by omega, hy⟩
      refine ⟨fun i j x y hx hy hxy hxe => ?_, by simp, fun j y hy hne => ?_⟩
      · exact hu i j x y (hg i x hx hxe).2 (hg j y hy (by rw [← hxy]; exact hxe)).2 hxy hxe
      · obtain ⟨g1, g2⟩ := hg j y hy hne
        refine ⟨fun hk => g1 ?_, g2⟩
        exact hu j q y z g2 h2 (by rw [keyP_iff.1 h3, hk]) hne
/-- Get leaves all but the mark. -/
theorem getS_clr (xs : List SE) (now : Int) (k : ByteArray) : (getS xs now k).2.map clr = xs.map clr := by
  unfold getS
  split
  · rfl
  · rcases idx_cases (keyP k) xs with ⟨h1, h2⟩ | ⟨q, z, h1, h2, h3, h4, _⟩
    · rw [h2]
    · rw [h3, h1]
      simp only
      split
      · exact map_clr_set h2 rfl
      · rfl
theorem getS_len (xs : List SE) (now : Int) (k : ByteArray) : (getS xs now k).2.length = xs.length := by
  have := congrArg List.length (getS_clr xs now k)
  simpa using this
/-- What Get tells: nothing, or an entry's. -/
theorem getS_cases (xs : List SE) (now : Int) (k : ByteArray) :
    (∃ c, (getS xs now k).1 = ([], 0, c) ∧ c ≠ 0) ∨
    ∃ (j : Nat) (x : SE), xs[j]? = some x ∧ x.key = k ∧ k.toList.isEmpty = false ∧ (getS xs now k).1 = (x.b, now - x.at_, 0) ∧ 0 ≤ now ∧ now ≤ 1099511627776 ∧ x.at_ ≤ now ∧ now - x.at_ < x.age := by
  unfold getS
  split
  · rename_i h
    exact .inl ⟨_, rfl, h⟩
  · rename_i h
    obtain ⟨a1, a2, a3⟩ := askE_ok (Classical.not_not.1 h)
    rcases idx_cases (keyP k) xs with ⟨h1, h2⟩ | ⟨q, z, h1, h2, h3, h4, _⟩
    · rw [h2]
      exact .inl ⟨5, rfl, by decide⟩
    · rw [h3]
      simp only
      split
      · rename_i hf
        unfold freshB at hf
        simp at hf
        exact .inr ⟨q, z, h2, keyP_iff.1 h4, a2, rfl, a1.1, a1.2, hf.1, hf.2⟩
      · exact .inl ⟨5, rfl, by decide⟩
theorem uniq_new (n : Nat) : Uniq (List.replicate n se0) := by
  intro i j x y hx hy hxy hxe
  have := (List.mem_replicate.1 (List.mem_of_getElem? hx)).2
  subst this
  simp [se0, ByteArray.toList_eq] at hxe
end Go.Proofs.Ytfieipigbdopaaa
