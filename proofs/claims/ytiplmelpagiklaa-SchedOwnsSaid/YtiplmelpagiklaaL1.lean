/- Plain law: a tenant's own slots. -/
import Derived.Test.YtiplmelpagiklaaC4
set_option linter.unusedVariables false
set_option linter.unusedSimpArgs false
namespace Go.Proofs.Ytiplmelpagiklaa
section
variable {xs : List Sl} {t : Int}
theorem isT_lt {i : Nat} (h : isT xs t i = true) : i < xs.length := by
  unfold isT at h
  cases hx : xs[i]? with
  | none => rw [hx] at h; cases h
  | some x => exact (List.getElem?_eq_some_iff.1 hx).1
theorem isT_some {i : Nat} {x : Sl} (hx : xs[i]? = some x) : isT xs t i = decide (x.t = t) := by unfold isT; rw [hx]
theorem pl_mem {r : Nat} : r ∈ plK xs t xs.length ↔ isT xs t r = true := by
  unfold plK
  rw [List.mem_filter, List.mem_range]
  exact ⟨fun h => h.2, fun h => ⟨isT_lt h, h⟩⟩
theorem pl_get {j x : Nat} (h : (plK xs t xs.length)[j]? = some x) : isT xs t x = true ∧ x < xs.length := by
  have := pl_mem.1 (List.mem_of_getElem? h)
  exact ⟨this, isT_lt this⟩
theorem pl_lt {i j x y : Nat} (hij : i < j) (hx : (plK xs t xs.length)[i]? = some x) (hy : (plK xs t xs.length)[j]? = some y) : x < y := by
  obtain ⟨h1, e1⟩ := List.getElem?_eq_some_iff.1 hx
  obtain ⟨h2, e2⟩ := List.getElem?_eq_some_iff.1 hy
  rw [← e1, ← e2]
  exact List.pairwise_iff_getElem.1 (plK_sorted xs t xs.length) i j h1 h2 hij
theorem pl_le {i j x y : Nat} (hij : i ≤ j) (hx : (plK xs t xs.length)[i]? = some x) (hy : (plK xs t xs.length)[j]? = some y) : x ≤ y := by
  rcases Nat.lt_or_ge i j with h | h
  · exact Nat.le_of_lt (pl_lt h hx hy)
  · obtain rfl : i = j := by omega
    rw [hx] at hy; cases hy; omega
theorem pl_ex {j : Nat} (h : j < (plK xs t xs.length).length) : ∃ x, (plK xs t xs.length)[j]? = some x := ⟨_, List.getElem?_eq_getElem h⟩
/-- Between two own slots that follow each other there is none. -/
theorem pl_between {j x y r : Nat} (hx : (plK xs t xs.length)[j]? = some x) (hy : (plK xs t xs.length)[j + 1]? = some y) (h1 : x < r) (h2 : r < y) : isT xs t r = false := by
  cases h : isT xs t r
  · rfl
  · obtain ⟨m, hm⟩ := List.getElem?_of_mem (pl_mem.2 h)
    rcases Nat.lt_or_ge j m with hjm | hjm
    · have := pl_le (show j + 1 ≤ m by omega) hy hm; omega
    · have := pl_le hjm hm hx; omega
theorem pl_first {x r : Nat} (hx : (plK xs t xs.length)[0]? = some x) (h : r < x) : isT xs t r = false := by
  cases h1 : isT xs t r
  · rfl
  · obtain ⟨m, hm⟩ := List.getElem?_of_mem (pl_mem.2 h1)
    have := pl_le (Nat.zero_le m) hx hm; omega
theorem pl_last {j x r : Nat} (hx : (plK xs t xs.length)[j]? = some x) (hj : j + 1 = (plK xs t xs.length).length) (h : x < r) : isT xs t r = false := by
  cases h1 : isT xs t r
  · rfl
  · obtain ⟨m, hm⟩ := List.getElem?_of_mem (pl_mem.2 h1)
    have h2 := (List.getElem?_eq_some_iff.1 hm).1
    have := pl_le (show m ≤ j by omega) hm hx; omega
theorem pl_cnt {j x : Nat} (hx : (plK xs t xs.length)[j]? = some x) : (plK xs t x).length = j := by
  have hj := (List.getElem?_eq_some_iff.1 hx).1
  rw [← lessN_pl xs t x xs.length (Nat.le_of_lt (pl_get hx).2)]
  exact lessN_eq (by omega) (fun q y hq hy => pl_lt hq hy hx) (fun q y hq hy => pl_le hq hx hy)
/-- What is said of the k-th own slot and the next one. -/
theorem back_facts {k : Nat} (hl : xs.length ≤ 64) (hp : 0 < (plK xs t xs.length).length) (hk : k ≤ 1073741824) :
    whenAt xs t k < whenAt xs t (k + 1) ∧ whenAt xs t (k + 1) ≤ whenAt xs t k + xs.length ∧ whenAt xs t (k + 1) ≤ 1099511627776 ∧
    isT xs t (whenAt xs t k % xs.length) = true ∧ whenAt xs t k / xs.length * (plK xs t xs.length).length + (plK xs t (whenAt xs t k % xs.length)).length = k ∧
    ∀ i, whenAt xs t k < i → i < whenAt xs t (k + 1) → isT xs t (i % xs.length) = false := by
  obtain ⟨p, hpd⟩ : ∃ p, (plK xs t xs.length).length = p := ⟨_, rfl⟩
  obtain ⟨q, hqd⟩ : ∃ q, k / p = q := ⟨_, rfl⟩
  obtain ⟨j, hjd⟩ : ∃ j, k % p = j := ⟨_, rfl⟩
  rw [hpd] at hp
  have hkq : p * q + j = k := by rw [← hqd, ← hjd]; exact Nat.div_add_mod k p
  have hj : j < p := by rw [← hjd]; exact Nat.mod_lt _ hp
  have hqk : q ≤ k := by rw [← hqd]; exact Nat.div_le_self _ _
  obtain ⟨x, hx⟩ := pl_ex (xs := xs) (t := t) (j := j) (by omega)
  obtain ⟨hxt, hxl⟩ := pl_get hx
  have hL : 0 < xs.length := by omega
  have ha : whenAt xs t k = xs.length * q + x := by
    unfold whenAt
    rw [hpd, hqd, hjd, nth_eq hx, Nat.mul_comm]
  have had : (xs.length * q + x) / xs.length = q := by rw [Nat.mul_add_div hL, Nat.div_eq_of_lt hxl, Nat.add_zero]
  have ham : (xs.length * q + x) % xs.length = x := by rw [Nat.mul_add_mod, Nat.mod_eq_of_lt hxl]
  have hcnt := pl_cnt hx
  rw [ha, had, ham, hpd, hcnt]
  have hown : q * p + j = k := by rw [Nat.mul_comm]; exact hkq
  have hmod : ∀ r d : Nat, r < xs.length → (xs.length * d + r) % xs.length = r := fun r d hr => by rw [Nat.mul_add_mod, Nat.mod_eq_of_lt hr]
  have hLq : xs.length * q ≤ 64 * 1073741824 := Nat.mul_le_mul hl (by omega)
  rcases Nat.lt_or_ge (j + 1) p with hj1 | hj1
  · obtain ⟨y, hy⟩ := pl_ex (xs := xs) (t := t) (j := j + 1) (by omega)
    obtain ⟨hyt, hyl⟩ := pl_get hy
    have hxy := pl_lt (Nat.lt_succ_self j) hx hy
    have hk1 : k + 1 = p * q + (j + 1) := by omega
    have hb : whenAt xs t (k + 1) = xs.length * q + y := by
      unfold whenAt
      rw [hpd, hk1, Nat.mul_add_div hp, Nat.div_eq_of_lt hj1, Nat.add_zero, Nat.mul_add_mod, Nat.mod_eq_of_lt hj1, nth_eq hy, Nat.mul_comm]
    rw [hb]
    refine ⟨by omega, by omega, by omega, hxt, hown, fun i h1 h2 => ?_⟩
    obtain ⟨r, rfl⟩ : ∃ r, i = xs.length * q + r := ⟨i - xs.length * q, by omega⟩
    rw [hmod r q (by omega)]
    exact pl_between hx hy (by omega) (by omega)
  · have hjp : j + 1 = p := by omega
    obtain ⟨y, hy⟩ := pl_ex (xs := xs) (t := t) (j := 0) (by omega)
    obtain ⟨hyt, hyl⟩ := pl_get hy
    have hyx := pl_le (Nat.zero_le j) hy hx
    have hk1 : k + 1 = p * (q + 1) := by rw [Nat.mul_add]; omega
    have hb : whenAt xs t (k + 1) = xs.length * q + xs.length + y := by
      unfold whenAt
      rw [hpd, hk1, Nat.mul_div_cancel_left _ hp, Nat.mul_mod_right, nth_eq hy, Nat.add_mul, Nat.one_mul, Nat.mul_comm]
    rw [hb]
    refine ⟨by omega, by omega, by omega, hxt, hown, fun i h1 h2 => ?_⟩
    rcases Nat.lt_or_ge i (xs.length * q + xs.length) with hi | hi
    · obtain ⟨r, rfl⟩ : ∃ r, i = xs.length * q + r := ⟨i - xs.length * q, by omega⟩
      rw [hmod r q (by omega)]
      exact pl_last hx (by omega) (by omega)
    · obtain ⟨r, rfl⟩ : ∃ r, i = xs.length * (q + 1) + r := ⟨i - xs.length * (q + 1), by rw [Nat.mul_add]; omega⟩
      rw [Nat.mul_add] at h2
      rw [hmod r (q + 1) (by omega)]
      exact pl_first hy (by omega)
/-- How far the next own slot lies. -/
def IsD (xs : List Sl) (t : Int) (i n : Nat) : Prop := isT xs t ((i + n) % xs.length) = true ∧ ∀ m, m < n → isT xs t ((i + m) % xs.length) = false
theorem IsD.uniq {i n m : Nat} (h : IsD xs t i n) (k : IsD xs t i m) : n = m := by
  rcases Nat.lt_trichotomy n m with h1 | h1 | h1
  · have := k.2 n h1; rw [h.1] at this; cases this
  · exact h1
  · have := h.2 m h1; rw [k.1] at this; cases this
/-- From one own slot to the next one. -/
def nxD (xs : List Sl) (t : Int) (j : Nat) : Nat :=
  if j + 1 < (plK xs t xs.length).length then nth (plK xs t xs.length) (j + 1) - nth (plK xs t xs.length) j else nth (plK xs t xs.length) 0 + xs.length - nth (plK xs t xs.length) j
theorem nxD_isD {j x : Nat} (hx : (plK xs t xs.length)[j]? = some x) : 1 ≤ nxD xs t j ∧ nxD xs t j ≤ xs.length ∧ IsD xs t (x + 1) (nxD xs t j - 1) := by
  have hj := (List.getElem?_eq_some_iff.1 hx).1
  obtain ⟨hxt, hxl⟩ := pl_get hx
  unfold nxD
  rw [nth_eq hx]
  split
  · rename_i h
    obtain ⟨y, hy⟩ := pl_ex (xs := xs) (t := t) (j := j + 1) h
    obtain ⟨hyt, hyl⟩ := pl_get hy
    have hxy := pl_lt (Nat.lt_succ_self j) hx hy
    rw [nth_eq hy]
    refine ⟨by omega, by omega, ?_, fun m hm => ?_⟩
    · rw [show x + 1 + (y - x - 1) = y by omega, Nat.mod_eq_of_lt hyl]; exact hyt
    · rw [Nat.mod_eq_of_lt (by omega)]
      exact pl_between hx hy (by omega) (by omega)
  · rename_i h
    obtain ⟨y, hy⟩ := pl_ex (xs := xs) (t := t) (j := 0) (by omega)
    obtain ⟨hyt, hyl⟩ := pl_get hy
    have hyx := pl_le (Nat.zero_le j) hy hx
    rw [nth_eq hy]
    refine ⟨by omega, by omega, ?_, fun m hm => ?_⟩
    · rw [show x + 1 + (y + xs.length - x - 1) = y + xs.length by omega, Nat.add_mod_right, Nat.mod_eq_of_lt hyl]; exact hyt
    · rcases Nat.lt_or_ge (x + 1 + m) xs.length with h2 | h2
      · rw [Nat.mod_eq_of_lt h2]
        exact pl_last hx (by omega) (by omega)
      · rw [show x + 1 + m = (x + 1 + m - xs.length) + xs.length by omega, Nat.add_mod_right, Nat.mod_eq_of_lt (by omega)]
        exact pl_first hy (by omega)
/-- From any slot the next own one lies nearer than from the own one ahead of it. -/
theorem isD_le {i : Nat} (hi : i < xs.length) (hp : 0 < (plK xs t xs.length).length) : ∃ j n, j < (plK xs t xs.length).length ∧ IsD xs t i n ∧ n + 1 ≤ nxD xs t j := by
  obtain ⟨c, hc⟩ : ∃ c, lessN (plK xs t xs.length) i = c := ⟨_, rfl⟩
  have hle : ∀ (q x : Nat), q < c → (plK xs t xs.length)[q]? = some x → x < i := by
    intro q x hq hx
    rcases Nat.lt_or_ge x i with h | h
    · exact h
    · exfalso
      have : lessN (plK xs t xs.length) i ≤ q := by
        unfold lessN
        have e : (plK xs t xs.length).filter (fun y => decide (y < i)) = ((plK xs t xs.length).take q).filter (fun y => decide (y < i)) := by
          conv => lhs; rw [← List.take_append_drop q (plK xs t xs.length)]
          rw [List.filter_append, show ((plK xs t xs.length).drop q).filter (fun y => decide (y < i)) = [] from ?_, List.append_nil]
          refine List.filter_eq_nil_iff.2 fun y hy => ?_
          obtain ⟨m, hm⟩ := List.getElem?_of_mem hy
          rw [List.getElem?_drop] at hm
          have := pl_le (show q ≤ q + m by omega) hx hm
          simp
          omega
        rw [e]
        exact Nat.le_trans (List.length_filter_le _ _) (List.length_take_le _ _)
      omega
  have hge : ∀ (q x : Nat), c ≤ q → (plK xs t xs.length)[q]? = some x → i ≤ x := by
    intro q x hq hx
    rcases Nat.lt_or_ge x i with h | h
    · exfalso
      have : q + 1 ≤ lessN (plK xs t xs.length) i := by
        have hql := (List.getElem?_eq_some_iff.1 hx).1
        have e : ((plK xs t xs.length).take (q + 1)).filter (fun y => decide (y < i)) = (plK xs t xs.length).take (q + 1) := List.filter_eq_self.2 fun y hy => by
          obtain ⟨m, hm⟩ := List.getElem?_of_mem hy
          rw [List.getElem?_take] at hm
          split at hm
          · have := pl_le (show m ≤ q by omega) hm hx
            simp
            omega
          · cases hm
        unfold lessN
        have h2 : (((plK xs t xs.length).take (q + 1)).filter (fun y => decide (y < i))).length ≤ ((plK xs t xs.length).filter (fun y => decide (y < i))).length := by
          conv => rhs; rw [← List.take_append_drop (q + 1) (plK xs t xs.length)]
          rw [List.filter_append, List.length_append]
          omega
        rw [e, List.length_take] at h2
        omega
      omega
    · exact h
  have hcl : c ≤ (plK xs t xs.length).length := by rw [← hc]; exact List.length_filter_le _ _
  have hbelow : ∀ r : Nat, i ≤ r → (∀ x, (plK xs t xs.length)[c]? = some x → r < x) → r < xs.length → isT xs t r = false := by
    intro r h1 h2 h3
    cases h : isT xs t r
    · rfl
    · obtain ⟨m, hm⟩ := List.getElem?_of_mem (pl_mem.2 h)
      rcases Nat.lt_or_ge m c with h4 | h4
      · have := hle m r h4 hm; omega
      · rcases Nat.lt_or_ge c (plK xs t xs.length).length with h5 | h5
        · obtain ⟨y, hy⟩ := pl_ex (xs := xs) (t := t) h5
          have := pl_le h4 hy hm
          have := h2 y hy
          omega
        · have := (List.getElem?_eq_some_iff.1 hm).1; omega
  rcases Nat.lt_or_ge c (plK xs t xs.length).length with h5 | h5
  · obtain ⟨y, hy⟩ := pl_ex (xs := xs) (t := t) h5
    obtain ⟨hyt, hyl⟩ := pl_get hy
    have hiy := hge c y (Nat.le_refl _) hy
    have hd : IsD xs t i (y - i) := by
      refine ⟨?_, fun m hm => ?_⟩
      · rw [show i + (y - i) = y by omega, Nat.mod_eq_of_lt hyl]; exact hyt
      · rw [Nat.mod_eq_of_lt (by omega)]
        exact hbelow _ (by omega) (fun x hx => by rw [hy] at hx; cases hx; omega) (by omega)
    rcases Nat.eq_zero_or_pos c with h0 | h0
    · subst h0
      obtain ⟨z, hz⟩ := pl_ex (xs := xs) (t := t) (j := (plK xs t xs.length).length - 1) (by omega)
      obtain ⟨hzt, hzl⟩ := pl_get hz
      refine ⟨(plK xs t xs.length).length - 1, y - i, by omega, hd, ?_⟩
      unfold nxD
      rw [if_neg (by omega), nth_eq hy, nth_eq hz]
      omega
    · obtain ⟨z, hz⟩ := pl_ex (xs := xs) (t := t) (j := c - 1) (by omega)
      have hzi := hle (c - 1) z (by omega) hz
      refine ⟨c - 1, y - i, by omega, hd, ?_⟩
      unfold nxD
      rw [show c - 1 + 1 = c by omega, if_pos h5, nth_eq hy, nth_eq hz]
      omega
  · obtain ⟨y, hy⟩ := pl_ex (xs := xs) (t := t) hp
    obtain ⟨hyt, hyl⟩ := pl_get hy
    obtain ⟨z, hz⟩ := pl_ex (xs := xs) (t := t) (j := (plK xs t xs.length).length - 1) (by omega)
    have hzi := hle _ z (by omega) hz
    refine ⟨(plK xs t xs.length).length - 1, y + xs.length - i, by omega, ⟨?_, fun m hm => ?_⟩, ?_⟩
    · rw [show i + (y + xs.length - i) = y + xs.length by omega, Nat.add_mod_right, Nat.mod_eq_of_lt hyl]; exact hyt
    · rcases Nat.lt_or_ge (i + m) xs.length with h2 | h2
      · rw [Nat.mod_eq_of_lt h2]
        exact hbelow _ (by omega) (fun x hx => by have := (List.getElem?_eq_some_iff.1 hx).1; omega) h2
      · rw [show i + m = (i + m - xs.length) + xs.length by omega, Nat.add_mod_right, Nat.mod_eq_of_lt (by omega)]
        exact pl_first hy (by omega)
    · unfold nxD
      rw [if_neg (by omega), nth_eq hy, nth_eq hz]
      omega
/-- The gap is the greatest of them. -/
theorem gapK_nx : ∀ i, i < (plK xs t xs.length).length → (∀ j, j < i → (nxD xs t j : Int) ≤ gapK (plK xs t xs.length) xs.length i) ∧ (nxD xs t ((plK xs t xs.length).length - 1) : Int) ≤ gapK (plK xs t xs.length) xs.length i ∧ ∃ j, j < (plK xs t xs.length).length ∧ gapK (plK xs t xs.length) xs.length i = nxD xs t j
  | 0, h => by
    obtain ⟨z, hz⟩ := pl_ex (xs := xs) (t := t) (j := (plK xs t xs.length).length - 1) (by omega)
    obtain ⟨hzt, hzl⟩ := pl_get hz
    have e : gapK (plK xs t xs.length) xs.length 0 = nxD xs t ((plK xs t xs.length).length - 1) := by
      unfold nxD gapK
      rw [if_neg (by omega), nth_eq hz]
      omega
    exact ⟨fun j hj => by omega, by rw [e]; exact Int.le_refl _, _, by omega, e⟩
  | i + 1, h => by
    obtain ⟨h1, h2, j0, h3, h4⟩ := gapK_nx i (by omega)
    obtain ⟨y, hy⟩ := pl_ex (xs := xs) (t := t) h
    obtain ⟨z, hz⟩ := pl_ex (xs := xs) (t := t) (j := i) (by omega)
    have hzy := pl_lt (Nat.lt_succ_self i) hz hy
    have e : ((nth (plK xs t xs.length) (i + 1) : Int) - nth (plK xs t xs.length) i) = nxD xs t i := by
      unfold nxD
      rw [if_pos h, nth_eq hy, nth_eq hz]
      omega
    have eg : gapK (plK xs t xs.length) xs.length (i + 1) = max (gapK (plK xs t xs.length) xs.length i) (nxD xs t i) := by
      rw [gapK, e]
    rw [eg]
    refine ⟨fun j hj => ?_, by omega, ?_⟩
    · rcases Nat.lt_or_ge j i with h5 | h5
      · have := h1 j h5; omega
      · obtain rfl : j = i := by omega
        omega
    · rcases Int.le_total (gapK (plK xs t xs.length) xs.length i) (nxD xs t i) with h5 | h5
      · exact ⟨i, by omega, by omega⟩
      · exact ⟨j0, h3, by omega⟩
theorem gap_facts (hp : 0 < (plK xs t xs.length).length) : ∃ g : Nat, gapK (plK xs t xs.length) xs.length ((plK xs t xs.length).length - 1) = g ∧ 1 ≤ g ∧ g ≤ xs.length ∧ (∀ j, j < (plK xs t xs.length).length → nxD xs t j ≤ g) ∧ ∃ j, j < (plK xs t xs.length).length ∧ nxD xs t j = g := by
  obtain ⟨h1, h2, j0, h3, h4⟩ := gapK_nx (xs := xs) (t := t) ((plK xs t xs.length).length - 1) (by omega)
  obtain ⟨x, hx⟩ := pl_ex (xs := xs) (t := t) h3
  obtain ⟨k1, k2, -⟩ := nxD_isD hx
  refine ⟨nxD xs t j0, h4, k1, k2, fun j hj => ?_, j0, h3, rfl⟩
  rcases Nat.lt_or_ge j ((plK xs t xs.length).length - 1) with h5 | h5
  · have := h1 j h5; omega
  · obtain rfl : j = (plK xs t xs.length).length - 1 := by omega
    omega
end
end Go.Proofs.Ytiplmelpagiklaa
