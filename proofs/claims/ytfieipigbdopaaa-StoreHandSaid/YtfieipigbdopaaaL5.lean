/- Plain law: of entries that are all fresh those that were asked for stay. -/
import Derived.Test.YtfieipigbdopaaaL4
set_option linter.unusedVariables false
set_option linter.unusedSimpArgs false
namespace Go.Proofs.Ytfieipigbdopaaa
def mk (m : Nat) (f : Nat → SE) : List SE := (List.range m).map f
theorem mk_len (m : Nat) (f : Nat → SE) : (mk m f).length = m := by simp [mk]
theorem mk_get {m : Nat} {f : Nat → SE} {j : Nat} {x : SE} : (mk m f)[j]? = some x ↔ j < m ∧ x = f j := by
  unfold mk
  rw [List.getElem?_map]
  rcases Nat.lt_or_ge j m with h | h
  · rw [List.getElem?_range h]
    simp [h, eq_comm]
  · rw [List.getElem?_eq_none (by simpa using h)]
    simp
    omega
theorem mk_set {m : Nat} {f g : Nat → SE} {q : Nat} {e : SE} (hq : q < m) (he : g q = e) (hn : ∀ j, j < m → j ≠ q → g j = f j) : (mk m f).set q e = mk m g := by
  apply List.ext_getElem?
  intro i
  rw [List.getElem?_set]
  rcases Nat.lt_or_ge i m with h | h
  · by_cases e' : q = i
    · subst e'
      rw [if_pos rfl, if_pos (by rw [mk_len]; exact h)]
      exact (mk_get.2 ⟨h, he.symm⟩).symm
    · rw [if_neg e', mk_get.2 ⟨h, rfl⟩]
      exact (mk_get.2 ⟨h, (hn i h (fun h => e' h.symm)).symm⟩).symm
  · rw [List.getElem?_eq_none (by rw [mk_len]; exact h), if_neg (by omega), List.getElem?_eq_none (by rw [mk_len]; exact h)]
theorem mk_idx_no {m : Nat} {f : Nat → SE} {k : ByteArray} (h : ∀ j, j < m → (f j).key ≠ k) : idxI (keyP k) (mk m f) = -1 :=
  idxI_no _ _ fun j y hy => by
    obtain ⟨hj, rfl⟩ := mk_get.1 hy
    cases hp : keyP k (f j)
    · rfl
    · exact absurd (keyP_iff.1 hp) (h j hj)
theorem mk_idx {m : Nat} {f : Nat → SE} {k : ByteArray} {q : Nat} (hq : q < m) (hk : (f q).key = k) (h : ∀ j, j < q → (f j).key ≠ k) : idxI (keyP k) (mk m f) = q :=
  idxI_yes _ _ q (f q) (mk_get.2 ⟨hq, rfl⟩) (keyP_iff.2 hk) fun j y hj hy => by
    obtain ⟨hj', rfl⟩ := mk_get.1 hy
    cases hp : keyP k (f j)
    · rfl
    · exact absurd (keyP_iff.1 hp) (h j hj)
theorem mk_find {m : Nat} {f : Nat → SE} {k : ByteArray} {q : Nat} (hq : q < m) (hk : (f q).key = k) (h : ∀ j, j < q → (f j).key ≠ k) : (mk m f).find? (keyP k) = some (f q) :=
  find_first _ _ q (f q) (mk_get.2 ⟨hq, rfl⟩) (keyP_iff.2 hk) fun j y hj hy => by
    obtain ⟨hj', rfl⟩ := mk_get.1 hy
    cases hp : keyP k (f j)
    · rfl
    · exact absurd (keyP_iff.1 hp) (h j hj)
def keyL (j : Nat) : ByteArray := strOfNums [97 + (j : Int)]
def itoaB (n : Nat) : ByteArray := if n = 0 then ⟨#[48]⟩ else if n < 10 then strOfNums [48 + (n : Int)] ++ ⟨#[]⟩ else strOfNums [48 + ((n / 10 : Nat) : Int)] ++ (strOfNums [48 + ((n % 10 : Nat) : Int)] ++ ⟨#[]⟩)
def newK (n : Nat) : ByteArray := ⟨#[110, 101, 119]⟩ ++ itoaB n
theorem keyL_ne : ∀ i, i < 25 → ∀ j, j < 25 → keyL i = keyL j → i = j := by decide +kernel
theorem newK_ne : ∀ i, i < 25 → ∀ j, j < 25 → newK i = newK j → i = j := by decide +kernel
theorem keyL_newK : ∀ i, i < 25 → ∀ j, j < 25 → keyL i ≠ newK j := by decide +kernel
theorem keyL_ok : ∀ i, i < 25 → (keyL i).size ≤ 4096 ∧ (keyL i).size ≠ 0 := by decide +kernel
theorem newK_ok : ∀ i, i < 25 → (newK i).size ≤ 4096 ∧ (newK i).size ≠ 0 := by decide +kernel
theorem ne_empty {k : ByteArray} (h : k.size ≠ 0) : k.toList.isEmpty = false := by
  rw [ByteArray.toList_eq]
  cases hk : k.data.toList with
  | nil => exact absurd (show k.size = 0 by rw [← ByteArray.size_data, ← Array.length_toList, hk]; rfl) h
  | cons a l => rfl
theorem ne_zero {k : ByteArray} (h : k.size ≠ 0) : k ≠ ⟨#[]⟩ := fun e => by subst e; exact h rfl
theorem ask_ok {t : Int} {k : ByteArray} (h1 : 0 ≤ t) (h2 : t ≤ 1099511627776) (h3 : k.size ≤ 4096) (h4 : k.size ≠ 0) : askE true t k = 0 := by
  unfold askE momB
  simp [h1, h2, h3, ne_empty h4]
def entL (j : Nat) (q : Bool) : SE := ⟨keyL j, [], 0, 99, q⟩
def fI (i j : Nat) : SE := if j < i then entL j false else se0
def asB (aa : List Bool) (j : Nat) : Bool := aa.getD j false
def fG (aa : List Bool) (i j : Nat) : SE := entL j (decide (j < i) && asB aa j)
/-- How many of the first were not asked for. -/
def cntA (aa : List Bool) (j : Nat) : Nat := ((List.range j).filter fun i => !asB aa i).length
def fN (aa : List Bool) (p j : Nat) : SE := if j < p then (if asB aa j then entL j false else ⟨newK (cntA aa j), [], 1, 99, false⟩) else entL j (asB aa j)
theorem cntA_succ (aa : List Bool) (j : Nat) : cntA aa (j + 1) = cntA aa j + (if asB aa j then 0 else 1) := by
  unfold cntA
  rw [List.range_succ, List.filter_append, List.length_append]
  cases h : asB aa j <;> simp [h]
theorem cntA_le (aa : List Bool) : ∀ j, cntA aa j ≤ j
  | 0 => by simp [cntA]
  | j + 1 => by
    have := cntA_le aa j
    rw [cntA_succ]
    split <;> omega
theorem cntA_mono (aa : List Bool) (i : Nat) : ∀ d, cntA aa i ≤ cntA aa (i + d)
  | 0 => Nat.le_refl _
  | d + 1 => by
    have := cntA_mono aa i d
    rw [show i + (d + 1) = i + d + 1 by omega, cntA_succ]
    omega
theorem cntA_mono' (aa : List Bool) {i j : Nat} (h : i ≤ j) : cntA aa i ≤ cntA aa j := by
  obtain ⟨d, rfl⟩ : ∃ d, j = i + d := ⟨j - i, by omega⟩
  exact cntA_mono aa i d
theorem cntA_lt (aa : List Bool) {i j : Nat} (h : i < j) (ha : asB aa i = false) : cntA aa i < cntA aa j := by
  have h1 := cntA_mono' aa (show i + 1 ≤ j by omega)
  rw [cntA_succ, ha] at h1
  simp at h1
  omega
theorem put_init {m i : Nat} (hm : m ≤ 25) (hi : i < m) : putE 1 (mk m (fI i)) 0 (keyL i) 0 99 = 0 ∧ putR 1 (mk m (fI i)) 0 0 (keyL i) [] 99 = (mk m (fI (i + 1)), 0) := by
  obtain ⟨k1, k2⟩ := keyL_ok i (by omega)
  have hE : putE 1 (mk m (fI i)) 0 (keyL i) 0 99 = 0 := by
    unfold putE
    rw [if_neg (by rw [ask_ok (by omega) (by omega) k1 k2]; simp), if_neg (by omega), if_neg (by simp), if_neg (by rw [mk_len]; omega)]
  refine ⟨hE, ?_⟩
  have hn : idxI (keyP (keyL i)) (mk m (fI i)) = -1 := mk_idx_no fun j hj he => by
    unfold fI at he
    split at he
    · have := keyL_ne j (by omega) i (by omega) he; omega
    · exact ne_zero k2 he.symm
  have he : idxI (keyP ⟨#[]⟩) (mk m (fI i)) = i := mk_idx hi (by unfold fI; rw [if_neg (by omega)]; rfl) fun j hj he => by
    unfold fI at he
    rw [if_pos hj] at he
    exact ne_zero (keyL_ok j (by omega)).2 he
  have hp : placeS (mk m (fI i)) 0 0 (keyL i) = (mk m (fI i), 0, i) := by
    unfold placeS
    rw [hn, if_neg (by omega), he, if_pos (by omega)]
    rfl
  unfold putR putS
  rw [show ([] : List Int).length = 0 from rfl, if_pos hE, hp]
  simp only
  rw [mk_set (g := fI (i + 1)) hi (by unfold fI; rw [if_pos (by omega)]; rfl) (fun j hj hne => by
    unfold fI
    by_cases h : j < i
    · rw [if_pos h, if_pos (by omega)]
    · rw [if_neg h, if_neg (by omega)])]
theorem get_step {m i : Nat} {aa : List Bool} (hm : m ≤ 25) (hi : i < m) (ha : asB aa i = true) : (getS (mk m (fG aa i)) 1 (keyL i)).2 = mk m (fG aa (i + 1)) := by
  obtain ⟨k1, k2⟩ := keyL_ok i (by omega)
  have hdis : ∀ j, j < i → (fG aa i j).key ≠ keyL i := fun j hj he => by
    have := keyL_ne j (by omega) i (by omega) he; omega
  unfold getS
  rw [if_neg (by rw [ask_ok (by omega) (by omega) k1 k2]; simp), mk_find (k := keyL i) hi rfl hdis, mk_idx (k := keyL i) hi rfl hdis]
  simp only
  rw [if_pos (by rfl)]
  exact mk_set hi (by unfold fG ask1 entL; simp [ha]) fun j hj hne => by
    unfold fG
    congr 2
    simp
    omega
theorem get_skip {m i : Nat} {aa : List Bool} (ha : asB aa i = false) : mk m (fG aa (i + 1)) = mk m (fG aa i) := by
  unfold mk
  refine List.map_congr_left fun j _ => ?_
  unfold fG
  by_cases h : j = i
  · subst h; rw [ha]; simp
  · congr 2
    simp
    omega
theorem get_all (m : Nat) (aa : List Bool) : mk m (fG aa m) = mk m (fN aa 0) := by
  unfold mk
  refine List.map_congr_left fun j hj => ?_
  have := List.mem_range.1 hj
  unfold fG fN
  rw [if_neg (by omega), decide_eq_true this, Bool.true_and]
theorem turn_new {m : Nat} {aa : List Bool} : ∀ (d p f : Nat), askedN (mk m (fN aa p)) < f → (∀ j, p ≤ j → j < p + d → asB aa j = true) → asB aa (p + d) = false → p + d < m →
    turnS 1 f (mk m (fN aa p)) p = (mk m (fN aa (p + d)), (p + d + 1) % m, p + d)
  | 0, p, f, hf, hall, ha, hm => by
    obtain ⟨f, rfl⟩ : ∃ f', f = f' + 1 := ⟨f - 1, by omega⟩
    have hx : (mk m (fN aa p))[p]? = some (fN aa p p) := mk_get.2 ⟨by omega, rfl⟩
    have hp : fN aa p p = entL p false := by unfold fN; rw [if_neg (by omega), show asB aa p = false from ha]
    rw [hp] at hx
    rw [turnS_cold hx rfl, mk_len]
    rfl
  | d + 1, p, f, hf, hall, ha, hm => by
    obtain ⟨f, rfl⟩ : ∃ f', f = f' + 1 := ⟨f - 1, by omega⟩
    have hap := hall p (Nat.le_refl _) (by omega)
    have hx : (mk m (fN aa p))[p]? = some (fN aa p p) := mk_get.2 ⟨by omega, rfl⟩
    have hp : fN aa p p = entL p true := by unfold fN; rw [if_neg (by omega), hap]
    rw [hp] at hx
    have hset : (mk m (fN aa p)).set p (clr (entL p true)) = mk m (fN aa (p + 1)) := mk_set (by omega) (by unfold fN; rw [if_pos (by omega), if_pos hap]; rfl) fun j hj hne => by
      unfold fN
      by_cases h : j < p
      · rw [if_pos h, if_pos (by omega)]
      · rw [if_neg h, if_neg (by omega)]
    have hcn := asked_clr hx rfl
    rw [hset] at hcn
    rw [turnS_hot hx rfl, hset, mk_len, Nat.mod_eq_of_lt (by omega : p + 1 < m)]
    have ih := turn_new (m := m) d (p + 1) f (by omega) (fun j h1 h2 => hall j (by omega) (by omega)) (by rw [show p + 1 + d = p + (d + 1) by omega]; exact ha) (by omega)
    rw [ih, show p + 1 + d = p + (d + 1) by omega]
theorem next_calm {aa : List Bool} {m : Nat} : ∀ (e p : Nat), m = p + e → cntA aa p < cntA aa m → ∃ d, p + d < m ∧ asB aa (p + d) = false ∧ ∀ j, p ≤ j → j < p + d → asB aa j = true
  | 0, p, hm, h => by subst hm; simp at h
  | e + 1, p, hm, h => by
    cases ha : asB aa p
    · exact ⟨0, by omega, ha, fun j h1 h2 => by omega⟩
    · obtain ⟨d, h1, h2, h3⟩ := next_calm (aa := aa) (m := m) e (p + 1) (by omega) (by rw [cntA_succ, ha]; simpa using h)
      refine ⟨d + 1, by omega, by rw [show p + (d + 1) = p + 1 + d by omega]; exact h2, fun j k1 k2 => ?_⟩
      by_cases hj : j = p
      · subst hj; exact ha
      · exact h3 j (by omega) (by omega)
theorem cnt_run {aa : List Bool} {p : Nat} : ∀ d, (∀ j, p ≤ j → j < p + d → asB aa j = true) → cntA aa (p + d) = cntA aa p
  | 0, _ => rfl
  | d + 1, h => by
    rw [show p + (d + 1) = p + d + 1 by omega, cntA_succ, h (p + d) (by omega) (by omega), if_pos rfl, cnt_run d fun j h1 h2 => h j h1 (by omega)]
    omega
theorem put_new {m p n : Nat} {aa : List Bool} (hm : m ≤ 25) (hp : cntA aa p = n) (hn : n < cntA aa m) (hpm : p ≤ m) :
    putE 1 (mk m (fN aa p)) 1 (newK n) 0 99 = 0 ∧ ∃ q, q ≤ m ∧ cntA aa q = n + 1 ∧ putR 1 (mk m (fN aa p)) (p % m) 1 (newK n) [] 99 = (mk m (fN aa q), q % m) := by
  have hcm := cntA_le aa m
  obtain ⟨k1, k2⟩ := newK_ok n (by omega)
  have hE : putE 1 (mk m (fN aa p)) 1 (newK n) 0 99 = 0 := by
    unfold putE
    rw [if_neg (by rw [ask_ok (by omega) (by omega) k1 k2]; simp), if_neg (by omega), if_neg (by simp), if_neg (by rw [mk_len]; omega)]
  refine ⟨hE, ?_⟩
  have hpl : p < m := by
    rcases Nat.lt_or_ge p m with h | h
    · exact h
    · obtain rfl : p = m := by omega
      omega
  obtain ⟨d, d1, d2, d3⟩ := next_calm (aa := aa) (m := m) (m - p) p (by omega) (by omega)
  have hcd := cnt_run d d3
  have hkeys : ∀ j, j < m → (fN aa p j).key = keyL j ∨ ∃ c, c < n ∧ (fN aa p j).key = newK c := fun j hj => by
    unfold fN
    split
    · split
      · exact .inl rfl
      · rename_i h1 h2
        exact .inr ⟨_, by rw [← hp]; exact cntA_lt aa h1 (by simpa using h2), rfl⟩
    · exact .inl rfl
  have h1 : idxI (keyP (newK n)) (mk m (fN aa p)) = -1 := mk_idx_no fun j hj he => by
    rcases hkeys j hj with h | ⟨c, hc, h⟩
    · exact keyL_newK j (by omega) n (by omega) (by rw [← h, he])
    · have := newK_ne c (by omega) n (by omega) (by rw [← h, he]); omega
  have h2 : idxI (keyP ⟨#[]⟩) (mk m (fN aa p)) = -1 := mk_idx_no fun j hj he => by
    rcases hkeys j hj with h | ⟨c, hc, h⟩
    · exact ne_zero (keyL_ok j (by omega)).2 (by rw [← h, he])
    · exact ne_zero (newK_ok c (by omega)).2 (by rw [← h, he])
  have hpl2 : placeS (mk m (fN aa p)) (p % m) 1 (newK n) = (mk m (fN aa (p + d)), (p + d + 1) % m, p + d) := by
    unfold placeS
    rw [h1, if_neg (by omega), h2, if_neg (by omega), Nat.mod_eq_of_lt hpl]
    exact turn_new d p _ (by omega) d3 d2 d1
  refine ⟨p + d + 1, by omega, by rw [cntA_succ, d2, hcd, hp]; rfl, ?_⟩
  unfold putR putS
  rw [show ([] : List Int).length = 0 from rfl, if_pos hE, hpl2]
  simp only
  rw [mk_set (g := fN aa (p + d + 1)) d1 (by unfold fN; rw [if_pos (by omega), d2, hcd, hp]; rfl) (fun j hj hne => by
    unfold fN
    by_cases h : j < p + d
    · rw [if_pos h, if_pos (by omega)]
    · rw [if_neg h, if_neg (by omega)])]
/-- What stands at the end: which key, and which is gone. -/
theorem end_key {m p : Nat} {aa : List Bool} (hm : m ≤ 25) (hpm : p ≤ m) {i : Nat} (hi : i < m) : ((mk m (fN aa p)).map SE.key)[i]? = some (fN aa p i).key ∧ (decide ([(fN aa p i).key] = [keyL i]) = (decide (p ≤ i) || asB aa i)) := by
  refine ⟨by rw [List.getElem?_map, mk_get.2 ⟨hi, rfl⟩]; rfl, ?_⟩
  unfold fN
  by_cases h : i < p
  · rw [if_pos h, decide_eq_false (show ¬ p ≤ i by omega), Bool.false_or]
    cases ha : asB aa i
    · simp only [Bool.false_eq_true, if_false]
      have hc := cntA_le aa i
      have := keyL_newK i (by omega) (cntA aa i) (by omega)
      simp
      exact fun e => this e.symm
    · simp [entL]
  · rw [if_neg h, decide_eq_true (show p ≤ i by omega)]
    simp [entL]
theorem used_all {m p : Nat} {aa : List Bool} (hm : m ≤ 25) : usedL (mk m (fN aa p)) = m := by
  unfold usedL
  rw [List.filter_eq_self.2, mk_len]
  intro x hx
  obtain ⟨j, hj⟩ := List.getElem?_of_mem hx
  obtain ⟨hjm, rfl⟩ := mk_get.1 hj
  unfold heldB fN
  split
  · split
    · rw [show (entL j false).key = keyL j from rfl, ne_empty (keyL_ok j (by omega)).2]; rfl
    · have hc := cntA_le aa j
      simp only
      rw [ne_empty (newK_ok _ (by omega)).2]; rfl
  · rw [show (entL j (asB aa j)).key = keyL j from rfl, ne_empty (keyL_ok j (by omega)).2]; rfl
/-- How many are gone among the first. -/
def goneN (aa : List Bool) (p i : Nat) : Nat := cntA aa (min i p)
theorem gone_succ {aa : List Bool} {p i : Nat} : goneN aa p (i + 1) = goneN aa p i + (if (decide (p ≤ i) || asB aa i) then 0 else 1) := by
  unfold goneN
  by_cases h : p ≤ i
  · rw [show min (i + 1) p = p by omega, show min i p = p by omega, decide_eq_true h]
    simp
  · rw [show min (i + 1) p = i + 1 by omega, show min i p = i by omega, cntA_succ, decide_eq_false h, Bool.false_or]
end Go.Proofs.Ytfieipigbdopaaa
