/- Plain: a digest's text is read as it was, and a text that is one comes back. -/
import Derived.Test.YtbjgidgohekaaaaDoorDgW
import Derived.Test.YtbjgidgohekaaaaDoorDgL
set_option linter.unusedVariables false
namespace Go.Proofs.YtbjgidgohekaaaaDoor
theorem halfI_hd (n : Int) (h0 : 0 ≤ n) (h1 : n < 16) : halfI (hd n) = n ∧ 0 ≤ hd n ∧ hd n < 256 := by
  unfold hd halfI
  split <;> (split <;> (try split)) <;> omega
theorem hd_halfI (c : Int) (h : 0 ≤ halfI c) : hd (halfI c) = c := by
  unfold halfI at h ⊢
  unfold hd
  split at h
  · split
    · split <;> omega
    · omega
  · split at h
    · split
      · omega
      · split <;> (try split) <;> omega
    · omega
theorem chS_str (xs : List Int) (j : Nat) (hj : j < xs.length) (h : 0 ≤ xs[j] ∧ xs[j] < 256) : chS (strOfNums xs) j = xs[j] := by
  unfold chS
  rw [ByteArray.toList_eq, strOfNums_data, List.getD_eq_getElem?_getD, List.getElem?_map, List.getElem?_eq_getElem hj]
  simp
  omega
theorem hexF_range (l : List Int) (hr : ∀ i, 0 ≤ l.getD i 0 ∧ l.getD i 0 < 256) (j : Nat) : ∃ n, hexF l j = hd n ∧ 0 ≤ n ∧ n < 16 := by
  have := hr (j / 2)
  unfold hexF
  split
  · exact ⟨_, rfl, by omega, by omega⟩
  · exact ⟨_, rfl, by omega, by omega⟩
theorem chS_hex (l : List Int) (hr : ∀ i, 0 ≤ l.getD i 0 ∧ l.getD i 0 < 256) (j : Nat) (hj : j < 64) : chS (strOfNums (hexL l)) j = hexF l j := by
  obtain ⟨n, hn, h0, h1⟩ := hexF_range l hr j
  have hd' := halfI_hd n h0 h1
  have hlen : (hexL l).length = 64 := by simp [hexL]
  have hg : (hexL l)[j]'(by omega) = hexF l j := by simp [hexL]
  rw [chS_str _ j (by omega) (by rw [hg, hn]; omega), hg]
theorem ok_hex (l : List Int) (hr : ∀ i, 0 ≤ l.getD i 0 ∧ l.getD i 0 < 256) : OkText (strOfNums (hexL l)) := by
  refine ⟨by rw [strOfNums_size]; simp [hexL], fun j hj => ?_⟩
  obtain ⟨n, hn, h0, h1⟩ := hexF_range l hr j
  rw [chS_hex l hr j hj, hn, (halfI_hd n h0 h1).1]
  exact h0
theorem parse_hex (l : List Int) (hl : l.length = 32) (hr : ∀ i, 0 ≤ l.getD i 0 ∧ l.getD i 0 < 256) : parseL (strOfNums (hexL l)) = l ∧ parseE (strOfNums (hexL l)) = 0 := by
  have hok := ok_hex l hr
  refine ⟨?_, by rw [parseE, if_pos hok]⟩
  rw [parseL, if_pos hok]
  apply List.ext_getElem
  · simp [pL, hl]
  · intro i h1 h2
    simp only [pL, List.getElem_map, List.getElem_range]
    unfold pF
    rw [chS_hex l hr _ (by omega), chS_hex l hr _ (by omega)]
    have hi := hr i
    have hg : l.getD i 0 = l[i] := by rw [List.getD_eq_getElem?_getD, List.getElem?_eq_getElem h2]; rfl
    have e1 : hexF l (2 * i) = hd (l.getD i 0 / 16) := by unfold hexF; rw [if_pos (by omega), show 2 * i / 2 = i by omega]
    have e2 : hexF l (2 * i + 1) = hd (l.getD i 0 % 16) := by unfold hexF; rw [if_neg (by omega), show (2 * i + 1) / 2 = i by omega]
    rw [e1, e2, (halfI_hd _ (by omega) (by omega)).1, (halfI_hd _ (by omega) (by omega)).1, hg]
    omega
theorem pL_range (s : ByteArray) (h : OkText s) (i : Nat) : 0 ≤ (pL s).getD i 0 ∧ (pL s).getD i 0 < 256 := by
  rw [List.getD_eq_getElem?_getD]
  by_cases hi : i < 32
  · have : (pL s)[i]? = some (pF s i) := by simp [pL, hi]
    rw [this]
    have h1 := h.2 (2 * i) (by omega)
    have h2 := h.2 (2 * i + 1) (by omega)
    have h3 := halfI_range (chS s (2 * i))
    have h4 := halfI_range (chS s (2 * i + 1))
    simp only [Option.getD_some, pF]
    omega
  · have : (pL s)[i]? = none := by simp [pL]; omega
    rw [this]
    simp
theorem hex_parse (s : ByteArray) (h : OkText s) : strOfNums (hexL (pL s)) = s := by
  have hs : s.data.toList.length = 64 := by rw [← h.1]; rfl
  have e : s = ⟨s.data.toList.toArray⟩ := by cases s; simp
  have key : (hexL (pL s)).map (fun n => UInt8.ofNat n.toNat) = s.data.toList := by
    apply List.ext_getElem
    · simp [hexL, hs]
    · intro j h1 h2
      have hj : j < 64 := by omega
      simp only [hexL, List.map_map, List.getElem_map, List.getElem_range, Function.comp]
      have hc := h.2 j hj
      have hcs : chS s j = (s.data.toList[j].toNat : Int) := by
        unfold chS
        rw [ByteArray.toList_eq, List.getD_eq_getElem?_getD, List.getElem?_eq_getElem h2]
        rfl
      have hpl : (pL s).getD (j / 2) 0 = pF s (j / 2) := by
        have hj2 : j / 2 < 32 := by omega
        have : (pL s)[j / 2]? = some (pF s (j / 2)) := by simp [pL, hj2]
        rw [List.getD_eq_getElem?_getD, this]
        rfl
      have hv : hexF (pL s) j = chS s j := by
        unfold hexF
        rw [hpl]
        unfold pF
        have h1 := h.2 (2 * (j / 2)) (by omega)
        have h2 := h.2 (2 * (j / 2) + 1) (by omega)
        have h3 := halfI_range (chS s (2 * (j / 2)))
        have h4 := halfI_range (chS s (2 * (j / 2) + 1))
        split
        · rename_i he
          have e2 : 2 * (j / 2) = j := by omega
          rw [show (16 * halfI (chS s (2 * (j / 2))) + halfI (chS s (2 * (j / 2) + 1))) / 16 = halfI (chS s (2 * (j / 2))) by omega, e2]
          exact hd_halfI _ hc
        · rename_i he
          have e2 : 2 * (j / 2) + 1 = j := by omega
          rw [show (16 * halfI (chS s (2 * (j / 2))) + halfI (chS s (2 * (j / 2) + 1))) % 16 = halfI (chS s (2 * (j / 2) + 1)) by omega, e2]
          exact hd_halfI _ hc
      rw [hv, hcs]
      simp
  unfold strOfNums
  rw [key]
end Go.Proofs.YtbjgidgohekaaaaDoor
