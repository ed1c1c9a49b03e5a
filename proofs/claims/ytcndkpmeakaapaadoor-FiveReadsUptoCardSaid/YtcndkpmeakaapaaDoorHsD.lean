/- Plain: a name as a list of numbers: its pieces, small letters; a name made small is read the same. -/
import Derived.Test.YtcndkpmeakaapaaDoorHsC
set_option linter.unusedVariables false
set_option linter.unusedSimpArgs false
namespace Go.Proofs.YtcndkpmeakaapaaDoor
open Go Go.RowKit
/-- a text's bytes as numbers -/
def byL (s : ByteArray) : List Int := s.data.toList.map fun b => (b.toNat : Int)
theorem byL_length (s : ByteArray) : (byL s).length = s.size := by simp [byL]
theorem byL_range {s : ByteArray} : ∀ x ∈ byL s, 0 ≤ x ∧ x < 256 := fun x hx => by
  obtain ⟨b, _, rfl⟩ := List.mem_map.1 hx
  have := b.toNat_lt
  omega
theorem str_byL (s : ByteArray) : strOfNums (byL s) = s := by
  unfold strOfNums byL
  rw [List.map_map]
  have h : (fun n : Int => UInt8.ofNat n.toNat) ∘ (fun b : UInt8 => (b.toNat : Int)) = id := by
    funext b
    simp
  rw [h, List.map_id, Array.toArray_toList]
theorem byL_str {l : List Int} (h : ∀ x ∈ l, 0 ≤ x ∧ x < 256) : byL (strOfNums l) = l := by
  unfold strOfNums byL
  show (l.map fun n => UInt8.ofNat n.toNat).map _ = l
  rw [List.map_map]
  conv => rhs; rw [← List.map_id l]
  apply List.map_congr_left
  intro x hx
  have := h x hx
  simp
  omega
theorem chS_byL (s : ByteArray) (i : Nat) (hi : i < s.size) : chS s i = (byL s).getD i 0 := by
  unfold chS byL
  rw [ByteArray.toList_eq]
  have h : i < s.data.toList.length := by simpa using hi
  simp [List.getD_eq_getElem?_getD, h]
  simp at h
  simp [h]
theorem byL_get (s : ByteArray) (i : Nat) (hi : i < s.size) : (byL s)[i]? = some (chS s i) := by
  rw [chS_byL s i hi, List.getD_eq_getElem?_getD]
  have : i < (byL s).length := by rw [byL_length]; exact hi
  simp [this]
theorem range_byL (s : ByteArray) : (List.range s.size).map (chS s) = byL s := by
  apply List.ext_getElem?
  intro i
  by_cases hi : i < s.size
  · rw [byL_get s i hi, List.getElem?_map, List.getElem?_range hi]; rfl
  · rw [List.getElem?_eq_none (by simp; omega), List.getElem?_eq_none (by rw [byL_length]; omega)]
/-- Small letters. -/
def lowI (c : Int) : Int := if 65 ≤ c ∧ c ≤ 90 then c + 32 else c
theorem lowI_lowI (c : Int) : lowI (lowI c) = lowI c := by
  unfold lowI
  by_cases h : 65 ≤ c ∧ c ≤ 90
  · rw [if_pos h, if_neg (by omega)]
  · rw [if_neg h, if_neg h]
theorem lowI_dot (c : Int) : lowI c = 46 ↔ c = 46 := by unfold lowI; split <;> omega
theorem lowI_hy (c : Int) : lowI c = 45 ↔ c = 45 := by unfold lowI; split <;> omega
theorem kind_lowI (c : Int) : kindI (lowI c) = kindI c := by
  unfold lowI
  by_cases h : 65 ≤ c ∧ c ≤ 90
  · rw [if_pos h]
    unfold kindI
    rw [if_neg (by omega), if_neg (by omega), if_neg (by omega), if_pos (by omega), if_neg (by omega), if_neg (by omega), if_neg (by omega), if_pos (by omega)]
  · rw [if_neg h]
theorem byL_low (s : ByteArray) : byL (lowB s) = (byL s).map lowI := by
  unfold lowB byL Lib.toLowerA
  show (s.data.toList.map Lib.lowerB).map _ = _
  rw [List.map_map, List.map_map]
  apply List.map_congr_left
  intro b _
  show ((Lib.lowerB b).toNat : Int) = lowI (b.toNat : Int)
  unfold Lib.lowerB Lib.isUpperB lowI
  by_cases h : 65 ≤ b ∧ b ≤ 90
  · have h1 : 65 ≤ b.toNat ∧ b.toNat ≤ 90 := ⟨UInt8.le_iff_toNat_le.1 h.1, UInt8.le_iff_toNat_le.1 h.2⟩
    rw [if_pos (by simp [h]), if_pos (by omega), UInt8.toNat_add]
    have : (32 : UInt8).toNat = 32 := rfl
    omega
  · have h1 : ¬ (65 ≤ b.toNat ∧ b.toNat ≤ 90) := fun h2 => h ⟨UInt8.le_iff_toNat_le.2 h2.1, UInt8.le_iff_toNat_le.2 h2.2⟩
    rw [if_neg (by simp at h ⊢; exact h), if_neg (by omega)]
theorem low_str (s : ByteArray) : lowB s = strOfNums ((byL s).map lowI) := by rw [← byL_low, str_byL]
/-- Parts between points. -/
def splL : List Int → List (List Int)
  | [] => [[]]
  | c :: r => if c = 46 then [] :: splL r else match splL r with
    | h :: t => (c :: h) :: t
    | [] => [[c]]
theorem splL_ne : ∀ l, splL l ≠ []
  | [] => by simp [splL]
  | c :: r => by
    unfold splL
    split
    · simp
    · split <;> simp
theorem splL_miss : ∀ {l : List Int}, (∀ x ∈ l, x ≠ 46) → splL l = [l]
  | [], _ => rfl
  | c :: r, h => by
    unfold splL
    rw [if_neg (h c (by simp)), splL_miss (fun x hx => h x (by simp [hx]))]
theorem splL_hit : ∀ {a : List Int} (b : List Int), (∀ x ∈ a, x ≠ 46) → splL (a ++ 46 :: b) = a :: splL b
  | [], b, _ => by
    show splL (46 :: b) = _
    conv => lhs; unfold splL
    rw [if_pos rfl]
  | c :: r, b, h => by
    show splL (c :: (r ++ 46 :: b)) = _
    conv => lhs; unfold splL
    rw [if_neg (h c (by simp)), splL_hit b (fun x hx => h x (by simp [hx]))]
theorem index_miss : ∀ {l : List UInt8}, Lib.index l [46] = -1 → ∀ x ∈ l, x ≠ 46
  | [], _ => fun x hx => by cases hx
  | c :: r, h => by
    unfold Lib.index at h
    by_cases h1 : ([46] : List UInt8).isPrefixOf (c :: r) = true
    · rw [if_pos h1] at h; cases h
    · rw [if_neg h1] at h
      have hc : c ≠ 46 := fun e => h1 (by subst e; simp only [List.isPrefixOf, Bool.and_true, beq_self_eq_true])
      have hr : Lib.index r [46] = -1 := by
        by_cases h2 : (Lib.index r [46] == -1) = true
        · exact beq_iff_eq.1 h2
        · rw [if_neg h2] at h
          have := Lib.index_ge r [46]
          have h3 : Lib.index r [46] ≠ -1 := fun e => h2 (beq_iff_eq.2 e)
          omega
      intro x hx
      rcases List.mem_cons.1 hx with rfl | hx
      · exact hc
      · exact index_miss hr x hx
theorem index_hit : ∀ {l : List UInt8} {i : Nat}, Lib.index l [46] = i → (∀ x ∈ l.take i, x ≠ 46) ∧ l = l.take i ++ 46 :: l.drop (i + 1)
  | [], i, h => by
    have h2 : (-1 : Int) = i := h
    omega
  | c :: r, i, h => by
    unfold Lib.index at h
    by_cases h1 : ([46] : List UInt8).isPrefixOf (c :: r) = true
    · rw [if_pos h1] at h
      obtain rfl : i = 0 := by omega
      have hc : c = 46 := by
        simp only [List.isPrefixOf, Bool.and_true, beq_iff_eq] at h1
        exact h1.symm
      subst hc
      exact ⟨fun x hx => by simp at hx, by simp⟩
    · rw [if_neg h1] at h
      have hc : c ≠ 46 := fun e => h1 (by subst e; simp only [List.isPrefixOf, Bool.and_true, beq_self_eq_true])
      by_cases h2 : (Lib.index r [46] == -1) = true
      · rw [if_pos h2] at h; omega
      · rw [if_neg h2] at h
        have := Lib.index_ge r [46]
        have h3 : Lib.index r [46] ≠ -1 := fun e => h2 (beq_iff_eq.2 e)
        obtain ⟨k, rfl⟩ : ∃ k, i = k + 1 := ⟨i - 1, by omega⟩
        obtain ⟨g1, g2⟩ := index_hit (l := r) (i := k) (by omega)
        refine ⟨fun x hx => ?_, ?_⟩
        · rw [List.take_succ_cons] at hx
          rcases List.mem_cons.1 hx with rfl | hx
          · exact hc
          · exact g1 x hx
        · rw [List.take_succ_cons, List.drop_succ_cons, List.cons_append]
          exact congrArg _ g2
theorem byL_ne {l : List UInt8} (h : ∀ x ∈ l, x ≠ 46) : ∀ x ∈ l.map fun b => ((b.toNat : Nat) : Int), x ≠ 46 := fun x hx => by
  obtain ⟨b, hb, rfl⟩ := List.mem_map.1 hx
  intro e
  refine h b hb (UInt8.toNat_inj.1 ?_)
  show b.toNat = 46
  omega
theorem split_list : ∀ (k : Nat) (s : ByteArray), Lib.countB s dotB = k → (Lib.splitB dotB 0 k s).map byL = splL (byL s)
  | 0, s, hk => by
    rw [Lib.splitB_zero]
    rcases Lib.indexB_cases s dotB with hix | ⟨i, hix, hroom⟩
    · exact (splL_miss (l := byL s) (byL_ne (index_miss hix))).symm
    · have := Lib.countB_hit s dotB i (by decide) hix; omega
  | k + 1, s, hk => by
    have hd : dotB.size = 1 := rfl
    rcases Lib.indexB_cases s dotB with hix | ⟨i, hix, hroom⟩
    · rw [Lib.countB_miss s dotB hix] at hk; omega
    · rw [Lib.splitB_hit dotB 0 k s i hix, List.map_cons, split_list k _ (by have := Lib.countB_hit s dotB i (by decide) hix; omega)]
      obtain ⟨g1, g2⟩ := index_hit (l := s.data.toList) (i := i) hix
      have e1 : byL (s.extract 0 (i + 0)) = (s.data.toList.take i).map fun b => ((b.toNat : Nat) : Int) := by
        unfold byL
        simp
      have e2 : byL (s.extract (i + dotB.size) s.size) = (s.data.toList.drop (i + 1)).map fun b => ((b.toNat : Nat) : Int) := by
        unfold byL
        rw [hd, ByteArray.data_extract, Array.toList_extract]
        rw [List.extract_eq_take_drop, List.take_of_length_le]
        rw [List.length_drop, Array.length_toList]
        exact Nat.le_refl _
      rw [e1, e2]
      have e3 : byL s = ((s.data.toList.take i).map fun b => ((b.toNat : Nat) : Int)) ++ 46 :: ((s.data.toList.drop (i + 1)).map fun b => ((b.toNat : Nat) : Int)) := by
        unfold byL
        conv => lhs; rw [g2]
        rw [List.map_append, List.map_cons]; rfl
      rw [e3, splL_hit _ (byL_ne g1)]
theorem pieces_list (s : ByteArray) : (piecesB s).map byL = splL (byL s) := split_list _ s rfl
theorem splL_low : ∀ l : List Int, splL (l.map lowI) = (splL l).map (fun p => p.map lowI)
  | [] => rfl
  | c :: r => by
    rw [List.map_cons]
    conv => lhs; unfold splL
    conv => rhs; unfold splL
    rw [splL_low r]
    by_cases hc : c = 46
    · rw [if_pos hc, if_pos ((lowI_dot c).2 hc)]; rfl
    · rw [if_neg hc, if_neg (fun h => hc ((lowI_dot c).1 h))]
      cases h : splL r with
      | nil => rfl
      | cons a t => rfl
/-- Is a piece no label? -/
def labL (p : List Int) : Bool := decide (p.length = 0) || (decide (63 < p.length) || (!(p.all fun c => [2, 3, 4].any fun k => decide (kindI c = k)) || (decide (p.getD 0 0 = 45) || decide (p.getD (p.length - 1) 0 = 45))))
theorem only_list (ks : List Int) (p : ByteArray) : onlyB ks p = (byL p).all fun c => ks.any fun k => decide (kindI c = k) := by
  unfold onlyB
  rw [← range_byL, List.all_map]; rfl
theorem lab_list (p : ByteArray) : labBad p = labL (byL p) := by
  unfold labBad labL
  rw [byL_length, only_list]
  by_cases h : p.size = 0
  · simp [h]
  · rw [chS_byL p 0 (by omega), chS_byL p (p.size - 1) (by omega)]
theorem lab_low (p : List Int) : labL (p.map lowI) = labL p := by
  unfold labL
  rw [List.length_map, List.all_map]
  have h1 : ∀ i, decide ((p.map lowI).getD i 0 = 45) = decide (p.getD i 0 = 45) := fun i => by
    have e : (p.map lowI).getD i 0 = lowI (p.getD i 0) := by
      simp only [List.getD_eq_getElem?_getD, List.getElem?_map]
      cases p[i]? <;> rfl
    rw [e]
    exact decide_eq_decide.2 (lowI_hy _)
  rw [h1, h1]
  have h2 : (fun c => [2, 3, 4].any fun k => decide (kindI c = k)) ∘ lowI = fun c => [2, 3, 4].any fun k => decide (kindI c = k) := by
    funext c; show (List.any _ fun k => decide (kindI (lowI c) = k)) = _; rw [kind_lowI]
  rw [h2]
def startL (ps : List (List Int)) (k : Nat) : Nat := ((ps.take k).map fun p => p.length + 1).sum
def digL (p : List Int) : Bool := p.all fun c => [2].any fun k => decide (kindI c = k)
/-- What a name is read as, in numbers: made small; and what is wrong. -/
def nameL (l : List Int) : List Int × Option (Ch × Int) :=
  if 253 < l.length then ([], some ([(hostB, 253)], 3))
  else match (List.range (splL l).length).find? (fun k => labL ((splL l)[k]?.getD [])) with
  | some k => ([], some ([(hostB, (startL (splL l) k : Int))], 61))
  | none => if digL ((splL l)[(splL l).length - 1]?.getD []) then ([], some ([(hostB, (startL (splL l) (splL l).length : Int) - 1 - ((splL l)[(splL l).length - 1]?.getD []).length)], 63)) else (l.map lowI, none)
theorem start_list (ps : List ByteArray) (k : Nat) : startAt ps k = startL (ps.map byL) k := by
  unfold startAt startL
  rw [← List.map_take, List.map_map]
  congr 1
  apply List.map_congr_left
  intro p _
  show p.size + 1 = (byL p).length + 1
  rw [byL_length]
theorem nameR_list (s : ByteArray) : nameR s = (strOfNums (nameL (byL s)).1, (nameL (byL s)).2) := by
  unfold nameR nameL
  rw [byL_length]
  by_cases h : 253 < s.size
  · rw [if_pos h, if_pos h]; rfl
  · rw [if_neg h, if_neg h, ← pieces_list]
    unfold nameP
    generalize hps : piecesB s = ps
    rw [List.length_map]
    have hne : ps.length ≠ 0 := by
      rw [← hps]
      intro e
      have h1 := congrArg List.length (pieces_list s)
      rw [List.length_map, e] at h1
      exact splL_ne (byL s) (List.eq_nil_of_length_eq_zero h1.symm)
    have hf : (fun (k : Nat) => labBad (ps[k]?.getD ⟨#[]⟩)) = (fun (k : Nat) => labL ((ps.map byL)[k]?.getD [])) := by
      funext k
      rw [lab_list, List.getElem?_map]
      cases ps[k]? <;> rfl
    rw [hf]
    have hp : pieceAt ps ps.length = ps[ps.length - 1]?.getD ⟨#[]⟩ := by
      unfold pieceAt; rw [if_neg hne]
    have hq : (ps.map byL)[ps.length - 1]?.getD [] = byL (pieceAt ps ps.length) := by
      rw [hp, List.getElem?_map]
      cases ps[ps.length - 1]? <;> rfl
    cases (List.range ps.length).find? (fun k => labL ((ps.map byL)[k]?.getD [])) with
    | some k =>
      show (_, _) = (_, _)
      rw [start_list]; rfl
    | none =>
      have ho : onlyB [2] (pieceAt ps ps.length) = digL (byL (pieceAt ps ps.length)) := only_list _ _
      dsimp only
      rw [hq, ho]
      by_cases hd : digL (byL (pieceAt ps ps.length)) = true
      · rw [if_pos hd, if_pos hd, start_list, byL_length]; rfl
      · rw [if_neg hd, if_neg hd, low_str]
/-- A name made small is read the same. -/
theorem nameL_low (l : List Int) : nameL (l.map lowI) = nameL l := by
  unfold nameL
  rw [List.length_map, splL_low, List.length_map]
  have hst : ∀ k, startL ((splL l).map fun p => p.map lowI) k = startL (splL l) k := fun k => by
    unfold startL
    rw [← List.map_take, List.map_map]
    congr 1
    apply List.map_congr_left
    intro p _
    simp
  have hg : ∀ k, ((splL l).map fun p => p.map lowI)[k]?.getD [] = ((splL l)[k]?.getD []).map lowI := fun k => by
    rw [List.getElem?_map]
    cases (splL l)[k]? <;> rfl
  have hd : ∀ p, digL (p.map lowI) = digL p := fun p => by
    unfold digL
    rw [List.all_map]
    have h2 : (fun c => [2].any fun k => decide (kindI c = k)) ∘ lowI = fun c => [2].any fun k => decide (kindI c = k) := by
      funext c; show (List.any _ fun k => decide (kindI (lowI c) = k)) = _; rw [kind_lowI]
    rw [h2]
  have hl : (l.map lowI).map lowI = l.map lowI := by
    rw [List.map_map]
    apply List.map_congr_left
    intro c _
    exact lowI_lowI c
  simp only [hst, hg, lab_low, hd, hl, List.length_map]
end Go.Proofs.YtcndkpmeakaapaaDoor
