/- Plain: the slab and the reference side by side; lists of held blocks; bytes that are written over. -/
import Derived.Test.YtebdgohkhadgpaaDoorRf
set_option linter.unusedVariables false
set_option linter.unusedSimpArgs false
namespace Go.Proofs.YtebdgohkhadgpaaDoor
open Go Go.RowKit
/-- What is held in both has the same bytes. -/
def Rel (held : List Bool) (size : Nat) (mem : List Int) (bl : List (Option (Nat × List Int))) : Prop := ∀ q : Nat, held[q]? = some true → ∃ x, bl[q]? = some (some x) ∧ x.2 = (mem.drop (q * size)).take size
theorem Rel.has {held : List Bool} {size : Nat} {mem : List Int} {bl : List (Option (Nat × List Int))} (h : Rel held size mem bl) : ∀ q : Nat, held[q]? = some true → ∃ x, bl[q]? = some (some x) := fun q hq => by
  obtain ⟨x, h1, _⟩ := h q hq
  exact ⟨x, h1⟩
theorem blk_get {mem : List Int} {q size j : Nat} (hj : j < size) : ((mem.drop (q * size)).take size)[j]? = mem[q * size + j]? := by
  rw [List.getElem?_take, if_pos hj, List.getElem?_drop]
theorem blk_ext {A B : List Int} {size : Nat} (hA : A.length ≤ size) (hB : B.length ≤ size) (h : ∀ j, j < size → A[j]? = B[j]?) : A = B := by
  apply List.ext_getElem?
  intro j
  by_cases hj : j < size
  · exact h j hj
  · rw [List.getElem?_eq_none (by omega), List.getElem?_eq_none (by omega)]
theorem blk_ne {k q size a j : Nat} {ys : List Int} (h : k ≠ q) (ha : a + ys.length ≤ size) (hj : j < size) : ¬ (k * size + a ≤ q * size + j ∧ q * size + j < k * size + a + ys.length) := by
  rcases Nat.lt_or_gt_of_ne h with h1 | h1
  · have := Nat.mul_le_mul_right size h1
    rw [Nat.succ_mul] at this; omega
  · have := Nat.mul_le_mul_right size h1
    rw [Nat.succ_mul] at this; omega
theorem blk_splice_ne {mem ys : List Int} {k q size a : Nat} (h : k ≠ q) (ha : a + ys.length ≤ size) (hm : k * size + size ≤ mem.length) : ((spliceL mem (k * size + a) ys).drop (q * size)).take size = (mem.drop (q * size)).take size := by
  refine blk_ext (List.length_take_le _ _) (List.length_take_le _ _) fun j hj => ?_
  rw [blk_get hj, blk_get hj, splice_get (by omega), if_neg (blk_ne h ha hj)]
theorem blk_splice_self {mem ys : List Int} {k size a : Nat} (ha : a + ys.length ≤ size) (hm : k * size + size ≤ mem.length) : ((spliceL mem (k * size + a) ys).drop (k * size)).take size = spliceL ((mem.drop (k * size)).take size) a ys := by
  have hl : ((mem.drop (k * size)).take size).length = size := by rw [List.length_take, List.length_drop]; omega
  refine blk_ext (List.length_take_le _ _) (by rw [spliceL_length _ _ _ (by omega)]; omega) fun j hj => ?_
  rw [blk_get hj, splice_get (by omega), splice_get (by omega), blk_get hj]
  by_cases e : a ≤ j ∧ j < a + ys.length
  · rw [if_pos e, if_pos (by omega)]
    congr 1
    omega
  · rw [if_neg e, if_neg (by omega)]
theorem splice_all {X ys : List Int} (h : ys.length = X.length) : spliceL X 0 ys = ys := by
  unfold spliceL
  rw [List.take_zero, List.nil_append, List.drop_eq_nil_of_le (by omega), List.append_nil]
theorem Rel.get {held : List Bool} {size nb l : Nat} {mem : List Int} {bl : List (Option (Nat × List Int))} (h : Rel held size mem bl) (hl : l < held.length) (hb : bl.length = held.length) (hm : mem.length = held.length * size) :
    Rel (held.set l true) size (spliceL mem (l * size) (List.replicate size 0)) (bl.set l (some (nb, List.replicate size 0))) := fun q hq => by
  have hr : l * size + size ≤ mem.length := by
    have := Nat.mul_le_mul_right size hl
    rw [Nat.succ_mul] at this; omega
  by_cases e : l = q
  · subst e
    refine ⟨_, by rw [List.getElem?_set, if_pos rfl, if_pos (by omega)], ?_⟩
    have := blk_splice_self (k := l) (a := 0) (ys := List.replicate size 0) (size := size) (mem := mem) (by simp) hr
    rw [Nat.add_zero] at this
    rw [this, splice_all (by rw [List.length_take, List.length_drop, List.length_replicate]; omega)]
  · rw [List.getElem?_set, if_neg e] at hq
    obtain ⟨x, h1, h2⟩ := h q hq
    refine ⟨x, by rw [List.getElem?_set, if_neg e]; exact h1, ?_⟩
    have := blk_splice_ne (a := 0) (ys := List.replicate size 0) e (by simp) hr
    rw [Nat.add_zero] at this
    rw [this]
    exact h2
theorem Rel.put {held : List Bool} {size q0 : Nat} {mem : List Int} {bl : List (Option (Nat × List Int))} (h : Rel held size mem bl) : Rel (held.set q0 false) size mem bl := fun q hq => by
  rw [List.getElem?_set] at hq
  split at hq
  · split at hq <;> cases hq
  · exact h q hq
theorem Rel.write {held : List Bool} {size : Nat} {mem ys : List Int} {bl : List (Option (Nat × List Int))} (h : Rel held size mem bl) (hb : bl.length = held.length) (hm : mem.length = held.length * size) (b a : Int) : Rel held size (wroteL size held mem b a ys) (wrB size held bl b a ys) := by
  unfold wroteL wrB
  by_cases hs : spanE size held b a ys.length = 0
  · rw [if_pos hs, if_pos hs]
    obtain ⟨k, a', n', rfl, rfl, hn, hk, hkt, ho⟩ := spanE_ok hs
    obtain rfl : n' = ys.length := by omega
    obtain ⟨x, h1, h2⟩ := h k hkt
    have hr : k * size + size ≤ mem.length := by
      have := Nat.mul_le_mul_right size hk
      rw [Nat.succ_mul] at this; omega
    rw [show ((k : Int)).toNat = k from rfl, show ((a' : Int)).toNat = a' from rfl, h1]
    intro q hq
    by_cases e : k = q
    · subst e
      exact ⟨_, by rw [List.getElem?_set, if_pos rfl, if_pos (by omega)], by rw [blk_splice_self ho hr, ← h2]⟩
    · obtain ⟨y, m1, m2⟩ := h q hq
      exact ⟨y, by rw [List.getElem?_set, if_neg e]; exact m1, by rw [blk_splice_ne e ho hr]; exact m2⟩
  · rw [if_neg hs, if_neg hs]
    exact h
theorem Rel.read {held : List Bool} {size : Nat} {mem : List Int} {bl : List (Option (Nat × List Int))} (h : Rel held size mem bl) {b a n : Int} (hs : spanE size held b a n = 0) : rangeL size mem b a n = rdL bl b a n := by
  obtain ⟨k, a', n', rfl, rfl, rfl, hk, hkt, ho⟩ := spanE_ok hs
  obtain ⟨x, h1, h2⟩ := h k hkt
  unfold rangeL rdL
  rw [show ((k : Int)).toNat = k from rfl, show ((a' : Int)).toNat = a' from rfl, show ((n' : Int)).toNat = n' from rfl, h1]
  simp only [h2]
  refine blk_ext (size := n') (List.length_take_le _ _) (List.length_take_le _ _) fun j hj => ?_
  rw [List.getElem?_take, if_pos hj, List.getElem?_drop, List.getElem?_take, if_pos hj, List.getElem?_drop, blk_get (by omega)]
  congr 1
  omega
theorem heldL_count (held : List Bool) : ∀ k, k ≤ held.length → (heldL held k).length = (held.take k).count true
  | 0, _ => rfl
  | k + 1, h => by
    have hx := List.getElem?_eq_getElem (show k < held.length by omega)
    have ih := heldL_count held k (by omega)
    rw [heldL_succ, count_take_succ hx, hx]
    cases held[k]
    · rw [if_neg (by simp), ih]; rfl
    · rw [if_pos rfl, List.length_append, ih]; rfl
theorem heldL_all (held : List Bool) : (heldL held held.length).length = held.count true := by rw [heldL_count held _ (Nat.le_refl _), List.take_length]
theorem heldL_mem {held : List Bool} {k i : Nat} {z : Int} (h : (heldL held k)[i]? = some z) : ∃ b : Nat, z = b ∧ b < held.length ∧ held[b]? = some true := by
  have hm := List.mem_of_getElem? h
  unfold heldL at hm
  obtain ⟨b, hb, rfl⟩ := List.mem_map.1 hm
  have h2 := (List.mem_filter.1 hb).2
  have h3 : held[b]? = some true := by simpa using h2
  exact ⟨b, rfl, (List.getElem?_eq_some_iff.1 h3).1, h3⟩
section
variable {σ w w' : World} {Hs : List Hp} {H M N Y A B C D : Hp}
structure Bytes1 (N : Hp) (g : Nat) (t : TypeId) (n : Nat) : Prop where mk :: (out : ∃ cs, N g = some (.cells cs t (0, 0)) ∧ ∀ j, j < n → ∃ x, cs[j]? = some (.int .u8 x))
theorem bytes1_set {N : Hp} {g : Nat} {t : TypeId} {n : Nat} {w : World} (h : Bytes1 N g t n) (hw : Sat σ w (N :: Hs)) (j : Nat) (hj : j < n) : ∃ x, w.cell? ⟨g, j, none⟩ = some (.int .u8 x) ∧ ∀ y, ∃ N', Sat σ (w.setCell ⟨g, j, none⟩ (.int .u8 y)) (N' :: Hs) ∧ Bytes1 N' g t n := by
  obtain ⟨cs, hg, hall⟩ := h.out
  obtain ⟨x, hx⟩ := hall j hj
  refine ⟨x, hw.m_cell hg hx, fun y => ⟨_, hw.upd hg _, ⟨_, Hp.upd_self _ _ _, fun i hi => ?_⟩⟩⟩
  obtain ⟨z, hz⟩ := hall i hi
  by_cases e : i = j
  · subst e
    exact ⟨y, by simp [(Array.getElem?_eq_some_iff.1 hz).1]⟩
  · exact ⟨z, by rw [Array.getElem?_setIfInBounds_ne (fun h => e h.symm)]; exact hz⟩
theorem own_bytes1 {N : Hp} {t : TypeId} {v : Value} {xs : List Int} (h : Own N t 1 v xs.length (ints .u8 xs)) (h0 : 0 < xs.length) : ∃ g c, v = .slice (some ⟨g, 0, none⟩) xs.length c ∧ Bytes1 N g t xs.length := by
  obtain ⟨g, cap, cur, e, hg, k1, k2, k3, k4⟩ := h.blk h0
  exact ⟨g, cap, e, ⟨cur, hg, fun j hj => ⟨_, cur_get k4 (by unfold ints; rw [List.getElem?_map, List.getElem?_eq_getElem hj]; rfl)⟩⟩⟩
/-- The list of held blocks, of which the first q were written over. -/
structure HList (N : Hp) (g : Nat) (L : List Int) (q : Nat) : Prop where mk :: (out : ∃ cs, N g = some (.cells cs 3 (0, 0)) ∧ (∀ j z, q ≤ j → L[j]? = some z → cs[j]? = some (.int .i64 z)) ∧ ∀ j, j < q → cs[j]? = some (.int .i64 (-7)))
theorem hlist_set {g q : Nat} {L : List Int} (h : HList N g L q) (hw : Sat σ w (N :: Hs)) (hq : q < L.length) : ∃ N', Sat σ (w.setCell ⟨g, q, none⟩ (.int .i64 (-7))) (N' :: Hs) ∧ HList N' g L (q + 1) := by
  obtain ⟨cs, hg, h1, h2⟩ := h.out
  have hs := (Array.getElem?_eq_some_iff.1 (h1 q _ (Nat.le_refl _) (List.getElem?_eq_getElem hq))).1
  refine ⟨_, hw.upd hg _, ⟨_, Hp.upd_self _ _ _, fun j z hj hz => ?_, fun j hj => ?_⟩⟩
  · rw [Array.getElem?_setIfInBounds_ne (by omega)]
    exact h1 j z (by omega) hz
  · by_cases e : j = q
    · subst e
      simp [hs]
    · rw [Array.getElem?_setIfInBounds_ne (fun h => e h.symm)]
      exact h2 j (by omega)
theorem own_hlist {v : Value} {L : List Int} (h : Own N 3 1 v L.length (ints .i64 L)) (h0 : 0 < L.length) : ∃ g c, v = .slice (some ⟨g, 0, none⟩) L.length c ∧ HList N g L 0 := by
  obtain ⟨g, cap, cur, e, hg, k1, k2, k3, k4⟩ := h.blk h0
  exact ⟨g, cap, e, ⟨cur, hg, fun j z _ hz => cur_get k4 (by unfold ints; rw [List.getElem?_map, hz]; rfl), fun j hj => by omega⟩⟩
end
end Go.Proofs.YtebdgohkhadgpaaDoor
