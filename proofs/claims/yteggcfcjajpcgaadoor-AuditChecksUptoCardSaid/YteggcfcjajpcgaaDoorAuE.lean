/- Two entries held against each other. -/
import Derived.Test.YteggcfcjajpcgaaDoorAuD
import Derived.DeepKeys
set_option linter.unusedVariables false
set_option linter.unusedSimpArgs false
namespace Go.Proofs.YteggcfcjajpcgaaDoor
open Go Go.RowKit
theorem part_u8 (a : List Int) (i : Nat) (hi : i < a.length) (W : World) : (part 5 (outV a) (i * 1)).run Tryd.prog W = .ok (.int .u8 (a.getD i 0)) W := by
  have h := outV_get a i hi
  simp [part, isAgg, run_underlying Tryd.underlying5, h]
theorem eqItems_u8 (d : Nat) (a b : List Int) (W : World) : ∀ (is : List Nat), (∀ i ∈ is, i < a.length ∧ i < b.length) → (Op.eqItems (d + 1) 5 1 (outV a) (outV b) is).run Tryd.prog W = .ok (is.all fun i => a.getD i 0 == b.getD i 0) W
  | [], _ => by simp [Op.eqItems]
  | i :: is, h => by
    obtain ⟨h1, h2⟩ := h i (by simp)
    simp only [Op.eqItems, Sem.run_bind, part_u8 a i h1, part_u8 b i h2, Result.andThen_ok, run_equalIn_int W d 5 .u8 .u8 _ _ Tryd.underlying5]
    cases hq : a.getD i 0 == b.getD i 0 with
    | false => simp only [Bool.not_false, if_true, Sem.run_pure, List.all_cons, hq, Bool.false_and]
    | true =>
      simp only [Bool.not_true, Bool.false_eq_true, if_false, List.all_cons, hq, Bool.true_and]
      exact eqItems_u8 d a b W is (fun j hj => h j (by simp [hj]))
theorem all_eq {a b : List Int} (ha : a.length = 32) (hb : b.length = 32) : ((List.range 32).all fun i => a.getD i 0 == b.getD i 0) = decide (a = b) := by
  rw [Bool.eq_iff_iff, List.all_eq_true, decide_eq_true_iff]
  refine ⟨fun h => ?_, fun h => by subst h; intro i _; simp⟩
  apply List.ext_getElem (by omega)
  intro i h1 h2
  have := h i (List.mem_range.2 (by omega))
  simpa [List.getD_eq_getElem?_getD, h1, h2] using this
theorem arr_eqd (d : Nat) (a b : List Int) (ha : a.length = 32) (hb : b.length = 32) (W : World) : (Op.equalIn (d + 2) 29 (.agg (outV a)) (.agg (outV b))).run Tryd.prog W = .ok (decide (a = b)) W := by
  obtain ⟨i, hi⟩ := info_of_underlying Tryd.underlying5
  rw [run_equalIn_array W (d + 1) (outV a) (outV b) Tryd.underlying29 hi, show Tryd.prog.cellsOf 5 = 1 from by kernel_rfl, eqItems_u8 d a b W _ (fun i h => by rw [List.mem_range] at h; omega), all_eq ha hb]
theorem arr_eq (a b : List Int) (ha : a.length = 32) (hb : b.length = 32) (W : World) : (Op.equalIn 9999 29 (.agg (outV a)) (.agg (outV b))).run Tryd.prog W = .ok (decide (a = b)) W := arr_eqd 9997 a b ha hb W
theorem EA_get1 (x : Ent) : (EA x)[1]? = some (.string x.text) := by rw [← Array.getElem?_toList, EA_list]; rfl
instance : DecidableEq Ent := fun x y => decidable_of_iff (x.at_ = y.at_ ∧ x.text = y.text ∧ x.sum = y.sum) (by cases x; cases y; simp)
theorem ent_eq (x y : Ent) (hx : x.sum.length = 32) (hy : y.sum.length = 32) (W : World) : (Op.equal 32 (.agg (EA x)) (.agg (EA y))).run Tryd.prog W = .ok (decide (x = y)) W := by
  have h1 := Tryd.isAgg29 W
  have h2 := Tryd.sizeOf29 W
  have g0 := EA_get0 x; have g1 := EA_get0 y; have g2 := EA_get1 x; have g3 := EA_get1 y
  have ei : (Op.equalIn 9999 3 (.int .i64 x.at_) (.int .i64 y.at_)).run Tryd.prog W = .ok (x.at_ == y.at_) W := run_equalIn_int (P := Tryd.prog) W 9998 3 .i64 .i64 x.at_ y.at_ Tryd.underlying3
  have es : (Op.equalIn 9999 9 (.string x.text) (.string y.text)).run Tryd.prog W = .ok (x.text.toList == y.text.toList) W := run_equalIn_string (P := Tryd.prog) W 9998 9 x.text y.text Tryd.underlying9
  have ea := arr_eq x.sum y.sum hx hy W
  unfold Op.equal Op.maxDepth
  rw [run_equalIn_struct W 9999 32 _ _ (by simp only [Program.fieldsOf, Tryd.underlying32]) (by kernel_rfl)]
  simp only [Program.fieldsOf, Tryd.underlying32]
  have hd : decide (x = y) = ((x.at_ == y.at_) && (sEq x.text y.text) && decide (x.sum = y.sum)) := by
    rw [Bool.eq_iff_iff]
    simp only [decide_eq_true_iff, Bool.and_eq_true, beq_iff_eq, sEq_iff]
    cases x; cases y; simp [and_assoc]
  rw [hd]
  simp only [Op.eqFields, part, Sem.run_bind, Sem.run_ite, h1, h2, isAgg, run_underlying Tryd.underlying3, run_underlying Tryd.underlying9, Result.andThen_ok, EA_ext x hx, EA_ext y hy, g0, g1, g2, g3, ei, es, ea]
  have ea2 : (Op.equalIn 9999 29 (.agg ((EA x).extract 2 34)) (.agg ((EA y).extract 2 34))).run Tryd.prog W = .ok (decide (x.sum = y.sum)) W := by rw [EA_ext x hx, EA_ext y hy]; exact ea
  unfold sEq
  cases h3 : x.at_ == y.at_ <;> cases h4 : x.text.toList == y.text.toList <;> cases h5 : decide (x.sum = y.sum) <;> simp [h3, h4, h5, ei, es, ea2]
end Go.Proofs.YteggcfcjajpcgaaDoor
