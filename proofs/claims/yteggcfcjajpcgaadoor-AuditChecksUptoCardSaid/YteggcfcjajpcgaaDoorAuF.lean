/- Walk: same. -/
import Derived.Test.YteggcfcjajpcgaaDoorAuE
set_option linter.unusedVariables false
set_option linter.unusedSimpArgs false
namespace Go.Proofs.YteggcfcjajpcgaaDoor
open Go Go.RowKit
theorem run_neq {P : Program} {W : World} {t : TypeId} {ca cb : Array Value} {r : Bool} (he : (Op.equal t (.agg ca) (.agg cb)).run P W = .ok r W) : (Go.binOp .neq t (.agg ca) (.agg cb)).run P W = .ok (.bool (!r)) W := by
  unfold Go.binOp
  simp [he]
theorem run_guard {P : Program} {W : World} {t : TypeId} {x y : Operand} {ca cb : Array Value} (hgt : P.eqGuardType P.depth t = false) : (eqGuard .neq t x y (.agg ca) (.agg cb)).run P W = .ok () W := by
  unfold eqGuard
  simp [run_program, hgt]
theorem step_neq {P : Program} {ops : Array Oper} {o : Oper} {a : Act} {W : World} {Q : Exit → Act → World → Prop} {K : Act → World → Prop} {E : Prop} (hgd : o.guard = none) (t t2 : TypeId) (x y : Operand) (ho : o.op = .binOp .neq t x y t2)
    (ca cb : Array Value) (hx : a.eval x = .agg ca) (hy : a.eval y = .agg cb) (r : Bool) (he : (Op.equal t (.agg ca) (.agg cb)).run P W = .ok r W) (hgt : P.eqGuardType P.depth t = false) (h : K (a.put o.dst (.bool (!r))) W) : if Region.wanted o (yielded ops a.tmps) = true then Oper.wp P o a W K Q else E := by
  have hwt : Region.wanted o (yielded ops a.tmps) = true := by simp [Region.wanted, hgd]
  rw [if_pos hwt]
  unfold Oper.wp execOp
  simp only [ho, hx, hy, Sem.run_bind, run_guard hgt, run_neq he, Result.andThen_ok, Sem.run_pure]
  exact h
section
variable {σ w w' : World} {Hs : List Hp} {H H1 H2 M N Y G : Hp}
set_option maxHeartbeats 4000000
set_option maxRecDepth 10000 in
theorem asame_any (v u : Value) (xs ys : List Ent) (w : World) (hw : Sat σ w Hs) (hH1 : H1 ∈ Hs) (hH2 : H2 ∈ Hs) (h1 : kE.IsSl H1 v xs) (h2 : kE.IsSl H2 u ys) :
    Calls Tryd.prog 11 #[v, u] w fun e w' => e = .returned (.bool (decide (xs = ys))) ∧ Sat σ w' Hs := by
  obtain ⟨A, c, rfl, hc1, hc2, _⟩ := h1.form
  obtain ⟨A2, c2, rfl, hd1, hd2, _⟩ := h2.form
  have HX := Lib.hid h1; have HY := Lib.hid h2
  obtain ⟨r, hr⟩ : ∃ r, decide (xs = ys) = r := ⟨_, rfl⟩
  have HR := Lib.hid hr
  rw [hr]
  clear h1 h2 hr
  by_cases hl : xs.length = ys.length
  · have hli : ((xs.length : Int) != ys.length) = false := by simp [hl]
    have HL := Lib.hid hl
    clear hl
    go_enter Tryd.func11, Tryd.ntmps11
    go_wp2_with fail
    go_loopw [5] (fun i wr => ∃ k : Nat, k ≤ xs.length ∧ i = .int .i64 k ∧ Sat σ wr Hs ∧ Eager (xs.take k = ys.take k)) (fun i _ => xs.length - (intOf i).toNat)
    case atStart => exact ⟨0, by omega, rfl, hw, ⟨rfl⟩⟩
    case round =>
      obtain ⟨k, hk, rfl, hwr, hst⟩ := hrel
      have HST := Lib.hid hst.out
      clear hst hw
      by_cases hlt : k < xs.length
      · obtain ⟨x, hx⟩ : ∃ x, xs[k]? = some x := ⟨_, List.getElem?_eq_getElem (by omega)⟩
        obtain ⟨y, hy⟩ : ∃ y, ys[k]? = some y := ⟨_, List.getElem?_eq_getElem (by have := HL.out; omega)⟩
        obtain ⟨b, off, cs, rfl, ⟨hxl, rfl⟩, hcx⟩ := HX.out.get k x hx
        obtain ⟨b2, off2, cs2, rfl, ⟨hyl, rfl⟩, hcy⟩ := HY.out.get k y hy
        have hki : (k : Int) < xs.length := by omega
        have hki2 : (k : Int) < ys.length := by have := HL.out; omega
        have hk0 : (0 : Int) ≤ k := by omega
        have HRG : Hid (∀ W, Sat σ W Hs → W.rangeAt b (off + k * 34) (EA x).toList ∧ W.rangeAt b2 (off2 + k * 34) (EA y).toList) := Lib.hid (fun W h => ⟨fun j v hv => h.cellAt hH1 (hcx j v hv), fun j v hv => h.cellAt hH2 (hcy j v hv)⟩)
        have hsx := EA_size x hxl; have hsy := EA_size y hyl
        have hiX : (Tryd.prog.info? 32).map (·.size) = some (EA x).toList.length := by rw [Array.length_toList, hsx]; kernel_rfl
        have hiY : (Tryd.prog.info? 32).map (·.size) = some (EA y).toList.length := by rw [Array.length_toList, hsy]; kernel_rfl
        have hcmp := fun W => ent_eq x y hxl hyl W
        have HKX := Lib.hid hx; have HKY := Lib.hid hy
        clear hcx hcy hx hy
        go_upto_region 6 with fail
        refine wp_region_held_drew (S := fun W => W.rangeAt b (off + k * 34) (EA x).toList ∧ W.rangeAt b2 (off2 + k * 34) (EA y).toList) (by kernel_rfl) (HRG.out _ hwr.drew) (fun hS0 => ?_)
        refine wpAnyH_take (i := 0) (v := ?_) rfl (by kernel_rfl) (by kernel_rfl) (by kernel_rfl) (fun _ _ _ h => h) (Or.inl ⟨by kernel_rfl, ?_⟩) hS0 ?_
        rotate_left
        · intro w hSw; clear hSw; go_simp; (try with_reducible rfl)
        (try simp only [Act.put, List.getElem_toArray, List.getElem_cons_succ, List.getElem_cons_zero, List.setIfInBounds_toArray, List.set_cons_zero, List.set_cons_succ, Array.toArray_toList])
        refine wpAnyH_take (i := 1) (v := ?_) rfl (by kernel_rfl) (by kernel_rfl) (by kernel_rfl) (fun _ _ _ h => h) (Or.inl ⟨by kernel_rfl, ?_⟩) hS0 ?_
        rotate_left
        · intro w hSw; clear hSw; go_simp; (try with_reducible rfl)
        (try simp only [Act.put, List.getElem_toArray, List.getElem_cons_succ, List.getElem_cons_zero, List.setIfInBounds_toArray, List.set_cons_zero, List.set_cons_succ, Array.toArray_toList])
        refine wpAnyH_take (i := 2) (v := ?_) rfl (by kernel_rfl) (by kernel_rfl) (by kernel_rfl) (fun _ _ _ h => h) (Or.inl ⟨by kernel_rfl, ?_⟩) hS0 ?_
        rotate_left
        · intro w hSw; clear hSw; go_simp; (try with_reducible rfl)
        (try simp only [Act.put, List.getElem_toArray, List.getElem_cons_succ, List.getElem_cons_zero, List.setIfInBounds_toArray, List.set_cons_zero, List.set_cons_succ, Array.toArray_toList])
        refine wpAnyH_take (i := 4) (v := ?_) rfl (by kernel_rfl) (by kernel_rfl) (by kernel_rfl) (fun _ _ _ h => h) (Or.inl ⟨by kernel_rfl, ?_⟩) hS0 ?_
        rotate_left
        · intro w hSw; clear hSw; go_simp; (try with_reducible rfl)
        (try simp only [Act.put, List.getElem_toArray, List.getElem_cons_succ, List.getElem_cons_zero, List.setIfInBounds_toArray, List.set_cons_zero, List.set_cons_succ, Array.toArray_toList])
        refine wpAnyH_take (i := 5) (v := ?_) rfl (by kernel_rfl) (by kernel_rfl) (by kernel_rfl) (fun _ _ _ h => h) (Or.inl ⟨by kernel_rfl, ?_⟩) hS0 ?_
        rotate_left
        · intro w hSw; clear hSw; go_simp; (try with_reducible rfl)
        (try simp only [Act.put, List.getElem_toArray, List.getElem_cons_succ, List.getElem_cons_zero, List.setIfInBounds_toArray, List.set_cons_zero, List.set_cons_succ, Array.toArray_toList])
        refine wpAnyH_take (i := 6) (v := ?_) rfl (by kernel_rfl) (by kernel_rfl) (by kernel_rfl) (fun _ _ _ h => h) (Or.inl ⟨by kernel_rfl, ?_⟩) hS0 ?_
        rotate_left
        · intro w hSw; clear hSw; go_simp; (try with_reducible rfl)
        (try simp only [Act.put, List.getElem_toArray, List.getElem_cons_succ, List.getElem_cons_zero, List.setIfInBounds_toArray, List.set_cons_zero, List.set_cons_succ, Array.toArray_toList])
        refine wpAnyH_take (i := 3) rfl (by kernel_rfl) (by kernel_rfl) (by kernel_rfl) (fun _ _ _ h => h) (yieldsIf_load_mid (by kernel_rfl) _ _ rfl _ _ rfl ((EA x).toList) _ (fun w h => h.1) Tryd.underlying32 rfl hiX) hS0 ?_
        (try simp only [Act.put, List.getElem_toArray, List.getElem_cons_succ, List.getElem_cons_zero, List.setIfInBounds_toArray, List.set_cons_zero, List.set_cons_succ, Array.toArray_toList])
        refine wpAnyH_take (i := 7) rfl (by kernel_rfl) (by kernel_rfl) (by kernel_rfl) (fun _ _ _ h => h) (yieldsIf_load_mid (by kernel_rfl) _ _ rfl _ _ rfl ((EA y).toList) _ (fun w h => h.2) Tryd.underlying32 rfl hiY) hS0 ?_
        (try simp only [Act.put, List.getElem_toArray, List.getElem_cons_succ, List.getElem_cons_zero, List.setIfInBounds_toArray, List.set_cons_zero, List.set_cons_succ, Array.toArray_toList])
        refine wpAnyH_ready (rs := [8]) (by kernel_rfl) (by simp) ?_
        refine AllReadyH.cons rfl (fun K hK => ?_) AllReadyH.nil
        refine step_neq rfl 32 _ (.tmp 20) (.tmp 24) rfl (EA x) (EA y) rfl rfl _ (hcmp _) (by kernel_rfl) ?_
        refine hK.out _ _ (HRG.out _ hwr.drew) (fun hS1 => ?_)
        clear hK K hS0 hS1
        refine wpAnyH_done (by kernel_rfl) ?_ _
        have HW := Lib.hid hwr.drew
        have HSUC : Hid (x = y → xs.take (k + 1) = ys.take (k + 1)) := Lib.hid (fun e => by
          rw [List.take_add_one, List.take_add_one, HST.out, HKX.out, HKY.out, e])
        have HNE : Hid (x ≠ y → r = false) := Lib.hid (fun e => by
          rw [← HR.out, decide_eq_false_iff_not]
          intro h
          rw [h, HKY.out] at HKX
          exact e (Option.some.inj HKX.out).symm)
        by_cases hxy : x = y
        · have hd : decide (x = y) = true := decide_eq_true hxy
          have hn := HSUC.out hxy
          have HN := Lib.hid hn
          rw [hd]
          clear hxy hd hn hcmp
          go_wp2
          exact ⟨⟨k + 1, by omega, by go_num, HW.out, ⟨HN.out⟩⟩, by simp [intOf]; omega⟩
        · have hd : decide (x = y) = false := decide_eq_false hxy
          have hr := HNE.out hxy
          rw [hd]
          subst hr
          clear hxy hd hcmp
          go_wp2
          go_ret
          exact ⟨rfl, HW.out⟩
      · obtain rfl : k = xs.length := by omega
        have hr : r = true := by
          rw [← HR.out, decide_eq_true_iff]
          have h := HST.out
          rw [List.take_length, HL.out, List.take_length] at h
          exact h
        subst hr
        have HW := Lib.hid hwr
        clear hwr
        go_wp2
        go_ret
        exact ⟨rfl, HW.out⟩
  · have hli : ((xs.length : Int) != ys.length) = true := by simp; omega
    have hr : r = false := by
      rw [← HR.out, decide_eq_false_iff_not]
      intro h; exact hl (by rw [h])
    subst hr
    clear hl
    go_enter Tryd.func11, Tryd.ntmps11
    go_wp2
    go_ret
    exact ⟨rfl, hw⟩
end
end Go.Proofs.YteggcfcjajpcgaaDoor
