/- Walk: DigestTexts. -/
import Derived.Test.YtbjgidgohekaaaaDoorDgBk
import Derived.Test.YtbjgidgohekaaaaDoorDgV
import Derived.Deep.RegionHeld3
import Derived.Deep.MidRow
set_option linter.unusedVariables false
set_option linter.unusedSimpArgs false
namespace Go.Proofs.YtbjgidgohekaaaaDoor
open Go.RowKit
/-- an array's cells -/
def cvs (l : List Int) : List Value := l.map fun x => Value.int .u8 x
theorem range_one {σ w : World} {Hs : List Hp} {b : Nat} {l : List Int} {t : TypeId} {fr : Nat × Nat} (h : Sat σ w Hs) (hm : Hp.one b (.cells (outV l) t fr) ∈ Hs) : w.rangeAt b 0 (cvs l) := fun j v hv => by
  rw [Nat.zero_add]
  refine h.cellAt hm ?_
  unfold Hp.cell Hp.one
  rw [if_pos rfl]
  show (outV l)[j]? = some v
  unfold outV
  simpa [cvs] using hv
set_option maxRecDepth 100000 in
set_option maxHeartbeats 4000000 in
theorem texts_any {σ : World} {Hs : List Hp} {H : Hp} (l : List Int) (s : ByteArray) (w : World) (hw : Sat σ w Hs) (hH : H ∈ Hs) (hl : l.length = 32) (hr : ∀ i, 0 ≤ l.getD i 0 ∧ l.getD i 0 < 256)
    (hk0 : H 0 = some (.cells kV 58 (0, 0))) :
    Calls Tryd.prog 6 #[.agg (outV l), .string s] w fun e w' => e = .returned (.bool true) ∧ Sat σ w' Hs := by
  have HL := Lib.hid hl; have HR := Lib.hid hr; have HK := Lib.hid hk0
  have hpl : (parseL s).length = 32 := by unfold parseL; split <;> simp [pL]
  have HPA := Lib.hid (parse_any s); have HRP := Lib.hid (rparse_any s)
  generalize parseL s = m at *
  generalize parseE s = pe at *
  have hu24 := Tryd.underlying24
  have hinfl : (Tryd.prog.info? 24).map (·.size) = some (cvs l).length := by rw [show (cvs l).length = 32 by simp [cvs, hl]]; kernel_rfl
  have hinfm : (Tryd.prog.info? 24).map (·.size) = some (cvs m).length := by rw [show (cvs m).length = 32 by simp [cvs, hpl]]; kernel_rfl
  have heq : ∀ w : World, (Op.equalIn 10000 24 (.agg (cvs m).toArray) (.agg (cvs m).toArray)).run Tryd.prog w = .ok true w := fun w =>
    run_eq_arr 24 5 32 9998 _ w Tryd.underlying24 Tryd.underlying5 (by kernel_rfl) (fun i hi => ⟨_, outV_get m i (by rw [hpl]; exact hi)⟩)
  have HPZ : Hid ((outV m).size = 32) := Lib.hid (by rw [outV_size, hpl])
  have HONE := Lib.hid (outV_one m)
  have HEQ := Lib.hid heq; have HI1 := Lib.hid hinfl; have HI2 := Lib.hid hinfm
  clear hl hr hk0 hpl heq hinfl hinfm
  go_enter Tryd.func6, Tryd.ntmps6
  go_wp2_with fail
  have hw1 := hw.alloc (.cells (outV l) 24)
  generalize hW : w.alloc _ = w1 at *
  clear hW hw
  generalize w.heap.size = n0 at *
  refine (HPA.out w1).mono ?_
  rintro e w2 ⟨rfl, hb2⟩
  have hw2 := hw1.below hb2
  clear hw1 hb2
  go_wp2_with (refine wpList_store_row rfl 24 (.tmp 5) (.tmp 12) rfl _ (outV m) rfl rfl 24 (outV (List.replicate 32 0)) (heap_alloc_new _ _) (by rw [HPZ.out]; kernel_rfl) (by rw [HPZ.out]; rfl) HONE.out ?_)
  have hw3 := (hw2.alloc (.cells #[.int .u8 0, .int .u8 0, .int .u8 0, .int .u8 0, .int .u8 0, .int .u8 0, .int .u8 0, .int .u8 0, .int .u8 0, .int .u8 0, .int .u8 0, .int .u8 0, .int .u8 0, .int .u8 0, .int .u8 0, .int .u8 0, .int .u8 0, .int .u8 0, .int .u8 0, .int .u8 0, .int .u8 0, .int .u8 0, .int .u8 0, .int .u8 0, .int .u8 0, .int .u8 0, .int .u8 0, .int .u8 0, .int .u8 0, .int .u8 0, .int .u8 0, .int .u8 0] 24)).setRow (outV m)
  generalize World.setRow _ _ _ = w3 at *
  generalize w2.heap.size = b5 at *
  clear hw2 w2
  refine (HRP.out w3).mono ?_
  rintro e w4 ⟨rfl, hb4⟩
  have hw4 := hw3.below hb4
  clear hw3 hb4
  go_wp2_with (refine wpList_store_row rfl 24 (.tmp 7) (.tmp 17) rfl _ (outV m) rfl rfl 24 (outV (List.replicate 32 0)) (heap_alloc_new _ _) (by rw [HPZ.out]; kernel_rfl) (by rw [HPZ.out]; rfl) HONE.out ?_)
  have hw6 := (hw4.alloc (.cells #[.int .u8 0, .int .u8 0, .int .u8 0, .int .u8 0, .int .u8 0, .int .u8 0, .int .u8 0, .int .u8 0, .int .u8 0, .int .u8 0, .int .u8 0, .int .u8 0, .int .u8 0, .int .u8 0, .int .u8 0, .int .u8 0, .int .u8 0, .int .u8 0, .int .u8 0, .int .u8 0, .int .u8 0, .int .u8 0, .int .u8 0, .int .u8 0, .int .u8 0, .int .u8 0, .int .u8 0, .int .u8 0, .int .u8 0, .int .u8 0, .int .u8 0, .int .u8 0] 24)).setRow (outV m)
  generalize World.setRow _ _ _ = w6 at *
  generalize w4.heap.size = b7 at *
  clear hw4 w4
  have HSS : Hid (∀ w', Sat σ w' (Hp.one b7 (.cells (outV m) 24 (0, 0)) :: Hp.one b5 (.cells (outV m) 24 (0, 0)) :: Hp.one n0 (.cells (outV l) 24 (0, 0)) :: Hs) → ((fun w' => w'.rangeAt n0 0 (cvs l) ∧ w'.rangeAt b5 0 (cvs m) ∧ w'.rangeAt b7 0 (cvs m)) w')) := Lib.hid (fun w' h => ⟨range_one (t := 24) (fr := (0, 0)) h (by simp), range_one (t := 24) (fr := (0, 0)) h (by simp), range_one (t := 24) (fr := (0, 0)) h (by simp)⟩)
  have HX1 : Hid (∀ w', Sat σ w' (Hp.one b7 (.cells (outV m) 24 (0, 0)) :: Hp.one b5 (.cells (outV m) 24 (0, 0)) :: Hp.one n0 (.cells (outV l) 24 (0, 0)) :: Hs) → Calls Tryd.prog 21 #[.agg (cvs l).toArray] w' fun e w2 => e = .returned (.string (strOfNums (hexL l))) ∧ Sat σ w2 (Hp.one b7 (.cells (outV m) 24 (0, 0)) :: Hp.one b5 (.cells (outV m) 24 (0, 0)) :: Hp.one n0 (.cells (outV l) 24 (0, 0)) :: Hs)) := Lib.hid (fun w' h => (hex_any l w' HL.out HR.out).mono fun e w2 ⟨he, hb⟩ => ⟨he, h.below hb⟩)
  have HX2 : Hid (∀ w', Sat σ w' (Hp.one b7 (.cells (outV m) 24 (0, 0)) :: Hp.one b5 (.cells (outV m) 24 (0, 0)) :: Hp.one n0 (.cells (outV l) 24 (0, 0)) :: Hs) → Calls Tryd.prog 22 #[.agg (cvs l).toArray] w' fun e w2 => e = .returned (.string (strOfNums (hexL l))) ∧ Sat σ w2 (Hp.one b7 (.cells (outV m) 24 (0, 0)) :: Hp.one b5 (.cells (outV m) 24 (0, 0)) :: Hp.one n0 (.cells (outV l) 24 (0, 0)) :: Hs)) := Lib.hid (fun w' h => (rhex_any l w' HL.out HR.out).mono fun e w2 ⟨he, hb⟩ => ⟨he, h.below hb⟩)
  have HWK : Hid (∀ w', Sat σ w' (Hp.one b7 (.cells (outV m) 24 (0, 0)) :: Hp.one b5 (.cells (outV m) 24 (0, 0)) :: Hp.one n0 (.cells (outV l) 24 (0, 0)) :: Hs) → Calls Tryd.prog 12 #[] w' fun e w2 => e = .returned (.bool true) ∧ Sat σ w2 (Hp.one b7 (.cells (outV m) 24 (0, 0)) :: Hp.one b5 (.cells (outV m) 24 (0, 0)) :: Hp.one n0 (.cells (outV l) 24 (0, 0)) :: Hs)) := Lib.hid (fun w' h => (works_any w' (h.blk (H := H) (by simp [hH]) HK.out)).mono fun e w2 ⟨he, hb⟩ => ⟨he, h.below hb⟩)
  have heq := HEQ.out; have hinfl := HI1.out; have hinfm := HI2.out
  generalize strOfNums (hexL l) = hx at *
  go_wp2
  refine wp_region_held_drew (S := fun w' => w'.rangeAt n0 0 (cvs l) ∧ w'.rangeAt b5 0 (cvs m) ∧ w'.rangeAt b7 0 (cvs m)) (by kernel_rfl) (HSS.out _ hw6.drew) (fun hS0 => ?_)
  refine wpAnyH_take (i := 0) rfl (by kernel_rfl) (by kernel_rfl) (by kernel_rfl) (fun _ _ _ h => h) (yieldsIf_load_mid (by kernel_rfl) _ _ rfl _ _ rfl (cvs l) _ (fun w h => h.1) hu24 rfl hinfl) hS0 ?_
  (try simp only [Act.put, List.getElem_toArray, List.getElem_cons_succ, List.getElem_cons_zero, List.setIfInBounds_toArray, List.set_cons_zero, List.set_cons_succ])
  refine wpAnyH_take (i := 2) rfl (by kernel_rfl) (by kernel_rfl) (by kernel_rfl) (fun _ _ _ h => h) (yieldsIf_load_mid (by kernel_rfl) _ _ rfl _ _ rfl (cvs l) _ (fun w h => h.1) hu24 rfl hinfl) hS0 ?_
  (try simp only [Act.put, List.getElem_toArray, List.getElem_cons_succ, List.getElem_cons_zero, List.setIfInBounds_toArray, List.set_cons_zero, List.set_cons_succ])
  refine wpAnyH_ready (rs := [1]) (by kernel_rfl) (by simp) ?_
  refine AllReadyH.cons rfl (fun K hK => ?_) AllReadyH.nil
  go_simp
  refine (HX1.out _ hw6.drew).mono ?_
  rintro e w' ⟨rfl, hwa⟩
  (try go_wp2_with fail)
  refine hK.out _ _ (HSS.out _ hwa) (fun hS1 => ?_)
  clear hK K
  (try simp only [Act.put, List.getElem_toArray, List.getElem_cons_succ, List.getElem_cons_zero, List.setIfInBounds_toArray, List.set_cons_zero, List.set_cons_succ])
  refine wpAnyH_ready (rs := [3]) (by kernel_rfl) (by simp) ?_
  refine AllReadyH.cons rfl (fun K hK => ?_) AllReadyH.nil
  go_simp
  refine (HX2.out _ hwa).mono ?_
  rintro e w' ⟨rfl, hwb⟩
  (try go_wp2_with fail)
  refine hK.out _ _ (HSS.out _ hwb) (fun hS2 => ?_)
  clear hK K
  (try simp only [Act.put, List.getElem_toArray, List.getElem_cons_succ, List.getElem_cons_zero, List.setIfInBounds_toArray, List.set_cons_zero, List.set_cons_succ])
  refine wpAnyH_take (i := 4) (v := ?_) rfl (by kernel_rfl) (by kernel_rfl) (by kernel_rfl) (fun _ _ _ h => h) (Or.inl ⟨by kernel_rfl, ?_⟩) hS2 ?_
  rotate_left
  · intro w hSw; go_simp; (try with_reducible rfl)
  (try simp only [Act.put, List.getElem_toArray, List.getElem_cons_succ, List.getElem_cons_zero, List.setIfInBounds_toArray, List.set_cons_zero, List.set_cons_succ])
  refine wpAnyH_take (i := 5) (v := ?_) rfl (by kernel_rfl) (by kernel_rfl) (by kernel_rfl) (fun _ _ _ h => h) (Or.inl ⟨by kernel_rfl, ?_⟩) hS2 ?_
  rotate_left
  · intro w hSw; go_simp; (try with_reducible rfl)
  (try simp only [Act.put, List.getElem_toArray, List.getElem_cons_succ, List.getElem_cons_zero, List.setIfInBounds_toArray, List.set_cons_zero, List.set_cons_succ])
  refine wpAnyH_take (i := 6) rfl (by kernel_rfl) (by kernel_rfl) (by kernel_rfl) (fun _ _ _ h => h) (yieldsIf_load_mid (by kernel_rfl) _ _ rfl _ _ rfl (cvs m) _ (fun w h => h.2.1) hu24 rfl hinfm) hS2 ?_
  (try simp only [Act.put, List.getElem_toArray, List.getElem_cons_succ, List.getElem_cons_zero, List.setIfInBounds_toArray, List.set_cons_zero, List.set_cons_succ])
  refine wpAnyH_take (i := 7) rfl (by kernel_rfl) (by kernel_rfl) (by kernel_rfl) (fun _ _ _ h => h) (yieldsIf_load_mid (by kernel_rfl) _ _ rfl _ _ rfl (cvs m) _ (fun w h => h.2.2) hu24 rfl hinfm) hS2 ?_
  (try simp only [Act.put, List.getElem_toArray, List.getElem_cons_succ, List.getElem_cons_zero, List.setIfInBounds_toArray, List.set_cons_zero, List.set_cons_succ])
  refine wpAnyH_take (i := 8) (v := ?_) rfl (by kernel_rfl) (by kernel_rfl) (by kernel_rfl) (fun _ _ _ h => h) (Or.inl ⟨by kernel_rfl, ?_⟩) hS2 ?_
  rotate_left
  · intro w hSw; go_simp; (try with_reducible rfl)
  (try simp only [Act.put, List.getElem_toArray, List.getElem_cons_succ, List.getElem_cons_zero, List.setIfInBounds_toArray, List.set_cons_zero, List.set_cons_succ])
  refine wpAnyH_take (i := 9) (v := ?_) rfl (by kernel_rfl) (by kernel_rfl) (by kernel_rfl) (fun _ _ _ h => h) (Or.inl ⟨by kernel_rfl, ?_⟩) hS2 ?_
  rotate_left
  · intro w hSw; go_simp; (try with_reducible rfl)
  (try simp only [Act.put, List.getElem_toArray, List.getElem_cons_succ, List.getElem_cons_zero, List.setIfInBounds_toArray, List.set_cons_zero, List.set_cons_succ])
  refine wpAnyH_take (i := 10) (v := ?_) rfl (by kernel_rfl) (by kernel_rfl) (by kernel_rfl) (fun _ _ _ h => h) (Or.inl ⟨by kernel_rfl, ?_⟩) hS2 ?_
  rotate_left
  · intro w hSw; go_simp; (try with_reducible rfl)
  (try simp only [Act.put, List.getElem_toArray, List.getElem_cons_succ, List.getElem_cons_zero, List.setIfInBounds_toArray, List.set_cons_zero, List.set_cons_succ])
  refine wpAnyH_take (i := 11) (v := ?_) rfl (by kernel_rfl) (by kernel_rfl) (by kernel_rfl) (fun _ _ _ h => h) (Or.inl ⟨by kernel_rfl, ?_⟩) hS2 ?_
  rotate_left
  · intro w hSw; go_simp; (try with_reducible rfl)
  (try simp only [Act.put, List.getElem_toArray, List.getElem_cons_succ, List.getElem_cons_zero, List.setIfInBounds_toArray, List.set_cons_zero, List.set_cons_succ])
  refine wpAnyH_take (i := 12) (v := ?_) rfl (by kernel_rfl) (by kernel_rfl) (by kernel_rfl) (fun _ _ _ h => h) (Or.inl ⟨by kernel_rfl, ?_⟩) hS2 ?_
  rotate_left
  · intro w hSw; go_simp; (try with_reducible rfl)
  (try simp only [Act.put, List.getElem_toArray, List.getElem_cons_succ, List.getElem_cons_zero, List.setIfInBounds_toArray, List.set_cons_zero, List.set_cons_succ])
  refine wpAnyH_take (i := 13) (v := ?_) rfl (by kernel_rfl) (by kernel_rfl) (by kernel_rfl) (fun _ _ _ h => h) (Or.inl ⟨by kernel_rfl, ?_⟩) hS2 ?_
  rotate_left
  · intro w hSw; go_simp; (try with_reducible rfl)
  (try simp only [Act.put, List.getElem_toArray, List.getElem_cons_succ, List.getElem_cons_zero, List.setIfInBounds_toArray, List.set_cons_zero, List.set_cons_succ])
  refine wpAnyH_take (i := 14) (v := ?_) rfl (by kernel_rfl) (by kernel_rfl) (by kernel_rfl) (fun _ _ _ h => h) (Or.inl ⟨by kernel_rfl, ?_⟩) hS2 ?_
  rotate_left
  · intro w hSw; go_simp; (try with_reducible rfl)
  (try simp only [Act.put, List.getElem_toArray, List.getElem_cons_succ, List.getElem_cons_zero, List.setIfInBounds_toArray, List.set_cons_zero, List.set_cons_succ])
  refine wpAnyH_take (i := 15) (v := ?_) rfl (by kernel_rfl) (by kernel_rfl) (by kernel_rfl) (fun _ _ _ h => h) (Or.inl ⟨by kernel_rfl, ?_⟩) hS2 ?_
  rotate_left
  · intro w hSw; go_simp; (try with_reducible rfl)
  (try simp only [Act.put, List.getElem_toArray, List.getElem_cons_succ, List.getElem_cons_zero, List.setIfInBounds_toArray, List.set_cons_zero, List.set_cons_succ])
  refine wpAnyH_ready (rs := [16]) (by kernel_rfl) (by simp) ?_
  refine AllReadyH.cons rfl (fun K hK => ?_) AllReadyH.nil
  go_simp
  refine (HWK.out _ hwb).mono ?_
  rintro e w' ⟨rfl, hwc⟩
  (try go_wp2_with fail)
  refine hK.out _ _ (HSS.out _ hwc) (fun hS3 => ?_)
  clear hK K
  (try simp only [Act.put, List.getElem_toArray, List.getElem_cons_succ, List.getElem_cons_zero, List.setIfInBounds_toArray, List.set_cons_zero, List.set_cons_succ])
  refine wpAnyH_take (i := 17) (v := ?_) rfl (by kernel_rfl) (by kernel_rfl) (by kernel_rfl) (fun _ _ _ h => h) (Or.inl ⟨by kernel_rfl, ?_⟩) hS3 ?_
  rotate_left
  · intro w hSw; go_simp; (try with_reducible rfl)
  (try simp only [Act.put, List.getElem_toArray, List.getElem_cons_succ, List.getElem_cons_zero, List.setIfInBounds_toArray, List.set_cons_zero, List.set_cons_succ])
  refine wpAnyH_take (i := 18) (v := ?_) rfl (by kernel_rfl) (by kernel_rfl) (by kernel_rfl) (fun _ _ _ h => h) (Or.inl ⟨by kernel_rfl, ?_⟩) hS3 ?_
  rotate_left
  · intro w hSw; go_simp; (try with_reducible rfl)
  (try simp only [Act.put, List.getElem_toArray, List.getElem_cons_succ, List.getElem_cons_zero, List.setIfInBounds_toArray, List.set_cons_zero, List.set_cons_succ])
  refine wpAnyH_done (by kernel_rfl) ?_ _
  go_wp2
  go_ret
  exact ⟨rfl, hwc.drop.drop.drop⟩
end Go.Proofs.YtbjgidgohekaaaaDoor
