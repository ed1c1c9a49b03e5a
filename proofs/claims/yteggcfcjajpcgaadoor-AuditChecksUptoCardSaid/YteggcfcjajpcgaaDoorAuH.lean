/- Walk: works. -/
import Derived.Test.YteggcfcjajpcgaaDoorAuG
set_option linter.unusedVariables false
set_option linter.unusedSimpArgs false
namespace Go.Proofs.YteggcfcjajpcgaaDoor
open Go Go.RowKit
def tX : ByteArray := ⟨#[120]⟩
def tY : ByteArray := ⟨#[121]⟩
theorem itoB5 : itoB 5 = ⟨#[53]⟩ := by
  unfold itoB Lib.itoa
  rw [if_neg (by decide), show (5 : Int).toNat = 5 from rfl, Lib.decDigits, dif_pos (by decide)]
  rfl
theorem line5 : lineB 5 tX = ⟨#[53, 32, 120]⟩ := by unfold lineB; rw [itoB5]; rfl
def sumX : List Int := sha (chL (List.replicate 32 0) ⟨#[53, 32, 120]⟩).flatten
def entX : Ent := ⟨5, tX, sumX⟩
theorem addX : addE [] 5 tX = (entX, 0) := by
  have h : nextE ent0 5 tX = (entX, 0) := by
    unfold nextE
    rw [if_neg (by decide), if_neg (by decide), line5]
    rfl
  show (if (nextE ent0 5 tX).2 ≠ 0 then nextE ent0 5 tX else if 4096 ≤ 0 then (ent0, 3) else nextE ent0 5 tX) = _
  rw [h, if_neg (by simp), if_neg (by decide)]
theorem addY : addE [entX] 4 tY = (ent0, 2) := by
  have h : nextE entX 4 tY = (ent0, 2) := by
    unfold nextE
    rw [if_pos (.inl (by decide))]
  show (if (nextE entX 4 tY).2 ≠ 0 then nextE entX 4 tY else if 4096 ≤ 1 then (ent0, 3) else nextE entX 4 tY) = _
  rw [h, if_pos (by simp)]
theorem logX : logAdd [] 5 tX = [entX] := by unfold logAdd; rw [addX]; rfl
theorem logY : logAdd [entX] 4 tY = [entX] := by unfold logAdd; rw [addY]; rfl
section
variable {σ w w' : World} {Hs : List Hp} {H H1 H2 M N Y G : Hp}
set_option maxHeartbeats 4000000
set_option maxRecDepth 10000 in
theorem aworks_any (w : World) (hw : Sat σ w Hs) (hH : H ∈ Hs) {tt : TypeId} {fr : Nat × Nat} (hk : H 1 = some (.cells powV tt fr)) (hk0 : H 0 = some (.cells kV 90 (0, 0))) :
    Calls Tryd.prog 8 #[] w fun e w' => e = .returned (.bool true) ∧ Sat σ w' Hs := by
  have hA : ∀ g G N w' Hs', Sat σ w' (G :: N :: Hs') → LogR G N g [] → H ∈ Hs' → Calls Tryd.prog 15 #[.pointer (some ⟨g, 0, none⟩), .int .i64 5, .string ⟨#[120]⟩] w' fun e w2 => ∃ G' N', e = .returned (.tuple #[.agg (EA entX), .int .i64 0]) ∧ Sat σ w2 (G' :: N' :: Hs') ∧ LogR G' N' g [entX] := fun g G N w' Hs' h hl hm => by
    have h1 := aadd_any 5 tX (by decide) w' h hl hm hk hk0
    unfold AddP at h1
    rw [addX, logX] at h1
    exact h1
  have hB : ∀ g G N w' Hs', Sat σ w' (G :: N :: Hs') → LogR G N g [entX] → H ∈ Hs' → Calls Tryd.prog 15 #[.pointer (some ⟨g, 0, none⟩), .int .i64 4, .string ⟨#[121]⟩] w' fun e w2 => ∃ G' N', e = .returned (.tuple #[.agg (EA ent0), .int .i64 2]) ∧ Sat σ w2 (G' :: N' :: Hs') ∧ LogR G' N' g [entX] := fun g G N w' Hs' h hl hm => by
    have h1 := aadd_any 4 tY (by decide) w' h hl hm hk hk0
    unfold AddP at h1
    rw [addY, logY] at h1
    exact h1
  have HA := Lib.hid hA; have HB := Lib.hid hB
  have hsum : sumX.length = 32 := sha_length _
  have hch : ∀ w' Hs', Sat σ w' Hs' → H ∈ Hs' → Calls Tryd.prog 21 #[.agg #[.int .u8 0, .int .u8 0, .int .u8 0, .int .u8 0, .int .u8 0, .int .u8 0, .int .u8 0, .int .u8 0, .int .u8 0, .int .u8 0, .int .u8 0, .int .u8 0, .int .u8 0, .int .u8 0, .int .u8 0, .int .u8 0, .int .u8 0, .int .u8 0, .int .u8 0, .int .u8 0, .int .u8 0, .int .u8 0, .int .u8 0, .int .u8 0, .int .u8 0, .int .u8 0, .int .u8 0, .int .u8 0, .int .u8 0, .int .u8 0, .int .u8 0, .int .u8 0], .string ⟨#[53, 32, 120]⟩] w' fun e w2 => e = .returned (.agg (outV sumX)) ∧ Sat σ w2 Hs' := fun w' Hs' h hm => chainS (List.replicate 32 0) ⟨#[53, 32, 120]⟩ w' h hm rfl (by decide) hk0
  have HCH := Lib.hid hch
  have hhd : ∀ g G N w' Hs', Sat σ w' Hs' → G ∈ Hs' → N ∈ Hs' → LogR G N g [entX] → Calls Tryd.prog 12 #[.pointer (some ⟨g, 0, none⟩)] w' fun e w2 => e = .returned (.agg (outV sumX)) ∧ Sat σ w2 Hs' := fun g G N w' Hs' h h1 h2 hl => head_any w' h h1 h2 hl
  have HHD := Lib.hid hhd
  have heq : ∀ W, (Op.equalIn 10000 29 (.agg (outV sumX)) (.agg (outV sumX))).run Tryd.prog W = .ok true W := fun W => by
    have := arr_eqd 9998 sumX sumX hsum hsum W
    rw [decide_eq_true rfl] at this
    exact this
  have HC : Hid (∀ W Hs', Sat σ W Hs' → ∀ nx, Hp.one nx (.cells (EA entX) 32 (0, 0)) ∈ Hs' → W.cell? ⟨nx, 0, none⟩ = some (.int .i64 5) ∧ W.cell? ⟨nx, 1, none⟩ = some (.string ⟨#[120]⟩) ∧ W.rangeAt nx 2 (outV sumX).toList) := Lib.hid (fun W Hs' h nx hm => ⟨h.cellAt hm ((Hp.one_cell _ _ _ _).trans (EA_get0 entX)), h.cellAt hm ((Hp.one_cell _ _ _ _).trans (EA_get1 entX)), fun j v hv => h.cellAt hm ((Hp.one_cell _ _ _ _).trans (EA_sum entX j v hv))⟩)
  have hos : (outV sumX).size = 32 := by rw [outV_size, hsum]
  have hsz := EA_size entX hsum
  have hsz0 := EA_size ent0 rfl
  clear hA hB hk hk0 hch hhd hsum
  generalize sumX = sx at *
  go_enter Tryd.func8, Tryd.ntmps8
  go_wp2_with fail
  refine (anew_any w hw).mono ?_
  rintro e w1 ⟨g, G0, N0, rfl, hw1, hl0⟩
  clear hw
  go_wp2_with fail
  refine (HA.out g G0 N0 w1 Hs hw1 hl0 hH).mono ?_
  rintro e w2 ⟨G1, N1, rfl, hw2, hl1⟩
  have hw3 := hw2.alloc (.cells #[.int .i64 0, .string ⟨#[]⟩, .int .u8 0, .int .u8 0, .int .u8 0, .int .u8 0, .int .u8 0, .int .u8 0, .int .u8 0, .int .u8 0, .int .u8 0, .int .u8 0, .int .u8 0, .int .u8 0, .int .u8 0, .int .u8 0, .int .u8 0, .int .u8 0, .int .u8 0, .int .u8 0, .int .u8 0, .int .u8 0, .int .u8 0, .int .u8 0, .int .u8 0, .int .u8 0, .int .u8 0, .int .u8 0, .int .u8 0, .int .u8 0, .int .u8 0, .int .u8 0, .int .u8 0, .int .u8 0] 32)
  have HW3 := Lib.hid hw3
  have HL1 := Lib.hid hl1
  clear hw1 hl0 hl1 hw2 hw3
  generalize entX = ex at *
  go_wp2_with (with_reducible show wpList _ _ _ [_, _] _ _; (refine wpList_store_row rfl 32 (.tmp 2) (.tmp 12) rfl w2.heap.size (EA ex) rfl rfl 32 _ HW3.out.heap (by rw [hsz]; kernel_rfl) (by rw [hsz]; kernel_rfl) (EA_one _) ?_))
  have hw4 := (HW3.out.setRow (EA ex)).down2
  clear HW3
  generalize World.setRow _ _ _ = w4 at *
  generalize w2.heap.size = nx at *
  refine (HB.out g G1 N1 w4 _ hw4 HL1.out (List.mem_cons_of_mem _ hH)).mono ?_
  rintro e w5 ⟨G2, N2, rfl, hw5, hl2⟩
  have hw6 := hw5.alloc (.cells #[.int .i64 0, .string ⟨#[]⟩, .int .u8 0, .int .u8 0, .int .u8 0, .int .u8 0, .int .u8 0, .int .u8 0, .int .u8 0, .int .u8 0, .int .u8 0, .int .u8 0, .int .u8 0, .int .u8 0, .int .u8 0, .int .u8 0, .int .u8 0, .int .u8 0, .int .u8 0, .int .u8 0, .int .u8 0, .int .u8 0, .int .u8 0, .int .u8 0, .int .u8 0, .int .u8 0, .int .u8 0, .int .u8 0, .int .u8 0, .int .u8 0, .int .u8 0, .int .u8 0, .int .u8 0, .int .u8 0] 32)
  have HW6 := Lib.hid hw6
  have HL2 := Lib.hid hl2
  clear hw4 hw5 hw6 hl2 HL1
  go_upto_region 6 with (with_reducible show wpList _ _ _ [_, _] _ _; (refine wpList_store_row rfl 32 (.tmp 4) (.tmp 17) rfl w5.heap.size (EA ent0) rfl rfl 32 _ HW6.out.heap (by rw [hsz0]; kernel_rfl) (by rw [hsz0]; kernel_rfl) (EA_one _) ?_))
  have hw7 := (HW6.out.setRow (EA ent0)).drop
  clear HW6
  generalize World.setRow _ _ _ = w7 at *
  have hu29 := Tryd.underlying29
  have hi29 : (Tryd.prog.info? 29).map (·.size) = some (outV sx).toList.length := by rw [Array.length_toList, hos]; kernel_rfl
  have HW7 := Lib.hid hw7
  have hmx : Hp.one nx (.cells (EA ex) 32 (0, 0)) ∈ G2 :: N2 :: Hp.one nx (.cells (EA ex) 32 (0, 0)) :: Hs := List.mem_cons_of_mem _ (List.mem_cons_of_mem _ List.mem_cons_self)
  have hmh : H ∈ G2 :: N2 :: Hp.one nx (.cells (EA ex) 32 (0, 0)) :: Hs := List.mem_cons_of_mem _ (List.mem_cons_of_mem _ (List.mem_cons_of_mem _ hH))
  refine wp_region_held_drew (S := fun W => W.cell? ⟨nx, 0, none⟩ = some (.int .i64 5) ∧ W.cell? ⟨nx, 1, none⟩ = some (.string ⟨#[120]⟩) ∧ W.rangeAt nx 2 (outV sx).toList) (by kernel_rfl) (HC.out _ _ HW7.out.drew nx hmx) (fun hS0 => ?_)
  refine wpAnyH_take (i := 0) (v := ?_) rfl (by kernel_rfl) (by kernel_rfl) (by kernel_rfl) (fun _ _ _ h => h) (Or.inl ⟨by kernel_rfl, ?_⟩) hS0 ?_
  rotate_left
  · intro w hSw; obtain ⟨c0, c1, c2⟩ := hSw; clear c2; go_simp; (try with_reducible rfl)
  (try simp only [Act.put, List.getElem_toArray, List.getElem_cons_succ, List.getElem_cons_zero, List.setIfInBounds_toArray, List.set_cons_zero, List.set_cons_succ, Array.toArray_toList])
  refine wpAnyH_take (i := 1) (v := ?_) rfl (by kernel_rfl) (by kernel_rfl) (by kernel_rfl) (fun _ _ _ h => h) (Or.inl ⟨by kernel_rfl, ?_⟩) hS0 ?_
  rotate_left
  · intro w hSw; obtain ⟨c0, c1, c2⟩ := hSw; clear c2; go_simp; (try with_reducible rfl)
  (try simp only [Act.put, List.getElem_toArray, List.getElem_cons_succ, List.getElem_cons_zero, List.setIfInBounds_toArray, List.set_cons_zero, List.set_cons_succ, Array.toArray_toList])
  refine wpAnyH_take (i := 2) (v := ?_) rfl (by kernel_rfl) (by kernel_rfl) (by kernel_rfl) (fun _ _ _ h => h) (Or.inl ⟨by kernel_rfl, ?_⟩) hS0 ?_
  rotate_left
  · intro w hSw; obtain ⟨c0, c1, c2⟩ := hSw; clear c2; go_simp; (try with_reducible rfl)
  (try simp only [Act.put, List.getElem_toArray, List.getElem_cons_succ, List.getElem_cons_zero, List.setIfInBounds_toArray, List.set_cons_zero, List.set_cons_succ, Array.toArray_toList])
  refine wpAnyH_take (i := 3) (v := ?_) rfl (by kernel_rfl) (by kernel_rfl) (by kernel_rfl) (fun _ _ _ h => h) (Or.inl ⟨by kernel_rfl, ?_⟩) hS0 ?_
  rotate_left
  · intro w hSw; obtain ⟨c0, c1, c2⟩ := hSw; clear c2; go_simp; (try with_reducible rfl)
  (try simp only [Act.put, List.getElem_toArray, List.getElem_cons_succ, List.getElem_cons_zero, List.setIfInBounds_toArray, List.set_cons_zero, List.set_cons_succ, Array.toArray_toList])
  refine wpAnyH_take (i := 4) (v := ?_) rfl (by kernel_rfl) (by kernel_rfl) (by kernel_rfl) (fun _ _ _ h => h) (Or.inl ⟨by kernel_rfl, ?_⟩) hS0 ?_
  rotate_left
  · intro w hSw; obtain ⟨c0, c1, c2⟩ := hSw; clear c2; go_simp; (try with_reducible rfl)
  (try simp only [Act.put, List.getElem_toArray, List.getElem_cons_succ, List.getElem_cons_zero, List.setIfInBounds_toArray, List.set_cons_zero, List.set_cons_succ, Array.toArray_toList])
  refine wpAnyH_take (i := 5) (v := ?_) rfl (by kernel_rfl) (by kernel_rfl) (by kernel_rfl) (fun _ _ _ h => h) (Or.inl ⟨by kernel_rfl, ?_⟩) hS0 ?_
  rotate_left
  · intro w hSw; obtain ⟨c0, c1, c2⟩ := hSw; clear c2; go_simp; (try with_reducible rfl)
  (try simp only [Act.put, List.getElem_toArray, List.getElem_cons_succ, List.getElem_cons_zero, List.setIfInBounds_toArray, List.set_cons_zero, List.set_cons_succ, Array.toArray_toList])
  refine wpAnyH_take (i := 6) (v := ?_) rfl (by kernel_rfl) (by kernel_rfl) (by kernel_rfl) (fun _ _ _ h => h) (Or.inl ⟨by kernel_rfl, ?_⟩) hS0 ?_
  rotate_left
  · intro w hSw; obtain ⟨c0, c1, c2⟩ := hSw; clear c2; go_simp; (try with_reducible rfl)
  (try simp only [Act.put, List.getElem_toArray, List.getElem_cons_succ, List.getElem_cons_zero, List.setIfInBounds_toArray, List.set_cons_zero, List.set_cons_succ, Array.toArray_toList])
  refine wpAnyH_take (i := 7) (v := ?_) rfl (by kernel_rfl) (by kernel_rfl) (by kernel_rfl) (fun _ _ _ h => h) (Or.inl ⟨by kernel_rfl, ?_⟩) hS0 ?_
  rotate_left
  · intro w hSw; obtain ⟨c0, c1, c2⟩ := hSw; clear c2; go_simp; (try with_reducible rfl)
  (try simp only [Act.put, List.getElem_toArray, List.getElem_cons_succ, List.getElem_cons_zero, List.setIfInBounds_toArray, List.set_cons_zero, List.set_cons_succ, Array.toArray_toList])
  refine wpAnyH_take (i := 8) (v := ?_) rfl (by kernel_rfl) (by kernel_rfl) (by kernel_rfl) (fun _ _ _ h => h) (Or.inl ⟨by kernel_rfl, ?_⟩) hS0 ?_
  rotate_left
  · intro w hSw; obtain ⟨c0, c1, c2⟩ := hSw; clear c2; go_simp; (try with_reducible rfl)
  (try simp only [Act.put, List.getElem_toArray, List.getElem_cons_succ, List.getElem_cons_zero, List.setIfInBounds_toArray, List.set_cons_zero, List.set_cons_succ, Array.toArray_toList])
  refine wpAnyH_take (i := 9) (v := ?_) rfl (by kernel_rfl) (by kernel_rfl) (by kernel_rfl) (fun _ _ _ h => h) (Or.inl ⟨by kernel_rfl, ?_⟩) hS0 ?_
  rotate_left
  · intro w hSw; obtain ⟨c0, c1, c2⟩ := hSw; clear c2; go_simp; (try with_reducible rfl)
  (try simp only [Act.put, List.getElem_toArray, List.getElem_cons_succ, List.getElem_cons_zero, List.setIfInBounds_toArray, List.set_cons_zero, List.set_cons_succ, Array.toArray_toList])
  refine wpAnyH_take (i := 10) (v := ?_) rfl (by kernel_rfl) (by kernel_rfl) (by kernel_rfl) (fun _ _ _ h => h) (Or.inl ⟨by kernel_rfl, ?_⟩) hS0 ?_
  rotate_left
  · intro w hSw; obtain ⟨c0, c1, c2⟩ := hSw; clear c2; go_simp; (try with_reducible rfl)
  (try simp only [Act.put, List.getElem_toArray, List.getElem_cons_succ, List.getElem_cons_zero, List.setIfInBounds_toArray, List.set_cons_zero, List.set_cons_succ, Array.toArray_toList])
  refine wpAnyH_take (i := 11) (v := ?_) rfl (by kernel_rfl) (by kernel_rfl) (by kernel_rfl) (fun _ _ _ h => h) (Or.inl ⟨by kernel_rfl, ?_⟩) hS0 ?_
  rotate_left
  · intro w hSw; obtain ⟨c0, c1, c2⟩ := hSw; clear c2; go_simp; (try with_reducible rfl)
  (try simp only [Act.put, List.getElem_toArray, List.getElem_cons_succ, List.getElem_cons_zero, List.setIfInBounds_toArray, List.set_cons_zero, List.set_cons_succ, Array.toArray_toList])
  refine wpAnyH_take (i := 12) (v := ?_) rfl (by kernel_rfl) (by kernel_rfl) (by kernel_rfl) (fun _ _ _ h => h) (Or.inl ⟨by kernel_rfl, ?_⟩) hS0 ?_
  rotate_left
  · intro w hSw; obtain ⟨c0, c1, c2⟩ := hSw; clear c2; go_simp; (try with_reducible rfl)
  (try simp only [Act.put, List.getElem_toArray, List.getElem_cons_succ, List.getElem_cons_zero, List.setIfInBounds_toArray, List.set_cons_zero, List.set_cons_succ, Array.toArray_toList])
  refine wpAnyH_take (i := 13) (v := ?_) rfl (by kernel_rfl) (by kernel_rfl) (by kernel_rfl) (fun _ _ _ h => h) (Or.inl ⟨by kernel_rfl, ?_⟩) hS0 ?_
  rotate_left
  · intro w hSw; obtain ⟨c0, c1, c2⟩ := hSw; clear c2; go_simp; (try with_reducible rfl)
  (try simp only [Act.put, List.getElem_toArray, List.getElem_cons_succ, List.getElem_cons_zero, List.setIfInBounds_toArray, List.set_cons_zero, List.set_cons_succ, Array.toArray_toList])
  refine wpAnyH_take (i := 14) (v := ?_) rfl (by kernel_rfl) (by kernel_rfl) (by kernel_rfl) (fun _ _ _ h => h) (Or.inl ⟨by kernel_rfl, ?_⟩) hS0 ?_
  rotate_left
  · intro w hSw; obtain ⟨c0, c1, c2⟩ := hSw; clear c2; go_simp; (try with_reducible rfl)
  (try simp only [Act.put, List.getElem_toArray, List.getElem_cons_succ, List.getElem_cons_zero, List.setIfInBounds_toArray, List.set_cons_zero, List.set_cons_succ, Array.toArray_toList])
  refine wpAnyH_take (i := 15) (v := ?_) rfl (by kernel_rfl) (by kernel_rfl) (by kernel_rfl) (fun _ _ _ h => h) (Or.inl ⟨by kernel_rfl, ?_⟩) hS0 ?_
  rotate_left
  · intro w hSw; obtain ⟨c0, c1, c2⟩ := hSw; clear c2; go_simp; (try with_reducible rfl)
  (try simp only [Act.put, List.getElem_toArray, List.getElem_cons_succ, List.getElem_cons_zero, List.setIfInBounds_toArray, List.set_cons_zero, List.set_cons_succ, Array.toArray_toList])
  refine wpAnyH_take (i := 16) (v := ?_) rfl (by kernel_rfl) (by kernel_rfl) (by kernel_rfl) (fun _ _ _ h => h) (Or.inl ⟨by kernel_rfl, ?_⟩) hS0 ?_
  rotate_left
  · intro w hSw; obtain ⟨c0, c1, c2⟩ := hSw; clear c2; go_simp; (try with_reducible rfl)
  (try simp only [Act.put, List.getElem_toArray, List.getElem_cons_succ, List.getElem_cons_zero, List.setIfInBounds_toArray, List.set_cons_zero, List.set_cons_succ, Array.toArray_toList])
  refine wpAnyH_take (i := 17) (v := ?_) rfl (by kernel_rfl) (by kernel_rfl) (by kernel_rfl) (fun _ _ _ h => h) (Or.inl ⟨by kernel_rfl, ?_⟩) hS0 ?_
  rotate_left
  · intro w hSw; obtain ⟨c0, c1, c2⟩ := hSw; clear c2; go_simp; (try with_reducible rfl)
  (try simp only [Act.put, List.getElem_toArray, List.getElem_cons_succ, List.getElem_cons_zero, List.setIfInBounds_toArray, List.set_cons_zero, List.set_cons_succ, Array.toArray_toList])
  refine wpAnyH_take (i := 18) rfl (by kernel_rfl) (by kernel_rfl) (by kernel_rfl) (fun _ _ _ h => h) (yieldsIf_load_mid (by kernel_rfl) _ _ rfl _ _ rfl ((outV sx).toList) _ (fun w h => h.2.2) hu29 rfl hi29) hS0 ?_
  (try simp only [Act.put, List.getElem_toArray, List.getElem_cons_succ, List.getElem_cons_zero, List.setIfInBounds_toArray, List.set_cons_zero, List.set_cons_succ, Array.toArray_toList])
  refine wpAnyH_take (i := 19) (v := ?_) rfl (by kernel_rfl) (by kernel_rfl) (by kernel_rfl) (fun _ _ _ h => h) (Or.inl ⟨by kernel_rfl, ?_⟩) hS0 ?_
  rotate_left
  · intro w hSw; obtain ⟨c0, c1, c2⟩ := hSw; clear c2; go_simp; (try with_reducible rfl)
  (try simp only [Act.put, List.getElem_toArray, List.getElem_cons_succ, List.getElem_cons_zero, List.setIfInBounds_toArray, List.set_cons_zero, List.set_cons_succ, Array.toArray_toList])
  refine wpAnyH_ready (rs := [20]) (by kernel_rfl) (by simp) ?_
  refine AllReadyH.cons rfl (fun K hK => ?_) AllReadyH.nil
  go_simp
  refine (HCH.out _ _ HW7.out.drew hmh).mono ?_
  rintro e w8 ⟨rfl, hw8⟩
  (try go_wp2_with fail)
  refine hK.out _ _ (HC.out _ _ hw8 nx hmx) (fun hS1 => ?_)
  clear hK K
  (try simp only [Act.put, List.getElem_toArray, List.getElem_cons_succ, List.getElem_cons_zero, List.setIfInBounds_toArray, List.set_cons_zero, List.set_cons_succ, Array.toArray_toList])
  refine wpAnyH_take (i := 21) (v := ?_) rfl (by kernel_rfl) (by kernel_rfl) (by kernel_rfl) (fun _ _ _ h => h) (Or.inl ⟨by kernel_rfl, ?_⟩) hS1 ?_
  rotate_left
  · intro w hSw; obtain ⟨c0, c1, c2⟩ := hSw; clear c2; go_simp; (try with_reducible rfl)
  (try simp only [Act.put, List.getElem_toArray, List.getElem_cons_succ, List.getElem_cons_zero, List.setIfInBounds_toArray, List.set_cons_zero, List.set_cons_succ, Array.toArray_toList])
  refine wpAnyH_take (i := 22) (v := ?_) rfl (by kernel_rfl) (by kernel_rfl) (by kernel_rfl) (fun _ _ _ h => h) (Or.inl ⟨by kernel_rfl, ?_⟩) hS1 ?_
  rotate_left
  · intro w hSw; obtain ⟨c0, c1, c2⟩ := hSw; clear c2; go_simp; (try with_reducible rfl)
  (try simp only [Act.put, List.getElem_toArray, List.getElem_cons_succ, List.getElem_cons_zero, List.setIfInBounds_toArray, List.set_cons_zero, List.set_cons_succ, Array.toArray_toList])
  refine wpAnyH_take (i := 23) (v := ?_) rfl (by kernel_rfl) (by kernel_rfl) (by kernel_rfl) (fun _ _ _ h => h) (Or.inl ⟨by kernel_rfl, ?_⟩) hS1 ?_
  rotate_left
  · intro w hSw; obtain ⟨c0, c1, c2⟩ := hSw; clear c2; go_simp; (try with_reducible rfl)
  (try simp only [Act.put, List.getElem_toArray, List.getElem_cons_succ, List.getElem_cons_zero, List.setIfInBounds_toArray, List.set_cons_zero, List.set_cons_succ, Array.toArray_toList])
  refine wpAnyH_take (i := 24) (v := ?_) rfl (by kernel_rfl) (by kernel_rfl) (by kernel_rfl) (fun _ _ _ h => h) (Or.inl ⟨by kernel_rfl, ?_⟩) hS1 ?_
  rotate_left
  · intro w hSw; obtain ⟨c0, c1, c2⟩ := hSw; clear c2; go_simp; (try with_reducible rfl)
  (try simp only [Act.put, List.getElem_toArray, List.getElem_cons_succ, List.getElem_cons_zero, List.setIfInBounds_toArray, List.set_cons_zero, List.set_cons_succ, Array.toArray_toList])
  refine wpAnyH_take (i := 26) (v := ?_) rfl (by kernel_rfl) (by kernel_rfl) (by kernel_rfl) (fun _ _ _ h => h) (Or.inl ⟨by kernel_rfl, ?_⟩) hS1 ?_
  rotate_left
  · intro w hSw; obtain ⟨c0, c1, c2⟩ := hSw; clear c2; go_simp; (try with_reducible rfl)
  (try simp only [Act.put, List.getElem_toArray, List.getElem_cons_succ, List.getElem_cons_zero, List.setIfInBounds_toArray, List.set_cons_zero, List.set_cons_succ, Array.toArray_toList])
  refine wpAnyH_take (i := 27) rfl (by kernel_rfl) (by kernel_rfl) (by kernel_rfl) (fun _ _ _ h => h) (yieldsIf_load_mid (by kernel_rfl) _ _ rfl _ _ rfl ((outV sx).toList) _ (fun w h => h.2.2) hu29 rfl hi29) hS1 ?_
  (try simp only [Act.put, List.getElem_toArray, List.getElem_cons_succ, List.getElem_cons_zero, List.setIfInBounds_toArray, List.set_cons_zero, List.set_cons_succ, Array.toArray_toList])
  refine wpAnyH_ready (rs := [25]) (by kernel_rfl) (by simp) ?_
  refine AllReadyH.cons rfl (fun K hK => ?_) AllReadyH.nil
  go_simp
  refine (HHD.out g G2 N2 _ _ hw8 List.mem_cons_self (List.mem_cons_of_mem _ List.mem_cons_self) HL2.out).mono ?_
  rintro e w9 ⟨rfl, hw9⟩
  (try go_wp2_with fail)
  refine hK.out _ _ (HC.out _ _ hw9 nx hmx) (fun hS2 => ?_)
  clear hK K
  (try simp only [Act.put, List.getElem_toArray, List.getElem_cons_succ, List.getElem_cons_zero, List.setIfInBounds_toArray, List.set_cons_zero, List.set_cons_succ, Array.toArray_toList])
  refine wpAnyH_take (i := 28) (v := ?_) rfl (by kernel_rfl) (by kernel_rfl) (by kernel_rfl) (fun _ _ _ h => h) (Or.inl ⟨by kernel_rfl, ?_⟩) hS2 ?_
  rotate_left
  · intro w hSw; obtain ⟨c0, c1, c2⟩ := hSw; clear c2; go_simp; (try with_reducible rfl)
  (try simp only [Act.put, List.getElem_toArray, List.getElem_cons_succ, List.getElem_cons_zero, List.setIfInBounds_toArray, List.set_cons_zero, List.set_cons_succ, Array.toArray_toList])
  refine wpAnyH_take (i := 29) (v := ?_) rfl (by kernel_rfl) (by kernel_rfl) (by kernel_rfl) (fun _ _ _ h => h) (Or.inl ⟨by kernel_rfl, ?_⟩) hS2 ?_
  rotate_left
  · intro w hSw; obtain ⟨c0, c1, c2⟩ := hSw; clear c2; go_simp; (try with_reducible rfl)
  (try simp only [Act.put, List.getElem_toArray, List.getElem_cons_succ, List.getElem_cons_zero, List.setIfInBounds_toArray, List.set_cons_zero, List.set_cons_succ, Array.toArray_toList])
  refine wpAnyH_take (i := 30) (v := ?_) rfl (by kernel_rfl) (by kernel_rfl) (by kernel_rfl) (fun _ _ _ h => h) (Or.inl ⟨by kernel_rfl, ?_⟩) hS2 ?_
  rotate_left
  · intro w hSw; obtain ⟨c0, c1, c2⟩ := hSw; clear c2; go_simp; (try with_reducible rfl)
  (try simp only [Act.put, List.getElem_toArray, List.getElem_cons_succ, List.getElem_cons_zero, List.setIfInBounds_toArray, List.set_cons_zero, List.set_cons_succ, Array.toArray_toList])
  refine wpAnyH_done (by kernel_rfl) ?_ _
  go_wp2
  go_ret
  exact ⟨rfl, hw9.drop.drop.drop⟩
end
end Go.Proofs.YteggcfcjajpcgaaDoor
