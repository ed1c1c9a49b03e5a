/- Walk: ref.Parse. -/
import Derived.Test.YtbjgidgohekaaaaDoorDgU
set_option linter.unusedVariables false
namespace Go.Proofs.YtbjgidgohekaaaaDoor
open Go.RowKit
theorem digI_neg (c : Int) (h : halfI c < 0) : digI c = 16 := by unfold halfI at h; unfold digI; split at h <;> (try split at h) <;> (first | omega | (split <;> (try split) <;> omega))
theorem digI_pos (c : Int) (h : 0 ≤ halfI c) : digI c = halfI c := by unfold halfI at h ⊢; unfold digI; split at h <;> (try split at h) <;> (first | omega | (split <;> (try split) <;> omega))
theorem or_u8 (A B : Nat) (hA : A < 16) (hB : B < 16) : bits .or .u8 ((A : Int) * 16) (B : Int) = 16 * (A : Int) + B := by
  have h : ∀ a b : Fin 16, bits .or .u8 ((a.val : Int) * 16) (b.val : Int) = 16 * (a.val : Int) + b.val := by decide +kernel
  exact h ⟨A, hA⟩ ⟨B, hB⟩
set_option maxRecDepth 100000 in
set_option maxHeartbeats 1000000 in
theorem rparse_any (s : ByteArray) (w : World) :
    Calls Tryd.prog 20 #[.string s] w fun e w' => e = .returned (.tuple #[.agg (outV (parseL s)), .int .i64 (parseE s)]) ∧ Below w.heap.size w w' := by
  go_enter Tryd.func20, Tryd.ntmps20
  go_upto_region 1 with (fail)
  refine wp_gen (fun w0 => w0.rowIs w.heap.size 24 32 (fun _ => .int .u8 0) ∧ Below w.heap.size w w0 ∧ w0.heap.size = w.heap.size + 1) ⟨alloc_rep w 32 24 (.int .u8 0) _ _ rfl (by rfl), (Below.refl _ _).alloc (Nat.le_refl _) _, by simp⟩ ?_
  intro wz ⟨hb0, hlow, hsz⟩
  have HB := Lib.hid hb0; have HLO := Lib.hid hlow; have HS := Lib.hid hsz
  clear hb0 hlow hsz
  go_upto_region 2 with (refine wpList_store_row rfl 24 (.tmp 4) (.tmp 8) rfl wz.heap.size (outV (List.replicate 32 0)) rfl (by rfl) 24 _ (heap_alloc_new wz _) (by kernel_rfl) (by rfl) (outV_one _) ?_)
  refine wp_gen (fun w0 => w0.rowIs w.heap.size 24 32 (fun _ => .int .u8 0) ∧ w0.rowIs wz.heap.size 24 32 (fun _ => .int .u8 0) ∧ Below w.heap.size w w0 ∧ w0.heap.size = w.heap.size + 2) ⟨?_, ?_, ?_, ?_⟩ ?_
  · exact (((Touch.refl (fun _ => False) wz).alloc _).setRow (.inr (Nat.le_refl _)) _).row HB.out (fun h => h)
  · exact ⟨_, heap_setRow (heap_alloc_new wz _) _, rfl, fun i hi => zeros_at i hi⟩
  · exact HLO.out.trans (((((Touch.refl (fun _ => False) wz).alloc _).setRow (.inr (Nat.le_refl _)) _).below (Nat.le_refl _) (fun k hk => hk.elim)).mono HLO.out.size)
  · simp [HS.out]
  intro w0 ⟨hb0, hb1, hlow, hsz⟩
  rw [HS.out] at hb1
  have HB0 := Lib.hid hb0; have HB1 := Lib.hid hb1; have HLOW := Lib.hid hlow; have HSZ := Lib.hid hsz
  have ezz := HS.out
  clear hb0 hb1 hlow hsz HB HLO HS
  rw [ezz]
  clear ezz
  by_cases hs : s.size = 64
  · go_wp2
    go_loopw [5] (fun i wr => ∃ k : Nat, k ≤ 32 ∧ i = .int .i64 k ∧ wr.rowIs (w.heap.size + 1) 24 32 (fun j => .int .u8 (if j < k then pF s j else 0)) ∧ Touch (fun b => b = w.heap.size + 1) w0 wr ∧ ∀ j, j < 2 * k → 0 ≤ halfI (chS s j)) (fun i _ => 32 - (intOf i).toNat)
    case atStart => exact ⟨0, by omega, rfl, HB1.out.congr (fun i hi => by simp), Touch.refl _ _, fun j hj => by omega⟩
    case round =>
      obtain ⟨k, hk, rfl, hrow, htch, hok⟩ := hrel
      have HROW := Lib.hid hrow; have HT := Lib.hid htch; have HOK := Lib.hid hok
      clear hrow htch hok
      by_cases hlt : k < 32
      · have m1 : IntKind.i64.wrap (2 * (k : Int)) = 2 * k := IntWalk.i64_in _ (by omega)
        have m2 : IntKind.i64.wrap (2 * (k : Int) + 1) = 2 * k + 1 := IntWalk.i64_in _ (by omega)
        obtain ⟨x, hx⟩ : ∃ x, x = chS s (2 * k) := ⟨_, rfl⟩
        obtain ⟨y, hy⟩ : ∃ y, y = chS s (2 * k + 1) := ⟨_, rfl⟩
        have i1 := index_str (P := Tryd.prog) 9 Tryd.underlying9 s (2 * k) (by omega) (2 * k) (by omega)
        have i2 := index_str (P := Tryd.prog) 9 Tryd.underlying9 s (2 * k + 1) (by omega) (2 * k + 1) (by omega)
        have x1 := chS_range s (2 * k)
        have y1 := chS_range s (2 * k + 1)
        rw [← hx] at i1 x1
        rw [← hy] at i2 y1
        have r1 := halfI_range x
        have r2 := halfI_range y
        have HPF : Hid (pF s k = 16 * halfI x + halfI y) := Lib.hid (by unfold pF; rw [← hx, ← hy])
        have X1 := Lib.hid x1; have Y1 := Lib.hid y1; have HR1 := Lib.hid r1; have HR2 := Lib.hid r2
        have HX := Lib.hid hx; have HY := Lib.hid hy
        clear r1 r2 hx hy x1 y1
        go_wp2
        go_quiet ((go_at_call 26; exact Calls.quiet_of_same (digit_any _ _ (by first | exact X1.out.1 | exact Y1.out.1) (by first | exact X1.out.2 | exact Y1.out.2))))
        have HROW2 : Hid ((wr.drewN nq).rowIs _ _ _ _) := Lib.hid (rowIs_drewN HROW.out nq)
        have HT2 := Lib.hid (HT.out.drewN nq)
        clear HROW HT
        generalize wr.drewN nq = w2 at *
        have HH0 := Lib.hid ((HT2.out.block w.heap.size (by have := HSZ.out; omega) (by omega)).trans (row_heap HB0.out (outV (List.replicate 32 0)) (by rfl) (fun i hi => zeros_at i hi)))
        by_cases ha : halfI x < 0
        · have HNO : Hid (¬ OkText s) := Lib.hid (fun h => by have := h.2 (2 * k) (by omega); rw [← HX.out] at this; omega)
          rw [digI_neg x ha]
          go_wp2_with (refine wpList_store_row rfl 24 (.tmp 2) (.tmp 34) rfl w.heap.size (outV (List.replicate 32 0)) rfl (by rfl) 24 _ HH0.out (by kernel_rfl) (by rfl) (outV_one _) ?_)
          refine bodyPost_ret (v := .tuple #[.agg (outV (List.replicate 32 0)), .int .i64 2]) (results_row_tmp (p := 2) (u := 3) (ty := 24) (by kernel_rfl) _ _ w.heap.size 24 (outV (List.replicate 32 0)) (0, 0) _ (by rfl) (heap_setRow HH0.out _) Tryd.underlying24 rfl (by kernel_rfl)) rfl ⟨?_, ?_⟩
          · rw [parseL, parseE, if_neg HNO.out, if_neg HNO.out]
          · exact ((Touch.of_below (S := fun b => w.heap.size ≤ b) (HLOW.out)).trans (HT2.out) (fun i hi => .inl (by omega)) |>.setRow (.inl (Nat.le_refl _)) _).below (Nat.le_refl _) (fun k hk => hk)
        · by_cases hb : halfI y < 0
          · have HNO : Hid (¬ OkText s) := Lib.hid (fun h => by have := h.2 (2 * k + 1) (by omega); rw [← HY.out] at this; omega)
            obtain ⟨A, hA⟩ := Int.eq_ofNat_of_zero_le (a := halfI x) (by omega)
            have hA1 := HR1.out.2
            rw [hA] at hA1 ha
            rw [digI_pos x (by omega), digI_neg y hb, hA]
            clear hA hb ha
            go_wp2_with (refine wpList_store_row rfl 24 (.tmp 2) (.tmp 34) rfl w.heap.size (outV (List.replicate 32 0)) rfl (by rfl) 24 _ HH0.out (by kernel_rfl) (by rfl) (outV_one _) ?_)
            refine bodyPost_ret (v := .tuple #[.agg (outV (List.replicate 32 0)), .int .i64 2]) (results_row_tmp (p := 2) (u := 3) (ty := 24) (by kernel_rfl) _ _ w.heap.size 24 (outV (List.replicate 32 0)) (0, 0) _ (by rfl) (heap_setRow HH0.out _) Tryd.underlying24 rfl (by kernel_rfl)) rfl ⟨?_, ?_⟩
            · rw [parseL, parseE, if_neg HNO.out, if_neg HNO.out]
            · exact ((Touch.of_below (S := fun b => w.heap.size ≤ b) (HLOW.out)).trans (HT2.out) (fun i hi => .inl (by omega)) |>.setRow (.inl (Nat.le_refl _)) _).below (Nat.le_refl _) (fun k hk => hk)
          · obtain ⟨A, hA⟩ := Int.eq_ofNat_of_zero_le (a := halfI x) (by omega)
            obtain ⟨B, hB⟩ := Int.eq_ofNat_of_zero_le (a := halfI y) (by omega)
            have hA1 := HR1.out.2
            have hB1 := HR2.out.2
            rw [hA] at hA1 ha
            rw [hB] at hB1 hb
            have HA := Lib.hid hA; have HBB := Lib.hid hB
            rw [digI_pos x (by omega), digI_pos y (by omega), hA, hB]
            clear hA hB
            have o0 := HROW2.out.cell (i := k) (by omega)
            have p0 := HROW2.out.frozen k
            go_wp2
            rw [or_u8 A B (by omega) (by omega)]
            refine ⟨⟨k + 1, by omega, by go_num, (HROW2.out.set k _).congr (fun i hi => ?_), HT2.out.setCell (.inl rfl) _, fun j hj => ?_⟩, by simp [intOf]; omega⟩
            · by_cases e0 : i = k
              · subst e0
                rw [if_pos rfl, if_pos (by omega), HPF.out, HA.out, HBB.out]
              · rw [if_neg e0]
                by_cases el : i < k
                · rw [if_pos el, if_pos (by omega)]
                · rw [if_neg el, if_neg (by omega)]
            · by_cases e0 : j < 2 * k
              · exact HOK.out j e0
              · by_cases e1 : j = 2 * k
                · subst e1
                  rw [← HX.out, HA.out]; omega
                · obtain rfl : j = 2 * k + 1 := by omega
                  rw [← HY.out, HBB.out]; omega
      · obtain rfl : k = 32 := by omega
        have HYES : Hid (OkText s) := Lib.hid ⟨hs, fun j hj => HOK.out j (by omega)⟩
        have HH0 := Lib.hid ((HT.out.block w.heap.size (by have := HSZ.out; omega) (by omega)).trans (row_heap HB0.out (outV (List.replicate 32 0)) (by rfl) (fun i hi => zeros_at i hi)))
        have HH1 := Lib.hid (row_heap HROW.out (outV (pL s)) (by rfl) (fun i hi => by simp [outV, pL, hi]))
        go_wp2_with (first | (refine wpList_load_row rfl 24 (.tmp 4) rfl (w.heap.size + 1) rfl 24 _ (0, 0) _ HH1.out Tryd.underlying24 rfl (by kernel_rfl) ?_) | (refine wpList_store_row rfl 24 (.tmp 2) (.tmp 41) rfl w.heap.size (outV (pL s)) rfl (by rfl) 24 _ HH0.out (by kernel_rfl) (by rfl) (outV_one _) ?_))
        refine bodyPost_ret (v := .tuple #[.agg (outV (pL s)), .int .i64 0]) (results_row_tmp (p := 2) (u := 3) (ty := 24) (by kernel_rfl) _ _ w.heap.size 24 (outV (pL s)) (0, 0) _ (by rfl) (heap_setRow HH0.out _) Tryd.underlying24 rfl (by kernel_rfl)) rfl ⟨?_, ?_⟩
        · rw [parseL, parseE, if_pos HYES.out, if_pos HYES.out]
        · exact ((Touch.of_below (S := fun b => w.heap.size ≤ b) (HLOW.out)).trans (HT.out) (fun i hi => .inl (by omega)) |>.setRow (.inl (Nat.le_refl _)) _).below (Nat.le_refl _) (fun k hk => hk)
  · have HNO : Hid (¬ OkText s) := Lib.hid (fun h => hs h.1)
    have HH0 := Lib.hid (row_heap HB0.out (outV (List.replicate 32 0)) (by rfl) (fun i hi => zeros_at i hi))
    have HH1 := Lib.hid (row_heap HB1.out (outV (List.replicate 32 0)) (by rfl) (fun i hi => zeros_at i hi))
    have hs' : ((s.size : Int) == 64) = false := by simp; omega
    go_wp2_with (first | (refine wpList_load_row rfl 24 (.tmp 4) rfl (w.heap.size + 1) rfl 24 _ (0, 0) _ HH1.out Tryd.underlying24 rfl (by kernel_rfl) ?_) | (refine wpList_store_row rfl 24 (.tmp 2) (.tmp 12) rfl w.heap.size (outV (List.replicate 32 0)) rfl (by rfl) 24 _ HH0.out (by kernel_rfl) (by rfl) (outV_one _) ?_))
    refine bodyPost_ret (v := .tuple #[.agg (outV (List.replicate 32 0)), .int .i64 2]) (results_row_tmp (p := 2) (u := 3) (ty := 24) (by kernel_rfl) _ _ w.heap.size 24 (outV (List.replicate 32 0)) (0, 0) _ (by rfl) (heap_setRow HH0.out _) Tryd.underlying24 rfl (by kernel_rfl)) rfl ⟨?_, ?_⟩
    · rw [parseL, parseE, if_neg HNO.out, if_neg HNO.out]
    · exact ((Touch.of_below (S := fun b => w.heap.size ≤ b) HLOW.out).setRow (.inl (Nat.le_refl _)) _).below (Nat.le_refl _) (fun k hk => hk)
end Go.Proofs.YtbjgidgohekaaaaDoor
