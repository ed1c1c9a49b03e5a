/- Walks of the reference's digest: cubes, block. -/
import Derived.Test.YteggcfcjajpcgaaDoorDgA
import Derived.Test.YteggcfcjajpcgaaDoorBase2
import Derived.Test.YteggcfcjajpcgaaDoorDgP
set_option linter.unusedVariables false
namespace Go.Proofs.YteggcfcjajpcgaaDoor
open Go.RowKit
set_option maxHeartbeats 400000 in
theorem cubes_any (w : World) : Calls Tryd.prog 47 #[] w fun e w' => e = .returned (.slice (some ⟨w.heap.size, 0, none⟩) 64 64) ∧ w' = w.alloc (.cells kV 74) := by
  go_enter Tryd.func47, Tryd.ntmps47
  go_wp2
  go_ret
  exact ⟨rfl, rfl⟩
structure BlkSt (w wr : World) (b : Nat → Int) (n : Nat) : Prop where
  sched : wr.rowIs w.heap.size 74 64 (fun j => .int .u32 (if j < n then sch b j else 0))
  low : Below w.heap.size w wr
set_option maxRecDepth 100000 in
set_option maxHeartbeats 4000000 in
theorem block_any (vh vb : Value) (s : W8) (bs : List Int) (Fh Fb : Nat → Prop) (w : World) (hh : RdI w .u32 vh [s.a, s.b, s.c, s.d, s.e, s.f, s.g, s.h] Fh) (hb : RdI w .u8 vb bs Fb) (hbs : bs.length = 64) :
    Calls Tryd.prog 43 #[vh, vb] w fun e w' => ∃ g c, let r := comp s (fun i => bs.getD i 0); e = .returned (.slice (some ⟨g, 0, none⟩) 8 c) ∧ w.heap.size ≤ g ∧ RdI w' .u32 (.slice (some ⟨g, 0, none⟩) 8 c) [r.a, r.b, r.c, r.d, r.e, r.f, r.g, r.h] (fun b => b = g) ∧ Below w.heap.size w w' := by
  obtain ⟨Ah, ch, rfl, hhc, hhm, hhr⟩ := id hh
  obtain ⟨bh, oh, rfl, _, hhc⟩ := hhr (by simp)
  obtain ⟨Ab, cb, rfl, hbc0, hbm, hbr⟩ := id hb
  obtain ⟨bb, ob, rfl, _, hbc⟩ := hbr (by omega)
  rw [hbs] at *
  have HH := Lib.hid hh; clear hh
  have HHC := Lib.hid hhc; clear hhc
  have HB := Lib.hid hbc; clear hbc hb
  have HBS := Lib.hid hbs; clear hbs hhr hbr
  have hbl : Hid (bb < w.heap.size) := Lib.hid (World.block_lt_of_cell? w _ (HB.out 0 (by omega)))
  have hhl : Hid (bh < w.heap.size) := Lib.hid (World.block_lt_of_cell? w _ (HHC.out 0 (by simp)))
  generalize hbb : (fun i => bs.getD i 0) = b
  have HBB := Lib.hid hbb; clear hbb
  have hmk : ∀ W : World, (Instr.makeSlice 75 (.int .i64 64) (.int .i64 64)).run Tryd.prog W = .ok (.slice (some ⟨W.heap.size, 0, none⟩) 64 64) (W.alloc (.cells (madeCells #[.int .u32 0] 64) 74)) := fun W => by
    have := run_make_row' (P := Tryd.prog) (w := W) 75 74 (.int .u32 0) 4 Tryd.underlying75 (by kernel_rfl) rfl .i64 .i64 64 (by omega) (by omega)
    exact this
  go_enter Tryd.func43, Tryd.ntmps43
  go_wp2
  go_loopw [6] (fun i wr => ∃ k : Nat, k ≤ 16 ∧ i = .int .i64 k ∧ BlkSt w wr b k) (fun i _ => 16 - (intOf i).toNat)
  case atStart =>
    exact ⟨0, by omega, rfl, (World.rowIs_made w (.int .u32 0) 64 74).congr (fun i hi => by simp), (Below.refl _ _).alloc (Nat.le_refl _) _⟩
  case round =>
    obtain ⟨k, hk, rfl, hst⟩ := hrel
    by_cases hlt : k < 16
    · -- done<
      have f0 := hst.sched.frozen k
      have f1 := hst.sched.cell (i := k) (by omega)
      have c0 : wr.cell? ⟨bb, ob + 4 * k, none⟩ = some (.int .u8 (b (4 * k))) := (hst.low.cell (p := ⟨bb, ob + 4 * k, none⟩) hbl.out).trans ((HB.out (4 * k) (by omega)).trans (by rw [← HBB.out]))
      have c1 : wr.cell? ⟨bb, ob + (4 * k + 1), none⟩ = some (.int .u8 (b (4 * k + 1))) := (hst.low.cell (p := ⟨bb, ob + (4 * k + 1), none⟩) hbl.out).trans ((HB.out (4 * k + 1) (by omega)).trans (by rw [← HBB.out]))
      have c2 : wr.cell? ⟨bb, ob + (4 * k + 2), none⟩ = some (.int .u8 (b (4 * k + 2))) := (hst.low.cell (p := ⟨bb, ob + (4 * k + 2), none⟩) hbl.out).trans ((HB.out (4 * k + 2) (by omega)).trans (by rw [← HBB.out]))
      have c3 : wr.cell? ⟨bb, ob + (4 * k + 3), none⟩ = some (.int .u8 (b (4 * k + 3))) := (hst.low.cell (p := ⟨bb, ob + (4 * k + 3), none⟩) hbl.out).trans ((HB.out (4 * k + 3) (by omega)).trans (by rw [← HBB.out]))
      have HST := Lib.hid hst; clear hst
      go_wp2
      have m0 : IntKind.i64.wrap (4 * (k : Int)) = 4 * (k : Int) := IntWalk.i64_in _ (by omega)
      have m1 : IntKind.i64.wrap (4 * (k : Int) + 1) = 4 * (k : Int) + 1 := IntWalk.i64_in _ (by omega)
      have m2 : IntKind.i64.wrap (4 * (k : Int) + 2) = 4 * (k : Int) + 2 := IntWalk.i64_in _ (by omega)
      have m3 : IntKind.i64.wrap (4 * (k : Int) + 3) = 4 * (k : Int) + 3 := IntWalk.i64_in _ (by omega)
      have q0 : 0 ≤ 4 * (k : Int) := by omega
      have q1 : 0 ≤ 4 * (k : Int) + 1 := by omega
      have q2 : 0 ≤ 4 * (k : Int) + 2 := by omega
      have q3 : 0 ≤ 4 * (k : Int) + 3 := by omega
      have r0 : 4 * (k : Int) < 64 := by omega
      have r1 : 4 * (k : Int) + 1 < 64 := by omega
      have r2 : 4 * (k : Int) + 2 < 64 := by omega
      have r3 : 4 * (k : Int) + 3 < 64 := by omega
      have n0 : (4 * (k : Int)).toNat = 4 * k := by omega
      have n1 : (4 * (k : Int) + 1).toNat = 4 * k + 1 := by omega
      have n2 : (4 * (k : Int) + 2).toNat = 4 * k + 2 := by omega
      have n3 : (4 * (k : Int) + 3).toNat = 4 * k + 3 := by omega
      refine wp_region_quiet_tail 36 (by kernel_rfl) (by kernel_rfl) ?_
      simp only [List.take_succ_cons, List.take_zero, List.drop_succ_cons, List.drop_zero]
      repeat (go_big_quiet_step (fail))
      refine wpQuiet_nil ?_
      intro _ hw'
      obtain ⟨nq, hw''⟩ := hw'
      subst hw''
      clear m0 m1 m2 m3 n0 n1 n2 n3
      go_wp2
      go_roundw
      case measure => simp [intOf]; omega
      case rel =>
        refine ⟨k + 1, by omega, by go_num, ((rowIs_drewN HST.out.sched nq).set k _).congr (fun i hi => ?_), (below_drewN HST.out.low nq).setCell (Nat.le_refl _) _⟩
        by_cases e : i = k
        · subst e
          rw [if_pos rfl, if_pos (by omega), sch_lo b i hlt]
          rfl
        · rw [if_neg e]
          by_cases e2 : i < k
          · rw [if_pos e2, if_pos (by omega)]
          · rw [if_neg e2, if_neg (by omega)]
      -- done>
    · obtain rfl : k = 16 := by omega
      have HST0 := Lib.hid hst; clear hst
      go_wp2
      go_loopw [7] (fun i wr => ∃ k : Nat, k ≤ 64 ∧ 16 ≤ k ∧ i = .int .i64 k ∧ BlkSt w wr b k) (fun i _ => 64 - (intOf i).toNat)
      case atStart => exact ⟨16, by omega, by omega, rfl, HST0.out⟩
      case round =>
        clear HST0
        obtain ⟨k, hk, h16, rfl, hst⟩ := hrel
        by_cases hlt : k < 64
        · -- done<
          have f0 := hst.sched.frozen k
          have f1 := hst.sched.cell (i := k) (by omega)
          have c15 := hst.sched.cell (i := k - 15) (by omega)
          have c2 := hst.sched.cell (i := k - 2) (by omega)
          have c16 := hst.sched.cell (i := k - 16) (by omega)
          have c7 := hst.sched.cell (i := k - 7) (by omega)
          rw [if_pos (by omega)] at c15 c2 c16 c7
          have HST := Lib.hid hst; clear hst
          have m15 : IntKind.i64.wrap ((k : Int) - 15) = (k : Int) - 15 := IntWalk.i64_in _ (by omega)
          have m2 : IntKind.i64.wrap ((k : Int) - 2) = (k : Int) - 2 := IntWalk.i64_in _ (by omega)
          have m16 : IntKind.i64.wrap ((k : Int) - 16) = (k : Int) - 16 := IntWalk.i64_in _ (by omega)
          have m7 : IntKind.i64.wrap ((k : Int) - 7) = (k : Int) - 7 := IntWalk.i64_in _ (by omega)
          have n15 : ((k : Int) - 15).toNat = k - 15 := by omega
          have n2 : ((k : Int) - 2).toNat = k - 2 := by omega
          have n16 : ((k : Int) - 16).toNat = k - 16 := by omega
          have n7 : ((k : Int) - 7).toNat = k - 7 := by omega
          have q15 : 0 ≤ (k : Int) - 15 := by omega
          have q2 : 0 ≤ (k : Int) - 2 := by omega
          have q16 : 0 ≤ (k : Int) - 16 := by omega
          have q7 : 0 ≤ (k : Int) - 7 := by omega
          have r15 : (k : Int) - 15 < 64 := by omega
          have r2 : (k : Int) - 2 < 64 := by omega
          have r16 : (k : Int) - 16 < 64 := by omega
          have r7 : (k : Int) - 7 < 64 := by omega
          go_wp2
          go_quiet (fail)
          have c16' : (wr.drewN nq).cell? _ = _ := c16
          have c7' : (wr.drewN nq).cell? _ = _ := c7
          have f0' : (wr.drewN nq).frozen? _ = _ := f0
          have f1' : (wr.drewN nq).cell? _ = _ := f1
          have HST' : Hid (BlkSt w (wr.drewN nq) b k) := Lib.hid ⟨rowIs_drewN HST.out.sched nq, below_drewN HST.out.low nq⟩
          clear c15 c2 c16 c7 f0 f1 HST
          generalize wr.drewN nq = w2 at *
          go_wp2
          refine wp_region_quiet_tail 32 (by kernel_rfl) (by kernel_rfl) ?_
          simp only [List.take_succ_cons, List.take_zero, List.drop_succ_cons, List.drop_zero]
          repeat (go_big_quiet_step (((go_at_call 46; exact Calls.quiet_of_same (right_any _ _ _ (by decide) (by decide))))))
          refine wpQuiet_nil ?_
          intro _ hw'
          obtain ⟨nq, hw''⟩ := hw'
          subst hw''
          clear m15 m2 m16 m7 n15 n2 n16 n7
          go_wp2
          go_roundw
          case measure => simp [intOf]; omega
          case rel =>
            refine ⟨k + 1, by omega, by omega, by go_num, ((rowIs_drewN HST'.out.sched nq).set k _).congr (fun i hi => ?_), (below_drewN HST'.out.low nq).setCell (Nat.le_refl _) _⟩
            by_cases e : i = k
            · subst e
              rw [if_pos rfl, if_pos (by omega), sch_hi b i (by omega)]
              unfold u32w
              congr 2
              show sg1 (sch b (i - 2)) + sch b (i - 7) + sg0 (sch b (i - 15)) + sch b (i - 16) = _
              omega
            · rw [if_neg e]
              by_cases e2 : i < k
              · rw [if_pos e2, if_pos (by omega)]
              · rw [if_neg e2, if_neg (by omega)]
          -- done>
        · obtain rfl : k = 64 := by omega
          obtain ⟨wo, rfl⟩ : ∃ wo : World, wo = wr := ⟨_, rfl⟩
          have HST0 := Lib.hid hst
          have h0s := hst.low.size
          have hrl := hst.sched.lt
          have HH3 : Hid (RdI wo .u32 (.slice (some ⟨bh, oh, none⟩) [s.a, s.b, s.c, s.d, s.e, s.f, s.g, s.h].length ch) [s.a, s.b, s.c, s.d, s.e, s.f, s.g, s.h] Fh) := Lib.hid (HH.out.touch (.of_below (S := fun _ => False) hst.low) (fun _ _ h => h))
          clear hst
          go_wp2_with (first | (go_at_call 47; refine (cubes_any _).mono ?_; rintro e w' ⟨rfl, rfl⟩) | (at_builtin; refine app_row w.heap.size rfl (.tmp 107) (.tmp 108) 75 74 .u32 4 rfl Tryd.underlying75 (by kernel_rfl) (by decide) _ _ [] [s.a, s.b, s.c, s.d, s.e, s.f, s.g, s.h] Fh rfl rfl (own_empty_at _ _ _ _ _ ?c0 ?c1) ?c2 ?c3 ?c4 ?_))
          case c0 => simp
          case c1 => simp; omega
          case c2 => exact HH3.out.touch (((Touch.refl (fun _ => False) wo).alloc _).alloc _) (fun _ _ h => h)
          case c3 => simp; omega
          case c4 => simp
          intro A4 n4 c4 w4 ho4 T4 hat4 hn4 _
          obtain ⟨vb, vc, he, hvB, hvl, hvc, hvm, hcell⟩ := ho4.pos (by simp)
          injection he with e1 e2 e3
          subst e1; subst e3
          clear hn4
          obtain rfl : n4 = 8 := e2
          have hvc' : 8 ≤ c4 := hvc
          clear hvc
          have hvc : 8 ≤ c4 := hvc'
          clear hvc'
          have hcell' : ∀ j, j < 8 → w4.cell? ⟨vb, j, none⟩ = some (.int .u32 ([s.a, s.b, s.c, s.d, s.e, s.f, s.g, s.h].getD j 0)) := hcell
          have T34 : Touch (fun b => wo.heap.size + 1 ≤ b) wo w4 := (((Touch.refl _ wo).alloc _).alloc _).trans T4 (fun i hi => .inl (own_ge hi (by simp)))
          have hK4 : w4.heap[wo.heap.size]? = some (.cells kV 74 (0, 0)) := by
            rw [T4.block wo.heap.size (by simp; omega) (fun h => by have := ownBlock_eq h; simp at this)]
            exact heap_alloc2_old _ _ _
          have hst4 : BlkSt w w4 b 64 := ⟨T34.row HST0.out.sched (by omega), HST0.out.low.trans (T34.below h0s (fun k hk => by omega))⟩
          have HST4 := Lib.hid hst4; have HCL := Lib.hid hcell'
          have HK4 := Lib.hid hK4
          clear hK4 hst4 hcell hcell' T4 T34 hat4 ho4 HST0 HH3
          go_wp2
          go_loopw [12, 11] (fun i v wr => ∃ (k vb vc : Nat), k ≤ 64 ∧ i = .int .i64 k ∧ v = .slice (some ⟨vb, 0, none⟩) 8 vc ∧ 8 ≤ vc ∧ w.heap.size ≤ vb ∧ (∀ j, j < 8 → wr.cell? ⟨vb, j, none⟩ = some (.int .u32 ((rnds s (sch b) k).get j))) ∧ BlkSt w wr b 64 ∧ wr.heap[wo.heap.size]? = some (.cells kV 74 (0, 0))) (fun i _ _ => 64 - (intOf i).toNat)
          case atStart =>
            refine ⟨0, vb, _, by omega, rfl, rfl, hvc, hvB, fun j hj => ?_, HST4.out, HK4.out⟩
            have := HCL.out j (by omega)
            rw [this]
            match j, hj with | 0, _ | 1, _ | 2, _ | 3, _ | 4, _ | 5, _ | 6, _ | 7, _ => rfl
          case round =>
            clear hvc hvB hvl hvm HCL HST4 HK4
            obtain ⟨k, vb, vc, hk, rfl, rfl, hvc, hvB, hv, hst, hkk⟩ := hrel
            generalize hr : rnds s (sch b) k = r at hv
            have HR := Lib.hid hr; clear hr
            have HV := Lib.hid hv; clear hv
            have v0 : wr.cell? ⟨vb, 0, none⟩ = some (.int .u32 r.a) := HV.out 0 (by omega)
            have v1 : wr.cell? ⟨vb, 1, none⟩ = some (.int .u32 r.b) := HV.out 1 (by omega)
            have v2 : wr.cell? ⟨vb, 2, none⟩ = some (.int .u32 r.c) := HV.out 2 (by omega)
            have v3 : wr.cell? ⟨vb, 3, none⟩ = some (.int .u32 r.d) := HV.out 3 (by omega)
            have v4 : wr.cell? ⟨vb, 4, none⟩ = some (.int .u32 r.e) := HV.out 4 (by omega)
            have v5 : wr.cell? ⟨vb, 5, none⟩ = some (.int .u32 r.f) := HV.out 5 (by omega)
            have v6 : wr.cell? ⟨vb, 6, none⟩ = some (.int .u32 r.g) := HV.out 6 (by omega)
            have v7 : wr.cell? ⟨vb, 7, none⟩ = some (.int .u32 r.h) := HV.out 7 (by omega)
            have HST := Lib.hid hst; clear hst
            have HKK := Lib.hid hkk; clear hkk
            by_cases hlt : k < 64
            · have wk := HST.out.sched.cell hlt
              rw [if_pos hlt] at wk
              have kk : wr.cell? ⟨wo.heap.size, k, none⟩ = some (.int .u32 (kAt k)) := by rw [cell_of_row _ _ _ _ _ _ HKK.out]; exact kV_at k hlt
              go_wp2
              go_quiet (fail)
              go_wp2
              go_quiet (((go_at_call 46; first | exact quiet_of_same3 (right_any _ _ _ (by decide) (by decide)) | exact quiet_of_same2 (right_any _ _ _ (by decide) (by decide)) | exact Calls.quiet_of_same (right_any _ _ _ (by decide) (by decide)))))
              go_wp2
              go_quiet (((go_at_call 46; first | exact quiet_of_same3 (right_any _ _ _ (by decide) (by decide)) | exact quiet_of_same2 (right_any _ _ _ (by decide) (by decide)) | exact Calls.quiet_of_same (right_any _ _ _ (by decide) (by decide)))))
              go_wp2
              refine wp_region_quiet_tail 26 (by kernel_rfl) (by kernel_rfl) ?_
              simp only [List.take_succ_cons, List.take_zero, List.drop_succ_cons, List.drop_zero]
              repeat (go_big_quiet_step (fail))
              refine wpQuiet_nil ?_
              intro _ hw'
              obtain ⟨nq, hw''⟩ := hw'
              subst hw''
              go_wp2
              go_roundw
              case measure => simp [intOf]; omega
              case rel =>
                have hst' : stepW (kAt k) (sch b k) r = rnds s (sch b) (k + 1) := by rw [rnds, HR.out]
                have hlo := HST.out.low.size
                have hko := (row_of_heap HKK.out undef).lt
                refine ⟨k + 1, wr.heap.size, 8, by omega, by go_num, rfl, by omega, hlo, fun j hj => ?_, ⟨(((Touch.refl (fun _ => False) wr).drewN _).alloc _).row HST.out.sched id, HST.out.low.trans ((((Touch.refl (fun _ => False) wr).drewN _).alloc _).below hlo (fun _ h => h.elim))⟩, ((((Touch.refl (fun _ => False) wr).drewN _).alloc _).block _ hko id).trans HKK.out⟩
                rw [← hst']
                refine (cell_new _ _ _ _ _ rfl).trans ?_
                match j, hj with
                | 0, _ => exact congrArg (fun z => some (Value.int .u32 z)) (stepW_a _ _ _)
                | 4, _ => exact congrArg (fun z => some (Value.int .u32 z)) (stepW_e _ _ _)
                | 1, _ | 2, _ | 3, _ | 5, _ | 6, _ | 7, _ => rfl
            · obtain rfl : k = 64 := by omega
              have hvl := World.block_lt_of_cell? wr _ v0
              have hlo := HST.out.low.size
              clear v0 v1 v2 v3 v4 v5 v6 v7
              obtain ⟨wp, rfl⟩ : ∃ wp : World, wp = wr := ⟨_, rfl⟩
              go_wp2
              go_loopw [18, 17] (fun i o wq => ∃ (k : Nat) (A : Option Addr) (n c : Nat), k ≤ 8 ∧ i = .int .i64 k ∧ o = .slice A n c ∧ OwnI wq w.heap.size 74 .u32 (.slice A n c) ((List.range k).map fun i => u32w (s.get i + r.get i)) ∧ Touch (fun b => wp.heap.size ≤ b) wp wq ∧ Eager (∀ b, (Value.slice A n c).ownBlock = some b → wp.heap.size ≤ b)) (fun i _ _ => 8 - (intOf i).toNat)
              case atStart => exact ⟨0, _, _, _, by omega, rfl, rfl, own_empty _ _ _ _ hlo, (Touch.refl _ wp).alloc _, ⟨fun b hb => own_ge hb (Nat.le_refl _)⟩⟩
              case round =>
                obtain ⟨k, A, n, c, hk, rfl, rfl, hown, htch, hge⟩ := hrel
                by_cases hlt : k < 8
                · have gh : wr.cell? ⟨bh, oh + k, none⟩ = some (.int .u32 (s.get k)) := (htch.cell (by have := hhl.out; show bh < _; omega) (by show ¬ _ ≤ bh; have := hhl.out; omega)).trans ((HST.out.low.cell hhl.out).trans ((HHC.out k hlt).trans (by match k, hlt with | 0, _ | 1, _ | 2, _ | 3, _ | 4, _ | 5, _ | 6, _ | 7, _ => rfl)))
                  have gv : wr.cell? ⟨vb, k, none⟩ = some (.int .u32 (r.get k)) := (htch.cell hvl (by show ¬ _ ≤ vb; omega)).trans (HV.out k hlt)
                  have hsz := htch.size
                  go_wp2
                  go_region_law ((refine step_app_one_d w.heap.size (by rfl) _ _ _ 74 .u32 4 (by rfl) Tryd.underlying75 (by kernel_rfl) (by decide) _ _ _ (by rfl) (by rfl) ⟨hown.out⟩ (by omega) (by simp; omega) ?_; intro A8 n8 c8 w8 ho8 T8 hat8))
                  all_goals
                    have eL : (List.range (k + 1)).map (fun i => u32w (s.get i + r.get i)) = (List.range k).map (fun i => u32w (s.get i + r.get i)) ++ [u32w (s.get k + r.get k)] := by simp [List.range_succ]
                    have T9 : Hid (Touch (fun b => wp.heap.size ≤ b) wp w8) := Lib.hid (htch.trans T8 (fun i hi => .inl (hge.out i hi)))
                    have HO9 : Hid (OwnI w8 w.heap.size 74 .u32 (.slice A8 n8 c8) ((List.range (k + 1)).map fun i => u32w (s.get i + r.get i))) := Lib.hid (by rw [eL]; exact ho8)
                    have HG9 : Hid (∀ b, (Value.slice A8 n8 c8).ownBlock = some b → wp.heap.size ≤ b) := Lib.hid (fun b hb => (hat8.out b hb).elim (hge.out b) (fun h => by omega))
                    clear htch T8 ho8 hat8 hown hge eL gh gv
                    go_wp2
                    go_roundw
                    case measure => simp [intOf]; omega
                    case rel => exact ⟨k + 1, A8, n8, c8, by omega, by go_num, rfl, HO9.out, T9.out, ⟨HG9.out⟩⟩
                · obtain rfl : k = 8 := by omega
                  obtain ⟨g9, c9, he, hgB, hgl, _, _, _⟩ := hown.pos (by simp)
                  have hrd := hown.rd
                  injection he with e1 e2 e3
                  subst e1; subst e3
                  obtain rfl : n = 8 := e2
                  have hlow : Below w.heap.size w wr := HST.out.low.trans (htch.below hlo (fun k hk => by omega))
                  clear htch hown hge
                  go_wp2
                  go_ret
                  have ec : comp s b = ⟨u32w (s.a + r.a), u32w (s.b + r.b), u32w (s.c + r.c), u32w (s.d + r.d), u32w (s.e + r.e), u32w (s.f + r.f), u32w (s.g + r.g), u32w (s.h + r.h)⟩ := by unfold comp; rw [HR.out]
                  refine ⟨g9, _, rfl, hgB, ?_, hlow⟩
                  rw [ec]
                  exact hrd.mono (fun b hb _ => (ownBlock_eq hb).symm)
end Go.Proofs.YteggcfcjajpcgaaDoor
