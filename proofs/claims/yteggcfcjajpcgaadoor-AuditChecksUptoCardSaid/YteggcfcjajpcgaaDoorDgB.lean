import Derived.Test.YteggcfcjajpcgaaDoorDgA
set_option linter.unusedVariables false
namespace Go.Proofs.YteggcfcjajpcgaaDoor
open Go.RowKit
set_option maxRecDepth 100000 in
set_option maxHeartbeats 2000000 in
theorem turn_any (g bb off n cap : Nat) (s b : Nat → Int) (tg : TypeId) (nc : Nat) (fs : Nat → Value) (w : World)
    (hg : w.rowIs g tg nc fs) (hnc : 8 ≤ nc) (hs : ∀ j, j < 8 → fs j = .int .u32 (s j))
    (hb : ∀ j, j < 64 → w.cell? ⟨bb, off + j, none⟩ = some (.int .u8 (b j))) (hbl : bb < w.heap.size)
    (hbb : bb ≠ g) (hk0 : w.heap[0]? = some (.cells kV 90 (0, 0))) (hk0l : 0 < w.heap.size) :
    Calls Tryd.prog 45 #[.pointer (some ⟨g, 0, none⟩), .slice (some ⟨bb, off, none⟩) 64 cap] w fun e w' => e = .returned (.tuple #[]) ∧ w'.rowIs g tg nc (fun j => if j < 8 then .int .u32 ((comp ⟨s 0, s 1, s 2, s 3, s 4, s 5, s 6, s 7⟩ b).get j) else fs j) ∧ Touch (fun b => b = g) w w' := by
  have HB := Lib.hid hb; clear hb
  have HS := Lib.hid hs; clear hs
  have HG := Lib.hid hg; clear hg
  have HK := Lib.hid hk0; clear hk0
  go_enter Tryd.func45, Tryd.ntmps45
  go_wp2
  go_loopw [22] (fun i wr => ∃ k : Nat, k ≤ 64 ∧ i = .int .i64 k ∧ wr.rowIs w.heap.size 90 64 (fun j => .int .u32 (if j < k then sch b j else 0)) ∧ Below w.heap.size w wr) (fun i _ => 64 - (intOf i).toNat)
  case atStart =>
    exact ⟨0, by omega, rfl, (rowIs_rep w 64 _ (.int .u32 0) _ (by rfl)).congr (fun i hi => by simp), (Below.refl _ _).alloc (Nat.le_refl _) _⟩
  case round =>
    obtain ⟨k, hk, rfl, hrow, hbel⟩ := hrel
    have HR := Lib.hid hrow; clear hrow
    have HBel := Lib.hid hbel; clear hbel
    by_cases hlt : k < 64
    · have f0 := HR.out.frozen k
      have f1 := HR.out.cell hlt
      by_cases h16 : k < 16
      · -- done<
        have c0 := (HBel.out.cell (p := ⟨bb, off + 4 * k, none⟩) hbl).trans (HB.out (4 * k) (by omega))
        have c1 := (HBel.out.cell (p := ⟨bb, off + (4 * k + 1), none⟩) hbl).trans (HB.out (4 * k + 1) (by omega))
        have c2 := (HBel.out.cell (p := ⟨bb, off + (4 * k + 2), none⟩) hbl).trans (HB.out (4 * k + 2) (by omega))
        have c3 := (HBel.out.cell (p := ⟨bb, off + (4 * k + 3), none⟩) hbl).trans (HB.out (4 * k + 3) (by omega))
        go_wp2
        have m0 : IntKind.i64.wrap (4 * (k : Int)) = 4 * (k : Int) := IntWalk.i64_in _ (by omega)
        have m1 : IntKind.i64.wrap (4 * (k : Int) + 1) = 4 * (k : Int) + 1 := IntWalk.i64_in _ (by omega)
        have m2 : IntKind.i64.wrap (4 * (k : Int) + 2) = 4 * (k : Int) + 2 := IntWalk.i64_in _ (by omega)
        have m3 : IntKind.i64.wrap (4 * (k : Int) + 3) = 4 * (k : Int) + 3 := IntWalk.i64_in _ (by omega)
        have q0 : 0 ≤ 4 * (k : Int) := by omega
        have q1 : 0 ≤ 4 * (k : Int) + 1 := by omega
        have q2 : 0 ≤ 4 * (k : Int) + 2 := by omega
        have q3 : 0 ≤ 4 * (k : Int) + 3 := by omega
        have r0 : 4 * (k : Int) < 64 := by omega
        have r1 : 4 * (k : Int) + 1 < 64 := by omega
        have r2 : 4 * (k : Int) + 2 < 64 := by omega
        have r3 : 4 * (k : Int) + 3 < 64 := by omega
        have n0 : (4 * (k : Int)).toNat = 4 * k := by omega
        have n1 : (4 * (k : Int) + 1).toNat = 4 * k + 1 := by omega
        have n2 : (4 * (k : Int) + 2).toNat = 4 * k + 2 := by omega
        have n3 : (4 * (k : Int) + 3).toNat = 4 * k + 3 := by omega
        refine wp_region_quiet_tail 35 (by kernel_rfl) (by kernel_rfl) ?_
        simp only [List.take_succ_cons, List.take_zero, List.drop_succ_cons, List.drop_zero]
        repeat (go_big_quiet_step (fail))
        refine wpQuiet_nil ?_
        intro _ hw'
        obtain ⟨nq, hw''⟩ := hw'
        subst hw''
        clear m0 m1 m2 m3 n0 n1 n2 n3
        go_wp2
        go_roundw
        case measure => simp [intOf]; omega
        case rel =>
          refine ⟨k + 1, by omega, by go_num, ?_, ?_⟩
          · refine ((rowIs_drewN HR.out nq).set k _).congr (fun i hi => ?_)
            by_cases e : i = k
            · subst e
              rw [if_pos rfl, if_pos (by omega), sch_lo b i h16]
              rfl
            · rw [if_neg e]
              by_cases e2 : i < k
              · rw [if_pos e2, if_pos (by omega)]
              · rw [if_neg e2, if_neg (by omega)]
          · exact (below_drewN HBel.out nq).setCell (Nat.le_refl _) _
        -- done>
      · -- done<
        have c15 := HR.out.cell (i := k - 15) (by omega)
        have c2 := HR.out.cell (i := k - 2) (by omega)
        have c16 := HR.out.cell (i := k - 16) (by omega)
        have c7 := HR.out.cell (i := k - 7) (by omega)
        rw [if_pos (by omega)] at c15 c2 c16 c7
        have m15 : IntKind.i64.wrap ((k : Int) - 15) = (k : Int) - 15 := IntWalk.i64_in _ (by omega)
        have m2 : IntKind.i64.wrap ((k : Int) - 2) = (k : Int) - 2 := IntWalk.i64_in _ (by omega)
        have m16 : IntKind.i64.wrap ((k : Int) - 16) = (k : Int) - 16 := IntWalk.i64_in _ (by omega)
        have m7 : IntKind.i64.wrap ((k : Int) - 7) = (k : Int) - 7 := IntWalk.i64_in _ (by omega)
        have n15 : ((k : Int) - 15).toNat = k - 15 := by omega
        have n2 : ((k : Int) - 2).toNat = k - 2 := by omega
        have n16 : ((k : Int) - 16).toNat = k - 16 := by omega
        have n7 : ((k : Int) - 7).toNat = k - 7 := by omega
        have q15 : 0 ≤ (k : Int) - 15 := by omega
        have q2 : 0 ≤ (k : Int) - 2 := by omega
        have q16 : 0 ≤ (k : Int) - 16 := by omega
        have q7 : 0 ≤ (k : Int) - 7 := by omega
        have r15 : (k : Int) - 15 < 64 := by omega
        have r2 : (k : Int) - 2 < 64 := by omega
        have r16 : (k : Int) - 16 < 64 := by omega
        have r7 : (k : Int) - 7 < 64 := by omega
        go_wp2
        go_quiet (fail)
        have HR2 : Hid ((wr.drewN nq).rowIs _ _ _ _) := Lib.hid (rowIs_drewN HR.out nq)
        have HB2 : Hid (Below w.heap.size w (wr.drewN nq)) := Lib.hid (below_drewN HBel.out nq)
        clear c15 c2 c16 c7 f0 f1 HR HBel
        generalize wr.drewN nq = w2 at *
        have c16 := HR2.out.cell (i := k - 16) (by omega)
        have c7 := HR2.out.cell (i := k - 7) (by omega)
        rw [if_pos (by omega)] at c16 c7
        have f0 := HR2.out.frozen k
        have f1 := HR2.out.cell hlt
        go_wp2
        refine wp_region_quiet_tail 28 (by kernel_rfl) (by kernel_rfl) ?_
        simp only [List.take_succ_cons, List.take_zero, List.drop_succ_cons, List.drop_zero]
        repeat (go_big_quiet_step (((go_at_call 52; exact Calls.quiet_of (ror_any _ _ _ (by decide) (by decide))))))
        refine wpQuiet_nil ?_
        intro _ hw'
        obtain ⟨nq, hw''⟩ := hw'
        subst hw''
        clear m15 m2 m16 m7 n15 n2 n16 n7
        go_wp2
        go_roundw
        case measure => simp [intOf]; omega
        case rel =>
          refine ⟨k + 1, by omega, by go_num, ?_, ?_⟩
          · refine ((rowIs_drewN HR2.out nq).set k _).congr (fun i hi => ?_)
            by_cases e : i = k
            · subst e
              rw [if_pos rfl, if_pos (by omega), sch_hi b i h16]
              rfl
            · rw [if_neg e]
              by_cases e2 : i < k
              · rw [if_pos e2, if_pos (by omega)]
              · rw [if_neg e2, if_neg (by omega)]
          · exact (below_drewN HB2.out nq).setCell (Nat.le_refl _) _
        -- done>
    · have hk64 : k = 64 := by omega
      subst hk64
      have hW : Hid (wr.rowIs w.heap.size 90 64 (fun j => .int .u32 (sch b j))) := Lib.hid (HR.out.congr fun j hj => by rw [if_pos hj])
      clear HR
      have hgl := HG.out.lt
      have hgw : wr.rowIs g tg nc fs := HG.out.of_block (HBel.out.block g hgl)
      have e0 := (hgw.cell (i := 0) (by omega)).trans (congrArg some (HS.out 0 (by omega)))
      have e1 := (hgw.cell (i := 1) (by omega)).trans (congrArg some (HS.out 1 (by omega)))
      have e2 := (hgw.cell (i := 2) (by omega)).trans (congrArg some (HS.out 2 (by omega)))
      have e3 := (hgw.cell (i := 3) (by omega)).trans (congrArg some (HS.out 3 (by omega)))
      have e4 := (hgw.cell (i := 4) (by omega)).trans (congrArg some (HS.out 4 (by omega)))
      have e5 := (hgw.cell (i := 5) (by omega)).trans (congrArg some (HS.out 5 (by omega)))
      have e6 := (hgw.cell (i := 6) (by omega)).trans (congrArg some (HS.out 6 (by omega)))
      have e7 := (hgw.cell (i := 7) (by omega)).trans (congrArg some (HS.out 7 (by omega)))
      have HGw := Lib.hid hgw; clear hgw
      go_wp2
      go_quiet (fail)
      have HG2 : Hid ((wr.drewN nq).rowIs g tg nc fs) := Lib.hid (rowIs_drewN HGw.out nq)
      have HW2 : Hid ((wr.drewN nq).rowIs _ _ _ _) := Lib.hid (rowIs_drewN hW.out nq)
      have HB2 : Hid (Below w.heap.size w (wr.drewN nq)) := Lib.hid (below_drewN HBel.out nq)
      have HK2 : Hid ((wr.drewN nq).heap[0]? = some (.cells kV 90 (0, 0))) := Lib.hid ((HBel.out.block _ hk0l).trans HK.out)
      clear e0 e1 e2 e3 e4 e5 e6 e7 hW HGw HBel
      generalize wr.drewN nq = w2 at *
      go_wp2_with (refine wpList_load_row rfl 90 _ rfl 0 rfl 90 kV (0, 0) _ HK2.out Tryd.underlying90 rfl (by kernel_rfl) ?_)
      go_loopw [8, 9, 10, 11, 12, 13, 14, 15, 133] (fun xa xb xc xd xe xf xg xh i wr => ∃ k : Nat, k ≤ 64 ∧ i = .int .i64 k ∧ xa = .int .u32 (rnds ⟨s 0, s 1, s 2, s 3, s 4, s 5, s 6, s 7⟩ (sch b) k).a ∧ xb = .int .u32 (rnds ⟨s 0, s 1, s 2, s 3, s 4, s 5, s 6, s 7⟩ (sch b) k).b ∧ xc = .int .u32 (rnds ⟨s 0, s 1, s 2, s 3, s 4, s 5, s 6, s 7⟩ (sch b) k).c ∧ xd = .int .u32 (rnds ⟨s 0, s 1, s 2, s 3, s 4, s 5, s 6, s 7⟩ (sch b) k).d ∧ xe = .int .u32 (rnds ⟨s 0, s 1, s 2, s 3, s 4, s 5, s 6, s 7⟩ (sch b) k).e ∧ xf = .int .u32 (rnds ⟨s 0, s 1, s 2, s 3, s 4, s 5, s 6, s 7⟩ (sch b) k).f ∧ xg = .int .u32 (rnds ⟨s 0, s 1, s 2, s 3, s 4, s 5, s 6, s 7⟩ (sch b) k).g ∧ xh = .int .u32 (rnds ⟨s 0, s 1, s 2, s 3, s 4, s 5, s 6, s 7⟩ (sch b) k).h ∧ Drawn w2 wr) (fun _ _ _ _ _ _ _ _ i _ => 64 - (intOf i).toNat)
      case atStart => exact ⟨0, by omega, rfl, rfl, rfl, rfl, rfl, rfl, rfl, rfl, rfl, Drawn.refl _⟩
      case round =>
        obtain ⟨k, hk, rfl, rfl, rfl, rfl, rfl, rfl, rfl, rfl, rfl, hwr⟩ := hrel
        generalize hv : rnds ⟨s 0, s 1, s 2, s 3, s 4, s 5, s 6, s 7⟩ (sch b) k = v
        have HV := Lib.hid hv; clear hv
        by_cases hlt : k < 64
        · -- done<
          have cw : wr.cell? ⟨w.heap.size, k, none⟩ = some (.int .u32 (sch b k)) := (hwr.cell _).trans (HW2.out.cell hlt)
          have ck := kV_at k hlt
          have hix := run_index_arr (P := Tryd.prog) 90 74 64 kV k _ Tryd.underlying90 (by kernel_rfl) (by kernel_rfl) hlt ck
          clear ck
          go_wp2
          go_quiet (((go_at_call 52; exact Calls.quiet_of (ror_any _ _ _ (by decide) (by decide)))))
          go_wp2_with (go_at_call 52; refine (ror_any _ _ _ (by decide) (by decide)).mono ?_; rintro e w' ⟨rfl, kk, rfl⟩)
          go_roundw
          case measure => simp [intOf]; omega
          case rel =>
            have hst : stepW (kAt k) (sch b k) v = rnds ⟨s 0, s 1, s 2, s 3, s 4, s 5, s 6, s 7⟩ (sch b) (k + 1) := by rw [rnds, HV.out]
            refine ⟨k + 1, by omega, by go_num, ?_, ?_, ?_, ?_, ?_, ?_, ?_, ?_, ?_⟩
            all_goals (try rw [← hst])
            all_goals (first | rfl | exact (hwr.drewN _) | skip)
          -- done>
        · have hk64 : k = 64 := by omega
          subst hk64
          have HG3 : Hid (wr.rowIs g tg nc fs) := Lib.hid (HG2.out.of_block (by rw [hwr.heap]))
          have HB3 : Hid (Below w.heap.size w wr) := Lib.hid (HB2.out.trans (hwr.below _))
          clear hwr HG2 HB2 HW2 HK2
          go_wp2
          go_loopw [204] (fun i wq => ∃ k : Nat, k ≤ 8 ∧ i = .int .i64 k ∧ wq.rowIs g tg nc (fun j => if j < k then .int .u32 (u32w (s j + v.get j)) else fs j) ∧ Touch (fun b => b = g) w wq) (fun i _ => 8 - (intOf i).toNat)
          case atStart => exact ⟨0, by omega, rfl, HG3.out.congr (fun i hi => by simp), .of_below HB3.out⟩
          case round =>
            obtain ⟨k, hk, rfl, hrow, htch⟩ := hrel
            have HR := Lib.hid hrow; clear hrow
            by_cases hlt : k < 8
            · have hix : ∀ w : World, (Instr.index 78 (.agg #[.int .u32 v.a, .int .u32 v.b, .int .u32 v.c, .int .u32 v.d, .int .u32 v.e, .int .u32 v.f, .int .u32 v.g, .int .u32 v.h]) (.int .i64 (k : Int))).run Tryd.prog w = .ok (.int .u32 (v.get k)) w :=
                run_index_arr (P := Tryd.prog) 78 74 8 _ k _ Tryd.underlying78 (by kernel_rfl) (by kernel_rfl) hlt (by match k, hlt with | 0, _ | 1, _ | 2, _ | 3, _ | 4, _ | 5, _ | 6, _ | 7, _ => rfl)
              have f0 := HR.out.frozen k
              have f1 := HR.out.cell (i := k) (by omega)
              rw [if_neg (by omega), HS.out k hlt] at f1
              go_wp2
              refine wp_region_quiet_tail 9 (by kernel_rfl) (by kernel_rfl) ?_
              simp only [List.take_succ_cons, List.take_zero, List.drop_succ_cons, List.drop_zero]
              repeat (go_big_quiet_step (fail))
              refine wpQuiet_nil ?_
              intro _ hw'
              obtain ⟨nq, hw''⟩ := hw'
              subst hw''
              go_wp2
              go_roundw
              case measure => simp [intOf]; omega
              case rel =>
                refine ⟨k + 1, by omega, by go_num, ((rowIs_drewN HR.out nq).set k _).congr (fun i hi => ?_), (htch.drewN nq).setCell (.inl rfl) _⟩
                by_cases e : i = k
                · subst e
                  rw [if_pos rfl, if_pos (by omega)]
                  rfl
                · rw [if_neg e]
                  by_cases e2 : i < k
                  · rw [if_pos e2, if_pos (by omega)]
                  · rw [if_neg e2, if_neg (by omega)]
            · have hk8 : k = 8 := by omega
              subst hk8
              go_wp2
              go_end0
              refine ⟨rfl, HR.out.congr (fun i hi => ?_), htch⟩
              by_cases e : i < 8
              · rw [if_pos e, if_pos e, ← HV.out]
                match i, e with | 0, _ | 1, _ | 2, _ | 3, _ | 4, _ | 5, _ | 6, _ | 7, _ => rfl
              · rw [if_neg e, if_neg e]
end Go.Proofs.YteggcfcjajpcgaaDoor
