/- Walk: SchedRuns. -/
import Derived.Test.YtiplmelpagiklaaD1
import Derived.Test.YtiplmelpagiklaaW1
set_option linter.unusedVariables false
set_option linter.unusedSimpArgs false
namespace Go.Proofs.Ytiplmelpagiklaa
open Go.RowKit
set_option maxHeartbeats 8000000
theorem sl_reps {H H' : Hp} : ∀ {xs : List Sl} {cs : List Value}, kSl.reps H xs cs → kSl.reps H' xs cs
  | [], _, h => h
  | x :: xs, _, ⟨c, r, e, hc, hr⟩ => by
    have := kSl_cells hc
    subst this
    exact ⟨_, r, e, kSl_mk, sl_reps hr⟩
theorem run_form (xs : List Sl) (n : Int) : ∃ x fq bq, runR xs n = (x, tkd xs n) ∧ frameR xs n = (fq, tkd xs n) ∧ boundR xs n = (bq, tkd xs n) := by
  unfold runR frameR boundR
  by_cases h : tkd xs n = 0
  · rw [if_pos h, if_pos h]
    exact ⟨_, _, _, by rw [h], by rw [h], rfl⟩
  · rw [if_neg h, if_neg h]
    exact ⟨_, _, _, rfl, rfl, rfl⟩
section
variable {σ : World} {Hs : List Hp} {H M N : Hp}
theorem copied_any (v : Value) (xs : List Sl) (w : World) (hw : Sat σ w Hs) (hH : H ∈ Hs) (hs : kSl.IsSl H v xs) (hn : xs.length * 16 ≤ 140737488355328) :
    Calls Try.prog 17 #[v] w fun e w' => ∃ v' N, e = .returned v' ∧ Sat σ w' (N :: Hs) ∧ kSl.IsSl N v' xs := by
  obtain ⟨cells, hcs, hsrc⟩ := hs.src (P := Try.prog) (t := 22) Try.underlying22
  obtain ⟨A, c, rfl, hc1, hc2, hrow⟩ := hs.form
  have HSRC := Lib.hid hsrc; have HCS := Lib.hid hcs
  clear hsrc hcs hrow hs
  go_enter Try.func17, Try.ntmps17
  go_wp2_with (at_builtin; refine wpList_app (hw.alloc _) rfl (.tmp 3) (.tmp 4) 22 22 30 (.agg #[.int .i64 0, .int .i64 0]) 2 16 rfl Try.underlying22 (by kernel_rfl) rfl (by decide) _ _ 0 xs.length [] cells rfl rfl (own_lit0 _ _ _) (HSRC.out _ ((hw.alloc _).has _ (by simp [hH]))) (by omega) ?_; intro A1 c1 w1 N1 hw1 ho1 _ _)
  go_ret
  exact ⟨.slice A1 xs.length c1, N1, by simp, hw1, Own.isSl (d := kSl) (by have := ho1; rw [Nat.zero_add, List.nil_append] at this; exact this) (sl_reps HCS.out) rfl (Hp.le_refl _)⟩
set_option maxRecDepth 10000 in
theorem runs_law (v : Value) (xs : List Sl) (n : Int) (w : World) (hw : Sat σ w Hs) (hH : H ∈ Hs) (hs : kSl.IsSl H v xs) (hn : xs.length * 16 ≤ 140737488355328) :
    Calls Try.prog 6 #[v, .int .i64 n] w fun e w' => e = .returned (.bool true) ∧ Sat σ w' Hs := by
  obtain ⟨x, fq, bq, hR, hF, hB⟩ := run_form xs n
  have HCO := Lib.hid (copied_any v xs w hw hH hs hn)
  have HRU := Lib.hid (fun v' N' w' Hs' (h : Sat σ w' Hs') (hm : N' ∈ Hs') hs => run_any v' xs n w' h hm hs)
  have HFR := Lib.hid (fun v' N' w' Hs' (h : Sat σ w' Hs') (hm : N' ∈ Hs') hs => frame_any v' xs n w' h hm hs)
  have HBO := Lib.hid (fun v' N' w' Hs' (h : Sat σ w' Hs') (hm : N' ∈ Hs') hs => bound_any v' xs n w' h hm hs)
  have HRR := Lib.hid (fun w' Hs' (h : Sat σ w' Hs') (hm : H ∈ Hs') => rrun_any v xs n w' h hm hs)
  have HRF := Lib.hid (fun w' Hs' (h : Sat σ w' Hs') (hm : H ∈ Hs') => rframe_any v xs n w' h hm hs)
  have HCH := Lib.hid (fun v' N' w' Hs' (h : Sat σ w' Hs') (hm : N' ∈ Hs') hs => check_any v' xs w' h hm hs)
  have HRC := Lib.hid (fun w' Hs' (h : Sat σ w' Hs') (hm : H ∈ Hs') => rcheck_any v xs w' h hm hs)
  rw [hR] at HRU HRR
  rw [hF] at HFR HRF
  rw [hB] at HBO
  have HBQ := Lib.hid hB
  clear hR hF hB
  have HS := Lib.hid hs
  obtain ⟨A, c, rfl, hc1, hc2, _⟩ := hs.form
  clear hs
  go_enter Try.func6, Try.ntmps6
  go_wp2_with fail
  refine HCO.out.mono ?_
  rintro e w1 ⟨ov, N, rfl, hw1, ho⟩
  have HO := Lib.hid ho
  obtain ⟨Ao, co, rfl, hco1, hco2, _⟩ := ho.form
  clear ho hw
  go_wp2_with fail
  refine (HRU.out _ N w1 _ hw1 (by simp) HO.out).mono ?_
  rintro e w2 ⟨rfl, hw2⟩
  have hwa := hw2.alloc (.cells #[.int .i64 x.t, .int .i64 x.b] 30)
  clear hw1
  go_wp2_with fail
  generalize World.alloc w2 _ = w3 at *
  generalize w2.heap.size = ba at *
  clear hw2
  refine (HRR.out w3 _ hwa (by simp [hH])).mono ?_
  rintro e w4 ⟨rfl, hw4⟩
  have hwb := hw4.alloc (.cells #[.int .i64 x.t, .int .i64 x.b] 30)
  clear hwa
  go_wp2_with fail
  generalize World.alloc w4 _ = w5 at *
  generalize w4.heap.size = bb at *
  clear hw4
  refine (HFR.out _ N w5 _ hwb (by simp) HO.out).mono ?_
  rintro e w6 ⟨rfl, hw6⟩
  clear hwb
  go_wp2_with fail
  refine (HRF.out w6 _ hw6 (by simp [hH])).mono ?_
  rintro e w7 ⟨rfl, hw7⟩
  clear hw6
  go_wp2_with fail
  refine (HBO.out _ N w7 _ hw7 (by simp) HO.out).mono ?_
  rintro e w8 ⟨rfl, hw8⟩
  clear hw7 HRU HRR HFR HRF HBO HCO
  by_cases h0 : tkd xs n = 0
  · obtain ⟨hc, hn1, hn2⟩ := tkd_ok h0
    obtain ⟨hl1, hl2, -, -⟩ := chk_ok hc
    obtain ⟨m, rfl⟩ := Int.eq_ofNat_of_zero_le hn1
    have hmod : ((m : Int)).tmod xs.length = ((m % xs.length : Nat) : Int) := rfl
    have hz : ((xs.length : Int) == 0) = false := beq_eq_false_iff_ne.2 (by omega)
    have hbq : bq = decide (m % xs.length = 0) := by
      have := HBQ.out
      unfold boundR at this
      rw [h0, Int.toNat_natCast] at this
      simpa using (congrArg Prod.fst this).symm
    rw [h0]
    clear hc h0 hn1 HBQ
    generalize m % xs.length = q at *
    have hbb : (decide (q = 0) == ((q : Int) == 0)) = true := by
      by_cases h : q = 0
      · subst h; rfl
      · rw [decide_eq_false h, show ((q : Int) == 0) = false from beq_eq_false_iff_ne.2 (by omega)]; rfl
    subst hbq
    go_wp2
    go_loopw [17] (fun i wr => ∃ k : Nat, k ≤ xs.length ∧ i = .int .i64 k ∧ Sat σ wr (Hp.one bb (.cells #[.int .i64 x.t, .int .i64 x.b] 30 (0, 0)) :: Hp.one ba (.cells #[.int .i64 x.t, .int .i64 x.b] 30 (0, 0)) :: N :: Hs)) (fun i _ => xs.length - (intOf i).toNat)
    case atStart => exact ⟨0, by omega, rfl, hw8⟩
    case round =>
      obtain ⟨k, hk, rfl, hwr⟩ := hrel
      clear hw8
      by_cases hlt : k < xs.length
      · obtain ⟨gb, off, c', y, hy, hv, e0, e1⟩ := sl_get HS.out hlt
        injection hv with hv1 hv2 hv3
        subst hv1; subst hv3; clear hv2
        obtain ⟨gb2, off2, c2', y2, hy2, hv, d0, d1⟩ := sl_get HO.out hlt
        injection hv with hv1 hv2 hv3
        subst hv1; subst hv3; clear hv2
        obtain rfl : y = y2 := by rw [hy] at hy2; exact Option.some.inj hy2
        have c0 := hwr.cellAt (H := H) (by simp [hH]) e0; have c1 := hwr.cellAt (H := H) (by simp [hH]) e1
        have c2 := hwr.cellAt (H := N) (by simp) d0; have c3 := hwr.cellAt (H := N) (by simp) d1
        have hki : (k : Int) < xs.length := by omega
        clear e0 e1 d0 d1 hy hy2
        go_wp2
        go_quiet (fail)
        go_wp2
        go_roundw
        case measure => simp [intOf]; omega
        case rel => exact ⟨k + 1, by omega, by go_num, hwr.drewN _⟩
      · obtain rfl : k = xs.length := by omega
        go_wp2_with fail
        refine (HCH.out _ N wr _ hwr (by simp) HO.out).mono ?_
        rintro e w9 ⟨rfl, hw9⟩
        clear hwr
        go_wp2_with fail
        refine (HRC.out w9 _ hw9 (by simp [hH])).mono ?_
        rintro e wa ⟨rfl, hwa⟩
        clear hw9
        have r0 : wa.cell? ⟨ba, 0, none⟩ = some (.int .i64 x.t) := hwa.swap.one_cell rfl
        have r1 : wa.cell? ⟨ba, 1, none⟩ = some (.int .i64 x.b) := hwa.swap.one_cell rfl
        have r2 : wa.cell? ⟨bb, 0, none⟩ = some (.int .i64 x.t) := hwa.one_cell rfl
        have r3 : wa.cell? ⟨bb, 1, none⟩ = some (.int .i64 x.b) := hwa.one_cell rfl
        go_wp2_with fail
        refine (works_any wa hwa).mono ?_
        rintro e wb ⟨rfl, hwb⟩
        go_wp2
        go_ret
        exact ⟨rfl, hwb.drop.drop.drop⟩
  · have hq : (tkd xs n == 0) = false := beq_eq_false_iff_ne.2 h0
    have hbq : bq = false := by
      have := HBQ.out
      unfold boundR at this
      rw [decide_eq_false h0] at this
      simpa using (congrArg Prod.fst this).symm
    subst hbq
    clear h0 HBQ
    generalize tkd xs n = cd at *
    go_wp2
    go_loopw [17] (fun i wr => ∃ k : Nat, k ≤ xs.length ∧ i = .int .i64 k ∧ Sat σ wr (Hp.one bb (.cells #[.int .i64 x.t, .int .i64 x.b] 30 (0, 0)) :: Hp.one ba (.cells #[.int .i64 x.t, .int .i64 x.b] 30 (0, 0)) :: N :: Hs)) (fun i _ => xs.length - (intOf i).toNat)
    case atStart => exact ⟨0, by omega, rfl, hw8⟩
    case round =>
      obtain ⟨k, hk, rfl, hwr⟩ := hrel
      clear hw8
      by_cases hlt : k < xs.length
      · obtain ⟨gb, off, c', y, hy, hv, e0, e1⟩ := sl_get HS.out hlt
        injection hv with hv1 hv2 hv3
        subst hv1; subst hv3; clear hv2
        obtain ⟨gb2, off2, c2', y2, hy2, hv, d0, d1⟩ := sl_get HO.out hlt
        injection hv with hv1 hv2 hv3
        subst hv1; subst hv3; clear hv2
        obtain rfl : y = y2 := by rw [hy] at hy2; exact Option.some.inj hy2
        have c0 := hwr.cellAt (H := H) (by simp [hH]) e0; have c1 := hwr.cellAt (H := H) (by simp [hH]) e1
        have c2 := hwr.cellAt (H := N) (by simp) d0; have c3 := hwr.cellAt (H := N) (by simp) d1
        have hki : (k : Int) < xs.length := by omega
        clear e0 e1 d0 d1 hy hy2
        go_wp2
        go_quiet (fail)
        go_wp2
        go_roundw
        case measure => simp [intOf]; omega
        case rel => exact ⟨k + 1, by omega, by go_num, hwr.drewN _⟩
      · obtain rfl : k = xs.length := by omega
        go_wp2_with fail
        refine (HCH.out _ N wr _ hwr (by simp) HO.out).mono ?_
        rintro e w9 ⟨rfl, hw9⟩
        clear hwr
        go_wp2_with fail
        refine (HRC.out w9 _ hw9 (by simp [hH])).mono ?_
        rintro e wa ⟨rfl, hwa⟩
        clear hw9
        have r0 : wa.cell? ⟨ba, 0, none⟩ = some (.int .i64 x.t) := hwa.swap.one_cell rfl
        have r1 : wa.cell? ⟨ba, 1, none⟩ = some (.int .i64 x.b) := hwa.swap.one_cell rfl
        have r2 : wa.cell? ⟨bb, 0, none⟩ = some (.int .i64 x.t) := hwa.one_cell rfl
        have r3 : wa.cell? ⟨bb, 1, none⟩ = some (.int .i64 x.b) := hwa.one_cell rfl
        go_wp2_with fail
        refine (works_any wa hwa).mono ?_
        rintro e wb ⟨rfl, hwb⟩
        go_wp2
        go_ret
        exact ⟨rfl, hwb.drop.drop.drop⟩
end
end Go.Proofs.Ytiplmelpagiklaa
