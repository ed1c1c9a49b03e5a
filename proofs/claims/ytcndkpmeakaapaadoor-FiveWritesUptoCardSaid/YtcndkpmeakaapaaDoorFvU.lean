/- Walk of the reference: PutRequest. -/
import Derived.Test.YtcndkpmeakaapaaDoorFvT
set_option linter.unusedVariables false
set_option linter.unusedSimpArgs false
namespace Go.Proofs.YtcndkpmeakaapaaDoor
open Go Go.RowKit
section
variable {σ w w' : World} {Hs : List Hp} {H H1 H2 M N Y R E X HB : Hp}
set_option maxHeartbeats 4000000
set_option maxRecDepth 10000 in
theorem rputReq_any (c a0 a1 a2 a3 p : Int) (s : ByteArray) (hs : s.size ≤ 9223372036854775807) (w : World) (hw : Sat σ w Hs) :
    Calls Tryd.prog 33 #[.int .i64 c, .agg #[.int .u8 a0, .int .u8 a1, .int .u8 a2, .int .u8 a3, .string s, .int .i64 p]] w (PutP σ Hs (putO c a0 a1 a2 a3 p s)) := by
  have HPV : Hid (putV c a0 a1 a2 a3 p s = (smallB c && (checkB a0 a1 a2 a3 s && decide (0 ≤ p ∧ p ≤ 65535)))) := Lib.hid rfl
  have HPO : Hid (putO c a0 a1 a2 a3 p s = if putV c a0 a1 a2 a3 p s = true then (putW c a0 a1 a2 a3 p s, 0) else ([], 2)) := Lib.hid rfl
  have HCK := Lib.hid (fun w' Hs' (h : Sat σ w' Hs') => rcheck_any a0 a1 a2 a3 s hs w' h)
  have HCS := Lib.hid (@check_size a0 a1 a2 a3 s)
  have hbx := hw.alloc (.cells #[.int .u8 a0, .int .u8 a1, .int .u8 a2, .int .u8 a3, .string s, .int .i64 p] 29)
  generalize putV c a0 a1 a2 a3 p s = pv at *
  generalize putO c a0 a1 a2 a3 p s = po at *
  go_enter Tryd.func33, Tryd.ntmps33
  go_wp2_with fail
  generalize hnb : w.heap.size = nb at *
  generalize hwa : World.alloc _ _ = wa at *
  refine (rsmall_any c _).mono ?_
  rintro e w2 ⟨rfl, rfl⟩
  clear hwa hnb hw
  cases hsm : smallB c with
  | false =>
    rw [hsm] at HPV
    clear HCK HCS
    go_wp2
    go_ret2
    have hr : po = ([], 2) := by rw [HPO.out]; exact if_neg (by rw [HPV.out]; exact (by simp))
    rw [hr]
    exact PutP.mk _ Hp.emp rfl (hbx.drop).emp Kd.IsSl.nil
  | true =>
    rw [hsm] at HPV
    have hsm2 := smallB_t hsm
    have mc : IntKind.u8.wrap c = c := IntWalk.u8_in _ (by omega)
    have c0 : wa.cell? ⟨nb, 0, none⟩ = some (.int .u8 a0) := hbx.one_cell rfl
    have c1 : wa.cell? ⟨nb, 1, none⟩ = some (.int .u8 a1) := hbx.one_cell rfl
    have c2 : wa.cell? ⟨nb, 2, none⟩ = some (.int .u8 a2) := hbx.one_cell rfl
    have c3 : wa.cell? ⟨nb, 3, none⟩ = some (.int .u8 a3) := hbx.one_cell rfl
    have c4 : wa.cell? ⟨nb, 4, none⟩ = some (.string s) := hbx.one_cell rfl
    have c5 : wa.cell? ⟨nb, 5, none⟩ = some (.int .i64 p) := hbx.one_cell rfl
    have HW1 := Lib.hid hbx
    clear hsm2 hbx hsm
    go_wp2_with fail
    refine (HCK.out _ _ HW1.out).mono ?_
    rintro e w3 ⟨rfl, hw3⟩
    clear c0 c1 c2 c3 c4 c5 HCK HW1
    have c0 : w3.cell? ⟨nb, 0, none⟩ = some (.int .u8 a0) := hw3.one_cell rfl
    have c1 : w3.cell? ⟨nb, 1, none⟩ = some (.int .u8 a1) := hw3.one_cell rfl
    have c2 : w3.cell? ⟨nb, 2, none⟩ = some (.int .u8 a2) := hw3.one_cell rfl
    have c3 : w3.cell? ⟨nb, 3, none⟩ = some (.int .u8 a3) := hw3.one_cell rfl
    have c4 : w3.cell? ⟨nb, 4, none⟩ = some (.string s) := hw3.one_cell rfl
    have c5 : w3.cell? ⟨nb, 5, none⟩ = some (.int .i64 p) := hw3.one_cell rfl
    cases hck : checkB a0 a1 a2 a3 s with
    | false =>
      rw [hck] at HPV
      go_wp2
      go_ret2
      have hr : po = ([], 2) := by rw [HPO.out]; exact if_neg (by rw [HPV.out]; exact (by simp))
      rw [hr]
      exact PutP.mk _ Hp.emp rfl (hw3.drop).emp Kd.IsSl.nil
    | true =>
      rw [hck] at HPV
      have hsz := HCS.out hck
      clear HCS
      by_cases hp0 : 0 ≤ p
      · by_cases hp1 : p ≤ 65535
        · have hr : Hid (po = (putW c a0 a1 a2 a3 p s, 0)) := Lib.hid (by rw [HPO.out]; exact if_pos (by rw [HPV.out]; simp; exact ⟨hp0, hp1⟩))
          clear HPO HPV
          obtain ⟨pn, rfl⟩ : ∃ pn : Nat, p = pn := ⟨p.toNat, by omega⟩
          have hdiv : ((pn : Int)).tdiv 256 = ((pn / 256 : Nat) : Int) := rfl
          have hmod : ((pn : Int)).tmod 256 = ((pn % 256 : Nat) : Int) := rfl
          have md : IntKind.u8.wrap ((pn / 256 : Nat) : Int) = ((pn / 256 : Nat) : Int) := IntWalk.u8_in _ (by omega)
          have mm : IntKind.u8.wrap ((pn % 256 : Nat) : Int) = ((pn % 256 : Nat) : Int) := IntWalk.u8_in _ (by omega)
          have md2 : IntKind.i64.wrap ((pn / 256 : Nat) : Int) = ((pn / 256 : Nat) : Int) := IntWalk.i64_in _ (by omega)
          have mm2 : IntKind.i64.wrap ((pn % 256 : Nat) : Int) = ((pn % 256 : Nat) : Int) := IntWalk.i64_in _ (by omega)
          have HQR : Hid ((pn : Int) / 256 = ((pn / 256 : Nat) : Int) ∧ (pn : Int) % 256 = ((pn % 256 : Nat) : Int)) := Lib.hid ⟨by omega, by omega⟩
          generalize hqd : pn / 256 = qd at *
          generalize hqm : pn % 256 = qm at *
          clear hqd hqm
          have hlt := hw3.one_lt
          have hw5 := hw3.alloc (.cells (ints .u8 [5, c, 0]).toArray 5)
          have ho5 : Own (Hp.one w3.heap.size (.cells (ints .u8 [5, c, 0]).toArray 5 (0, 0))) 5 1 (.slice (some ⟨w3.heap.size, 0, none⟩) 3 3) 3 (ints .u8 [5, c, 0]) := own_lit w3.heap.size _ _ 1 3 rfl (by decide)
          have HO5 := Lib.hid ho5
          by_cases hse : s.size = 0
          · have hru : Hid (putW c a0 a1 a2 a3 pn s = [5, c, 0, 1, a0, a1, a2, a3] ++ [(qd : Int), (qm : Int)]) := Lib.hid (by unfold putW putH; rw [if_pos hse, HQR.out.1, HQR.out.2])
            obtain rfl := str_empty hse
            have hw6 := (hw5.swap.alloc' (.cells #[.int .u8 a0, .int .u8 a1, .int .u8 a2, .int .u8 a3] 25)).alloc' (.cells (ints .u8 [1, a0, a1, a2, a3]).toArray 5)
            have HW6 := Lib.hid hw6.swap
            clear hsz hse ho5 hw5 hw6 HQR
            go_upto_region 8 with (at_builtin; go_must (refine wpList_app HW6.out rfl (.tmp 49) (.tmp 58) 22 22 5 (.int .u8 0) 1 1 rfl Tryd.underlying22 (by kernel_rfl) rfl (by decide) _ _ 3 5 (ints .u8 [5, c, 0]) (ints .u8 [1, a0, a1, a2, a3]) rfl rfl HO5.out (src_new Tryd.underlying22 _ (ints .u8 [1, a0, a1, a2, a3]) _ 5 1 5 (by simp) rfl rfl) (by omega) ?_); intro A7 k7 w7 N7 hw7 ho7 _ _)
            have c5 : w7.cell? ⟨nb, 5, none⟩ = some (.int .i64 (pn : Int)) := hw7.swap.one_cell rfl
            have hlt := hw7.swap.one_lt
            have HW7 := Lib.hid (hw7.swap.alloc' (.cells #[.int .u8 (qd : Int), .int .u8 (qm : Int)] 5)).swap
            have ho8 : Own N7 5 1 (.slice A7 8 k7) 8 (ints .u8 [5, c, 0, 1, a0, a1, a2, a3]) := ho7
            have HO8 := Lib.hid ho8
            clear ho7 ho8 hw7 HW6 HO5 hw3
            go_wp2_with (at_builtin; go_must (refine wpList_app HW7.out rfl (.tmp 60) (.tmp 69) 22 22 5 (.int .u8 0) 1 1 rfl Tryd.underlying22 (by kernel_rfl) rfl (by decide) _ _ 8 2 (ints .u8 [5, c, 0, 1, a0, a1, a2, a3]) [.int .u8 (qd : Int), .int .u8 (qm : Int)] rfl rfl HO8.out (src_new Tryd.underlying22 _ [.int .u8 (qd : Int), .int .u8 (qm : Int)] _ 2 1 2 (by simp) rfl rfl) (by omega) ?_); intro A9 c9 w9 N9 hw9 ho9 _ _)
            go_ret2
            rw [hr.out, hru.out]
            exact PutP.mk _ N9 rfl hw9.drop1 ((own_app (o := [5, c, 0, 1, a0, a1, a2, a3]) (l := [(qd : Int), (qm : Int)]) rfl ho9).isSl (d := kB) (reps_ints _) rfl (Hp.le_refl _))
          · have hse2 : s.toList.isEmpty = false := ne_emp hse
            have hru : Hid (putW c a0 a1 a2 a3 pn s = ([5, c, 0] ++ [3, (s.size : Int)] ++ byL s) ++ [(qd : Int), (qm : Int)]) := Lib.hid (by unfold putW putH; rw [if_neg hse, HQR.out.1, HQR.out.2]; rfl)
            have HSL := Lib.hid (byL_length s)
            have m1 : IntKind.u8.wrap (s.size : Int) = s.size := IntWalk.u8_in _ (by omega)
            have HSZ := Lib.hid hsz
            have HS : Hid (∀ w' Hs', Sat σ w' Hs' → Hp.one nb (.cells #[.int .u8 a0, .int .u8 a1, .int .u8 a2, .int .u8 a3, .string s, .int .i64 (pn : Int)] 29 (0, 0)) ∈ Hs' → w'.cell? ⟨nb, 4, none⟩ = some (.string s)) := Lib.hid (fun w' Hs' h hm => h.cellAt hm (Hp.cell_of (Hp.one_self _ _) rfl))
            clear hse ho5 HQR
            go_upto_region 5 with fail
            generalize w3.heap.size = n3 at *
            replace hw5 : Sat σ (World.alloc w3 (.cells #[.int .u8 5, .int .u8 c, .int .u8 0] 5)) _ := hw5
            generalize hw3e : World.alloc w3 (.cells #[.int .u8 5, .int .u8 c, .int .u8 0] 5) = w5 at *
            clear hw3e hw3 c0 c1 c2 c3 c4 c5 hlt
            have HWA := Lib.hid (hw5.drew.swap.alloc' (.cells #[.int .u8 3, .int .u8 (s.size : Int)] 5)).swap
            have hlt : nb < w5.heap.size := hw5.swap.one_lt
            go_region_held3 (fun w' => w'.cell? ⟨nb, 4, none⟩ = some (.string s))
              (first | exact HS.out _ _ hw5.drew (by simp) | exact HS.out _ _ HWA.out (by simp) | exact HS.out _ _ hw6 (by simp) | exact HS.out _ _ hw7 (by simp))
              (first
                | (refine step_app hw6 rfl (.tmp 41) (.tmp 44) 22 9 5 (.int .u8 0) 1 1 rfl Tryd.underlying22 (by kernel_rfl) rfl (by decide) _ _ 5 s.size (ints .u8 ([5, c, 0] ++ [3, (s.size : Int)])) _ rfl rfl HO6.out (src_str s _) (by have := HSZ.out; omega) ?_; intro A7 k7 w7 N7 hw7 ho7 _ _; have HO7 := Lib.hid (own_app (o := [5, c, 0] ++ [3, (s.size : Int)]) (l := byL s) HSL.out ho7); clear ho7)
                | (refine step_app HWA.out rfl (.tmp 34) (.tmp 40) 22 22 5 (.int .u8 0) 1 1 rfl Tryd.underlying22 (by kernel_rfl) rfl (by decide) _ _ 3 2 (ints .u8 [5, c, 0]) [.int .u8 3, .int .u8 (s.size : Int)] rfl rfl HO5.out (src_new Tryd.underlying22 w5.drew [.int .u8 3, .int .u8 (s.size : Int)] w5.heap.size 2 1 2 rfl rfl rfl) (by omega) ?_; intro A6 k6 w6 N6 hw6 ho6 _ _; have HO6 := Lib.hid (own_app (o := [5, c, 0]) (l := [3, (s.size : Int)]) rfl ho6); clear ho6))
            have hlen7 : ([5, c, 0] ++ [3, (s.size : Int)] ++ byL s).length = 5 + s.size := by rw [List.length_append, HSL.out]; rfl
            have ho7 := HO7.out
            rw [hlen7] at ho7
            have HO8 := Lib.hid ho7
            have c5 : w7.cell? ⟨nb, 5, none⟩ = some (.int .i64 (pn : Int)) := hw7.swap.one_cell rfl
            have hlt7 : nb < w7.heap.size := hw7.swap.one_lt
            have HW7 := Lib.hid (hw7.swap.alloc' (.cells #[.int .u8 (qd : Int), .int .u8 (qm : Int)] 5)).swap
            have HLEN := Lib.hid hlen7
            clear ho7 hlen7 hw7 hw6 hw5 HO7 HWA hlt
            (try simp only [Exit.inBlock, Exit.then])
            go_wp2_with (at_builtin; go_must (refine wpList_app HW7.out rfl (.tmp 60) (.tmp 69) 22 22 5 (.int .u8 0) 1 1 rfl Tryd.underlying22 (by kernel_rfl) rfl (by decide) _ _ (5 + s.size) 2 (ints .u8 ([5, c, 0] ++ [3, (s.size : Int)] ++ byL s)) [.int .u8 (qd : Int), .int .u8 (qm : Int)] rfl rfl HO8.out (src_new Tryd.underlying22 _ [.int .u8 (qd : Int), .int .u8 (qm : Int)] _ 2 1 2 (by simp) rfl rfl) (by have := HSZ.out; omega) ?_); intro A9 c9 w9 N9 hw9 ho9 _ _)
            go_ret2
            rw [hr.out, hru.out]
            have ho10 : Own N9 5 1 (.slice A9 (5 + s.size + 2) c9) (([5, c, 0] ++ [3, (s.size : Int)] ++ byL s).length + 2) (ints .u8 ([5, c, 0] ++ [3, (s.size : Int)] ++ byL s) ++ ints .u8 [(qd : Int), (qm : Int)]) := by
              rw [HLEN.out]; exact ho9
            exact PutP.mk _ N9 rfl hw9.drop1 ((own_app (l := [(qd : Int), (qm : Int)]) rfl ho10).isSl (d := kB) (reps_ints _) rfl (Hp.le_refl _))
        · go_wp2
          go_ret2
          have hr : po = ([], 2) := by rw [HPO.out]; exact if_neg (by rw [HPV.out]; exact (by simp; omega))
          rw [hr]
          exact PutP.mk _ Hp.emp rfl (hw3.drop).emp Kd.IsSl.nil
      · go_wp2
        go_ret2
        have hr : po = ([], 2) := by rw [HPO.out]; exact if_neg (by rw [HPV.out]; exact (by simp; omega))
        rw [hr]
        exact PutP.mk _ Hp.emp rfl (hw3.drop).emp Kd.IsSl.nil
end
end Go.Proofs.YtcndkpmeakaapaaDoor
