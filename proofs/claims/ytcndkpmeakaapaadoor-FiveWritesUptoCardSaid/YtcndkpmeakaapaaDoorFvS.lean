/- Walk: the law FiveBack. -/
import Derived.Test.YtcndkpmeakaapaaDoorFvR
set_option linter.unusedVariables false
set_option linter.unusedSimpArgs false
namespace Go.Proofs.YtcndkpmeakaapaaDoor
open Go Go.RowKit
section
variable {σ w w' : World} {Hs : List Hp} {H H1 H2 M N Y R E X HB : Hp}
set_option maxHeartbeats 8000000
set_option maxRecDepth 10000 in
theorem back_any (v0 : Value) (ms : List Int) (u p : ByteArray) (n a0 a1 a2 a3 po : Int) (s : ByteArray) (m0 : Value) (more : List Int) (m : Int) (w : World) (hw : Sat σ w Hs) (hB : H1 ∈ Hs) (hb : (Kd.int .i64).IsSl H1 v0 ms) (hM : H2 ∈ Hs) (hmo : kB.IsSl H2 m0 more) (hms : ∀ x ∈ more, 0 ≤ x ∧ x < 256)
    (hl1 : ms.length ≤ 1048576) (hl2 : more.length ≤ 1048576) (hu : u.size ≤ 9223372036854775807) (hp : p.size ≤ 9223372036854775807) (hs : s.size ≤ 9223372036854775807)
    (b0 : 0 ≤ a0 ∧ a0 < 256) (b1 : 0 ≤ a1 ∧ a1 < 256) (b2 : 0 ≤ a2 ∧ a2 < 256) (b3 : 0 ≤ a3 ∧ a3 < 256) (hH : H ∈ Hs) (hm : Hp.cell H 1 0 = some (.int .i64 m)) :
    Calls Tryd.prog 7 #[v0, .string u, .string p, .int .i64 n, .agg #[.int .u8 a0, .int .u8 a1, .int .u8 a2, .int .u8 a3, .string s, .int .i64 po], m0] w fun e w' => e = .returned (.bool true) ∧ Sat σ w' Hs := by
  obtain ⟨A, c, rfl, _⟩ := id hb.form
  obtain ⟨A2, c2, rfl, _⟩ := id hmo.form
  have HW := Lib.hid (fun w (Hs' : List Hp) (h : Sat σ w Hs') (hH' : H ∈ Hs') => works_any m w h hH' hm)
  have HPG := Lib.hid (fun w (Hs' : List Hp) (h : Sat σ w Hs') (hH' : H1 ∈ Hs') => putGreeting_any _ ms (by omega) w h hH' hb)
  have HPL := Lib.hid (fun w (Hs' : List Hp) (h : Sat σ w Hs') => putLogin_any u p hu hp w h)
  have HPR := Lib.hid (fun w (Hs' : List Hp) (h : Sat σ w Hs') (hH' : H ∈ Hs') => putReq_any n a0 a1 a2 a3 po s hs m w h hH' hm)
  obtain ⟨cells, hcs, hsrc⟩ := hmo.src (P := Tryd.prog) (t := 22) Tryd.underlying22
  obtain rfl := reps_is hcs
  have HSRC := Lib.hid hsrc
  have HBM := Lib.hid hms
  have HBI := Lib.hid hb
  have HAB : Hid (∀ xs : List Int, (∀ x ∈ xs, 0 ≤ x ∧ x < 256) → ∀ x ∈ xs ++ more, 0 ≤ x ∧ x < 256) := Lib.hid (fun xs h x hx => (List.mem_append.1 hx).elim (h x) (HBM.out x))
  have HGR := Lib.hid (fun (bs : List Int) (hbs : ∀ x ∈ bs, 0 ≤ x ∧ x < 256) v N w (Hs' : List Hp) (h : Sat σ w Hs') (hN : N ∈ Hs') (hx : kB.IsSl N v bs) => greeting_any v bs hbs w h hN hx)
  have HLO := Lib.hid (fun (bs : List Int) (hbs : ∀ x ∈ bs, 0 ≤ x ∧ x < 256) v N w (Hs' : List Hp) (h : Sat σ w Hs') (hN : N ∈ Hs') (hx : kB.IsSl N v bs) => login_any v bs hbs w h hN hx)
  have HRQ := Lib.hid (fun (bs : List Int) (hbs : ∀ x ∈ bs, 0 ≤ x ∧ x < 256) v N w (Hs' : List Hp) (h : Sat σ w Hs') (hN : N ∈ Hs') (hx : kB.IsSl N v bs) (hH' : H ∈ Hs') => request_any v bs hbs m w h hN hx hH' hm)
  have HL : Hid (ms.length ≤ 1048576 ∧ more.length ≤ 1048576) := Lib.hid ⟨hl1, hl2⟩
  have HB4 := Lib.hid (And.intro b0 (And.intro b1 (And.intro b2 b3)))
  unfold GrP at HGR
  unfold LoP at HLO
  clear hcs hsrc hms hmo hb hm hs hu hp hl1 hl2 b0 b1 b2 b3
  have deq : ∀ W : World, (Op.equalIn 10000 29 (.agg #[.int .u8 a0, .int .u8 a1, .int .u8 a2, .int .u8 a3, .string s, .int .i64 po]) (.agg #[.int .u8 a0, .int .u8 a1, .int .u8 a2, .int .u8 a3, .string s, .int .i64 po])).run Tryd.prog W = .ok true W := fun W => dest_refl W a0 a1 a2 a3 po s
  -- a copy of what was written (WL, its slice's fact HSX in N), with what stands behind
  go_enter Tryd.func7, Tryd.ntmps7
  have hbx := hw.alloc (.cells #[.int .u8 a0, .int .u8 a1, .int .u8 a2, .int .u8 a3, .string s, .int .i64 po] 29)
  go_wp2_with fail
  generalize hnd : w.heap.size = nd at *
  generalize hwa : World.alloc _ _ = wa at *
  clear hwa
  refine (HW.out _ _ hbx (List.mem_cons_of_mem _ hH)).mono ?_
  rintro e w2 ⟨rfl, hw2⟩
  clear hw hbx hnd HW
  go_wp2_with fail
  refine (HPG.out _ _ hw2 (List.mem_cons_of_mem _ hB)).mono ?_
  rintro e w3 ⟨vo, N3, rfl, hw3, hs3⟩
  clear hw2 HPG
  obtain ⟨A3, c3, rfl, _⟩ := id hs3.form
  have HS3 := Lib.hid hs3
  clear hs3
  cases hpg : putGV ms with
  | true =>
    have e1 : putGO ms = ([5, (ms.length : Int)] ++ ms, 0) := if_pos hpg
    have hgb := greet_back hpg more
    rw [e1] at HS3 ⊢
    have hwl : ([5, (ms.length : Int)] ++ ms).length ≤ 2000000 := by have := HL.out; simp only [List.length_append, List.length_cons, List.length_nil]; omega
    have HGG := Lib.hid (HGR.out _ (HAB.out _ hgb.2.2))
    rw [hgb.1, hgb.2.1] at HGG
    have HWL := Lib.hid hwl
    have HSX : Hid (kB.IsSl N3 (.slice A3 ([5, (ms.length : Int)] ++ ms).length c3) ([5, (ms.length : Int)] ++ ms)) := Lib.hid HS3.out
    have hlx : ([5, (ms.length : Int)] ++ ms).length = 2 + ms.length := by rw [List.length_append]; rfl
    have HLX := Lib.hid hlx
    clear hgb hwl e1 HS3 hlx
    generalize [5, (ms.length : Int)] ++ ms = WLX at *
    have hwlx := HWL.out
    go_wp2_with fail
    refine (bytesO_any _ WLX _ hw3 List.mem_cons_self HSX.out (by omega)).mono ?_
    rintro e w9 ⟨A4, c4, N4, cells, rfl, hw9, ho9, hcs⟩
    obtain rfl := reps_is hcs
    have HO9 := Lib.hid ho9
    clear hcs ho9
    go_wp2_with (at_builtin; go_must (refine wpList_app hw9 rfl (.tmp 41) (.tmp 42) 22 22 5 (.int .u8 0) 1 1 rfl Tryd.underlying22 (by kernel_rfl) rfl (by decide) _ _ WLX.length more.length (ints .u8 WLX) _ rfl rfl HO9.out (HSRC.out _ (hw9.has _ (by simp [hM]))) (by have := HL.out; omega) ?_); intro A5 c5 w10 N5 hw10 ho10 _ _)
    have hown : Own N5 5 1 (.slice A5 (WLX.length + more.length) c5) (WLX ++ more).length (ints .u8 (WLX ++ more)) := by
      rw [List.length_append, ints_append]; exact ho10
    have HS10 := Lib.hid (hown.isSl (d := kB) (reps_ints _) rfl (Hp.le_refl _))
    clear ho10 hown hw9 HO9
    refine (HGG.out _ N5 _ _ hw10 List.mem_cons_self HS10.out).mono ?_
    rintro e w11 ⟨v, vu, NG, E11, rfl, hw11, h11, hn11⟩
    obtain rfl : vu = .nilIface := h11
    obtain ⟨A6, c6, rfl, _⟩ := id hn11.form
    have hnl : (((2 + ms.length : Nat) : Int) != (WLX.length : Int)) = false := by rw [HLX.out]; simp
    have hnl2 : ((2 + (ms.length : Int)) != (WLX.length : Int)) = false := by rw [HLX.out, bne_eq_false_iff_eq]; omega
    have HSI := Lib.hid (fun w' Hs' (h : Sat σ w' Hs') (k1 : NG ∈ Hs') (k2 : H1 ∈ Hs') => sInts_any _ _ ms w' h k1 k2 hn11 HBI.out)
    clear hw10 HS10 HGG hn11 HSX HWL
    go_wp2_with (go_at_call 18; go_must (refine (HSI.out _ _ hw11 List.mem_cons_self (by simp [hB])).mono ?_); rintro e w12 ⟨rfl, hw12⟩)
    have hw12b := hw12.drop.drop.drop.drop
    clear hw12 hw11 HSI
    refine (HPL.out _ _ hw12b).mono ?_
    rintro e w13 ⟨vo2, N13, rfl, hw13, hs13⟩
    obtain ⟨A13, c13, rfl, _⟩ := id hs13.form
    have HS13 := Lib.hid hs13
    clear hs13
    cases hlv : logV u p with
    | true =>
      have e2 : putLogO u p = (logW u p, 0) := if_pos hlv
      obtain ⟨hlb, hlbe⟩ := login_back hlv more
      have hpb := logW_byte hlv
      have hwl : (logW u p).length ≤ 2000000 := by
        obtain ⟨z1, z2, z3, z4⟩ := logV_t hlv
        unfold logW
        simp only [List.length_append, byL_length, List.length_cons, List.length_nil]
        omega
      rw [e2] at HS13 ⊢
      have HRR := Lib.hid (HLO.out _ (HAB.out _ hpb))
      rw [hlb, hlbe] at HRR
      have HWL := Lib.hid hwl
      have HSX : Hid (kB.IsSl N13 (.slice A13 (logW u p).length c13) (logW u p)) := Lib.hid HS13.out
      clear hlb hlbe hpb hwl e2 HS13 hlv
      generalize logW u p = WLX at *
      have hwlx := HWL.out
      go_wp2_with fail
      refine (bytesO_any _ WLX _ hw13 List.mem_cons_self HSX.out (by omega)).mono ?_
      rintro e w9 ⟨A4, c4, N4, cells, rfl, hw9, ho9, hcs⟩
      obtain rfl := reps_is hcs
      have HO9 := Lib.hid ho9
      clear hcs ho9
      go_wp2_with (at_builtin; go_must (refine wpList_app hw9 rfl (.tmp 72) (.tmp 73) 22 22 5 (.int .u8 0) 1 1 rfl Tryd.underlying22 (by kernel_rfl) rfl (by decide) _ _ WLX.length more.length (ints .u8 WLX) _ rfl rfl HO9.out (HSRC.out _ (hw9.has _ (by simp [hM]))) (by have := HL.out; omega) ?_); intro A5 c5 w10 N5 hw10 ho10 _ _)
      have hown : Own N5 5 1 (.slice A5 (WLX.length + more.length) c5) (WLX ++ more).length (ints .u8 (WLX ++ more)) := by
        rw [List.length_append, ints_append]; exact ho10
      have HS10 := Lib.hid (hown.isSl (d := kB) (reps_ints _) rfl (Hp.le_refl _))
      clear ho10 hown hw9 HO9
      refine (HRR.out _ N5 _ _ hw10 List.mem_cons_self HS10.out).mono ?_
      rintro e w21 ⟨v, E21, rfl, hw21, h21⟩
      obtain rfl : v = .nilIface := h21
      have hw22 := hw21.drop.drop.drop
      clear hw21 hw10 HS10 HRR HSX HWL
      have z1 : (u.toList != u.toList) = false := by simp
      have z2 : (p.toList != p.toList) = false := by simp
      have y0 : w21.cell? ⟨nd, 0, none⟩ = some (.int .u8 a0) := hw22.one_cell rfl
      have y1 : w21.cell? ⟨nd, 1, none⟩ = some (.int .u8 a1) := hw22.one_cell rfl
      have y2 : w21.cell? ⟨nd, 2, none⟩ = some (.int .u8 a2) := hw22.one_cell rfl
      have y3 : w21.cell? ⟨nd, 3, none⟩ = some (.int .u8 a3) := hw22.one_cell rfl
      have y4 : w21.cell? ⟨nd, 4, none⟩ = some (.string s) := hw22.one_cell rfl
      have y5 : w21.cell? ⟨nd, 5, none⟩ = some (.int .i64 po) := hw22.one_cell rfl
      go_wp2_with fail
      clear z1 z2 y0 y1 y2 y3 y4 y5
      refine (HPR.out _ _ hw22 (List.mem_cons_of_mem _ hH)).mono ?_
      rintro e w23 ⟨vo3, N23, rfl, hw23, hs23⟩
      obtain ⟨A23, c23, rfl, _⟩ := id hs23.form
      have HS23 := Lib.hid hs23
      clear hs23
      cases hpv : putV n a0 a1 a2 a3 po s with
      | true =>
        have e3 : putO n a0 a1 a2 a3 po s = (putW n a0 a1 a2 a3 po s, 0) := if_pos hpv
        obtain ⟨hrp, hrpe⟩ := read_put hpv more
        obtain ⟨q0, q1, q2, q3⟩ := HB4.out
        have hpb := putW_byte hpv q0 q1 q2 q3
        have hwl : (putW n a0 a1 a2 a3 po s).length ≤ 2000000 := by
          rw [putW_length]
          have := check_size (putV_t hpv).2.1
          split <;> omega
        rw [e3] at HS23 ⊢
        have HRR := Lib.hid (HRQ.out _ (HAB.out _ hpb))
        rw [hrp, hrpe] at HRR
        have HWL := Lib.hid hwl
        have HSX : Hid (kB.IsSl N23 (.slice A23 (putW n a0 a1 a2 a3 po s).length c23) (putW n a0 a1 a2 a3 po s)) := Lib.hid HS23.out
        clear hrp hrpe hpb hwl e3 HS23 hpv q0 q1 q2 q3
        generalize putW n a0 a1 a2 a3 po s = WLX at *
        have hwlx := HWL.out
        go_wp2_with fail
        refine (bytesO_any _ WLX _ hw23 List.mem_cons_self HSX.out (by omega)).mono ?_
        rintro e w9 ⟨A4, c4, N4, cells, rfl, hw9, ho9, hcs⟩
        obtain rfl := reps_is hcs
        have HO9 := Lib.hid ho9
        clear hcs ho9
        go_wp2_with (at_builtin; go_must (refine wpList_app hw9 rfl (.tmp 111) (.tmp 112) 22 22 5 (.int .u8 0) 1 1 rfl Tryd.underlying22 (by kernel_rfl) rfl (by decide) _ _ WLX.length more.length (ints .u8 WLX) _ rfl rfl HO9.out (HSRC.out _ (hw9.has _ (by simp [hM]))) (by have := HL.out; omega) ?_); intro A5 c5 w10 N5 hw10 ho10 _ _)
        have hown : Own N5 5 1 (.slice A5 (WLX.length + more.length) c5) (WLX ++ more).length (ints .u8 (WLX ++ more)) := by
          rw [List.length_append, ints_append]; exact ho10
        have HS10 := Lib.hid (hown.isSl (d := kB) (reps_ints _) rfl (Hp.le_refl _))
        clear ho10 hown hw9 HO9
        refine (HRR.out _ N5 _ _ hw10 List.mem_cons_self HS10.out (by simp [hH])).mono ?_
        rintro e w31 ⟨v, E31, rfl, hw31, h31⟩
        obtain rfl : v = .nilIface := h31
        have hw32 := hw31.drop.drop.drop
        have y0 : w31.cell? ⟨nd, 0, none⟩ = some (.int .u8 a0) := hw32.one_cell rfl
        have y1 : w31.cell? ⟨nd, 1, none⟩ = some (.int .u8 a1) := hw32.one_cell rfl
        have y2 : w31.cell? ⟨nd, 2, none⟩ = some (.int .u8 a2) := hw32.one_cell rfl
        have y3 : w31.cell? ⟨nd, 3, none⟩ = some (.int .u8 a3) := hw32.one_cell rfl
        have y4 : w31.cell? ⟨nd, 4, none⟩ = some (.string s) := hw32.one_cell rfl
        have y5 : w31.cell? ⟨nd, 5, none⟩ = some (.int .i64 po) := hw32.one_cell rfl
        have hlt := hw32.one_lt
        have hfin := hw32.alloc' (.cells #[.int .u8 a0, .int .u8 a1, .int .u8 a2, .int .u8 a3, .string s, .int .i64 po] 29)
        clear hw31 hw10 HS10 HRR HSX HWL
        go_wp2
        go_ret
        exact ⟨rfl, hfin.drop⟩
      | false =>
        have e3 : putO n a0 a1 a2 a3 po s = ([], 2) := if_neg (by rw [hpv]; exact fun h => by cases h)
        rw [e3] at HS23 ⊢
        clear hpv e3
        go_wp2
        go_ret
        exact ⟨rfl, hw23.drop.drop⟩
    | false =>
      have e2 : putLogO u p = ([], 2) := if_neg (by rw [hlv]; exact fun h => by cases h)
      rw [e2] at HS13 ⊢
      have hw22 := hw13.drop
      clear hlv e2 HS13
      have y0 : w13.cell? ⟨nd, 0, none⟩ = some (.int .u8 a0) := hw22.one_cell rfl
      have y1 : w13.cell? ⟨nd, 1, none⟩ = some (.int .u8 a1) := hw22.one_cell rfl
      have y2 : w13.cell? ⟨nd, 2, none⟩ = some (.int .u8 a2) := hw22.one_cell rfl
      have y3 : w13.cell? ⟨nd, 3, none⟩ = some (.int .u8 a3) := hw22.one_cell rfl
      have y4 : w13.cell? ⟨nd, 4, none⟩ = some (.string s) := hw22.one_cell rfl
      have y5 : w13.cell? ⟨nd, 5, none⟩ = some (.int .i64 po) := hw22.one_cell rfl
      go_wp2_with fail
      clear y0 y1 y2 y3 y4 y5
      refine (HPR.out _ _ hw22 (List.mem_cons_of_mem _ hH)).mono ?_
      rintro e w23 ⟨vo3, N23, rfl, hw23, hs23⟩
      obtain ⟨A23, c23, rfl, _⟩ := id hs23.form
      have HS23 := Lib.hid hs23
      clear hs23
      cases hpv : putV n a0 a1 a2 a3 po s with
      | true =>
        have e3 : putO n a0 a1 a2 a3 po s = (putW n a0 a1 a2 a3 po s, 0) := if_pos hpv
        obtain ⟨hrp, hrpe⟩ := read_put hpv more
        obtain ⟨q0, q1, q2, q3⟩ := HB4.out
        have hpb := putW_byte hpv q0 q1 q2 q3
        have hwl : (putW n a0 a1 a2 a3 po s).length ≤ 2000000 := by
          rw [putW_length]
          have := check_size (putV_t hpv).2.1
          split <;> omega
        rw [e3] at HS23 ⊢
        have HRR := Lib.hid (HRQ.out _ (HAB.out _ hpb))
        rw [hrp, hrpe] at HRR
        have HWL := Lib.hid hwl
        have HSX : Hid (kB.IsSl N23 (.slice A23 (putW n a0 a1 a2 a3 po s).length c23) (putW n a0 a1 a2 a3 po s)) := Lib.hid HS23.out
        clear hrp hrpe hpb hwl e3 HS23 hpv q0 q1 q2 q3
        generalize putW n a0 a1 a2 a3 po s = WLX at *
        have hwlx := HWL.out
        go_wp2_with fail
        refine (bytesO_any _ WLX _ hw23 List.mem_cons_self HSX.out (by omega)).mono ?_
        rintro e w9 ⟨A4, c4, N4, cells, rfl, hw9, ho9, hcs⟩
        obtain rfl := reps_is hcs
        have HO9 := Lib.hid ho9
        clear hcs ho9
        go_wp2_with (at_builtin; go_must (refine wpList_app hw9 rfl (.tmp 111) (.tmp 112) 22 22 5 (.int .u8 0) 1 1 rfl Tryd.underlying22 (by kernel_rfl) rfl (by decide) _ _ WLX.length more.length (ints .u8 WLX) _ rfl rfl HO9.out (HSRC.out _ (hw9.has _ (by simp [hM]))) (by have := HL.out; omega) ?_); intro A5 c5 w10 N5 hw10 ho10 _ _)
        have hown : Own N5 5 1 (.slice A5 (WLX.length + more.length) c5) (WLX ++ more).length (ints .u8 (WLX ++ more)) := by
          rw [List.length_append, ints_append]; exact ho10
        have HS10 := Lib.hid (hown.isSl (d := kB) (reps_ints _) rfl (Hp.le_refl _))
        clear ho10 hown hw9 HO9
        refine (HRR.out _ N5 _ _ hw10 List.mem_cons_self HS10.out (by simp [hH])).mono ?_
        rintro e w31 ⟨v, E31, rfl, hw31, h31⟩
        obtain rfl : v = .nilIface := h31
        have hw32 := hw31.drop.drop.drop
        have y0 : w31.cell? ⟨nd, 0, none⟩ = some (.int .u8 a0) := hw32.one_cell rfl
        have y1 : w31.cell? ⟨nd, 1, none⟩ = some (.int .u8 a1) := hw32.one_cell rfl
        have y2 : w31.cell? ⟨nd, 2, none⟩ = some (.int .u8 a2) := hw32.one_cell rfl
        have y3 : w31.cell? ⟨nd, 3, none⟩ = some (.int .u8 a3) := hw32.one_cell rfl
        have y4 : w31.cell? ⟨nd, 4, none⟩ = some (.string s) := hw32.one_cell rfl
        have y5 : w31.cell? ⟨nd, 5, none⟩ = some (.int .i64 po) := hw32.one_cell rfl
        have hlt := hw32.one_lt
        have hfin := hw32.alloc' (.cells #[.int .u8 a0, .int .u8 a1, .int .u8 a2, .int .u8 a3, .string s, .int .i64 po] 29)
        clear hw31 hw10 HS10 HRR HSX HWL
        go_wp2
        go_ret
        exact ⟨rfl, hfin.drop⟩
      | false =>
        have e3 : putO n a0 a1 a2 a3 po s = ([], 2) := if_neg (by rw [hpv]; exact fun h => by cases h)
        rw [e3] at HS23 ⊢
        clear hpv e3
        go_wp2
        go_ret
        exact ⟨rfl, hw23.drop.drop⟩
  | false =>
    have e1 : putGO ms = ([], 2) := if_neg (by rw [hpg]; exact fun h => by cases h)
    rw [e1] at HS3 ⊢
    have hw12b := hw3.drop
    clear hpg e1 HS3 hw3
    go_wp2_with fail
    refine (HPL.out _ _ hw12b).mono ?_
    rintro e w13 ⟨vo2, N13, rfl, hw13, hs13⟩
    obtain ⟨A13, c13, rfl, _⟩ := id hs13.form
    have HS13 := Lib.hid hs13
    clear hs13
    cases hlv : logV u p with
    | true =>
      have e2 : putLogO u p = (logW u p, 0) := if_pos hlv
      obtain ⟨hlb, hlbe⟩ := login_back hlv more
      have hpb := logW_byte hlv
      have hwl : (logW u p).length ≤ 2000000 := by
        obtain ⟨z1, z2, z3, z4⟩ := logV_t hlv
        unfold logW
        simp only [List.length_append, byL_length, List.length_cons, List.length_nil]
        omega
      rw [e2] at HS13 ⊢
      have HRR := Lib.hid (HLO.out _ (HAB.out _ hpb))
      rw [hlb, hlbe] at HRR
      have HWL := Lib.hid hwl
      have HSX : Hid (kB.IsSl N13 (.slice A13 (logW u p).length c13) (logW u p)) := Lib.hid HS13.out
      clear hlb hlbe hpb hwl e2 HS13 hlv
      generalize logW u p = WLX at *
      have hwlx := HWL.out
      go_wp2_with fail
      refine (bytesO_any _ WLX _ hw13 List.mem_cons_self HSX.out (by omega)).mono ?_
      rintro e w9 ⟨A4, c4, N4, cells, rfl, hw9, ho9, hcs⟩
      obtain rfl := reps_is hcs
      have HO9 := Lib.hid ho9
      clear hcs ho9
      go_wp2_with (at_builtin; go_must (refine wpList_app hw9 rfl (.tmp 72) (.tmp 73) 22 22 5 (.int .u8 0) 1 1 rfl Tryd.underlying22 (by kernel_rfl) rfl (by decide) _ _ WLX.length more.length (ints .u8 WLX) _ rfl rfl HO9.out (HSRC.out _ (hw9.has _ (by simp [hM]))) (by have := HL.out; omega) ?_); intro A5 c5 w10 N5 hw10 ho10 _ _)
      have hown : Own N5 5 1 (.slice A5 (WLX.length + more.length) c5) (WLX ++ more).length (ints .u8 (WLX ++ more)) := by
        rw [List.length_append, ints_append]; exact ho10
      have HS10 := Lib.hid (hown.isSl (d := kB) (reps_ints _) rfl (Hp.le_refl _))
      clear ho10 hown hw9 HO9
      refine (HRR.out _ N5 _ _ hw10 List.mem_cons_self HS10.out).mono ?_
      rintro e w21 ⟨v, E21, rfl, hw21, h21⟩
      obtain rfl : v = .nilIface := h21
      have hw22 := hw21.drop.drop.drop
      clear hw21 hw10 HS10 HRR HSX HWL
      have z1 : (u.toList != u.toList) = false := by simp
      have z2 : (p.toList != p.toList) = false := by simp
      have y0 : w21.cell? ⟨nd, 0, none⟩ = some (.int .u8 a0) := hw22.one_cell rfl
      have y1 : w21.cell? ⟨nd, 1, none⟩ = some (.int .u8 a1) := hw22.one_cell rfl
      have y2 : w21.cell? ⟨nd, 2, none⟩ = some (.int .u8 a2) := hw22.one_cell rfl
      have y3 : w21.cell? ⟨nd, 3, none⟩ = some (.int .u8 a3) := hw22.one_cell rfl
      have y4 : w21.cell? ⟨nd, 4, none⟩ = some (.string s) := hw22.one_cell rfl
      have y5 : w21.cell? ⟨nd, 5, none⟩ = some (.int .i64 po) := hw22.one_cell rfl
      go_wp2_with fail
      clear z1 z2 y0 y1 y2 y3 y4 y5
      refine (HPR.out _ _ hw22 (List.mem_cons_of_mem _ hH)).mono ?_
      rintro e w23 ⟨vo3, N23, rfl, hw23, hs23⟩
      obtain ⟨A23, c23, rfl, _⟩ := id hs23.form
      have HS23 := Lib.hid hs23
      clear hs23
      cases hpv : putV n a0 a1 a2 a3 po s with
      | true =>
        have e3 : putO n a0 a1 a2 a3 po s = (putW n a0 a1 a2 a3 po s, 0) := if_pos hpv
        obtain ⟨hrp, hrpe⟩ := read_put hpv more
        obtain ⟨q0, q1, q2, q3⟩ := HB4.out
        have hpb := putW_byte hpv q0 q1 q2 q3
        have hwl : (putW n a0 a1 a2 a3 po s).length ≤ 2000000 := by
          rw [putW_length]
          have := check_size (putV_t hpv).2.1
          split <;> omega
        rw [e3] at HS23 ⊢
        have HRR := Lib.hid (HRQ.out _ (HAB.out _ hpb))
        rw [hrp, hrpe] at HRR
        have HWL := Lib.hid hwl
        have HSX : Hid (kB.IsSl N23 (.slice A23 (putW n a0 a1 a2 a3 po s).length c23) (putW n a0 a1 a2 a3 po s)) := Lib.hid HS23.out
        clear hrp hrpe hpb hwl e3 HS23 hpv q0 q1 q2 q3
        generalize putW n a0 a1 a2 a3 po s = WLX at *
        have hwlx := HWL.out
        go_wp2_with fail
        refine (bytesO_any _ WLX _ hw23 List.mem_cons_self HSX.out (by omega)).mono ?_
        rintro e w9 ⟨A4, c4, N4, cells, rfl, hw9, ho9, hcs⟩
        obtain rfl := reps_is hcs
        have HO9 := Lib.hid ho9
        clear hcs ho9
        go_wp2_with (at_builtin; go_must (refine wpList_app hw9 rfl (.tmp 111) (.tmp 112) 22 22 5 (.int .u8 0) 1 1 rfl Tryd.underlying22 (by kernel_rfl) rfl (by decide) _ _ WLX.length more.length (ints .u8 WLX) _ rfl rfl HO9.out (HSRC.out _ (hw9.has _ (by simp [hM]))) (by have := HL.out; omega) ?_); intro A5 c5 w10 N5 hw10 ho10 _ _)
        have hown : Own N5 5 1 (.slice A5 (WLX.length + more.length) c5) (WLX ++ more).length (ints .u8 (WLX ++ more)) := by
          rw [List.length_append, ints_append]; exact ho10
        have HS10 := Lib.hid (hown.isSl (d := kB) (reps_ints _) rfl (Hp.le_refl _))
        clear ho10 hown hw9 HO9
        refine (HRR.out _ N5 _ _ hw10 List.mem_cons_self HS10.out (by simp [hH])).mono ?_
        rintro e w31 ⟨v, E31, rfl, hw31, h31⟩
        obtain rfl : v = .nilIface := h31
        have hw32 := hw31.drop.drop.drop
        have y0 : w31.cell? ⟨nd, 0, none⟩ = some (.int .u8 a0) := hw32.one_cell rfl
        have y1 : w31.cell? ⟨nd, 1, none⟩ = some (.int .u8 a1) := hw32.one_cell rfl
        have y2 : w31.cell? ⟨nd, 2, none⟩ = some (.int .u8 a2) := hw32.one_cell rfl
        have y3 : w31.cell? ⟨nd, 3, none⟩ = some (.int .u8 a3) := hw32.one_cell rfl
        have y4 : w31.cell? ⟨nd, 4, none⟩ = some (.string s) := hw32.one_cell rfl
        have y5 : w31.cell? ⟨nd, 5, none⟩ = some (.int .i64 po) := hw32.one_cell rfl
        have hlt := hw32.one_lt
        have hfin := hw32.alloc' (.cells #[.int .u8 a0, .int .u8 a1, .int .u8 a2, .int .u8 a3, .string s, .int .i64 po] 29)
        clear hw31 hw10 HS10 HRR HSX HWL
        go_wp2
        go_ret
        exact ⟨rfl, hfin.drop⟩
      | false =>
        have e3 : putO n a0 a1 a2 a3 po s = ([], 2) := if_neg (by rw [hpv]; exact fun h => by cases h)
        rw [e3] at HS23 ⊢
        clear hpv e3
        go_wp2
        go_ret
        exact ⟨rfl, hw23.drop.drop⟩
    | false =>
      have e2 : putLogO u p = ([], 2) := if_neg (by rw [hlv]; exact fun h => by cases h)
      rw [e2] at HS13 ⊢
      have hw22 := hw13.drop
      clear hlv e2 HS13
      have y0 : w13.cell? ⟨nd, 0, none⟩ = some (.int .u8 a0) := hw22.one_cell rfl
      have y1 : w13.cell? ⟨nd, 1, none⟩ = some (.int .u8 a1) := hw22.one_cell rfl
      have y2 : w13.cell? ⟨nd, 2, none⟩ = some (.int .u8 a2) := hw22.one_cell rfl
      have y3 : w13.cell? ⟨nd, 3, none⟩ = some (.int .u8 a3) := hw22.one_cell rfl
      have y4 : w13.cell? ⟨nd, 4, none⟩ = some (.string s) := hw22.one_cell rfl
      have y5 : w13.cell? ⟨nd, 5, none⟩ = some (.int .i64 po) := hw22.one_cell rfl
      go_wp2_with fail
      clear y0 y1 y2 y3 y4 y5
      refine (HPR.out _ _ hw22 (List.mem_cons_of_mem _ hH)).mono ?_
      rintro e w23 ⟨vo3, N23, rfl, hw23, hs23⟩
      obtain ⟨A23, c23, rfl, _⟩ := id hs23.form
      have HS23 := Lib.hid hs23
      clear hs23
      cases hpv : putV n a0 a1 a2 a3 po s with
      | true =>
        have e3 : putO n a0 a1 a2 a3 po s = (putW n a0 a1 a2 a3 po s, 0) := if_pos hpv
        obtain ⟨hrp, hrpe⟩ := read_put hpv more
        obtain ⟨q0, q1, q2, q3⟩ := HB4.out
        have hpb := putW_byte hpv q0 q1 q2 q3
        have hwl : (putW n a0 a1 a2 a3 po s).length ≤ 2000000 := by
          rw [putW_length]
          have := check_size (putV_t hpv).2.1
          split <;> omega
        rw [e3] at HS23 ⊢
        have HRR := Lib.hid (HRQ.out _ (HAB.out _ hpb))
        rw [hrp, hrpe] at HRR
        have HWL := Lib.hid hwl
        have HSX : Hid (kB.IsSl N23 (.slice A23 (putW n a0 a1 a2 a3 po s).length c23) (putW n a0 a1 a2 a3 po s)) := Lib.hid HS23.out
        clear hrp hrpe hpb hwl e3 HS23 hpv q0 q1 q2 q3
        generalize putW n a0 a1 a2 a3 po s = WLX at *
        have hwlx := HWL.out
        go_wp2_with fail
        refine (bytesO_any _ WLX _ hw23 List.mem_cons_self HSX.out (by omega)).mono ?_
        rintro e w9 ⟨A4, c4, N4, cells, rfl, hw9, ho9, hcs⟩
        obtain rfl := reps_is hcs
        have HO9 := Lib.hid ho9
        clear hcs ho9
        go_wp2_with (at_builtin; go_must (refine wpList_app hw9 rfl (.tmp 111) (.tmp 112) 22 22 5 (.int .u8 0) 1 1 rfl Tryd.underlying22 (by kernel_rfl) rfl (by decide) _ _ WLX.length more.length (ints .u8 WLX) _ rfl rfl HO9.out (HSRC.out _ (hw9.has _ (by simp [hM]))) (by have := HL.out; omega) ?_); intro A5 c5 w10 N5 hw10 ho10 _ _)
        have hown : Own N5 5 1 (.slice A5 (WLX.length + more.length) c5) (WLX ++ more).length (ints .u8 (WLX ++ more)) := by
          rw [List.length_append, ints_append]; exact ho10
        have HS10 := Lib.hid (hown.isSl (d := kB) (reps_ints _) rfl (Hp.le_refl _))
        clear ho10 hown hw9 HO9
        refine (HRR.out _ N5 _ _ hw10 List.mem_cons_self HS10.out (by simp [hH])).mono ?_
        rintro e w31 ⟨v, E31, rfl, hw31, h31⟩
        obtain rfl : v = .nilIface := h31
        have hw32 := hw31.drop.drop.drop
        have y0 : w31.cell? ⟨nd, 0, none⟩ = some (.int .u8 a0) := hw32.one_cell rfl
        have y1 : w31.cell? ⟨nd, 1, none⟩ = some (.int .u8 a1) := hw32.one_cell rfl
        have y2 : w31.cell? ⟨nd, 2, none⟩ = some (.int .u8 a2) := hw32.one_cell rfl
        have y3 : w31.cell? ⟨nd, 3, none⟩ = some (.int .u8 a3) := hw32.one_cell rfl
        have y4 : w31.cell? ⟨nd, 4, none⟩ = some (.string s) := hw32.one_cell rfl
        have y5 : w31.cell? ⟨nd, 5, none⟩ = some (.int .i64 po) := hw32.one_cell rfl
        have hlt := hw32.one_lt
        have hfin := hw32.alloc' (.cells #[.int .u8 a0, .int .u8 a1, .int .u8 a2, .int .u8 a3, .string s, .int .i64 po] 29)
        clear hw31 hw10 HS10 HRR HSX HWL
        go_wp2
        go_ret
        exact ⟨rfl, hfin.drop⟩
      | false =>
        have e3 : putO n a0 a1 a2 a3 po s = ([], 2) := if_neg (by rw [hpv]; exact fun h => by cases h)
        rw [e3] at HS23 ⊢
        clear hpv e3
        go_wp2
        go_ret
        exact ⟨rfl, hw23.drop.drop⟩
end
end Go.Proofs.YtcndkpmeakaapaaDoor
