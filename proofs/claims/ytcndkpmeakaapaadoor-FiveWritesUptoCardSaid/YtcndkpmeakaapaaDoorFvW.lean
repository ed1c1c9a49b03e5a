/- Walk: the law FiveWrites. -/
import Derived.Test.YtcndkpmeakaapaaDoorFvV
set_option linter.unusedVariables false
set_option linter.unusedSimpArgs false
namespace Go.Proofs.YtcndkpmeakaapaaDoor
open Go Go.RowKit
section
variable {σ w w' : World} {Hs : List Hp} {H H1 H2 M N Y R E X HB : Hp}
set_option maxHeartbeats 8000000
set_option maxRecDepth 10000 in
theorem writes_any (v0 : Value) (ms : List Int) (u p : ByteArray) (n a0 a1 a2 a3 po : Int) (s : ByteArray) (m : Int) (w : World) (hw : Sat σ w Hs) (hB : H1 ∈ Hs) (hb : (Kd.int .i64).IsSl H1 v0 ms)
    (hl1 : ms.length ≤ 1048576) (hu : u.size ≤ 9223372036854775807) (hp : p.size ≤ 9223372036854775807) (hs : s.size ≤ 9223372036854775807) (hH : H ∈ Hs) (hm : Hp.cell H 1 0 = some (.int .i64 m)) :
    Calls Tryd.prog 6 #[v0, .string u, .string p, .int .i64 n, .agg #[.int .u8 a0, .int .u8 a1, .int .u8 a2, .int .u8 a3, .string s, .int .i64 po]] w fun e w' => e = .returned (.bool true) ∧ Sat σ w' Hs := by
  obtain ⟨A, c, rfl, _⟩ := id hb.form
  have HW := Lib.hid (fun w (Hs' : List Hp) (h : Sat σ w Hs') (hH' : H ∈ Hs') => works_any m w h hH' hm)
  have HIN := Lib.hid (fun w (Hs' : List Hp) (h : Sat σ w Hs') (hH' : H1 ∈ Hs') => ints_any _ ms w h hH' hb (by omega))
  have HPG := Lib.hid (fun v N w (Hs' : List Hp) (h : Sat σ w Hs') (hN : N ∈ Hs') (hx : (Kd.int .i64).IsSl N v ms) => putGreeting_any v ms (by omega) w h hN hx)
  have HRG := Lib.hid (fun w (Hs' : List Hp) (h : Sat σ w Hs') (hH' : H1 ∈ Hs') => rputGreeting_any _ ms w h hH' hb)
  have HPL := Lib.hid (fun w (Hs' : List Hp) (h : Sat σ w Hs') => putLogin_any u p hu hp w h)
  have HRL := Lib.hid (fun w (Hs' : List Hp) (h : Sat σ w Hs') => rputLogin_any u p hu hp w h)
  have HPR := Lib.hid (fun w (Hs' : List Hp) (h : Sat σ w Hs') (hH' : H ∈ Hs') => putReq_any n a0 a1 a2 a3 po s hs m w h hH' hm)
  have HRR := Lib.hid (fun w (Hs' : List Hp) (h : Sat σ w Hs') => rputReq_any n a0 a1 a2 a3 po s hs w h)
  have HPY := Lib.hid (fun w (Hs' : List Hp) (h : Sat σ w Hs') (hH' : H ∈ Hs') => putReply_any n a0 a1 a2 a3 po s hs m w h hH' hm)
  have HBI := Lib.hid hb
  unfold PutP at HPG HRG HPL HRL HPR HRR HPY
  generalize putGO ms = pg at *
  generalize putLogO u p = pl at *
  generalize putO n a0 a1 a2 a3 po s = pr at *
  obtain ⟨pg1, pg2⟩ := pg
  obtain ⟨pl1, pl2⟩ := pl
  obtain ⟨pr1, pr2⟩ := pr
  have q1 : (pg2 != pg2) = false := by simp
  have q2 : (pl2 != pl2) = false := by simp
  have q3 : (pr2 != pr2) = false := by simp
  clear hb hm hs hu hp hl1
  go_enter Tryd.func6, Tryd.ntmps6
  have hbx := hw.alloc (.cells #[.int .u8 a0, .int .u8 a1, .int .u8 a2, .int .u8 a3, .string s, .int .i64 po] 29)
  go_wp2_with fail
  generalize hnd : w.heap.size = nd at *
  generalize hwa : World.alloc _ _ = wa at *
  clear hwa hnd hw
  refine (HIN.out _ _ hbx (List.mem_cons_of_mem _ hB)).mono ?_
  rintro e w2 ⟨u0, N0, rfl, hw2, hs0⟩
  obtain ⟨A0, c0, rfl, _⟩ := id hs0.form
  have HS0 := Lib.hid hs0
  clear hbx hs0
  go_wp2_with fail
  refine (HPG.out _ N0 _ _ hw2 List.mem_cons_self HS0.out).mono ?_
  rintro e w3 ⟨va, Na, rfl, hw3, ha⟩
  obtain ⟨Aa, ca, rfl, _⟩ := id ha.form
  have HA := Lib.hid ha
  clear hw2 ha
  go_wp2_with fail
  refine (HRG.out _ _ hw3 (by simp [hB])).mono ?_
  rintro e w4 ⟨vb, Nb, rfl, hw4, hbb⟩
  obtain ⟨Ab, cb, rfl, _⟩ := id hbb.form
  have HBB := Lib.hid hbb
  clear hw3 hbb
  have HSB := Lib.hid (sameB_any (H1 := Na) (H2 := Nb) _ _ pg1 _ hw4 (by simp) (by simp) HA.out HBB.out)
  have HSI := Lib.hid (fun w' Hs' (h : Sat σ w' Hs') (k1 : N0 ∈ Hs') (k2 : H1 ∈ Hs') => sInts_any _ _ ms w' h k1 k2 HS0.out HBI.out)
  go_wp2_with (first
    | (go_at_call 27; go_must (refine HSB.out.mono ?_); rintro e w5 ⟨rfl, hw5⟩)
    | (go_at_call 18; go_must (refine (HSI.out _ _ hw5 (by simp) (by simp [hB])).mono ?_); rintro e w6 ⟨rfl, hw6⟩))
  have hw7 := hw6.drop.drop.drop
  clear hw4 hw5 hw6 HSB HSI HA HBB HS0 HIN HPG HRG
  refine (HPL.out _ _ hw7).mono ?_
  rintro e w8 ⟨va, Na, rfl, hw8, ha⟩
  obtain ⟨Aa, ca, rfl, _⟩ := id ha.form
  have HA := Lib.hid ha
  clear hw7 ha
  go_wp2_with fail
  refine (HRL.out _ _ hw8).mono ?_
  rintro e w9 ⟨vb, Nb, rfl, hw9, hbb⟩
  obtain ⟨Ab, cb, rfl, _⟩ := id hbb.form
  have HBB := Lib.hid hbb
  clear hw8 hbb
  have HSB := Lib.hid (sameB_any (H1 := Na) (H2 := Nb) _ _ pl1 _ hw9 (by simp) (by simp) HA.out HBB.out)
  have HDC : Hid (∀ w' a b, Sat σ w' (a :: b :: Hp.one nd (.cells #[.int .u8 a0, .int .u8 a1, .int .u8 a2, .int .u8 a3, .string s, .int .i64 po] 29 (0, 0)) :: Hs) → Sat σ w' (Hp.one nd (.cells #[.int .u8 a0, .int .u8 a1, .int .u8 a2, .int .u8 a3, .string s, .int .i64 po] 29 (0, 0)) :: Hs)) := Lib.hid (fun w' a b h => h.drop.drop)
  go_wp2_with (go_at_call 27; go_must (refine HSB.out.mono ?_); rintro e w10 ⟨rfl, hw10⟩; have hw11 := HDC.out _ _ _ hw10; have y0 : w10.cell? ⟨nd, 0, none⟩ = some (.int .u8 a0) := hw11.one_cell rfl; have y1 : w10.cell? ⟨nd, 1, none⟩ = some (.int .u8 a1) := hw11.one_cell rfl; have y2 : w10.cell? ⟨nd, 2, none⟩ = some (.int .u8 a2) := hw11.one_cell rfl; have y3 : w10.cell? ⟨nd, 3, none⟩ = some (.int .u8 a3) := hw11.one_cell rfl; have y4 : w10.cell? ⟨nd, 4, none⟩ = some (.string s) := hw11.one_cell rfl; have y5 : w10.cell? ⟨nd, 5, none⟩ = some (.int .i64 po) := hw11.one_cell rfl)
  clear hw9 hw10 HSB HA HBB HPL HRL HDC y0 y1 y2 y3 y4 y5
  refine (HPR.out _ _ hw11 (by simp [hH])).mono ?_
  rintro e w12 ⟨va, Na, rfl, hw12, ha⟩
  obtain ⟨Aa, ca, rfl, _⟩ := id ha.form
  have HA := Lib.hid ha
  have hd12 := hw12.swap
  have y0 : w12.cell? ⟨nd, 0, none⟩ = some (.int .u8 a0) := hd12.one_cell rfl
  have y1 : w12.cell? ⟨nd, 1, none⟩ = some (.int .u8 a1) := hd12.one_cell rfl
  have y2 : w12.cell? ⟨nd, 2, none⟩ = some (.int .u8 a2) := hd12.one_cell rfl
  have y3 : w12.cell? ⟨nd, 3, none⟩ = some (.int .u8 a3) := hd12.one_cell rfl
  have y4 : w12.cell? ⟨nd, 4, none⟩ = some (.string s) := hd12.one_cell rfl
  have y5 : w12.cell? ⟨nd, 5, none⟩ = some (.int .i64 po) := hd12.one_cell rfl
  clear hw11 ha
  go_wp2_with fail
  clear y0 y1 y2 y3 y4 y5 hd12
  refine (HRR.out _ _ hw12).mono ?_
  rintro e w13 ⟨vb, Nb, rfl, hw13, hbb⟩
  obtain ⟨Ab, cb, rfl, _⟩ := id hbb.form
  have HBB := Lib.hid hbb
  have hd13 := hw13.up2
  have y0 : w13.cell? ⟨nd, 0, none⟩ = some (.int .u8 a0) := hd13.one_cell rfl
  have y1 : w13.cell? ⟨nd, 1, none⟩ = some (.int .u8 a1) := hd13.one_cell rfl
  have y2 : w13.cell? ⟨nd, 2, none⟩ = some (.int .u8 a2) := hd13.one_cell rfl
  have y3 : w13.cell? ⟨nd, 3, none⟩ = some (.int .u8 a3) := hd13.one_cell rfl
  have y4 : w13.cell? ⟨nd, 4, none⟩ = some (.string s) := hd13.one_cell rfl
  have y5 : w13.cell? ⟨nd, 5, none⟩ = some (.int .i64 po) := hd13.one_cell rfl
  clear hw12 hbb
  go_wp2_with fail
  clear y0 y1 y2 y3 y4 y5 hd13
  refine (HPY.out _ _ hw13 (by simp [hH])).mono ?_
  rintro e w14 ⟨vc, Nc, rfl, hw14, hcc⟩
  obtain ⟨Ac, cc, rfl, _⟩ := id hcc.form
  have HC := Lib.hid hcc
  clear hw13 hcc
  have HSB := Lib.hid (sameB_any (H1 := Na) (H2 := Nb) _ _ pr1 _ hw14 (by simp) (by simp) HA.out HBB.out)
  have HSC := Lib.hid (fun w' Hs' (h : Sat σ w' Hs') (k1 : Nc ∈ Hs') (k2 : Nb ∈ Hs') => sameB_any (H1 := Nc) (H2 := Nb) _ _ pr1 w' h k1 k2 HC.out HBB.out)
  go_wp2_with (first
    | (go_at_call 27; refine HSB.out.mono ?_; rintro e w15 ⟨rfl, hw15⟩; clear HSB)
    | (go_at_call 27; go_must (refine (HSC.out _ _ hw15 (by simp) (by simp)).mono ?_); rintro e w16 ⟨rfl, hw16⟩))
  have hw17 := hw16.drop.drop.drop.drop
  clear hw14 hw15 hw16 HSC HA HBB HC HPR HRR HPY
  have HP5 := Lib.hid (fun w (Hs' : List Hp) (h : Sat σ w Hs') => putChoice_any n w h)
  have HP1 := Lib.hid (fun w (Hs' : List Hp) (h : Sat σ w Hs') => putVerdict_any n w h)
  have HT5 := Lib.hid (fun w (Hs' : List Hp) (h : Sat σ w Hs') => rputTwo_any 5 n w h)
  have HT1 := Lib.hid (fun w (Hs' : List Hp) (h : Sat σ w Hs') => rputTwo_any 1 n w h)
  unfold PutP at HP5 HP1 HT5 HT1
  generalize two2 5 n = t5 at *
  generalize two2 1 n = t1 at *
  obtain ⟨x1, x2⟩ := t5
  obtain ⟨z1, z2⟩ := t1
  have q4 : (x2 == x2) = true := by simp
  have q5 : (z2 == z2) = true := by simp
  refine (HP5.out _ _ hw17).mono ?_
  rintro e w18 ⟨va, Na, rfl, hw18, ha⟩
  obtain ⟨Aa, ca, rfl, _⟩ := id ha.form
  have HA := Lib.hid ha
  clear hw17 ha
  go_wp2_with fail
  refine (HT5.out _ _ hw18).mono ?_
  rintro e w19 ⟨vb, Nb, rfl, hw19, hbb⟩
  obtain ⟨Ab, cb, rfl, _⟩ := id hbb.form
  have HBB := Lib.hid hbb
  clear hw18 hbb
  go_wp2_with fail
  refine (HP1.out _ _ hw19).mono ?_
  rintro e w20 ⟨vc, Nc, rfl, hw20, hcc⟩
  obtain ⟨Ac, cc, rfl, _⟩ := id hcc.form
  have HC := Lib.hid hcc
  clear hw19 hcc
  go_wp2_with fail
  refine (HT1.out _ _ hw20).mono ?_
  rintro e w21 ⟨vd, Nd, rfl, hw21, hdd⟩
  obtain ⟨Ad, cd, rfl, _⟩ := id hdd.form
  have HD := Lib.hid hdd
  clear hw20 hdd
  have HSB := Lib.hid (sameB_any (H1 := Na) (H2 := Nb) _ _ x1 _ hw21 (by simp) (by simp) HA.out HBB.out)
  have HSC := Lib.hid (fun w' Hs' (h : Sat σ w' Hs') (k1 : Nc ∈ Hs') (k2 : Nd ∈ Hs') => sameB_any (H1 := Nc) (H2 := Nd) _ _ z1 w' h k1 k2 HC.out HD.out)
  go_wp2_with (first
    | (go_at_call 27; refine HSB.out.mono ?_; rintro e w22 ⟨rfl, hw22⟩; clear HSB)
    | (go_at_call 27; go_must (refine (HSC.out _ _ hw22 (by simp) (by simp)).mono ?_); rintro e w23 ⟨rfl, hw23⟩)
    | (go_at_call 8; go_must (refine (HW.out _ _ hw23 (by simp [hH])).mono ?_); rintro e w24 ⟨rfl, hw24⟩))
  go_ret
  exact ⟨rfl, hw24.drop.drop.drop.drop⟩
end
end Go.Proofs.YtcndkpmeakaapaaDoor
