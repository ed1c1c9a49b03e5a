/- Walk: the law FiveReads. -/
import Derived.Test.YtcndkpmeakaapaaDoorFwD
set_option linter.unusedVariables false
set_option linter.unusedSimpArgs false
namespace Go.Proofs.YtcndkpmeakaapaaDoor
open Go Go.RowKit
theorem BE_form (e : Option (Ch × Int)) : ∃ x0 x1 x2 x3 x4 x5 x6 x7 x8 x9, BE e = #[.int .i64 x0, .string x1, .string x2, .string x3, .string x4, .int .i64 x5, .int .i64 x6, .int .i64 x7, .int .i64 x8, .int .i64 x9] := ⟨_, _, _, _, _, _, _, _, _, _, rfl⟩
theorem bad_rowG (x0 x5 x6 x7 x8 x9 : Int) (x1 x2 x3 x4 : ByteArray) : (Tryd.prog.info? 41).map (·.size) = some (#[.int .i64 x0, .string x1, .string x2, .string x3, .string x4, .int .i64 x5, .int .i64 x6, .int .i64 x7, .int .i64 x8, .int .i64 x9] : Array Value).size ∧ (#[.int .i64 x0, .string x1, .string x2, .string x3, .string x4, .int .i64 x5, .int .i64 x6, .int .i64 x7, .int .i64 x8, .int .i64 x9] : Array Value).all (·.oneCell') = true := ⟨BE_info, by simp [Value.oneCell']⟩
theorem bad_size (x0 x5 x6 x7 x8 x9 y0 y5 y6 y7 y8 y9 : Int) (x1 x2 x3 x4 y1 y2 y3 y4 : ByteArray) : (#[.int .i64 x0, .string x1, .string x2, .string x3, .string x4, .int .i64 x5, .int .i64 x6, .int .i64 x7, .int .i64 x8, .int .i64 x9] : Array Value).size = (#[.int .i64 y0, .string y1, .string y2, .string y3, .string y4, .int .i64 y5, .int .i64 y6, .int .i64 y7, .int .i64 y8, .int .i64 y9] : Array Value).size := rfl
section
variable {σ w w' : World} {Hs : List Hp} {H H1 H2 M N Y R E X HB : Hp}
set_option maxHeartbeats 8000000
theorem isBE_any (v : Value) (er : Option (Ch × Int)) (w : World) (hw : Sat σ w Hs) (hH : H ∈ Hs) (hv : EV H v er) :
    Calls Tryd.prog 12 #[v, .agg (BE er)] w fun e w' => e = .returned (.bool true) ∧ Sat σ w' Hs := isE_any v er w hw hH hv
set_option maxRecDepth 10000 in
theorem reads_any (b0 : Value) (bs : List Int) (m : Int) (w : World) (hw : Sat σ w Hs) (hB : H1 ∈ Hs) (hb : kB.IsSl H1 b0 bs) (hbs : ∀ x ∈ bs, 0 ≤ x ∧ x < 256) (hl : bs.length ≤ 1048576) (hH : H ∈ Hs) (hm : Hp.cell H 1 0 = some (.int .i64 m)) :
    Calls Tryd.prog 5 #[b0] w fun e w' => e = .returned (.bool true) ∧ Sat σ w' Hs := by
  obtain ⟨A, c, rfl, _⟩ := id hb.form
  have HW := Lib.hid (fun w (Hs' : List Hp) (h : Sat σ w Hs') (hH' : H ∈ Hs') => works_any m w h hH' hm)
  have HBY := Lib.hid (fun w (Hs' : List Hp) (h : Sat σ w Hs') (hH' : H1 ∈ Hs') => bytesO_any _ bs w h hH' hb (by omega))
  have HBI := Lib.hid hb
  have HPG := Lib.hid (fun v N w (Hs' : List Hp) (h : Sat σ w Hs') (hN : N ∈ Hs') (hx : kB.IsSl N v bs) => greeting_any v bs hbs w h hN hx)
  have HRG := Lib.hid (fun w (Hs' : List Hp) (h : Sat σ w Hs') (hH' : H1 ∈ Hs') => rgreeting_any _ bs hbs w h hH' hb)
  have HPL := Lib.hid (fun v N w (Hs' : List Hp) (h : Sat σ w Hs') (hN : N ∈ Hs') (hx : kB.IsSl N v bs) => login_any v bs hbs w h hN hx)
  have HRL := Lib.hid (fun w (Hs' : List Hp) (h : Sat σ w Hs') (hH' : H1 ∈ Hs') => rlogin_any _ bs hbs w h hH' hb)
  have HPQ := Lib.hid (fun v N w (Hs' : List Hp) (h : Sat σ w Hs') (hN : N ∈ Hs') (hx : kB.IsSl N v bs) (hM : H ∈ Hs') => request_any v bs hbs m w h hN hx hM hm)
  have HRQ := Lib.hid (fun w (Hs' : List Hp) (h : Sat σ w Hs') (hH' : H1 ∈ Hs') => rrequest_any _ bs hbs w h hH' hb)
  have HPY := Lib.hid (fun v N w (Hs' : List Hp) (h : Sat σ w Hs') (hN : N ∈ Hs') (hx : kB.IsSl N v bs) (hM : H ∈ Hs') => reply_any v bs hbs m w h hN hx hM hm)
  have HPC := Lib.hid (fun v N w (Hs' : List Hp) (h : Sat σ w Hs') (hN : N ∈ Hs') (hx : kB.IsSl N v bs) => choice_any v bs hbs w h hN hx)
  have HRC := Lib.hid (fun w (Hs' : List Hp) (h : Sat σ w Hs') (hH' : H1 ∈ Hs') => rchoice_any _ bs hbs w h hH' hb)
  have HPV := Lib.hid (fun v N w (Hs' : List Hp) (h : Sat σ w Hs') (hN : N ∈ Hs') (hx : kB.IsSl N v bs) => verdict_any v bs hbs w h hN hx)
  have HRV := Lib.hid (fun w (Hs' : List Hp) (h : Sat σ w Hs') (hH' : H1 ∈ Hs') => rverdict_any _ bs hbs w h hH' hb)
  unfold GrP at HPG
  unfold RGrP at HRG
  unfold LoP at HPL
  unfold RLoP at HRL
  unfold RReqP at HRQ
  unfold ShP at HPC HPV
  unfold RTwoP at HRC HRV
  have HIx := Lib.hid (fun v H (hv : EV H v (gr2 bs).2.err) w' Hs' (h : Sat σ w' Hs') (hH' : H ∈ Hs') => isBE_any v (gr2 bs).2.err w' h hH' hv)
  have HIy := Lib.hid (fun v H (hv : EV H v (lo3 bs).2.err) w' Hs' (h : Sat σ w' Hs') (hH' : H ∈ Hs') => isBE_any v (lo3 bs).2.err w' h hH' hv)
  have HIz := Lib.hid (fun v H (hv : EV H v (req6 bs).2.err) w' Hs' (h : Sat σ w' Hs') (hH' : H ∈ Hs') => isBE_any v (req6 bs).2.err w' h hH' hv)
  have HIc := Lib.hid (fun v H (hv : EV H v (sh2 bs 5).2.err) w' Hs' (h : Sat σ w' Hs') (hH' : H ∈ Hs') => isBE_any v (sh2 bs 5).2.err w' h hH' hv)
  have HIv := Lib.hid (fun v H (hv : EV H v (sh2 bs 1).2.err) w' Hs' (h : Sat σ w' Hs') (hH' : H ∈ Hs') => isBE_any v (sh2 bs 1).2.err w' h hH' hv)
  obtain ⟨kx0, kx1, kx2, kx3, kx4, kx5, kx6, kx7, kx8, kx9, hfkx⟩ := BE_form ((gr2 bs).2.err)
  obtain ⟨ky0, ky1, ky2, ky3, ky4, ky5, ky6, ky7, ky8, ky9, hfky⟩ := BE_form ((lo3 bs).2.err)
  obtain ⟨kz0, kz1, kz2, kz3, kz4, kz5, kz6, kz7, kz8, kz9, hfkz⟩ := BE_form ((req6 bs).2.err)
  obtain ⟨kc0, kc1, kc2, kc3, kc4, kc5, kc6, kc7, kc8, kc9, hfkc⟩ := BE_form ((sh2 bs 5).2.err)
  obtain ⟨kv0, kv1, kv2, kv3, kv4, kv5, kv6, kv7, kv8, kv9, hfkv⟩ := BE_form ((sh2 bs 1).2.err)
  rw [hfkx] at HIx
  rw [hfky] at HIy
  rw [hfkz] at HIz
  rw [hfkc] at HIc
  rw [hfkv] at HIv
  rw [hfkx] at HRG
  rw [hfky] at HRL
  rw [hfkz] at HRQ
  rw [hfkc] at HRC
  rw [hfkv] at HRV
  obtain ⟨a0, a1, a2, a3, s, p, hdst⟩ := reqO_form bs
  clear hfkx hfky hfkz hfkc hfkv hb hm
  generalize grO bs = og at *
  generalize loO bs = ol at *
  generalize reqO bs = oq at *
  generalize shO bs 5 = oc at *
  generalize shO bs 1 = ov at *
  generalize (gr2 bs).2.err = erx at *
  generalize (lo3 bs).2.err = ery at *
  generalize (req6 bs).2.err = erz at *
  generalize (sh2 bs 5).2.err = erc at *
  generalize (sh2 bs 1).2.err = erv at *
  obtain ⟨g1, g2⟩ := og
  obtain ⟨l1, l2, l3⟩ := ol
  obtain ⟨r1, r2, r3⟩ := oq
  obtain rfl : r2 = _ := hdst
  obtain ⟨c1, c2⟩ := oc
  obtain ⟨v1, v2⟩ := ov
  have deq : ∀ W : World, (Op.equalIn 10000 29 (.agg #[.int .u8 a0, .int .u8 a1, .int .u8 a2, .int .u8 a3, .string s, .int .i64 p]) (.agg #[.int .u8 a0, .int .u8 a1, .int .u8 a2, .int .u8 a3, .string s, .int .i64 p])).run Tryd.prog W = .ok true W := fun W => dest_refl W a0 a1 a2 a3 p s
  have zg : (g2 != g2) = false := by simp
  have zl1 : (l1.toList != l1.toList) = false := by simp
  have zl2 : (l2.toList != l2.toList) = false := by simp
  have zl3 : (l3 != l3) = false := by simp
  have zr1 : (r1 != r1) = false := by simp
  have zr3 : (r3 != r3) = false := by simp
  have zc1 : (c1 != c1) = false := by simp
  have zc2 : (c2 != c2) = false := by simp
  have zv1 : (v1 == v1) = true := by simp
  have zv2 : (v2 == v2) = true := by simp
  go_enter Tryd.func5, Tryd.ntmps5
  go_wp2_with fail
  refine (HBY.out _ _ hw hB).mono ?_
  rintro e w2 ⟨A4, c4, N4, cells, rfl, hw2, ho4, hcs⟩
  obtain rfl := reps_is hcs
  have HS4 := Lib.hid (ho4.isSl (d := kB) (reps_ints _) rfl (Hp.le_refl _))
  clear hw ho4 hcs
  go_wp2_with fail
  refine (HPG.out _ N4 _ _ hw2 List.mem_cons_self HS4.out).mono ?_
  rintro e w3 ⟨vg, u, NG, E1, rfl, hw3, h3, hng⟩
  obtain ⟨Ag, cg, rfl, _⟩ := id hng.form
  have HNG := Lib.hid hng
  have HIs := Lib.hid (HIx.out u E1 h3)
  clear hw2 h3 hng
  go_wp2_with fail
  refine (HRG.out _ _ hw3 (by simp [hB])).mono ?_
  rintro e w4 ⟨vr, NR, rfl, hw4, hnr⟩
  obtain ⟨Ar, cr, rfl, _⟩ := id hnr.form
  have HNR := Lib.hid hnr
  clear hw3 hnr
  have hw5 := hw4.alloc (.cells #[.int .i64 0, .string ⟨#[]⟩, .string ⟨#[]⟩, .string ⟨#[]⟩, .string ⟨#[]⟩, .int .i64 0, .int .i64 0, .int .i64 0, .int .i64 0, .int .i64 0] 41)
  generalize hn9 : w4.heap.size = n9 at *
  have HW5 := Lib.hid hw5
  have hw6 := hw5.setRow #[.int .i64 kx0, .string kx1, .string kx2, .string kx3, .string kx4, .int .i64 kx5, .int .i64 kx6, .int .i64 kx7, .int .i64 kx8, .int .i64 kx9]
  clear hw5
  go_upto_region 4 with (with_reducible show wpList _ _ _ [{ dst := none, op := _, type := _, pos := _, after := _, guard := _ }] _ _; go_must (refine wpList_store_row rfl 41 (.tmp 9) (.tmp 31) rfl n9 #[.int .i64 kx0, .string kx1, .string kx2, .string kx3, .string kx4, .int .i64 kx5, .int .i64 kx6, .int .i64 kx7, .int .i64 kx8, .int .i64 kx9] rfl rfl 41 _ HW5.out.heap (bad_rowG _ _ _ _ _ _ _ _ _ _).1 (bad_size _ _ _ _ _ _ _ _ _ _ _ _ _ _ _ _ _ _ _ _) (bad_rowG _ _ _ _ _ _ _ _ _ _).2 ?_))
  generalize hw6e : World.setRow _ _ _ = w6 at *
  clear hw6e hw4 hn9 HW5
  have HSI := Lib.hid (sInts_any _ _ g1 w6 hw6 (H1 := NG) (H2 := NR) (by simp) (by simp) HNG.out HNR.out)
  go_wp2_with (first
    | (go_at_call 18; go_must (refine HSI.out.mono ?_); rintro e w7 ⟨rfl, hw7⟩; have d0 : w7.cell? ⟨n9, 0, none⟩ = some (.int .i64 kx0) := hw7.one_cell rfl; have d1 : w7.cell? ⟨n9, 1, none⟩ = some (.string kx1) := hw7.one_cell rfl; have d2 : w7.cell? ⟨n9, 2, none⟩ = some (.string kx2) := hw7.one_cell rfl; have d3 : w7.cell? ⟨n9, 3, none⟩ = some (.string kx3) := hw7.one_cell rfl; have d4 : w7.cell? ⟨n9, 4, none⟩ = some (.string kx4) := hw7.one_cell rfl; have d5 : w7.cell? ⟨n9, 5, none⟩ = some (.int .i64 kx5) := hw7.one_cell rfl; have d6 : w7.cell? ⟨n9, 6, none⟩ = some (.int .i64 kx6) := hw7.one_cell rfl; have d7 : w7.cell? ⟨n9, 7, none⟩ = some (.int .i64 kx7) := hw7.one_cell rfl; have d8 : w7.cell? ⟨n9, 8, none⟩ = some (.int .i64 kx8) := hw7.one_cell rfl; have d9 : w7.cell? ⟨n9, 9, none⟩ = some (.int .i64 kx9) := hw7.one_cell rfl)
    | (go_at_call 12; go_must (refine (HIs.out _ _ hw7 (by simp)).mono ?_); rintro e w9 ⟨rfl, hw9⟩))
  have hwA : Sat σ w9 (Hp.one n9 (.cells #[.int .i64 kx0, .string kx1, .string kx2, .string kx3, .string kx4, .int .i64 kx5, .int .i64 kx6, .int .i64 kx7, .int .i64 kx8, .int .i64 kx9] 41 (0, 0)) :: N4 :: Hs) := hw9.drop3
  clear hw6 hw7 hw9 HSI HIs HNG HNR HPG HRG d0 d1 d2 d3 d4 d5 d6 d7 d8 d9
  refine (HPL.out _ N4 _ _ hwA (by simp) HS4.out).mono ?_
  rintro e w3 ⟨u, E1, rfl, hw3, h3⟩
  have HIs := Lib.hid (HIy.out u E1 h3)
  clear hwA h3
  go_wp2_with fail
  refine (HRL.out _ _ hw3 (by simp [hB])).mono ?_
  rintro e w4 ⟨rfl, hw4⟩
  have HW5 := Lib.hid hw4.swap
  have hw6 := hw4.swap.setRow #[.int .i64 ky0, .string ky1, .string ky2, .string ky3, .string ky4, .int .i64 ky5, .int .i64 ky6, .int .i64 ky7, .int .i64 ky8, .int .i64 ky9]
  clear hw3 hw4
  go_upto_region 8 with (with_reducible show wpList _ _ _ [{ dst := none, op := _, type := _, pos := _, after := _, guard := _ }] _ _; go_must (refine wpList_store_row rfl 41 (.tmp 9) (.tmp 60) rfl n9 #[.int .i64 ky0, .string ky1, .string ky2, .string ky3, .string ky4, .int .i64 ky5, .int .i64 ky6, .int .i64 ky7, .int .i64 ky8, .int .i64 ky9] rfl rfl 41 _ HW5.out.heap (bad_rowG _ _ _ _ _ _ _ _ _ _).1 (bad_size _ _ _ _ _ _ _ _ _ _ _ _ _ _ _ _ _ _ _ _) (bad_rowG _ _ _ _ _ _ _ _ _ _).2 ?_))
  generalize hw6e : World.setRow _ _ _ = w6 at *
  clear hw6e HW5
  have d0 : w6.cell? ⟨n9, 0, none⟩ = some (.int .i64 ky0) := hw6.one_cell rfl
  have d1 : w6.cell? ⟨n9, 1, none⟩ = some (.string ky1) := hw6.one_cell rfl
  have d2 : w6.cell? ⟨n9, 2, none⟩ = some (.string ky2) := hw6.one_cell rfl
  have d3 : w6.cell? ⟨n9, 3, none⟩ = some (.string ky3) := hw6.one_cell rfl
  have d4 : w6.cell? ⟨n9, 4, none⟩ = some (.string ky4) := hw6.one_cell rfl
  have d5 : w6.cell? ⟨n9, 5, none⟩ = some (.int .i64 ky5) := hw6.one_cell rfl
  have d6 : w6.cell? ⟨n9, 6, none⟩ = some (.int .i64 ky6) := hw6.one_cell rfl
  have d7 : w6.cell? ⟨n9, 7, none⟩ = some (.int .i64 ky7) := hw6.one_cell rfl
  have d8 : w6.cell? ⟨n9, 8, none⟩ = some (.int .i64 ky8) := hw6.one_cell rfl
  have d9 : w6.cell? ⟨n9, 9, none⟩ = some (.int .i64 ky9) := hw6.one_cell rfl
  go_wp2_with (go_at_call 12; go_must (refine (HIs.out _ _ hw6 (by simp)).mono ?_); rintro e w9 ⟨rfl, hw9⟩)
  have hwA : Sat σ w9 (Hp.one n9 (.cells #[.int .i64 ky0, .string ky1, .string ky2, .string ky3, .string ky4, .int .i64 ky5, .int .i64 ky6, .int .i64 ky7, .int .i64 ky8, .int .i64 ky9] 41 (0, 0)) :: N4 :: Hs) := hw9.drop1
  clear hw6 hw9 HIs HPL HRL d0 d1 d2 d3 d4 d5 d6 d7 d8 d9
  refine (HPQ.out _ N4 _ _ hwA (by simp) HS4.out (by simp [hH])).mono ?_
  rintro e w3 ⟨u, E1, rfl, hw3, h3⟩
  have HIs := Lib.hid (HIz.out u E1 h3)
  have hw4 := hw3.alloc (.cells #[.int .u8 a0, .int .u8 a1, .int .u8 a2, .int .u8 a3, .string s, .int .i64 p] 29)
  clear hwA h3 hw3
  go_wp2_with fail
  generalize hnd : w3.heap.size = nd at *
  generalize hw3e : World.alloc _ _ = w4 at *
  clear hw3e hnd
  refine (HRQ.out _ _ hw4 (by simp [hB])).mono ?_
  rintro e w5 ⟨rfl, hw5⟩
  have hw6 := (hw5.alloc (.cells #[.int .u8 a0, .int .u8 a1, .int .u8 a2, .int .u8 a3, .string s, .int .i64 p] 29))
  generalize hne : w5.heap.size = ne at *
  have HW6 := Lib.hid hw6.up3
  have hw7 := hw6.up3.setRow #[.int .i64 kz0, .string kz1, .string kz2, .string kz3, .string kz4, .int .i64 kz5, .int .i64 kz6, .int .i64 kz7, .int .i64 kz8, .int .i64 kz9]
  clear hw4 hw5 hw6
  go_upto_region 12 with (with_reducible show wpList _ _ _ [{ dst := none, op := _, type := _, pos := _, after := _, guard := _ }] _ _; go_must (refine wpList_store_row rfl 41 (.tmp 9) (.tmp 93) rfl n9 #[.int .i64 kz0, .string kz1, .string kz2, .string kz3, .string kz4, .int .i64 kz5, .int .i64 kz6, .int .i64 kz7, .int .i64 kz8, .int .i64 kz9] rfl rfl 41 _ HW6.out.heap (bad_rowG _ _ _ _ _ _ _ _ _ _).1 (bad_size _ _ _ _ _ _ _ _ _ _ _ _ _ _ _ _ _ _ _ _) (bad_rowG _ _ _ _ _ _ _ _ _ _).2 ?_))
  generalize hw7e : World.setRow _ _ _ = w7 at *
  clear hw7e HW6 hne
  have hwe := hw7.swap
  have hwd := hw7.up2
  have d0 : w7.cell? ⟨n9, 0, none⟩ = some (.int .i64 kz0) := hw7.one_cell rfl
  have d1 : w7.cell? ⟨n9, 1, none⟩ = some (.string kz1) := hw7.one_cell rfl
  have d2 : w7.cell? ⟨n9, 2, none⟩ = some (.string kz2) := hw7.one_cell rfl
  have d3 : w7.cell? ⟨n9, 3, none⟩ = some (.string kz3) := hw7.one_cell rfl
  have d4 : w7.cell? ⟨n9, 4, none⟩ = some (.string kz4) := hw7.one_cell rfl
  have d5 : w7.cell? ⟨n9, 5, none⟩ = some (.int .i64 kz5) := hw7.one_cell rfl
  have d6 : w7.cell? ⟨n9, 6, none⟩ = some (.int .i64 kz6) := hw7.one_cell rfl
  have d7 : w7.cell? ⟨n9, 7, none⟩ = some (.int .i64 kz7) := hw7.one_cell rfl
  have d8 : w7.cell? ⟨n9, 8, none⟩ = some (.int .i64 kz8) := hw7.one_cell rfl
  have d9 : w7.cell? ⟨n9, 9, none⟩ = some (.int .i64 kz9) := hw7.one_cell rfl
  have q0 : w7.cell? ⟨ne, 0, none⟩ = some (.int .u8 a0) := hwe.one_cell rfl
  have q1 : w7.cell? ⟨ne, 1, none⟩ = some (.int .u8 a1) := hwe.one_cell rfl
  have q2 : w7.cell? ⟨ne, 2, none⟩ = some (.int .u8 a2) := hwe.one_cell rfl
  have q3 : w7.cell? ⟨ne, 3, none⟩ = some (.int .u8 a3) := hwe.one_cell rfl
  have q4 : w7.cell? ⟨ne, 4, none⟩ = some (.string s) := hwe.one_cell rfl
  have q5 : w7.cell? ⟨ne, 5, none⟩ = some (.int .i64 p) := hwe.one_cell rfl
  have r0 : w7.cell? ⟨nd, 0, none⟩ = some (.int .u8 a0) := hwd.one_cell rfl
  have r1 : w7.cell? ⟨nd, 1, none⟩ = some (.int .u8 a1) := hwd.one_cell rfl
  have r2 : w7.cell? ⟨nd, 2, none⟩ = some (.int .u8 a2) := hwd.one_cell rfl
  have r3 : w7.cell? ⟨nd, 3, none⟩ = some (.int .u8 a3) := hwd.one_cell rfl
  have r4 : w7.cell? ⟨nd, 4, none⟩ = some (.string s) := hwd.one_cell rfl
  have r5 : w7.cell? ⟨nd, 5, none⟩ = some (.int .i64 p) := hwd.one_cell rfl
  clear hwe hwd
  go_wp2_with (go_at_call 12; go_must (refine (HIs.out _ _ hw7 (by simp)).mono ?_); rintro e w9 ⟨rfl, hw9⟩)
  have hwB : Sat σ w9 (Hp.one n9 (.cells #[.int .i64 kz0, .string kz1, .string kz2, .string kz3, .string kz4, .int .i64 kz5, .int .i64 kz6, .int .i64 kz7, .int .i64 kz8, .int .i64 kz9] 41 (0, 0)) :: Hp.one ne (.cells #[.int .u8 a0, .int .u8 a1, .int .u8 a2, .int .u8 a3, .string s, .int .i64 p] 29 (0, 0)) :: Hp.one nd (.cells #[.int .u8 a0, .int .u8 a1, .int .u8 a2, .int .u8 a3, .string s, .int .i64 p] 29 (0, 0)) :: N4 :: Hs) := hw9.sub (List.Sublist.cons_cons _ (List.Sublist.cons_cons _ (List.Sublist.cons_cons _ (List.sublist_cons_self _ _))))
  clear hw7 hw9 HIs HPQ HRQ d0 d1 d2 d3 d4 d5 d6 d7 d8 d9 q0 q1 q2 q3 q4 q5 r0 r1 r2 r3 r4 r5
  refine (HPY.out _ N4 _ _ hwB (by simp) HS4.out (by simp [hH])).mono ?_
  rintro e w3 ⟨u, E1, rfl, hw3, h3⟩
  have HIs := Lib.hid (HIz.out u E1 h3)
  have HW4 := Lib.hid hw3.up3
  have hw5 := hw3.up3.setRow #[.int .u8 a0, .int .u8 a1, .int .u8 a2, .int .u8 a3, .string s, .int .i64 p]
  clear hwB h3 hw3
  go_upto_region 15 with (with_reducible show wpList _ _ _ [{ dst := none, op := _, type := _, pos := _, after := _, guard := _ }, _, _] _ _; go_must (refine wpList_store_row rfl 29 (.tmp 15) (.tmp 117) rfl nd #[.int .u8 a0, .int .u8 a1, .int .u8 a2, .int .u8 a3, .string s, .int .i64 p] rfl rfl 29 _ HW4.out.heap (dest_row a0 a1 a2 a3 p s).1 rfl (dest_row a0 a1 a2 a3 p s).2.2 ?_))
  generalize hw5e : World.setRow _ _ _ = w5 at *
  clear hw5e HW4
  have hwe := hw5.up3
  have hwf := hw5.up2
  have d0 : w5.cell? ⟨n9, 0, none⟩ = some (.int .i64 kz0) := hwf.one_cell rfl
  have d1 : w5.cell? ⟨n9, 1, none⟩ = some (.string kz1) := hwf.one_cell rfl
  have d2 : w5.cell? ⟨n9, 2, none⟩ = some (.string kz2) := hwf.one_cell rfl
  have d3 : w5.cell? ⟨n9, 3, none⟩ = some (.string kz3) := hwf.one_cell rfl
  have d4 : w5.cell? ⟨n9, 4, none⟩ = some (.string kz4) := hwf.one_cell rfl
  have d5 : w5.cell? ⟨n9, 5, none⟩ = some (.int .i64 kz5) := hwf.one_cell rfl
  have d6 : w5.cell? ⟨n9, 6, none⟩ = some (.int .i64 kz6) := hwf.one_cell rfl
  have d7 : w5.cell? ⟨n9, 7, none⟩ = some (.int .i64 kz7) := hwf.one_cell rfl
  have d8 : w5.cell? ⟨n9, 8, none⟩ = some (.int .i64 kz8) := hwf.one_cell rfl
  have d9 : w5.cell? ⟨n9, 9, none⟩ = some (.int .i64 kz9) := hwf.one_cell rfl
  have q0 : w5.cell? ⟨ne, 0, none⟩ = some (.int .u8 a0) := hwe.one_cell rfl
  have q1 : w5.cell? ⟨ne, 1, none⟩ = some (.int .u8 a1) := hwe.one_cell rfl
  have q2 : w5.cell? ⟨ne, 2, none⟩ = some (.int .u8 a2) := hwe.one_cell rfl
  have q3 : w5.cell? ⟨ne, 3, none⟩ = some (.int .u8 a3) := hwe.one_cell rfl
  have q4 : w5.cell? ⟨ne, 4, none⟩ = some (.string s) := hwe.one_cell rfl
  have q5 : w5.cell? ⟨ne, 5, none⟩ = some (.int .i64 p) := hwe.one_cell rfl
  have r0 : w5.cell? ⟨nd, 0, none⟩ = some (.int .u8 a0) := hw5.one_cell rfl
  have r1 : w5.cell? ⟨nd, 1, none⟩ = some (.int .u8 a1) := hw5.one_cell rfl
  have r2 : w5.cell? ⟨nd, 2, none⟩ = some (.int .u8 a2) := hw5.one_cell rfl
  have r3 : w5.cell? ⟨nd, 3, none⟩ = some (.int .u8 a3) := hw5.one_cell rfl
  have r4 : w5.cell? ⟨nd, 4, none⟩ = some (.string s) := hw5.one_cell rfl
  have r5 : w5.cell? ⟨nd, 5, none⟩ = some (.int .i64 p) := hw5.one_cell rfl
  clear hwe hwf
  go_wp2_with (go_at_call 12; go_must (refine (HIs.out _ _ hw5 (by simp)).mono ?_); rintro e w9 ⟨rfl, hw9⟩)
  have hwA : Sat σ w9 (Hp.one n9 (.cells #[.int .i64 kz0, .string kz1, .string kz2, .string kz3, .string kz4, .int .i64 kz5, .int .i64 kz6, .int .i64 kz7, .int .i64 kz8, .int .i64 kz9] 41 (0, 0)) :: N4 :: Hs) := hw9.up2.sub (List.Sublist.cons_cons _ ((List.sublist_cons_self _ _).trans ((List.sublist_cons_self _ _).trans (List.sublist_cons_self _ _))))
  clear hw5 hw9 HIs HPY HIz d0 d1 d2 d3 d4 d5 d6 d7 d8 d9 q0 q1 q2 q3 q4 q5 r0 r1 r2 r3 r4 r5
  refine (HPC.out _ N4 _ _ hwA (by simp) HS4.out).mono ?_
  rintro e w3 ⟨u, E1, rfl, hw3, h3⟩
  have HIs := Lib.hid (HIc.out u E1 h3)
  clear hwA h3
  go_wp2_with fail
  refine (HRC.out _ _ hw3 (by simp [hB])).mono ?_
  rintro e w4 ⟨rfl, hw4⟩
  have HW5 := Lib.hid hw4.swap
  have hw6 := hw4.swap.setRow #[.int .i64 kc0, .string kc1, .string kc2, .string kc3, .string kc4, .int .i64 kc5, .int .i64 kc6, .int .i64 kc7, .int .i64 kc8, .int .i64 kc9]
  clear hw3 hw4
  go_upto_region 19 with (with_reducible show wpList _ _ _ [{ dst := none, op := _, type := _, pos := _, after := _, guard := _ }] _ _; go_must (refine wpList_store_row rfl 41 (.tmp 9) (.tmp 150) rfl n9 #[.int .i64 kc0, .string kc1, .string kc2, .string kc3, .string kc4, .int .i64 kc5, .int .i64 kc6, .int .i64 kc7, .int .i64 kc8, .int .i64 kc9] rfl rfl 41 _ HW5.out.heap (bad_rowG _ _ _ _ _ _ _ _ _ _).1 (bad_size _ _ _ _ _ _ _ _ _ _ _ _ _ _ _ _ _ _ _ _) (bad_rowG _ _ _ _ _ _ _ _ _ _).2 ?_))
  generalize hw6e : World.setRow _ _ _ = w6 at *
  clear hw6e HW5
  have d0 : w6.cell? ⟨n9, 0, none⟩ = some (.int .i64 kc0) := hw6.one_cell rfl
  have d1 : w6.cell? ⟨n9, 1, none⟩ = some (.string kc1) := hw6.one_cell rfl
  have d2 : w6.cell? ⟨n9, 2, none⟩ = some (.string kc2) := hw6.one_cell rfl
  have d3 : w6.cell? ⟨n9, 3, none⟩ = some (.string kc3) := hw6.one_cell rfl
  have d4 : w6.cell? ⟨n9, 4, none⟩ = some (.string kc4) := hw6.one_cell rfl
  have d5 : w6.cell? ⟨n9, 5, none⟩ = some (.int .i64 kc5) := hw6.one_cell rfl
  have d6 : w6.cell? ⟨n9, 6, none⟩ = some (.int .i64 kc6) := hw6.one_cell rfl
  have d7 : w6.cell? ⟨n9, 7, none⟩ = some (.int .i64 kc7) := hw6.one_cell rfl
  have d8 : w6.cell? ⟨n9, 8, none⟩ = some (.int .i64 kc8) := hw6.one_cell rfl
  have d9 : w6.cell? ⟨n9, 9, none⟩ = some (.int .i64 kc9) := hw6.one_cell rfl
  go_wp2_with (go_at_call 12; go_must (refine (HIs.out _ _ hw6 (by simp)).mono ?_); rintro e w9 ⟨rfl, hw9⟩)
  have hwA : Sat σ w9 (Hp.one n9 (.cells #[.int .i64 kc0, .string kc1, .string kc2, .string kc3, .string kc4, .int .i64 kc5, .int .i64 kc6, .int .i64 kc7, .int .i64 kc8, .int .i64 kc9] 41 (0, 0)) :: N4 :: Hs) := hw9.drop1
  clear hw6 hw9 HIs HPC HRC d0 d1 d2 d3 d4 d5 d6 d7 d8 d9
  refine (HPV.out _ N4 _ _ hwA (by simp) HS4.out).mono ?_
  rintro e w3 ⟨u, E1, rfl, hw3, h3⟩
  have HIs := Lib.hid (HIv.out u E1 h3)
  clear hwA h3
  go_wp2_with fail
  refine (HRV.out _ _ hw3 (by simp [hB])).mono ?_
  rintro e w4 ⟨rfl, hw4⟩
  have HW5 := Lib.hid hw4.swap
  have hw6 := hw4.swap.setRow #[.int .i64 kv0, .string kv1, .string kv2, .string kv3, .string kv4, .int .i64 kv5, .int .i64 kv6, .int .i64 kv7, .int .i64 kv8, .int .i64 kv9]
  clear hw3 hw4
  go_upto_region 23 with (with_reducible show wpList _ _ _ [{ dst := none, op := _, type := _, pos := _, after := _, guard := _ }] _ _; go_must (refine wpList_store_row rfl 41 (.tmp 9) (.tmp 176) rfl n9 #[.int .i64 kv0, .string kv1, .string kv2, .string kv3, .string kv4, .int .i64 kv5, .int .i64 kv6, .int .i64 kv7, .int .i64 kv8, .int .i64 kv9] rfl rfl 41 _ HW5.out.heap (bad_rowG _ _ _ _ _ _ _ _ _ _).1 (bad_size _ _ _ _ _ _ _ _ _ _ _ _ _ _ _ _ _ _ _ _) (bad_rowG _ _ _ _ _ _ _ _ _ _).2 ?_))
  generalize hw6e : World.setRow _ _ _ = w6 at *
  clear hw6e HW5
  have d0 : w6.cell? ⟨n9, 0, none⟩ = some (.int .i64 kv0) := hw6.one_cell rfl
  have d1 : w6.cell? ⟨n9, 1, none⟩ = some (.string kv1) := hw6.one_cell rfl
  have d2 : w6.cell? ⟨n9, 2, none⟩ = some (.string kv2) := hw6.one_cell rfl
  have d3 : w6.cell? ⟨n9, 3, none⟩ = some (.string kv3) := hw6.one_cell rfl
  have d4 : w6.cell? ⟨n9, 4, none⟩ = some (.string kv4) := hw6.one_cell rfl
  have d5 : w6.cell? ⟨n9, 5, none⟩ = some (.int .i64 kv5) := hw6.one_cell rfl
  have d6 : w6.cell? ⟨n9, 6, none⟩ = some (.int .i64 kv6) := hw6.one_cell rfl
  have d7 : w6.cell? ⟨n9, 7, none⟩ = some (.int .i64 kv7) := hw6.one_cell rfl
  have d8 : w6.cell? ⟨n9, 8, none⟩ = some (.int .i64 kv8) := hw6.one_cell rfl
  have d9 : w6.cell? ⟨n9, 9, none⟩ = some (.int .i64 kv9) := hw6.one_cell rfl
  go_wp2_with (first
    | (go_at_call 12; go_must (refine (HIs.out _ _ hw6 (by simp)).mono ?_); rintro e w9 ⟨rfl, hw9⟩)
    | (go_at_call 27; go_must (refine (sameB_any (H1 := N4) (H2 := H1) _ _ bs _ hw9 (by simp) (by simp [hB]) HS4.out HBI.out).mono ?_); rintro e w10 ⟨rfl, hw10⟩)
    | (go_at_call 8; go_must (refine (HW.out _ _ hw10 (by simp [hH])).mono ?_); rintro e w11 ⟨rfl, hw11⟩))
  go_ret
  exact ⟨rfl, hw11.drop.drop.drop⟩
end
end Go.Proofs.YtcndkpmeakaapaaDoor
