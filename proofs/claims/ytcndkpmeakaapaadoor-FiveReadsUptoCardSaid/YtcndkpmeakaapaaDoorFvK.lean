/- Walk: the law FiveComes. -/
import Derived.Test.YtcndkpmeakaapaaDoorFvJ
set_option linter.unusedVariables false
set_option linter.unusedSimpArgs false
namespace Go.Proofs.YtcndkpmeakaapaaDoor
open Go Go.RowKit
theorem reqO_form (bs : List Int) : ∃ a0 a1 a2 a3 s p, (reqO bs).2.1 = #[.int .u8 a0, .int .u8 a1, .int .u8 a2, .int .u8 a3, .string s, .int .i64 p] := by
  unfold reqO
  split
  · exact ⟨_, _, _, _, _, _, rfl⟩
  · exact ⟨_, _, _, _, _, _, rfl⟩
def ReqP (σ : World) (Hs : List Hp) (bs : List Int) (e : Ending) (w' : World) : Prop := ∃ v E', e = .returned (.tuple #[.int .i64 (reqO bs).1, .agg (reqO bs).2.1, .int .i64 (reqO bs).2.2, v]) ∧ Sat σ w' (E' :: Hs) ∧ EV E' v (req6 bs).2.err
section
variable {σ w w' : World} {Hs : List Hp} {H H1 H2 M N Y R E X HB : Hp}
theorem among_any (n m : Int) (w : World) (h0 : 0 < m) (h1 : m ≤ 1000000000000) :
    Calls Tryd.prog 10 #[.int .i64 n, .int .i64 m] w fun e w' => e = .returned (.int .i64 (amongI n m)) ∧ w = w' := by
  go_enter Tryd.func10, Tryd.ntmps10
  go_wp2
  go_ret
  exact ⟨ret_int' (among_eq n m h0 h1), rfl⟩
set_option maxHeartbeats 4000000
set_option maxRecDepth 10000 in
theorem comes_any (b0 : Value) (bs : List Int) (cut : Int) (m0 : Value) (more : List Int) (m : Int) (w : World) (hw : Sat σ w Hs) (hB : H1 ∈ Hs) (hb : kB.IsSl H1 b0 bs) (hM : H2 ∈ Hs) (hmo : kB.IsSl H2 m0 more) (hbs : ∀ x ∈ bs, 0 ≤ x ∧ x < 256) (hms : ∀ x ∈ more, 0 ≤ x ∧ x < 256) (hl1 : bs.length ≤ 1048576) (hl2 : more.length ≤ 1048576) (hH : H ∈ Hs) (hm : Hp.cell H 1 0 = some (.int .i64 m)) :
    Calls Tryd.prog 3 #[b0, .int .i64 cut, m0] w fun e w' => e = .returned (.bool true) ∧ Sat σ w' Hs := by
  obtain ⟨A, c, rfl, hc1, hc2, _⟩ := id hb.form
  obtain ⟨A2, c2, rfl, _⟩ := id hmo.form
  have HREQ := Lib.hid (fun (v : Value) (xs : List Int) (HX : Hp) (w : World) (Hs' : List Hp) (h : Sat σ w Hs') (hX : HX ∈ Hs') (hx : kB.IsSl HX v xs) (hbx : ∀ x ∈ xs, 0 ≤ x ∧ x < 256) (hH' : H ∈ Hs') => request_any v xs hbx m w h hX hx hH' hm)
  have HC1 := Lib.hid (fun w1 (h1 : Sat σ w1 Hs) => HREQ.out _ bs H1 w1 Hs h1 hB hb hbs hH)
  have HW := Lib.hid (fun w (Hs' : List Hp) (h : Sat σ w Hs') (hH' : H ∈ Hs') => works_any m w h hH' hm)
  have HBY := Lib.hid (fun w (Hs' : List Hp) (h : Sat σ w Hs') (hH' : H1 ∈ Hs') => bytesO_any _ bs w h hH' hb (by omega))
  obtain ⟨cells, hcs, hsrc⟩ := hmo.src (P := Tryd.prog) (t := 22) Tryd.underlying22
  obtain rfl := reps_is hcs
  have HSRC := Lib.hid hsrc
  have hbm : ∀ x ∈ bs ++ more, 0 ≤ x ∧ x < 256 := fun x hx => (List.mem_append.1 hx).elim (hbs x) (hms x)
  have HC3 := Lib.hid (fun v N w Hs' h hN hx hH' => HREQ.out v (bs ++ more) N w Hs' h hN hx hbm hH')
  obtain ⟨a0, a1, a2, a3, s, p, hd⟩ := reqO_form bs
  have deq : ∀ W : World, (Op.equalIn 10000 29 (.agg #[.int .u8 a0, .int .u8 a1, .int .u8 a2, .int .u8 a3, .string s, .int .i64 p]) (.agg #[.int .u8 a0, .int .u8 a1, .int .u8 a2, .int .u8 a3, .string s, .int .i64 p])).run Tryd.prog W = .ok true W := fun W => dest_refl W a0 a1 a2 a3 p s
  clear hcs hsrc hm hmo hbm hms
  by_cases he : (req6 bs).2.err = none
  · obtain ⟨n1, n2, n3⟩ := comes_ok he
    obtain ⟨s1, s2⟩ := comes_same (by rw [he]; exact fun h => by cases h) more
    have HSH := Lib.hid (comes_short he)
    rw [s1, s2] at HC3
    rw [he] at HC1 HC3
    have hA : ∃ gb off, A = some ⟨gb, off, none⟩ := by
      obtain ⟨gb, off, _, e, _⟩ := hb.get 0 _ (List.getElem?_eq_getElem (show 0 < bs.length by omega))
      exact ⟨gb, off, e⟩
    obtain ⟨gb, off, rfl⟩ := hA
    generalize reqO bs = ro at *
    obtain ⟨x1, x2, x3⟩ := ro
    obtain rfl : x2 = _ := hd
    obtain ⟨nn, rfl⟩ : ∃ nn : Nat, x3 = nn := ⟨x3.toNat, by have h : 1 ≤ x3 := n1; omega⟩
    have n1' : 1 ≤ (nn : Int) := n1
    have n2' : (nn : Int) ≤ bs.length := n2
    have n3' : (nn : Int) ≤ 263 := n3
    obtain ⟨hk0, hkn⟩ := amongI_range cut nn (by omega)
    have HAM := Lib.hid (fun w => among_any cut nn w (by omega) (by omega))
    generalize amongI cut nn = ki at *
    obtain ⟨k, rfl⟩ : ∃ k : Nat, ki = k := ⟨ki.toNat, by omega⟩
    have hst := HSH.out k hkn
    have hsl := sub_sl hb (at_ := 0) (n := k) (by omega)
    rw [List.drop_zero, Nat.add_zero, Nat.sub_zero] at hsl
    have hkl : (bs.take k).length = k := by rw [List.length_take]; omega
    have HC2 := Lib.hid (fun w Hs' h hX hH' => HREQ.out _ (bs.take k) H1 w Hs' h hX hsl (fun x hx => hbs x (List.mem_of_mem_take hx)) hH')
    rw [hst] at HC2
    obtain ⟨z0, z1, z2, z3, zs, zp, hdk⟩ := reqO_form (bs.take k)
    generalize reqO (bs.take k) = rk at *
    obtain ⟨k1, k2, k3⟩ := rk
    obtain rfl : k2 = _ := hdk
    clear hst hsl hkl HSH HREQ n1 n2 n3 s1 s2 he
    have d1 : ¬ ((nn : Int) < 1) := by omega
    have d2 : ¬ ((bs.length : Int) < nn) := by omega
    have d3 : ¬ (263 < (nn : Int)) := by omega
    have d4 : (k : Int) ≤ c := by omega
    go_enter Tryd.func3, Tryd.ntmps3
    go_wp2_with fail
    refine (HW.out _ _ hw hH).mono ?_
    rintro e w2 ⟨rfl, hw2⟩
    clear hw
    go_wp2_with fail
    refine (HC1.out _ hw2).mono ?_
    rintro e w3 ⟨v, E3, rfl, hw3, h3⟩
    obtain rfl : v = .nilIface := h3
    have hw4 := hw3.drop
    clear hw3 hw2 HC1
    have hw5 := hw4.alloc (.cells #[.int .u8 a0, .int .u8 a1, .int .u8 a2, .int .u8 a3, .string s, .int .i64 p] 29)
    go_wp2_with fail
    generalize hn1 : w3.heap.size = nd at *
    generalize hw3a : World.alloc _ _ = w3a at *
    refine (HAM.out _).mono ?_
    rintro e w6 ⟨rfl, rfl⟩
    clear hw4 hw3a hn1
    go_wp2_with fail
    refine (HC2.out _ _ hw5 (List.mem_cons_of_mem _ hB) (List.mem_cons_of_mem _ hH)).mono ?_
    rintro e w7 ⟨v, E7, rfl, hw7, h7⟩
    have H7 := Lib.hid h7
    obtain ⟨tv, uv, rfl⟩ := ev_form h7
    clear h7 hw5 HC2
    have hw8 := hw7.alloc (.cells #[.int .u8 z0, .int .u8 z1, .int .u8 z2, .int .u8 z3, .string zs, .int .i64 zp] 29)
    go_wp2_with fail
    refine (HBY.out _ _ hw8 (by simp [hB])).mono ?_
    rintro e w9 ⟨A4, c4, N4, cells, rfl, hw9, ho9, hcs⟩
    obtain rfl := reps_is hcs
    have HO9 := Lib.hid ho9
    clear hcs ho9
    go_wp2_with (at_builtin; go_must (refine wpList_app hw9 rfl (.tmp 61) (.tmp 62) 22 22 5 (.int .u8 0) 1 1 rfl Tryd.underlying22 (by kernel_rfl) rfl (by decide) _ _ bs.length more.length (ints .u8 bs) _ rfl rfl HO9.out (HSRC.out _ (hw9.has _ (by simp [hM]))) (by omega) ?_); intro A5 c5 w10 N5 hw10 ho10 _ _)
    have hown : Own N5 5 1 (.slice A5 (bs.length + more.length) c5) (bs ++ more).length (ints .u8 (bs ++ more)) := by
      rw [List.length_append, ints_append]; exact ho10
    have HS10 := Lib.hid (hown.isSl (d := kB) (reps_ints _) rfl (Hp.le_refl _))
    clear ho10 hown hw9 HO9
    refine (HC3.out _ N5 _ _ hw10 List.mem_cons_self HS10.out (by simp [hH])).mono ?_
    rintro e w11 ⟨v, E11, rfl, hw11, h11⟩
    clear hw10 HS10
    obtain rfl : v = .nilIface := h11
    have hw12 : Sat σ w11 (Hp.one nd (.cells #[.int .u8 a0, .int .u8 a1, .int .u8 a2, .int .u8 a3, .string s, .int .i64 p] 29 (0, 0)) :: E7 :: Hs) := hw11.drop.drop.drop.swap
    have hw13 := hw12.alloc (.cells #[.int .u8 a0, .int .u8 a1, .int .u8 a2, .int .u8 a3, .string s, .int .i64 p] 29)
    clear hw12 hw11
    generalize hn3 : w11.heap.size = n3 at *
    have HI := Lib.hid (fun w' Hs' (h : Sat σ w' Hs') (hE : E7 ∈ Hs') => isE_any (.iface tv uv) _ w' h hE H7.out)
    have HW13 := Lib.hid hw13
    clear hw13
    go_wp2_with (first
      | (go_at_call 13; go_must (refine (fail_any fiveB k 6 _ HW13.out).mono ?_); rintro e w14 ⟨rfl, hw14⟩; have HW14 := Lib.hid hw14; clear hw14)
      | (go_at_call 12; go_must (refine (HI.out _ _ HW14.out (by simp)).mono ?_); rintro e w15 ⟨rfl, hw15⟩; have q0 : w15.cell? ⟨n3, 0, none⟩ = some (.int .u8 a0) := hw15.one_cell rfl; have q1 : w15.cell? ⟨n3, 1, none⟩ = some (.int .u8 a1) := hw15.one_cell rfl; have q2 : w15.cell? ⟨n3, 2, none⟩ = some (.int .u8 a2) := hw15.one_cell rfl; have q3 : w15.cell? ⟨n3, 3, none⟩ = some (.int .u8 a3) := hw15.one_cell rfl; have q4 : w15.cell? ⟨n3, 4, none⟩ = some (.string s) := hw15.one_cell rfl; have q5 : w15.cell? ⟨n3, 5, none⟩ = some (.int .i64 p) := hw15.one_cell rfl; have r0 : w15.cell? ⟨nd, 0, none⟩ = some (.int .u8 a0) := hw15.swap.one_cell rfl; have r1 : w15.cell? ⟨nd, 1, none⟩ = some (.int .u8 a1) := hw15.swap.one_cell rfl; have r2 : w15.cell? ⟨nd, 2, none⟩ = some (.int .u8 a2) := hw15.swap.one_cell rfl; have r3 : w15.cell? ⟨nd, 3, none⟩ = some (.int .u8 a3) := hw15.swap.one_cell rfl; have r4 : w15.cell? ⟨nd, 4, none⟩ = some (.string s) := hw15.swap.one_cell rfl; have r5 : w15.cell? ⟨nd, 5, none⟩ = some (.int .i64 p) := hw15.swap.one_cell rfl; have HW15 := Lib.hid hw15; clear hw15))
    go_ret
    exact ⟨rfl, HW15.out.drop.drop.drop⟩
  · have hbad := comes_bad he
    have deq0 : ∀ W : World, (Op.equalIn 10000 29 (.agg #[.int .u8 0, .int .u8 0, .int .u8 0, .int .u8 0, .string ⟨#[]⟩, .int .i64 0]) (.agg #[.int .u8 0, .int .u8 0, .int .u8 0, .int .u8 0, .string ⟨#[]⟩, .int .i64 0])).run Tryd.prog W = .ok true W := fun W => dest_refl W 0 0 0 0 0 ⟨#[]⟩
    have HSAME := Lib.hid (fun (h : (req6 bs).2.err ≠ shortE bs) => comes_same h more)
    have HSM := Lib.hid (fun (h : (req6 bs).2.err = shortE bs) => (comes_small h).2)
    have HDEC : Hid (∀ er : Option (Ch × Int), er ≠ none → er ≠ shortE bs → decide (chE er = [(fiveB, (bs.length : Int))] ∧ cE er = 6) = false) := Lib.hid (by
      intro er h1 h2
      rw [decide_eq_false_iff_not]
      rintro ⟨h3, h4⟩
      cases er with
      | none => exact h1 rfl
      | some x => exact h2 (by unfold shortE; exact congrArg some (Prod.ext h3 h4)))
    rw [hbad] at HC1 HSAME
    obtain ⟨er, her⟩ : ∃ er, (req6 bs).2.err = er := ⟨_, rfl⟩
    rw [her] at HC1 HSAME HSM he
    have HNE := Lib.hid he
    clear he hd deq a0 a1 a2 a3 s p hbad her HREQ hb
    go_enter Tryd.func3, Tryd.ntmps3
    go_wp2_with fail
    refine (HW.out _ _ hw hH).mono ?_
    rintro e w2 ⟨rfl, hw2⟩
    clear hw
    go_wp2_with fail
    refine (HC1.out _ hw2).mono ?_
    rintro e w3 ⟨v, E3, rfl, hw3, h3⟩
    have h3f : ∃ t u, v = .iface t u := by
      cases er with
      | none => exact absurd rfl HNE.out
      | some x => exact ev_form h3
    obtain ⟨tv, uv, rfl⟩ := h3f
    have H3 := Lib.hid h3
    have hw4 := (hw3.alloc (.cells #[.int .u8 0, .int .u8 0, .int .u8 0, .int .u8 0, .string ⟨#[]⟩, .int .i64 0] 29))
    clear hw3 hw2 HC1 h3
    go_wp2_with fail
    generalize hn1 : w3.heap.size = nd at *
    generalize hw3a : World.alloc _ _ = w3a at *
    clear hn1 hw3a
    refine (fail_any fiveB bs.length 6 _ hw4).mono ?_
    rintro e w5 ⟨rfl, hw5⟩
    clear hw4
    go_wp2_with fail
    refine (isB_any (H := E3) (.iface tv uv) er [(fiveB, (bs.length : Int))] 6 _ hw5 (by simp) H3.out).mono ?_
    rintro e w6 ⟨rfl, hw6⟩
    clear hw5
    by_cases hs : er = shortE bs
    · have hdt : decide (chE er = [(fiveB, (bs.length : Int))] ∧ cE er = 6) = true := by
        rw [hs]; exact decide_eq_true ⟨rfl, rfl⟩
      have hsm := HSM.out hs
      have d1 : (bs.length : Int) < 263 := by omega
      generalize decide (chE er = [(fiveB, (bs.length : Int))] ∧ cE er = 6) = q at *
      subst hdt
      clear hs HSM HSAME HDEC
      go_wp2
      go_ret
      exact ⟨rfl, hw6.drop.drop⟩
    · have hdf := HDEC.out er HNE.out hs
      obtain ⟨s1, s2⟩ := HSAME.out hs
      rw [s1, s2] at HC3
      generalize decide (chE er = [(fiveB, (bs.length : Int))] ∧ cE er = 6) = q at *
      subst hdf
      clear hs HSM HSAME HDEC s1 s2
      go_wp2_with fail
      refine (HBY.out _ _ hw6 (by simp [hB])).mono ?_
      rintro e w9 ⟨A4, c4, N4, cells, rfl, hw9, ho9, hcs⟩
      obtain rfl := reps_is hcs
      have HO9 := Lib.hid ho9
      clear hcs ho9
      go_wp2_with (at_builtin; go_must (refine wpList_app hw9 rfl (.tmp 106) (.tmp 107) 22 22 5 (.int .u8 0) 1 1 rfl Tryd.underlying22 (by kernel_rfl) rfl (by decide) _ _ bs.length more.length (ints .u8 bs) _ rfl rfl HO9.out (HSRC.out _ (hw9.has _ (by simp [hM]))) (by omega) ?_); intro A5 c5 w10 N5 hw10 ho10 _ _)
      have hown : Own N5 5 1 (.slice A5 (bs.length + more.length) c5) (bs ++ more).length (ints .u8 (bs ++ more)) := by
        rw [List.length_append, ints_append]; exact ho10
      have HS10 := Lib.hid (hown.isSl (d := kB) (reps_ints _) rfl (Hp.le_refl _))
      clear ho10 hown hw9 HO9
      refine (HC3.out _ N5 _ _ hw10 List.mem_cons_self HS10.out (by simp [hH])).mono ?_
      rintro e w11 ⟨v, E11, rfl, hw11, h11⟩
      clear hw10 HS10
      have h11f : ∃ t u, v = .iface t u := by
        cases er with
        | none => exact absurd rfl HNE.out
        | some x => exact ev_form h11
      obtain ⟨tv2, uv2, rfl⟩ := h11f
      have hw13 : Sat σ w11 (Hp.one nd (.cells #[.int .u8 0, .int .u8 0, .int .u8 0, .int .u8 0, .string ⟨#[]⟩, .int .i64 0] 29 (0, 0)) :: E11 :: E3 :: Hs) := hw11.drop1.swap
      have r0 : w11.cell? ⟨nd, 0, none⟩ = some (.int .u8 0) := hw13.one_cell rfl
      have r1 : w11.cell? ⟨nd, 1, none⟩ = some (.int .u8 0) := hw13.one_cell rfl
      have r2 : w11.cell? ⟨nd, 2, none⟩ = some (.int .u8 0) := hw13.one_cell rfl
      have r3 : w11.cell? ⟨nd, 3, none⟩ = some (.int .u8 0) := hw13.one_cell rfl
      have r4 : w11.cell? ⟨nd, 4, none⟩ = some (.string ⟨#[]⟩) := hw13.one_cell rfl
      have r5 : w11.cell? ⟨nd, 5, none⟩ = some (.int .i64 0) := hw13.one_cell rfl
      have hlt := hw13.one_lt
      have HW13 := Lib.hid (hw13.alloc' (.cells #[.int .u8 0, .int .u8 0, .int .u8 0, .int .u8 0, .string ⟨#[]⟩, .int .i64 0] 29))
      have H11 := Lib.hid h11
      clear hw13 hw11 h11 hw6
      go_wp2_with (go_at_call 14; go_must (refine (likeE_any (H1 := E11) (H2 := E3) (.iface tv2 uv2) (.iface tv uv) er _ HW13.out (by simp) (by simp) H11.out H3.out).mono ?_); rintro e w15 ⟨rfl, hw15⟩)
      go_ret
      exact ⟨rfl, hw15.drop.drop.drop⟩
end
end Go.Proofs.YtcndkpmeakaapaaDoor
