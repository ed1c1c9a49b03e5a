/- Walk: the law FiveAgain. -/
import Derived.Test.YtcndkpmeakaapaaDoorFvN
set_option linter.unusedVariables false
set_option linter.unusedSimpArgs false
namespace Go.Proofs.YtcndkpmeakaapaaDoor
open Go Go.RowKit
section
variable {σ w w' : World} {Hs : List Hp} {H H1 H2 M N Y R E X HB : Hp}
set_option maxHeartbeats 4000000
set_option maxRecDepth 10000 in
theorem again_any (b0 : Value) (bs : List Int) (m : Int) (w : World) (hw : Sat σ w Hs) (hB : H1 ∈ Hs) (hb : kB.IsSl H1 b0 bs) (hbs : ∀ x ∈ bs, 0 ≤ x ∧ x < 256) (hH : H ∈ Hs) (hm : Hp.cell H 1 0 = some (.int .i64 m)) :
    Calls Tryd.prog 4 #[b0] w fun e w' => e = .returned (.bool true) ∧ Sat σ w' Hs := by
  obtain ⟨A, c, rfl, hc1, hc2, _⟩ := id hb.form
  have HREQ := Lib.hid (fun (v : Value) (xs : List Int) (HX : Hp) (w : World) (Hs' : List Hp) (h : Sat σ w Hs') (hX : HX ∈ Hs') (hx : kB.IsSl HX v xs) (hbx : ∀ x ∈ xs, 0 ≤ x ∧ x < 256) (hH' : H ∈ Hs') => request_any v xs hbx m w h hX hx hH' hm)
  have HC1 := Lib.hid (fun w1 (h1 : Sat σ w1 Hs) => HREQ.out _ bs H1 w1 Hs h1 hB hb hbs hH)
  have HW := Lib.hid (fun w (Hs' : List Hp) (h : Sat σ w Hs') (hH' : H ∈ Hs') => works_any m w h hH' hm)
  have HPUT := Lib.hid (fun c a0 a1 a2 a3 p s hs w (Hs' : List Hp) (h : Sat σ w Hs') (hH' : H ∈ Hs') => putReq_any c a0 a1 a2 a3 p s hs m w h hH' hm)
  clear hm
  by_cases he : (req6 bs).2.err = none
  · obtain ⟨a0, a1, a2, a3, s, p, hd, hsz, hpv, b0, b1, b2, b3⟩ := put_read hbs he
    have hrp := read_put hpv []
    have hpb := putW_byte hpv b0 b1 b2 b3
    rw [List.append_nil] at hrp
    have hpo : putO (reqO bs).1 a0 a1 a2 a3 p s = (putW (reqO bs).1 a0 a1 a2 a3 p s, 0) := if_pos hpv
    rw [he] at HC1
    generalize reqO bs = ro at *
    obtain ⟨x1, x2, x3⟩ := ro
    obtain rfl : x2 = _ := hd
    have HPU := Lib.hid (HPUT.out x1 a0 a1 a2 a3 p s (by omega))
    have hpo' : putO x1 a0 a1 a2 a3 p s = (putW x1 a0 a1 a2 a3 p s, 0) := hpo
    have hrp' : reqO (putW x1 a0 a1 a2 a3 p s) = (x1, #[.int .u8 a0, .int .u8 a1, .int .u8 a2, .int .u8 a3, .string s, .int .i64 p], (((putW x1 a0 a1 a2 a3 p s).length : Nat) : Int)) := hrp.1
    have HC2 := Lib.hid (fun v N w Hs' h hN hx hH' => HREQ.out v (putW x1 a0 a1 a2 a3 p s) N w Hs' h hN hx hpb hH')
    rw [hpo'] at HPU
    rw [hrp', show (req6 (putW x1 a0 a1 a2 a3 p s)).2.err = none from hrp.2] at HC2
    unfold PutP at HPU
    clear hpo hpo' hrp hrp' hpb HPUT HREQ hpv b0 b1 b2 b3 hsz he
    generalize putW x1 a0 a1 a2 a3 p s = wl at *
    have deq : ∀ W : World, (Op.equalIn 10000 29 (.agg #[.int .u8 a0, .int .u8 a1, .int .u8 a2, .int .u8 a3, .string s, .int .i64 p]) (.agg #[.int .u8 a0, .int .u8 a1, .int .u8 a2, .int .u8 a3, .string s, .int .i64 p])).run Tryd.prog W = .ok true W := fun W => dest_refl W a0 a1 a2 a3 p s
    have hw0 := hw
    go_enter Tryd.func4, Tryd.ntmps4
    go_wp2_with fail
    refine (HW.out _ _ hw hH).mono ?_
    rintro e w2 ⟨rfl, hw2⟩
    clear hw hw0
    go_wp2_with fail
    refine (HC1.out _ hw2).mono ?_
    rintro e w3 ⟨v, E3, rfl, hw3, h3⟩
    obtain rfl : v = .nilIface := h3
    have hw4 := hw3.drop.alloc (.cells #[.int .u8 a0, .int .u8 a1, .int .u8 a2, .int .u8 a3, .string s, .int .i64 p] 29)
    clear hw3 hw2 HC1
    go_wp2_with fail
    generalize hn1 : w3.heap.size = nd at *
    generalize hw3a : World.alloc _ _ = w3a at *
    clear hn1 hw3a
    refine (HPU.out _ _ hw4 (List.mem_cons_of_mem _ hH)).mono ?_
    rintro e w5 ⟨vo, N5, rfl, hw5, hs5⟩
    obtain ⟨A5, c5, rfl, _⟩ := id hs5.form
    have HS5 := Lib.hid hs5
    clear hs5 hw4 HPU
    go_wp2_with fail
    refine (HC2.out _ N5 _ _ hw5 List.mem_cons_self HS5.out (by simp [hH])).mono ?_
    rintro e w6 ⟨v, E6, rfl, hw6, h6⟩
    obtain rfl : v = .nilIface := h6
    have hw7 := hw6.drop.drop.alloc (.cells #[.int .u8 a0, .int .u8 a1, .int .u8 a2, .int .u8 a3, .string s, .int .i64 p] 29)
    have hw8 := hw6.drop.drop
    have q0 : w6.cell? ⟨nd, 0, none⟩ = some (.int .u8 a0) := hw8.one_cell rfl
    have q1 : w6.cell? ⟨nd, 1, none⟩ = some (.int .u8 a1) := hw8.one_cell rfl
    have q2 : w6.cell? ⟨nd, 2, none⟩ = some (.int .u8 a2) := hw8.one_cell rfl
    have q3 : w6.cell? ⟨nd, 3, none⟩ = some (.int .u8 a3) := hw8.one_cell rfl
    have q4 : w6.cell? ⟨nd, 4, none⟩ = some (.string s) := hw8.one_cell rfl
    have q5 : w6.cell? ⟨nd, 5, none⟩ = some (.int .i64 p) := hw8.one_cell rfl
    have hlt := hw8.one_lt
    clear hw6 hw5 HC2
    go_wp2
    go_ret
    exact ⟨rfl, hw7.drop.drop⟩
  · have hbad := comes_bad he
    rw [hbad] at HC1
    generalize (req6 bs).2.err = er at *
    have HNE := Lib.hid he
    clear he hbad HREQ HPUT hb
    go_enter Tryd.func4, Tryd.ntmps4
    go_wp2_with fail
    refine (HW.out _ _ hw hH).mono ?_
    rintro e w2 ⟨rfl, hw2⟩
    clear hw
    go_wp2_with fail
    refine (HC1.out _ hw2).mono ?_
    rintro e w3 ⟨v, E3, rfl, hw3, h3⟩
    have h3f : ∃ t u, v = .iface t u := by
      cases er with
      | none => exact absurd rfl HNE.out
      | some x => exact ev_form h3
    obtain ⟨tv, uv, rfl⟩ := h3f
    clear hw2 HC1 h3
    go_wp2
    go_ret
    exact ⟨rfl, (hw3.drop).alloc' _⟩
end
end Go.Proofs.YtcndkpmeakaapaaDoor
