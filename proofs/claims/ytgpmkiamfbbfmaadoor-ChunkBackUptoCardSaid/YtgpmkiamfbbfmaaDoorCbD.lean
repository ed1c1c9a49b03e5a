/- Walk: ChunkBack. -/
import Derived.Test.YtgpmkiamfbbfmaaDoorCbC
import Derived.Test.YtgpmkiamfbbfmaaDoorCkW
set_option linter.unusedVariables false
set_option linter.unusedSimpArgs false
namespace Go.Proofs.YtgpmkiamfbbfmaaDoor
open Go Go.RowKit
section
variable {σ w w' : World} {Hs : List Hp} {H H1 H2 H3 M N Y : Hp}
set_option maxHeartbeats 8000000
theorem putL_byte {size : Nat} (h0 : 0 < size) {b : List Int} (hb : ∀ x ∈ b, 0 ≤ x ∧ x ≤ 255) : ∀ x ∈ putL size b, 0 ≤ x ∧ x ≤ 255 := fun x hx => by
  rcases List.mem_append.1 hx with hx | hx
  · exact chunkL_byte h0 _ b (Nat.le_refl _) hb x hx
  · simp at hx; omega
theorem putL_len {size : Nat} (h0 : 0 < size) (h1 : size ≤ 65536) (b : List Int) : (putL size b).length ≤ 10 * b.length + 5 := by
  have := chunkL_len h0 h1 _ b (Nat.le_refl _)
  unfold putL
  rw [List.length_append]
  simp; omega
set_option maxRecDepth 10000 in
theorem back_any (A : Option Addr) (c : Nat) (bs more : List Int) (size : Int) (v : Value) (w : World) (hw : Sat σ w Hs) (hH : H ∈ Hs) (hs : kB.IsSl H (.slice A bs.length c) bs) (hA : A = none → c = 0) (hH3 : H3 ∈ Hs) (hs3 : kB.IsSl H3 v more) (hby : ∀ x ∈ bs, 0 ≤ x ∧ x ≤ 255) (hbm : ∀ x ∈ more, 0 ≤ x ∧ x ≤ 255) (hH2 : H2 ∈ Hs) (hk : H2 4 = some (.cells tabV 101 (0, 0))) (hlen : bs.length ≤ 1048576) (hlm : more.length ≤ 1048576) :
    Calls Tryd.prog 3 #[.slice A bs.length c, .int .i64 size, v] w fun e w' => e = .returned (.bool true) ∧ Sat σ w' Hs := by
  have hbl : ¬ (1048576 : Int) < bs.length := by omega
  by_cases hsz : size < 1 ∨ 65536 < size
  · have HP := Lib.hid (fun v w' => put_bad v size w' hsz)
    clear hsz hs hs3 hk hby hbm
    go_enter Tryd.func3, Tryd.ntmps3
    go_wp2_with fail
    refine (works_any w hw).mono ?_
    rintro e w1 ⟨rfl, hw1⟩
    go_wp2_with fail
    refine (HP.out _ _).mono ?_
    rintro e w2 ⟨rfl, rfl⟩
    go_wp2_with fail
    go_ret
    exact ⟨rfl, hw1⟩
  · obtain ⟨sz, rfl⟩ : ∃ n : Nat, size = n := ⟨size.toNat, by omega⟩
    have h0 : 0 < sz := by omega
    have h1 : sz ≤ 65536 := by omega
    have HB := Lib.hid hs
    obtain ⟨A3, c3, rfl, _⟩ := id hs3.form
    have HPUT := Lib.hid (fun w' (h : Sat σ w' Hs) => put_any A c bs sz w' h hH hs hA h0 h1 hH2 hk hlen)
    obtain ⟨t, hrun, hte, hts⟩ := put_read h0 bs more hlen
    have hpl := putL_len h0 h1 bs
    have hall : ∀ x ∈ putL sz bs ++ more, 0 ≤ x ∧ x ≤ 255 := fun x hx => (List.mem_append.1 hx).elim (putL_byte h0 hby x) (hbm x)
    obtain ⟨cells, hcs, hsrc⟩ := hs3.src (P := Tryd.prog) (t := 22) Tryd.underlying22
    obtain rfl := reps_is hcs
    have HSRC := Lib.hid hsrc
    generalize putL sz bs = px at *
    have HADD := Lib.hid (fun v H' g M w' Hs' (h : Sat σ w' (M :: Hs')) (hm : H' ∈ Hs') (hs : kB.IsSl H' v (px ++ more)) (hr : Rdr M g cs0) => add_any v (px ++ more) w' h hm hs hr ci0 hall (by rw [List.length_append]; show 0 + (px.length + more.length) ≤ _; omega))
    rw [hrun] at HADD
    have HTE := Lib.hid hte; have HTS := Lib.hid hts
    clear hs hs3 hk hby hbm hall hrun hcs hsrc hsz hte hts hA
    go_enter Tryd.func3, Tryd.ntmps3
    go_wp2_with fail
    refine (works_any w hw).mono ?_
    rintro e w1 ⟨rfl, hw1⟩
    clear hw
    go_wp2_with fail
    refine (HPUT.out w1 hw1).mono ?_
    rintro e w2 ⟨vo, NX, rfl, hw2, ho2⟩
    obtain ⟨A2, c2, rfl, _⟩ := ho2.slice
    have HS2 := Lib.hid (ho2.isSl (d := kB) (reps_ints _) rfl (Hp.le_refl _))
    clear hw1 ho2
    go_wp2_with fail
    refine (new_c w2 hw2).mono ?_
    rintro e w3 ⟨g, M1, rfl, hw3, hr⟩
    clear hw2
    go_wp2_with fail
    refine (bytesO_any _ px w3 hw3 (by simp) HS2.out (by omega)).mono ?_
    rintro e w4 ⟨A4, c4, N4, cells, rfl, hw4, ho4, hcs⟩
    obtain rfl := reps_is hcs
    have HO4 := Lib.hid ho4
    clear hw3 hcs ho4
    go_wp2_with (at_builtin; go_must (refine wpList_app hw4 rfl (.tmp 41) (.tmp 42) 22 22 5 (.int .u8 0) 1 1 rfl Tryd.underlying22 (by kernel_rfl) rfl (by decide) _ _ px.length more.length (ints .u8 px) _ rfl rfl HO4.out (HSRC.out _ (hw4.has _ (by simp [hH3]))) (by omega) ?_); intro A5 c5 w5 N5 hw5 ho5 _ _; clear hw4)
    have hown : Own N5 5 1 (.slice A5 (px.length + more.length) c5) (px ++ more).length (ints .u8 (px ++ more)) := by
      rw [List.length_append, ints_append]; exact ho5
    have HS5 := Lib.hid (hown.isSl (d := kB) (reps_ints _) rfl (Hp.le_refl _))
    clear ho5 hown
    refine (HADD.out _ N5 g M1 _ _ hw5.swap (by simp) HS5.out hr).mono ?_
    rintro e w6 ⟨v6, ve6, M6, N6, rfl, hw6, hr6, ho6, hev6⟩
    rw [HTE.out] at hev6
    obtain rfl : ve6 = _ := hev6
    obtain ⟨A6, c6, rfl, _⟩ := ho6.slice
    have HS6 := Lib.hid (ho6.isSl (d := kB) (reps_ints _) rfl (Hp.le_refl _))
    have HDN := Lib.hid (done_c w6 hw6 (M := M6) (by simp) hr6)
    rw [decide_eq_true HTS.out] at HDN
    clear hw5 HADD hr hr6 ho6 HS5
    go_wp2_with (first
      | (go_at_call 10; refine HDN.out.mono ?_; rintro e w7 ⟨rfl, rfl⟩)
      | (go_at_call 11; refine (sameB_any (H1 := N6) (H2 := H) _ _ bs _ hw6 (by simp) (by simp [hH]) HS6.out HB.out).mono ?_; rintro e w8 ⟨rfl, hw8⟩))
    go_ret
    exact ⟨rfl, hw8.drop.drop.drop.drop⟩
end
end Go.Proofs.YtgpmkiamfbbfmaaDoor
