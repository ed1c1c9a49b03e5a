/- Walk: ChunkReads. -/
import Derived.Test.YtgpmkiamfbbfmaaCkI
import Derived.Test.YtgpmkiamfbbfmaaCkP
set_option linter.unusedVariables false
set_option linter.unusedSimpArgs false
namespace Go.Proofs.Ytgpmkiamfbbfmaa
open Go Go.RowKit
section
variable {σ w w' : World} {Hs : List Hp} {H H1 H2 M N Y : Hp}
theorem xf_all {nb : Nat} {x0 x5 x6 x7 x8 x9 : Int} {x1 x2 x3 x4 : ByteArray} (h : Sat σ w Hs) (hm : Hp.one nb (.cells #[.int .i64 x0, .string x1, .string x2, .string x3, .string x4, .int .i64 x5, .int .i64 x6, .int .i64 x7, .int .i64 x8, .int .i64 x9] 34 (0, 0)) ∈ Hs) :
    w.cell? ⟨nb, 0, none⟩ = some (.int .i64 x0) ∧ w.cell? ⟨nb, 1, none⟩ = some (.string x1) ∧ w.cell? ⟨nb, 2, none⟩ = some (.string x2) ∧ w.cell? ⟨nb, 3, none⟩ = some (.string x3) ∧ w.cell? ⟨nb, 4, none⟩ = some (.string x4) ∧ w.cell? ⟨nb, 5, none⟩ = some (.int .i64 x5) ∧ w.cell? ⟨nb, 6, none⟩ = some (.int .i64 x6) ∧ w.cell? ⟨nb, 7, none⟩ = some (.int .i64 x7) ∧ w.cell? ⟨nb, 8, none⟩ = some (.int .i64 x8) ∧ w.cell? ⟨nb, 9, none⟩ = some (.int .i64 x9) :=
  ⟨h.cellAt hm ((Hp.one_cell _ _ _ _).trans rfl), h.cellAt hm ((Hp.one_cell _ _ _ _).trans rfl), h.cellAt hm ((Hp.one_cell _ _ _ _).trans rfl), h.cellAt hm ((Hp.one_cell _ _ _ _).trans rfl), h.cellAt hm ((Hp.one_cell _ _ _ _).trans rfl), h.cellAt hm ((Hp.one_cell _ _ _ _).trans rfl), h.cellAt hm ((Hp.one_cell _ _ _ _).trans rfl), h.cellAt hm ((Hp.one_cell _ _ _ _).trans rfl), h.cellAt hm ((Hp.one_cell _ _ _ _).trans rfl), h.cellAt hm ((Hp.one_cell _ _ _ _).trans rfl)⟩
set_option maxHeartbeats 20000000
set_option maxRecDepth 10000 in
theorem reads_any (A : Option Addr) (c : Nat) (bs : List Int) (w : World) (hw : Sat σ w Hs) (hH : H ∈ Hs) (hs : kB.IsSl H (.slice A bs.length c) bs) (hby : ∀ x ∈ bs, 0 ≤ x ∧ x ≤ 255) (hlen : bs.length ≤ 1048576) :
    Calls Try.prog 3 #[.slice A bs.length c] w fun e w' => e = .returned (.bool true) ∧ Sat σ w' Hs := by
  have HB := Lib.hid hs
  have kc := fun (w : World) (C : Array Value) (n c : Nat) => Lib.run_convert_bytes_const (P := Try.prog) w 22 5 C n c Try.underlying22 Try.underlying5
  have hADD := Lib.hid (fun v H' g M w' Hs' (h : Sat σ w' (M :: Hs')) (hm : H' ∈ Hs') (hs : kB.IsSl H' v bs) (hr : Rdr M g cs0) => add_any v bs w' h hm hs hr ci0 hby (by show 0 + bs.length ≤ _; omega))
  have hRD := Lib.hid (fun w' Hs' (h : Sat σ w' Hs') (hm : H ∈ Hs') => rread_any (.slice A bs.length c) bs w' h hm hs hby (by omega))
  have hpb := run_pb bs cs0 ci0
  have hci := CI.run bs ci0
  have HLE := Lib.hid (run_le bs cs0)
  obtain ⟨r, hr⟩ : ∃ r, runC cs0 bs = r := ⟨_, rfl⟩
  rw [hr] at hADD hRD hpb hci HLE
  have HPB := Lib.hid hpb; have HCI := Lib.hid hci
  clear hs hby hr hpb hci
  go_enter Try.func3, Try.ntmps3
  go_wp2_with fail
  refine (new_c w hw).mono ?_
  rintro e w1 ⟨g1, M1, rfl, hw1, h1⟩
  go_wp2_with fail
  refine (bytesO_any _ bs w1 hw1 (by simp [hH]) HB.out (by omega)).mono ?_
  rintro e w2 ⟨A3, c3, N3, cells, rfl, hw2, ho3, hcs⟩
  obtain rfl := reps_is hcs
  have HO3 := Lib.hid ho3
  have HS3 := Lib.hid (ho3.isSl (d := kB) (reps_ints _) rfl (Hp.le_refl _))
  clear hw hw1 hcs ho3
  go_wp2_with fail
  refine (hADD.out _ N3 g1 M1 _ _ hw2.swap (by simp) HS3.out h1).mono ?_
  rintro e w3 ⟨v1, ve1, MR, NX, rfl, hw3, hr1, ho1, hev1⟩
  obtain ⟨A1, c1, rfl, _⟩ := ho1.slice
  have HO1 := Lib.hid ho1; have HE1 := Lib.hid hev1; have HR1 := Lib.hid hr1
  have HV1 := Lib.hid (ho1.isSl (d := kB) (reps_ints _) rfl (Hp.le_refl _))
  clear hw2 hADD h1 ho1 hev1 hr1
  go_wp2_with fail
  refine (hRD.out _ _ hw3 (by simp [hH])).mono ?_
  rintro e w4 ⟨v2, NY, rfl, hw4, ho2⟩
  obtain ⟨A2, c2, rfl, _⟩ := ho2.slice
  have HV2 := Lib.hid (ho2.isSl (d := kB) (reps_ints _) rfl (Hp.le_refl _))
  clear hw3 hRD ho2
  have HBQ : Hid (BE r.1.err = #[.int .i64 (((chE (errE r.1.err)).length : Nat) : Int), .string (chL (chE (errE r.1.err)) 0), .string (chL (chE (errE r.1.err)) 1), .string (chL (chE (errE r.1.err)) 2), .string (chL (chE (errE r.1.err)) 3), .int .i64 (chA (chE (errE r.1.err)) 0), .int .i64 (chA (chE (errE r.1.err)) 1), .int .i64 (chA (chE (errE r.1.err)) 2), .int .i64 (chA (chE (errE r.1.err)) 3), .int .i64 (cE (errE r.1.err))]) := Lib.hid rfl
  have HX0 : Hid ((((chE (errE r.1.err)).length : Nat) : Int) = if r.1.err = none then 0 else 1) := Lib.hid (by cases r.1.err <;> rfl)
  have HIS := Lib.hid (fun ve Mx w' Hs' (h : Sat σ w' Hs') (hm : Mx ∈ Hs') (hv : EV Mx ve (errE r.1.err)) => isE_any ve (errE r.1.err) w' h hm hv)
  rw [show badC (chE (errE r.1.err)) (cE (errE r.1.err)) = BE r.1.err from rfl, HBQ.out] at HIS
  rw [HBQ.out]
  generalize (((chE (errE r.1.err)).length : Nat) : Int) = x0 at *
  generalize chL (chE (errE r.1.err)) 0 = x1 at *
  generalize chL (chE (errE r.1.err)) 1 = x2 at *
  generalize chL (chE (errE r.1.err)) 2 = x3 at *
  generalize chL (chE (errE r.1.err)) 3 = x4 at *
  generalize chA (chE (errE r.1.err)) 0 = x5 at *
  generalize chA (chE (errE r.1.err)) 1 = x6 at *
  generalize chA (chE (errE r.1.err)) 2 = x7 at *
  generalize chA (chE (errE r.1.err)) 3 = x8 at *
  generalize cE (errE r.1.err) = x9 at *
  clear HBQ
  have hw5 := hw4.alloc (.cells #[.int .i64 x0, .string x1, .string x2, .string x3, .string x4, .int .i64 x5, .int .i64 x6, .int .i64 x7, .int .i64 x8, .int .i64 x9] 34)
  clear hw4
  go_wp2_with fail
  refine (read_c _ hw5 (M := MR) (by simp) HR1.out).mono ?_
  rintro e w6 ⟨rfl, hw6⟩
  clear hw5
  generalize w4.heap.size = nr at *
  have hp1 : r.1.pos = r.2.2 := by have := HPB.out.1; rw [show cs0.pos = 0 from rfl] at this; omega
  have hp2 : r.1.body = r.2.1.length := by have := HPB.out.2; rw [show cs0.body = 0 from rfl] at this; omega
  rw [hp1, hp2]
  have HP1 := Lib.hid hp1
  clear hp1 hp2
  obtain ⟨dn, hdn⟩ : ∃ dn, decide (r.1.st = 6) = dn := ⟨_, rfl⟩
  have HDN : Hid (∀ w' Hs', Sat σ w' Hs' → MR ∈ Hs' → Calls Try.prog 12 #[.pointer (some ⟨g1, 0, none⟩)] w' fun e w2 => e = .returned (.bool dn) ∧ w2 = w') := Lib.hid (fun w' Hs' h hm => by have := done_c w' h hm HR1.out; rw [hdn] at this; exact this)
  have HD := Lib.hid hdn
  rw [hdn]
  clear hdn
  go_wp2_with (first
    | (go_at_call 11; first
        | (refine (sameB_any (H1 := NX) (H2 := NY) _ _ r.2.1 w6 hw6 (by simp) (by simp) HV1.out HV2.out).mono ?_; rintro e w7 ⟨rfl, hw7⟩; obtain ⟨d0, d1, d2, d3, d4, d5, d6, d7, d8, d9⟩ := xf_all hw7 (List.mem_cons_self))
        | (refine (sameB_any (H1 := N3) (H2 := H) _ _ bs w8 hw8 (by simp) (by simp [hH]) HS3.out HB.out).mono ?_; rintro e w9 ⟨rfl, hw9⟩))
    | (go_at_call 12; with_reducible refine (HDN.out _ _ hw7 (by simp)).mono ?_; rintro e wb ⟨rfl, rfl⟩)
    | (go_at_call 13; refine (HIS.out _ MR _ _ hw7 (by simp) HE1.out).mono ?_; rintro e w8 ⟨rfl, hw8⟩))
  clear hw6 hw7 hw8 d0 d1 d2 d3 d4 d5 d6 d7 d8 d9
  have hwm := Sat.bring (l₁ := [Hp.one nr (.cells #[.int .i64 x0, .string x1, .string x2, .string x3, .string x4, .int .i64 x5, .int .i64 x6, .int .i64 x7, .int .i64 x8, .int .i64 x9] 34 (0, 0)), NY, NX, MR]) hw9
  clear hw9
  go_loopw [14] (fun j wr => ∃ (q : Nat) (G' : Hp), q ≤ bs.length ∧ j = .int .i64 q ∧ Sat σ wr (G' :: Hp.one nr (.cells #[.int .i64 x0, .string x1, .string x2, .string x3, .string x4, .int .i64 x5, .int .i64 x6, .int .i64 x7, .int .i64 x8, .int .i64 x9] 34 (0, 0)) :: NY :: NX :: MR :: Hs) ∧ Eager (0 < bs.length → ∃ g, A3 = some ⟨g, 0, none⟩ ∧ Bytes1 G' g 5 bs.length)) (fun j _ => bs.length - (intOf j).toNat)
  case atStart => exact ⟨0, N3, by omega, rfl, hwm, ⟨fun h0 => by obtain ⟨g, c, e, hB⟩ := own_bytes1 HO3.out h0; injection e with e; exact ⟨g, e, hB⟩⟩⟩
  case round =>
    obtain ⟨j, G1, hj, rfl, hwl, hb⟩ := hrel
    clear hwm
    by_cases hjl : j < bs.length
    · obtain ⟨g, rfl, hB⟩ := hb.out (by omega)
      obtain ⟨z, hc, hset⟩ := bytes1_set hB hwl j (by omega)
      obtain ⟨cs, hg, _⟩ := hB.out
      have f0 := heap_free (hwl.le g _ hg) j
      have HSET := Lib.hid hset
      have hji : (j : Int) < bs.length := by omega
      clear hset hg hB hb
      go_wp2
      obtain ⟨G2, h1, h2⟩ := HSET.out 77
      exact ⟨⟨j + 1, G2, by omega, by go_num, h1, ⟨fun _ => ⟨g, rfl, h2⟩⟩⟩, by simp [intOf]; omega⟩
    · obtain rfl : j = bs.length := by omega
      have hL := Sat.bring (l₁ := [Hp.one nr (.cells #[.int .i64 x0, .string x1, .string x2, .string x3, .string x4, .int .i64 x5, .int .i64 x6, .int .i64 x7, .int .i64 x8, .int .i64 x9] 34 (0, 0)), NY]) hwl.drop
      clear hb hwl HB HS3
      go_wp2_with fail
      have hln : r.2.1.length ≤ 9223372036854775807 := by have := (HV1.out).len; omega
      go_loopw [15] (fun j wr => ∃ (q : Nat) (G' : Hp), q ≤ r.2.1.length ∧ j = .int .i64 q ∧ Sat σ wr (G' :: Hp.one nr (.cells #[.int .i64 x0, .string x1, .string x2, .string x3, .string x4, .int .i64 x5, .int .i64 x6, .int .i64 x7, .int .i64 x8, .int .i64 x9] 34 (0, 0)) :: NY :: MR :: Hs) ∧ Eager (0 < r.2.1.length → ∃ g, A1 = some ⟨g, 0, none⟩ ∧ Bytes1 G' g 5 r.2.1.length)) (fun j _ => r.2.1.length - (intOf j).toNat)
      case atStart => exact ⟨0, NX, by omega, rfl, hL, ⟨fun h0 => by obtain ⟨g, c, e, hB⟩ := own_bytes1 HO1.out h0; injection e with e; exact ⟨g, e, hB⟩⟩⟩
      case round =>
        obtain ⟨j, G1, hj, rfl, hwl, hb⟩ := hrel
        clear hL
        by_cases hjl : j < r.2.1.length
        · obtain ⟨g, rfl, hB⟩ := hb.out (by omega)
          obtain ⟨z, hc, hset⟩ := bytes1_set hB hwl j (by omega)
          obtain ⟨cs, hg, _⟩ := hB.out
          have f0 := heap_free (hwl.le g _ hg) j
          have HSET := Lib.hid hset
          have hji : (j : Int) < r.2.1.length := by omega
          clear hset hg hB hb
          go_wp2
          obtain ⟨G2, h1, h2⟩ := HSET.out 78
          exact ⟨⟨j + 1, G2, by omega, by go_num, h1, ⟨fun _ => ⟨g, rfl, h2⟩⟩⟩, by simp [intOf]; omega⟩
        · obtain rfl : j = r.2.1.length := by omega
          have hL := hwl.drop
          clear hb hwl
          have hw10 := Sat.bring (l₁ := [Hp.one wr.heap.size (.cells (ints .u8 [48]).toArray 5 (1, 2)), Hp.one nr (.cells #[.int .i64 x0, .string x1, .string x2, .string x3, .string x4, .int .i64 x5, .int .i64 x6, .int .i64 x7, .int .i64 x8, .int .i64 x9] 34 (0, 0)), NY]) (hL.alloc (.cells (ints .u8 [48]).toArray 5 (1, 2)))
          have hl := lit_sl wr.heap.size [48] 5 (1, 2) (by decide)
          have HADD2 := Lib.hid (add_any (.slice (some ⟨wr.heap.size, 0, none⟩) 1 1) [48] _ hw10 (H := Hp.one wr.heap.size (.cells (ints .u8 [48]).toArray 5 (1, 2))) (by simp) hl HR1.out HCI.out (by decide) (by have := HP1.out; have := HLE.out; show r.1.pos + 1 ≤ _; omega))
          have HSTOP : Hid (r.1.err ≠ none ∨ r.1.st = 6 → runC r.1 [48] = (r.1, [], 0)) := Lib.hid (fun h => run_stop r.1 [48] h)
          generalize runC r.1 [48] = r3 at *
          clear hw10 hl hL
          go_wp2_with fail
          refine HADD2.out.mono ?_
          rintro e w11 ⟨v3, ve3, M3, N3', rfl, hw11, hr3, ho3, hev3⟩
          obtain ⟨A4, c4, rfl, _⟩ := ho3.slice
          have d0 : w11.cell? ⟨nr, 0, none⟩ = some (.int .i64 x0) := hw11.cellAt (H := Hp.one nr (.cells #[.int .i64 x0, .string x1, .string x2, .string x3, .string x4, .int .i64 x5, .int .i64 x6, .int .i64 x7, .int .i64 x8, .int .i64 x9] 34 (0, 0))) (by simp) ((Hp.one_cell _ _ _ _).trans rfl)
          have HEV3 := Lib.hid hev3
          clear HADD2 ho3 hr3 hev3
          have hw11 : Sat σ w11 (N3' :: M3 :: Hp.one wr.heap.size (.cells (ints .u8 [48]).toArray 5 (1, 2)) :: Hp.one nr (.cells #[.int .i64 x0, .string x1, .string x2, .string x3, .string x4, .int .i64 x5, .int .i64 x6, .int .i64 x7, .int .i64 x8, .int .i64 x9] 34 (0, 0)) :: NY :: Hs) := hw11
          clear hj hjl hln
          by_cases hstop : r.1.err ≠ none ∨ r.1.st = 6
          · have hrs := HSTOP.out hstop
            have e1 : r3.2.1.length = 0 := by rw [hrs]; rfl
            have e2 : r3.2.2 = 0 := by rw [hrs]
            rw [hrs] at HEV3
            rw [e1, e2]
            clear hrs e1 e2 HSTOP
            obtain ⟨d0, d1, d2, d3, d4, d5, d6, d7, d8, d9⟩ := xf_all (x0 := x0) (x1 := x1) (x2 := x2) (x3 := x3) (x4 := x4) (x5 := x5) (x6 := x6) (x7 := x7) (x8 := x8) (x9 := x9) (nb := nr) hw11 (by simp)
            cases dn with
            | true =>
              go_wp2_with fail
              have hmm : M3 ∈ (N3' :: M3 :: Hp.one wr.heap.size (.cells (ints .u8 [48]).toArray 5 (1, 2)) :: Hp.one nr (.cells #[.int .i64 x0, .string x1, .string x2, .string x3, .string x4, .int .i64 x5, .int .i64 x6, .int .i64 x7, .int .i64 x8, .int .i64 x9] 34 (0, 0)) :: NY :: Hs) := List.mem_cons_of_mem _ List.mem_cons_self
              have hee : EV M3 ve3 (errE r.1.err) := HEV3.out
              refine (HIS.out _ M3 _ _ hw11 hmm hee).mono ?_
              rintro e w12 ⟨rfl, hw12⟩
              go_wp2_with fail
              refine (works_any _ hw12).mono ?_
              rintro e w13 ⟨rfl, hw13⟩
              go_wp2_with fail
              go_ret
              exact ⟨rfl, hw13.drop.drop.drop.drop.drop⟩
            | false =>
              have hst : r.1.st ≠ 6 := of_decide_eq_false HD.out
              have hx1 : x0 = 1 := by have := HX0.out; rw [if_neg (hstop.resolve_right hst)] at this; exact this
              subst hx1
              go_wp2_with fail
              have hmm := (List.mem_cons_of_mem N3' (List.mem_cons_self (a := M3) (l := Hp.one wr.heap.size (.cells (ints .u8 [48]).toArray 5 (1, 2)) :: Hp.one nr (.cells #[.int .i64 1, .string x1, .string x2, .string x3, .string x4, .int .i64 x5, .int .i64 x6, .int .i64 x7, .int .i64 x8, .int .i64 x9] 34 (0, 0)) :: NY :: Hs)))
              have hee : EV M3 ve3 (errE r.1.err) := HEV3.out
              refine (HIS.out _ M3 _ _ hw11 hmm hee).mono ?_
              rintro e w12 ⟨rfl, hw12⟩
              go_wp2_with fail
              refine (works_any _ hw12).mono ?_
              rintro e w13 ⟨rfl, hw13⟩
              go_wp2_with fail
              go_ret
              exact ⟨rfl, hw13.drop.drop.drop.drop.drop⟩
          · have hst : ¬ r.1.st = 6 := fun h => hstop (.inr h)
            have her : r.1.err = none := by simpa using fun h => hstop (.inl h)
            have hx1 : x0 = 0 := by have := HX0.out; rw [if_pos her] at this; exact this
            have hdn : dn = false := by have := HD.out; rw [decide_eq_false hst] at this; exact this.symm
            subst hdn; subst hx1
            go_wp2_with (go_at_call 14; refine (works_any _ hw11).mono ?_; rintro e w13 ⟨rfl, hw13⟩)
            go_ret
            exact ⟨rfl, hw13.drop.drop.drop.drop.drop⟩
end
end Go.Proofs.Ytgpmkiamfbbfmaa
