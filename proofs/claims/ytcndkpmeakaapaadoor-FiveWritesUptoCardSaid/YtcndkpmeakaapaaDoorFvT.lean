/- Walks of the references: host's Check, small, PutTwo, PutLogin. -/
import Derived.Test.YtcndkpmeakaapaaDoorFvS
import Derived.Test.YtcndkpmeakaapaaDoorHrE
set_option linter.unusedVariables false
set_option linter.unusedSimpArgs false
namespace Go.Proofs.YtcndkpmeakaapaaDoor
open Go Go.RowKit
theorem appOne {N : Hp} {A : Option Addr} {c n : Nat} {a b x : Int} {l : List Int} (hl : l.length = n) (h : Own N 5 1 (.slice A (2 + n + 1) c) (2 + n + 1) (ints .u8 ([a, b] ++ l) ++ [.int .u8 x])) : Own N 5 1 (.slice A (2 + n + 1) c) (2 + n + 1) (ints .u8 ([a, b] ++ l ++ [x])) := by
  rw [ints_append]; exact h
section
variable {σ w w' : World} {Hs : List Hp} {H H1 H2 M N Y R E X HB : Hp}
set_option maxHeartbeats 4000000
set_option maxRecDepth 10000 in
theorem rcheck_any (a0 a1 a2 a3 : Int) (s : ByteArray) (hs : s.size ≤ 9223372036854775807) (w : World) (hw : Sat σ w Hs) :
    Calls Tryd.prog 56 #[.agg #[.int .u8 a0, .int .u8 a1, .int .u8 a2, .int .u8 a3, .string s]] w fun e w' => e = .returned (.bool (checkB a0 a1 a2 a3 s)) ∧ Sat σ w' Hs := by
  by_cases h0 : s.size = 0
  · have hr : Hid (checkB a0 a1 a2 a3 s = true) := Lib.hid (by unfold checkB; rw [decide_eq_true h0]; rfl)
    obtain rfl := str_empty h0
    go_enter Tryd.func56, Tryd.ntmps56
    go_wp2
    go_ret
    exact ⟨by rw [hr.out]; rfl, hw.alloc' _⟩
  · have hse : s.toList.isEmpty = false := ne_emp h0
    have hbx := hw.alloc (.cells #[.int .u8 a0, .int .u8 a1, .int .u8 a2, .int .u8 a3, .string s] 27)
    have HP := Lib.hid (rparse_any s hs _ hbx)
    have HLN := Lib.hid (nameR_len s)
    unfold RNameP at HP
    have HR : Hid (checkB a0 a1 a2 a3 s = (decide ((nameR s).2 = none ∧ (nameR s).1 = s) && decide (a0 = 0 ∧ a1 = 0 ∧ a2 = 0 ∧ a3 = 0))) := Lib.hid (by unfold checkB; rw [decide_eq_false h0]; rfl)
    have HA := Lib.hid (fun W => addr_zero W a0 a1 a2 a3)
    clear h0 hs
    generalize checkB a0 a1 a2 a3 s = res at *
    generalize nameR s = r at *
    obtain ⟨n, er⟩ := r
    generalize decide (a0 = 0 ∧ a1 = 0 ∧ a2 = 0 ∧ a3 = 0) = za at *
    go_enter Tryd.func56, Tryd.ntmps56
    go_wp2_with fail
    refine HP.out.mono ?_
    rintro e w2 ⟨rfl, hw2⟩
    generalize w.heap.size = nb at *
    have hw3 := hw2.alloc (.cells #[.int .i64 0, .string ⟨#[]⟩, .string ⟨#[]⟩, .string ⟨#[]⟩, .string ⟨#[]⟩, .int .i64 0, .int .i64 0, .int .i64 0, .int .i64 0, .int .i64 0] 41)
    generalize hn2 : w2.heap.size = n2 at *
    have HW3 := Lib.hid hw3
    have HBO := Lib.hid (BE_row er)
    have HB0 := Lib.hid (BE_get er)
    have hws := hw3.setRow (BE er)
    have hne2 : ¬ n2 = nb := by have := hw2.one_lt; omega
    generalize hB : BE er = B at *
    clear hB
    go_upto_region 4 with (with_reducible show wpList _ _ _ [{ dst := none, op := _, type := _, pos := _, after := _, guard := _ }] _ _; go_must (refine wpList_store_row rfl 41 (.tmp 4) (.tmp 13) rfl n2 B rfl rfl 41 _ HW3.out.heap HBO.out.1 HBO.out.2.1 HBO.out.2.2 ?_))
    generalize hw4 : World.setRow _ _ _ = w4 at *
    have k0 : w4.cell? ⟨n2, 0, none⟩ = some (.int .i64 ((chE er).length : Nat)) := hws.one_cell HB0.out
    have hwt := hws.swap
    have c0 : w4.cell? ⟨nb, 0, none⟩ = some (.int .u8 a0) := hwt.one_cell rfl
    have c1 : w4.cell? ⟨nb, 1, none⟩ = some (.int .u8 a1) := hwt.one_cell rfl
    have c2 : w4.cell? ⟨nb, 2, none⟩ = some (.int .u8 a2) := hwt.one_cell rfl
    have c3 : w4.cell? ⟨nb, 3, none⟩ = some (.int .u8 a3) := hwt.one_cell rfl
    have c4 : w4.cell? ⟨nb, 4, none⟩ = some (.string s) := hwt.one_cell rfl
    have hfin := hwt.drop.drop
    have heq := HA.out
    clear hw hbx hw2 hw3 HW3 hws hwt hw4 hn2 HP HBO HB0
    cases er with
    | some x =>
      have hx := HLN.out x rfl
      have hr : Hid (res = false) := Lib.hid (by rw [HR.out, decide_eq_false (fun h => by cases h.1)]; rfl)
      have k0' : w4.cell? ⟨n2, 0, none⟩ = some (.int .i64 1) := by rw [k0]; show some (Value.int .i64 ((x.1.length : Nat) : Int)) = _; rw [hx]; rfl
      clear HR HA heq k0 hx
      go_wp2
      go_ret
      exact ⟨by rw [hr.out]; rfl, hfin⟩
    | none =>
      have k0' : w4.cell? ⟨n2, 0, none⟩ = some (.int .i64 0) := k0
      clear k0
      by_cases hn : n = s
      · subst hn
        have hr : Hid (res = za) := Lib.hid (by rw [HR.out, decide_eq_true ⟨rfl, rfl⟩]; rfl)
        clear HR HA
        go_wp2
        go_ret
        exact ⟨by rw [hr.out]; rfl, hfin⟩
      · have hne : (n.toList == s.toList) = false := by
          cases h : n.toList == s.toList with
          | false => rfl
          | true => exact absurd (toList_inj (eq_of_beq h)) hn
        have hr : Hid (res = false) := Lib.hid (by rw [HR.out, decide_eq_false (fun h => hn h.2)]; rfl)
        clear hn HR HA
        go_wp2
        go_ret
        exact ⟨by rw [hr.out]; rfl, hfin⟩
theorem rsmall_any (n : Int) (w : World) : Calls Tryd.prog 55 #[.int .i64 n] w fun e w' => e = .returned (.bool (smallB n)) ∧ w = w' := by
  by_cases h1 : 0 ≤ n
  · by_cases h2 : n ≤ 255
    · have HD : Hid (smallB n = true) := Lib.hid (decide_eq_true ⟨h1, h2⟩)
      generalize smallB n = q at *
      go_enter Tryd.func55, Tryd.ntmps55
      go_wp2
      go_ret
      exact ⟨by rw [HD.out]; rfl, rfl⟩
    · have HD : Hid (smallB n = false) := Lib.hid (decide_eq_false (fun h => h2 h.2))
      generalize smallB n = q at *
      go_enter Tryd.func55, Tryd.ntmps55
      go_wp2
      go_ret
      exact ⟨by rw [HD.out]; rfl, rfl⟩
  · have HD : Hid (smallB n = false) := Lib.hid (decide_eq_false (fun h => h1 h.1))
    generalize smallB n = q at *
    go_enter Tryd.func55, Tryd.ntmps55
    go_wp2
    go_ret
    exact ⟨by rw [HD.out]; rfl, rfl⟩
theorem rputTwo_any (v n : Int) (w : World) (hw : Sat σ w Hs) : Calls Tryd.prog 36 #[.int .u8 v, .int .i64 n] w (PutP σ Hs (two2 v n)) := by
  have HPO : Hid (two2 v n = if smallB n = true then ([v, n], 0) else ([], 2)) := Lib.hid rfl
  generalize two2 v n = po at *
  go_enter Tryd.func36, Tryd.ntmps36
  go_wp2_with fail
  refine (rsmall_any n _).mono ?_
  rintro e w2 ⟨rfl, rfl⟩
  cases hsm : smallB n with
  | false =>
    rw [hsm] at HPO
    have hr : Hid (po = ([], 2)) := Lib.hid (by rw [HPO.out]; rfl)
    clear HPO
    go_wp2
    go_ret2
    rw [hr.out]
    exact PutP.mk _ Hp.emp rfl hw.emp Kd.IsSl.nil
  | true =>
    have hq := smallB_t hsm
    have m1 : IntKind.u8.wrap n = n := IntWalk.u8_in _ (by omega)
    rw [hsm] at HPO
    have hr : Hid (po = ([v, n], 0)) := Lib.hid (by rw [HPO.out]; rfl)
    clear HPO hsm hq
    go_wp2
    go_ret2
    rw [hr.out]
    exact PutP.mk _ _ rfl (hw.alloc (.cells #[.int .u8 v, .int .u8 n] 5)) (bytes_lit w.heap.size [v, n] (by show 2 ≤ _; decide) 5)
set_option maxRecDepth 10000 in
theorem rputLogin_any (u p : ByteArray) (hu : u.size ≤ 9223372036854775807) (hp : p.size ≤ 9223372036854775807) (w : World) (hw : Sat σ w Hs) :
    Calls Tryd.prog 32 #[.string u, .string p] w (PutP σ Hs (putLogO u p)) := by
  have HPO : Hid (putLogO u p = if logV u p = true then (logW u p, 0) else ([], 2)) := Lib.hid rfl
  have HLV : Hid (logV u p = !(decide (u.size = 0) || (decide (p.size = 0) || (decide (255 < u.size) || decide (255 < p.size))))) := Lib.hid rfl
  generalize putLogO u p = po at *
  generalize logV u p = lv at *
  by_cases hu0 : u.size = 0
  · have hr : Hid (po = ([], 2)) := Lib.hid (by rw [HPO.out, HLV.out, decide_eq_true hu0]; rfl)
    obtain rfl := str_empty hu0
    go_enter Tryd.func32, Tryd.ntmps32
    go_wp2
    go_ret2
    rw [hr.out]
    exact PutP.mk _ Hp.emp rfl hw.emp Kd.IsSl.nil
  · have hue := ne_emp hu0
    by_cases hp0 : p.size = 0
    · have hr : Hid (po = ([], 2)) := Lib.hid (by rw [HPO.out, HLV.out, decide_eq_true hp0]; simp)
      obtain rfl := str_empty hp0
      clear hu0 hp0
      go_enter Tryd.func32, Tryd.ntmps32
      go_wp2
      go_ret2
      rw [hr.out]
      exact PutP.mk _ Hp.emp rfl hw.emp Kd.IsSl.nil
    · have hpe := ne_emp hp0
      by_cases hu1 : 255 < u.size
      · have hr : Hid (po = ([], 2)) := Lib.hid (by rw [HPO.out, HLV.out, decide_eq_true hu1]; simp)
        have hui : (255 : Int) < u.size := by omega
        clear hu0 hp0 hu1
        go_enter Tryd.func32, Tryd.ntmps32
        go_wp2
        go_ret2
        rw [hr.out]
        exact PutP.mk _ Hp.emp rfl hw.emp Kd.IsSl.nil
      · have hui : ¬ (255 : Int) < u.size := by omega
        by_cases hp1 : 255 < p.size
        · have hr : Hid (po = ([], 2)) := Lib.hid (by rw [HPO.out, HLV.out, decide_eq_true hp1]; simp)
          have hpi : (255 : Int) < p.size := by omega
          clear hu0 hp0 hu1 hp1
          go_enter Tryd.func32, Tryd.ntmps32
          go_wp2
          go_ret2
          rw [hr.out]
          exact PutP.mk _ Hp.emp rfl hw.emp Kd.IsSl.nil
        · have hr : Hid (po = ([1, (u.size : Int)] ++ byL u ++ [(p.size : Int)] ++ byL p, 0)) := Lib.hid (by rw [HPO.out, HLV.out, decide_eq_false hu0, decide_eq_false hp0, decide_eq_false hu1, decide_eq_false hp1]; rfl)
          have hpi : ¬ (255 : Int) < p.size := by omega
          have m1 : IntKind.u8.wrap (u.size : Int) = u.size := IntWalk.u8_in _ (by omega)
          have m2 : IntKind.u8.wrap (p.size : Int) = p.size := IntWalk.u8_in _ (by omega)
          have HUL := Lib.hid (byL_length u)
          have HPL := Lib.hid (byL_length p)
          have HUB : Hid (u.size ≤ 255 ∧ p.size ≤ 255) := Lib.hid ⟨by omega, by omega⟩
          have hw2 := hw.alloc (.cells (ints .u8 [1, (u.size : Int)]).toArray 5)
          have ho2 : Own (Hp.one w.heap.size (.cells (ints .u8 [1, (u.size : Int)]).toArray 5 (0, 0))) 5 1 (.slice (some ⟨w.heap.size, 0, none⟩) 2 2) 2 (ints .u8 [1, (u.size : Int)]) := own_lit w.heap.size _ _ 1 2 rfl (by decide)
          have HW2 := Lib.hid hw2
          have HO2 := Lib.hid ho2
          clear hw2 ho2 hu0 hp0 hu1 hp1 HLV HPO
          go_enter Tryd.func32, Tryd.ntmps32
          go_upto_region 4 with (at_builtin; go_must (refine wpList_app HW2.out rfl (.tmp 26) (.tmp 27) 22 9 5 (.int .u8 0) 1 1 rfl Tryd.underlying22 (by kernel_rfl) rfl (by decide) _ _ 2 u.size (ints .u8 [1, (u.size : Int)]) _ rfl rfl HO2.out (src_str u _) (by have := HUB.out; omega) ?_); intro A3 c3 w3 N3 hw3 ho3 _ _)
          have ho3' := own_app (o := [1, (u.size : Int)]) (l := byL u) HUL.out ho3
          rw [List.length_append, HUL.out] at ho3'
          have HO3 : Hid (Own N3 5 1 (.slice A3 (2 + u.size) c3) (2 + u.size) (ints .u8 ([1, (u.size : Int)] ++ byL u))) := Lib.hid ho3'
          have HW3 := Lib.hid (hw3.alloc' (.cells (ints .u8 [(p.size : Int)]).toArray 5))
          clear ho3 ho3' hw3
          go_wp2_with (first
            | (at_builtin; refine wpList_app HW3.out rfl (.tmp 29) (.tmp 33) 22 22 5 (.int .u8 0) 1 1 rfl Tryd.underlying22 (by kernel_rfl) rfl (by decide) _ _ (2 + u.size) 1 (ints .u8 ([1, (u.size : Int)] ++ byL u)) [.int .u8 (p.size : Int)] rfl rfl HO3.out (src_new Tryd.underlying22 _ [.int .u8 (p.size : Int)] _ 1 1 1 (by simp) rfl rfl) (by have := HUB.out; omega) ?_; intro A4 c4 w4 N4 hw4 ho4 _ _; have HO4 := Lib.hid (appOne HUL.out ho4); have HW4 := Lib.hid hw4; clear ho4 hw4)
            | (at_builtin; go_must (refine wpList_app HW4.out rfl (.tmp 34) (.tmp 35) 22 9 5 (.int .u8 0) 1 1 rfl Tryd.underlying22 (by kernel_rfl) rfl (by decide) _ _ (2 + u.size + 1) p.size (ints .u8 ([1, (u.size : Int)] ++ byL u ++ [(p.size : Int)])) _ rfl rfl HO4.out (src_str p _) (by have := HUB.out; omega) ?_); intro A5 c5 w5 N5 hw5 ho5 _ _))
          go_ret2
          rw [hr.out]
          have ho5a : Own N5 5 1 (.slice A5 (2 + u.size + 1 + p.size) c5) (([1, (u.size : Int)] ++ byL u ++ [(p.size : Int)]).length + p.size) (ints .u8 ([1, (u.size : Int)] ++ byL u ++ [(p.size : Int)]) ++ ints .u8 (byL p)) := by
            rw [List.length_append, List.length_append, HUL.out]; exact ho5
          exact PutP.mk _ N5 rfl hw5 ((own_app (l := byL p) HPL.out ho5a).isSl (d := kB) (reps_ints _) rfl (Hp.le_refl _))
end
end Go.Proofs.YtcndkpmeakaapaaDoor
