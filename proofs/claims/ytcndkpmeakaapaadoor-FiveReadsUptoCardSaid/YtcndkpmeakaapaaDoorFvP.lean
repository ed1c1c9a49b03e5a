/- Walks: isShort of nothing, put, PutChoice, PutVerdict, PutReply, PutLogin. -/
import Derived.Test.YtcndkpmeakaapaaDoorFvN
set_option linter.unusedVariables false
set_option linter.unusedSimpArgs false
namespace Go.Proofs.YtcndkpmeakaapaaDoor
open Go Go.RowKit
def two2 (v n : Int) : List Int × Int := if smallB n = true then ([v, n], 0) else ([], 2)
def logV (u p : ByteArray) : Bool := !(decide (u.size = 0) || (decide (p.size = 0) || (decide (255 < u.size) || decide (255 < p.size))))
def logW (u p : ByteArray) : List Int := [1, (u.size : Int)] ++ byL u ++ [(p.size : Int)] ++ byL p
def putLogO (u p : ByteArray) : List Int × Int := if logV u p = true then (logW u p, 0) else ([], 2)
theorem PutP.mk {σ : World} {Hs : List Hp} {o : List Int × Int} {w' : World} (vo : Value) (N : Hp) {e : Ending} (h1 : e = .returned (.tuple #[vo, .int .i64 o.2])) (h2 : Sat σ w' (N :: Hs)) (h3 : kB.IsSl N vo o.1) : PutP σ Hs o e w' := ⟨vo, N, h1, h2, h3⟩
section
variable {σ w w' : World} {Hs : List Hp} {H H1 H2 M N Y R E X HB : Hp}
set_option maxHeartbeats 4000000
set_option maxRecDepth 10000 in
theorem errIs_nil (w : World) : Calls Tryd.prog 61 #[.nilIface, .iface 39 (.int .i64 6)] w fun e w' => e = .returned (.bool false) ∧ w = w' := by
  have hq : ∀ W : World, (Go.binOp .eql 31 .nilIface (.iface 39 (.int .i64 6))).run Tryd.prog W = .ok (.bool false) W := fun W => by kernel_rfl
  go_enter Tryd.func61, Tryd.ntmps61
  go_wp2
  go_ret
  exact ⟨rfl, rfl⟩
set_option maxRecDepth 10000 in
theorem isShort_nil (w : World) : Calls Tryd.prog 54 #[.nilIface] w fun e w' => e = .returned (.bool false) ∧ w = w' := by
  have HI := Lib.hid errIs_nil
  go_enter Tryd.func54, Tryd.ntmps54
  go_wp2_with (go_at_call 61; refine (HI.out _).mono ?_; rintro e w2 ⟨rfl, rfl⟩)
  go_ret
  exact ⟨rfl, rfl⟩
theorem put_any (v n : Int) (w : World) (hw : Sat σ w Hs) : Calls Tryd.prog 57 #[.int .u8 v, .int .i64 n] w (PutP σ Hs (two2 v n)) := by
  have HPO : Hid (two2 v n = if smallB n = true then ([v, n], 0) else ([], 2)) := Lib.hid rfl
  unfold PutP
  generalize two2 v n = po at *
  go_enter Tryd.func57, Tryd.ntmps57
  go_wp2_with fail
  refine (byteOf_any n _).mono ?_
  rintro e w2 ⟨⟨b, rfl, hb⟩, rfl⟩
  cases hsm : smallB n with
  | false =>
    rw [hsm] at HPO
    have hr : Hid (po = ([], 2)) := Lib.hid (by rw [HPO.out]; rfl)
    clear hb HPO
    go_wp2
    go_ret2
    rw [hr.out]
    exact ⟨_, Hp.emp, rfl, hw.emp, Kd.IsSl.nil⟩
  | true =>
    rw [hsm] at HPO hb
    obtain rfl := hb rfl
    have hr : Hid (po = ([v, b], 0)) := Lib.hid (by rw [HPO.out]; rfl)
    clear hb HPO hsm
    go_wp2
    go_ret2
    rw [hr.out]
    exact ⟨_, _, rfl, hw.alloc (.cells #[.int .u8 v, .int .u8 b] 5), bytes_lit w.heap.size [v, b] (by show 2 ≤ _; decide) 5⟩
theorem putChoice_any (n : Int) (w : World) (hw : Sat σ w Hs) : Calls Tryd.prog 35 #[.int .i64 n] w (PutP σ Hs (two2 5 n)) := by
  have HC := Lib.hid (put_any 5 n w hw)
  unfold PutP at HC ⊢
  go_enter Tryd.func35, Tryd.ntmps35
  go_wp2_with (go_at_call 57; refine HC.out.mono ?_; rintro e w2 ⟨vo, N, rfl, hw2, h2⟩)
  go_ret2
  exact ⟨_, N, rfl, hw2, h2⟩
theorem putVerdict_any (n : Int) (w : World) (hw : Sat σ w Hs) : Calls Tryd.prog 37 #[.int .i64 n] w (PutP σ Hs (two2 1 n)) := by
  have HC := Lib.hid (put_any 1 n w hw)
  unfold PutP at HC ⊢
  go_enter Tryd.func37, Tryd.ntmps37
  go_wp2_with (go_at_call 57; refine HC.out.mono ?_; rintro e w2 ⟨vo, N, rfl, hw2, h2⟩)
  go_ret2
  exact ⟨_, N, rfl, hw2, h2⟩
set_option maxRecDepth 10000 in
theorem putReply_any (c a0 a1 a2 a3 p : Int) (s : ByteArray) (hs : s.size ≤ 9223372036854775807) (m : Int) (w : World) (hw : Sat σ w Hs) (hH : H ∈ Hs) (hm : Hp.cell H 1 0 = some (.int .i64 m)) :
    Calls Tryd.prog 34 #[.int .i64 c, .agg #[.int .u8 a0, .int .u8 a1, .int .u8 a2, .int .u8 a3, .string s, .int .i64 p]] w (PutP σ Hs (putO c a0 a1 a2 a3 p s)) := by
  have HC := Lib.hid (putReq_any c a0 a1 a2 a3 p s hs m _ (hw.alloc (.cells #[.int .u8 a0, .int .u8 a1, .int .u8 a2, .int .u8 a3, .string s, .int .i64 p] 29)) (List.mem_cons_of_mem _ hH) hm)
  unfold PutP at HC ⊢
  clear hm
  go_enter Tryd.func34, Tryd.ntmps34
  go_wp2_with (go_at_call 15; refine HC.out.mono ?_; rintro e w2 ⟨vo, N, rfl, hw2, h2⟩)
  go_ret2
  exact ⟨_, N, rfl, hw2.drop1, h2⟩
set_option maxRecDepth 10000 in
theorem putLogin_any (u p : ByteArray) (hu : u.size ≤ 9223372036854775807) (hp : p.size ≤ 9223372036854775807) (w : World) (hw : Sat σ w Hs) :
    Calls Tryd.prog 31 #[.string u, .string p] w (PutP σ Hs (putLogO u p)) := by
  have HPO : Hid (putLogO u p = if logV u p = true then (logW u p, 0) else ([], 2)) := Lib.hid rfl
  have HLV : Hid (logV u p = !(decide (u.size = 0) || (decide (p.size = 0) || (decide (255 < u.size) || decide (255 < p.size))))) := Lib.hid rfl
  generalize putLogO u p = po at *
  generalize logV u p = lv at *
  by_cases hu0 : u.size = 0
  · have hr : Hid (po = ([], 2)) := Lib.hid (by rw [HPO.out, HLV.out, decide_eq_true hu0]; rfl)
    obtain rfl := str_empty hu0
    go_enter Tryd.func31, Tryd.ntmps31
    go_wp2
    go_ret2
    rw [hr.out]
    exact PutP.mk _ Hp.emp rfl hw.emp Kd.IsSl.nil
  · have hue := ne_emp hu0
    by_cases hp0 : p.size = 0
    · have hr : Hid (po = ([], 2)) := Lib.hid (by rw [HPO.out, HLV.out, decide_eq_true hp0]; simp)
      obtain rfl := str_empty hp0
      clear hu0 hp0
      go_enter Tryd.func31, Tryd.ntmps31
      go_wp2
      go_ret2
      rw [hr.out]
      exact PutP.mk _ Hp.emp rfl hw.emp Kd.IsSl.nil
    · have hpe := ne_emp hp0
      by_cases hu1 : 255 < u.size
      · have hr : Hid (po = ([], 2)) := Lib.hid (by rw [HPO.out, HLV.out, decide_eq_true hu1]; simp)
        have hui : (255 : Int) < u.size := by omega
        clear hu0 hp0 hu1
        go_enter Tryd.func31, Tryd.ntmps31
        go_wp2
        go_ret2
        rw [hr.out]
        exact PutP.mk _ Hp.emp rfl hw.emp Kd.IsSl.nil
      · have hui : ¬ (255 : Int) < u.size := by omega
        by_cases hp1 : 255 < p.size
        · have hr : Hid (po = ([], 2)) := Lib.hid (by rw [HPO.out, HLV.out, decide_eq_true hp1]; simp)
          have hpi : (255 : Int) < p.size := by omega
          clear hu0 hp0 hu1 hp1
          go_enter Tryd.func31, Tryd.ntmps31
          go_wp2
          go_ret2
          rw [hr.out]
          exact PutP.mk _ Hp.emp rfl hw.emp Kd.IsSl.nil
        · have hr : Hid (po = ([1, (u.size : Int)] ++ byL u ++ [(p.size : Int)] ++ byL p, 0)) := Lib.hid (by rw [HPO.out, HLV.out, decide_eq_false hu0, decide_eq_false hp0, decide_eq_false hu1, decide_eq_false hp1]; rfl)
          have hpi : ¬ (255 : Int) < p.size := by omega
          have m1 : IntKind.u8.wrap (u.size : Int) = u.size := IntWalk.u8_in _ (by omega)
          have m2 : IntKind.u8.wrap (p.size : Int) = p.size := IntWalk.u8_in _ (by omega)
          have HUL := Lib.hid (byL_length u)
          have HPL := Lib.hid (byL_length p)
          have HUB : Hid (u.size ≤ 255 ∧ p.size ≤ 255) := Lib.hid ⟨by omega, by omega⟩
          have hw2 := hw.alloc (.cells (ints .u8 [1, (u.size : Int)]).toArray 5)
          have ho2 : Own (Hp.one w.heap.size (.cells (ints .u8 [1, (u.size : Int)]).toArray 5 (0, 0))) 5 1 (.slice (some ⟨w.heap.size, 0, none⟩) 2 2) 2 (ints .u8 [1, (u.size : Int)]) := own_lit w.heap.size _ _ 1 2 rfl (by decide)
          have HW2 := Lib.hid hw2
          have HO2 := Lib.hid ho2
          clear hw2 ho2 hu0 hp0 hu1 hp1 HLV HPO
          go_enter Tryd.func31, Tryd.ntmps31
          go_upto_region 5 with (at_builtin; go_must (refine wpList_app HW2.out rfl (.tmp 27) (.tmp 28) 22 9 5 (.int .u8 0) 1 1 rfl Tryd.underlying22 (by kernel_rfl) rfl (by decide) _ _ 2 u.size (ints .u8 [1, (u.size : Int)]) _ rfl rfl HO2.out (src_str u _) (by have := HUB.out; omega) ?_); intro A3 c3 w3 N3 hw3 ho3 _ _)
          have ho3' := own_app (o := [1, (u.size : Int)]) (l := byL u) HUL.out ho3
          rw [List.length_append, HUL.out] at ho3'
          have HO3 : Hid (Own N3 5 1 (.slice A3 (2 + u.size) c3) (2 + u.size) (ints .u8 ([1, (u.size : Int)] ++ byL u))) := Lib.hid ho3'
          have HW3 := Lib.hid (hw3.alloc' (.cells (ints .u8 [(p.size : Int)]).toArray 5))
          clear ho3 ho3' hw3
          go_upto_region 6 with (at_builtin; go_must (refine wpList_app HW3.out rfl (.tmp 30) (.tmp 34) 22 22 5 (.int .u8 0) 1 1 rfl Tryd.underlying22 (by kernel_rfl) rfl (by decide) _ _ (2 + u.size) 1 (ints .u8 ([1, (u.size : Int)] ++ byL u)) [.int .u8 (p.size : Int)] rfl rfl HO3.out (src_new Tryd.underlying22 _ [.int .u8 (p.size : Int)] _ 1 1 1 (by simp) rfl rfl) (by have := HUB.out; omega) ?_); intro A4 c4 w4 N4 hw4 ho4 _ _)
          have ho4a : Own N4 5 1 (.slice A4 (2 + u.size + 1) c4) (([1, (u.size : Int)] ++ byL u).length + 1) (ints .u8 ([1, (u.size : Int)] ++ byL u) ++ ints .u8 [(p.size : Int)]) := by
            rw [List.length_append, HUL.out]; exact ho4
          have ho4' := own_app (l := [(p.size : Int)]) rfl ho4a
          rw [List.length_append, List.length_append, HUL.out] at ho4'
          have HO4 : Hid (Own N4 5 1 (.slice A4 (2 + u.size + 1) c4) (2 + u.size + 1) (ints .u8 ([1, (u.size : Int)] ++ byL u ++ [(p.size : Int)]))) := Lib.hid ho4'
          have HW4 := Lib.hid hw4
          clear ho4 ho4a ho4' hw4
          go_wp2_with (at_builtin; go_must (refine wpList_app HW4.out rfl (.tmp 36) (.tmp 37) 22 9 5 (.int .u8 0) 1 1 rfl Tryd.underlying22 (by kernel_rfl) rfl (by decide) _ _ (2 + u.size + 1) p.size (ints .u8 ([1, (u.size : Int)] ++ byL u ++ [(p.size : Int)])) _ rfl rfl HO4.out (src_str p _) (by have := HUB.out; omega) ?_); intro A5 c5 w5 N5 hw5 ho5 _ _)
          go_ret2
          rw [hr.out]
          have ho5a : Own N5 5 1 (.slice A5 (2 + u.size + 1 + p.size) c5) (([1, (u.size : Int)] ++ byL u ++ [(p.size : Int)]).length + p.size) (ints .u8 ([1, (u.size : Int)] ++ byL u ++ [(p.size : Int)]) ++ ints .u8 (byL p)) := by
            rw [List.length_append, List.length_append, HUL.out]; exact ho5
          exact PutP.mk _ N5 rfl hw5 ((own_app (l := byL p) HPL.out ho5a).isSl (d := kB) (reps_ints _) rfl (Hp.le_refl _))
end
end Go.Proofs.YtcndkpmeakaapaaDoor
