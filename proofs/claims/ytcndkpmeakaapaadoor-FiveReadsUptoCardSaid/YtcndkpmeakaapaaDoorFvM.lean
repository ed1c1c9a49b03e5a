/- Walks: PutRequest, PutReply. -/
import Derived.Test.YtcndkpmeakaapaaDoorFvL
set_option linter.unusedVariables false
set_option linter.unusedSimpArgs false
namespace Go.Proofs.YtcndkpmeakaapaaDoor
open Go Go.RowKit
theorem src_str (s : ByteArray) (W : World) : Src Tryd.prog 1 9 (.string s) s.size (ints .u8 (byL s)) W := by
  have h := Src.ofString W Tryd.underlying9 s
  have e : byteCells s = ints .u8 (byL s) := by
    unfold byteCells ints byL
    rw [List.map_map]; rfl
  rw [e] at h
  exact h
theorem own_app {N : Hp} {v : Value} {o l : List Int} {n : Nat} (hl : l.length = n) (h : Own N 5 1 v (o.length + n) (ints .u8 o ++ ints .u8 l)) : Own N 5 1 v (o ++ l).length (ints .u8 (o ++ l)) := by
  rw [List.length_append, hl, ints_append]; exact h
theorem own_cut8 (b : Nat) (xs : List Int) (k : Nat) (hx : xs.length = 8) (hk : k ≤ 8) : Own (Hp.one b (.cells (ints .u8 xs).toArray 5 (0, 0))) 5 1 (.slice (some ⟨b, 0, none⟩) k 8) (xs.take k).length (ints .u8 (xs.take k)) := by
  have hl : (xs.take k).length = k := by rw [List.length_take]; omega
  rw [hl]
  refine ⟨⟨by simp [ints]; omega, .inr ⟨b, 8, _, rfl, Hp.one_self _ _, hk, by omega, by simp [ints, hx], ?_⟩⟩⟩
  simp [ints, List.map_take]
/-- A right request? -/
def putV (c a0 a1 a2 a3 p : Int) (s : ByteArray) : Bool := smallB c && (checkB a0 a1 a2 a3 s && decide (0 ≤ p ∧ p ≤ 65535))
def putH (c a0 a1 a2 a3 : Int) (s : ByteArray) : List Int := if s.size = 0 then [5, c, 0, 1, a0, a1, a2, a3] else [5, c, 0, 3, (s.size : Int)] ++ byL s
def putW (c a0 a1 a2 a3 p : Int) (s : ByteArray) : List Int := putH c a0 a1 a2 a3 s ++ [p / 256, p % 256]
def putO (c a0 a1 a2 a3 p : Int) (s : ByteArray) : List Int × Int := if putV c a0 a1 a2 a3 p s = true then (putW c a0 a1 a2 a3 p s, 0) else ([], 2)
theorem nameR_size {s : ByteArray} (h : (nameR s).2 = none) : s.size ≤ 253 := by
  unfold nameR at h
  by_cases hl : 253 < s.size
  · rw [if_pos hl] at h; cases h
  · omega
theorem check_size {a0 a1 a2 a3 : Int} {s : ByteArray} (h : checkB a0 a1 a2 a3 s = true) : s.size ≤ 253 := by
  unfold checkB at h
  rcases (Bool.or_eq_true _ _).mp h with h1 | h1
  · have := of_decide_eq_true h1; omega
  · exact nameR_size (of_decide_eq_true ((Bool.and_eq_true _ _).mp h1).1).1
def PutP (σ : World) (Hs : List Hp) (o : List Int × Int) (e : Ending) (w' : World) : Prop := ∃ vo N, e = .returned (.tuple #[vo, .int .i64 o.2]) ∧ Sat σ w' (N :: Hs) ∧ kB.IsSl N vo o.1
section
variable {σ w w' : World} {Hs : List Hp} {H H1 H2 M N Y R E X HB : Hp}
set_option maxHeartbeats 4000000
set_option maxRecDepth 10000 in
theorem putReq_any (c a0 a1 a2 a3 p : Int) (s : ByteArray) (hs : s.size ≤ 9223372036854775807) (m : Int) (w : World) (hw : Sat σ w Hs) (hH : H ∈ Hs) (hm : Hp.cell H 1 0 = some (.int .i64 m)) :
    Calls Tryd.prog 15 #[.int .i64 c, .agg #[.int .u8 a0, .int .u8 a1, .int .u8 a2, .int .u8 a3, .string s, .int .i64 p]] w (PutP σ Hs (putO c a0 a1 a2 a3 p s)) := by
  have HPV : Hid (putV c a0 a1 a2 a3 p s = (smallB c && (checkB a0 a1 a2 a3 s && decide (0 ≤ p ∧ p ≤ 65535)))) := Lib.hid rfl
  have HPO : Hid (putO c a0 a1 a2 a3 p s = if putV c a0 a1 a2 a3 p s = true then (putW c a0 a1 a2 a3 p s, 0) else ([], 2)) := Lib.hid rfl
  have HCK := Lib.hid (fun w' Hs' (h : Sat σ w' Hs') (hH' : H ∈ Hs') => check_any a0 a1 a2 a3 s hs m w' h hH' hm)
  have HCS := Lib.hid (@check_size a0 a1 a2 a3 s)
  have hbx := hw.alloc (.cells #[.int .u8 a0, .int .u8 a1, .int .u8 a2, .int .u8 a3, .string s, .int .i64 p] 29)
  unfold PutP
  clear hm
  generalize putV c a0 a1 a2 a3 p s = pv at *
  generalize putO c a0 a1 a2 a3 p s = po at *
  go_enter Tryd.func15, Tryd.ntmps15
  go_wp2_with fail
  generalize hnb : w.heap.size = nb at *
  generalize hwa : World.alloc _ _ = wa at *
  refine (byteOf_any c _).mono ?_
  rintro e w2 ⟨⟨b, rfl, hb⟩, rfl⟩
  clear hwa hnb hw
  cases hsm : smallB c with
  | false =>
    rw [hsm] at HPV
    clear hb HCK HCS
    go_wp2
    go_ret2
    have hr : po = ([], 2) := by rw [HPO.out]; exact if_neg (by rw [HPV.out]; exact (by simp))
    rw [hr]
    exact ⟨_, Hp.emp, rfl, (hbx.drop).emp, Kd.IsSl.nil⟩
  | true =>
    rw [hsm] at HPV hb
    obtain rfl := hb rfl
    have hsm2 := smallB_t hsm
    have HSM := Lib.hid hsm2
    have c0 : wa.cell? ⟨nb, 0, none⟩ = some (.int .u8 a0) := hbx.one_cell rfl
    have c1 : wa.cell? ⟨nb, 1, none⟩ = some (.int .u8 a1) := hbx.one_cell rfl
    have c2 : wa.cell? ⟨nb, 2, none⟩ = some (.int .u8 a2) := hbx.one_cell rfl
    have c3 : wa.cell? ⟨nb, 3, none⟩ = some (.int .u8 a3) := hbx.one_cell rfl
    have c4 : wa.cell? ⟨nb, 4, none⟩ = some (.string s) := hbx.one_cell rfl
    have c5 : wa.cell? ⟨nb, 5, none⟩ = some (.int .i64 p) := hbx.one_cell rfl
    have HW1 := Lib.hid hbx
    clear hsm2 hbx hsm hb
    go_wp2_with fail
    refine (HCK.out _ _ HW1.out (List.mem_cons_of_mem _ hH)).mono ?_
    rintro e w3 ⟨rfl, hw3⟩
    clear c0 c1 c2 c3 c4 c5 HCK
    have c0 : w3.cell? ⟨nb, 0, none⟩ = some (.int .u8 a0) := hw3.one_cell rfl
    have c1 : w3.cell? ⟨nb, 1, none⟩ = some (.int .u8 a1) := hw3.one_cell rfl
    have c2 : w3.cell? ⟨nb, 2, none⟩ = some (.int .u8 a2) := hw3.one_cell rfl
    have c3 : w3.cell? ⟨nb, 3, none⟩ = some (.int .u8 a3) := hw3.one_cell rfl
    have c4 : w3.cell? ⟨nb, 4, none⟩ = some (.string s) := hw3.one_cell rfl
    have c5 : w3.cell? ⟨nb, 5, none⟩ = some (.int .i64 p) := hw3.one_cell rfl
    cases hck : checkB a0 a1 a2 a3 s with
    | false =>
      rw [hck] at HPV
      go_wp2
      go_ret2
      have hr : po = ([], 2) := by rw [HPO.out]; exact if_neg (by rw [HPV.out]; exact (by simp))
      rw [hr]
      exact ⟨_, Hp.emp, rfl, (hw3.drop).emp, Kd.IsSl.nil⟩
    | true =>
      rw [hck] at HPV
      have hsz := HCS.out hck
      clear HCS
      by_cases hp0 : 0 ≤ p
      · by_cases hp1 : p ≤ 65535
        · have hr : Hid (po = (putW b a0 a1 a2 a3 p s, 0)) := Lib.hid (by rw [HPO.out]; exact if_pos (by rw [HPV.out]; simp; exact ⟨hp0, hp1⟩))
          clear HPO HPV
          have hpr : 0 ≤ p ∧ p ≤ 65535 := ⟨hp0, hp1⟩
          have HPR := Lib.hid hpr
          clear hpr
          have hlt := hw3.one_lt
          by_cases hse : s.size = 0
          · have hru : Hid (putW b a0 a1 a2 a3 p s = [5, b, 0, 1, a0, a1, a2, a3] ++ [p / 256, p % 256]) := Lib.hid (by unfold putW putH; rw [if_pos hse])
            obtain rfl := str_empty hse
            have hsi : ((0 : Nat) : Int) ≤ 253 := by omega
            clear hsz hse
            have hw5 := ((hw3.alloc (.cells #[.int .u8 a0, .int .u8 a1, .int .u8 a2, .int .u8 a3] 25)).alloc (.cells (ints .u8 [5, b, 0, 1, a0, a1, a2, a3]).toArray 5))
            rw [World.size_alloc] at hw5
            have ho5 := own_cut8 (w3.heap.size + 1) [5, b, 0, 1, a0, a1, a2, a3] 8 rfl (Nat.le_refl _)
            have HW5 := Lib.hid (hw5.swap.alloc' (.cells #[.int .u8 (p / 256), .int .u8 (p % 256)] 5)).swap
            have HO5 := Lib.hid ho5
            clear ho5 hw5
            go_wp2_with (at_builtin; go_must (refine wpList_app HW5.out rfl (.tmp 62) (.tmp 70) 22 22 5 (.int .u8 0) 1 1 rfl Tryd.underlying22 (by kernel_rfl) rfl (by decide) _ _ 8 2 (ints .u8 [5, b, 0, 1, a0, a1, a2, a3]) [.int .u8 (p / 256), .int .u8 (p % 256)] rfl rfl HO5.out (src_new Tryd.underlying22 _ [.int .u8 (p / 256), .int .u8 (p % 256)] _ 2 1 2 (by simp) rfl rfl) (by omega) ?_); intro A9 c9 w9 N9 hw9 ho9 _ _)
            go_ret2
            rw [hr.out, hru.out]
            exact ⟨_, N9, rfl, hw9.sub (List.Sublist.cons_cons _ ((List.sublist_cons_self _ _).trans ((List.sublist_cons_self _ _)))), (own_app (o := [5, b, 0, 1, a0, a1, a2, a3]) (l := [p / 256, p % 256]) rfl ho9).isSl (d := kB) (reps_ints _) rfl (Hp.le_refl _)⟩
          · have hse2 : s.toList.isEmpty = false := ne_emp hse
            have hru : Hid (putW b a0 a1 a2 a3 p s = ([5, b, 0] ++ [3, (s.size : Int)] ++ byL s) ++ [p / 256, p % 256]) := Lib.hid (by unfold putW putH; rw [if_neg hse]; rfl)
            have hsl : ((byL s).length : Nat) = s.size := byL_length s
            have HSL := Lib.hid hsl
            clear hse hsl
            have m1 : IntKind.u8.wrap (s.size : Int) = s.size := IntWalk.u8_in _ (by omega)
            have hw5 := ((hw3.alloc (.cells #[.int .u8 a0, .int .u8 a1, .int .u8 a2, .int .u8 a3] 25)).alloc (.cells (ints .u8 [5, b, 0, 1, a0, a1, a2, a3]).toArray 5))
            rw [World.size_alloc] at hw5
            have ho5 := own_cut8 (w3.heap.size + 1) [5, b, 0, 1, a0, a1, a2, a3] 3 rfl (by decide)
            have HW5 := Lib.hid (hw5.swap.alloc' (.cells #[.int .u8 3, .int .u8 (s.size : Int)] 5)).swap
            have HO5 := Lib.hid ho5
            clear ho5 hw5
            go_upto_region 9 with (at_builtin; go_must (refine wpList_app HW5.out rfl (.tmp 53) (.tmp 57) 22 22 5 (.int .u8 0) 1 1 rfl Tryd.underlying22 (by kernel_rfl) rfl (by decide) _ _ 3 2 (ints .u8 [5, b, 0]) [.int .u8 3, .int .u8 (s.size : Int)] rfl rfl HO5.out (src_new Tryd.underlying22 _ [.int .u8 3, .int .u8 (s.size : Int)] _ 2 1 2 (by simp) rfl rfl) (by omega) ?_); intro A6 c6 w6 N6 hw6 ho6 _ _)
            have ho6' := own_app (o := [5, b, 0]) (l := [3, (s.size : Int)]) rfl ho6
            have HO6 := Lib.hid ho6'
            have HW6 := Lib.hid hw6
            clear ho6 ho6' hw6 hw3 HW5 HO5 c0 c1 c2 c3 c4 c5 hlt
            go_upto_region 10 with (at_builtin; go_must (refine wpList_app HW6.out rfl (.tmp 59) (.tmp 60) 22 9 5 (.int .u8 0) 1 1 rfl Tryd.underlying22 (by kernel_rfl) rfl (by decide) _ _ 5 s.size (ints .u8 ([5, b, 0] ++ [3, (s.size : Int)])) _ rfl rfl HO6.out (src_str s _) (by omega) ?_); intro A7 c7 w7 N7 hw7 ho7 _ _)
            have ho7' := own_app (o := [5, b, 0] ++ [3, (s.size : Int)]) (l := byL s) HSL.out ho7
            have HO7 := Lib.hid ho7'
            have hlen7 : ([5, b, 0] ++ [3, (s.size : Int)] ++ byL s).length = 5 + s.size := by rw [List.length_append, HSL.out]; rfl
            rw [hlen7] at HO7
            have c5 : w7.cell? ⟨nb, 5, none⟩ = some (.int .i64 p) := hw7.up2.one_cell rfl
            have hlt := hw7.up2.one_lt
            have HW7 := Lib.hid (hw7.swap.alloc' (.cells #[.int .u8 (p / 256), .int .u8 (p % 256)] 5)).swap
            have HLEN := Lib.hid hlen7
            clear ho7 ho7' hw7 HW6 HO6 hlen7
            go_wp2_with (at_builtin; go_must (refine wpList_app HW7.out rfl (.tmp 62) (.tmp 70) 22 22 5 (.int .u8 0) 1 1 rfl Tryd.underlying22 (by kernel_rfl) rfl (by decide) _ _ (5 + s.size) 2 (ints .u8 ([5, b, 0] ++ [3, (s.size : Int)] ++ byL s)) [.int .u8 (p / 256), .int .u8 (p % 256)] rfl rfl HO7.out (src_new Tryd.underlying22 _ [.int .u8 (p / 256), .int .u8 (p % 256)] _ 2 1 2 (by simp) rfl rfl) (by omega) ?_); intro A9 c9 w9 N9 hw9 ho9 _ _)
            go_ret2
            rw [hr.out, hru.out]
            have ho10 : Own N9 5 1 (.slice A9 (5 + s.size + 2) c9) (([5, b, 0] ++ [3, (s.size : Int)] ++ byL s).length + 2) (ints .u8 ([5, b, 0] ++ [3, (s.size : Int)] ++ byL s) ++ ints .u8 [p / 256, p % 256]) := by
              rw [HLEN.out]; exact ho9
            exact ⟨_, N9, rfl, hw9.sub (List.Sublist.cons_cons _ ((List.sublist_cons_self _ _).trans ((List.sublist_cons_self _ _)))), (own_app (l := [p / 256, p % 256]) rfl ho10).isSl (d := kB) (reps_ints _) rfl (Hp.le_refl _)⟩
        · go_wp2
          go_ret2
          have hr : po = ([], 2) := by rw [HPO.out]; exact if_neg (by rw [HPV.out]; exact (by simp; omega))
          rw [hr]
          exact ⟨_, Hp.emp, rfl, (hw3.drop).emp, Kd.IsSl.nil⟩
      · go_wp2
        go_ret2
        have hr : po = ([], 2) := by rw [HPO.out]; exact if_neg (by rw [HPV.out]; exact (by simp; omega))
        rw [hr]
        exact ⟨_, Hp.emp, rfl, (hw3.drop).emp, Kd.IsSl.nil⟩
end
end Go.Proofs.YtcndkpmeakaapaaDoor
