/- Library: an error value held against any chain: Is tells whether it is just this one. -/
import Derived.Test.YtcndkpmeakaapaaDoorErr2
set_option linter.unusedVariables false
set_option linter.unusedSimpArgs false
namespace Go.Proofs.YtcndkpmeakaapaaDoor
open Go Go.RowKit
set_option maxHeartbeats 4000000
theorem strs4_eq (W : World) (s0 s1 s2 s3 t0 t1 t2 t3 : ByteArray) : (Op.equalIn 9999 37 (.agg #[.string s0, .string s1, .string s2, .string s3]) (.agg #[.string t0, .string t1, .string t2, .string t3])).run Tryd.prog W = .ok (sEq s0 t0 && (sEq s1 t1 && (sEq s2 t2 && sEq s3 t3))) W := by
  obtain ⟨i1, hi1⟩ := info_of_underlying Tryd.underlying9
  have hc1 : Tryd.prog.cellsOf 9 = 1 := by kernel_rfl
  have es : ∀ (w : World) (s t : ByteArray), (Op.equalIn 9998 9 (.string s) (.string t)).run Tryd.prog w = .ok (sEq s t) w := fun w s t => by rw [run_equalIn_string w 9997 9 s t Tryd.underlying9]; rfl
  rw [run_equalIn_array W 9998 _ _ Tryd.underlying37 hi1]
  cases h0 : sEq s0 t0 <;> cases h1 : sEq s1 t1 <;> cases h2 : sEq s2 t2 <;> cases h3 : sEq s3 t3 <;>
  simp [Op.eqItems, part, run_underlying Tryd.underlying9, isAgg, es, hc1, List.range, List.range.loop, h0, h1, h2, h3]
theorem ints4_eq (W : World) (s0 s1 s2 s3 t0 t1 t2 t3 : Int) : (Op.equalIn 9999 38 (.agg #[.int .i64 s0, .int .i64 s1, .int .i64 s2, .int .i64 s3]) (.agg #[.int .i64 t0, .int .i64 t1, .int .i64 t2, .int .i64 t3])).run Tryd.prog W = .ok ((s0 == t0) && ((s1 == t1) && ((s2 == t2) && (s3 == t3)))) W := by
  obtain ⟨i1, hi1⟩ := info_of_underlying Tryd.underlying3
  have hc1 : Tryd.prog.cellsOf 3 = 1 := by kernel_rfl
  have es : ∀ (w : World) (s t : Int), (Op.equalIn 9998 3 (.int .i64 s) (.int .i64 t)).run Tryd.prog w = .ok (s == t) w := fun w s t => by rw [run_equalIn_int w 9997 3 .i64 .i64 s t Tryd.underlying3]
  rw [run_equalIn_array W 9998 _ _ Tryd.underlying38 hi1]
  cases h0 : s0 == t0 <;> cases h1 : s1 == t1 <;> cases h2 : s2 == t2 <;> cases h3 : s3 == t3 <;>
  simp [Op.eqItems, part, run_underlying Tryd.underlying3, isAgg, es, hc1, List.range, List.range.loop, h0, h1, h2, h3]
theorem bad_eqG (W : World) (n c a0 a1 a2 a3 n' c' b0 b1 b2 b3 : Int) (s0 s1 s2 s3 t0 t1 t2 t3 : ByteArray) :
    (Op.equal 41 (.agg #[.int .i64 n, .string s0, .string s1, .string s2, .string s3, .int .i64 a0, .int .i64 a1, .int .i64 a2, .int .i64 a3, .int .i64 c]) (.agg #[.int .i64 n', .string t0, .string t1, .string t2, .string t3, .int .i64 b0, .int .i64 b1, .int .i64 b2, .int .i64 b3, .int .i64 c'])).run Tryd.prog W
      = .ok ((n == n') && ((sEq s0 t0 && (sEq s1 t1 && (sEq s2 t2 && sEq s3 t3))) && (((a0 == b0) && ((a1 == b1) && ((a2 == b2) && (a3 == b3)))) && (c == c')))) W := by
  have hs1 : ∀ w : World, (sizeOf 37).run Tryd.prog w = .ok 4 w := fun w => by kernel_rfl
  have hs2 : ∀ w : World, (sizeOf 38).run Tryd.prog w = .ok 4 w := fun w => by kernel_rfl
  have e1 := strs4_eq W s0 s1 s2 s3 t0 t1 t2 t3
  have e2 := ints4_eq W a0 a1 a2 a3 b0 b1 b2 b3
  have ei : ∀ (w : World) (x y : Int), (Op.equalIn 9999 3 (.int .i64 x) (.int .i64 y)).run Tryd.prog w = .ok (x == y) w := fun w x y => by rw [run_equalIn_int w 9998 3 .i64 .i64 x y Tryd.underlying3]
  have ec : ∀ (w : World) (x y : Int), (Op.equalIn 9999 39 (.int .i64 x) (.int .i64 y)).run Tryd.prog w = .ok (x == y) w := fun w x y => by rw [run_equalIn_int w 9998 39 .i64 .i64 x y Tryd.underlying39]
  generalize (sEq s0 t0 && (sEq s1 t1 && (sEq s2 t2 && sEq s3 t3))) = bs at *
  generalize ((a0 == b0) && ((a1 == b1) && ((a2 == b2) && (a3 == b3)))) = ba at *
  unfold Op.equal Op.maxDepth
  rw [run_equalIn_struct W 9999 41 _ _ (by simp only [Program.fieldsOf, Tryd.underlying41]) (by kernel_rfl)]
  simp only [Program.fieldsOf, Tryd.underlying41]
  cases hn : n == n' <;> cases bs <;> cases ba <;> cases hc : c == c' <;>
  simp [Op.eqFields, part, run_underlying Tryd.underlying3, run_underlying Tryd.underlying9, run_underlying Tryd.underlying37, run_underlying Tryd.underlying38, run_underlying Tryd.underlying39, isAgg, hs1, hs2, e1, e2, ei, ec, hn, hc]
theorem ch_ext : ∀ (a b : Ch), a.length ≤ 4 → a.length = b.length → chL a 0 = chL b 0 → chL a 1 = chL b 1 → chL a 2 = chL b 2 → chL a 3 = chL b 3 → chA a 0 = chA b 0 → chA a 1 = chA b 1 → chA a 2 = chA b 2 → chA a 3 = chA b 3 → a = b := by
  intro a b hl he l0 l1 l2 l3 a0 a1 a2 a3
  apply List.ext_getElem he
  intro i h1 h2
  have hL : ∀ (x : Ch) (j : Nat) (hj : j < x.length), x[j] = (chL x j, chA x j) := fun x j hj => by
    simp [chL, chA, hj]
  rw [hL a i h1, hL b i h2]
  have hi : i < 4 := by omega
  match i, hi with
  | 0, _ => rw [l0, a0]
  | 1, _ => rw [l1, a1]
  | 2, _ => rw [l2, a2]
  | 3, _ => rw [l3, a3]
theorem bad_dec (ch ch' : Ch) (c c' : Int) (h : ch.length ≤ 4) : (((ch.length : Nat) : Int) == ((ch'.length : Nat) : Int) && ((sEq (chL ch 0) (chL ch' 0) && (sEq (chL ch 1) (chL ch' 1) && (sEq (chL ch 2) (chL ch' 2) && sEq (chL ch 3) (chL ch' 3)))) && (((chA ch 0 == chA ch' 0) && ((chA ch 1 == chA ch' 1) && ((chA ch 2 == chA ch' 2) && (chA ch 3 == chA ch' 3)))) && (c == c')))) = decide (ch = ch' ∧ c = c') := by
  rw [Bool.eq_iff_iff]
  simp only [Bool.and_eq_true, beq_iff_eq, sEq_iff, decide_eq_true_iff]
  constructor
  · rintro ⟨hn, ⟨l0, l1, l2, l3⟩, ⟨a0, a1, a2, a3⟩, hc⟩
    exact ⟨ch_ext ch ch' h (by omega) l0 l1 l2 l3 a0 a1 a2 a3, hc⟩
  · rintro ⟨rfl, rfl⟩
    exact ⟨rfl, ⟨rfl, rfl, rfl, rfl⟩, ⟨rfl, rfl, rfl, rfl⟩, rfl⟩
section
variable {σ w w' : World} {Hs : List Hp} {H H1 H2 M N Y : Hp}
theorem isB_any (v : Value) (er : Option (Ch × Int)) (ch' : Ch) (c' : Int) (w : World) (hw : Sat σ w Hs) (hH : H ∈ Hs) (hv : EV H v er) :
    Calls Tryd.prog 12 #[v, .agg (badC ch' c')] w fun e w' => e = .returned (.bool (decide (chE er = ch' ∧ cE er = c'))) ∧ Sat σ w' Hs := by
  have HO := Lib.hid (fun w' (h : Sat σ w' (Hp.one w.heap.size (.cells (badC ch' c') 41 (0, 0)) :: Hs)) => ofE_any v er w' h (List.mem_cons_of_mem _ hH) hv)
  have hlen : (chE er).length ≤ 4 := by
    cases er with
    | none => exact Nat.zero_le _
    | some x => exact hv.2.1
  have HD := Lib.hid (bad_dec (chE er) ch' (cE er) c' hlen)
  clear hv hlen
  generalize chE er = ch at *
  generalize cE er = c at *
  generalize decide (ch = ch' ∧ c = c') = res at *
  go_enter Tryd.func12, Tryd.ntmps12
  go_wp2_with fail
  refine (HO.out _ (hw.alloc _)).mono ?_
  rintro e w1 ⟨rfl, hw1⟩
  generalize w.heap.size = n0 at *
  unfold badC at *
  have HW := Lib.hid hw1
  have e0 := hw1.one_cell (o := 0) rfl
  have e1 := hw1.one_cell (o := 1) rfl
  have e2 := hw1.one_cell (o := 2) rfl
  have e3 := hw1.one_cell (o := 3) rfl
  have e4 := hw1.one_cell (o := 4) rfl
  have e5 := hw1.one_cell (o := 5) rfl
  have e6 := hw1.one_cell (o := 6) rfl
  have e7 := hw1.one_cell (o := 7) rfl
  have e8 := hw1.one_cell (o := 8) rfl
  have e9 := hw1.one_cell (o := 9) rfl
  clear hw1 HO
  have hbl := HW.out.one_lt
  generalize ((List.length ch : Nat) : Int) = x0 at *
  generalize chL ch 0 = x1 at *
  generalize chL ch 1 = x2 at *
  generalize chL ch 2 = x3 at *
  generalize chL ch 3 = x4 at *
  generalize chA ch 0 = x5 at *
  generalize chA ch 1 = x6 at *
  generalize chA ch 2 = x7 at *
  generalize chA ch 3 = x8 at *
  generalize ((List.length ch' : Nat) : Int) = y0 at *
  generalize chL ch' 0 = y1 at *
  generalize chL ch' 1 = y2 at *
  generalize chL ch' 2 = y3 at *
  generalize chL ch' 3 = y4 at *
  generalize chA ch' 0 = y5 at *
  generalize chA ch' 1 = y6 at *
  generalize chA ch' 2 = y7 at *
  generalize chA ch' 3 = y8 at *
  have beq : ∀ W : World, (Op.equalIn 10000 41 (.agg #[.int .i64 x0, .string x1, .string x2, .string x3, .string x4, .int .i64 x5, .int .i64 x6, .int .i64 x7, .int .i64 x8, .int .i64 c]) (.agg #[.int .i64 y0, .string y1, .string y2, .string y3, .string y4, .int .i64 y5, .int .i64 y6, .int .i64 y7, .int .i64 y8, .int .i64 c'])).run Tryd.prog W = .ok res W := fun W => by rw [← HD.out]; exact bad_eqG W x0 c x5 x6 x7 x8 y0 c' y5 y6 y7 y8 x1 x2 x3 x4 y1 y2 y3 y4
  clear HD
  go_wp2
  go_ret
  exact ⟨rfl, (HW.out.alloc' _).drop⟩
end
end Go.Proofs.YtcndkpmeakaapaaDoor
