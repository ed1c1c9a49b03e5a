/- Library: Of of no error, Is and Like (of the same). -/
import Derived.Test.YtcndkpmeakaapaaDoorErr
import Derived.DeepKeys
set_option linter.unusedVariables false
set_option linter.unusedSimpArgs false
namespace Go.Proofs.YtcndkpmeakaapaaDoor
open Go Go.RowKit
section
variable {σ w w' : World} {Hs : List Hp} {H H1 H2 M N Y : Hp}
set_option maxHeartbeats 4000000
theorem of_nil (w : World) (hw : Sat σ w Hs) :
    Calls Tryd.prog 43 #[.nilIface] w fun e w' => e = .returned (.tuple #[.agg (badC [] 0), .bool true]) ∧ Sat σ w' Hs := by
  go_enter Tryd.func43, Tryd.ntmps43
  go_wp2_with fail
  have hw2 := (hw.alloc (.cells #[.int .i64 0, .string ⟨#[]⟩, .string ⟨#[]⟩, .string ⟨#[]⟩, .string ⟨#[]⟩, .int .i64 0, .int .i64 0, .int .i64 0, .int .i64 0, .int .i64 0] 41)).alloc (.cells #[.int .i64 0, .string ⟨#[]⟩, .string ⟨#[]⟩, .string ⟨#[]⟩, .string ⟨#[]⟩, .int .i64 0, .int .i64 0, .int .i64 0, .int .i64 0, .int .i64 0] 41)
  rw [World.size_alloc] at hw2
  obtain ⟨nr, hnr⟩ : ∃ n, w.heap.size = n := ⟨_, rfl⟩
  obtain ⟨nb, hnb⟩ : ∃ n, nr + 1 = n := ⟨_, rfl⟩
  rw [hnr] at hw2 ⊢
  rw [hnb] at hw2 ⊢
  generalize World.alloc _ _ = w2 at *
  go_loopg [0, 5, 6, 7, 8] 0 (fun gk got _ _ _ _ wr => got = .nilIface ∧ wr = w2)
  case atStart => exact ⟨rfl, rfl⟩
  case round =>
    obtain ⟨rfl, rfl⟩ := hrel
    go_upto_region 13 with fail
    have HW := Lib.hid hw2
    have d0 : wr.cell? ⟨nb, 0, none⟩ = some (.int .i64 0) := hw2.one_cell rfl
    have e0 : wr.cell? ⟨nr, 0, none⟩ = some (.int .i64 0) := hw2.swap.one_cell rfl
    have g0 := heap_free hw2.swap.heap 0
    have d1 : wr.cell? ⟨nb, 1, none⟩ = some (.string ⟨#[]⟩) := hw2.one_cell rfl
    have e1 : wr.cell? ⟨nr, 1, none⟩ = some (.string ⟨#[]⟩) := hw2.swap.one_cell rfl
    have g1 := heap_free hw2.swap.heap 1
    have d2 : wr.cell? ⟨nb, 2, none⟩ = some (.string ⟨#[]⟩) := hw2.one_cell rfl
    have e2 : wr.cell? ⟨nr, 2, none⟩ = some (.string ⟨#[]⟩) := hw2.swap.one_cell rfl
    have g2 := heap_free hw2.swap.heap 2
    have d3 : wr.cell? ⟨nb, 3, none⟩ = some (.string ⟨#[]⟩) := hw2.one_cell rfl
    have e3 : wr.cell? ⟨nr, 3, none⟩ = some (.string ⟨#[]⟩) := hw2.swap.one_cell rfl
    have g3 := heap_free hw2.swap.heap 3
    have d4 : wr.cell? ⟨nb, 4, none⟩ = some (.string ⟨#[]⟩) := hw2.one_cell rfl
    have e4 : wr.cell? ⟨nr, 4, none⟩ = some (.string ⟨#[]⟩) := hw2.swap.one_cell rfl
    have g4 := heap_free hw2.swap.heap 4
    have d5 : wr.cell? ⟨nb, 5, none⟩ = some (.int .i64 0) := hw2.one_cell rfl
    have e5 : wr.cell? ⟨nr, 5, none⟩ = some (.int .i64 0) := hw2.swap.one_cell rfl
    have g5 := heap_free hw2.swap.heap 5
    have d6 : wr.cell? ⟨nb, 6, none⟩ = some (.int .i64 0) := hw2.one_cell rfl
    have e6 : wr.cell? ⟨nr, 6, none⟩ = some (.int .i64 0) := hw2.swap.one_cell rfl
    have g6 := heap_free hw2.swap.heap 6
    have d7 : wr.cell? ⟨nb, 7, none⟩ = some (.int .i64 0) := hw2.one_cell rfl
    have e7 : wr.cell? ⟨nr, 7, none⟩ = some (.int .i64 0) := hw2.swap.one_cell rfl
    have g7 := heap_free hw2.swap.heap 7
    have d8 : wr.cell? ⟨nb, 8, none⟩ = some (.int .i64 0) := hw2.one_cell rfl
    have e8 : wr.cell? ⟨nr, 8, none⟩ = some (.int .i64 0) := hw2.swap.one_cell rfl
    have g8 := heap_free hw2.swap.heap 8
    have d9 : wr.cell? ⟨nb, 9, none⟩ = some (.int .i64 0) := hw2.one_cell rfl
    have e9 : wr.cell? ⟨nr, 9, none⟩ = some (.int .i64 0) := hw2.swap.one_cell rfl
    have g9 := heap_free hw2.swap.heap 9
    have hne : ¬ nb = nr := by omega
    clear hw2
    go_region
    (try simp only [Exit.inBlock, Exit.then])
    go_wp2
    have hfin := ((((((((((HW.out.swap.set (o := 0) (.int .i64 0)).set (o := 1) (.string ⟨#[]⟩)).set (o := 2) (.string ⟨#[]⟩)).set (o := 3) (.string ⟨#[]⟩)).set (o := 4) (.string ⟨#[]⟩)).set (o := 5) (.int .i64 0)).set (o := 6) (.int .i64 0)).set (o := 7) (.int .i64 0)).set (o := 8) (.int .i64 0)).set (o := 9) (.int .i64 0)).drew
    have hheap := hfin.heap
    refine bodyPost_ret (results_cell_row2 rfl _ _ nr _ _ _ _ rfl hheap Tryd.underlying41 rfl (by kernel_rfl)) rfl ?_
    exact ⟨rfl, hfin.drop.drop⟩
theorem bad_eq (W : World) (n c a0 a1 a2 a3 : Int) (s0 s1 s2 s3 : ByteArray) : (Op.equal 41 (.agg #[.int .i64 n, .string s0, .string s1, .string s2, .string s3, .int .i64 a0, .int .i64 a1, .int .i64 a2, .int .i64 a3, .int .i64 c]) (.agg #[.int .i64 n, .string s0, .string s1, .string s2, .string s3, .int .i64 a0, .int .i64 a1, .int .i64 a2, .int .i64 a3, .int .i64 c])).run Tryd.prog W = .ok true W := by
  obtain ⟨i1, hi1⟩ := info_of_underlying Tryd.underlying9
  obtain ⟨i2, hi2⟩ := info_of_underlying Tryd.underlying3
  have hc1 : Tryd.prog.cellsOf 9 = 1 := by kernel_rfl
  have hc2 : Tryd.prog.cellsOf 3 = 1 := by kernel_rfl
  have hs1 : ∀ w : World, (sizeOf 37).run Tryd.prog w = .ok 4 w := fun w => by kernel_rfl
  have hs2 : ∀ w : World, (sizeOf 38).run Tryd.prog w = .ok 4 w := fun w => by kernel_rfl
  have es : ∀ (w : World) (s : ByteArray), (Op.equalIn 9998 9 (.string s) (.string s)).run Tryd.prog w = .ok true w := fun w s => by rw [run_equalIn_string w 9997 9 s s Tryd.underlying9]; simp
  have ei : ∀ (w : World) (x : Int), (Op.equalIn 9998 3 (.int .i64 x) (.int .i64 x)).run Tryd.prog w = .ok true w := fun w x => by rw [run_equalIn_int w 9997 3 .i64 .i64 x x Tryd.underlying3]; simp
  have ej : ∀ (w : World) (x : Int), (Op.equalIn 9999 3 (.int .i64 x) (.int .i64 x)).run Tryd.prog w = .ok true w := fun w x => by rw [run_equalIn_int w 9998 3 .i64 .i64 x x Tryd.underlying3]; simp
  have ec : ∀ (w : World) (x : Int), (Op.equalIn 9999 39 (.int .i64 x) (.int .i64 x)).run Tryd.prog w = .ok true w := fun w x => by rw [run_equalIn_int w 9998 39 .i64 .i64 x x Tryd.underlying39]; simp
  have as_ : ∀ (w : World) (xs : Array Value), (Op.equalIn 9999 37 (.agg xs) (.agg xs)).run Tryd.prog w = (Op.eqItems 9998 9 (Tryd.prog.cellsOf 9) xs xs (List.range 4)).run Tryd.prog w := fun w xs => run_equalIn_array w 9998 xs xs Tryd.underlying37 hi1
  have ai : ∀ (w : World) (xs : Array Value), (Op.equalIn 9999 38 (.agg xs) (.agg xs)).run Tryd.prog w = (Op.eqItems 9998 3 (Tryd.prog.cellsOf 3) xs xs (List.range 4)).run Tryd.prog w := fun w xs => run_equalIn_array w 9998 xs xs Tryd.underlying38 hi2
  unfold Op.equal Op.maxDepth
  rw [run_equalIn_struct W 9999 41 _ _ (by simp only [Program.fieldsOf, Tryd.underlying41]) (by kernel_rfl)]
  simp only [Program.fieldsOf, Tryd.underlying41]
  simp [Op.eqFields, part, run_underlying Tryd.underlying3, run_underlying Tryd.underlying9, run_underlying Tryd.underlying37, run_underlying Tryd.underlying38, run_underlying Tryd.underlying39, isAgg, hs1, hs2, as_, ai, es, ei, ej, ec, hc1, hc2, Op.eqItems, List.range, List.range.loop]
/-- An error value: none, or a chain of at most four faults. -/
def chE : Option (Ch × Int) → Ch
  | none => []
  | some x => x.1
def cE : Option (Ch × Int) → Int
  | none => 0
  | some x => x.2
def EV (H : Hp) (v : Value) : Option (Ch × Int) → Prop
  | none => v = .nilIface
  | some x => ErrV H v x.1 x.2 ∧ x.1.length ≤ 4 ∧ 0 < x.1.length
theorem EV.le {H H' : Hp} (hl : Hp.le H H') {v : Value} {e : Option (Ch × Int)} (h : EV H v e) : EV H' v e := by
  cases e with
  | none => exact h
  | some x => exact ⟨h.1.le hl, h.2⟩
theorem ofE_any (v : Value) (er : Option (Ch × Int)) (w : World) (hw : Sat σ w Hs) (hH : H ∈ Hs) (hv : EV H v er) :
    Calls Tryd.prog 43 #[v] w fun e w' => e = .returned (.tuple #[.agg (badC (chE er) (cE er)), .bool true]) ∧ Sat σ w' Hs := by
  cases er with
  | none => obtain rfl : v = _ := hv; exact of_nil w hw
  | some x => exact of_any v x.1 x.2 w hw hH hv.1 hv.2.1 hv.2.2
theorem isE_any (v : Value) (er : Option (Ch × Int)) (w : World) (hw : Sat σ w Hs) (hH : H ∈ Hs) (hv : EV H v er) :
    Calls Tryd.prog 12 #[v, .agg (badC (chE er) (cE er))] w fun e w' => e = .returned (.bool true) ∧ Sat σ w' Hs := by
  have HO := Lib.hid (fun w' (h : Sat σ w' (Hp.one w.heap.size (.cells (badC (chE er) (cE er)) 41 (0, 0)) :: Hs)) => ofE_any v er w' h (List.mem_cons_of_mem _ hH) hv)
  clear hv
  generalize chE er = ch at *
  generalize cE er = c at *
  go_enter Tryd.func12, Tryd.ntmps12
  go_wp2_with fail
  refine (HO.out _ (hw.alloc _)).mono ?_
  rintro e w1 ⟨rfl, hw1⟩
  generalize w.heap.size = n0 at *
  unfold badC at *
  have HW := Lib.hid hw1
  have e0 := hw1.one_cell (o := 0) rfl
  have e1 := hw1.one_cell (o := 1) rfl
  have e2 := hw1.one_cell (o := 2) rfl
  have e3 := hw1.one_cell (o := 3) rfl
  have e4 := hw1.one_cell (o := 4) rfl
  have e5 := hw1.one_cell (o := 5) rfl
  have e6 := hw1.one_cell (o := 6) rfl
  have e7 := hw1.one_cell (o := 7) rfl
  have e8 := hw1.one_cell (o := 8) rfl
  have e9 := hw1.one_cell (o := 9) rfl
  clear hw1 HO
  have hbl := HW.out.one_lt
  generalize ((List.length ch : Nat) : Int) = x0 at *
  generalize chL ch 0 = x1 at *
  generalize chL ch 1 = x2 at *
  generalize chL ch 2 = x3 at *
  generalize chL ch 3 = x4 at *
  generalize chA ch 0 = x5 at *
  generalize chA ch 1 = x6 at *
  generalize chA ch 2 = x7 at *
  generalize chA ch 3 = x8 at *
  have beq : ∀ W : World, (Op.equalIn 10000 41 (.agg #[.int .i64 x0, .string x1, .string x2, .string x3, .string x4, .int .i64 x5, .int .i64 x6, .int .i64 x7, .int .i64 x8, .int .i64 c]) (.agg #[.int .i64 x0, .string x1, .string x2, .string x3, .string x4, .int .i64 x5, .int .i64 x6, .int .i64 x7, .int .i64 x8, .int .i64 c])).run Tryd.prog W = .ok true W := fun W => bad_eq W x0 c x5 x6 x7 x8 x1 x2 x3 x4
  go_wp2
  go_ret
  exact ⟨rfl, (HW.out.alloc' _).drop⟩
theorem likeE_any (v u : Value) (er : Option (Ch × Int)) (w : World) (hw : Sat σ w Hs) (hH : H1 ∈ Hs) (hH2 : H2 ∈ Hs) (hv : EV H1 v er) (hu : EV H2 u er) :
    Calls Tryd.prog 14 #[v, u] w fun e w' => e = .returned (.bool true) ∧ Sat σ w' Hs := by
  have HO := Lib.hid (ofE_any u er w hw hH2 hu)
  have HI := Lib.hid (fun w' (h : Sat σ w' Hs) => isE_any v er w' h hH hv)
  clear hv hu
  generalize chE er = ch at *
  generalize cE er = c at *
  go_enter Tryd.func14, Tryd.ntmps14
  go_wp2_with fail
  refine HO.out.mono ?_
  rintro e w1 ⟨rfl, hw1⟩
  unfold badC at *
  generalize ((List.length ch : Nat) : Int) = x0 at *
  generalize chL ch 0 = x1 at *
  generalize chL ch 1 = x2 at *
  generalize chL ch 2 = x3 at *
  generalize chL ch 3 = x4 at *
  generalize chA ch 0 = x5 at *
  generalize chA ch 1 = x6 at *
  generalize chA ch 2 = x7 at *
  generalize chA ch 3 = x8 at *
  go_wp2_with fail
  refine (HI.out _ (hw1.alloc' _)).mono ?_
  rintro e w2 ⟨rfl, hw2⟩
  go_wp2
  go_ret
  exact ⟨rfl, hw2⟩
end
end Go.Proofs.YtcndkpmeakaapaaDoor
