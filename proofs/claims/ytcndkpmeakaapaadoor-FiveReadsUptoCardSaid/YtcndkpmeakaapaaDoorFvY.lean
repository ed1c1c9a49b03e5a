/- Walk: base.Wrap of a fault of one layer. -/
import Derived.Test.YtcndkpmeakaapaaDoorFvX
set_option linter.unusedVariables false
set_option linter.unusedSimpArgs false
namespace Go.Proofs.YtcndkpmeakaapaaDoor
open Go Go.RowKit
section
variable {σ w w' : World} {Hs : List Hp} {H H1 H2 M N Y R E X HB : Hp}
set_option maxHeartbeats 4000000
set_option maxRecDepth 10000 in
theorem wrap1_any (l1 l2 : ByteArray) (a b c : Int) (w : World) (hw : Sat σ w Hs) :
    Calls Tryd.prog 60 #[.string l1, .int .i64 a, .agg (BE (some ([(l2, b)], c)))] w fun e w' => e = .returned (.agg (BE (some ([(l1, a), (l2, b)], c)))) ∧ Sat σ w' Hs := by
  have HEQ : Hid (BE (some ([(l1, a), (l2, b)], c)) = #[.int .i64 2, .string l1, .string l2, .string ⟨#[]⟩, .string ⟨#[]⟩, .int .i64 a, .int .i64 b, .int .i64 0, .int .i64 0, .int .i64 c]) := Lib.hid rfl
  rw [show BE (some ([(l2, b)], c)) = #[.int .i64 1, .string l2, .string ⟨#[]⟩, .string ⟨#[]⟩, .string ⟨#[]⟩, .int .i64 b, .int .i64 0, .int .i64 0, .int .i64 0, .int .i64 c] from rfl]
  generalize BE (some ([(l1, a), (l2, b)], c)) = RES at *
  have hw1 := (hw.alloc (.cells #[.int .i64 1, .string l2, .string ⟨#[]⟩, .string ⟨#[]⟩, .string ⟨#[]⟩, .int .i64 b, .int .i64 0, .int .i64 0, .int .i64 0, .int .i64 c] 41)).alloc (.cells #[.int .i64 0, .string ⟨#[]⟩, .string ⟨#[]⟩, .string ⟨#[]⟩, .string ⟨#[]⟩, .int .i64 0, .int .i64 0, .int .i64 0, .int .i64 0, .int .i64 0] 41)
  rw [World.size_alloc] at hw1
  go_enter Tryd.func60, Tryd.ntmps60
  go_upto_region 2 with fail
  have hw2 := hw1.alloc (.cells #[.int .i64 2, .string ⟨#[]⟩, .string ⟨#[]⟩, .string ⟨#[]⟩, .string ⟨#[]⟩, .int .i64 0, .int .i64 0, .int .i64 0, .int .i64 0, .int .i64 c] 41)
  rw [World.size_alloc, World.size_alloc] at hw2
  obtain ⟨n5, hn5⟩ : ∃ n5, w.heap.size = n5 := ⟨_, rfl⟩
  generalize hx1 : World.alloc (World.alloc (World.alloc w _) _) _ = w2 at *
  generalize w.heap.size = n5' at *
  clear hx1 hw hw1
  subst hn5
  have x1 : w2.cell? ⟨n5' + 1 + 1, 1, none⟩ = some (.string ⟨#[]⟩) := hw2.one_cell rfl
  have x5 : w2.cell? ⟨n5' + 1 + 1, 5, none⟩ = some (.int .i64 0) := hw2.one_cell rfl
  have f1 := heap_free hw2.heap 1
  have f5 := heap_free hw2.heap 5
  have hw3 := (hw2.set (o := 1) (.string l1)).set (o := 5) (.int .i64 a)
  rw [show ((#[.int .i64 2, .string ⟨#[]⟩, .string ⟨#[]⟩, .string ⟨#[]⟩, .string ⟨#[]⟩, .int .i64 0, .int .i64 0, .int .i64 0, .int .i64 0, .int .i64 c] : Array Value).setIfInBounds 1 (.string l1)).setIfInBounds 5 (.int .i64 a) = #[.int .i64 2, .string l1, .string ⟨#[]⟩, .string ⟨#[]⟩, .string ⟨#[]⟩, .int .i64 a, .int .i64 0, .int .i64 0, .int .i64 0, .int .i64 c] from rfl] at hw3
  have HW3 := Lib.hid hw3
  clear hw2 hw3
  go_wp2
  generalize n5' + 1 + 1 = n7 at *
  generalize n5' + 1 = n6 at *
  generalize hw4e : World.setCell _ _ _ = w4 at *
  clear hw4e x1 x5 f1 f5
  go_loopw [8] (fun i wr => (i = .int .i64 0 ∧ Sat σ wr (Hp.one n7 (.cells #[.int .i64 2, .string l1, .string ⟨#[]⟩, .string ⟨#[]⟩, .string ⟨#[]⟩, .int .i64 a, .int .i64 0, .int .i64 0, .int .i64 0, .int .i64 c] 41 (0, 0)) :: Hp.one n6 (.cells #[.int .i64 0, .string ⟨#[]⟩, .string ⟨#[]⟩, .string ⟨#[]⟩, .string ⟨#[]⟩, .int .i64 0, .int .i64 0, .int .i64 0, .int .i64 0, .int .i64 0] 41 (0, 0)) :: Hp.one n5' (.cells #[.int .i64 1, .string l2, .string ⟨#[]⟩, .string ⟨#[]⟩, .string ⟨#[]⟩, .int .i64 b, .int .i64 0, .int .i64 0, .int .i64 0, .int .i64 c] 41 (0, 0)) :: Hs)) ∨ (i = .int .i64 1 ∧ Sat σ wr (Hp.one n7 (.cells #[.int .i64 2, .string l1, .string l2, .string ⟨#[]⟩, .string ⟨#[]⟩, .int .i64 a, .int .i64 b, .int .i64 0, .int .i64 0, .int .i64 c] 41 (0, 0)) :: Hp.one n6 (.cells #[.int .i64 0, .string ⟨#[]⟩, .string ⟨#[]⟩, .string ⟨#[]⟩, .string ⟨#[]⟩, .int .i64 0, .int .i64 0, .int .i64 0, .int .i64 0, .int .i64 0] 41 (0, 0)) :: Hp.one n5' (.cells #[.int .i64 1, .string l2, .string ⟨#[]⟩, .string ⟨#[]⟩, .string ⟨#[]⟩, .int .i64 b, .int .i64 0, .int .i64 0, .int .i64 0, .int .i64 c] 41 (0, 0)) :: Hs))) (fun i _ => 2 - (intOf i).toNat)
  case atStart => exact .inl ⟨rfl, HW3.out⟩
  case round =>
    rcases hrel with ⟨rfl, hwr⟩ | ⟨rfl, hwr⟩
    · have hb1 := hwr.up2
      have d0 : wr.cell? ⟨n5', 0, none⟩ = some (.int .i64 1) := hb1.one_cell rfl
      have d1 : wr.cell? ⟨n5', 1, none⟩ = some (.string l2) := hb1.one_cell rfl
      have d5 : wr.cell? ⟨n5', 5, none⟩ = some (.int .i64 b) := hb1.one_cell rfl
      have e2 : wr.cell? ⟨n7, 2, none⟩ = some (.string ⟨#[]⟩) := hwr.one_cell rfl
      have e6 : wr.cell? ⟨n7, 6, none⟩ = some (.int .i64 0) := hwr.one_cell rfl
      have g2 := heap_free hwr.heap 2
      have g6 := heap_free hwr.heap 6
      have hw5 := (hwr.set (o := 2) (.string l2)).set (o := 6) (.int .i64 b)
      rw [show ((#[.int .i64 2, .string l1, .string ⟨#[]⟩, .string ⟨#[]⟩, .string ⟨#[]⟩, .int .i64 a, .int .i64 0, .int .i64 0, .int .i64 0, .int .i64 c] : Array Value).setIfInBounds 2 (.string l2)).setIfInBounds 6 (.int .i64 b) = #[.int .i64 2, .string l1, .string l2, .string ⟨#[]⟩, .string ⟨#[]⟩, .int .i64 a, .int .i64 b, .int .i64 0, .int .i64 0, .int .i64 c] from rfl] at hw5
      have HW5 := Lib.hid hw5.drew
      have hne : ¬ n5' = n7 := fun e => by
        subst e
        have := hwr.dj
        have h1 := (List.pairwise_cons.1 this).1 (Hp.one n5' (.cells #[.int .i64 1, .string l2, .string ⟨#[]⟩, .string ⟨#[]⟩, .string ⟨#[]⟩, .int .i64 b, .int .i64 0, .int .i64 0, .int .i64 0, .int .i64 c] 41 (0, 0))) (by simp) n5' _ (Hp.one_self _ _)
        rw [Hp.one_self] at h1; cases h1
      have hne2 : ¬ n7 = n5' := fun e => hne e.symm
      clear hb1 hwr hw5
      go_wp2
      go_region
      (try simp only [Exit.inBlock, Exit.then])
      go_wp2
      go_roundw
      case measure => simp [intOf]
      case rel => exact .inr ⟨rfl, HW5.out⟩
    · have hb1 := hwr.up2
      have d0 : wr.cell? ⟨n5', 0, none⟩ = some (.int .i64 1) := hb1.one_cell rfl
      have HWR := Lib.hid hwr
      have HWS := Lib.hid hwr.swap
      have HBO := Lib.hid (BE_row (some ([(l1, a), (l2, b)], c)))
      rw [show BE (some ([(l1, a), (l2, b)], c)) = #[.int .i64 2, .string l1, .string l2, .string ⟨#[]⟩, .string ⟨#[]⟩, .int .i64 a, .int .i64 b, .int .i64 0, .int .i64 0, .int .i64 c] from rfl] at HBO
      generalize hB : (#[.int .i64 2, .string l1, .string l2, .string ⟨#[]⟩, .string ⟨#[]⟩, .int .i64 a, .int .i64 b, .int .i64 0, .int .i64 0, .int .i64 c] : Array Value) = B at *
      clear hb1 hwr
      go_wp2_with (first
        | (with_reducible show wpList _ _ _ [_, _] _ _; refine wpList_load_row rfl 41 (.tmp 7) rfl n7 rfl 41 B (0, 0) _ HWR.out.heap Tryd.underlying41 rfl HBO.out.1 ?_)
        | (with_reducible show wpList _ _ _ [{ dst := none, op := _, type := _, pos := _, after := _, guard := _ }] _ _; go_must (refine wpList_store_row rfl 41 (.tmp 6) (.tmp 47) rfl n6 B rfl rfl 41 _ HWS.out.heap HBO.out.1 HBO.out.2.1 HBO.out.2.2 ?_)))
      have hfin := HWS.out.setRow B
      (try simp only [Exit.inBlock, Exit.then])
      refine bodyPost_ret (results_cell_row rfl _ _ n6 _ B _ _ rfl hfin.heap Tryd.underlying41 rfl HBO.out.1) rfl ?_
      exact ⟨by rw [HEQ.out], hfin.drop.drop.drop⟩
end
end Go.Proofs.YtcndkpmeakaapaaDoor
