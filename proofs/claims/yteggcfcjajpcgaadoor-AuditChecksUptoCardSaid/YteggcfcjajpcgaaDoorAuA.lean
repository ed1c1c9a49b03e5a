/- Entries: plain, and as cells. -/
import Derived.Test.YteggcfcjajpcgaaDoorDgX
import Derived.Test.YteggcfcjajpcgaaDoorByt
import Derived.Test.YteggcfcjajpcgaaDoorTab
import Derived.Deep.MidRow
set_option linter.unusedVariables false
set_option linter.unusedSimpArgs false
namespace Go.Proofs.YteggcfcjajpcgaaDoor
open Go Go.RowKit
structure Ent where
  at_ : Int
  text : ByteArray
  sum : List Int
def EA (x : Ent) : Array Value := #[.int .i64 x.at_, .string x.text] ++ outV x.sum
def ent0 : Ent := ⟨0, ⟨#[]⟩, List.replicate 32 0⟩
theorem EA_size (x : Ent) (h : x.sum.length = 32) : (EA x).size = 34 := by simp [EA, outV, h]
theorem EA_list (x : Ent) : (EA x).toList = .int .i64 x.at_ :: .string x.text :: x.sum.map (.int .u8) := by simp [EA, outV]
theorem EA_one (x : Ent) : (EA x).all (·.oneCell') = true := by
  rw [← Array.all_toList, EA_list]
  simp [Value.oneCell']
/-- A list of entries in memory. -/
def kE : Kd Ent := {
  sz := 34
  rep := fun _ x cs => x.sum.length = 32 ∧ cs = (EA x).toList
  len := fun {H x cs} h => by rw [h.2, Array.length_toList, EA_size x h.1]
  mono := fun _ h => h
  one := fun {H x cs} h v hv => by
    rw [h.2, EA_list] at hv
    simp only [List.mem_cons, List.mem_map] at hv
    rcases hv with rfl | rfl | ⟨z, _, rfl⟩ <;> rfl }
theorem EA_zero : EA ent0 = #[.int .i64 0, .string ⟨#[]⟩, .int .u8 0, .int .u8 0, .int .u8 0, .int .u8 0, .int .u8 0, .int .u8 0, .int .u8 0, .int .u8 0, .int .u8 0, .int .u8 0, .int .u8 0, .int .u8 0, .int .u8 0, .int .u8 0, .int .u8 0, .int .u8 0, .int .u8 0, .int .u8 0, .int .u8 0, .int .u8 0, .int .u8 0, .int .u8 0, .int .u8 0, .int .u8 0, .int .u8 0, .int .u8 0, .int .u8 0, .int .u8 0, .int .u8 0, .int .u8 0, .int .u8 0, .int .u8 0] := rfl
section
variable {σ w w' : World} {Hs : List Hp} {H H1 H2 M N Y : Hp}
set_option maxHeartbeats 4000000
set_option maxRecDepth 10000 in
theorem last_any (v : Value) (xs : List Ent) (w : World) (hw : Sat σ w Hs) (hH : H ∈ Hs) (hs : kE.IsSl H v xs) :
    Calls Tryd.prog 27 #[v] w fun e w' => e = .returned (.agg (EA (xs.getLastD ent0))) ∧ Sat σ w' Hs := by
  obtain ⟨A, c, rfl, hc1, hc2, _⟩ := hs.form
  go_enter Tryd.func27, Tryd.ntmps27
  have hw2 := hw.alloc (.cells #[.int .i64 0, .string ⟨#[]⟩, .int .u8 0, .int .u8 0, .int .u8 0, .int .u8 0, .int .u8 0, .int .u8 0, .int .u8 0, .int .u8 0, .int .u8 0, .int .u8 0, .int .u8 0, .int .u8 0, .int .u8 0, .int .u8 0, .int .u8 0, .int .u8 0, .int .u8 0, .int .u8 0, .int .u8 0, .int .u8 0, .int .u8 0, .int .u8 0, .int .u8 0, .int .u8 0, .int .u8 0, .int .u8 0, .int .u8 0, .int .u8 0, .int .u8 0, .int .u8 0, .int .u8 0, .int .u8 0] 32)
  by_cases h0 : xs.length = 0
  · have hx : xs = [] := List.eq_nil_of_length_eq_zero h0
    go_upto_if 5 with fail
    generalize World.alloc w _ = w2 at *
    rw [← EA_zero] at hw2
    generalize w.heap.size = nb at *
    have HW2 := Lib.hid hw2
    clear hw hw2
    go_wp2_with (with_reducible show wpList _ _ _ [_] _ _; go_must (refine wpList_store_row rfl 32 (.tmp 2) (.tmp 6) rfl nb (EA ent0) rfl rfl 32 (EA ent0) HW2.out.heap (by kernel_rfl) rfl (EA_one _) ?_))
    have hw3 := HW2.out.setRow (EA ent0)
    refine bodyPost_ret (results_cell_row rfl _ _ nb _ _ _ _ rfl hw3.heap Tryd.underlying32 rfl (by kernel_rfl)) rfl ?_
    exact ⟨by rw [hx]; rfl, hw3.drop⟩
  · obtain ⟨k, hk⟩ : ∃ k, xs.length = k + 1 := ⟨xs.length - 1, by omega⟩
    obtain ⟨x, hx⟩ : ∃ x, xs[k]? = some x := ⟨_, List.getElem?_eq_getElem (by omega)⟩
    obtain ⟨b, off, cs, rfl, ⟨hl, rfl⟩, hcell⟩ := hs.get k x hx
    have HX : Hid (xs.getLastD ent0 = x) := Lib.hid (by
      rw [List.getLastD_eq_getLast?, List.getLast?_eq_getElem?, hk, Nat.add_sub_cancel, hx]; rfl)
    have mk : IntKind.i64.wrap ((xs.length : Int) - 1) = (k : Int) := by rw [IntWalk.i64_in _ (by omega)]; omega
    have hki : (k : Int) < xs.length := by omega
    have hk0 : (0 : Int) ≤ k := by omega
    have hxl : ((xs.length : Int) == 0) = false := beq_eq_false_iff_ne.2 (by omega)
    have hrange : Hid (∀ W Hs', Sat σ W Hs' → H ∈ Hs' → W.rangeAt b (off + k * 34) (EA x).toList) := Lib.hid (fun W Hs' h hm j v hv => h.cellAt hm (hcell j v hv))
    have hsz := EA_size x hl
    clear hs hcell hx
    go_upto_if 5 with fail
    generalize World.alloc w _ = w2 at *
    rw [← EA_zero] at hw2
    generalize w.heap.size = nb at *
    have HW2 := Lib.hid hw2
    have hrg := hrange.out _ _ hw2 (by simp [hH])
    have HRG := Lib.hid hrg
    clear hw hw2 hk hrg
    go_wp2_with (first | (with_reducible show wpList _ _ _ [_, _] _ _; refine wpList_load_mid rfl 32 (.tmp 11) rfl b (off + k * 34) rfl (EA x).toList _ HRG.out Tryd.underlying32 rfl (by rw [Array.length_toList, hsz]; kernel_rfl) ?_) | (with_reducible show wpList _ _ _ [_] _ _; go_must (refine wpList_store_row rfl 32 (.tmp 2) (.tmp 12) rfl nb (EA x) rfl rfl 32 (EA ent0) HW2.out.heap (by rw [hsz]; kernel_rfl) ((EA_size _ rfl).trans hsz.symm) (EA_one _) ?_)))
    have hw3 := HW2.out.setRow (EA x)
    refine bodyPost_ret (results_cell_row rfl _ _ nb _ _ _ _ rfl hw3.heap Tryd.underlying32 rfl (by rw [hsz]; kernel_rfl)) rfl ?_
    exact ⟨by rw [HX.out], hw3.drop⟩
end
end Go.Proofs.YteggcfcjajpcgaaDoor
