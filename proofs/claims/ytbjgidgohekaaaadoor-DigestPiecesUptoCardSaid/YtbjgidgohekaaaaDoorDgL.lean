/- Walk: works (the chapter's examples). -/
import Derived.Test.YtbjgidgohekaaaaDoorDgH
import Derived.Test.YtbjgidgohekaaaaDoorDgK
import Derived.Lib.SlBytesConst
set_option linter.unusedVariables false
namespace Go.Proofs.YtbjgidgohekaaaaDoor
open Go.RowKit
theorem sha_range (l : List Int) (i : Nat) : 0 ≤ (sha l).getD i 0 ∧ (sha l).getD i 0 < 256 := by
  unfold sha outL
  rw [List.getD_eq_getElem?_getD, List.getElem?_map]
  cases h : (List.range 32)[i]? with
  | none => simp
  | some j =>
    simp only [Option.map_some, Option.getD_some]
    unfold outB
    constructor
    · exact Int.emod_nonneg _ (by decide)
    · exact Int.emod_lt_of_pos _ (by decide)
theorem sha_length (l : List Int) : (sha l).length = 32 := by simp [sha, outL]
theorem hex0 : strOfNums (hexL (sha [])) = (⟨#[101, 51, 98, 48, 99, 52, 52, 50, 57, 56, 102, 99, 49, 99, 49, 52, 57, 97, 102, 98, 102, 52, 99, 56, 57, 57, 54, 102, 98, 57, 50, 52, 50, 55, 97, 101, 52, 49, 101, 52, 54, 52, 57, 98, 57, 51, 52, 99, 97, 52, 57, 53, 57, 57, 49, 98, 55, 56, 53, 50, 98, 56, 53, 53]⟩ : ByteArray) := by
  rw [sha0]
  kernel_rfl
theorem hex1 : strOfNums (hexL (sha [97, 98, 99])) = (⟨#[98, 97, 55, 56, 49, 54, 98, 102, 56, 102, 48, 49, 99, 102, 101, 97, 52, 49, 52, 49, 52, 48, 100, 101, 53, 100, 97, 101, 50, 50, 50, 51, 98, 48, 48, 51, 54, 49, 97, 51, 57, 54, 49, 55, 55, 97, 57, 99, 98, 52, 49, 48, 102, 102, 54, 49, 102, 50, 48, 48, 49, 53, 97, 100]⟩ : ByteArray) := by
  rw [sha1]
  kernel_rfl
set_option maxHeartbeats 2000000 in
theorem works_any (w : World) (hk0 : w.heap[0]? = some (.cells kV 58 (0, 0))) :
    Calls Tryd.prog 12 #[] w fun e w' => e = .returned (.bool true) ∧ Below w.heap.size w w' := by
  have HKL : Hid (0 < w.heap.size) := Lib.hid (row_of_heap hk0 undef).lt
  have HK := Lib.hid hk0; clear hk0
  have S0 := sum_any (.slice none 0 0) [] (fun _ => False) w ⟨none, 0, rfl, by simp, by simp, fun h => absurd h (by simp)⟩ (by simp) HK.out (fun _ h => h.elim)
  have kc := fun (w : World) (C : Array Value) (n c : Nat) => Lib.run_convert_bytes_const (P := Tryd.prog) w 28 5 C n c Tryd.underlying28 Tryd.underlying5
  have kc2 : ∀ (w : World) (o : Obj) (C : Array Value) (n c : Nat), (convert 28 28 (.slice (some ⟨w.heap.size + 1, 0, none⟩) n c)).run Tryd.prog ((w.alloc o).alloc (.cells C 5)) = .ok (.slice (some ⟨w.heap.size + 1, 0, none⟩) n c) ((w.alloc o).alloc (.cells C 5 (C.size, C.size + 1))) := fun w o C n c => by
    have := kc (w.alloc o) C n c
    simpa using this
  go_enter Tryd.func12, Tryd.ntmps12
  go_wp2_with fail
  refine S0.mono ?_
  rintro e w1 ⟨rfl, hb1⟩
  clear S0
  go_wp2_with fail
  refine (hex_any _ w1 (sha_length _) (sha_range _)).mono ?_
  rintro e w2 ⟨rfl, hb2⟩
  rw [hex0]
  have HLOW := Lib.hid (hb1.trans (hb2.mono hb1.size))
  clear hb1 hb2
  go_wp2_with fail
  refine (sum_any _ [[97], [], [98, 99]] (fun b => b < w2.heap.size + 1 + 1 + 1) _ ⟨_, 3, rfl, by decide, by decide, fun _ => ⟨w2.heap.size + 1 + 1, 0, rfl, by omega, fun j hj => ?_⟩⟩ (by decide) ?_ (fun b hb => by simp; omega)).mono ?_
  · have hj3 : j < 3 := hj
    have H3 := heap3 w2 (.cells #[.int .u8 97] 5 (1, 2)) (.cells #[.int .u8 98, .int .u8 99] 5 (2, 3)) (.cells #[.slice (some ⟨w2.heap.size, 0, none⟩) 1 1, .slice none 0 0, .slice (some ⟨w2.heap.size + 1, 0, none⟩) 2 2] 28)
    match j, hj3 with
    | 0, _ => exact ⟨.slice (some ⟨w2.heap.size, 0, none⟩) 1 1, (cell_of_row _ _ _ _ _ _ H3.2.2).trans rfl, _, 1, rfl, by decide, by decide, fun _ => ⟨w2.heap.size, 0, rfl, by omega, fun j hj => by
        obtain rfl : j = 0 := by simpa using hj
        exact (cell_of_row _ _ _ _ _ _ H3.1).trans rfl⟩⟩
    | 1, _ => exact ⟨.slice none 0 0, (cell_of_row _ _ _ _ _ _ H3.2.2).trans rfl, rd_nil _ _ _⟩
    | 2, _ => exact ⟨.slice (some ⟨w2.heap.size + 1, 0, none⟩) 2 2, (cell_of_row _ _ _ _ _ _ H3.2.2).trans rfl, _, 2, rfl, by decide, by decide, fun _ => ⟨w2.heap.size + 1, 0, rfl, by omega, fun j hj => by
        have hj2 : j < 2 := hj
        match j, hj2 with
        | 0, _ | 1, _ => exact (cell_of_row _ _ _ _ _ _ H3.2.1).trans rfl⟩⟩
  · rw [Below.heap_alloc _ _ _ (by have := HKL.out; have := HLOW.out.size; simp <;> omega), Below.heap_alloc _ _ _ (by have := HKL.out; have := HLOW.out.size; simp <;> omega), Below.heap_alloc _ _ _ (by have := HKL.out; have := HLOW.out.size; omega)]
    exact (HLOW.out.block _ HKL.out).trans HK.out
  rintro e w3 ⟨rfl, hb3⟩
  have HL3 := Lib.hid (HLOW.out.trans (((((Below.refl w2.heap.size w2).alloc (Nat.le_refl _) _).alloc (by simp) _).alloc (by simp <;> omega) _).trans (hb3.mono (by simp <;> omega)) |>.mono HLOW.out.size))
  clear hb3
  go_wp2_with fail
  refine (hex_any _ w3 (sha_length _) (sha_range _)).mono ?_
  rintro e w4 ⟨rfl, hb4⟩
  rw [hex1]
  have HL4 := Lib.hid (HL3.out.trans (hb4.mono HL3.out.size))
  clear hb4
  go_wp2
  go_ret
  exact ⟨by simp, HL4.out⟩
end Go.Proofs.YtbjgidgohekaaaaDoor
