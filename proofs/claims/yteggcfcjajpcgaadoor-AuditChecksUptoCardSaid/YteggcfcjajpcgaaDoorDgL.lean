/- Walk: works (the chapter's examples). -/
import Derived.Test.YteggcfcjajpcgaaDoorDgH
import Derived.Test.YteggcfcjajpcgaaDoorDgK
import Derived.Lib.SlBytesConst
set_option linter.unusedVariables false
namespace Go.Proofs.YteggcfcjajpcgaaDoor
open Go.RowKit
theorem sha_range (l : List Int) (i : Nat) : 0 ≤ (sha l).getD i 0 ∧ (sha l).getD i 0 < 256 := by
  unfold sha outL
  rw [List.getD_eq_getElem?_getD, List.getElem?_map]
  cases h : (List.range 32)[i]? with
  | none => simp
  | some j =>
    simp only [Option.map_some, Option.getD_some]
    unfold outB
    constructor
    · exact Int.emod_nonneg _ (by decide)
    · exact Int.emod_lt_of_pos _ (by decide)
theorem sha_length (l : List Int) : (sha l).length = 32 := by simp [sha, outL]
theorem hex0 : strOfNums (hexL (sha [])) = (⟨#[101, 51, 98, 48, 99, 52, 52, 50, 57, 56, 102, 99, 49, 99, 49, 52, 57, 97, 102, 98, 102, 52, 99, 56, 57, 57, 54, 102, 98, 57, 50, 52, 50, 55, 97, 101, 52, 49, 101, 52, 54, 52, 57, 98, 57, 51, 52, 99, 97, 52, 57, 53, 57, 57, 49, 98, 55, 56, 53, 50, 98, 56, 53, 53]⟩ : ByteArray) := by
  rw [sha0]
  kernel_rfl
theorem hex1 : strOfNums (hexL (sha [97, 98, 99])) = (⟨#[98, 97, 55, 56, 49, 54, 98, 102, 56, 102, 48, 49, 99, 102, 101, 97, 52, 49, 52, 49, 52, 48, 100, 101, 53, 100, 97, 101, 50, 50, 50, 51, 98, 48, 48, 51, 54, 49, 97, 51, 57, 54, 49, 55, 55, 97, 57, 99, 98, 52, 49, 48, 102, 102, 54, 49, 102, 50, 48, 48, 49, 53, 97, 100]⟩ : ByteArray) := by
  rw [sha1]
  kernel_rfl
end Go.Proofs.YteggcfcjajpcgaaDoor
