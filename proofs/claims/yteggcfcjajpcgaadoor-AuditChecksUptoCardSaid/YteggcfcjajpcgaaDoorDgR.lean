/- Walks: half, ref digit. -/
import Derived.Test.YteggcfcjajpcgaaDoorDgH
set_option linter.unusedVariables false
namespace Go.Proofs.YteggcfcjajpcgaaDoor
open Go.RowKit
/-- a digit's number; below zero: it is none -/
def halfI (c : Int) : Int := if 48 ≤ c ∧ c ≤ 57 then c - 48 else if 97 ≤ c ∧ c ≤ 102 then c - 87 else -1
def digI (c : Int) : Int := if 48 ≤ c ∧ c ≤ 57 then c - 48 else if 97 ≤ c ∧ c ≤ 102 then c - 87 else 16
theorem run_digN {P : Program} (t : TypeId) (ht : P.underlying t = some .string) (n : Nat) (h : n < 16) :
    ∀ w : World, (Instr.index t (.string (⟨#[48, 49, 50, 51, 52, 53, 54, 55, 56, 57, 97, 98, 99, 100, 101, 102]⟩ : ByteArray)) (.int .i64 (n : Int))).run P w = .ok (.int .u8 (hd n)) w := by
  intro w
  have hd1 : ((if n < 10 then 48 + n else 87 + n : Nat) : Int) = hd n := by unfold hd; split <;> split <;> omega
  have hlt : (if n < 10 then 48 + n else 87 + n : Nat) < 256 := by split <;> omega
  simp [Instr.index, asIntOf, run_underlying ht, dig_at n h]
  rw [← hd1]
  omega
end Go.Proofs.YteggcfcjajpcgaaDoor
