/- Walk: digest.Hex. -/
import Derived.Test.YteggcfcjajpcgaaDoorDgF
set_option linter.unusedVariables false
namespace Go.Proofs.YteggcfcjajpcgaaDoor
open Go.RowKit
/-- a digit of the base 16 -/
def hd (n : Int) : Int := if n < 10 then 48 + n else 87 + n
def hexF (l : List Int) (j : Nat) : Int := if j % 2 = 0 then hd (l.getD (j / 2) 0 / 16) else hd (l.getD (j / 2) 0 % 16)
def hexL (l : List Int) : List Int := (List.range 64).map (hexF l)
theorem outV_get (l : List Int) (i : Nat) (h : i < l.length) : (outV l)[i]? = some (.int .u8 (l.getD i 0)) := by
  simp [outV, List.getD_eq_getElem?_getD, h]
theorem dig_at (n : Nat) (h : n < 16) : (⟨#[48, 49, 50, 51, 52, 53, 54, 55, 56, 57, 97, 98, 99, 100, 101, 102]⟩ : ByteArray)[n]? = some (UInt8.ofNat (if n < 10 then 48 + n else 87 + n)) := by
  have h16 : ∀ m : Fin 16, (⟨#[48, 49, 50, 51, 52, 53, 54, 55, 56, 57, 97, 98, 99, 100, 101, 102]⟩ : ByteArray)[m.val]? = some (UInt8.ofNat (if m.val < 10 then 48 + m.val else 87 + m.val)) := by decide
  exact h16 ⟨n, h⟩
theorem run_dig {P : Program} (t : TypeId) (ht : P.underlying t = some .string) (n : Nat) (h : n < 16) :
    ∀ w : World, (Instr.index t (.string (⟨#[48, 49, 50, 51, 52, 53, 54, 55, 56, 57, 97, 98, 99, 100, 101, 102]⟩ : ByteArray)) (.int .u8 (n : Int))).run P w = .ok (.int .u8 (hd n)) w := by
  intro w
  have hd1 : ((if n < 10 then 48 + n else 87 + n : Nat) : Int) = hd n := by unfold hd; split <;> split <;> omega
  have hlt : (if n < 10 then 48 + n else 87 + n : Nat) < 256 := by split <;> omega
  simp [Instr.index, asIntOf, run_underlying ht, dig_at n h]
  rw [← hd1]
  omega
end Go.Proofs.YteggcfcjajpcgaaDoor
