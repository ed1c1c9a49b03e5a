/- What DigestPieces' argument is: a slice of byte slices. -/
import Derived.Test.YtbjgidgohekaaaaDoorDgPi
import Derived.Test.YtbjgidgohekaaaaDoorOpn
set_option linter.unusedVariables false
namespace Go.Proofs.YtbjgidgohekaaaaDoor
open Go Go.ChangeShapes Go.WideShapes Go.ChangeAt Go.RowKit
def okB (l : List Int) : Prop := l.length ≤ 9223372036854775807 ∧ ∀ x ∈ l, inKind .u8 x
def mB (l : List Int) : Nat := (l.map fun _ => 1).sum + 1
theorem opensBytes : Opens Tryd.prog 28 (Kd.sl kB) okB mB := opens_slice Tryd.underlying28 (opens_int Tryd.underlying5) (by kernel_rfl) (by decide)
theorem opensRows : Opens Tryd.prog 22 (Kd.sl (Kd.sl kB)) (fun l => l.length ≤ 9223372036854775807 ∧ ∀ x ∈ l, okB x) (fun l => (l.map mB).sum + 1) := opens_slice Tryd.underlying22 opensBytes (by kernel_rfl) (by decide)
theorem rows_bulk (l : List (List Int)) : l.flatten.length + l.length ≤ (l.map mB).sum := by
  induction l with
  | nil => simp
  | cons a l ih =>
    have h : mB a = a.length + 1 := by unfold mB; congr 1; clear ih; induction a with
      | nil => rfl
      | cons x a ih => rw [List.map_cons, List.sum_cons, ih, List.length_cons]; omega
    simp only [List.flatten_cons, List.length_append, List.length_cons, List.map_cons, List.sum_cons]
    omega
theorem rows_small {l : List (List Int)} {b : Nat} (h : (l.map mB).sum + 1 ≤ b) (hb : b ≤ 1048576) : l.flatten.length ≤ 1000000000 ∧ l.length ≤ 1000000000 := by
  have := rows_bulk l
  omega
end Go.Proofs.YtbjgidgohekaaaaDoor
