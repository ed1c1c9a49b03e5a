/- What the law's argument is: a list of bools. -/
import Derived.Test.YtfieipigbdopaaaH2
import Derived.Test.YtfieipigbdopaaaOpn
set_option linter.unusedVariables false
namespace Go.Proofs.Ytfieipigbdopaaa
theorem opensBools : Opens Try.prog 44 (Kd.sl Kd.bool) (fun l => l.length ≤ 9223372036854775807 ∧ ∀ x ∈ l, True) (fun l => (l.map fun _ => 1).sum + 1) := opens_slice Try.underlying44 (opens_bool Try.underlying4) (by kernel_rfl) (by decide)
end Go.Proofs.Ytfieipigbdopaaa
