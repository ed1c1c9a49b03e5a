/- What the laws' arguments are: whole numbers; a nil slice has no room. -/
import Derived.Test.YtgpmkiamfbbfmaaByt
set_option linter.unusedVariables false
namespace Go.Proofs.Ytgpmkiamfbbfmaa
open Go Go.RowKit
theorem opensInts : Opens Try.prog 43 (Kd.sl (Kd.int .i64)) (fun l => l.length ≤ 9223372036854775807 ∧ ∀ x ∈ l, inKind .i64 x) (fun l => (l.map fun _ => 1).sum + 1) := opens_slice Try.underlying43 (opens_int Try.underlying3) (by kernel_rfl) (by decide)
theorem nil_cap {H : Type} {enc : TypeId × Value → H} {P : Program} {w : World} {base : Nat} {spare : Nat → Bool} {held : Bool} {fuel : Nat} {t e : TypeId} {a : Option Addr} {n c : Nat} {x : DataW H × List MemPlace} (ht : P.underlying t = some (.slice e)) (h : DataW.trod enc P w base spare held fuel t [Value.slice a n c] = some x) : a = none → c = 0 := by
  rcases DataW.trod_slice ht h with ⟨h1, _⟩ | ⟨a', len, cap, elems, rest, m, _, h1, _⟩
  · injection h1 with h1 _
    injection h1 with _ _ h1
    intro _
    exact h1
  · injection h1 with h1 _
    injection h1 with h1 _ _
    intro h2
    rw [h2] at h1
    cases h1
end Go.Proofs.Ytgpmkiamfbbfmaa
