/- What the laws' arguments are: whole numbers; a nil slice has no room. -/
import Derived.Test.YtgpmkiamfbbfmaaDoorByt
set_option linter.unusedVariables false
namespace Go.Proofs.YtgpmkiamfbbfmaaDoor
open Go Go.RowKit
theorem nil_cap {H : Type} {enc : TypeId × Value → H} {P : Program} {w : World} {base : Nat} {spare : Nat → Bool} {held : Bool} {fuel : Nat} {t e : TypeId} {a : Option Addr} {n c : Nat} {x : DataW H × List MemPlace} (ht : P.underlying t = some (.slice e)) (h : DataW.trod enc P w base spare held fuel t [Value.slice a n c] = some x) : a = none → c = 0 := by
  rcases DataW.trod_slice ht h with ⟨h1, _⟩ | ⟨a', len, cap, elems, rest, m, _, h1, _⟩
  · injection h1 with h1 _
    injection h1 with _ _ h1
    intro _
    exact h1
  · injection h1 with h1 _
    injection h1 with h1 _ _
    intro h2
    rw [h2] at h1
    cases h1
end Go.Proofs.YtgpmkiamfbbfmaaDoor
