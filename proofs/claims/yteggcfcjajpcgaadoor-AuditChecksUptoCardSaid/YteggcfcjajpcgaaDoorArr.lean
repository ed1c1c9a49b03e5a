/- Arrays of bytes that came in. -/
import Derived.Test.YteggcfcjajpcgaaDoorOpn
import Derived.Test.YteggcfcjajpcgaaDoorDgS
set_option linter.unusedVariables false
set_option linter.unusedSimpArgs false
namespace Go.Proofs.YteggcfcjajpcgaaDoor
theorem arr_cells {H : Hp} : ∀ {l : List Int} {cs : List Value}, (Kd.int .u8).reps H l cs → cs = l.map fun x => Value.int .u8 x
  | [], _, h => h
  | x :: l, _, ⟨c, r, e, hc, hr⟩ => by
    have := arr_cells hr
    have hc' : c = [.int .u8 x] := hc
    subst e; subst hc'; subst this
    rfl
theorem u8_range {n : Int} (h : inKind .u8 n) : 0 ≤ n ∧ n < 256 := by
  unfold inKind at h
  simp [Lit.wf, IntKind.min, IntKind.max, IntKind.bits, IntKind.signed] at h
  omega
theorem arr_range {l : List Int} (h : ∀ x ∈ l, inKind .u8 x) (i : Nat) : 0 ≤ l.getD i 0 ∧ l.getD i 0 < 256 := by
  rw [List.getD_eq_getElem?_getD]
  cases hx : l[i]? with
  | none => simp
  | some x => exact u8_range (h x (List.mem_of_getElem? hx))
end Go.Proofs.YteggcfcjajpcgaaDoor
