/- What a bound on the bulk says of a string. -/
import Derived.Test.YtbjgidgohekaaaaDoorDgCh
import Derived.Test.YtbjgidgohekaaaaDoorOpn
set_option linter.unusedVariables false
namespace Go.Proofs.YtbjgidgohekaaaaDoor
open Go Go.ChangeShapes Go.WideShapes Go.ChangeAt Go.RowKit
theorem str_bulk {H : Type} {enc : TypeId × Value → H} {W : World} {a : ByteArray} {d : DataW H} {p : List MemPlace} (k : DataW.Trod enc Tryd.prog W 0 (fun _ => true) true 9 (.string a) d p) : a.size + 1 ≤ Rows.uptoBulk d := by
  obtain ⟨fuel, hf⟩ := k
  obtain ⟨x, hx, ox, bx⟩ := (opens_str Tryd.underlying9).out hf
  have e : [Value.string a] = [Value.string x] := hx
  simp at e
  subst e
  exact bx
theorem small_str {a b c d : Nat} (h : a + 1 ≤ c) (hb : b + (c + d) ≤ 1048576) : a ≤ 400000000 := by omega
theorem small_str2 {a b c d e : Nat} (h : a + 1 ≤ d) (hb : b + (c + (d + e)) ≤ 1048576) : a ≤ 400000000 := by omega
end Go.Proofs.YtbjgidgohekaaaaDoor
