/- strconv.Itoa, met on pieces of the heap. -/
import Derived.Test.YteggcfcjajpcgaaDoorItoL
import Derived.Test.YteggcfcjajpcgaaDoorApp
import Derived.Lib.ItoaLen
set_option linter.unusedVariables false
set_option linter.unusedSimpArgs false
namespace Go.Proofs.YteggcfcjajpcgaaDoor
open Go Go.RowKit
section
variable {σ w w' : World} {Hs : List Hp} {H H1 H2 M N Y : Hp}
def powV : Array Value := (Lib.pow10Tab.map fun z => Value.int .u64 z).toArray
theorem gPow : Tryd.prog.globalNamed "internal/strconv.uint64pow10" = some 1 := by kernel_rfl
theorem tabis_of {t : TypeId} {fr : Nat × Nat} (hw : Sat σ w Hs) (hH : H ∈ Hs) (hk : H 1 = some (.cells powV t fr)) : Lib.TabIs Tryd.prog w "internal/strconv.uint64pow10" .u64 Lib.pow10Tab := by
  have h := hw.blk hH hk
  simp only [Lib.TabIs, World.var?, gPow, Option.bind_some, h]
  rfl
theorem Sat.grown {k : Nat} {os : Array Obj} (h : Sat σ w Hs) : Sat σ (Go.Sort.grow (w.drewN k) os) Hs :=
  h.to rfl rfl rfl (by show _ ≤ (w.heap ++ os).size; rw [Array.size_append]; omega) fun H hH b o e => by
    show (w.heap ++ os)[b]? = _
    exact Array.getElem?_append_left (h.lt hH e)
theorem itoaS (n : Int) (h0 : -9223372036854775808 ≤ n) (h1 : n ≤ 9223372036854775807) (w : World) (hw : Sat σ w Hs) (hH : H ∈ Hs) {t : TypeId} {fr : Nat × Nat} (hk : H 1 = some (.cells powV t fr)) :
    Calls Tryd.prog 31 #[.int .i64 n] w fun e w' => e = .returned (.string ⟨(Lib.itoa n).toArray⟩) ∧ Sat σ w' Hs :=
  (Any.strconv_Itoa layItoa n h0 h1 w (tabis_of hw hH hk)).mono fun e w' ⟨he, k, os, hw'⟩ => ⟨he, by rw [hw']; exact hw.grown⟩
end
end Go.Proofs.YteggcfcjajpcgaaDoor
