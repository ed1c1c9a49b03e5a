/- The library's table, from a block. -/
import Derived.Test.YtebdgohkhadgpaaDoorSlO
set_option linter.unusedVariables false
namespace Go.Proofs.YtebdgohkhadgpaaDoor
open Go Go.RowKit
def tabL : List Int := Lib.deBruijn64tab.map fun x => ((x : Nat) : Int)
def tabV : Array Value := (tabL.map fun x => Value.int .u8 x).toArray
theorem tab_at : ∀ j, j < 64 → tabL[j]? = some ((Lib.deBruijn64tab.getD j 0 : Nat) : Int) := by decide +kernel
theorem tabz_of {σ w : World} {Hs : List Hp} {H : Hp} {t : TypeId} {fr : Nat × Nat} (hw : Sat σ w Hs) (hH : H ∈ Hs) (hk : H 0 = some (.cells tabV t fr)) : TabZ w := fun j hj => by
  refine hw.cellAt hH (Hp.cell_of hk ?_)
  unfold tabV
  rw [List.getElem?_toArray, List.getElem?_map, tab_at j hj]
  rfl
end Go.Proofs.YtebdgohkhadgpaaDoor
