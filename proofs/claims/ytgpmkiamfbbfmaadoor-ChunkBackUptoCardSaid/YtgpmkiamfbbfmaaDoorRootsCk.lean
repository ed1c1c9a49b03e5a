/- The library's tables: from the row's condition to the walk's fact; a world for the witness. -/
import Derived.Test.YtgpmkiamfbbfmaaDoorTz
import Derived.Test.YtgpmkiamfbbfmaaDoorTie
import Derived.Test.YtgpmkiamfbbfmaaDoorCards
import Derived.WalkKit
import Derived.ProofKit
import Derived.OpenShut
import Derived.Deep.DeepHandedRow
import Derived.Lib.LaidTab
import Derived.LaidSub
namespace Go.Proofs.YtgpmkiamfbbfmaaDoor
open Go.ChangeShapes Go.WideShapes Go.ChangeAt Go.RowKit

theorem gTab : Tryd.prog.globalNamed "math/bits.deBruijn64tab" = some 4 := by kernel_rfl
theorem gTabType : (Tryd.prog.globals[4]?).map (·.type) = some 101 := by kernel_rfl
/-- What the row's list gives. -/
theorem table {W : World} (h : laidMetH Tryd.prog Rows.chunkBackRow.laid W) : Lib.TabIs Tryd.prog W "math/bits.deBruijn64tab" .u8 tabL := by
  have h2 := h.filter (fun x => x.1 == "math/bits.deBruijn64tab")
  exact Lib.tabIs_of_head (rest := []) gTab gTabType Tryd.underlying101 Tryd.underlying5 (by kernel_rfl) (by kernel_rfl) h2
theorem roots_row : (((begin Tryd.prog (fun _ _ => 0) default).world.heap[4]?).bind Obj.row?).map (·.2) = some 101 := by kernel_rfl
/-- The table's block, whole. -/
theorem roots_of {W : World} (h : laidMetH Tryd.prog Rows.chunkBackRow.laid W) (hS : W.ShapedOpen Tryd.prog) : W.heap[4]? = some (.cells tabV 101 (0, 0)) := by
  obtain ⟨⟨zero, t⟩, hz, ht⟩ := Option.map_eq_some_iff.1 roots_row
  obtain rfl : t = 101 := ht
  obtain ⟨cs, hc, -, -⟩ := hS.1 4 zero _ (of_decide_eq_true (by kernel_rfl)) hz
  have hT := table h
  simp only [Lib.TabIs, World.var?, gTab, Option.bind_some, hc, Option.some.injEq] at hT
  subst hT
  exact hc
/-- What a row lays, as cells. -/
def cellsOfData : DataW Unit → Array Value
  | .agg l => (l.map fun | .lit (.int k z) => Value.int k z | _ => undef).toArray
  | _ => #[]
def lay (g : Nat) (d : DataW Unit) (h : Array Obj) : Array Obj := h.modify g fun
  | .cells _ t frozen => .cells (cellsOfData d) t frozen
  | o => o
/-- A world for the witness: the settled one, the tables holding what their initialisers lay. -/
noncomputable def laidWorld (os : Os) : World :=
  { World.holding Tryd.prog os ⟨#[], #[], []⟩ with heap := lay 2 Rows.laid_internal_strconv_uint64pow10 (lay 3 Rows.laid_math_bits_deBruijn32tab (lay 4 Rows.laid_math_bits_deBruijn64tab (World.holding Tryd.prog os ⟨#[], #[], []⟩).heap)) }
theorem laid_met (os : Os) : laidMet Tryd.prog Rows.chunkBackRow.laid ((laidWorld os).forCall (fun _ _ => 0) ⟨#[], #[.slice none 0 0, .int .i64 0, .slice none 0 0], []⟩).memory :=
  laidMet_of_run' 8 (by kernel_rfl) (by kernel_rfl)
end Go.Proofs.YtgpmkiamfbbfmaaDoor
