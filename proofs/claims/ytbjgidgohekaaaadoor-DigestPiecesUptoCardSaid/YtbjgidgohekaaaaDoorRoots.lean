/- The table of roots: from the row's condition to the walk's fact; a world for the witness. -/
import Derived.Test.YtbjgidgohekaaaaDoorDgS
import Derived.Test.YtbjgidgohekaaaaDoorTie
import Derived.Test.YtbjgidgohekaaaaDoorCards
import Derived.WalkKit
import Derived.ProofKit
import Derived.OpenShut
import Derived.Deep.DeepHandedRow
import Derived.Lib.LaidTab
namespace Go.Proofs.YtbjgidgohekaaaaDoor
open Go.ChangeShapes Go.WideShapes Go.ChangeAt Go.RowKit

theorem own : ownKnob Tryd.prog.godebug = none := by kernel_rfl
theorem laidOut : laidOutB Tryd.prog = true := by kernel_rfl
theorem gTab : Tryd.prog.globalNamed "sallyport/digest.roots" = some 0 := by kernel_rfl
theorem gTabType : (Tryd.prog.globals[0]?).map (·.type) = some 58 := by kernel_rfl

/-- What the row's list gives. -/
theorem table {W : World} (h : laidMetH Tryd.prog Rows.digestSumsRow.laid W) : Lib.TabIs Tryd.prog W "sallyport/digest.roots" .u32 kL :=
  Lib.tabIs_of_head (rest := []) gTab gTabType Tryd.underlying58 Tryd.underlying36 (by kernel_rfl) (by kernel_rfl) h
theorem roots_row : (((begin Tryd.prog (fun _ _ => 0) default).world.heap[0]?).bind Obj.row?).map (·.2) = some 58 := by kernel_rfl
/-- The table's block, whole. -/
theorem roots_of {W : World} (h : laidMetH Tryd.prog Rows.digestSumsRow.laid W) (hS : W.ShapedOpen Tryd.prog) : W.heap[0]? = some (.cells kV 58 (0, 0)) := by
  obtain ⟨⟨zero, t⟩, hz, ht⟩ := Option.map_eq_some_iff.1 roots_row
  obtain rfl : t = 58 := ht
  obtain ⟨cs, hc, -, -⟩ := hS.1 0 zero _ (of_decide_eq_true (by kernel_rfl)) hz
  have hT := table h
  simp only [Lib.TabIs, World.var?, gTab, Option.bind_some, hc, Option.some.injEq] at hT
  subst hT
  exact hc

/-- A world for the witness: the settled one, the table holding what its initialiser lays. -/
noncomputable def laidWorld (os : Os) : World :=
  { World.holding Tryd.prog os ⟨#[], #[], []⟩ with heap := (World.holding Tryd.prog os ⟨#[], #[], []⟩).heap.modify 0 fun
      | .cells _ t frozen => .cells kV t frozen
      | o => o }
theorem laid_met (os : Os) : laidMet Tryd.prog Rows.digestSumsRow.laid ((laidWorld os).forCall (fun _ _ => 0) ⟨#[], #[.slice none 0 0], []⟩).memory :=
  laidMet_of_run' 8 (by kernel_rfl) (by kernel_rfl)
end Go.Proofs.YtbjgidgohekaaaaDoor
