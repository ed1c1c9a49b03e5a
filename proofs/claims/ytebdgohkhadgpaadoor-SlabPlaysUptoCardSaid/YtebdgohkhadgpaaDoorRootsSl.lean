/- The library's table of trailing noughts: from the row's condition to the walk's fact; a world for the witness. -/
import Derived.Test.YtebdgohkhadgpaaDoorSlT
import Derived.Test.YtebdgohkhadgpaaDoorTie
import Derived.Test.YtebdgohkhadgpaaDoorCards
import Derived.WalkKit
import Derived.ProofKit
import Derived.OpenShut
import Derived.Deep.DeepHandedRow
import Derived.Lib.LaidTab
namespace Go.Proofs.YtebdgohkhadgpaaDoor
open Go.ChangeShapes Go.WideShapes Go.ChangeAt Go.RowKit

theorem gTab : Tryd.prog.globalNamed "math/bits.deBruijn64tab" = some 0 := by kernel_rfl
theorem gTabType : (Tryd.prog.globals[0]?).map (·.type) = some 64 := by kernel_rfl

/-- What the row's list gives. -/
theorem table {W : World} (h : laidMetH Tryd.prog Rows.slabNoneRow.laid W) : Lib.TabIs Tryd.prog W "math/bits.deBruijn64tab" .u8 tabL :=
  Lib.tabIs_of_head (rest := []) gTab gTabType Tryd.underlying64 Tryd.underlying5 (by kernel_rfl) (by kernel_rfl) h
theorem roots_row : (((begin Tryd.prog (fun _ _ => 0) default).world.heap[0]?).bind Obj.row?).map (·.2) = some 64 := by kernel_rfl
/-- The table's block, whole. -/
theorem roots_of {W : World} (h : laidMetH Tryd.prog Rows.slabNoneRow.laid W) (hS : W.ShapedOpen Tryd.prog) : W.heap[0]? = some (.cells tabV 64 (0, 0)) := by
  obtain ⟨⟨zero, t⟩, hz, ht⟩ := Option.map_eq_some_iff.1 roots_row
  obtain rfl : t = 64 := ht
  obtain ⟨cs, hc, -, -⟩ := hS.1 0 zero _ (of_decide_eq_true (by kernel_rfl)) hz
  have hT := table h
  simp only [Lib.TabIs, World.var?, gTab, Option.bind_some, hc, Option.some.injEq] at hT
  subst hT
  exact hc
/-- The walks' fact. -/
theorem tabz_at {W : World} (h : laidMetH Tryd.prog Rows.slabNoneRow.laid W) (hS : W.ShapedOpen Tryd.prog) (w' : World) (Hs' : List Hp) (hw : Sat W w' (Hs' ++ [hpOf W])) : TabZ w' :=
  tabz_of hw (List.mem_append_right _ (List.mem_singleton.2 rfl)) (roots_of h hS)

/-- A world for the witness: the settled one, the table holding what its initialiser lays. -/
noncomputable def laidWorld (os : Os) : World :=
  { World.holding Tryd.prog os ⟨#[], #[], []⟩ with heap := (World.holding Tryd.prog os ⟨#[], #[], []⟩).heap.modify 0 fun
      | .cells _ t frozen => .cells tabV t frozen
      | o => o }
theorem laid_met (os : Os) : laidMet Tryd.prog Rows.slabNoneRow.laid ((laidWorld os).forCall (fun _ _ => 0) ⟨#[], #[.int .i64 0, .slice none 0 0], []⟩).memory :=
  laidMet_of_run' 8 (by kernel_rfl) (by kernel_rfl)
end Go.Proofs.YtebdgohkhadgpaaDoor
