/- The tables: from the row's condition to the walk's facts; a world for the witness. -/
import Derived.Test.YteggcfcjajpcgaaDoorAuC
import Derived.Test.YteggcfcjajpcgaaDoorTie
import Derived.Test.YteggcfcjajpcgaaDoorCards
import Derived.WalkKit
import Derived.ProofKit
import Derived.OpenShut
import Derived.Deep.DeepHandedRow
import Derived.Lib.LaidTab
namespace Go.Proofs.YteggcfcjajpcgaaDoor
open Go.ChangeShapes Go.WideShapes Go.ChangeAt Go.RowKit

theorem gRoots : Tryd.prog.globalNamed "sallyport/digest.roots" = some 0 := by kernel_rfl
theorem gRootsType : (Tryd.prog.globals[0]?).map (·.type) = some 90 := by kernel_rfl
theorem gPowType : (Tryd.prog.globals[1]?).map (·.type) = some 94 := by kernel_rfl
/-- A variable's block, whole. -/
theorem var_block {W : World} {g : Nat} {name : String} {t : TypeId} {V : Array Value} (hg : Tryd.prog.globalNamed name = some g) (hlt : g < Tryd.prog.globals.size)
    (hrow : (((begin Tryd.prog (fun _ _ => 0) default).world.heap[g]?).bind Obj.row?).map (·.2) = some t) (hS : W.ShapedOpen Tryd.prog) (hv : W.var? Tryd.prog name = some V) : W.heap[g]? = some (.cells V t (0, 0)) := by
  obtain ⟨⟨zero, t'⟩, hz, ht⟩ := Option.map_eq_some_iff.1 hrow
  obtain rfl : t' = t := ht
  obtain ⟨cs, hc, -, -⟩ := hS.1 g zero _ hlt hz
  simp only [World.var?, hg, Option.bind_some, hc, Option.some.injEq] at hv
  subst hv
  exact hc
theorem roots_row : (((begin Tryd.prog (fun _ _ => 0) default).world.heap[0]?).bind Obj.row?).map (·.2) = some 90 := by kernel_rfl
theorem pow_row : (((begin Tryd.prog (fun _ _ => 0) default).world.heap[1]?).bind Obj.row?).map (·.2) = some 94 := by kernel_rfl
theorem roots_of {W : World} (h : laidMetH Tryd.prog Rows.auditPastRow.laid W) (hS : W.ShapedOpen Tryd.prog) : W.heap[0]? = some (.cells kV 90 (0, 0)) := by
  have h2 := h.filter (fun x => x.1 == "sallyport/digest.roots")
  have hT := Lib.tabIs_of_head (zs := kL) (rest := []) gRoots gRootsType Tryd.underlying90 Tryd.underlying74 (by kernel_rfl) (by kernel_rfl) h2
  exact var_block gRoots (of_decide_eq_true (by kernel_rfl)) roots_row hS hT
theorem pow_of {W : World} (h : laidMetH Tryd.prog Rows.auditPastRow.laid W) (hS : W.ShapedOpen Tryd.prog) : W.heap[1]? = some (.cells powV 94 (0, 0)) := by
  have h2 := h.filter (fun x => x.1 == "internal/strconv.uint64pow10")
  have hT := Lib.tabIs_of_head (zs := Lib.pow10Tab) (rest := []) gPow gPowType Tryd.underlying94 Tryd.underlying59 (by kernel_rfl) (by kernel_rfl) h2
  exact var_block gPow (of_decide_eq_true (by kernel_rfl)) pow_row hS hT
/-- What a row lays, as cells. -/
def cellsOfData : DataW Unit → Array Value
  | .agg l => (l.map fun | .lit (.int k z) => Value.int k z | _ => undef).toArray
  | _ => #[]
def layAt (g : Nat) (cs : Array Value) (h : Array Obj) : Array Obj := h.modify g fun
  | .cells _ t frozen => .cells cs t frozen
  | o => o
/-- A world for the witness: the settled one, the variables holding what their initialisers lay. -/
noncomputable def laidWorld (os : Os) : World :=
  let w0 := World.holding Tryd.prog os ⟨#[], #[], []⟩
  { w0 with heap := layAt 0 (cellsOfData Rows.laid_sallyport_digest_roots) (layAt 1 (cellsOfData Rows.laid_internal_strconv_uint64pow10) (layAt 2 (cellsOfData Rows.laid_math_bits_deBruijn32tab) (layAt 3 (cellsOfData Rows.laid_math_bits_deBruijn64tab) w0.heap))) }
theorem laid_met1 (os : Os) : laidMet Tryd.prog Rows.auditPastRow.laid ((laidWorld os).forCall (fun _ _ => 0) ⟨#[], #[.slice none 0 0], []⟩).memory :=
  laidMet_of_run' 10 (by kernel_rfl) (by kernel_rfl)
theorem laid_met2 (os : Os) : laidMet Tryd.prog Rows.auditPastRow.laid ((laidWorld os).forCall (fun _ _ => 0) ⟨#[], #[.slice none 0 0, .slice none 0 0], []⟩).memory :=
  laidMet_of_run' 10 (by kernel_rfl) (by kernel_rfl)
end Go.Proofs.YteggcfcjajpcgaaDoor
