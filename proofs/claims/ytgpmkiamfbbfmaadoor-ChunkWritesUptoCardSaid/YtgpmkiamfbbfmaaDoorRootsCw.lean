/- The library's tables and errors: from the row's condition to the walk's facts; a world for the witness. -/
import Derived.Test.YtgpmkiamfbbfmaaDoorCwC
import Derived.Test.YtgpmkiamfbbfmaaDoorTie
import Derived.Test.YtgpmkiamfbbfmaaDoorCards
import Derived.WalkKit
import Derived.ProofKit
import Derived.OpenShut
import Derived.Deep.DeepHandedRow
import Derived.Deep.DeepWitnessRowRef
import Derived.Lib.LaidTab
import Derived.LaidSub
import Derived.Stop.LaidErr
namespace Go.Proofs.YtgpmkiamfbbfmaaDoor
open Go.ChangeShapes Go.WideShapes Go.ChangeAt Go.RowKit

theorem gTab : Tryd.prog.globalNamed "math/bits.deBruijn64tab" = some 4 := by kernel_rfl
theorem gTabType : (Tryd.prog.globals[4]?).map (·.type) = some 101 := by kernel_rfl
theorem gPowType : (Tryd.prog.globals[2]?).map (·.type) = some 88 := by kernel_rfl
theorem gSyn : Tryd.prog.globalNamed "strconv.ErrSyntax" = some 0 := by kernel_rfl
theorem gSynType : (Tryd.prog.globals[0]?).map (·.type) = some 30 := by kernel_rfl
theorem gRan : Tryd.prog.globalNamed "strconv.ErrRange" = some 1 := by kernel_rfl
theorem gRanType : (Tryd.prog.globals[1]?).map (·.type) = some 30 := by kernel_rfl
/-- A variable's block, whole. -/
theorem var_block {W : World} {g : Nat} {name : String} {t : TypeId} {V : Array Value} (hg : Tryd.prog.globalNamed name = some g) (hlt : g < Tryd.prog.globals.size)
    (hrow : (((begin Tryd.prog (fun _ _ => 0) default).world.heap[g]?).bind Obj.row?).map (·.2) = some t) (hS : W.ShapedOpen Tryd.prog) (hv : W.var? Tryd.prog name = some V) : W.heap[g]? = some (.cells V t (0, 0)) := by
  obtain ⟨⟨zero, t'⟩, hz, ht⟩ := Option.map_eq_some_iff.1 hrow
  obtain rfl : t' = t := ht
  obtain ⟨cs, hc, -, -⟩ := hS.1 g zero _ hlt hz
  simp only [World.var?, hg, Option.bind_some, hc, Option.some.injEq] at hv
  subst hv
  exact hc
theorem tab_row : (((begin Tryd.prog (fun _ _ => 0) default).world.heap[4]?).bind Obj.row?).map (·.2) = some 101 := by kernel_rfl
theorem pow_row : (((begin Tryd.prog (fun _ _ => 0) default).world.heap[2]?).bind Obj.row?).map (·.2) = some 88 := by kernel_rfl
theorem syn_row : (((begin Tryd.prog (fun _ _ => 0) default).world.heap[0]?).bind Obj.row?).map (·.2) = some 30 := by kernel_rfl
theorem ran_row : (((begin Tryd.prog (fun _ _ => 0) default).world.heap[1]?).bind Obj.row?).map (·.2) = some 30 := by kernel_rfl
theorem roots_of {W : World} (h : laidMetH Tryd.prog Rows.chunkWritesRow.laid W) (hS : W.ShapedOpen Tryd.prog) : W.heap[4]? = some (.cells tabV 101 (0, 0)) := by
  have h2 := h.filter (fun x => x.1 == "math/bits.deBruijn64tab")
  have hT := Lib.tabIs_of_head (zs := tabL) (rest := []) gTab gTabType Tryd.underlying101 Tryd.underlying5 (by kernel_rfl) (by kernel_rfl) h2
  exact var_block gTab (of_decide_eq_true (by kernel_rfl)) tab_row hS hT
theorem pow_of {W : World} (h : laidMetH Tryd.prog Rows.chunkWritesRow.laid W) (hS : W.ShapedOpen Tryd.prog) : W.heap[2]? = some (.cells powV 88 (0, 0)) := by
  have h2 := h.filter (fun x => x.1 == "internal/strconv.uint64pow10")
  have hT := Lib.tabIs_of_head (zs := Lib.pow10Tab) (rest := []) gPow gPowType Tryd.underlying88 Tryd.underlying64 (by kernel_rfl) (by kernel_rfl) h2
  exact var_block gPow (of_decide_eq_true (by kernel_rfl)) pow_row hS hT
theorem err_var {W : World} {n nm : String} {d : DataW Unit} {g : Nat} (h : laidMet Tryd.prog [(n, .iface nm d)] W) (hg : Tryd.prog.globalNamed n = some g) (ht : (Tryd.prog.globals[g]?).map (·.type) = some 30) : ∃ u v, W.var? Tryd.prog n = some #[.iface u v] := by
  obtain ⟨ps, ⟨g0, t0, cs0, f0, p0, q0, hg0, ht0, hv0, hd0, _, e0⟩, _, _⟩ := h
  obtain rfl := Option.some.inj (hg.symm.trans hg0)
  obtain rfl := Option.some.inj (ht.symm.trans ht0)
  obtain ⟨l0⟩ := cs0
  obtain ⟨f1, u, v, e, _, _⟩ := iface_of_trod Tryd.underlying30 hd0
  have e2 : l0 = [.iface u v] := e
  subst e2
  exact ⟨u, v, hv0⟩
theorem err_in {W : World} {n nm : String} {d : DataW Unit} {g : Nat} (h : laidMet Tryd.prog [(n, .iface nm d)] W) (hg : Tryd.prog.globalNamed n = some g) (ht : (Tryd.prog.globals[g]?).map (·.type) = some 30) (hlt : g < Tryd.prog.globals.size)
    (hrow : (((begin Tryd.prog (fun _ _ => 0) default).world.heap[g]?).bind Obj.row?).map (·.2) = some 30) (hS : W.ShapedOpen Tryd.prog) : ErrIn (hpOf W) g := by
  obtain ⟨u, v, hv⟩ := err_var h hg ht
  exact ⟨_, _, _, var_block hg hlt hrow hS hv, .inr ⟨u, v, rfl⟩⟩
/-- What the walks want of the library's variables. -/
theorem libv_of {W : World} (h : laidMetH Tryd.prog Rows.chunkWritesRow.laid W) (hS : W.ShapedOpen Tryd.prog) : LibV (hpOf W) := by
  have h1 := h.filter (fun x => x.1 == "strconv.ErrSyntax")
  have h2 := h.filter (fun x => x.1 == "strconv.ErrRange")
  exact ⟨⟨_, _, pow_of h hS⟩, err_in h1 gSyn gSynType (of_decide_eq_true (by kernel_rfl)) syn_row hS, err_in h2 gRan gRanType (of_decide_eq_true (by kernel_rfl)) ran_row hS⟩
/-- What a row lays, as cells. -/
def cellsOfData : DataW Unit → Array Value
  | .agg l => (l.map fun | .lit (.int k z) => Value.int k z | _ => undef).toArray
  | _ => #[]
def textOfData : DataW Unit → ByteArray
  | .iface _ (.ptr (.agg [.lit (.string l)])) => ⟨l.toArray⟩
  | _ => ⟨#[]⟩
def layAt (g : Nat) (cs : Array Value) (h : Array Obj) : Array Obj := h.modify g fun
  | .cells _ t frozen => .cells cs t frozen
  | o => o
/-- A world for the witness: the settled one, the variables holding what their initialisers lay. -/
noncomputable def laidWorld (os : Os) : World :=
  let N := (World.settled Tryd.prog os).heap.size
  let w0 := World.holding Tryd.prog os ⟨#[.cells #[.string (textOfData Rows.laid_strconv_ErrRange)] 98, .cells #[.string (textOfData Rows.laid_strconv_ErrSyntax)] 98], #[], []⟩
  { w0 with heap := layAt 1 #[.iface 96 (.pointer (some ⟨N, 0, none⟩))] (layAt 0 #[.iface 96 (.pointer (some ⟨N + 1, 0, none⟩))]
      (layAt 2 (cellsOfData Rows.laid_internal_strconv_uint64pow10) (layAt 3 (cellsOfData Rows.laid_math_bits_deBruijn32tab) (layAt 4 (cellsOfData Rows.laid_math_bits_deBruijn64tab) w0.heap)))) }
theorem laid_met (os : Os) : laidMet Tryd.prog Rows.chunkWritesRow.laid ((laidWorld os).forCall (fun _ _ => 0) ⟨#[], #[.slice none 0 0, .int .i64 0, .string ⟨#[]⟩], []⟩).memory :=
  laidMet_of_run' 10 (by kernel_rfl) (by kernel_rfl)
end Go.Proofs.YtgpmkiamfbbfmaaDoor
