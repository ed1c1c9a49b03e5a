/- The library's tables: a world for the witness; what a walk wants of the library's variables. -/
import Derived.Test.YtcndkpmeakaapaaDoorFvK
import Derived.Test.YtcndkpmeakaapaaDoorTie
import Derived.Test.YtcndkpmeakaapaaDoorCards
import Derived.WalkKit
import Derived.ProofKit
import Derived.OpenShut
import Derived.Deep.DeepHandedRow
import Derived.Deep.DeepWitnessRowRef
import Derived.Lib.LaidCaseMet
import Derived.PinnedBridge
import Derived.Shelf.Vars
namespace Go.Proofs.YtcndkpmeakaapaaDoor
open Go.ChangeShapes Go.WideShapes Go.ChangeAt Go.RowKit
theorem LaidVars_perm {P : Program} {w : World} {l l' : List (String × DataW Unit)} (h : l.Perm l') : ∀ {ps : List MemPlace}, DataW.LaidVars P w l ps → ∃ ps', ps.Perm ps' ∧ DataW.LaidVars P w l' ps' := by
  induction h with
  | nil => intro ps h; exact ⟨ps, List.Perm.refl _, h⟩
  | cons x _ ih =>
    intro ps h
    obtain ⟨n, d⟩ := x
    obtain ⟨g, t, cs, fuel, p, q, h1, h2, h3, h4, h5, rfl⟩ := h
    obtain ⟨q', hq, h6⟩ := ih h5
    exact ⟨_, List.Perm.append_left _ hq, g, t, cs, fuel, p, q', h1, h2, h3, h4, h6, rfl⟩
  | swap x y l =>
    intro ps h
    obtain ⟨n, d⟩ := x
    obtain ⟨n2, d2⟩ := y
    obtain ⟨g, t, cs, fuel, p, q, h1, h2, h3, h4, ⟨g', t', cs', fuel', p', q', k1, k2, k3, k4, k5, rfl⟩, rfl⟩ := h
    refine ⟨_, ?_, g', t', cs', fuel', p', _, k1, k2, k3, k4, ⟨g, t, cs, fuel, p, q', h1, h2, h3, h4, k5, rfl⟩, rfl⟩
    simp only [← List.append_assoc]
    refine List.Perm.append_right _ ?_
    simp only [List.append_assoc]
    have e := List.perm_append_comm (l₁ := MemPlace.row ⟨g, 0, none⟩ cs.size ++ p) (l₂ := MemPlace.row ⟨g', 0, none⟩ cs'.size ++ p')
    simpa only [List.append_assoc] using e
  | trans _ _ ih1 ih2 =>
    intro ps h
    obtain ⟨p1, e1, h1⟩ := ih1 h
    obtain ⟨p2, e2, h2⟩ := ih2 h1
    exact ⟨p2, e1.trans e2, h2⟩
theorem laidMet_perm {P : Program} {w : World} {l l' : List (String × DataW Unit)} (h : laidMet P l w) (hp : l.Perm l') : laidMet P l' w := by
  obtain ⟨ps, h1, h2, h3⟩ := h
  obtain ⟨ps', e, h4⟩ := LaidVars_perm hp h1
  exact ⟨ps', h4, e.nodup_iff.1 h2, fun b off hb => h3 b off (e.mem_iff.2 hb)⟩
/-- internal/bytealg.MaxLen holds some number. -/
theorem max_of {W : World} (hS : W.ShapedOpen Tryd.prog) : ∃ m, Hp.cell (hpOf W) 1 0 = some (.int .i64 m) := by
  obtain ⟨⟨zero, t⟩, hz, ht⟩ := Option.map_eq_some_iff.1 (show (((begin Tryd.prog (fun _ _ => 0) default).world.heap[1]?).bind Obj.row?).map (fun x => (x.2, x.1.size)) = some (3, 1) by kernel_rfl)
  injection ht with h1 h2
  have h1' : t = 3 := h1
  have h2' : zero.size = 1 := h2
  subst h1'
  obtain ⟨m, hm⟩ := cell_of_shapedOpen_int (P := Tryd.prog) (k := .i64) hS (g := 1) (of_decide_eq_true (by kernel_rfl)) hz h2' (by kernel_rfl) (by kernel_rfl) Tryd.underlying3
  exact ⟨m, hpOf_of_cell hm⟩
def cellsOfData : DataW Unit → List Value
  | .agg l => l.flatMap fun
    | .lit (.int k z) => [Value.int k z]
    | .agg r => r.map fun | .lit (.int k z) => Value.int k z | _ => undef
    | _ => [undef]
  | _ => []
def layAt (g : Nat) (cs : Array Value) (h : Array Obj) : Array Obj := h.modify g fun
  | .cells _ t frozen => .cells cs t frozen
  | o => o
/-- A world for the witness: the settled one with the case table's rows, the variables holding what their initialisers lay. -/
noncomputable def laidWorld (os : Os) : World :=
  let N := (World.settled Tryd.prog os).heap.size
  let w0 := World.holding Tryd.prog os ⟨#[.cells Lib.caseCells5 (layLower_ren.t 208)], #[], []⟩
  { w0 with heap := layAt 0 #[.slice (some ⟨N, 0, none⟩) 336 336] (layAt 2 (cellsOfData Rows.laid_unicode_utf8_first).toArray (layAt 3 (cellsOfData Rows.laid_unicode_utf8_acceptRanges).toArray w0.heap)) }
theorem laid_met (os : Os) (args : Array Value) : laidMet Tryd.prog Rows.fiveComesRow.laid ((laidWorld os).forCall (fun _ _ => 0) ⟨#[], args, []⟩).memory := by
  have h := laidMet_with_case (P := Tryd.prog) (w := ((laidWorld os).forCall (fun _ _ => 0) ⟨#[], args, []⟩).memory) (ρ := layLower_ren) { layLower with } layLower.t206 ⟨by kernel_rfl, by kernel_rfl, by kernel_rfl, by kernel_rfl, by kernel_rfl, by kernel_rfl⟩
    (l := [("unicode/utf8.acceptRanges", Rows.laid_unicode_utf8_acceptRanges), ("unicode/utf8.first", Rows.laid_unicode_utf8_first)])
    10 (by kernel_rfl) (by kernel_rfl) (by kernel_rfl) ((World.settled Tryd.prog default).heap.size) (layLower_ren.t 208) (of_decide_eq_true (by kernel_rfl)) (by kernel_rfl) (by kernel_rfl) (by kernel_rfl)
  rw [← Pinned.caseRanges_eq] at h
  exact laidMet_perm h (List.Perm.cons _ (List.Perm.swap _ _ _))
end Go.Proofs.YtcndkpmeakaapaaDoor
