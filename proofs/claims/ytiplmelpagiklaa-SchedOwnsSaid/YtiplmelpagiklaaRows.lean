/-
  No cell of these rows narrows 'for every input' (looked for: loops, veiled, ifaces, maps, wideKeys, modest, calm, conditions, laid).
  DERIVED. THE GIVEN ROWS OF THIS SEAT. 5 by the template 'for every input the law returns true; each argument reads behind the call as it read before'; 0 by the template 'total and deterministic' (their statements: YtiplmelpagiklaaTotals.lean).
  GIVEN WITH THE SEED: the statements are not yours to turn. If you find one false, say at which input.
  Laid BY PROGRAM, IN A SANDBOX (cutbox-rows.mjs): the forced cells as the released guide's own fill.sh prints them over the translation 70fa98735b71c0fa… (all of the seat's roots in one cut). By AI agents, Wed Nov 11 2026. No macro, syntax, notation, axiom, sorry.
-/
import Derived.Test.YtiplmelpagiklaaChecked
import GoSem.Claim
import GoSem.ClaimJoined
import GoSem.ClaimMapViews
import Derived.JoinedTies
import Derived.KernelRfl
namespace Go.Proofs.Ytiplmelpagiklaa
/- THE CELL 'sum', in the pinned program and in every row, IS THE sha256 OF THE DUMP (.gsa) THAT YtiplmelpagiklaaProg.lean LOADS. Nothing in Lean hashes anything: it is a label: what it is worth is what the hold of that sum in a sandbox is worth. -/
noncomputable def Try.pinned : Pinned := { name := "ytiplmelpagiklaa", sum := "70fa98735b71c0fa342403e55b0728c2e17f0ca49a2dbe155122a2f7fc980468", checked := Try.checked }
namespace Rows
def none {H : Type} : Left H := { results := [], args := [] }

/-- 'sallyportlaw05.SchedOwns': WHATEVER THE INPUT: true; the input reads as it did. -/
def schedOwnsSpec : ChangeSpec := { name := "schedOwns", fn := fun _ => fun
  | [d1, d2, d3, d4] => { results := [.lit (.bool true)], args := [d1, d2, d3, d4] }
  | _ => none }
def schedOwnsRow : OpenClaim := { program := "ytiplmelpagiklaa", sum := "70fa98735b71c0fa342403e55b0728c2e17f0ca49a2dbe155122a2f7fc980468", func := "sallyport/sallyportlaw05.SchedOwns", spec := "schedOwns", unfollowed := true, recurses := true, apart := false }
def SchedOwnsSaid : Prop := schedOwnsRow.holds Try.pinned (OpenSpec.ofChange schedOwnsSpec)

/-- ITS FALSE NEIGHBOUR: 'it returns false'. Refute it at one input. -/
def schedOwnsWrong : ChangeSpec := { name := "schedOwns", fn := fun _ => fun
  | [d1, d2, d3, d4] => { results := [.lit (.bool false)], args := [d1, d2, d3, d4] }
  | _ => none }
def SchedOwnsWrongFalsely : Prop := schedOwnsRow.holds Try.pinned (OpenSpec.ofChange schedOwnsWrong)

/-- 'sallyportlaw05.SchedBack': WHATEVER THE INPUT: true; the input reads as it did. -/
def schedBackSpec : ChangeSpec := { name := "schedBack", fn := fun _ => fun
  | [d1, d2, d3] => { results := [.lit (.bool true)], args := [d1, d2, d3] }
  | _ => none }
def schedBackRow : OpenClaim := { program := "ytiplmelpagiklaa", sum := "70fa98735b71c0fa342403e55b0728c2e17f0ca49a2dbe155122a2f7fc980468", func := "sallyport/sallyportlaw05.SchedBack", spec := "schedBack", unfollowed := true, recurses := true, apart := false }
def SchedBackSaid : Prop := schedBackRow.holds Try.pinned (OpenSpec.ofChange schedBackSpec)

/-- ITS FALSE NEIGHBOUR: 'it returns false'. Refute it at one input. -/
def schedBackWrong : ChangeSpec := { name := "schedBack", fn := fun _ => fun
  | [d1, d2, d3] => { results := [.lit (.bool false)], args := [d1, d2, d3] }
  | _ => none }
def SchedBackWrongFalsely : Prop := schedBackRow.holds Try.pinned (OpenSpec.ofChange schedBackWrong)

/-- 'sallyportlaw05.SchedRecurs': WHATEVER THE INPUT: true; the input reads as it did. -/
def schedRecursSpec : ChangeSpec := { name := "schedRecurs", fn := fun _ => fun
  | [d1, d2, d3] => { results := [.lit (.bool true)], args := [d1, d2, d3] }
  | _ => none }
def schedRecursRow : OpenClaim := { program := "ytiplmelpagiklaa", sum := "70fa98735b71c0fa342403e55b0728c2e17f0ca49a2dbe155122a2f7fc980468", func := "sallyport/sallyportlaw05.SchedRecurs", spec := "schedRecurs", unfollowed := true, recurses := true, apart := false }
def SchedRecursSaid : Prop := schedRecursRow.holds Try.pinned (OpenSpec.ofChange schedRecursSpec)

/-- ITS FALSE NEIGHBOUR: 'it returns false'. Refute it at one input. -/
def schedRecursWrong : ChangeSpec := { name := "schedRecurs", fn := fun _ => fun
  | [d1, d2, d3] => { results := [.lit (.bool false)], args := [d1, d2, d3] }
  | _ => none }
def SchedRecursWrongFalsely : Prop := schedRecursRow.holds Try.pinned (OpenSpec.ofChange schedRecursWrong)

/-- 'sallyportlaw05.SchedRuns': WHATEVER THE INPUT: true; the input reads as it did. -/
def schedRunsSpec : ChangeSpec := { name := "schedRuns", fn := fun _ => fun
  | [d1, d2] => { results := [.lit (.bool true)], args := [d1, d2] }
  | _ => none }
def schedRunsRow : OpenClaim := { program := "ytiplmelpagiklaa", sum := "70fa98735b71c0fa342403e55b0728c2e17f0ca49a2dbe155122a2f7fc980468", func := "sallyport/sallyportlaw05.SchedRuns", spec := "schedRuns", unfollowed := true, recurses := true, apart := false }
def SchedRunsSaid : Prop := schedRunsRow.holds Try.pinned (OpenSpec.ofChange schedRunsSpec)

/-- ITS FALSE NEIGHBOUR: 'it returns false'. Refute it at one input. -/
def schedRunsWrong : ChangeSpec := { name := "schedRuns", fn := fun _ => fun
  | [d1, d2] => { results := [.lit (.bool false)], args := [d1, d2] }
  | _ => none }
def SchedRunsWrongFalsely : Prop := schedRunsRow.holds Try.pinned (OpenSpec.ofChange schedRunsWrong)

/-- 'sallyportlaw05.SchedCuts': WHATEVER THE INPUT: true; the input reads as it did. -/
def schedCutsSpec : ChangeSpec := { name := "schedCuts", fn := fun _ => fun
  | [d1, d2] => { results := [.lit (.bool true)], args := [d1, d2] }
  | _ => none }
def schedCutsRow : OpenClaim := { program := "ytiplmelpagiklaa", sum := "70fa98735b71c0fa342403e55b0728c2e17f0ca49a2dbe155122a2f7fc980468", func := "sallyport/sallyportlaw05.SchedCuts", spec := "schedCuts", unfollowed := true, recurses := true, apart := false }
def SchedCutsSaid : Prop := schedCutsRow.holds Try.pinned (OpenSpec.ofChange schedCutsSpec)

/-- ITS FALSE NEIGHBOUR: 'it returns false'. Refute it at one input. -/
def schedCutsWrong : ChangeSpec := { name := "schedCuts", fn := fun _ => fun
  | [d1, d2] => { results := [.lit (.bool false)], args := [d1, d2] }
  | _ => none }
def SchedCutsWrongFalsely : Prop := schedCutsRow.holds Try.pinned (OpenSpec.ofChange schedCutsWrong)

/- THE SECOND FORM. 'bulk': how many values and letters a reading holds, each counted each time it is reached (what is shared counts as often as it is met; a slice's spare places count too). A statement '..UptoSaid' is the law's where the arguments, and the package variables that the reading takes, are together of bulk at most 1048576: NARROWER than '..Said'. Prove '..Said' where nothing that the law and all that it calls make is longer than what came in: it says more and counts as full. Else prove '..UptoSaid'. A law counts once. -/
mutual
def uptoBulk {H : Type} : DataW H → Nat
  | .lit (.string bytes) => bytes.length + 1
  | .lit _ => 1
  | .nil => 1
  | .ptr d => uptoBulk d + 1
  | .slice elems spare => uptoBulkAll elems + uptoBulkAll spare + 1
  | .agg parts => uptoBulkAll parts + 1
  | .iface _ d => uptoBulk d + 1
  | .map entries => uptoBulkEntries entries + 1
  | .held _ => 1
def uptoBulkAll {H : Type} : List (DataW H) → Nat
  | [] => 0
  | d :: r => uptoBulk d + uptoBulkAll r
def uptoBulkEntries {H : Type} : List (Lit × DataW H) → Nat
  | [] => 0
  | x :: r => uptoBulkEntry x + uptoBulkEntries r
def uptoBulkEntry {H : Type} : Lit × DataW H → Nat
  | (.string bytes, d) => bytes.length + uptoBulk d + 1
  | (_, d) => uptoBulk d + 1
 end
def uptoSmall : (H : Type) → List (DataW H) → Bool := fun _ ds => decide (uptoBulkAll ds ≤ 1048576)
def OpenSpec.upto (s : _root_.Go.ChangeSpec) : _root_.Go.OpenSpec := { _root_.Go.OpenSpec.ofChange s with cond := some uptoSmall }

/-- 'sallyportlaw05.SchedOwns', WHERE WHAT IT READS IS OF BULK AT MOST 1048576: true; the input reads as it did. -/
def schedOwnsUptoRow : OpenClaim := { program := "ytiplmelpagiklaa", sum := "70fa98735b71c0fa342403e55b0728c2e17f0ca49a2dbe155122a2f7fc980468", func := "sallyport/sallyportlaw05.SchedOwns", spec := "schedOwns", unfollowed := true, recurses := true, apart := false, narrowed := true }
def SchedOwnsUptoSaid : Prop := schedOwnsUptoRow.holds Try.pinned (OpenSpec.upto schedOwnsSpec)

/-- 'sallyportlaw05.SchedBack', WHERE WHAT IT READS IS OF BULK AT MOST 1048576: true; the input reads as it did. -/
def schedBackUptoRow : OpenClaim := { program := "ytiplmelpagiklaa", sum := "70fa98735b71c0fa342403e55b0728c2e17f0ca49a2dbe155122a2f7fc980468", func := "sallyport/sallyportlaw05.SchedBack", spec := "schedBack", unfollowed := true, recurses := true, apart := false, narrowed := true }
def SchedBackUptoSaid : Prop := schedBackUptoRow.holds Try.pinned (OpenSpec.upto schedBackSpec)

/-- 'sallyportlaw05.SchedRecurs', WHERE WHAT IT READS IS OF BULK AT MOST 1048576: true; the input reads as it did. -/
def schedRecursUptoRow : OpenClaim := { program := "ytiplmelpagiklaa", sum := "70fa98735b71c0fa342403e55b0728c2e17f0ca49a2dbe155122a2f7fc980468", func := "sallyport/sallyportlaw05.SchedRecurs", spec := "schedRecurs", unfollowed := true, recurses := true, apart := false, narrowed := true }
def SchedRecursUptoSaid : Prop := schedRecursUptoRow.holds Try.pinned (OpenSpec.upto schedRecursSpec)

/-- 'sallyportlaw05.SchedRuns', WHERE WHAT IT READS IS OF BULK AT MOST 1048576: true; the input reads as it did. -/
def schedRunsUptoRow : OpenClaim := { program := "ytiplmelpagiklaa", sum := "70fa98735b71c0fa342403e55b0728c2e17f0ca49a2dbe155122a2f7fc980468", func := "sallyport/sallyportlaw05.SchedRuns", spec := "schedRuns", unfollowed := true, recurses := true, apart := false, narrowed := true }
def SchedRunsUptoSaid : Prop := schedRunsUptoRow.holds Try.pinned (OpenSpec.upto schedRunsSpec)

/-- 'sallyportlaw05.SchedCuts', WHERE WHAT IT READS IS OF BULK AT MOST 1048576: true; the input reads as it did. -/
def schedCutsUptoRow : OpenClaim := { program := "ytiplmelpagiklaa", sum := "70fa98735b71c0fa342403e55b0728c2e17f0ca49a2dbe155122a2f7fc980468", func := "sallyport/sallyportlaw05.SchedCuts", spec := "schedCuts", unfollowed := true, recurses := true, apart := false, narrowed := true }
def SchedCutsUptoSaid : Prop := schedCutsUptoRow.holds Try.pinned (OpenSpec.upto schedCutsSpec)

end Rows
end Go.Proofs.Ytiplmelpagiklaa
