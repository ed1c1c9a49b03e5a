/-
  No cell of these rows narrows 'for every input' (looked for: loops, veiled, ifaces, maps, wideKeys, modest, calm, conditions, laid).
  DERIVED. THE GIVEN ROWS OF THIS SEAT. 5 by the template 'for every input the law returns true; each argument reads behind the call as it read before'; 0 by the template 'total and deterministic' (their statements: YthofnhmehpdnbaaTotals.lean).
  GIVEN WITH THE SEED: the statements are not yours to turn. If you find one false, say at which input.
  Laid BY PROGRAM, IN A SANDBOX (cutbox-rows.mjs): the forced cells as the released guide's own fill.sh prints them over the translation 8568b5f1953d479c… (all of the seat's roots in one cut). By AI agents, Wed Nov 11 2026. No macro, syntax, notation, axiom, sorry.
-/
import Derived.Test.YthofnhmehpdnbaaChecked
import GoSem.Claim
import GoSem.ClaimJoined
import GoSem.ClaimMapViews
import Derived.JoinedTies
import Derived.KernelRfl
namespace Go.Proofs.Ythofnhmehpdnbaa
/- THE CELL 'sum', in the pinned program and in every row, IS THE sha256 OF THE DUMP (.gsa) THAT YthofnhmehpdnbaaProg.lean LOADS. Nothing in Lean hashes anything: it is a label: what it is worth is what the hold of that sum in a sandbox is worth. -/
noncomputable def Try.pinned : Pinned := { name := "ythofnhmehpdnbaa", sum := "8568b5f1953d479c1bedb359bb8c1fb94358f5c85cd84d5591647130ec525a24", checked := Try.checked }
namespace Rows
def none {H : Type} : Left H := { results := [], args := [] }

/-- 'sallyportlaw11.NamesFresh': WHATEVER THE INPUT: true; the input reads as it did. -/
def namesFreshSpec : ChangeSpec := { name := "namesFresh", fn := fun _ => fun
  | [d1, d2, d3, d4] => { results := [.lit (.bool true)], args := [d1, d2, d3, d4] }
  | _ => none }
def namesFreshRow : OpenClaim := { program := "ythofnhmehpdnbaa", sum := "8568b5f1953d479c1bedb359bb8c1fb94358f5c85cd84d5591647130ec525a24", func := "sallyport/sallyportlaw11.NamesFresh", spec := "namesFresh", unfollowed := true, recurses := true, apart := false }
def NamesFreshSaid : Prop := namesFreshRow.holds Try.pinned (OpenSpec.ofChange namesFreshSpec)

/-- ITS FALSE NEIGHBOUR: 'it returns false'. Refute it at one input. -/
def namesFreshWrong : ChangeSpec := { name := "namesFresh", fn := fun _ => fun
  | [d1, d2, d3, d4] => { results := [.lit (.bool false)], args := [d1, d2, d3, d4] }
  | _ => none }
def NamesFreshWrongFalsely : Prop := namesFreshRow.holds Try.pinned (OpenSpec.ofChange namesFreshWrong)

/-- 'sallyportlaw11.NamesKeeps': WHATEVER THE INPUT: true; the input reads as it did. -/
def namesKeepsSpec : ChangeSpec := { name := "namesKeeps", fn := fun _ => fun
  | [d1, d2, d3, d4] => { results := [.lit (.bool true)], args := [d1, d2, d3, d4] }
  | _ => none }
def namesKeepsRow : OpenClaim := { program := "ythofnhmehpdnbaa", sum := "8568b5f1953d479c1bedb359bb8c1fb94358f5c85cd84d5591647130ec525a24", func := "sallyport/sallyportlaw11.NamesKeeps", spec := "namesKeeps", unfollowed := true, recurses := true, apart := false }
def NamesKeepsSaid : Prop := namesKeepsRow.holds Try.pinned (OpenSpec.ofChange namesKeepsSpec)

/-- ITS FALSE NEIGHBOUR: 'it returns false'. Refute it at one input. -/
def namesKeepsWrong : ChangeSpec := { name := "namesKeeps", fn := fun _ => fun
  | [d1, d2, d3, d4] => { results := [.lit (.bool false)], args := [d1, d2, d3, d4] }
  | _ => none }
def NamesKeepsWrongFalsely : Prop := namesKeepsRow.holds Try.pinned (OpenSpec.ofChange namesKeepsWrong)

/-- 'sallyportlaw11.NamesOnce': WHATEVER THE INPUT: true; the input reads as it did. -/
def namesOnceSpec : ChangeSpec := { name := "namesOnce", fn := fun _ => fun
  | [d1, d2, d3] => { results := [.lit (.bool true)], args := [d1, d2, d3] }
  | _ => none }
def namesOnceRow : OpenClaim := { program := "ythofnhmehpdnbaa", sum := "8568b5f1953d479c1bedb359bb8c1fb94358f5c85cd84d5591647130ec525a24", func := "sallyport/sallyportlaw11.NamesOnce", spec := "namesOnce", unfollowed := true, recurses := true, apart := false }
def NamesOnceSaid : Prop := namesOnceRow.holds Try.pinned (OpenSpec.ofChange namesOnceSpec)

/-- ITS FALSE NEIGHBOUR: 'it returns false'. Refute it at one input. -/
def namesOnceWrong : ChangeSpec := { name := "namesOnce", fn := fun _ => fun
  | [d1, d2, d3] => { results := [.lit (.bool false)], args := [d1, d2, d3] }
  | _ => none }
def NamesOnceWrongFalsely : Prop := namesOnceRow.holds Try.pinned (OpenSpec.ofChange namesOnceWrong)

/-- 'sallyportlaw11.NamesPlays': WHATEVER THE INPUT: true; the input reads as it did. -/
def namesPlaysSpec : ChangeSpec := { name := "namesPlays", fn := fun _ => fun
  | [d1, d2] => { results := [.lit (.bool true)], args := [d1, d2] }
  | _ => none }
def namesPlaysRow : OpenClaim := { program := "ythofnhmehpdnbaa", sum := "8568b5f1953d479c1bedb359bb8c1fb94358f5c85cd84d5591647130ec525a24", func := "sallyport/sallyportlaw11.NamesPlays", spec := "namesPlays", unfollowed := true, recurses := true, apart := false }
def NamesPlaysSaid : Prop := namesPlaysRow.holds Try.pinned (OpenSpec.ofChange namesPlaysSpec)

/-- ITS FALSE NEIGHBOUR: 'it returns false'. Refute it at one input. -/
def namesPlaysWrong : ChangeSpec := { name := "namesPlays", fn := fun _ => fun
  | [d1, d2] => { results := [.lit (.bool false)], args := [d1, d2] }
  | _ => none }
def NamesPlaysWrongFalsely : Prop := namesPlaysRow.holds Try.pinned (OpenSpec.ofChange namesPlaysWrong)

/-- 'sallyportlaw11.NamesNone': WHATEVER THE INPUT: true; the input reads as it did. -/
def namesNoneSpec : ChangeSpec := { name := "namesNone", fn := fun _ => fun
  | [d1, d2] => { results := [.lit (.bool true)], args := [d1, d2] }
  | _ => none }
def namesNoneRow : OpenClaim := { program := "ythofnhmehpdnbaa", sum := "8568b5f1953d479c1bedb359bb8c1fb94358f5c85cd84d5591647130ec525a24", func := "sallyport/sallyportlaw11.NamesNone", spec := "namesNone", unfollowed := true, recurses := true, apart := false }
def NamesNoneSaid : Prop := namesNoneRow.holds Try.pinned (OpenSpec.ofChange namesNoneSpec)

/-- ITS FALSE NEIGHBOUR: 'it returns false'. Refute it at one input. -/
def namesNoneWrong : ChangeSpec := { name := "namesNone", fn := fun _ => fun
  | [d1, d2] => { results := [.lit (.bool false)], args := [d1, d2] }
  | _ => none }
def NamesNoneWrongFalsely : Prop := namesNoneRow.holds Try.pinned (OpenSpec.ofChange namesNoneWrong)

/- THE SECOND FORM. 'bulk': how many values and letters a reading holds, each counted each time it is reached (what is shared counts as often as it is met; a slice's spare places count too). A statement '..UptoSaid' is the law's where the arguments, and the package variables that the reading takes, are together of bulk at most 1048576: NARROWER than '..Said'. Prove '..Said' where nothing that the law and all that it calls make is longer than what came in: it says more and counts as full. Else prove '..UptoSaid'. A law counts once. -/
mutual
def uptoBulk {H : Type} : DataW H → Nat
  | .lit (.string bytes) => bytes.length + 1
  | .lit _ => 1
  | .nil => 1
  | .ptr d => uptoBulk d + 1
  | .slice elems spare => uptoBulkAll elems + uptoBulkAll spare + 1
  | .agg parts => uptoBulkAll parts + 1
  | .iface _ d => uptoBulk d + 1
  | .map entries => uptoBulkEntries entries + 1
  | .held _ => 1
def uptoBulkAll {H : Type} : List (DataW H) → Nat
  | [] => 0
  | d :: r => uptoBulk d + uptoBulkAll r
def uptoBulkEntries {H : Type} : List (Lit × DataW H) → Nat
  | [] => 0
  | x :: r => uptoBulkEntry x + uptoBulkEntries r
def uptoBulkEntry {H : Type} : Lit × DataW H → Nat
  | (.string bytes, d) => bytes.length + uptoBulk d + 1
  | (_, d) => uptoBulk d + 1
 end
def uptoSmall : (H : Type) → List (DataW H) → Bool := fun _ ds => decide (uptoBulkAll ds ≤ 1048576)
def OpenSpec.upto (s : _root_.Go.ChangeSpec) : _root_.Go.OpenSpec := { _root_.Go.OpenSpec.ofChange s with cond := some uptoSmall }

/-- 'sallyportlaw11.NamesFresh', WHERE WHAT IT READS IS OF BULK AT MOST 1048576: true; the input reads as it did. -/
def namesFreshUptoRow : OpenClaim := { program := "ythofnhmehpdnbaa", sum := "8568b5f1953d479c1bedb359bb8c1fb94358f5c85cd84d5591647130ec525a24", func := "sallyport/sallyportlaw11.NamesFresh", spec := "namesFresh", unfollowed := true, recurses := true, apart := false, narrowed := true }
def NamesFreshUptoSaid : Prop := namesFreshUptoRow.holds Try.pinned (OpenSpec.upto namesFreshSpec)

/-- 'sallyportlaw11.NamesKeeps', WHERE WHAT IT READS IS OF BULK AT MOST 1048576: true; the input reads as it did. -/
def namesKeepsUptoRow : OpenClaim := { program := "ythofnhmehpdnbaa", sum := "8568b5f1953d479c1bedb359bb8c1fb94358f5c85cd84d5591647130ec525a24", func := "sallyport/sallyportlaw11.NamesKeeps", spec := "namesKeeps", unfollowed := true, recurses := true, apart := false, narrowed := true }
def NamesKeepsUptoSaid : Prop := namesKeepsUptoRow.holds Try.pinned (OpenSpec.upto namesKeepsSpec)

/-- 'sallyportlaw11.NamesOnce', WHERE WHAT IT READS IS OF BULK AT MOST 1048576: true; the input reads as it did. -/
def namesOnceUptoRow : OpenClaim := { program := "ythofnhmehpdnbaa", sum := "8568b5f1953d479c1bedb359bb8c1fb94358f5c85cd84d5591647130ec525a24", func := "sallyport/sallyportlaw11.NamesOnce", spec := "namesOnce", unfollowed := true, recurses := true, apart := false, narrowed := true }
def NamesOnceUptoSaid : Prop := namesOnceUptoRow.holds Try.pinned (OpenSpec.upto namesOnceSpec)

/-- 'sallyportlaw11.NamesPlays', WHERE WHAT IT READS IS OF BULK AT MOST 1048576: true; the input reads as it did. -/
def namesPlaysUptoRow : OpenClaim := { program := "ythofnhmehpdnbaa", sum := "8568b5f1953d479c1bedb359bb8c1fb94358f5c85cd84d5591647130ec525a24", func := "sallyport/sallyportlaw11.NamesPlays", spec := "namesPlays", unfollowed := true, recurses := true, apart := false, narrowed := true }
def NamesPlaysUptoSaid : Prop := namesPlaysUptoRow.holds Try.pinned (OpenSpec.upto namesPlaysSpec)

/-- 'sallyportlaw11.NamesNone', WHERE WHAT IT READS IS OF BULK AT MOST 1048576: true; the input reads as it did. -/
def namesNoneUptoRow : OpenClaim := { program := "ythofnhmehpdnbaa", sum := "8568b5f1953d479c1bedb359bb8c1fb94358f5c85cd84d5591647130ec525a24", func := "sallyport/sallyportlaw11.NamesNone", spec := "namesNone", unfollowed := true, recurses := true, apart := false, narrowed := true }
def NamesNoneUptoSaid : Prop := namesNoneUptoRow.holds Try.pinned (OpenSpec.upto namesNoneSpec)

end Rows
end Go.Proofs.Ythofnhmehpdnbaa
