/-
  NARROWER THAN 'FOR EVERY INPUT', by the rows' own cells (each row's printed sentence says how): FiveComes: laid · FiveAgain: laid · FiveReads: laid · FiveWrites: laid · FiveBack: laid.
  DERIVED. THE GIVEN ROWS OF THIS SEAT. 5 by the template 'for every input the law returns true; each argument reads behind the call as it read before'; 0 by the template 'total and deterministic' (their statements: YtcndkpmeakaapaaDoorTotals.lean).
  GIVEN WITH THE SEED: the statements are not yours to turn. If you find one false, say at which input.
  Laid BY PROGRAM, IN A SANDBOX (cutbox-rows.mjs): the forced cells as the released guide's own fill.sh prints them over the translation 027359f24d7f5588… (all of the seat's roots in one cut). By AI agents, Wed Nov 11 2026. No macro, syntax, notation, axiom, sorry.
-/
import Derived.Test.YtcndkpmeakaapaaDoorChecked
import GoSem.PinnedTables
import GoSem.Claim
import GoSem.ClaimJoined
import GoSem.ClaimMapViews
import Derived.JoinedTies
import Derived.KernelRfl
namespace Go.Proofs.YtcndkpmeakaapaaDoor
/- THE CELL 'sum', in the pinned program and in every row, IS THE sha256 OF THE DUMP (.gsa) THAT YtcndkpmeakaapaaDoorProg.lean LOADS. Nothing in Lean hashes anything: it is a label: what it is worth is what the hold of that sum in a sandbox is worth. -/
noncomputable def Tryd.pinned : Pinned := { name := "ytcndkpmeakaapaadoor", sum := "027359f24d7f558813deebecae26c54a5e11a9ad33c236c0daf4025c81e53758", checked := Tryd.checked }
namespace Rows
def none {H : Type} : Left H := { results := [], args := [] }

/- WHAT THE LISTED PACKAGE-LEVEL VARIABLES READ AS WHEN THE CALL BEGINS. Each datum BY PROGRAM (the guide's laid-datum.mjs) off the statement by which the dump's own 'gosem.cut.vars' lays the variable. In a bare row this is a premise. The card (YtcndkpmeakaapaaDoorCards.lean) ties it to the program's text. -/
def laid_unicode_utf8_acceptRanges {H : Type} : DataW H := .agg [.agg [.lit (.int .u8 128), .lit (.int .u8 191)], .agg [.lit (.int .u8 160), .lit (.int .u8 191)], .agg [.lit (.int .u8 128), .lit (.int .u8 159)], .agg [.lit (.int .u8 144), .lit (.int .u8 191)], .agg [.lit (.int .u8 128), .lit (.int .u8 143)], .agg [.lit (.int .u8 0), .lit (.int .u8 0)], .agg [.lit (.int .u8 0), .lit (.int .u8 0)], .agg [.lit (.int .u8 0), .lit (.int .u8 0)], .agg [.lit (.int .u8 0), .lit (.int .u8 0)], .agg [.lit (.int .u8 0), .lit (.int .u8 0)], .agg [.lit (.int .u8 0), .lit (.int .u8 0)], .agg [.lit (.int .u8 0), .lit (.int .u8 0)], .agg [.lit (.int .u8 0), .lit (.int .u8 0)], .agg [.lit (.int .u8 0), .lit (.int .u8 0)], .agg [.lit (.int .u8 0), .lit (.int .u8 0)], .agg [.lit (.int .u8 0), .lit (.int .u8 0)]]
/-- One of Go's own tables, pinned by name: the form's constant. -/
def laid_unicode_CaseRanges : DataW Unit := Go.Pinned.caseRanges
/-- One of Go's own tables, pinned by name: the form's constant. -/
def laid_unicode_utf8_first : DataW Unit := Go.Pinned.utf8First

/-- 'sallyportlaw07.FiveComes': WHATEVER THE INPUT: true; the input reads as it did. -/
def fiveComesSpec : ChangeSpec := { name := "fiveComes", fn := fun _ => fun
  | [d1, d2, d3] => { results := [.lit (.bool true)], args := [d1, d2, d3] }
  | _ => none }
def fiveComesRow : OpenClaim := { program := "ytcndkpmeakaapaadoor", sum := "027359f24d7f558813deebecae26c54a5e11a9ad33c236c0daf4025c81e53758", func := "sallyport/sallyportlaw07.FiveComes", spec := "fiveComes", inPlace := ["internal/bytealg.CountString", "internal/bytealg.IndexByteString", "internal/bytealg.IndexString", "internal/abi.NoEscape", "internal/bytealg.MakeNoZero"], unfollowed := true, recurses := true, named := ["unicode/utf8.first", "unicode/utf8.acceptRanges", "internal/bytealg.MaxLen", "unicode.CaseRanges"], apart := false, laid := [("unicode/utf8.acceptRanges", laid_unicode_utf8_acceptRanges), ("unicode.CaseRanges", laid_unicode_CaseRanges), ("unicode/utf8.first", laid_unicode_utf8_first)] }
def FiveComesSaid : Prop := fiveComesRow.holds Tryd.pinned (OpenSpec.ofChange fiveComesSpec)

/-- ITS FALSE NEIGHBOUR: 'it returns false'. Refute it at one input. -/
def fiveComesWrong : ChangeSpec := { name := "fiveComes", fn := fun _ => fun
  | [d1, d2, d3] => { results := [.lit (.bool false)], args := [d1, d2, d3] }
  | _ => none }
def FiveComesWrongFalsely : Prop := fiveComesRow.holds Tryd.pinned (OpenSpec.ofChange fiveComesWrong)

/-- 'sallyportlaw07.FiveAgain': WHATEVER THE INPUT: true; the input reads as it did. -/
def fiveAgainSpec : ChangeSpec := { name := "fiveAgain", fn := fun _ => fun
  | [d] => { results := [.lit (.bool true)], args := [d] }
  | _ => none }
def fiveAgainRow : OpenClaim := { program := "ytcndkpmeakaapaadoor", sum := "027359f24d7f558813deebecae26c54a5e11a9ad33c236c0daf4025c81e53758", func := "sallyport/sallyportlaw07.FiveAgain", spec := "fiveAgain", inPlace := ["internal/bytealg.CountString", "internal/bytealg.IndexByteString", "internal/bytealg.IndexString", "internal/abi.NoEscape", "internal/bytealg.MakeNoZero"], unfollowed := true, recurses := true, named := ["unicode/utf8.first", "unicode/utf8.acceptRanges", "internal/bytealg.MaxLen", "unicode.CaseRanges"], apart := false, laid := [("unicode/utf8.acceptRanges", laid_unicode_utf8_acceptRanges), ("unicode.CaseRanges", laid_unicode_CaseRanges), ("unicode/utf8.first", laid_unicode_utf8_first)] }
def FiveAgainSaid : Prop := fiveAgainRow.holds Tryd.pinned (OpenSpec.ofChange fiveAgainSpec)

/-- ITS FALSE NEIGHBOUR: 'it returns false'. Refute it at one input. -/
def fiveAgainWrong : ChangeSpec := { name := "fiveAgain", fn := fun _ => fun
  | [d] => { results := [.lit (.bool false)], args := [d] }
  | _ => none }
def FiveAgainWrongFalsely : Prop := fiveAgainRow.holds Tryd.pinned (OpenSpec.ofChange fiveAgainWrong)

/-- 'sallyportlaw07.FiveReads': WHATEVER THE INPUT: true; the input reads as it did. -/
def fiveReadsSpec : ChangeSpec := { name := "fiveReads", fn := fun _ => fun
  | [d] => { results := [.lit (.bool true)], args := [d] }
  | _ => none }
def fiveReadsRow : OpenClaim := { program := "ytcndkpmeakaapaadoor", sum := "027359f24d7f558813deebecae26c54a5e11a9ad33c236c0daf4025c81e53758", func := "sallyport/sallyportlaw07.FiveReads", spec := "fiveReads", inPlace := ["internal/bytealg.CountString", "internal/bytealg.IndexByteString", "internal/bytealg.IndexString", "internal/abi.NoEscape", "internal/bytealg.MakeNoZero"], unfollowed := true, recurses := true, named := ["unicode/utf8.first", "unicode/utf8.acceptRanges", "internal/bytealg.MaxLen", "unicode.CaseRanges"], apart := false, laid := [("unicode/utf8.acceptRanges", laid_unicode_utf8_acceptRanges), ("unicode.CaseRanges", laid_unicode_CaseRanges), ("unicode/utf8.first", laid_unicode_utf8_first)] }
def FiveReadsSaid : Prop := fiveReadsRow.holds Tryd.pinned (OpenSpec.ofChange fiveReadsSpec)

/-- ITS FALSE NEIGHBOUR: 'it returns false'. Refute it at one input. -/
def fiveReadsWrong : ChangeSpec := { name := "fiveReads", fn := fun _ => fun
  | [d] => { results := [.lit (.bool false)], args := [d] }
  | _ => none }
def FiveReadsWrongFalsely : Prop := fiveReadsRow.holds Tryd.pinned (OpenSpec.ofChange fiveReadsWrong)

/-- 'sallyportlaw07.FiveWrites': WHATEVER THE INPUT: true; the input reads as it did. -/
def fiveWritesSpec : ChangeSpec := { name := "fiveWrites", fn := fun _ => fun
  | [d1, d2, d3, d4, d5] => { results := [.lit (.bool true)], args := [d1, d2, d3, d4, d5] }
  | _ => none }
def fiveWritesRow : OpenClaim := { program := "ytcndkpmeakaapaadoor", sum := "027359f24d7f558813deebecae26c54a5e11a9ad33c236c0daf4025c81e53758", func := "sallyport/sallyportlaw07.FiveWrites", spec := "fiveWrites", inPlace := ["internal/reflectlite.TypeOf", "internal/bytealg.CountString", "internal/bytealg.IndexByteString", "internal/bytealg.IndexString", "internal/abi.NoEscape", "internal/bytealg.MakeNoZero"], unfollowed := true, recurses := true, named := ["unicode/utf8.first", "unicode/utf8.acceptRanges", "internal/bytealg.MaxLen", "unicode.CaseRanges"], apart := false, laid := [("unicode/utf8.acceptRanges", laid_unicode_utf8_acceptRanges), ("unicode.CaseRanges", laid_unicode_CaseRanges), ("unicode/utf8.first", laid_unicode_utf8_first)] }
def FiveWritesSaid : Prop := fiveWritesRow.holds Tryd.pinned (OpenSpec.ofChange fiveWritesSpec)

/-- ITS FALSE NEIGHBOUR: 'it returns false'. Refute it at one input. -/
def fiveWritesWrong : ChangeSpec := { name := "fiveWrites", fn := fun _ => fun
  | [d1, d2, d3, d4, d5] => { results := [.lit (.bool false)], args := [d1, d2, d3, d4, d5] }
  | _ => none }
def FiveWritesWrongFalsely : Prop := fiveWritesRow.holds Tryd.pinned (OpenSpec.ofChange fiveWritesWrong)

/-- 'sallyportlaw07.FiveBack': WHATEVER THE INPUT: true; the input reads as it did. -/
def fiveBackSpec : ChangeSpec := { name := "fiveBack", fn := fun _ => fun
  | [d1, d2, d3, d4, d5, d6] => { results := [.lit (.bool true)], args := [d1, d2, d3, d4, d5, d6] }
  | _ => none }
def fiveBackRow : OpenClaim := { program := "ytcndkpmeakaapaadoor", sum := "027359f24d7f558813deebecae26c54a5e11a9ad33c236c0daf4025c81e53758", func := "sallyport/sallyportlaw07.FiveBack", spec := "fiveBack", inPlace := ["internal/bytealg.CountString", "internal/bytealg.IndexByteString", "internal/bytealg.IndexString", "internal/abi.NoEscape", "internal/bytealg.MakeNoZero", "internal/reflectlite.TypeOf"], unfollowed := true, recurses := true, named := ["unicode/utf8.first", "unicode/utf8.acceptRanges", "internal/bytealg.MaxLen", "unicode.CaseRanges"], apart := false, laid := [("unicode/utf8.acceptRanges", laid_unicode_utf8_acceptRanges), ("unicode.CaseRanges", laid_unicode_CaseRanges), ("unicode/utf8.first", laid_unicode_utf8_first)] }
def FiveBackSaid : Prop := fiveBackRow.holds Tryd.pinned (OpenSpec.ofChange fiveBackSpec)

/-- ITS FALSE NEIGHBOUR: 'it returns false'. Refute it at one input. -/
def fiveBackWrong : ChangeSpec := { name := "fiveBack", fn := fun _ => fun
  | [d1, d2, d3, d4, d5, d6] => { results := [.lit (.bool false)], args := [d1, d2, d3, d4, d5, d6] }
  | _ => none }
def FiveBackWrongFalsely : Prop := fiveBackRow.holds Tryd.pinned (OpenSpec.ofChange fiveBackWrong)

/- THE SECOND FORM. 'bulk': how many values and letters a reading holds, each counted each time it is reached (what is shared counts as often as it is met; a slice's spare places count too). A statement '..UptoSaid' is the law's where the arguments, and the package variables that the reading takes, are together of bulk at most 1048576: NARROWER than '..Said'. Prove '..Said' where nothing that the law and all that it calls make is longer than what came in: it says more and counts as full. Else prove '..UptoSaid'. A law counts once. -/
mutual
def uptoBulk {H : Type} : DataW H → Nat
  | .lit (.string bytes) => bytes.length + 1
  | .lit _ => 1
  | .nil => 1
  | .ptr d => uptoBulk d + 1
  | .slice elems spare => uptoBulkAll elems + uptoBulkAll spare + 1
  | .agg parts => uptoBulkAll parts + 1
  | .iface _ d => uptoBulk d + 1
  | .map entries => uptoBulkEntries entries + 1
  | .held _ => 1
def uptoBulkAll {H : Type} : List (DataW H) → Nat
  | [] => 0
  | d :: r => uptoBulk d + uptoBulkAll r
def uptoBulkEntries {H : Type} : List (Lit × DataW H) → Nat
  | [] => 0
  | x :: r => uptoBulkEntry x + uptoBulkEntries r
def uptoBulkEntry {H : Type} : Lit × DataW H → Nat
  | (.string bytes, d) => bytes.length + uptoBulk d + 1
  | (_, d) => uptoBulk d + 1
 end
def uptoSmall : (H : Type) → List (DataW H) → Bool := fun _ ds => decide (uptoBulkAll ds ≤ 1048576)
def OpenSpec.upto (s : _root_.Go.ChangeSpec) : _root_.Go.OpenSpec := { _root_.Go.OpenSpec.ofChange s with cond := some uptoSmall }

/-- 'sallyportlaw07.FiveComes', WHERE WHAT IT READS IS OF BULK AT MOST 1048576: true; the input reads as it did. -/
def fiveComesUptoRow : OpenClaim := { program := "ytcndkpmeakaapaadoor", sum := "027359f24d7f558813deebecae26c54a5e11a9ad33c236c0daf4025c81e53758", func := "sallyport/sallyportlaw07.FiveComes", spec := "fiveComes", inPlace := ["internal/bytealg.CountString", "internal/bytealg.IndexByteString", "internal/bytealg.IndexString", "internal/abi.NoEscape", "internal/bytealg.MakeNoZero"], unfollowed := true, recurses := true, named := ["unicode/utf8.first", "unicode/utf8.acceptRanges", "internal/bytealg.MaxLen", "unicode.CaseRanges"], apart := false, laid := [("unicode/utf8.acceptRanges", laid_unicode_utf8_acceptRanges), ("unicode.CaseRanges", laid_unicode_CaseRanges), ("unicode/utf8.first", laid_unicode_utf8_first)], narrowed := true }
def FiveComesUptoSaid : Prop := fiveComesUptoRow.holds Tryd.pinned (OpenSpec.upto fiveComesSpec)

/-- 'sallyportlaw07.FiveAgain', WHERE WHAT IT READS IS OF BULK AT MOST 1048576: true; the input reads as it did. -/
def fiveAgainUptoRow : OpenClaim := { program := "ytcndkpmeakaapaadoor", sum := "027359f24d7f558813deebecae26c54a5e11a9ad33c236c0daf4025c81e53758", func := "sallyport/sallyportlaw07.FiveAgain", spec := "fiveAgain", inPlace := ["internal/bytealg.CountString", "internal/bytealg.IndexByteString", "internal/bytealg.IndexString", "internal/abi.NoEscape", "internal/bytealg.MakeNoZero"], unfollowed := true, recurses := true, named := ["unicode/utf8.first", "unicode/utf8.acceptRanges", "internal/bytealg.MaxLen", "unicode.CaseRanges"], apart := false, laid := [("unicode/utf8.acceptRanges", laid_unicode_utf8_acceptRanges), ("unicode.CaseRanges", laid_unicode_CaseRanges), ("unicode/utf8.first", laid_unicode_utf8_first)], narrowed := true }
def FiveAgainUptoSaid : Prop := fiveAgainUptoRow.holds Tryd.pinned (OpenSpec.upto fiveAgainSpec)

/-- 'sallyportlaw07.FiveReads', WHERE WHAT IT READS IS OF BULK AT MOST 1048576: true; the input reads as it did. -/
def fiveReadsUptoRow : OpenClaim := { program := "ytcndkpmeakaapaadoor", sum := "027359f24d7f558813deebecae26c54a5e11a9ad33c236c0daf4025c81e53758", func := "sallyport/sallyportlaw07.FiveReads", spec := "fiveReads", inPlace := ["internal/bytealg.CountString", "internal/bytealg.IndexByteString", "internal/bytealg.IndexString", "internal/abi.NoEscape", "internal/bytealg.MakeNoZero"], unfollowed := true, recurses := true, named := ["unicode/utf8.first", "unicode/utf8.acceptRanges", "internal/bytealg.MaxLen", "unicode.CaseRanges"], apart := false, laid := [("unicode/utf8.acceptRanges", laid_unicode_utf8_acceptRanges), ("unicode.CaseRanges", laid_unicode_CaseRanges), ("unicode/utf8.first", laid_unicode_utf8_first)], narrowed := true }
def FiveReadsUptoSaid : Prop := fiveReadsUptoRow.holds Tryd.pinned (OpenSpec.upto fiveReadsSpec)

/-- 'sallyportlaw07.FiveWrites', WHERE WHAT IT READS IS OF BULK AT MOST 1048576: true; the input reads as it did. -/
def fiveWritesUptoRow : OpenClaim := { program := "ytcndkpmeakaapaadoor", sum := "027359f24d7f558813deebecae26c54a5e11a9ad33c236c0daf4025c81e53758", func := "sallyport/sallyportlaw07.FiveWrites", spec := "fiveWrites", inPlace := ["internal/reflectlite.TypeOf", "internal/bytealg.CountString", "internal/bytealg.IndexByteString", "internal/bytealg.IndexString", "internal/abi.NoEscape", "internal/bytealg.MakeNoZero"], unfollowed := true, recurses := true, named := ["unicode/utf8.first", "unicode/utf8.acceptRanges", "internal/bytealg.MaxLen", "unicode.CaseRanges"], apart := false, laid := [("unicode/utf8.acceptRanges", laid_unicode_utf8_acceptRanges), ("unicode.CaseRanges", laid_unicode_CaseRanges), ("unicode/utf8.first", laid_unicode_utf8_first)], narrowed := true }
def FiveWritesUptoSaid : Prop := fiveWritesUptoRow.holds Tryd.pinned (OpenSpec.upto fiveWritesSpec)

/-- 'sallyportlaw07.FiveBack', WHERE WHAT IT READS IS OF BULK AT MOST 1048576: true; the input reads as it did. -/
def fiveBackUptoRow : OpenClaim := { program := "ytcndkpmeakaapaadoor", sum := "027359f24d7f558813deebecae26c54a5e11a9ad33c236c0daf4025c81e53758", func := "sallyport/sallyportlaw07.FiveBack", spec := "fiveBack", inPlace := ["internal/bytealg.CountString", "internal/bytealg.IndexByteString", "internal/bytealg.IndexString", "internal/abi.NoEscape", "internal/bytealg.MakeNoZero", "internal/reflectlite.TypeOf"], unfollowed := true, recurses := true, named := ["unicode/utf8.first", "unicode/utf8.acceptRanges", "internal/bytealg.MaxLen", "unicode.CaseRanges"], apart := false, laid := [("unicode/utf8.acceptRanges", laid_unicode_utf8_acceptRanges), ("unicode.CaseRanges", laid_unicode_CaseRanges), ("unicode/utf8.first", laid_unicode_utf8_first)], narrowed := true }
def FiveBackUptoSaid : Prop := fiveBackUptoRow.holds Tryd.pinned (OpenSpec.upto fiveBackSpec)

end Rows
end Go.Proofs.YtcndkpmeakaapaaDoor
