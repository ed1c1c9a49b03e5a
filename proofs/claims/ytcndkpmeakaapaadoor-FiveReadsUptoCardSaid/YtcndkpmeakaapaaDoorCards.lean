/-
  DERIVED. GIVEN WITH THE SEED: THE CARDS: each row of YtcndkpmeakaapaaDoorRows.lean that lists a variable, with what it lists TIED to the program's text (the seventh form; the later family's looks); each row that meets fmt, with fmt's text TOLD by the authors' own Lean function (tested against real Go, not proved from fmt's source: count such statements apart). THE CARD IS WHAT COUNTS. Prove the row's statement (the work); the ties are given (YtcndkpmeakaapaaDoorTie.lean); close each card by the builder's one call (the guide's Derived/Test/ToyasCard.lean, 'card_holds'). Laid BY PROGRAM, IN A SANDBOX (cutbox-door.mjs). By AI agents, Wed Nov 11 2026. No macro, syntax, notation, axiom, sorry.
-/
import Derived.Test.YtcndkpmeakaapaaDoorRows
import GoSem.ClaimSeven
namespace Go.Proofs.YtcndkpmeakaapaaDoor
namespace Rows

/-- THE TIED CARD OF 'sallyportlaw07.FiveComes'. -/
def fiveComesCard : Claim7 := { stood := { row := fiveComesRow, standIns := [], harness := (true, "e199e7e1d0e20abf4c675f0fd0d079ae64fcc9b5fcbb643fea616af8fd49289d"), looks := true }, kinds := [], alts := [], laidByText := true, laidKinds := [.data, .pinned, .pinned], laidTests := true, laidLooks := .later }
def FiveComesCardSaid : Prop := Claim7.holds Tryd.pinned (.plain (OpenSpec.ofChange fiveComesSpec)) fiveComesCard

/-- THE TIED CARD OF 'sallyportlaw07.FiveAgain'. -/
def fiveAgainCard : Claim7 := { stood := { row := fiveAgainRow, standIns := [], harness := (true, "e199e7e1d0e20abf4c675f0fd0d079ae64fcc9b5fcbb643fea616af8fd49289d"), looks := true }, kinds := [], alts := [], laidByText := true, laidKinds := [.data, .pinned, .pinned], laidTests := true, laidLooks := .later }
def FiveAgainCardSaid : Prop := Claim7.holds Tryd.pinned (.plain (OpenSpec.ofChange fiveAgainSpec)) fiveAgainCard

/-- THE TIED CARD OF 'sallyportlaw07.FiveReads'. -/
def fiveReadsCard : Claim7 := { stood := { row := fiveReadsRow, standIns := [], harness := (true, "e199e7e1d0e20abf4c675f0fd0d079ae64fcc9b5fcbb643fea616af8fd49289d"), looks := true }, kinds := [], alts := [], laidByText := true, laidKinds := [.data, .pinned, .pinned], laidTests := true, laidLooks := .later }
def FiveReadsCardSaid : Prop := Claim7.holds Tryd.pinned (.plain (OpenSpec.ofChange fiveReadsSpec)) fiveReadsCard

/-- THE TIED CARD OF 'sallyportlaw07.FiveWrites'. -/
def fiveWritesCard : Claim7 := { stood := { row := fiveWritesRow, standIns := [], harness := (true, "e199e7e1d0e20abf4c675f0fd0d079ae64fcc9b5fcbb643fea616af8fd49289d"), looks := true }, kinds := [], alts := [], laidByText := true, laidKinds := [.data, .pinned, .pinned], laidTests := true, laidLooks := .later }
def FiveWritesCardSaid : Prop := Claim7.holds Tryd.pinned (.plain (OpenSpec.ofChange fiveWritesSpec)) fiveWritesCard

/-- THE TIED CARD OF 'sallyportlaw07.FiveBack'. -/
def fiveBackCard : Claim7 := { stood := { row := fiveBackRow, standIns := [], harness := (true, "e199e7e1d0e20abf4c675f0fd0d079ae64fcc9b5fcbb643fea616af8fd49289d"), looks := true }, kinds := [], alts := [], laidByText := true, laidKinds := [.data, .pinned, .pinned], laidTests := true, laidLooks := .later }
def FiveBackCardSaid : Prop := Claim7.holds Tryd.pinned (.plain (OpenSpec.ofChange fiveBackSpec)) fiveBackCard

/-- THE SECOND FORM's CARD OF 'sallyportlaw07.FiveComes'. -/
def fiveComesUptoCard : Claim7 := { stood := { row := fiveComesUptoRow, standIns := [], harness := (true, "e199e7e1d0e20abf4c675f0fd0d079ae64fcc9b5fcbb643fea616af8fd49289d"), looks := true }, kinds := [], alts := [], laidByText := true, laidKinds := [.data, .pinned, .pinned], laidTests := true, laidLooks := .later }
def FiveComesUptoCardSaid : Prop := Claim7.holds Tryd.pinned (.plain (OpenSpec.upto fiveComesSpec)) fiveComesUptoCard

/-- THE SECOND FORM's CARD OF 'sallyportlaw07.FiveAgain'. -/
def fiveAgainUptoCard : Claim7 := { stood := { row := fiveAgainUptoRow, standIns := [], harness := (true, "e199e7e1d0e20abf4c675f0fd0d079ae64fcc9b5fcbb643fea616af8fd49289d"), looks := true }, kinds := [], alts := [], laidByText := true, laidKinds := [.data, .pinned, .pinned], laidTests := true, laidLooks := .later }
def FiveAgainUptoCardSaid : Prop := Claim7.holds Tryd.pinned (.plain (OpenSpec.upto fiveAgainSpec)) fiveAgainUptoCard

/-- THE SECOND FORM's CARD OF 'sallyportlaw07.FiveReads'. -/
def fiveReadsUptoCard : Claim7 := { stood := { row := fiveReadsUptoRow, standIns := [], harness := (true, "e199e7e1d0e20abf4c675f0fd0d079ae64fcc9b5fcbb643fea616af8fd49289d"), looks := true }, kinds := [], alts := [], laidByText := true, laidKinds := [.data, .pinned, .pinned], laidTests := true, laidLooks := .later }
def FiveReadsUptoCardSaid : Prop := Claim7.holds Tryd.pinned (.plain (OpenSpec.upto fiveReadsSpec)) fiveReadsUptoCard

/-- THE SECOND FORM's CARD OF 'sallyportlaw07.FiveWrites'. -/
def fiveWritesUptoCard : Claim7 := { stood := { row := fiveWritesUptoRow, standIns := [], harness := (true, "e199e7e1d0e20abf4c675f0fd0d079ae64fcc9b5fcbb643fea616af8fd49289d"), looks := true }, kinds := [], alts := [], laidByText := true, laidKinds := [.data, .pinned, .pinned], laidTests := true, laidLooks := .later }
def FiveWritesUptoCardSaid : Prop := Claim7.holds Tryd.pinned (.plain (OpenSpec.upto fiveWritesSpec)) fiveWritesUptoCard

/-- THE SECOND FORM's CARD OF 'sallyportlaw07.FiveBack'. -/
def fiveBackUptoCard : Claim7 := { stood := { row := fiveBackUptoRow, standIns := [], harness := (true, "e199e7e1d0e20abf4c675f0fd0d079ae64fcc9b5fcbb643fea616af8fd49289d"), looks := true }, kinds := [], alts := [], laidByText := true, laidKinds := [.data, .pinned, .pinned], laidTests := true, laidLooks := .later }
def FiveBackUptoCardSaid : Prop := Claim7.holds Tryd.pinned (.plain (OpenSpec.upto fiveBackSpec)) fiveBackUptoCard
end Rows
end Go.Proofs.YtcndkpmeakaapaaDoor
