/-
  DERIVED. GIVEN WITH THE SEED: THE CARDS: each row of YtebdgohkhadgpaaDoorRows.lean that lists a variable, with what it lists TIED to the program's text (the seventh form; the later family's looks); each row that meets fmt, with fmt's text TOLD by the authors' own Lean function (tested against real Go, not proved from fmt's source: count such statements apart). THE CARD IS WHAT COUNTS. Prove the row's statement (the work); the ties are given (YtebdgohkhadgpaaDoorTie.lean); close each card by the builder's one call (the guide's Derived/Test/ToyasCard.lean, 'card_holds'). Laid BY PROGRAM, IN A SANDBOX (cutbox-door.mjs). By AI agents, Wed Nov 11 2026. No macro, syntax, notation, axiom, sorry.
-/
import Derived.Test.YtebdgohkhadgpaaDoorRows
import GoSem.ClaimSeven
namespace Go.Proofs.YtebdgohkhadgpaaDoor
namespace Rows

/-- THE TIED CARD OF 'sallyportlaw02.SlabApart'. -/
def slabApartCard : Claim7 := { stood := { row := slabApartRow, standIns := [], harness := (true, "8b05fb0b10cf0d72e3dde847a4ffdedb26355a3b77120ed4600ca0629b50791c"), looks := false }, kinds := [], alts := [], laidByText := true, laidKinds := [.data], laidTests := true, laidLooks := .later }
def SlabApartCardSaid : Prop := Claim7.holds Tryd.pinned (.plain (OpenSpec.ofChange slabApartSpec)) slabApartCard

/-- THE TIED CARD OF 'sallyportlaw02.SlabClean'. -/
def slabCleanCard : Claim7 := { stood := { row := slabCleanRow, standIns := [], harness := (true, "8b05fb0b10cf0d72e3dde847a4ffdedb26355a3b77120ed4600ca0629b50791c"), looks := false }, kinds := [], alts := [], laidByText := true, laidKinds := [.data], laidTests := true, laidLooks := .later }
def SlabCleanCardSaid : Prop := Claim7.holds Tryd.pinned (.plain (OpenSpec.ofChange slabCleanSpec)) slabCleanCard

/-- THE TIED CARD OF 'sallyportlaw02.SlabCounts'. -/
def slabCountsCard : Claim7 := { stood := { row := slabCountsRow, standIns := [], harness := (true, "8b05fb0b10cf0d72e3dde847a4ffdedb26355a3b77120ed4600ca0629b50791c"), looks := false }, kinds := [], alts := [], laidByText := true, laidKinds := [.data], laidTests := true, laidLooks := .later }
def SlabCountsCardSaid : Prop := Claim7.holds Tryd.pinned (.plain (OpenSpec.ofChange slabCountsSpec)) slabCountsCard

/-- THE TIED CARD OF 'sallyportlaw02.SlabPlays'. -/
def slabPlaysCard : Claim7 := { stood := { row := slabPlaysRow, standIns := [], harness := (true, "8b05fb0b10cf0d72e3dde847a4ffdedb26355a3b77120ed4600ca0629b50791c"), looks := false }, kinds := [], alts := [], laidByText := true, laidKinds := [.data], laidTests := true, laidLooks := .later }
def SlabPlaysCardSaid : Prop := Claim7.holds Tryd.pinned (.plain (OpenSpec.ofChange slabPlaysSpec)) slabPlaysCard

/-- THE TIED CARD OF 'sallyportlaw02.SlabNone'. -/
def slabNoneCard : Claim7 := { stood := { row := slabNoneRow, standIns := [], harness := (true, "8b05fb0b10cf0d72e3dde847a4ffdedb26355a3b77120ed4600ca0629b50791c"), looks := false }, kinds := [], alts := [], laidByText := true, laidKinds := [.data], laidTests := true, laidLooks := .later }
def SlabNoneCardSaid : Prop := Claim7.holds Tryd.pinned (.plain (OpenSpec.ofChange slabNoneSpec)) slabNoneCard

/-- THE SECOND FORM's CARD OF 'sallyportlaw02.SlabApart'. -/
def slabApartUptoCard : Claim7 := { stood := { row := slabApartUptoRow, standIns := [], harness := (true, "8b05fb0b10cf0d72e3dde847a4ffdedb26355a3b77120ed4600ca0629b50791c"), looks := false }, kinds := [], alts := [], laidByText := true, laidKinds := [.data], laidTests := true, laidLooks := .later }
def SlabApartUptoCardSaid : Prop := Claim7.holds Tryd.pinned (.plain (OpenSpec.upto slabApartSpec)) slabApartUptoCard

/-- THE SECOND FORM's CARD OF 'sallyportlaw02.SlabClean'. -/
def slabCleanUptoCard : Claim7 := { stood := { row := slabCleanUptoRow, standIns := [], harness := (true, "8b05fb0b10cf0d72e3dde847a4ffdedb26355a3b77120ed4600ca0629b50791c"), looks := false }, kinds := [], alts := [], laidByText := true, laidKinds := [.data], laidTests := true, laidLooks := .later }
def SlabCleanUptoCardSaid : Prop := Claim7.holds Tryd.pinned (.plain (OpenSpec.upto slabCleanSpec)) slabCleanUptoCard

/-- THE SECOND FORM's CARD OF 'sallyportlaw02.SlabCounts'. -/
def slabCountsUptoCard : Claim7 := { stood := { row := slabCountsUptoRow, standIns := [], harness := (true, "8b05fb0b10cf0d72e3dde847a4ffdedb26355a3b77120ed4600ca0629b50791c"), looks := false }, kinds := [], alts := [], laidByText := true, laidKinds := [.data], laidTests := true, laidLooks := .later }
def SlabCountsUptoCardSaid : Prop := Claim7.holds Tryd.pinned (.plain (OpenSpec.upto slabCountsSpec)) slabCountsUptoCard

/-- THE SECOND FORM's CARD OF 'sallyportlaw02.SlabPlays'. -/
def slabPlaysUptoCard : Claim7 := { stood := { row := slabPlaysUptoRow, standIns := [], harness := (true, "8b05fb0b10cf0d72e3dde847a4ffdedb26355a3b77120ed4600ca0629b50791c"), looks := false }, kinds := [], alts := [], laidByText := true, laidKinds := [.data], laidTests := true, laidLooks := .later }
def SlabPlaysUptoCardSaid : Prop := Claim7.holds Tryd.pinned (.plain (OpenSpec.upto slabPlaysSpec)) slabPlaysUptoCard

/-- THE SECOND FORM's CARD OF 'sallyportlaw02.SlabNone'. -/
def slabNoneUptoCard : Claim7 := { stood := { row := slabNoneUptoRow, standIns := [], harness := (true, "8b05fb0b10cf0d72e3dde847a4ffdedb26355a3b77120ed4600ca0629b50791c"), looks := false }, kinds := [], alts := [], laidByText := true, laidKinds := [.data], laidTests := true, laidLooks := .later }
def SlabNoneUptoCardSaid : Prop := Claim7.holds Tryd.pinned (.plain (OpenSpec.upto slabNoneSpec)) slabNoneUptoCard
end Rows
end Go.Proofs.YtebdgohkhadgpaaDoor
