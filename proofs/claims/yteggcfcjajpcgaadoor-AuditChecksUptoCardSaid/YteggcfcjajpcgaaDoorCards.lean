/-
  DERIVED. GIVEN WITH THE SEED: THE CARDS: each row of YteggcfcjajpcgaaDoorRows.lean that lists a variable, with what it lists TIED to the program's text (the seventh form; the later family's looks); each row that meets fmt, with fmt's text TOLD by the authors' own Lean function (tested against real Go, not proved from fmt's source: count such statements apart). THE CARD IS WHAT COUNTS. Prove the row's statement (the work); the ties are given (YteggcfcjajpcgaaDoorTie.lean); close each card by the builder's one call (the guide's Derived/Test/ToyasCard.lean, 'card_holds'). Laid BY PROGRAM, IN A SANDBOX (cutbox-door.mjs). By AI agents, Wed Nov 11 2026. No macro, syntax, notation, axiom, sorry.
-/
import Derived.Test.YteggcfcjajpcgaaDoorRows
import GoSem.ClaimSeven
namespace Go.Proofs.YteggcfcjajpcgaaDoor
namespace Rows

/-- THE TIED CARD OF 'sallyportlaw21.AuditPast'. -/
def auditPastCard : Claim7 := { stood := { row := auditPastRow, standIns := [], harness := (true, "53138f8fe1cc19f8afac691877dbcb8f9fc4cdf0e285509ddb04dc0896fd554a"), looks := false }, kinds := [], alts := [], laidByText := true, laidKinds := [.data, .data, .data, .data], laidTests := true, laidLooks := .later }
def AuditPastCardSaid : Prop := Claim7.holds Tryd.pinned (.plain (OpenSpec.ofChange auditPastSpec)) auditPastCard

/-- THE TIED CARD OF 'sallyportlaw21.AuditAdds'. -/
def auditAddsCard : Claim7 := { stood := { row := auditAddsRow, standIns := [], harness := (true, "53138f8fe1cc19f8afac691877dbcb8f9fc4cdf0e285509ddb04dc0896fd554a"), looks := false }, kinds := [], alts := [], laidByText := true, laidKinds := [.data, .data, .data, .data], laidTests := true, laidLooks := .later }
def AuditAddsCardSaid : Prop := Claim7.holds Tryd.pinned (.plain (OpenSpec.ofChange auditAddsSpec)) auditAddsCard

/-- THE TIED CARD OF 'sallyportlaw21.AuditShows'. -/
def auditShowsCard : Claim7 := { stood := { row := auditShowsRow, standIns := [], harness := (true, "53138f8fe1cc19f8afac691877dbcb8f9fc4cdf0e285509ddb04dc0896fd554a"), looks := false }, kinds := [], alts := [], laidByText := true, laidKinds := [.data, .data, .data, .data], laidTests := true, laidLooks := .later }
def AuditShowsCardSaid : Prop := Claim7.holds Tryd.pinned (.plain (OpenSpec.ofChange auditShowsSpec)) auditShowsCard

/-- THE TIED CARD OF 'sallyportlaw21.AuditGrows'. -/
def auditGrowsCard : Claim7 := { stood := { row := auditGrowsRow, standIns := [], harness := (true, "53138f8fe1cc19f8afac691877dbcb8f9fc4cdf0e285509ddb04dc0896fd554a"), looks := false }, kinds := [], alts := [], laidByText := true, laidKinds := [.data, .data, .data, .data], laidTests := true, laidLooks := .later }
def AuditGrowsCardSaid : Prop := Claim7.holds Tryd.pinned (.plain (OpenSpec.ofChange auditGrowsSpec)) auditGrowsCard

/-- THE TIED CARD OF 'sallyportlaw21.AuditChecks'. -/
def auditChecksCard : Claim7 := { stood := { row := auditChecksRow, standIns := [], harness := (true, "53138f8fe1cc19f8afac691877dbcb8f9fc4cdf0e285509ddb04dc0896fd554a"), looks := false }, kinds := [], alts := [], laidByText := true, laidKinds := [.data, .data, .data, .data], laidTests := true, laidLooks := .later }
def AuditChecksCardSaid : Prop := Claim7.holds Tryd.pinned (.plain (OpenSpec.ofChange auditChecksSpec)) auditChecksCard

/-- THE SECOND FORM's CARD OF 'sallyportlaw21.AuditPast'. -/
def auditPastUptoCard : Claim7 := { stood := { row := auditPastUptoRow, standIns := [], harness := (true, "53138f8fe1cc19f8afac691877dbcb8f9fc4cdf0e285509ddb04dc0896fd554a"), looks := false }, kinds := [], alts := [], laidByText := true, laidKinds := [.data, .data, .data, .data], laidTests := true, laidLooks := .later }
def AuditPastUptoCardSaid : Prop := Claim7.holds Tryd.pinned (.plain (OpenSpec.upto auditPastSpec)) auditPastUptoCard

/-- THE SECOND FORM's CARD OF 'sallyportlaw21.AuditAdds'. -/
def auditAddsUptoCard : Claim7 := { stood := { row := auditAddsUptoRow, standIns := [], harness := (true, "53138f8fe1cc19f8afac691877dbcb8f9fc4cdf0e285509ddb04dc0896fd554a"), looks := false }, kinds := [], alts := [], laidByText := true, laidKinds := [.data, .data, .data, .data], laidTests := true, laidLooks := .later }
def AuditAddsUptoCardSaid : Prop := Claim7.holds Tryd.pinned (.plain (OpenSpec.upto auditAddsSpec)) auditAddsUptoCard

/-- THE SECOND FORM's CARD OF 'sallyportlaw21.AuditShows'. -/
def auditShowsUptoCard : Claim7 := { stood := { row := auditShowsUptoRow, standIns := [], harness := (true, "53138f8fe1cc19f8afac691877dbcb8f9fc4cdf0e285509ddb04dc0896fd554a"), looks := false }, kinds := [], alts := [], laidByText := true, laidKinds := [.data, .data, .data, .data], laidTests := true, laidLooks := .later }
def AuditShowsUptoCardSaid : Prop := Claim7.holds Tryd.pinned (.plain (OpenSpec.upto auditShowsSpec)) auditShowsUptoCard

/-- THE SECOND FORM's CARD OF 'sallyportlaw21.AuditGrows'. -/
def auditGrowsUptoCard : Claim7 := { stood := { row := auditGrowsUptoRow, standIns := [], harness := (true, "53138f8fe1cc19f8afac691877dbcb8f9fc4cdf0e285509ddb04dc0896fd554a"), looks := false }, kinds := [], alts := [], laidByText := true, laidKinds := [.data, .data, .data, .data], laidTests := true, laidLooks := .later }
def AuditGrowsUptoCardSaid : Prop := Claim7.holds Tryd.pinned (.plain (OpenSpec.upto auditGrowsSpec)) auditGrowsUptoCard

/-- THE SECOND FORM's CARD OF 'sallyportlaw21.AuditChecks'. -/
def auditChecksUptoCard : Claim7 := { stood := { row := auditChecksUptoRow, standIns := [], harness := (true, "53138f8fe1cc19f8afac691877dbcb8f9fc4cdf0e285509ddb04dc0896fd554a"), looks := false }, kinds := [], alts := [], laidByText := true, laidKinds := [.data, .data, .data, .data], laidTests := true, laidLooks := .later }
def AuditChecksUptoCardSaid : Prop := Claim7.holds Tryd.pinned (.plain (OpenSpec.upto auditChecksSpec)) auditChecksUptoCard
end Rows
end Go.Proofs.YteggcfcjajpcgaaDoor
