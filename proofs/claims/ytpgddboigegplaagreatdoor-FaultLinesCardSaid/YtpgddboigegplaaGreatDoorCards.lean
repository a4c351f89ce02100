/-
  DERIVED. GIVEN WITH THE SEED: THE CARDS: each row of YtpgddboigegplaaGreatDoorRows.lean that lists a variable, with what it lists TIED to the program's text (the seventh form; the later family's looks); each row that meets fmt, with fmt's text TOLD by the authors' own Lean function (tested against real Go, not proved from fmt's source: count such statements apart). THE CARD IS WHAT COUNTS. Prove the row's statement (the work); the ties are given (YtpgddboigegplaaGreatDoorTie.lean); close each card by the builder's one call (the guide's Derived/Test/ToyasCard.lean, 'card_holds'). Laid BY PROGRAM, IN A SANDBOX (cutbox-door.mjs). By AI agents, Wed Nov 11 2026. No macro, syntax, notation, axiom, sorry.
-/
import Derived.Test.YtpgddboigegplaaGreatDoorRows
import GoSem.ClaimSeven
namespace Go.Proofs.YtpgddboigegplaaGreatDoor
namespace Rows

/-- THE TIED CARD OF 'horologelaw06.FaultOthers'. -/
def faultOthersCard : Claim7 := { stood := { row := faultOthersRow, standIns := [], harness := (true, "01ad69f4bbf7779030191893c4a0834fbfffac4e3ae88199d44a9e11e66db187"), looks := true }, kinds := [], alts := [], laidByText := true, laidKinds := [.data, .data, .data, .data, .handle, .sentinel, .sentinel, .pinned], laidTests := true, laidLooks := .later }
def FaultOthersCardSaid : Prop := Claim7.holds Tryz.pinned (.plain (OpenSpec.ofChange faultOthersSpec)) faultOthersCard

/-- THE TIED CARD OF 'horologelaw06.FaultBuilds'. -/
def faultBuildsCard : Claim7 := { stood := { row := faultBuildsRow, standIns := [], harness := (true, "01ad69f4bbf7779030191893c4a0834fbfffac4e3ae88199d44a9e11e66db187"), looks := true }, kinds := [], alts := [], laidByText := true, laidKinds := [.data, .data, .data, .data, .handle, .sentinel, .sentinel, .pinned], laidTests := true, laidLooks := .later }
def FaultBuildsCardSaid : Prop := Claim7.holds Tryz.pinned (.plain (OpenSpec.ofChange faultBuildsSpec)) faultBuildsCard

/-- THE TIED CARD OF 'horologelaw06.FaultLines'. -/
def faultLinesCard : Claim7 := { stood := { row := faultLinesRow, standIns := [], harness := (true, "01ad69f4bbf7779030191893c4a0834fbfffac4e3ae88199d44a9e11e66db187"), looks := true }, kinds := [], alts := [], laidByText := true, laidKinds := [.data, .data, .data, .data, .handle, .sentinel, .sentinel, .pinned], laidTests := true, laidLooks := .later }
def FaultLinesCardSaid : Prop := Claim7.holds Tryz.pinned (.plain (OpenSpec.ofChange faultLinesSpec)) faultLinesCard

/-- THE TIED CARD OF 'horologelaw06.FaultThrough'. -/
def faultThroughCard : Claim7 := { stood := { row := faultThroughRow, standIns := [], harness := (true, "01ad69f4bbf7779030191893c4a0834fbfffac4e3ae88199d44a9e11e66db187"), looks := true }, kinds := [], alts := [], laidByText := true, laidKinds := [.data, .data, .data, .data, .handle, .sentinel, .sentinel, .pinned], laidTests := true, laidLooks := .later }
def FaultThroughCardSaid : Prop := Claim7.holds Tryz.pinned (.plain (OpenSpec.ofChange faultThroughSpec)) faultThroughCard

/-- THE SECOND FORM's CARD OF 'horologelaw06.FaultOthers'. -/
def faultOthersUptoCard : Claim7 := { stood := { row := faultOthersUptoRow, standIns := [], harness := (true, "01ad69f4bbf7779030191893c4a0834fbfffac4e3ae88199d44a9e11e66db187"), looks := true }, kinds := [], alts := [], laidByText := true, laidKinds := [.data, .data, .data, .data, .handle, .sentinel, .sentinel, .pinned], laidTests := true, laidLooks := .later }
def FaultOthersUptoCardSaid : Prop := Claim7.holds Tryz.pinned (.plain (OpenSpec.upto faultOthersSpec)) faultOthersUptoCard

/-- THE SECOND FORM's CARD OF 'horologelaw06.FaultBuilds'. -/
def faultBuildsUptoCard : Claim7 := { stood := { row := faultBuildsUptoRow, standIns := [], harness := (true, "01ad69f4bbf7779030191893c4a0834fbfffac4e3ae88199d44a9e11e66db187"), looks := true }, kinds := [], alts := [], laidByText := true, laidKinds := [.data, .data, .data, .data, .handle, .sentinel, .sentinel, .pinned], laidTests := true, laidLooks := .later }
def FaultBuildsUptoCardSaid : Prop := Claim7.holds Tryz.pinned (.plain (OpenSpec.upto faultBuildsSpec)) faultBuildsUptoCard

/-- THE SECOND FORM's CARD OF 'horologelaw06.FaultLines'. -/
def faultLinesUptoCard : Claim7 := { stood := { row := faultLinesUptoRow, standIns := [], harness := (true, "01ad69f4bbf7779030191893c4a0834fbfffac4e3ae88199d44a9e11e66db187"), looks := true }, kinds := [], alts := [], laidByText := true, laidKinds := [.data, .data, .data, .data, .handle, .sentinel, .sentinel, .pinned], laidTests := true, laidLooks := .later }
def FaultLinesUptoCardSaid : Prop := Claim7.holds Tryz.pinned (.plain (OpenSpec.upto faultLinesSpec)) faultLinesUptoCard

/-- THE SECOND FORM's CARD OF 'horologelaw06.FaultThrough'. -/
def faultThroughUptoCard : Claim7 := { stood := { row := faultThroughUptoRow, standIns := [], harness := (true, "01ad69f4bbf7779030191893c4a0834fbfffac4e3ae88199d44a9e11e66db187"), looks := true }, kinds := [], alts := [], laidByText := true, laidKinds := [.data, .data, .data, .data, .handle, .sentinel, .sentinel, .pinned], laidTests := true, laidLooks := .later }
def FaultThroughUptoCardSaid : Prop := Claim7.holds Tryz.pinned (.plain (OpenSpec.upto faultThroughSpec)) faultThroughUptoCard
end Rows
end Go.Proofs.YtpgddboigegplaaGreatDoor
