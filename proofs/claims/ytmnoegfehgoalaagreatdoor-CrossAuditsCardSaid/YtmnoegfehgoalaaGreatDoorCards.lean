/-
  DERIVED. GIVEN WITH THE SEED: THE CARDS: each row of YtmnoegfehgoalaaGreatDoorRows.lean that lists a variable, with what it lists TIED to the program's text (the seventh form; the later family's looks); each row that meets fmt, with fmt's text TOLD by the authors' own Lean function (tested against real Go, not proved from fmt's source: count such statements apart). THE CARD IS WHAT COUNTS. Prove the row's statement (the work); the ties are given (YtmnoegfehgoalaaGreatDoorTie.lean); close each card by the builder's one call (the guide's Derived/Test/ToyasCard.lean, 'card_holds'). Laid BY PROGRAM, IN A SANDBOX (cutbox-door.mjs). By AI agents, Wed Nov 11 2026. No macro, syntax, notation, axiom, sorry.
-/
import Derived.Test.YtmnoegfehgoalaaGreatDoorRows
import GoSem.ClaimSeven
namespace Go.Proofs.YtmnoegfehgoalaaGreatDoor
namespace Rows

/-- THE TIED CARD OF 'horologelaw27.CrossMeets'. -/
def crossMeetsCard : Claim7 := { stood := { row := crossMeetsRow, standIns := [], harness := (true, "aacfecb81149cc1e51edeff14a302abc8742e40a2a40e798dbcb171aab03f944"), looks := true }, kinds := [], alts := [], laidByText := true, laidKinds := [.handle], laidTests := true, laidLooks := .later }
def CrossMeetsCardSaid : Prop := Claim7.holds Tryz.pinned (.plain (OpenSpec.ofChange crossMeetsSpec)) crossMeetsCard

/-- THE TIED CARD OF 'horologelaw27.CrossKnown'. -/
def crossKnownCard : Claim7 := { stood := { row := crossKnownRow, standIns := [], harness := (true, "aacfecb81149cc1e51edeff14a302abc8742e40a2a40e798dbcb171aab03f944"), looks := true }, kinds := [], alts := [], laidByText := true, laidKinds := [.data, .data, .data, .data, .handle, .pinned], laidTests := true, laidLooks := .later }
def CrossKnownCardSaid : Prop := Claim7.holds Tryz.pinned (.plain (OpenSpec.ofChange crossKnownSpec)) crossKnownCard

/-- THE TIED CARD OF 'horologelaw27.CrossAudits'. -/
def crossAuditsCard : Claim7 := { stood := { row := crossAuditsRow, standIns := [], harness := (true, "aacfecb81149cc1e51edeff14a302abc8742e40a2a40e798dbcb171aab03f944"), looks := true }, kinds := [], alts := [], laidByText := true, laidKinds := [.data, .data, .data, .data, .handle, .pinned], laidTests := true, laidLooks := .later }
def CrossAuditsCardSaid : Prop := Claim7.holds Tryz.pinned (.plain (OpenSpec.ofChange crossAuditsSpec)) crossAuditsCard

/-- THE SECOND FORM's CARD OF 'horologelaw27.CrossMeets'. -/
def crossMeetsUptoCard : Claim7 := { stood := { row := crossMeetsUptoRow, standIns := [], harness := (true, "aacfecb81149cc1e51edeff14a302abc8742e40a2a40e798dbcb171aab03f944"), looks := true }, kinds := [], alts := [], laidByText := true, laidKinds := [.handle], laidTests := true, laidLooks := .later }
def CrossMeetsUptoCardSaid : Prop := Claim7.holds Tryz.pinned (.plain (OpenSpec.upto crossMeetsSpec)) crossMeetsUptoCard

/-- THE SECOND FORM's CARD OF 'horologelaw27.CrossKnown'. -/
def crossKnownUptoCard : Claim7 := { stood := { row := crossKnownUptoRow, standIns := [], harness := (true, "aacfecb81149cc1e51edeff14a302abc8742e40a2a40e798dbcb171aab03f944"), looks := true }, kinds := [], alts := [], laidByText := true, laidKinds := [.data, .data, .data, .data, .handle, .pinned], laidTests := true, laidLooks := .later }
def CrossKnownUptoCardSaid : Prop := Claim7.holds Tryz.pinned (.plain (OpenSpec.upto crossKnownSpec)) crossKnownUptoCard

/-- THE SECOND FORM's CARD OF 'horologelaw27.CrossAudits'. -/
def crossAuditsUptoCard : Claim7 := { stood := { row := crossAuditsUptoRow, standIns := [], harness := (true, "aacfecb81149cc1e51edeff14a302abc8742e40a2a40e798dbcb171aab03f944"), looks := true }, kinds := [], alts := [], laidByText := true, laidKinds := [.data, .data, .data, .data, .handle, .pinned], laidTests := true, laidLooks := .later }
def CrossAuditsUptoCardSaid : Prop := Claim7.holds Tryz.pinned (.plain (OpenSpec.upto crossAuditsSpec)) crossAuditsUptoCard
end Rows
end Go.Proofs.YtmnoegfehgoalaaGreatDoor
