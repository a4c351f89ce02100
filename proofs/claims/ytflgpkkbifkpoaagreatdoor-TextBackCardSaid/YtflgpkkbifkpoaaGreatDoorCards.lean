/-
  DERIVED. GIVEN WITH THE SEED: THE CARDS: each row of YtflgpkkbifkpoaaGreatDoorRows.lean that lists a variable, with what it lists TIED to the program's text (the seventh form; the later family's looks); each row that meets fmt, with fmt's text TOLD by the authors' own Lean function (tested against real Go, not proved from fmt's source: count such statements apart). THE CARD IS WHAT COUNTS. Prove the row's statement (the work); the ties are given (YtflgpkkbifkpoaaGreatDoorTie.lean); close each card by the builder's one call (the guide's Derived/Test/ToyasCard.lean, 'card_holds'). Laid BY PROGRAM, IN A SANDBOX (cutbox-door.mjs). By AI agents, Wed Nov 11 2026. No macro, syntax, notation, axiom, sorry.
-/
import Derived.Test.YtflgpkkbifkpoaaGreatDoorRows
import GoSem.ClaimSeven
namespace Go.Proofs.YtflgpkkbifkpoaaGreatDoor
namespace Rows

/-- THE TIED CARD OF 'horologelaw04.TextWides'. -/
def textWidesCard : Claim7 := { stood := { row := textWidesRow, standIns := [], harness := (true, "bb16f1394694395d4f17575cea79c57fbf72037f18aea2c8264fac97b02e2ade"), looks := true }, kinds := [], alts := [], laidByText := true, laidKinds := [.data, .data, .data, .data, .sentinel, .sentinel, .pinned], laidTests := true, laidLooks := .later }
def TextWidesCardSaid : Prop := Claim7.holds Tryz.pinned (.plain (OpenSpec.ofChange textWidesSpec)) textWidesCard

/-- THE TIED CARD OF 'horologelaw04.TextBack'. -/
def textBackCard : Claim7 := { stood := { row := textBackRow, standIns := [], harness := (true, "bb16f1394694395d4f17575cea79c57fbf72037f18aea2c8264fac97b02e2ade"), looks := true }, kinds := [], alts := [], laidByText := true, laidKinds := [.data, .data, .data, .data, .sentinel, .sentinel, .pinned], laidTests := true, laidLooks := .later }
def TextBackCardSaid : Prop := Claim7.holds Tryz.pinned (.plain (OpenSpec.ofChange textBackSpec)) textBackCard

/-- THE SECOND FORM's CARD OF 'horologelaw04.TextWides'. -/
def textWidesUptoCard : Claim7 := { stood := { row := textWidesUptoRow, standIns := [], harness := (true, "bb16f1394694395d4f17575cea79c57fbf72037f18aea2c8264fac97b02e2ade"), looks := true }, kinds := [], alts := [], laidByText := true, laidKinds := [.data, .data, .data, .data, .sentinel, .sentinel, .pinned], laidTests := true, laidLooks := .later }
def TextWidesUptoCardSaid : Prop := Claim7.holds Tryz.pinned (.plain (OpenSpec.upto textWidesSpec)) textWidesUptoCard

/-- THE SECOND FORM's CARD OF 'horologelaw04.TextBack'. -/
def textBackUptoCard : Claim7 := { stood := { row := textBackUptoRow, standIns := [], harness := (true, "bb16f1394694395d4f17575cea79c57fbf72037f18aea2c8264fac97b02e2ade"), looks := true }, kinds := [], alts := [], laidByText := true, laidKinds := [.data, .data, .data, .data, .sentinel, .sentinel, .pinned], laidTests := true, laidLooks := .later }
def TextBackUptoCardSaid : Prop := Claim7.holds Tryz.pinned (.plain (OpenSpec.upto textBackSpec)) textBackUptoCard
end Rows
end Go.Proofs.YtflgpkkbifkpoaaGreatDoor
