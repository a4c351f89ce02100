/-
  DERIVED. GIVEN WITH THE SEED: THE CARDS: each row of YtmnoegfehgoalaaDoorRows.lean that lists a variable, with what it lists TIED to the program's text (the seventh form; the later family's looks); each row that meets fmt, with fmt's text TOLD by the authors' own Lean function (tested against real Go, not proved from fmt's source: count such statements apart). THE CARD IS WHAT COUNTS. Prove the row's statement (the work); the ties are given (YtmnoegfehgoalaaDoorTie.lean); close each card by the builder's one call (the guide's Derived/Test/ToyasCard.lean, 'card_holds'). Laid BY PROGRAM, IN A SANDBOX (cutbox-door.mjs). By AI agents, Wed Nov 11 2026. No macro, syntax, notation, axiom, sorry.
-/
import Derived.Test.YtmnoegfehgoalaaDoorRows
import GoSem.ClaimSeven
namespace Go.Proofs.YtmnoegfehgoalaaDoor
namespace Rows

/-- THE TIED CARD OF 'horologelaw27.CrossAll'. -/
def crossAllCard : Claim7 := { stood := { row := crossAllRow, standIns := [], harness := (true, "f3d731caa171e71b6b0e1db49c8e57cba7cc102875d963978fcce35973a761b8"), looks := true }, kinds := [], alts := [], laidByText := true, laidKinds := [.handle], laidTests := true, laidLooks := .later }
def CrossAllCardSaid : Prop := Claim7.holds Tryd.pinned (.plain (OpenSpec.ofChange crossAllSpec)) crossAllCard

/-- THE TIED CARD OF 'horologelaw27.CrossOwn'. -/
def crossOwnCard : Claim7 := { stood := { row := crossOwnRow, standIns := [], harness := (true, "f3d731caa171e71b6b0e1db49c8e57cba7cc102875d963978fcce35973a761b8"), looks := true }, kinds := [], alts := [], laidByText := true, laidKinds := [.handle], laidTests := true, laidLooks := .later }
def CrossOwnCardSaid : Prop := Claim7.holds Tryd.pinned (.plain (OpenSpec.ofChange crossOwnSpec)) crossOwnCard

/-- THE SECOND FORM's CARD OF 'horologelaw27.CrossAll'. -/
def crossAllUptoCard : Claim7 := { stood := { row := crossAllUptoRow, standIns := [], harness := (true, "f3d731caa171e71b6b0e1db49c8e57cba7cc102875d963978fcce35973a761b8"), looks := true }, kinds := [], alts := [], laidByText := true, laidKinds := [.handle], laidTests := true, laidLooks := .later }
def CrossAllUptoCardSaid : Prop := Claim7.holds Tryd.pinned (.plain (OpenSpec.upto crossAllSpec)) crossAllUptoCard

/-- THE SECOND FORM's CARD OF 'horologelaw27.CrossOwn'. -/
def crossOwnUptoCard : Claim7 := { stood := { row := crossOwnUptoRow, standIns := [], harness := (true, "f3d731caa171e71b6b0e1db49c8e57cba7cc102875d963978fcce35973a761b8"), looks := true }, kinds := [], alts := [], laidByText := true, laidKinds := [.handle], laidTests := true, laidLooks := .later }
def CrossOwnUptoCardSaid : Prop := Claim7.holds Tryd.pinned (.plain (OpenSpec.upto crossOwnSpec)) crossOwnUptoCard
end Rows
end Go.Proofs.YtmnoegfehgoalaaDoor
