/-
  No cell of these rows narrows 'for every input' (looked for: loops, veiled, ifaces, maps, wideKeys, modest, calm, conditions, laid).
  DERIVED. THE GIVEN ROWS OF THIS SEAT. 5 by the template 'for every input the law returns true; each argument reads behind the call as it read before'; 0 by the template 'total and deterministic' (their statements: YtafhlmpifdclaaaTotals.lean).
  GIVEN WITH THE SEED: the statements are not yours to turn. If you find one false, say at which input.
  Laid BY PROGRAM, IN A SANDBOX (cutbox-rows.mjs): the forced cells as the released guide's own fill.sh prints them over the translation d718127e1cb7d295… (all of the seat's roots in one cut). By AI agents, Wed Nov 11 2026. No macro, syntax, notation, axiom, sorry.
-/
import Derived.Test.YtafhlmpifdclaaaChecked
import GoSem.Claim
import GoSem.ClaimJoined
import GoSem.ClaimMapViews
import Derived.JoinedTies
import Derived.KernelRfl
namespace Go.Proofs.Ytafhlmpifdclaaa
/- THE CELL 'sum', in the pinned program and in every row, IS THE sha256 OF THE DUMP (.gsa) THAT YtafhlmpifdclaaaProg.lean LOADS. Nothing in Lean hashes anything: it is a label: what it is worth is what the hold of that sum in a sandbox is worth. -/
noncomputable def Try.pinned : Pinned := { name := "ytafhlmpifdclaaa", sum := "d718127e1cb7d2953caa239d81530e0eab490477f5d3a793a1015663e187ceb9", checked := Try.checked }
namespace Rows
def none {H : Type} : Left H := { results := [], args := [] }

/-- 'horologelaw34.ShiftTells': WHATEVER THE INPUT: true; the input reads as it did. -/
def shiftTellsSpec : ChangeSpec := { name := "shiftTells", fn := fun _ => fun
  | [d1, d2, d3, d4, d5] => { results := [.lit (.bool true)], args := [d1, d2, d3, d4, d5] }
  | _ => none }
def shiftTellsRow : OpenClaim := { program := "ytafhlmpifdclaaa", sum := "d718127e1cb7d2953caa239d81530e0eab490477f5d3a793a1015663e187ceb9", func := "horologe/horologelaw34.ShiftTells", spec := "shiftTells", recurses := true, apart := false }
def ShiftTellsSaid : Prop := shiftTellsRow.holds Try.pinned (OpenSpec.ofChange shiftTellsSpec)

/-- ITS FALSE NEIGHBOUR: 'it returns false'. Refute it at one input. -/
def shiftTellsWrong : ChangeSpec := { name := "shiftTells", fn := fun _ => fun
  | [d1, d2, d3, d4, d5] => { results := [.lit (.bool false)], args := [d1, d2, d3, d4, d5] }
  | _ => none }
def ShiftTellsWrongFalsely : Prop := shiftTellsRow.holds Try.pinned (OpenSpec.ofChange shiftTellsWrong)

/-- 'horologelaw34.ShiftSteps': WHATEVER THE INPUT: true; the input reads as it did. -/
def shiftStepsSpec : ChangeSpec := { name := "shiftSteps", fn := fun _ => fun
  | [d1, d2, d3, d4, d5] => { results := [.lit (.bool true)], args := [d1, d2, d3, d4, d5] }
  | _ => none }
def shiftStepsRow : OpenClaim := { program := "ytafhlmpifdclaaa", sum := "d718127e1cb7d2953caa239d81530e0eab490477f5d3a793a1015663e187ceb9", func := "horologe/horologelaw34.ShiftSteps", spec := "shiftSteps", unfollowed := true, recurses := true, apart := false }
def ShiftStepsSaid : Prop := shiftStepsRow.holds Try.pinned (OpenSpec.ofChange shiftStepsSpec)

/-- ITS FALSE NEIGHBOUR: 'it returns false'. Refute it at one input. -/
def shiftStepsWrong : ChangeSpec := { name := "shiftSteps", fn := fun _ => fun
  | [d1, d2, d3, d4, d5] => { results := [.lit (.bool false)], args := [d1, d2, d3, d4, d5] }
  | _ => none }
def ShiftStepsWrongFalsely : Prop := shiftStepsRow.holds Try.pinned (OpenSpec.ofChange shiftStepsWrong)

/-- 'horologelaw34.ShiftMoved': WHATEVER THE INPUT: true; the input reads as it did. -/
def shiftMovedSpec : ChangeSpec := { name := "shiftMoved", fn := fun _ => fun
  | [d1, d2, d3, d4, d5, d6] => { results := [.lit (.bool true)], args := [d1, d2, d3, d4, d5, d6] }
  | _ => none }
def shiftMovedRow : OpenClaim := { program := "ytafhlmpifdclaaa", sum := "d718127e1cb7d2953caa239d81530e0eab490477f5d3a793a1015663e187ceb9", func := "horologe/horologelaw34.ShiftMoved", spec := "shiftMoved", unfollowed := true, recurses := true, apart := false }
def ShiftMovedSaid : Prop := shiftMovedRow.holds Try.pinned (OpenSpec.ofChange shiftMovedSpec)

/-- ITS FALSE NEIGHBOUR: 'it returns false'. Refute it at one input. -/
def shiftMovedWrong : ChangeSpec := { name := "shiftMoved", fn := fun _ => fun
  | [d1, d2, d3, d4, d5, d6] => { results := [.lit (.bool false)], args := [d1, d2, d3, d4, d5, d6] }
  | _ => none }
def ShiftMovedWrongFalsely : Prop := shiftMovedRow.holds Try.pinned (OpenSpec.ofChange shiftMovedWrong)

/-- 'horologelaw34.ShiftStill': WHATEVER THE INPUT: true; the input reads as it did. -/
def shiftStillSpec : ChangeSpec := { name := "shiftStill", fn := fun _ => fun
  | [d1, d2, d3, d4, d5] => { results := [.lit (.bool true)], args := [d1, d2, d3, d4, d5] }
  | _ => none }
def shiftStillRow : OpenClaim := { program := "ytafhlmpifdclaaa", sum := "d718127e1cb7d2953caa239d81530e0eab490477f5d3a793a1015663e187ceb9", func := "horologe/horologelaw34.ShiftStill", spec := "shiftStill", unfollowed := true, recurses := true, apart := false }
def ShiftStillSaid : Prop := shiftStillRow.holds Try.pinned (OpenSpec.ofChange shiftStillSpec)

/-- ITS FALSE NEIGHBOUR: 'it returns false'. Refute it at one input. -/
def shiftStillWrong : ChangeSpec := { name := "shiftStill", fn := fun _ => fun
  | [d1, d2, d3, d4, d5] => { results := [.lit (.bool false)], args := [d1, d2, d3, d4, d5] }
  | _ => none }
def ShiftStillWrongFalsely : Prop := shiftStillRow.holds Try.pinned (OpenSpec.ofChange shiftStillWrong)

/-- 'horologelaw34.ShiftKnown': WHATEVER THE INPUT: true; the input reads as it did. -/
def shiftKnownSpec : ChangeSpec := { name := "shiftKnown", fn := fun _ => fun
  | [] => { results := [.lit (.bool true)], args := [] }
  | _ => none }
def shiftKnownRow : OpenClaim := { program := "ytafhlmpifdclaaa", sum := "d718127e1cb7d2953caa239d81530e0eab490477f5d3a793a1015663e187ceb9", func := "horologe/horologelaw34.ShiftKnown", spec := "shiftKnown", unfollowed := true, recurses := true, apart := false }
def ShiftKnownSaid : Prop := shiftKnownRow.holds Try.pinned (OpenSpec.ofChange shiftKnownSpec)

/-- ITS FALSE NEIGHBOUR: 'it returns false'. Refute it at one input. -/
def shiftKnownWrong : ChangeSpec := { name := "shiftKnown", fn := fun _ => fun
  | [] => { results := [.lit (.bool false)], args := [] }
  | _ => none }
def ShiftKnownWrongFalsely : Prop := shiftKnownRow.holds Try.pinned (OpenSpec.ofChange shiftKnownWrong)

/- THE SECOND FORM. 'bulk': how many values and letters a reading holds, each counted each time it is reached (what is shared counts as often as it is met; a slice's spare places count too). A statement '..UptoSaid' is the law's where the arguments, and the package variables that the reading takes, are together of bulk at most 1048576: NARROWER than '..Said'. Prove '..Said' where nothing that the law and all that it calls make is longer than what came in: it says more and counts as full. Else prove '..UptoSaid'. A law counts once. -/
mutual
def uptoBulk {H : Type} : DataW H → Nat
  | .lit (.string bytes) => bytes.length + 1
  | .lit _ => 1
  | .nil => 1
  | .ptr d => uptoBulk d + 1
  | .slice elems spare => uptoBulkAll elems + uptoBulkAll spare + 1
  | .agg parts => uptoBulkAll parts + 1
  | .iface _ d => uptoBulk d + 1
  | .map entries => uptoBulkEntries entries + 1
  | .held _ => 1
def uptoBulkAll {H : Type} : List (DataW H) → Nat
  | [] => 0
  | d :: r => uptoBulk d + uptoBulkAll r
def uptoBulkEntries {H : Type} : List (Lit × DataW H) → Nat
  | [] => 0
  | x :: r => uptoBulkEntry x + uptoBulkEntries r
def uptoBulkEntry {H : Type} : Lit × DataW H → Nat
  | (.string bytes, d) => bytes.length + uptoBulk d + 1
  | (_, d) => uptoBulk d + 1
 end
def uptoSmall : (H : Type) → List (DataW H) → Bool := fun _ ds => decide (uptoBulkAll ds ≤ 1048576)
def OpenSpec.upto (s : _root_.Go.ChangeSpec) : _root_.Go.OpenSpec := { _root_.Go.OpenSpec.ofChange s with cond := some uptoSmall }

/-- 'horologelaw34.ShiftTells', WHERE WHAT IT READS IS OF BULK AT MOST 1048576: true; the input reads as it did. -/
def shiftTellsUptoRow : OpenClaim := { program := "ytafhlmpifdclaaa", sum := "d718127e1cb7d2953caa239d81530e0eab490477f5d3a793a1015663e187ceb9", func := "horologe/horologelaw34.ShiftTells", spec := "shiftTells", recurses := true, apart := false, narrowed := true }
def ShiftTellsUptoSaid : Prop := shiftTellsUptoRow.holds Try.pinned (OpenSpec.upto shiftTellsSpec)

/-- 'horologelaw34.ShiftSteps', WHERE WHAT IT READS IS OF BULK AT MOST 1048576: true; the input reads as it did. -/
def shiftStepsUptoRow : OpenClaim := { program := "ytafhlmpifdclaaa", sum := "d718127e1cb7d2953caa239d81530e0eab490477f5d3a793a1015663e187ceb9", func := "horologe/horologelaw34.ShiftSteps", spec := "shiftSteps", unfollowed := true, recurses := true, apart := false, narrowed := true }
def ShiftStepsUptoSaid : Prop := shiftStepsUptoRow.holds Try.pinned (OpenSpec.upto shiftStepsSpec)

/-- 'horologelaw34.ShiftMoved', WHERE WHAT IT READS IS OF BULK AT MOST 1048576: true; the input reads as it did. -/
def shiftMovedUptoRow : OpenClaim := { program := "ytafhlmpifdclaaa", sum := "d718127e1cb7d2953caa239d81530e0eab490477f5d3a793a1015663e187ceb9", func := "horologe/horologelaw34.ShiftMoved", spec := "shiftMoved", unfollowed := true, recurses := true, apart := false, narrowed := true }
def ShiftMovedUptoSaid : Prop := shiftMovedUptoRow.holds Try.pinned (OpenSpec.upto shiftMovedSpec)

/-- 'horologelaw34.ShiftStill', WHERE WHAT IT READS IS OF BULK AT MOST 1048576: true; the input reads as it did. -/
def shiftStillUptoRow : OpenClaim := { program := "ytafhlmpifdclaaa", sum := "d718127e1cb7d2953caa239d81530e0eab490477f5d3a793a1015663e187ceb9", func := "horologe/horologelaw34.ShiftStill", spec := "shiftStill", unfollowed := true, recurses := true, apart := false, narrowed := true }
def ShiftStillUptoSaid : Prop := shiftStillUptoRow.holds Try.pinned (OpenSpec.upto shiftStillSpec)

/-- 'horologelaw34.ShiftKnown', WHERE WHAT IT READS IS OF BULK AT MOST 1048576: true; the input reads as it did. -/
def shiftKnownUptoRow : OpenClaim := { program := "ytafhlmpifdclaaa", sum := "d718127e1cb7d2953caa239d81530e0eab490477f5d3a793a1015663e187ceb9", func := "horologe/horologelaw34.ShiftKnown", spec := "shiftKnown", unfollowed := true, recurses := true, apart := false, narrowed := true }
def ShiftKnownUptoSaid : Prop := shiftKnownUptoRow.holds Try.pinned (OpenSpec.upto shiftKnownSpec)

end Rows
end Go.Proofs.Ytafhlmpifdclaaa
