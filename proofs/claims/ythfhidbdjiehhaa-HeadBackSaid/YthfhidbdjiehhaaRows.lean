/-
  No cell of these rows narrows 'for every input' (looked for: loops, veiled, ifaces, maps, wideKeys, modest, calm, conditions, laid).
  DERIVED. THE GIVEN ROWS OF THIS SEAT. 6 by the template 'for every input the law returns true; each argument reads behind the call as it read before'; 0 by the template 'total and deterministic' (their statements: YthfhidbdjiehhaaTotals.lean).
  GIVEN WITH THE SEED: the statements are not yours to turn. If you find one false, say at which input.
  Laid BY PROGRAM, IN A SANDBOX (cutbox-rows.mjs): the forced cells as the released guide's own fill.sh prints them over the translation 65bb39aac4a90eff… (all of the seat's roots in one cut). By AI agents, Wed Nov 11 2026. No macro, syntax, notation, axiom, sorry.
-/
import Derived.Test.YthfhidbdjiehhaaChecked
import GoSem.Claim
import GoSem.ClaimJoined
import GoSem.ClaimMapViews
import Derived.JoinedTies
import Derived.KernelRfl
namespace Go.Proofs.Ythfhidbdjiehhaa
/- THE CELL 'sum', in the pinned program and in every row, IS THE sha256 OF THE DUMP (.gsa) THAT YthfhidbdjiehhaaProg.lean LOADS. Nothing in Lean hashes anything: it is a label: what it is worth is what the hold of that sum in a sandbox is worth. -/
noncomputable def Try.pinned : Pinned := { name := "ythfhidbdjiehhaa", sum := "65bb39aac4a90effcab37e61cb8d8bfa3471fee022f28d2274e59dad1e3ffa34", checked := Try.checked }
namespace Rows
def none {H : Type} : Left H := { results := [], args := [] }

/-- 'horologelaw20.HeadPuts': WHATEVER THE INPUT: true; the input reads as it did. -/
def headPutsSpec : ChangeSpec := { name := "headPuts", fn := fun _ => fun
  | [d] => { results := [.lit (.bool true)], args := [d] }
  | _ => none }
def headPutsRow : OpenClaim := { program := "ythfhidbdjiehhaa", sum := "65bb39aac4a90effcab37e61cb8d8bfa3471fee022f28d2274e59dad1e3ffa34", func := "horologe/horologelaw20.HeadPuts", spec := "headPuts", unfollowed := true, recurses := true, apart := false }
def HeadPutsSaid : Prop := headPutsRow.holds Try.pinned (OpenSpec.ofChange headPutsSpec)

/-- ITS FALSE NEIGHBOUR: 'it returns false'. Refute it at one input. -/
def headPutsWrong : ChangeSpec := { name := "headPuts", fn := fun _ => fun
  | [d] => { results := [.lit (.bool false)], args := [d] }
  | _ => none }
def HeadPutsWrongFalsely : Prop := headPutsRow.holds Try.pinned (OpenSpec.ofChange headPutsWrong)

/-- 'horologelaw20.HeadPowers': WHATEVER THE INPUT: true; the input reads as it did. -/
def headPowersSpec : ChangeSpec := { name := "headPowers", fn := fun _ => fun
  | [d] => { results := [.lit (.bool true)], args := [d] }
  | _ => none }
def headPowersRow : OpenClaim := { program := "ythfhidbdjiehhaa", sum := "65bb39aac4a90effcab37e61cb8d8bfa3471fee022f28d2274e59dad1e3ffa34", func := "horologe/horologelaw20.HeadPowers", spec := "headPowers", unfollowed := true, recurses := true, apart := false }
def HeadPowersSaid : Prop := headPowersRow.holds Try.pinned (OpenSpec.ofChange headPowersSpec)

/-- ITS FALSE NEIGHBOUR: 'it returns false'. Refute it at one input. -/
def headPowersWrong : ChangeSpec := { name := "headPowers", fn := fun _ => fun
  | [d] => { results := [.lit (.bool false)], args := [d] }
  | _ => none }
def HeadPowersWrongFalsely : Prop := headPowersRow.holds Try.pinned (OpenSpec.ofChange headPowersWrong)

/-- 'horologelaw20.HeadTakes': WHATEVER THE INPUT: true; the input reads as it did. -/
def headTakesSpec : ChangeSpec := { name := "headTakes", fn := fun _ => fun
  | [d] => { results := [.lit (.bool true)], args := [d] }
  | _ => none }
def headTakesRow : OpenClaim := { program := "ythfhidbdjiehhaa", sum := "65bb39aac4a90effcab37e61cb8d8bfa3471fee022f28d2274e59dad1e3ffa34", func := "horologe/horologelaw20.HeadTakes", spec := "headTakes", unfollowed := true, recurses := true, apart := false }
def HeadTakesSaid : Prop := headTakesRow.holds Try.pinned (OpenSpec.ofChange headTakesSpec)

/-- ITS FALSE NEIGHBOUR: 'it returns false'. Refute it at one input. -/
def headTakesWrong : ChangeSpec := { name := "headTakes", fn := fun _ => fun
  | [d] => { results := [.lit (.bool false)], args := [d] }
  | _ => none }
def HeadTakesWrongFalsely : Prop := headTakesRow.holds Try.pinned (OpenSpec.ofChange headTakesWrong)

/-- 'horologelaw20.HeadBack': WHATEVER THE INPUT: true; the input reads as it did. -/
def headBackSpec : ChangeSpec := { name := "headBack", fn := fun _ => fun
  | [d1, d2, d3] => { results := [.lit (.bool true)], args := [d1, d2, d3] }
  | _ => none }
def headBackRow : OpenClaim := { program := "ythfhidbdjiehhaa", sum := "65bb39aac4a90effcab37e61cb8d8bfa3471fee022f28d2274e59dad1e3ffa34", func := "horologe/horologelaw20.HeadBack", spec := "headBack", unfollowed := true, recurses := true, apart := false }
def HeadBackSaid : Prop := headBackRow.holds Try.pinned (OpenSpec.ofChange headBackSpec)

/-- ITS FALSE NEIGHBOUR: 'it returns false'. Refute it at one input. -/
def headBackWrong : ChangeSpec := { name := "headBack", fn := fun _ => fun
  | [d1, d2, d3] => { results := [.lit (.bool false)], args := [d1, d2, d3] }
  | _ => none }
def HeadBackWrongFalsely : Prop := headBackRow.holds Try.pinned (OpenSpec.ofChange headBackWrong)

/-- 'horologelaw20.HeadKnown': WHATEVER THE INPUT: true; the input reads as it did. -/
def headKnownSpec : ChangeSpec := { name := "headKnown", fn := fun _ => fun
  | [] => { results := [.lit (.bool true)], args := [] }
  | _ => none }
def headKnownRow : OpenClaim := { program := "ythfhidbdjiehhaa", sum := "65bb39aac4a90effcab37e61cb8d8bfa3471fee022f28d2274e59dad1e3ffa34", func := "horologe/horologelaw20.HeadKnown", spec := "headKnown", unfollowed := true, recurses := true, apart := false }
def HeadKnownSaid : Prop := headKnownRow.holds Try.pinned (OpenSpec.ofChange headKnownSpec)

/-- ITS FALSE NEIGHBOUR: 'it returns false'. Refute it at one input. -/
def headKnownWrong : ChangeSpec := { name := "headKnown", fn := fun _ => fun
  | [] => { results := [.lit (.bool false)], args := [] }
  | _ => none }
def HeadKnownWrongFalsely : Prop := headKnownRow.holds Try.pinned (OpenSpec.ofChange headKnownWrong)

/-- 'horologelaw20.HeadPatches': WHATEVER THE INPUT: true; the input reads as it did. -/
def headPatchesSpec : ChangeSpec := { name := "headPatches", fn := fun _ => fun
  | [d1, d2] => { results := [.lit (.bool true)], args := [d1, d2] }
  | _ => none }
def headPatchesRow : OpenClaim := { program := "ythfhidbdjiehhaa", sum := "65bb39aac4a90effcab37e61cb8d8bfa3471fee022f28d2274e59dad1e3ffa34", func := "horologe/horologelaw20.HeadPatches", spec := "headPatches", unfollowed := true, recurses := true, apart := false }
def HeadPatchesSaid : Prop := headPatchesRow.holds Try.pinned (OpenSpec.ofChange headPatchesSpec)

/-- ITS FALSE NEIGHBOUR: 'it returns false'. Refute it at one input. -/
def headPatchesWrong : ChangeSpec := { name := "headPatches", fn := fun _ => fun
  | [d1, d2] => { results := [.lit (.bool false)], args := [d1, d2] }
  | _ => none }
def HeadPatchesWrongFalsely : Prop := headPatchesRow.holds Try.pinned (OpenSpec.ofChange headPatchesWrong)

/- THE SECOND FORM. 'bulk': how many values and letters a reading holds, each counted each time it is reached (what is shared counts as often as it is met; a slice's spare places count too). A statement '..UptoSaid' is the law's where the arguments, and the package variables that the reading takes, are together of bulk at most 1048576: NARROWER than '..Said'. Prove '..Said' where nothing that the law and all that it calls make is longer than what came in: it says more and counts as full. Else prove '..UptoSaid'. A law counts once. -/
mutual
def uptoBulk {H : Type} : DataW H → Nat
  | .lit (.string bytes) => bytes.length + 1
  | .lit _ => 1
  | .nil => 1
  | .ptr d => uptoBulk d + 1
  | .slice elems spare => uptoBulkAll elems + uptoBulkAll spare + 1
  | .agg parts => uptoBulkAll parts + 1
  | .iface _ d => uptoBulk d + 1
  | .map entries => uptoBulkEntries entries + 1
  | .held _ => 1
def uptoBulkAll {H : Type} : List (DataW H) → Nat
  | [] => 0
  | d :: r => uptoBulk d + uptoBulkAll r
def uptoBulkEntries {H : Type} : List (Lit × DataW H) → Nat
  | [] => 0
  | x :: r => uptoBulkEntry x + uptoBulkEntries r
def uptoBulkEntry {H : Type} : Lit × DataW H → Nat
  | (.string bytes, d) => bytes.length + uptoBulk d + 1
  | (_, d) => uptoBulk d + 1
 end
def uptoSmall : (H : Type) → List (DataW H) → Bool := fun _ ds => decide (uptoBulkAll ds ≤ 1048576)
def OpenSpec.upto (s : _root_.Go.ChangeSpec) : _root_.Go.OpenSpec := { _root_.Go.OpenSpec.ofChange s with cond := some uptoSmall }

/-- 'horologelaw20.HeadPuts', WHERE WHAT IT READS IS OF BULK AT MOST 1048576: true; the input reads as it did. -/
def headPutsUptoRow : OpenClaim := { program := "ythfhidbdjiehhaa", sum := "65bb39aac4a90effcab37e61cb8d8bfa3471fee022f28d2274e59dad1e3ffa34", func := "horologe/horologelaw20.HeadPuts", spec := "headPuts", unfollowed := true, recurses := true, apart := false, narrowed := true }
def HeadPutsUptoSaid : Prop := headPutsUptoRow.holds Try.pinned (OpenSpec.upto headPutsSpec)

/-- 'horologelaw20.HeadPowers', WHERE WHAT IT READS IS OF BULK AT MOST 1048576: true; the input reads as it did. -/
def headPowersUptoRow : OpenClaim := { program := "ythfhidbdjiehhaa", sum := "65bb39aac4a90effcab37e61cb8d8bfa3471fee022f28d2274e59dad1e3ffa34", func := "horologe/horologelaw20.HeadPowers", spec := "headPowers", unfollowed := true, recurses := true, apart := false, narrowed := true }
def HeadPowersUptoSaid : Prop := headPowersUptoRow.holds Try.pinned (OpenSpec.upto headPowersSpec)

/-- 'horologelaw20.HeadTakes', WHERE WHAT IT READS IS OF BULK AT MOST 1048576: true; the input reads as it did. -/
def headTakesUptoRow : OpenClaim := { program := "ythfhidbdjiehhaa", sum := "65bb39aac4a90effcab37e61cb8d8bfa3471fee022f28d2274e59dad1e3ffa34", func := "horologe/horologelaw20.HeadTakes", spec := "headTakes", unfollowed := true, recurses := true, apart := false, narrowed := true }
def HeadTakesUptoSaid : Prop := headTakesUptoRow.holds Try.pinned (OpenSpec.upto headTakesSpec)

/-- 'horologelaw20.HeadBack', WHERE WHAT IT READS IS OF BULK AT MOST 1048576: true; the input reads as it did. -/
def headBackUptoRow : OpenClaim := { program := "ythfhidbdjiehhaa", sum := "65bb39aac4a90effcab37e61cb8d8bfa3471fee022f28d2274e59dad1e3ffa34", func := "horologe/horologelaw20.HeadBack", spec := "headBack", unfollowed := true, recurses := true, apart := false, narrowed := true }
def HeadBackUptoSaid : Prop := headBackUptoRow.holds Try.pinned (OpenSpec.upto headBackSpec)

/-- 'horologelaw20.HeadKnown', WHERE WHAT IT READS IS OF BULK AT MOST 1048576: true; the input reads as it did. -/
def headKnownUptoRow : OpenClaim := { program := "ythfhidbdjiehhaa", sum := "65bb39aac4a90effcab37e61cb8d8bfa3471fee022f28d2274e59dad1e3ffa34", func := "horologe/horologelaw20.HeadKnown", spec := "headKnown", unfollowed := true, recurses := true, apart := false, narrowed := true }
def HeadKnownUptoSaid : Prop := headKnownUptoRow.holds Try.pinned (OpenSpec.upto headKnownSpec)

/-- 'horologelaw20.HeadPatches', WHERE WHAT IT READS IS OF BULK AT MOST 1048576: true; the input reads as it did. -/
def headPatchesUptoRow : OpenClaim := { program := "ythfhidbdjiehhaa", sum := "65bb39aac4a90effcab37e61cb8d8bfa3471fee022f28d2274e59dad1e3ffa34", func := "horologe/horologelaw20.HeadPatches", spec := "headPatches", unfollowed := true, recurses := true, apart := false, narrowed := true }
def HeadPatchesUptoSaid : Prop := headPatchesUptoRow.holds Try.pinned (OpenSpec.upto headPatchesSpec)

end Rows
end Go.Proofs.Ythfhidbdjiehhaa
