/- Small facts for fault.Wrap: a sign's text; slots left open. -/
import Derived.Test.YtpgddboigegplaaGreatDoorRows
import Derived.Test.YtpgddboigegplaaGreatDoorFMayt
namespace Go.Proofs.YtpgddboigegplaaGreatDoor.base
open Go.Dg (junk St Ex Ev Hint evCall evCallS evCode evLoop cleanSt ue bodied noOver sbOf lBody Flats flatOver Heap AObj)
set_option linter.unusedVariables false

def qm : ByteArray := ⟨#[63]⟩
/-- A sign's text. -/
def runeS (z : Int) : ByteArray := Utf8.encode z
/-- Slots by a row. -/
def gOf (l : List Value) (n : Nat) : Value := l.getD (n - 19) junk
def oMayS (z : Int) : Bool := mayL (runeS z).data.toList
theorem may_all : ((List.range 256).all fun n => oMayS (n : Int) == inB n) = true := by kernel_rfl
theorem may_rune {n : Nat} (h : n < 256) : oMayS (n : Int) = inB n := eq_of_beq (List.all_eq_true.1 may_all n (List.mem_range.2 h))
theorem bc_get (l : List UInt8) (i : Nat) (h : i < l.length) : (byteCells (bs l))[i]? = some (.int .u8 ((l[i].toNat : Nat) : Int)) := by
  simp [byteCells, bs, h]
/-- The word that a note has. -/
def wordOf (s : ByteArray) : ByteArray := if mayL s.data.toList then s else qm
/-- An oracle that says nothing of fault.Wrap. -/
def noW (o : Ev) : Ev := fun f args H => bif Nat.beq f 10 then none else o f args H
/-- An oracle that knows 'may'. -/
def MayOk (ov : Ev) : Prop := ∀ (s : ByteArray) (H : Heap), ov 29 [.string s] H = some (.bool (mayL s.data.toList), H, [])
theorem may_call {ov : Ev} (ho : MayOk ov) {G lf m : Nat} {s : ByteArray} {b : Bool} (h : mayL s.data.toList = b) (H : Heap) : evCall Tryz.prog G (bodied Tryz.prog) ov sbs lf (m + 1) 29 [.string s] H = some (.bool b, H, []) :=
  Dg.evCall_over (by rw [← h]; exact ho s H)
theorem mayOk : MayOk (noW (flatOver oMay)) := fun _ _ => rfl
theorem noW_ok {G : Nat} {o : Ev} (h : Dg.CallOk Tryz.prog G o ∧ Dg.CallLog o) : Dg.CallOk Tryz.prog G (noW o) ∧ Dg.CallLog (noW o) := by
  have key : ∀ f args H r, noW o f args H = some r → o f args H = some r := by
    intro f args H r he
    unfold noW at he
    cases hb : Nat.beq f 10 with
    | true => rw [hb, cond_true] at he; cases he
    | false => rwa [hb, cond_false] at he
  exact ⟨fun f args H v H' log he => h.1 f args H v H' log (key _ _ _ _ he), fun f args H v H' log he => h.2 f args H v H' log (key _ _ _ _ he)⟩
/-- The oracle of this chapter's rows. -/
def ovY : Ev := noW (flatOver oMay)
theorem ovY_ok : Dg.CallOk Tryz.prog 15 ovY ∧ Dg.CallLog ovY := noW_ok (Dg.flatOver_ok oMay_flats)
noncomputable abbrev evY (lf n : Nat) (f : FuncId) (args : List Value) (H : Heap) : Option (Value × Heap × List Nat) := evCall Tryz.prog 15 (bodied Tryz.prog) ovY sbs lf n f args H
def eS (x : ByteArray) : AObj := .cells [.string x] 64 4 1
end Go.Proofs.YtpgddboigegplaaGreatDoor.base
