/- Closed facts of chapter 06's error types: what assertions and methods come to. Errors that lead to a fault, in a world of the model: through notes, errors of others that unwrap to one, and joined errors. What errors.Unwrap and fault.notes come to. How many notes fault.notes finds; whether fault.Line tells a line. errors.Is finds the fault, and its sort, in whatever leads to it. errors.Is and fault.Is find the fault and its sort. -/
import Derived.Test.YtpgddboigegplaaGreatDoorRows
import Derived.WalkKit
import Derived.LaidEql
import Derived.Stop.Asserts
import Derived.RowKitTokens
import Derived.Lib.Hide
import Derived.Lib.Walk
import Derived.Lib.AtoiErrMem
import Derived.BigCall
import Derived.Handy
import Derived.Deep.LoopGhost
namespace Go.Proofs.YtpgddboigegplaaGreatDoor.base
open Go.RowKit Go.Extern.Stop Go.Stop Go.Extern
set_option linter.unusedVariables false
theorem no110_45 (v : Value) (xT : TypeId) (w : World) : (Instr.typeAssert (.iface 45 v) xT 110 true).run Tryz.prog w = .ok (.tuple #[.nilIface, .bool false]) w := run_typeAssert_lacksB Tryz.underlying110 (by kernel_rfl) (by kernel_rfl) v xT w
theorem no110_57 (v : Value) (xT : TypeId) (w : World) : (Instr.typeAssert (.iface 57 v) xT 110 true).run Tryz.prog w = .ok (.tuple #[.nilIface, .bool false]) w := run_typeAssert_lacksB Tryz.underlying110 (by kernel_rfl) (by kernel_rfl) v xT w
theorem no110_62 (v : Value) (xT : TypeId) (w : World) : (Instr.typeAssert (.iface 62 v) xT 110 true).run Tryz.prog w = .ok (.tuple #[.nilIface, .bool false]) w := run_typeAssert_lacksB Tryz.underlying110 (by kernel_rfl) (by kernel_rfl) v xT w
theorem no110_67 (v : Value) (xT : TypeId) (w : World) : (Instr.typeAssert (.iface 67 v) xT 110 true).run Tryz.prog w = .ok (.tuple #[.nilIface, .bool false]) w := run_typeAssert_lacksB Tryz.underlying110 (by kernel_rfl) (by kernel_rfl) v xT w
theorem no110_70 (v : Value) (xT : TypeId) (w : World) : (Instr.typeAssert (.iface 70 v) xT 110 true).run Tryz.prog w = .ok (.tuple #[.nilIface, .bool false]) w := run_typeAssert_lacksB Tryz.underlying110 (by kernel_rfl) (by kernel_rfl) v xT w
theorem no110_94 (v : Value) (xT : TypeId) (w : World) : (Instr.typeAssert (.iface 94 v) xT 110 true).run Tryz.prog w = .ok (.tuple #[.nilIface, .bool false]) w := run_typeAssert_lacksB Tryz.underlying110 (by kernel_rfl) (by kernel_rfl) v xT w
theorem no121_45 (v : Value) (xT : TypeId) (w : World) : (Instr.typeAssert (.iface 45 v) xT 121 true).run Tryz.prog w = .ok (.tuple #[.nilIface, .bool false]) w := run_typeAssert_lacksB Tryz.underlying121 (by kernel_rfl) (by kernel_rfl) v xT w
theorem no121_57 (v : Value) (xT : TypeId) (w : World) : (Instr.typeAssert (.iface 57 v) xT 121 true).run Tryz.prog w = .ok (.tuple #[.nilIface, .bool false]) w := run_typeAssert_lacksB Tryz.underlying121 (by kernel_rfl) (by kernel_rfl) v xT w
theorem no121_62 (v : Value) (xT : TypeId) (w : World) : (Instr.typeAssert (.iface 62 v) xT 121 true).run Tryz.prog w = .ok (.tuple #[.nilIface, .bool false]) w := run_typeAssert_lacksB Tryz.underlying121 (by kernel_rfl) (by kernel_rfl) v xT w
theorem no121_67 (v : Value) (xT : TypeId) (w : World) : (Instr.typeAssert (.iface 67 v) xT 121 true).run Tryz.prog w = .ok (.tuple #[.nilIface, .bool false]) w := run_typeAssert_lacksB Tryz.underlying121 (by kernel_rfl) (by kernel_rfl) v xT w
theorem no121_70 (v : Value) (xT : TypeId) (w : World) : (Instr.typeAssert (.iface 70 v) xT 121 true).run Tryz.prog w = .ok (.tuple #[.nilIface, .bool false]) w := run_typeAssert_lacksB Tryz.underlying121 (by kernel_rfl) (by kernel_rfl) v xT w
theorem no121_94 (v : Value) (xT : TypeId) (w : World) : (Instr.typeAssert (.iface 94 v) xT 121 true).run Tryz.prog w = .ok (.tuple #[.nilIface, .bool false]) w := run_typeAssert_lacksB Tryz.underlying121 (by kernel_rfl) (by kernel_rfl) v xT w
theorem has90_67 (v : Value) (xT : TypeId) (w : World) : (Instr.typeAssert (.iface 67 v) xT 90 true).run Tryz.prog w = .ok (.tuple #[.iface 67 v, .bool true]) w := run_typeAssert_hasB Tryz.underlying90 (by kernel_rfl) v xT w
theorem has90_70 (v : Value) (xT : TypeId) (w : World) : (Instr.typeAssert (.iface 70 v) xT 90 true).run Tryz.prog w = .ok (.tuple #[.iface 70 v, .bool true]) w := run_typeAssert_hasB Tryz.underlying90 (by kernel_rfl) v xT w
theorem has90_57 (v : Value) (xT : TypeId) (w : World) : (Instr.typeAssert (.iface 57 v) xT 90 true).run Tryz.prog w = .ok (.tuple #[.iface 57 v, .bool true]) w := run_typeAssert_hasB Tryz.underlying90 (by kernel_rfl) v xT w
theorem no90_45 (v : Value) (xT : TypeId) (w : World) : (Instr.typeAssert (.iface 45 v) xT 90 true).run Tryz.prog w = .ok (.tuple #[.nilIface, .bool false]) w := run_typeAssert_lacksB Tryz.underlying90 (by kernel_rfl) (by kernel_rfl) v xT w
theorem no90_62 (v : Value) (xT : TypeId) (w : World) : (Instr.typeAssert (.iface 62 v) xT 90 true).run Tryz.prog w = .ok (.tuple #[.nilIface, .bool false]) w := run_typeAssert_lacksB Tryz.underlying90 (by kernel_rfl) (by kernel_rfl) v xT w
theorem no90_94 (v : Value) (xT : TypeId) (w : World) : (Instr.typeAssert (.iface 94 v) xT 90 true).run Tryz.prog w = .ok (.tuple #[.nilIface, .bool false]) w := run_typeAssert_lacksB Tryz.underlying90 (by kernel_rfl) (by kernel_rfl) v xT w
theorem has113_94 (v : Value) (xT : TypeId) (w : World) : (Instr.typeAssert (.iface 94 v) xT 113 true).run Tryz.prog w = .ok (.tuple #[.iface 94 v, .bool true]) w := run_typeAssert_hasB Tryz.underlying113 (by kernel_rfl) v xT w
theorem no113_45 (v : Value) (xT : TypeId) (w : World) : (Instr.typeAssert (.iface 45 v) xT 113 true).run Tryz.prog w = .ok (.tuple #[.nilIface, .bool false]) w := run_typeAssert_lacksB Tryz.underlying113 (by kernel_rfl) (by kernel_rfl) v xT w
theorem no113_57 (v : Value) (xT : TypeId) (w : World) : (Instr.typeAssert (.iface 57 v) xT 113 true).run Tryz.prog w = .ok (.tuple #[.nilIface, .bool false]) w := run_typeAssert_lacksB Tryz.underlying113 (by kernel_rfl) (by kernel_rfl) v xT w
theorem no113_62 (v : Value) (xT : TypeId) (w : World) : (Instr.typeAssert (.iface 62 v) xT 113 true).run Tryz.prog w = .ok (.tuple #[.nilIface, .bool false]) w := run_typeAssert_lacksB Tryz.underlying113 (by kernel_rfl) (by kernel_rfl) v xT w
theorem no113_67 (v : Value) (xT : TypeId) (w : World) : (Instr.typeAssert (.iface 67 v) xT 113 true).run Tryz.prog w = .ok (.tuple #[.nilIface, .bool false]) w := run_typeAssert_lacksB Tryz.underlying113 (by kernel_rfl) (by kernel_rfl) v xT w
theorem no113_70 (v : Value) (xT : TypeId) (w : World) : (Instr.typeAssert (.iface 70 v) xT 113 true).run Tryz.prog w = .ok (.tuple #[.nilIface, .bool false]) w := run_typeAssert_lacksB Tryz.underlying113 (by kernel_rfl) (by kernel_rfl) v xT w
theorem mUn67 (v : Value) (w : World) : (Go.method (212 + Made.depth) 67 v "Unwrap").run Tryz.prog w = .ok (127, v) w := by kernel_rfl
theorem mUn70 (v : Value) (w : World) : (Go.method (212 + Made.depth) 70 v "Unwrap").run Tryz.prog w = .ok (129, v) w := by kernel_rfl
theorem mUn57 (v : Value) (w : World) : (Go.method (212 + Made.depth) 57 v "Unwrap").run Tryz.prog w = .ok (124, v) w := by kernel_rfl
theorem mUn94 (v : Value) (w : World) : (Go.method (212 + Made.depth) 94 v "Unwrap").run Tryz.prog w = .ok (131, v) w := by kernel_rfl
theorem mEr45 (v : Value) (w : World) : (Go.method (212 + Made.depth) 45 v "Error").run Tryz.prog w = .ok (20, v) w := by kernel_rfl
theorem mEr57 (v : Value) (w : World) : (Go.method (212 + Made.depth) 57 v "Error").run Tryz.prog w = .ok (123, v) w := by kernel_rfl
theorem mEr62 (v : Value) (w : World) : (Go.method (212 + Made.depth) 62 v "Error").run Tryz.prog w = .ok (125, v) w := by kernel_rfl
theorem mEr67 (v : Value) (w : World) : (Go.method (212 + Made.depth) 67 v "Error").run Tryz.prog w = .ok (126, v) w := by kernel_rfl
theorem mEr70 (v : Value) (w : World) : (Go.method (212 + Made.depth) 70 v "Error").run Tryz.prog w = .ok (128, v) w := by kernel_rfl
theorem mEr94 (v : Value) (w : World) : (Go.method (212 + Made.depth) 94 v "Error").run Tryz.prog w = .ok (130, v) w := by kernel_rfl
theorem errIf : Tryz.prog.underlying 27 = some (.interface #[("Error", 43)]) := by kernel_rfl
theorem isn67_45 (v : Value) (xT : TypeId) (w : World) : (Instr.typeAssert (.iface 45 v) xT 67 true).run Tryz.prog w = .ok (.tuple #[.pointer none, .bool false]) w := by kernel_rfl
theorem isn67_57 (v : Value) (xT : TypeId) (w : World) : (Instr.typeAssert (.iface 57 v) xT 67 true).run Tryz.prog w = .ok (.tuple #[.pointer none, .bool false]) w := by kernel_rfl
theorem isn67_62 (v : Value) (xT : TypeId) (w : World) : (Instr.typeAssert (.iface 62 v) xT 67 true).run Tryz.prog w = .ok (.tuple #[.pointer none, .bool false]) w := by kernel_rfl
theorem is67_67 (v : Value) (xT : TypeId) (w : World) : (Instr.typeAssert (.iface 67 v) xT 67 true).run Tryz.prog w = .ok (.tuple #[v, .bool true]) w := by kernel_rfl
theorem isn67_70 (v : Value) (xT : TypeId) (w : World) : (Instr.typeAssert (.iface 70 v) xT 67 true).run Tryz.prog w = .ok (.tuple #[.pointer none, .bool false]) w := by kernel_rfl
theorem isn67_94 (v : Value) (xT : TypeId) (w : World) : (Instr.typeAssert (.iface 94 v) xT 67 true).run Tryz.prog w = .ok (.tuple #[.pointer none, .bool false]) w := by kernel_rfl
theorem isn70_45 (v : Value) (xT : TypeId) (w : World) : (Instr.typeAssert (.iface 45 v) xT 70 true).run Tryz.prog w = .ok (.tuple #[.pointer none, .bool false]) w := by kernel_rfl
theorem isn70_57 (v : Value) (xT : TypeId) (w : World) : (Instr.typeAssert (.iface 57 v) xT 70 true).run Tryz.prog w = .ok (.tuple #[.pointer none, .bool false]) w := by kernel_rfl
theorem isn70_62 (v : Value) (xT : TypeId) (w : World) : (Instr.typeAssert (.iface 62 v) xT 70 true).run Tryz.prog w = .ok (.tuple #[.pointer none, .bool false]) w := by kernel_rfl
theorem isn70_67 (v : Value) (xT : TypeId) (w : World) : (Instr.typeAssert (.iface 67 v) xT 70 true).run Tryz.prog w = .ok (.tuple #[.pointer none, .bool false]) w := by kernel_rfl
theorem is70_70 (v : Value) (xT : TypeId) (w : World) : (Instr.typeAssert (.iface 70 v) xT 70 true).run Tryz.prog w = .ok (.tuple #[v, .bool true]) w := by kernel_rfl
theorem isn70_94 (v : Value) (xT : TypeId) (w : World) : (Instr.typeAssert (.iface 94 v) xT 70 true).run Tryz.prog w = .ok (.tuple #[.pointer none, .bool false]) w := by kernel_rfl
theorem ty45 (v : Value) (w : World) : (callFunc 31 #[.iface 45 v]).run Tryz.prog w = .ok (.value (.iface 108 (.agg #[.pointer (some ⟨14, 45, none⟩)]))) w := by kernel_rfl
theorem ty57 (v : Value) (w : World) : (callFunc 31 #[.iface 57 v]).run Tryz.prog w = .ok (.value (.iface 108 (.agg #[.pointer (some ⟨14, 57, none⟩)]))) w := by kernel_rfl
theorem ty62 (v : Value) (w : World) : (callFunc 31 #[.iface 62 v]).run Tryz.prog w = .ok (.value (.iface 108 (.agg #[.pointer (some ⟨14, 62, none⟩)]))) w := by kernel_rfl
theorem ty67 (v : Value) (w : World) : (callFunc 31 #[.iface 67 v]).run Tryz.prog w = .ok (.value (.iface 108 (.agg #[.pointer (some ⟨14, 67, none⟩)]))) w := by kernel_rfl
theorem ty70 (v : Value) (w : World) : (callFunc 31 #[.iface 70 v]).run Tryz.prog w = .ok (.value (.iface 108 (.agg #[.pointer (some ⟨14, 70, none⟩)]))) w := by kernel_rfl
theorem ty94 (v : Value) (w : World) : (callFunc 31 #[.iface 94 v]).run Tryz.prog w = .ok (.value (.iface 108 (.agg #[.pointer (some ⟨14, 94, none⟩)]))) w := by kernel_rfl
end Go.Proofs.YtpgddboigegplaaGreatDoor.base

namespace Go.Proofs.YtpgddboigegplaaGreatDoor.base
open Go.RowKit Go.Extern.Stop Go.Stop Go.Extern
set_option linter.unusedVariables false

inductive Lk | note (s : ByteArray) | around | join
inductive Lead (W : World) (fb fo : Nat) : TypeId → Value → List Lk → Prop
  | fault : Lead W fb fo 70 (.pointer (some ⟨fb, fo, none⟩)) []
  | note (pb po : Nat) (s : ByteArray) (t : TypeId) (v : Value) (l : List Lk) : W.cell? ⟨pb, po, none⟩ = some (.string s) → W.cell? ⟨pb, po + 1, none⟩ = some (.iface t v) → Lead W fb fo t v l → Lead W fb fo 67 (.pointer (some ⟨pb, po, none⟩)) (.note s :: l)
  | around (t : TypeId) (v : Value) (l : List Lk) : Lead W fb fo t v l → Lead W fb fo 57 (.agg #[.iface t v]) (.around :: l)
  | join (jb jo sb so : Nat) (q : Addr) (t : TypeId) (v : Value) (l : List Lk) : W.cell? ⟨jb, jo, none⟩ = some (.slice (some ⟨sb, so, none⟩) 2 2) → W.cell? ⟨sb, so, none⟩ = some (.iface 62 (.pointer (some q))) → W.cell? ⟨sb, so + 1, none⟩ = some (.iface t v) → Lead W fb fo t v l →
      Lead W fb fo 94 (.pointer (some ⟨jb, jo, none⟩)) (.join :: l)
theorem cell_up {w w' : World} {b i : Nat} {v : Value} (hb : Below w.heap.size w w') (h : w.cell? ⟨b, i, none⟩ = some v) : w'.cell? ⟨b, i, none⟩ = some v := by
  rw [← h]
  exact hb.cell (Lib.lt_of_cell h)
theorem Lead.up {w w' : World} (hb : Below w.heap.size w w') {fb fo : Nat} {t : TypeId} {v : Value} {l : List Lk} (h : Lead w fb fo t v l) : Lead w' fb fo t v l := by
  induction h with
  | fault => exact .fault
  | note pb po s t v l h1 h2 _ ih => exact .note pb po s t v l (cell_up hb h1) (cell_up hb h2) ih
  | around t v l _ ih => exact .around t v l ih
  | join jb jo sb so q t v l h1 h2 h3 _ ih => exact .join jb jo sb so q t v l (cell_up hb h1) (cell_up hb h2) (cell_up hb h3) ih
/-- A fault's kind and place. -/
def FaultAt (W : World) (fb fo : Nat) (k o : Int) : Prop := W.cell? ⟨fb, fo, none⟩ = some (.int .i64 k) ∧ W.cell? ⟨fb, fo + 1, none⟩ = some (.int .i64 o)
theorem FaultAt.up {w w' : World} (hb : Below w.heap.size w w') {fb fo : Nat} {k o : Int} (h : FaultAt w fb fo k o) : FaultAt w' fb fo k o := ⟨cell_up hb h.1, cell_up hb h.2⟩
/-- What is left behind a call that laid memory. -/
def Up (W : World) (v : Value) (e : Ending) (w' : World) : Prop := e = .returned v ∧ Below W.heap.size W w'

set_option maxRecDepth 1000000 in
theorem unwrap_note (pb po : Nat) (E : Value) (W : World) (hc : W.cell? ⟨pb, po + 1, none⟩ = some E) :
    Calls Tryz.prog 25 #[.iface 67 (.pointer (some ⟨pb, po, none⟩))] W fun e w' => e = .returned E ∧ Below W.heap.size W w' := by
  have uE := has90_67
  have mU := mUn67
  go_enter Tryz.func25, Tryz.ntmps25
  go_wp2
  go_ret
  exact ⟨rfl, Below.refl _ _⟩
set_option maxRecDepth 1000000 in
theorem unwrap_fault (pb po : Nat) (k : Int) (W : World) (hc : W.cell? ⟨pb, po, none⟩ = some (.int .i64 k)) :
    Calls Tryz.prog 25 #[.iface 70 (.pointer (some ⟨pb, po, none⟩))] W fun e w' => e = .returned (.iface 45 (.int .i64 k)) ∧ Below W.heap.size W w' := by
  have uE := has90_70
  have mU := mUn70
  go_enter Tryz.func25, Tryz.ntmps25
  go_wp2
  go_ret
  exact ⟨rfl, Below.refl _ _⟩
set_option maxRecDepth 1000000 in
theorem unwrap_around (t : TypeId) (v : Value) (W : World) :
    Calls Tryz.prog 25 #[.iface 57 (.agg #[.iface t v])] W fun e w' => e = .returned (.iface t v) ∧ Below W.heap.size W w' := by
  have uE := has90_57
  have mU := mUn57
  go_enter Tryz.func25, Tryz.ntmps25
  go_wp2
  go_ret
  exact ⟨rfl, (Below.refl _ _).alloc (Nat.le_refl _) _⟩
set_option maxRecDepth 1000000 in
theorem unwrap_none (t : TypeId) (v : Value) (W : World) (h : t = 45 ∨ t = 62 ∨ t = 94) :
    Calls Tryz.prog 25 #[.iface t v] W fun e w' => e = .returned .nilIface ∧ Below W.heap.size W w' := by
  rcases h with rfl | rfl | rfl
  · have uE := no90_45
    go_enter Tryz.func25, Tryz.ntmps25
    go_wp2
    go_ret
    exact ⟨rfl, Below.refl _ _⟩
  · have uE := no90_62
    go_enter Tryz.func25, Tryz.ntmps25
    go_wp2
    go_ret
    exact ⟨rfl, Below.refl _ _⟩
  · have uE := no90_94
    go_enter Tryz.func25, Tryz.ntmps25
    go_wp2
    go_ret
    exact ⟨rfl, Below.refl _ _⟩
end Go.Proofs.YtpgddboigegplaaGreatDoor.base

namespace Go.Proofs.YtpgddboigegplaaGreatDoor.base
open Go.RowKit Go.Extern.Stop Go.Stop Go.Extern
set_option linter.unusedVariables false

/-- The notes that errors.Unwrap comes by. -/
def cntN : List Lk → Nat
  | [] => 0
  | .note _ :: l => cntN l + 1
  | .around :: l => cntN l
  | .join :: _ => 0
theorem cntN_le : ∀ l, cntN l ≤ l.length
  | [] => Nat.le_refl _
  | .note _ :: l => Nat.succ_le_succ (cntN_le l)
  | .around :: l => Nat.le_succ_of_le (cntN_le l)
  | .join :: _ => Nat.zero_le _
/-- Where fault.notes stands: at nothing; at a sort; at what leads to the fault. -/
def NSt (W : World) (fb fo : Nat) (c : Nat) (k : Int) (g : Nat) (E n : Value) (wl : World) : Prop :=
  Below W.heap.size W wl ∧ ((E = .nilIface ∧ n = .int .i64 c) ∨ (E = .iface 45 (.int .i64 k) ∧ n = .int .i64 c ∧ 1 ≤ g) ∨
    ∃ t v l' m, E = .iface t v ∧ Lead W fb fo t v l' ∧ n = .int .i64 (m : Nat) ∧ m + cntN l' = c ∧ l'.length + 2 ≤ g)
set_option maxHeartbeats 1000000 in
set_option maxRecDepth 1000000 in
theorem notes_any (W : World) (fb fo : Nat) (k o : Int) (hF : FaultAt W fb fo k o) (t : TypeId) (v : Value) (l : List Lk) (hl : Lead W fb fo t v l) (hn : l.length < 1000000) :
    Calls Tryz.prog 28 #[.iface t v] W fun e w' => e = .returned (.int .i64 (cntN l : Nat)) ∧ Below W.heap.size W w' := by
  have hc := cntN_le l
  have a45 := isn67_45
  have a57 := isn67_57
  have a67 := is67_67
  have a70 := isn67_70
  have a94 := isn67_94
  have HF := Lib.hid hF
  have HL := Lib.hid hl
  clear hF hl
  go_enter Tryz.func28, Tryz.ntmps28
  go_wp2
  go_loopg [0, 3] (l.length + 2) (fun g E n wl => NSt W fb fo (cntN l) k g E n wl)
  case atStart => exact ⟨Below.refl _ _, .inr (.inr ⟨t, v, l, 0, rfl, HL.out, rfl, by omega, Nat.le_refl _⟩)⟩
  case round =>
    obtain ⟨hb, ⟨rfl, rfl⟩ | ⟨rfl, rfl, hg⟩ | ⟨t, v, l', m, rfl, hl', rfl, hm, hg⟩⟩ := hrel
    · go_wp2
      go_ret
      exact ⟨rfl, hb⟩
    · go_wp2_with (go_at_call 25; refine (unwrap_none _ _ _ (.inl rfl)).mono ?_; rintro e w1 ⟨rfl, hb1⟩)
      go_roundg 0
      case measure => omega
      case rel => exact ⟨hb.trans (hb1.mono hb.size), .inl ⟨rfl, rfl⟩⟩
    · cases hl' with
      | fault =>
        have hF := (HF.out.up hb).1
        go_wp2_with (go_at_call 25; refine (unwrap_fault _ _ _ _ hF).mono ?_; rintro e w1 ⟨rfl, hb1⟩)
        go_roundg 1
        case measure => simp at hg; omega
        case rel => exact ⟨hb.trans (hb1.mono hb.size), .inr (.inl ⟨rfl, by simp [cntN] at hm; rw [hm], Nat.le_refl _⟩)⟩
      | note pb po s t v l h1 h2 h3 =>
        have hl2 := cntN_le l
        have h2 := cell_up hb h2
        have H3 := Lib.hid h3
        clear h3 h1
        simp only [cntN, List.length_cons] at hm hg
        go_wp2_with (go_at_call 25; refine (unwrap_note _ _ _ _ h2).mono ?_; rintro e w1 ⟨rfl, hb1⟩)
        go_roundg (l.length + 2)
        case measure => omega
        case rel => exact ⟨hb.trans (hb1.mono hb.size), .inr (.inr ⟨t, v, l, m + 1, rfl, H3.out, by go_num, by omega, Nat.le_refl _⟩)⟩
      | around t v l h3 =>
        have H3 := Lib.hid h3
        clear h3
        simp only [cntN, List.length_cons] at hm hg
        go_wp2_with (go_at_call 25; refine (unwrap_around _ _ _).mono ?_; rintro e w1 ⟨rfl, hb1⟩)
        go_roundg (l.length + 2)
        case measure => omega
        case rel => exact ⟨hb.trans (hb1.mono hb.size), .inr (.inr ⟨t, v, l, m, rfl, H3.out, rfl, by omega, Nat.le_refl _⟩)⟩
      | join jb jo sb so q t v l h1 h2 h3 h4 =>
        clear h1 h2 h3 h4
        simp only [cntN, List.length_cons] at hm hg
        go_wp2_with (go_at_call 25; refine (unwrap_none _ _ _ (.inr (.inr rfl))).mono ?_; rintro e w1 ⟨rfl, hb1⟩)
        go_roundg 0
        case measure => omega
        case rel => exact ⟨hb.trans (hb1.mono hb.size), .inl ⟨rfl, by rw [← hm]; rfl⟩⟩
end Go.Proofs.YtpgddboigegplaaGreatDoor.base

namespace Go.Proofs.YtpgddboigegplaaGreatDoor.base
open Go.RowKit Go.Extern.Stop Go.Stop Go.Extern
set_option linter.unusedVariables false

theorem comp70 : (Tryz.prog.info? 70).map (·.comparable) = some true := by kernel_rfl
theorem size73 : (Tryz.prog.info? 73).map (·.size) = some 2 := by kernel_rfl
theorem eq45 (k : Int) (w : World) : (Go.binOp .eql 27 (.iface 45 (.int .i64 k)) (.iface 45 (.int .i64 k))).run Tryz.prog w = .ok (.bool (k == k)) w := by kernel_rfl
/-- What is looked for: the fault itself, or its sort. -/
inductive Tgt (fb fo : Nat) (k : Int) : TypeId → Value → Prop
  | self : Tgt fb fo k 70 (.pointer (some ⟨fb, fo, none⟩))
  | sort : Tgt fb fo k 45 (.int .i64 k)
set_option maxRecDepth 1000000 in
theorem is_other {fb fo : Nat} {k : Int} {t : TypeId} {v : Value} (ht : Tgt fb fo k t v) (q : Addr) (W : World) :
    Calls Tryz.prog 32 #[.iface 62 (.pointer (some q)), .iface t v, .bool true] W fun e w' => e = .returned (.bool false) ∧ Below W.heap.size W w' := by
  have f1 := no110_62
  have f2 := no90_62
  have f3 := no113_62
  have hty := fun wr => run_eql_iface_types (P := Tryz.prog) 62 t (.pointer (some q)) v errIf (by cases ht <;> decide) wr
  clear ht
  go_enter Tryz.func32, Tryz.ntmps32
  go_wp2
  refine wp_loop_rounds 1 ?_
  rw [rounds_succ]
  go_wp2
  go_ret
  exact ⟨rfl, Below.refl _ _⟩
/-- Where errors.is stands. -/
def ISt (W : World) (fb fo : Nat) (k : Int) (t0 : TypeId) (n g : Nat) (E : Value) (wl : World) : Prop :=
  Below W.heap.size W wl ∧ ((E = .iface 45 (.int .i64 k) ∧ t0 = 45) ∨ ∃ t v l', E = .iface t v ∧ Lead W fb fo t v l' ∧ l'.length ≤ n ∧ l'.length + 1 ≤ g)
set_option maxHeartbeats 2000000 in
set_option maxRecDepth 1000000 in
theorem is_step (W : World) (fb fo : Nat) (k o : Int) (hF : FaultAt W fb fo k o) {t0 : TypeId} {v0 : Value} (ht : Tgt fb fo k t0 v0) (l : List Lk)
    (ih : ∀ (W' : World), Below W.heap.size W W' → ∀ t v l', l'.length < l.length → Lead W fb fo t v l' → Calls Tryz.prog 32 #[.iface t v, .iface t0 v0, .bool true] W' fun e w' => e = .returned (.bool true) ∧ Below W'.heap.size W' w')
    (t : TypeId) (v : Value) (hl : Lead W fb fo t v l) (W1 : World) (hW1 : Below W.heap.size W W1) :
    Calls Tryz.prog 32 #[.iface t v, .iface t0 v0, .bool true] W1 fun e w' => e = .returned (.bool true) ∧ Below W1.heap.size W1 w' := by
  obtain ⟨i, hi, hcmp⟩ := Option.map_eq_some_iff.1 comp70
  obtain ⟨j, hj, hjs⟩ := Option.map_eq_some_iff.1 size73
  have a1 := no110_45
  have a2 := no110_57
  have a3 := no110_67
  have a4 := no110_70
  have a5 := no110_94
  have b2 := has90_57
  have b3 := has90_67
  have b4 := has90_70
  have b5 := no90_94
  have c5 := has113_94
  have m2 := mUn57
  have m3 := mUn67
  have m4 := mUn70
  have m5 := mUn94
  have e57 := fun v wr => run_eql_iface_types (P := Tryz.prog) 57 t0 v v0 errIf (by cases ht <;> decide) wr
  have e67 := fun v wr => run_eql_iface_types (P := Tryz.prog) 67 t0 v v0 errIf (by cases ht <;> decide) wr
  have e94 := fun v wr => run_eql_iface_types (P := Tryz.prog) 94 t0 v v0 errIf (by cases ht <;> decide) wr
  have HF := Lib.hid hF
  have HL := Lib.hid hl
  have HI := Lib.hid ih
  have HB := Lib.hid hW1
  clear hF hl ih hW1
  go_enter Tryz.func32, Tryz.ntmps32
  go_wp2
  go_loopg [0] (l.length + 1) (fun g E wl => Below W1.heap.size W1 wl ∧ ISt W fb fo k t0 l.length g E wl)
  case atStart => exact ⟨Below.refl _ _, HB.out, .inr ⟨t, v, l, rfl, HL.out, Nat.le_refl _, Nat.le_refl _⟩⟩
  case round =>
    obtain ⟨hb1, hb, ⟨rfl, rfl⟩ | ⟨t, v, l', rfl, hl', hn, hg⟩⟩ := hrel
    · cases ht
      have ek : (Go.binOp .eql 27 (.iface 45 (.int .i64 k)) (.iface 45 (.int .i64 k))).run Tryz.prog wr = .ok (.bool true) wr := by rw [eq45]; simp
      go_wp2
      go_ret
      exact ⟨rfl, hb1⟩
    · cases hl' with
      | fault =>
        have hF := (HF.out.up hb).1
        cases ht with
        | self =>
          have heq := run_eql_iface_ptr_same (P := Tryz.prog) wr ⟨fb, fo, none⟩ errIf Tryz.underlying70 hi hcmp hj
          go_wp2
          go_ret
          exact ⟨rfl, hb1⟩
        | sort =>
          have heq := fun v wr => run_eql_iface_types (P := Tryz.prog) 70 45 v (.int .i64 k) errIf (by decide) wr
          simp only [List.length_nil] at hg
          go_wp2
          go_roundg 0
          case measure => omega
          case rel => exact ⟨hb1, hb, .inl ⟨rfl, rfl⟩⟩
      | note pb po s t v l2 h1 h2 h3 =>
        have h2 := cell_up hb h2
        have H3 := Lib.hid h3
        clear h3 h1
        simp only [List.length_cons] at hg hn
        go_wp2
        go_roundg (l2.length + 1)
        case measure => omega
        case rel => exact ⟨hb1, hb, .inr ⟨t, v, l2, rfl, H3.out, by omega, Nat.le_refl _⟩⟩
      | around t v l2 h3 =>
        have H3 := Lib.hid h3
        clear h3
        simp only [List.length_cons] at hg hn
        go_wp2
        go_roundg (l2.length + 1)
        case measure => omega
        case rel => exact ⟨hb1.trans ((Below.refl _ _).alloc (Nat.le_refl _) _ |>.mono hb1.size), hb.trans ((Below.refl _ _).alloc (Nat.le_refl _) _ |>.mono hb.size), .inr ⟨t, v, l2, rfl, H3.out, by omega, Nat.le_refl _⟩⟩
      | join jb jo sb so q t v l2 h1 h2 h3 h4 =>
        have h1 := cell_up hb h1
        have h2 := cell_up hb h2
        have h3 := cell_up hb h3
        have H4 := Lib.hid h4
        clear h4
        simp only [List.length_cons] at hg hn
        go_wp2
        obtain ⟨wo, rfl⟩ : ∃ wo : World, wo = wr := ⟨_, rfl⟩
        go_loopg [45] 1 (fun g i wl => Below wo.heap.size wo wl ∧ ∃ j : Nat, i = .int .i64 j ∧ j + g = 1)
        case atStart => exact ⟨Below.refl _ _, 0, rfl, rfl⟩
        case round =>
          obtain ⟨hbl, j, rfl, hj⟩ := hrel
          have h2 := cell_up hbl h2
          have h3 := cell_up hbl h3
          have hlt : gk = 1 ∨ gk = 0 := by omega
          rcases hlt with rfl | rfl
          · obtain rfl : j = 0 := by omega
            go_wp2_with (go_at_call 32; refine (is_other ht _ _).mono ?_; rintro e w1 ⟨rfl, hb2⟩)
            go_roundg 0
            case measure => omega
            case rel => exact ⟨hbl.trans (hb2.mono hbl.size), 1, rfl, rfl⟩
          · obtain rfl : j = 1 := by omega
            go_wp2_with (go_at_call 32; refine (HI.out _ (hb.trans (hbl.mono hb.size)) _ _ _ (by omega) H4.out).mono ?_; rintro e w1 ⟨rfl, hb2⟩)
            go_ret
            exact ⟨rfl, hb1.trans ((hbl.trans (hb2.mono hbl.size)).mono hb1.size)⟩
theorem is_any (W : World) (fb fo : Nat) (k o : Int) (hF : FaultAt W fb fo k o) {t0 : TypeId} {v0 : Value} (ht : Tgt fb fo k t0 v0) : ∀ (n : Nat) (l : List Lk), l.length < n → ∀ (t : TypeId) (v : Value), Lead W fb fo t v l → ∀ (W1 : World), Below W.heap.size W W1 →
    Calls Tryz.prog 32 #[.iface t v, .iface t0 v0, .bool true] W1 fun e w' => e = .returned (.bool true) ∧ Below W1.heap.size W1 w' := by
  intro n
  induction n with
  | zero => intro l h; omega
  | succ n ih => exact fun l hn t v hl W1 hW1 => is_step W fb fo k o hF ht l (fun W' hb t v l' hlt hl' => ih l' (by omega) t v hl' W' hb) t v hl W1 hW1
end Go.Proofs.YtpgddboigegplaaGreatDoor.base

namespace Go.Proofs.YtpgddboigegplaaGreatDoor.base
open Go.RowKit Go.Extern.Stop Go.Stop Go.Extern
set_option linter.unusedVariables false

theorem mComp (v : Value) (w : World) : (Go.method (212 + Made.depth) 108 v "Comparable").run Tryz.prog w = .ok (137, v) w := by kernel_rfl
theorem comp_45 (w : World) : (callFunc 137 #[.agg #[.pointer (some ⟨14, 45, none⟩)]]).run Tryz.prog w = .ok (.value (.bool true)) w := by kernel_rfl
theorem comp_70 (w : World) : (callFunc 137 #[.agg #[.pointer (some ⟨14, 70, none⟩)]]).run Tryz.prog w = .ok (.value (.bool true)) w := by kernel_rfl
set_option maxRecDepth 1000000 in
theorem errorsIs (W : World) (fb fo : Nat) (k o : Int) (hF : FaultAt W fb fo k o) {t0 : TypeId} {v0 : Value} (ht : Tgt fb fo k t0 v0) (l : List Lk) (t : TypeId) (v : Value) (hl : Lead W fb fo t v l) :
    Calls Tryz.prog 14 #[.iface t v, .iface t0 v0] W fun e w' => e = .returned (.bool true) ∧ Below W.heap.size W w' := by
  have hc := is_any W fb fo k o hF ht (l.length + 1) l (by omega) t v hl
  have m := mComp
  cases ht with
  | self =>
    have t1 := ty70
    have t2 := comp_70
    clear hF hl
    go_enter Tryz.func14, Tryz.ntmps14
    go_wp2_with (go_at_call 32; refine (hc _ (Below.refl _ _)).mono ?_; rintro e w1 ⟨rfl, hb1⟩)
    go_ret
    exact ⟨rfl, hb1⟩
  | sort =>
    have t1 := ty45
    have t2 := comp_45
    clear hF hl
    go_enter Tryz.func14, Tryz.ntmps14
    go_wp2_with (go_at_call 32; refine (hc _ (Below.refl _ _)).mono ?_; rintro e w1 ⟨rfl, hb1⟩)
    go_ret
    exact ⟨rfl, hb1⟩
set_option maxRecDepth 1000000 in
theorem faultIs (W : World) (fb fo : Nat) (k o : Int) (hF : FaultAt W fb fo k o) (l : List Lk) (t : TypeId) (v : Value) (hl : Lead W fb fo t v l) :
    Calls Tryz.prog 15 #[.iface t v, .int .i64 k] W fun e w' => e = .returned (.bool true) ∧ Below W.heap.size W w' := by
  have hc := errorsIs W fb fo k o hF .sort l t v hl
  clear hF hl
  go_enter Tryz.func15, Tryz.ntmps15
  go_wp2_with (go_at_call 14; refine hc.mono ?_; rintro e w1 ⟨rfl, hb1⟩)
  go_ret
  exact ⟨rfl, hb1⟩
end Go.Proofs.YtpgddboigegplaaGreatDoor.base
