/- What is amiss is found, told, grave or not: closed runs over the value alone. What is amiss is told and noted: closed runs over the value alone, at each place. -/
import Derived.Test.YtmnoegfehgoalaaGreatDoorRows
import Derived.Test.YtmnoegfehgoalaaGreatDoorABase
namespace Go.Proofs.YtmnoegfehgoalaaGreatDoor.base
open Go.Dg (junk St Ex Ev Hint evCall evCallS evLoop bodied noOver Flats flatOver Heap AObj embOf heapOf ObjRel Globs)
set_option linter.unusedVariables false
def foundV (s : ByteArray) (a : Int) : Value := .tuple #[.string s, .int .i64 a, .bool true]
theorem fa1 (E : Nat → TypeId) (a : Int) : (evA 13 [pA] (HA E sLine a 4)).map (·.1) = some (foundV sLine a) := by kernel_rfl
theorem fa2 (E : Nat → TypeId) (a : Int) : (evA 13 [pA] (HA E sSample a 6)).map (·.1) = some (foundV sSample a) := by kernel_rfl
theorem fa3 (E : Nat → TypeId) (a : Int) : (evA 13 [pA] (HA E sLag a 5)).map (·.1) = some (foundV sLag a) := by kernel_rfl
theorem fn1 (E : Nat → TypeId) (a : Int) : (evA 13 [pN 11] (HN E sLine a 4)).map (·.1) = some (foundV sLine a) := by kernel_rfl
theorem fn2 (E : Nat → TypeId) (a : Int) : (evA 13 [pN 11] (HN E sSample a 6)).map (·.1) = some (foundV sSample a) := by kernel_rfl
theorem fn3 (E : Nat → TypeId) (a : Int) : (evA 13 [pN 11] (HN E sLag a 5)).map (·.1) = some (foundV sLag a) := by kernel_rfl
def kindV (k : Int) : Value := .tuple #[.int .i64 k, .bool true]
theorem ka1 (E : Nat → TypeId) (a : Int) : (evA 20 [pA] (HA E sLine a 4)).map (·.1) = some (kindV 4) := by kernel_rfl
theorem ka2 (E : Nat → TypeId) (a : Int) : (evA 20 [pA] (HA E sSample a 6)).map (·.1) = some (kindV 6) := by kernel_rfl
theorem ka3 (E : Nat → TypeId) (a : Int) : (evA 20 [pA] (HA E sLag a 5)).map (·.1) = some (kindV 5) := by kernel_rfl
def sortV (k : Int) : Value := .iface 74 (.int .i64 k)
theorem ia1 (E : Nat → TypeId) (a : Int) : (evA 21 [pA, sortV 4] (HA E sLine a 4)).map (·.1) = some (.bool true) := by kernel_rfl
theorem ia2 (E : Nat → TypeId) (a : Int) : (evA 21 [pA, sortV 6] (HA E sSample a 6)).map (·.1) = some (.bool true) := by kernel_rfl
theorem ia3 (E : Nat → TypeId) (a : Int) : (evA 21 [pA, sortV 5] (HA E sLag a 5)).map (·.1) = some (.bool true) := by kernel_rfl
theorem ga1 (E : Nat → TypeId) (a : Int) : (evA 18 [pA] (HA E sLine a 4)).map (·.1) = some (.bool true) := by kernel_rfl
theorem ga2 (E : Nat → TypeId) (a : Int) : (evA 18 [pA] (HA E sSample a 6)).map (·.1) = some (.bool false) := by kernel_rfl
theorem ga3 (E : Nat → TypeId) (a : Int) : (evA 18 [pA] (HA E sLag a 5)).map (·.1) = some (.bool false) := by kernel_rfl
end Go.Proofs.YtmnoegfehgoalaaGreatDoor.base
namespace Go.Proofs.YtmnoegfehgoalaaGreatDoor.base
open Go.Dg (junk St Ex Ev Hint evCall evCallS evLoop bodied noOver Flats flatOver Heap AObj embOf heapOf ObjRel Globs)
set_option linter.unusedVariables false
theorem wa1 (E : Nat → TypeId) (a : Int) : (evA 14 [pA, .string sWord] (HA E sLine a 4)).map (fun r => (r.1, r.2.1.get 11)) = some (pN 11, .cells nCells 101 0 1) := by kernel_rfl
theorem wa2 (E : Nat → TypeId) (a : Int) : (evA 14 [pA, .string sWord] (HA E sSample a 6)).map (fun r => (r.1, r.2.1.get 11)) = some (pN 11, .cells nCells 101 0 1) := by kernel_rfl
theorem wa3 (E : Nat → TypeId) (a : Int) : (evA 14 [pA, .string sWord] (HA E sLag a 5)).map (fun r => (r.1, r.2.1.get 11)) = some (pN 11, .cells nCells 101 0 1) := by kernel_rfl
/-- A small number's digits. -/
def digs (a : Nat) : ByteArray := if a < 10 then ⟨#[UInt8.ofNat (48 + a)]⟩ else ⟨#[UInt8.ofNat (48 + a / 10), UInt8.ofNat (48 + a % 10)]⟩
/-- What a sort says. -/
def sortS (k : Nat) : ByteArray := ⟨#[107, 105, 110, 100, 32, UInt8.ofNat (48 + k)]⟩
def saidS (s : ByteArray) (a k : Nat) : ByteArray := s ++ ⟨#[32]⟩ ++ digs a ++ ⟨#[58, 32]⟩ ++ sortS k
def pP : Value := .pointer (some ⟨10, 0, none⟩)
theorem de_all (E : Nat → TypeId) : (List.range 60).map (fun a => (evA 22 [.int .i64 (a : Nat)] (H0 E [])).map (·.1)) = (List.range 60).map fun a => some (Value.string (digs a)) := by kernel_rfl
theorem so_4 (E : Nat → TypeId) : (evA 23 [.int .i64 4] (H0 E [])).map (·.1) = some (.string (sortS 4)) := by kernel_rfl
theorem so_5 (E : Nat → TypeId) : (evA 23 [.int .i64 5] (H0 E [])).map (·.1) = some (.string (sortS 5)) := by kernel_rfl
theorem so_6 (E : Nat → TypeId) : (evA 23 [.int .i64 6] (H0 E [])).map (·.1) = some (.string (sortS 6)) := by kernel_rfl
theorem er_1 (E : Nat → TypeId) : (List.range 60).map (fun a => (evA 16 [pP] (HA E sLine (a : Nat) 4)).map (·.1)) = (List.range 60).map fun a => some (Value.string (saidS sLine a 4)) := by kernel_rfl
theorem er_2 (E : Nat → TypeId) : (List.range 60).map (fun a => (evA 16 [pP] (HA E sSample (a : Nat) 6)).map (·.1)) = (List.range 60).map fun a => some (Value.string (saidS sSample a 6)) := by kernel_rfl
theorem er_3 (E : Nat → TypeId) : (List.range 60).map (fun a => (evA 16 [pP] (HA E sLag (a : Nat) 5)).map (·.1)) = (List.range 60).map fun a => some (Value.string (saidS sLag a 5)) := by kernel_rfl
end Go.Proofs.YtmnoegfehgoalaaGreatDoor.base
