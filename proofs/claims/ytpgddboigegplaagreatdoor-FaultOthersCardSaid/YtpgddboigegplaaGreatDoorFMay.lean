/- The rounds of strings.Trim over a set of signs. -/
import Derived.Test.YtpgddboigegplaaGreatDoorRows
import Derived.Test.YtpgddboigegplaaGreatDoorFBase
namespace Go.Proofs.YtpgddboigegplaaGreatDoor.base
open Go.Dg (junk St Ex Ev Hint evCall evCallS evCode evCodeK innerKp evCodeS evLoop cleanSt ue bodied noOver sbOf headOf tailOf bodyOf rAssign rBody lBody Flats flatOver Heap AObj SCall Law ofLaw Fix)
set_option linter.unusedVariables false
set_option linter.unusedSimpArgs false

noncomputable def lR : Code := lBody ((Tryz.f57.body).getD .skip)
noncomputable def lL : Code := lBody ((Tryz.f56.body).getD .skip)
noncomputable abbrev runR : St → Option (Ex × St) := evCode Tryz.prog 0 (bodied Tryz.prog) (evCall Tryz.prog 0 (bodied Tryz.prog) noOver sbs 100 17) 1 5 100 lR
noncomputable abbrev clR : St → St := cleanSt 1 5 (ue lR [] []).1
noncomputable abbrev runL : St → Option (Ex × St) := evCode Tryz.prog 0 (bodied Tryz.prog) (evCall Tryz.prog 0 (bodied Tryz.prog) noOver sbs 100 17) 1 5 100 lL
noncomputable abbrev clL : St → St := cleanSt 1 5 (ue lL [] []).1
abbrev js (n : Nat) : List Value := List.replicate n junk
def SR (cs : List Value) (e md : Nat) (s : ByteArray) : St := ⟨[.string s, .pointer (some ⟨0, 0, none⟩), undef, undef, .string ⟨#[]⟩] ++ js 17, ⟨1, [.cells cs e md 1]⟩, []⟩
def SL (cs : List Value) (e md : Nat) (s : ByteArray) : St := ⟨[.string s, .pointer (some ⟨0, 0, none⟩), undef, undef, .string ⟨#[]⟩] ++ js 11, ⟨1, [.cells cs e md 1]⟩, []⟩
--< trA
theorem trA (cs : List Value) (e : Nat) (md : Nat) (s : ByteArray) (s2 : ByteArray) (z : Int) (h0 : 0 < ByteArray.size s) (h1 : ByteArray.size s ≤ 32) (hz : Dg.strAt s ((↑(ByteArray.size s) : Int) - 1) = some z) (hr : 0 ≤ z ∧ z < 256) (hb : cs[Int.toNat z]? = some (Value.bool true)) (hs : ByteArray.extract s 0 (ByteArray.size s - 1) = s2) :
    ∃ s', runR (SR cs e md s) = some (Ex.normal, s') ∧ clR s' = SR cs e md s2 :=
  Dg.code_round (f := 57) clR (hs := [Hint.val 57 7 (Value.bool true),
    Hint.val 57 12 (Value.int IntKind.i64 ((↑(ByteArray.size s) : Int) - 1)),
    Hint.soft 57 13 (Value.int IntKind.u8 z),
    Hint.soft 68 8 (Value.pointer (some { block := 0, off := Int.toNat z })),
    Hint.soft 68 9 (Value.bool true),
    Hint.val 57 19 (Value.int IntKind.i64 ((↑(ByteArray.size s) : Int) - 1)),
    Hint.soft 57 20 (Value.string s2)])
    [Value.bool (decide ((↑(ByteArray.size s) : Int) > (0 : Int))) = Value.bool true,
    Value.int IntKind.i64 (IntKind.wrap IntKind.i64 ((↑(ByteArray.size s) : Int) - (1 : Int))) = Value.int IntKind.i64 ((↑(ByteArray.size s) : Int) - (1 : Int)),
    Dg.strAt s ((↑(ByteArray.size s) : Int) - (1 : Int)) = some z,
    (0 : Int) ≤ z ∧ z < (↑(256 : Nat) : Int),
    Value.pointer (some { block := (0 : Nat), off := (0 : Nat) + Int.toNat z * (1 : Nat) }) = Value.pointer (some { block := (0 : Nat), off := Int.toNat z }),
    cs[Int.toNat z]? = some (Value.bool true),
    Value.int IntKind.i64 (IntKind.wrap IntKind.i64 ((↑(ByteArray.size s) : Int) - (1 : Int))) = Value.int IntKind.i64 ((↑(ByteArray.size s) : Int) - (1 : Int)),
    (0 : Int) ≤ (↑(ByteArray.size s) : Int) - (1 : Int),
    (0 : Nat) ≤ Int.toNat ((↑(ByteArray.size s) : Int) - (1 : Int)) ∧ Int.toNat ((↑(ByteArray.size s) : Int) - (1 : Int)) ≤ ByteArray.size s,
    Value.string (ByteArray.extract s (0 : Nat) (Int.toNat ((↑(ByteArray.size s) : Int) - (1 : Int)))) = Value.string s2] (by kernel_rfl)
    ⟨Dg.vtrue (by omega), Dg.i64_eq rfl (by omega) (by omega), hz, by omega, Dg.ptr_eq (by omega), hb, Dg.i64_eq rfl (by omega) (by omega), by omega, by omega, by rw [show ((s.size : Int) - 1).toNat = s.size - 1 by omega, hs], trivial⟩
--> trA
--< trB
theorem trB (cs : List Value) (e : Nat) (md : Nat) (s : ByteArray) (z : Int) (h0 : 0 < ByteArray.size s) (h1 : ByteArray.size s ≤ 32) (hz : Dg.strAt s ((↑(ByteArray.size s) : Int) - 1) = some z) (hr : 0 ≤ z ∧ z < 256) (hb : cs[Int.toNat z]? = some (Value.bool false)) :
    runR (SR cs e md s) = some (Ex.exit 0, ({ ts := [Value.string s, Value.pointer (some { block := 0, off := 0 }), undef, undef, Value.string { data := #[] }, Value.string s, Value.int IntKind.i64 (↑(ByteArray.size s) : Int), Value.bool true, Value.pointer (some { block := 0, off := 0 }), Value.string s, Value.string s, Value.int IntKind.i64 (↑(ByteArray.size s) : Int), Value.int IntKind.i64 ((↑(ByteArray.size s) : Int) - 1), Value.int IntKind.u8 z, Value.bool false, Value.bool true, junk, junk, junk, junk, junk, junk], H := { n := 1, objs := [AObj.cells cs e md 1] }, log := [] } : St)) :=
  Dg.evCode_hint (f := 57) (hs' := []) (hs := [Hint.val 57 7 (Value.bool true),
    Hint.val 57 12 (Value.int IntKind.i64 ((↑(ByteArray.size s) : Int) - 1)),
    Hint.soft 57 13 (Value.int IntKind.u8 z),
    Hint.soft 68 8 (Value.pointer (some { block := 0, off := Int.toNat z })),
    Hint.soft 68 9 (Value.bool false)])
    [Value.bool (decide ((↑(ByteArray.size s) : Int) > (0 : Int))) = Value.bool true,
    Value.int IntKind.i64 (IntKind.wrap IntKind.i64 ((↑(ByteArray.size s) : Int) - (1 : Int))) = Value.int IntKind.i64 ((↑(ByteArray.size s) : Int) - (1 : Int)),
    Dg.strAt s ((↑(ByteArray.size s) : Int) - (1 : Int)) = some z,
    (0 : Int) ≤ z ∧ z < (↑(256 : Nat) : Int),
    Value.pointer (some { block := (0 : Nat), off := (0 : Nat) + Int.toNat z * (1 : Nat) }) = Value.pointer (some { block := (0 : Nat), off := Int.toNat z }),
    cs[Int.toNat z]? = some (Value.bool false)] (by kernel_rfl)
    ⟨Dg.vtrue (by omega), Dg.i64_eq rfl (by omega) (by omega), hz, by omega, Dg.ptr_eq (by omega), hb, trivial⟩
--> trB
--< trC
theorem trC (cs : List Value) (e : Nat) (md : Nat) (s : ByteArray) (h0 : ByteArray.size s = 0) :
    runR (SR cs e md s) = some (Ex.exit 0, ({ ts := [Value.string s, Value.pointer (some { block := 0, off := 0 }), undef, undef, Value.string { data := #[] }, Value.string s, Value.int IntKind.i64 (↑(ByteArray.size s) : Int), Value.bool false, junk, junk, junk, junk, junk, junk, junk, junk, junk, junk, junk, junk, junk, junk], H := { n := 1, objs := [AObj.cells cs e md 1] }, log := [] } : St)) :=
  Dg.evCode_hint (f := 57) (hs' := []) (hs := [Hint.val 57 7 (Value.bool false)])
    [Value.bool (decide ((↑(ByteArray.size s) : Int) > (0 : Int))) = Value.bool false] (by kernel_rfl)
    ⟨Dg.vfalse (by omega), trivial⟩
--> trC
--< tlA
theorem tlA (cs : List Value) (e : Nat) (md : Nat) (s : ByteArray) (s2 : ByteArray) (z : Int) (h0 : 0 < ByteArray.size s) (h1 : ByteArray.size s ≤ 32) (hz : Dg.strAt s 0 = some z) (hr : 0 ≤ z ∧ z < 256) (hb : cs[Int.toNat z]? = some (Value.bool true)) (hs : ByteArray.extract s 1 (ByteArray.size s) = s2) :
    ∃ s', runL (SL cs e md s) = some (Ex.normal, s') ∧ clL s' = SL cs e md s2 :=
  Dg.code_round (f := 56) clL (hs := [Hint.val 56 7 (Value.bool true),
    Hint.soft 56 10 (Value.int IntKind.u8 z),
    Hint.soft 68 8 (Value.pointer (some { block := 0, off := Int.toNat z })),
    Hint.soft 68 9 (Value.bool true),
    Hint.soft 56 14 (Value.string s2)])
    [Value.bool (decide ((↑(ByteArray.size s) : Int) > (0 : Int))) = Value.bool true,
    Dg.strAt s (0 : Int) = some z,
    (0 : Int) ≤ z ∧ z < (↑(256 : Nat) : Int),
    Value.pointer (some { block := (0 : Nat), off := (0 : Nat) + Int.toNat z * (1 : Nat) }) = Value.pointer (some { block := (0 : Nat), off := Int.toNat z }),
    cs[Int.toNat z]? = some (Value.bool true),
    (0 : Int) ≤ (1 : Int),
    Int.toNat (1 : Int) ≤ ByteArray.size s ∧ ByteArray.size s ≤ ByteArray.size s,
    Value.string (ByteArray.extract s (Int.toNat (1 : Int)) (ByteArray.size s)) = Value.string s2] (by kernel_rfl)
    ⟨Dg.vtrue (by omega), hz, by omega, Dg.ptr_eq (by omega), hb, by omega, by omega, by rw [show Int.toNat 1 = 1 from rfl, hs], trivial⟩
--> tlA
--< tlB
theorem tlB (cs : List Value) (e : Nat) (md : Nat) (s : ByteArray) (z : Int) (h0 : 0 < ByteArray.size s) (h1 : ByteArray.size s ≤ 32) (hz : Dg.strAt s 0 = some z) (hr : 0 ≤ z ∧ z < 256) (hb : cs[Int.toNat z]? = some (Value.bool false)) :
    runL (SL cs e md s) = some (Ex.exit 0, ({ ts := [Value.string s, Value.pointer (some { block := 0, off := 0 }), undef, undef, Value.string { data := #[] }, Value.string s, Value.int IntKind.i64 (↑(ByteArray.size s) : Int), Value.bool true, Value.pointer (some { block := 0, off := 0 }), Value.string s, Value.int IntKind.u8 z, Value.bool false, Value.bool true, junk, junk, junk], H := { n := 1, objs := [AObj.cells cs e md 1] }, log := [] } : St)) :=
  Dg.evCode_hint (f := 56) (hs' := []) (hs := [Hint.val 56 7 (Value.bool true),
    Hint.soft 56 10 (Value.int IntKind.u8 z),
    Hint.soft 68 8 (Value.pointer (some { block := 0, off := Int.toNat z })),
    Hint.soft 68 9 (Value.bool false)])
    [Value.bool (decide ((↑(ByteArray.size s) : Int) > (0 : Int))) = Value.bool true,
    Dg.strAt s (0 : Int) = some z,
    (0 : Int) ≤ z ∧ z < (↑(256 : Nat) : Int),
    Value.pointer (some { block := (0 : Nat), off := (0 : Nat) + Int.toNat z * (1 : Nat) }) = Value.pointer (some { block := (0 : Nat), off := Int.toNat z }),
    cs[Int.toNat z]? = some (Value.bool false)] (by kernel_rfl)
    ⟨Dg.vtrue (by omega), hz, by omega, Dg.ptr_eq (by omega), hb, trivial⟩
--> tlB
--< tlC
theorem tlC (cs : List Value) (e : Nat) (md : Nat) (s : ByteArray) (h0 : ByteArray.size s = 0) :
    runL (SL cs e md s) = some (Ex.exit 0, ({ ts := [Value.string s, Value.pointer (some { block := 0, off := 0 }), undef, undef, Value.string { data := #[] }, Value.string s, Value.int IntKind.i64 (↑(ByteArray.size s) : Int), Value.bool false, junk, junk, junk, junk, junk, junk, junk, junk], H := { n := 1, objs := [AObj.cells cs e md 1] }, log := [] } : St)) :=
  Dg.evCode_hint (f := 56) (hs' := []) (hs := [Hint.val 56 7 (Value.bool false)])
    [Value.bool (decide ((↑(ByteArray.size s) : Int) > (0 : Int))) = Value.bool false] (by kernel_rfl)
    ⟨Dg.vfalse (by omega), trivial⟩
--> tlC
end Go.Proofs.YtpgddboigegplaaGreatDoor.base
