/- The reference's 'read' of chapter 06: a number from a place on. What the reference's 'read' of chapter 06 comes to, over any text. The reference's 'read' of chapter 06: it reads a number just where its own text stands. The reference's 'read' of chapter 06, where a number's own text stands; where it reads anything. -/
import Derived.Test.YtpgddboigegplaaGreatDoorRows
import Derived.Test.YtpgddboigegplaaGreatDoorFN
namespace Go.Proofs.YtpgddboigegplaaGreatDoor.base
open Go.Dg (junk St Ex Ev Hint evCall evCallS evCode evCodeK innerKp evCodeS evLoop cleanSt ue bodied noOver sbOf headOf tailOf bodyOf rAssign rBody lBody Flats flatOver Heap AObj SCall Law ofLaw Fix)
set_option linter.unusedVariables false
set_option linter.unusedSimpArgs false

theorem wu {x v : Int} (h : x % 18446744073709551616 = v) : Value.int .u64 (IntKind.wrap .u64 x) = .int .u64 v := by rw [Dg.w_u64, h]
theorem wi {x v : Int} (h : (x + 9223372036854775808) % 18446744073709551616 - 9223372036854775808 = v) : Value.int .i64 (IntKind.wrap .i64 x) = .int .i64 v := by rw [Dg.w_i64, h]
noncomputable def lD : Code := lBody ((Tryz.f40.body).getD .skip)
noncomputable abbrev runD (lf : Nat) : St → Option (Ex × St) := evCode Tryz.prog 0 (bodied Tryz.prog) (evCall Tryz.prog 0 (bodied Tryz.prog) noOver sbs lf 30) 0 10 lf lD
noncomputable abbrev clD : St → St := cleanSt 0 10 (ue lD [] []).1
/-- The state at the loop's head: at, where it began, what is read so far. -/
def RD (s : ByteArray) (b : Bool) (fr a n : Nat) : St := ⟨[.string s, .int .i64 (a : Int), undef, undef, .int .i64 0, .int .i64 0, .bool b, .int .i64 (fr : Int), .int .u64 (n : Int), undef] ++ js 61, ⟨0, []⟩, []⟩
/-- Behind the loop; what nothing reads any more is left open. -/
def ED (s : ByteArray) (b : Bool) (fr a n : Nat) (g : Nat → Value) : St := ⟨[.string s, .int .i64 (a : Int), undef, undef, .int .i64 0, .int .i64 0, .bool b, .int .i64 (fr : Int), .int .u64 (n : Int), undef] ++ [g 10, g 11, g 12, g 13, g 14, g 15, g 16, g 17, g 18, g 19, g 20, g 21, g 22, g 23, g 24, g 25, g 26, g 27, g 28, g 29, g 30, g 31, g 32, g 33, g 34, g 35, g 36, g 37, g 38, g 39, g 40, g 41, g 42, g 43, g 44, g 45, g 46, g 47, g 48, g 49, g 50, g 51, g 52, g 53, g 54, g 55, g 56, g 57, g 58, g 59, g 60, g 61, g 62, g 63, g 64, g 65, g 66, g 67, g 68, g 69, g 70], ⟨0, []⟩, []⟩
--< rdR
theorem rdR (lf : Nat) (s : ByteArray) (b : Bool) (fr : Nat) (a : Nat) (n : Nat) (hs : ByteArray.size s ≤ 2000) (hf : fr ≤ a) (z : Int) (hz : Dg.strAt s (↑a : Int) = some z) (ha : a < ByteArray.size s) (hr : 0 ≤ z ∧ z < 256) (hd : 48 ≤ z ∧ z ≤ 57) (h25 : a < fr + 25) (hn : n < 18446744073709551616) (n2 : Nat) (h2 : (↑n2 : Int) = (10 * (↑n : Int) + (z - 48)) % 18446744073709551616) :
    ∃ s', (runD lf) (RD s b fr a n) = some (Ex.normal, s') ∧ clD s' = RD s b fr (a + 1) n2 :=
  Dg.code_round (f := 40) clD (hs := [Hint.val 40 27 (Value.bool true),
    Hint.soft 40 31 (Value.int IntKind.u8 z),
    Hint.val 40 32 (Value.bool true),
    Hint.soft 40 37 (Value.int IntKind.u8 z),
    Hint.val 40 38 (Value.bool true),
    Hint.val 40 43 (Value.int IntKind.i64 ((↑a : Int) - (↑fr : Int))),
    Hint.val 40 44 (Value.bool true),
    Hint.val 40 47 (Value.int IntKind.u64 (10 * (↑n : Int) % 18446744073709551616)),
    Hint.soft 40 50 (Value.int IntKind.u8 z),
    Hint.val 40 51 (Value.int IntKind.u64 z),
    Hint.val 40 52 (Value.int IntKind.u64 ((10 * (↑n : Int) % 18446744073709551616 + z) % 18446744073709551616)),
    Hint.val 40 53 (Value.int IntKind.u64 (↑n2 : Int)),
    Hint.val 40 55 (Value.int IntKind.i64 ((↑a : Int) + 1))])
    [Value.bool (decide ((↑a : Int) < (↑(ByteArray.size s) : Int))) = Value.bool true,
    Dg.strAt s (↑a : Int) = some z,
    Value.bool (decide (z ≥ (48 : Int))) = Value.bool true,
    Dg.strAt s (↑a : Int) = some z,
    Value.bool (decide (z ≤ (57 : Int))) = Value.bool true,
    Value.int IntKind.i64 (IntKind.wrap IntKind.i64 ((↑a : Int) - (↑fr : Int))) = Value.int IntKind.i64 ((↑a : Int) - (↑fr : Int)),
    Value.bool (decide ((↑a : Int) - (↑fr : Int) < (25 : Int))) = Value.bool true,
    Value.int IntKind.u64 (IntKind.wrap IntKind.u64 ((10 : Int) * (↑n : Int))) = Value.int IntKind.u64 ((10 : Int) * (↑n : Int) % (18446744073709551616 : Int)),
    Dg.strAt s (↑a : Int) = some z,
    Value.int IntKind.u64 (IntKind.wrap IntKind.u64 z) = Value.int IntKind.u64 z,
    Value.int IntKind.u64 (IntKind.wrap IntKind.u64 ((10 : Int) * (↑n : Int) % (18446744073709551616 : Int) + z)) = Value.int IntKind.u64 (((10 : Int) * (↑n : Int) % (18446744073709551616 : Int) + z) % (18446744073709551616 : Int)),
    Value.int IntKind.u64 (IntKind.wrap IntKind.u64 (((10 : Int) * (↑n : Int) % (18446744073709551616 : Int) + z) % (18446744073709551616 : Int) - (48 : Int))) = Value.int IntKind.u64 (↑n2 : Int),
    Value.int IntKind.i64 (IntKind.wrap IntKind.i64 ((↑a : Int) + (1 : Int))) = Value.int IntKind.i64 ((↑a : Int) + (1 : Int))] (by kernel_rfl)
    ⟨Dg.vtrue (by omega), hz, Dg.vtrue (by omega), hz, Dg.vtrue (by omega), wi (by omega), Dg.vtrue (by omega), wu (by omega), hz, wu (by omega), wu (by omega), wu (by omega), wi (by omega), trivial⟩
--> rdR
--< rdA
theorem rdA (lf : Nat) (s : ByteArray) (b : Bool) (fr : Nat) (a : Nat) (n : Nat) (hs : ByteArray.size s ≤ 2000) (hf : fr ≤ a) (h0 : ByteArray.size s ≤ a) :
    (runD lf) (RD s b fr a n) = some (Ex.exit 0, ({ ts := [Value.string s, Value.int IntKind.i64 (↑a : Int), undef, undef, Value.int IntKind.i64 0, Value.int IntKind.i64 0, Value.bool b, Value.int IntKind.i64 (↑fr : Int), Value.int IntKind.u64 (↑n : Int), undef, junk, junk, junk, junk, junk, junk, junk, junk, junk, junk, junk, junk, junk, junk, Value.int IntKind.i64 (↑a : Int), Value.string s, Value.int IntKind.i64 (↑(ByteArray.size s) : Int), Value.bool false, Value.bool false, undef, undef, undef, undef, Value.bool false, Value.bool false, undef, undef, undef, undef, Value.bool false, Value.bool false, undef, undef, undef, undef, Value.bool false, junk, junk, junk, junk, junk, junk, junk, junk, junk, junk, junk, junk, junk, junk, junk, junk, junk, junk, junk, junk, junk, junk, junk, junk, junk], H := { n := 0, objs := [] }, log := [] } : St)) :=
  Dg.evCode_hint (f := 40) (hs' := []) (hs := [Hint.val 40 27 (Value.bool false)])
    [Value.bool (decide ((↑a : Int) < (↑(ByteArray.size s) : Int))) = Value.bool false] (by kernel_rfl)
    ⟨Dg.vfalse (by omega), trivial⟩
--> rdA
--< rdB
theorem rdB (lf : Nat) (s : ByteArray) (b : Bool) (fr : Nat) (a : Nat) (n : Nat) (hs : ByteArray.size s ≤ 2000) (hf : fr ≤ a) (z : Int) (hz : Dg.strAt s (↑a : Int) = some z) (ha : a < ByteArray.size s) (hr : 0 ≤ z ∧ z < 256) (hd : z < 48) :
    (runD lf) (RD s b fr a n) = some (Ex.exit 0, ({ ts := [Value.string s, Value.int IntKind.i64 (↑a : Int), undef, undef, Value.int IntKind.i64 0, Value.int IntKind.i64 0, Value.bool b, Value.int IntKind.i64 (↑fr : Int), Value.int IntKind.u64 (↑n : Int), undef, junk, junk, junk, junk, junk, junk, junk, junk, junk, junk, junk, junk, junk, junk, Value.int IntKind.i64 (↑a : Int), Value.string s, Value.int IntKind.i64 (↑(ByteArray.size s) : Int), Value.bool true, Value.bool true, Value.string s, Value.int IntKind.i64 (↑a : Int), Value.int IntKind.u8 z, Value.bool false, Value.bool false, Value.bool false, undef, undef, undef, undef, Value.bool false, Value.bool false, undef, undef, undef, undef, Value.bool false, junk, junk, junk, junk, junk, junk, junk, junk, junk, junk, junk, junk, junk, junk, junk, junk, junk, junk, junk, junk, junk, junk, junk, junk, junk], H := { n := 0, objs := [] }, log := [] } : St)) :=
  Dg.evCode_hint (f := 40) (hs' := []) (hs := [Hint.val 40 27 (Value.bool true),
    Hint.soft 40 31 (Value.int IntKind.u8 z),
    Hint.val 40 32 (Value.bool false)])
    [Value.bool (decide ((↑a : Int) < (↑(ByteArray.size s) : Int))) = Value.bool true,
    Dg.strAt s (↑a : Int) = some z,
    Value.bool (decide (z ≥ (48 : Int))) = Value.bool false] (by kernel_rfl)
    ⟨Dg.vtrue (by omega), hz, Dg.vfalse (by omega), trivial⟩
--> rdB
--< rdC
theorem rdC (lf : Nat) (s : ByteArray) (b : Bool) (fr : Nat) (a : Nat) (n : Nat) (hs : ByteArray.size s ≤ 2000) (hf : fr ≤ a) (z : Int) (hz : Dg.strAt s (↑a : Int) = some z) (ha : a < ByteArray.size s) (hr : 0 ≤ z ∧ z < 256) (hd : 57 < z) :
    (runD lf) (RD s b fr a n) = some (Ex.exit 0, ({ ts := [Value.string s, Value.int IntKind.i64 (↑a : Int), undef, undef, Value.int IntKind.i64 0, Value.int IntKind.i64 0, Value.bool b, Value.int IntKind.i64 (↑fr : Int), Value.int IntKind.u64 (↑n : Int), undef, junk, junk, junk, junk, junk, junk, junk, junk, junk, junk, junk, junk, junk, junk, Value.int IntKind.i64 (↑a : Int), Value.string s, Value.int IntKind.i64 (↑(ByteArray.size s) : Int), Value.bool true, Value.bool true, Value.string s, Value.int IntKind.i64 (↑a : Int), Value.int IntKind.u8 z, Value.bool true, Value.bool true, Value.bool true, Value.string s, Value.int IntKind.i64 (↑a : Int), Value.int IntKind.u8 z, Value.bool false, Value.bool false, Value.bool false, undef, undef, undef, undef, Value.bool false, junk, junk, junk, junk, junk, junk, junk, junk, junk, junk, junk, junk, junk, junk, junk, junk, junk, junk, junk, junk, junk, junk, junk, junk, junk], H := { n := 0, objs := [] }, log := [] } : St)) :=
  Dg.evCode_hint (f := 40) (hs' := []) (hs := [Hint.val 40 27 (Value.bool true),
    Hint.soft 40 31 (Value.int IntKind.u8 z),
    Hint.val 40 32 (Value.bool true),
    Hint.soft 40 37 (Value.int IntKind.u8 z),
    Hint.val 40 38 (Value.bool false)])
    [Value.bool (decide ((↑a : Int) < (↑(ByteArray.size s) : Int))) = Value.bool true,
    Dg.strAt s (↑a : Int) = some z,
    Value.bool (decide (z ≥ (48 : Int))) = Value.bool true,
    Dg.strAt s (↑a : Int) = some z,
    Value.bool (decide (z ≤ (57 : Int))) = Value.bool false] (by kernel_rfl)
    ⟨Dg.vtrue (by omega), hz, Dg.vtrue (by omega), hz, Dg.vfalse (by omega), trivial⟩
--> rdC
--< rdD
theorem rdD (lf : Nat) (s : ByteArray) (b : Bool) (fr : Nat) (a : Nat) (n : Nat) (hs : ByteArray.size s ≤ 2000) (hf : fr ≤ a) (z : Int) (hz : Dg.strAt s (↑a : Int) = some z) (ha : a < ByteArray.size s) (hr : 0 ≤ z ∧ z < 256) (hd : 48 ≤ z ∧ z ≤ 57) (h25 : fr + 25 ≤ a) (ha2 : a ≤ 2000) :
    (runD lf) (RD s b fr a n) = some (Ex.exit 0, ({ ts := [Value.string s, Value.int IntKind.i64 (↑a : Int), undef, undef, Value.int IntKind.i64 0, Value.int IntKind.i64 0, Value.bool b, Value.int IntKind.i64 (↑fr : Int), Value.int IntKind.u64 (↑n : Int), undef, junk, junk, junk, junk, junk, junk, junk, junk, junk, junk, junk, junk, junk, junk, Value.int IntKind.i64 (↑a : Int), Value.string s, Value.int IntKind.i64 (↑(ByteArray.size s) : Int), Value.bool true, Value.bool true, Value.string s, Value.int IntKind.i64 (↑a : Int), Value.int IntKind.u8 z, Value.bool true, Value.bool true, Value.bool true, Value.string s, Value.int IntKind.i64 (↑a : Int), Value.int IntKind.u8 z, Value.bool true, Value.bool true, Value.bool true, Value.int IntKind.i64 (↑a : Int), Value.int IntKind.i64 (↑fr : Int), Value.int IntKind.i64 ((↑a : Int) - (↑fr : Int)), Value.bool false, Value.bool false, junk, junk, junk, junk, junk, junk, junk, junk, junk, junk, junk, junk, junk, junk, junk, junk, junk, junk, junk, junk, junk, junk, junk, junk, junk], H := { n := 0, objs := [] }, log := [] } : St)) :=
  Dg.evCode_hint (f := 40) (hs' := []) (hs := [Hint.val 40 27 (Value.bool true),
    Hint.soft 40 31 (Value.int IntKind.u8 z),
    Hint.val 40 32 (Value.bool true),
    Hint.soft 40 37 (Value.int IntKind.u8 z),
    Hint.val 40 38 (Value.bool true),
    Hint.val 40 43 (Value.int IntKind.i64 ((↑a : Int) - (↑fr : Int))),
    Hint.val 40 44 (Value.bool false)])
    [Value.bool (decide ((↑a : Int) < (↑(ByteArray.size s) : Int))) = Value.bool true,
    Dg.strAt s (↑a : Int) = some z,
    Value.bool (decide (z ≥ (48 : Int))) = Value.bool true,
    Dg.strAt s (↑a : Int) = some z,
    Value.bool (decide (z ≤ (57 : Int))) = Value.bool true,
    Value.int IntKind.i64 (IntKind.wrap IntKind.i64 ((↑a : Int) - (↑fr : Int))) = Value.int IntKind.i64 ((↑a : Int) - (↑fr : Int)),
    Value.bool (decide ((↑a : Int) - (↑fr : Int) < (25 : Int))) = Value.bool false] (by kernel_rfl)
    ⟨Dg.vtrue (by omega), hz, Dg.vtrue (by omega), hz, Dg.vtrue (by omega), wi (by omega), Dg.vfalse (by omega), trivial⟩
--> rdD
--< rwet
theorem rwet (lf : Nat) (s : ByteArray) (p : Nat) (hs : ByteArray.size s ≤ 2000) (hp : p ≤ 2000) (h0 : ByteArray.size s ≤ p) (g : Nat → Value) (a : Nat) (n : Nat) (hl : ∀ (s0 : St), clD s0 = RD s false p p 0 → evLoop (runD lf) clD lf s0 = some (Ex.exit 0, ED s false p a n g)) (hn : n < 18446744073709551616) (hap : p ≤ a) (has : a ≤ ByteArray.size s) (v : Int) (t : ByteArray) (hN : evCall Tryz.prog 0 (bodied Tryz.prog) noOver sbs lf 30 21 [Value.int IntKind.i64 v] { n := 0, objs := [] } = some (Value.string t, { n := 0, objs := [] }, [])) (hv : v = ((↑n : Int) + 9223372036854775808) % 18446744073709551616 - 9223372036854775808) (he : (Value.bool !ByteArray.toList t == ByteArray.toList (ByteArray.extract s p a)) = Value.bool false) :
    evCall Tryz.prog 0 (bodied Tryz.prog) noOver sbs lf 31 40 [Value.string s, Value.int IntKind.i64 (↑p : Int)] { n := 0, objs := [] } = some (Value.tuple #[Value.int IntKind.i64 v, Value.int IntKind.i64 (↑a : Int)], { n := 0, objs := [] }, []) :=
  Dg.evCall_hint (hs' := []) (hs := [Hint.val 40 13 (Value.bool false),
    Hint.loop 40 (Ex.exit 0) (ED s false p a n g),
    Hint.val 40 57 (Value.int IntKind.i64 v),
    Hint.call 21 (Value.string t) { n := 0, objs := [] } [],
    Hint.soft 40 67 (Value.string (ByteArray.extract s p a)),
    Hint.val 40 68 (Value.bool false)])
    [Value.bool (decide ((↑p : Int) < (↑(ByteArray.size s) : Int))) = Value.bool false,
    evLoop (runD lf) clD lf { ts := [Value.string s, Value.int IntKind.i64 (↑p : Int), undef, undef, Value.int IntKind.i64 0, Value.int IntKind.i64 0, Value.bool false, Value.int IntKind.i64 (↑p : Int), Value.int IntKind.u64 0, undef, Value.int IntKind.i64 (↑p : Int), Value.string s, Value.int IntKind.i64 (↑(ByteArray.size s) : Int), Value.bool false, Value.bool false, undef, undef, undef, undef, Value.bool false, Value.int IntKind.i64 (↑p : Int), Value.bool false, undef, undef, undef, undef, undef, undef, undef, undef, undef, undef, undef, undef, undef, undef, undef, undef, undef, undef, undef, undef, undef, undef, undef, undef, undef, undef, undef, undef, undef, undef, undef, undef, undef, undef, undef, undef, undef, undef, undef, undef, undef, undef, undef, undef, undef, undef, undef, undef, undef], H := { n := 0, objs := [] }, log := [] } = some (Ex.exit 0, ED s false p a n g),
    Value.int IntKind.i64 (IntKind.wrap IntKind.i64 (↑n : Int)) = Value.int IntKind.i64 v,
    evCall Tryz.prog 0 (bodied Tryz.prog) noOver sbs lf 30 21 [Value.int IntKind.i64 v] { n := 0, objs := [] } = some (Value.string t, { n := 0, objs := [] }, []),
    (0 : Int) ≤ (↑p : Int),
    (0 : Int) ≤ (↑a : Int),
    Int.toNat (↑p : Int) ≤ Int.toNat (↑a : Int) ∧ Int.toNat (↑a : Int) ≤ ByteArray.size s,
    Value.string (ByteArray.extract s (Int.toNat (↑p : Int)) (Int.toNat (↑a : Int))) = Value.string (ByteArray.extract s p a),
    (Value.bool !ByteArray.toList t == ByteArray.toList (ByteArray.extract s p a)) = Value.bool false] (by kernel_rfl)
    ⟨Dg.vfalse (by omega), hl _ (by kernel_rfl), wi (by omega), hN, by omega, by omega, by omega, by rfl, he, trivial⟩
--> rwet
--< rwef
theorem rwef (lf : Nat) (s : ByteArray) (p : Nat) (hs : ByteArray.size s ≤ 2000) (hp : p ≤ 2000) (h0 : ByteArray.size s ≤ p) (g : Nat → Value) (a : Nat) (n : Nat) (hl : ∀ (s0 : St), clD s0 = RD s false p p 0 → evLoop (runD lf) clD lf s0 = some (Ex.exit 0, ED s false p a n g)) (hn : n < 18446744073709551616) (hap : p ≤ a) (has : a ≤ ByteArray.size s) (v : Int) (t : ByteArray) (hN : evCall Tryz.prog 0 (bodied Tryz.prog) noOver sbs lf 30 21 [Value.int IntKind.i64 v] { n := 0, objs := [] } = some (Value.string t, { n := 0, objs := [] }, [])) (hv : v = ((↑n : Int) + 9223372036854775808) % 18446744073709551616 - 9223372036854775808) (he : (Value.bool !ByteArray.toList t == ByteArray.toList (ByteArray.extract s p a)) = Value.bool true) :
    evCall Tryz.prog 0 (bodied Tryz.prog) noOver sbs lf 31 40 [Value.string s, Value.int IntKind.i64 (↑p : Int)] { n := 0, objs := [] } = some (Value.tuple #[Value.int IntKind.i64 0, Value.int IntKind.i64 (-1)], { n := 0, objs := [] }, []) :=
  Dg.evCall_hint (hs' := []) (hs := [Hint.val 40 13 (Value.bool false),
    Hint.loop 40 (Ex.exit 0) (ED s false p a n g),
    Hint.val 40 57 (Value.int IntKind.i64 v),
    Hint.call 21 (Value.string t) { n := 0, objs := [] } [],
    Hint.soft 40 67 (Value.string (ByteArray.extract s p a)),
    Hint.val 40 68 (Value.bool true)])
    [Value.bool (decide ((↑p : Int) < (↑(ByteArray.size s) : Int))) = Value.bool false,
    evLoop (runD lf) clD lf { ts := [Value.string s, Value.int IntKind.i64 (↑p : Int), undef, undef, Value.int IntKind.i64 0, Value.int IntKind.i64 0, Value.bool false, Value.int IntKind.i64 (↑p : Int), Value.int IntKind.u64 0, undef, Value.int IntKind.i64 (↑p : Int), Value.string s, Value.int IntKind.i64 (↑(ByteArray.size s) : Int), Value.bool false, Value.bool false, undef, undef, undef, undef, Value.bool false, Value.int IntKind.i64 (↑p : Int), Value.bool false, undef, undef, undef, undef, undef, undef, undef, undef, undef, undef, undef, undef, undef, undef, undef, undef, undef, undef, undef, undef, undef, undef, undef, undef, undef, undef, undef, undef, undef, undef, undef, undef, undef, undef, undef, undef, undef, undef, undef, undef, undef, undef, undef, undef, undef, undef, undef, undef, undef], H := { n := 0, objs := [] }, log := [] } = some (Ex.exit 0, ED s false p a n g),
    Value.int IntKind.i64 (IntKind.wrap IntKind.i64 (↑n : Int)) = Value.int IntKind.i64 v,
    evCall Tryz.prog 0 (bodied Tryz.prog) noOver sbs lf 30 21 [Value.int IntKind.i64 v] { n := 0, objs := [] } = some (Value.string t, { n := 0, objs := [] }, []),
    (0 : Int) ≤ (↑p : Int),
    (0 : Int) ≤ (↑a : Int),
    Int.toNat (↑p : Int) ≤ Int.toNat (↑a : Int) ∧ Int.toNat (↑a : Int) ≤ ByteArray.size s,
    Value.string (ByteArray.extract s (Int.toNat (↑p : Int)) (Int.toNat (↑a : Int))) = Value.string (ByteArray.extract s p a),
    (Value.bool !ByteArray.toList t == ByteArray.toList (ByteArray.extract s p a)) = Value.bool true] (by kernel_rfl)
    ⟨Dg.vfalse (by omega), hl _ (by kernel_rfl), wi (by omega), hN, by omega, by omega, by omega, by rfl, he, trivial⟩
--> rwef
--< rwpt
theorem rwpt (lf : Nat) (s : ByteArray) (p : Nat) (hs : ByteArray.size s ≤ 2000) (hp : p ≤ 2000) (z : Int) (hz : Dg.strAt s (↑p : Int) = some z) (h0 : p < ByteArray.size s) (hne : z ≠ 45) (g : Nat → Value) (a : Nat) (n : Nat) (hl : ∀ (s0 : St), clD s0 = RD s false p p 0 → evLoop (runD lf) clD lf s0 = some (Ex.exit 0, ED s false p a n g)) (hn : n < 18446744073709551616) (hap : p ≤ a) (has : a ≤ ByteArray.size s) (v : Int) (t : ByteArray) (hN : evCall Tryz.prog 0 (bodied Tryz.prog) noOver sbs lf 30 21 [Value.int IntKind.i64 v] { n := 0, objs := [] } = some (Value.string t, { n := 0, objs := [] }, [])) (hv : v = ((↑n : Int) + 9223372036854775808) % 18446744073709551616 - 9223372036854775808) (he : (Value.bool !ByteArray.toList t == ByteArray.toList (ByteArray.extract s p a)) = Value.bool false) :
    evCall Tryz.prog 0 (bodied Tryz.prog) noOver sbs lf 31 40 [Value.string s, Value.int IntKind.i64 (↑p : Int)] { n := 0, objs := [] } = some (Value.tuple #[Value.int IntKind.i64 v, Value.int IntKind.i64 (↑a : Int)], { n := 0, objs := [] }, []) :=
  Dg.evCall_hint (hs' := []) (hs := [Hint.val 40 13 (Value.bool true),
    Hint.soft 40 17 (Value.int IntKind.u8 z),
    Hint.val 40 18 (Value.bool false),
    Hint.loop 40 (Ex.exit 0) (ED s false p a n g),
    Hint.val 40 57 (Value.int IntKind.i64 v),
    Hint.call 21 (Value.string t) { n := 0, objs := [] } [],
    Hint.soft 40 67 (Value.string (ByteArray.extract s p a)),
    Hint.val 40 68 (Value.bool false)])
    [Value.bool (decide ((↑p : Int) < (↑(ByteArray.size s) : Int))) = Value.bool true,
    Dg.strAt s (↑p : Int) = some z,
    Value.bool (z == (45 : Int)) = Value.bool false,
    evLoop (runD lf) clD lf { ts := [Value.string s, Value.int IntKind.i64 (↑p : Int), undef, undef, Value.int IntKind.i64 0, Value.int IntKind.i64 0, Value.bool false, Value.int IntKind.i64 (↑p : Int), Value.int IntKind.u64 0, undef, Value.int IntKind.i64 (↑p : Int), Value.string s, Value.int IntKind.i64 (↑(ByteArray.size s) : Int), Value.bool true, Value.bool true, Value.string s, Value.int IntKind.i64 (↑p : Int), Value.int IntKind.u8 z, Value.bool false, Value.bool false, Value.int IntKind.i64 (↑p : Int), Value.bool false, undef, undef, undef, undef, undef, undef, undef, undef, undef, undef, undef, undef, undef, undef, undef, undef, undef, undef, undef, undef, undef, undef, undef, undef, undef, undef, undef, undef, undef, undef, undef, undef, undef, undef, undef, undef, undef, undef, undef, undef, undef, undef, undef, undef, undef, undef, undef, undef, undef], H := { n := 0, objs := [] }, log := [] } = some (Ex.exit 0, ED s false p a n g),
    Value.int IntKind.i64 (IntKind.wrap IntKind.i64 (↑n : Int)) = Value.int IntKind.i64 v,
    evCall Tryz.prog 0 (bodied Tryz.prog) noOver sbs lf 30 21 [Value.int IntKind.i64 v] { n := 0, objs := [] } = some (Value.string t, { n := 0, objs := [] }, []),
    (0 : Int) ≤ (↑p : Int),
    (0 : Int) ≤ (↑a : Int),
    Int.toNat (↑p : Int) ≤ Int.toNat (↑a : Int) ∧ Int.toNat (↑a : Int) ≤ ByteArray.size s,
    Value.string (ByteArray.extract s (Int.toNat (↑p : Int)) (Int.toNat (↑a : Int))) = Value.string (ByteArray.extract s p a),
    (Value.bool !ByteArray.toList t == ByteArray.toList (ByteArray.extract s p a)) = Value.bool false] (by kernel_rfl)
    ⟨Dg.vtrue (by omega), hz, Dg.vfalse (by omega), hl _ (by kernel_rfl), wi (by omega), hN, by omega, by omega, by omega, by rfl, he, trivial⟩
--> rwpt
--< rwpf
theorem rwpf (lf : Nat) (s : ByteArray) (p : Nat) (hs : ByteArray.size s ≤ 2000) (hp : p ≤ 2000) (z : Int) (hz : Dg.strAt s (↑p : Int) = some z) (h0 : p < ByteArray.size s) (hne : z ≠ 45) (g : Nat → Value) (a : Nat) (n : Nat) (hl : ∀ (s0 : St), clD s0 = RD s false p p 0 → evLoop (runD lf) clD lf s0 = some (Ex.exit 0, ED s false p a n g)) (hn : n < 18446744073709551616) (hap : p ≤ a) (has : a ≤ ByteArray.size s) (v : Int) (t : ByteArray) (hN : evCall Tryz.prog 0 (bodied Tryz.prog) noOver sbs lf 30 21 [Value.int IntKind.i64 v] { n := 0, objs := [] } = some (Value.string t, { n := 0, objs := [] }, [])) (hv : v = ((↑n : Int) + 9223372036854775808) % 18446744073709551616 - 9223372036854775808) (he : (Value.bool !ByteArray.toList t == ByteArray.toList (ByteArray.extract s p a)) = Value.bool true) :
    evCall Tryz.prog 0 (bodied Tryz.prog) noOver sbs lf 31 40 [Value.string s, Value.int IntKind.i64 (↑p : Int)] { n := 0, objs := [] } = some (Value.tuple #[Value.int IntKind.i64 0, Value.int IntKind.i64 (-1)], { n := 0, objs := [] }, []) :=
  Dg.evCall_hint (hs' := []) (hs := [Hint.val 40 13 (Value.bool true),
    Hint.soft 40 17 (Value.int IntKind.u8 z),
    Hint.val 40 18 (Value.bool false),
    Hint.loop 40 (Ex.exit 0) (ED s false p a n g),
    Hint.val 40 57 (Value.int IntKind.i64 v),
    Hint.call 21 (Value.string t) { n := 0, objs := [] } [],
    Hint.soft 40 67 (Value.string (ByteArray.extract s p a)),
    Hint.val 40 68 (Value.bool true)])
    [Value.bool (decide ((↑p : Int) < (↑(ByteArray.size s) : Int))) = Value.bool true,
    Dg.strAt s (↑p : Int) = some z,
    Value.bool (z == (45 : Int)) = Value.bool false,
    evLoop (runD lf) clD lf { ts := [Value.string s, Value.int IntKind.i64 (↑p : Int), undef, undef, Value.int IntKind.i64 0, Value.int IntKind.i64 0, Value.bool false, Value.int IntKind.i64 (↑p : Int), Value.int IntKind.u64 0, undef, Value.int IntKind.i64 (↑p : Int), Value.string s, Value.int IntKind.i64 (↑(ByteArray.size s) : Int), Value.bool true, Value.bool true, Value.string s, Value.int IntKind.i64 (↑p : Int), Value.int IntKind.u8 z, Value.bool false, Value.bool false, Value.int IntKind.i64 (↑p : Int), Value.bool false, undef, undef, undef, undef, undef, undef, undef, undef, undef, undef, undef, undef, undef, undef, undef, undef, undef, undef, undef, undef, undef, undef, undef, undef, undef, undef, undef, undef, undef, undef, undef, undef, undef, undef, undef, undef, undef, undef, undef, undef, undef, undef, undef, undef, undef, undef, undef, undef, undef], H := { n := 0, objs := [] }, log := [] } = some (Ex.exit 0, ED s false p a n g),
    Value.int IntKind.i64 (IntKind.wrap IntKind.i64 (↑n : Int)) = Value.int IntKind.i64 v,
    evCall Tryz.prog 0 (bodied Tryz.prog) noOver sbs lf 30 21 [Value.int IntKind.i64 v] { n := 0, objs := [] } = some (Value.string t, { n := 0, objs := [] }, []),
    (0 : Int) ≤ (↑p : Int),
    (0 : Int) ≤ (↑a : Int),
    Int.toNat (↑p : Int) ≤ Int.toNat (↑a : Int) ∧ Int.toNat (↑a : Int) ≤ ByteArray.size s,
    Value.string (ByteArray.extract s (Int.toNat (↑p : Int)) (Int.toNat (↑a : Int))) = Value.string (ByteArray.extract s p a),
    (Value.bool !ByteArray.toList t == ByteArray.toList (ByteArray.extract s p a)) = Value.bool true] (by kernel_rfl)
    ⟨Dg.vtrue (by omega), hz, Dg.vfalse (by omega), hl _ (by kernel_rfl), wi (by omega), hN, by omega, by omega, by omega, by rfl, he, trivial⟩
--> rwpf
--< rwmt
theorem rwmt (lf : Nat) (s : ByteArray) (p : Nat) (hs : ByteArray.size s ≤ 2000) (hp : p ≤ 2000) (hz : Dg.strAt s (↑p : Int) = some 45) (h0 : p < ByteArray.size s) (g : Nat → Value) (a : Nat) (n : Nat) (hl : ∀ (s0 : St), clD s0 = RD s true p (p + 1) 0 → evLoop (runD lf) clD lf s0 = some (Ex.exit 0, ED s true p a n g)) (hn : n < 18446744073709551616) (hap : p ≤ a) (has : a ≤ ByteArray.size s) (v : Int) (t : ByteArray) (hN : evCall Tryz.prog 0 (bodied Tryz.prog) noOver sbs lf 30 21 [Value.int IntKind.i64 v] { n := 0, objs := [] } = some (Value.string t, { n := 0, objs := [] }, [])) (m2 : Nat) (hm2 : (0 - (↑n : Int)) % 18446744073709551616 = (↑m2 : Int)) (hv : ((↑m2 : Int) + 9223372036854775808) % 18446744073709551616 - 9223372036854775808 = v) (v0 : Int) (hv0 : ((↑n : Int) + 9223372036854775808) % 18446744073709551616 - 9223372036854775808 = v0) (he : (Value.bool !ByteArray.toList t == ByteArray.toList (ByteArray.extract s p a)) = Value.bool false) :
    evCall Tryz.prog 0 (bodied Tryz.prog) noOver sbs lf 31 40 [Value.string s, Value.int IntKind.i64 (↑p : Int)] { n := 0, objs := [] } = some (Value.tuple #[Value.int IntKind.i64 v, Value.int IntKind.i64 (↑a : Int)], { n := 0, objs := [] }, []) :=
  Dg.evCall_hint (hs' := []) (hs := [Hint.val 40 13 (Value.bool true),
    Hint.soft 40 17 (Value.int IntKind.u8 45),
    Hint.val 40 23 (Value.int IntKind.i64 ((↑p : Int) + 1)),
    Hint.loop 40 (Ex.exit 0) (ED s true p a n g),
    Hint.val 40 57 (Value.int IntKind.i64 v0),
    Hint.val 40 60 (Value.int IntKind.u64 (↑m2 : Int)),
    Hint.val 40 61 (Value.int IntKind.i64 v),
    Hint.call 21 (Value.string t) { n := 0, objs := [] } [],
    Hint.soft 40 67 (Value.string (ByteArray.extract s p a)),
    Hint.val 40 68 (Value.bool false)])
    [Value.bool (decide ((↑p : Int) < (↑(ByteArray.size s) : Int))) = Value.bool true,
    Dg.strAt s (↑p : Int) = some (45 : Int),
    Value.int IntKind.i64 (IntKind.wrap IntKind.i64 ((↑p : Int) + (1 : Int))) = Value.int IntKind.i64 ((↑p : Int) + (1 : Int)),
    evLoop (runD lf) clD lf { ts := [Value.string s, Value.int IntKind.i64 ((↑p : Int) + 1), undef, undef, Value.int IntKind.i64 0, Value.int IntKind.i64 0, Value.bool true, Value.int IntKind.i64 (↑p : Int), Value.int IntKind.u64 0, undef, Value.int IntKind.i64 (↑p : Int), Value.string s, Value.int IntKind.i64 (↑(ByteArray.size s) : Int), Value.bool true, Value.bool true, Value.string s, Value.int IntKind.i64 (↑p : Int), Value.int IntKind.u8 45, Value.bool true, Value.bool true, Value.int IntKind.i64 (↑p : Int), Value.bool true, Value.int IntKind.i64 (↑p : Int), Value.int IntKind.i64 ((↑p : Int) + 1), undef, undef, undef, undef, undef, undef, undef, undef, undef, undef, undef, undef, undef, undef, undef, undef, undef, undef, undef, undef, undef, undef, undef, undef, undef, undef, undef, undef, undef, undef, undef, undef, undef, undef, undef, undef, undef, undef, undef, undef, undef, undef, undef, undef, undef, undef, undef], H := { n := 0, objs := [] }, log := [] } = some (Ex.exit 0, ED s true p a n g),
    Value.int IntKind.i64 (IntKind.wrap IntKind.i64 (↑n : Int)) = Value.int IntKind.i64 v0,
    Value.int IntKind.u64 (IntKind.wrap IntKind.u64 ((0 : Int) - (↑n : Int))) = Value.int IntKind.u64 (↑m2 : Int),
    Value.int IntKind.i64 (IntKind.wrap IntKind.i64 (↑m2 : Int)) = Value.int IntKind.i64 v,
    evCall Tryz.prog 0 (bodied Tryz.prog) noOver sbs lf 30 21 [Value.int IntKind.i64 v] { n := 0, objs := [] } = some (Value.string t, { n := 0, objs := [] }, []),
    (0 : Int) ≤ (↑p : Int),
    (0 : Int) ≤ (↑a : Int),
    Int.toNat (↑p : Int) ≤ Int.toNat (↑a : Int) ∧ Int.toNat (↑a : Int) ≤ ByteArray.size s,
    Value.string (ByteArray.extract s (Int.toNat (↑p : Int)) (Int.toNat (↑a : Int))) = Value.string (ByteArray.extract s p a),
    (Value.bool !ByteArray.toList t == ByteArray.toList (ByteArray.extract s p a)) = Value.bool false] (by kernel_rfl)
    ⟨Dg.vtrue (by omega), hz, wi (by omega), hl _ (by kernel_rfl), wi hv0, wu hm2, wi hv, hN, by omega, by omega, by omega, by rfl, he, trivial⟩
--> rwmt
--< rwmf
theorem rwmf (lf : Nat) (s : ByteArray) (p : Nat) (hs : ByteArray.size s ≤ 2000) (hp : p ≤ 2000) (hz : Dg.strAt s (↑p : Int) = some 45) (h0 : p < ByteArray.size s) (g : Nat → Value) (a : Nat) (n : Nat) (hl : ∀ (s0 : St), clD s0 = RD s true p (p + 1) 0 → evLoop (runD lf) clD lf s0 = some (Ex.exit 0, ED s true p a n g)) (hn : n < 18446744073709551616) (hap : p ≤ a) (has : a ≤ ByteArray.size s) (v : Int) (t : ByteArray) (hN : evCall Tryz.prog 0 (bodied Tryz.prog) noOver sbs lf 30 21 [Value.int IntKind.i64 v] { n := 0, objs := [] } = some (Value.string t, { n := 0, objs := [] }, [])) (m2 : Nat) (hm2 : (0 - (↑n : Int)) % 18446744073709551616 = (↑m2 : Int)) (hv : ((↑m2 : Int) + 9223372036854775808) % 18446744073709551616 - 9223372036854775808 = v) (v0 : Int) (hv0 : ((↑n : Int) + 9223372036854775808) % 18446744073709551616 - 9223372036854775808 = v0) (he : (Value.bool !ByteArray.toList t == ByteArray.toList (ByteArray.extract s p a)) = Value.bool true) :
    evCall Tryz.prog 0 (bodied Tryz.prog) noOver sbs lf 31 40 [Value.string s, Value.int IntKind.i64 (↑p : Int)] { n := 0, objs := [] } = some (Value.tuple #[Value.int IntKind.i64 0, Value.int IntKind.i64 (-1)], { n := 0, objs := [] }, []) :=
  Dg.evCall_hint (hs' := []) (hs := [Hint.val 40 13 (Value.bool true),
    Hint.soft 40 17 (Value.int IntKind.u8 45),
    Hint.val 40 23 (Value.int IntKind.i64 ((↑p : Int) + 1)),
    Hint.loop 40 (Ex.exit 0) (ED s true p a n g),
    Hint.val 40 57 (Value.int IntKind.i64 v0),
    Hint.val 40 60 (Value.int IntKind.u64 (↑m2 : Int)),
    Hint.val 40 61 (Value.int IntKind.i64 v),
    Hint.call 21 (Value.string t) { n := 0, objs := [] } [],
    Hint.soft 40 67 (Value.string (ByteArray.extract s p a)),
    Hint.val 40 68 (Value.bool true)])
    [Value.bool (decide ((↑p : Int) < (↑(ByteArray.size s) : Int))) = Value.bool true,
    Dg.strAt s (↑p : Int) = some (45 : Int),
    Value.int IntKind.i64 (IntKind.wrap IntKind.i64 ((↑p : Int) + (1 : Int))) = Value.int IntKind.i64 ((↑p : Int) + (1 : Int)),
    evLoop (runD lf) clD lf { ts := [Value.string s, Value.int IntKind.i64 ((↑p : Int) + 1), undef, undef, Value.int IntKind.i64 0, Value.int IntKind.i64 0, Value.bool true, Value.int IntKind.i64 (↑p : Int), Value.int IntKind.u64 0, undef, Value.int IntKind.i64 (↑p : Int), Value.string s, Value.int IntKind.i64 (↑(ByteArray.size s) : Int), Value.bool true, Value.bool true, Value.string s, Value.int IntKind.i64 (↑p : Int), Value.int IntKind.u8 45, Value.bool true, Value.bool true, Value.int IntKind.i64 (↑p : Int), Value.bool true, Value.int IntKind.i64 (↑p : Int), Value.int IntKind.i64 ((↑p : Int) + 1), undef, undef, undef, undef, undef, undef, undef, undef, undef, undef, undef, undef, undef, undef, undef, undef, undef, undef, undef, undef, undef, undef, undef, undef, undef, undef, undef, undef, undef, undef, undef, undef, undef, undef, undef, undef, undef, undef, undef, undef, undef, undef, undef, undef, undef, undef, undef], H := { n := 0, objs := [] }, log := [] } = some (Ex.exit 0, ED s true p a n g),
    Value.int IntKind.i64 (IntKind.wrap IntKind.i64 (↑n : Int)) = Value.int IntKind.i64 v0,
    Value.int IntKind.u64 (IntKind.wrap IntKind.u64 ((0 : Int) - (↑n : Int))) = Value.int IntKind.u64 (↑m2 : Int),
    Value.int IntKind.i64 (IntKind.wrap IntKind.i64 (↑m2 : Int)) = Value.int IntKind.i64 v,
    evCall Tryz.prog 0 (bodied Tryz.prog) noOver sbs lf 30 21 [Value.int IntKind.i64 v] { n := 0, objs := [] } = some (Value.string t, { n := 0, objs := [] }, []),
    (0 : Int) ≤ (↑p : Int),
    (0 : Int) ≤ (↑a : Int),
    Int.toNat (↑p : Int) ≤ Int.toNat (↑a : Int) ∧ Int.toNat (↑a : Int) ≤ ByteArray.size s,
    Value.string (ByteArray.extract s (Int.toNat (↑p : Int)) (Int.toNat (↑a : Int))) = Value.string (ByteArray.extract s p a),
    (Value.bool !ByteArray.toList t == ByteArray.toList (ByteArray.extract s p a)) = Value.bool true] (by kernel_rfl)
    ⟨Dg.vtrue (by omega), hz, wi (by omega), hl _ (by kernel_rfl), wi hv0, wu hm2, wi hv, hN, by omega, by omega, by omega, by rfl, he, trivial⟩
--> rwmf
end Go.Proofs.YtpgddboigegplaaGreatDoor.base

namespace Go.Proofs.YtpgddboigegplaaGreatDoor.base
open Go.Dg (junk St Ex Ev Hint evCall evCode evLoop cleanSt bodied noOver Flats flatOver Heap AObj)
set_option linter.unusedVariables false

def isD (n : Nat) : Bool := Nat.ble 48 n && Nat.ble n 57
def nextN (n : Nat) (b : UInt8) : Nat := (10 * n + (b.toNat - 48)) % 18446744073709551616
theorem isD_t {n : Nat} (h : isD n = true) : 48 ≤ n ∧ n ≤ 57 := by
  unfold isD at h
  rw [Bool.and_eq_true] at h
  exact ⟨Nat.le_of_ble_eq_true h.1, Nat.le_of_ble_eq_true h.2⟩
theorem isD_f {n : Nat} (h : isD n = false) : n < 48 ∨ 57 < n := by
  rcases (show (n < 48 ∨ 57 < n) ∨ (48 ≤ n ∧ n ≤ 57) by omega) with h1 | h1
  · exact h1
  · unfold isD at h
    rw [Nat.ble_eq_true_of_le h1.1, Nat.ble_eq_true_of_le h1.2] at h
    cases h
/-- The slots of a run's last state. -/
def lastTs (x : Option (Ex × St)) (i : Nat) : Value := match x with | some r => r.2.ts.getD i junk | none => junk
theorem stA (lf : Nat) (s : ByteArray) (b : Bool) (fr a n : Nat) (hs : s.size ≤ 2000) (hf : fr ≤ a) (h0 : s.size ≤ a) : ∃ g, runD lf (RD s b fr a n) = some (.exit 0, ED s b fr a n g) :=
  ⟨lastTs (runD lf (RD s b fr a n)), by rw [rdA lf s b fr a n hs hf h0]; rfl⟩
theorem stN (lf : Nat) (s : ByteArray) (b : Bool) (fr a n : Nat) (hs : s.size ≤ 2000) (hf : fr ≤ a) (c : Nat) (hz : Dg.strAt s (a : Int) = some (c : Int)) (ha : a < s.size) (hr : c < 256) (hd : isD c = false ∨ fr + 25 ≤ a) : ∃ g, runD lf (RD s b fr a n) = some (.exit 0, ED s b fr a n g) := by
  cases hD : isD c with
  | false =>
    rcases isD_f hD with h | h
    · exact ⟨lastTs (runD lf (RD s b fr a n)), by rw [rdB lf s b fr a n hs hf _ hz ha (by omega) (by omega)]; rfl⟩
    · exact ⟨lastTs (runD lf (RD s b fr a n)), by rw [rdC lf s b fr a n hs hf _ hz ha (by omega) (by omega)]; rfl⟩
  | true =>
    have h := isD_t hD
    rcases hd with h1 | h1
    · rw [hD] at h1; cases h1
    · exact ⟨lastTs (runD lf (RD s b fr a n)), by rw [rdD lf s b fr a n hs hf _ hz ha (by omega) (by omega) h1 (by omega)]; rfl⟩
/-- The digits from a place on. -/
theorem loopD (lf : Nat) (l : List UInt8) (b : Bool) (fr : Nat) (hl : l.length ≤ 2000) : ∀ (k a n : Nat), l.length - a = k → fr ≤ a → a ≤ l.length → n < 18446744073709551616 →
    ∃ e g, a ≤ e ∧ e ≤ l.length ∧ (∀ j (h : j < l.length), a ≤ j → j < e → isD l[j].toNat = true) ∧ (e = l.length ∨ (∃ h : e < l.length, isD l[e].toNat = false) ∨ fr + 25 ≤ e) ∧
      ((l.take e).drop a).foldl nextN n < 18446744073709551616 ∧ ∀ fuel, fr + 26 - a < fuel → ∀ s0, clD s0 = RD (bs l) b fr a n → evLoop (runD lf) clD fuel s0 = some (.exit 0, ED (bs l) b fr e (((l.take e).drop a).foldl nextN n) g) := by
  have hs : (bs l).size = l.length := bs_size l
  intro k
  induction k with
  | zero =>
    intro a n hk hf ha hn
    obtain ⟨g, hg⟩ := stA lf (bs l) b fr a n (by omega) hf (by omega)
    have e0 : ((l.take a).drop a).foldl nextN n = n := by simp
    refine ⟨a, g, Nat.le_refl _, ha, fun j h h1 h2 => by omega, .inl (by omega), by rw [e0]; exact hn, fun fuel hfu s0 h0 => ?_⟩
    obtain ⟨m, rfl⟩ : ∃ m, fuel = m + 1 := ⟨fuel - 1, by omega⟩
    rw [e0]
    exact Dg.evLoop_stop h0 hg (by simp)
  | succ k ih =>
    intro a n hk hf ha hn
    have hlt : a < l.length := by omega
    have hk1 : l.length - (a + 1) = k := by omega
    have hf1 : fr ≤ a + 1 := by omega
    have hz := bs_get l a hlt
    have hr : l[a].toNat < 256 := l[a].toNat_lt
    have stop : (isD l[a].toNat = false ∨ fr + 25 ≤ a) → ∃ e g, a ≤ e ∧ e ≤ l.length ∧ (∀ j (h : j < l.length), a ≤ j → j < e → isD l[j].toNat = true) ∧ (e = l.length ∨ (∃ h : e < l.length, isD l[e].toNat = false) ∨ fr + 25 ≤ e) ∧
        ((l.take e).drop a).foldl nextN n < 18446744073709551616 ∧ ∀ fuel, fr + 26 - a < fuel → ∀ s0, clD s0 = RD (bs l) b fr a n → evLoop (runD lf) clD fuel s0 = some (.exit 0, ED (bs l) b fr e (((l.take e).drop a).foldl nextN n) g) := fun hst => by
      obtain ⟨g, hg⟩ := stN lf (bs l) b fr a n (by omega) hf _ hz (by omega) hr hst
      have e0 : ((l.take a).drop a).foldl nextN n = n := by simp
      refine ⟨a, g, Nat.le_refl _, ha, fun j h h1 h2 => by omega, ?_, by rw [e0]; exact hn, fun fuel hfu s0 h0 => ?_⟩
      · rcases hst with h | h
        · exact .inr (.inl ⟨hlt, h⟩)
        · exact .inr (.inr h)
      · obtain ⟨m, rfl⟩ : ∃ m, fuel = m + 1 := ⟨fuel - 1, by omega⟩
        rw [e0]
        exact Dg.evLoop_stop h0 hg (by simp)
    cases hD : isD l[a].toNat with
    | false => exact stop (.inl hD)
    | true =>
      by_cases h25 : a < fr + 25
      · have hd := isD_t hD
        obtain ⟨s', e1, e2⟩ := rdR lf (bs l) b fr a n (by omega) hf _ hz (by omega) (by omega) (by omega) h25 hn (nextN n l[a]) (by unfold nextN; omega)
        obtain ⟨e, g, h1, h2, h3, h4, h5, h6⟩ := ih (a + 1) (nextN n l[a]) hk1 hf1 hlt (Nat.mod_lt _ (by decide))
        have ed : (l.take e).drop a = l[a] :: (l.take e).drop (a + 1) := by
          have hlt2 : a < (l.take e).length := by rw [List.length_take]; omega
          rw [List.drop_eq_getElem_cons hlt2, List.getElem_take]
        refine ⟨e, g, by omega, h2, fun j h g1 g2 => ?_, h4, by rw [ed]; exact h5, fun fuel hfu s0 h0 => ?_⟩
        · by_cases hj : j = a
          · subst hj; exact hD
          · exact h3 j h (by omega) g2
        · obtain ⟨m, rfl⟩ : ∃ m, fuel = m + 1 := ⟨fuel - 1, by omega⟩
          rw [Dg.evLoop_step h0 e1, ed]
          exact h6 m (by omega) s' e2
      · exact stop (.inr (by omega))
end Go.Proofs.YtpgddboigegplaaGreatDoor.base

namespace Go.Proofs.YtpgddboigegplaaGreatDoor.base
open Go.Dg (junk St Ex Ev Hint evCall evCode evLoop cleanSt bodied noOver Flats flatOver Heap AObj)
set_option linter.unusedVariables false

theorem bs_toList (u : List UInt8) : (bs u).toList = u := by rw [ByteArray.toList_eq]; simp [bs]
theorem bs_ne (u w : List UInt8) : Value.bool (!((bs u).toList == (bs w).toList)) = .bool (!decide (u = w)) := by
  rw [bs_toList, bs_toList]
  by_cases h : u = w
  · simp [h]
  · simp [h]
def InI (v : Int) : Prop := -9223372036854775808 ≤ v ∧ v ≤ 9223372036854775807
noncomputable abbrev evR (lf : Nat) (l : List UInt8) (p : Nat) : Option (Value × Heap × List Nat) := evCall Tryz.prog 0 (bodied Tryz.prog) noOver sbs lf 31 40 [.string (bs l), .int .i64 (p : Int)] ⟨0, []⟩
/-- What is read: the number and the place behind; or none. -/
def rdV (l : List UInt8) (p e : Nat) (v : Int) : Value := if Lib.itoa v = (l.take e).drop p then .tuple #[.int .i64 v, .int .i64 (e : Int)] else .tuple #[.int .i64 0, .int .i64 (-1)]
theorem read_plain (lf : Nat) (hlf : 100 ≤ lf) (l : List UInt8) (p : Nat) (hp : p ≤ l.length) (hl : l.length ≤ 1000) (hne : ∀ h : p < l.length, l[p].toNat ≠ 45) :
    ∃ e n v, p ≤ e ∧ e ≤ l.length ∧ (∀ j (h : j < l.length), p ≤ j → j < e → isD l[j].toNat = true) ∧ (e = l.length ∨ (∃ h : e < l.length, isD l[e].toNat = false) ∨ p + 25 ≤ e) ∧ n = ((l.take e).drop p).foldl nextN 0 ∧ n < 18446744073709551616 ∧
      v = ((n : Int) + 9223372036854775808) % 18446744073709551616 - 9223372036854775808 ∧ evR lf l p = some (rdV l p e v, ⟨0, []⟩, []) := by
  have hs : (bs l).size = l.length := bs_size l
  obtain ⟨e, g, h1, h2, h3, h4, h5, h6⟩ := loopD lf l false p (by omega) _ p 0 rfl (Nat.le_refl _) hp (by decide)
  refine ⟨e, _, _, h1, h2, h3, h4, rfl, h5, rfl, ?_⟩
  generalize hn : ((l.take e).drop p).foldl nextN 0 = n at h5 h6
  generalize hv : ((n : Int) + 9223372036854775808) % 18446744073709551616 - 9223372036854775808 = v
  have hN := num_run lf (n := v) (by omega) (by omega)
  have hx : (bs l).extract p e = bs ((l.take e).drop p) := bs_ext l p e
  have hloop := h6 lf (by omega)
  unfold rdV
  by_cases heq : Lib.itoa v = (l.take e).drop p
  · rw [if_pos heq]
    have he : Value.bool (!((bs (Lib.itoa v)).toList == ((bs l).extract p e).toList)) = .bool false := by rw [hx, bs_ne, heq]; simp
    by_cases hlt : p < l.length
    · exact rwpt lf (bs l) p (by omega) (by omega) _ (bs_get l p hlt) (by omega) (by have := hne hlt; omega) g e n hloop h5 h1 (by omega) v _ hN hv.symm he
    · exact rwet lf (bs l) p (by omega) (by omega) (by omega) g e n hloop h5 h1 (by omega) v _ hN hv.symm he
  · rw [if_neg heq]
    have he : Value.bool (!((bs (Lib.itoa v)).toList == ((bs l).extract p e).toList)) = .bool true := by rw [hx, bs_ne]; simp [heq]
    by_cases hlt : p < l.length
    · exact rwpf lf (bs l) p (by omega) (by omega) _ (bs_get l p hlt) (by omega) (by have := hne hlt; omega) g e n hloop h5 h1 (by omega) v _ hN hv.symm he
    · exact rwef lf (bs l) p (by omega) (by omega) (by omega) g e n hloop h5 h1 (by omega) v _ hN hv.symm he
theorem read_minus (lf : Nat) (hlf : 100 ≤ lf) (l : List UInt8) (p : Nat) (hp : p < l.length) (hl : l.length ≤ 1000) (hm : l[p].toNat = 45) :
    ∃ (e n : Nat) (v : Int), p + 1 ≤ e ∧ e ≤ l.length ∧ (∀ j (h : j < l.length), p + 1 ≤ j → j < e → isD l[j].toNat = true) ∧ (e = l.length ∨ (∃ h : e < l.length, isD l[e].toNat = false) ∨ p + 25 ≤ e) ∧ n = ((l.take e).drop (p + 1)).foldl nextN 0 ∧ n < 18446744073709551616 ∧
      v = ((0 - (n : Int)) % 18446744073709551616 + 9223372036854775808) % 18446744073709551616 - 9223372036854775808 ∧ evR lf l p = some (rdV l p e v, ⟨0, []⟩, []) := by
  have hs : (bs l).size = l.length := bs_size l
  obtain ⟨e, g, h1, h2, h3, h4, h5, h6⟩ := loopD lf l true p (by omega) _ (p + 1) 0 rfl (by omega) (by omega) (by decide)
  refine ⟨e, _, _, h1, h2, h3, h4, rfl, h5, rfl, ?_⟩
  generalize hn : ((l.take e).drop (p + 1)).foldl nextN 0 = n at h5 h6
  obtain ⟨m2, hm2⟩ : ∃ m2 : Nat, (0 - (n : Int)) % 18446744073709551616 = (m2 : Int) := ⟨((0 - (n : Int)) % 18446744073709551616).toNat, by omega⟩
  rw [hm2]
  generalize hv : ((m2 : Int) + 9223372036854775808) % 18446744073709551616 - 9223372036854775808 = v
  have hN := num_run lf (n := v) (by omega) (by omega)
  have hx : (bs l).extract p e = bs ((l.take e).drop p) := bs_ext l p e
  have hloop := h6 lf (by omega)
  have hz : Dg.strAt (bs l) (p : Int) = some 45 := by rw [bs_get l p hp, hm]; rfl
  unfold rdV
  by_cases heq : Lib.itoa v = (l.take e).drop p
  · rw [if_pos heq]
    have he : Value.bool (!((bs (Lib.itoa v)).toList == ((bs l).extract p e).toList)) = .bool false := by rw [hx, bs_ne, heq]; simp
    exact rwmt lf (bs l) p (by omega) (by omega) hz (by omega) g e n hloop h5 (by omega) (by omega) v _ hN m2 hm2 hv _ rfl he
  · rw [if_neg heq]
    have he : Value.bool (!((bs (Lib.itoa v)).toList == ((bs l).extract p e).toList)) = .bool true := by rw [hx, bs_ne]; simp [heq]
    exact rwmf lf (bs l) p (by omega) (by omega) hz (by omega) g e n hloop h5 (by omega) (by omega) v _ hN m2 hm2 hv _ rfl he
end Go.Proofs.YtpgddboigegplaaGreatDoor.base

namespace Go.Proofs.YtpgddboigegplaaGreatDoor.base
open Go.Dg (junk St Ex Ev Hint evCall evCode evLoop cleanSt bodied noOver Flats flatOver Heap AObj)
set_option linter.unusedVariables false

theorem dgt {d : Nat} (h : d < 10) : (UInt8.ofNat (48 + d)).toNat = 48 + d := by
  rw [UInt8.toNat_ofNat']
  omega
theorem fold_dec : ∀ (k m : Nat), m < k → m < 18446744073709551616 → (Lib.decDigits m).foldl nextN 0 = m := by
  intro k
  induction k with
  | zero => intro m h; omega
  | succ k ih =>
    intro m h h64
    by_cases h0 : m < 10
    · rw [Lib.decDigits_one h0]
      simp only [List.foldl_cons, List.foldl_nil, nextN, dgt h0]
      omega
    · rw [Lib.decDigits, dif_neg h0, List.foldl_append, ih (m / 10) (by omega) (by omega)]
      simp only [List.foldl_cons, List.foldl_nil, nextN, dgt (show m % 10 < 10 by omega)]
      omega
theorem dec_isD : ∀ (k m : Nat), m < k → ∀ c ∈ Lib.decDigits m, isD c.toNat = true := by
  intro k
  induction k with
  | zero => intro m h; omega
  | succ k ih =>
    intro m h c hc
    have one : ∀ d, d < 10 → isD (UInt8.ofNat (48 + d)).toNat = true := fun d hd => by
      rw [dgt hd]
      unfold isD
      rw [Nat.ble_eq_true_of_le (by omega), Nat.ble_eq_true_of_le (by omega)]
      rfl
    by_cases h0 : m < 10
    · rw [Lib.decDigits_one h0] at hc
      rw [List.mem_singleton.1 hc]
      exact one m h0
    · rw [Lib.decDigits, dif_neg h0] at hc
      rcases List.mem_append.1 hc with hc | hc
      · exact ih (m / 10) (by omega) c hc
      · rw [List.mem_singleton.1 hc]
        exact one _ (by omega)
theorem dd_le : ∀ m n, n < 10 ^ (m + 1) → (Lib.decDigits n).length ≤ m + 1 := by
  intro m
  induction m with
  | zero => intro n h; rw [Lib.decDigits_one (by simpa using h)]; simp
  | succ m ih =>
    intro n h
    by_cases h0 : n < 10
    · rw [Lib.decDigits_one h0]; simp
    · rw [Lib.decDigits, dif_neg h0, List.length_append]
      have := ih (n / 10) (by rw [Nat.pow_succ] at h; omega)
      simp
      omega
/-- The digits end where the digits' text ends. -/
theorem ends_at {l : List UInt8} {q : Nat} {ds rest : List UInt8} (hds : (l.drop q) = ds ++ rest) (hq : q ≤ l.length) (hD : ∀ c ∈ ds, isD c.toNat = true) (hrest : ∀ c r, rest = c :: r → isD c.toNat = false) (hlen : ds.length ≤ 20) {fr e : Nat} (hfr : q ≤ fr + 1) (hfr2 : fr ≤ q) (h1 : q ≤ e) (h2 : e ≤ l.length)
    (h3 : ∀ j (h : j < l.length), q ≤ j → j < e → isD l[j].toNat = true) (h4 : e = l.length ∨ (∃ h : e < l.length, isD l[e].toNat = false) ∨ fr + 25 ≤ e) : e = q + ds.length := by
  have hL : l.length = q + ds.length + rest.length := by
    have := congrArg List.length hds
    rw [List.length_drop, List.length_append] at this
    omega
  have at_ : ∀ i (h : q + i < l.length), (ds ++ rest)[i]'(by rw [List.length_append]; omega) = l[q + i] := fun i h => by
    have : (l.drop q)[i]'(by rw [List.length_drop]; omega) = l[q + i] := List.getElem_drop ..
    rw [← this]
    congr 1
    exact hds.symm
  rcases Nat.lt_trichotomy e (q + ds.length) with h | h | h
  · exfalso
    have hlt : e < l.length := by omega
    obtain ⟨i, rfl⟩ : ∃ i, e = q + i := ⟨e - q, by omega⟩
    have hi : i < ds.length := by omega
    have hd : isD l[q + i].toNat = true := by
      rw [← at_ i hlt, List.getElem_append_left hi]
      exact hD _ (List.getElem_mem hi)
    rcases h4 with g | ⟨g, g2⟩ | g
    · omega
    · rw [hd] at g2; cases g2
    · omega
  · exact h
  · exfalso
    cases hr : rest with
    | nil => rw [hr] at hL; simp at hL; omega
    | cons c r =>
      have hlt : q + ds.length < l.length := by rw [hL, hr]; simp
      have hd := h3 (q + ds.length) hlt (by omega) h
      rw [← at_ ds.length hlt, List.getElem_append_right (Nat.le_refl _)] at hd
      have e0 : rest[ds.length - ds.length]'(by rw [hr]; simp) = c := by simp [hr]
      rw [e0, hrest c r hr] at hd
      cases hd
theorem seg_at {l ds rest : List UInt8} {q : Nat} (hds : l.drop q = ds ++ rest) : (l.take (q + ds.length)).drop q = ds := by
  rw [← List.take_drop, hds, List.take_left']
  rfl
/-- Where a number's own text stands, and no digit behind it, it is read. -/
theorem read_ok (lf : Nat) (hlf : 100 ≤ lf) (pre rest : List UInt8) (v : Int) (hv : InI v) (hrest : ∀ c r, rest = c :: r → isD c.toNat = false) (hl : (pre ++ (Lib.itoa v ++ rest)).length ≤ 1000) :
    evR lf (pre ++ (Lib.itoa v ++ rest)) pre.length = some (.tuple #[.int .i64 v, .int .i64 ((pre.length + (Lib.itoa v).length : Nat) : Int)], ⟨0, []⟩, []) := by
  unfold InI at hv
  generalize hL : pre ++ (Lib.itoa v ++ rest) = l at hl
  have hd0 : l.drop pre.length = Lib.itoa v ++ rest := by rw [← hL, List.drop_left]
  have hp : pre.length ≤ l.length := by rw [← hL, List.length_append]; omega
  by_cases hneg : v < 0
  · have hi : Lib.itoa v = 45 :: Lib.decDigits v.natAbs := by unfold Lib.itoa; rw [if_pos hneg]
    have hd1 : l.drop (pre.length + 1) = Lib.decDigits v.natAbs ++ rest := by
      rw [← List.drop_drop, hd0, hi]
      rfl
    have hlt : pre.length < l.length := by
      rw [← hL, hi]; simp
    have h45 : l[pre.length].toNat = 45 := by
      have : l[pre.length]? = some 45 := by
        rw [← hL, hi, List.getElem?_append_right (Nat.le_refl _)]; simp
      rw [List.getElem?_eq_getElem hlt] at this
      rw [Option.some.inj this]
      rfl
    obtain ⟨e, n, v', h1, h2, h3, h4, h5, h6, h7, h8⟩ := read_minus lf hlf l pre.length hlt hl h45
    have he := ends_at hd1 (by omega) (dec_isD _ _ (Nat.lt_succ_self _)) hrest (by have := dd_le 18 v.natAbs (by omega); omega) (by omega) (by omega) h1 h2 h3 h4
    have hseg := seg_at hd1
    rw [← he] at hseg
    rw [hseg, fold_dec _ _ (Nat.lt_succ_self _) (by omega)] at h5
    have hvv : v' = v := by subst h5; omega
    have hseg0 := seg_at hd0
    have hlen : pre.length + (Lib.itoa v).length = e := by rw [hi, List.length_cons]; omega
    rw [hlen] at hseg0 ⊢
    rw [h8, hvv]
    unfold rdV
    rw [if_pos hseg0.symm]
  · obtain ⟨u, rfl⟩ : ∃ u : Nat, v = u := ⟨v.toNat, by omega⟩
    have hi : Lib.itoa (u : Int) = Lib.decDigits u := by unfold Lib.itoa; rw [if_neg hneg]; rfl
    rw [hi] at hd0
    have hne : ∀ h : pre.length < l.length, l[pre.length].toNat ≠ 45 := fun h => by
      have hlen0 : 0 < (Lib.decDigits u).length := by rw [Lib.decDigits_length]; exact Lib.nDigits_pos u
      have : (l.drop pre.length)[0]'(by rw [List.length_drop]; omega) = l[pre.length] := by simp
      have h2 : l[pre.length] = (Lib.decDigits u)[0] := by
        rw [← this]
        simp only [hd0]
        rw [List.getElem_append_left hlen0]
      rw [h2]
      have := isD_t (dec_isD _ _ (Nat.lt_succ_self u) _ (List.getElem_mem hlen0))
      omega
    obtain ⟨e, n, v', h1, h2, h3, h4, h5, h6, h7, h8⟩ := read_plain lf hlf l pre.length hp hl hne
    have he := ends_at hd0 hp (dec_isD _ _ (Nat.lt_succ_self _)) hrest (by have := dd_le 18 u (by omega); omega) (by omega) (by omega) h1 h2 h3 h4
    have hseg := seg_at hd0
    rw [← he] at hseg
    rw [hseg, fold_dec _ _ (Nat.lt_succ_self _) (by omega)] at h5
    have hvv : v' = (u : Int) := by subst h5; omega
    rw [hi, ← he, h8, hvv]
    unfold rdV
    rw [hi, if_pos hseg.symm]
/-- Whatever stands there: what is read stands there as its own text. -/
theorem read_any (lf : Nat) (hlf : 100 ≤ lf) (l : List UInt8) (p : Nat) (hp : p ≤ l.length) (hl : l.length ≤ 1000) : evR lf l p = some (.tuple #[.int .i64 0, .int .i64 (-1)], ⟨0, []⟩, []) ∨
    ∃ (v : Int) (e : Nat), InI v ∧ p ≤ e ∧ e ≤ l.length ∧ (l.take e).drop p = Lib.itoa v ∧ evR lf l p = some (.tuple #[.int .i64 v, .int .i64 (e : Int)], ⟨0, []⟩, []) := by
  by_cases hm : ∃ h : p < l.length, l[p].toNat = 45
  · obtain ⟨h, hm⟩ := hm
    obtain ⟨e, n, v, h1, h2, h3, h4, h5, h6, h7, h8⟩ := read_minus lf hlf l p h hl hm
    rw [h8]
    unfold rdV
    by_cases heq : Lib.itoa v = (l.take e).drop p
    · rw [if_pos heq]
      exact .inr ⟨v, e, by unfold InI; omega, by omega, h2, heq.symm, rfl⟩
    · rw [if_neg heq]
      exact .inl rfl
  · obtain ⟨e, n, v, h1, h2, h3, h4, h5, h6, h7, h8⟩ := read_plain lf hlf l p hp hl (fun h h2 => hm ⟨h, h2⟩)
    rw [h8]
    unfold rdV
    by_cases heq : Lib.itoa v = (l.take e).drop p
    · rw [if_pos heq]
      exact .inr ⟨v, e, by unfold InI; omega, h1, h2, heq.symm, rfl⟩
    · rw [if_neg heq]
      exact .inl rfl
end Go.Proofs.YtpgddboigegplaaGreatDoor.base
