/- The rounds of 'text.Unhex' of layer 4, over any text. How the loop of 'text.Unhex' of layer 4 ends. The loop of 'text.Unhex' of layer 4, as far as digits go. What 'text.Unhex' of layer 4 comes to. What the four functions of layer 4 for bytes come to over whatever heap. Plain laws of hexadecimal digits: what is told of bytes is read as these bytes, and what is read is told as it was. -/
import Derived.Test.YtflgpkkbifkpoaaGreatDoorRows
import Derived.Test.YtflgpkkbifkpoaaGreatDoorTextHexA
namespace Go.Proofs.YtflgpkkbifkpoaaGreatDoor.text
open Go.Dg (junk St Ex Ev Hint evCall evCallS evCode evCodeK innerKp evCodeS evLoop cleanSt ue bodied noOver sbOf headOf tailOf bodyOf rAssign rBody lBody Flats flatOver Heap AObj SCall Law ofLaw Fix)
set_option linter.unusedVariables false
set_option linter.unusedSimpArgs false

theorem or_all : ((List.range 256).all fun n => (IntKind.wrap .u8 (IntKind.wrap .i64 ((BitVec.toNat (BitVec.ofInt 64 (((n / 16 : Nat) : Int) * (2 : Int) ^ (4 : Nat)) ||| BitVec.ofInt 64 ((n % 16 : Nat) : Int)) : Nat) : Int))) == (n : Int)) = true := by decide +kernel
theorem or_byte {h d : Int} (hh : 0 ≤ h ∧ h < 16) (hd : 0 ≤ d ∧ d < 16) : Value.int .u8 (IntKind.wrap .u8 (IntKind.wrap .i64 ((BitVec.toNat (BitVec.ofInt 64 (h * (2 : Int) ^ (4 : Nat)) ||| BitVec.ofInt 64 d) : Nat) : Int))) = .int .u8 (16 * h + d) := by
  obtain ⟨a, rfl⟩ : ∃ a : Nat, h = (a : Int) := ⟨h.toNat, by omega⟩
  obtain ⟨b, rfl⟩ : ∃ b : Nat, d = (b : Int) := ⟨d.toNat, by omega⟩
  have := List.all_eq_true.1 or_all (16 * a + b) (List.mem_range.2 (by omega))
  rw [show (16 * a + b) / 16 = a by omega, show (16 * a + b) % 16 = b by omega] at this
  rw [eq_of_beq this]
  congr 1
noncomputable def lU : Code := lBody ((Tryz.f17.body).getD .skip)
noncomputable abbrev runU : St → Option (Ex × St) := evCode Tryz.prog 0 (bodied Tryz.prog) (evCall Tryz.prog 0 (bodied Tryz.prog) noOver sbs 4000 19) 0 10 4000 lU
noncomputable abbrev clU : St → St := cleanSt 0 10 (ue lU [] []).1
def TU (zs : List Int) (out : Value) (h : Int) (r : List Value) (k : Nat) : List Value := [.string (txt zs), undef, .slice none 0 0, .bool false, out, .int .i64 h] ++ (r ++ ([junk, .pointer (some ⟨k, 0, none⟩)] ++ js 28))
def rU (i : Nat) (z d : Int) : List Value := [.int .i64 i, .int .i32 z, .int .i64 d, .bool true]
def Ua (zs : List Int) : St := ⟨TU zs (.slice none 0 0) 0 [undef, undef, undef, undef] 0, ⟨1, [.iter (txt zs) 0]⟩, []⟩
def Ub (zs : List Int) (h z : Int) : St := ⟨TU zs (.slice none 0 0) h (rU 0 z h) 0, ⟨1, [.iter (txt zs) 1]⟩, []⟩
def Uc (zs : List Int) (i : Nat) (h z d : Int) (os : List Int) : St := ⟨TU zs (.slice (some ⟨0, 0, some 0⟩) os.length os.length) h (rU i z d) 1, ⟨2, [.iter (txt zs) (i + 1), rowU os]⟩, []⟩
--< uad
theorem uad (zs : List Int) (hi : 0 < List.length zs) (h0 : 48 ≤ List.getD zs 0 0 ∧ List.getD zs 0 0 ≤ 57) :
    ∃ s', runU (Ua zs) = some (Ex.normal, s') ∧ clU s' = Ub zs (List.getD zs 0 0 - 48) (List.getD zs 0 0) :=
  Dg.code_round (f := 17) clU (hs := [Hint.softH 17 12 (Value.tuple #[Value.bool true, Value.int IntKind.i64 0, Value.int IntKind.i32 (List.getD zs 0 0)]) { n := 1, objs := [AObj.iter (txt zs) 1] } [0],
    Hint.val 33 6 (Value.int IntKind.i32 (List.getD zs 0 0 - 48)),
    Hint.val 33 7 (Value.int IntKind.i64 (List.getD zs 0 0 - 48)),
    Hint.val 33 10 (Value.bool false),
    Hint.val 33 17 (Value.bool true),
    Hint.val 33 20 (Value.bool true)])
    [Dg.nextAt { n := (1 : Nat), objs := [AObj.iter (txt zs) (0 : Nat)] } (0 : Nat) = some (Value.tuple #[Value.bool true, Value.int IntKind.i64 (0 : Int), Value.int IntKind.i32 (List.getD zs (0 : Nat) (0 : Int))], { n := (1 : Nat), objs := [AObj.iter (txt zs) (1 : Nat)] }, [(0 : Nat)]),
    Value.int IntKind.i32 (IntKind.wrap IntKind.i32 (List.getD zs (0 : Nat) (0 : Int) - (48 : Int))) = Value.int IntKind.i32 (List.getD zs (0 : Nat) (0 : Int) - (48 : Int)),
    Value.int IntKind.i64 (IntKind.wrap IntKind.i64 (List.getD zs (0 : Nat) (0 : Int) - (48 : Int))) = Value.int IntKind.i64 (List.getD zs (0 : Nat) (0 : Int) - (48 : Int)),
    Value.bool (decide (List.getD zs (0 : Nat) (0 : Int) ≥ (97 : Int))) = Value.bool false,
    Value.bool (decide (List.getD zs (0 : Nat) (0 : Int) ≥ (48 : Int))) = Value.bool true,
    Value.bool (decide (List.getD zs (0 : Nat) (0 : Int) ≤ (57 : Int))) = Value.bool true] (by kernel_rfl)
    ⟨next_lo (pos := 0) rfl (by omega) (by omega), by simp only [Dg.w_u8, Dg.w_u16, Dg.w_u32, Dg.w_i8, Dg.w_i32, Value.int.injEq, true_and]; omega, Dg.i64_eq rfl (by omega) (by omega), Dg.vfalse (by omega), Dg.vtrue (by omega), Dg.vtrue (by omega), trivial⟩
--> uad
--< ubd
theorem ubd (zs : List Int) (h : Int) (z0 : Int) (hi : 1 < List.length zs) (hh : 0 ≤ h ∧ h < 16) (h0 : 48 ≤ List.getD zs 1 0 ∧ List.getD zs 1 0 ≤ 57) :
    ∃ s', runU (Ub zs h z0) = some (Ex.normal, s') ∧ clU s' = Uc zs 1 h (List.getD zs 1 0) (List.getD zs 1 0 - 48) [16 * h + (List.getD zs 1 0 - 48)] :=
  Dg.code_round (f := 17) clU (hs := [Hint.softH 17 12 (Value.tuple #[Value.bool true, Value.int IntKind.i64 1, Value.int IntKind.i32 (List.getD zs 1 0)]) { n := 1, objs := [AObj.iter (txt zs) 2] } [0],
    Hint.val 33 6 (Value.int IntKind.i32 (List.getD zs 1 0 - 48)),
    Hint.val 33 7 (Value.int IntKind.i64 (List.getD zs 1 0 - 48)),
    Hint.val 33 10 (Value.bool false),
    Hint.val 33 17 (Value.bool true),
    Hint.val 33 20 (Value.bool true),
    Hint.val 17 29 (Value.int IntKind.i64 (h * 2 ^ 4)),
    Hint.val 17 32 (Value.int IntKind.u8 (16 * h + (List.getD zs 1 0 - 48)))])
    [Dg.nextAt { n := (1 : Nat), objs := [AObj.iter (txt zs) (1 : Nat)] } (0 : Nat) = some (Value.tuple #[Value.bool true, Value.int IntKind.i64 (1 : Int), Value.int IntKind.i32 (List.getD zs (1 : Nat) (0 : Int))], { n := (1 : Nat), objs := [AObj.iter (txt zs) (2 : Nat)] }, [(0 : Nat)]),
    Value.int IntKind.i32 (IntKind.wrap IntKind.i32 (List.getD zs (1 : Nat) (0 : Int) - (48 : Int))) = Value.int IntKind.i32 (List.getD zs (1 : Nat) (0 : Int) - (48 : Int)),
    Value.int IntKind.i64 (IntKind.wrap IntKind.i64 (List.getD zs (1 : Nat) (0 : Int) - (48 : Int))) = Value.int IntKind.i64 (List.getD zs (1 : Nat) (0 : Int) - (48 : Int)),
    Value.bool (decide (List.getD zs (1 : Nat) (0 : Int) ≥ (97 : Int))) = Value.bool false,
    Value.bool (decide (List.getD zs (1 : Nat) (0 : Int) ≥ (48 : Int))) = Value.bool true,
    Value.bool (decide (List.getD zs (1 : Nat) (0 : Int) ≤ (57 : Int))) = Value.bool true,
    Value.int IntKind.i64 (IntKind.wrap IntKind.i64 (h * (2 : Int) ^ (4 : Nat))) = Value.int IntKind.i64 (h * (2 : Int) ^ (4 : Nat)),
    Value.int IntKind.u8 (IntKind.wrap IntKind.u8 (IntKind.wrap IntKind.i64 (↑(BitVec.toNat (BitVec.ofInt (64 : Nat) (h * (2 : Int) ^ (4 : Nat)) ||| BitVec.ofInt (64 : Nat) (List.getD zs (1 : Nat) (0 : Int) - (48 : Int)))) : Int))) = Value.int IntKind.u8 ((16 : Int) * h + (List.getD zs (1 : Nat) (0 : Int) - (48 : Int)))] (by kernel_rfl)
    ⟨next_lo (pos := 1) rfl (by omega) (by omega), by simp only [Dg.w_u8, Dg.w_u16, Dg.w_u32, Dg.w_i8, Dg.w_i32, Value.int.injEq, true_and]; omega, Dg.i64_eq rfl (by omega) (by omega), Dg.vfalse (by omega), Dg.vtrue (by omega), Dg.vtrue (by omega), Dg.i64_eq rfl (by omega) (by omega), or_byte hh (by omega), trivial⟩
--> ubd
--< ucd
theorem ucd (zs : List Int) (i : Nat) (h : Int) (z0 : Int) (d0 : Int) (os : List Int) (hi : i + 1 < List.length zs) (hp : (i + 1) % 2 = 0) (hl : List.length zs ≤ 2000) (h0 : 48 ≤ List.getD zs (i + 1) 0 ∧ List.getD zs (i + 1) 0 ≤ 57) :
    ∃ s', runU (Uc zs i h z0 d0 os) = some (Ex.normal, s') ∧ clU s' = Uc zs (i + 1) (List.getD zs (i + 1) 0 - 48) (List.getD zs (i + 1) 0) (List.getD zs (i + 1) 0 - 48) os :=
  Dg.code_round (f := 17) clU (hs := [Hint.softH 17 12 (Value.tuple #[Value.bool true, Value.int IntKind.i64 (↑(i + 1) : Int), Value.int IntKind.i32 (List.getD zs (i + 1) 0)]) { n := 2, objs := [AObj.iter (txt zs) (i + 1 + 1), AObj.cells (u8s os) 5 5 1] } [1],
    Hint.val 33 6 (Value.int IntKind.i32 (List.getD zs (i + 1) 0 - 48)),
    Hint.val 33 7 (Value.int IntKind.i64 (List.getD zs (i + 1) 0 - 48)),
    Hint.val 33 10 (Value.bool false),
    Hint.val 33 17 (Value.bool true),
    Hint.val 33 20 (Value.bool true),
    Hint.val 17 25 (Value.bool true)])
    [Dg.nextAt { n := (2 : Nat), objs := [AObj.iter (txt zs) (i + (1 : Nat)), AObj.cells (u8s os) (5 : Nat) (5 : Nat) (1 : Nat)] } (1 : Nat) = some (Value.tuple #[Value.bool true, Value.int IntKind.i64 (↑(i + (1 : Nat)) : Int), Value.int IntKind.i32 (List.getD zs (i + (1 : Nat)) (0 : Int))], { n := (2 : Nat), objs := [AObj.iter (txt zs) (i + (1 : Nat) + (1 : Nat)), AObj.cells (u8s os) (5 : Nat) (5 : Nat) (1 : Nat)] }, [(1 : Nat)]),
    Value.int IntKind.i32 (IntKind.wrap IntKind.i32 (List.getD zs (i + (1 : Nat)) (0 : Int) - (48 : Int))) = Value.int IntKind.i32 (List.getD zs (i + (1 : Nat)) (0 : Int) - (48 : Int)),
    Value.int IntKind.i64 (IntKind.wrap IntKind.i64 (List.getD zs (i + (1 : Nat)) (0 : Int) - (48 : Int))) = Value.int IntKind.i64 (List.getD zs (i + (1 : Nat)) (0 : Int) - (48 : Int)),
    Value.bool (decide (List.getD zs (i + (1 : Nat)) (0 : Int) ≥ (97 : Int))) = Value.bool false,
    Value.bool (decide (List.getD zs (i + (1 : Nat)) (0 : Int) ≥ (48 : Int))) = Value.bool true,
    Value.bool (decide (List.getD zs (i + (1 : Nat)) (0 : Int) ≤ (57 : Int))) = Value.bool true,
    Value.bool (Int.tmod (↑(i + (1 : Nat)) : Int) (2 : Int) == (0 : Int)) = Value.bool true] (by kernel_rfl)
    ⟨next_lo (pos := i + 1) rfl (by omega) (by omega), by simp only [Dg.w_u8, Dg.w_u16, Dg.w_u32, Dg.w_i8, Dg.w_i32, Value.int.injEq, true_and]; omega, Dg.i64_eq rfl (by omega) (by omega), Dg.vfalse (by omega), Dg.vtrue (by omega), Dg.vtrue (by omega), Dg.vtrue (by rw [Int.tmod_eq_emod_of_nonneg (by omega)]; omega), trivial⟩
--> ucd
--< udd
theorem udd (zs : List Int) (i : Nat) (h : Int) (z0 : Int) (d0 : Int) (os : List Int) (ho : List.length os ≤ 2000) (hi : i + 1 < List.length zs) (hp : (i + 1) % 2 = 1) (hl : List.length zs ≤ 2000) (hh : 0 ≤ h ∧ h < 16) (h0 : 48 ≤ List.getD zs (i + 1) 0 ∧ List.getD zs (i + 1) 0 ≤ 57) :
    ∃ s', runU (Uc zs i h z0 d0 os) = some (Ex.normal, s') ∧ clU s' = Uc zs (i + 1) h (List.getD zs (i + 1) 0) (List.getD zs (i + 1) 0 - 48) (os ++ [16 * h + (List.getD zs (i + 1) 0 - 48)]) :=
  Dg.code_round (f := 17) clU (hs := [Hint.softH 17 12 (Value.tuple #[Value.bool true, Value.int IntKind.i64 (↑(i + 1) : Int), Value.int IntKind.i32 (List.getD zs (i + 1) 0)]) { n := 2, objs := [AObj.iter (txt zs) (i + 1 + 1), AObj.cells (u8s os) 5 5 1] } [1],
    Hint.val 33 6 (Value.int IntKind.i32 (List.getD zs (i + 1) 0 - 48)),
    Hint.val 33 7 (Value.int IntKind.i64 (List.getD zs (i + 1) 0 - 48)),
    Hint.val 33 10 (Value.bool false),
    Hint.val 33 17 (Value.bool true),
    Hint.val 33 20 (Value.bool true),
    Hint.val 17 25 (Value.bool false),
    Hint.val 17 29 (Value.int IntKind.i64 (h * 2 ^ 4)),
    Hint.val 17 32 (Value.int IntKind.u8 (16 * h + (List.getD zs (i + 1) 0 - 48))),
    Hint.softH 17 34 (Value.slice (some { block := 3, off := 0, spot := some 0 }) (List.length (os ++ [16 * h + (List.getD zs (i + 1) 0 - 48)])) (List.length (os ++ [16 * h + (List.getD zs (i + 1) 0 - 48)]))) { n := 4, objs := [AObj.cells (u8s (os ++ [16 * h + (List.getD zs (i + 1) 0 - 48)])) 5 5 1, AObj.cells [Value.int IntKind.u8 (16 * h + (List.getD zs (i + 1) 0 - 48))] 5 0 1, AObj.iter (txt zs) (i + 1 + 1), AObj.dead] } [0]])
    [Dg.nextAt { n := (2 : Nat), objs := [AObj.iter (txt zs) (i + (1 : Nat)), AObj.cells (u8s os) (5 : Nat) (5 : Nat) (1 : Nat)] } (1 : Nat) = some (Value.tuple #[Value.bool true, Value.int IntKind.i64 (↑(i + (1 : Nat)) : Int), Value.int IntKind.i32 (List.getD zs (i + (1 : Nat)) (0 : Int))], { n := (2 : Nat), objs := [AObj.iter (txt zs) (i + (1 : Nat) + (1 : Nat)), AObj.cells (u8s os) (5 : Nat) (5 : Nat) (1 : Nat)] }, [(1 : Nat)]),
    Value.int IntKind.i32 (IntKind.wrap IntKind.i32 (List.getD zs (i + (1 : Nat)) (0 : Int) - (48 : Int))) = Value.int IntKind.i32 (List.getD zs (i + (1 : Nat)) (0 : Int) - (48 : Int)),
    Value.int IntKind.i64 (IntKind.wrap IntKind.i64 (List.getD zs (i + (1 : Nat)) (0 : Int) - (48 : Int))) = Value.int IntKind.i64 (List.getD zs (i + (1 : Nat)) (0 : Int) - (48 : Int)),
    Value.bool (decide (List.getD zs (i + (1 : Nat)) (0 : Int) ≥ (97 : Int))) = Value.bool false,
    Value.bool (decide (List.getD zs (i + (1 : Nat)) (0 : Int) ≥ (48 : Int))) = Value.bool true,
    Value.bool (decide (List.getD zs (i + (1 : Nat)) (0 : Int) ≤ (57 : Int))) = Value.bool true,
    Value.bool (Int.tmod (↑(i + (1 : Nat)) : Int) (2 : Int) == (0 : Int)) = Value.bool false,
    Value.int IntKind.i64 (IntKind.wrap IntKind.i64 (h * (2 : Int) ^ (4 : Nat))) = Value.int IntKind.i64 (h * (2 : Int) ^ (4 : Nat)),
    Value.int IntKind.u8 (IntKind.wrap IntKind.u8 (IntKind.wrap IntKind.i64 (↑(BitVec.toNat (BitVec.ofInt (64 : Nat) (h * (2 : Int) ^ (4 : Nat)) ||| BitVec.ofInt (64 : Nat) (List.getD zs (i + (1 : Nat)) (0 : Int) - (48 : Int)))) : Int))) = Value.int IntKind.u8 ((16 : Int) * h + (List.getD zs (i + (1 : Nat)) (0 : Int) - (48 : Int))),
    Dg.evAppend Tryz.prog { n := (3 : Nat), objs := [AObj.cells [Value.int IntKind.u8 ((16 : Int) * h + (List.getD zs (i + (1 : Nat)) (0 : Int) - (48 : Int)))] (5 : Nat) (0 : Nat) (1 : Nat), AObj.iter (txt zs) (i + (1 : Nat) + (1 : Nat)), AObj.cells (u8s os) (5 : Nat) (5 : Nat) (1 : Nat)] } (41 : Nat) (41 : Nat) (Value.slice (some { block := (0 : Nat), off := (0 : Nat), spot := some (0 : Nat) }) (List.length os) (List.length os)) (Value.slice (some { block := (2 : Nat), off := (0 : Nat) }) (1 : Nat) (1 : Nat)) = some (Value.slice (some { block := (3 : Nat), off := (0 : Nat), spot := some (0 : Nat) }) (List.length (os ++ [(16 : Int) * h + (List.getD zs (i + (1 : Nat)) (0 : Int) - (48 : Int))])) (List.length (os ++ [(16 : Int) * h + (List.getD zs (i + (1 : Nat)) (0 : Int) - (48 : Int))])), { n := (4 : Nat), objs := [AObj.cells (u8s (os ++ [(16 : Int) * h + (List.getD zs (i + (1 : Nat)) (0 : Int) - (48 : Int))])) (5 : Nat) (5 : Nat) (1 : Nat), AObj.cells [Value.int IntKind.u8 ((16 : Int) * h + (List.getD zs (i + (1 : Nat)) (0 : Int) - (48 : Int)))] (5 : Nat) (0 : Nat) (1 : Nat), AObj.iter (txt zs) (i + (1 : Nat) + (1 : Nat)), AObj.dead] }, [(0 : Nat)])] (by kernel_rfl)
    ⟨next_lo (pos := i + 1) rfl (by omega) (by omega), by simp only [Dg.w_u8, Dg.w_u16, Dg.w_u32, Dg.w_i8, Dg.w_i32, Value.int.injEq, true_and]; omega, Dg.i64_eq rfl (by omega) (by omega), Dg.vfalse (by omega), Dg.vtrue (by omega), Dg.vtrue (by omega), Dg.vfalse (by rw [Int.tmod_eq_emod_of_nonneg (by omega)]; omega), Dg.i64_eq rfl (by omega) (by omega), or_byte hh (by omega), appU (os := os) (x := 16 * h + ((zs.getD (i + 1) 0) - 48)) rfl rfl rfl (by omega) (by simp) rfl rfl, trivial⟩
--> udd
--< uaa
theorem uaa (zs : List Int) (hi : 0 < List.length zs) (h0 : 97 ≤ List.getD zs 0 0 ∧ List.getD zs 0 0 ≤ 102) :
    ∃ s', runU (Ua zs) = some (Ex.normal, s') ∧ clU s' = Ub zs (List.getD zs 0 0 - 97 + 10) (List.getD zs 0 0) :=
  Dg.code_round (f := 17) clU (hs := [Hint.softH 17 12 (Value.tuple #[Value.bool true, Value.int IntKind.i64 0, Value.int IntKind.i32 (List.getD zs 0 0)]) { n := 1, objs := [AObj.iter (txt zs) 1] } [0],
    Hint.val 33 6 (Value.int IntKind.i32 (List.getD zs 0 0 - 48)),
    Hint.val 33 7 (Value.int IntKind.i64 (List.getD zs 0 0 - 48)),
    Hint.val 33 10 (Value.bool true),
    Hint.val 33 13 (Value.bool true),
    Hint.val 33 23 (Value.int IntKind.i32 (List.getD zs 0 0 - 97)),
    Hint.val 33 24 (Value.int IntKind.i64 (List.getD zs 0 0 - 97)),
    Hint.val 33 25 (Value.int IntKind.i64 (List.getD zs 0 0 - 97 + 10))])
    [Dg.nextAt { n := (1 : Nat), objs := [AObj.iter (txt zs) (0 : Nat)] } (0 : Nat) = some (Value.tuple #[Value.bool true, Value.int IntKind.i64 (0 : Int), Value.int IntKind.i32 (List.getD zs (0 : Nat) (0 : Int))], { n := (1 : Nat), objs := [AObj.iter (txt zs) (1 : Nat)] }, [(0 : Nat)]),
    Value.int IntKind.i32 (IntKind.wrap IntKind.i32 (List.getD zs (0 : Nat) (0 : Int) - (48 : Int))) = Value.int IntKind.i32 (List.getD zs (0 : Nat) (0 : Int) - (48 : Int)),
    Value.int IntKind.i64 (IntKind.wrap IntKind.i64 (List.getD zs (0 : Nat) (0 : Int) - (48 : Int))) = Value.int IntKind.i64 (List.getD zs (0 : Nat) (0 : Int) - (48 : Int)),
    Value.bool (decide (List.getD zs (0 : Nat) (0 : Int) ≥ (97 : Int))) = Value.bool true,
    Value.bool (decide (List.getD zs (0 : Nat) (0 : Int) ≤ (102 : Int))) = Value.bool true,
    Value.int IntKind.i32 (IntKind.wrap IntKind.i32 (List.getD zs (0 : Nat) (0 : Int) - (97 : Int))) = Value.int IntKind.i32 (List.getD zs (0 : Nat) (0 : Int) - (97 : Int)),
    Value.int IntKind.i64 (IntKind.wrap IntKind.i64 (List.getD zs (0 : Nat) (0 : Int) - (97 : Int))) = Value.int IntKind.i64 (List.getD zs (0 : Nat) (0 : Int) - (97 : Int)),
    Value.int IntKind.i64 (IntKind.wrap IntKind.i64 (List.getD zs (0 : Nat) (0 : Int) - (97 : Int) + (10 : Int))) = Value.int IntKind.i64 (List.getD zs (0 : Nat) (0 : Int) - (97 : Int) + (10 : Int))] (by kernel_rfl)
    ⟨next_lo (pos := 0) rfl (by omega) (by omega), by simp only [Dg.w_u8, Dg.w_u16, Dg.w_u32, Dg.w_i8, Dg.w_i32, Value.int.injEq, true_and]; omega, Dg.i64_eq rfl (by omega) (by omega), Dg.vtrue (by omega), Dg.vtrue (by omega), by simp only [Dg.w_u8, Dg.w_u16, Dg.w_u32, Dg.w_i8, Dg.w_i32, Value.int.injEq, true_and]; omega, Dg.i64_eq rfl (by omega) (by omega), Dg.i64_eq rfl (by omega) (by omega), trivial⟩
--> uaa
--< uba
theorem uba (zs : List Int) (h : Int) (z0 : Int) (hi : 1 < List.length zs) (hh : 0 ≤ h ∧ h < 16) (h0 : 97 ≤ List.getD zs 1 0 ∧ List.getD zs 1 0 ≤ 102) :
    ∃ s', runU (Ub zs h z0) = some (Ex.normal, s') ∧ clU s' = Uc zs 1 h (List.getD zs 1 0) (List.getD zs 1 0 - 97 + 10) [16 * h + (List.getD zs 1 0 - 97 + 10)] :=
  Dg.code_round (f := 17) clU (hs := [Hint.softH 17 12 (Value.tuple #[Value.bool true, Value.int IntKind.i64 1, Value.int IntKind.i32 (List.getD zs 1 0)]) { n := 1, objs := [AObj.iter (txt zs) 2] } [0],
    Hint.val 33 6 (Value.int IntKind.i32 (List.getD zs 1 0 - 48)),
    Hint.val 33 7 (Value.int IntKind.i64 (List.getD zs 1 0 - 48)),
    Hint.val 33 10 (Value.bool true),
    Hint.val 33 13 (Value.bool true),
    Hint.val 33 23 (Value.int IntKind.i32 (List.getD zs 1 0 - 97)),
    Hint.val 33 24 (Value.int IntKind.i64 (List.getD zs 1 0 - 97)),
    Hint.val 33 25 (Value.int IntKind.i64 (List.getD zs 1 0 - 97 + 10)),
    Hint.val 17 29 (Value.int IntKind.i64 (h * 2 ^ 4)),
    Hint.val 17 32 (Value.int IntKind.u8 (16 * h + (List.getD zs 1 0 - 97 + 10)))])
    [Dg.nextAt { n := (1 : Nat), objs := [AObj.iter (txt zs) (1 : Nat)] } (0 : Nat) = some (Value.tuple #[Value.bool true, Value.int IntKind.i64 (1 : Int), Value.int IntKind.i32 (List.getD zs (1 : Nat) (0 : Int))], { n := (1 : Nat), objs := [AObj.iter (txt zs) (2 : Nat)] }, [(0 : Nat)]),
    Value.int IntKind.i32 (IntKind.wrap IntKind.i32 (List.getD zs (1 : Nat) (0 : Int) - (48 : Int))) = Value.int IntKind.i32 (List.getD zs (1 : Nat) (0 : Int) - (48 : Int)),
    Value.int IntKind.i64 (IntKind.wrap IntKind.i64 (List.getD zs (1 : Nat) (0 : Int) - (48 : Int))) = Value.int IntKind.i64 (List.getD zs (1 : Nat) (0 : Int) - (48 : Int)),
    Value.bool (decide (List.getD zs (1 : Nat) (0 : Int) ≥ (97 : Int))) = Value.bool true,
    Value.bool (decide (List.getD zs (1 : Nat) (0 : Int) ≤ (102 : Int))) = Value.bool true,
    Value.int IntKind.i32 (IntKind.wrap IntKind.i32 (List.getD zs (1 : Nat) (0 : Int) - (97 : Int))) = Value.int IntKind.i32 (List.getD zs (1 : Nat) (0 : Int) - (97 : Int)),
    Value.int IntKind.i64 (IntKind.wrap IntKind.i64 (List.getD zs (1 : Nat) (0 : Int) - (97 : Int))) = Value.int IntKind.i64 (List.getD zs (1 : Nat) (0 : Int) - (97 : Int)),
    Value.int IntKind.i64 (IntKind.wrap IntKind.i64 (List.getD zs (1 : Nat) (0 : Int) - (97 : Int) + (10 : Int))) = Value.int IntKind.i64 (List.getD zs (1 : Nat) (0 : Int) - (97 : Int) + (10 : Int)),
    Value.int IntKind.i64 (IntKind.wrap IntKind.i64 (h * (2 : Int) ^ (4 : Nat))) = Value.int IntKind.i64 (h * (2 : Int) ^ (4 : Nat)),
    Value.int IntKind.u8 (IntKind.wrap IntKind.u8 (IntKind.wrap IntKind.i64 (↑(BitVec.toNat (BitVec.ofInt (64 : Nat) (h * (2 : Int) ^ (4 : Nat)) ||| BitVec.ofInt (64 : Nat) (List.getD zs (1 : Nat) (0 : Int) - (97 : Int) + (10 : Int)))) : Int))) = Value.int IntKind.u8 ((16 : Int) * h + (List.getD zs (1 : Nat) (0 : Int) - (97 : Int) + (10 : Int)))] (by kernel_rfl)
    ⟨next_lo (pos := 1) rfl (by omega) (by omega), by simp only [Dg.w_u8, Dg.w_u16, Dg.w_u32, Dg.w_i8, Dg.w_i32, Value.int.injEq, true_and]; omega, Dg.i64_eq rfl (by omega) (by omega), Dg.vtrue (by omega), Dg.vtrue (by omega), by simp only [Dg.w_u8, Dg.w_u16, Dg.w_u32, Dg.w_i8, Dg.w_i32, Value.int.injEq, true_and]; omega, Dg.i64_eq rfl (by omega) (by omega), Dg.i64_eq rfl (by omega) (by omega), Dg.i64_eq rfl (by omega) (by omega), or_byte hh (by omega), trivial⟩
--> uba
--< uca
theorem uca (zs : List Int) (i : Nat) (h : Int) (z0 : Int) (d0 : Int) (os : List Int) (hi : i + 1 < List.length zs) (hp : (i + 1) % 2 = 0) (hl : List.length zs ≤ 2000) (h0 : 97 ≤ List.getD zs (i + 1) 0 ∧ List.getD zs (i + 1) 0 ≤ 102) :
    ∃ s', runU (Uc zs i h z0 d0 os) = some (Ex.normal, s') ∧ clU s' = Uc zs (i + 1) (List.getD zs (i + 1) 0 - 97 + 10) (List.getD zs (i + 1) 0) (List.getD zs (i + 1) 0 - 97 + 10) os :=
  Dg.code_round (f := 17) clU (hs := [Hint.softH 17 12 (Value.tuple #[Value.bool true, Value.int IntKind.i64 (↑(i + 1) : Int), Value.int IntKind.i32 (List.getD zs (i + 1) 0)]) { n := 2, objs := [AObj.iter (txt zs) (i + 1 + 1), AObj.cells (u8s os) 5 5 1] } [1],
    Hint.val 33 6 (Value.int IntKind.i32 (List.getD zs (i + 1) 0 - 48)),
    Hint.val 33 7 (Value.int IntKind.i64 (List.getD zs (i + 1) 0 - 48)),
    Hint.val 33 10 (Value.bool true),
    Hint.val 33 13 (Value.bool true),
    Hint.val 33 23 (Value.int IntKind.i32 (List.getD zs (i + 1) 0 - 97)),
    Hint.val 33 24 (Value.int IntKind.i64 (List.getD zs (i + 1) 0 - 97)),
    Hint.val 33 25 (Value.int IntKind.i64 (List.getD zs (i + 1) 0 - 97 + 10)),
    Hint.val 17 25 (Value.bool true)])
    [Dg.nextAt { n := (2 : Nat), objs := [AObj.iter (txt zs) (i + (1 : Nat)), AObj.cells (u8s os) (5 : Nat) (5 : Nat) (1 : Nat)] } (1 : Nat) = some (Value.tuple #[Value.bool true, Value.int IntKind.i64 (↑(i + (1 : Nat)) : Int), Value.int IntKind.i32 (List.getD zs (i + (1 : Nat)) (0 : Int))], { n := (2 : Nat), objs := [AObj.iter (txt zs) (i + (1 : Nat) + (1 : Nat)), AObj.cells (u8s os) (5 : Nat) (5 : Nat) (1 : Nat)] }, [(1 : Nat)]),
    Value.int IntKind.i32 (IntKind.wrap IntKind.i32 (List.getD zs (i + (1 : Nat)) (0 : Int) - (48 : Int))) = Value.int IntKind.i32 (List.getD zs (i + (1 : Nat)) (0 : Int) - (48 : Int)),
    Value.int IntKind.i64 (IntKind.wrap IntKind.i64 (List.getD zs (i + (1 : Nat)) (0 : Int) - (48 : Int))) = Value.int IntKind.i64 (List.getD zs (i + (1 : Nat)) (0 : Int) - (48 : Int)),
    Value.bool (decide (List.getD zs (i + (1 : Nat)) (0 : Int) ≥ (97 : Int))) = Value.bool true,
    Value.bool (decide (List.getD zs (i + (1 : Nat)) (0 : Int) ≤ (102 : Int))) = Value.bool true,
    Value.int IntKind.i32 (IntKind.wrap IntKind.i32 (List.getD zs (i + (1 : Nat)) (0 : Int) - (97 : Int))) = Value.int IntKind.i32 (List.getD zs (i + (1 : Nat)) (0 : Int) - (97 : Int)),
    Value.int IntKind.i64 (IntKind.wrap IntKind.i64 (List.getD zs (i + (1 : Nat)) (0 : Int) - (97 : Int))) = Value.int IntKind.i64 (List.getD zs (i + (1 : Nat)) (0 : Int) - (97 : Int)),
    Value.int IntKind.i64 (IntKind.wrap IntKind.i64 (List.getD zs (i + (1 : Nat)) (0 : Int) - (97 : Int) + (10 : Int))) = Value.int IntKind.i64 (List.getD zs (i + (1 : Nat)) (0 : Int) - (97 : Int) + (10 : Int)),
    Value.bool (Int.tmod (↑(i + (1 : Nat)) : Int) (2 : Int) == (0 : Int)) = Value.bool true] (by kernel_rfl)
    ⟨next_lo (pos := i + 1) rfl (by omega) (by omega), by simp only [Dg.w_u8, Dg.w_u16, Dg.w_u32, Dg.w_i8, Dg.w_i32, Value.int.injEq, true_and]; omega, Dg.i64_eq rfl (by omega) (by omega), Dg.vtrue (by omega), Dg.vtrue (by omega), by simp only [Dg.w_u8, Dg.w_u16, Dg.w_u32, Dg.w_i8, Dg.w_i32, Value.int.injEq, true_and]; omega, Dg.i64_eq rfl (by omega) (by omega), Dg.i64_eq rfl (by omega) (by omega), Dg.vtrue (by rw [Int.tmod_eq_emod_of_nonneg (by omega)]; omega), trivial⟩
--> uca
--< uda
theorem uda (zs : List Int) (i : Nat) (h : Int) (z0 : Int) (d0 : Int) (os : List Int) (ho : List.length os ≤ 2000) (hi : i + 1 < List.length zs) (hp : (i + 1) % 2 = 1) (hl : List.length zs ≤ 2000) (hh : 0 ≤ h ∧ h < 16) (h0 : 97 ≤ List.getD zs (i + 1) 0 ∧ List.getD zs (i + 1) 0 ≤ 102) :
    ∃ s', runU (Uc zs i h z0 d0 os) = some (Ex.normal, s') ∧ clU s' = Uc zs (i + 1) h (List.getD zs (i + 1) 0) (List.getD zs (i + 1) 0 - 97 + 10) (os ++ [16 * h + (List.getD zs (i + 1) 0 - 97 + 10)]) :=
  Dg.code_round (f := 17) clU (hs := [Hint.softH 17 12 (Value.tuple #[Value.bool true, Value.int IntKind.i64 (↑(i + 1) : Int), Value.int IntKind.i32 (List.getD zs (i + 1) 0)]) { n := 2, objs := [AObj.iter (txt zs) (i + 1 + 1), AObj.cells (u8s os) 5 5 1] } [1],
    Hint.val 33 6 (Value.int IntKind.i32 (List.getD zs (i + 1) 0 - 48)),
    Hint.val 33 7 (Value.int IntKind.i64 (List.getD zs (i + 1) 0 - 48)),
    Hint.val 33 10 (Value.bool true),
    Hint.val 33 13 (Value.bool true),
    Hint.val 33 23 (Value.int IntKind.i32 (List.getD zs (i + 1) 0 - 97)),
    Hint.val 33 24 (Value.int IntKind.i64 (List.getD zs (i + 1) 0 - 97)),
    Hint.val 33 25 (Value.int IntKind.i64 (List.getD zs (i + 1) 0 - 97 + 10)),
    Hint.val 17 25 (Value.bool false),
    Hint.val 17 29 (Value.int IntKind.i64 (h * 2 ^ 4)),
    Hint.val 17 32 (Value.int IntKind.u8 (16 * h + (List.getD zs (i + 1) 0 - 97 + 10))),
    Hint.softH 17 34 (Value.slice (some { block := 3, off := 0, spot := some 0 }) (List.length (os ++ [16 * h + (List.getD zs (i + 1) 0 - 97 + 10)])) (List.length (os ++ [16 * h + (List.getD zs (i + 1) 0 - 97 + 10)]))) { n := 4, objs := [AObj.cells (u8s (os ++ [16 * h + (List.getD zs (i + 1) 0 - 97 + 10)])) 5 5 1, AObj.cells [Value.int IntKind.u8 (16 * h + (List.getD zs (i + 1) 0 - 97 + 10))] 5 0 1, AObj.iter (txt zs) (i + 1 + 1), AObj.dead] } [0]])
    [Dg.nextAt { n := (2 : Nat), objs := [AObj.iter (txt zs) (i + (1 : Nat)), AObj.cells (u8s os) (5 : Nat) (5 : Nat) (1 : Nat)] } (1 : Nat) = some (Value.tuple #[Value.bool true, Value.int IntKind.i64 (↑(i + (1 : Nat)) : Int), Value.int IntKind.i32 (List.getD zs (i + (1 : Nat)) (0 : Int))], { n := (2 : Nat), objs := [AObj.iter (txt zs) (i + (1 : Nat) + (1 : Nat)), AObj.cells (u8s os) (5 : Nat) (5 : Nat) (1 : Nat)] }, [(1 : Nat)]),
    Value.int IntKind.i32 (IntKind.wrap IntKind.i32 (List.getD zs (i + (1 : Nat)) (0 : Int) - (48 : Int))) = Value.int IntKind.i32 (List.getD zs (i + (1 : Nat)) (0 : Int) - (48 : Int)),
    Value.int IntKind.i64 (IntKind.wrap IntKind.i64 (List.getD zs (i + (1 : Nat)) (0 : Int) - (48 : Int))) = Value.int IntKind.i64 (List.getD zs (i + (1 : Nat)) (0 : Int) - (48 : Int)),
    Value.bool (decide (List.getD zs (i + (1 : Nat)) (0 : Int) ≥ (97 : Int))) = Value.bool true,
    Value.bool (decide (List.getD zs (i + (1 : Nat)) (0 : Int) ≤ (102 : Int))) = Value.bool true,
    Value.int IntKind.i32 (IntKind.wrap IntKind.i32 (List.getD zs (i + (1 : Nat)) (0 : Int) - (97 : Int))) = Value.int IntKind.i32 (List.getD zs (i + (1 : Nat)) (0 : Int) - (97 : Int)),
    Value.int IntKind.i64 (IntKind.wrap IntKind.i64 (List.getD zs (i + (1 : Nat)) (0 : Int) - (97 : Int))) = Value.int IntKind.i64 (List.getD zs (i + (1 : Nat)) (0 : Int) - (97 : Int)),
    Value.int IntKind.i64 (IntKind.wrap IntKind.i64 (List.getD zs (i + (1 : Nat)) (0 : Int) - (97 : Int) + (10 : Int))) = Value.int IntKind.i64 (List.getD zs (i + (1 : Nat)) (0 : Int) - (97 : Int) + (10 : Int)),
    Value.bool (Int.tmod (↑(i + (1 : Nat)) : Int) (2 : Int) == (0 : Int)) = Value.bool false,
    Value.int IntKind.i64 (IntKind.wrap IntKind.i64 (h * (2 : Int) ^ (4 : Nat))) = Value.int IntKind.i64 (h * (2 : Int) ^ (4 : Nat)),
    Value.int IntKind.u8 (IntKind.wrap IntKind.u8 (IntKind.wrap IntKind.i64 (↑(BitVec.toNat (BitVec.ofInt (64 : Nat) (h * (2 : Int) ^ (4 : Nat)) ||| BitVec.ofInt (64 : Nat) (List.getD zs (i + (1 : Nat)) (0 : Int) - (97 : Int) + (10 : Int)))) : Int))) = Value.int IntKind.u8 ((16 : Int) * h + (List.getD zs (i + (1 : Nat)) (0 : Int) - (97 : Int) + (10 : Int))),
    Dg.evAppend Tryz.prog { n := (3 : Nat), objs := [AObj.cells [Value.int IntKind.u8 ((16 : Int) * h + (List.getD zs (i + (1 : Nat)) (0 : Int) - (97 : Int) + (10 : Int)))] (5 : Nat) (0 : Nat) (1 : Nat), AObj.iter (txt zs) (i + (1 : Nat) + (1 : Nat)), AObj.cells (u8s os) (5 : Nat) (5 : Nat) (1 : Nat)] } (41 : Nat) (41 : Nat) (Value.slice (some { block := (0 : Nat), off := (0 : Nat), spot := some (0 : Nat) }) (List.length os) (List.length os)) (Value.slice (some { block := (2 : Nat), off := (0 : Nat) }) (1 : Nat) (1 : Nat)) = some (Value.slice (some { block := (3 : Nat), off := (0 : Nat), spot := some (0 : Nat) }) (List.length (os ++ [(16 : Int) * h + (List.getD zs (i + (1 : Nat)) (0 : Int) - (97 : Int) + (10 : Int))])) (List.length (os ++ [(16 : Int) * h + (List.getD zs (i + (1 : Nat)) (0 : Int) - (97 : Int) + (10 : Int))])), { n := (4 : Nat), objs := [AObj.cells (u8s (os ++ [(16 : Int) * h + (List.getD zs (i + (1 : Nat)) (0 : Int) - (97 : Int) + (10 : Int))])) (5 : Nat) (5 : Nat) (1 : Nat), AObj.cells [Value.int IntKind.u8 ((16 : Int) * h + (List.getD zs (i + (1 : Nat)) (0 : Int) - (97 : Int) + (10 : Int)))] (5 : Nat) (0 : Nat) (1 : Nat), AObj.iter (txt zs) (i + (1 : Nat) + (1 : Nat)), AObj.dead] }, [(0 : Nat)])] (by kernel_rfl)
    ⟨next_lo (pos := i + 1) rfl (by omega) (by omega), by simp only [Dg.w_u8, Dg.w_u16, Dg.w_u32, Dg.w_i8, Dg.w_i32, Value.int.injEq, true_and]; omega, Dg.i64_eq rfl (by omega) (by omega), Dg.vtrue (by omega), Dg.vtrue (by omega), by simp only [Dg.w_u8, Dg.w_u16, Dg.w_u32, Dg.w_i8, Dg.w_i32, Value.int.injEq, true_and]; omega, Dg.i64_eq rfl (by omega) (by omega), Dg.i64_eq rfl (by omega) (by omega), Dg.vfalse (by rw [Int.tmod_eq_emod_of_nonneg (by omega)]; omega), Dg.i64_eq rfl (by omega) (by omega), or_byte hh (by omega), appU (os := os) (x := 16 * h + ((zs.getD (i + 1) 0) - 97 + 10)) rfl rfl rfl (by omega) (by simp) rfl rfl, trivial⟩
--> uda
end Go.Proofs.YtflgpkkbifkpoaaGreatDoor.text

namespace Go.Proofs.YtflgpkkbifkpoaaGreatDoor.text
open Go.Dg (junk St Ex Ev Hint evCall evCallS evCode evCodeK innerKp evCodeS evLoop cleanSt ue bodied noOver sbOf headOf tailOf bodyOf rAssign rBody lBody Flats flatOver Heap AObj SCall Law ofLaw Fix)
set_option linter.unusedVariables false
set_option linter.unusedSimpArgs false

theorem next_dec {H : Heap} {k : Nat} {zs : List Int} {pos r x : Nat} (hk : H.get k = .iter (txt zs) pos) (h : pos < zs.length) (hd : Utf8.decode (txt zs) pos = (r, x)) :
    Dg.nextAt H k = some (.tuple #[.bool true, .int .i64 pos, .int .i32 r], H.set k (.iter (txt zs) (pos + x)), [k]) := by
  unfold Dg.nextAt
  rw [hk]
  simp only [txt_size, if_pos h, hd]
  rfl
--< uzal
theorem uzal (zs : List Int) (r : Nat) (x : Nat) (hi : 0 < List.length zs) (hd : Utf8.decode (txt zs) 0 = (r, x)) (h0 : r < 48) :
    runU (Ua zs) = some (Ex.ret, ({ ts := [Value.string (txt zs), undef, Value.slice none 0 0, Value.bool false, Value.slice none 0 0, Value.int IntKind.i64 0, Value.int IntKind.i64 0, Value.int IntKind.i32 (↑r : Int), Value.int IntKind.i64 0, Value.bool false, junk, Value.pointer (some { block := 0, off := 0 }), Value.tuple #[Value.bool true, Value.int IntKind.i64 0, Value.int IntKind.i32 (↑r : Int)], Value.bool true, Value.int IntKind.i64 0, Value.int IntKind.i32 (↑r : Int), Value.tuple #[Value.int IntKind.i64 0, Value.bool false], Value.int IntKind.i32 (↑r : Int), Value.tuple #[Value.int IntKind.i64 0, Value.bool false], Value.int IntKind.i64 0, Value.bool false, Value.bool false, Value.bool true, junk, junk, junk, junk, junk, junk, junk, junk, junk, junk, junk, junk, junk, junk, junk, junk, junk], H := { n := 1, objs := [AObj.iter (txt zs) (0 + x)] }, log := [] } : St)) :=
  Dg.evCode_hint (f := 17) (hs' := []) (hs := [Hint.softH 17 12 (Value.tuple #[Value.bool true, Value.int IntKind.i64 0, Value.int IntKind.i32 (↑r : Int)]) { n := 1, objs := [AObj.iter (txt zs) (0 + x)] } [0],
    Hint.val 33 6 (Value.int IntKind.i32 ((↑r : Int) - 48)),
    Hint.val 33 7 (Value.int IntKind.i64 ((↑r : Int) - 48)),
    Hint.val 33 10 (Value.bool false),
    Hint.val 33 17 (Value.bool false)])
    [Dg.nextAt { n := (1 : Nat), objs := [AObj.iter (txt zs) (0 : Nat)] } (0 : Nat) = some (Value.tuple #[Value.bool true, Value.int IntKind.i64 (0 : Int), Value.int IntKind.i32 (↑r : Int)], { n := (1 : Nat), objs := [AObj.iter (txt zs) ((0 : Nat) + x)] }, [(0 : Nat)]),
    Value.int IntKind.i32 (IntKind.wrap IntKind.i32 ((↑r : Int) - (48 : Int))) = Value.int IntKind.i32 ((↑r : Int) - (48 : Int)),
    Value.int IntKind.i64 (IntKind.wrap IntKind.i64 ((↑r : Int) - (48 : Int))) = Value.int IntKind.i64 ((↑r : Int) - (48 : Int)),
    Value.bool (decide ((↑r : Int) ≥ (97 : Int))) = Value.bool false,
    Value.bool (decide ((↑r : Int) ≥ (48 : Int))) = Value.bool false] (by kernel_rfl)
    ⟨next_dec (pos := 0) rfl (by omega) hd, by simp only [Dg.w_u8, Dg.w_u16, Dg.w_u32, Dg.w_i8, Dg.w_i32, Value.int.injEq, true_and]; omega, Dg.i64_eq rfl (by omega) (by omega), Dg.vfalse (by omega), Dg.vfalse (by omega), trivial⟩
--> uzal
--< uzam
theorem uzam (zs : List Int) (r : Nat) (x : Nat) (hi : 0 < List.length zs) (hd : Utf8.decode (txt zs) 0 = (r, x)) (h0 : 57 < r) (h1 : r < 97) :
    runU (Ua zs) = some (Ex.ret, ({ ts := [Value.string (txt zs), undef, Value.slice none 0 0, Value.bool false, Value.slice none 0 0, Value.int IntKind.i64 0, Value.int IntKind.i64 0, Value.int IntKind.i32 (↑r : Int), Value.int IntKind.i64 0, Value.bool false, junk, Value.pointer (some { block := 0, off := 0 }), Value.tuple #[Value.bool true, Value.int IntKind.i64 0, Value.int IntKind.i32 (↑r : Int)], Value.bool true, Value.int IntKind.i64 0, Value.int IntKind.i32 (↑r : Int), Value.tuple #[Value.int IntKind.i64 0, Value.bool false], Value.int IntKind.i32 (↑r : Int), Value.tuple #[Value.int IntKind.i64 0, Value.bool false], Value.int IntKind.i64 0, Value.bool false, Value.bool false, Value.bool true, junk, junk, junk, junk, junk, junk, junk, junk, junk, junk, junk, junk, junk, junk, junk, junk, junk], H := { n := 1, objs := [AObj.iter (txt zs) (0 + x)] }, log := [] } : St)) :=
  Dg.evCode_hint (f := 17) (hs' := []) (hs := [Hint.softH 17 12 (Value.tuple #[Value.bool true, Value.int IntKind.i64 0, Value.int IntKind.i32 (↑r : Int)]) { n := 1, objs := [AObj.iter (txt zs) (0 + x)] } [0],
    Hint.val 33 6 (Value.int IntKind.i32 ((↑r : Int) - 48)),
    Hint.val 33 7 (Value.int IntKind.i64 ((↑r : Int) - 48)),
    Hint.val 33 10 (Value.bool false),
    Hint.val 33 17 (Value.bool true),
    Hint.val 33 20 (Value.bool false)])
    [Dg.nextAt { n := (1 : Nat), objs := [AObj.iter (txt zs) (0 : Nat)] } (0 : Nat) = some (Value.tuple #[Value.bool true, Value.int IntKind.i64 (0 : Int), Value.int IntKind.i32 (↑r : Int)], { n := (1 : Nat), objs := [AObj.iter (txt zs) ((0 : Nat) + x)] }, [(0 : Nat)]),
    Value.int IntKind.i32 (IntKind.wrap IntKind.i32 ((↑r : Int) - (48 : Int))) = Value.int IntKind.i32 ((↑r : Int) - (48 : Int)),
    Value.int IntKind.i64 (IntKind.wrap IntKind.i64 ((↑r : Int) - (48 : Int))) = Value.int IntKind.i64 ((↑r : Int) - (48 : Int)),
    Value.bool (decide ((↑r : Int) ≥ (97 : Int))) = Value.bool false,
    Value.bool (decide ((↑r : Int) ≥ (48 : Int))) = Value.bool true,
    Value.bool (decide ((↑r : Int) ≤ (57 : Int))) = Value.bool false] (by kernel_rfl)
    ⟨next_dec (pos := 0) rfl (by omega) hd, by simp only [Dg.w_u8, Dg.w_u16, Dg.w_u32, Dg.w_i8, Dg.w_i32, Value.int.injEq, true_and]; omega, Dg.i64_eq rfl (by omega) (by omega), Dg.vfalse (by omega), Dg.vtrue (by omega), Dg.vfalse (by omega), trivial⟩
--> uzam
--< uzah
theorem uzah (zs : List Int) (r : Nat) (x : Nat) (hi : 0 < List.length zs) (hd : Utf8.decode (txt zs) 0 = (r, x)) (h0 : 102 < r) (h1 : r ≤ 1114111) :
    runU (Ua zs) = some (Ex.ret, ({ ts := [Value.string (txt zs), undef, Value.slice none 0 0, Value.bool false, Value.slice none 0 0, Value.int IntKind.i64 0, Value.int IntKind.i64 0, Value.int IntKind.i32 (↑r : Int), Value.int IntKind.i64 0, Value.bool false, junk, Value.pointer (some { block := 0, off := 0 }), Value.tuple #[Value.bool true, Value.int IntKind.i64 0, Value.int IntKind.i32 (↑r : Int)], Value.bool true, Value.int IntKind.i64 0, Value.int IntKind.i32 (↑r : Int), Value.tuple #[Value.int IntKind.i64 0, Value.bool false], Value.int IntKind.i32 (↑r : Int), Value.tuple #[Value.int IntKind.i64 0, Value.bool false], Value.int IntKind.i64 0, Value.bool false, Value.bool false, Value.bool true, junk, junk, junk, junk, junk, junk, junk, junk, junk, junk, junk, junk, junk, junk, junk, junk, junk], H := { n := 1, objs := [AObj.iter (txt zs) (0 + x)] }, log := [] } : St)) :=
  Dg.evCode_hint (f := 17) (hs' := []) (hs := [Hint.softH 17 12 (Value.tuple #[Value.bool true, Value.int IntKind.i64 0, Value.int IntKind.i32 (↑r : Int)]) { n := 1, objs := [AObj.iter (txt zs) (0 + x)] } [0],
    Hint.val 33 6 (Value.int IntKind.i32 ((↑r : Int) - 48)),
    Hint.val 33 7 (Value.int IntKind.i64 ((↑r : Int) - 48)),
    Hint.val 33 10 (Value.bool true),
    Hint.val 33 13 (Value.bool false),
    Hint.val 33 17 (Value.bool true),
    Hint.val 33 20 (Value.bool false)])
    [Dg.nextAt { n := (1 : Nat), objs := [AObj.iter (txt zs) (0 : Nat)] } (0 : Nat) = some (Value.tuple #[Value.bool true, Value.int IntKind.i64 (0 : Int), Value.int IntKind.i32 (↑r : Int)], { n := (1 : Nat), objs := [AObj.iter (txt zs) ((0 : Nat) + x)] }, [(0 : Nat)]),
    Value.int IntKind.i32 (IntKind.wrap IntKind.i32 ((↑r : Int) - (48 : Int))) = Value.int IntKind.i32 ((↑r : Int) - (48 : Int)),
    Value.int IntKind.i64 (IntKind.wrap IntKind.i64 ((↑r : Int) - (48 : Int))) = Value.int IntKind.i64 ((↑r : Int) - (48 : Int)),
    Value.bool (decide ((↑r : Int) ≥ (97 : Int))) = Value.bool true,
    Value.bool (decide ((↑r : Int) ≤ (102 : Int))) = Value.bool false,
    Value.bool (decide ((↑r : Int) ≥ (48 : Int))) = Value.bool true,
    Value.bool (decide ((↑r : Int) ≤ (57 : Int))) = Value.bool false] (by kernel_rfl)
    ⟨next_dec (pos := 0) rfl (by omega) hd, by simp only [Dg.w_u8, Dg.w_u16, Dg.w_u32, Dg.w_i8, Dg.w_i32, Value.int.injEq, true_and]; omega, Dg.i64_eq rfl (by omega) (by omega), Dg.vtrue (by omega), Dg.vfalse (by omega), Dg.vtrue (by omega), Dg.vfalse (by omega), trivial⟩
--> uzah
--< uea
theorem uea (zs : List Int) (hi : List.length zs = 0) :
    runU (Ua zs) = some (Ex.exit 0, ({ ts := [Value.string (txt zs), undef, Value.slice none 0 0, Value.bool false, Value.slice none 0 0, Value.int IntKind.i64 0, undef, undef, undef, undef, junk, Value.pointer (some { block := 0, off := 0 }), Value.tuple #[Value.bool false], Value.bool false, junk, junk, junk, junk, junk, junk, junk, junk, junk, junk, junk, junk, junk, junk, junk, junk, junk, junk, junk, junk, junk, junk, junk, junk, junk, junk], H := { n := 1, objs := [AObj.iter (txt zs) 0] }, log := [] } : St)) :=
  Dg.evCode_hint (f := 17) (hs' := []) (hs := [Hint.softH 17 12 (Value.tuple #[Value.bool false]) { n := 1, objs := [AObj.iter (txt zs) 0] } []])
    [Dg.nextAt { n := (1 : Nat), objs := [AObj.iter (txt zs) (0 : Nat)] } (0 : Nat) = some (Value.tuple #[Value.bool false], { n := (1 : Nat), objs := [AObj.iter (txt zs) (0 : Nat)] }, [])] (by kernel_rfl)
    ⟨next_end (pos := 0) rfl (by omega), trivial⟩
--> uea
--< uzbl
theorem uzbl (zs : List Int) (h : Int) (z0 : Int) (r : Nat) (x : Nat) (hi : 1 < List.length zs) (hd : Utf8.decode (txt zs) 1 = (r, x)) (h0 : r < 48) :
    runU (Ub zs h z0) = some (Ex.ret, ({ ts := [Value.string (txt zs), undef, Value.slice none 0 0, Value.bool false, Value.slice none 0 0, Value.int IntKind.i64 h, Value.int IntKind.i64 1, Value.int IntKind.i32 (↑r : Int), Value.int IntKind.i64 0, Value.bool false, junk, Value.pointer (some { block := 0, off := 0 }), Value.tuple #[Value.bool true, Value.int IntKind.i64 1, Value.int IntKind.i32 (↑r : Int)], Value.bool true, Value.int IntKind.i64 1, Value.int IntKind.i32 (↑r : Int), Value.tuple #[Value.int IntKind.i64 0, Value.bool false], Value.int IntKind.i32 (↑r : Int), Value.tuple #[Value.int IntKind.i64 0, Value.bool false], Value.int IntKind.i64 0, Value.bool false, Value.bool false, Value.bool true, junk, junk, junk, junk, junk, junk, junk, junk, junk, junk, junk, junk, junk, junk, junk, junk, junk], H := { n := 1, objs := [AObj.iter (txt zs) (1 + x)] }, log := [] } : St)) :=
  Dg.evCode_hint (f := 17) (hs' := []) (hs := [Hint.softH 17 12 (Value.tuple #[Value.bool true, Value.int IntKind.i64 1, Value.int IntKind.i32 (↑r : Int)]) { n := 1, objs := [AObj.iter (txt zs) (1 + x)] } [0],
    Hint.val 33 6 (Value.int IntKind.i32 ((↑r : Int) - 48)),
    Hint.val 33 7 (Value.int IntKind.i64 ((↑r : Int) - 48)),
    Hint.val 33 10 (Value.bool false),
    Hint.val 33 17 (Value.bool false)])
    [Dg.nextAt { n := (1 : Nat), objs := [AObj.iter (txt zs) (1 : Nat)] } (0 : Nat) = some (Value.tuple #[Value.bool true, Value.int IntKind.i64 (1 : Int), Value.int IntKind.i32 (↑r : Int)], { n := (1 : Nat), objs := [AObj.iter (txt zs) ((1 : Nat) + x)] }, [(0 : Nat)]),
    Value.int IntKind.i32 (IntKind.wrap IntKind.i32 ((↑r : Int) - (48 : Int))) = Value.int IntKind.i32 ((↑r : Int) - (48 : Int)),
    Value.int IntKind.i64 (IntKind.wrap IntKind.i64 ((↑r : Int) - (48 : Int))) = Value.int IntKind.i64 ((↑r : Int) - (48 : Int)),
    Value.bool (decide ((↑r : Int) ≥ (97 : Int))) = Value.bool false,
    Value.bool (decide ((↑r : Int) ≥ (48 : Int))) = Value.bool false] (by kernel_rfl)
    ⟨next_dec (pos := 1) rfl (by omega) hd, by simp only [Dg.w_u8, Dg.w_u16, Dg.w_u32, Dg.w_i8, Dg.w_i32, Value.int.injEq, true_and]; omega, Dg.i64_eq rfl (by omega) (by omega), Dg.vfalse (by omega), Dg.vfalse (by omega), trivial⟩
--> uzbl
--< uzbm
theorem uzbm (zs : List Int) (h : Int) (z0 : Int) (r : Nat) (x : Nat) (hi : 1 < List.length zs) (hd : Utf8.decode (txt zs) 1 = (r, x)) (h0 : 57 < r) (h1 : r < 97) :
    runU (Ub zs h z0) = some (Ex.ret, ({ ts := [Value.string (txt zs), undef, Value.slice none 0 0, Value.bool false, Value.slice none 0 0, Value.int IntKind.i64 h, Value.int IntKind.i64 1, Value.int IntKind.i32 (↑r : Int), Value.int IntKind.i64 0, Value.bool false, junk, Value.pointer (some { block := 0, off := 0 }), Value.tuple #[Value.bool true, Value.int IntKind.i64 1, Value.int IntKind.i32 (↑r : Int)], Value.bool true, Value.int IntKind.i64 1, Value.int IntKind.i32 (↑r : Int), Value.tuple #[Value.int IntKind.i64 0, Value.bool false], Value.int IntKind.i32 (↑r : Int), Value.tuple #[Value.int IntKind.i64 0, Value.bool false], Value.int IntKind.i64 0, Value.bool false, Value.bool false, Value.bool true, junk, junk, junk, junk, junk, junk, junk, junk, junk, junk, junk, junk, junk, junk, junk, junk, junk], H := { n := 1, objs := [AObj.iter (txt zs) (1 + x)] }, log := [] } : St)) :=
  Dg.evCode_hint (f := 17) (hs' := []) (hs := [Hint.softH 17 12 (Value.tuple #[Value.bool true, Value.int IntKind.i64 1, Value.int IntKind.i32 (↑r : Int)]) { n := 1, objs := [AObj.iter (txt zs) (1 + x)] } [0],
    Hint.val 33 6 (Value.int IntKind.i32 ((↑r : Int) - 48)),
    Hint.val 33 7 (Value.int IntKind.i64 ((↑r : Int) - 48)),
    Hint.val 33 10 (Value.bool false),
    Hint.val 33 17 (Value.bool true),
    Hint.val 33 20 (Value.bool false)])
    [Dg.nextAt { n := (1 : Nat), objs := [AObj.iter (txt zs) (1 : Nat)] } (0 : Nat) = some (Value.tuple #[Value.bool true, Value.int IntKind.i64 (1 : Int), Value.int IntKind.i32 (↑r : Int)], { n := (1 : Nat), objs := [AObj.iter (txt zs) ((1 : Nat) + x)] }, [(0 : Nat)]),
    Value.int IntKind.i32 (IntKind.wrap IntKind.i32 ((↑r : Int) - (48 : Int))) = Value.int IntKind.i32 ((↑r : Int) - (48 : Int)),
    Value.int IntKind.i64 (IntKind.wrap IntKind.i64 ((↑r : Int) - (48 : Int))) = Value.int IntKind.i64 ((↑r : Int) - (48 : Int)),
    Value.bool (decide ((↑r : Int) ≥ (97 : Int))) = Value.bool false,
    Value.bool (decide ((↑r : Int) ≥ (48 : Int))) = Value.bool true,
    Value.bool (decide ((↑r : Int) ≤ (57 : Int))) = Value.bool false] (by kernel_rfl)
    ⟨next_dec (pos := 1) rfl (by omega) hd, by simp only [Dg.w_u8, Dg.w_u16, Dg.w_u32, Dg.w_i8, Dg.w_i32, Value.int.injEq, true_and]; omega, Dg.i64_eq rfl (by omega) (by omega), Dg.vfalse (by omega), Dg.vtrue (by omega), Dg.vfalse (by omega), trivial⟩
--> uzbm
--< uzbh
theorem uzbh (zs : List Int) (h : Int) (z0 : Int) (r : Nat) (x : Nat) (hi : 1 < List.length zs) (hd : Utf8.decode (txt zs) 1 = (r, x)) (h0 : 102 < r) (h1 : r ≤ 1114111) :
    runU (Ub zs h z0) = some (Ex.ret, ({ ts := [Value.string (txt zs), undef, Value.slice none 0 0, Value.bool false, Value.slice none 0 0, Value.int IntKind.i64 h, Value.int IntKind.i64 1, Value.int IntKind.i32 (↑r : Int), Value.int IntKind.i64 0, Value.bool false, junk, Value.pointer (some { block := 0, off := 0 }), Value.tuple #[Value.bool true, Value.int IntKind.i64 1, Value.int IntKind.i32 (↑r : Int)], Value.bool true, Value.int IntKind.i64 1, Value.int IntKind.i32 (↑r : Int), Value.tuple #[Value.int IntKind.i64 0, Value.bool false], Value.int IntKind.i32 (↑r : Int), Value.tuple #[Value.int IntKind.i64 0, Value.bool false], Value.int IntKind.i64 0, Value.bool false, Value.bool false, Value.bool true, junk, junk, junk, junk, junk, junk, junk, junk, junk, junk, junk, junk, junk, junk, junk, junk, junk], H := { n := 1, objs := [AObj.iter (txt zs) (1 + x)] }, log := [] } : St)) :=
  Dg.evCode_hint (f := 17) (hs' := []) (hs := [Hint.softH 17 12 (Value.tuple #[Value.bool true, Value.int IntKind.i64 1, Value.int IntKind.i32 (↑r : Int)]) { n := 1, objs := [AObj.iter (txt zs) (1 + x)] } [0],
    Hint.val 33 6 (Value.int IntKind.i32 ((↑r : Int) - 48)),
    Hint.val 33 7 (Value.int IntKind.i64 ((↑r : Int) - 48)),
    Hint.val 33 10 (Value.bool true),
    Hint.val 33 13 (Value.bool false),
    Hint.val 33 17 (Value.bool true),
    Hint.val 33 20 (Value.bool false)])
    [Dg.nextAt { n := (1 : Nat), objs := [AObj.iter (txt zs) (1 : Nat)] } (0 : Nat) = some (Value.tuple #[Value.bool true, Value.int IntKind.i64 (1 : Int), Value.int IntKind.i32 (↑r : Int)], { n := (1 : Nat), objs := [AObj.iter (txt zs) ((1 : Nat) + x)] }, [(0 : Nat)]),
    Value.int IntKind.i32 (IntKind.wrap IntKind.i32 ((↑r : Int) - (48 : Int))) = Value.int IntKind.i32 ((↑r : Int) - (48 : Int)),
    Value.int IntKind.i64 (IntKind.wrap IntKind.i64 ((↑r : Int) - (48 : Int))) = Value.int IntKind.i64 ((↑r : Int) - (48 : Int)),
    Value.bool (decide ((↑r : Int) ≥ (97 : Int))) = Value.bool true,
    Value.bool (decide ((↑r : Int) ≤ (102 : Int))) = Value.bool false,
    Value.bool (decide ((↑r : Int) ≥ (48 : Int))) = Value.bool true,
    Value.bool (decide ((↑r : Int) ≤ (57 : Int))) = Value.bool false] (by kernel_rfl)
    ⟨next_dec (pos := 1) rfl (by omega) hd, by simp only [Dg.w_u8, Dg.w_u16, Dg.w_u32, Dg.w_i8, Dg.w_i32, Value.int.injEq, true_and]; omega, Dg.i64_eq rfl (by omega) (by omega), Dg.vtrue (by omega), Dg.vfalse (by omega), Dg.vtrue (by omega), Dg.vfalse (by omega), trivial⟩
--> uzbh
--< ueb
theorem ueb (zs : List Int) (h : Int) (z0 : Int) (hi : List.length zs = 1) :
    runU (Ub zs h z0) = some (Ex.exit 0, ({ ts := [Value.string (txt zs), undef, Value.slice none 0 0, Value.bool false, Value.slice none 0 0, Value.int IntKind.i64 h, Value.int IntKind.i64 0, Value.int IntKind.i32 z0, Value.int IntKind.i64 h, Value.bool true, junk, Value.pointer (some { block := 0, off := 0 }), Value.tuple #[Value.bool false], Value.bool false, junk, junk, junk, junk, junk, junk, junk, junk, junk, junk, junk, junk, junk, junk, junk, junk, junk, junk, junk, junk, junk, junk, junk, junk, junk, junk], H := { n := 1, objs := [AObj.iter (txt zs) 1] }, log := [] } : St)) :=
  Dg.evCode_hint (f := 17) (hs' := []) (hs := [Hint.softH 17 12 (Value.tuple #[Value.bool false]) { n := 1, objs := [AObj.iter (txt zs) 1] } []])
    [Dg.nextAt { n := (1 : Nat), objs := [AObj.iter (txt zs) (1 : Nat)] } (0 : Nat) = some (Value.tuple #[Value.bool false], { n := (1 : Nat), objs := [AObj.iter (txt zs) (1 : Nat)] }, [])] (by kernel_rfl)
    ⟨next_end (pos := 1) rfl (by omega), trivial⟩
--> ueb
--< uzcl
theorem uzcl (zs : List Int) (i : Nat) (h : Int) (z0 : Int) (d0 : Int) (os : List Int) (r : Nat) (x : Nat) (hi : i + 1 < List.length zs) (hd : Utf8.decode (txt zs) (i + 1) = (r, x)) (h0 : r < 48) :
    runU (Uc zs i h z0 d0 os) = some (Ex.ret, ({ ts := [Value.string (txt zs), undef, Value.slice none 0 0, Value.bool false, Value.slice (some { block := 0, off := 0, spot := some 0 }) (List.length os) (List.length os), Value.int IntKind.i64 h, Value.int IntKind.i64 (↑(i + 1) : Int), Value.int IntKind.i32 (↑r : Int), Value.int IntKind.i64 0, Value.bool false, junk, Value.pointer (some { block := 1, off := 0 }), Value.tuple #[Value.bool true, Value.int IntKind.i64 (↑(i + 1) : Int), Value.int IntKind.i32 (↑r : Int)], Value.bool true, Value.int IntKind.i64 (↑(i + 1) : Int), Value.int IntKind.i32 (↑r : Int), Value.tuple #[Value.int IntKind.i64 0, Value.bool false], Value.int IntKind.i32 (↑r : Int), Value.tuple #[Value.int IntKind.i64 0, Value.bool false], Value.int IntKind.i64 0, Value.bool false, Value.bool false, Value.bool true, junk, junk, junk, junk, junk, junk, junk, junk, junk, junk, junk, junk, junk, junk, junk, junk, junk], H := { n := 2, objs := [AObj.iter (txt zs) (i + 1 + x), AObj.cells (u8s os) 5 5 1] }, log := [] } : St)) :=
  Dg.evCode_hint (f := 17) (hs' := []) (hs := [Hint.softH 17 12 (Value.tuple #[Value.bool true, Value.int IntKind.i64 (↑(i + 1) : Int), Value.int IntKind.i32 (↑r : Int)]) { n := 2, objs := [AObj.iter (txt zs) (i + 1 + x), AObj.cells (u8s os) 5 5 1] } [1],
    Hint.val 33 6 (Value.int IntKind.i32 ((↑r : Int) - 48)),
    Hint.val 33 7 (Value.int IntKind.i64 ((↑r : Int) - 48)),
    Hint.val 33 10 (Value.bool false),
    Hint.val 33 17 (Value.bool false)])
    [Dg.nextAt { n := (2 : Nat), objs := [AObj.iter (txt zs) (i + (1 : Nat)), AObj.cells (u8s os) (5 : Nat) (5 : Nat) (1 : Nat)] } (1 : Nat) = some (Value.tuple #[Value.bool true, Value.int IntKind.i64 (↑(i + (1 : Nat)) : Int), Value.int IntKind.i32 (↑r : Int)], { n := (2 : Nat), objs := [AObj.iter (txt zs) (i + (1 : Nat) + x), AObj.cells (u8s os) (5 : Nat) (5 : Nat) (1 : Nat)] }, [(1 : Nat)]),
    Value.int IntKind.i32 (IntKind.wrap IntKind.i32 ((↑r : Int) - (48 : Int))) = Value.int IntKind.i32 ((↑r : Int) - (48 : Int)),
    Value.int IntKind.i64 (IntKind.wrap IntKind.i64 ((↑r : Int) - (48 : Int))) = Value.int IntKind.i64 ((↑r : Int) - (48 : Int)),
    Value.bool (decide ((↑r : Int) ≥ (97 : Int))) = Value.bool false,
    Value.bool (decide ((↑r : Int) ≥ (48 : Int))) = Value.bool false] (by kernel_rfl)
    ⟨next_dec (pos := i + 1) rfl (by omega) hd, by simp only [Dg.w_u8, Dg.w_u16, Dg.w_u32, Dg.w_i8, Dg.w_i32, Value.int.injEq, true_and]; omega, Dg.i64_eq rfl (by omega) (by omega), Dg.vfalse (by omega), Dg.vfalse (by omega), trivial⟩
--> uzcl
--< uzcm
theorem uzcm (zs : List Int) (i : Nat) (h : Int) (z0 : Int) (d0 : Int) (os : List Int) (r : Nat) (x : Nat) (hi : i + 1 < List.length zs) (hd : Utf8.decode (txt zs) (i + 1) = (r, x)) (h0 : 57 < r) (h1 : r < 97) :
    runU (Uc zs i h z0 d0 os) = some (Ex.ret, ({ ts := [Value.string (txt zs), undef, Value.slice none 0 0, Value.bool false, Value.slice (some { block := 0, off := 0, spot := some 0 }) (List.length os) (List.length os), Value.int IntKind.i64 h, Value.int IntKind.i64 (↑(i + 1) : Int), Value.int IntKind.i32 (↑r : Int), Value.int IntKind.i64 0, Value.bool false, junk, Value.pointer (some { block := 1, off := 0 }), Value.tuple #[Value.bool true, Value.int IntKind.i64 (↑(i + 1) : Int), Value.int IntKind.i32 (↑r : Int)], Value.bool true, Value.int IntKind.i64 (↑(i + 1) : Int), Value.int IntKind.i32 (↑r : Int), Value.tuple #[Value.int IntKind.i64 0, Value.bool false], Value.int IntKind.i32 (↑r : Int), Value.tuple #[Value.int IntKind.i64 0, Value.bool false], Value.int IntKind.i64 0, Value.bool false, Value.bool false, Value.bool true, junk, junk, junk, junk, junk, junk, junk, junk, junk, junk, junk, junk, junk, junk, junk, junk, junk], H := { n := 2, objs := [AObj.iter (txt zs) (i + 1 + x), AObj.cells (u8s os) 5 5 1] }, log := [] } : St)) :=
  Dg.evCode_hint (f := 17) (hs' := []) (hs := [Hint.softH 17 12 (Value.tuple #[Value.bool true, Value.int IntKind.i64 (↑(i + 1) : Int), Value.int IntKind.i32 (↑r : Int)]) { n := 2, objs := [AObj.iter (txt zs) (i + 1 + x), AObj.cells (u8s os) 5 5 1] } [1],
    Hint.val 33 6 (Value.int IntKind.i32 ((↑r : Int) - 48)),
    Hint.val 33 7 (Value.int IntKind.i64 ((↑r : Int) - 48)),
    Hint.val 33 10 (Value.bool false),
    Hint.val 33 17 (Value.bool true),
    Hint.val 33 20 (Value.bool false)])
    [Dg.nextAt { n := (2 : Nat), objs := [AObj.iter (txt zs) (i + (1 : Nat)), AObj.cells (u8s os) (5 : Nat) (5 : Nat) (1 : Nat)] } (1 : Nat) = some (Value.tuple #[Value.bool true, Value.int IntKind.i64 (↑(i + (1 : Nat)) : Int), Value.int IntKind.i32 (↑r : Int)], { n := (2 : Nat), objs := [AObj.iter (txt zs) (i + (1 : Nat) + x), AObj.cells (u8s os) (5 : Nat) (5 : Nat) (1 : Nat)] }, [(1 : Nat)]),
    Value.int IntKind.i32 (IntKind.wrap IntKind.i32 ((↑r : Int) - (48 : Int))) = Value.int IntKind.i32 ((↑r : Int) - (48 : Int)),
    Value.int IntKind.i64 (IntKind.wrap IntKind.i64 ((↑r : Int) - (48 : Int))) = Value.int IntKind.i64 ((↑r : Int) - (48 : Int)),
    Value.bool (decide ((↑r : Int) ≥ (97 : Int))) = Value.bool false,
    Value.bool (decide ((↑r : Int) ≥ (48 : Int))) = Value.bool true,
    Value.bool (decide ((↑r : Int) ≤ (57 : Int))) = Value.bool false] (by kernel_rfl)
    ⟨next_dec (pos := i + 1) rfl (by omega) hd, by simp only [Dg.w_u8, Dg.w_u16, Dg.w_u32, Dg.w_i8, Dg.w_i32, Value.int.injEq, true_and]; omega, Dg.i64_eq rfl (by omega) (by omega), Dg.vfalse (by omega), Dg.vtrue (by omega), Dg.vfalse (by omega), trivial⟩
--> uzcm
--< uzch
theorem uzch (zs : List Int) (i : Nat) (h : Int) (z0 : Int) (d0 : Int) (os : List Int) (r : Nat) (x : Nat) (hi : i + 1 < List.length zs) (hd : Utf8.decode (txt zs) (i + 1) = (r, x)) (h0 : 102 < r) (h1 : r ≤ 1114111) :
    runU (Uc zs i h z0 d0 os) = some (Ex.ret, ({ ts := [Value.string (txt zs), undef, Value.slice none 0 0, Value.bool false, Value.slice (some { block := 0, off := 0, spot := some 0 }) (List.length os) (List.length os), Value.int IntKind.i64 h, Value.int IntKind.i64 (↑(i + 1) : Int), Value.int IntKind.i32 (↑r : Int), Value.int IntKind.i64 0, Value.bool false, junk, Value.pointer (some { block := 1, off := 0 }), Value.tuple #[Value.bool true, Value.int IntKind.i64 (↑(i + 1) : Int), Value.int IntKind.i32 (↑r : Int)], Value.bool true, Value.int IntKind.i64 (↑(i + 1) : Int), Value.int IntKind.i32 (↑r : Int), Value.tuple #[Value.int IntKind.i64 0, Value.bool false], Value.int IntKind.i32 (↑r : Int), Value.tuple #[Value.int IntKind.i64 0, Value.bool false], Value.int IntKind.i64 0, Value.bool false, Value.bool false, Value.bool true, junk, junk, junk, junk, junk, junk, junk, junk, junk, junk, junk, junk, junk, junk, junk, junk, junk], H := { n := 2, objs := [AObj.iter (txt zs) (i + 1 + x), AObj.cells (u8s os) 5 5 1] }, log := [] } : St)) :=
  Dg.evCode_hint (f := 17) (hs' := []) (hs := [Hint.softH 17 12 (Value.tuple #[Value.bool true, Value.int IntKind.i64 (↑(i + 1) : Int), Value.int IntKind.i32 (↑r : Int)]) { n := 2, objs := [AObj.iter (txt zs) (i + 1 + x), AObj.cells (u8s os) 5 5 1] } [1],
    Hint.val 33 6 (Value.int IntKind.i32 ((↑r : Int) - 48)),
    Hint.val 33 7 (Value.int IntKind.i64 ((↑r : Int) - 48)),
    Hint.val 33 10 (Value.bool true),
    Hint.val 33 13 (Value.bool false),
    Hint.val 33 17 (Value.bool true),
    Hint.val 33 20 (Value.bool false)])
    [Dg.nextAt { n := (2 : Nat), objs := [AObj.iter (txt zs) (i + (1 : Nat)), AObj.cells (u8s os) (5 : Nat) (5 : Nat) (1 : Nat)] } (1 : Nat) = some (Value.tuple #[Value.bool true, Value.int IntKind.i64 (↑(i + (1 : Nat)) : Int), Value.int IntKind.i32 (↑r : Int)], { n := (2 : Nat), objs := [AObj.iter (txt zs) (i + (1 : Nat) + x), AObj.cells (u8s os) (5 : Nat) (5 : Nat) (1 : Nat)] }, [(1 : Nat)]),
    Value.int IntKind.i32 (IntKind.wrap IntKind.i32 ((↑r : Int) - (48 : Int))) = Value.int IntKind.i32 ((↑r : Int) - (48 : Int)),
    Value.int IntKind.i64 (IntKind.wrap IntKind.i64 ((↑r : Int) - (48 : Int))) = Value.int IntKind.i64 ((↑r : Int) - (48 : Int)),
    Value.bool (decide ((↑r : Int) ≥ (97 : Int))) = Value.bool true,
    Value.bool (decide ((↑r : Int) ≤ (102 : Int))) = Value.bool false,
    Value.bool (decide ((↑r : Int) ≥ (48 : Int))) = Value.bool true,
    Value.bool (decide ((↑r : Int) ≤ (57 : Int))) = Value.bool false] (by kernel_rfl)
    ⟨next_dec (pos := i + 1) rfl (by omega) hd, by simp only [Dg.w_u8, Dg.w_u16, Dg.w_u32, Dg.w_i8, Dg.w_i32, Value.int.injEq, true_and]; omega, Dg.i64_eq rfl (by omega) (by omega), Dg.vtrue (by omega), Dg.vfalse (by omega), Dg.vtrue (by omega), Dg.vfalse (by omega), trivial⟩
--> uzch
--< uec
theorem uec (zs : List Int) (i : Nat) (h : Int) (z0 : Int) (d0 : Int) (os : List Int) (hi : List.length zs = i + 1) :
    runU (Uc zs i h z0 d0 os) = some (Ex.exit 0, ({ ts := [Value.string (txt zs), undef, Value.slice none 0 0, Value.bool false, Value.slice (some { block := 0, off := 0, spot := some 0 }) (List.length os) (List.length os), Value.int IntKind.i64 h, Value.int IntKind.i64 (↑i : Int), Value.int IntKind.i32 z0, Value.int IntKind.i64 d0, Value.bool true, junk, Value.pointer (some { block := 1, off := 0 }), Value.tuple #[Value.bool false], Value.bool false, junk, junk, junk, junk, junk, junk, junk, junk, junk, junk, junk, junk, junk, junk, junk, junk, junk, junk, junk, junk, junk, junk, junk, junk, junk, junk], H := { n := 2, objs := [AObj.iter (txt zs) (i + 1), AObj.cells (u8s os) 5 5 1] }, log := [] } : St)) :=
  Dg.evCode_hint (f := 17) (hs' := []) (hs := [Hint.softH 17 12 (Value.tuple #[Value.bool false]) { n := 2, objs := [AObj.iter (txt zs) (i + 1), AObj.cells (u8s os) 5 5 1] } []])
    [Dg.nextAt { n := (2 : Nat), objs := [AObj.iter (txt zs) (i + (1 : Nat)), AObj.cells (u8s os) (5 : Nat) (5 : Nat) (1 : Nat)] } (1 : Nat) = some (Value.tuple #[Value.bool false], { n := (2 : Nat), objs := [AObj.iter (txt zs) (i + (1 : Nat)), AObj.cells (u8s os) (5 : Nat) (5 : Nat) (1 : Nat)] }, [])] (by kernel_rfl)
    ⟨next_end (pos := i + 1) rfl (by omega), trivial⟩
--> uec
end Go.Proofs.YtflgpkkbifkpoaaGreatDoor.text

namespace Go.Proofs.YtflgpkkbifkpoaaGreatDoor.text
open Go.Dg (junk St Ex Ev Hint evCall evCallS evCode evLoop cleanSt ue bodied noOver Heap AObj)
set_option linter.unusedVariables false
set_option linter.unusedSimpArgs false

def dv (z : Int) : Int := if z ≤ 57 then z - 48 else z - 97 + 10
def isHex (z : Int) : Prop := (48 ≤ z ∧ z ≤ 57) ∨ (97 ≤ z ∧ z ≤ 102)
theorem dv_d {z : Int} (h : 48 ≤ z ∧ z ≤ 57) : dv z = z - 48 := if_pos h.2
theorem dv_a {z : Int} (h : 97 ≤ z ∧ z ≤ 102) : dv z = z - 97 + 10 := if_neg (by omega)
theorem dv_rng {z : Int} (h : isHex z) : 0 ≤ dv z ∧ dv z < 16 := by
  rcases h with h | h
  · rw [dv_d h]; omega
  · rw [dv_a h]; omega
def outL (zs : List Int) : Nat → List Int
  | 0 => []
  | j + 1 => outL zs j ++ [16 * dv (zs.getD (2 * j) 0) + dv (zs.getD (2 * j + 1) 0)]
theorem outL_len (zs : List Int) : ∀ j, (outL zs j).length = j := by
  intro j
  induction j with
  | zero => rfl
  | succ j ih => simp [outL, ih]
def SU (zs : List Int) : Nat → St
  | 0 => Ua zs
  | 1 => Ub zs (dv (zs.getD 0 0)) (zs.getD 0 0)
  | i + 2 => Uc zs (i + 1) (dv (zs.getD (2 * ((i + 1) / 2)) 0)) (zs.getD (i + 1) 0) (dv (zs.getD (i + 1) 0)) (outL zs ((i + 2) / 2))
theorem roundU (zs : List Int) (hl : zs.length ≤ 2000) (i : Nat) (hi : i < zs.length) (hx : ∀ j, j ≤ i → isHex (zs.getD j 0)) : ∃ s', runU (SU zs i) = some (.normal, s') ∧ clU s' = SU zs (i + 1) := by
  match i, hi, hx with
  | 0, hi, hx =>
    show ∃ s', runU (Ua zs) = _ ∧ clU s' = Ub zs (dv (zs.getD 0 0)) (zs.getD 0 0)
    rcases hx 0 (Nat.le_refl _) with h | h
    · rw [dv_d h]; exact uad zs hi h
    · rw [dv_a h]; exact uaa zs hi h
  | 1, hi, hx =>
    have hh := dv_rng (hx 0 (by omega))
    show ∃ s', runU (Ub zs (dv (zs.getD 0 0)) (zs.getD 0 0)) = _ ∧ clU s' = Uc zs 1 (dv (zs.getD 0 0)) (zs.getD 1 0) (dv (zs.getD 1 0)) [16 * dv (zs.getD 0 0) + dv (zs.getD 1 0)]
    rcases hx 1 (Nat.le_refl _) with h | h
    · rw [dv_d h]; exact ubd zs _ _ hi hh h
    · rw [dv_a h]; exact uba zs _ _ hi hh h
  | i + 2, hi, hx =>
    rcases Nat.mod_two_eq_zero_or_one (i + 1 + 1) with hp | hp
    · have e1 : 2 * ((i + 1 + 1) / 2) = i + 1 + 1 := by omega
      have e2 : (i + 1 + 2) / 2 = (i + 2) / 2 := by omega
      show ∃ s', runU (Uc zs (i + 1) _ _ _ _) = _ ∧ clU s' = Uc zs (i + 1 + 1) (dv (zs.getD (2 * ((i + 1 + 1) / 2)) 0)) (zs.getD (i + 1 + 1) 0) (dv (zs.getD (i + 1 + 1) 0)) (outL zs ((i + 1 + 2) / 2))
      rw [e1, e2]
      rcases hx (i + 2) (Nat.le_refl _) with h | h
      · rw [dv_d h]; exact ucd zs (i + 1) _ _ _ _ hi hp hl h
      · rw [dv_a h]; exact uca zs (i + 1) _ _ _ _ hi hp hl h
    · have e0 : 2 * ((i + 1) / 2) = i + 1 := by omega
      have e1 : 2 * ((i + 1 + 1) / 2) = i + 1 := by omega
      have e2 : (i + 1 + 2) / 2 = (i + 2) / 2 + 1 := by omega
      have e3 : 2 * ((i + 2) / 2) = i + 1 := by omega
      have hh := dv_rng (hx (i + 1) (by omega))
      have ho : outL zs ((i + 1 + 2) / 2) = outL zs ((i + 2) / 2) ++ [16 * dv (zs.getD (i + 1) 0) + dv (zs.getD (i + 1 + 1) 0)] := by
        rw [e2]; simp only [outL, e3]
      show ∃ s', runU (Uc zs (i + 1) (dv (zs.getD (2 * ((i + 1) / 2)) 0)) _ _ _) = _ ∧ clU s' = Uc zs (i + 1 + 1) (dv (zs.getD (2 * ((i + 1 + 1) / 2)) 0)) (zs.getD (i + 1 + 1) 0) (dv (zs.getD (i + 1 + 1) 0)) (outL zs ((i + 1 + 2) / 2))
      rw [e0, e1, ho]
      rcases hx (i + 2) (Nat.le_refl _) with h | h
      · rw [dv_d h]; exact udd zs (i + 1) _ _ _ _ (by rw [outL_len]; omega) hi hp hl hh h
      · rw [dv_a h]; exact uda zs (i + 1) _ _ _ _ (by rw [outL_len]; omega) hi hp hl hh h
end Go.Proofs.YtflgpkkbifkpoaaGreatDoor.text

namespace Go.Proofs.YtflgpkkbifkpoaaGreatDoor.text
open Go.Dg (junk St Ex Ev Hint evCall evCallS evCode evCodeK innerKp evCodeS evLoop cleanSt ue bodied noOver sbOf headOf tailOf bodyOf rAssign rBody lBody Flats flatOver Heap AObj SCall Law ofLaw Fix)
set_option linter.unusedVariables false
set_option linter.unusedSimpArgs false

def TE8 (zs : List Int) (out : Value) (h : Int) (r : List Value) (k : Nat) : List Value := [.string (txt zs), undef, .slice none 0 0, .bool false, out, .int .i64 h] ++ (r ++ ([junk, .pointer (some ⟨k, 0, none⟩), .tuple #[.bool false], .bool false] ++ js 26))
def Eb8 (zs : List Int) (h z : Int) : St := ⟨TE8 zs (.slice none 0 0) h (rU 0 z h) 0, ⟨1, [.iter (txt zs) 1]⟩, []⟩
def Ec8 (zs : List Int) (i : Nat) (h z d : Int) (os : List Int) : St := ⟨TE8 zs (.slice (some ⟨0, 0, some 0⟩) os.length os.length) h (rU i z d) 1, ⟨2, [.iter (txt zs) (i + 1), rowU os]⟩, []⟩
theorem loopEb (zs : List Int) (hl : zs.length = 1) (hx : ∀ j, j < zs.length → isHex (zs.getD j 0)) {s0 : St} (h0 : clU s0 = Ua zs) :
    evLoop runU clU 4000 s0 = some (.exit 0, Eb8 zs (dv (zs.getD 0 0)) (zs.getD 0 0)) :=
  Dg.loop_run (S := SU zs) (n := 1) (by simp) (fun j hj => roundU zs (by omega) j (by omega) (fun k hk => hx k (by omega))) (ueb zs _ _ hl) (by omega) h0
theorem loopEc (zs : List Int) (i : Nat) (hl : zs.length = i + 2) (hb : zs.length ≤ 2000) (hx : ∀ j, j < zs.length → isHex (zs.getD j 0)) {s0 : St} (h0 : clU s0 = Ua zs) :
    evLoop runU clU 4000 s0 = some (.exit 0, Ec8 zs (i + 1) (dv (zs.getD (2 * ((i + 1) / 2)) 0)) (zs.getD (i + 1) 0) (dv (zs.getD (i + 1) 0)) (outL zs ((i + 2) / 2))) :=
  Dg.loop_run (S := SU zs) (n := i + 2) (by simp) (fun j hj => roundU zs hb j (by omega) (fun k hk => hx k (by omega))) (uec zs (i + 1) _ _ _ _ (by omega)) (by omega) h0
/-- The state behind a sign that is none's. -/
def Z8 (zs : List Int) (rest : List Value) (h : Heap) : St := ⟨.string (txt zs) :: undef :: .slice none 0 0 :: .bool false :: rest, h, []⟩
theorem dec_le (zs : List Int) (pos : Nat) : (Utf8.decode (txt zs) pos).1 ≤ 1114111 := by
  generalize txt zs = s
  have hb : ∀ k, (s.get! (pos + k)).toNat < 256 := fun k => (s.get! (pos + k)).toNat_lt
  have h0 := hb 0; have h1 := hb 1; have h2 := hb 2; have h3 := hb 3
  simp only [Utf8.decode]
  repeat' split
  all_goals simp_all [Utf8.runeError, Utf8.valid]
  all_goals omega
theorem loopZ (zs : List Int) (hb : zs.length ≤ 2000) (hz : ∀ j, 0 ≤ zs.getD j 0 ∧ zs.getD j 0 < 256) (n : Nat) (hn : n < zs.length) (hx : ∀ j, j < n → isHex (zs.getD j 0)) (hnx : ¬ isHex (zs.getD n 0)) :
    ∃ rest p, (∀ s0, clU s0 = Ua zs → evLoop runU clU 4000 s0 = some (.ret, Z8 zs rest ⟨1, [.iter (txt zs) p]⟩)) ∨ ∃ os, ∀ s0, clU s0 = Ua zs → evLoop runU clU 4000 s0 = some (.ret, Z8 zs rest ⟨2, [.iter (txt zs) p, rowU os]⟩) := by
  obtain ⟨r, x, hd⟩ : ∃ r x, Utf8.decode (txt zs) n = (r, x) := ⟨_, _, rfl⟩
  have hr : r < 48 ∨ (57 < r ∧ r < 97) ∨ (102 < r ∧ r ≤ 1114111) := by
    have hle := dec_le zs n
    rw [hd] at hle
    unfold isHex at hnx
    rcases Int.lt_or_le (zs.getD n 0) 128 with h1 | h1
    · have := dec_lo zs n hn ⟨(hz n).1, h1⟩
      rw [hd] at this
      have h2 : r = (zs.getD n 0).toNat := congrArg Prod.fst this
      have := hz n
      omega
    · have := dec_hi zs n hn ⟨h1, (hz n).2⟩
      rw [hd] at this
      have h2 : 128 ≤ r := this
      have h3 : r ≤ 1114111 := hle
      omega
  have run : ∀ E : St, runU (SU zs n) = some (.ret, E) → ∀ s0, clU s0 = Ua zs → evLoop runU clU 4000 s0 = some (.ret, E) := fun E hs s0 h0 =>
    Dg.loop_run (S := SU zs) (n := n) (by simp) (fun j hj => roundU zs hb j (by omega) (fun k hk => hx k (by omega))) hs (by omega) h0
  match n, hn, hd, run with
  | 0, hn, hd, run =>
    rcases hr with h | ⟨h, h'⟩ | ⟨h, h'⟩
    · exact ⟨_, _, .inl (run _ (uzal zs r x hn hd h))⟩
    · exact ⟨_, _, .inl (run _ (uzam zs r x hn hd h h'))⟩
    · exact ⟨_, _, .inl (run _ (uzah zs r x hn hd h h'))⟩
  | 1, hn, hd, run =>
    rcases hr with h | ⟨h, h'⟩ | ⟨h, h'⟩
    · exact ⟨_, _, .inl (run _ (uzbl zs _ _ r x hn hd h))⟩
    · exact ⟨_, _, .inl (run _ (uzbm zs _ _ r x hn hd h h'))⟩
    · exact ⟨_, _, .inl (run _ (uzbh zs _ _ r x hn hd h h'))⟩
  | i + 2, hn, hd, run =>
    rcases hr with h | ⟨h, h'⟩ | ⟨h, h'⟩
    · exact ⟨_, _, .inr ⟨_, run _ (uzcl zs (i + 1) _ _ _ _ r x hn hd h)⟩⟩
    · exact ⟨_, _, .inr ⟨_, run _ (uzcm zs (i + 1) _ _ _ _ r x hn hd h h')⟩⟩
    · exact ⟨_, _, .inr ⟨_, run _ (uzch zs (i + 1) _ _ _ _ r x hn hd h h')⟩⟩
--< un1
theorem un1 (zs : List Int) (hl : List.length zs = 1) (hx : ∀ (j : Nat), j < List.length zs → isHex (List.getD zs j 0)) :
    evCall Tryz.prog 0 (bodied Tryz.prog) noOver sbs 4000 20 17 [Value.string (txt zs)] { n := 0, objs := [] } = some (Value.tuple #[Value.slice none 0 0, Value.bool false], { n := 0, objs := [] }, []) :=
  Dg.evCall_hint (hs' := []) (hs := [Hint.loop 17 (Ex.exit 0) (Eb8 zs (dv (List.getD zs 0 0)) (List.getD zs 0 0)),
    Hint.val 17 38 (Value.bool true)])
    [evLoop runU clU 4000 { ts := [Value.string (txt zs), undef, Value.slice none 0 0, Value.bool false, Value.slice none 0 0, Value.int IntKind.i64 0, undef, undef, undef, undef, Value.string (txt zs), Value.pointer (some { block := 0, off := 0 }), undef, undef, undef, undef, undef, undef, undef, undef, undef, undef, undef, undef, undef, undef, undef, undef, undef, undef, undef, undef, undef, undef, undef, undef, undef, undef, undef, undef], H := { n := 1, objs := [AObj.iter (txt zs) 0] }, log := [] } = some (Ex.exit 0, Eb8 zs (dv (List.getD zs 0 0)) (List.getD zs 0 0)),
    Value.bool (decide (Int.tmod (↑(ByteArray.size (txt zs)) : Int) (2 : Int) > (0 : Int))) = Value.bool true] (by kernel_rfl)
    ⟨loopEb zs hl hx (by kernel_rfl), Dg.vtrue (by rw [txt_size, Int.tmod_eq_emod_of_nonneg (by omega)]; omega), trivial⟩
--> un1
--< unc
theorem unc (zs : List Int) (i : Nat) (hl : List.length zs = i + 2) (hb : List.length zs ≤ 2000) (hp : i % 2 = 0) (hx : ∀ (j : Nat), j < List.length zs → isHex (List.getD zs j 0)) :
    evCall Tryz.prog 0 (bodied Tryz.prog) noOver sbs 4000 20 17 [Value.string (txt zs)] { n := 0, objs := [] } = some (Value.tuple { toList := [Value.slice (some { block := 0, off := 0, spot := some 0 }) (List.length (outL zs ((i + 2) / 2))) (List.length (outL zs ((i + 2) / 2))), Value.bool true] }, { n := 1, objs := [AObj.cells (u8s (outL zs ((i + 2) / 2))) 5 5 1] }, []) :=
  Dg.evCall_hint (hs' := []) (hs := [Hint.loop 17 (Ex.exit 0) (Ec8 zs (i + 1) (dv (List.getD zs (2 * ((i + 1) / 2)) 0)) (List.getD zs (i + 1) 0) (dv (List.getD zs (i + 1) 0)) (outL zs ((i + 2) / 2))),
    Hint.val 17 38 (Value.bool false)])
    [evLoop runU clU 4000 { ts := [Value.string (txt zs), undef, Value.slice none 0 0, Value.bool false, Value.slice none 0 0, Value.int IntKind.i64 0, undef, undef, undef, undef, Value.string (txt zs), Value.pointer (some { block := 0, off := 0 }), undef, undef, undef, undef, undef, undef, undef, undef, undef, undef, undef, undef, undef, undef, undef, undef, undef, undef, undef, undef, undef, undef, undef, undef, undef, undef, undef, undef], H := { n := 1, objs := [AObj.iter (txt zs) 0] }, log := [] } = some (Ex.exit 0, Ec8 zs (i + 1) (dv (List.getD zs (2 * ((i + 1) / 2)) 0)) (List.getD zs (i + 1) 0) (dv (List.getD zs (i + 1) 0)) (outL zs ((i + 2) / 2))),
    Value.bool (decide (Int.tmod (↑(ByteArray.size (txt zs)) : Int) (2 : Int) > (0 : Int))) = Value.bool false] (by kernel_rfl)
    ⟨loopEc zs i hl hb hx (by kernel_rfl), Dg.vfalse (by rw [txt_size, Int.tmod_eq_emod_of_nonneg (by omega)]; omega), trivial⟩
--> unc
--< uno
theorem uno (zs : List Int) (i : Nat) (hl : List.length zs = i + 2) (hb : List.length zs ≤ 2000) (hp : i % 2 = 1) (hx : ∀ (j : Nat), j < List.length zs → isHex (List.getD zs j 0)) :
    evCall Tryz.prog 0 (bodied Tryz.prog) noOver sbs 4000 20 17 [Value.string (txt zs)] { n := 0, objs := [] } = some (Value.tuple #[Value.slice none 0 0, Value.bool false], { n := 0, objs := [] }, []) :=
  Dg.evCall_hint (hs' := []) (hs := [Hint.loop 17 (Ex.exit 0) (Ec8 zs (i + 1) (dv (List.getD zs (2 * ((i + 1) / 2)) 0)) (List.getD zs (i + 1) 0) (dv (List.getD zs (i + 1) 0)) (outL zs ((i + 2) / 2))),
    Hint.val 17 38 (Value.bool true)])
    [evLoop runU clU 4000 { ts := [Value.string (txt zs), undef, Value.slice none 0 0, Value.bool false, Value.slice none 0 0, Value.int IntKind.i64 0, undef, undef, undef, undef, Value.string (txt zs), Value.pointer (some { block := 0, off := 0 }), undef, undef, undef, undef, undef, undef, undef, undef, undef, undef, undef, undef, undef, undef, undef, undef, undef, undef, undef, undef, undef, undef, undef, undef, undef, undef, undef, undef], H := { n := 1, objs := [AObj.iter (txt zs) 0] }, log := [] } = some (Ex.exit 0, Ec8 zs (i + 1) (dv (List.getD zs (2 * ((i + 1) / 2)) 0)) (List.getD zs (i + 1) 0) (dv (List.getD zs (i + 1) 0)) (outL zs ((i + 2) / 2))),
    Value.bool (decide (Int.tmod (↑(ByteArray.size (txt zs)) : Int) (2 : Int) > (0 : Int))) = Value.bool true] (by kernel_rfl)
    ⟨loopEc zs i hl hb hx (by kernel_rfl), Dg.vtrue (by rw [txt_size, Int.tmod_eq_emod_of_nonneg (by omega)]; omega), trivial⟩
--> uno
--< uny
theorem uny (zs : List Int) (rest : List Value) (p : Nat) (hz : ∀ (s0 : St), clU s0 = Ua zs → evLoop runU clU 4000 s0 = some (Ex.ret, Z8 zs rest { n := 1, objs := [AObj.iter (txt zs) p] })) :
    evCall Tryz.prog 0 (bodied Tryz.prog) noOver sbs 4000 20 17 [Value.string (txt zs)] { n := 0, objs := [] } = some (Value.tuple #[Value.slice none 0 0, Value.bool false], { n := 0, objs := [] }, []) :=
  Dg.evCall_hint (hs' := []) (hs := [Hint.loop 17 Ex.ret (Z8 zs rest { n := 1, objs := [AObj.iter (txt zs) p] })])
    [evLoop runU clU 4000 { ts := [Value.string (txt zs), undef, Value.slice none 0 0, Value.bool false, Value.slice none 0 0, Value.int IntKind.i64 0, undef, undef, undef, undef, Value.string (txt zs), Value.pointer (some { block := 0, off := 0 }), undef, undef, undef, undef, undef, undef, undef, undef, undef, undef, undef, undef, undef, undef, undef, undef, undef, undef, undef, undef, undef, undef, undef, undef, undef, undef, undef, undef], H := { n := 1, objs := [AObj.iter (txt zs) 0] }, log := [] } = some (Ex.ret, Z8 zs rest { n := 1, objs := [AObj.iter (txt zs) p] })] (by kernel_rfl)
    ⟨hz _ (by kernel_rfl), trivial⟩
--> uny
--< unz
theorem unz (zs : List Int) (rest : List Value) (p : Nat) (os : List Int) (hz : ∀ (s0 : St), clU s0 = Ua zs → evLoop runU clU 4000 s0 = some (Ex.ret, Z8 zs rest { n := 2, objs := [AObj.iter (txt zs) p, rowU os] })) :
    evCall Tryz.prog 0 (bodied Tryz.prog) noOver sbs 4000 20 17 [Value.string (txt zs)] { n := 0, objs := [] } = some (Value.tuple #[Value.slice none 0 0, Value.bool false], { n := 0, objs := [] }, []) :=
  Dg.evCall_hint (hs' := []) (hs := [Hint.loop 17 Ex.ret (Z8 zs rest { n := 2, objs := [AObj.iter (txt zs) p, rowU os] })])
    [evLoop runU clU 4000 { ts := [Value.string (txt zs), undef, Value.slice none 0 0, Value.bool false, Value.slice none 0 0, Value.int IntKind.i64 0, undef, undef, undef, undef, Value.string (txt zs), Value.pointer (some { block := 0, off := 0 }), undef, undef, undef, undef, undef, undef, undef, undef, undef, undef, undef, undef, undef, undef, undef, undef, undef, undef, undef, undef, undef, undef, undef, undef, undef, undef, undef, undef], H := { n := 1, objs := [AObj.iter (txt zs) 0] }, log := [] } = some (Ex.ret, Z8 zs rest { n := 2, objs := [AObj.iter (txt zs) p, rowU os] })] (by kernel_rfl)
    ⟨hz _ (by kernel_rfl), trivial⟩
--> unz
--< un0
theorem un0 :
    evCall Tryz.prog 0 (bodied Tryz.prog) noOver sbs 4000 20 17 [Value.string { data := #[] }] { n := 0, objs := [] } = some (Value.tuple #[Value.slice none 0 0, Value.bool true], { n := 0, objs := [] }, []) :=
  Dg.evCall_hint (hs' := []) (hs := [])
    [] (by kernel_rfl)
    trivial
--> un0
end Go.Proofs.YtflgpkkbifkpoaaGreatDoor.text

namespace Go.Proofs.YtflgpkkbifkpoaaGreatDoor.text
open Go.Dg (junk St Ex Ev Hint evCall evCallS evCode evCodeK innerKp evCodeS evLoop cleanSt ue bodied noOver sbOf headOf tailOf bodyOf rAssign rBody lBody Flats flatOver Heap AObj SCall Law ofLaw Fix)
set_option linter.unusedVariables false
set_option linter.unusedSimpArgs false

theorem first_or {p : Nat → Prop} [DecidablePred p] : ∀ n, (∃ j, j < n ∧ p j ∧ ∀ i, i < j → ¬ p i) ∨ ∀ i, i < n → ¬ p i := by
  intro n
  induction n with
  | zero => exact .inr fun i hi => by omega
  | succ n ih =>
    rcases ih with ⟨j, h1, h2, h3⟩ | h
    · exact .inl ⟨j, by omega, h2, h3⟩
    · by_cases hn : p n
      · exact .inl ⟨n, by omega, hn, h⟩
      · refine .inr fun i hi => ?_
        rcases Nat.lt_or_ge i n with h0 | h0
        · exact h i h0
        · obtain rfl : i = n := by omega
          exact hn
instance (z : Int) : Decidable (isHex z) := by unfold isHex; infer_instance
def Good (zs : List Int) : Prop := zs.length % 2 = 0 ∧ ∀ j, j < zs.length → isHex (zs.getD j 0)
def Byt (zs : List Int) : Prop := ∀ j, 0 ≤ zs.getD j 0 ∧ zs.getD j 0 < 256
open Classical in
/-- What the bytes of a text are. -/
noncomputable def unV (H : Heap) (zs : List Int) : Value × Heap × List Nat :=
  if Good zs then (if zs = [] then (.tuple #[.slice none 0 0, .bool true], H, []) else (.tuple #[.slice (some ⟨H.n, 0, some 0⟩) (zs.length / 2) (zs.length / 2), .bool true], H.push (rowU (outL zs (zs.length / 2))), [])) else (.tuple #[.slice none 0 0, .bool false], H, [])
noncomputable abbrev ev8 : List Value → Heap → Option (Value × Heap × List Nat) := evCall Tryz.prog 0 (bodied Tryz.prog) noOver sbs 4000 20 17
theorem txt_nil : txt [] = ⟨#[]⟩ := rfl
theorem good_nil : Good [] := ⟨rfl, fun j hj => by simp at hj⟩
theorem bad_of {zs : List Int} (hp : zs.length % 2 = 0) (h : ¬ Good zs) : ∃ n, n < zs.length ∧ ¬ isHex (zs.getD n 0) ∧ ∀ j, j < n → isHex (zs.getD j 0) := by
  rcases first_or (p := fun j => ¬ isHex (zs.getD j 0)) zs.length with ⟨j, h1, h2, h3⟩ | h'
  · exact ⟨j, h1, h2, fun i hi => Decidable.not_not.1 (h3 i hi)⟩
  · exact absurd ⟨hp, fun i hi => Decidable.not_not.1 (h' i hi)⟩ h
theorem un_bad {zs : List Int} (hb : zs.length ≤ 2000) (hz : Byt zs) {n : Nat} (hn : n < zs.length) (hx : ∀ j, j < n → isHex (zs.getD j 0)) (hnx : ¬ isHex (zs.getD n 0)) : ev8 [.string (txt zs)] ⟨0, []⟩ = some (.tuple #[.slice none 0 0, .bool false], ⟨0, []⟩, []) := by
  obtain ⟨rest, p, h | ⟨os, h⟩⟩ := loopZ zs hb hz n hn hx hnx
  · exact uny zs rest p h
  · exact unz zs rest p os h
theorem un_is {zs : List Int} (hb : zs.length ≤ 2000) (hz : Byt zs) : ev8 [.string (txt zs)] ⟨0, []⟩ = some (unV ⟨0, []⟩ zs) := by
  unfold unV
  by_cases hg : Good zs
  · rw [if_pos hg]
    by_cases he : zs = []
    · rw [if_pos he, he]; exact un0
    · rw [if_neg he]
      have hp : 0 < zs.length := by cases zs with | nil => exact absurd rfl he | cons => simp
      have h1 := hg.1
      obtain ⟨i, hi⟩ : ∃ i, zs.length = i + 2 := ⟨zs.length - 2, by omega⟩
      have h := unc zs i hi hb (by omega) hg.2
      rw [outL_len] at h
      rw [hi]
      exact h
  · rw [if_neg hg]
    rcases first_or (p := fun j => ¬ isHex (zs.getD j 0)) zs.length with ⟨j, h1, h2, h3⟩ | h'
    · exact un_bad hb hz h1 (fun i hi => Decidable.not_not.1 (h3 i hi)) h2
    · have hx : ∀ j, j < zs.length → isHex (zs.getD j 0) := fun i hi => Decidable.not_not.1 (h' i hi)
      have hodd : zs.length % 2 = 1 := by
        rcases Nat.mod_two_eq_zero_or_one zs.length with h | h
        · exact absurd ⟨h, hx⟩ hg
        · exact h
      rcases Nat.lt_or_ge zs.length 2 with h2 | h2
      · exact un1 zs (by omega) hx
      · obtain ⟨i, hi⟩ : ∃ i, zs.length = i + 2 := ⟨zs.length - 2, by omega⟩
        exact uno zs i hi hb (by omega) hx
/-- The text of bytes in memory. -/
def C6 : Law := fun args H r => (args = [.slice none 0 0] ∧ r = (.string ⟨#[]⟩, H, [])) ∨ (∃ k lz cz zs e, args = [.slice (some ⟨k, 0, none⟩) lz cz] ∧ H.get k = oB zs e ∧ lz ≤ 1000 ∧ lz ≤ cz ∧ zs.length = cz ∧ Byt zs ∧ r = (.string (txt (hexL zs lz)), H, [])) ∨
  ∃ k l zs, args = [.slice (some ⟨k, 0, some 0⟩) l l] ∧ H.get k = rowU zs ∧ l ≤ 1000 ∧ zs.length = l ∧ 0 < l ∧ Byt zs ∧ r = (.string (txt (hexL zs l)), H, [])
/-- The bytes of a text. -/
def C8 : Law := fun args H r => ∃ zs, args = [.string (txt zs)] ∧ zs.length ≤ 2000 ∧ Byt zs ∧ r = unV H zs
theorem u8s_inj {a b : List Int} (h : u8s a = u8s b) : a = b := by
  unfold u8s at h
  exact (List.map_inj_right (fun x y hxy => by injection hxy)).1 h
theorem oB_inj {a b : List Int} {e f : Nat} (h : oB a e = oB b f) : a = b := by
  unfold oB at h
  injection h with h1
  exact u8s_inj h1
theorem rowU_inj {a b : List Int} (h : rowU a = rowU b) : a = b := by
  unfold rowU at h
  injection h with h1
  exact u8s_inj h1
theorem uniq6 : ∀ args H r r', C6 args H r → C6 args H r' → r = r' := by
  rintro args H r r' (⟨h1, h2⟩ | ⟨k, lz, cz, zs, e, h1, h2, h3, h4, h5, h6, h7⟩ | ⟨k, l, zs, h1, h2, h3, h4, h5, h6, h7⟩) (⟨g1, g2⟩ | ⟨k', lz', cz', zs', e', g1, g2, g3, g4, g5, g6, g7⟩ | ⟨k', l', zs', g1, g2, g3, g4, g5, g6, g7⟩)
  · rw [h2, g2]
  · rw [h1] at g1; simp at g1
  · rw [h1] at g1; simp at g1
  · rw [g1] at h1; simp at h1
  · rw [h1] at g1
    simp only [List.cons.injEq, Value.slice.injEq, Option.some.injEq, Addr.mk.injEq, and_true, true_and] at g1
    obtain ⟨rfl, rfl, rfl⟩ := g1
    obtain rfl := oB_inj (h2.symm.trans g2)
    rw [h7, g7]
  · rw [h1] at g1; simp at g1
  · rw [g1] at h1; simp at h1
  · rw [h1] at g1; simp at g1
  · rw [h1] at g1
    simp only [List.cons.injEq, Value.slice.injEq, Option.some.injEq, Addr.mk.injEq, and_true, true_and] at g1
    obtain ⟨rfl, hl, _⟩ := g1
    obtain rfl := rowU_inj (h2.symm.trans g2)
    have hl' : l = l' := by omega
    rw [h7, g7, hl']
theorem byt_mem {zs : List Int} (h : Byt zs) : ∀ z ∈ zs, 0 ≤ z ∧ z < 256 := by
  intro z hz
  obtain ⟨i, hi⟩ := List.mem_iff_getElem?.1 hz
  have := h i
  rw [List.getD_eq_getElem?_getD, hi] at this
  exact this
theorem u8_inj {a b : Int} (ha : 0 ≤ a ∧ a < 256) (hb : 0 ≤ b ∧ b < 256) (h : UInt8.ofNat a.toNat = UInt8.ofNat b.toNat) : a = b := by
  have h2 := congrArg UInt8.toNat h
  rw [UInt8.toNat_ofNat', UInt8.toNat_ofNat'] at h2
  omega
theorem txt_inj : ∀ {a b : List Int}, (∀ z ∈ a, 0 ≤ z ∧ z < 256) → (∀ z ∈ b, 0 ≤ z ∧ z < 256) → txt a = txt b → a = b := by
  intro a b ha hb h
  have h1 : (a.map fun n => UInt8.ofNat n.toNat) = b.map fun n => UInt8.ofNat n.toNat := by
    have := congrArg (fun x : ByteArray => x.data.toList) h
    simpa [txt] using this
  clear h
  induction a generalizing b with
  | nil => cases b with | nil => rfl | cons => simp at h1
  | cons x a ih =>
    cases b with
    | nil => simp at h1
    | cons y b =>
      simp only [List.map_cons, List.cons.injEq] at h1
      obtain rfl := u8_inj (ha x (List.mem_cons_self ..)) (hb y (List.mem_cons_self ..)) h1.1
      rw [ih (fun z hz => ha z (List.mem_cons_of_mem _ hz)) (fun z hz => hb z (List.mem_cons_of_mem _ hz)) h1.2]
theorem uniq8 : ∀ args H r r', C8 args H r → C8 args H r' → r = r' := by
  rintro args H r r' ⟨zs, h1, h2, h3, h4⟩ ⟨zs', g1, g2, g3, g4⟩
  rw [h1] at g1
  simp only [List.cons.injEq, Value.string.injEq, and_true] at g1
  obtain rfl := txt_inj (byt_mem h3) (byt_mem g3) g1
  rw [h4, g4]
theorem fixB (zs : List Int) (e : Nat) : Fix (oB zs e) := Dg.Fix.mk' (md := 2)
theorem fixU (zs : List Int) : Fix (rowU zs) := Dg.Fix.mk' (md := 1)
theorem okT : Dg.BodiesOk Tryz.prog (bodied Tryz.prog) := Dg.bodied_ok _
theorem s6 {args : List Value} {H : Heap} {v : Value} {H' : Heap} {log : List Nat} (h : C6 args H (v, H', log)) : SCall Tryz.prog 18 args H v H' log := by
  rcases h with ⟨rfl, h2⟩ | ⟨k, lz, cz, zs, e, rfl, h2, h3, h4, h5, h6, h7⟩ | ⟨k, l, zs, rfl, h2, h3, h4, h5, h6, h7⟩
  · cases h2
    have hc : SCall Tryz.prog 18 [.slice none 0 0] ⟨0, []⟩ (.string ⟨#[]⟩) ⟨0, []⟩ [] := SCall.of_ev mixed okT Dg.noOver_ok hexn
    exact hc.keeps [] (by simp) rfl rfl (fun i k hik => by simp at hik) rfl (by simp [Dg.idsOfL, Dg.idsOf]) (fun _ => rfl)
  · cases h7
    have hc : SCall Tryz.prog 18 [aB lz cz] ⟨1, [oB zs e]⟩ (.string (txt (hexL zs lz))) ⟨1, [oB zs e]⟩ [] := by
      cases lz with
      | zero => exact SCall.of_ev mixed okT Dg.noOver_ok (hex0 cz zs e)
      | succ i => exact SCall.of_ev mixed okT Dg.noOver_ok (hexp (i + 1) cz zs e h3 h4 h5 h6 i rfl)
    refine hc.keeps [k] (by simp) rfl rfl ?_ (by simp [Dg.renL, Dg.renV, Dg.renK, aB]) (by simp [Dg.idsOfL, Dg.idsOf]) (fun _ => rfl)
    intro i j hij
    cases i with
    | zero =>
      simp only [List.getElem?_cons_zero, Option.some.injEq] at hij
      subst hij
      exact ⟨h2, fixB zs e⟩
    | succ i => simp at hij
  · cases h7
    have hc : SCall Tryz.prog 18 [aU l] ⟨1, [rowU zs]⟩ (.string (txt (hexL zs l))) ⟨1, [rowU zs]⟩ [] := by
      cases l with
      | zero => omega
      | succ i => exact SCall.of_ev mixed okT Dg.noOver_ok (hexu (i + 1) zs h3 h4 h6 i rfl)
    refine hc.keeps [k] (by simp) rfl rfl ?_ (by simp [Dg.renL, Dg.renV, Dg.renK, aU]) (by simp [Dg.idsOfL, Dg.idsOf]) (fun _ => rfl)
    intro i j hij
    cases i with
    | zero =>
      simp only [List.getElem?_cons_zero, Option.some.injEq] at hij
      subst hij
      exact ⟨h2, fixU zs⟩
    | succ i => simp at hij
theorem s8 {args : List Value} {H : Heap} {v : Value} {H' : Heap} {log : List Nat} (h : C8 args H (v, H', log)) : SCall Tryz.prog 17 args H v H' log := by
  obtain ⟨zs, rfl, hb, hz, h4⟩ := h
  have hc : ∀ v' h' l', unV ⟨0, []⟩ zs = (v', h', l') → SCall Tryz.prog 17 [.string (txt zs)] ⟨0, []⟩ v' h' l' := by
    intro v' h' l' hu
    exact SCall.of_ev mixed okT Dg.noOver_ok ((un_is hb hz).trans (congrArg some hu))
  unfold unV at h4 hc
  by_cases hg : Good zs
  · rw [if_pos hg] at h4 hc
    by_cases he : zs = []
    · rw [if_pos he] at h4 hc
      cases h4
      exact (hc _ _ _ rfl).keeps [] (by simp) rfl rfl (fun i k hik => by simp at hik) rfl (by simp [Dg.idsOfL, Dg.idsOf]) (fun _ => rfl)
    · rw [if_neg he] at h4 hc
      cases h4
      exact (hc _ _ _ rfl).pushes (fixU _) rfl [] (by simp) rfl rfl (fun i k hik => by simp at hik) rfl (by simp [Dg.idsOfL, Dg.idsOf]) (by simp [Dg.renV, Dg.renA, Dg.renL, Dg.back])
  · rw [if_neg hg] at h4 hc
    cases h4
    exact (hc _ _ _ rfl).keeps [] (by simp) rfl rfl (fun i k hik => by simp at hik) rfl (by simp [Dg.idsOfL, Dg.idsOf]) (fun _ => rfl)
end Go.Proofs.YtflgpkkbifkpoaaGreatDoor.text

namespace Go.Proofs.YtflgpkkbifkpoaaGreatDoor.text
set_option linter.unusedVariables false

theorem dv_hexd {k : Int} (h : 0 ≤ k ∧ k < 16) : dv (hexd k) = k := by
  unfold dv hexd
  split <;> (split <;> omega)
theorem hexd_dv {z : Int} (h : isHex z) : hexd (dv z) = z := by
  unfold isHex at h
  unfold dv hexd
  split <;> (split <;> omega)
theorem hexd_hex {k : Int} (h : 0 ≤ k ∧ k < 16) : isHex (hexd k) := by
  unfold isHex hexd
  split <;> omega
theorem getD_app {a b : List Int} {j : Nat} (h : j < a.length) : (a ++ b).getD j 0 = a.getD j 0 := by
  simp [List.getD_eq_getElem?_getD, List.getElem?_append, h]
theorem hexL_get (zs : List Int) : ∀ i j, j < i → (hexL zs i).getD (2 * j) 0 = hexd (zs.getD j 0 / 16) ∧ (hexL zs i).getD (2 * j + 1) 0 = hexd (zs.getD j 0 % 16) := by
  intro i
  induction i with
  | zero => intro j hj; omega
  | succ i ih =>
    intro j hj
    have hl := hexL_len zs i
    unfold hexL
    rcases Nat.lt_or_ge j i with h | h
    · rw [List.append_assoc, getD_app (by omega), getD_app (by omega)]
      exact ih j h
    · obtain rfl : j = i := by omega
      constructor
      · rw [List.append_assoc, List.getD_eq_getElem?_getD, List.getElem?_append_right (by omega), show 2 * j - (hexL zs j).length = 0 by omega]
        rfl
      · rw [List.append_assoc, List.getD_eq_getElem?_getD, List.getElem?_append_right (by omega), show 2 * j + 1 - (hexL zs j).length = 1 by omega]
        rfl
theorem take_succ' (zs : List Int) {j : Nat} (h : j < zs.length) : zs.take (j + 1) = zs.take j ++ [zs.getD j 0] := by
  rw [List.take_succ_eq_append_getElem h]
  simp [List.getD_eq_getElem?_getD, h]
theorem out_hex {zs : List Int} (hz : Byt zs) {l : Nat} (hl : l ≤ zs.length) : ∀ j, j ≤ l → outL (hexL zs l) j = zs.take j := by
  intro j
  induction j with
  | zero => intro _; rfl
  | succ j ih =>
    intro h
    have h1 := hexL_get zs l j (by omega)
    have hb := hz j
    rw [outL, ih (by omega), h1.1, h1.2, dv_hexd (by omega), dv_hexd (by omega), take_succ' zs (by omega)]
    congr 2
    omega
theorem outL_get (zs : List Int) : ∀ i j, j < i → (outL zs i).getD j 0 = 16 * dv (zs.getD (2 * j) 0) + dv (zs.getD (2 * j + 1) 0) := by
  intro i
  induction i with
  | zero => intro j hj; omega
  | succ i ih =>
    intro j hj
    have hl := outL_len zs i
    unfold outL
    rcases Nat.lt_or_ge j i with h | h
    · rw [getD_app (by omega)]
      exact ih j h
    · obtain rfl : j = i := by omega
      rw [List.getD_eq_getElem?_getD, List.getElem?_append_right (by omega), show j - (outL zs j).length = 0 by omega]
      rfl
theorem hex_out {zs : List Int} (hg : Good zs) {l : Nat} (hl : zs.length = 2 * l) : ∀ j, j ≤ l → hexL (outL zs l) j = zs.take (2 * j) := by
  intro j
  induction j with
  | zero => intro _; rfl
  | succ j ih =>
    intro h
    have h1 := outL_get zs l j (by omega)
    have a := dv_rng (hg.2 (2 * j) (by omega))
    have b := dv_rng (hg.2 (2 * j + 1) (by omega))
    rw [hexL, ih (by omega), h1, show (16 * dv (zs.getD (2 * j) 0) + dv (zs.getD (2 * j + 1) 0)) / 16 = dv (zs.getD (2 * j) 0) by omega, show (16 * dv (zs.getD (2 * j) 0) + dv (zs.getD (2 * j + 1) 0)) % 16 = dv (zs.getD (2 * j + 1) 0) by omega,
      hexd_dv (hg.2 _ (by omega)), hexd_dv (hg.2 _ (by omega)), show 2 * (j + 1) = 2 * j + 1 + 1 by omega, take_succ' zs (by omega), take_succ' zs (by omega)]
/-- What is told of bytes, and read again. -/
theorem out_hex_all {zs : List Int} (hz : Byt zs) {l : Nat} (hl : l ≤ zs.length) : outL (hexL zs l) l = zs.take l := out_hex hz hl l (Nat.le_refl _)
/-- What is read of a text, and told again. -/
theorem hex_out_all {zs : List Int} (hg : Good zs) {l : Nat} (hl : zs.length = 2 * l) : hexL (outL zs l) l = zs := by
  rw [hex_out hg hl l (Nat.le_refl _), List.take_of_length_le (by omega)]
theorem hexL_good {zs : List Int} (hz : Byt zs) (i : Nat) : Good (hexL zs i) := by
  have hl := hexL_len zs i
  refine ⟨by omega, fun j hj => ?_⟩
  have hb := hz (j / 2)
  have h1 := hexL_get zs i (j / 2) (by omega)
  rcases Nat.mod_two_eq_zero_or_one j with h | h
  · rw [show j = 2 * (j / 2) by omega, h1.1]; exact hexd_hex (by omega)
  · rw [show j = 2 * (j / 2) + 1 by omega, h1.2]; exact hexd_hex (by omega)
theorem isHex_byt {z : Int} (h : isHex z) : 0 ≤ z ∧ z < 256 := by unfold isHex at h; omega
theorem good_byt {zs : List Int} (h : Good zs) : Byt zs := fun j => by
  rcases Nat.lt_or_ge j zs.length with hj | hj
  · exact isHex_byt (h.2 j hj)
  · rw [List.getD_eq_getElem?_getD, List.getElem?_eq_none hj]; simp
theorem out_byt {zs : List Int} (hg : Good zs) {l : Nat} (hl : zs.length = 2 * l) : Byt (outL zs l) := fun j => by
  rcases Nat.lt_or_ge j l with hj | hj
  · have a := dv_rng (hg.2 (2 * j) (by omega))
    have b := dv_rng (hg.2 (2 * j + 1) (by omega))
    rw [outL_get zs l j hj]
    omega
  · rw [List.getD_eq_getElem?_getD, List.getElem?_eq_none (by rw [outL_len]; omega)]; simp
end Go.Proofs.YtflgpkkbifkpoaaGreatDoor.text
