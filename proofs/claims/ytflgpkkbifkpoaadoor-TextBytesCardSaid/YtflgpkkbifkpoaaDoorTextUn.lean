/- The rounds of 'text.Unhex' of layer 4, over any text. -/
import Derived.Test.YtflgpkkbifkpoaaDoorRows
import Derived.Test.YtflgpkkbifkpoaaDoorTextDec
namespace Go.Proofs.YtflgpkkbifkpoaaDoor.text
open Go.Dg (junk St Ex Ev Hint evCall evCallS evCode evCodeK innerKp evCodeS evLoop cleanSt ue bodied noOver sbOf headOf tailOf bodyOf rAssign rBody lBody Flats flatOver Heap AObj SCall Law ofLaw Fix)
set_option linter.unusedVariables false
set_option linter.unusedSimpArgs false

theorem or_all : ((List.range 256).all fun n => (IntKind.wrap .u8 (IntKind.wrap .i64 ((BitVec.toNat (BitVec.ofInt 64 (((n / 16 : Nat) : Int) * (2 : Int) ^ (4 : Nat)) ||| BitVec.ofInt 64 ((n % 16 : Nat) : Int)) : Nat) : Int))) == (n : Int)) = true := by decide +kernel
theorem or_byte {h d : Int} (hh : 0 ≤ h ∧ h < 16) (hd : 0 ≤ d ∧ d < 16) : Value.int .u8 (IntKind.wrap .u8 (IntKind.wrap .i64 ((BitVec.toNat (BitVec.ofInt 64 (h * (2 : Int) ^ (4 : Nat)) ||| BitVec.ofInt 64 d) : Nat) : Int))) = .int .u8 (16 * h + d) := by
  obtain ⟨a, rfl⟩ : ∃ a : Nat, h = (a : Int) := ⟨h.toNat, by omega⟩
  obtain ⟨b, rfl⟩ : ∃ b : Nat, d = (b : Int) := ⟨d.toNat, by omega⟩
  have := List.all_eq_true.1 or_all (16 * a + b) (List.mem_range.2 (by omega))
  rw [show (16 * a + b) / 16 = a by omega, show (16 * a + b) % 16 = b by omega] at this
  rw [eq_of_beq this]
  congr 1
noncomputable def lU : Code := lBody ((Tryd.f8.body).getD .skip)
noncomputable abbrev runU : St → Option (Ex × St) := evCode Tryd.prog 0 (bodied Tryd.prog) (evCall Tryd.prog 0 (bodied Tryd.prog) noOver sbs 4000 19) 0 10 4000 lU
noncomputable abbrev clU : St → St := cleanSt 0 10 (ue lU [] []).1
def TU (zs : List Int) (out : Value) (h : Int) (r : List Value) (k : Nat) : List Value := [.string (txt zs), undef, .slice none 0 0, .bool false, out, .int .i64 h] ++ (r ++ ([junk, .pointer (some ⟨k, 0, none⟩)] ++ js 28))
def rU (i : Nat) (z d : Int) : List Value := [.int .i64 i, .int .i32 z, .int .i64 d, .bool true]
def Ua (zs : List Int) : St := ⟨TU zs (.slice none 0 0) 0 [undef, undef, undef, undef] 0, ⟨1, [.iter (txt zs) 0]⟩, []⟩
def Ub (zs : List Int) (h z : Int) : St := ⟨TU zs (.slice none 0 0) h (rU 0 z h) 0, ⟨1, [.iter (txt zs) 1]⟩, []⟩
def Uc (zs : List Int) (i : Nat) (h z d : Int) (os : List Int) : St := ⟨TU zs (.slice (some ⟨0, 0, some 0⟩) os.length os.length) h (rU i z d) 1, ⟨2, [.iter (txt zs) (i + 1), rowU os]⟩, []⟩
--< uad
theorem uad (zs : List Int) (hi : 0 < List.length zs) (h0 : 48 ≤ List.getD zs 0 0 ∧ List.getD zs 0 0 ≤ 57) :
    ∃ s', runU (Ua zs) = some (Ex.normal, s') ∧ clU s' = Ub zs (List.getD zs 0 0 - 48) (List.getD zs 0 0) :=
  Dg.code_round (f := 8) clU (hs := [Hint.softH 8 12 (Value.tuple #[Value.bool true, Value.int IntKind.i64 0, Value.int IntKind.i32 (List.getD zs 0 0)]) { n := 1, objs := [AObj.iter (txt zs) 1] } [0],
    Hint.val 23 6 (Value.int IntKind.i32 (List.getD zs 0 0 - 48)),
    Hint.val 23 7 (Value.int IntKind.i64 (List.getD zs 0 0 - 48)),
    Hint.val 23 10 (Value.bool false),
    Hint.val 23 17 (Value.bool true),
    Hint.val 23 20 (Value.bool true)])
    [Dg.nextAt { n := (1 : Nat), objs := [AObj.iter (txt zs) (0 : Nat)] } (0 : Nat) = some (Value.tuple #[Value.bool true, Value.int IntKind.i64 (0 : Int), Value.int IntKind.i32 (List.getD zs (0 : Nat) (0 : Int))], { n := (1 : Nat), objs := [AObj.iter (txt zs) (1 : Nat)] }, [(0 : Nat)]),
    Value.int IntKind.i32 (IntKind.wrap IntKind.i32 (List.getD zs (0 : Nat) (0 : Int) - (48 : Int))) = Value.int IntKind.i32 (List.getD zs (0 : Nat) (0 : Int) - (48 : Int)),
    Value.int IntKind.i64 (IntKind.wrap IntKind.i64 (List.getD zs (0 : Nat) (0 : Int) - (48 : Int))) = Value.int IntKind.i64 (List.getD zs (0 : Nat) (0 : Int) - (48 : Int)),
    Value.bool (decide (List.getD zs (0 : Nat) (0 : Int) ≥ (97 : Int))) = Value.bool false,
    Value.bool (decide (List.getD zs (0 : Nat) (0 : Int) ≥ (48 : Int))) = Value.bool true,
    Value.bool (decide (List.getD zs (0 : Nat) (0 : Int) ≤ (57 : Int))) = Value.bool true] (by kernel_rfl)
    ⟨next_lo (pos := 0) rfl (by omega) (by omega), by simp only [Dg.w_u8, Dg.w_u16, Dg.w_u32, Dg.w_i8, Dg.w_i32, Value.int.injEq, true_and]; omega, Dg.i64_eq rfl (by omega) (by omega), Dg.vfalse (by omega), Dg.vtrue (by omega), Dg.vtrue (by omega), trivial⟩
--> uad
--< ubd
theorem ubd (zs : List Int) (h : Int) (z0 : Int) (hi : 1 < List.length zs) (hh : 0 ≤ h ∧ h < 16) (h0 : 48 ≤ List.getD zs 1 0 ∧ List.getD zs 1 0 ≤ 57) :
    ∃ s', runU (Ub zs h z0) = some (Ex.normal, s') ∧ clU s' = Uc zs 1 h (List.getD zs 1 0) (List.getD zs 1 0 - 48) [16 * h + (List.getD zs 1 0 - 48)] :=
  Dg.code_round (f := 8) clU (hs := [Hint.softH 8 12 (Value.tuple #[Value.bool true, Value.int IntKind.i64 1, Value.int IntKind.i32 (List.getD zs 1 0)]) { n := 1, objs := [AObj.iter (txt zs) 2] } [0],
    Hint.val 23 6 (Value.int IntKind.i32 (List.getD zs 1 0 - 48)),
    Hint.val 23 7 (Value.int IntKind.i64 (List.getD zs 1 0 - 48)),
    Hint.val 23 10 (Value.bool false),
    Hint.val 23 17 (Value.bool true),
    Hint.val 23 20 (Value.bool true),
    Hint.val 8 29 (Value.int IntKind.i64 (h * 2 ^ 4)),
    Hint.val 8 32 (Value.int IntKind.u8 (16 * h + (List.getD zs 1 0 - 48)))])
    [Dg.nextAt { n := (1 : Nat), objs := [AObj.iter (txt zs) (1 : Nat)] } (0 : Nat) = some (Value.tuple #[Value.bool true, Value.int IntKind.i64 (1 : Int), Value.int IntKind.i32 (List.getD zs (1 : Nat) (0 : Int))], { n := (1 : Nat), objs := [AObj.iter (txt zs) (2 : Nat)] }, [(0 : Nat)]),
    Value.int IntKind.i32 (IntKind.wrap IntKind.i32 (List.getD zs (1 : Nat) (0 : Int) - (48 : Int))) = Value.int IntKind.i32 (List.getD zs (1 : Nat) (0 : Int) - (48 : Int)),
    Value.int IntKind.i64 (IntKind.wrap IntKind.i64 (List.getD zs (1 : Nat) (0 : Int) - (48 : Int))) = Value.int IntKind.i64 (List.getD zs (1 : Nat) (0 : Int) - (48 : Int)),
    Value.bool (decide (List.getD zs (1 : Nat) (0 : Int) ≥ (97 : Int))) = Value.bool false,
    Value.bool (decide (List.getD zs (1 : Nat) (0 : Int) ≥ (48 : Int))) = Value.bool true,
    Value.bool (decide (List.getD zs (1 : Nat) (0 : Int) ≤ (57 : Int))) = Value.bool true,
    Value.int IntKind.i64 (IntKind.wrap IntKind.i64 (h * (2 : Int) ^ (4 : Nat))) = Value.int IntKind.i64 (h * (2 : Int) ^ (4 : Nat)),
    Value.int IntKind.u8 (IntKind.wrap IntKind.u8 (IntKind.wrap IntKind.i64 (↑(BitVec.toNat (BitVec.ofInt (64 : Nat) (h * (2 : Int) ^ (4 : Nat)) ||| BitVec.ofInt (64 : Nat) (List.getD zs (1 : Nat) (0 : Int) - (48 : Int)))) : Int))) = Value.int IntKind.u8 ((16 : Int) * h + (List.getD zs (1 : Nat) (0 : Int) - (48 : Int)))] (by kernel_rfl)
    ⟨next_lo (pos := 1) rfl (by omega) (by omega), by simp only [Dg.w_u8, Dg.w_u16, Dg.w_u32, Dg.w_i8, Dg.w_i32, Value.int.injEq, true_and]; omega, Dg.i64_eq rfl (by omega) (by omega), Dg.vfalse (by omega), Dg.vtrue (by omega), Dg.vtrue (by omega), Dg.i64_eq rfl (by omega) (by omega), or_byte hh (by omega), trivial⟩
--> ubd
--< ucd
theorem ucd (zs : List Int) (i : Nat) (h : Int) (z0 : Int) (d0 : Int) (os : List Int) (hi : i + 1 < List.length zs) (hp : (i + 1) % 2 = 0) (hl : List.length zs ≤ 2000) (h0 : 48 ≤ List.getD zs (i + 1) 0 ∧ List.getD zs (i + 1) 0 ≤ 57) :
    ∃ s', runU (Uc zs i h z0 d0 os) = some (Ex.normal, s') ∧ clU s' = Uc zs (i + 1) (List.getD zs (i + 1) 0 - 48) (List.getD zs (i + 1) 0) (List.getD zs (i + 1) 0 - 48) os :=
  Dg.code_round (f := 8) clU (hs := [Hint.softH 8 12 (Value.tuple #[Value.bool true, Value.int IntKind.i64 (↑(i + 1) : Int), Value.int IntKind.i32 (List.getD zs (i + 1) 0)]) { n := 2, objs := [AObj.iter (txt zs) (i + 1 + 1), AObj.cells (u8s os) 5 5 1] } [1],
    Hint.val 23 6 (Value.int IntKind.i32 (List.getD zs (i + 1) 0 - 48)),
    Hint.val 23 7 (Value.int IntKind.i64 (List.getD zs (i + 1) 0 - 48)),
    Hint.val 23 10 (Value.bool false),
    Hint.val 23 17 (Value.bool true),
    Hint.val 23 20 (Value.bool true),
    Hint.val 8 25 (Value.bool true)])
    [Dg.nextAt { n := (2 : Nat), objs := [AObj.iter (txt zs) (i + (1 : Nat)), AObj.cells (u8s os) (5 : Nat) (5 : Nat) (1 : Nat)] } (1 : Nat) = some (Value.tuple #[Value.bool true, Value.int IntKind.i64 (↑(i + (1 : Nat)) : Int), Value.int IntKind.i32 (List.getD zs (i + (1 : Nat)) (0 : Int))], { n := (2 : Nat), objs := [AObj.iter (txt zs) (i + (1 : Nat) + (1 : Nat)), AObj.cells (u8s os) (5 : Nat) (5 : Nat) (1 : Nat)] }, [(1 : Nat)]),
    Value.int IntKind.i32 (IntKind.wrap IntKind.i32 (List.getD zs (i + (1 : Nat)) (0 : Int) - (48 : Int))) = Value.int IntKind.i32 (List.getD zs (i + (1 : Nat)) (0 : Int) - (48 : Int)),
    Value.int IntKind.i64 (IntKind.wrap IntKind.i64 (List.getD zs (i + (1 : Nat)) (0 : Int) - (48 : Int))) = Value.int IntKind.i64 (List.getD zs (i + (1 : Nat)) (0 : Int) - (48 : Int)),
    Value.bool (decide (List.getD zs (i + (1 : Nat)) (0 : Int) ≥ (97 : Int))) = Value.bool false,
    Value.bool (decide (List.getD zs (i + (1 : Nat)) (0 : Int) ≥ (48 : Int))) = Value.bool true,
    Value.bool (decide (List.getD zs (i + (1 : Nat)) (0 : Int) ≤ (57 : Int))) = Value.bool true,
    Value.bool (Int.tmod (↑(i + (1 : Nat)) : Int) (2 : Int) == (0 : Int)) = Value.bool true] (by kernel_rfl)
    ⟨next_lo (pos := i + 1) rfl (by omega) (by omega), by simp only [Dg.w_u8, Dg.w_u16, Dg.w_u32, Dg.w_i8, Dg.w_i32, Value.int.injEq, true_and]; omega, Dg.i64_eq rfl (by omega) (by omega), Dg.vfalse (by omega), Dg.vtrue (by omega), Dg.vtrue (by omega), Dg.vtrue (by rw [Int.tmod_eq_emod_of_nonneg (by omega)]; omega), trivial⟩
--> ucd
--< udd
theorem udd (zs : List Int) (i : Nat) (h : Int) (z0 : Int) (d0 : Int) (os : List Int) (ho : List.length os ≤ 2000) (hi : i + 1 < List.length zs) (hp : (i + 1) % 2 = 1) (hl : List.length zs ≤ 2000) (hh : 0 ≤ h ∧ h < 16) (h0 : 48 ≤ List.getD zs (i + 1) 0 ∧ List.getD zs (i + 1) 0 ≤ 57) :
    ∃ s', runU (Uc zs i h z0 d0 os) = some (Ex.normal, s') ∧ clU s' = Uc zs (i + 1) h (List.getD zs (i + 1) 0) (List.getD zs (i + 1) 0 - 48) (os ++ [16 * h + (List.getD zs (i + 1) 0 - 48)]) :=
  Dg.code_round (f := 8) clU (hs := [Hint.softH 8 12 (Value.tuple #[Value.bool true, Value.int IntKind.i64 (↑(i + 1) : Int), Value.int IntKind.i32 (List.getD zs (i + 1) 0)]) { n := 2, objs := [AObj.iter (txt zs) (i + 1 + 1), AObj.cells (u8s os) 5 5 1] } [1],
    Hint.val 23 6 (Value.int IntKind.i32 (List.getD zs (i + 1) 0 - 48)),
    Hint.val 23 7 (Value.int IntKind.i64 (List.getD zs (i + 1) 0 - 48)),
    Hint.val 23 10 (Value.bool false),
    Hint.val 23 17 (Value.bool true),
    Hint.val 23 20 (Value.bool true),
    Hint.val 8 25 (Value.bool false),
    Hint.val 8 29 (Value.int IntKind.i64 (h * 2 ^ 4)),
    Hint.val 8 32 (Value.int IntKind.u8 (16 * h + (List.getD zs (i + 1) 0 - 48))),
    Hint.softH 8 34 (Value.slice (some { block := 3, off := 0, spot := some 0 }) (List.length (os ++ [16 * h + (List.getD zs (i + 1) 0 - 48)])) (List.length (os ++ [16 * h + (List.getD zs (i + 1) 0 - 48)]))) { n := 4, objs := [AObj.cells (u8s (os ++ [16 * h + (List.getD zs (i + 1) 0 - 48)])) 5 5 1, AObj.cells [Value.int IntKind.u8 (16 * h + (List.getD zs (i + 1) 0 - 48))] 5 0 1, AObj.iter (txt zs) (i + 1 + 1), AObj.dead] } [0]])
    [Dg.nextAt { n := (2 : Nat), objs := [AObj.iter (txt zs) (i + (1 : Nat)), AObj.cells (u8s os) (5 : Nat) (5 : Nat) (1 : Nat)] } (1 : Nat) = some (Value.tuple #[Value.bool true, Value.int IntKind.i64 (↑(i + (1 : Nat)) : Int), Value.int IntKind.i32 (List.getD zs (i + (1 : Nat)) (0 : Int))], { n := (2 : Nat), objs := [AObj.iter (txt zs) (i + (1 : Nat) + (1 : Nat)), AObj.cells (u8s os) (5 : Nat) (5 : Nat) (1 : Nat)] }, [(1 : Nat)]),
    Value.int IntKind.i32 (IntKind.wrap IntKind.i32 (List.getD zs (i + (1 : Nat)) (0 : Int) - (48 : Int))) = Value.int IntKind.i32 (List.getD zs (i + (1 : Nat)) (0 : Int) - (48 : Int)),
    Value.int IntKind.i64 (IntKind.wrap IntKind.i64 (List.getD zs (i + (1 : Nat)) (0 : Int) - (48 : Int))) = Value.int IntKind.i64 (List.getD zs (i + (1 : Nat)) (0 : Int) - (48 : Int)),
    Value.bool (decide (List.getD zs (i + (1 : Nat)) (0 : Int) ≥ (97 : Int))) = Value.bool false,
    Value.bool (decide (List.getD zs (i + (1 : Nat)) (0 : Int) ≥ (48 : Int))) = Value.bool true,
    Value.bool (decide (List.getD zs (i + (1 : Nat)) (0 : Int) ≤ (57 : Int))) = Value.bool true,
    Value.bool (Int.tmod (↑(i + (1 : Nat)) : Int) (2 : Int) == (0 : Int)) = Value.bool false,
    Value.int IntKind.i64 (IntKind.wrap IntKind.i64 (h * (2 : Int) ^ (4 : Nat))) = Value.int IntKind.i64 (h * (2 : Int) ^ (4 : Nat)),
    Value.int IntKind.u8 (IntKind.wrap IntKind.u8 (IntKind.wrap IntKind.i64 (↑(BitVec.toNat (BitVec.ofInt (64 : Nat) (h * (2 : Int) ^ (4 : Nat)) ||| BitVec.ofInt (64 : Nat) (List.getD zs (i + (1 : Nat)) (0 : Int) - (48 : Int)))) : Int))) = Value.int IntKind.u8 ((16 : Int) * h + (List.getD zs (i + (1 : Nat)) (0 : Int) - (48 : Int))),
    Dg.evAppend Tryd.prog { n := (3 : Nat), objs := [AObj.cells [Value.int IntKind.u8 ((16 : Int) * h + (List.getD zs (i + (1 : Nat)) (0 : Int) - (48 : Int)))] (5 : Nat) (0 : Nat) (1 : Nat), AObj.iter (txt zs) (i + (1 : Nat) + (1 : Nat)), AObj.cells (u8s os) (5 : Nat) (5 : Nat) (1 : Nat)] } (22 : Nat) (22 : Nat) (Value.slice (some { block := (0 : Nat), off := (0 : Nat), spot := some (0 : Nat) }) (List.length os) (List.length os)) (Value.slice (some { block := (2 : Nat), off := (0 : Nat) }) (1 : Nat) (1 : Nat)) = some (Value.slice (some { block := (3 : Nat), off := (0 : Nat), spot := some (0 : Nat) }) (List.length (os ++ [(16 : Int) * h + (List.getD zs (i + (1 : Nat)) (0 : Int) - (48 : Int))])) (List.length (os ++ [(16 : Int) * h + (List.getD zs (i + (1 : Nat)) (0 : Int) - (48 : Int))])), { n := (4 : Nat), objs := [AObj.cells (u8s (os ++ [(16 : Int) * h + (List.getD zs (i + (1 : Nat)) (0 : Int) - (48 : Int))])) (5 : Nat) (5 : Nat) (1 : Nat), AObj.cells [Value.int IntKind.u8 ((16 : Int) * h + (List.getD zs (i + (1 : Nat)) (0 : Int) - (48 : Int)))] (5 : Nat) (0 : Nat) (1 : Nat), AObj.iter (txt zs) (i + (1 : Nat) + (1 : Nat)), AObj.dead] }, [(0 : Nat)])] (by kernel_rfl)
    ⟨next_lo (pos := i + 1) rfl (by omega) (by omega), by simp only [Dg.w_u8, Dg.w_u16, Dg.w_u32, Dg.w_i8, Dg.w_i32, Value.int.injEq, true_and]; omega, Dg.i64_eq rfl (by omega) (by omega), Dg.vfalse (by omega), Dg.vtrue (by omega), Dg.vtrue (by omega), Dg.vfalse (by rw [Int.tmod_eq_emod_of_nonneg (by omega)]; omega), Dg.i64_eq rfl (by omega) (by omega), or_byte hh (by omega), appU (os := os) (x := 16 * h + ((zs.getD (i + 1) 0) - 48)) rfl rfl rfl (by omega) (by simp) rfl rfl, trivial⟩
--> udd
--< uaa
theorem uaa (zs : List Int) (hi : 0 < List.length zs) (h0 : 97 ≤ List.getD zs 0 0 ∧ List.getD zs 0 0 ≤ 102) :
    ∃ s', runU (Ua zs) = some (Ex.normal, s') ∧ clU s' = Ub zs (List.getD zs 0 0 - 97 + 10) (List.getD zs 0 0) :=
  Dg.code_round (f := 8) clU (hs := [Hint.softH 8 12 (Value.tuple #[Value.bool true, Value.int IntKind.i64 0, Value.int IntKind.i32 (List.getD zs 0 0)]) { n := 1, objs := [AObj.iter (txt zs) 1] } [0],
    Hint.val 23 6 (Value.int IntKind.i32 (List.getD zs 0 0 - 48)),
    Hint.val 23 7 (Value.int IntKind.i64 (List.getD zs 0 0 - 48)),
    Hint.val 23 10 (Value.bool true),
    Hint.val 23 13 (Value.bool true),
    Hint.val 23 23 (Value.int IntKind.i32 (List.getD zs 0 0 - 97)),
    Hint.val 23 24 (Value.int IntKind.i64 (List.getD zs 0 0 - 97)),
    Hint.val 23 25 (Value.int IntKind.i64 (List.getD zs 0 0 - 97 + 10))])
    [Dg.nextAt { n := (1 : Nat), objs := [AObj.iter (txt zs) (0 : Nat)] } (0 : Nat) = some (Value.tuple #[Value.bool true, Value.int IntKind.i64 (0 : Int), Value.int IntKind.i32 (List.getD zs (0 : Nat) (0 : Int))], { n := (1 : Nat), objs := [AObj.iter (txt zs) (1 : Nat)] }, [(0 : Nat)]),
    Value.int IntKind.i32 (IntKind.wrap IntKind.i32 (List.getD zs (0 : Nat) (0 : Int) - (48 : Int))) = Value.int IntKind.i32 (List.getD zs (0 : Nat) (0 : Int) - (48 : Int)),
    Value.int IntKind.i64 (IntKind.wrap IntKind.i64 (List.getD zs (0 : Nat) (0 : Int) - (48 : Int))) = Value.int IntKind.i64 (List.getD zs (0 : Nat) (0 : Int) - (48 : Int)),
    Value.bool (decide (List.getD zs (0 : Nat) (0 : Int) ≥ (97 : Int))) = Value.bool true,
    Value.bool (decide (List.getD zs (0 : Nat) (0 : Int) ≤ (102 : Int))) = Value.bool true,
    Value.int IntKind.i32 (IntKind.wrap IntKind.i32 (List.getD zs (0 : Nat) (0 : Int) - (97 : Int))) = Value.int IntKind.i32 (List.getD zs (0 : Nat) (0 : Int) - (97 : Int)),
    Value.int IntKind.i64 (IntKind.wrap IntKind.i64 (List.getD zs (0 : Nat) (0 : Int) - (97 : Int))) = Value.int IntKind.i64 (List.getD zs (0 : Nat) (0 : Int) - (97 : Int)),
    Value.int IntKind.i64 (IntKind.wrap IntKind.i64 (List.getD zs (0 : Nat) (0 : Int) - (97 : Int) + (10 : Int))) = Value.int IntKind.i64 (List.getD zs (0 : Nat) (0 : Int) - (97 : Int) + (10 : Int))] (by kernel_rfl)
    ⟨next_lo (pos := 0) rfl (by omega) (by omega), by simp only [Dg.w_u8, Dg.w_u16, Dg.w_u32, Dg.w_i8, Dg.w_i32, Value.int.injEq, true_and]; omega, Dg.i64_eq rfl (by omega) (by omega), Dg.vtrue (by omega), Dg.vtrue (by omega), by simp only [Dg.w_u8, Dg.w_u16, Dg.w_u32, Dg.w_i8, Dg.w_i32, Value.int.injEq, true_and]; omega, Dg.i64_eq rfl (by omega) (by omega), Dg.i64_eq rfl (by omega) (by omega), trivial⟩
--> uaa
--< uba
theorem uba (zs : List Int) (h : Int) (z0 : Int) (hi : 1 < List.length zs) (hh : 0 ≤ h ∧ h < 16) (h0 : 97 ≤ List.getD zs 1 0 ∧ List.getD zs 1 0 ≤ 102) :
    ∃ s', runU (Ub zs h z0) = some (Ex.normal, s') ∧ clU s' = Uc zs 1 h (List.getD zs 1 0) (List.getD zs 1 0 - 97 + 10) [16 * h + (List.getD zs 1 0 - 97 + 10)] :=
  Dg.code_round (f := 8) clU (hs := [Hint.softH 8 12 (Value.tuple #[Value.bool true, Value.int IntKind.i64 1, Value.int IntKind.i32 (List.getD zs 1 0)]) { n := 1, objs := [AObj.iter (txt zs) 2] } [0],
    Hint.val 23 6 (Value.int IntKind.i32 (List.getD zs 1 0 - 48)),
    Hint.val 23 7 (Value.int IntKind.i64 (List.getD zs 1 0 - 48)),
    Hint.val 23 10 (Value.bool true),
    Hint.val 23 13 (Value.bool true),
    Hint.val 23 23 (Value.int IntKind.i32 (List.getD zs 1 0 - 97)),
    Hint.val 23 24 (Value.int IntKind.i64 (List.getD zs 1 0 - 97)),
    Hint.val 23 25 (Value.int IntKind.i64 (List.getD zs 1 0 - 97 + 10)),
    Hint.val 8 29 (Value.int IntKind.i64 (h * 2 ^ 4)),
    Hint.val 8 32 (Value.int IntKind.u8 (16 * h + (List.getD zs 1 0 - 97 + 10)))])
    [Dg.nextAt { n := (1 : Nat), objs := [AObj.iter (txt zs) (1 : Nat)] } (0 : Nat) = some (Value.tuple #[Value.bool true, Value.int IntKind.i64 (1 : Int), Value.int IntKind.i32 (List.getD zs (1 : Nat) (0 : Int))], { n := (1 : Nat), objs := [AObj.iter (txt zs) (2 : Nat)] }, [(0 : Nat)]),
    Value.int IntKind.i32 (IntKind.wrap IntKind.i32 (List.getD zs (1 : Nat) (0 : Int) - (48 : Int))) = Value.int IntKind.i32 (List.getD zs (1 : Nat) (0 : Int) - (48 : Int)),
    Value.int IntKind.i64 (IntKind.wrap IntKind.i64 (List.getD zs (1 : Nat) (0 : Int) - (48 : Int))) = Value.int IntKind.i64 (List.getD zs (1 : Nat) (0 : Int) - (48 : Int)),
    Value.bool (decide (List.getD zs (1 : Nat) (0 : Int) ≥ (97 : Int))) = Value.bool true,
    Value.bool (decide (List.getD zs (1 : Nat) (0 : Int) ≤ (102 : Int))) = Value.bool true,
    Value.int IntKind.i32 (IntKind.wrap IntKind.i32 (List.getD zs (1 : Nat) (0 : Int) - (97 : Int))) = Value.int IntKind.i32 (List.getD zs (1 : Nat) (0 : Int) - (97 : Int)),
    Value.int IntKind.i64 (IntKind.wrap IntKind.i64 (List.getD zs (1 : Nat) (0 : Int) - (97 : Int))) = Value.int IntKind.i64 (List.getD zs (1 : Nat) (0 : Int) - (97 : Int)),
    Value.int IntKind.i64 (IntKind.wrap IntKind.i64 (List.getD zs (1 : Nat) (0 : Int) - (97 : Int) + (10 : Int))) = Value.int IntKind.i64 (List.getD zs (1 : Nat) (0 : Int) - (97 : Int) + (10 : Int)),
    Value.int IntKind.i64 (IntKind.wrap IntKind.i64 (h * (2 : Int) ^ (4 : Nat))) = Value.int IntKind.i64 (h * (2 : Int) ^ (4 : Nat)),
    Value.int IntKind.u8 (IntKind.wrap IntKind.u8 (IntKind.wrap IntKind.i64 (↑(BitVec.toNat (BitVec.ofInt (64 : Nat) (h * (2 : Int) ^ (4 : Nat)) ||| BitVec.ofInt (64 : Nat) (List.getD zs (1 : Nat) (0 : Int) - (97 : Int) + (10 : Int)))) : Int))) = Value.int IntKind.u8 ((16 : Int) * h + (List.getD zs (1 : Nat) (0 : Int) - (97 : Int) + (10 : Int)))] (by kernel_rfl)
    ⟨next_lo (pos := 1) rfl (by omega) (by omega), by simp only [Dg.w_u8, Dg.w_u16, Dg.w_u32, Dg.w_i8, Dg.w_i32, Value.int.injEq, true_and]; omega, Dg.i64_eq rfl (by omega) (by omega), Dg.vtrue (by omega), Dg.vtrue (by omega), by simp only [Dg.w_u8, Dg.w_u16, Dg.w_u32, Dg.w_i8, Dg.w_i32, Value.int.injEq, true_and]; omega, Dg.i64_eq rfl (by omega) (by omega), Dg.i64_eq rfl (by omega) (by omega), Dg.i64_eq rfl (by omega) (by omega), or_byte hh (by omega), trivial⟩
--> uba
--< uca
theorem uca (zs : List Int) (i : Nat) (h : Int) (z0 : Int) (d0 : Int) (os : List Int) (hi : i + 1 < List.length zs) (hp : (i + 1) % 2 = 0) (hl : List.length zs ≤ 2000) (h0 : 97 ≤ List.getD zs (i + 1) 0 ∧ List.getD zs (i + 1) 0 ≤ 102) :
    ∃ s', runU (Uc zs i h z0 d0 os) = some (Ex.normal, s') ∧ clU s' = Uc zs (i + 1) (List.getD zs (i + 1) 0 - 97 + 10) (List.getD zs (i + 1) 0) (List.getD zs (i + 1) 0 - 97 + 10) os :=
  Dg.code_round (f := 8) clU (hs := [Hint.softH 8 12 (Value.tuple #[Value.bool true, Value.int IntKind.i64 (↑(i + 1) : Int), Value.int IntKind.i32 (List.getD zs (i + 1) 0)]) { n := 2, objs := [AObj.iter (txt zs) (i + 1 + 1), AObj.cells (u8s os) 5 5 1] } [1],
    Hint.val 23 6 (Value.int IntKind.i32 (List.getD zs (i + 1) 0 - 48)),
    Hint.val 23 7 (Value.int IntKind.i64 (List.getD zs (i + 1) 0 - 48)),
    Hint.val 23 10 (Value.bool true),
    Hint.val 23 13 (Value.bool true),
    Hint.val 23 23 (Value.int IntKind.i32 (List.getD zs (i + 1) 0 - 97)),
    Hint.val 23 24 (Value.int IntKind.i64 (List.getD zs (i + 1) 0 - 97)),
    Hint.val 23 25 (Value.int IntKind.i64 (List.getD zs (i + 1) 0 - 97 + 10)),
    Hint.val 8 25 (Value.bool true)])
    [Dg.nextAt { n := (2 : Nat), objs := [AObj.iter (txt zs) (i + (1 : Nat)), AObj.cells (u8s os) (5 : Nat) (5 : Nat) (1 : Nat)] } (1 : Nat) = some (Value.tuple #[Value.bool true, Value.int IntKind.i64 (↑(i + (1 : Nat)) : Int), Value.int IntKind.i32 (List.getD zs (i + (1 : Nat)) (0 : Int))], { n := (2 : Nat), objs := [AObj.iter (txt zs) (i + (1 : Nat) + (1 : Nat)), AObj.cells (u8s os) (5 : Nat) (5 : Nat) (1 : Nat)] }, [(1 : Nat)]),
    Value.int IntKind.i32 (IntKind.wrap IntKind.i32 (List.getD zs (i + (1 : Nat)) (0 : Int) - (48 : Int))) = Value.int IntKind.i32 (List.getD zs (i + (1 : Nat)) (0 : Int) - (48 : Int)),
    Value.int IntKind.i64 (IntKind.wrap IntKind.i64 (List.getD zs (i + (1 : Nat)) (0 : Int) - (48 : Int))) = Value.int IntKind.i64 (List.getD zs (i + (1 : Nat)) (0 : Int) - (48 : Int)),
    Value.bool (decide (List.getD zs (i + (1 : Nat)) (0 : Int) ≥ (97 : Int))) = Value.bool true,
    Value.bool (decide (List.getD zs (i + (1 : Nat)) (0 : Int) ≤ (102 : Int))) = Value.bool true,
    Value.int IntKind.i32 (IntKind.wrap IntKind.i32 (List.getD zs (i + (1 : Nat)) (0 : Int) - (97 : Int))) = Value.int IntKind.i32 (List.getD zs (i + (1 : Nat)) (0 : Int) - (97 : Int)),
    Value.int IntKind.i64 (IntKind.wrap IntKind.i64 (List.getD zs (i + (1 : Nat)) (0 : Int) - (97 : Int))) = Value.int IntKind.i64 (List.getD zs (i + (1 : Nat)) (0 : Int) - (97 : Int)),
    Value.int IntKind.i64 (IntKind.wrap IntKind.i64 (List.getD zs (i + (1 : Nat)) (0 : Int) - (97 : Int) + (10 : Int))) = Value.int IntKind.i64 (List.getD zs (i + (1 : Nat)) (0 : Int) - (97 : Int) + (10 : Int)),
    Value.bool (Int.tmod (↑(i + (1 : Nat)) : Int) (2 : Int) == (0 : Int)) = Value.bool true] (by kernel_rfl)
    ⟨next_lo (pos := i + 1) rfl (by omega) (by omega), by simp only [Dg.w_u8, Dg.w_u16, Dg.w_u32, Dg.w_i8, Dg.w_i32, Value.int.injEq, true_and]; omega, Dg.i64_eq rfl (by omega) (by omega), Dg.vtrue (by omega), Dg.vtrue (by omega), by simp only [Dg.w_u8, Dg.w_u16, Dg.w_u32, Dg.w_i8, Dg.w_i32, Value.int.injEq, true_and]; omega, Dg.i64_eq rfl (by omega) (by omega), Dg.i64_eq rfl (by omega) (by omega), Dg.vtrue (by rw [Int.tmod_eq_emod_of_nonneg (by omega)]; omega), trivial⟩
--> uca
--< uda
theorem uda (zs : List Int) (i : Nat) (h : Int) (z0 : Int) (d0 : Int) (os : List Int) (ho : List.length os ≤ 2000) (hi : i + 1 < List.length zs) (hp : (i + 1) % 2 = 1) (hl : List.length zs ≤ 2000) (hh : 0 ≤ h ∧ h < 16) (h0 : 97 ≤ List.getD zs (i + 1) 0 ∧ List.getD zs (i + 1) 0 ≤ 102) :
    ∃ s', runU (Uc zs i h z0 d0 os) = some (Ex.normal, s') ∧ clU s' = Uc zs (i + 1) h (List.getD zs (i + 1) 0) (List.getD zs (i + 1) 0 - 97 + 10) (os ++ [16 * h + (List.getD zs (i + 1) 0 - 97 + 10)]) :=
  Dg.code_round (f := 8) clU (hs := [Hint.softH 8 12 (Value.tuple #[Value.bool true, Value.int IntKind.i64 (↑(i + 1) : Int), Value.int IntKind.i32 (List.getD zs (i + 1) 0)]) { n := 2, objs := [AObj.iter (txt zs) (i + 1 + 1), AObj.cells (u8s os) 5 5 1] } [1],
    Hint.val 23 6 (Value.int IntKind.i32 (List.getD zs (i + 1) 0 - 48)),
    Hint.val 23 7 (Value.int IntKind.i64 (List.getD zs (i + 1) 0 - 48)),
    Hint.val 23 10 (Value.bool true),
    Hint.val 23 13 (Value.bool true),
    Hint.val 23 23 (Value.int IntKind.i32 (List.getD zs (i + 1) 0 - 97)),
    Hint.val 23 24 (Value.int IntKind.i64 (List.getD zs (i + 1) 0 - 97)),
    Hint.val 23 25 (Value.int IntKind.i64 (List.getD zs (i + 1) 0 - 97 + 10)),
    Hint.val 8 25 (Value.bool false),
    Hint.val 8 29 (Value.int IntKind.i64 (h * 2 ^ 4)),
    Hint.val 8 32 (Value.int IntKind.u8 (16 * h + (List.getD zs (i + 1) 0 - 97 + 10))),
    Hint.softH 8 34 (Value.slice (some { block := 3, off := 0, spot := some 0 }) (List.length (os ++ [16 * h + (List.getD zs (i + 1) 0 - 97 + 10)])) (List.length (os ++ [16 * h + (List.getD zs (i + 1) 0 - 97 + 10)]))) { n := 4, objs := [AObj.cells (u8s (os ++ [16 * h + (List.getD zs (i + 1) 0 - 97 + 10)])) 5 5 1, AObj.cells [Value.int IntKind.u8 (16 * h + (List.getD zs (i + 1) 0 - 97 + 10))] 5 0 1, AObj.iter (txt zs) (i + 1 + 1), AObj.dead] } [0]])
    [Dg.nextAt { n := (2 : Nat), objs := [AObj.iter (txt zs) (i + (1 : Nat)), AObj.cells (u8s os) (5 : Nat) (5 : Nat) (1 : Nat)] } (1 : Nat) = some (Value.tuple #[Value.bool true, Value.int IntKind.i64 (↑(i + (1 : Nat)) : Int), Value.int IntKind.i32 (List.getD zs (i + (1 : Nat)) (0 : Int))], { n := (2 : Nat), objs := [AObj.iter (txt zs) (i + (1 : Nat) + (1 : Nat)), AObj.cells (u8s os) (5 : Nat) (5 : Nat) (1 : Nat)] }, [(1 : Nat)]),
    Value.int IntKind.i32 (IntKind.wrap IntKind.i32 (List.getD zs (i + (1 : Nat)) (0 : Int) - (48 : Int))) = Value.int IntKind.i32 (List.getD zs (i + (1 : Nat)) (0 : Int) - (48 : Int)),
    Value.int IntKind.i64 (IntKind.wrap IntKind.i64 (List.getD zs (i + (1 : Nat)) (0 : Int) - (48 : Int))) = Value.int IntKind.i64 (List.getD zs (i + (1 : Nat)) (0 : Int) - (48 : Int)),
    Value.bool (decide (List.getD zs (i + (1 : Nat)) (0 : Int) ≥ (97 : Int))) = Value.bool true,
    Value.bool (decide (List.getD zs (i + (1 : Nat)) (0 : Int) ≤ (102 : Int))) = Value.bool true,
    Value.int IntKind.i32 (IntKind.wrap IntKind.i32 (List.getD zs (i + (1 : Nat)) (0 : Int) - (97 : Int))) = Value.int IntKind.i32 (List.getD zs (i + (1 : Nat)) (0 : Int) - (97 : Int)),
    Value.int IntKind.i64 (IntKind.wrap IntKind.i64 (List.getD zs (i + (1 : Nat)) (0 : Int) - (97 : Int))) = Value.int IntKind.i64 (List.getD zs (i + (1 : Nat)) (0 : Int) - (97 : Int)),
    Value.int IntKind.i64 (IntKind.wrap IntKind.i64 (List.getD zs (i + (1 : Nat)) (0 : Int) - (97 : Int) + (10 : Int))) = Value.int IntKind.i64 (List.getD zs (i + (1 : Nat)) (0 : Int) - (97 : Int) + (10 : Int)),
    Value.bool (Int.tmod (↑(i + (1 : Nat)) : Int) (2 : Int) == (0 : Int)) = Value.bool false,
    Value.int IntKind.i64 (IntKind.wrap IntKind.i64 (h * (2 : Int) ^ (4 : Nat))) = Value.int IntKind.i64 (h * (2 : Int) ^ (4 : Nat)),
    Value.int IntKind.u8 (IntKind.wrap IntKind.u8 (IntKind.wrap IntKind.i64 (↑(BitVec.toNat (BitVec.ofInt (64 : Nat) (h * (2 : Int) ^ (4 : Nat)) ||| BitVec.ofInt (64 : Nat) (List.getD zs (i + (1 : Nat)) (0 : Int) - (97 : Int) + (10 : Int)))) : Int))) = Value.int IntKind.u8 ((16 : Int) * h + (List.getD zs (i + (1 : Nat)) (0 : Int) - (97 : Int) + (10 : Int))),
    Dg.evAppend Tryd.prog { n := (3 : Nat), objs := [AObj.cells [Value.int IntKind.u8 ((16 : Int) * h + (List.getD zs (i + (1 : Nat)) (0 : Int) - (97 : Int) + (10 : Int)))] (5 : Nat) (0 : Nat) (1 : Nat), AObj.iter (txt zs) (i + (1 : Nat) + (1 : Nat)), AObj.cells (u8s os) (5 : Nat) (5 : Nat) (1 : Nat)] } (22 : Nat) (22 : Nat) (Value.slice (some { block := (0 : Nat), off := (0 : Nat), spot := some (0 : Nat) }) (List.length os) (List.length os)) (Value.slice (some { block := (2 : Nat), off := (0 : Nat) }) (1 : Nat) (1 : Nat)) = some (Value.slice (some { block := (3 : Nat), off := (0 : Nat), spot := some (0 : Nat) }) (List.length (os ++ [(16 : Int) * h + (List.getD zs (i + (1 : Nat)) (0 : Int) - (97 : Int) + (10 : Int))])) (List.length (os ++ [(16 : Int) * h + (List.getD zs (i + (1 : Nat)) (0 : Int) - (97 : Int) + (10 : Int))])), { n := (4 : Nat), objs := [AObj.cells (u8s (os ++ [(16 : Int) * h + (List.getD zs (i + (1 : Nat)) (0 : Int) - (97 : Int) + (10 : Int))])) (5 : Nat) (5 : Nat) (1 : Nat), AObj.cells [Value.int IntKind.u8 ((16 : Int) * h + (List.getD zs (i + (1 : Nat)) (0 : Int) - (97 : Int) + (10 : Int)))] (5 : Nat) (0 : Nat) (1 : Nat), AObj.iter (txt zs) (i + (1 : Nat) + (1 : Nat)), AObj.dead] }, [(0 : Nat)])] (by kernel_rfl)
    ⟨next_lo (pos := i + 1) rfl (by omega) (by omega), by simp only [Dg.w_u8, Dg.w_u16, Dg.w_u32, Dg.w_i8, Dg.w_i32, Value.int.injEq, true_and]; omega, Dg.i64_eq rfl (by omega) (by omega), Dg.vtrue (by omega), Dg.vtrue (by omega), by simp only [Dg.w_u8, Dg.w_u16, Dg.w_u32, Dg.w_i8, Dg.w_i32, Value.int.injEq, true_and]; omega, Dg.i64_eq rfl (by omega) (by omega), Dg.i64_eq rfl (by omega) (by omega), Dg.vfalse (by rw [Int.tmod_eq_emod_of_nonneg (by omega)]; omega), Dg.i64_eq rfl (by omega) (by omega), or_byte hh (by omega), appU (os := os) (x := 16 * h + ((zs.getD (i + 1) 0) - 97 + 10)) rfl rfl rfl (by omega) (by simp) rfl rfl, trivial⟩
--> uda
end Go.Proofs.YtflgpkkbifkpoaaDoor.text
