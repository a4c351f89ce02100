/- The rounds of the reference's 'Unhex' of layer 4, over any text. -/
import Derived.Test.YtflgpkkbifkpoaaDoorRows
import Derived.Test.YtflgpkkbifkpoaaDoorTextUnl
namespace Go.Proofs.YtflgpkkbifkpoaaDoor.text
open Go.Dg (junk St Ex Ev Hint evCall evCallS evCode evCodeK innerKp evCodeS evLoop cleanSt ue bodied noOver sbOf headOf tailOf bodyOf rAssign rBody lBody Flats flatOver Heap AObj SCall Law ofLaw Fix)
set_option linter.unusedVariables false
set_option linter.unusedSimpArgs false

noncomputable def lV : Code := lBody ((Tryd.f9.body).getD .skip)
noncomputable abbrev runV : St → Option (Ex × St) := evCode Tryd.prog 0 (bodied Tryd.prog) (evCall Tryd.prog 0 (bodied Tryd.prog) noOver sbs 4000 19) 0 7 4000 lV
noncomputable abbrev clV : St → St := cleanSt 0 7 (ue lV [] []).1
def TV (zs : List Int) (out : Value) (i : Nat) (n : Value) : List Value := [.string (txt zs), undef, .slice none 0 0, .bool false, out, .int .i64 i, n] ++ js 66
def Va (zs : List Int) : St := ⟨TV zs (.slice none 0 0) 0 undef, ⟨0, []⟩, []⟩
def Vb (zs : List Int) (i : Nat) (n : Int) (l : Nat) (os : List Int) : St := ⟨TV zs (.slice (some ⟨0, 0, some 0⟩) l l) i (.int .i64 n), ⟨1, [rowU os]⟩, []⟩
theorem strAt_txt (zs : List Int) (i : Nat) (h : i < zs.length) (hz : 0 ≤ zs.getD i 0 ∧ zs.getD i 0 < 256) : Dg.strAt (txt zs) (i : Int) = some (zs.getD i 0) := by
  unfold Dg.strAt
  have hs : i < (txt zs).size := by rw [txt_size]; exact h
  rw [if_pos (by omega), Int.toNat_natCast, getElem?_pos (txt zs) i hs]
  exact congrArg some (txt_get zs i hs hz)
theorem wrU {H : Heap} {k off : Nat} {os : List Int} {x y : Int} (hk : H.get k = rowU (os ++ [x])) (ho : off = os.length) : H.write k off [.int .u8 y] = some (H.set k (rowU (os ++ [y]))) := by
  subst ho
  unfold Dg.Heap.write
  rw [hk]
  simp only [rowU]
  have e1 : Dg.keepMd 5 (false || Dg.flatL [Value.int .u8 y]) = 5 := by simp [Dg.keepMd, Dg.flatL, Dg.flat]
  have e2 : Dg.splice (u8s (os ++ [x])) os.length [.int .u8 y] = u8s (os ++ [y]) := by
    simp [Dg.splice, u8s]
  rw [if_pos (by simp [u8s, Value.oneCell']), e1, e2]
theorem ldU {os : List Int} {x : Int} {l : Nat} (h : l = os.length + 1) : (u8s (os ++ [x]))[l - 1]? = some (.int .u8 x) := by
  subst h
  simp [u8s]
theorem idxU {l : Nat} (h : 0 < l) (h2 : l ≤ 2001) : Value.int .i64 (IntKind.wrap .i64 ((l : Int) - 1)) = .int .i64 ((l : Int) - 1) := Dg.i64_eq rfl (by omega) (by omega)
--< vad
theorem vad (zs : List Int) (hi : 0 < List.length zs) (hl : List.length zs ≤ 2000) (hz : 0 ≤ List.getD zs 0 0 ∧ List.getD zs 0 0 < 256) (h0 : 48 ≤ List.getD zs 0 0 ∧ List.getD zs 0 0 ≤ 57) :
    ∃ s', runV (Va zs) = some (Ex.normal, s') ∧ clV s' = Vb zs 1 (List.getD zs 0 0 - 48) 1 [16 * (List.getD zs 0 0 - 48)] :=
  Dg.code_round (f := 9) clV (hs := [Hint.val 9 14 (Value.bool true),
    Hint.soft 9 19 (Value.int IntKind.u8 (List.getD zs 0 0)),
    Hint.val 9 20 (Value.bool true),
    Hint.soft 9 24 (Value.int IntKind.u8 (List.getD zs 0 0)),
    Hint.val 9 25 (Value.bool true),
    Hint.soft 9 29 (Value.int IntKind.u8 (List.getD zs 0 0)),
    Hint.val 9 30 (Value.int IntKind.i64 (List.getD zs 0 0)),
    Hint.val 9 31 (Value.int IntKind.i64 (List.getD zs 0 0 - 48)),
    Hint.soft 9 34 (Value.int IntKind.u8 (List.getD zs 0 0)),
    Hint.val 9 35 (Value.bool false),
    Hint.val 9 48 (Value.bool false),
    Hint.val 9 54 (Value.int IntKind.i64 (16 * (List.getD zs 0 0 - 48))),
    Hint.val 9 55 (Value.int IntKind.u8 (16 * (List.getD zs 0 0 - 48)))])
    [Value.bool (decide ((0 : Int) < (↑(ByteArray.size (txt zs)) : Int))) = Value.bool true,
    Dg.strAt (txt zs) (0 : Int) = some (List.getD zs (0 : Nat) (0 : Int)),
    Value.bool (decide (List.getD zs (0 : Nat) (0 : Int) ≥ (48 : Int))) = Value.bool true,
    Dg.strAt (txt zs) (0 : Int) = some (List.getD zs (0 : Nat) (0 : Int)),
    Value.bool (decide (List.getD zs (0 : Nat) (0 : Int) ≤ (57 : Int))) = Value.bool true,
    Dg.strAt (txt zs) (0 : Int) = some (List.getD zs (0 : Nat) (0 : Int)),
    Value.int IntKind.i64 (IntKind.wrap IntKind.i64 (List.getD zs (0 : Nat) (0 : Int))) = Value.int IntKind.i64 (List.getD zs (0 : Nat) (0 : Int)),
    Value.int IntKind.i64 (IntKind.wrap IntKind.i64 (List.getD zs (0 : Nat) (0 : Int) - (48 : Int))) = Value.int IntKind.i64 (List.getD zs (0 : Nat) (0 : Int) - (48 : Int)),
    Dg.strAt (txt zs) (0 : Int) = some (List.getD zs (0 : Nat) (0 : Int)),
    Value.bool (decide (List.getD zs (0 : Nat) (0 : Int) ≥ (97 : Int))) = Value.bool false,
    Value.bool (decide (List.getD zs (0 : Nat) (0 : Int) - (48 : Int) > (15 : Int))) = Value.bool false,
    Value.int IntKind.i64 (IntKind.wrap IntKind.i64 ((16 : Int) * (List.getD zs (0 : Nat) (0 : Int) - (48 : Int)))) = Value.int IntKind.i64 ((16 : Int) * (List.getD zs (0 : Nat) (0 : Int) - (48 : Int))),
    Value.int IntKind.u8 (IntKind.wrap IntKind.u8 ((16 : Int) * (List.getD zs (0 : Nat) (0 : Int) - (48 : Int)))) = Value.int IntKind.u8 ((16 : Int) * (List.getD zs (0 : Nat) (0 : Int) - (48 : Int)))] (by kernel_rfl)
    ⟨Dg.vtrue (by rw [txt_size]; omega), strAt_txt zs 0 (by omega) hz, Dg.vtrue (by omega), strAt_txt zs 0 (by omega) hz, Dg.vtrue (by omega), strAt_txt zs 0 (by omega) hz, Dg.i64_eq rfl (by omega) (by omega), Dg.i64_eq rfl (by omega) (by omega), strAt_txt zs 0 (by omega) hz, Dg.vfalse (by omega), Dg.vfalse (by omega), Dg.i64_eq rfl (by omega) (by omega), by simp only [Dg.w_u8, Dg.w_u16, Dg.w_u32, Dg.w_i8, Dg.w_i32, Value.int.injEq, true_and]; omega, trivial⟩
--> vad
--< vbd
theorem vbd (zs : List Int) (i : Nat) (d0 : Int) (l : Nat) (os : List Int) (hp : i % 2 = 0) (ho : List.length os ≤ 2000) (hlo : l = List.length os) (hi : i < List.length zs) (hl : List.length zs ≤ 2000) (hz : 0 ≤ List.getD zs i 0 ∧ List.getD zs i 0 < 256) (h0 : 48 ≤ List.getD zs i 0 ∧ List.getD zs i 0 ≤ 57) :
    ∃ s', runV (Vb zs i d0 l os) = some (Ex.normal, s') ∧ clV s' = Vb zs (i + 1) (List.getD zs i 0 - 48) (l + 1) (os ++ [16 * (List.getD zs i 0 - 48)]) :=
  Dg.code_round (f := 9) clV (hs := [Hint.val 9 14 (Value.bool true),
    Hint.soft 9 19 (Value.int IntKind.u8 (List.getD zs i 0)),
    Hint.val 9 20 (Value.bool true),
    Hint.soft 9 24 (Value.int IntKind.u8 (List.getD zs i 0)),
    Hint.val 9 25 (Value.bool true),
    Hint.soft 9 29 (Value.int IntKind.u8 (List.getD zs i 0)),
    Hint.val 9 30 (Value.int IntKind.i64 (List.getD zs i 0)),
    Hint.val 9 31 (Value.int IntKind.i64 (List.getD zs i 0 - 48)),
    Hint.soft 9 34 (Value.int IntKind.u8 (List.getD zs i 0)),
    Hint.val 9 35 (Value.bool false),
    Hint.val 9 48 (Value.bool false),
    Hint.val 9 51 (Value.bool true),
    Hint.val 9 54 (Value.int IntKind.i64 (16 * (List.getD zs i 0 - 48))),
    Hint.val 9 55 (Value.int IntKind.u8 (16 * (List.getD zs i 0 - 48))),
    Hint.softH 9 57 (Value.slice (some { block := 2, off := 0, spot := some 0 }) (l + 1) (l + 1)) { n := 3, objs := [AObj.cells (u8s (os ++ [16 * (List.getD zs i 0 - 48)])) 5 5 1, AObj.cells [Value.int IntKind.u8 (16 * (List.getD zs i 0 - 48))] 5 0 1, AObj.dead] } [0],
    Hint.val 9 16 (Value.int IntKind.i64 ((↑i : Int) + 1))])
    [Value.bool (decide ((↑i : Int) < (↑(ByteArray.size (txt zs)) : Int))) = Value.bool true,
    Dg.strAt (txt zs) (↑i : Int) = some (List.getD zs i (0 : Int)),
    Value.bool (decide (List.getD zs i (0 : Int) ≥ (48 : Int))) = Value.bool true,
    Dg.strAt (txt zs) (↑i : Int) = some (List.getD zs i (0 : Int)),
    Value.bool (decide (List.getD zs i (0 : Int) ≤ (57 : Int))) = Value.bool true,
    Dg.strAt (txt zs) (↑i : Int) = some (List.getD zs i (0 : Int)),
    Value.int IntKind.i64 (IntKind.wrap IntKind.i64 (List.getD zs i (0 : Int))) = Value.int IntKind.i64 (List.getD zs i (0 : Int)),
    Value.int IntKind.i64 (IntKind.wrap IntKind.i64 (List.getD zs i (0 : Int) - (48 : Int))) = Value.int IntKind.i64 (List.getD zs i (0 : Int) - (48 : Int)),
    Dg.strAt (txt zs) (↑i : Int) = some (List.getD zs i (0 : Int)),
    Value.bool (decide (List.getD zs i (0 : Int) ≥ (97 : Int))) = Value.bool false,
    Value.bool (decide (List.getD zs i (0 : Int) - (48 : Int) > (15 : Int))) = Value.bool false,
    Value.bool (Int.tmod (↑i : Int) (2 : Int) == (0 : Int)) = Value.bool true,
    Value.int IntKind.i64 (IntKind.wrap IntKind.i64 ((16 : Int) * (List.getD zs i (0 : Int) - (48 : Int)))) = Value.int IntKind.i64 ((16 : Int) * (List.getD zs i (0 : Int) - (48 : Int))),
    Value.int IntKind.u8 (IntKind.wrap IntKind.u8 ((16 : Int) * (List.getD zs i (0 : Int) - (48 : Int)))) = Value.int IntKind.u8 ((16 : Int) * (List.getD zs i (0 : Int) - (48 : Int))),
    Dg.evAppend Tryd.prog { n := (2 : Nat), objs := [AObj.cells [Value.int IntKind.u8 ((16 : Int) * (List.getD zs i (0 : Int) - (48 : Int)))] (5 : Nat) (0 : Nat) (1 : Nat), AObj.cells (u8s os) (5 : Nat) (5 : Nat) (1 : Nat)] } (22 : Nat) (22 : Nat) (Value.slice (some { block := (0 : Nat), off := (0 : Nat), spot := some (0 : Nat) }) l l) (Value.slice (some { block := (1 : Nat), off := (0 : Nat) }) (1 : Nat) (1 : Nat)) = some (Value.slice (some { block := (2 : Nat), off := (0 : Nat), spot := some (0 : Nat) }) (l + (1 : Nat)) (l + (1 : Nat)), { n := (3 : Nat), objs := [AObj.cells (u8s (os ++ [(16 : Int) * (List.getD zs i (0 : Int) - (48 : Int))])) (5 : Nat) (5 : Nat) (1 : Nat), AObj.cells [Value.int IntKind.u8 ((16 : Int) * (List.getD zs i (0 : Int) - (48 : Int)))] (5 : Nat) (0 : Nat) (1 : Nat), AObj.dead] }, [(0 : Nat)]),
    Value.int IntKind.i64 (IntKind.wrap IntKind.i64 ((↑i : Int) + (1 : Int))) = Value.int IntKind.i64 ((↑i : Int) + (1 : Int))] (by kernel_rfl)
    ⟨Dg.vtrue (by rw [txt_size]; omega), strAt_txt zs i (by omega) hz, Dg.vtrue (by omega), strAt_txt zs i (by omega) hz, Dg.vtrue (by omega), strAt_txt zs i (by omega) hz, Dg.i64_eq rfl (by omega) (by omega), Dg.i64_eq rfl (by omega) (by omega), strAt_txt zs i (by omega) hz, Dg.vfalse (by omega), Dg.vfalse (by omega), Dg.vtrue (by rw [Int.tmod_eq_emod_of_nonneg (by omega)]; omega), Dg.i64_eq rfl (by omega) (by omega), by simp only [Dg.w_u8, Dg.w_u16, Dg.w_u32, Dg.w_i8, Dg.w_i32, Value.int.injEq, true_and]; omega, appU (os := os) (x := 16 * ((zs.getD i 0) - 48)) rfl hlo rfl (by omega) rfl rfl rfl, Dg.i64_eq rfl (by omega) (by omega), trivial⟩
--> vbd
--< vod
theorem vod (zs : List Int) (i : Nat) (d0 : Int) (x : Int) (l : Nat) (os : List Int) (hp : i % 2 = 1) (ho : List.length os ≤ 2000) (hlo : l = List.length os + 1) (hx : 0 ≤ x ∧ x ≤ 240) (hi : i < List.length zs) (hl : List.length zs ≤ 2000) (hz : 0 ≤ List.getD zs i 0 ∧ List.getD zs i 0 < 256) (h0 : 48 ≤ List.getD zs i 0 ∧ List.getD zs i 0 ≤ 57) :
    ∃ s', runV (Vb zs i d0 l (os ++ [x])) = some (Ex.normal, s') ∧ clV s' = Vb zs (i + 1) (List.getD zs i 0 - 48) l (os ++ [x + (List.getD zs i 0 - 48)]) :=
  Dg.code_round (f := 9) clV (hs := [Hint.val 9 14 (Value.bool true),
    Hint.soft 9 19 (Value.int IntKind.u8 (List.getD zs i 0)),
    Hint.val 9 20 (Value.bool true),
    Hint.soft 9 24 (Value.int IntKind.u8 (List.getD zs i 0)),
    Hint.val 9 25 (Value.bool true),
    Hint.soft 9 29 (Value.int IntKind.u8 (List.getD zs i 0)),
    Hint.val 9 30 (Value.int IntKind.i64 (List.getD zs i 0)),
    Hint.val 9 31 (Value.int IntKind.i64 (List.getD zs i 0 - 48)),
    Hint.soft 9 34 (Value.int IntKind.u8 (List.getD zs i 0)),
    Hint.val 9 35 (Value.bool false),
    Hint.val 9 48 (Value.bool false),
    Hint.val 9 51 (Value.bool false),
    Hint.val 9 61 (Value.int IntKind.i64 ((↑l : Int) - 1)),
    Hint.val 9 65 (Value.int IntKind.i64 ((↑l : Int) - 1)),
    Hint.soft 9 66 (Value.pointer (some { block := 0, off := l - 1 })),
    Hint.soft 9 67 (Value.int IntKind.u8 x),
    Hint.val 9 69 (Value.int IntKind.u8 (List.getD zs i 0 - 48)),
    Hint.val 9 70 (Value.int IntKind.u8 (x + (List.getD zs i 0 - 48))),
    Hint.soft 9 71 (Value.pointer (some { block := 0, off := l - 1 })),
    Hint.softH 9 0 (undef) { n := 1, objs := [AObj.cells (u8s (os ++ [x + (List.getD zs i 0 - 48)])) 5 5 1] } [0],
    Hint.val 9 16 (Value.int IntKind.i64 ((↑i : Int) + 1))])
    [Value.bool (decide ((↑i : Int) < (↑(ByteArray.size (txt zs)) : Int))) = Value.bool true,
    Dg.strAt (txt zs) (↑i : Int) = some (List.getD zs i (0 : Int)),
    Value.bool (decide (List.getD zs i (0 : Int) ≥ (48 : Int))) = Value.bool true,
    Dg.strAt (txt zs) (↑i : Int) = some (List.getD zs i (0 : Int)),
    Value.bool (decide (List.getD zs i (0 : Int) ≤ (57 : Int))) = Value.bool true,
    Dg.strAt (txt zs) (↑i : Int) = some (List.getD zs i (0 : Int)),
    Value.int IntKind.i64 (IntKind.wrap IntKind.i64 (List.getD zs i (0 : Int))) = Value.int IntKind.i64 (List.getD zs i (0 : Int)),
    Value.int IntKind.i64 (IntKind.wrap IntKind.i64 (List.getD zs i (0 : Int) - (48 : Int))) = Value.int IntKind.i64 (List.getD zs i (0 : Int) - (48 : Int)),
    Dg.strAt (txt zs) (↑i : Int) = some (List.getD zs i (0 : Int)),
    Value.bool (decide (List.getD zs i (0 : Int) ≥ (97 : Int))) = Value.bool false,
    Value.bool (decide (List.getD zs i (0 : Int) - (48 : Int) > (15 : Int))) = Value.bool false,
    Value.bool (Int.tmod (↑i : Int) (2 : Int) == (0 : Int)) = Value.bool false,
    Value.int IntKind.i64 (IntKind.wrap IntKind.i64 ((↑l : Int) - (1 : Int))) = Value.int IntKind.i64 ((↑l : Int) - (1 : Int)),
    Value.int IntKind.i64 (IntKind.wrap IntKind.i64 ((↑l : Int) - (1 : Int))) = Value.int IntKind.i64 ((↑l : Int) - (1 : Int)),
    (0 : Int) ≤ (↑l : Int) - (1 : Int) ∧ (↑l : Int) - (1 : Int) < (↑l : Int),
    Value.pointer (some { block := (0 : Nat), off := (0 : Nat) + Int.toNat ((↑l : Int) - (1 : Int)) * (1 : Nat) }) = Value.pointer (some { block := (0 : Nat), off := l - (1 : Nat) }),
    (u8s (os ++ [x]))[l - (1 : Nat)]? = some (Value.int IntKind.u8 x),
    Value.int IntKind.u8 (IntKind.wrap IntKind.u8 (List.getD zs i (0 : Int) - (48 : Int))) = Value.int IntKind.u8 (List.getD zs i (0 : Int) - (48 : Int)),
    Value.int IntKind.u8 (IntKind.wrap IntKind.u8 (x + (List.getD zs i (0 : Int) - (48 : Int)))) = Value.int IntKind.u8 (x + (List.getD zs i (0 : Int) - (48 : Int))),
    (0 : Int) ≤ (↑l : Int) - (1 : Int) ∧ (↑l : Int) - (1 : Int) < (↑l : Int),
    Value.pointer (some { block := (0 : Nat), off := (0 : Nat) + Int.toNat ((↑l : Int) - (1 : Int)) * (1 : Nat) }) = Value.pointer (some { block := (0 : Nat), off := l - (1 : Nat) }),
    Heap.write { n := (1 : Nat), objs := [AObj.cells (u8s (os ++ [x])) (5 : Nat) (5 : Nat) (1 : Nat)] } (0 : Nat) (l - (1 : Nat)) [Value.int IntKind.u8 (x + (List.getD zs i (0 : Int) - (48 : Int)))] = some { n := (1 : Nat), objs := [AObj.cells (u8s (os ++ [x + (List.getD zs i (0 : Int) - (48 : Int))])) (5 : Nat) (5 : Nat) (1 : Nat)] },
    undef = undef,
    ([(0 : Nat)] : List Nat) = [(0 : Nat)],
    Value.int IntKind.i64 (IntKind.wrap IntKind.i64 ((↑i : Int) + (1 : Int))) = Value.int IntKind.i64 ((↑i : Int) + (1 : Int))] (by kernel_rfl)
    ⟨Dg.vtrue (by rw [txt_size]; omega), strAt_txt zs i (by omega) hz, Dg.vtrue (by omega), strAt_txt zs i (by omega) hz, Dg.vtrue (by omega), strAt_txt zs i (by omega) hz, Dg.i64_eq rfl (by omega) (by omega), Dg.i64_eq rfl (by omega) (by omega), strAt_txt zs i (by omega) hz, Dg.vfalse (by omega), Dg.vfalse (by omega), Dg.vfalse (by rw [Int.tmod_eq_emod_of_nonneg (by omega)]; omega), idxU (by omega) (by omega), idxU (by omega) (by omega), by omega, Dg.ptr_eq (by omega), ldU hlo, by simp only [Dg.w_u8, Dg.w_u16, Dg.w_u32, Dg.w_i8, Dg.w_i32, Value.int.injEq, true_and]; omega, by simp only [Dg.w_u8, Dg.w_u16, Dg.w_u32, Dg.w_i8, Dg.w_i32, Value.int.injEq, true_and]; omega, by omega, Dg.ptr_eq (by omega), (by first | rfl | exact wrU (os := os) (x := x) rfl (by omega)), (by first | rfl | exact wrU (os := os) (x := x) rfl (by omega)), (by first | rfl | exact wrU (os := os) (x := x) rfl (by omega)), Dg.i64_eq rfl (by omega) (by omega), trivial⟩
--> vod
--< vaa
theorem vaa (zs : List Int) (hi : 0 < List.length zs) (hl : List.length zs ≤ 2000) (hz : 0 ≤ List.getD zs 0 0 ∧ List.getD zs 0 0 < 256) (h0 : 97 ≤ List.getD zs 0 0 ∧ List.getD zs 0 0 ≤ 102) :
    ∃ s', runV (Va zs) = some (Ex.normal, s') ∧ clV s' = Vb zs 1 (List.getD zs 0 0 - 87) 1 [16 * (List.getD zs 0 0 - 87)] :=
  Dg.code_round (f := 9) clV (hs := [Hint.val 9 14 (Value.bool true),
    Hint.soft 9 19 (Value.int IntKind.u8 (List.getD zs 0 0)),
    Hint.val 9 20 (Value.bool true),
    Hint.soft 9 24 (Value.int IntKind.u8 (List.getD zs 0 0)),
    Hint.val 9 25 (Value.bool false),
    Hint.soft 9 34 (Value.int IntKind.u8 (List.getD zs 0 0)),
    Hint.val 9 35 (Value.bool true),
    Hint.soft 9 39 (Value.int IntKind.u8 (List.getD zs 0 0)),
    Hint.val 9 40 (Value.bool true),
    Hint.soft 9 44 (Value.int IntKind.u8 (List.getD zs 0 0)),
    Hint.val 9 45 (Value.int IntKind.i64 (List.getD zs 0 0)),
    Hint.val 9 46 (Value.int IntKind.i64 (List.getD zs 0 0 - 87)),
    Hint.val 9 48 (Value.bool false),
    Hint.val 9 54 (Value.int IntKind.i64 (16 * (List.getD zs 0 0 - 87))),
    Hint.val 9 55 (Value.int IntKind.u8 (16 * (List.getD zs 0 0 - 87)))])
    [Value.bool (decide ((0 : Int) < (↑(ByteArray.size (txt zs)) : Int))) = Value.bool true,
    Dg.strAt (txt zs) (0 : Int) = some (List.getD zs (0 : Nat) (0 : Int)),
    Value.bool (decide (List.getD zs (0 : Nat) (0 : Int) ≥ (48 : Int))) = Value.bool true,
    Dg.strAt (txt zs) (0 : Int) = some (List.getD zs (0 : Nat) (0 : Int)),
    Value.bool (decide (List.getD zs (0 : Nat) (0 : Int) ≤ (57 : Int))) = Value.bool false,
    Dg.strAt (txt zs) (0 : Int) = some (List.getD zs (0 : Nat) (0 : Int)),
    Value.bool (decide (List.getD zs (0 : Nat) (0 : Int) ≥ (97 : Int))) = Value.bool true,
    Dg.strAt (txt zs) (0 : Int) = some (List.getD zs (0 : Nat) (0 : Int)),
    Value.bool (decide (List.getD zs (0 : Nat) (0 : Int) ≤ (102 : Int))) = Value.bool true,
    Dg.strAt (txt zs) (0 : Int) = some (List.getD zs (0 : Nat) (0 : Int)),
    Value.int IntKind.i64 (IntKind.wrap IntKind.i64 (List.getD zs (0 : Nat) (0 : Int))) = Value.int IntKind.i64 (List.getD zs (0 : Nat) (0 : Int)),
    Value.int IntKind.i64 (IntKind.wrap IntKind.i64 (List.getD zs (0 : Nat) (0 : Int) - (87 : Int))) = Value.int IntKind.i64 (List.getD zs (0 : Nat) (0 : Int) - (87 : Int)),
    Value.bool (decide (List.getD zs (0 : Nat) (0 : Int) - (87 : Int) > (15 : Int))) = Value.bool false,
    Value.int IntKind.i64 (IntKind.wrap IntKind.i64 ((16 : Int) * (List.getD zs (0 : Nat) (0 : Int) - (87 : Int)))) = Value.int IntKind.i64 ((16 : Int) * (List.getD zs (0 : Nat) (0 : Int) - (87 : Int))),
    Value.int IntKind.u8 (IntKind.wrap IntKind.u8 ((16 : Int) * (List.getD zs (0 : Nat) (0 : Int) - (87 : Int)))) = Value.int IntKind.u8 ((16 : Int) * (List.getD zs (0 : Nat) (0 : Int) - (87 : Int)))] (by kernel_rfl)
    ⟨Dg.vtrue (by rw [txt_size]; omega), strAt_txt zs 0 (by omega) hz, Dg.vtrue (by omega), strAt_txt zs 0 (by omega) hz, Dg.vfalse (by omega), strAt_txt zs 0 (by omega) hz, Dg.vtrue (by omega), strAt_txt zs 0 (by omega) hz, Dg.vtrue (by omega), strAt_txt zs 0 (by omega) hz, Dg.i64_eq rfl (by omega) (by omega), Dg.i64_eq rfl (by omega) (by omega), Dg.vfalse (by omega), Dg.i64_eq rfl (by omega) (by omega), by simp only [Dg.w_u8, Dg.w_u16, Dg.w_u32, Dg.w_i8, Dg.w_i32, Value.int.injEq, true_and]; omega, trivial⟩
--> vaa
--< vba
theorem vba (zs : List Int) (i : Nat) (d0 : Int) (l : Nat) (os : List Int) (hp : i % 2 = 0) (ho : List.length os ≤ 2000) (hlo : l = List.length os) (hi : i < List.length zs) (hl : List.length zs ≤ 2000) (hz : 0 ≤ List.getD zs i 0 ∧ List.getD zs i 0 < 256) (h0 : 97 ≤ List.getD zs i 0 ∧ List.getD zs i 0 ≤ 102) :
    ∃ s', runV (Vb zs i d0 l os) = some (Ex.normal, s') ∧ clV s' = Vb zs (i + 1) (List.getD zs i 0 - 87) (l + 1) (os ++ [16 * (List.getD zs i 0 - 87)]) :=
  Dg.code_round (f := 9) clV (hs := [Hint.val 9 14 (Value.bool true),
    Hint.soft 9 19 (Value.int IntKind.u8 (List.getD zs i 0)),
    Hint.val 9 20 (Value.bool true),
    Hint.soft 9 24 (Value.int IntKind.u8 (List.getD zs i 0)),
    Hint.val 9 25 (Value.bool false),
    Hint.soft 9 34 (Value.int IntKind.u8 (List.getD zs i 0)),
    Hint.val 9 35 (Value.bool true),
    Hint.soft 9 39 (Value.int IntKind.u8 (List.getD zs i 0)),
    Hint.val 9 40 (Value.bool true),
    Hint.soft 9 44 (Value.int IntKind.u8 (List.getD zs i 0)),
    Hint.val 9 45 (Value.int IntKind.i64 (List.getD zs i 0)),
    Hint.val 9 46 (Value.int IntKind.i64 (List.getD zs i 0 - 87)),
    Hint.val 9 48 (Value.bool false),
    Hint.val 9 51 (Value.bool true),
    Hint.val 9 54 (Value.int IntKind.i64 (16 * (List.getD zs i 0 - 87))),
    Hint.val 9 55 (Value.int IntKind.u8 (16 * (List.getD zs i 0 - 87))),
    Hint.softH 9 57 (Value.slice (some { block := 2, off := 0, spot := some 0 }) (l + 1) (l + 1)) { n := 3, objs := [AObj.cells (u8s (os ++ [16 * (List.getD zs i 0 - 87)])) 5 5 1, AObj.cells [Value.int IntKind.u8 (16 * (List.getD zs i 0 - 87))] 5 0 1, AObj.dead] } [0],
    Hint.val 9 16 (Value.int IntKind.i64 ((↑i : Int) + 1))])
    [Value.bool (decide ((↑i : Int) < (↑(ByteArray.size (txt zs)) : Int))) = Value.bool true,
    Dg.strAt (txt zs) (↑i : Int) = some (List.getD zs i (0 : Int)),
    Value.bool (decide (List.getD zs i (0 : Int) ≥ (48 : Int))) = Value.bool true,
    Dg.strAt (txt zs) (↑i : Int) = some (List.getD zs i (0 : Int)),
    Value.bool (decide (List.getD zs i (0 : Int) ≤ (57 : Int))) = Value.bool false,
    Dg.strAt (txt zs) (↑i : Int) = some (List.getD zs i (0 : Int)),
    Value.bool (decide (List.getD zs i (0 : Int) ≥ (97 : Int))) = Value.bool true,
    Dg.strAt (txt zs) (↑i : Int) = some (List.getD zs i (0 : Int)),
    Value.bool (decide (List.getD zs i (0 : Int) ≤ (102 : Int))) = Value.bool true,
    Dg.strAt (txt zs) (↑i : Int) = some (List.getD zs i (0 : Int)),
    Value.int IntKind.i64 (IntKind.wrap IntKind.i64 (List.getD zs i (0 : Int))) = Value.int IntKind.i64 (List.getD zs i (0 : Int)),
    Value.int IntKind.i64 (IntKind.wrap IntKind.i64 (List.getD zs i (0 : Int) - (87 : Int))) = Value.int IntKind.i64 (List.getD zs i (0 : Int) - (87 : Int)),
    Value.bool (decide (List.getD zs i (0 : Int) - (87 : Int) > (15 : Int))) = Value.bool false,
    Value.bool (Int.tmod (↑i : Int) (2 : Int) == (0 : Int)) = Value.bool true,
    Value.int IntKind.i64 (IntKind.wrap IntKind.i64 ((16 : Int) * (List.getD zs i (0 : Int) - (87 : Int)))) = Value.int IntKind.i64 ((16 : Int) * (List.getD zs i (0 : Int) - (87 : Int))),
    Value.int IntKind.u8 (IntKind.wrap IntKind.u8 ((16 : Int) * (List.getD zs i (0 : Int) - (87 : Int)))) = Value.int IntKind.u8 ((16 : Int) * (List.getD zs i (0 : Int) - (87 : Int))),
    Dg.evAppend Tryd.prog { n := (2 : Nat), objs := [AObj.cells [Value.int IntKind.u8 ((16 : Int) * (List.getD zs i (0 : Int) - (87 : Int)))] (5 : Nat) (0 : Nat) (1 : Nat), AObj.cells (u8s os) (5 : Nat) (5 : Nat) (1 : Nat)] } (22 : Nat) (22 : Nat) (Value.slice (some { block := (0 : Nat), off := (0 : Nat), spot := some (0 : Nat) }) l l) (Value.slice (some { block := (1 : Nat), off := (0 : Nat) }) (1 : Nat) (1 : Nat)) = some (Value.slice (some { block := (2 : Nat), off := (0 : Nat), spot := some (0 : Nat) }) (l + (1 : Nat)) (l + (1 : Nat)), { n := (3 : Nat), objs := [AObj.cells (u8s (os ++ [(16 : Int) * (List.getD zs i (0 : Int) - (87 : Int))])) (5 : Nat) (5 : Nat) (1 : Nat), AObj.cells [Value.int IntKind.u8 ((16 : Int) * (List.getD zs i (0 : Int) - (87 : Int)))] (5 : Nat) (0 : Nat) (1 : Nat), AObj.dead] }, [(0 : Nat)]),
    Value.int IntKind.i64 (IntKind.wrap IntKind.i64 ((↑i : Int) + (1 : Int))) = Value.int IntKind.i64 ((↑i : Int) + (1 : Int))] (by kernel_rfl)
    ⟨Dg.vtrue (by rw [txt_size]; omega), strAt_txt zs i (by omega) hz, Dg.vtrue (by omega), strAt_txt zs i (by omega) hz, Dg.vfalse (by omega), strAt_txt zs i (by omega) hz, Dg.vtrue (by omega), strAt_txt zs i (by omega) hz, Dg.vtrue (by omega), strAt_txt zs i (by omega) hz, Dg.i64_eq rfl (by omega) (by omega), Dg.i64_eq rfl (by omega) (by omega), Dg.vfalse (by omega), Dg.vtrue (by rw [Int.tmod_eq_emod_of_nonneg (by omega)]; omega), Dg.i64_eq rfl (by omega) (by omega), by simp only [Dg.w_u8, Dg.w_u16, Dg.w_u32, Dg.w_i8, Dg.w_i32, Value.int.injEq, true_and]; omega, appU (os := os) (x := 16 * ((zs.getD i 0) - 87)) rfl hlo rfl (by omega) rfl rfl rfl, Dg.i64_eq rfl (by omega) (by omega), trivial⟩
--> vba
--< voa
theorem voa (zs : List Int) (i : Nat) (d0 : Int) (x : Int) (l : Nat) (os : List Int) (hp : i % 2 = 1) (ho : List.length os ≤ 2000) (hlo : l = List.length os + 1) (hx : 0 ≤ x ∧ x ≤ 240) (hi : i < List.length zs) (hl : List.length zs ≤ 2000) (hz : 0 ≤ List.getD zs i 0 ∧ List.getD zs i 0 < 256) (h0 : 97 ≤ List.getD zs i 0 ∧ List.getD zs i 0 ≤ 102) :
    ∃ s', runV (Vb zs i d0 l (os ++ [x])) = some (Ex.normal, s') ∧ clV s' = Vb zs (i + 1) (List.getD zs i 0 - 87) l (os ++ [x + (List.getD zs i 0 - 87)]) :=
  Dg.code_round (f := 9) clV (hs := [Hint.val 9 14 (Value.bool true),
    Hint.soft 9 19 (Value.int IntKind.u8 (List.getD zs i 0)),
    Hint.val 9 20 (Value.bool true),
    Hint.soft 9 24 (Value.int IntKind.u8 (List.getD zs i 0)),
    Hint.val 9 25 (Value.bool false),
    Hint.soft 9 34 (Value.int IntKind.u8 (List.getD zs i 0)),
    Hint.val 9 35 (Value.bool true),
    Hint.soft 9 39 (Value.int IntKind.u8 (List.getD zs i 0)),
    Hint.val 9 40 (Value.bool true),
    Hint.soft 9 44 (Value.int IntKind.u8 (List.getD zs i 0)),
    Hint.val 9 45 (Value.int IntKind.i64 (List.getD zs i 0)),
    Hint.val 9 46 (Value.int IntKind.i64 (List.getD zs i 0 - 87)),
    Hint.val 9 48 (Value.bool false),
    Hint.val 9 51 (Value.bool false),
    Hint.val 9 61 (Value.int IntKind.i64 ((↑l : Int) - 1)),
    Hint.val 9 65 (Value.int IntKind.i64 ((↑l : Int) - 1)),
    Hint.soft 9 66 (Value.pointer (some { block := 0, off := l - 1 })),
    Hint.soft 9 67 (Value.int IntKind.u8 x),
    Hint.val 9 69 (Value.int IntKind.u8 (List.getD zs i 0 - 87)),
    Hint.val 9 70 (Value.int IntKind.u8 (x + (List.getD zs i 0 - 87))),
    Hint.soft 9 71 (Value.pointer (some { block := 0, off := l - 1 })),
    Hint.softH 9 0 (undef) { n := 1, objs := [AObj.cells (u8s (os ++ [x + (List.getD zs i 0 - 87)])) 5 5 1] } [0],
    Hint.val 9 16 (Value.int IntKind.i64 ((↑i : Int) + 1))])
    [Value.bool (decide ((↑i : Int) < (↑(ByteArray.size (txt zs)) : Int))) = Value.bool true,
    Dg.strAt (txt zs) (↑i : Int) = some (List.getD zs i (0 : Int)),
    Value.bool (decide (List.getD zs i (0 : Int) ≥ (48 : Int))) = Value.bool true,
    Dg.strAt (txt zs) (↑i : Int) = some (List.getD zs i (0 : Int)),
    Value.bool (decide (List.getD zs i (0 : Int) ≤ (57 : Int))) = Value.bool false,
    Dg.strAt (txt zs) (↑i : Int) = some (List.getD zs i (0 : Int)),
    Value.bool (decide (List.getD zs i (0 : Int) ≥ (97 : Int))) = Value.bool true,
    Dg.strAt (txt zs) (↑i : Int) = some (List.getD zs i (0 : Int)),
    Value.bool (decide (List.getD zs i (0 : Int) ≤ (102 : Int))) = Value.bool true,
    Dg.strAt (txt zs) (↑i : Int) = some (List.getD zs i (0 : Int)),
    Value.int IntKind.i64 (IntKind.wrap IntKind.i64 (List.getD zs i (0 : Int))) = Value.int IntKind.i64 (List.getD zs i (0 : Int)),
    Value.int IntKind.i64 (IntKind.wrap IntKind.i64 (List.getD zs i (0 : Int) - (87 : Int))) = Value.int IntKind.i64 (List.getD zs i (0 : Int) - (87 : Int)),
    Value.bool (decide (List.getD zs i (0 : Int) - (87 : Int) > (15 : Int))) = Value.bool false,
    Value.bool (Int.tmod (↑i : Int) (2 : Int) == (0 : Int)) = Value.bool false,
    Value.int IntKind.i64 (IntKind.wrap IntKind.i64 ((↑l : Int) - (1 : Int))) = Value.int IntKind.i64 ((↑l : Int) - (1 : Int)),
    Value.int IntKind.i64 (IntKind.wrap IntKind.i64 ((↑l : Int) - (1 : Int))) = Value.int IntKind.i64 ((↑l : Int) - (1 : Int)),
    (0 : Int) ≤ (↑l : Int) - (1 : Int) ∧ (↑l : Int) - (1 : Int) < (↑l : Int),
    Value.pointer (some { block := (0 : Nat), off := (0 : Nat) + Int.toNat ((↑l : Int) - (1 : Int)) * (1 : Nat) }) = Value.pointer (some { block := (0 : Nat), off := l - (1 : Nat) }),
    (u8s (os ++ [x]))[l - (1 : Nat)]? = some (Value.int IntKind.u8 x),
    Value.int IntKind.u8 (IntKind.wrap IntKind.u8 (List.getD zs i (0 : Int) - (87 : Int))) = Value.int IntKind.u8 (List.getD zs i (0 : Int) - (87 : Int)),
    Value.int IntKind.u8 (IntKind.wrap IntKind.u8 (x + (List.getD zs i (0 : Int) - (87 : Int)))) = Value.int IntKind.u8 (x + (List.getD zs i (0 : Int) - (87 : Int))),
    (0 : Int) ≤ (↑l : Int) - (1 : Int) ∧ (↑l : Int) - (1 : Int) < (↑l : Int),
    Value.pointer (some { block := (0 : Nat), off := (0 : Nat) + Int.toNat ((↑l : Int) - (1 : Int)) * (1 : Nat) }) = Value.pointer (some { block := (0 : Nat), off := l - (1 : Nat) }),
    Heap.write { n := (1 : Nat), objs := [AObj.cells (u8s (os ++ [x])) (5 : Nat) (5 : Nat) (1 : Nat)] } (0 : Nat) (l - (1 : Nat)) [Value.int IntKind.u8 (x + (List.getD zs i (0 : Int) - (87 : Int)))] = some { n := (1 : Nat), objs := [AObj.cells (u8s (os ++ [x + (List.getD zs i (0 : Int) - (87 : Int))])) (5 : Nat) (5 : Nat) (1 : Nat)] },
    undef = undef,
    ([(0 : Nat)] : List Nat) = [(0 : Nat)],
    Value.int IntKind.i64 (IntKind.wrap IntKind.i64 ((↑i : Int) + (1 : Int))) = Value.int IntKind.i64 ((↑i : Int) + (1 : Int))] (by kernel_rfl)
    ⟨Dg.vtrue (by rw [txt_size]; omega), strAt_txt zs i (by omega) hz, Dg.vtrue (by omega), strAt_txt zs i (by omega) hz, Dg.vfalse (by omega), strAt_txt zs i (by omega) hz, Dg.vtrue (by omega), strAt_txt zs i (by omega) hz, Dg.vtrue (by omega), strAt_txt zs i (by omega) hz, Dg.i64_eq rfl (by omega) (by omega), Dg.i64_eq rfl (by omega) (by omega), Dg.vfalse (by omega), Dg.vfalse (by rw [Int.tmod_eq_emod_of_nonneg (by omega)]; omega), idxU (by omega) (by omega), idxU (by omega) (by omega), by omega, Dg.ptr_eq (by omega), ldU hlo, by simp only [Dg.w_u8, Dg.w_u16, Dg.w_u32, Dg.w_i8, Dg.w_i32, Value.int.injEq, true_and]; omega, by simp only [Dg.w_u8, Dg.w_u16, Dg.w_u32, Dg.w_i8, Dg.w_i32, Value.int.injEq, true_and]; omega, by omega, Dg.ptr_eq (by omega), (by first | rfl | exact wrU (os := os) (x := x) rfl (by omega)), (by first | rfl | exact wrU (os := os) (x := x) rfl (by omega)), (by first | rfl | exact wrU (os := os) (x := x) rfl (by omega)), Dg.i64_eq rfl (by omega) (by omega), trivial⟩
--> voa
--< vzal
theorem vzal (zs : List Int) (hi : 0 < List.length zs) (hl : List.length zs ≤ 2000) (hz : 0 ≤ List.getD zs 0 0 ∧ List.getD zs 0 0 < 256) (h0 : List.getD zs 0 0 < 48) :
    runV (Va zs) = some (Ex.ret, ({ ts := [Value.string (txt zs), undef, Value.slice none 0 0, Value.bool false, Value.slice none 0 0, Value.int IntKind.i64 0, Value.int IntKind.i64 255, junk, junk, junk, junk, Value.int IntKind.i64 0, Value.string (txt zs), Value.int IntKind.i64 (↑(ByteArray.size (txt zs)) : Int), Value.bool true, junk, junk, Value.string (txt zs), Value.int IntKind.i64 0, Value.int IntKind.u8 (List.getD zs 0 0), Value.bool false, Value.bool false, undef, undef, undef, undef, Value.bool false, junk, junk, junk, junk, junk, Value.string (txt zs), Value.int IntKind.i64 0, Value.int IntKind.u8 (List.getD zs 0 0), Value.bool false, Value.bool false, undef, undef, undef, undef, Value.bool false, junk, junk, junk, junk, junk, Value.int IntKind.i64 255, Value.bool true, junk, junk, junk, junk, junk, junk, junk, junk, junk, junk, junk, junk, junk, junk, junk, junk, junk, junk, junk, junk, junk, junk, junk, junk], H := { n := 0, objs := [] }, log := [] } : St)) :=
  Dg.evCode_hint (f := 9) (hs' := []) (hs := [Hint.val 9 14 (Value.bool true),
    Hint.soft 9 19 (Value.int IntKind.u8 (List.getD zs 0 0)),
    Hint.val 9 20 (Value.bool false),
    Hint.soft 9 34 (Value.int IntKind.u8 (List.getD zs 0 0)),
    Hint.val 9 35 (Value.bool false)])
    [Value.bool (decide ((0 : Int) < (↑(ByteArray.size (txt zs)) : Int))) = Value.bool true,
    Dg.strAt (txt zs) (0 : Int) = some (List.getD zs (0 : Nat) (0 : Int)),
    Value.bool (decide (List.getD zs (0 : Nat) (0 : Int) ≥ (48 : Int))) = Value.bool false,
    Dg.strAt (txt zs) (0 : Int) = some (List.getD zs (0 : Nat) (0 : Int)),
    Value.bool (decide (List.getD zs (0 : Nat) (0 : Int) ≥ (97 : Int))) = Value.bool false] (by kernel_rfl)
    ⟨Dg.vtrue (by rw [txt_size]; omega), strAt_txt zs 0 (by omega) hz, Dg.vfalse (by omega), strAt_txt zs 0 (by omega) hz, Dg.vfalse (by omega), trivial⟩
--> vzal
--< vzam
theorem vzam (zs : List Int) (hi : 0 < List.length zs) (hl : List.length zs ≤ 2000) (hz : 0 ≤ List.getD zs 0 0 ∧ List.getD zs 0 0 < 256) (h0 : 57 < List.getD zs 0 0) (h1 : List.getD zs 0 0 < 97) :
    runV (Va zs) = some (Ex.ret, ({ ts := [Value.string (txt zs), undef, Value.slice none 0 0, Value.bool false, Value.slice none 0 0, Value.int IntKind.i64 0, Value.int IntKind.i64 255, junk, junk, junk, junk, Value.int IntKind.i64 0, Value.string (txt zs), Value.int IntKind.i64 (↑(ByteArray.size (txt zs)) : Int), Value.bool true, junk, junk, Value.string (txt zs), Value.int IntKind.i64 0, Value.int IntKind.u8 (List.getD zs 0 0), Value.bool true, Value.bool true, Value.string (txt zs), Value.int IntKind.i64 0, Value.int IntKind.u8 (List.getD zs 0 0), Value.bool false, Value.bool false, junk, junk, junk, junk, junk, Value.string (txt zs), Value.int IntKind.i64 0, Value.int IntKind.u8 (List.getD zs 0 0), Value.bool false, Value.bool false, undef, undef, undef, undef, Value.bool false, junk, junk, junk, junk, junk, Value.int IntKind.i64 255, Value.bool true, junk, junk, junk, junk, junk, junk, junk, junk, junk, junk, junk, junk, junk, junk, junk, junk, junk, junk, junk, junk, junk, junk, junk, junk], H := { n := 0, objs := [] }, log := [] } : St)) :=
  Dg.evCode_hint (f := 9) (hs' := []) (hs := [Hint.val 9 14 (Value.bool true),
    Hint.soft 9 19 (Value.int IntKind.u8 (List.getD zs 0 0)),
    Hint.val 9 20 (Value.bool true),
    Hint.soft 9 24 (Value.int IntKind.u8 (List.getD zs 0 0)),
    Hint.val 9 25 (Value.bool false),
    Hint.soft 9 34 (Value.int IntKind.u8 (List.getD zs 0 0)),
    Hint.val 9 35 (Value.bool false)])
    [Value.bool (decide ((0 : Int) < (↑(ByteArray.size (txt zs)) : Int))) = Value.bool true,
    Dg.strAt (txt zs) (0 : Int) = some (List.getD zs (0 : Nat) (0 : Int)),
    Value.bool (decide (List.getD zs (0 : Nat) (0 : Int) ≥ (48 : Int))) = Value.bool true,
    Dg.strAt (txt zs) (0 : Int) = some (List.getD zs (0 : Nat) (0 : Int)),
    Value.bool (decide (List.getD zs (0 : Nat) (0 : Int) ≤ (57 : Int))) = Value.bool false,
    Dg.strAt (txt zs) (0 : Int) = some (List.getD zs (0 : Nat) (0 : Int)),
    Value.bool (decide (List.getD zs (0 : Nat) (0 : Int) ≥ (97 : Int))) = Value.bool false] (by kernel_rfl)
    ⟨Dg.vtrue (by rw [txt_size]; omega), strAt_txt zs 0 (by omega) hz, Dg.vtrue (by omega), strAt_txt zs 0 (by omega) hz, Dg.vfalse (by omega), strAt_txt zs 0 (by omega) hz, Dg.vfalse (by omega), trivial⟩
--> vzam
--< vzah
theorem vzah (zs : List Int) (hi : 0 < List.length zs) (hl : List.length zs ≤ 2000) (hz : 0 ≤ List.getD zs 0 0 ∧ List.getD zs 0 0 < 256) (h0 : 102 < List.getD zs 0 0) :
    runV (Va zs) = some (Ex.ret, ({ ts := [Value.string (txt zs), undef, Value.slice none 0 0, Value.bool false, Value.slice none 0 0, Value.int IntKind.i64 0, Value.int IntKind.i64 255, junk, junk, junk, junk, Value.int IntKind.i64 0, Value.string (txt zs), Value.int IntKind.i64 (↑(ByteArray.size (txt zs)) : Int), Value.bool true, junk, junk, Value.string (txt zs), Value.int IntKind.i64 0, Value.int IntKind.u8 (List.getD zs 0 0), Value.bool true, Value.bool true, Value.string (txt zs), Value.int IntKind.i64 0, Value.int IntKind.u8 (List.getD zs 0 0), Value.bool false, Value.bool false, junk, junk, junk, junk, junk, Value.string (txt zs), Value.int IntKind.i64 0, Value.int IntKind.u8 (List.getD zs 0 0), Value.bool true, Value.bool true, Value.string (txt zs), Value.int IntKind.i64 0, Value.int IntKind.u8 (List.getD zs 0 0), Value.bool false, Value.bool false, junk, junk, junk, junk, junk, Value.int IntKind.i64 255, Value.bool true, junk, junk, junk, junk, junk, junk, junk, junk, junk, junk, junk, junk, junk, junk, junk, junk, junk, junk, junk, junk, junk, junk, junk, junk], H := { n := 0, objs := [] }, log := [] } : St)) :=
  Dg.evCode_hint (f := 9) (hs' := []) (hs := [Hint.val 9 14 (Value.bool true),
    Hint.soft 9 19 (Value.int IntKind.u8 (List.getD zs 0 0)),
    Hint.val 9 20 (Value.bool true),
    Hint.soft 9 24 (Value.int IntKind.u8 (List.getD zs 0 0)),
    Hint.val 9 25 (Value.bool false),
    Hint.soft 9 34 (Value.int IntKind.u8 (List.getD zs 0 0)),
    Hint.val 9 35 (Value.bool true),
    Hint.soft 9 39 (Value.int IntKind.u8 (List.getD zs 0 0)),
    Hint.val 9 40 (Value.bool false)])
    [Value.bool (decide ((0 : Int) < (↑(ByteArray.size (txt zs)) : Int))) = Value.bool true,
    Dg.strAt (txt zs) (0 : Int) = some (List.getD zs (0 : Nat) (0 : Int)),
    Value.bool (decide (List.getD zs (0 : Nat) (0 : Int) ≥ (48 : Int))) = Value.bool true,
    Dg.strAt (txt zs) (0 : Int) = some (List.getD zs (0 : Nat) (0 : Int)),
    Value.bool (decide (List.getD zs (0 : Nat) (0 : Int) ≤ (57 : Int))) = Value.bool false,
    Dg.strAt (txt zs) (0 : Int) = some (List.getD zs (0 : Nat) (0 : Int)),
    Value.bool (decide (List.getD zs (0 : Nat) (0 : Int) ≥ (97 : Int))) = Value.bool true,
    Dg.strAt (txt zs) (0 : Int) = some (List.getD zs (0 : Nat) (0 : Int)),
    Value.bool (decide (List.getD zs (0 : Nat) (0 : Int) ≤ (102 : Int))) = Value.bool false] (by kernel_rfl)
    ⟨Dg.vtrue (by rw [txt_size]; omega), strAt_txt zs 0 (by omega) hz, Dg.vtrue (by omega), strAt_txt zs 0 (by omega) hz, Dg.vfalse (by omega), strAt_txt zs 0 (by omega) hz, Dg.vtrue (by omega), strAt_txt zs 0 (by omega) hz, Dg.vfalse (by omega), trivial⟩
--> vzah
--< vea
theorem vea (zs : List Int) (hi : List.length zs = 0) :
    runV (Va zs) = some (Ex.exit 0, ({ ts := [Value.string (txt zs), undef, Value.slice none 0 0, Value.bool false, Value.slice none 0 0, Value.int IntKind.i64 0, undef, junk, junk, junk, junk, Value.int IntKind.i64 0, Value.string (txt zs), Value.int IntKind.i64 (↑(ByteArray.size (txt zs)) : Int), Value.bool false, junk, junk, junk, junk, junk, junk, junk, junk, junk, junk, junk, junk, junk, junk, junk, junk, junk, junk, junk, junk, junk, junk, junk, junk, junk, junk, junk, junk, junk, junk, junk, junk, junk, junk, junk, junk, junk, junk, junk, junk, junk, junk, junk, junk, junk, junk, junk, junk, junk, junk, junk, junk, junk, junk, junk, junk, junk, junk], H := { n := 0, objs := [] }, log := [] } : St)) :=
  Dg.evCode_hint (f := 9) (hs' := []) (hs := [Hint.val 9 14 (Value.bool false)])
    [Value.bool (decide ((0 : Int) < (↑(ByteArray.size (txt zs)) : Int))) = Value.bool false] (by kernel_rfl)
    ⟨Dg.vfalse (by rw [txt_size]; omega), trivial⟩
--> vea
--< vzbl
theorem vzbl (zs : List Int) (i : Nat) (d0 : Int) (l : Nat) (os : List Int) (hi : i < List.length zs) (hl : List.length zs ≤ 2000) (hz : 0 ≤ List.getD zs i 0 ∧ List.getD zs i 0 < 256) (h0 : List.getD zs i 0 < 48) :
    runV (Vb zs i d0 l os) = some (Ex.ret, ({ ts := [Value.string (txt zs), undef, Value.slice none 0 0, Value.bool false, Value.slice (some { block := 0, off := 0, spot := some 0 }) l l, Value.int IntKind.i64 (↑i : Int), Value.int IntKind.i64 255, junk, junk, junk, junk, Value.int IntKind.i64 (↑i : Int), Value.string (txt zs), Value.int IntKind.i64 (↑(ByteArray.size (txt zs)) : Int), Value.bool true, junk, junk, Value.string (txt zs), Value.int IntKind.i64 (↑i : Int), Value.int IntKind.u8 (List.getD zs i 0), Value.bool false, Value.bool false, undef, undef, undef, undef, Value.bool false, junk, junk, junk, junk, junk, Value.string (txt zs), Value.int IntKind.i64 (↑i : Int), Value.int IntKind.u8 (List.getD zs i 0), Value.bool false, Value.bool false, undef, undef, undef, undef, Value.bool false, junk, junk, junk, junk, junk, Value.int IntKind.i64 255, Value.bool true, junk, junk, junk, junk, junk, junk, junk, junk, junk, junk, junk, junk, junk, junk, junk, junk, junk, junk, junk, junk, junk, junk, junk, junk], H := { n := 1, objs := [AObj.cells (u8s os) 5 5 1] }, log := [] } : St)) :=
  Dg.evCode_hint (f := 9) (hs' := []) (hs := [Hint.val 9 14 (Value.bool true),
    Hint.soft 9 19 (Value.int IntKind.u8 (List.getD zs i 0)),
    Hint.val 9 20 (Value.bool false),
    Hint.soft 9 34 (Value.int IntKind.u8 (List.getD zs i 0)),
    Hint.val 9 35 (Value.bool false)])
    [Value.bool (decide ((↑i : Int) < (↑(ByteArray.size (txt zs)) : Int))) = Value.bool true,
    Dg.strAt (txt zs) (↑i : Int) = some (List.getD zs i (0 : Int)),
    Value.bool (decide (List.getD zs i (0 : Int) ≥ (48 : Int))) = Value.bool false,
    Dg.strAt (txt zs) (↑i : Int) = some (List.getD zs i (0 : Int)),
    Value.bool (decide (List.getD zs i (0 : Int) ≥ (97 : Int))) = Value.bool false] (by kernel_rfl)
    ⟨Dg.vtrue (by rw [txt_size]; omega), strAt_txt zs i (by omega) hz, Dg.vfalse (by omega), strAt_txt zs i (by omega) hz, Dg.vfalse (by omega), trivial⟩
--> vzbl
--< vzbm
theorem vzbm (zs : List Int) (i : Nat) (d0 : Int) (l : Nat) (os : List Int) (hi : i < List.length zs) (hl : List.length zs ≤ 2000) (hz : 0 ≤ List.getD zs i 0 ∧ List.getD zs i 0 < 256) (h0 : 57 < List.getD zs i 0) (h1 : List.getD zs i 0 < 97) :
    runV (Vb zs i d0 l os) = some (Ex.ret, ({ ts := [Value.string (txt zs), undef, Value.slice none 0 0, Value.bool false, Value.slice (some { block := 0, off := 0, spot := some 0 }) l l, Value.int IntKind.i64 (↑i : Int), Value.int IntKind.i64 255, junk, junk, junk, junk, Value.int IntKind.i64 (↑i : Int), Value.string (txt zs), Value.int IntKind.i64 (↑(ByteArray.size (txt zs)) : Int), Value.bool true, junk, junk, Value.string (txt zs), Value.int IntKind.i64 (↑i : Int), Value.int IntKind.u8 (List.getD zs i 0), Value.bool true, Value.bool true, Value.string (txt zs), Value.int IntKind.i64 (↑i : Int), Value.int IntKind.u8 (List.getD zs i 0), Value.bool false, Value.bool false, junk, junk, junk, junk, junk, Value.string (txt zs), Value.int IntKind.i64 (↑i : Int), Value.int IntKind.u8 (List.getD zs i 0), Value.bool false, Value.bool false, undef, undef, undef, undef, Value.bool false, junk, junk, junk, junk, junk, Value.int IntKind.i64 255, Value.bool true, junk, junk, junk, junk, junk, junk, junk, junk, junk, junk, junk, junk, junk, junk, junk, junk, junk, junk, junk, junk, junk, junk, junk, junk], H := { n := 1, objs := [AObj.cells (u8s os) 5 5 1] }, log := [] } : St)) :=
  Dg.evCode_hint (f := 9) (hs' := []) (hs := [Hint.val 9 14 (Value.bool true),
    Hint.soft 9 19 (Value.int IntKind.u8 (List.getD zs i 0)),
    Hint.val 9 20 (Value.bool true),
    Hint.soft 9 24 (Value.int IntKind.u8 (List.getD zs i 0)),
    Hint.val 9 25 (Value.bool false),
    Hint.soft 9 34 (Value.int IntKind.u8 (List.getD zs i 0)),
    Hint.val 9 35 (Value.bool false)])
    [Value.bool (decide ((↑i : Int) < (↑(ByteArray.size (txt zs)) : Int))) = Value.bool true,
    Dg.strAt (txt zs) (↑i : Int) = some (List.getD zs i (0 : Int)),
    Value.bool (decide (List.getD zs i (0 : Int) ≥ (48 : Int))) = Value.bool true,
    Dg.strAt (txt zs) (↑i : Int) = some (List.getD zs i (0 : Int)),
    Value.bool (decide (List.getD zs i (0 : Int) ≤ (57 : Int))) = Value.bool false,
    Dg.strAt (txt zs) (↑i : Int) = some (List.getD zs i (0 : Int)),
    Value.bool (decide (List.getD zs i (0 : Int) ≥ (97 : Int))) = Value.bool false] (by kernel_rfl)
    ⟨Dg.vtrue (by rw [txt_size]; omega), strAt_txt zs i (by omega) hz, Dg.vtrue (by omega), strAt_txt zs i (by omega) hz, Dg.vfalse (by omega), strAt_txt zs i (by omega) hz, Dg.vfalse (by omega), trivial⟩
--> vzbm
--< vzbh
theorem vzbh (zs : List Int) (i : Nat) (d0 : Int) (l : Nat) (os : List Int) (hi : i < List.length zs) (hl : List.length zs ≤ 2000) (hz : 0 ≤ List.getD zs i 0 ∧ List.getD zs i 0 < 256) (h0 : 102 < List.getD zs i 0) :
    runV (Vb zs i d0 l os) = some (Ex.ret, ({ ts := [Value.string (txt zs), undef, Value.slice none 0 0, Value.bool false, Value.slice (some { block := 0, off := 0, spot := some 0 }) l l, Value.int IntKind.i64 (↑i : Int), Value.int IntKind.i64 255, junk, junk, junk, junk, Value.int IntKind.i64 (↑i : Int), Value.string (txt zs), Value.int IntKind.i64 (↑(ByteArray.size (txt zs)) : Int), Value.bool true, junk, junk, Value.string (txt zs), Value.int IntKind.i64 (↑i : Int), Value.int IntKind.u8 (List.getD zs i 0), Value.bool true, Value.bool true, Value.string (txt zs), Value.int IntKind.i64 (↑i : Int), Value.int IntKind.u8 (List.getD zs i 0), Value.bool false, Value.bool false, junk, junk, junk, junk, junk, Value.string (txt zs), Value.int IntKind.i64 (↑i : Int), Value.int IntKind.u8 (List.getD zs i 0), Value.bool true, Value.bool true, Value.string (txt zs), Value.int IntKind.i64 (↑i : Int), Value.int IntKind.u8 (List.getD zs i 0), Value.bool false, Value.bool false, junk, junk, junk, junk, junk, Value.int IntKind.i64 255, Value.bool true, junk, junk, junk, junk, junk, junk, junk, junk, junk, junk, junk, junk, junk, junk, junk, junk, junk, junk, junk, junk, junk, junk, junk, junk], H := { n := 1, objs := [AObj.cells (u8s os) 5 5 1] }, log := [] } : St)) :=
  Dg.evCode_hint (f := 9) (hs' := []) (hs := [Hint.val 9 14 (Value.bool true),
    Hint.soft 9 19 (Value.int IntKind.u8 (List.getD zs i 0)),
    Hint.val 9 20 (Value.bool true),
    Hint.soft 9 24 (Value.int IntKind.u8 (List.getD zs i 0)),
    Hint.val 9 25 (Value.bool false),
    Hint.soft 9 34 (Value.int IntKind.u8 (List.getD zs i 0)),
    Hint.val 9 35 (Value.bool true),
    Hint.soft 9 39 (Value.int IntKind.u8 (List.getD zs i 0)),
    Hint.val 9 40 (Value.bool false)])
    [Value.bool (decide ((↑i : Int) < (↑(ByteArray.size (txt zs)) : Int))) = Value.bool true,
    Dg.strAt (txt zs) (↑i : Int) = some (List.getD zs i (0 : Int)),
    Value.bool (decide (List.getD zs i (0 : Int) ≥ (48 : Int))) = Value.bool true,
    Dg.strAt (txt zs) (↑i : Int) = some (List.getD zs i (0 : Int)),
    Value.bool (decide (List.getD zs i (0 : Int) ≤ (57 : Int))) = Value.bool false,
    Dg.strAt (txt zs) (↑i : Int) = some (List.getD zs i (0 : Int)),
    Value.bool (decide (List.getD zs i (0 : Int) ≥ (97 : Int))) = Value.bool true,
    Dg.strAt (txt zs) (↑i : Int) = some (List.getD zs i (0 : Int)),
    Value.bool (decide (List.getD zs i (0 : Int) ≤ (102 : Int))) = Value.bool false] (by kernel_rfl)
    ⟨Dg.vtrue (by rw [txt_size]; omega), strAt_txt zs i (by omega) hz, Dg.vtrue (by omega), strAt_txt zs i (by omega) hz, Dg.vfalse (by omega), strAt_txt zs i (by omega) hz, Dg.vtrue (by omega), strAt_txt zs i (by omega) hz, Dg.vfalse (by omega), trivial⟩
--> vzbh
--< veb
theorem veb (zs : List Int) (i : Nat) (d0 : Int) (l : Nat) (os : List Int) (hi : List.length zs = i) :
    runV (Vb zs i d0 l os) = some (Ex.exit 0, ({ ts := [Value.string (txt zs), undef, Value.slice none 0 0, Value.bool false, Value.slice (some { block := 0, off := 0, spot := some 0 }) l l, Value.int IntKind.i64 (↑i : Int), Value.int IntKind.i64 d0, junk, junk, junk, junk, Value.int IntKind.i64 (↑i : Int), Value.string (txt zs), Value.int IntKind.i64 (↑(ByteArray.size (txt zs)) : Int), Value.bool false, junk, junk, junk, junk, junk, junk, junk, junk, junk, junk, junk, junk, junk, junk, junk, junk, junk, junk, junk, junk, junk, junk, junk, junk, junk, junk, junk, junk, junk, junk, junk, junk, junk, junk, junk, junk, junk, junk, junk, junk, junk, junk, junk, junk, junk, junk, junk, junk, junk, junk, junk, junk, junk, junk, junk, junk, junk, junk], H := { n := 1, objs := [AObj.cells (u8s os) 5 5 1] }, log := [] } : St)) :=
  Dg.evCode_hint (f := 9) (hs' := []) (hs := [Hint.val 9 14 (Value.bool false)])
    [Value.bool (decide ((↑i : Int) < (↑(ByteArray.size (txt zs)) : Int))) = Value.bool false] (by kernel_rfl)
    ⟨Dg.vfalse (by rw [txt_size]; omega), trivial⟩
--> veb
end Go.Proofs.YtflgpkkbifkpoaaDoor.text
