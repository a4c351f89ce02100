/- How the loop of 'text.Unhex' of layer 4 ends. -/
import Derived.Test.YtflgpkkbifkpoaaDoorRows
import Derived.Test.YtflgpkkbifkpoaaDoorTextUn
namespace Go.Proofs.YtflgpkkbifkpoaaDoor.text
open Go.Dg (junk St Ex Ev Hint evCall evCallS evCode evCodeK innerKp evCodeS evLoop cleanSt ue bodied noOver sbOf headOf tailOf bodyOf rAssign rBody lBody Flats flatOver Heap AObj SCall Law ofLaw Fix)
set_option linter.unusedVariables false
set_option linter.unusedSimpArgs false

theorem next_dec {H : Heap} {k : Nat} {zs : List Int} {pos r x : Nat} (hk : H.get k = .iter (txt zs) pos) (h : pos < zs.length) (hd : Utf8.decode (txt zs) pos = (r, x)) :
    Dg.nextAt H k = some (.tuple #[.bool true, .int .i64 pos, .int .i32 r], H.set k (.iter (txt zs) (pos + x)), [k]) := by
  unfold Dg.nextAt
  rw [hk]
  simp only [txt_size, if_pos h, hd]
  rfl
--< uzal
theorem uzal (zs : List Int) (r : Nat) (x : Nat) (hi : 0 < List.length zs) (hd : Utf8.decode (txt zs) 0 = (r, x)) (h0 : r < 48) :
    runU (Ua zs) = some (Ex.ret, ({ ts := [Value.string (txt zs), undef, Value.slice none 0 0, Value.bool false, Value.slice none 0 0, Value.int IntKind.i64 0, Value.int IntKind.i64 0, Value.int IntKind.i32 (↑r : Int), Value.int IntKind.i64 0, Value.bool false, junk, Value.pointer (some { block := 0, off := 0 }), Value.tuple #[Value.bool true, Value.int IntKind.i64 0, Value.int IntKind.i32 (↑r : Int)], Value.bool true, Value.int IntKind.i64 0, Value.int IntKind.i32 (↑r : Int), Value.tuple #[Value.int IntKind.i64 0, Value.bool false], Value.int IntKind.i32 (↑r : Int), Value.tuple #[Value.int IntKind.i64 0, Value.bool false], Value.int IntKind.i64 0, Value.bool false, Value.bool false, Value.bool true, junk, junk, junk, junk, junk, junk, junk, junk, junk, junk, junk, junk, junk, junk, junk, junk, junk], H := { n := 1, objs := [AObj.iter (txt zs) (0 + x)] }, log := [] } : St)) :=
  Dg.evCode_hint (f := 8) (hs' := []) (hs := [Hint.softH 8 12 (Value.tuple #[Value.bool true, Value.int IntKind.i64 0, Value.int IntKind.i32 (↑r : Int)]) { n := 1, objs := [AObj.iter (txt zs) (0 + x)] } [0],
    Hint.val 23 6 (Value.int IntKind.i32 ((↑r : Int) - 48)),
    Hint.val 23 7 (Value.int IntKind.i64 ((↑r : Int) - 48)),
    Hint.val 23 10 (Value.bool false),
    Hint.val 23 17 (Value.bool false)])
    [Dg.nextAt { n := (1 : Nat), objs := [AObj.iter (txt zs) (0 : Nat)] } (0 : Nat) = some (Value.tuple #[Value.bool true, Value.int IntKind.i64 (0 : Int), Value.int IntKind.i32 (↑r : Int)], { n := (1 : Nat), objs := [AObj.iter (txt zs) ((0 : Nat) + x)] }, [(0 : Nat)]),
    Value.int IntKind.i32 (IntKind.wrap IntKind.i32 ((↑r : Int) - (48 : Int))) = Value.int IntKind.i32 ((↑r : Int) - (48 : Int)),
    Value.int IntKind.i64 (IntKind.wrap IntKind.i64 ((↑r : Int) - (48 : Int))) = Value.int IntKind.i64 ((↑r : Int) - (48 : Int)),
    Value.bool (decide ((↑r : Int) ≥ (97 : Int))) = Value.bool false,
    Value.bool (decide ((↑r : Int) ≥ (48 : Int))) = Value.bool false] (by kernel_rfl)
    ⟨next_dec (pos := 0) rfl (by omega) hd, by simp only [Dg.w_u8, Dg.w_u16, Dg.w_u32, Dg.w_i8, Dg.w_i32, Value.int.injEq, true_and]; omega, Dg.i64_eq rfl (by omega) (by omega), Dg.vfalse (by omega), Dg.vfalse (by omega), trivial⟩
--> uzal
--< uzam
theorem uzam (zs : List Int) (r : Nat) (x : Nat) (hi : 0 < List.length zs) (hd : Utf8.decode (txt zs) 0 = (r, x)) (h0 : 57 < r) (h1 : r < 97) :
    runU (Ua zs) = some (Ex.ret, ({ ts := [Value.string (txt zs), undef, Value.slice none 0 0, Value.bool false, Value.slice none 0 0, Value.int IntKind.i64 0, Value.int IntKind.i64 0, Value.int IntKind.i32 (↑r : Int), Value.int IntKind.i64 0, Value.bool false, junk, Value.pointer (some { block := 0, off := 0 }), Value.tuple #[Value.bool true, Value.int IntKind.i64 0, Value.int IntKind.i32 (↑r : Int)], Value.bool true, Value.int IntKind.i64 0, Value.int IntKind.i32 (↑r : Int), Value.tuple #[Value.int IntKind.i64 0, Value.bool false], Value.int IntKind.i32 (↑r : Int), Value.tuple #[Value.int IntKind.i64 0, Value.bool false], Value.int IntKind.i64 0, Value.bool false, Value.bool false, Value.bool true, junk, junk, junk, junk, junk, junk, junk, junk, junk, junk, junk, junk, junk, junk, junk, junk, junk], H := { n := 1, objs := [AObj.iter (txt zs) (0 + x)] }, log := [] } : St)) :=
  Dg.evCode_hint (f := 8) (hs' := []) (hs := [Hint.softH 8 12 (Value.tuple #[Value.bool true, Value.int IntKind.i64 0, Value.int IntKind.i32 (↑r : Int)]) { n := 1, objs := [AObj.iter (txt zs) (0 + x)] } [0],
    Hint.val 23 6 (Value.int IntKind.i32 ((↑r : Int) - 48)),
    Hint.val 23 7 (Value.int IntKind.i64 ((↑r : Int) - 48)),
    Hint.val 23 10 (Value.bool false),
    Hint.val 23 17 (Value.bool true),
    Hint.val 23 20 (Value.bool false)])
    [Dg.nextAt { n := (1 : Nat), objs := [AObj.iter (txt zs) (0 : Nat)] } (0 : Nat) = some (Value.tuple #[Value.bool true, Value.int IntKind.i64 (0 : Int), Value.int IntKind.i32 (↑r : Int)], { n := (1 : Nat), objs := [AObj.iter (txt zs) ((0 : Nat) + x)] }, [(0 : Nat)]),
    Value.int IntKind.i32 (IntKind.wrap IntKind.i32 ((↑r : Int) - (48 : Int))) = Value.int IntKind.i32 ((↑r : Int) - (48 : Int)),
    Value.int IntKind.i64 (IntKind.wrap IntKind.i64 ((↑r : Int) - (48 : Int))) = Value.int IntKind.i64 ((↑r : Int) - (48 : Int)),
    Value.bool (decide ((↑r : Int) ≥ (97 : Int))) = Value.bool false,
    Value.bool (decide ((↑r : Int) ≥ (48 : Int))) = Value.bool true,
    Value.bool (decide ((↑r : Int) ≤ (57 : Int))) = Value.bool false] (by kernel_rfl)
    ⟨next_dec (pos := 0) rfl (by omega) hd, by simp only [Dg.w_u8, Dg.w_u16, Dg.w_u32, Dg.w_i8, Dg.w_i32, Value.int.injEq, true_and]; omega, Dg.i64_eq rfl (by omega) (by omega), Dg.vfalse (by omega), Dg.vtrue (by omega), Dg.vfalse (by omega), trivial⟩
--> uzam
--< uzah
theorem uzah (zs : List Int) (r : Nat) (x : Nat) (hi : 0 < List.length zs) (hd : Utf8.decode (txt zs) 0 = (r, x)) (h0 : 102 < r) (h1 : r ≤ 1114111) :
    runU (Ua zs) = some (Ex.ret, ({ ts := [Value.string (txt zs), undef, Value.slice none 0 0, Value.bool false, Value.slice none 0 0, Value.int IntKind.i64 0, Value.int IntKind.i64 0, Value.int IntKind.i32 (↑r : Int), Value.int IntKind.i64 0, Value.bool false, junk, Value.pointer (some { block := 0, off := 0 }), Value.tuple #[Value.bool true, Value.int IntKind.i64 0, Value.int IntKind.i32 (↑r : Int)], Value.bool true, Value.int IntKind.i64 0, Value.int IntKind.i32 (↑r : Int), Value.tuple #[Value.int IntKind.i64 0, Value.bool false], Value.int IntKind.i32 (↑r : Int), Value.tuple #[Value.int IntKind.i64 0, Value.bool false], Value.int IntKind.i64 0, Value.bool false, Value.bool false, Value.bool true, junk, junk, junk, junk, junk, junk, junk, junk, junk, junk, junk, junk, junk, junk, junk, junk, junk], H := { n := 1, objs := [AObj.iter (txt zs) (0 + x)] }, log := [] } : St)) :=
  Dg.evCode_hint (f := 8) (hs' := []) (hs := [Hint.softH 8 12 (Value.tuple #[Value.bool true, Value.int IntKind.i64 0, Value.int IntKind.i32 (↑r : Int)]) { n := 1, objs := [AObj.iter (txt zs) (0 + x)] } [0],
    Hint.val 23 6 (Value.int IntKind.i32 ((↑r : Int) - 48)),
    Hint.val 23 7 (Value.int IntKind.i64 ((↑r : Int) - 48)),
    Hint.val 23 10 (Value.bool true),
    Hint.val 23 13 (Value.bool false),
    Hint.val 23 17 (Value.bool true),
    Hint.val 23 20 (Value.bool false)])
    [Dg.nextAt { n := (1 : Nat), objs := [AObj.iter (txt zs) (0 : Nat)] } (0 : Nat) = some (Value.tuple #[Value.bool true, Value.int IntKind.i64 (0 : Int), Value.int IntKind.i32 (↑r : Int)], { n := (1 : Nat), objs := [AObj.iter (txt zs) ((0 : Nat) + x)] }, [(0 : Nat)]),
    Value.int IntKind.i32 (IntKind.wrap IntKind.i32 ((↑r : Int) - (48 : Int))) = Value.int IntKind.i32 ((↑r : Int) - (48 : Int)),
    Value.int IntKind.i64 (IntKind.wrap IntKind.i64 ((↑r : Int) - (48 : Int))) = Value.int IntKind.i64 ((↑r : Int) - (48 : Int)),
    Value.bool (decide ((↑r : Int) ≥ (97 : Int))) = Value.bool true,
    Value.bool (decide ((↑r : Int) ≤ (102 : Int))) = Value.bool false,
    Value.bool (decide ((↑r : Int) ≥ (48 : Int))) = Value.bool true,
    Value.bool (decide ((↑r : Int) ≤ (57 : Int))) = Value.bool false] (by kernel_rfl)
    ⟨next_dec (pos := 0) rfl (by omega) hd, by simp only [Dg.w_u8, Dg.w_u16, Dg.w_u32, Dg.w_i8, Dg.w_i32, Value.int.injEq, true_and]; omega, Dg.i64_eq rfl (by omega) (by omega), Dg.vtrue (by omega), Dg.vfalse (by omega), Dg.vtrue (by omega), Dg.vfalse (by omega), trivial⟩
--> uzah
--< uea
theorem uea (zs : List Int) (hi : List.length zs = 0) :
    runU (Ua zs) = some (Ex.exit 0, ({ ts := [Value.string (txt zs), undef, Value.slice none 0 0, Value.bool false, Value.slice none 0 0, Value.int IntKind.i64 0, undef, undef, undef, undef, junk, Value.pointer (some { block := 0, off := 0 }), Value.tuple #[Value.bool false], Value.bool false, junk, junk, junk, junk, junk, junk, junk, junk, junk, junk, junk, junk, junk, junk, junk, junk, junk, junk, junk, junk, junk, junk, junk, junk, junk, junk], H := { n := 1, objs := [AObj.iter (txt zs) 0] }, log := [] } : St)) :=
  Dg.evCode_hint (f := 8) (hs' := []) (hs := [Hint.softH 8 12 (Value.tuple #[Value.bool false]) { n := 1, objs := [AObj.iter (txt zs) 0] } []])
    [Dg.nextAt { n := (1 : Nat), objs := [AObj.iter (txt zs) (0 : Nat)] } (0 : Nat) = some (Value.tuple #[Value.bool false], { n := (1 : Nat), objs := [AObj.iter (txt zs) (0 : Nat)] }, [])] (by kernel_rfl)
    ⟨next_end (pos := 0) rfl (by omega), trivial⟩
--> uea
--< uzbl
theorem uzbl (zs : List Int) (h : Int) (z0 : Int) (r : Nat) (x : Nat) (hi : 1 < List.length zs) (hd : Utf8.decode (txt zs) 1 = (r, x)) (h0 : r < 48) :
    runU (Ub zs h z0) = some (Ex.ret, ({ ts := [Value.string (txt zs), undef, Value.slice none 0 0, Value.bool false, Value.slice none 0 0, Value.int IntKind.i64 h, Value.int IntKind.i64 1, Value.int IntKind.i32 (↑r : Int), Value.int IntKind.i64 0, Value.bool false, junk, Value.pointer (some { block := 0, off := 0 }), Value.tuple #[Value.bool true, Value.int IntKind.i64 1, Value.int IntKind.i32 (↑r : Int)], Value.bool true, Value.int IntKind.i64 1, Value.int IntKind.i32 (↑r : Int), Value.tuple #[Value.int IntKind.i64 0, Value.bool false], Value.int IntKind.i32 (↑r : Int), Value.tuple #[Value.int IntKind.i64 0, Value.bool false], Value.int IntKind.i64 0, Value.bool false, Value.bool false, Value.bool true, junk, junk, junk, junk, junk, junk, junk, junk, junk, junk, junk, junk, junk, junk, junk, junk, junk], H := { n := 1, objs := [AObj.iter (txt zs) (1 + x)] }, log := [] } : St)) :=
  Dg.evCode_hint (f := 8) (hs' := []) (hs := [Hint.softH 8 12 (Value.tuple #[Value.bool true, Value.int IntKind.i64 1, Value.int IntKind.i32 (↑r : Int)]) { n := 1, objs := [AObj.iter (txt zs) (1 + x)] } [0],
    Hint.val 23 6 (Value.int IntKind.i32 ((↑r : Int) - 48)),
    Hint.val 23 7 (Value.int IntKind.i64 ((↑r : Int) - 48)),
    Hint.val 23 10 (Value.bool false),
    Hint.val 23 17 (Value.bool false)])
    [Dg.nextAt { n := (1 : Nat), objs := [AObj.iter (txt zs) (1 : Nat)] } (0 : Nat) = some (Value.tuple #[Value.bool true, Value.int IntKind.i64 (1 : Int), Value.int IntKind.i32 (↑r : Int)], { n := (1 : Nat), objs := [AObj.iter (txt zs) ((1 : Nat) + x)] }, [(0 : Nat)]),
    Value.int IntKind.i32 (IntKind.wrap IntKind.i32 ((↑r : Int) - (48 : Int))) = Value.int IntKind.i32 ((↑r : Int) - (48 : Int)),
    Value.int IntKind.i64 (IntKind.wrap IntKind.i64 ((↑r : Int) - (48 : Int))) = Value.int IntKind.i64 ((↑r : Int) - (48 : Int)),
    Value.bool (decide ((↑r : Int) ≥ (97 : Int))) = Value.bool false,
    Value.bool (decide ((↑r : Int) ≥ (48 : Int))) = Value.bool false] (by kernel_rfl)
    ⟨next_dec (pos := 1) rfl (by omega) hd, by simp only [Dg.w_u8, Dg.w_u16, Dg.w_u32, Dg.w_i8, Dg.w_i32, Value.int.injEq, true_and]; omega, Dg.i64_eq rfl (by omega) (by omega), Dg.vfalse (by omega), Dg.vfalse (by omega), trivial⟩
--> uzbl
--< uzbm
theorem uzbm (zs : List Int) (h : Int) (z0 : Int) (r : Nat) (x : Nat) (hi : 1 < List.length zs) (hd : Utf8.decode (txt zs) 1 = (r, x)) (h0 : 57 < r) (h1 : r < 97) :
    runU (Ub zs h z0) = some (Ex.ret, ({ ts := [Value.string (txt zs), undef, Value.slice none 0 0, Value.bool false, Value.slice none 0 0, Value.int IntKind.i64 h, Value.int IntKind.i64 1, Value.int IntKind.i32 (↑r : Int), Value.int IntKind.i64 0, Value.bool false, junk, Value.pointer (some { block := 0, off := 0 }), Value.tuple #[Value.bool true, Value.int IntKind.i64 1, Value.int IntKind.i32 (↑r : Int)], Value.bool true, Value.int IntKind.i64 1, Value.int IntKind.i32 (↑r : Int), Value.tuple #[Value.int IntKind.i64 0, Value.bool false], Value.int IntKind.i32 (↑r : Int), Value.tuple #[Value.int IntKind.i64 0, Value.bool false], Value.int IntKind.i64 0, Value.bool false, Value.bool false, Value.bool true, junk, junk, junk, junk, junk, junk, junk, junk, junk, junk, junk, junk, junk, junk, junk, junk, junk], H := { n := 1, objs := [AObj.iter (txt zs) (1 + x)] }, log := [] } : St)) :=
  Dg.evCode_hint (f := 8) (hs' := []) (hs := [Hint.softH 8 12 (Value.tuple #[Value.bool true, Value.int IntKind.i64 1, Value.int IntKind.i32 (↑r : Int)]) { n := 1, objs := [AObj.iter (txt zs) (1 + x)] } [0],
    Hint.val 23 6 (Value.int IntKind.i32 ((↑r : Int) - 48)),
    Hint.val 23 7 (Value.int IntKind.i64 ((↑r : Int) - 48)),
    Hint.val 23 10 (Value.bool false),
    Hint.val 23 17 (Value.bool true),
    Hint.val 23 20 (Value.bool false)])
    [Dg.nextAt { n := (1 : Nat), objs := [AObj.iter (txt zs) (1 : Nat)] } (0 : Nat) = some (Value.tuple #[Value.bool true, Value.int IntKind.i64 (1 : Int), Value.int IntKind.i32 (↑r : Int)], { n := (1 : Nat), objs := [AObj.iter (txt zs) ((1 : Nat) + x)] }, [(0 : Nat)]),
    Value.int IntKind.i32 (IntKind.wrap IntKind.i32 ((↑r : Int) - (48 : Int))) = Value.int IntKind.i32 ((↑r : Int) - (48 : Int)),
    Value.int IntKind.i64 (IntKind.wrap IntKind.i64 ((↑r : Int) - (48 : Int))) = Value.int IntKind.i64 ((↑r : Int) - (48 : Int)),
    Value.bool (decide ((↑r : Int) ≥ (97 : Int))) = Value.bool false,
    Value.bool (decide ((↑r : Int) ≥ (48 : Int))) = Value.bool true,
    Value.bool (decide ((↑r : Int) ≤ (57 : Int))) = Value.bool false] (by kernel_rfl)
    ⟨next_dec (pos := 1) rfl (by omega) hd, by simp only [Dg.w_u8, Dg.w_u16, Dg.w_u32, Dg.w_i8, Dg.w_i32, Value.int.injEq, true_and]; omega, Dg.i64_eq rfl (by omega) (by omega), Dg.vfalse (by omega), Dg.vtrue (by omega), Dg.vfalse (by omega), trivial⟩
--> uzbm
--< uzbh
theorem uzbh (zs : List Int) (h : Int) (z0 : Int) (r : Nat) (x : Nat) (hi : 1 < List.length zs) (hd : Utf8.decode (txt zs) 1 = (r, x)) (h0 : 102 < r) (h1 : r ≤ 1114111) :
    runU (Ub zs h z0) = some (Ex.ret, ({ ts := [Value.string (txt zs), undef, Value.slice none 0 0, Value.bool false, Value.slice none 0 0, Value.int IntKind.i64 h, Value.int IntKind.i64 1, Value.int IntKind.i32 (↑r : Int), Value.int IntKind.i64 0, Value.bool false, junk, Value.pointer (some { block := 0, off := 0 }), Value.tuple #[Value.bool true, Value.int IntKind.i64 1, Value.int IntKind.i32 (↑r : Int)], Value.bool true, Value.int IntKind.i64 1, Value.int IntKind.i32 (↑r : Int), Value.tuple #[Value.int IntKind.i64 0, Value.bool false], Value.int IntKind.i32 (↑r : Int), Value.tuple #[Value.int IntKind.i64 0, Value.bool false], Value.int IntKind.i64 0, Value.bool false, Value.bool false, Value.bool true, junk, junk, junk, junk, junk, junk, junk, junk, junk, junk, junk, junk, junk, junk, junk, junk, junk], H := { n := 1, objs := [AObj.iter (txt zs) (1 + x)] }, log := [] } : St)) :=
  Dg.evCode_hint (f := 8) (hs' := []) (hs := [Hint.softH 8 12 (Value.tuple #[Value.bool true, Value.int IntKind.i64 1, Value.int IntKind.i32 (↑r : Int)]) { n := 1, objs := [AObj.iter (txt zs) (1 + x)] } [0],
    Hint.val 23 6 (Value.int IntKind.i32 ((↑r : Int) - 48)),
    Hint.val 23 7 (Value.int IntKind.i64 ((↑r : Int) - 48)),
    Hint.val 23 10 (Value.bool true),
    Hint.val 23 13 (Value.bool false),
    Hint.val 23 17 (Value.bool true),
    Hint.val 23 20 (Value.bool false)])
    [Dg.nextAt { n := (1 : Nat), objs := [AObj.iter (txt zs) (1 : Nat)] } (0 : Nat) = some (Value.tuple #[Value.bool true, Value.int IntKind.i64 (1 : Int), Value.int IntKind.i32 (↑r : Int)], { n := (1 : Nat), objs := [AObj.iter (txt zs) ((1 : Nat) + x)] }, [(0 : Nat)]),
    Value.int IntKind.i32 (IntKind.wrap IntKind.i32 ((↑r : Int) - (48 : Int))) = Value.int IntKind.i32 ((↑r : Int) - (48 : Int)),
    Value.int IntKind.i64 (IntKind.wrap IntKind.i64 ((↑r : Int) - (48 : Int))) = Value.int IntKind.i64 ((↑r : Int) - (48 : Int)),
    Value.bool (decide ((↑r : Int) ≥ (97 : Int))) = Value.bool true,
    Value.bool (decide ((↑r : Int) ≤ (102 : Int))) = Value.bool false,
    Value.bool (decide ((↑r : Int) ≥ (48 : Int))) = Value.bool true,
    Value.bool (decide ((↑r : Int) ≤ (57 : Int))) = Value.bool false] (by kernel_rfl)
    ⟨next_dec (pos := 1) rfl (by omega) hd, by simp only [Dg.w_u8, Dg.w_u16, Dg.w_u32, Dg.w_i8, Dg.w_i32, Value.int.injEq, true_and]; omega, Dg.i64_eq rfl (by omega) (by omega), Dg.vtrue (by omega), Dg.vfalse (by omega), Dg.vtrue (by omega), Dg.vfalse (by omega), trivial⟩
--> uzbh
--< ueb
theorem ueb (zs : List Int) (h : Int) (z0 : Int) (hi : List.length zs = 1) :
    runU (Ub zs h z0) = some (Ex.exit 0, ({ ts := [Value.string (txt zs), undef, Value.slice none 0 0, Value.bool false, Value.slice none 0 0, Value.int IntKind.i64 h, Value.int IntKind.i64 0, Value.int IntKind.i32 z0, Value.int IntKind.i64 h, Value.bool true, junk, Value.pointer (some { block := 0, off := 0 }), Value.tuple #[Value.bool false], Value.bool false, junk, junk, junk, junk, junk, junk, junk, junk, junk, junk, junk, junk, junk, junk, junk, junk, junk, junk, junk, junk, junk, junk, junk, junk, junk, junk], H := { n := 1, objs := [AObj.iter (txt zs) 1] }, log := [] } : St)) :=
  Dg.evCode_hint (f := 8) (hs' := []) (hs := [Hint.softH 8 12 (Value.tuple #[Value.bool false]) { n := 1, objs := [AObj.iter (txt zs) 1] } []])
    [Dg.nextAt { n := (1 : Nat), objs := [AObj.iter (txt zs) (1 : Nat)] } (0 : Nat) = some (Value.tuple #[Value.bool false], { n := (1 : Nat), objs := [AObj.iter (txt zs) (1 : Nat)] }, [])] (by kernel_rfl)
    ⟨next_end (pos := 1) rfl (by omega), trivial⟩
--> ueb
--< uzcl
theorem uzcl (zs : List Int) (i : Nat) (h : Int) (z0 : Int) (d0 : Int) (os : List Int) (r : Nat) (x : Nat) (hi : i + 1 < List.length zs) (hd : Utf8.decode (txt zs) (i + 1) = (r, x)) (h0 : r < 48) :
    runU (Uc zs i h z0 d0 os) = some (Ex.ret, ({ ts := [Value.string (txt zs), undef, Value.slice none 0 0, Value.bool false, Value.slice (some { block := 0, off := 0, spot := some 0 }) (List.length os) (List.length os), Value.int IntKind.i64 h, Value.int IntKind.i64 (↑(i + 1) : Int), Value.int IntKind.i32 (↑r : Int), Value.int IntKind.i64 0, Value.bool false, junk, Value.pointer (some { block := 1, off := 0 }), Value.tuple #[Value.bool true, Value.int IntKind.i64 (↑(i + 1) : Int), Value.int IntKind.i32 (↑r : Int)], Value.bool true, Value.int IntKind.i64 (↑(i + 1) : Int), Value.int IntKind.i32 (↑r : Int), Value.tuple #[Value.int IntKind.i64 0, Value.bool false], Value.int IntKind.i32 (↑r : Int), Value.tuple #[Value.int IntKind.i64 0, Value.bool false], Value.int IntKind.i64 0, Value.bool false, Value.bool false, Value.bool true, junk, junk, junk, junk, junk, junk, junk, junk, junk, junk, junk, junk, junk, junk, junk, junk, junk], H := { n := 2, objs := [AObj.iter (txt zs) (i + 1 + x), AObj.cells (u8s os) 5 5 1] }, log := [] } : St)) :=
  Dg.evCode_hint (f := 8) (hs' := []) (hs := [Hint.softH 8 12 (Value.tuple #[Value.bool true, Value.int IntKind.i64 (↑(i + 1) : Int), Value.int IntKind.i32 (↑r : Int)]) { n := 2, objs := [AObj.iter (txt zs) (i + 1 + x), AObj.cells (u8s os) 5 5 1] } [1],
    Hint.val 23 6 (Value.int IntKind.i32 ((↑r : Int) - 48)),
    Hint.val 23 7 (Value.int IntKind.i64 ((↑r : Int) - 48)),
    Hint.val 23 10 (Value.bool false),
    Hint.val 23 17 (Value.bool false)])
    [Dg.nextAt { n := (2 : Nat), objs := [AObj.iter (txt zs) (i + (1 : Nat)), AObj.cells (u8s os) (5 : Nat) (5 : Nat) (1 : Nat)] } (1 : Nat) = some (Value.tuple #[Value.bool true, Value.int IntKind.i64 (↑(i + (1 : Nat)) : Int), Value.int IntKind.i32 (↑r : Int)], { n := (2 : Nat), objs := [AObj.iter (txt zs) (i + (1 : Nat) + x), AObj.cells (u8s os) (5 : Nat) (5 : Nat) (1 : Nat)] }, [(1 : Nat)]),
    Value.int IntKind.i32 (IntKind.wrap IntKind.i32 ((↑r : Int) - (48 : Int))) = Value.int IntKind.i32 ((↑r : Int) - (48 : Int)),
    Value.int IntKind.i64 (IntKind.wrap IntKind.i64 ((↑r : Int) - (48 : Int))) = Value.int IntKind.i64 ((↑r : Int) - (48 : Int)),
    Value.bool (decide ((↑r : Int) ≥ (97 : Int))) = Value.bool false,
    Value.bool (decide ((↑r : Int) ≥ (48 : Int))) = Value.bool false] (by kernel_rfl)
    ⟨next_dec (pos := i + 1) rfl (by omega) hd, by simp only [Dg.w_u8, Dg.w_u16, Dg.w_u32, Dg.w_i8, Dg.w_i32, Value.int.injEq, true_and]; omega, Dg.i64_eq rfl (by omega) (by omega), Dg.vfalse (by omega), Dg.vfalse (by omega), trivial⟩
--> uzcl
--< uzcm
theorem uzcm (zs : List Int) (i : Nat) (h : Int) (z0 : Int) (d0 : Int) (os : List Int) (r : Nat) (x : Nat) (hi : i + 1 < List.length zs) (hd : Utf8.decode (txt zs) (i + 1) = (r, x)) (h0 : 57 < r) (h1 : r < 97) :
    runU (Uc zs i h z0 d0 os) = some (Ex.ret, ({ ts := [Value.string (txt zs), undef, Value.slice none 0 0, Value.bool false, Value.slice (some { block := 0, off := 0, spot := some 0 }) (List.length os) (List.length os), Value.int IntKind.i64 h, Value.int IntKind.i64 (↑(i + 1) : Int), Value.int IntKind.i32 (↑r : Int), Value.int IntKind.i64 0, Value.bool false, junk, Value.pointer (some { block := 1, off := 0 }), Value.tuple #[Value.bool true, Value.int IntKind.i64 (↑(i + 1) : Int), Value.int IntKind.i32 (↑r : Int)], Value.bool true, Value.int IntKind.i64 (↑(i + 1) : Int), Value.int IntKind.i32 (↑r : Int), Value.tuple #[Value.int IntKind.i64 0, Value.bool false], Value.int IntKind.i32 (↑r : Int), Value.tuple #[Value.int IntKind.i64 0, Value.bool false], Value.int IntKind.i64 0, Value.bool false, Value.bool false, Value.bool true, junk, junk, junk, junk, junk, junk, junk, junk, junk, junk, junk, junk, junk, junk, junk, junk, junk], H := { n := 2, objs := [AObj.iter (txt zs) (i + 1 + x), AObj.cells (u8s os) 5 5 1] }, log := [] } : St)) :=
  Dg.evCode_hint (f := 8) (hs' := []) (hs := [Hint.softH 8 12 (Value.tuple #[Value.bool true, Value.int IntKind.i64 (↑(i + 1) : Int), Value.int IntKind.i32 (↑r : Int)]) { n := 2, objs := [AObj.iter (txt zs) (i + 1 + x), AObj.cells (u8s os) 5 5 1] } [1],
    Hint.val 23 6 (Value.int IntKind.i32 ((↑r : Int) - 48)),
    Hint.val 23 7 (Value.int IntKind.i64 ((↑r : Int) - 48)),
    Hint.val 23 10 (Value.bool false),
    Hint.val 23 17 (Value.bool true),
    Hint.val 23 20 (Value.bool false)])
    [Dg.nextAt { n := (2 : Nat), objs := [AObj.iter (txt zs) (i + (1 : Nat)), AObj.cells (u8s os) (5 : Nat) (5 : Nat) (1 : Nat)] } (1 : Nat) = some (Value.tuple #[Value.bool true, Value.int IntKind.i64 (↑(i + (1 : Nat)) : Int), Value.int IntKind.i32 (↑r : Int)], { n := (2 : Nat), objs := [AObj.iter (txt zs) (i + (1 : Nat) + x), AObj.cells (u8s os) (5 : Nat) (5 : Nat) (1 : Nat)] }, [(1 : Nat)]),
    Value.int IntKind.i32 (IntKind.wrap IntKind.i32 ((↑r : Int) - (48 : Int))) = Value.int IntKind.i32 ((↑r : Int) - (48 : Int)),
    Value.int IntKind.i64 (IntKind.wrap IntKind.i64 ((↑r : Int) - (48 : Int))) = Value.int IntKind.i64 ((↑r : Int) - (48 : Int)),
    Value.bool (decide ((↑r : Int) ≥ (97 : Int))) = Value.bool false,
    Value.bool (decide ((↑r : Int) ≥ (48 : Int))) = Value.bool true,
    Value.bool (decide ((↑r : Int) ≤ (57 : Int))) = Value.bool false] (by kernel_rfl)
    ⟨next_dec (pos := i + 1) rfl (by omega) hd, by simp only [Dg.w_u8, Dg.w_u16, Dg.w_u32, Dg.w_i8, Dg.w_i32, Value.int.injEq, true_and]; omega, Dg.i64_eq rfl (by omega) (by omega), Dg.vfalse (by omega), Dg.vtrue (by omega), Dg.vfalse (by omega), trivial⟩
--> uzcm
--< uzch
theorem uzch (zs : List Int) (i : Nat) (h : Int) (z0 : Int) (d0 : Int) (os : List Int) (r : Nat) (x : Nat) (hi : i + 1 < List.length zs) (hd : Utf8.decode (txt zs) (i + 1) = (r, x)) (h0 : 102 < r) (h1 : r ≤ 1114111) :
    runU (Uc zs i h z0 d0 os) = some (Ex.ret, ({ ts := [Value.string (txt zs), undef, Value.slice none 0 0, Value.bool false, Value.slice (some { block := 0, off := 0, spot := some 0 }) (List.length os) (List.length os), Value.int IntKind.i64 h, Value.int IntKind.i64 (↑(i + 1) : Int), Value.int IntKind.i32 (↑r : Int), Value.int IntKind.i64 0, Value.bool false, junk, Value.pointer (some { block := 1, off := 0 }), Value.tuple #[Value.bool true, Value.int IntKind.i64 (↑(i + 1) : Int), Value.int IntKind.i32 (↑r : Int)], Value.bool true, Value.int IntKind.i64 (↑(i + 1) : Int), Value.int IntKind.i32 (↑r : Int), Value.tuple #[Value.int IntKind.i64 0, Value.bool false], Value.int IntKind.i32 (↑r : Int), Value.tuple #[Value.int IntKind.i64 0, Value.bool false], Value.int IntKind.i64 0, Value.bool false, Value.bool false, Value.bool true, junk, junk, junk, junk, junk, junk, junk, junk, junk, junk, junk, junk, junk, junk, junk, junk, junk], H := { n := 2, objs := [AObj.iter (txt zs) (i + 1 + x), AObj.cells (u8s os) 5 5 1] }, log := [] } : St)) :=
  Dg.evCode_hint (f := 8) (hs' := []) (hs := [Hint.softH 8 12 (Value.tuple #[Value.bool true, Value.int IntKind.i64 (↑(i + 1) : Int), Value.int IntKind.i32 (↑r : Int)]) { n := 2, objs := [AObj.iter (txt zs) (i + 1 + x), AObj.cells (u8s os) 5 5 1] } [1],
    Hint.val 23 6 (Value.int IntKind.i32 ((↑r : Int) - 48)),
    Hint.val 23 7 (Value.int IntKind.i64 ((↑r : Int) - 48)),
    Hint.val 23 10 (Value.bool true),
    Hint.val 23 13 (Value.bool false),
    Hint.val 23 17 (Value.bool true),
    Hint.val 23 20 (Value.bool false)])
    [Dg.nextAt { n := (2 : Nat), objs := [AObj.iter (txt zs) (i + (1 : Nat)), AObj.cells (u8s os) (5 : Nat) (5 : Nat) (1 : Nat)] } (1 : Nat) = some (Value.tuple #[Value.bool true, Value.int IntKind.i64 (↑(i + (1 : Nat)) : Int), Value.int IntKind.i32 (↑r : Int)], { n := (2 : Nat), objs := [AObj.iter (txt zs) (i + (1 : Nat) + x), AObj.cells (u8s os) (5 : Nat) (5 : Nat) (1 : Nat)] }, [(1 : Nat)]),
    Value.int IntKind.i32 (IntKind.wrap IntKind.i32 ((↑r : Int) - (48 : Int))) = Value.int IntKind.i32 ((↑r : Int) - (48 : Int)),
    Value.int IntKind.i64 (IntKind.wrap IntKind.i64 ((↑r : Int) - (48 : Int))) = Value.int IntKind.i64 ((↑r : Int) - (48 : Int)),
    Value.bool (decide ((↑r : Int) ≥ (97 : Int))) = Value.bool true,
    Value.bool (decide ((↑r : Int) ≤ (102 : Int))) = Value.bool false,
    Value.bool (decide ((↑r : Int) ≥ (48 : Int))) = Value.bool true,
    Value.bool (decide ((↑r : Int) ≤ (57 : Int))) = Value.bool false] (by kernel_rfl)
    ⟨next_dec (pos := i + 1) rfl (by omega) hd, by simp only [Dg.w_u8, Dg.w_u16, Dg.w_u32, Dg.w_i8, Dg.w_i32, Value.int.injEq, true_and]; omega, Dg.i64_eq rfl (by omega) (by omega), Dg.vtrue (by omega), Dg.vfalse (by omega), Dg.vtrue (by omega), Dg.vfalse (by omega), trivial⟩
--> uzch
--< uec
theorem uec (zs : List Int) (i : Nat) (h : Int) (z0 : Int) (d0 : Int) (os : List Int) (hi : List.length zs = i + 1) :
    runU (Uc zs i h z0 d0 os) = some (Ex.exit 0, ({ ts := [Value.string (txt zs), undef, Value.slice none 0 0, Value.bool false, Value.slice (some { block := 0, off := 0, spot := some 0 }) (List.length os) (List.length os), Value.int IntKind.i64 h, Value.int IntKind.i64 (↑i : Int), Value.int IntKind.i32 z0, Value.int IntKind.i64 d0, Value.bool true, junk, Value.pointer (some { block := 1, off := 0 }), Value.tuple #[Value.bool false], Value.bool false, junk, junk, junk, junk, junk, junk, junk, junk, junk, junk, junk, junk, junk, junk, junk, junk, junk, junk, junk, junk, junk, junk, junk, junk, junk, junk], H := { n := 2, objs := [AObj.iter (txt zs) (i + 1), AObj.cells (u8s os) 5 5 1] }, log := [] } : St)) :=
  Dg.evCode_hint (f := 8) (hs' := []) (hs := [Hint.softH 8 12 (Value.tuple #[Value.bool false]) { n := 2, objs := [AObj.iter (txt zs) (i + 1), AObj.cells (u8s os) 5 5 1] } []])
    [Dg.nextAt { n := (2 : Nat), objs := [AObj.iter (txt zs) (i + (1 : Nat)), AObj.cells (u8s os) (5 : Nat) (5 : Nat) (1 : Nat)] } (1 : Nat) = some (Value.tuple #[Value.bool false], { n := (2 : Nat), objs := [AObj.iter (txt zs) (i + (1 : Nat)), AObj.cells (u8s os) (5 : Nat) (5 : Nat) (1 : Nat)] }, [])] (by kernel_rfl)
    ⟨next_end (pos := i + 1) rfl (by omega), trivial⟩
--> uec
end Go.Proofs.YtflgpkkbifkpoaaDoor.text
