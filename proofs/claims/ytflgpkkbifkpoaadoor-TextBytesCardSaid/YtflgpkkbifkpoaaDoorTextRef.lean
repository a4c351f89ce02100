/- The reference's 'Hex' of layer 4, over any row of bytes: its rounds. -/
import Derived.Test.YtflgpkkbifkpoaaDoorRows
import Derived.Test.YtflgpkkbifkpoaaDoorTextHexc
namespace Go.Proofs.YtflgpkkbifkpoaaDoor.text
open Go.Dg (junk St Ex Ev Hint evCall evCallS evCode evCodeK innerKp evCodeS evLoop cleanSt ue bodied noOver sbOf headOf tailOf bodyOf rAssign rBody lBody Flats flatOver Heap AObj SCall Law ofLaw Fix)
set_option linter.unusedVariables false
set_option linter.unusedSimpArgs false

theorem q16 {z : Int} (h : 0 ≤ z ∧ z < 256) : Value.int .u8 (IntKind.wrap .u8 (Int.tdiv z 16)) = .int .u8 (z / 16) := by
  rw [Int.tdiv_eq_ediv_of_nonneg h.1, Dg.w_u8]
  congr 1
  omega
theorem m16 {z : Int} (h : 0 ≤ z ∧ z < 256) : Value.int .u8 (Int.tmod z 16) = .int .u8 (z % 16) := by rw [Int.tmod_eq_emod_of_nonneg h.1]
noncomputable def lR : Code := lBody ((Tryd.f7.body).getD .skip)
noncomputable abbrev runR : St → Option (Ex × St) := Dg.evCodeK Tryd.prog 0 (bodied Tryd.prog) (evCall Tryd.prog 0 (bodied Tryd.prog) noOver sbs 2000 19) 1 8 2000 lR (innerKp lR [])
noncomputable abbrev clR : St → St := cleanSt 1 8 (ue lR [] []).1
def R7a (lz cz : Nat) (zs : List Int) (e : Nat) : St := ⟨[aB lz cz, undef, .string ⟨#[]⟩, .slice none 0 0, .int .i64 0, undef, undef, undef] ++ js 34, ⟨1, [oB zs e]⟩, []⟩
def R7b (lz cz : Nat) (zs : List Int) (e i : Nat) (n c : Int) (os : List Int) : St := ⟨[aB lz cz, undef, .string ⟨#[]⟩, .slice (some ⟨1, 0, some 0⟩) os.length os.length, .int .i64 i, .int .i64 2, .int .u8 n, .int .u8 c] ++ js 34, ⟨2, [rowU os, oB zs e]⟩, []⟩
--< r7lla
theorem r7lla (lz : Nat) (cz : Nat) (zs : List Int) (e : Nat) (hi : 0 < lz) (hl : lz ≤ 1000) (hc : lz ≤ cz) (hzl : List.length zs = cz) (h0 : 0 ≤ List.getD zs 0 0 ∧ List.getD zs 0 0 < 256) (h1 : List.getD zs 0 0 / 16 ≤ 9) (h2 : List.getD zs 0 0 % 16 ≤ 9) :
    ∃ s', runR (R7a lz cz zs e) = some (Ex.normal, s') ∧ clR s' = R7b lz cz zs e 1 (List.getD zs 0 0 % 16) (48 + List.getD zs 0 0 % 16) [48 + List.getD zs 0 0 / 16, 48 + List.getD zs 0 0 % 16] :=
  Dg.code_round (f := 7) clR (hs := [Hint.val 7 11 (Value.bool true),
    Hint.soft 7 20 (Value.pointer (some { block := 0, off := 0 })),
    Hint.soft 7 21 (Value.int IntKind.u8 (List.getD zs 0 0)),
    Hint.soft 7 22 (Value.int IntKind.u8 (List.getD zs 0 0 / 16)),
    Hint.val 7 31 (Value.int IntKind.u8 (48 + List.getD zs 0 0 / 16)),
    Hint.val 7 33 (Value.bool false),
    Hint.soft 7 20 (Value.pointer (some { block := 0, off := 0 })),
    Hint.soft 7 21 (Value.int IntKind.u8 (List.getD zs 0 0)),
    Hint.soft 7 22 (Value.int IntKind.u8 (List.getD zs 0 0 / 16)),
    Hint.soft 7 27 (Value.pointer (some { block := 0, off := 0 })),
    Hint.soft 7 28 (Value.int IntKind.u8 (List.getD zs 0 0)),
    Hint.soft 7 29 (Value.int IntKind.u8 (List.getD zs 0 0 % 16)),
    Hint.val 7 31 (Value.int IntKind.u8 (48 + List.getD zs 0 0 % 16)),
    Hint.val 7 33 (Value.bool false)])
    [Value.bool (decide ((0 : Int) < (↑lz : Int))) = Value.bool true,
    (0 : Int) ≤ (0 : Int) ∧ (0 : Int) < (↑lz : Int),
    Value.pointer (some { block := (0 : Nat), off := (0 : Nat) }) = Value.pointer (some { block := (0 : Nat), off := (0 : Nat) }),
    (u8s zs)[(0 : Nat)]? = some (Value.int IntKind.u8 (List.getD zs (0 : Nat) (0 : Int))),
    (16 : Int) ≠ (0 : Int),
    Value.int IntKind.u8 (IntKind.wrap IntKind.u8 (Int.tdiv (List.getD zs (0 : Nat) (0 : Int)) (16 : Int))) = Value.int IntKind.u8 (List.getD zs (0 : Nat) (0 : Int) / (16 : Int)),
    Value.int IntKind.u8 (IntKind.wrap IntKind.u8 ((48 : Int) + List.getD zs (0 : Nat) (0 : Int) / (16 : Int))) = Value.int IntKind.u8 ((48 : Int) + List.getD zs (0 : Nat) (0 : Int) / (16 : Int)),
    Value.bool (decide (List.getD zs (0 : Nat) (0 : Int) / (16 : Int) > (9 : Int))) = Value.bool false,
    (0 : Int) ≤ (0 : Int) ∧ (0 : Int) < (↑lz : Int),
    Value.pointer (some { block := (0 : Nat), off := (0 : Nat) }) = Value.pointer (some { block := (0 : Nat), off := (0 : Nat) }),
    (u8s zs)[(0 : Nat)]? = some (Value.int IntKind.u8 (List.getD zs (0 : Nat) (0 : Int))),
    (16 : Int) ≠ (0 : Int),
    Value.int IntKind.u8 (IntKind.wrap IntKind.u8 (Int.tdiv (List.getD zs (0 : Nat) (0 : Int)) (16 : Int))) = Value.int IntKind.u8 (List.getD zs (0 : Nat) (0 : Int) / (16 : Int)),
    (0 : Int) ≤ (0 : Int) ∧ (0 : Int) < (↑lz : Int),
    Value.pointer (some { block := (0 : Nat), off := (0 : Nat) }) = Value.pointer (some { block := (0 : Nat), off := (0 : Nat) }),
    (u8s zs)[(0 : Nat)]? = some (Value.int IntKind.u8 (List.getD zs (0 : Nat) (0 : Int))),
    (16 : Int) ≠ (0 : Int),
    Value.int IntKind.u8 (Int.tmod (List.getD zs (0 : Nat) (0 : Int)) (16 : Int)) = Value.int IntKind.u8 (List.getD zs (0 : Nat) (0 : Int) % (16 : Int)),
    Value.int IntKind.u8 (IntKind.wrap IntKind.u8 ((48 : Int) + List.getD zs (0 : Nat) (0 : Int) % (16 : Int))) = Value.int IntKind.u8 ((48 : Int) + List.getD zs (0 : Nat) (0 : Int) % (16 : Int)),
    Value.bool (decide (List.getD zs (0 : Nat) (0 : Int) % (16 : Int) > (9 : Int))) = Value.bool false] (by kernel_rfl)
    ⟨Dg.vtrue (by omega), by omega, rfl, u8_load zs 0 (by omega), by omega, q16 h0, by simp only [Dg.w_u8, Dg.w_u16, Dg.w_u32, Dg.w_i8, Dg.w_i32, Value.int.injEq, true_and]; omega, Dg.vfalse (by omega), by omega, rfl, u8_load zs 0 (by omega), by omega, q16 h0, by omega, rfl, u8_load zs 0 (by omega), by omega, m16 h0, by simp only [Dg.w_u8, Dg.w_u16, Dg.w_u32, Dg.w_i8, Dg.w_i32, Value.int.injEq, true_and]; omega, Dg.vfalse (by omega), trivial⟩
--> r7lla
--< r7llb
theorem r7llb (lz : Nat) (cz : Nat) (zs : List Int) (e : Nat) (i : Nat) (n : Int) (c : Int) (os : List Int) (ho : List.length os = 2 * i) (hi : i < lz) (hl : lz ≤ 1000) (hc : lz ≤ cz) (hzl : List.length zs = cz) (h0 : 0 ≤ List.getD zs i 0 ∧ List.getD zs i 0 < 256) (h1 : List.getD zs i 0 / 16 ≤ 9) (h2 : List.getD zs i 0 % 16 ≤ 9) :
    ∃ s', runR (R7b lz cz zs e i n c os) = some (Ex.normal, s') ∧ clR s' = R7b lz cz zs e (i + 1) (List.getD zs i 0 % 16) (48 + List.getD zs i 0 % 16) (os ++ [48 + List.getD zs i 0 / 16] ++ [48 + List.getD zs i 0 % 16]) :=
  Dg.code_round (f := 7) clR (hs := [Hint.val 7 11 (Value.bool true),
    Hint.soft 7 20 (Value.pointer (some { block := 0, off := i })),
    Hint.soft 7 21 (Value.int IntKind.u8 (List.getD zs i 0)),
    Hint.soft 7 22 (Value.int IntKind.u8 (List.getD zs i 0 / 16)),
    Hint.val 7 31 (Value.int IntKind.u8 (48 + List.getD zs i 0 / 16)),
    Hint.val 7 33 (Value.bool false),
    Hint.softH 7 39 (Value.slice (some { block := 3, off := 0, spot := some 0 }) (List.length (os ++ [48 + List.getD zs i 0 / 16])) (List.length (os ++ [48 + List.getD zs i 0 / 16]))) { n := 4, objs := [AObj.cells (u8s (os ++ [48 + List.getD zs i 0 / 16])) 5 5 1, AObj.cells [Value.int IntKind.u8 (48 + List.getD zs i 0 / 16)] 5 0 1, AObj.dead, AObj.cells (u8s zs) e 6 1] } [1],
    Hint.soft 7 20 (Value.pointer (some { block := 0, off := i })),
    Hint.soft 7 21 (Value.int IntKind.u8 (List.getD zs i 0)),
    Hint.soft 7 22 (Value.int IntKind.u8 (List.getD zs i 0 / 16)),
    Hint.soft 7 27 (Value.pointer (some { block := 0, off := i })),
    Hint.soft 7 28 (Value.int IntKind.u8 (List.getD zs i 0)),
    Hint.soft 7 29 (Value.int IntKind.u8 (List.getD zs i 0 % 16)),
    Hint.val 7 31 (Value.int IntKind.u8 (48 + List.getD zs i 0 % 16)),
    Hint.val 7 33 (Value.bool false),
    Hint.softH 7 39 (Value.slice (some { block := 3, off := 0, spot := some 0 }) (List.length (os ++ [48 + List.getD zs i 0 / 16] ++ [48 + List.getD zs i 0 % 16])) (List.length (os ++ [48 + List.getD zs i 0 / 16] ++ [48 + List.getD zs i 0 % 16]))) { n := 4, objs := [AObj.cells (u8s (os ++ [48 + List.getD zs i 0 / 16] ++ [48 + List.getD zs i 0 % 16])) 5 5 1, AObj.cells [Value.int IntKind.u8 (48 + List.getD zs i 0 % 16)] 5 0 1, AObj.dead, AObj.cells (u8s zs) e 6 1] } [1],
    Hint.val 7 13 (Value.int IntKind.i64 ((↑i : Int) + 1))])
    [Value.bool (decide ((↑i : Int) < (↑lz : Int))) = Value.bool true,
    (0 : Int) ≤ (↑i : Int) ∧ (↑i : Int) < (↑lz : Int),
    Value.pointer (some { block := (0 : Nat), off := (0 : Nat) + Int.toNat (↑i : Int) * (1 : Nat) }) = Value.pointer (some { block := (0 : Nat), off := i }),
    (u8s zs)[i]? = some (Value.int IntKind.u8 (List.getD zs i (0 : Int))),
    (16 : Int) ≠ (0 : Int),
    Value.int IntKind.u8 (IntKind.wrap IntKind.u8 (Int.tdiv (List.getD zs i (0 : Int)) (16 : Int))) = Value.int IntKind.u8 (List.getD zs i (0 : Int) / (16 : Int)),
    Value.int IntKind.u8 (IntKind.wrap IntKind.u8 ((48 : Int) + List.getD zs i (0 : Int) / (16 : Int))) = Value.int IntKind.u8 ((48 : Int) + List.getD zs i (0 : Int) / (16 : Int)),
    Value.bool (decide (List.getD zs i (0 : Int) / (16 : Int) > (9 : Int))) = Value.bool false,
    Dg.evAppend Tryd.prog { n := (3 : Nat), objs := [AObj.cells [Value.int IntKind.u8 ((48 : Int) + List.getD zs i (0 : Int) / (16 : Int))] (5 : Nat) (0 : Nat) (1 : Nat), AObj.cells (u8s os) (5 : Nat) (5 : Nat) (1 : Nat), AObj.cells (u8s zs) e (6 : Nat) (1 : Nat)] } (22 : Nat) (22 : Nat) (Value.slice (some { block := (1 : Nat), off := (0 : Nat), spot := some (0 : Nat) }) (List.length os) (List.length os)) (Value.slice (some { block := (2 : Nat), off := (0 : Nat) }) (1 : Nat) (1 : Nat)) = some (Value.slice (some { block := (3 : Nat), off := (0 : Nat), spot := some (0 : Nat) }) (List.length (os ++ [(48 : Int) + List.getD zs i (0 : Int) / (16 : Int)])) (List.length (os ++ [(48 : Int) + List.getD zs i (0 : Int) / (16 : Int)])), { n := (4 : Nat), objs := [AObj.cells (u8s (os ++ [(48 : Int) + List.getD zs i (0 : Int) / (16 : Int)])) (5 : Nat) (5 : Nat) (1 : Nat), AObj.cells [Value.int IntKind.u8 ((48 : Int) + List.getD zs i (0 : Int) / (16 : Int))] (5 : Nat) (0 : Nat) (1 : Nat), AObj.dead, AObj.cells (u8s zs) e (6 : Nat) (1 : Nat)] }, [(1 : Nat)]),
    (0 : Int) ≤ (↑i : Int) ∧ (↑i : Int) < (↑lz : Int),
    Value.pointer (some { block := (0 : Nat), off := (0 : Nat) + Int.toNat (↑i : Int) * (1 : Nat) }) = Value.pointer (some { block := (0 : Nat), off := i }),
    (u8s zs)[i]? = some (Value.int IntKind.u8 (List.getD zs i (0 : Int))),
    (16 : Int) ≠ (0 : Int),
    Value.int IntKind.u8 (IntKind.wrap IntKind.u8 (Int.tdiv (List.getD zs i (0 : Int)) (16 : Int))) = Value.int IntKind.u8 (List.getD zs i (0 : Int) / (16 : Int)),
    (0 : Int) ≤ (↑i : Int) ∧ (↑i : Int) < (↑lz : Int),
    Value.pointer (some { block := (0 : Nat), off := (0 : Nat) + Int.toNat (↑i : Int) * (1 : Nat) }) = Value.pointer (some { block := (0 : Nat), off := i }),
    (u8s zs)[i]? = some (Value.int IntKind.u8 (List.getD zs i (0 : Int))),
    (16 : Int) ≠ (0 : Int),
    Value.int IntKind.u8 (Int.tmod (List.getD zs i (0 : Int)) (16 : Int)) = Value.int IntKind.u8 (List.getD zs i (0 : Int) % (16 : Int)),
    Value.int IntKind.u8 (IntKind.wrap IntKind.u8 ((48 : Int) + List.getD zs i (0 : Int) % (16 : Int))) = Value.int IntKind.u8 ((48 : Int) + List.getD zs i (0 : Int) % (16 : Int)),
    Value.bool (decide (List.getD zs i (0 : Int) % (16 : Int) > (9 : Int))) = Value.bool false,
    Dg.evAppend Tryd.prog { n := (3 : Nat), objs := [AObj.cells [Value.int IntKind.u8 ((48 : Int) + List.getD zs i (0 : Int) % (16 : Int))] (5 : Nat) (0 : Nat) (1 : Nat), AObj.cells (u8s (os ++ [(48 : Int) + List.getD zs i (0 : Int) / (16 : Int)])) (5 : Nat) (5 : Nat) (1 : Nat), AObj.cells (u8s zs) e (6 : Nat) (1 : Nat)] } (22 : Nat) (22 : Nat) (Value.slice (some { block := (1 : Nat), off := (0 : Nat), spot := some (0 : Nat) }) (List.length (os ++ [(48 : Int) + List.getD zs i (0 : Int) / (16 : Int)])) (List.length (os ++ [(48 : Int) + List.getD zs i (0 : Int) / (16 : Int)]))) (Value.slice (some { block := (2 : Nat), off := (0 : Nat) }) (1 : Nat) (1 : Nat)) = some (Value.slice (some { block := (3 : Nat), off := (0 : Nat), spot := some (0 : Nat) }) (List.length (os ++ [(48 : Int) + List.getD zs i (0 : Int) / (16 : Int)] ++ [(48 : Int) + List.getD zs i (0 : Int) % (16 : Int)])) (List.length (os ++ [(48 : Int) + List.getD zs i (0 : Int) / (16 : Int)] ++ [(48 : Int) + List.getD zs i (0 : Int) % (16 : Int)])), { n := (4 : Nat), objs := [AObj.cells (u8s (os ++ [(48 : Int) + List.getD zs i (0 : Int) / (16 : Int)] ++ [(48 : Int) + List.getD zs i (0 : Int) % (16 : Int)])) (5 : Nat) (5 : Nat) (1 : Nat), AObj.cells [Value.int IntKind.u8 ((48 : Int) + List.getD zs i (0 : Int) % (16 : Int))] (5 : Nat) (0 : Nat) (1 : Nat), AObj.dead, AObj.cells (u8s zs) e (6 : Nat) (1 : Nat)] }, [(1 : Nat)]),
    Value.int IntKind.i64 (IntKind.wrap IntKind.i64 ((↑i : Int) + (1 : Int))) = Value.int IntKind.i64 ((↑i : Int) + (1 : Int))] (by kernel_rfl)
    ⟨Dg.vtrue (by omega), by omega, Dg.ptr_eq (by omega), u8_load zs i (by omega), by omega, q16 h0, by simp only [Dg.w_u8, Dg.w_u16, Dg.w_u32, Dg.w_i8, Dg.w_i32, Value.int.injEq, true_and]; omega, Dg.vfalse (by omega), appU (os := os) (x := (48 + (zs.getD i 0) / 16)) rfl rfl rfl (by omega) (by simp) rfl rfl, by omega, Dg.ptr_eq (by omega), u8_load zs i (by omega), by omega, q16 h0, by omega, Dg.ptr_eq (by omega), u8_load zs i (by omega), by omega, m16 h0, by simp only [Dg.w_u8, Dg.w_u16, Dg.w_u32, Dg.w_i8, Dg.w_i32, Value.int.injEq, true_and]; omega, Dg.vfalse (by omega), appU (os := os ++ [(48 + (zs.getD i 0) / 16)]) (x := (48 + (zs.getD i 0) % 16)) rfl rfl rfl (by simp; omega) (by simp) rfl rfl, Dg.i64_eq rfl (by omega) (by omega), trivial⟩
--> r7llb
--< r7lha
theorem r7lha (lz : Nat) (cz : Nat) (zs : List Int) (e : Nat) (hi : 0 < lz) (hl : lz ≤ 1000) (hc : lz ≤ cz) (hzl : List.length zs = cz) (h0 : 0 ≤ List.getD zs 0 0 ∧ List.getD zs 0 0 < 256) (h1 : List.getD zs 0 0 / 16 ≤ 9) (h2 : 9 < List.getD zs 0 0 % 16) :
    ∃ s', runR (R7a lz cz zs e) = some (Ex.normal, s') ∧ clR s' = R7b lz cz zs e 1 (List.getD zs 0 0 % 16) (87 + List.getD zs 0 0 % 16) [48 + List.getD zs 0 0 / 16, 87 + List.getD zs 0 0 % 16] :=
  Dg.code_round (f := 7) clR (hs := [Hint.val 7 11 (Value.bool true),
    Hint.soft 7 20 (Value.pointer (some { block := 0, off := 0 })),
    Hint.soft 7 21 (Value.int IntKind.u8 (List.getD zs 0 0)),
    Hint.soft 7 22 (Value.int IntKind.u8 (List.getD zs 0 0 / 16)),
    Hint.val 7 31 (Value.int IntKind.u8 (48 + List.getD zs 0 0 / 16)),
    Hint.val 7 33 (Value.bool false),
    Hint.soft 7 20 (Value.pointer (some { block := 0, off := 0 })),
    Hint.soft 7 21 (Value.int IntKind.u8 (List.getD zs 0 0)),
    Hint.soft 7 22 (Value.int IntKind.u8 (List.getD zs 0 0 / 16)),
    Hint.soft 7 27 (Value.pointer (some { block := 0, off := 0 })),
    Hint.soft 7 28 (Value.int IntKind.u8 (List.getD zs 0 0)),
    Hint.soft 7 29 (Value.int IntKind.u8 (List.getD zs 0 0 % 16)),
    Hint.val 7 31 (Value.int IntKind.u8 (48 + List.getD zs 0 0 % 16)),
    Hint.val 7 33 (Value.bool true),
    Hint.val 7 35 (Value.int IntKind.u8 (87 + List.getD zs 0 0 % 16))])
    [Value.bool (decide ((0 : Int) < (↑lz : Int))) = Value.bool true,
    (0 : Int) ≤ (0 : Int) ∧ (0 : Int) < (↑lz : Int),
    Value.pointer (some { block := (0 : Nat), off := (0 : Nat) }) = Value.pointer (some { block := (0 : Nat), off := (0 : Nat) }),
    (u8s zs)[(0 : Nat)]? = some (Value.int IntKind.u8 (List.getD zs (0 : Nat) (0 : Int))),
    (16 : Int) ≠ (0 : Int),
    Value.int IntKind.u8 (IntKind.wrap IntKind.u8 (Int.tdiv (List.getD zs (0 : Nat) (0 : Int)) (16 : Int))) = Value.int IntKind.u8 (List.getD zs (0 : Nat) (0 : Int) / (16 : Int)),
    Value.int IntKind.u8 (IntKind.wrap IntKind.u8 ((48 : Int) + List.getD zs (0 : Nat) (0 : Int) / (16 : Int))) = Value.int IntKind.u8 ((48 : Int) + List.getD zs (0 : Nat) (0 : Int) / (16 : Int)),
    Value.bool (decide (List.getD zs (0 : Nat) (0 : Int) / (16 : Int) > (9 : Int))) = Value.bool false,
    (0 : Int) ≤ (0 : Int) ∧ (0 : Int) < (↑lz : Int),
    Value.pointer (some { block := (0 : Nat), off := (0 : Nat) }) = Value.pointer (some { block := (0 : Nat), off := (0 : Nat) }),
    (u8s zs)[(0 : Nat)]? = some (Value.int IntKind.u8 (List.getD zs (0 : Nat) (0 : Int))),
    (16 : Int) ≠ (0 : Int),
    Value.int IntKind.u8 (IntKind.wrap IntKind.u8 (Int.tdiv (List.getD zs (0 : Nat) (0 : Int)) (16 : Int))) = Value.int IntKind.u8 (List.getD zs (0 : Nat) (0 : Int) / (16 : Int)),
    (0 : Int) ≤ (0 : Int) ∧ (0 : Int) < (↑lz : Int),
    Value.pointer (some { block := (0 : Nat), off := (0 : Nat) }) = Value.pointer (some { block := (0 : Nat), off := (0 : Nat) }),
    (u8s zs)[(0 : Nat)]? = some (Value.int IntKind.u8 (List.getD zs (0 : Nat) (0 : Int))),
    (16 : Int) ≠ (0 : Int),
    Value.int IntKind.u8 (Int.tmod (List.getD zs (0 : Nat) (0 : Int)) (16 : Int)) = Value.int IntKind.u8 (List.getD zs (0 : Nat) (0 : Int) % (16 : Int)),
    Value.int IntKind.u8 (IntKind.wrap IntKind.u8 ((48 : Int) + List.getD zs (0 : Nat) (0 : Int) % (16 : Int))) = Value.int IntKind.u8 ((48 : Int) + List.getD zs (0 : Nat) (0 : Int) % (16 : Int)),
    Value.bool (decide (List.getD zs (0 : Nat) (0 : Int) % (16 : Int) > (9 : Int))) = Value.bool true,
    Value.int IntKind.u8 (IntKind.wrap IntKind.u8 ((87 : Int) + List.getD zs (0 : Nat) (0 : Int) % (16 : Int))) = Value.int IntKind.u8 ((87 : Int) + List.getD zs (0 : Nat) (0 : Int) % (16 : Int))] (by kernel_rfl)
    ⟨Dg.vtrue (by omega), by omega, rfl, u8_load zs 0 (by omega), by omega, q16 h0, by simp only [Dg.w_u8, Dg.w_u16, Dg.w_u32, Dg.w_i8, Dg.w_i32, Value.int.injEq, true_and]; omega, Dg.vfalse (by omega), by omega, rfl, u8_load zs 0 (by omega), by omega, q16 h0, by omega, rfl, u8_load zs 0 (by omega), by omega, m16 h0, by simp only [Dg.w_u8, Dg.w_u16, Dg.w_u32, Dg.w_i8, Dg.w_i32, Value.int.injEq, true_and]; omega, Dg.vtrue (by omega), by simp only [Dg.w_u8, Dg.w_u16, Dg.w_u32, Dg.w_i8, Dg.w_i32, Value.int.injEq, true_and]; omega, trivial⟩
--> r7lha
--< r7lhb
theorem r7lhb (lz : Nat) (cz : Nat) (zs : List Int) (e : Nat) (i : Nat) (n : Int) (c : Int) (os : List Int) (ho : List.length os = 2 * i) (hi : i < lz) (hl : lz ≤ 1000) (hc : lz ≤ cz) (hzl : List.length zs = cz) (h0 : 0 ≤ List.getD zs i 0 ∧ List.getD zs i 0 < 256) (h1 : List.getD zs i 0 / 16 ≤ 9) (h2 : 9 < List.getD zs i 0 % 16) :
    ∃ s', runR (R7b lz cz zs e i n c os) = some (Ex.normal, s') ∧ clR s' = R7b lz cz zs e (i + 1) (List.getD zs i 0 % 16) (87 + List.getD zs i 0 % 16) (os ++ [48 + List.getD zs i 0 / 16] ++ [87 + List.getD zs i 0 % 16]) :=
  Dg.code_round (f := 7) clR (hs := [Hint.val 7 11 (Value.bool true),
    Hint.soft 7 20 (Value.pointer (some { block := 0, off := i })),
    Hint.soft 7 21 (Value.int IntKind.u8 (List.getD zs i 0)),
    Hint.soft 7 22 (Value.int IntKind.u8 (List.getD zs i 0 / 16)),
    Hint.val 7 31 (Value.int IntKind.u8 (48 + List.getD zs i 0 / 16)),
    Hint.val 7 33 (Value.bool false),
    Hint.softH 7 39 (Value.slice (some { block := 3, off := 0, spot := some 0 }) (List.length (os ++ [48 + List.getD zs i 0 / 16])) (List.length (os ++ [48 + List.getD zs i 0 / 16]))) { n := 4, objs := [AObj.cells (u8s (os ++ [48 + List.getD zs i 0 / 16])) 5 5 1, AObj.cells [Value.int IntKind.u8 (48 + List.getD zs i 0 / 16)] 5 0 1, AObj.dead, AObj.cells (u8s zs) e 6 1] } [1],
    Hint.soft 7 20 (Value.pointer (some { block := 0, off := i })),
    Hint.soft 7 21 (Value.int IntKind.u8 (List.getD zs i 0)),
    Hint.soft 7 22 (Value.int IntKind.u8 (List.getD zs i 0 / 16)),
    Hint.soft 7 27 (Value.pointer (some { block := 0, off := i })),
    Hint.soft 7 28 (Value.int IntKind.u8 (List.getD zs i 0)),
    Hint.soft 7 29 (Value.int IntKind.u8 (List.getD zs i 0 % 16)),
    Hint.val 7 31 (Value.int IntKind.u8 (48 + List.getD zs i 0 % 16)),
    Hint.val 7 33 (Value.bool true),
    Hint.val 7 35 (Value.int IntKind.u8 (87 + List.getD zs i 0 % 16)),
    Hint.softH 7 39 (Value.slice (some { block := 3, off := 0, spot := some 0 }) (List.length (os ++ [48 + List.getD zs i 0 / 16] ++ [87 + List.getD zs i 0 % 16])) (List.length (os ++ [48 + List.getD zs i 0 / 16] ++ [87 + List.getD zs i 0 % 16]))) { n := 4, objs := [AObj.cells (u8s (os ++ [48 + List.getD zs i 0 / 16] ++ [87 + List.getD zs i 0 % 16])) 5 5 1, AObj.cells [Value.int IntKind.u8 (87 + List.getD zs i 0 % 16)] 5 0 1, AObj.dead, AObj.cells (u8s zs) e 6 1] } [1],
    Hint.val 7 13 (Value.int IntKind.i64 ((↑i : Int) + 1))])
    [Value.bool (decide ((↑i : Int) < (↑lz : Int))) = Value.bool true,
    (0 : Int) ≤ (↑i : Int) ∧ (↑i : Int) < (↑lz : Int),
    Value.pointer (some { block := (0 : Nat), off := (0 : Nat) + Int.toNat (↑i : Int) * (1 : Nat) }) = Value.pointer (some { block := (0 : Nat), off := i }),
    (u8s zs)[i]? = some (Value.int IntKind.u8 (List.getD zs i (0 : Int))),
    (16 : Int) ≠ (0 : Int),
    Value.int IntKind.u8 (IntKind.wrap IntKind.u8 (Int.tdiv (List.getD zs i (0 : Int)) (16 : Int))) = Value.int IntKind.u8 (List.getD zs i (0 : Int) / (16 : Int)),
    Value.int IntKind.u8 (IntKind.wrap IntKind.u8 ((48 : Int) + List.getD zs i (0 : Int) / (16 : Int))) = Value.int IntKind.u8 ((48 : Int) + List.getD zs i (0 : Int) / (16 : Int)),
    Value.bool (decide (List.getD zs i (0 : Int) / (16 : Int) > (9 : Int))) = Value.bool false,
    Dg.evAppend Tryd.prog { n := (3 : Nat), objs := [AObj.cells [Value.int IntKind.u8 ((48 : Int) + List.getD zs i (0 : Int) / (16 : Int))] (5 : Nat) (0 : Nat) (1 : Nat), AObj.cells (u8s os) (5 : Nat) (5 : Nat) (1 : Nat), AObj.cells (u8s zs) e (6 : Nat) (1 : Nat)] } (22 : Nat) (22 : Nat) (Value.slice (some { block := (1 : Nat), off := (0 : Nat), spot := some (0 : Nat) }) (List.length os) (List.length os)) (Value.slice (some { block := (2 : Nat), off := (0 : Nat) }) (1 : Nat) (1 : Nat)) = some (Value.slice (some { block := (3 : Nat), off := (0 : Nat), spot := some (0 : Nat) }) (List.length (os ++ [(48 : Int) + List.getD zs i (0 : Int) / (16 : Int)])) (List.length (os ++ [(48 : Int) + List.getD zs i (0 : Int) / (16 : Int)])), { n := (4 : Nat), objs := [AObj.cells (u8s (os ++ [(48 : Int) + List.getD zs i (0 : Int) / (16 : Int)])) (5 : Nat) (5 : Nat) (1 : Nat), AObj.cells [Value.int IntKind.u8 ((48 : Int) + List.getD zs i (0 : Int) / (16 : Int))] (5 : Nat) (0 : Nat) (1 : Nat), AObj.dead, AObj.cells (u8s zs) e (6 : Nat) (1 : Nat)] }, [(1 : Nat)]),
    (0 : Int) ≤ (↑i : Int) ∧ (↑i : Int) < (↑lz : Int),
    Value.pointer (some { block := (0 : Nat), off := (0 : Nat) + Int.toNat (↑i : Int) * (1 : Nat) }) = Value.pointer (some { block := (0 : Nat), off := i }),
    (u8s zs)[i]? = some (Value.int IntKind.u8 (List.getD zs i (0 : Int))),
    (16 : Int) ≠ (0 : Int),
    Value.int IntKind.u8 (IntKind.wrap IntKind.u8 (Int.tdiv (List.getD zs i (0 : Int)) (16 : Int))) = Value.int IntKind.u8 (List.getD zs i (0 : Int) / (16 : Int)),
    (0 : Int) ≤ (↑i : Int) ∧ (↑i : Int) < (↑lz : Int),
    Value.pointer (some { block := (0 : Nat), off := (0 : Nat) + Int.toNat (↑i : Int) * (1 : Nat) }) = Value.pointer (some { block := (0 : Nat), off := i }),
    (u8s zs)[i]? = some (Value.int IntKind.u8 (List.getD zs i (0 : Int))),
    (16 : Int) ≠ (0 : Int),
    Value.int IntKind.u8 (Int.tmod (List.getD zs i (0 : Int)) (16 : Int)) = Value.int IntKind.u8 (List.getD zs i (0 : Int) % (16 : Int)),
    Value.int IntKind.u8 (IntKind.wrap IntKind.u8 ((48 : Int) + List.getD zs i (0 : Int) % (16 : Int))) = Value.int IntKind.u8 ((48 : Int) + List.getD zs i (0 : Int) % (16 : Int)),
    Value.bool (decide (List.getD zs i (0 : Int) % (16 : Int) > (9 : Int))) = Value.bool true,
    Value.int IntKind.u8 (IntKind.wrap IntKind.u8 ((87 : Int) + List.getD zs i (0 : Int) % (16 : Int))) = Value.int IntKind.u8 ((87 : Int) + List.getD zs i (0 : Int) % (16 : Int)),
    Dg.evAppend Tryd.prog { n := (3 : Nat), objs := [AObj.cells [Value.int IntKind.u8 ((87 : Int) + List.getD zs i (0 : Int) % (16 : Int))] (5 : Nat) (0 : Nat) (1 : Nat), AObj.cells (u8s (os ++ [(48 : Int) + List.getD zs i (0 : Int) / (16 : Int)])) (5 : Nat) (5 : Nat) (1 : Nat), AObj.cells (u8s zs) e (6 : Nat) (1 : Nat)] } (22 : Nat) (22 : Nat) (Value.slice (some { block := (1 : Nat), off := (0 : Nat), spot := some (0 : Nat) }) (List.length (os ++ [(48 : Int) + List.getD zs i (0 : Int) / (16 : Int)])) (List.length (os ++ [(48 : Int) + List.getD zs i (0 : Int) / (16 : Int)]))) (Value.slice (some { block := (2 : Nat), off := (0 : Nat) }) (1 : Nat) (1 : Nat)) = some (Value.slice (some { block := (3 : Nat), off := (0 : Nat), spot := some (0 : Nat) }) (List.length (os ++ [(48 : Int) + List.getD zs i (0 : Int) / (16 : Int)] ++ [(87 : Int) + List.getD zs i (0 : Int) % (16 : Int)])) (List.length (os ++ [(48 : Int) + List.getD zs i (0 : Int) / (16 : Int)] ++ [(87 : Int) + List.getD zs i (0 : Int) % (16 : Int)])), { n := (4 : Nat), objs := [AObj.cells (u8s (os ++ [(48 : Int) + List.getD zs i (0 : Int) / (16 : Int)] ++ [(87 : Int) + List.getD zs i (0 : Int) % (16 : Int)])) (5 : Nat) (5 : Nat) (1 : Nat), AObj.cells [Value.int IntKind.u8 ((87 : Int) + List.getD zs i (0 : Int) % (16 : Int))] (5 : Nat) (0 : Nat) (1 : Nat), AObj.dead, AObj.cells (u8s zs) e (6 : Nat) (1 : Nat)] }, [(1 : Nat)]),
    Value.int IntKind.i64 (IntKind.wrap IntKind.i64 ((↑i : Int) + (1 : Int))) = Value.int IntKind.i64 ((↑i : Int) + (1 : Int))] (by kernel_rfl)
    ⟨Dg.vtrue (by omega), by omega, Dg.ptr_eq (by omega), u8_load zs i (by omega), by omega, q16 h0, by simp only [Dg.w_u8, Dg.w_u16, Dg.w_u32, Dg.w_i8, Dg.w_i32, Value.int.injEq, true_and]; omega, Dg.vfalse (by omega), appU (os := os) (x := (48 + (zs.getD i 0) / 16)) rfl rfl rfl (by omega) (by simp) rfl rfl, by omega, Dg.ptr_eq (by omega), u8_load zs i (by omega), by omega, q16 h0, by omega, Dg.ptr_eq (by omega), u8_load zs i (by omega), by omega, m16 h0, by simp only [Dg.w_u8, Dg.w_u16, Dg.w_u32, Dg.w_i8, Dg.w_i32, Value.int.injEq, true_and]; omega, Dg.vtrue (by omega), by simp only [Dg.w_u8, Dg.w_u16, Dg.w_u32, Dg.w_i8, Dg.w_i32, Value.int.injEq, true_and]; omega, appU (os := os ++ [(48 + (zs.getD i 0) / 16)]) (x := (87 + (zs.getD i 0) % 16)) rfl rfl rfl (by simp; omega) (by simp) rfl rfl, Dg.i64_eq rfl (by omega) (by omega), trivial⟩
--> r7lhb
--< r7hla
theorem r7hla (lz : Nat) (cz : Nat) (zs : List Int) (e : Nat) (hi : 0 < lz) (hl : lz ≤ 1000) (hc : lz ≤ cz) (hzl : List.length zs = cz) (h0 : 0 ≤ List.getD zs 0 0 ∧ List.getD zs 0 0 < 256) (h1 : 9 < List.getD zs 0 0 / 16) (h2 : List.getD zs 0 0 % 16 ≤ 9) :
    ∃ s', runR (R7a lz cz zs e) = some (Ex.normal, s') ∧ clR s' = R7b lz cz zs e 1 (List.getD zs 0 0 % 16) (48 + List.getD zs 0 0 % 16) [87 + List.getD zs 0 0 / 16, 48 + List.getD zs 0 0 % 16] :=
  Dg.code_round (f := 7) clR (hs := [Hint.val 7 11 (Value.bool true),
    Hint.soft 7 20 (Value.pointer (some { block := 0, off := 0 })),
    Hint.soft 7 21 (Value.int IntKind.u8 (List.getD zs 0 0)),
    Hint.soft 7 22 (Value.int IntKind.u8 (List.getD zs 0 0 / 16)),
    Hint.val 7 31 (Value.int IntKind.u8 (48 + List.getD zs 0 0 / 16)),
    Hint.val 7 33 (Value.bool true),
    Hint.val 7 35 (Value.int IntKind.u8 (87 + List.getD zs 0 0 / 16)),
    Hint.soft 7 20 (Value.pointer (some { block := 0, off := 0 })),
    Hint.soft 7 21 (Value.int IntKind.u8 (List.getD zs 0 0)),
    Hint.soft 7 22 (Value.int IntKind.u8 (List.getD zs 0 0 / 16)),
    Hint.soft 7 27 (Value.pointer (some { block := 0, off := 0 })),
    Hint.soft 7 28 (Value.int IntKind.u8 (List.getD zs 0 0)),
    Hint.soft 7 29 (Value.int IntKind.u8 (List.getD zs 0 0 % 16)),
    Hint.val 7 31 (Value.int IntKind.u8 (48 + List.getD zs 0 0 % 16)),
    Hint.val 7 33 (Value.bool false)])
    [Value.bool (decide ((0 : Int) < (↑lz : Int))) = Value.bool true,
    (0 : Int) ≤ (0 : Int) ∧ (0 : Int) < (↑lz : Int),
    Value.pointer (some { block := (0 : Nat), off := (0 : Nat) }) = Value.pointer (some { block := (0 : Nat), off := (0 : Nat) }),
    (u8s zs)[(0 : Nat)]? = some (Value.int IntKind.u8 (List.getD zs (0 : Nat) (0 : Int))),
    (16 : Int) ≠ (0 : Int),
    Value.int IntKind.u8 (IntKind.wrap IntKind.u8 (Int.tdiv (List.getD zs (0 : Nat) (0 : Int)) (16 : Int))) = Value.int IntKind.u8 (List.getD zs (0 : Nat) (0 : Int) / (16 : Int)),
    Value.int IntKind.u8 (IntKind.wrap IntKind.u8 ((48 : Int) + List.getD zs (0 : Nat) (0 : Int) / (16 : Int))) = Value.int IntKind.u8 ((48 : Int) + List.getD zs (0 : Nat) (0 : Int) / (16 : Int)),
    Value.bool (decide (List.getD zs (0 : Nat) (0 : Int) / (16 : Int) > (9 : Int))) = Value.bool true,
    Value.int IntKind.u8 (IntKind.wrap IntKind.u8 ((87 : Int) + List.getD zs (0 : Nat) (0 : Int) / (16 : Int))) = Value.int IntKind.u8 ((87 : Int) + List.getD zs (0 : Nat) (0 : Int) / (16 : Int)),
    (0 : Int) ≤ (0 : Int) ∧ (0 : Int) < (↑lz : Int),
    Value.pointer (some { block := (0 : Nat), off := (0 : Nat) }) = Value.pointer (some { block := (0 : Nat), off := (0 : Nat) }),
    (u8s zs)[(0 : Nat)]? = some (Value.int IntKind.u8 (List.getD zs (0 : Nat) (0 : Int))),
    (16 : Int) ≠ (0 : Int),
    Value.int IntKind.u8 (IntKind.wrap IntKind.u8 (Int.tdiv (List.getD zs (0 : Nat) (0 : Int)) (16 : Int))) = Value.int IntKind.u8 (List.getD zs (0 : Nat) (0 : Int) / (16 : Int)),
    (0 : Int) ≤ (0 : Int) ∧ (0 : Int) < (↑lz : Int),
    Value.pointer (some { block := (0 : Nat), off := (0 : Nat) }) = Value.pointer (some { block := (0 : Nat), off := (0 : Nat) }),
    (u8s zs)[(0 : Nat)]? = some (Value.int IntKind.u8 (List.getD zs (0 : Nat) (0 : Int))),
    (16 : Int) ≠ (0 : Int),
    Value.int IntKind.u8 (Int.tmod (List.getD zs (0 : Nat) (0 : Int)) (16 : Int)) = Value.int IntKind.u8 (List.getD zs (0 : Nat) (0 : Int) % (16 : Int)),
    Value.int IntKind.u8 (IntKind.wrap IntKind.u8 ((48 : Int) + List.getD zs (0 : Nat) (0 : Int) % (16 : Int))) = Value.int IntKind.u8 ((48 : Int) + List.getD zs (0 : Nat) (0 : Int) % (16 : Int)),
    Value.bool (decide (List.getD zs (0 : Nat) (0 : Int) % (16 : Int) > (9 : Int))) = Value.bool false] (by kernel_rfl)
    ⟨Dg.vtrue (by omega), by omega, rfl, u8_load zs 0 (by omega), by omega, q16 h0, by simp only [Dg.w_u8, Dg.w_u16, Dg.w_u32, Dg.w_i8, Dg.w_i32, Value.int.injEq, true_and]; omega, Dg.vtrue (by omega), by simp only [Dg.w_u8, Dg.w_u16, Dg.w_u32, Dg.w_i8, Dg.w_i32, Value.int.injEq, true_and]; omega, by omega, rfl, u8_load zs 0 (by omega), by omega, q16 h0, by omega, rfl, u8_load zs 0 (by omega), by omega, m16 h0, by simp only [Dg.w_u8, Dg.w_u16, Dg.w_u32, Dg.w_i8, Dg.w_i32, Value.int.injEq, true_and]; omega, Dg.vfalse (by omega), trivial⟩
--> r7hla
--< r7hlb
theorem r7hlb (lz : Nat) (cz : Nat) (zs : List Int) (e : Nat) (i : Nat) (n : Int) (c : Int) (os : List Int) (ho : List.length os = 2 * i) (hi : i < lz) (hl : lz ≤ 1000) (hc : lz ≤ cz) (hzl : List.length zs = cz) (h0 : 0 ≤ List.getD zs i 0 ∧ List.getD zs i 0 < 256) (h1 : 9 < List.getD zs i 0 / 16) (h2 : List.getD zs i 0 % 16 ≤ 9) :
    ∃ s', runR (R7b lz cz zs e i n c os) = some (Ex.normal, s') ∧ clR s' = R7b lz cz zs e (i + 1) (List.getD zs i 0 % 16) (48 + List.getD zs i 0 % 16) (os ++ [87 + List.getD zs i 0 / 16] ++ [48 + List.getD zs i 0 % 16]) :=
  Dg.code_round (f := 7) clR (hs := [Hint.val 7 11 (Value.bool true),
    Hint.soft 7 20 (Value.pointer (some { block := 0, off := i })),
    Hint.soft 7 21 (Value.int IntKind.u8 (List.getD zs i 0)),
    Hint.soft 7 22 (Value.int IntKind.u8 (List.getD zs i 0 / 16)),
    Hint.val 7 31 (Value.int IntKind.u8 (48 + List.getD zs i 0 / 16)),
    Hint.val 7 33 (Value.bool true),
    Hint.val 7 35 (Value.int IntKind.u8 (87 + List.getD zs i 0 / 16)),
    Hint.softH 7 39 (Value.slice (some { block := 3, off := 0, spot := some 0 }) (List.length (os ++ [87 + List.getD zs i 0 / 16])) (List.length (os ++ [87 + List.getD zs i 0 / 16]))) { n := 4, objs := [AObj.cells (u8s (os ++ [87 + List.getD zs i 0 / 16])) 5 5 1, AObj.cells [Value.int IntKind.u8 (87 + List.getD zs i 0 / 16)] 5 0 1, AObj.dead, AObj.cells (u8s zs) e 6 1] } [1],
    Hint.soft 7 20 (Value.pointer (some { block := 0, off := i })),
    Hint.soft 7 21 (Value.int IntKind.u8 (List.getD zs i 0)),
    Hint.soft 7 22 (Value.int IntKind.u8 (List.getD zs i 0 / 16)),
    Hint.soft 7 27 (Value.pointer (some { block := 0, off := i })),
    Hint.soft 7 28 (Value.int IntKind.u8 (List.getD zs i 0)),
    Hint.soft 7 29 (Value.int IntKind.u8 (List.getD zs i 0 % 16)),
    Hint.val 7 31 (Value.int IntKind.u8 (48 + List.getD zs i 0 % 16)),
    Hint.val 7 33 (Value.bool false),
    Hint.softH 7 39 (Value.slice (some { block := 3, off := 0, spot := some 0 }) (List.length (os ++ [87 + List.getD zs i 0 / 16] ++ [48 + List.getD zs i 0 % 16])) (List.length (os ++ [87 + List.getD zs i 0 / 16] ++ [48 + List.getD zs i 0 % 16]))) { n := 4, objs := [AObj.cells (u8s (os ++ [87 + List.getD zs i 0 / 16] ++ [48 + List.getD zs i 0 % 16])) 5 5 1, AObj.cells [Value.int IntKind.u8 (48 + List.getD zs i 0 % 16)] 5 0 1, AObj.dead, AObj.cells (u8s zs) e 6 1] } [1],
    Hint.val 7 13 (Value.int IntKind.i64 ((↑i : Int) + 1))])
    [Value.bool (decide ((↑i : Int) < (↑lz : Int))) = Value.bool true,
    (0 : Int) ≤ (↑i : Int) ∧ (↑i : Int) < (↑lz : Int),
    Value.pointer (some { block := (0 : Nat), off := (0 : Nat) + Int.toNat (↑i : Int) * (1 : Nat) }) = Value.pointer (some { block := (0 : Nat), off := i }),
    (u8s zs)[i]? = some (Value.int IntKind.u8 (List.getD zs i (0 : Int))),
    (16 : Int) ≠ (0 : Int),
    Value.int IntKind.u8 (IntKind.wrap IntKind.u8 (Int.tdiv (List.getD zs i (0 : Int)) (16 : Int))) = Value.int IntKind.u8 (List.getD zs i (0 : Int) / (16 : Int)),
    Value.int IntKind.u8 (IntKind.wrap IntKind.u8 ((48 : Int) + List.getD zs i (0 : Int) / (16 : Int))) = Value.int IntKind.u8 ((48 : Int) + List.getD zs i (0 : Int) / (16 : Int)),
    Value.bool (decide (List.getD zs i (0 : Int) / (16 : Int) > (9 : Int))) = Value.bool true,
    Value.int IntKind.u8 (IntKind.wrap IntKind.u8 ((87 : Int) + List.getD zs i (0 : Int) / (16 : Int))) = Value.int IntKind.u8 ((87 : Int) + List.getD zs i (0 : Int) / (16 : Int)),
    Dg.evAppend Tryd.prog { n := (3 : Nat), objs := [AObj.cells [Value.int IntKind.u8 ((87 : Int) + List.getD zs i (0 : Int) / (16 : Int))] (5 : Nat) (0 : Nat) (1 : Nat), AObj.cells (u8s os) (5 : Nat) (5 : Nat) (1 : Nat), AObj.cells (u8s zs) e (6 : Nat) (1 : Nat)] } (22 : Nat) (22 : Nat) (Value.slice (some { block := (1 : Nat), off := (0 : Nat), spot := some (0 : Nat) }) (List.length os) (List.length os)) (Value.slice (some { block := (2 : Nat), off := (0 : Nat) }) (1 : Nat) (1 : Nat)) = some (Value.slice (some { block := (3 : Nat), off := (0 : Nat), spot := some (0 : Nat) }) (List.length (os ++ [(87 : Int) + List.getD zs i (0 : Int) / (16 : Int)])) (List.length (os ++ [(87 : Int) + List.getD zs i (0 : Int) / (16 : Int)])), { n := (4 : Nat), objs := [AObj.cells (u8s (os ++ [(87 : Int) + List.getD zs i (0 : Int) / (16 : Int)])) (5 : Nat) (5 : Nat) (1 : Nat), AObj.cells [Value.int IntKind.u8 ((87 : Int) + List.getD zs i (0 : Int) / (16 : Int))] (5 : Nat) (0 : Nat) (1 : Nat), AObj.dead, AObj.cells (u8s zs) e (6 : Nat) (1 : Nat)] }, [(1 : Nat)]),
    (0 : Int) ≤ (↑i : Int) ∧ (↑i : Int) < (↑lz : Int),
    Value.pointer (some { block := (0 : Nat), off := (0 : Nat) + Int.toNat (↑i : Int) * (1 : Nat) }) = Value.pointer (some { block := (0 : Nat), off := i }),
    (u8s zs)[i]? = some (Value.int IntKind.u8 (List.getD zs i (0 : Int))),
    (16 : Int) ≠ (0 : Int),
    Value.int IntKind.u8 (IntKind.wrap IntKind.u8 (Int.tdiv (List.getD zs i (0 : Int)) (16 : Int))) = Value.int IntKind.u8 (List.getD zs i (0 : Int) / (16 : Int)),
    (0 : Int) ≤ (↑i : Int) ∧ (↑i : Int) < (↑lz : Int),
    Value.pointer (some { block := (0 : Nat), off := (0 : Nat) + Int.toNat (↑i : Int) * (1 : Nat) }) = Value.pointer (some { block := (0 : Nat), off := i }),
    (u8s zs)[i]? = some (Value.int IntKind.u8 (List.getD zs i (0 : Int))),
    (16 : Int) ≠ (0 : Int),
    Value.int IntKind.u8 (Int.tmod (List.getD zs i (0 : Int)) (16 : Int)) = Value.int IntKind.u8 (List.getD zs i (0 : Int) % (16 : Int)),
    Value.int IntKind.u8 (IntKind.wrap IntKind.u8 ((48 : Int) + List.getD zs i (0 : Int) % (16 : Int))) = Value.int IntKind.u8 ((48 : Int) + List.getD zs i (0 : Int) % (16 : Int)),
    Value.bool (decide (List.getD zs i (0 : Int) % (16 : Int) > (9 : Int))) = Value.bool false,
    Dg.evAppend Tryd.prog { n := (3 : Nat), objs := [AObj.cells [Value.int IntKind.u8 ((48 : Int) + List.getD zs i (0 : Int) % (16 : Int))] (5 : Nat) (0 : Nat) (1 : Nat), AObj.cells (u8s (os ++ [(87 : Int) + List.getD zs i (0 : Int) / (16 : Int)])) (5 : Nat) (5 : Nat) (1 : Nat), AObj.cells (u8s zs) e (6 : Nat) (1 : Nat)] } (22 : Nat) (22 : Nat) (Value.slice (some { block := (1 : Nat), off := (0 : Nat), spot := some (0 : Nat) }) (List.length (os ++ [(87 : Int) + List.getD zs i (0 : Int) / (16 : Int)])) (List.length (os ++ [(87 : Int) + List.getD zs i (0 : Int) / (16 : Int)]))) (Value.slice (some { block := (2 : Nat), off := (0 : Nat) }) (1 : Nat) (1 : Nat)) = some (Value.slice (some { block := (3 : Nat), off := (0 : Nat), spot := some (0 : Nat) }) (List.length (os ++ [(87 : Int) + List.getD zs i (0 : Int) / (16 : Int)] ++ [(48 : Int) + List.getD zs i (0 : Int) % (16 : Int)])) (List.length (os ++ [(87 : Int) + List.getD zs i (0 : Int) / (16 : Int)] ++ [(48 : Int) + List.getD zs i (0 : Int) % (16 : Int)])), { n := (4 : Nat), objs := [AObj.cells (u8s (os ++ [(87 : Int) + List.getD zs i (0 : Int) / (16 : Int)] ++ [(48 : Int) + List.getD zs i (0 : Int) % (16 : Int)])) (5 : Nat) (5 : Nat) (1 : Nat), AObj.cells [Value.int IntKind.u8 ((48 : Int) + List.getD zs i (0 : Int) % (16 : Int))] (5 : Nat) (0 : Nat) (1 : Nat), AObj.dead, AObj.cells (u8s zs) e (6 : Nat) (1 : Nat)] }, [(1 : Nat)]),
    Value.int IntKind.i64 (IntKind.wrap IntKind.i64 ((↑i : Int) + (1 : Int))) = Value.int IntKind.i64 ((↑i : Int) + (1 : Int))] (by kernel_rfl)
    ⟨Dg.vtrue (by omega), by omega, Dg.ptr_eq (by omega), u8_load zs i (by omega), by omega, q16 h0, by simp only [Dg.w_u8, Dg.w_u16, Dg.w_u32, Dg.w_i8, Dg.w_i32, Value.int.injEq, true_and]; omega, Dg.vtrue (by omega), by simp only [Dg.w_u8, Dg.w_u16, Dg.w_u32, Dg.w_i8, Dg.w_i32, Value.int.injEq, true_and]; omega, appU (os := os) (x := (87 + (zs.getD i 0) / 16)) rfl rfl rfl (by omega) (by simp) rfl rfl, by omega, Dg.ptr_eq (by omega), u8_load zs i (by omega), by omega, q16 h0, by omega, Dg.ptr_eq (by omega), u8_load zs i (by omega), by omega, m16 h0, by simp only [Dg.w_u8, Dg.w_u16, Dg.w_u32, Dg.w_i8, Dg.w_i32, Value.int.injEq, true_and]; omega, Dg.vfalse (by omega), appU (os := os ++ [(87 + (zs.getD i 0) / 16)]) (x := (48 + (zs.getD i 0) % 16)) rfl rfl rfl (by simp; omega) (by simp) rfl rfl, Dg.i64_eq rfl (by omega) (by omega), trivial⟩
--> r7hlb
--< r7hha
theorem r7hha (lz : Nat) (cz : Nat) (zs : List Int) (e : Nat) (hi : 0 < lz) (hl : lz ≤ 1000) (hc : lz ≤ cz) (hzl : List.length zs = cz) (h0 : 0 ≤ List.getD zs 0 0 ∧ List.getD zs 0 0 < 256) (h1 : 9 < List.getD zs 0 0 / 16) (h2 : 9 < List.getD zs 0 0 % 16) :
    ∃ s', runR (R7a lz cz zs e) = some (Ex.normal, s') ∧ clR s' = R7b lz cz zs e 1 (List.getD zs 0 0 % 16) (87 + List.getD zs 0 0 % 16) [87 + List.getD zs 0 0 / 16, 87 + List.getD zs 0 0 % 16] :=
  Dg.code_round (f := 7) clR (hs := [Hint.val 7 11 (Value.bool true),
    Hint.soft 7 20 (Value.pointer (some { block := 0, off := 0 })),
    Hint.soft 7 21 (Value.int IntKind.u8 (List.getD zs 0 0)),
    Hint.soft 7 22 (Value.int IntKind.u8 (List.getD zs 0 0 / 16)),
    Hint.val 7 31 (Value.int IntKind.u8 (48 + List.getD zs 0 0 / 16)),
    Hint.val 7 33 (Value.bool true),
    Hint.val 7 35 (Value.int IntKind.u8 (87 + List.getD zs 0 0 / 16)),
    Hint.soft 7 20 (Value.pointer (some { block := 0, off := 0 })),
    Hint.soft 7 21 (Value.int IntKind.u8 (List.getD zs 0 0)),
    Hint.soft 7 22 (Value.int IntKind.u8 (List.getD zs 0 0 / 16)),
    Hint.soft 7 27 (Value.pointer (some { block := 0, off := 0 })),
    Hint.soft 7 28 (Value.int IntKind.u8 (List.getD zs 0 0)),
    Hint.soft 7 29 (Value.int IntKind.u8 (List.getD zs 0 0 % 16)),
    Hint.val 7 31 (Value.int IntKind.u8 (48 + List.getD zs 0 0 % 16)),
    Hint.val 7 33 (Value.bool true),
    Hint.val 7 35 (Value.int IntKind.u8 (87 + List.getD zs 0 0 % 16))])
    [Value.bool (decide ((0 : Int) < (↑lz : Int))) = Value.bool true,
    (0 : Int) ≤ (0 : Int) ∧ (0 : Int) < (↑lz : Int),
    Value.pointer (some { block := (0 : Nat), off := (0 : Nat) }) = Value.pointer (some { block := (0 : Nat), off := (0 : Nat) }),
    (u8s zs)[(0 : Nat)]? = some (Value.int IntKind.u8 (List.getD zs (0 : Nat) (0 : Int))),
    (16 : Int) ≠ (0 : Int),
    Value.int IntKind.u8 (IntKind.wrap IntKind.u8 (Int.tdiv (List.getD zs (0 : Nat) (0 : Int)) (16 : Int))) = Value.int IntKind.u8 (List.getD zs (0 : Nat) (0 : Int) / (16 : Int)),
    Value.int IntKind.u8 (IntKind.wrap IntKind.u8 ((48 : Int) + List.getD zs (0 : Nat) (0 : Int) / (16 : Int))) = Value.int IntKind.u8 ((48 : Int) + List.getD zs (0 : Nat) (0 : Int) / (16 : Int)),
    Value.bool (decide (List.getD zs (0 : Nat) (0 : Int) / (16 : Int) > (9 : Int))) = Value.bool true,
    Value.int IntKind.u8 (IntKind.wrap IntKind.u8 ((87 : Int) + List.getD zs (0 : Nat) (0 : Int) / (16 : Int))) = Value.int IntKind.u8 ((87 : Int) + List.getD zs (0 : Nat) (0 : Int) / (16 : Int)),
    (0 : Int) ≤ (0 : Int) ∧ (0 : Int) < (↑lz : Int),
    Value.pointer (some { block := (0 : Nat), off := (0 : Nat) }) = Value.pointer (some { block := (0 : Nat), off := (0 : Nat) }),
    (u8s zs)[(0 : Nat)]? = some (Value.int IntKind.u8 (List.getD zs (0 : Nat) (0 : Int))),
    (16 : Int) ≠ (0 : Int),
    Value.int IntKind.u8 (IntKind.wrap IntKind.u8 (Int.tdiv (List.getD zs (0 : Nat) (0 : Int)) (16 : Int))) = Value.int IntKind.u8 (List.getD zs (0 : Nat) (0 : Int) / (16 : Int)),
    (0 : Int) ≤ (0 : Int) ∧ (0 : Int) < (↑lz : Int),
    Value.pointer (some { block := (0 : Nat), off := (0 : Nat) }) = Value.pointer (some { block := (0 : Nat), off := (0 : Nat) }),
    (u8s zs)[(0 : Nat)]? = some (Value.int IntKind.u8 (List.getD zs (0 : Nat) (0 : Int))),
    (16 : Int) ≠ (0 : Int),
    Value.int IntKind.u8 (Int.tmod (List.getD zs (0 : Nat) (0 : Int)) (16 : Int)) = Value.int IntKind.u8 (List.getD zs (0 : Nat) (0 : Int) % (16 : Int)),
    Value.int IntKind.u8 (IntKind.wrap IntKind.u8 ((48 : Int) + List.getD zs (0 : Nat) (0 : Int) % (16 : Int))) = Value.int IntKind.u8 ((48 : Int) + List.getD zs (0 : Nat) (0 : Int) % (16 : Int)),
    Value.bool (decide (List.getD zs (0 : Nat) (0 : Int) % (16 : Int) > (9 : Int))) = Value.bool true,
    Value.int IntKind.u8 (IntKind.wrap IntKind.u8 ((87 : Int) + List.getD zs (0 : Nat) (0 : Int) % (16 : Int))) = Value.int IntKind.u8 ((87 : Int) + List.getD zs (0 : Nat) (0 : Int) % (16 : Int))] (by kernel_rfl)
    ⟨Dg.vtrue (by omega), by omega, rfl, u8_load zs 0 (by omega), by omega, q16 h0, by simp only [Dg.w_u8, Dg.w_u16, Dg.w_u32, Dg.w_i8, Dg.w_i32, Value.int.injEq, true_and]; omega, Dg.vtrue (by omega), by simp only [Dg.w_u8, Dg.w_u16, Dg.w_u32, Dg.w_i8, Dg.w_i32, Value.int.injEq, true_and]; omega, by omega, rfl, u8_load zs 0 (by omega), by omega, q16 h0, by omega, rfl, u8_load zs 0 (by omega), by omega, m16 h0, by simp only [Dg.w_u8, Dg.w_u16, Dg.w_u32, Dg.w_i8, Dg.w_i32, Value.int.injEq, true_and]; omega, Dg.vtrue (by omega), by simp only [Dg.w_u8, Dg.w_u16, Dg.w_u32, Dg.w_i8, Dg.w_i32, Value.int.injEq, true_and]; omega, trivial⟩
--> r7hha
--< r7hhb
theorem r7hhb (lz : Nat) (cz : Nat) (zs : List Int) (e : Nat) (i : Nat) (n : Int) (c : Int) (os : List Int) (ho : List.length os = 2 * i) (hi : i < lz) (hl : lz ≤ 1000) (hc : lz ≤ cz) (hzl : List.length zs = cz) (h0 : 0 ≤ List.getD zs i 0 ∧ List.getD zs i 0 < 256) (h1 : 9 < List.getD zs i 0 / 16) (h2 : 9 < List.getD zs i 0 % 16) :
    ∃ s', runR (R7b lz cz zs e i n c os) = some (Ex.normal, s') ∧ clR s' = R7b lz cz zs e (i + 1) (List.getD zs i 0 % 16) (87 + List.getD zs i 0 % 16) (os ++ [87 + List.getD zs i 0 / 16] ++ [87 + List.getD zs i 0 % 16]) :=
  Dg.code_round (f := 7) clR (hs := [Hint.val 7 11 (Value.bool true),
    Hint.soft 7 20 (Value.pointer (some { block := 0, off := i })),
    Hint.soft 7 21 (Value.int IntKind.u8 (List.getD zs i 0)),
    Hint.soft 7 22 (Value.int IntKind.u8 (List.getD zs i 0 / 16)),
    Hint.val 7 31 (Value.int IntKind.u8 (48 + List.getD zs i 0 / 16)),
    Hint.val 7 33 (Value.bool true),
    Hint.val 7 35 (Value.int IntKind.u8 (87 + List.getD zs i 0 / 16)),
    Hint.softH 7 39 (Value.slice (some { block := 3, off := 0, spot := some 0 }) (List.length (os ++ [87 + List.getD zs i 0 / 16])) (List.length (os ++ [87 + List.getD zs i 0 / 16]))) { n := 4, objs := [AObj.cells (u8s (os ++ [87 + List.getD zs i 0 / 16])) 5 5 1, AObj.cells [Value.int IntKind.u8 (87 + List.getD zs i 0 / 16)] 5 0 1, AObj.dead, AObj.cells (u8s zs) e 6 1] } [1],
    Hint.soft 7 20 (Value.pointer (some { block := 0, off := i })),
    Hint.soft 7 21 (Value.int IntKind.u8 (List.getD zs i 0)),
    Hint.soft 7 22 (Value.int IntKind.u8 (List.getD zs i 0 / 16)),
    Hint.soft 7 27 (Value.pointer (some { block := 0, off := i })),
    Hint.soft 7 28 (Value.int IntKind.u8 (List.getD zs i 0)),
    Hint.soft 7 29 (Value.int IntKind.u8 (List.getD zs i 0 % 16)),
    Hint.val 7 31 (Value.int IntKind.u8 (48 + List.getD zs i 0 % 16)),
    Hint.val 7 33 (Value.bool true),
    Hint.val 7 35 (Value.int IntKind.u8 (87 + List.getD zs i 0 % 16)),
    Hint.softH 7 39 (Value.slice (some { block := 3, off := 0, spot := some 0 }) (List.length (os ++ [87 + List.getD zs i 0 / 16] ++ [87 + List.getD zs i 0 % 16])) (List.length (os ++ [87 + List.getD zs i 0 / 16] ++ [87 + List.getD zs i 0 % 16]))) { n := 4, objs := [AObj.cells (u8s (os ++ [87 + List.getD zs i 0 / 16] ++ [87 + List.getD zs i 0 % 16])) 5 5 1, AObj.cells [Value.int IntKind.u8 (87 + List.getD zs i 0 % 16)] 5 0 1, AObj.dead, AObj.cells (u8s zs) e 6 1] } [1],
    Hint.val 7 13 (Value.int IntKind.i64 ((↑i : Int) + 1))])
    [Value.bool (decide ((↑i : Int) < (↑lz : Int))) = Value.bool true,
    (0 : Int) ≤ (↑i : Int) ∧ (↑i : Int) < (↑lz : Int),
    Value.pointer (some { block := (0 : Nat), off := (0 : Nat) + Int.toNat (↑i : Int) * (1 : Nat) }) = Value.pointer (some { block := (0 : Nat), off := i }),
    (u8s zs)[i]? = some (Value.int IntKind.u8 (List.getD zs i (0 : Int))),
    (16 : Int) ≠ (0 : Int),
    Value.int IntKind.u8 (IntKind.wrap IntKind.u8 (Int.tdiv (List.getD zs i (0 : Int)) (16 : Int))) = Value.int IntKind.u8 (List.getD zs i (0 : Int) / (16 : Int)),
    Value.int IntKind.u8 (IntKind.wrap IntKind.u8 ((48 : Int) + List.getD zs i (0 : Int) / (16 : Int))) = Value.int IntKind.u8 ((48 : Int) + List.getD zs i (0 : Int) / (16 : Int)),
    Value.bool (decide (List.getD zs i (0 : Int) / (16 : Int) > (9 : Int))) = Value.bool true,
    Value.int IntKind.u8 (IntKind.wrap IntKind.u8 ((87 : Int) + List.getD zs i (0 : Int) / (16 : Int))) = Value.int IntKind.u8 ((87 : Int) + List.getD zs i (0 : Int) / (16 : Int)),
    Dg.evAppend Tryd.prog { n := (3 : Nat), objs := [AObj.cells [Value.int IntKind.u8 ((87 : Int) + List.getD zs i (0 : Int) / (16 : Int))] (5 : Nat) (0 : Nat) (1 : Nat), AObj.cells (u8s os) (5 : Nat) (5 : Nat) (1 : Nat), AObj.cells (u8s zs) e (6 : Nat) (1 : Nat)] } (22 : Nat) (22 : Nat) (Value.slice (some { block := (1 : Nat), off := (0 : Nat), spot := some (0 : Nat) }) (List.length os) (List.length os)) (Value.slice (some { block := (2 : Nat), off := (0 : Nat) }) (1 : Nat) (1 : Nat)) = some (Value.slice (some { block := (3 : Nat), off := (0 : Nat), spot := some (0 : Nat) }) (List.length (os ++ [(87 : Int) + List.getD zs i (0 : Int) / (16 : Int)])) (List.length (os ++ [(87 : Int) + List.getD zs i (0 : Int) / (16 : Int)])), { n := (4 : Nat), objs := [AObj.cells (u8s (os ++ [(87 : Int) + List.getD zs i (0 : Int) / (16 : Int)])) (5 : Nat) (5 : Nat) (1 : Nat), AObj.cells [Value.int IntKind.u8 ((87 : Int) + List.getD zs i (0 : Int) / (16 : Int))] (5 : Nat) (0 : Nat) (1 : Nat), AObj.dead, AObj.cells (u8s zs) e (6 : Nat) (1 : Nat)] }, [(1 : Nat)]),
    (0 : Int) ≤ (↑i : Int) ∧ (↑i : Int) < (↑lz : Int),
    Value.pointer (some { block := (0 : Nat), off := (0 : Nat) + Int.toNat (↑i : Int) * (1 : Nat) }) = Value.pointer (some { block := (0 : Nat), off := i }),
    (u8s zs)[i]? = some (Value.int IntKind.u8 (List.getD zs i (0 : Int))),
    (16 : Int) ≠ (0 : Int),
    Value.int IntKind.u8 (IntKind.wrap IntKind.u8 (Int.tdiv (List.getD zs i (0 : Int)) (16 : Int))) = Value.int IntKind.u8 (List.getD zs i (0 : Int) / (16 : Int)),
    (0 : Int) ≤ (↑i : Int) ∧ (↑i : Int) < (↑lz : Int),
    Value.pointer (some { block := (0 : Nat), off := (0 : Nat) + Int.toNat (↑i : Int) * (1 : Nat) }) = Value.pointer (some { block := (0 : Nat), off := i }),
    (u8s zs)[i]? = some (Value.int IntKind.u8 (List.getD zs i (0 : Int))),
    (16 : Int) ≠ (0 : Int),
    Value.int IntKind.u8 (Int.tmod (List.getD zs i (0 : Int)) (16 : Int)) = Value.int IntKind.u8 (List.getD zs i (0 : Int) % (16 : Int)),
    Value.int IntKind.u8 (IntKind.wrap IntKind.u8 ((48 : Int) + List.getD zs i (0 : Int) % (16 : Int))) = Value.int IntKind.u8 ((48 : Int) + List.getD zs i (0 : Int) % (16 : Int)),
    Value.bool (decide (List.getD zs i (0 : Int) % (16 : Int) > (9 : Int))) = Value.bool true,
    Value.int IntKind.u8 (IntKind.wrap IntKind.u8 ((87 : Int) + List.getD zs i (0 : Int) % (16 : Int))) = Value.int IntKind.u8 ((87 : Int) + List.getD zs i (0 : Int) % (16 : Int)),
    Dg.evAppend Tryd.prog { n := (3 : Nat), objs := [AObj.cells [Value.int IntKind.u8 ((87 : Int) + List.getD zs i (0 : Int) % (16 : Int))] (5 : Nat) (0 : Nat) (1 : Nat), AObj.cells (u8s (os ++ [(87 : Int) + List.getD zs i (0 : Int) / (16 : Int)])) (5 : Nat) (5 : Nat) (1 : Nat), AObj.cells (u8s zs) e (6 : Nat) (1 : Nat)] } (22 : Nat) (22 : Nat) (Value.slice (some { block := (1 : Nat), off := (0 : Nat), spot := some (0 : Nat) }) (List.length (os ++ [(87 : Int) + List.getD zs i (0 : Int) / (16 : Int)])) (List.length (os ++ [(87 : Int) + List.getD zs i (0 : Int) / (16 : Int)]))) (Value.slice (some { block := (2 : Nat), off := (0 : Nat) }) (1 : Nat) (1 : Nat)) = some (Value.slice (some { block := (3 : Nat), off := (0 : Nat), spot := some (0 : Nat) }) (List.length (os ++ [(87 : Int) + List.getD zs i (0 : Int) / (16 : Int)] ++ [(87 : Int) + List.getD zs i (0 : Int) % (16 : Int)])) (List.length (os ++ [(87 : Int) + List.getD zs i (0 : Int) / (16 : Int)] ++ [(87 : Int) + List.getD zs i (0 : Int) % (16 : Int)])), { n := (4 : Nat), objs := [AObj.cells (u8s (os ++ [(87 : Int) + List.getD zs i (0 : Int) / (16 : Int)] ++ [(87 : Int) + List.getD zs i (0 : Int) % (16 : Int)])) (5 : Nat) (5 : Nat) (1 : Nat), AObj.cells [Value.int IntKind.u8 ((87 : Int) + List.getD zs i (0 : Int) % (16 : Int))] (5 : Nat) (0 : Nat) (1 : Nat), AObj.dead, AObj.cells (u8s zs) e (6 : Nat) (1 : Nat)] }, [(1 : Nat)]),
    Value.int IntKind.i64 (IntKind.wrap IntKind.i64 ((↑i : Int) + (1 : Int))) = Value.int IntKind.i64 ((↑i : Int) + (1 : Int))] (by kernel_rfl)
    ⟨Dg.vtrue (by omega), by omega, Dg.ptr_eq (by omega), u8_load zs i (by omega), by omega, q16 h0, by simp only [Dg.w_u8, Dg.w_u16, Dg.w_u32, Dg.w_i8, Dg.w_i32, Value.int.injEq, true_and]; omega, Dg.vtrue (by omega), by simp only [Dg.w_u8, Dg.w_u16, Dg.w_u32, Dg.w_i8, Dg.w_i32, Value.int.injEq, true_and]; omega, appU (os := os) (x := (87 + (zs.getD i 0) / 16)) rfl rfl rfl (by omega) (by simp) rfl rfl, by omega, Dg.ptr_eq (by omega), u8_load zs i (by omega), by omega, q16 h0, by omega, Dg.ptr_eq (by omega), u8_load zs i (by omega), by omega, m16 h0, by simp only [Dg.w_u8, Dg.w_u16, Dg.w_u32, Dg.w_i8, Dg.w_i32, Value.int.injEq, true_and]; omega, Dg.vtrue (by omega), by simp only [Dg.w_u8, Dg.w_u16, Dg.w_u32, Dg.w_i8, Dg.w_i32, Value.int.injEq, true_and]; omega, appU (os := os ++ [(87 + (zs.getD i 0) / 16)]) (x := (87 + (zs.getD i 0) % 16)) rfl rfl rfl (by simp; omega) (by simp) rfl rfl, Dg.i64_eq rfl (by omega) (by omega), trivial⟩
--> r7hhb
--< r7e
theorem r7e (lz : Nat) (cz : Nat) (zs : List Int) (e : Nat) (n : Int) (c : Int) (os : List Int) :
    runR (R7b lz cz zs e lz n c os) = some (Ex.exit 0, ({ ts := [Value.slice (some { block := 0, off := 0 }) lz cz, undef, Value.string { data := #[] }, Value.slice (some { block := 1, off := 0, spot := some 0 }) (List.length os) (List.length os), Value.int IntKind.i64 (↑lz : Int), Value.int IntKind.i64 2, Value.int IntKind.u8 n, Value.int IntKind.u8 c, Value.int IntKind.i64 (↑lz : Int), Value.slice (some { block := 0, off := 0 }) lz cz, Value.int IntKind.i64 (↑lz : Int), Value.bool false, junk, junk, junk, junk, junk, junk, junk, junk, junk, junk, junk, junk, junk, junk, junk, junk, junk, junk, junk, junk, junk, junk, junk, junk, junk, junk, junk, junk, junk, junk], H := { n := 2, objs := [AObj.cells (u8s os) 5 5 1, AObj.cells (u8s zs) e 6 1] }, log := [] } : St)) :=
  Dg.evCode_hint (f := 7) (hs' := []) (hs := [Hint.val 7 11 (Value.bool false)])
    [Value.bool (decide ((↑lz : Int) < (↑lz : Int))) = Value.bool false] (by kernel_rfl)
    ⟨Dg.vfalse (by omega), trivial⟩
--> r7e
end Go.Proofs.YtflgpkkbifkpoaaDoor.text
