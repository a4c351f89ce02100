/- The rounds of the law 'ShiftStill' of layer 34. -/
import Derived.Test.YtafhlmpifdclaaaRows
import Derived.Test.YtafhlmpifdclaaaShift16l
namespace Go.Proofs.Ytafhlmpifdclaaa.shift
open Go.Dg (junk St Ex Ev Hint evCall evCallS evCode evCodeS evLoop cleanSt ue bodied noOver sbOf headOf tailOf bodyOf rAssign rBody lBody Flats flatOver Heap AObj SCall Law ofLaw Fix)
set_option linter.unusedVariables false
set_option linter.unusedSimpArgs false

def u32s (zs : List Int) : List Value := zs.map (Value.int .u32 ·)
theorem u32_load (zs : List Int) (i : Nat) (h : i < zs.length) : (u32s zs)[i]? = some (.int .u32 (zs.getD i 0)) := by
  simp [u32s, List.getD_eq_getElem?_getD, h]
theorem rev_app (zs : List Int) (x : Int) : rowI (zs ++ [x]) = .cells (i64s (zs ++ [x])) 2 5 1 := rfl
theorem tc_load (os : List (Int × Int × Int)) (i : Nat) (h : i < os.length) : i * 3 + 3 ≤ (tc os).length ∧ ((tc os).drop (i * 3)).take 3 = [.int .u64 (os.getD i (0, 0, 0)).1, .int .i64 (os.getD i (0, 0, 0)).2.1, .int .i64 (os.getD i (0, 0, 0)).2.2] := by
  refine ⟨by rw [tc_len]; omega, ?_⟩
  have key : ∀ (os : List (Int × Int × Int)) (i : Nat), (tc os).drop (i * 3) = tc (os.drop i) := by
    intro os
    induction os with
    | nil => intro i; simp [tc]
    | cons p r ih =>
      intro i
      cases i with
      | zero => rfl
      | succ i =>
        rw [show (i + 1) * 3 = i * 3 + 3 by omega]
        exact ih i
  rw [key, List.drop_eq_getElem_cons h]
  simp only [tc, List.flatMap_cons, List.getD_eq_getElem?_getD, List.getElem?_eq_getElem h, Option.getD_some]
  rfl
noncomputable def c6 : Code := (Try.f6.body).getD .skip
noncomputable def lA : Code := lBody c6
/-- What stands behind the first loop. -/
def behindL : Code → Code
  | .seq a r => match Dg.findL a with | some _ => r | none => behindL r
  | c => c
noncomputable def lB : Code := lBody (behindL c6)
noncomputable def lC : Code := lBody (behindL (behindL c6))
noncomputable abbrev run6 (base : Nat) (l : Code) : St → Option (Ex × St) := evCode Try.prog 0 (bodied Try.prog) (evCall Try.prog 0 (bodied Try.prog) over4 sbs 1000 19) base 26 1000 l
noncomputable abbrev cl6 (base : Nat) (l : Code) : St → St := cleanSt base 26 (ue l [] []).1
section
variable (wd bd bs sp : Int) (lz cz ez n : Nat) (zs : List Int)
def aZ (lz cz : Nat) : Value := .slice (some ⟨0, 0, none⟩) lz cz
def oZ (zs : List Int) (ez : Nat) : AObj := .cells (u32s zs) ez 6 1
/-- The first slots. -/
def P6 (az near del x : Value) : List Value := [.int .u8 wd, .int .u32 bd, az, .int .i32 bs, .int .u32 sp] ++ (List.replicate 5 undef ++ [.bool false, .int .i64 n, .int .i64 bd, near, del, undef, x])
def TA (i : Nat) (near del x : Value) : List Value := P6 wd bd bs sp n (aZ lz cz) near del x ++ (List.replicate 9 undef ++ (js 14 ++ ([aZ lz cz, .int .i64 lz, .int .i64 i] ++ js 124)))
def A6a : St := ⟨TA wd bd bs sp lz cz n 0 (.slice none 0 0) (.slice none 0 0) undef, ⟨1, [oZ zs ez]⟩, []⟩
def A6b (i : Nat) (x : Int) (ns ds : List Int) : St := ⟨TA wd bd bs sp lz cz n i (.slice (some ⟨1, 0, some 0⟩) ns.length ns.length) (.slice (some ⟨2, 0, some 0⟩) ds.length ds.length) (.int .u32 x), ⟨3, [rowI ds, rowI ns, oZ zs ez]⟩, []⟩
end
--< r6a0
theorem r6a0 (wd : Int) (bd : Int) (bs : Int) (sp : Int) (lz : Nat) (cz : Nat) (ez : Nat) (n : Nat) (zs : List Int) (m : Int) (q : Int) (hi : 0 < lz) (hlz : lz ≤ 200) (hcz : lz ≤ cz) (hzl : List.length zs = cz) (hbd : 0 ≤ bd ∧ bd < 4294967296) (hbs : -2147483648 ≤ bs ∧ bs < 2147483648) (hx : 0 ≤ List.getD zs 0 0 ∧ List.getD zs 0 0 < 4294967296) (hm : Int.tmod (List.getD zs 0 0) (bd + 1) = m) (hq : Int.tmod (List.getD zs 0 0) 7 = q) (hm0 : 0 ≤ m ∧ m ≤ bd) (hq0 : 0 ≤ q ∧ q < 7) :
    ∃ s', run6 1 lA (A6a wd bd bs sp lz cz ez n zs) = some (Ex.normal, s') ∧ (cl6 1 lA) s' = A6b wd bd bs sp lz cz ez n zs 1 (List.getD zs 0 0) [bs + m] [q] :=
  Dg.code_round (f := 6) (cl6 1 lA) (hs := [Hint.val 6 43 (Value.bool true),
    Hint.soft 6 44 (Value.pointer (some { block := 0, off := 0 })),
    Hint.soft 6 45 (Value.int IntKind.u32 (List.getD zs 0 0)),
    Hint.val 6 48 (Value.int IntKind.i64 bs),
    Hint.val 6 50 (Value.int IntKind.i64 (List.getD zs 0 0)),
    Hint.val 6 52 (Value.int IntKind.i64 (bd + 1)),
    Hint.soft 6 53 (Value.int IntKind.i64 m),
    Hint.val 6 54 (Value.int IntKind.i64 (bs + m)),
    Hint.soft 6 59 (Value.int IntKind.u32 q),
    Hint.val 6 60 (Value.int IntKind.i64 q)])
    [Value.bool (decide ((↑(0 : Nat) : Int) < (↑lz : Int))) = Value.bool true,
    (0 : Int) ≤ (↑(0 : Nat) : Int) ∧ (↑(0 : Nat) : Int) < (↑lz : Int),
    Value.pointer (some { block := (0 : Nat), off := (0 : Nat) }) = Value.pointer (some { block := (0 : Nat), off := (0 : Nat) }),
    (u32s zs)[(0 : Nat)]? = some (Value.int IntKind.u32 (List.getD zs (0 : Nat) (0 : Int))),
    Value.int IntKind.i64 (IntKind.wrap IntKind.i64 bs) = Value.int IntKind.i64 bs,
    Value.int IntKind.i64 (IntKind.wrap IntKind.i64 (List.getD zs (0 : Nat) (0 : Int))) = Value.int IntKind.i64 (List.getD zs (0 : Nat) (0 : Int)),
    Value.int IntKind.i64 (IntKind.wrap IntKind.i64 (bd + (1 : Int))) = Value.int IntKind.i64 (bd + (1 : Int)),
    bd + (1 : Int) ≠ (0 : Int),
    Value.int IntKind.i64 (Int.tmod (List.getD zs (0 : Nat) (0 : Int)) (bd + (1 : Int))) = Value.int IntKind.i64 m,
    Value.int IntKind.i64 (IntKind.wrap IntKind.i64 (bs + m)) = Value.int IntKind.i64 (bs + m),
    (7 : Int) ≠ (0 : Int),
    Value.int IntKind.u32 (Int.tmod (List.getD zs (0 : Nat) (0 : Int)) (7 : Int)) = Value.int IntKind.u32 q,
    Value.int IntKind.i64 (IntKind.wrap IntKind.i64 q) = Value.int IntKind.i64 q] (by kernel_rfl)
    ⟨Dg.vtrue (by omega), by omega, rfl, u32_load zs 0 (by omega), Dg.i64_eq rfl (by omega) (by omega), Dg.i64_eq rfl (by omega) (by omega), Dg.i64_eq rfl (by omega) (by omega), by omega, Dg.int_eq (by omega), Dg.i64_eq rfl (by omega) (by omega), by omega, Dg.int_eq (by omega), Dg.i64_eq rfl (by omega) (by omega), trivial⟩
--> r6a0
--< r6a1
theorem r6a1 (wd : Int) (bd : Int) (bs : Int) (sp : Int) (lz : Nat) (cz : Nat) (ez : Nat) (n : Nat) (zs : List Int) (i : Nat) (x : Int) (ns : List Int) (ds : List Int) (m : Int) (q : Int) (ha : List.length ns = i) (hd : List.length ds = i) (hi : i < lz) (hlz : lz ≤ 200) (hcz : lz ≤ cz) (hzl : List.length zs = cz) (hbd : 0 ≤ bd ∧ bd < 4294967296) (hbs : -2147483648 ≤ bs ∧ bs < 2147483648) (hx : 0 ≤ List.getD zs i 0 ∧ List.getD zs i 0 < 4294967296) (hm : Int.tmod (List.getD zs i 0) (bd + 1) = m) (hq : Int.tmod (List.getD zs i 0) 7 = q) (hm0 : 0 ≤ m ∧ m ≤ bd) (hq0 : 0 ≤ q ∧ q < 7) :
    ∃ s', run6 1 lA (A6b wd bd bs sp lz cz ez n zs i x ns ds) = some (Ex.normal, s') ∧ (cl6 1 lA) s' = A6b wd bd bs sp lz cz ez n zs (i + 1) (List.getD zs i 0) (ns ++ [bs + m]) (ds ++ [q]) :=
  Dg.code_round (f := 6) (cl6 1 lA) (hs := [Hint.val 6 43 (Value.bool true),
    Hint.soft 6 44 (Value.pointer (some { block := 0, off := i })),
    Hint.soft 6 45 (Value.int IntKind.u32 (List.getD zs i 0)),
    Hint.val 6 48 (Value.int IntKind.i64 bs),
    Hint.val 6 50 (Value.int IntKind.i64 (List.getD zs i 0)),
    Hint.val 6 52 (Value.int IntKind.i64 (bd + 1)),
    Hint.soft 6 53 (Value.int IntKind.i64 m),
    Hint.val 6 54 (Value.int IntKind.i64 (bs + m)),
    Hint.softH 6 56 (Value.slice (some { block := 4, off := 0, spot := some 0 }) (List.length (ns ++ [bs + m])) (List.length (ns ++ [bs + m]))) { n := 5, objs := [AObj.cells (i64s (ns ++ [bs + m])) 2 5 1, AObj.cells [Value.int IntKind.i64 (bs + m)] 2 0 1, AObj.cells (i64s ds) 2 5 1, AObj.dead, AObj.cells (u32s zs) ez 6 1] } [1],
    Hint.soft 6 59 (Value.int IntKind.u32 q),
    Hint.val 6 60 (Value.int IntKind.i64 q),
    Hint.softH 6 62 (Value.slice (some { block := 6, off := 0, spot := some 0 }) (List.length (ds ++ [q])) (List.length (ds ++ [q]))) { n := 7, objs := [AObj.cells (i64s (ds ++ [q])) 2 5 1, AObj.cells [Value.int IntKind.i64 q] 2 0 1, AObj.cells (i64s (ns ++ [bs + m])) 2 5 1, AObj.cells [Value.int IntKind.i64 (bs + m)] 2 0 1, AObj.dead, AObj.dead, AObj.cells (u32s zs) ez 6 1] } [2],
    Hint.val 6 63 (Value.int IntKind.i64 ((↑i : Int) + 1))])
    [Value.bool (decide ((↑i : Int) < (↑lz : Int))) = Value.bool true,
    (0 : Int) ≤ (↑i : Int) ∧ (↑i : Int) < (↑lz : Int),
    Value.pointer (some { block := (0 : Nat), off := (0 : Nat) + Int.toNat (↑i : Int) * (1 : Nat) }) = Value.pointer (some { block := (0 : Nat), off := i }),
    (u32s zs)[i]? = some (Value.int IntKind.u32 (List.getD zs i (0 : Int))),
    Value.int IntKind.i64 (IntKind.wrap IntKind.i64 bs) = Value.int IntKind.i64 bs,
    Value.int IntKind.i64 (IntKind.wrap IntKind.i64 (List.getD zs i (0 : Int))) = Value.int IntKind.i64 (List.getD zs i (0 : Int)),
    Value.int IntKind.i64 (IntKind.wrap IntKind.i64 (bd + (1 : Int))) = Value.int IntKind.i64 (bd + (1 : Int)),
    bd + (1 : Int) ≠ (0 : Int),
    Value.int IntKind.i64 (Int.tmod (List.getD zs i (0 : Int)) (bd + (1 : Int))) = Value.int IntKind.i64 m,
    Value.int IntKind.i64 (IntKind.wrap IntKind.i64 (bs + m)) = Value.int IntKind.i64 (bs + m),
    Dg.evAppend Try.prog { n := (4 : Nat), objs := [AObj.cells [Value.int IntKind.i64 (bs + m)] (2 : Nat) (0 : Nat) (1 : Nat), AObj.cells (i64s ds) (2 : Nat) (5 : Nat) (1 : Nat), AObj.cells (i64s ns) (2 : Nat) (5 : Nat) (1 : Nat), AObj.cells (u32s zs) ez (6 : Nat) (1 : Nat)] } (22 : Nat) (22 : Nat) (Value.slice (some { block := (1 : Nat), off := (0 : Nat), spot := some (0 : Nat) }) (List.length ns) (List.length ns)) (Value.slice (some { block := (3 : Nat), off := (0 : Nat) }) (1 : Nat) (1 : Nat)) = some (Value.slice (some { block := (4 : Nat), off := (0 : Nat), spot := some (0 : Nat) }) (List.length (ns ++ [bs + m])) (List.length (ns ++ [bs + m])), { n := (5 : Nat), objs := [AObj.cells (i64s (ns ++ [bs + m])) (2 : Nat) (5 : Nat) (1 : Nat), AObj.cells [Value.int IntKind.i64 (bs + m)] (2 : Nat) (0 : Nat) (1 : Nat), AObj.cells (i64s ds) (2 : Nat) (5 : Nat) (1 : Nat), AObj.dead, AObj.cells (u32s zs) ez (6 : Nat) (1 : Nat)] }, [(1 : Nat)]),
    (7 : Int) ≠ (0 : Int),
    Value.int IntKind.u32 (Int.tmod (List.getD zs i (0 : Int)) (7 : Int)) = Value.int IntKind.u32 q,
    Value.int IntKind.i64 (IntKind.wrap IntKind.i64 q) = Value.int IntKind.i64 q,
    Dg.evAppend Try.prog { n := (6 : Nat), objs := [AObj.cells [Value.int IntKind.i64 q] (2 : Nat) (0 : Nat) (1 : Nat), AObj.cells (i64s (ns ++ [bs + m])) (2 : Nat) (5 : Nat) (1 : Nat), AObj.cells [Value.int IntKind.i64 (bs + m)] (2 : Nat) (0 : Nat) (1 : Nat), AObj.cells (i64s ds) (2 : Nat) (5 : Nat) (1 : Nat), AObj.dead, AObj.cells (u32s zs) ez (6 : Nat) (1 : Nat)] } (22 : Nat) (22 : Nat) (Value.slice (some { block := (2 : Nat), off := (0 : Nat), spot := some (0 : Nat) }) (List.length ds) (List.length ds)) (Value.slice (some { block := (5 : Nat), off := (0 : Nat) }) (1 : Nat) (1 : Nat)) = some (Value.slice (some { block := (6 : Nat), off := (0 : Nat), spot := some (0 : Nat) }) (List.length (ds ++ [q])) (List.length (ds ++ [q])), { n := (7 : Nat), objs := [AObj.cells (i64s (ds ++ [q])) (2 : Nat) (5 : Nat) (1 : Nat), AObj.cells [Value.int IntKind.i64 q] (2 : Nat) (0 : Nat) (1 : Nat), AObj.cells (i64s (ns ++ [bs + m])) (2 : Nat) (5 : Nat) (1 : Nat), AObj.cells [Value.int IntKind.i64 (bs + m)] (2 : Nat) (0 : Nat) (1 : Nat), AObj.dead, AObj.dead, AObj.cells (u32s zs) ez (6 : Nat) (1 : Nat)] }, [(2 : Nat)]),
    Value.int IntKind.i64 (IntKind.wrap IntKind.i64 ((↑i : Int) + (1 : Int))) = Value.int IntKind.i64 ((↑i : Int) + (1 : Int))] (by kernel_rfl)
    ⟨Dg.vtrue (by omega), by omega, Dg.ptr_eq (by omega), u32_load zs i (by omega), Dg.i64_eq rfl (by omega) (by omega), Dg.i64_eq rfl (by omega) (by omega), Dg.i64_eq rfl (by omega) (by omega), by omega, Dg.int_eq hm, Dg.i64_eq rfl (by omega) (by omega), app22 (os := ns) (x := bs + m) rfl rfl rfl (by omega) (by simp) rfl rfl, by omega, Dg.int_eq hq, Dg.i64_eq rfl (by omega) (by omega), app22 (os := ds) (x := q) rfl rfl rfl (by omega) (by simp) rfl rfl, Dg.i64_eq rfl (by omega) (by omega), trivial⟩
--> r6a1
end Go.Proofs.Ytafhlmpifdclaaa.shift
