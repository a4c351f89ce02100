/- The rounds over the steps of the law 'ShiftMoved' of layer 34. -/
import Derived.Test.YtafhlmpifdclaaaRows
import Derived.Test.YtafhlmpifdclaaaShift5b
namespace Go.Proofs.Ytafhlmpifdclaaa.shift
open Go.Dg (junk St Ex Ev Hint evCall evCallS evCode evCodeK innerKp evCodeS evLoop cleanSt ue bodied noOver sbOf headOf tailOf bodyOf rAssign rBody lBody Flats flatOver Heap AObj SCall Law ofLaw Fix)
set_option linter.unusedVariables false
set_option linter.unusedSimpArgs false

noncomputable def lC5 : Code := lBody (behindL (behindL (behindL c5)))
noncomputable def lD5 : Code := lBody (behindL (behindL (behindL (behindL c5))))
noncomputable def lE5 : Code := lBody lD5
noncomputable def kD5 : List Nat := innerKp lD5 []
theorem tc_step5 {os : List (Int × Int × Int)} {t o : Nat} {k A B : Int} (h : t < os.length) (hs : os.getD t (0, 0, 0) = (k, A, B)) (ho : o = t * 3) : ((tc os).drop o).take 3 = [.int .u64 k, .int .i64 A, .int .i64 B] := by
  subst ho
  rw [(tc_load os t h).2, hs]
theorem tc_room5 {os : List (Int × Int × Int)} {t o : Nat} (h : t < os.length) (ho : o = t * 3) : o + 3 ≤ (tc os).length := by
  subst ho
  exact (tc_load os t h).1
theorem c16pp {H : Heap} {kx ky lx ly : Nat} {cx cy : Cp} {e1 e2 : Sh} {xs ys : List Int} {w b : Int} {os : List (Int × Int × Int)} {m : Nat} (hne : kx ≠ ky) (hkx : H.get kx = oX xs e1) (hky : H.get ky = oX ys e2) (hb1 : b < 9223372036854775808) (hn : min lx ly ≤ 200)
    (hcx : lx ≤ cx.1) (hcy : ly ≤ cy.1) (hxl : xs.length = cx.1) (hyl : ys.length = cy.1) (hx : ∀ x ∈ xs, In x) (hos : stepsOf w b xs ys (min lx ly) = os) (ho : os ≠ []) (hm : os.length = m) :
    over4 16 [.int .i64 w, .int .i64 b, .slice (some ⟨kx, 0, cx.2⟩) lx cx.1, .slice (some ⟨ky, 0, cy.2⟩) ly cy.1] H = some (sv5 H.n m, H.push (stps os), []) :=
  c16 hne hkx hky hb1 hn hcx hcy hxl hyl hx (by rw [hos, allV, if_neg ho, hm]; rfl) (by rw [hos, allH, if_neg ho])
theorem c16pz {H : Heap} {kx ky lx ly : Nat} {cx cy : Cp} {e1 e2 : Sh} {xs ys : List Int} {w b : Int} (hne : kx ≠ ky) (hkx : H.get kx = oX xs e1) (hky : H.get ky = oX ys e2) (hb1 : b < 9223372036854775808) (hn : min lx ly ≤ 200)
    (hcx : lx ≤ cx.1) (hcy : ly ≤ cy.1) (hxl : xs.length = cx.1) (hyl : ys.length = cy.1) (hx : ∀ x ∈ xs, In x) (hos : stepsOf w b xs ys (min lx ly) = []) :
    over4 16 [.int .i64 w, .int .i64 b, .slice (some ⟨kx, 0, cx.2⟩) lx cx.1, .slice (some ⟨ky, 0, cy.2⟩) ly cy.1] H = some (.slice none 0 0, H, []) :=
  c16 hne hkx hky hb1 hn hcx hcy hxl hyl hx (by rw [hos]; rfl) (by rw [hos]; rfl)
section
variable (w b more byy : Int) (lx : Nat) (cx : Cp) (ly : Nat) (cy : Cp) (e1 e2 : Sh) (xs ys : List Int) (x2 x3 : Int) (ms ss ts : List Int) (m : Nat) (os os2 os3 : List (Int × Int × Int))
def Q5 : List Value := P5 w b more byy (aX lx cx) (aY ly cy) false (sv5 2 ms.length) (sv5 3 ss.length) (sv5 4 ts.length) (bmv 5) (.int .i64 more) (.int .i64 x2) (.int .i64 x3) ++ [sv5 6 m, sv5 7 m, sv5 8 m]
def H5 : List AObj := [stps os3, stps os2, stps os, BM5 more byy, rowI ts, rowI ss, rowI ms, oY ys e2, oX xs e1]
def cel5 (k A B : Int) : AObj := .cells [.int .u64 k, .int .i64 A, .int .i64 B] 31 4 1
def T5C (v27 v28 : Value) (i : Nat) (rest : List Value) : List Value := Q5 w b more byy lx cx ly cy x2 x3 ms ss ts m ++ ([v27, v28] ++ (us 3 ++ (js 97 ++ ([sv5 6 m, .int .i64 m, .int .i64 i] ++ rest))))
def C5a : St := ⟨T5C w b more byy lx cx ly cy x2 x3 ms ss ts m undef undef 0 (js 80), ⟨9, H5 more byy e1 e2 xs ys ms ss ts os os2 os3⟩, []⟩
def C5b (i : Nat) (v : Int) (k A B : Int) : St := ⟨T5C w b more byy lx cx ly cy x2 x3 ms ss ts m (.int .i64 v) (.pointer (some ⟨9, 0, none⟩)) i (js 80), ⟨10, cel5 k A B :: H5 more byy e1 e2 xs ys ms ss ts os os2 os3⟩, []⟩
def C5e (i : Nat) (v : Int) (k A B : Int) : St := ⟨T5C w b more byy lx cx ly cy x2 x3 ms ss ts m (.int .i64 v) (.pointer (some ⟨9, 0, none⟩)) i (.bool false :: js 79), ⟨10, cel5 k A B :: H5 more byy e1 e2 xs ys ms ss ts os os2 os3⟩, []⟩
variable (v kk AA BB : Int) (dl : Nat) (ds : List (Int × Int × Int))
def T5D (t : Nat) (v31 : Value) (q j : Nat) (rest : List Value) : List Value := Q5 w b more byy lx cx ly cy x2 x3 ms ss ts m ++ ([.int .i64 v, .pointer (some ⟨9, 0, none⟩), .int .i64 t, undef, v31] ++ (js 154 ++ ([sv5 q dl, .int .i64 dl, .int .i64 j] ++ rest)))
def D5a : St := ⟨T5D w b more byy lx cx ly cy x2 x3 ms ss ts m v dl 0 undef 10 0 (js 23), ⟨11, stps ds :: cel5 kk AA BB :: H5 more byy e1 e2 xs ys ms ss ts os os2 os3⟩, []⟩
/-- At number j of ds, the search at number t; the last one was (k, A, B). -/
def D5b (t j : Nat) (k A B : Int) : St := ⟨T5D w b more byy lx cx ly cy x2 x3 ms ss ts m v dl t (.pointer (some ⟨10, 0, none⟩)) 11 j (js 23), ⟨12, stps ds :: cel5 k A B :: cel5 kk AA BB :: H5 more byy e1 e2 xs ys ms ss ts os os2 os3⟩, []⟩
def D5e (t j : Nat) (k A B : Int) : St := ⟨T5D w b more byy lx cx ly cy x2 x3 ms ss ts m v dl t (.pointer (some ⟨10, 0, none⟩)) 11 j (.bool false :: js 22), ⟨12, stps ds :: cel5 k A B :: cel5 kk AA BB :: H5 more byy e1 e2 xs ys ms ss ts os os2 os3⟩, []⟩
def E5e (t j : Nat) (k A B : Int) : St := ⟨T5D w b more byy lx cx ly cy x2 x3 ms ss ts m v dl t (.pointer (some ⟨10, 0, none⟩)) 11 j (js 3 ++ ([.int .i64 t, sv5 6 m, .int .i64 m, .bool true, .bool true, sv5 6 m, .int .i64 t, .pointer (some ⟨6, t * 3, none⟩), .agg #[.int .u64 k, .int .i64 A, .int .i64 B], .agg #[.int .u64 k, .int .i64 A, .int .i64 B], .bool false, .bool false] ++ js 8)), ⟨12, stps ds :: cel5 k A B :: cel5 kk AA BB :: H5 more byy e1 e2 xs ys ms ss ts os os2 os3⟩, []⟩
end
--< c50
theorem c50 (w : Int) (b : Int) (more : Int) (byy : Int) (lx : Nat) (cx : Cp) (ly : Nat) (cy : Cp) (e1 : Sh) (e2 : Sh) (xs : List Int) (ys : List Int) (x2 : Int) (x3 : Int) (ms : List Int) (ss : List Int) (ts : List Int) (m : Nat) (os : List (Int × Int × Int)) (os2 : List (Int × Int × Int)) (os3 : List (Int × Int × Int)) (k : Int) (A : Int) (B : Int) (hi : 0 < m) (hm : List.length os = m) (hm2 : List.length os2 = m) (hm3 : List.length os3 = m) (hml : m ≤ 900) (hby : -1152921504606846976 < byy ∧ byy < 1152921504606846976) (h1 : List.getD os 0 (0, 0, 0) = (k, A, B)) (h2 : List.getD os2 0 (0, 0, 0) = (k, A + byy, B + byy)) (h3 : List.getD os3 0 (0, 0, 0) = (k, 0 - A, 0 - B)) (hA : -1152921504606846976 < A ∧ A < 1152921504606846976) (hB : -1152921504606846976 < B ∧ B < 1152921504606846976) :
    ∃ s', run5K 2 lC5 [] (C5a w b more byy lx cx ly cy e1 e2 xs ys x2 x3 ms ss ts m os os2 os3) = some (Ex.normal, s') ∧ (cl5K 2 lC5 []) s' = C5b w b more byy lx cx ly cy e1 e2 xs ys x2 x3 ms ss ts m os os2 os3 1 0 k A B :=
  Dg.code_round (f := 5) (cl5K 2 lC5 []) (hs := [Hint.val 5 132 (VT),
    Hint.soft 5 134 (Value.pointer (some { block := 6, off := 0 })),
    Hint.soft 5 135 (Value.agg #[Value.int IntKind.u64 k, VI A, VI B]),
    Hint.soft 5 138 (Value.pointer (some { block := 7, off := 0 })),
    Hint.soft 5 139 (Value.agg #[Value.int IntKind.u64 k, VI (A + byy), VI (B + byy)]),
    Hint.val 5 145 (VI (A + byy)),
    Hint.val 5 149 (VI (B + byy)),
    Hint.val 5 151 (VF),
    Hint.soft 5 155 (Value.pointer (some { block := 8, off := 0 })),
    Hint.soft 5 156 (Value.agg #[Value.int IntKind.u64 k, VI (0 - A), VI (0 - B)]),
    Hint.val 5 161 (VI (0 - A)),
    Hint.val 5 164 (VI (0 - B)),
    Hint.val 5 166 (VF)])
    [Value.bool (decide ((↑(0 : Nat) : Int) < (↑m : Int))) = VT,
    (0 : Int) ≤ (↑(0 : Nat) : Int) ∧ (↑(0 : Nat) : Int) < (↑m : Int),
    Value.pointer (some { block := (6 : Nat), off := (0 : Nat) }) = Value.pointer (some { block := (6 : Nat), off := (0 : Nat) }),
    (0 : Nat) + Try.prog.types[(31 : Nat)].size ≤ List.length (tc os),
    List.take Try.prog.types[(31 : Nat)].size (List.drop (0 : Nat) (tc os)) = [Value.int IntKind.u64 k, VI A, VI B],
    (0 : Int) ≤ (0 : Int) ∧ (0 : Int) < (↑m : Int),
    Value.pointer (some { block := (7 : Nat), off := (0 : Nat) }) = Value.pointer (some { block := (7 : Nat), off := (0 : Nat) }),
    (0 : Nat) + Try.prog.types[(31 : Nat)].size ≤ List.length (tc os2),
    List.take Try.prog.types[(31 : Nat)].size (List.drop (0 : Nat) (tc os2)) = [Value.int IntKind.u64 k, VI (A + byy), VI (B + byy)],
    VI (IntKind.wrap IntKind.i64 (A + byy)) = VI (A + byy),
    VI (IntKind.wrap IntKind.i64 (B + byy)) = VI (B + byy),
    Value.bool (if false = true then k == k && (A + byy == A + byy && (B + byy == B + byy && true)) else !(k == k && (A + byy == A + byy && (B + byy == B + byy && true)))) = VF,
    (0 : Int) ≤ (0 : Int) ∧ (0 : Int) < (↑m : Int),
    Value.pointer (some { block := (8 : Nat), off := (0 : Nat) }) = Value.pointer (some { block := (8 : Nat), off := (0 : Nat) }),
    (0 : Nat) + Try.prog.types[(31 : Nat)].size ≤ List.length (tc os3),
    List.take Try.prog.types[(31 : Nat)].size (List.drop (0 : Nat) (tc os3)) = [Value.int IntKind.u64 k, VI ((0 : Int) - A), VI ((0 : Int) - B)],
    VI (IntKind.wrap IntKind.i64 ((0 : Int) - A)) = VI ((0 : Int) - A),
    VI (IntKind.wrap IntKind.i64 ((0 : Int) - B)) = VI ((0 : Int) - B),
    Value.bool (if false = true then k == k && ((0 : Int) - A == (0 : Int) - A && ((0 : Int) - B == (0 : Int) - B && true)) else !(k == k && ((0 : Int) - A == (0 : Int) - A && ((0 : Int) - B == (0 : Int) - B && true)))) = VF] (by kernel_rfl)
    ⟨Dg.vtrue (by omega), by omega, rfl, tc_room5 (t := 0) (by omega) (by omega), tc_step5 (by omega) h1 (by omega), by omega, rfl, tc_room5 (t := 0) (by omega) (by omega), tc_step5 (by omega) h2 (by omega), Dg.i64_eq rfl (by omega) (by omega), Dg.i64_eq rfl (by omega) (by omega), by simp, by omega, rfl, tc_room5 (t := 0) (by omega) (by omega), tc_step5 (by omega) h3 (by omega), Dg.i64_eq rfl (by omega) (by omega), Dg.i64_eq rfl (by omega) (by omega), by simp, trivial⟩
--> c50
--< c51
theorem c51 (w : Int) (b : Int) (more : Int) (byy : Int) (lx : Nat) (cx : Cp) (ly : Nat) (cy : Cp) (e1 : Sh) (e2 : Sh) (xs : List Int) (ys : List Int) (x2 : Int) (x3 : Int) (ms : List Int) (ss : List Int) (ts : List Int) (m : Nat) (os : List (Int × Int × Int)) (os2 : List (Int × Int × Int)) (os3 : List (Int × Int × Int)) (i : Nat) (u : Int) (k0 : Int) (A0 : Int) (B0 : Int) (k : Int) (A : Int) (B : Int) (hi : i < m) (hm : List.length os = m) (hm2 : List.length os2 = m) (hm3 : List.length os3 = m) (hml : m ≤ 900) (hby : -1152921504606846976 < byy ∧ byy < 1152921504606846976) (h1 : List.getD os i (0, 0, 0) = (k, A, B)) (h2 : List.getD os2 i (0, 0, 0) = (k, A + byy, B + byy)) (h3 : List.getD os3 i (0, 0, 0) = (k, 0 - A, 0 - B)) (hA : -1152921504606846976 < A ∧ A < 1152921504606846976) (hB : -1152921504606846976 < B ∧ B < 1152921504606846976) :
    ∃ s', run5K 2 lC5 [] (C5b w b more byy lx cx ly cy e1 e2 xs ys x2 x3 ms ss ts m os os2 os3 i u k0 A0 B0) = some (Ex.normal, s') ∧ (cl5K 2 lC5 []) s' = C5b w b more byy lx cx ly cy e1 e2 xs ys x2 x3 ms ss ts m os os2 os3 (i + 1) (↑i : Int) k A B :=
  Dg.code_round (f := 5) (cl5K 2 lC5 []) (hs := [Hint.val 5 132 (VT),
    Hint.soft 5 134 (Value.pointer (some { block := 6, off := i * 3 })),
    Hint.soft 5 135 (Value.agg #[Value.int IntKind.u64 k, VI A, VI B]),
    Hint.soft 5 138 (Value.pointer (some { block := 7, off := i * 3 })),
    Hint.soft 5 139 (Value.agg #[Value.int IntKind.u64 k, VI (A + byy), VI (B + byy)]),
    Hint.val 5 145 (VI (A + byy)),
    Hint.val 5 149 (VI (B + byy)),
    Hint.val 5 151 (VF),
    Hint.soft 5 155 (Value.pointer (some { block := 8, off := i * 3 })),
    Hint.soft 5 156 (Value.agg #[Value.int IntKind.u64 k, VI (0 - A), VI (0 - B)]),
    Hint.val 5 161 (VI (0 - A)),
    Hint.val 5 164 (VI (0 - B)),
    Hint.val 5 166 (VF),
    Hint.val 5 168 (VI ((↑i : Int) + 1))])
    [Value.bool (decide ((↑i : Int) < (↑m : Int))) = VT,
    (0 : Int) ≤ (↑i : Int) ∧ (↑i : Int) < (↑m : Int),
    Value.pointer (some { block := (6 : Nat), off := (0 : Nat) + Int.toNat (↑i : Int) * (3 : Nat) }) = Value.pointer (some { block := (6 : Nat), off := i * (3 : Nat) }),
    i * (3 : Nat) + Try.prog.types[(31 : Nat)].size ≤ List.length (tc os),
    List.take Try.prog.types[(31 : Nat)].size (List.drop (i * (3 : Nat)) (tc os)) = [Value.int IntKind.u64 k, VI A, VI B],
    (0 : Int) ≤ (↑i : Int) ∧ (↑i : Int) < (↑m : Int),
    Value.pointer (some { block := (7 : Nat), off := (0 : Nat) + Int.toNat (↑i : Int) * (3 : Nat) }) = Value.pointer (some { block := (7 : Nat), off := i * (3 : Nat) }),
    i * (3 : Nat) + Try.prog.types[(31 : Nat)].size ≤ List.length (tc os2),
    List.take Try.prog.types[(31 : Nat)].size (List.drop (i * (3 : Nat)) (tc os2)) = [Value.int IntKind.u64 k, VI (A + byy), VI (B + byy)],
    VI (IntKind.wrap IntKind.i64 (A + byy)) = VI (A + byy),
    VI (IntKind.wrap IntKind.i64 (B + byy)) = VI (B + byy),
    Value.bool (if false = true then k == k && (A + byy == A + byy && (B + byy == B + byy && true)) else !(k == k && (A + byy == A + byy && (B + byy == B + byy && true)))) = VF,
    (0 : Int) ≤ (↑i : Int) ∧ (↑i : Int) < (↑m : Int),
    Value.pointer (some { block := (8 : Nat), off := (0 : Nat) + Int.toNat (↑i : Int) * (3 : Nat) }) = Value.pointer (some { block := (8 : Nat), off := i * (3 : Nat) }),
    i * (3 : Nat) + Try.prog.types[(31 : Nat)].size ≤ List.length (tc os3),
    List.take Try.prog.types[(31 : Nat)].size (List.drop (i * (3 : Nat)) (tc os3)) = [Value.int IntKind.u64 k, VI ((0 : Int) - A), VI ((0 : Int) - B)],
    VI (IntKind.wrap IntKind.i64 ((0 : Int) - A)) = VI ((0 : Int) - A),
    VI (IntKind.wrap IntKind.i64 ((0 : Int) - B)) = VI ((0 : Int) - B),
    Value.bool (if false = true then k == k && ((0 : Int) - A == (0 : Int) - A && ((0 : Int) - B == (0 : Int) - B && true)) else !(k == k && ((0 : Int) - A == (0 : Int) - A && ((0 : Int) - B == (0 : Int) - B && true)))) = VF,
    VI (IntKind.wrap IntKind.i64 ((↑i : Int) + (1 : Int))) = VI ((↑i : Int) + (1 : Int))] (by kernel_rfl)
    ⟨Dg.vtrue (by omega), by omega, Dg.ptr_eq (by omega), tc_room5 (t := i) (by omega) (by omega), tc_step5 (by omega) h1 (by omega), by omega, Dg.ptr_eq (by omega), tc_room5 (t := i) (by omega) (by omega), tc_step5 (by omega) h2 (by omega), Dg.i64_eq rfl (by omega) (by omega), Dg.i64_eq rfl (by omega) (by omega), by simp, by omega, Dg.ptr_eq (by omega), tc_room5 (t := i) (by omega) (by omega), tc_step5 (by omega) h3 (by omega), Dg.i64_eq rfl (by omega) (by omega), Dg.i64_eq rfl (by omega) (by omega), by simp, Dg.i64_eq rfl (by omega) (by omega), trivial⟩
--> c51
--< c5e
theorem c5e (w : Int) (b : Int) (more : Int) (byy : Int) (lx : Nat) (cx : Cp) (ly : Nat) (cy : Cp) (e1 : Sh) (e2 : Sh) (xs : List Int) (ys : List Int) (x2 : Int) (x3 : Int) (ms : List Int) (ss : List Int) (ts : List Int) (m : Nat) (os : List (Int × Int × Int)) (os2 : List (Int × Int × Int)) (os3 : List (Int × Int × Int)) (u : Int) (k : Int) (A : Int) (B : Int) :
    run5K 2 lC5 [] (C5b w b more byy lx cx ly cy e1 e2 xs ys x2 x3 ms ss ts m os os2 os3 m u k A B) = some (Ex.exit 8, ({ ts := ([VI w, VI b, VI more, VC 0 cx.2 lx cx.fst, VC 1 cy.2 ly cy.fst, VI byy] ++ (us 6 ++ ([VF, VS 2 (List.length ms) (List.length ms), VS 3 (List.length ss) (List.length ss), VS 4 (List.length ts) (List.length ts), undef, Value.slice (some { block := 5, off := 0 }) 2 2, undef, VI more, undef, VI x2, undef, VI x3, VS 6 m m, VS 7 m m, VS 8 m m, VI u, Value.pointer (some { block := 9, off := 0 }), undef, undef, undef] ++ (js 97 ++ ([VS 6 m m, VI (↑m : Int), VI (↑m : Int), VF] ++ (js 79)))))), H := { n := 10, objs := [AObj.cells [Value.int IntKind.u64 k, VI A, VI B] 31 4 1, AObj.cells (tc os3) 31 5 3, AObj.cells (tc os2) 31 5 3, AObj.cells (tc os) 31 5 3, AObj.cells [VI byy, VI more] 2 4 1, AObj.cells (i64s ts) 2 5 1, AObj.cells (i64s ss) 2 5 1, AObj.cells (i64s ms) 2 5 1, AObj.cells (i64s ys) e2.fst (e2.snd.fst + 4) e2.snd.snd, AObj.cells (i64s xs) e1.fst (e1.snd.fst + 4) e1.snd.snd] }, log := [] } : St)) :=
  Dg.evCode_hint (f := 5) (hs' := []) (hs := [Hint.val 5 132 (VF)])
    [Value.bool (decide ((↑m : Int) < (↑m : Int))) = VF] (by kernel_rfl)
    ⟨Dg.vfalse (by omega), trivial⟩
--> c5e
--< e5s
theorem e5s (w : Int) (b : Int) (more : Int) (byy : Int) (lx : Nat) (cx : Cp) (ly : Nat) (cy : Cp) (e1 : Sh) (e2 : Sh) (xs : List Int) (ys : List Int) (x2 : Int) (x3 : Int) (ms : List Int) (ss : List Int) (ts : List Int) (m : Nat) (os : List (Int × Int × Int)) (os2 : List (Int × Int × Int)) (os3 : List (Int × Int × Int)) (v : Int) (kk : Int) (AA : Int) (BB : Int) (dl : Nat) (ds : List (Int × Int × Int)) (t : Nat) (j : Nat) (k : Int) (A : Int) (B : Int) (k1 : Int) (A1 : Int) (B1 : Int) (ht : t < m) (hm : List.length os = m) (hml : m ≤ 900) (h1 : List.getD os t (0, 0, 0) = (k1, A1, B1)) (hne : ¬(k1 = k ∧ A1 = A ∧ B1 = B)) :
    ∃ s', run5K 2 lE5 kD5 (D5b w b more byy lx cx ly cy e1 e2 xs ys x2 x3 ms ss ts m os os2 os3 v kk AA BB dl ds t j k A B) = some (Ex.normal, s') ∧ (cl5K 2 lE5 kD5) s' = D5b w b more byy lx cx ly cy e1 e2 xs ys x2 x3 ms ss ts m os os2 os3 v kk AA BB dl ds (t + 1) j k A B :=
  Dg.code_round (f := 5) (cl5K 2 lE5 kD5) (hs := [Hint.val 5 195 (VT),
    Hint.soft 5 199 (Value.pointer (some { block := 6, off := t * 3 })),
    Hint.soft 5 200 (Value.agg #[Value.int IntKind.u64 k1, VI A1, VI B1]),
    Hint.val 5 202 (VT),
    Hint.val 5 205 (VI ((↑t : Int) + 1))])
    [Value.bool (decide ((↑t : Int) < (↑m : Int))) = VT,
    (0 : Int) ≤ (↑t : Int) ∧ (↑t : Int) < (↑m : Int),
    Value.pointer (some { block := (6 : Nat), off := (0 : Nat) + Int.toNat (↑t : Int) * (3 : Nat) }) = Value.pointer (some { block := (6 : Nat), off := t * (3 : Nat) }),
    t * (3 : Nat) + Try.prog.types[(31 : Nat)].size ≤ List.length (tc os),
    List.take Try.prog.types[(31 : Nat)].size (List.drop (t * (3 : Nat)) (tc os)) = [Value.int IntKind.u64 k1, VI A1, VI B1],
    Value.bool (if false = true then k1 == k && (A1 == A && (B1 == B && true)) else !(k1 == k && (A1 == A && (B1 == B && true)))) = VT,
    VI (IntKind.wrap IntKind.i64 ((↑t : Int) + (1 : Int))) = VI ((↑t : Int) + (1 : Int))] (by kernel_rfl)
    ⟨Dg.vtrue (by omega), by omega, Dg.ptr_eq (by omega), tc_room5 (t := t) (by omega) (by omega), tc_step5 (by omega) h1 (by omega), by simp; omega, Dg.i64_eq rfl (by omega) (by omega), trivial⟩
--> e5s
--< e5e
theorem e5e (w : Int) (b : Int) (more : Int) (byy : Int) (lx : Nat) (cx : Cp) (ly : Nat) (cy : Cp) (e1 : Sh) (e2 : Sh) (xs : List Int) (ys : List Int) (x2 : Int) (x3 : Int) (ms : List Int) (ss : List Int) (ts : List Int) (m : Nat) (os : List (Int × Int × Int)) (os2 : List (Int × Int × Int)) (os3 : List (Int × Int × Int)) (v : Int) (kk : Int) (AA : Int) (BB : Int) (dl : Nat) (ds : List (Int × Int × Int)) (t : Nat) (j : Nat) (k : Int) (A : Int) (B : Int) (ht : t < m) (hm : List.length os = m) (hml : m ≤ 900) (h1 : List.getD os t (0, 0, 0) = (k, A, B)) :
    run5K 2 lE5 kD5 (D5b w b more byy lx cx ly cy e1 e2 xs ys x2 x3 ms ss ts m os os2 os3 v kk AA BB dl ds t j k A B) = some (Ex.exit 12, ({ ts := ([VI w, VI b, VI more, VC 0 cx.2 lx cx.fst, VC 1 cy.2 ly cy.fst, VI byy] ++ (us 6 ++ ([VF, VS 2 (List.length ms) (List.length ms), VS 3 (List.length ss) (List.length ss), VS 4 (List.length ts) (List.length ts), undef, Value.slice (some { block := 5, off := 0 }) 2 2, undef, VI more, undef, VI x2, undef, VI x3, VS 6 m m, VS 7 m m, VS 8 m m, VI v, Value.pointer (some { block := 9, off := 0 }), VI (↑t : Int), undef, Value.pointer (some { block := 10, off := 0 })] ++ (js 154 ++ ([VS 11 dl dl, VI (↑dl : Int), VI (↑j : Int), junk, junk, junk, VI (↑t : Int), VS 6 m m, VI (↑m : Int), VT, VT, VS 6 m m, VI (↑t : Int), Value.pointer (some { block := 6, off := t * 3 }), Value.agg #[Value.int IntKind.u64 k, VI A, VI B], Value.agg #[Value.int IntKind.u64 k, VI A, VI B], VF, VF] ++ (js 8)))))), H := { n := 12, objs := [AObj.cells (tc ds) 31 5 3, AObj.cells [Value.int IntKind.u64 k, VI A, VI B] 31 4 1, AObj.cells [Value.int IntKind.u64 kk, VI AA, VI BB] 31 4 1, AObj.cells (tc os3) 31 5 3, AObj.cells (tc os2) 31 5 3, AObj.cells (tc os) 31 5 3, AObj.cells [VI byy, VI more] 2 4 1, AObj.cells (i64s ts) 2 5 1, AObj.cells (i64s ss) 2 5 1, AObj.cells (i64s ms) 2 5 1, AObj.cells (i64s ys) e2.fst (e2.snd.fst + 4) e2.snd.snd, AObj.cells (i64s xs) e1.fst (e1.snd.fst + 4) e1.snd.snd] }, log := [] } : St)) :=
  Dg.evCode_hint (f := 5) (hs' := []) (hs := [Hint.val 5 195 (VT),
    Hint.soft 5 199 (Value.pointer (some { block := 6, off := t * 3 })),
    Hint.soft 5 200 (Value.agg #[Value.int IntKind.u64 k, VI A, VI B]),
    Hint.val 5 202 (VF)])
    [Value.bool (decide ((↑t : Int) < (↑m : Int))) = VT,
    (0 : Int) ≤ (↑t : Int) ∧ (↑t : Int) < (↑m : Int),
    Value.pointer (some { block := (6 : Nat), off := (0 : Nat) + Int.toNat (↑t : Int) * (3 : Nat) }) = Value.pointer (some { block := (6 : Nat), off := t * (3 : Nat) }),
    t * (3 : Nat) + Try.prog.types[(31 : Nat)].size ≤ List.length (tc os),
    List.take Try.prog.types[(31 : Nat)].size (List.drop (t * (3 : Nat)) (tc os)) = [Value.int IntKind.u64 k, VI A, VI B],
    Value.bool (if false = true then k == k && (A == A && (B == B && true)) else !(k == k && (A == A && (B == B && true)))) = VF] (by kernel_rfl)
    ⟨Dg.vtrue (by omega), by omega, Dg.ptr_eq (by omega), tc_room5 (t := t) (by omega) (by omega), tc_step5 (by omega) h1 (by omega), by simp, trivial⟩
--> e5e
--< d50
theorem d50 (w : Int) (b : Int) (more : Int) (byy : Int) (lx : Nat) (cx : Cp) (ly : Nat) (cy : Cp) (e1 : Sh) (e2 : Sh) (xs : List Int) (ys : List Int) (x2 : Int) (x3 : Int) (ms : List Int) (ss : List Int) (ts : List Int) (m : Nat) (os : List (Int × Int × Int)) (os2 : List (Int × Int × Int)) (os3 : List (Int × Int × Int)) (v : Int) (kk : Int) (AA : Int) (BB : Int) (dl : Nat) (ds : List (Int × Int × Int)) (t2 : Nat) (k : Int) (A : Int) (B : Int) (hj : 0 < dl) (hd : List.length ds = dl) (hdl : dl ≤ 900) (ht2 : t2 < m) (h2 : List.getD ds 0 (0, 0, 0) = (k, A, B)) (hlp : ∀ (s0 : St), cl5K 2 lE5 kD5 s0 = D5b w b more byy lx cx ly cy e1 e2 xs ys x2 x3 ms ss ts m os os2 os3 v kk AA BB dl ds 0 0 k A B → evLoop (run5K 2 lE5 kD5) (cl5K 2 lE5 kD5) 1000 s0 = some (Ex.exit 12, E5e w b more byy lx cx ly cy e1 e2 xs ys x2 x3 ms ss ts m os os2 os3 v kk AA BB dl ds t2 0 k A B)) :
    ∃ s', run5K 2 lD5 [] (D5a w b more byy lx cx ly cy e1 e2 xs ys x2 x3 ms ss ts m os os2 os3 v kk AA BB dl ds) = some (Ex.normal, s') ∧ (cl5K 2 lD5 []) s' = D5b w b more byy lx cx ly cy e1 e2 xs ys x2 x3 ms ss ts m os os2 os3 v kk AA BB dl ds t2 1 k A B :=
  Dg.code_round (f := 5) (cl5K 2 lD5 []) (hs := [Hint.val 5 189 (VT),
    Hint.soft 5 190 (Value.pointer (some { block := 10, off := 0 })),
    Hint.soft 5 191 (Value.agg #[Value.int IntKind.u64 k, VI A, VI B]),
    Hint.loop 5 (Ex.exit 12) (E5e w b more byy lx cx ly cy e1 e2 xs ys x2 x3 ms ss ts m os os2 os3 v kk AA BB dl ds t2 0 k A B),
    Hint.val 5 209 (VF)])
    [Value.bool (decide ((↑(0 : Nat) : Int) < (↑dl : Int))) = VT,
    (0 : Int) ≤ (↑(0 : Nat) : Int) ∧ (↑(0 : Nat) : Int) < (↑dl : Int),
    Value.pointer (some { block := (10 : Nat), off := (0 : Nat) }) = Value.pointer (some { block := (10 : Nat), off := (0 : Nat) }),
    (0 : Nat) + Try.prog.types[(31 : Nat)].size ≤ List.length (tc ds),
    List.take Try.prog.types[(31 : Nat)].size (List.drop (0 : Nat) (tc ds)) = [Value.int IntKind.u64 k, VI A, VI B],
    evLoop (run5K 2 lE5 kD5) (cl5K 2 lE5 kD5) 1000 { ts := ([VI w, VI b, VI more, VC 0 cx.2 lx cx.fst, VC 1 cy.2 ly cy.fst, VI byy] ++ (us 6 ++ ([VF, VS 2 (List.length ms) (List.length ms), VS 3 (List.length ss) (List.length ss), VS 4 (List.length ts) (List.length ts), undef, Value.slice (some { block := 5, off := 0 }) 2 2, undef, VI more, undef, VI x2, undef, VI x3, VS 6 m m, VS 7 m m, VS 8 m m, VI v, Value.pointer (some { block := 9, off := 0 }), VI 0, undef, Value.pointer (some { block := 11, off := 0 })] ++ (js 154 ++ ([VS 10 dl dl, VI (↑dl : Int), VI 0, VT, Value.pointer (some { block := 10, off := 0 }), Value.agg #[Value.int IntKind.u64 k, VI A, VI B]] ++ (js 20)))))), H := { n := 12, objs := [AObj.cells [Value.int IntKind.u64 k, VI A, VI B] 31 0 1, AObj.cells (tc ds) 31 5 3, AObj.cells [Value.int IntKind.u64 kk, VI AA, VI BB] 31 4 1, AObj.cells (tc os3) 31 5 3, AObj.cells (tc os2) 31 5 3, AObj.cells (tc os) 31 5 3, AObj.cells [VI byy, VI more] 2 4 1, AObj.cells (i64s ts) 2 5 1, AObj.cells (i64s ss) 2 5 1, AObj.cells (i64s ms) 2 5 1, AObj.cells (i64s ys) e2.fst (e2.snd.fst + 4) e2.snd.snd, AObj.cells (i64s xs) e1.fst (e1.snd.fst + 4) e1.snd.snd] }, log := [] } = some (Ex.exit 12, E5e w b more byy lx cx ly cy e1 e2 xs ys x2 x3 ms ss ts m os os2 os3 v kk AA BB dl ds t2 0 k A B),
    Value.bool ((↑t2 : Int) == (↑m : Int)) = VF] (by kernel_rfl)
    ⟨Dg.vtrue (by omega), by omega, rfl, tc_room5 (t := 0) (by omega) (by omega), tc_step5 (by omega) h2 (by omega), hlp _ (by kernel_rfl), Dg.vfalse (by omega), trivial⟩
--> d50
--< d51
theorem d51 (w : Int) (b : Int) (more : Int) (byy : Int) (lx : Nat) (cx : Cp) (ly : Nat) (cy : Cp) (e1 : Sh) (e2 : Sh) (xs : List Int) (ys : List Int) (x2 : Int) (x3 : Int) (ms : List Int) (ss : List Int) (ts : List Int) (m : Nat) (os : List (Int × Int × Int)) (os2 : List (Int × Int × Int)) (os3 : List (Int × Int × Int)) (v : Int) (kk : Int) (AA : Int) (BB : Int) (dl : Nat) (ds : List (Int × Int × Int)) (t : Nat) (j : Nat) (k0 : Int) (A0 : Int) (B0 : Int) (t2 : Nat) (k : Int) (A : Int) (B : Int) (hj : j < dl) (hd : List.length ds = dl) (hdl : dl ≤ 900) (ht2 : t2 < m) (h2 : List.getD ds j (0, 0, 0) = (k, A, B)) (hlp : ∀ (s0 : St), cl5K 2 lE5 kD5 s0 = D5b w b more byy lx cx ly cy e1 e2 xs ys x2 x3 ms ss ts m os os2 os3 v kk AA BB dl ds t j k A B → evLoop (run5K 2 lE5 kD5) (cl5K 2 lE5 kD5) 1000 s0 = some (Ex.exit 12, E5e w b more byy lx cx ly cy e1 e2 xs ys x2 x3 ms ss ts m os os2 os3 v kk AA BB dl ds t2 j k A B)) :
    ∃ s', run5K 2 lD5 [] (D5b w b more byy lx cx ly cy e1 e2 xs ys x2 x3 ms ss ts m os os2 os3 v kk AA BB dl ds t j k0 A0 B0) = some (Ex.normal, s') ∧ (cl5K 2 lD5 []) s' = D5b w b more byy lx cx ly cy e1 e2 xs ys x2 x3 ms ss ts m os os2 os3 v kk AA BB dl ds t2 (j + 1) k A B :=
  Dg.code_round (f := 5) (cl5K 2 lD5 []) (hs := [Hint.val 5 189 (VT),
    Hint.soft 5 190 (Value.pointer (some { block := 11, off := j * 3 })),
    Hint.soft 5 191 (Value.agg #[Value.int IntKind.u64 k, VI A, VI B]),
    Hint.loop 5 (Ex.exit 12) (E5e w b more byy lx cx ly cy e1 e2 xs ys x2 x3 ms ss ts m os os2 os3 v kk AA BB dl ds t2 j k A B),
    Hint.val 5 209 (VF),
    Hint.val 5 210 (VI ((↑j : Int) + 1))])
    [Value.bool (decide ((↑j : Int) < (↑dl : Int))) = VT,
    (0 : Int) ≤ (↑j : Int) ∧ (↑j : Int) < (↑dl : Int),
    Value.pointer (some { block := (11 : Nat), off := (0 : Nat) + Int.toNat (↑j : Int) * (3 : Nat) }) = Value.pointer (some { block := (11 : Nat), off := j * (3 : Nat) }),
    j * (3 : Nat) + Try.prog.types[(31 : Nat)].size ≤ List.length (tc ds),
    List.take Try.prog.types[(31 : Nat)].size (List.drop (j * (3 : Nat)) (tc ds)) = [Value.int IntKind.u64 k, VI A, VI B],
    evLoop (run5K 2 lE5 kD5) (cl5K 2 lE5 kD5) 1000 { ts := ([VI w, VI b, VI more, VC 0 cx.2 lx cx.fst, VC 1 cy.2 ly cy.fst, VI byy] ++ (us 6 ++ ([VF, VS 2 (List.length ms) (List.length ms), VS 3 (List.length ss) (List.length ss), VS 4 (List.length ts) (List.length ts), undef, Value.slice (some { block := 5, off := 0 }) 2 2, undef, VI more, undef, VI x2, undef, VI x3, VS 6 m m, VS 7 m m, VS 8 m m, VI v, Value.pointer (some { block := 9, off := 0 }), VI (↑t : Int), undef, Value.pointer (some { block := 12, off := 0 })] ++ (js 154 ++ ([VS 11 dl dl, VI (↑dl : Int), VI (↑j : Int), VT, Value.pointer (some { block := 11, off := j * 3 }), Value.agg #[Value.int IntKind.u64 k, VI A, VI B]] ++ (js 20)))))), H := { n := 13, objs := [AObj.cells [Value.int IntKind.u64 k, VI A, VI B] 31 0 1, AObj.cells (tc ds) 31 5 3, AObj.cells [Value.int IntKind.u64 k0, VI A0, VI B0] 31 4 1, AObj.cells [Value.int IntKind.u64 kk, VI AA, VI BB] 31 4 1, AObj.cells (tc os3) 31 5 3, AObj.cells (tc os2) 31 5 3, AObj.cells (tc os) 31 5 3, AObj.cells [VI byy, VI more] 2 4 1, AObj.cells (i64s ts) 2 5 1, AObj.cells (i64s ss) 2 5 1, AObj.cells (i64s ms) 2 5 1, AObj.cells (i64s ys) e2.fst (e2.snd.fst + 4) e2.snd.snd, AObj.cells (i64s xs) e1.fst (e1.snd.fst + 4) e1.snd.snd] }, log := [] } = some (Ex.exit 12, E5e w b more byy lx cx ly cy e1 e2 xs ys x2 x3 ms ss ts m os os2 os3 v kk AA BB dl ds t2 j k A B),
    Value.bool ((↑t2 : Int) == (↑m : Int)) = VF,
    VI (IntKind.wrap IntKind.i64 ((↑j : Int) + (1 : Int))) = VI ((↑j : Int) + (1 : Int))] (by kernel_rfl)
    ⟨Dg.vtrue (by omega), by omega, Dg.ptr_eq (by omega), tc_room5 (t := j) (by omega) (by omega), tc_step5 (by omega) h2 (by omega), hlp _ (by kernel_rfl), Dg.vfalse (by omega), Dg.i64_eq rfl (by omega) (by omega), trivial⟩
--> d51
--< d5e
theorem d5e (w : Int) (b : Int) (more : Int) (byy : Int) (lx : Nat) (cx : Cp) (ly : Nat) (cy : Cp) (e1 : Sh) (e2 : Sh) (xs : List Int) (ys : List Int) (x2 : Int) (x3 : Int) (ms : List Int) (ss : List Int) (ts : List Int) (m : Nat) (os : List (Int × Int × Int)) (os2 : List (Int × Int × Int)) (os3 : List (Int × Int × Int)) (v : Int) (kk : Int) (AA : Int) (BB : Int) (dl : Nat) (ds : List (Int × Int × Int)) (t : Nat) (k : Int) (A : Int) (B : Int) :
    run5K 2 lD5 [] (D5b w b more byy lx cx ly cy e1 e2 xs ys x2 x3 ms ss ts m os os2 os3 v kk AA BB dl ds t dl k A B) = some (Ex.exit 10, ({ ts := ([VI w, VI b, VI more, VC 0 cx.2 lx cx.fst, VC 1 cy.2 ly cy.fst, VI byy] ++ (us 6 ++ ([VF, VS 2 (List.length ms) (List.length ms), VS 3 (List.length ss) (List.length ss), VS 4 (List.length ts) (List.length ts), undef, Value.slice (some { block := 5, off := 0 }) 2 2, undef, VI more, undef, VI x2, undef, VI x3, VS 6 m m, VS 7 m m, VS 8 m m, VI v, Value.pointer (some { block := 9, off := 0 }), VI (↑t : Int), undef, Value.pointer (some { block := 10, off := 0 })] ++ (js 154 ++ ([VS 11 dl dl, VI (↑dl : Int), VI (↑dl : Int), VF] ++ (js 22)))))), H := { n := 12, objs := [AObj.cells (tc ds) 31 5 3, AObj.cells [Value.int IntKind.u64 k, VI A, VI B] 31 4 1, AObj.cells [Value.int IntKind.u64 kk, VI AA, VI BB] 31 4 1, AObj.cells (tc os3) 31 5 3, AObj.cells (tc os2) 31 5 3, AObj.cells (tc os) 31 5 3, AObj.cells [VI byy, VI more] 2 4 1, AObj.cells (i64s ts) 2 5 1, AObj.cells (i64s ss) 2 5 1, AObj.cells (i64s ms) 2 5 1, AObj.cells (i64s ys) e2.fst (e2.snd.fst + 4) e2.snd.snd, AObj.cells (i64s xs) e1.fst (e1.snd.fst + 4) e1.snd.snd] }, log := [] } : St)) :=
  Dg.evCode_hint (f := 5) (hs' := []) (hs := [Hint.val 5 189 (VF)])
    [Value.bool (decide ((↑dl : Int) < (↑dl : Int))) = VF] (by kernel_rfl)
    ⟨Dg.vfalse (by omega), trivial⟩
--> d5e
end Go.Proofs.Ytafhlmpifdclaaa.shift
