/- What 'ShiftMoved' comes to: where the guard ends it. -/
import Derived.Test.YtafhlmpifdclaaaRows
import Derived.Test.YtafhlmpifdclaaaShift5b
namespace Go.Proofs.Ytafhlmpifdclaaa.shift
open Go.Dg (junk St Ex Ev Hint evCall evCallS evCode evCodeK innerKp evCodeS evLoop cleanSt ue bodied noOver sbOf headOf tailOf bodyOf rAssign rBody lBody Flats flatOver Heap AObj SCall Law ofLaw Fix)
set_option linter.unusedVariables false
set_option linter.unusedSimpArgs false

--< x5Plo
theorem x5Plo (w : Int) (b : Int) (more : Int) (byy : Int) (lx : Nat) (cx : Cp) (ly : Nat) (cy : Cp) (e1 : Sh) (e2 : Sh) (xs : List Int) (ys : List Int) (hclx : lx ≤ cx.fst) (hzlx : List.length xs = cx.fst) (hllx : lx ≤ 200) (hcly : ly ≤ cy.fst) (hzly : List.length ys = cy.fst) (hlly : ly ≤ 200) (j : Nat) (hj : j < lx) (hr : ∀ (i : Nat), i < j → rng (List.getD xs i 0)) (hb : List.getD xs j 0 ≤ -1152921504606846976) :
    evCall Try.prog 0 (bodied Try.prog) over4 sbs 1000 20 5 [VI w, VI b, VI more, aX lx cx, aY ly cy, VI byy] { n := 2, objs := [oY ys e2, oX xs e1] } = some (VT, { n := 2, objs := [AObj.cells (i64s ys) e2.fst (e2.snd.fst + 4) e2.snd.snd, AObj.cells (i64s xs) e1.fst (e1.snd.fst + 4) e1.snd.snd] }, []) :=
  Dg.evCall_hint (hs' := []) (hs := [Hint.val 5 34 (VF),
    Hint.val 5 38 (VF),
    Hint.call 8 (VT) { n := 0, objs := [] } [],
    Hint.val 5 53 (VT),
    Hint.loop 5 Ex.ret (G5lo w b more byy (aX lx cx) (aY ly cy) (aX lx cx) (List.getD xs j 0) 0 2 0 lx j [oY ys e2, oX xs e1])])
    [Value.bool (decide ((↑lx : Int) > (200 : Int))) = VF,
    Value.bool (decide ((↑ly : Int) > (200 : Int))) = VF,
    evCall Try.prog 0 (bodied Try.prog) over4 sbs 1000 19 8 [] { n := 0, objs := [] } = some (VT, { n := 0, objs := [] }, []),
    VT = VT,
    evLoop (run5K 2 lI5 kO5) (cl5K 2 lI5 kO5) 1000 { ts := ([VI w, VI b, VI more, VC 0 cx.2 lx cx.fst, VC 1 cy.2 ly cy.fst, VI byy] ++ (us 6 ++ ([VF, VN, VN, VN, undef, VC 0 cx.2 lx cx.fst] ++ (us 14 ++ (js 18 ++ ([Value.slice (some { block := 2, off := 0 }) 3 3, VI 3, VI 0, VT, Value.pointer (some { block := 2, off := 0 }), VC 0 cx.2 lx cx.fst, VC 0 cx.2 lx cx.fst, VI (↑lx : Int), VI 0] ++ (js 153))))))), H := { n := 4, objs := [AObj.cells [VI byy, VI more] 2 4 1, AObj.cells [VC 0 cx.2 lx cx.fst, VC 1 cy.2 ly cy.fst, Value.slice (some { block := 3, off := 0 }) 2 2] 22 0 1, AObj.cells (i64s ys) e2.fst (e2.snd.fst + 4) e2.snd.snd, AObj.cells (i64s xs) e1.fst (e1.snd.fst + 4) e1.snd.snd] }, log := [] } = some (Ex.ret, G5lo w b more byy (aX lx cx) (aY ly cy) (aX lx cx) (List.getD xs j 0) 0 2 0 lx j [oY ys e2, oX xs e1])] (by kernel_rfl)
    ⟨Dg.vfalse (by omega), Dg.vfalse (by omega), Dg.evCall_over (c8 _), rfl, loGXu lx cx ly cy e1 e2 xs ys w b more byy hllx hclx hzlx j hj hr hb (by kernel_rfl), trivial⟩
--> x5Plo
--< x5Nlo
theorem x5Nlo (w : Int) (b : Int) (more : Int) (byy : Int) (lx : Nat) (cx : Cp) (e1 : Sh) (xs : List Int) (hclx : lx ≤ cx.fst) (hzlx : List.length xs = cx.fst) (hllx : lx ≤ 200) (j : Nat) (hj : j < lx) (hr : ∀ (i : Nat), i < j → rng (List.getD xs i 0)) (hb : List.getD xs j 0 ≤ -1152921504606846976) :
    evCall Try.prog 0 (bodied Try.prog) over4 sbs 1000 20 5 [VI w, VI b, VI more, aX lx cx, VN, VI byy] { n := 1, objs := [oX xs e1] } = some (VT, { n := 1, objs := [AObj.cells (i64s xs) e1.fst (e1.snd.fst + 4) e1.snd.snd] }, []) :=
  Dg.evCall_hint (hs' := []) (hs := [Hint.val 5 34 (VF),
    Hint.call 8 (VT) { n := 0, objs := [] } [],
    Hint.val 5 53 (VT),
    Hint.loop 5 Ex.ret (G5lo w b more byy (aX lx cx) (VN) (aX lx cx) (List.getD xs j 0) 0 1 0 lx j [oX xs e1])])
    [Value.bool (decide ((↑lx : Int) > (200 : Int))) = VF,
    evCall Try.prog 0 (bodied Try.prog) over4 sbs 1000 19 8 [] { n := 0, objs := [] } = some (VT, { n := 0, objs := [] }, []),
    VT = VT,
    evLoop (run5K 1 lI5 kO5) (cl5K 1 lI5 kO5) 1000 { ts := ([VI w, VI b, VI more, VC 0 cx.2 lx cx.fst, VN, VI byy] ++ (us 6 ++ ([VF, VN, VN, VN, undef, VC 0 cx.2 lx cx.fst] ++ (us 14 ++ (js 18 ++ ([Value.slice (some { block := 1, off := 0 }) 3 3, VI 3, VI 0, VT, Value.pointer (some { block := 1, off := 0 }), VC 0 cx.2 lx cx.fst, VC 0 cx.2 lx cx.fst, VI (↑lx : Int), VI 0] ++ (js 153))))))), H := { n := 3, objs := [AObj.cells [VI byy, VI more] 2 4 1, AObj.cells [VC 0 cx.2 lx cx.fst, VN, Value.slice (some { block := 2, off := 0 }) 2 2] 22 0 1, AObj.cells (i64s xs) e1.fst (e1.snd.fst + 4) e1.snd.snd] }, log := [] } = some (Ex.ret, G5lo w b more byy (aX lx cx) (VN) (aX lx cx) (List.getD xs j 0) 0 1 0 lx j [oX xs e1])] (by kernel_rfl)
    ⟨Dg.vfalse (by omega), Dg.evCall_over (c8 _), rfl, loGXNu lx cx e1 xs w b more byy hllx hclx hzlx j hj hr hb (by kernel_rfl), trivial⟩
--> x5Nlo
--< y5Plo
theorem y5Plo (w : Int) (b : Int) (more : Int) (byy : Int) (lx : Nat) (cx : Cp) (ly : Nat) (cy : Cp) (e1 : Sh) (e2 : Sh) (xs : List Int) (ys : List Int) (hclx : lx ≤ cx.fst) (hzlx : List.length xs = cx.fst) (hllx : lx ≤ 200) (hcly : ly ≤ cy.fst) (hzly : List.length ys = cy.fst) (hlly : ly ≤ 200) (i : Nat) (hi : lx = i + 1) (hr : ∀ (j : Nat), j < lx → rng (List.getD xs j 0)) (j : Nat) (hj : j < ly) (hr2 : ∀ (i : Nat), i < j → rng (List.getD ys i 0)) (hb : List.getD ys j 0 ≤ -1152921504606846976) :
    evCall Try.prog 0 (bodied Try.prog) over4 sbs 1000 20 5 [VI w, VI b, VI more, aX lx cx, aY ly cy, VI byy] { n := 2, objs := [oY ys e2, oX xs e1] } = some (VT, { n := 2, objs := [AObj.cells (i64s ys) e2.fst (e2.snd.fst + 4) e2.snd.snd, AObj.cells (i64s xs) e1.fst (e1.snd.fst + 4) e1.snd.snd] }, []) :=
  Dg.evCall_hint (hs' := []) (hs := [Hint.val 5 34 (VF),
    Hint.val 5 38 (VF),
    Hint.call 8 (VT) { n := 0, objs := [] } [],
    Hint.val 5 53 (VT),
    Hint.loop 5 (Ex.exit 2) (G5e w b more byy (aX lx cx) (aY ly cy) (aX lx cx) (VI (List.getD xs i 0)) 2 0 lx lx [oY ys e2, oX xs e1]),
    Hint.val 5 53 (VT),
    Hint.loop 5 Ex.ret (G5lo w b more byy (aX lx cx) (aY ly cy) (aY ly cy) (List.getD ys j 0) 1 2 1 ly j [oY ys e2, oX xs e1])])
    [Value.bool (decide ((↑lx : Int) > (200 : Int))) = VF,
    Value.bool (decide ((↑ly : Int) > (200 : Int))) = VF,
    evCall Try.prog 0 (bodied Try.prog) over4 sbs 1000 19 8 [] { n := 0, objs := [] } = some (VT, { n := 0, objs := [] }, []),
    VT = VT,
    evLoop (run5K 2 lI5 kO5) (cl5K 2 lI5 kO5) 1000 { ts := ([VI w, VI b, VI more, VC 0 cx.2 lx cx.fst, VC 1 cy.2 ly cy.fst, VI byy] ++ (us 6 ++ ([VF, VN, VN, VN, undef, VC 0 cx.2 lx cx.fst] ++ (us 14 ++ (js 18 ++ ([Value.slice (some { block := 2, off := 0 }) 3 3, VI 3, VI 0, VT, Value.pointer (some { block := 2, off := 0 }), VC 0 cx.2 lx cx.fst, VC 0 cx.2 lx cx.fst, VI (↑lx : Int), VI 0] ++ (js 153))))))), H := { n := 4, objs := [AObj.cells [VI byy, VI more] 2 4 1, AObj.cells [VC 0 cx.2 lx cx.fst, VC 1 cy.2 ly cy.fst, Value.slice (some { block := 3, off := 0 }) 2 2] 22 0 1, AObj.cells (i64s ys) e2.fst (e2.snd.fst + 4) e2.snd.snd, AObj.cells (i64s xs) e1.fst (e1.snd.fst + 4) e1.snd.snd] }, log := [] } = some (Ex.exit 2, G5e w b more byy (aX lx cx) (aY ly cy) (aX lx cx) (VI (List.getD xs i 0)) 2 0 lx lx [oY ys e2, oX xs e1]),
    VT = VT,
    evLoop (run5K 2 lI5 kO5) (cl5K 2 lI5 kO5) 1000 { ts := ([VI w, VI b, VI more, VC 0 cx.2 lx cx.fst, VC 1 cy.2 ly cy.fst, VI byy] ++ (us 6 ++ ([VF, VN, VN, VN, undef, VC 1 cy.2 ly cy.fst, undef, VI (List.getD xs i 0)] ++ (us 12 ++ (js 18 ++ ([Value.slice (some { block := 2, off := 0 }) 3 3, VI 3, VI 1, VT, Value.pointer (some { block := 2, off := 1 }), VC 1 cy.2 ly cy.fst, VC 1 cy.2 ly cy.fst, VI (↑ly : Int), VI 0] ++ (js 153))))))), H := { n := 4, objs := [AObj.cells [VI byy, VI more] 2 4 1, AObj.cells [VC 0 cx.2 lx cx.fst, VC 1 cy.2 ly cy.fst, Value.slice (some { block := 3, off := 0 }) 2 2] 22 0 1, AObj.cells (i64s ys) e2.fst (e2.snd.fst + 4) e2.snd.snd, AObj.cells (i64s xs) e1.fst (e1.snd.fst + 4) e1.snd.snd] }, log := [] } = some (Ex.ret, G5lo w b more byy (aX lx cx) (aY ly cy) (aY ly cy) (List.getD ys j 0) 1 2 1 ly j [oY ys e2, oX xs e1])] (by kernel_rfl)
    ⟨Dg.vfalse (by omega), Dg.vfalse (by omega), Dg.evCall_over (c8 _), rfl, okGXu lx cx ly cy e1 e2 xs ys w b more byy hllx hclx hzlx i hi hr (by kernel_rfl), rfl, loGYi lx cx ly cy e1 e2 xs ys w b more byy (xs.getD i 0) hlly hcly hzly j hj hr2 hb (by kernel_rfl), trivial⟩
--> y5Plo
--< y5Elo
theorem y5Elo (w : Int) (b : Int) (more : Int) (byy : Int) (cx : Cp) (ly : Nat) (cy : Cp) (e1 : Sh) (e2 : Sh) (xs : List Int) (ys : List Int) (hclx : 0 ≤ cx.fst) (hzlx : List.length xs = cx.fst) (hcly : ly ≤ cy.fst) (hzly : List.length ys = cy.fst) (hlly : ly ≤ 200) (j : Nat) (hj : j < ly) (hr2 : ∀ (i : Nat), i < j → rng (List.getD ys i 0)) (hb : List.getD ys j 0 ≤ -1152921504606846976) :
    evCall Try.prog 0 (bodied Try.prog) over4 sbs 1000 20 5 [VI w, VI b, VI more, aX 0 cx, aY ly cy, VI byy] { n := 2, objs := [oY ys e2, oX xs e1] } = some (VT, { n := 2, objs := [AObj.cells (i64s ys) e2.fst (e2.snd.fst + 4) e2.snd.snd, AObj.cells (i64s xs) e1.fst (e1.snd.fst + 4) e1.snd.snd] }, []) :=
  Dg.evCall_hint (hs' := []) (hs := [Hint.val 5 38 (VF),
    Hint.call 8 (VT) { n := 0, objs := [] } [],
    Hint.val 5 53 (VT),
    Hint.val 5 59 (VF),
    Hint.val 5 53 (VT),
    Hint.loop 5 Ex.ret (G5lo w b more byy (aX 0 cx) (aY ly cy) (aY ly cy) (List.getD ys j 0) 1 2 1 ly j [oY ys e2, oX xs e1])])
    [Value.bool (decide ((↑ly : Int) > (200 : Int))) = VF,
    evCall Try.prog 0 (bodied Try.prog) over4 sbs 1000 19 8 [] { n := 0, objs := [] } = some (VT, { n := 0, objs := [] }, []),
    VT = VT,
    VF = VF,
    VT = VT,
    evLoop (run5K 2 lI5 kO5) (cl5K 2 lI5 kO5) 1000 { ts := ([VI w, VI b, VI more, VC 0 cx.2 0 cx.fst, VC 1 cy.2 ly cy.fst, VI byy] ++ (us 6 ++ ([VF, VN, VN, VN, undef, VC 1 cy.2 ly cy.fst] ++ (us 14 ++ (js 18 ++ ([Value.slice (some { block := 2, off := 0 }) 3 3, VI 3, VI 1, VT, Value.pointer (some { block := 2, off := 1 }), VC 1 cy.2 ly cy.fst, VC 1 cy.2 ly cy.fst, VI (↑ly : Int), VI 0] ++ (js 153))))))), H := { n := 4, objs := [AObj.cells [VI byy, VI more] 2 4 1, AObj.cells [VC 0 cx.2 0 cx.fst, VC 1 cy.2 ly cy.fst, Value.slice (some { block := 3, off := 0 }) 2 2] 22 0 1, AObj.cells (i64s ys) e2.fst (e2.snd.fst + 4) e2.snd.snd, AObj.cells (i64s xs) e1.fst (e1.snd.fst + 4) e1.snd.snd] }, log := [] } = some (Ex.ret, G5lo w b more byy (aX 0 cx) (aY ly cy) (aY ly cy) (List.getD ys j 0) 1 2 1 ly j [oY ys e2, oX xs e1])] (by kernel_rfl)
    ⟨Dg.vfalse (by omega), Dg.evCall_over (c8 _), rfl, rfl, rfl, loGYu 0 cx ly cy e1 e2 xs ys w b more byy hlly hcly hzly j hj hr2 hb (by kernel_rfl), trivial⟩
--> y5Elo
--< y5Nlo
theorem y5Nlo (w : Int) (b : Int) (more : Int) (byy : Int) (lx : Nat) (cx : Cp) (e1 : Sh) (xs : List Int) (hclx : lx ≤ cx.fst) (hzlx : List.length xs = cx.fst) (hllx : lx ≤ 200) (j : Nat) (hj : j < lx) (hr2 : ∀ (i : Nat), i < j → rng (List.getD xs i 0)) (hb : List.getD xs j 0 ≤ -1152921504606846976) :
    evCall Try.prog 0 (bodied Try.prog) over4 sbs 1000 20 5 [VI w, VI b, VI more, VN, aX lx cx, VI byy] { n := 1, objs := [oX xs e1] } = some (VT, { n := 1, objs := [AObj.cells (i64s xs) e1.fst (e1.snd.fst + 4) e1.snd.snd] }, []) :=
  Dg.evCall_hint (hs' := []) (hs := [Hint.val 5 38 (VF),
    Hint.call 8 (VT) { n := 0, objs := [] } [],
    Hint.val 5 53 (VT),
    Hint.val 5 59 (VF),
    Hint.val 5 53 (VT),
    Hint.loop 5 Ex.ret (G5lo w b more byy (VN) (aX lx cx) (aX lx cx) (List.getD xs j 0) 0 1 1 lx j [oX xs e1])])
    [Value.bool (decide ((↑lx : Int) > (200 : Int))) = VF,
    evCall Try.prog 0 (bodied Try.prog) over4 sbs 1000 19 8 [] { n := 0, objs := [] } = some (VT, { n := 0, objs := [] }, []),
    VT = VT,
    VF = VF,
    VT = VT,
    evLoop (run5K 1 lI5 kO5) (cl5K 1 lI5 kO5) 1000 { ts := ([VI w, VI b, VI more, VN, VC 0 cx.2 lx cx.fst, VI byy] ++ (us 6 ++ ([VF, VN, VN, VN, undef, VC 0 cx.2 lx cx.fst] ++ (us 14 ++ (js 18 ++ ([Value.slice (some { block := 1, off := 0 }) 3 3, VI 3, VI 1, VT, Value.pointer (some { block := 1, off := 1 }), VC 0 cx.2 lx cx.fst, VC 0 cx.2 lx cx.fst, VI (↑lx : Int), VI 0] ++ (js 153))))))), H := { n := 3, objs := [AObj.cells [VI byy, VI more] 2 4 1, AObj.cells [VN, VC 0 cx.2 lx cx.fst, Value.slice (some { block := 2, off := 0 }) 2 2] 22 0 1, AObj.cells (i64s xs) e1.fst (e1.snd.fst + 4) e1.snd.snd] }, log := [] } = some (Ex.ret, G5lo w b more byy (VN) (aX lx cx) (aX lx cx) (List.getD xs j 0) 0 1 1 lx j [oX xs e1])] (by kernel_rfl)
    ⟨Dg.vfalse (by omega), Dg.evCall_over (c8 _), rfl, rfl, rfl, loGNYu lx cx e1 xs w b more byy hllx hclx hzlx j hj hr2 hb (by kernel_rfl), trivial⟩
--> y5Nlo
--< x5Phi
theorem x5Phi (w : Int) (b : Int) (more : Int) (byy : Int) (lx : Nat) (cx : Cp) (ly : Nat) (cy : Cp) (e1 : Sh) (e2 : Sh) (xs : List Int) (ys : List Int) (hclx : lx ≤ cx.fst) (hzlx : List.length xs = cx.fst) (hllx : lx ≤ 200) (hcly : ly ≤ cy.fst) (hzly : List.length ys = cy.fst) (hlly : ly ≤ 200) (j : Nat) (hj : j < lx) (hr : ∀ (i : Nat), i < j → rng (List.getD xs i 0)) (hb0 : -1152921504606846976 < List.getD xs j 0) (hb : 1152921504606846976 ≤ List.getD xs j 0) :
    evCall Try.prog 0 (bodied Try.prog) over4 sbs 1000 20 5 [VI w, VI b, VI more, aX lx cx, aY ly cy, VI byy] { n := 2, objs := [oY ys e2, oX xs e1] } = some (VT, { n := 2, objs := [AObj.cells (i64s ys) e2.fst (e2.snd.fst + 4) e2.snd.snd, AObj.cells (i64s xs) e1.fst (e1.snd.fst + 4) e1.snd.snd] }, []) :=
  Dg.evCall_hint (hs' := []) (hs := [Hint.val 5 34 (VF),
    Hint.val 5 38 (VF),
    Hint.call 8 (VT) { n := 0, objs := [] } [],
    Hint.val 5 53 (VT),
    Hint.loop 5 Ex.ret (G5hi w b more byy (aX lx cx) (aY ly cy) (aX lx cx) (List.getD xs j 0) 0 2 0 lx j [oY ys e2, oX xs e1])])
    [Value.bool (decide ((↑lx : Int) > (200 : Int))) = VF,
    Value.bool (decide ((↑ly : Int) > (200 : Int))) = VF,
    evCall Try.prog 0 (bodied Try.prog) over4 sbs 1000 19 8 [] { n := 0, objs := [] } = some (VT, { n := 0, objs := [] }, []),
    VT = VT,
    evLoop (run5K 2 lI5 kO5) (cl5K 2 lI5 kO5) 1000 { ts := ([VI w, VI b, VI more, VC 0 cx.2 lx cx.fst, VC 1 cy.2 ly cy.fst, VI byy] ++ (us 6 ++ ([VF, VN, VN, VN, undef, VC 0 cx.2 lx cx.fst] ++ (us 14 ++ (js 18 ++ ([Value.slice (some { block := 2, off := 0 }) 3 3, VI 3, VI 0, VT, Value.pointer (some { block := 2, off := 0 }), VC 0 cx.2 lx cx.fst, VC 0 cx.2 lx cx.fst, VI (↑lx : Int), VI 0] ++ (js 153))))))), H := { n := 4, objs := [AObj.cells [VI byy, VI more] 2 4 1, AObj.cells [VC 0 cx.2 lx cx.fst, VC 1 cy.2 ly cy.fst, Value.slice (some { block := 3, off := 0 }) 2 2] 22 0 1, AObj.cells (i64s ys) e2.fst (e2.snd.fst + 4) e2.snd.snd, AObj.cells (i64s xs) e1.fst (e1.snd.fst + 4) e1.snd.snd] }, log := [] } = some (Ex.ret, G5hi w b more byy (aX lx cx) (aY ly cy) (aX lx cx) (List.getD xs j 0) 0 2 0 lx j [oY ys e2, oX xs e1])] (by kernel_rfl)
    ⟨Dg.vfalse (by omega), Dg.vfalse (by omega), Dg.evCall_over (c8 _), rfl, hiGXu lx cx ly cy e1 e2 xs ys w b more byy hllx hclx hzlx j hj hr hb0 hb (by kernel_rfl), trivial⟩
--> x5Phi
--< x5Nhi
theorem x5Nhi (w : Int) (b : Int) (more : Int) (byy : Int) (lx : Nat) (cx : Cp) (e1 : Sh) (xs : List Int) (hclx : lx ≤ cx.fst) (hzlx : List.length xs = cx.fst) (hllx : lx ≤ 200) (j : Nat) (hj : j < lx) (hr : ∀ (i : Nat), i < j → rng (List.getD xs i 0)) (hb0 : -1152921504606846976 < List.getD xs j 0) (hb : 1152921504606846976 ≤ List.getD xs j 0) :
    evCall Try.prog 0 (bodied Try.prog) over4 sbs 1000 20 5 [VI w, VI b, VI more, aX lx cx, VN, VI byy] { n := 1, objs := [oX xs e1] } = some (VT, { n := 1, objs := [AObj.cells (i64s xs) e1.fst (e1.snd.fst + 4) e1.snd.snd] }, []) :=
  Dg.evCall_hint (hs' := []) (hs := [Hint.val 5 34 (VF),
    Hint.call 8 (VT) { n := 0, objs := [] } [],
    Hint.val 5 53 (VT),
    Hint.loop 5 Ex.ret (G5hi w b more byy (aX lx cx) (VN) (aX lx cx) (List.getD xs j 0) 0 1 0 lx j [oX xs e1])])
    [Value.bool (decide ((↑lx : Int) > (200 : Int))) = VF,
    evCall Try.prog 0 (bodied Try.prog) over4 sbs 1000 19 8 [] { n := 0, objs := [] } = some (VT, { n := 0, objs := [] }, []),
    VT = VT,
    evLoop (run5K 1 lI5 kO5) (cl5K 1 lI5 kO5) 1000 { ts := ([VI w, VI b, VI more, VC 0 cx.2 lx cx.fst, VN, VI byy] ++ (us 6 ++ ([VF, VN, VN, VN, undef, VC 0 cx.2 lx cx.fst] ++ (us 14 ++ (js 18 ++ ([Value.slice (some { block := 1, off := 0 }) 3 3, VI 3, VI 0, VT, Value.pointer (some { block := 1, off := 0 }), VC 0 cx.2 lx cx.fst, VC 0 cx.2 lx cx.fst, VI (↑lx : Int), VI 0] ++ (js 153))))))), H := { n := 3, objs := [AObj.cells [VI byy, VI more] 2 4 1, AObj.cells [VC 0 cx.2 lx cx.fst, VN, Value.slice (some { block := 2, off := 0 }) 2 2] 22 0 1, AObj.cells (i64s xs) e1.fst (e1.snd.fst + 4) e1.snd.snd] }, log := [] } = some (Ex.ret, G5hi w b more byy (aX lx cx) (VN) (aX lx cx) (List.getD xs j 0) 0 1 0 lx j [oX xs e1])] (by kernel_rfl)
    ⟨Dg.vfalse (by omega), Dg.evCall_over (c8 _), rfl, hiGXNu lx cx e1 xs w b more byy hllx hclx hzlx j hj hr hb0 hb (by kernel_rfl), trivial⟩
--> x5Nhi
--< y5Phi
theorem y5Phi (w : Int) (b : Int) (more : Int) (byy : Int) (lx : Nat) (cx : Cp) (ly : Nat) (cy : Cp) (e1 : Sh) (e2 : Sh) (xs : List Int) (ys : List Int) (hclx : lx ≤ cx.fst) (hzlx : List.length xs = cx.fst) (hllx : lx ≤ 200) (hcly : ly ≤ cy.fst) (hzly : List.length ys = cy.fst) (hlly : ly ≤ 200) (i : Nat) (hi : lx = i + 1) (hr : ∀ (j : Nat), j < lx → rng (List.getD xs j 0)) (j : Nat) (hj : j < ly) (hr2 : ∀ (i : Nat), i < j → rng (List.getD ys i 0)) (hb0 : -1152921504606846976 < List.getD ys j 0) (hb : 1152921504606846976 ≤ List.getD ys j 0) :
    evCall Try.prog 0 (bodied Try.prog) over4 sbs 1000 20 5 [VI w, VI b, VI more, aX lx cx, aY ly cy, VI byy] { n := 2, objs := [oY ys e2, oX xs e1] } = some (VT, { n := 2, objs := [AObj.cells (i64s ys) e2.fst (e2.snd.fst + 4) e2.snd.snd, AObj.cells (i64s xs) e1.fst (e1.snd.fst + 4) e1.snd.snd] }, []) :=
  Dg.evCall_hint (hs' := []) (hs := [Hint.val 5 34 (VF),
    Hint.val 5 38 (VF),
    Hint.call 8 (VT) { n := 0, objs := [] } [],
    Hint.val 5 53 (VT),
    Hint.loop 5 (Ex.exit 2) (G5e w b more byy (aX lx cx) (aY ly cy) (aX lx cx) (VI (List.getD xs i 0)) 2 0 lx lx [oY ys e2, oX xs e1]),
    Hint.val 5 53 (VT),
    Hint.loop 5 Ex.ret (G5hi w b more byy (aX lx cx) (aY ly cy) (aY ly cy) (List.getD ys j 0) 1 2 1 ly j [oY ys e2, oX xs e1])])
    [Value.bool (decide ((↑lx : Int) > (200 : Int))) = VF,
    Value.bool (decide ((↑ly : Int) > (200 : Int))) = VF,
    evCall Try.prog 0 (bodied Try.prog) over4 sbs 1000 19 8 [] { n := 0, objs := [] } = some (VT, { n := 0, objs := [] }, []),
    VT = VT,
    evLoop (run5K 2 lI5 kO5) (cl5K 2 lI5 kO5) 1000 { ts := ([VI w, VI b, VI more, VC 0 cx.2 lx cx.fst, VC 1 cy.2 ly cy.fst, VI byy] ++ (us 6 ++ ([VF, VN, VN, VN, undef, VC 0 cx.2 lx cx.fst] ++ (us 14 ++ (js 18 ++ ([Value.slice (some { block := 2, off := 0 }) 3 3, VI 3, VI 0, VT, Value.pointer (some { block := 2, off := 0 }), VC 0 cx.2 lx cx.fst, VC 0 cx.2 lx cx.fst, VI (↑lx : Int), VI 0] ++ (js 153))))))), H := { n := 4, objs := [AObj.cells [VI byy, VI more] 2 4 1, AObj.cells [VC 0 cx.2 lx cx.fst, VC 1 cy.2 ly cy.fst, Value.slice (some { block := 3, off := 0 }) 2 2] 22 0 1, AObj.cells (i64s ys) e2.fst (e2.snd.fst + 4) e2.snd.snd, AObj.cells (i64s xs) e1.fst (e1.snd.fst + 4) e1.snd.snd] }, log := [] } = some (Ex.exit 2, G5e w b more byy (aX lx cx) (aY ly cy) (aX lx cx) (VI (List.getD xs i 0)) 2 0 lx lx [oY ys e2, oX xs e1]),
    VT = VT,
    evLoop (run5K 2 lI5 kO5) (cl5K 2 lI5 kO5) 1000 { ts := ([VI w, VI b, VI more, VC 0 cx.2 lx cx.fst, VC 1 cy.2 ly cy.fst, VI byy] ++ (us 6 ++ ([VF, VN, VN, VN, undef, VC 1 cy.2 ly cy.fst, undef, VI (List.getD xs i 0)] ++ (us 12 ++ (js 18 ++ ([Value.slice (some { block := 2, off := 0 }) 3 3, VI 3, VI 1, VT, Value.pointer (some { block := 2, off := 1 }), VC 1 cy.2 ly cy.fst, VC 1 cy.2 ly cy.fst, VI (↑ly : Int), VI 0] ++ (js 153))))))), H := { n := 4, objs := [AObj.cells [VI byy, VI more] 2 4 1, AObj.cells [VC 0 cx.2 lx cx.fst, VC 1 cy.2 ly cy.fst, Value.slice (some { block := 3, off := 0 }) 2 2] 22 0 1, AObj.cells (i64s ys) e2.fst (e2.snd.fst + 4) e2.snd.snd, AObj.cells (i64s xs) e1.fst (e1.snd.fst + 4) e1.snd.snd] }, log := [] } = some (Ex.ret, G5hi w b more byy (aX lx cx) (aY ly cy) (aY ly cy) (List.getD ys j 0) 1 2 1 ly j [oY ys e2, oX xs e1])] (by kernel_rfl)
    ⟨Dg.vfalse (by omega), Dg.vfalse (by omega), Dg.evCall_over (c8 _), rfl, okGXu lx cx ly cy e1 e2 xs ys w b more byy hllx hclx hzlx i hi hr (by kernel_rfl), rfl, hiGYi lx cx ly cy e1 e2 xs ys w b more byy (xs.getD i 0) hlly hcly hzly j hj hr2 hb0 hb (by kernel_rfl), trivial⟩
--> y5Phi
--< y5Ehi
theorem y5Ehi (w : Int) (b : Int) (more : Int) (byy : Int) (cx : Cp) (ly : Nat) (cy : Cp) (e1 : Sh) (e2 : Sh) (xs : List Int) (ys : List Int) (hclx : 0 ≤ cx.fst) (hzlx : List.length xs = cx.fst) (hcly : ly ≤ cy.fst) (hzly : List.length ys = cy.fst) (hlly : ly ≤ 200) (j : Nat) (hj : j < ly) (hr2 : ∀ (i : Nat), i < j → rng (List.getD ys i 0)) (hb0 : -1152921504606846976 < List.getD ys j 0) (hb : 1152921504606846976 ≤ List.getD ys j 0) :
    evCall Try.prog 0 (bodied Try.prog) over4 sbs 1000 20 5 [VI w, VI b, VI more, aX 0 cx, aY ly cy, VI byy] { n := 2, objs := [oY ys e2, oX xs e1] } = some (VT, { n := 2, objs := [AObj.cells (i64s ys) e2.fst (e2.snd.fst + 4) e2.snd.snd, AObj.cells (i64s xs) e1.fst (e1.snd.fst + 4) e1.snd.snd] }, []) :=
  Dg.evCall_hint (hs' := []) (hs := [Hint.val 5 38 (VF),
    Hint.call 8 (VT) { n := 0, objs := [] } [],
    Hint.val 5 53 (VT),
    Hint.val 5 59 (VF),
    Hint.val 5 53 (VT),
    Hint.loop 5 Ex.ret (G5hi w b more byy (aX 0 cx) (aY ly cy) (aY ly cy) (List.getD ys j 0) 1 2 1 ly j [oY ys e2, oX xs e1])])
    [Value.bool (decide ((↑ly : Int) > (200 : Int))) = VF,
    evCall Try.prog 0 (bodied Try.prog) over4 sbs 1000 19 8 [] { n := 0, objs := [] } = some (VT, { n := 0, objs := [] }, []),
    VT = VT,
    VF = VF,
    VT = VT,
    evLoop (run5K 2 lI5 kO5) (cl5K 2 lI5 kO5) 1000 { ts := ([VI w, VI b, VI more, VC 0 cx.2 0 cx.fst, VC 1 cy.2 ly cy.fst, VI byy] ++ (us 6 ++ ([VF, VN, VN, VN, undef, VC 1 cy.2 ly cy.fst] ++ (us 14 ++ (js 18 ++ ([Value.slice (some { block := 2, off := 0 }) 3 3, VI 3, VI 1, VT, Value.pointer (some { block := 2, off := 1 }), VC 1 cy.2 ly cy.fst, VC 1 cy.2 ly cy.fst, VI (↑ly : Int), VI 0] ++ (js 153))))))), H := { n := 4, objs := [AObj.cells [VI byy, VI more] 2 4 1, AObj.cells [VC 0 cx.2 0 cx.fst, VC 1 cy.2 ly cy.fst, Value.slice (some { block := 3, off := 0 }) 2 2] 22 0 1, AObj.cells (i64s ys) e2.fst (e2.snd.fst + 4) e2.snd.snd, AObj.cells (i64s xs) e1.fst (e1.snd.fst + 4) e1.snd.snd] }, log := [] } = some (Ex.ret, G5hi w b more byy (aX 0 cx) (aY ly cy) (aY ly cy) (List.getD ys j 0) 1 2 1 ly j [oY ys e2, oX xs e1])] (by kernel_rfl)
    ⟨Dg.vfalse (by omega), Dg.evCall_over (c8 _), rfl, rfl, rfl, hiGYu 0 cx ly cy e1 e2 xs ys w b more byy hlly hcly hzly j hj hr2 hb0 hb (by kernel_rfl), trivial⟩
--> y5Ehi
--< y5Nhi
theorem y5Nhi (w : Int) (b : Int) (more : Int) (byy : Int) (lx : Nat) (cx : Cp) (e1 : Sh) (xs : List Int) (hclx : lx ≤ cx.fst) (hzlx : List.length xs = cx.fst) (hllx : lx ≤ 200) (j : Nat) (hj : j < lx) (hr2 : ∀ (i : Nat), i < j → rng (List.getD xs i 0)) (hb0 : -1152921504606846976 < List.getD xs j 0) (hb : 1152921504606846976 ≤ List.getD xs j 0) :
    evCall Try.prog 0 (bodied Try.prog) over4 sbs 1000 20 5 [VI w, VI b, VI more, VN, aX lx cx, VI byy] { n := 1, objs := [oX xs e1] } = some (VT, { n := 1, objs := [AObj.cells (i64s xs) e1.fst (e1.snd.fst + 4) e1.snd.snd] }, []) :=
  Dg.evCall_hint (hs' := []) (hs := [Hint.val 5 38 (VF),
    Hint.call 8 (VT) { n := 0, objs := [] } [],
    Hint.val 5 53 (VT),
    Hint.val 5 59 (VF),
    Hint.val 5 53 (VT),
    Hint.loop 5 Ex.ret (G5hi w b more byy (VN) (aX lx cx) (aX lx cx) (List.getD xs j 0) 0 1 1 lx j [oX xs e1])])
    [Value.bool (decide ((↑lx : Int) > (200 : Int))) = VF,
    evCall Try.prog 0 (bodied Try.prog) over4 sbs 1000 19 8 [] { n := 0, objs := [] } = some (VT, { n := 0, objs := [] }, []),
    VT = VT,
    VF = VF,
    VT = VT,
    evLoop (run5K 1 lI5 kO5) (cl5K 1 lI5 kO5) 1000 { ts := ([VI w, VI b, VI more, VN, VC 0 cx.2 lx cx.fst, VI byy] ++ (us 6 ++ ([VF, VN, VN, VN, undef, VC 0 cx.2 lx cx.fst] ++ (us 14 ++ (js 18 ++ ([Value.slice (some { block := 1, off := 0 }) 3 3, VI 3, VI 1, VT, Value.pointer (some { block := 1, off := 1 }), VC 0 cx.2 lx cx.fst, VC 0 cx.2 lx cx.fst, VI (↑lx : Int), VI 0] ++ (js 153))))))), H := { n := 3, objs := [AObj.cells [VI byy, VI more] 2 4 1, AObj.cells [VN, VC 0 cx.2 lx cx.fst, Value.slice (some { block := 2, off := 0 }) 2 2] 22 0 1, AObj.cells (i64s xs) e1.fst (e1.snd.fst + 4) e1.snd.snd] }, log := [] } = some (Ex.ret, G5hi w b more byy (VN) (aX lx cx) (aX lx cx) (List.getD xs j 0) 0 1 1 lx j [oX xs e1])] (by kernel_rfl)
    ⟨Dg.vfalse (by omega), Dg.evCall_over (c8 _), rfl, rfl, rfl, hiGNYu lx cx e1 xs w b more byy hllx hclx hzlx j hj hr2 hb0 hb (by kernel_rfl), trivial⟩
--> y5Nhi
--< m5PPbl
theorem m5PPbl (w : Int) (b : Int) (more : Int) (byy : Int) (lx : Nat) (cx : Cp) (ly : Nat) (cy : Cp) (e1 : Sh) (e2 : Sh) (xs : List Int) (ys : List Int) (hclx : lx ≤ cx.fst) (hzlx : List.length xs = cx.fst) (hllx : lx ≤ 200) (hcly : ly ≤ cy.fst) (hzly : List.length ys = cy.fst) (hlly : ly ≤ 200) (i : Nat) (hi : lx = i + 1) (hr : ∀ (j : Nat), j < lx → rng (List.getD xs j 0)) (k : Nat) (hk : ly = k + 1) (hs : ∀ (j : Nat), j < ly → rng (List.getD ys j 0)) (hb : byy ≤ -1152921504606846976) :
    evCall Try.prog 0 (bodied Try.prog) over4 sbs 1000 20 5 [VI w, VI b, VI more, aX lx cx, aY ly cy, VI byy] { n := 2, objs := [oY ys e2, oX xs e1] } = some (VT, { n := 2, objs := [AObj.cells (i64s ys) e2.fst (e2.snd.fst + 4) e2.snd.snd, AObj.cells (i64s xs) e1.fst (e1.snd.fst + 4) e1.snd.snd] }, []) :=
  Dg.evCall_hint (hs' := []) (hs := [Hint.val 5 34 (VF),
    Hint.val 5 38 (VF),
    Hint.call 8 (VT) { n := 0, objs := [] } [],
    Hint.val 5 53 (VT),
    Hint.loop 5 (Ex.exit 2) (G5e w b more byy (aX lx cx) (aY ly cy) (aX lx cx) (VI (List.getD xs i 0)) 2 0 lx lx [oY ys e2, oX xs e1]),
    Hint.val 5 53 (VT),
    Hint.loop 5 (Ex.exit 2) (G5e w b more byy (aX lx cx) (aY ly cy) (aY ly cy) (VI (List.getD ys k 0)) 2 1 ly ly [oY ys e2, oX xs e1]),
    Hint.val 5 53 (VT),
    Hint.val 5 59 (VT),
    Hint.val 5 63 (VT),
    Hint.call 8 (VT) { n := 0, objs := [] } []])
    [Value.bool (decide ((↑lx : Int) > (200 : Int))) = VF,
    Value.bool (decide ((↑ly : Int) > (200 : Int))) = VF,
    evCall Try.prog 0 (bodied Try.prog) over4 sbs 1000 19 8 [] { n := 0, objs := [] } = some (VT, { n := 0, objs := [] }, []),
    VT = VT,
    evLoop (run5K 2 lI5 kO5) (cl5K 2 lI5 kO5) 1000 { ts := ([VI w, VI b, VI more, VC 0 cx.2 lx cx.fst, VC 1 cy.2 ly cy.fst, VI byy] ++ (us 6 ++ ([VF, VN, VN, VN, undef, VC 0 cx.2 lx cx.fst] ++ (us 14 ++ (js 18 ++ ([Value.slice (some { block := 2, off := 0 }) 3 3, VI 3, VI 0, VT, Value.pointer (some { block := 2, off := 0 }), VC 0 cx.2 lx cx.fst, VC 0 cx.2 lx cx.fst, VI (↑lx : Int), VI 0] ++ (js 153))))))), H := { n := 4, objs := [AObj.cells [VI byy, VI more] 2 4 1, AObj.cells [VC 0 cx.2 lx cx.fst, VC 1 cy.2 ly cy.fst, Value.slice (some { block := 3, off := 0 }) 2 2] 22 0 1, AObj.cells (i64s ys) e2.fst (e2.snd.fst + 4) e2.snd.snd, AObj.cells (i64s xs) e1.fst (e1.snd.fst + 4) e1.snd.snd] }, log := [] } = some (Ex.exit 2, G5e w b more byy (aX lx cx) (aY ly cy) (aX lx cx) (VI (List.getD xs i 0)) 2 0 lx lx [oY ys e2, oX xs e1]),
    VT = VT,
    evLoop (run5K 2 lI5 kO5) (cl5K 2 lI5 kO5) 1000 { ts := ([VI w, VI b, VI more, VC 0 cx.2 lx cx.fst, VC 1 cy.2 ly cy.fst, VI byy] ++ (us 6 ++ ([VF, VN, VN, VN, undef, VC 1 cy.2 ly cy.fst, undef, VI (List.getD xs i 0)] ++ (us 12 ++ (js 18 ++ ([Value.slice (some { block := 2, off := 0 }) 3 3, VI 3, VI 1, VT, Value.pointer (some { block := 2, off := 1 }), VC 1 cy.2 ly cy.fst, VC 1 cy.2 ly cy.fst, VI (↑ly : Int), VI 0] ++ (js 153))))))), H := { n := 4, objs := [AObj.cells [VI byy, VI more] 2 4 1, AObj.cells [VC 0 cx.2 lx cx.fst, VC 1 cy.2 ly cy.fst, Value.slice (some { block := 3, off := 0 }) 2 2] 22 0 1, AObj.cells (i64s ys) e2.fst (e2.snd.fst + 4) e2.snd.snd, AObj.cells (i64s xs) e1.fst (e1.snd.fst + 4) e1.snd.snd] }, log := [] } = some (Ex.exit 2, G5e w b more byy (aX lx cx) (aY ly cy) (aY ly cy) (VI (List.getD ys k 0)) 2 1 ly ly [oY ys e2, oX xs e1]),
    VT = VT,
    VT = VT,
    Value.bool (decide (byy ≤ (-1152921504606846976 : Int))) = VT,
    evCall Try.prog 0 (bodied Try.prog) over4 sbs 1000 19 8 [] { n := 0, objs := [] } = some (VT, { n := 0, objs := [] }, [])] (by kernel_rfl)
    ⟨Dg.vfalse (by omega), Dg.vfalse (by omega), Dg.evCall_over (c8 _), rfl, okGXu lx cx ly cy e1 e2 xs ys w b more byy hllx hclx hzlx i hi hr (by kernel_rfl), rfl, okGYi lx cx ly cy e1 e2 xs ys w b more byy (xs.getD i 0) hlly hcly hzly k hk hs (by kernel_rfl), rfl, rfl, Dg.vtrue (by omega), Dg.evCall_over (c8 _), trivial⟩
--> m5PPbl
--< m5PPbh
theorem m5PPbh (w : Int) (b : Int) (more : Int) (byy : Int) (lx : Nat) (cx : Cp) (ly : Nat) (cy : Cp) (e1 : Sh) (e2 : Sh) (xs : List Int) (ys : List Int) (hclx : lx ≤ cx.fst) (hzlx : List.length xs = cx.fst) (hllx : lx ≤ 200) (hcly : ly ≤ cy.fst) (hzly : List.length ys = cy.fst) (hlly : ly ≤ 200) (i : Nat) (hi : lx = i + 1) (hr : ∀ (j : Nat), j < lx → rng (List.getD xs j 0)) (k : Nat) (hk : ly = k + 1) (hs : ∀ (j : Nat), j < ly → rng (List.getD ys j 0)) (hb0 : -1152921504606846976 < byy) (hb : 1152921504606846976 ≤ byy) :
    evCall Try.prog 0 (bodied Try.prog) over4 sbs 1000 20 5 [VI w, VI b, VI more, aX lx cx, aY ly cy, VI byy] { n := 2, objs := [oY ys e2, oX xs e1] } = some (VT, { n := 2, objs := [AObj.cells (i64s ys) e2.fst (e2.snd.fst + 4) e2.snd.snd, AObj.cells (i64s xs) e1.fst (e1.snd.fst + 4) e1.snd.snd] }, []) :=
  Dg.evCall_hint (hs' := []) (hs := [Hint.val 5 34 (VF),
    Hint.val 5 38 (VF),
    Hint.call 8 (VT) { n := 0, objs := [] } [],
    Hint.val 5 53 (VT),
    Hint.loop 5 (Ex.exit 2) (G5e w b more byy (aX lx cx) (aY ly cy) (aX lx cx) (VI (List.getD xs i 0)) 2 0 lx lx [oY ys e2, oX xs e1]),
    Hint.val 5 53 (VT),
    Hint.loop 5 (Ex.exit 2) (G5e w b more byy (aX lx cx) (aY ly cy) (aY ly cy) (VI (List.getD ys k 0)) 2 1 ly ly [oY ys e2, oX xs e1]),
    Hint.val 5 53 (VT),
    Hint.val 5 59 (VT),
    Hint.val 5 63 (VF),
    Hint.val 5 66 (VT),
    Hint.call 8 (VT) { n := 0, objs := [] } []])
    [Value.bool (decide ((↑lx : Int) > (200 : Int))) = VF,
    Value.bool (decide ((↑ly : Int) > (200 : Int))) = VF,
    evCall Try.prog 0 (bodied Try.prog) over4 sbs 1000 19 8 [] { n := 0, objs := [] } = some (VT, { n := 0, objs := [] }, []),
    VT = VT,
    evLoop (run5K 2 lI5 kO5) (cl5K 2 lI5 kO5) 1000 { ts := ([VI w, VI b, VI more, VC 0 cx.2 lx cx.fst, VC 1 cy.2 ly cy.fst, VI byy] ++ (us 6 ++ ([VF, VN, VN, VN, undef, VC 0 cx.2 lx cx.fst] ++ (us 14 ++ (js 18 ++ ([Value.slice (some { block := 2, off := 0 }) 3 3, VI 3, VI 0, VT, Value.pointer (some { block := 2, off := 0 }), VC 0 cx.2 lx cx.fst, VC 0 cx.2 lx cx.fst, VI (↑lx : Int), VI 0] ++ (js 153))))))), H := { n := 4, objs := [AObj.cells [VI byy, VI more] 2 4 1, AObj.cells [VC 0 cx.2 lx cx.fst, VC 1 cy.2 ly cy.fst, Value.slice (some { block := 3, off := 0 }) 2 2] 22 0 1, AObj.cells (i64s ys) e2.fst (e2.snd.fst + 4) e2.snd.snd, AObj.cells (i64s xs) e1.fst (e1.snd.fst + 4) e1.snd.snd] }, log := [] } = some (Ex.exit 2, G5e w b more byy (aX lx cx) (aY ly cy) (aX lx cx) (VI (List.getD xs i 0)) 2 0 lx lx [oY ys e2, oX xs e1]),
    VT = VT,
    evLoop (run5K 2 lI5 kO5) (cl5K 2 lI5 kO5) 1000 { ts := ([VI w, VI b, VI more, VC 0 cx.2 lx cx.fst, VC 1 cy.2 ly cy.fst, VI byy] ++ (us 6 ++ ([VF, VN, VN, VN, undef, VC 1 cy.2 ly cy.fst, undef, VI (List.getD xs i 0)] ++ (us 12 ++ (js 18 ++ ([Value.slice (some { block := 2, off := 0 }) 3 3, VI 3, VI 1, VT, Value.pointer (some { block := 2, off := 1 }), VC 1 cy.2 ly cy.fst, VC 1 cy.2 ly cy.fst, VI (↑ly : Int), VI 0] ++ (js 153))))))), H := { n := 4, objs := [AObj.cells [VI byy, VI more] 2 4 1, AObj.cells [VC 0 cx.2 lx cx.fst, VC 1 cy.2 ly cy.fst, Value.slice (some { block := 3, off := 0 }) 2 2] 22 0 1, AObj.cells (i64s ys) e2.fst (e2.snd.fst + 4) e2.snd.snd, AObj.cells (i64s xs) e1.fst (e1.snd.fst + 4) e1.snd.snd] }, log := [] } = some (Ex.exit 2, G5e w b more byy (aX lx cx) (aY ly cy) (aY ly cy) (VI (List.getD ys k 0)) 2 1 ly ly [oY ys e2, oX xs e1]),
    VT = VT,
    VT = VT,
    Value.bool (decide (byy ≤ (-1152921504606846976 : Int))) = VF,
    Value.bool (decide (byy ≥ (1152921504606846976 : Int))) = VT,
    evCall Try.prog 0 (bodied Try.prog) over4 sbs 1000 19 8 [] { n := 0, objs := [] } = some (VT, { n := 0, objs := [] }, [])] (by kernel_rfl)
    ⟨Dg.vfalse (by omega), Dg.vfalse (by omega), Dg.evCall_over (c8 _), rfl, okGXu lx cx ly cy e1 e2 xs ys w b more byy hllx hclx hzlx i hi hr (by kernel_rfl), rfl, okGYi lx cx ly cy e1 e2 xs ys w b more byy (xs.getD i 0) hlly hcly hzly k hk hs (by kernel_rfl), rfl, rfl, Dg.vfalse (by omega), Dg.vtrue (by omega), Dg.evCall_over (c8 _), trivial⟩
--> m5PPbh
--< m5PPml
theorem m5PPml (w : Int) (b : Int) (more : Int) (byy : Int) (lx : Nat) (cx : Cp) (ly : Nat) (cy : Cp) (e1 : Sh) (e2 : Sh) (xs : List Int) (ys : List Int) (hclx : lx ≤ cx.fst) (hzlx : List.length xs = cx.fst) (hllx : lx ≤ 200) (hcly : ly ≤ cy.fst) (hzly : List.length ys = cy.fst) (hlly : ly ≤ 200) (i : Nat) (hi : lx = i + 1) (hr : ∀ (j : Nat), j < lx → rng (List.getD xs j 0)) (k : Nat) (hk : ly = k + 1) (hs : ∀ (j : Nat), j < ly → rng (List.getD ys j 0)) (hb0 : -1152921504606846976 < byy ∧ byy < 1152921504606846976) (hb : more ≤ -1152921504606846976) :
    evCall Try.prog 0 (bodied Try.prog) over4 sbs 1000 20 5 [VI w, VI b, VI more, aX lx cx, aY ly cy, VI byy] { n := 2, objs := [oY ys e2, oX xs e1] } = some (VT, { n := 2, objs := [AObj.cells (i64s ys) e2.fst (e2.snd.fst + 4) e2.snd.snd, AObj.cells (i64s xs) e1.fst (e1.snd.fst + 4) e1.snd.snd] }, []) :=
  Dg.evCall_hint (hs' := []) (hs := [Hint.val 5 34 (VF),
    Hint.val 5 38 (VF),
    Hint.call 8 (VT) { n := 0, objs := [] } [],
    Hint.val 5 53 (VT),
    Hint.loop 5 (Ex.exit 2) (G5e w b more byy (aX lx cx) (aY ly cy) (aX lx cx) (VI (List.getD xs i 0)) 2 0 lx lx [oY ys e2, oX xs e1]),
    Hint.val 5 53 (VT),
    Hint.loop 5 (Ex.exit 2) (G5e w b more byy (aX lx cx) (aY ly cy) (aY ly cy) (VI (List.getD ys k 0)) 2 1 ly ly [oY ys e2, oX xs e1]),
    Hint.val 5 53 (VT),
    Hint.val 5 59 (VT),
    Hint.val 5 63 (VF),
    Hint.val 5 66 (VF),
    Hint.val 5 63 (VT),
    Hint.call 8 (VT) { n := 0, objs := [] } []])
    [Value.bool (decide ((↑lx : Int) > (200 : Int))) = VF,
    Value.bool (decide ((↑ly : Int) > (200 : Int))) = VF,
    evCall Try.prog 0 (bodied Try.prog) over4 sbs 1000 19 8 [] { n := 0, objs := [] } = some (VT, { n := 0, objs := [] }, []),
    VT = VT,
    evLoop (run5K 2 lI5 kO5) (cl5K 2 lI5 kO5) 1000 { ts := ([VI w, VI b, VI more, VC 0 cx.2 lx cx.fst, VC 1 cy.2 ly cy.fst, VI byy] ++ (us 6 ++ ([VF, VN, VN, VN, undef, VC 0 cx.2 lx cx.fst] ++ (us 14 ++ (js 18 ++ ([Value.slice (some { block := 2, off := 0 }) 3 3, VI 3, VI 0, VT, Value.pointer (some { block := 2, off := 0 }), VC 0 cx.2 lx cx.fst, VC 0 cx.2 lx cx.fst, VI (↑lx : Int), VI 0] ++ (js 153))))))), H := { n := 4, objs := [AObj.cells [VI byy, VI more] 2 4 1, AObj.cells [VC 0 cx.2 lx cx.fst, VC 1 cy.2 ly cy.fst, Value.slice (some { block := 3, off := 0 }) 2 2] 22 0 1, AObj.cells (i64s ys) e2.fst (e2.snd.fst + 4) e2.snd.snd, AObj.cells (i64s xs) e1.fst (e1.snd.fst + 4) e1.snd.snd] }, log := [] } = some (Ex.exit 2, G5e w b more byy (aX lx cx) (aY ly cy) (aX lx cx) (VI (List.getD xs i 0)) 2 0 lx lx [oY ys e2, oX xs e1]),
    VT = VT,
    evLoop (run5K 2 lI5 kO5) (cl5K 2 lI5 kO5) 1000 { ts := ([VI w, VI b, VI more, VC 0 cx.2 lx cx.fst, VC 1 cy.2 ly cy.fst, VI byy] ++ (us 6 ++ ([VF, VN, VN, VN, undef, VC 1 cy.2 ly cy.fst, undef, VI (List.getD xs i 0)] ++ (us 12 ++ (js 18 ++ ([Value.slice (some { block := 2, off := 0 }) 3 3, VI 3, VI 1, VT, Value.pointer (some { block := 2, off := 1 }), VC 1 cy.2 ly cy.fst, VC 1 cy.2 ly cy.fst, VI (↑ly : Int), VI 0] ++ (js 153))))))), H := { n := 4, objs := [AObj.cells [VI byy, VI more] 2 4 1, AObj.cells [VC 0 cx.2 lx cx.fst, VC 1 cy.2 ly cy.fst, Value.slice (some { block := 3, off := 0 }) 2 2] 22 0 1, AObj.cells (i64s ys) e2.fst (e2.snd.fst + 4) e2.snd.snd, AObj.cells (i64s xs) e1.fst (e1.snd.fst + 4) e1.snd.snd] }, log := [] } = some (Ex.exit 2, G5e w b more byy (aX lx cx) (aY ly cy) (aY ly cy) (VI (List.getD ys k 0)) 2 1 ly ly [oY ys e2, oX xs e1]),
    VT = VT,
    VT = VT,
    Value.bool (decide (byy ≤ (-1152921504606846976 : Int))) = VF,
    Value.bool (decide (byy ≥ (1152921504606846976 : Int))) = VF,
    Value.bool (decide (more ≤ (-1152921504606846976 : Int))) = VT,
    evCall Try.prog 0 (bodied Try.prog) over4 sbs 1000 19 8 [] { n := 0, objs := [] } = some (VT, { n := 0, objs := [] }, [])] (by kernel_rfl)
    ⟨Dg.vfalse (by omega), Dg.vfalse (by omega), Dg.evCall_over (c8 _), rfl, okGXu lx cx ly cy e1 e2 xs ys w b more byy hllx hclx hzlx i hi hr (by kernel_rfl), rfl, okGYi lx cx ly cy e1 e2 xs ys w b more byy (xs.getD i 0) hlly hcly hzly k hk hs (by kernel_rfl), rfl, rfl, Dg.vfalse (by omega), Dg.vfalse (by omega), Dg.vtrue (by omega), Dg.evCall_over (c8 _), trivial⟩
--> m5PPml
--< m5PPmh
theorem m5PPmh (w : Int) (b : Int) (more : Int) (byy : Int) (lx : Nat) (cx : Cp) (ly : Nat) (cy : Cp) (e1 : Sh) (e2 : Sh) (xs : List Int) (ys : List Int) (hclx : lx ≤ cx.fst) (hzlx : List.length xs = cx.fst) (hllx : lx ≤ 200) (hcly : ly ≤ cy.fst) (hzly : List.length ys = cy.fst) (hlly : ly ≤ 200) (i : Nat) (hi : lx = i + 1) (hr : ∀ (j : Nat), j < lx → rng (List.getD xs j 0)) (k : Nat) (hk : ly = k + 1) (hs : ∀ (j : Nat), j < ly → rng (List.getD ys j 0)) (hb0 : -1152921504606846976 < byy ∧ byy < 1152921504606846976) (hb1 : -1152921504606846976 < more) (hb : 1152921504606846976 ≤ more) :
    evCall Try.prog 0 (bodied Try.prog) over4 sbs 1000 20 5 [VI w, VI b, VI more, aX lx cx, aY ly cy, VI byy] { n := 2, objs := [oY ys e2, oX xs e1] } = some (VT, { n := 2, objs := [AObj.cells (i64s ys) e2.fst (e2.snd.fst + 4) e2.snd.snd, AObj.cells (i64s xs) e1.fst (e1.snd.fst + 4) e1.snd.snd] }, []) :=
  Dg.evCall_hint (hs' := []) (hs := [Hint.val 5 34 (VF),
    Hint.val 5 38 (VF),
    Hint.call 8 (VT) { n := 0, objs := [] } [],
    Hint.val 5 53 (VT),
    Hint.loop 5 (Ex.exit 2) (G5e w b more byy (aX lx cx) (aY ly cy) (aX lx cx) (VI (List.getD xs i 0)) 2 0 lx lx [oY ys e2, oX xs e1]),
    Hint.val 5 53 (VT),
    Hint.loop 5 (Ex.exit 2) (G5e w b more byy (aX lx cx) (aY ly cy) (aY ly cy) (VI (List.getD ys k 0)) 2 1 ly ly [oY ys e2, oX xs e1]),
    Hint.val 5 53 (VT),
    Hint.val 5 59 (VT),
    Hint.val 5 63 (VF),
    Hint.val 5 66 (VF),
    Hint.val 5 63 (VF),
    Hint.val 5 66 (VT),
    Hint.call 8 (VT) { n := 0, objs := [] } []])
    [Value.bool (decide ((↑lx : Int) > (200 : Int))) = VF,
    Value.bool (decide ((↑ly : Int) > (200 : Int))) = VF,
    evCall Try.prog 0 (bodied Try.prog) over4 sbs 1000 19 8 [] { n := 0, objs := [] } = some (VT, { n := 0, objs := [] }, []),
    VT = VT,
    evLoop (run5K 2 lI5 kO5) (cl5K 2 lI5 kO5) 1000 { ts := ([VI w, VI b, VI more, VC 0 cx.2 lx cx.fst, VC 1 cy.2 ly cy.fst, VI byy] ++ (us 6 ++ ([VF, VN, VN, VN, undef, VC 0 cx.2 lx cx.fst] ++ (us 14 ++ (js 18 ++ ([Value.slice (some { block := 2, off := 0 }) 3 3, VI 3, VI 0, VT, Value.pointer (some { block := 2, off := 0 }), VC 0 cx.2 lx cx.fst, VC 0 cx.2 lx cx.fst, VI (↑lx : Int), VI 0] ++ (js 153))))))), H := { n := 4, objs := [AObj.cells [VI byy, VI more] 2 4 1, AObj.cells [VC 0 cx.2 lx cx.fst, VC 1 cy.2 ly cy.fst, Value.slice (some { block := 3, off := 0 }) 2 2] 22 0 1, AObj.cells (i64s ys) e2.fst (e2.snd.fst + 4) e2.snd.snd, AObj.cells (i64s xs) e1.fst (e1.snd.fst + 4) e1.snd.snd] }, log := [] } = some (Ex.exit 2, G5e w b more byy (aX lx cx) (aY ly cy) (aX lx cx) (VI (List.getD xs i 0)) 2 0 lx lx [oY ys e2, oX xs e1]),
    VT = VT,
    evLoop (run5K 2 lI5 kO5) (cl5K 2 lI5 kO5) 1000 { ts := ([VI w, VI b, VI more, VC 0 cx.2 lx cx.fst, VC 1 cy.2 ly cy.fst, VI byy] ++ (us 6 ++ ([VF, VN, VN, VN, undef, VC 1 cy.2 ly cy.fst, undef, VI (List.getD xs i 0)] ++ (us 12 ++ (js 18 ++ ([Value.slice (some { block := 2, off := 0 }) 3 3, VI 3, VI 1, VT, Value.pointer (some { block := 2, off := 1 }), VC 1 cy.2 ly cy.fst, VC 1 cy.2 ly cy.fst, VI (↑ly : Int), VI 0] ++ (js 153))))))), H := { n := 4, objs := [AObj.cells [VI byy, VI more] 2 4 1, AObj.cells [VC 0 cx.2 lx cx.fst, VC 1 cy.2 ly cy.fst, Value.slice (some { block := 3, off := 0 }) 2 2] 22 0 1, AObj.cells (i64s ys) e2.fst (e2.snd.fst + 4) e2.snd.snd, AObj.cells (i64s xs) e1.fst (e1.snd.fst + 4) e1.snd.snd] }, log := [] } = some (Ex.exit 2, G5e w b more byy (aX lx cx) (aY ly cy) (aY ly cy) (VI (List.getD ys k 0)) 2 1 ly ly [oY ys e2, oX xs e1]),
    VT = VT,
    VT = VT,
    Value.bool (decide (byy ≤ (-1152921504606846976 : Int))) = VF,
    Value.bool (decide (byy ≥ (1152921504606846976 : Int))) = VF,
    Value.bool (decide (more ≤ (-1152921504606846976 : Int))) = VF,
    Value.bool (decide (more ≥ (1152921504606846976 : Int))) = VT,
    evCall Try.prog 0 (bodied Try.prog) over4 sbs 1000 19 8 [] { n := 0, objs := [] } = some (VT, { n := 0, objs := [] }, [])] (by kernel_rfl)
    ⟨Dg.vfalse (by omega), Dg.vfalse (by omega), Dg.evCall_over (c8 _), rfl, okGXu lx cx ly cy e1 e2 xs ys w b more byy hllx hclx hzlx i hi hr (by kernel_rfl), rfl, okGYi lx cx ly cy e1 e2 xs ys w b more byy (xs.getD i 0) hlly hcly hzly k hk hs (by kernel_rfl), rfl, rfl, Dg.vfalse (by omega), Dg.vfalse (by omega), Dg.vfalse (by omega), Dg.vtrue (by omega), Dg.evCall_over (c8 _), trivial⟩
--> m5PPmh
--< m5PEbl
theorem m5PEbl (w : Int) (b : Int) (more : Int) (byy : Int) (lx : Nat) (cx : Cp) (cy : Cp) (e1 : Sh) (e2 : Sh) (xs : List Int) (ys : List Int) (hclx : lx ≤ cx.fst) (hzlx : List.length xs = cx.fst) (hllx : lx ≤ 200) (hcly : 0 ≤ cy.fst) (hzly : List.length ys = cy.fst) (i : Nat) (hi : lx = i + 1) (hr : ∀ (j : Nat), j < lx → rng (List.getD xs j 0)) (hb : byy ≤ -1152921504606846976) :
    evCall Try.prog 0 (bodied Try.prog) over4 sbs 1000 20 5 [VI w, VI b, VI more, aX lx cx, aY 0 cy, VI byy] { n := 2, objs := [oY ys e2, oX xs e1] } = some (VT, { n := 2, objs := [AObj.cells (i64s ys) e2.fst (e2.snd.fst + 4) e2.snd.snd, AObj.cells (i64s xs) e1.fst (e1.snd.fst + 4) e1.snd.snd] }, []) :=
  Dg.evCall_hint (hs' := []) (hs := [Hint.val 5 34 (VF),
    Hint.call 8 (VT) { n := 0, objs := [] } [],
    Hint.val 5 53 (VT),
    Hint.loop 5 (Ex.exit 2) (G5e w b more byy (aX lx cx) (aY 0 cy) (aX lx cx) (VI (List.getD xs i 0)) 2 0 lx lx [oY ys e2, oX xs e1]),
    Hint.val 5 53 (VT),
    Hint.val 5 59 (VF),
    Hint.val 5 53 (VT),
    Hint.val 5 59 (VT),
    Hint.val 5 63 (VT),
    Hint.call 8 (VT) { n := 0, objs := [] } []])
    [Value.bool (decide ((↑lx : Int) > (200 : Int))) = VF,
    evCall Try.prog 0 (bodied Try.prog) over4 sbs 1000 19 8 [] { n := 0, objs := [] } = some (VT, { n := 0, objs := [] }, []),
    VT = VT,
    evLoop (run5K 2 lI5 kO5) (cl5K 2 lI5 kO5) 1000 { ts := ([VI w, VI b, VI more, VC 0 cx.2 lx cx.fst, VC 1 cy.2 0 cy.fst, VI byy] ++ (us 6 ++ ([VF, VN, VN, VN, undef, VC 0 cx.2 lx cx.fst] ++ (us 14 ++ (js 18 ++ ([Value.slice (some { block := 2, off := 0 }) 3 3, VI 3, VI 0, VT, Value.pointer (some { block := 2, off := 0 }), VC 0 cx.2 lx cx.fst, VC 0 cx.2 lx cx.fst, VI (↑lx : Int), VI 0] ++ (js 153))))))), H := { n := 4, objs := [AObj.cells [VI byy, VI more] 2 4 1, AObj.cells [VC 0 cx.2 lx cx.fst, VC 1 cy.2 0 cy.fst, Value.slice (some { block := 3, off := 0 }) 2 2] 22 0 1, AObj.cells (i64s ys) e2.fst (e2.snd.fst + 4) e2.snd.snd, AObj.cells (i64s xs) e1.fst (e1.snd.fst + 4) e1.snd.snd] }, log := [] } = some (Ex.exit 2, G5e w b more byy (aX lx cx) (aY 0 cy) (aX lx cx) (VI (List.getD xs i 0)) 2 0 lx lx [oY ys e2, oX xs e1]),
    VT = VT,
    VF = VF,
    VT = VT,
    VT = VT,
    Value.bool (decide (byy ≤ (-1152921504606846976 : Int))) = VT,
    evCall Try.prog 0 (bodied Try.prog) over4 sbs 1000 19 8 [] { n := 0, objs := [] } = some (VT, { n := 0, objs := [] }, [])] (by kernel_rfl)
    ⟨Dg.vfalse (by omega), Dg.evCall_over (c8 _), rfl, okGXu lx cx 0 cy e1 e2 xs ys w b more byy hllx hclx hzlx i hi hr (by kernel_rfl), rfl, rfl, rfl, rfl, Dg.vtrue (by omega), Dg.evCall_over (c8 _), trivial⟩
--> m5PEbl
--< m5PEbh
theorem m5PEbh (w : Int) (b : Int) (more : Int) (byy : Int) (lx : Nat) (cx : Cp) (cy : Cp) (e1 : Sh) (e2 : Sh) (xs : List Int) (ys : List Int) (hclx : lx ≤ cx.fst) (hzlx : List.length xs = cx.fst) (hllx : lx ≤ 200) (hcly : 0 ≤ cy.fst) (hzly : List.length ys = cy.fst) (i : Nat) (hi : lx = i + 1) (hr : ∀ (j : Nat), j < lx → rng (List.getD xs j 0)) (hb0 : -1152921504606846976 < byy) (hb : 1152921504606846976 ≤ byy) :
    evCall Try.prog 0 (bodied Try.prog) over4 sbs 1000 20 5 [VI w, VI b, VI more, aX lx cx, aY 0 cy, VI byy] { n := 2, objs := [oY ys e2, oX xs e1] } = some (VT, { n := 2, objs := [AObj.cells (i64s ys) e2.fst (e2.snd.fst + 4) e2.snd.snd, AObj.cells (i64s xs) e1.fst (e1.snd.fst + 4) e1.snd.snd] }, []) :=
  Dg.evCall_hint (hs' := []) (hs := [Hint.val 5 34 (VF),
    Hint.call 8 (VT) { n := 0, objs := [] } [],
    Hint.val 5 53 (VT),
    Hint.loop 5 (Ex.exit 2) (G5e w b more byy (aX lx cx) (aY 0 cy) (aX lx cx) (VI (List.getD xs i 0)) 2 0 lx lx [oY ys e2, oX xs e1]),
    Hint.val 5 53 (VT),
    Hint.val 5 59 (VF),
    Hint.val 5 53 (VT),
    Hint.val 5 59 (VT),
    Hint.val 5 63 (VF),
    Hint.val 5 66 (VT),
    Hint.call 8 (VT) { n := 0, objs := [] } []])
    [Value.bool (decide ((↑lx : Int) > (200 : Int))) = VF,
    evCall Try.prog 0 (bodied Try.prog) over4 sbs 1000 19 8 [] { n := 0, objs := [] } = some (VT, { n := 0, objs := [] }, []),
    VT = VT,
    evLoop (run5K 2 lI5 kO5) (cl5K 2 lI5 kO5) 1000 { ts := ([VI w, VI b, VI more, VC 0 cx.2 lx cx.fst, VC 1 cy.2 0 cy.fst, VI byy] ++ (us 6 ++ ([VF, VN, VN, VN, undef, VC 0 cx.2 lx cx.fst] ++ (us 14 ++ (js 18 ++ ([Value.slice (some { block := 2, off := 0 }) 3 3, VI 3, VI 0, VT, Value.pointer (some { block := 2, off := 0 }), VC 0 cx.2 lx cx.fst, VC 0 cx.2 lx cx.fst, VI (↑lx : Int), VI 0] ++ (js 153))))))), H := { n := 4, objs := [AObj.cells [VI byy, VI more] 2 4 1, AObj.cells [VC 0 cx.2 lx cx.fst, VC 1 cy.2 0 cy.fst, Value.slice (some { block := 3, off := 0 }) 2 2] 22 0 1, AObj.cells (i64s ys) e2.fst (e2.snd.fst + 4) e2.snd.snd, AObj.cells (i64s xs) e1.fst (e1.snd.fst + 4) e1.snd.snd] }, log := [] } = some (Ex.exit 2, G5e w b more byy (aX lx cx) (aY 0 cy) (aX lx cx) (VI (List.getD xs i 0)) 2 0 lx lx [oY ys e2, oX xs e1]),
    VT = VT,
    VF = VF,
    VT = VT,
    VT = VT,
    Value.bool (decide (byy ≤ (-1152921504606846976 : Int))) = VF,
    Value.bool (decide (byy ≥ (1152921504606846976 : Int))) = VT,
    evCall Try.prog 0 (bodied Try.prog) over4 sbs 1000 19 8 [] { n := 0, objs := [] } = some (VT, { n := 0, objs := [] }, [])] (by kernel_rfl)
    ⟨Dg.vfalse (by omega), Dg.evCall_over (c8 _), rfl, okGXu lx cx 0 cy e1 e2 xs ys w b more byy hllx hclx hzlx i hi hr (by kernel_rfl), rfl, rfl, rfl, rfl, Dg.vfalse (by omega), Dg.vtrue (by omega), Dg.evCall_over (c8 _), trivial⟩
--> m5PEbh
--< m5PEml
theorem m5PEml (w : Int) (b : Int) (more : Int) (byy : Int) (lx : Nat) (cx : Cp) (cy : Cp) (e1 : Sh) (e2 : Sh) (xs : List Int) (ys : List Int) (hclx : lx ≤ cx.fst) (hzlx : List.length xs = cx.fst) (hllx : lx ≤ 200) (hcly : 0 ≤ cy.fst) (hzly : List.length ys = cy.fst) (i : Nat) (hi : lx = i + 1) (hr : ∀ (j : Nat), j < lx → rng (List.getD xs j 0)) (hb0 : -1152921504606846976 < byy ∧ byy < 1152921504606846976) (hb : more ≤ -1152921504606846976) :
    evCall Try.prog 0 (bodied Try.prog) over4 sbs 1000 20 5 [VI w, VI b, VI more, aX lx cx, aY 0 cy, VI byy] { n := 2, objs := [oY ys e2, oX xs e1] } = some (VT, { n := 2, objs := [AObj.cells (i64s ys) e2.fst (e2.snd.fst + 4) e2.snd.snd, AObj.cells (i64s xs) e1.fst (e1.snd.fst + 4) e1.snd.snd] }, []) :=
  Dg.evCall_hint (hs' := []) (hs := [Hint.val 5 34 (VF),
    Hint.call 8 (VT) { n := 0, objs := [] } [],
    Hint.val 5 53 (VT),
    Hint.loop 5 (Ex.exit 2) (G5e w b more byy (aX lx cx) (aY 0 cy) (aX lx cx) (VI (List.getD xs i 0)) 2 0 lx lx [oY ys e2, oX xs e1]),
    Hint.val 5 53 (VT),
    Hint.val 5 59 (VF),
    Hint.val 5 53 (VT),
    Hint.val 5 59 (VT),
    Hint.val 5 63 (VF),
    Hint.val 5 66 (VF),
    Hint.val 5 63 (VT),
    Hint.call 8 (VT) { n := 0, objs := [] } []])
    [Value.bool (decide ((↑lx : Int) > (200 : Int))) = VF,
    evCall Try.prog 0 (bodied Try.prog) over4 sbs 1000 19 8 [] { n := 0, objs := [] } = some (VT, { n := 0, objs := [] }, []),
    VT = VT,
    evLoop (run5K 2 lI5 kO5) (cl5K 2 lI5 kO5) 1000 { ts := ([VI w, VI b, VI more, VC 0 cx.2 lx cx.fst, VC 1 cy.2 0 cy.fst, VI byy] ++ (us 6 ++ ([VF, VN, VN, VN, undef, VC 0 cx.2 lx cx.fst] ++ (us 14 ++ (js 18 ++ ([Value.slice (some { block := 2, off := 0 }) 3 3, VI 3, VI 0, VT, Value.pointer (some { block := 2, off := 0 }), VC 0 cx.2 lx cx.fst, VC 0 cx.2 lx cx.fst, VI (↑lx : Int), VI 0] ++ (js 153))))))), H := { n := 4, objs := [AObj.cells [VI byy, VI more] 2 4 1, AObj.cells [VC 0 cx.2 lx cx.fst, VC 1 cy.2 0 cy.fst, Value.slice (some { block := 3, off := 0 }) 2 2] 22 0 1, AObj.cells (i64s ys) e2.fst (e2.snd.fst + 4) e2.snd.snd, AObj.cells (i64s xs) e1.fst (e1.snd.fst + 4) e1.snd.snd] }, log := [] } = some (Ex.exit 2, G5e w b more byy (aX lx cx) (aY 0 cy) (aX lx cx) (VI (List.getD xs i 0)) 2 0 lx lx [oY ys e2, oX xs e1]),
    VT = VT,
    VF = VF,
    VT = VT,
    VT = VT,
    Value.bool (decide (byy ≤ (-1152921504606846976 : Int))) = VF,
    Value.bool (decide (byy ≥ (1152921504606846976 : Int))) = VF,
    Value.bool (decide (more ≤ (-1152921504606846976 : Int))) = VT,
    evCall Try.prog 0 (bodied Try.prog) over4 sbs 1000 19 8 [] { n := 0, objs := [] } = some (VT, { n := 0, objs := [] }, [])] (by kernel_rfl)
    ⟨Dg.vfalse (by omega), Dg.evCall_over (c8 _), rfl, okGXu lx cx 0 cy e1 e2 xs ys w b more byy hllx hclx hzlx i hi hr (by kernel_rfl), rfl, rfl, rfl, rfl, Dg.vfalse (by omega), Dg.vfalse (by omega), Dg.vtrue (by omega), Dg.evCall_over (c8 _), trivial⟩
--> m5PEml
--< m5PEmh
theorem m5PEmh (w : Int) (b : Int) (more : Int) (byy : Int) (lx : Nat) (cx : Cp) (cy : Cp) (e1 : Sh) (e2 : Sh) (xs : List Int) (ys : List Int) (hclx : lx ≤ cx.fst) (hzlx : List.length xs = cx.fst) (hllx : lx ≤ 200) (hcly : 0 ≤ cy.fst) (hzly : List.length ys = cy.fst) (i : Nat) (hi : lx = i + 1) (hr : ∀ (j : Nat), j < lx → rng (List.getD xs j 0)) (hb0 : -1152921504606846976 < byy ∧ byy < 1152921504606846976) (hb1 : -1152921504606846976 < more) (hb : 1152921504606846976 ≤ more) :
    evCall Try.prog 0 (bodied Try.prog) over4 sbs 1000 20 5 [VI w, VI b, VI more, aX lx cx, aY 0 cy, VI byy] { n := 2, objs := [oY ys e2, oX xs e1] } = some (VT, { n := 2, objs := [AObj.cells (i64s ys) e2.fst (e2.snd.fst + 4) e2.snd.snd, AObj.cells (i64s xs) e1.fst (e1.snd.fst + 4) e1.snd.snd] }, []) :=
  Dg.evCall_hint (hs' := []) (hs := [Hint.val 5 34 (VF),
    Hint.call 8 (VT) { n := 0, objs := [] } [],
    Hint.val 5 53 (VT),
    Hint.loop 5 (Ex.exit 2) (G5e w b more byy (aX lx cx) (aY 0 cy) (aX lx cx) (VI (List.getD xs i 0)) 2 0 lx lx [oY ys e2, oX xs e1]),
    Hint.val 5 53 (VT),
    Hint.val 5 59 (VF),
    Hint.val 5 53 (VT),
    Hint.val 5 59 (VT),
    Hint.val 5 63 (VF),
    Hint.val 5 66 (VF),
    Hint.val 5 63 (VF),
    Hint.val 5 66 (VT),
    Hint.call 8 (VT) { n := 0, objs := [] } []])
    [Value.bool (decide ((↑lx : Int) > (200 : Int))) = VF,
    evCall Try.prog 0 (bodied Try.prog) over4 sbs 1000 19 8 [] { n := 0, objs := [] } = some (VT, { n := 0, objs := [] }, []),
    VT = VT,
    evLoop (run5K 2 lI5 kO5) (cl5K 2 lI5 kO5) 1000 { ts := ([VI w, VI b, VI more, VC 0 cx.2 lx cx.fst, VC 1 cy.2 0 cy.fst, VI byy] ++ (us 6 ++ ([VF, VN, VN, VN, undef, VC 0 cx.2 lx cx.fst] ++ (us 14 ++ (js 18 ++ ([Value.slice (some { block := 2, off := 0 }) 3 3, VI 3, VI 0, VT, Value.pointer (some { block := 2, off := 0 }), VC 0 cx.2 lx cx.fst, VC 0 cx.2 lx cx.fst, VI (↑lx : Int), VI 0] ++ (js 153))))))), H := { n := 4, objs := [AObj.cells [VI byy, VI more] 2 4 1, AObj.cells [VC 0 cx.2 lx cx.fst, VC 1 cy.2 0 cy.fst, Value.slice (some { block := 3, off := 0 }) 2 2] 22 0 1, AObj.cells (i64s ys) e2.fst (e2.snd.fst + 4) e2.snd.snd, AObj.cells (i64s xs) e1.fst (e1.snd.fst + 4) e1.snd.snd] }, log := [] } = some (Ex.exit 2, G5e w b more byy (aX lx cx) (aY 0 cy) (aX lx cx) (VI (List.getD xs i 0)) 2 0 lx lx [oY ys e2, oX xs e1]),
    VT = VT,
    VF = VF,
    VT = VT,
    VT = VT,
    Value.bool (decide (byy ≤ (-1152921504606846976 : Int))) = VF,
    Value.bool (decide (byy ≥ (1152921504606846976 : Int))) = VF,
    Value.bool (decide (more ≤ (-1152921504606846976 : Int))) = VF,
    Value.bool (decide (more ≥ (1152921504606846976 : Int))) = VT,
    evCall Try.prog 0 (bodied Try.prog) over4 sbs 1000 19 8 [] { n := 0, objs := [] } = some (VT, { n := 0, objs := [] }, [])] (by kernel_rfl)
    ⟨Dg.vfalse (by omega), Dg.evCall_over (c8 _), rfl, okGXu lx cx 0 cy e1 e2 xs ys w b more byy hllx hclx hzlx i hi hr (by kernel_rfl), rfl, rfl, rfl, rfl, Dg.vfalse (by omega), Dg.vfalse (by omega), Dg.vfalse (by omega), Dg.vtrue (by omega), Dg.evCall_over (c8 _), trivial⟩
--> m5PEmh
--< m5PNbl
theorem m5PNbl (w : Int) (b : Int) (more : Int) (byy : Int) (lx : Nat) (cx : Cp) (e1 : Sh) (xs : List Int) (hclx : lx ≤ cx.fst) (hzlx : List.length xs = cx.fst) (hllx : lx ≤ 200) (i : Nat) (hi : lx = i + 1) (hr : ∀ (j : Nat), j < lx → rng (List.getD xs j 0)) (hb : byy ≤ -1152921504606846976) :
    evCall Try.prog 0 (bodied Try.prog) over4 sbs 1000 20 5 [VI w, VI b, VI more, aX lx cx, VN, VI byy] { n := 1, objs := [oX xs e1] } = some (VT, { n := 1, objs := [AObj.cells (i64s xs) e1.fst (e1.snd.fst + 4) e1.snd.snd] }, []) :=
  Dg.evCall_hint (hs' := []) (hs := [Hint.val 5 34 (VF),
    Hint.call 8 (VT) { n := 0, objs := [] } [],
    Hint.val 5 53 (VT),
    Hint.loop 5 (Ex.exit 2) (G5e w b more byy (aX lx cx) (VN) (aX lx cx) (VI (List.getD xs i 0)) 1 0 lx lx [oX xs e1]),
    Hint.val 5 53 (VT),
    Hint.val 5 59 (VF),
    Hint.val 5 53 (VT),
    Hint.val 5 59 (VT),
    Hint.val 5 63 (VT),
    Hint.call 8 (VT) { n := 0, objs := [] } []])
    [Value.bool (decide ((↑lx : Int) > (200 : Int))) = VF,
    evCall Try.prog 0 (bodied Try.prog) over4 sbs 1000 19 8 [] { n := 0, objs := [] } = some (VT, { n := 0, objs := [] }, []),
    VT = VT,
    evLoop (run5K 1 lI5 kO5) (cl5K 1 lI5 kO5) 1000 { ts := ([VI w, VI b, VI more, VC 0 cx.2 lx cx.fst, VN, VI byy] ++ (us 6 ++ ([VF, VN, VN, VN, undef, VC 0 cx.2 lx cx.fst] ++ (us 14 ++ (js 18 ++ ([Value.slice (some { block := 1, off := 0 }) 3 3, VI 3, VI 0, VT, Value.pointer (some { block := 1, off := 0 }), VC 0 cx.2 lx cx.fst, VC 0 cx.2 lx cx.fst, VI (↑lx : Int), VI 0] ++ (js 153))))))), H := { n := 3, objs := [AObj.cells [VI byy, VI more] 2 4 1, AObj.cells [VC 0 cx.2 lx cx.fst, VN, Value.slice (some { block := 2, off := 0 }) 2 2] 22 0 1, AObj.cells (i64s xs) e1.fst (e1.snd.fst + 4) e1.snd.snd] }, log := [] } = some (Ex.exit 2, G5e w b more byy (aX lx cx) (VN) (aX lx cx) (VI (List.getD xs i 0)) 1 0 lx lx [oX xs e1]),
    VT = VT,
    VF = VF,
    VT = VT,
    VT = VT,
    Value.bool (decide (byy ≤ (-1152921504606846976 : Int))) = VT,
    evCall Try.prog 0 (bodied Try.prog) over4 sbs 1000 19 8 [] { n := 0, objs := [] } = some (VT, { n := 0, objs := [] }, [])] (by kernel_rfl)
    ⟨Dg.vfalse (by omega), Dg.evCall_over (c8 _), rfl, okGXNu lx cx e1 xs w b more byy hllx hclx hzlx i hi hr (by kernel_rfl), rfl, rfl, rfl, rfl, Dg.vtrue (by omega), Dg.evCall_over (c8 _), trivial⟩
--> m5PNbl
--< m5PNbh
theorem m5PNbh (w : Int) (b : Int) (more : Int) (byy : Int) (lx : Nat) (cx : Cp) (e1 : Sh) (xs : List Int) (hclx : lx ≤ cx.fst) (hzlx : List.length xs = cx.fst) (hllx : lx ≤ 200) (i : Nat) (hi : lx = i + 1) (hr : ∀ (j : Nat), j < lx → rng (List.getD xs j 0)) (hb0 : -1152921504606846976 < byy) (hb : 1152921504606846976 ≤ byy) :
    evCall Try.prog 0 (bodied Try.prog) over4 sbs 1000 20 5 [VI w, VI b, VI more, aX lx cx, VN, VI byy] { n := 1, objs := [oX xs e1] } = some (VT, { n := 1, objs := [AObj.cells (i64s xs) e1.fst (e1.snd.fst + 4) e1.snd.snd] }, []) :=
  Dg.evCall_hint (hs' := []) (hs := [Hint.val 5 34 (VF),
    Hint.call 8 (VT) { n := 0, objs := [] } [],
    Hint.val 5 53 (VT),
    Hint.loop 5 (Ex.exit 2) (G5e w b more byy (aX lx cx) (VN) (aX lx cx) (VI (List.getD xs i 0)) 1 0 lx lx [oX xs e1]),
    Hint.val 5 53 (VT),
    Hint.val 5 59 (VF),
    Hint.val 5 53 (VT),
    Hint.val 5 59 (VT),
    Hint.val 5 63 (VF),
    Hint.val 5 66 (VT),
    Hint.call 8 (VT) { n := 0, objs := [] } []])
    [Value.bool (decide ((↑lx : Int) > (200 : Int))) = VF,
    evCall Try.prog 0 (bodied Try.prog) over4 sbs 1000 19 8 [] { n := 0, objs := [] } = some (VT, { n := 0, objs := [] }, []),
    VT = VT,
    evLoop (run5K 1 lI5 kO5) (cl5K 1 lI5 kO5) 1000 { ts := ([VI w, VI b, VI more, VC 0 cx.2 lx cx.fst, VN, VI byy] ++ (us 6 ++ ([VF, VN, VN, VN, undef, VC 0 cx.2 lx cx.fst] ++ (us 14 ++ (js 18 ++ ([Value.slice (some { block := 1, off := 0 }) 3 3, VI 3, VI 0, VT, Value.pointer (some { block := 1, off := 0 }), VC 0 cx.2 lx cx.fst, VC 0 cx.2 lx cx.fst, VI (↑lx : Int), VI 0] ++ (js 153))))))), H := { n := 3, objs := [AObj.cells [VI byy, VI more] 2 4 1, AObj.cells [VC 0 cx.2 lx cx.fst, VN, Value.slice (some { block := 2, off := 0 }) 2 2] 22 0 1, AObj.cells (i64s xs) e1.fst (e1.snd.fst + 4) e1.snd.snd] }, log := [] } = some (Ex.exit 2, G5e w b more byy (aX lx cx) (VN) (aX lx cx) (VI (List.getD xs i 0)) 1 0 lx lx [oX xs e1]),
    VT = VT,
    VF = VF,
    VT = VT,
    VT = VT,
    Value.bool (decide (byy ≤ (-1152921504606846976 : Int))) = VF,
    Value.bool (decide (byy ≥ (1152921504606846976 : Int))) = VT,
    evCall Try.prog 0 (bodied Try.prog) over4 sbs 1000 19 8 [] { n := 0, objs := [] } = some (VT, { n := 0, objs := [] }, [])] (by kernel_rfl)
    ⟨Dg.vfalse (by omega), Dg.evCall_over (c8 _), rfl, okGXNu lx cx e1 xs w b more byy hllx hclx hzlx i hi hr (by kernel_rfl), rfl, rfl, rfl, rfl, Dg.vfalse (by omega), Dg.vtrue (by omega), Dg.evCall_over (c8 _), trivial⟩
--> m5PNbh
--< m5PNml
theorem m5PNml (w : Int) (b : Int) (more : Int) (byy : Int) (lx : Nat) (cx : Cp) (e1 : Sh) (xs : List Int) (hclx : lx ≤ cx.fst) (hzlx : List.length xs = cx.fst) (hllx : lx ≤ 200) (i : Nat) (hi : lx = i + 1) (hr : ∀ (j : Nat), j < lx → rng (List.getD xs j 0)) (hb0 : -1152921504606846976 < byy ∧ byy < 1152921504606846976) (hb : more ≤ -1152921504606846976) :
    evCall Try.prog 0 (bodied Try.prog) over4 sbs 1000 20 5 [VI w, VI b, VI more, aX lx cx, VN, VI byy] { n := 1, objs := [oX xs e1] } = some (VT, { n := 1, objs := [AObj.cells (i64s xs) e1.fst (e1.snd.fst + 4) e1.snd.snd] }, []) :=
  Dg.evCall_hint (hs' := []) (hs := [Hint.val 5 34 (VF),
    Hint.call 8 (VT) { n := 0, objs := [] } [],
    Hint.val 5 53 (VT),
    Hint.loop 5 (Ex.exit 2) (G5e w b more byy (aX lx cx) (VN) (aX lx cx) (VI (List.getD xs i 0)) 1 0 lx lx [oX xs e1]),
    Hint.val 5 53 (VT),
    Hint.val 5 59 (VF),
    Hint.val 5 53 (VT),
    Hint.val 5 59 (VT),
    Hint.val 5 63 (VF),
    Hint.val 5 66 (VF),
    Hint.val 5 63 (VT),
    Hint.call 8 (VT) { n := 0, objs := [] } []])
    [Value.bool (decide ((↑lx : Int) > (200 : Int))) = VF,
    evCall Try.prog 0 (bodied Try.prog) over4 sbs 1000 19 8 [] { n := 0, objs := [] } = some (VT, { n := 0, objs := [] }, []),
    VT = VT,
    evLoop (run5K 1 lI5 kO5) (cl5K 1 lI5 kO5) 1000 { ts := ([VI w, VI b, VI more, VC 0 cx.2 lx cx.fst, VN, VI byy] ++ (us 6 ++ ([VF, VN, VN, VN, undef, VC 0 cx.2 lx cx.fst] ++ (us 14 ++ (js 18 ++ ([Value.slice (some { block := 1, off := 0 }) 3 3, VI 3, VI 0, VT, Value.pointer (some { block := 1, off := 0 }), VC 0 cx.2 lx cx.fst, VC 0 cx.2 lx cx.fst, VI (↑lx : Int), VI 0] ++ (js 153))))))), H := { n := 3, objs := [AObj.cells [VI byy, VI more] 2 4 1, AObj.cells [VC 0 cx.2 lx cx.fst, VN, Value.slice (some { block := 2, off := 0 }) 2 2] 22 0 1, AObj.cells (i64s xs) e1.fst (e1.snd.fst + 4) e1.snd.snd] }, log := [] } = some (Ex.exit 2, G5e w b more byy (aX lx cx) (VN) (aX lx cx) (VI (List.getD xs i 0)) 1 0 lx lx [oX xs e1]),
    VT = VT,
    VF = VF,
    VT = VT,
    VT = VT,
    Value.bool (decide (byy ≤ (-1152921504606846976 : Int))) = VF,
    Value.bool (decide (byy ≥ (1152921504606846976 : Int))) = VF,
    Value.bool (decide (more ≤ (-1152921504606846976 : Int))) = VT,
    evCall Try.prog 0 (bodied Try.prog) over4 sbs 1000 19 8 [] { n := 0, objs := [] } = some (VT, { n := 0, objs := [] }, [])] (by kernel_rfl)
    ⟨Dg.vfalse (by omega), Dg.evCall_over (c8 _), rfl, okGXNu lx cx e1 xs w b more byy hllx hclx hzlx i hi hr (by kernel_rfl), rfl, rfl, rfl, rfl, Dg.vfalse (by omega), Dg.vfalse (by omega), Dg.vtrue (by omega), Dg.evCall_over (c8 _), trivial⟩
--> m5PNml
--< m5PNmh
theorem m5PNmh (w : Int) (b : Int) (more : Int) (byy : Int) (lx : Nat) (cx : Cp) (e1 : Sh) (xs : List Int) (hclx : lx ≤ cx.fst) (hzlx : List.length xs = cx.fst) (hllx : lx ≤ 200) (i : Nat) (hi : lx = i + 1) (hr : ∀ (j : Nat), j < lx → rng (List.getD xs j 0)) (hb0 : -1152921504606846976 < byy ∧ byy < 1152921504606846976) (hb1 : -1152921504606846976 < more) (hb : 1152921504606846976 ≤ more) :
    evCall Try.prog 0 (bodied Try.prog) over4 sbs 1000 20 5 [VI w, VI b, VI more, aX lx cx, VN, VI byy] { n := 1, objs := [oX xs e1] } = some (VT, { n := 1, objs := [AObj.cells (i64s xs) e1.fst (e1.snd.fst + 4) e1.snd.snd] }, []) :=
  Dg.evCall_hint (hs' := []) (hs := [Hint.val 5 34 (VF),
    Hint.call 8 (VT) { n := 0, objs := [] } [],
    Hint.val 5 53 (VT),
    Hint.loop 5 (Ex.exit 2) (G5e w b more byy (aX lx cx) (VN) (aX lx cx) (VI (List.getD xs i 0)) 1 0 lx lx [oX xs e1]),
    Hint.val 5 53 (VT),
    Hint.val 5 59 (VF),
    Hint.val 5 53 (VT),
    Hint.val 5 59 (VT),
    Hint.val 5 63 (VF),
    Hint.val 5 66 (VF),
    Hint.val 5 63 (VF),
    Hint.val 5 66 (VT),
    Hint.call 8 (VT) { n := 0, objs := [] } []])
    [Value.bool (decide ((↑lx : Int) > (200 : Int))) = VF,
    evCall Try.prog 0 (bodied Try.prog) over4 sbs 1000 19 8 [] { n := 0, objs := [] } = some (VT, { n := 0, objs := [] }, []),
    VT = VT,
    evLoop (run5K 1 lI5 kO5) (cl5K 1 lI5 kO5) 1000 { ts := ([VI w, VI b, VI more, VC 0 cx.2 lx cx.fst, VN, VI byy] ++ (us 6 ++ ([VF, VN, VN, VN, undef, VC 0 cx.2 lx cx.fst] ++ (us 14 ++ (js 18 ++ ([Value.slice (some { block := 1, off := 0 }) 3 3, VI 3, VI 0, VT, Value.pointer (some { block := 1, off := 0 }), VC 0 cx.2 lx cx.fst, VC 0 cx.2 lx cx.fst, VI (↑lx : Int), VI 0] ++ (js 153))))))), H := { n := 3, objs := [AObj.cells [VI byy, VI more] 2 4 1, AObj.cells [VC 0 cx.2 lx cx.fst, VN, Value.slice (some { block := 2, off := 0 }) 2 2] 22 0 1, AObj.cells (i64s xs) e1.fst (e1.snd.fst + 4) e1.snd.snd] }, log := [] } = some (Ex.exit 2, G5e w b more byy (aX lx cx) (VN) (aX lx cx) (VI (List.getD xs i 0)) 1 0 lx lx [oX xs e1]),
    VT = VT,
    VF = VF,
    VT = VT,
    VT = VT,
    Value.bool (decide (byy ≤ (-1152921504606846976 : Int))) = VF,
    Value.bool (decide (byy ≥ (1152921504606846976 : Int))) = VF,
    Value.bool (decide (more ≤ (-1152921504606846976 : Int))) = VF,
    Value.bool (decide (more ≥ (1152921504606846976 : Int))) = VT,
    evCall Try.prog 0 (bodied Try.prog) over4 sbs 1000 19 8 [] { n := 0, objs := [] } = some (VT, { n := 0, objs := [] }, [])] (by kernel_rfl)
    ⟨Dg.vfalse (by omega), Dg.evCall_over (c8 _), rfl, okGXNu lx cx e1 xs w b more byy hllx hclx hzlx i hi hr (by kernel_rfl), rfl, rfl, rfl, rfl, Dg.vfalse (by omega), Dg.vfalse (by omega), Dg.vfalse (by omega), Dg.vtrue (by omega), Dg.evCall_over (c8 _), trivial⟩
--> m5PNmh
--< m5EPbl
theorem m5EPbl (w : Int) (b : Int) (more : Int) (byy : Int) (cx : Cp) (ly : Nat) (cy : Cp) (e1 : Sh) (e2 : Sh) (xs : List Int) (ys : List Int) (hclx : 0 ≤ cx.fst) (hzlx : List.length xs = cx.fst) (hcly : ly ≤ cy.fst) (hzly : List.length ys = cy.fst) (hlly : ly ≤ 200) (k : Nat) (hk : ly = k + 1) (hs : ∀ (j : Nat), j < ly → rng (List.getD ys j 0)) (hb : byy ≤ -1152921504606846976) :
    evCall Try.prog 0 (bodied Try.prog) over4 sbs 1000 20 5 [VI w, VI b, VI more, aX 0 cx, aY ly cy, VI byy] { n := 2, objs := [oY ys e2, oX xs e1] } = some (VT, { n := 2, objs := [AObj.cells (i64s ys) e2.fst (e2.snd.fst + 4) e2.snd.snd, AObj.cells (i64s xs) e1.fst (e1.snd.fst + 4) e1.snd.snd] }, []) :=
  Dg.evCall_hint (hs' := []) (hs := [Hint.val 5 38 (VF),
    Hint.call 8 (VT) { n := 0, objs := [] } [],
    Hint.val 5 53 (VT),
    Hint.val 5 59 (VF),
    Hint.val 5 53 (VT),
    Hint.loop 5 (Ex.exit 2) (G5e w b more byy (aX 0 cx) (aY ly cy) (aY ly cy) (VI (List.getD ys k 0)) 2 1 ly ly [oY ys e2, oX xs e1]),
    Hint.val 5 53 (VT),
    Hint.val 5 59 (VT),
    Hint.val 5 63 (VT),
    Hint.call 8 (VT) { n := 0, objs := [] } []])
    [Value.bool (decide ((↑ly : Int) > (200 : Int))) = VF,
    evCall Try.prog 0 (bodied Try.prog) over4 sbs 1000 19 8 [] { n := 0, objs := [] } = some (VT, { n := 0, objs := [] }, []),
    VT = VT,
    VF = VF,
    VT = VT,
    evLoop (run5K 2 lI5 kO5) (cl5K 2 lI5 kO5) 1000 { ts := ([VI w, VI b, VI more, VC 0 cx.2 0 cx.fst, VC 1 cy.2 ly cy.fst, VI byy] ++ (us 6 ++ ([VF, VN, VN, VN, undef, VC 1 cy.2 ly cy.fst] ++ (us 14 ++ (js 18 ++ ([Value.slice (some { block := 2, off := 0 }) 3 3, VI 3, VI 1, VT, Value.pointer (some { block := 2, off := 1 }), VC 1 cy.2 ly cy.fst, VC 1 cy.2 ly cy.fst, VI (↑ly : Int), VI 0] ++ (js 153))))))), H := { n := 4, objs := [AObj.cells [VI byy, VI more] 2 4 1, AObj.cells [VC 0 cx.2 0 cx.fst, VC 1 cy.2 ly cy.fst, Value.slice (some { block := 3, off := 0 }) 2 2] 22 0 1, AObj.cells (i64s ys) e2.fst (e2.snd.fst + 4) e2.snd.snd, AObj.cells (i64s xs) e1.fst (e1.snd.fst + 4) e1.snd.snd] }, log := [] } = some (Ex.exit 2, G5e w b more byy (aX 0 cx) (aY ly cy) (aY ly cy) (VI (List.getD ys k 0)) 2 1 ly ly [oY ys e2, oX xs e1]),
    VT = VT,
    VT = VT,
    Value.bool (decide (byy ≤ (-1152921504606846976 : Int))) = VT,
    evCall Try.prog 0 (bodied Try.prog) over4 sbs 1000 19 8 [] { n := 0, objs := [] } = some (VT, { n := 0, objs := [] }, [])] (by kernel_rfl)
    ⟨Dg.vfalse (by omega), Dg.evCall_over (c8 _), rfl, rfl, rfl, okGYu 0 cx ly cy e1 e2 xs ys w b more byy hlly hcly hzly k hk hs (by kernel_rfl), rfl, rfl, Dg.vtrue (by omega), Dg.evCall_over (c8 _), trivial⟩
--> m5EPbl
--< m5EPbh
theorem m5EPbh (w : Int) (b : Int) (more : Int) (byy : Int) (cx : Cp) (ly : Nat) (cy : Cp) (e1 : Sh) (e2 : Sh) (xs : List Int) (ys : List Int) (hclx : 0 ≤ cx.fst) (hzlx : List.length xs = cx.fst) (hcly : ly ≤ cy.fst) (hzly : List.length ys = cy.fst) (hlly : ly ≤ 200) (k : Nat) (hk : ly = k + 1) (hs : ∀ (j : Nat), j < ly → rng (List.getD ys j 0)) (hb0 : -1152921504606846976 < byy) (hb : 1152921504606846976 ≤ byy) :
    evCall Try.prog 0 (bodied Try.prog) over4 sbs 1000 20 5 [VI w, VI b, VI more, aX 0 cx, aY ly cy, VI byy] { n := 2, objs := [oY ys e2, oX xs e1] } = some (VT, { n := 2, objs := [AObj.cells (i64s ys) e2.fst (e2.snd.fst + 4) e2.snd.snd, AObj.cells (i64s xs) e1.fst (e1.snd.fst + 4) e1.snd.snd] }, []) :=
  Dg.evCall_hint (hs' := []) (hs := [Hint.val 5 38 (VF),
    Hint.call 8 (VT) { n := 0, objs := [] } [],
    Hint.val 5 53 (VT),
    Hint.val 5 59 (VF),
    Hint.val 5 53 (VT),
    Hint.loop 5 (Ex.exit 2) (G5e w b more byy (aX 0 cx) (aY ly cy) (aY ly cy) (VI (List.getD ys k 0)) 2 1 ly ly [oY ys e2, oX xs e1]),
    Hint.val 5 53 (VT),
    Hint.val 5 59 (VT),
    Hint.val 5 63 (VF),
    Hint.val 5 66 (VT),
    Hint.call 8 (VT) { n := 0, objs := [] } []])
    [Value.bool (decide ((↑ly : Int) > (200 : Int))) = VF,
    evCall Try.prog 0 (bodied Try.prog) over4 sbs 1000 19 8 [] { n := 0, objs := [] } = some (VT, { n := 0, objs := [] }, []),
    VT = VT,
    VF = VF,
    VT = VT,
    evLoop (run5K 2 lI5 kO5) (cl5K 2 lI5 kO5) 1000 { ts := ([VI w, VI b, VI more, VC 0 cx.2 0 cx.fst, VC 1 cy.2 ly cy.fst, VI byy] ++ (us 6 ++ ([VF, VN, VN, VN, undef, VC 1 cy.2 ly cy.fst] ++ (us 14 ++ (js 18 ++ ([Value.slice (some { block := 2, off := 0 }) 3 3, VI 3, VI 1, VT, Value.pointer (some { block := 2, off := 1 }), VC 1 cy.2 ly cy.fst, VC 1 cy.2 ly cy.fst, VI (↑ly : Int), VI 0] ++ (js 153))))))), H := { n := 4, objs := [AObj.cells [VI byy, VI more] 2 4 1, AObj.cells [VC 0 cx.2 0 cx.fst, VC 1 cy.2 ly cy.fst, Value.slice (some { block := 3, off := 0 }) 2 2] 22 0 1, AObj.cells (i64s ys) e2.fst (e2.snd.fst + 4) e2.snd.snd, AObj.cells (i64s xs) e1.fst (e1.snd.fst + 4) e1.snd.snd] }, log := [] } = some (Ex.exit 2, G5e w b more byy (aX 0 cx) (aY ly cy) (aY ly cy) (VI (List.getD ys k 0)) 2 1 ly ly [oY ys e2, oX xs e1]),
    VT = VT,
    VT = VT,
    Value.bool (decide (byy ≤ (-1152921504606846976 : Int))) = VF,
    Value.bool (decide (byy ≥ (1152921504606846976 : Int))) = VT,
    evCall Try.prog 0 (bodied Try.prog) over4 sbs 1000 19 8 [] { n := 0, objs := [] } = some (VT, { n := 0, objs := [] }, [])] (by kernel_rfl)
    ⟨Dg.vfalse (by omega), Dg.evCall_over (c8 _), rfl, rfl, rfl, okGYu 0 cx ly cy e1 e2 xs ys w b more byy hlly hcly hzly k hk hs (by kernel_rfl), rfl, rfl, Dg.vfalse (by omega), Dg.vtrue (by omega), Dg.evCall_over (c8 _), trivial⟩
--> m5EPbh
--< m5EPml
theorem m5EPml (w : Int) (b : Int) (more : Int) (byy : Int) (cx : Cp) (ly : Nat) (cy : Cp) (e1 : Sh) (e2 : Sh) (xs : List Int) (ys : List Int) (hclx : 0 ≤ cx.fst) (hzlx : List.length xs = cx.fst) (hcly : ly ≤ cy.fst) (hzly : List.length ys = cy.fst) (hlly : ly ≤ 200) (k : Nat) (hk : ly = k + 1) (hs : ∀ (j : Nat), j < ly → rng (List.getD ys j 0)) (hb0 : -1152921504606846976 < byy ∧ byy < 1152921504606846976) (hb : more ≤ -1152921504606846976) :
    evCall Try.prog 0 (bodied Try.prog) over4 sbs 1000 20 5 [VI w, VI b, VI more, aX 0 cx, aY ly cy, VI byy] { n := 2, objs := [oY ys e2, oX xs e1] } = some (VT, { n := 2, objs := [AObj.cells (i64s ys) e2.fst (e2.snd.fst + 4) e2.snd.snd, AObj.cells (i64s xs) e1.fst (e1.snd.fst + 4) e1.snd.snd] }, []) :=
  Dg.evCall_hint (hs' := []) (hs := [Hint.val 5 38 (VF),
    Hint.call 8 (VT) { n := 0, objs := [] } [],
    Hint.val 5 53 (VT),
    Hint.val 5 59 (VF),
    Hint.val 5 53 (VT),
    Hint.loop 5 (Ex.exit 2) (G5e w b more byy (aX 0 cx) (aY ly cy) (aY ly cy) (VI (List.getD ys k 0)) 2 1 ly ly [oY ys e2, oX xs e1]),
    Hint.val 5 53 (VT),
    Hint.val 5 59 (VT),
    Hint.val 5 63 (VF),
    Hint.val 5 66 (VF),
    Hint.val 5 63 (VT),
    Hint.call 8 (VT) { n := 0, objs := [] } []])
    [Value.bool (decide ((↑ly : Int) > (200 : Int))) = VF,
    evCall Try.prog 0 (bodied Try.prog) over4 sbs 1000 19 8 [] { n := 0, objs := [] } = some (VT, { n := 0, objs := [] }, []),
    VT = VT,
    VF = VF,
    VT = VT,
    evLoop (run5K 2 lI5 kO5) (cl5K 2 lI5 kO5) 1000 { ts := ([VI w, VI b, VI more, VC 0 cx.2 0 cx.fst, VC 1 cy.2 ly cy.fst, VI byy] ++ (us 6 ++ ([VF, VN, VN, VN, undef, VC 1 cy.2 ly cy.fst] ++ (us 14 ++ (js 18 ++ ([Value.slice (some { block := 2, off := 0 }) 3 3, VI 3, VI 1, VT, Value.pointer (some { block := 2, off := 1 }), VC 1 cy.2 ly cy.fst, VC 1 cy.2 ly cy.fst, VI (↑ly : Int), VI 0] ++ (js 153))))))), H := { n := 4, objs := [AObj.cells [VI byy, VI more] 2 4 1, AObj.cells [VC 0 cx.2 0 cx.fst, VC 1 cy.2 ly cy.fst, Value.slice (some { block := 3, off := 0 }) 2 2] 22 0 1, AObj.cells (i64s ys) e2.fst (e2.snd.fst + 4) e2.snd.snd, AObj.cells (i64s xs) e1.fst (e1.snd.fst + 4) e1.snd.snd] }, log := [] } = some (Ex.exit 2, G5e w b more byy (aX 0 cx) (aY ly cy) (aY ly cy) (VI (List.getD ys k 0)) 2 1 ly ly [oY ys e2, oX xs e1]),
    VT = VT,
    VT = VT,
    Value.bool (decide (byy ≤ (-1152921504606846976 : Int))) = VF,
    Value.bool (decide (byy ≥ (1152921504606846976 : Int))) = VF,
    Value.bool (decide (more ≤ (-1152921504606846976 : Int))) = VT,
    evCall Try.prog 0 (bodied Try.prog) over4 sbs 1000 19 8 [] { n := 0, objs := [] } = some (VT, { n := 0, objs := [] }, [])] (by kernel_rfl)
    ⟨Dg.vfalse (by omega), Dg.evCall_over (c8 _), rfl, rfl, rfl, okGYu 0 cx ly cy e1 e2 xs ys w b more byy hlly hcly hzly k hk hs (by kernel_rfl), rfl, rfl, Dg.vfalse (by omega), Dg.vfalse (by omega), Dg.vtrue (by omega), Dg.evCall_over (c8 _), trivial⟩
--> m5EPml
--< m5EPmh
theorem m5EPmh (w : Int) (b : Int) (more : Int) (byy : Int) (cx : Cp) (ly : Nat) (cy : Cp) (e1 : Sh) (e2 : Sh) (xs : List Int) (ys : List Int) (hclx : 0 ≤ cx.fst) (hzlx : List.length xs = cx.fst) (hcly : ly ≤ cy.fst) (hzly : List.length ys = cy.fst) (hlly : ly ≤ 200) (k : Nat) (hk : ly = k + 1) (hs : ∀ (j : Nat), j < ly → rng (List.getD ys j 0)) (hb0 : -1152921504606846976 < byy ∧ byy < 1152921504606846976) (hb1 : -1152921504606846976 < more) (hb : 1152921504606846976 ≤ more) :
    evCall Try.prog 0 (bodied Try.prog) over4 sbs 1000 20 5 [VI w, VI b, VI more, aX 0 cx, aY ly cy, VI byy] { n := 2, objs := [oY ys e2, oX xs e1] } = some (VT, { n := 2, objs := [AObj.cells (i64s ys) e2.fst (e2.snd.fst + 4) e2.snd.snd, AObj.cells (i64s xs) e1.fst (e1.snd.fst + 4) e1.snd.snd] }, []) :=
  Dg.evCall_hint (hs' := []) (hs := [Hint.val 5 38 (VF),
    Hint.call 8 (VT) { n := 0, objs := [] } [],
    Hint.val 5 53 (VT),
    Hint.val 5 59 (VF),
    Hint.val 5 53 (VT),
    Hint.loop 5 (Ex.exit 2) (G5e w b more byy (aX 0 cx) (aY ly cy) (aY ly cy) (VI (List.getD ys k 0)) 2 1 ly ly [oY ys e2, oX xs e1]),
    Hint.val 5 53 (VT),
    Hint.val 5 59 (VT),
    Hint.val 5 63 (VF),
    Hint.val 5 66 (VF),
    Hint.val 5 63 (VF),
    Hint.val 5 66 (VT),
    Hint.call 8 (VT) { n := 0, objs := [] } []])
    [Value.bool (decide ((↑ly : Int) > (200 : Int))) = VF,
    evCall Try.prog 0 (bodied Try.prog) over4 sbs 1000 19 8 [] { n := 0, objs := [] } = some (VT, { n := 0, objs := [] }, []),
    VT = VT,
    VF = VF,
    VT = VT,
    evLoop (run5K 2 lI5 kO5) (cl5K 2 lI5 kO5) 1000 { ts := ([VI w, VI b, VI more, VC 0 cx.2 0 cx.fst, VC 1 cy.2 ly cy.fst, VI byy] ++ (us 6 ++ ([VF, VN, VN, VN, undef, VC 1 cy.2 ly cy.fst] ++ (us 14 ++ (js 18 ++ ([Value.slice (some { block := 2, off := 0 }) 3 3, VI 3, VI 1, VT, Value.pointer (some { block := 2, off := 1 }), VC 1 cy.2 ly cy.fst, VC 1 cy.2 ly cy.fst, VI (↑ly : Int), VI 0] ++ (js 153))))))), H := { n := 4, objs := [AObj.cells [VI byy, VI more] 2 4 1, AObj.cells [VC 0 cx.2 0 cx.fst, VC 1 cy.2 ly cy.fst, Value.slice (some { block := 3, off := 0 }) 2 2] 22 0 1, AObj.cells (i64s ys) e2.fst (e2.snd.fst + 4) e2.snd.snd, AObj.cells (i64s xs) e1.fst (e1.snd.fst + 4) e1.snd.snd] }, log := [] } = some (Ex.exit 2, G5e w b more byy (aX 0 cx) (aY ly cy) (aY ly cy) (VI (List.getD ys k 0)) 2 1 ly ly [oY ys e2, oX xs e1]),
    VT = VT,
    VT = VT,
    Value.bool (decide (byy ≤ (-1152921504606846976 : Int))) = VF,
    Value.bool (decide (byy ≥ (1152921504606846976 : Int))) = VF,
    Value.bool (decide (more ≤ (-1152921504606846976 : Int))) = VF,
    Value.bool (decide (more ≥ (1152921504606846976 : Int))) = VT,
    evCall Try.prog 0 (bodied Try.prog) over4 sbs 1000 19 8 [] { n := 0, objs := [] } = some (VT, { n := 0, objs := [] }, [])] (by kernel_rfl)
    ⟨Dg.vfalse (by omega), Dg.evCall_over (c8 _), rfl, rfl, rfl, okGYu 0 cx ly cy e1 e2 xs ys w b more byy hlly hcly hzly k hk hs (by kernel_rfl), rfl, rfl, Dg.vfalse (by omega), Dg.vfalse (by omega), Dg.vfalse (by omega), Dg.vtrue (by omega), Dg.evCall_over (c8 _), trivial⟩
--> m5EPmh
--< m5EEbl
theorem m5EEbl (w : Int) (b : Int) (more : Int) (byy : Int) (cx : Cp) (cy : Cp) (e1 : Sh) (e2 : Sh) (xs : List Int) (ys : List Int) (hclx : 0 ≤ cx.fst) (hzlx : List.length xs = cx.fst) (hcly : 0 ≤ cy.fst) (hzly : List.length ys = cy.fst) (hb : byy ≤ -1152921504606846976) :
    evCall Try.prog 0 (bodied Try.prog) over4 sbs 1000 20 5 [VI w, VI b, VI more, aX 0 cx, aY 0 cy, VI byy] { n := 2, objs := [oY ys e2, oX xs e1] } = some (VT, { n := 2, objs := [AObj.cells (i64s ys) e2.fst (e2.snd.fst + 4) e2.snd.snd, AObj.cells (i64s xs) e1.fst (e1.snd.fst + 4) e1.snd.snd] }, []) :=
  Dg.evCall_hint (hs' := []) (hs := [Hint.call 8 (VT) { n := 0, objs := [] } [],
    Hint.val 5 53 (VT),
    Hint.val 5 59 (VF),
    Hint.val 5 53 (VT),
    Hint.val 5 59 (VF),
    Hint.val 5 53 (VT),
    Hint.val 5 59 (VT),
    Hint.val 5 63 (VT),
    Hint.call 8 (VT) { n := 0, objs := [] } []])
    [evCall Try.prog 0 (bodied Try.prog) over4 sbs 1000 19 8 [] { n := 0, objs := [] } = some (VT, { n := 0, objs := [] }, []),
    VT = VT,
    VF = VF,
    VT = VT,
    VF = VF,
    VT = VT,
    VT = VT,
    Value.bool (decide (byy ≤ (-1152921504606846976 : Int))) = VT,
    evCall Try.prog 0 (bodied Try.prog) over4 sbs 1000 19 8 [] { n := 0, objs := [] } = some (VT, { n := 0, objs := [] }, [])] (by kernel_rfl)
    ⟨Dg.evCall_over (c8 _), rfl, rfl, rfl, rfl, rfl, rfl, Dg.vtrue (by omega), Dg.evCall_over (c8 _), trivial⟩
--> m5EEbl
--< m5EEbh
theorem m5EEbh (w : Int) (b : Int) (more : Int) (byy : Int) (cx : Cp) (cy : Cp) (e1 : Sh) (e2 : Sh) (xs : List Int) (ys : List Int) (hclx : 0 ≤ cx.fst) (hzlx : List.length xs = cx.fst) (hcly : 0 ≤ cy.fst) (hzly : List.length ys = cy.fst) (hb0 : -1152921504606846976 < byy) (hb : 1152921504606846976 ≤ byy) :
    evCall Try.prog 0 (bodied Try.prog) over4 sbs 1000 20 5 [VI w, VI b, VI more, aX 0 cx, aY 0 cy, VI byy] { n := 2, objs := [oY ys e2, oX xs e1] } = some (VT, { n := 2, objs := [AObj.cells (i64s ys) e2.fst (e2.snd.fst + 4) e2.snd.snd, AObj.cells (i64s xs) e1.fst (e1.snd.fst + 4) e1.snd.snd] }, []) :=
  Dg.evCall_hint (hs' := []) (hs := [Hint.call 8 (VT) { n := 0, objs := [] } [],
    Hint.val 5 53 (VT),
    Hint.val 5 59 (VF),
    Hint.val 5 53 (VT),
    Hint.val 5 59 (VF),
    Hint.val 5 53 (VT),
    Hint.val 5 59 (VT),
    Hint.val 5 63 (VF),
    Hint.val 5 66 (VT),
    Hint.call 8 (VT) { n := 0, objs := [] } []])
    [evCall Try.prog 0 (bodied Try.prog) over4 sbs 1000 19 8 [] { n := 0, objs := [] } = some (VT, { n := 0, objs := [] }, []),
    VT = VT,
    VF = VF,
    VT = VT,
    VF = VF,
    VT = VT,
    VT = VT,
    Value.bool (decide (byy ≤ (-1152921504606846976 : Int))) = VF,
    Value.bool (decide (byy ≥ (1152921504606846976 : Int))) = VT,
    evCall Try.prog 0 (bodied Try.prog) over4 sbs 1000 19 8 [] { n := 0, objs := [] } = some (VT, { n := 0, objs := [] }, [])] (by kernel_rfl)
    ⟨Dg.evCall_over (c8 _), rfl, rfl, rfl, rfl, rfl, rfl, Dg.vfalse (by omega), Dg.vtrue (by omega), Dg.evCall_over (c8 _), trivial⟩
--> m5EEbh
--< m5EEml
theorem m5EEml (w : Int) (b : Int) (more : Int) (byy : Int) (cx : Cp) (cy : Cp) (e1 : Sh) (e2 : Sh) (xs : List Int) (ys : List Int) (hclx : 0 ≤ cx.fst) (hzlx : List.length xs = cx.fst) (hcly : 0 ≤ cy.fst) (hzly : List.length ys = cy.fst) (hb0 : -1152921504606846976 < byy ∧ byy < 1152921504606846976) (hb : more ≤ -1152921504606846976) :
    evCall Try.prog 0 (bodied Try.prog) over4 sbs 1000 20 5 [VI w, VI b, VI more, aX 0 cx, aY 0 cy, VI byy] { n := 2, objs := [oY ys e2, oX xs e1] } = some (VT, { n := 2, objs := [AObj.cells (i64s ys) e2.fst (e2.snd.fst + 4) e2.snd.snd, AObj.cells (i64s xs) e1.fst (e1.snd.fst + 4) e1.snd.snd] }, []) :=
  Dg.evCall_hint (hs' := []) (hs := [Hint.call 8 (VT) { n := 0, objs := [] } [],
    Hint.val 5 53 (VT),
    Hint.val 5 59 (VF),
    Hint.val 5 53 (VT),
    Hint.val 5 59 (VF),
    Hint.val 5 53 (VT),
    Hint.val 5 59 (VT),
    Hint.val 5 63 (VF),
    Hint.val 5 66 (VF),
    Hint.val 5 63 (VT),
    Hint.call 8 (VT) { n := 0, objs := [] } []])
    [evCall Try.prog 0 (bodied Try.prog) over4 sbs 1000 19 8 [] { n := 0, objs := [] } = some (VT, { n := 0, objs := [] }, []),
    VT = VT,
    VF = VF,
    VT = VT,
    VF = VF,
    VT = VT,
    VT = VT,
    Value.bool (decide (byy ≤ (-1152921504606846976 : Int))) = VF,
    Value.bool (decide (byy ≥ (1152921504606846976 : Int))) = VF,
    Value.bool (decide (more ≤ (-1152921504606846976 : Int))) = VT,
    evCall Try.prog 0 (bodied Try.prog) over4 sbs 1000 19 8 [] { n := 0, objs := [] } = some (VT, { n := 0, objs := [] }, [])] (by kernel_rfl)
    ⟨Dg.evCall_over (c8 _), rfl, rfl, rfl, rfl, rfl, rfl, Dg.vfalse (by omega), Dg.vfalse (by omega), Dg.vtrue (by omega), Dg.evCall_over (c8 _), trivial⟩
--> m5EEml
--< m5EEmh
theorem m5EEmh (w : Int) (b : Int) (more : Int) (byy : Int) (cx : Cp) (cy : Cp) (e1 : Sh) (e2 : Sh) (xs : List Int) (ys : List Int) (hclx : 0 ≤ cx.fst) (hzlx : List.length xs = cx.fst) (hcly : 0 ≤ cy.fst) (hzly : List.length ys = cy.fst) (hb0 : -1152921504606846976 < byy ∧ byy < 1152921504606846976) (hb1 : -1152921504606846976 < more) (hb : 1152921504606846976 ≤ more) :
    evCall Try.prog 0 (bodied Try.prog) over4 sbs 1000 20 5 [VI w, VI b, VI more, aX 0 cx, aY 0 cy, VI byy] { n := 2, objs := [oY ys e2, oX xs e1] } = some (VT, { n := 2, objs := [AObj.cells (i64s ys) e2.fst (e2.snd.fst + 4) e2.snd.snd, AObj.cells (i64s xs) e1.fst (e1.snd.fst + 4) e1.snd.snd] }, []) :=
  Dg.evCall_hint (hs' := []) (hs := [Hint.call 8 (VT) { n := 0, objs := [] } [],
    Hint.val 5 53 (VT),
    Hint.val 5 59 (VF),
    Hint.val 5 53 (VT),
    Hint.val 5 59 (VF),
    Hint.val 5 53 (VT),
    Hint.val 5 59 (VT),
    Hint.val 5 63 (VF),
    Hint.val 5 66 (VF),
    Hint.val 5 63 (VF),
    Hint.val 5 66 (VT),
    Hint.call 8 (VT) { n := 0, objs := [] } []])
    [evCall Try.prog 0 (bodied Try.prog) over4 sbs 1000 19 8 [] { n := 0, objs := [] } = some (VT, { n := 0, objs := [] }, []),
    VT = VT,
    VF = VF,
    VT = VT,
    VF = VF,
    VT = VT,
    VT = VT,
    Value.bool (decide (byy ≤ (-1152921504606846976 : Int))) = VF,
    Value.bool (decide (byy ≥ (1152921504606846976 : Int))) = VF,
    Value.bool (decide (more ≤ (-1152921504606846976 : Int))) = VF,
    Value.bool (decide (more ≥ (1152921504606846976 : Int))) = VT,
    evCall Try.prog 0 (bodied Try.prog) over4 sbs 1000 19 8 [] { n := 0, objs := [] } = some (VT, { n := 0, objs := [] }, [])] (by kernel_rfl)
    ⟨Dg.evCall_over (c8 _), rfl, rfl, rfl, rfl, rfl, rfl, Dg.vfalse (by omega), Dg.vfalse (by omega), Dg.vfalse (by omega), Dg.vtrue (by omega), Dg.evCall_over (c8 _), trivial⟩
--> m5EEmh
--< m5ENbl
theorem m5ENbl (w : Int) (b : Int) (more : Int) (byy : Int) (cx : Cp) (e1 : Sh) (xs : List Int) (hclx : 0 ≤ cx.fst) (hzlx : List.length xs = cx.fst) (hb : byy ≤ -1152921504606846976) :
    evCall Try.prog 0 (bodied Try.prog) over4 sbs 1000 20 5 [VI w, VI b, VI more, aX 0 cx, VN, VI byy] { n := 1, objs := [oX xs e1] } = some (VT, { n := 1, objs := [AObj.cells (i64s xs) e1.fst (e1.snd.fst + 4) e1.snd.snd] }, []) :=
  Dg.evCall_hint (hs' := []) (hs := [Hint.call 8 (VT) { n := 0, objs := [] } [],
    Hint.val 5 53 (VT),
    Hint.val 5 59 (VF),
    Hint.val 5 53 (VT),
    Hint.val 5 59 (VF),
    Hint.val 5 53 (VT),
    Hint.val 5 59 (VT),
    Hint.val 5 63 (VT),
    Hint.call 8 (VT) { n := 0, objs := [] } []])
    [evCall Try.prog 0 (bodied Try.prog) over4 sbs 1000 19 8 [] { n := 0, objs := [] } = some (VT, { n := 0, objs := [] }, []),
    VT = VT,
    VF = VF,
    VT = VT,
    VF = VF,
    VT = VT,
    VT = VT,
    Value.bool (decide (byy ≤ (-1152921504606846976 : Int))) = VT,
    evCall Try.prog 0 (bodied Try.prog) over4 sbs 1000 19 8 [] { n := 0, objs := [] } = some (VT, { n := 0, objs := [] }, [])] (by kernel_rfl)
    ⟨Dg.evCall_over (c8 _), rfl, rfl, rfl, rfl, rfl, rfl, Dg.vtrue (by omega), Dg.evCall_over (c8 _), trivial⟩
--> m5ENbl
--< m5ENbh
theorem m5ENbh (w : Int) (b : Int) (more : Int) (byy : Int) (cx : Cp) (e1 : Sh) (xs : List Int) (hclx : 0 ≤ cx.fst) (hzlx : List.length xs = cx.fst) (hb0 : -1152921504606846976 < byy) (hb : 1152921504606846976 ≤ byy) :
    evCall Try.prog 0 (bodied Try.prog) over4 sbs 1000 20 5 [VI w, VI b, VI more, aX 0 cx, VN, VI byy] { n := 1, objs := [oX xs e1] } = some (VT, { n := 1, objs := [AObj.cells (i64s xs) e1.fst (e1.snd.fst + 4) e1.snd.snd] }, []) :=
  Dg.evCall_hint (hs' := []) (hs := [Hint.call 8 (VT) { n := 0, objs := [] } [],
    Hint.val 5 53 (VT),
    Hint.val 5 59 (VF),
    Hint.val 5 53 (VT),
    Hint.val 5 59 (VF),
    Hint.val 5 53 (VT),
    Hint.val 5 59 (VT),
    Hint.val 5 63 (VF),
    Hint.val 5 66 (VT),
    Hint.call 8 (VT) { n := 0, objs := [] } []])
    [evCall Try.prog 0 (bodied Try.prog) over4 sbs 1000 19 8 [] { n := 0, objs := [] } = some (VT, { n := 0, objs := [] }, []),
    VT = VT,
    VF = VF,
    VT = VT,
    VF = VF,
    VT = VT,
    VT = VT,
    Value.bool (decide (byy ≤ (-1152921504606846976 : Int))) = VF,
    Value.bool (decide (byy ≥ (1152921504606846976 : Int))) = VT,
    evCall Try.prog 0 (bodied Try.prog) over4 sbs 1000 19 8 [] { n := 0, objs := [] } = some (VT, { n := 0, objs := [] }, [])] (by kernel_rfl)
    ⟨Dg.evCall_over (c8 _), rfl, rfl, rfl, rfl, rfl, rfl, Dg.vfalse (by omega), Dg.vtrue (by omega), Dg.evCall_over (c8 _), trivial⟩
--> m5ENbh
--< m5ENml
theorem m5ENml (w : Int) (b : Int) (more : Int) (byy : Int) (cx : Cp) (e1 : Sh) (xs : List Int) (hclx : 0 ≤ cx.fst) (hzlx : List.length xs = cx.fst) (hb0 : -1152921504606846976 < byy ∧ byy < 1152921504606846976) (hb : more ≤ -1152921504606846976) :
    evCall Try.prog 0 (bodied Try.prog) over4 sbs 1000 20 5 [VI w, VI b, VI more, aX 0 cx, VN, VI byy] { n := 1, objs := [oX xs e1] } = some (VT, { n := 1, objs := [AObj.cells (i64s xs) e1.fst (e1.snd.fst + 4) e1.snd.snd] }, []) :=
  Dg.evCall_hint (hs' := []) (hs := [Hint.call 8 (VT) { n := 0, objs := [] } [],
    Hint.val 5 53 (VT),
    Hint.val 5 59 (VF),
    Hint.val 5 53 (VT),
    Hint.val 5 59 (VF),
    Hint.val 5 53 (VT),
    Hint.val 5 59 (VT),
    Hint.val 5 63 (VF),
    Hint.val 5 66 (VF),
    Hint.val 5 63 (VT),
    Hint.call 8 (VT) { n := 0, objs := [] } []])
    [evCall Try.prog 0 (bodied Try.prog) over4 sbs 1000 19 8 [] { n := 0, objs := [] } = some (VT, { n := 0, objs := [] }, []),
    VT = VT,
    VF = VF,
    VT = VT,
    VF = VF,
    VT = VT,
    VT = VT,
    Value.bool (decide (byy ≤ (-1152921504606846976 : Int))) = VF,
    Value.bool (decide (byy ≥ (1152921504606846976 : Int))) = VF,
    Value.bool (decide (more ≤ (-1152921504606846976 : Int))) = VT,
    evCall Try.prog 0 (bodied Try.prog) over4 sbs 1000 19 8 [] { n := 0, objs := [] } = some (VT, { n := 0, objs := [] }, [])] (by kernel_rfl)
    ⟨Dg.evCall_over (c8 _), rfl, rfl, rfl, rfl, rfl, rfl, Dg.vfalse (by omega), Dg.vfalse (by omega), Dg.vtrue (by omega), Dg.evCall_over (c8 _), trivial⟩
--> m5ENml
--< m5ENmh
theorem m5ENmh (w : Int) (b : Int) (more : Int) (byy : Int) (cx : Cp) (e1 : Sh) (xs : List Int) (hclx : 0 ≤ cx.fst) (hzlx : List.length xs = cx.fst) (hb0 : -1152921504606846976 < byy ∧ byy < 1152921504606846976) (hb1 : -1152921504606846976 < more) (hb : 1152921504606846976 ≤ more) :
    evCall Try.prog 0 (bodied Try.prog) over4 sbs 1000 20 5 [VI w, VI b, VI more, aX 0 cx, VN, VI byy] { n := 1, objs := [oX xs e1] } = some (VT, { n := 1, objs := [AObj.cells (i64s xs) e1.fst (e1.snd.fst + 4) e1.snd.snd] }, []) :=
  Dg.evCall_hint (hs' := []) (hs := [Hint.call 8 (VT) { n := 0, objs := [] } [],
    Hint.val 5 53 (VT),
    Hint.val 5 59 (VF),
    Hint.val 5 53 (VT),
    Hint.val 5 59 (VF),
    Hint.val 5 53 (VT),
    Hint.val 5 59 (VT),
    Hint.val 5 63 (VF),
    Hint.val 5 66 (VF),
    Hint.val 5 63 (VF),
    Hint.val 5 66 (VT),
    Hint.call 8 (VT) { n := 0, objs := [] } []])
    [evCall Try.prog 0 (bodied Try.prog) over4 sbs 1000 19 8 [] { n := 0, objs := [] } = some (VT, { n := 0, objs := [] }, []),
    VT = VT,
    VF = VF,
    VT = VT,
    VF = VF,
    VT = VT,
    VT = VT,
    Value.bool (decide (byy ≤ (-1152921504606846976 : Int))) = VF,
    Value.bool (decide (byy ≥ (1152921504606846976 : Int))) = VF,
    Value.bool (decide (more ≤ (-1152921504606846976 : Int))) = VF,
    Value.bool (decide (more ≥ (1152921504606846976 : Int))) = VT,
    evCall Try.prog 0 (bodied Try.prog) over4 sbs 1000 19 8 [] { n := 0, objs := [] } = some (VT, { n := 0, objs := [] }, [])] (by kernel_rfl)
    ⟨Dg.evCall_over (c8 _), rfl, rfl, rfl, rfl, rfl, rfl, Dg.vfalse (by omega), Dg.vfalse (by omega), Dg.vfalse (by omega), Dg.vtrue (by omega), Dg.evCall_over (c8 _), trivial⟩
--> m5ENmh
--< m5NPbl
theorem m5NPbl (w : Int) (b : Int) (more : Int) (byy : Int) (lx : Nat) (cx : Cp) (e1 : Sh) (xs : List Int) (hclx : lx ≤ cx.fst) (hzlx : List.length xs = cx.fst) (hllx : lx ≤ 200) (i : Nat) (hi : lx = i + 1) (hr : ∀ (j : Nat), j < lx → rng (List.getD xs j 0)) (hb : byy ≤ -1152921504606846976) :
    evCall Try.prog 0 (bodied Try.prog) over4 sbs 1000 20 5 [VI w, VI b, VI more, VN, aX lx cx, VI byy] { n := 1, objs := [oX xs e1] } = some (VT, { n := 1, objs := [AObj.cells (i64s xs) e1.fst (e1.snd.fst + 4) e1.snd.snd] }, []) :=
  Dg.evCall_hint (hs' := []) (hs := [Hint.val 5 38 (VF),
    Hint.call 8 (VT) { n := 0, objs := [] } [],
    Hint.val 5 53 (VT),
    Hint.val 5 59 (VF),
    Hint.val 5 53 (VT),
    Hint.loop 5 (Ex.exit 2) (G5e w b more byy (VN) (aX lx cx) (aX lx cx) (VI (List.getD xs i 0)) 1 1 lx lx [oX xs e1]),
    Hint.val 5 53 (VT),
    Hint.val 5 59 (VT),
    Hint.val 5 63 (VT),
    Hint.call 8 (VT) { n := 0, objs := [] } []])
    [Value.bool (decide ((↑lx : Int) > (200 : Int))) = VF,
    evCall Try.prog 0 (bodied Try.prog) over4 sbs 1000 19 8 [] { n := 0, objs := [] } = some (VT, { n := 0, objs := [] }, []),
    VT = VT,
    VF = VF,
    VT = VT,
    evLoop (run5K 1 lI5 kO5) (cl5K 1 lI5 kO5) 1000 { ts := ([VI w, VI b, VI more, VN, VC 0 cx.2 lx cx.fst, VI byy] ++ (us 6 ++ ([VF, VN, VN, VN, undef, VC 0 cx.2 lx cx.fst] ++ (us 14 ++ (js 18 ++ ([Value.slice (some { block := 1, off := 0 }) 3 3, VI 3, VI 1, VT, Value.pointer (some { block := 1, off := 1 }), VC 0 cx.2 lx cx.fst, VC 0 cx.2 lx cx.fst, VI (↑lx : Int), VI 0] ++ (js 153))))))), H := { n := 3, objs := [AObj.cells [VI byy, VI more] 2 4 1, AObj.cells [VN, VC 0 cx.2 lx cx.fst, Value.slice (some { block := 2, off := 0 }) 2 2] 22 0 1, AObj.cells (i64s xs) e1.fst (e1.snd.fst + 4) e1.snd.snd] }, log := [] } = some (Ex.exit 2, G5e w b more byy (VN) (aX lx cx) (aX lx cx) (VI (List.getD xs i 0)) 1 1 lx lx [oX xs e1]),
    VT = VT,
    VT = VT,
    Value.bool (decide (byy ≤ (-1152921504606846976 : Int))) = VT,
    evCall Try.prog 0 (bodied Try.prog) over4 sbs 1000 19 8 [] { n := 0, objs := [] } = some (VT, { n := 0, objs := [] }, [])] (by kernel_rfl)
    ⟨Dg.vfalse (by omega), Dg.evCall_over (c8 _), rfl, rfl, rfl, okGNYu lx cx e1 xs w b more byy hllx hclx hzlx i hi hr (by kernel_rfl), rfl, rfl, Dg.vtrue (by omega), Dg.evCall_over (c8 _), trivial⟩
--> m5NPbl
--< m5NPbh
theorem m5NPbh (w : Int) (b : Int) (more : Int) (byy : Int) (lx : Nat) (cx : Cp) (e1 : Sh) (xs : List Int) (hclx : lx ≤ cx.fst) (hzlx : List.length xs = cx.fst) (hllx : lx ≤ 200) (i : Nat) (hi : lx = i + 1) (hr : ∀ (j : Nat), j < lx → rng (List.getD xs j 0)) (hb0 : -1152921504606846976 < byy) (hb : 1152921504606846976 ≤ byy) :
    evCall Try.prog 0 (bodied Try.prog) over4 sbs 1000 20 5 [VI w, VI b, VI more, VN, aX lx cx, VI byy] { n := 1, objs := [oX xs e1] } = some (VT, { n := 1, objs := [AObj.cells (i64s xs) e1.fst (e1.snd.fst + 4) e1.snd.snd] }, []) :=
  Dg.evCall_hint (hs' := []) (hs := [Hint.val 5 38 (VF),
    Hint.call 8 (VT) { n := 0, objs := [] } [],
    Hint.val 5 53 (VT),
    Hint.val 5 59 (VF),
    Hint.val 5 53 (VT),
    Hint.loop 5 (Ex.exit 2) (G5e w b more byy (VN) (aX lx cx) (aX lx cx) (VI (List.getD xs i 0)) 1 1 lx lx [oX xs e1]),
    Hint.val 5 53 (VT),
    Hint.val 5 59 (VT),
    Hint.val 5 63 (VF),
    Hint.val 5 66 (VT),
    Hint.call 8 (VT) { n := 0, objs := [] } []])
    [Value.bool (decide ((↑lx : Int) > (200 : Int))) = VF,
    evCall Try.prog 0 (bodied Try.prog) over4 sbs 1000 19 8 [] { n := 0, objs := [] } = some (VT, { n := 0, objs := [] }, []),
    VT = VT,
    VF = VF,
    VT = VT,
    evLoop (run5K 1 lI5 kO5) (cl5K 1 lI5 kO5) 1000 { ts := ([VI w, VI b, VI more, VN, VC 0 cx.2 lx cx.fst, VI byy] ++ (us 6 ++ ([VF, VN, VN, VN, undef, VC 0 cx.2 lx cx.fst] ++ (us 14 ++ (js 18 ++ ([Value.slice (some { block := 1, off := 0 }) 3 3, VI 3, VI 1, VT, Value.pointer (some { block := 1, off := 1 }), VC 0 cx.2 lx cx.fst, VC 0 cx.2 lx cx.fst, VI (↑lx : Int), VI 0] ++ (js 153))))))), H := { n := 3, objs := [AObj.cells [VI byy, VI more] 2 4 1, AObj.cells [VN, VC 0 cx.2 lx cx.fst, Value.slice (some { block := 2, off := 0 }) 2 2] 22 0 1, AObj.cells (i64s xs) e1.fst (e1.snd.fst + 4) e1.snd.snd] }, log := [] } = some (Ex.exit 2, G5e w b more byy (VN) (aX lx cx) (aX lx cx) (VI (List.getD xs i 0)) 1 1 lx lx [oX xs e1]),
    VT = VT,
    VT = VT,
    Value.bool (decide (byy ≤ (-1152921504606846976 : Int))) = VF,
    Value.bool (decide (byy ≥ (1152921504606846976 : Int))) = VT,
    evCall Try.prog 0 (bodied Try.prog) over4 sbs 1000 19 8 [] { n := 0, objs := [] } = some (VT, { n := 0, objs := [] }, [])] (by kernel_rfl)
    ⟨Dg.vfalse (by omega), Dg.evCall_over (c8 _), rfl, rfl, rfl, okGNYu lx cx e1 xs w b more byy hllx hclx hzlx i hi hr (by kernel_rfl), rfl, rfl, Dg.vfalse (by omega), Dg.vtrue (by omega), Dg.evCall_over (c8 _), trivial⟩
--> m5NPbh
--< m5NPml
theorem m5NPml (w : Int) (b : Int) (more : Int) (byy : Int) (lx : Nat) (cx : Cp) (e1 : Sh) (xs : List Int) (hclx : lx ≤ cx.fst) (hzlx : List.length xs = cx.fst) (hllx : lx ≤ 200) (i : Nat) (hi : lx = i + 1) (hr : ∀ (j : Nat), j < lx → rng (List.getD xs j 0)) (hb0 : -1152921504606846976 < byy ∧ byy < 1152921504606846976) (hb : more ≤ -1152921504606846976) :
    evCall Try.prog 0 (bodied Try.prog) over4 sbs 1000 20 5 [VI w, VI b, VI more, VN, aX lx cx, VI byy] { n := 1, objs := [oX xs e1] } = some (VT, { n := 1, objs := [AObj.cells (i64s xs) e1.fst (e1.snd.fst + 4) e1.snd.snd] }, []) :=
  Dg.evCall_hint (hs' := []) (hs := [Hint.val 5 38 (VF),
    Hint.call 8 (VT) { n := 0, objs := [] } [],
    Hint.val 5 53 (VT),
    Hint.val 5 59 (VF),
    Hint.val 5 53 (VT),
    Hint.loop 5 (Ex.exit 2) (G5e w b more byy (VN) (aX lx cx) (aX lx cx) (VI (List.getD xs i 0)) 1 1 lx lx [oX xs e1]),
    Hint.val 5 53 (VT),
    Hint.val 5 59 (VT),
    Hint.val 5 63 (VF),
    Hint.val 5 66 (VF),
    Hint.val 5 63 (VT),
    Hint.call 8 (VT) { n := 0, objs := [] } []])
    [Value.bool (decide ((↑lx : Int) > (200 : Int))) = VF,
    evCall Try.prog 0 (bodied Try.prog) over4 sbs 1000 19 8 [] { n := 0, objs := [] } = some (VT, { n := 0, objs := [] }, []),
    VT = VT,
    VF = VF,
    VT = VT,
    evLoop (run5K 1 lI5 kO5) (cl5K 1 lI5 kO5) 1000 { ts := ([VI w, VI b, VI more, VN, VC 0 cx.2 lx cx.fst, VI byy] ++ (us 6 ++ ([VF, VN, VN, VN, undef, VC 0 cx.2 lx cx.fst] ++ (us 14 ++ (js 18 ++ ([Value.slice (some { block := 1, off := 0 }) 3 3, VI 3, VI 1, VT, Value.pointer (some { block := 1, off := 1 }), VC 0 cx.2 lx cx.fst, VC 0 cx.2 lx cx.fst, VI (↑lx : Int), VI 0] ++ (js 153))))))), H := { n := 3, objs := [AObj.cells [VI byy, VI more] 2 4 1, AObj.cells [VN, VC 0 cx.2 lx cx.fst, Value.slice (some { block := 2, off := 0 }) 2 2] 22 0 1, AObj.cells (i64s xs) e1.fst (e1.snd.fst + 4) e1.snd.snd] }, log := [] } = some (Ex.exit 2, G5e w b more byy (VN) (aX lx cx) (aX lx cx) (VI (List.getD xs i 0)) 1 1 lx lx [oX xs e1]),
    VT = VT,
    VT = VT,
    Value.bool (decide (byy ≤ (-1152921504606846976 : Int))) = VF,
    Value.bool (decide (byy ≥ (1152921504606846976 : Int))) = VF,
    Value.bool (decide (more ≤ (-1152921504606846976 : Int))) = VT,
    evCall Try.prog 0 (bodied Try.prog) over4 sbs 1000 19 8 [] { n := 0, objs := [] } = some (VT, { n := 0, objs := [] }, [])] (by kernel_rfl)
    ⟨Dg.vfalse (by omega), Dg.evCall_over (c8 _), rfl, rfl, rfl, okGNYu lx cx e1 xs w b more byy hllx hclx hzlx i hi hr (by kernel_rfl), rfl, rfl, Dg.vfalse (by omega), Dg.vfalse (by omega), Dg.vtrue (by omega), Dg.evCall_over (c8 _), trivial⟩
--> m5NPml
--< m5NPmh
theorem m5NPmh (w : Int) (b : Int) (more : Int) (byy : Int) (lx : Nat) (cx : Cp) (e1 : Sh) (xs : List Int) (hclx : lx ≤ cx.fst) (hzlx : List.length xs = cx.fst) (hllx : lx ≤ 200) (i : Nat) (hi : lx = i + 1) (hr : ∀ (j : Nat), j < lx → rng (List.getD xs j 0)) (hb0 : -1152921504606846976 < byy ∧ byy < 1152921504606846976) (hb1 : -1152921504606846976 < more) (hb : 1152921504606846976 ≤ more) :
    evCall Try.prog 0 (bodied Try.prog) over4 sbs 1000 20 5 [VI w, VI b, VI more, VN, aX lx cx, VI byy] { n := 1, objs := [oX xs e1] } = some (VT, { n := 1, objs := [AObj.cells (i64s xs) e1.fst (e1.snd.fst + 4) e1.snd.snd] }, []) :=
  Dg.evCall_hint (hs' := []) (hs := [Hint.val 5 38 (VF),
    Hint.call 8 (VT) { n := 0, objs := [] } [],
    Hint.val 5 53 (VT),
    Hint.val 5 59 (VF),
    Hint.val 5 53 (VT),
    Hint.loop 5 (Ex.exit 2) (G5e w b more byy (VN) (aX lx cx) (aX lx cx) (VI (List.getD xs i 0)) 1 1 lx lx [oX xs e1]),
    Hint.val 5 53 (VT),
    Hint.val 5 59 (VT),
    Hint.val 5 63 (VF),
    Hint.val 5 66 (VF),
    Hint.val 5 63 (VF),
    Hint.val 5 66 (VT),
    Hint.call 8 (VT) { n := 0, objs := [] } []])
    [Value.bool (decide ((↑lx : Int) > (200 : Int))) = VF,
    evCall Try.prog 0 (bodied Try.prog) over4 sbs 1000 19 8 [] { n := 0, objs := [] } = some (VT, { n := 0, objs := [] }, []),
    VT = VT,
    VF = VF,
    VT = VT,
    evLoop (run5K 1 lI5 kO5) (cl5K 1 lI5 kO5) 1000 { ts := ([VI w, VI b, VI more, VN, VC 0 cx.2 lx cx.fst, VI byy] ++ (us 6 ++ ([VF, VN, VN, VN, undef, VC 0 cx.2 lx cx.fst] ++ (us 14 ++ (js 18 ++ ([Value.slice (some { block := 1, off := 0 }) 3 3, VI 3, VI 1, VT, Value.pointer (some { block := 1, off := 1 }), VC 0 cx.2 lx cx.fst, VC 0 cx.2 lx cx.fst, VI (↑lx : Int), VI 0] ++ (js 153))))))), H := { n := 3, objs := [AObj.cells [VI byy, VI more] 2 4 1, AObj.cells [VN, VC 0 cx.2 lx cx.fst, Value.slice (some { block := 2, off := 0 }) 2 2] 22 0 1, AObj.cells (i64s xs) e1.fst (e1.snd.fst + 4) e1.snd.snd] }, log := [] } = some (Ex.exit 2, G5e w b more byy (VN) (aX lx cx) (aX lx cx) (VI (List.getD xs i 0)) 1 1 lx lx [oX xs e1]),
    VT = VT,
    VT = VT,
    Value.bool (decide (byy ≤ (-1152921504606846976 : Int))) = VF,
    Value.bool (decide (byy ≥ (1152921504606846976 : Int))) = VF,
    Value.bool (decide (more ≤ (-1152921504606846976 : Int))) = VF,
    Value.bool (decide (more ≥ (1152921504606846976 : Int))) = VT,
    evCall Try.prog 0 (bodied Try.prog) over4 sbs 1000 19 8 [] { n := 0, objs := [] } = some (VT, { n := 0, objs := [] }, [])] (by kernel_rfl)
    ⟨Dg.vfalse (by omega), Dg.evCall_over (c8 _), rfl, rfl, rfl, okGNYu lx cx e1 xs w b more byy hllx hclx hzlx i hi hr (by kernel_rfl), rfl, rfl, Dg.vfalse (by omega), Dg.vfalse (by omega), Dg.vfalse (by omega), Dg.vtrue (by omega), Dg.evCall_over (c8 _), trivial⟩
--> m5NPmh
--< m5NEbl
theorem m5NEbl (w : Int) (b : Int) (more : Int) (byy : Int) (cx : Cp) (e1 : Sh) (xs : List Int) (hclx : 0 ≤ cx.fst) (hzlx : List.length xs = cx.fst) (hb : byy ≤ -1152921504606846976) :
    evCall Try.prog 0 (bodied Try.prog) over4 sbs 1000 20 5 [VI w, VI b, VI more, VN, aX 0 cx, VI byy] { n := 1, objs := [oX xs e1] } = some (VT, { n := 1, objs := [AObj.cells (i64s xs) e1.fst (e1.snd.fst + 4) e1.snd.snd] }, []) :=
  Dg.evCall_hint (hs' := []) (hs := [Hint.call 8 (VT) { n := 0, objs := [] } [],
    Hint.val 5 53 (VT),
    Hint.val 5 59 (VF),
    Hint.val 5 53 (VT),
    Hint.val 5 59 (VF),
    Hint.val 5 53 (VT),
    Hint.val 5 59 (VT),
    Hint.val 5 63 (VT),
    Hint.call 8 (VT) { n := 0, objs := [] } []])
    [evCall Try.prog 0 (bodied Try.prog) over4 sbs 1000 19 8 [] { n := 0, objs := [] } = some (VT, { n := 0, objs := [] }, []),
    VT = VT,
    VF = VF,
    VT = VT,
    VF = VF,
    VT = VT,
    VT = VT,
    Value.bool (decide (byy ≤ (-1152921504606846976 : Int))) = VT,
    evCall Try.prog 0 (bodied Try.prog) over4 sbs 1000 19 8 [] { n := 0, objs := [] } = some (VT, { n := 0, objs := [] }, [])] (by kernel_rfl)
    ⟨Dg.evCall_over (c8 _), rfl, rfl, rfl, rfl, rfl, rfl, Dg.vtrue (by omega), Dg.evCall_over (c8 _), trivial⟩
--> m5NEbl
--< m5NEbh
theorem m5NEbh (w : Int) (b : Int) (more : Int) (byy : Int) (cx : Cp) (e1 : Sh) (xs : List Int) (hclx : 0 ≤ cx.fst) (hzlx : List.length xs = cx.fst) (hb0 : -1152921504606846976 < byy) (hb : 1152921504606846976 ≤ byy) :
    evCall Try.prog 0 (bodied Try.prog) over4 sbs 1000 20 5 [VI w, VI b, VI more, VN, aX 0 cx, VI byy] { n := 1, objs := [oX xs e1] } = some (VT, { n := 1, objs := [AObj.cells (i64s xs) e1.fst (e1.snd.fst + 4) e1.snd.snd] }, []) :=
  Dg.evCall_hint (hs' := []) (hs := [Hint.call 8 (VT) { n := 0, objs := [] } [],
    Hint.val 5 53 (VT),
    Hint.val 5 59 (VF),
    Hint.val 5 53 (VT),
    Hint.val 5 59 (VF),
    Hint.val 5 53 (VT),
    Hint.val 5 59 (VT),
    Hint.val 5 63 (VF),
    Hint.val 5 66 (VT),
    Hint.call 8 (VT) { n := 0, objs := [] } []])
    [evCall Try.prog 0 (bodied Try.prog) over4 sbs 1000 19 8 [] { n := 0, objs := [] } = some (VT, { n := 0, objs := [] }, []),
    VT = VT,
    VF = VF,
    VT = VT,
    VF = VF,
    VT = VT,
    VT = VT,
    Value.bool (decide (byy ≤ (-1152921504606846976 : Int))) = VF,
    Value.bool (decide (byy ≥ (1152921504606846976 : Int))) = VT,
    evCall Try.prog 0 (bodied Try.prog) over4 sbs 1000 19 8 [] { n := 0, objs := [] } = some (VT, { n := 0, objs := [] }, [])] (by kernel_rfl)
    ⟨Dg.evCall_over (c8 _), rfl, rfl, rfl, rfl, rfl, rfl, Dg.vfalse (by omega), Dg.vtrue (by omega), Dg.evCall_over (c8 _), trivial⟩
--> m5NEbh
--< m5NEml
theorem m5NEml (w : Int) (b : Int) (more : Int) (byy : Int) (cx : Cp) (e1 : Sh) (xs : List Int) (hclx : 0 ≤ cx.fst) (hzlx : List.length xs = cx.fst) (hb0 : -1152921504606846976 < byy ∧ byy < 1152921504606846976) (hb : more ≤ -1152921504606846976) :
    evCall Try.prog 0 (bodied Try.prog) over4 sbs 1000 20 5 [VI w, VI b, VI more, VN, aX 0 cx, VI byy] { n := 1, objs := [oX xs e1] } = some (VT, { n := 1, objs := [AObj.cells (i64s xs) e1.fst (e1.snd.fst + 4) e1.snd.snd] }, []) :=
  Dg.evCall_hint (hs' := []) (hs := [Hint.call 8 (VT) { n := 0, objs := [] } [],
    Hint.val 5 53 (VT),
    Hint.val 5 59 (VF),
    Hint.val 5 53 (VT),
    Hint.val 5 59 (VF),
    Hint.val 5 53 (VT),
    Hint.val 5 59 (VT),
    Hint.val 5 63 (VF),
    Hint.val 5 66 (VF),
    Hint.val 5 63 (VT),
    Hint.call 8 (VT) { n := 0, objs := [] } []])
    [evCall Try.prog 0 (bodied Try.prog) over4 sbs 1000 19 8 [] { n := 0, objs := [] } = some (VT, { n := 0, objs := [] }, []),
    VT = VT,
    VF = VF,
    VT = VT,
    VF = VF,
    VT = VT,
    VT = VT,
    Value.bool (decide (byy ≤ (-1152921504606846976 : Int))) = VF,
    Value.bool (decide (byy ≥ (1152921504606846976 : Int))) = VF,
    Value.bool (decide (more ≤ (-1152921504606846976 : Int))) = VT,
    evCall Try.prog 0 (bodied Try.prog) over4 sbs 1000 19 8 [] { n := 0, objs := [] } = some (VT, { n := 0, objs := [] }, [])] (by kernel_rfl)
    ⟨Dg.evCall_over (c8 _), rfl, rfl, rfl, rfl, rfl, rfl, Dg.vfalse (by omega), Dg.vfalse (by omega), Dg.vtrue (by omega), Dg.evCall_over (c8 _), trivial⟩
--> m5NEml
--< m5NEmh
theorem m5NEmh (w : Int) (b : Int) (more : Int) (byy : Int) (cx : Cp) (e1 : Sh) (xs : List Int) (hclx : 0 ≤ cx.fst) (hzlx : List.length xs = cx.fst) (hb0 : -1152921504606846976 < byy ∧ byy < 1152921504606846976) (hb1 : -1152921504606846976 < more) (hb : 1152921504606846976 ≤ more) :
    evCall Try.prog 0 (bodied Try.prog) over4 sbs 1000 20 5 [VI w, VI b, VI more, VN, aX 0 cx, VI byy] { n := 1, objs := [oX xs e1] } = some (VT, { n := 1, objs := [AObj.cells (i64s xs) e1.fst (e1.snd.fst + 4) e1.snd.snd] }, []) :=
  Dg.evCall_hint (hs' := []) (hs := [Hint.call 8 (VT) { n := 0, objs := [] } [],
    Hint.val 5 53 (VT),
    Hint.val 5 59 (VF),
    Hint.val 5 53 (VT),
    Hint.val 5 59 (VF),
    Hint.val 5 53 (VT),
    Hint.val 5 59 (VT),
    Hint.val 5 63 (VF),
    Hint.val 5 66 (VF),
    Hint.val 5 63 (VF),
    Hint.val 5 66 (VT),
    Hint.call 8 (VT) { n := 0, objs := [] } []])
    [evCall Try.prog 0 (bodied Try.prog) over4 sbs 1000 19 8 [] { n := 0, objs := [] } = some (VT, { n := 0, objs := [] }, []),
    VT = VT,
    VF = VF,
    VT = VT,
    VF = VF,
    VT = VT,
    VT = VT,
    Value.bool (decide (byy ≤ (-1152921504606846976 : Int))) = VF,
    Value.bool (decide (byy ≥ (1152921504606846976 : Int))) = VF,
    Value.bool (decide (more ≤ (-1152921504606846976 : Int))) = VF,
    Value.bool (decide (more ≥ (1152921504606846976 : Int))) = VT,
    evCall Try.prog 0 (bodied Try.prog) over4 sbs 1000 19 8 [] { n := 0, objs := [] } = some (VT, { n := 0, objs := [] }, [])] (by kernel_rfl)
    ⟨Dg.evCall_over (c8 _), rfl, rfl, rfl, rfl, rfl, rfl, Dg.vfalse (by omega), Dg.vfalse (by omega), Dg.vfalse (by omega), Dg.vtrue (by omega), Dg.evCall_over (c8 _), trivial⟩
--> m5NEmh
--< m5NNbl
theorem m5NNbl (w : Int) (b : Int) (more : Int) (byy : Int) (hb : byy ≤ -1152921504606846976) :
    evCall Try.prog 0 (bodied Try.prog) over4 sbs 1000 20 5 [VI w, VI b, VI more, VN, VN, VI byy] { n := 0, objs := [] } = some (VT, { n := 0, objs := [] }, []) :=
  Dg.evCall_hint (hs' := []) (hs := [Hint.call 8 (VT) { n := 0, objs := [] } [],
    Hint.val 5 53 (VT),
    Hint.val 5 59 (VF),
    Hint.val 5 53 (VT),
    Hint.val 5 59 (VF),
    Hint.val 5 53 (VT),
    Hint.val 5 59 (VT),
    Hint.val 5 63 (VT),
    Hint.call 8 (VT) { n := 0, objs := [] } []])
    [evCall Try.prog 0 (bodied Try.prog) over4 sbs 1000 19 8 [] { n := 0, objs := [] } = some (VT, { n := 0, objs := [] }, []),
    VT = VT,
    VF = VF,
    VT = VT,
    VF = VF,
    VT = VT,
    VT = VT,
    Value.bool (decide (byy ≤ (-1152921504606846976 : Int))) = VT,
    evCall Try.prog 0 (bodied Try.prog) over4 sbs 1000 19 8 [] { n := 0, objs := [] } = some (VT, { n := 0, objs := [] }, [])] (by kernel_rfl)
    ⟨Dg.evCall_over (c8 _), rfl, rfl, rfl, rfl, rfl, rfl, Dg.vtrue (by omega), Dg.evCall_over (c8 _), trivial⟩
--> m5NNbl
--< m5NNbh
theorem m5NNbh (w : Int) (b : Int) (more : Int) (byy : Int) (hb0 : -1152921504606846976 < byy) (hb : 1152921504606846976 ≤ byy) :
    evCall Try.prog 0 (bodied Try.prog) over4 sbs 1000 20 5 [VI w, VI b, VI more, VN, VN, VI byy] { n := 0, objs := [] } = some (VT, { n := 0, objs := [] }, []) :=
  Dg.evCall_hint (hs' := []) (hs := [Hint.call 8 (VT) { n := 0, objs := [] } [],
    Hint.val 5 53 (VT),
    Hint.val 5 59 (VF),
    Hint.val 5 53 (VT),
    Hint.val 5 59 (VF),
    Hint.val 5 53 (VT),
    Hint.val 5 59 (VT),
    Hint.val 5 63 (VF),
    Hint.val 5 66 (VT),
    Hint.call 8 (VT) { n := 0, objs := [] } []])
    [evCall Try.prog 0 (bodied Try.prog) over4 sbs 1000 19 8 [] { n := 0, objs := [] } = some (VT, { n := 0, objs := [] }, []),
    VT = VT,
    VF = VF,
    VT = VT,
    VF = VF,
    VT = VT,
    VT = VT,
    Value.bool (decide (byy ≤ (-1152921504606846976 : Int))) = VF,
    Value.bool (decide (byy ≥ (1152921504606846976 : Int))) = VT,
    evCall Try.prog 0 (bodied Try.prog) over4 sbs 1000 19 8 [] { n := 0, objs := [] } = some (VT, { n := 0, objs := [] }, [])] (by kernel_rfl)
    ⟨Dg.evCall_over (c8 _), rfl, rfl, rfl, rfl, rfl, rfl, Dg.vfalse (by omega), Dg.vtrue (by omega), Dg.evCall_over (c8 _), trivial⟩
--> m5NNbh
--< m5NNml
theorem m5NNml (w : Int) (b : Int) (more : Int) (byy : Int) (hb0 : -1152921504606846976 < byy ∧ byy < 1152921504606846976) (hb : more ≤ -1152921504606846976) :
    evCall Try.prog 0 (bodied Try.prog) over4 sbs 1000 20 5 [VI w, VI b, VI more, VN, VN, VI byy] { n := 0, objs := [] } = some (VT, { n := 0, objs := [] }, []) :=
  Dg.evCall_hint (hs' := []) (hs := [Hint.call 8 (VT) { n := 0, objs := [] } [],
    Hint.val 5 53 (VT),
    Hint.val 5 59 (VF),
    Hint.val 5 53 (VT),
    Hint.val 5 59 (VF),
    Hint.val 5 53 (VT),
    Hint.val 5 59 (VT),
    Hint.val 5 63 (VF),
    Hint.val 5 66 (VF),
    Hint.val 5 63 (VT),
    Hint.call 8 (VT) { n := 0, objs := [] } []])
    [evCall Try.prog 0 (bodied Try.prog) over4 sbs 1000 19 8 [] { n := 0, objs := [] } = some (VT, { n := 0, objs := [] }, []),
    VT = VT,
    VF = VF,
    VT = VT,
    VF = VF,
    VT = VT,
    VT = VT,
    Value.bool (decide (byy ≤ (-1152921504606846976 : Int))) = VF,
    Value.bool (decide (byy ≥ (1152921504606846976 : Int))) = VF,
    Value.bool (decide (more ≤ (-1152921504606846976 : Int))) = VT,
    evCall Try.prog 0 (bodied Try.prog) over4 sbs 1000 19 8 [] { n := 0, objs := [] } = some (VT, { n := 0, objs := [] }, [])] (by kernel_rfl)
    ⟨Dg.evCall_over (c8 _), rfl, rfl, rfl, rfl, rfl, rfl, Dg.vfalse (by omega), Dg.vfalse (by omega), Dg.vtrue (by omega), Dg.evCall_over (c8 _), trivial⟩
--> m5NNml
--< m5NNmh
theorem m5NNmh (w : Int) (b : Int) (more : Int) (byy : Int) (hb0 : -1152921504606846976 < byy ∧ byy < 1152921504606846976) (hb1 : -1152921504606846976 < more) (hb : 1152921504606846976 ≤ more) :
    evCall Try.prog 0 (bodied Try.prog) over4 sbs 1000 20 5 [VI w, VI b, VI more, VN, VN, VI byy] { n := 0, objs := [] } = some (VT, { n := 0, objs := [] }, []) :=
  Dg.evCall_hint (hs' := []) (hs := [Hint.call 8 (VT) { n := 0, objs := [] } [],
    Hint.val 5 53 (VT),
    Hint.val 5 59 (VF),
    Hint.val 5 53 (VT),
    Hint.val 5 59 (VF),
    Hint.val 5 53 (VT),
    Hint.val 5 59 (VT),
    Hint.val 5 63 (VF),
    Hint.val 5 66 (VF),
    Hint.val 5 63 (VF),
    Hint.val 5 66 (VT),
    Hint.call 8 (VT) { n := 0, objs := [] } []])
    [evCall Try.prog 0 (bodied Try.prog) over4 sbs 1000 19 8 [] { n := 0, objs := [] } = some (VT, { n := 0, objs := [] }, []),
    VT = VT,
    VF = VF,
    VT = VT,
    VF = VF,
    VT = VT,
    VT = VT,
    Value.bool (decide (byy ≤ (-1152921504606846976 : Int))) = VF,
    Value.bool (decide (byy ≥ (1152921504606846976 : Int))) = VF,
    Value.bool (decide (more ≤ (-1152921504606846976 : Int))) = VF,
    Value.bool (decide (more ≥ (1152921504606846976 : Int))) = VT,
    evCall Try.prog 0 (bodied Try.prog) over4 sbs 1000 19 8 [] { n := 0, objs := [] } = some (VT, { n := 0, objs := [] }, [])] (by kernel_rfl)
    ⟨Dg.evCall_over (c8 _), rfl, rfl, rfl, rfl, rfl, rfl, Dg.vfalse (by omega), Dg.vfalse (by omega), Dg.vfalse (by omega), Dg.vtrue (by omega), Dg.evCall_over (c8 _), trivial⟩
--> m5NNmh
end Go.Proofs.Ytafhlmpifdclaaa.shift
