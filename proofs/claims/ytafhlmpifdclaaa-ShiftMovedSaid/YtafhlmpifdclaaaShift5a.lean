/- The rounds of the first loops of the law 'ShiftMoved' of layer 34. -/
import Derived.Test.YtafhlmpifdclaaaRows
import Derived.Test.YtafhlmpifdclaaaShift6a
namespace Go.Proofs.Ytafhlmpifdclaaa.shift
open Go.Dg (junk St Ex Ev Hint evCall evCallS evCode evCodeK innerKp evCodeS evLoop cleanSt ue bodied noOver sbOf headOf tailOf bodyOf rAssign rBody lBody Flats flatOver Heap AObj SCall Law ofLaw Fix)
set_option linter.unusedVariables false
set_option linter.unusedSimpArgs false

abbrev VI (n : Int) : Value := .int .i64 n
abbrev VT : Value := .bool true
abbrev VF : Value := .bool false
abbrev VN : Value := .slice none 0 0
abbrev VS (k l c : Nat) : Value := .slice (some ⟨k, 0, some 0⟩) l c
abbrev VC (k : Nat) (s : Option Nat) (l c : Nat) : Value := .slice (some ⟨k, 0, s⟩) l c
noncomputable def c5 : Code := (Try.f5.body).getD .skip
noncomputable def lO5 : Code := lBody c5
noncomputable def lI5 : Code := lBody lO5
noncomputable def kO5 : List Nat := innerKp lO5 []
noncomputable def lA5 : Code := lBody (behindL c5)
noncomputable def lB5 : Code := lBody (behindL (behindL c5))
noncomputable abbrev run5K (base : Nat) (l : Code) (kp : List Nat) : St → Option (Ex × St) := evCodeK Try.prog 0 (bodied Try.prog) (evCall Try.prog 0 (bodied Try.prog) over4 sbs 1000 19) base 32 1000 l (innerKp l kp)
noncomputable abbrev cl5K (base : Nat) (l : Code) (kp : List Nat) : St → St := cleanSt base 32 (ue l kp []).1
def us (n : Nat) : List Value := List.replicate n undef
section
variable (w b more byy : Int)
def BM5 : AObj := .cells [.int .i64 byy, .int .i64 more] 2 4 1
def SS5 (vx vy : Value) (p : Nat) : AObj := .cells [vx, vy, .slice (some ⟨p + 1, 0, none⟩) 2 2] 22 0 1
/-- The first 24 slots. -/
def P5 (vx vy : Value) (r : Bool) (mv sv tv l x x2 x3 : Value) : List Value := [.int .i64 w, .int .i64 b, .int .i64 more, vx, vy, .int .i64 byy] ++ (us 6 ++ [.bool r, mv, sv, tv, undef, l, undef, x, undef, x2, undef, x3])
def T5G (vx vy l x : Value) (r : Bool) (p j len i : Nat) (rest : List Value) : List Value := P5 w b more byy vx vy r (.slice none 0 0) (.slice none 0 0) (.slice none 0 0) l x undef undef ++ (us 8 ++ (js 18 ++ ([.slice (some ⟨p, 0, none⟩) 3 3, .int .i64 3, .int .i64 j] ++ (js 3 ++ ([l, .int .i64 len, .int .i64 i] ++ rest)))))
/-- The heads within the guard: at number i of the list l. -/
def G5 (vx vy l x : Value) (p j len i : Nat) (r : List AObj) : St := ⟨T5G w b more byy vx vy l x false p j len i (js 153), ⟨p + 2, BM5 more byy :: SS5 vx vy p :: r⟩, []⟩
def G5e (vx vy l x : Value) (p j len i : Nat) (r : List AObj) : St := ⟨T5G w b more byy vx vy l x false p j len i (.bool false :: js 152), ⟨p + 2, BM5 more byy :: SS5 vx vy p :: r⟩, []⟩
def G5lo (vx vy l : Value) (x : Int) (k : Nat) (p j len i : Nat) (r : List AObj) : St := ⟨T5G w b more byy vx vy l (.int .i64 x) true p j len i ([.bool true, .pointer (some ⟨k, i, none⟩), .int .i64 x, .int .i64 x, .bool true, .bool true, undef, undef, .bool true, .bool true] ++ js 143), ⟨p + 2, BM5 more byy :: SS5 vx vy p :: r⟩, []⟩
def G5hi (vx vy l : Value) (x : Int) (k : Nat) (p j len i : Nat) (r : List AObj) : St := ⟨T5G w b more byy vx vy l (.int .i64 x) true p j len i ([.bool true, .pointer (some ⟨k, i, none⟩), .int .i64 x, .int .i64 x, .bool false, .bool false, .int .i64 x, .bool true, .bool true, .bool true] ++ js 143), ⟨p + 2, BM5 more byy :: SS5 vx vy p :: r⟩, []⟩
def sv5 (k n : Nat) : Value := .slice (some ⟨k, 0, some 0⟩) n n
def bmv (k : Nat) : Value := .slice (some ⟨k, 0, none⟩) 2 2
def T5A (vx vy mv tv x2 : Value) (q len i : Nat) (rest : List Value) : List Value := P5 w b more byy vx vy false mv (.slice none 0 0) tv (bmv q) (.int .i64 more) x2 undef ++ (us 8 ++ (js 39 ++ ([vx, .int .i64 len, .int .i64 i] ++ rest)))
def A5a (vx vy : Value) (p len : Nat) (r : List AObj) : St := ⟨T5A w b more byy vx vy (.slice none 0 0) (.slice none 0 0) undef p len 0 (js 138), ⟨p + 1, BM5 more byy :: r⟩, []⟩
def A5b (vx vy : Value) (x : Int) (ms ts : List Int) (p len i : Nat) (r : List AObj) : St := ⟨T5A w b more byy vx vy (sv5 p ms.length) (sv5 (p + 1) ts.length) (.int .i64 x) (p + 2) len i (js 138), ⟨p + 3, BM5 more byy :: rowI ts :: rowI ms :: r⟩, []⟩
def A5e (vx vy : Value) (x : Int) (ms ts : List Int) (p len i : Nat) (r : List AObj) : St := ⟨T5A w b more byy vx vy (sv5 p ms.length) (sv5 (p + 1) ts.length) (.int .i64 x) (p + 2) len i (.bool false :: js 137), ⟨p + 3, BM5 more byy :: rowI ts :: rowI ms :: r⟩, []⟩
def T5B (vx vy mv sv tv x2 x3 : Value) (q len i : Nat) (rest : List Value) : List Value := P5 w b more byy vx vy false mv sv tv (bmv q) (.int .i64 more) x2 x3 ++ (us 8 ++ (js 57 ++ ([vy, .int .i64 len, .int .i64 i] ++ rest)))
/-- 'm': where something was moved; 'z': where nothing was. -/
def Bm5a (vx vy : Value) (x : Int) (ms ts : List Int) (p len : Nat) (r : List AObj) : St := ⟨T5B w b more byy vx vy (sv5 p ms.length) (.slice none 0 0) (sv5 (p + 1) ts.length) (.int .i64 x) undef (p + 2) len 0 (js 120), ⟨p + 3, BM5 more byy :: rowI ts :: rowI ms :: r⟩, []⟩
def Bm5b (vx vy : Value) (x y : Int) (ms ss ts : List Int) (p len i : Nat) (r : List AObj) : St := ⟨T5B w b more byy vx vy (sv5 p ms.length) (sv5 (p + 1) ss.length) (sv5 (p + 2) ts.length) (.int .i64 x) (.int .i64 y) (p + 3) len i (js 120), ⟨p + 4, BM5 more byy :: rowI ts :: rowI ss :: rowI ms :: r⟩, []⟩
def Bm5e (vx vy : Value) (x y : Int) (ms ss ts : List Int) (p len i : Nat) (r : List AObj) : St := ⟨T5B w b more byy vx vy (sv5 p ms.length) (sv5 (p + 1) ss.length) (sv5 (p + 2) ts.length) (.int .i64 x) (.int .i64 y) (p + 3) len i (.bool false :: js 119), ⟨p + 4, BM5 more byy :: rowI ts :: rowI ss :: rowI ms :: r⟩, []⟩
def Bz5a (vx vy : Value) (p len : Nat) (r : List AObj) : St := ⟨T5B w b more byy vx vy (.slice none 0 0) (.slice none 0 0) (.slice none 0 0) undef undef p len 0 (js 120), ⟨p + 1, BM5 more byy :: r⟩, []⟩
def Bz5b (vx vy : Value) (y : Int) (ss : List Int) (p len i : Nat) (r : List AObj) : St := ⟨T5B w b more byy vx vy (.slice none 0 0) (sv5 p ss.length) (.slice none 0 0) undef (.int .i64 y) (p + 1) len i (js 120), ⟨p + 2, BM5 more byy :: rowI ss :: r⟩, []⟩
def Bz5e (vx vy : Value) (y : Int) (ss : List Int) (p len i : Nat) (r : List AObj) : St := ⟨T5B w b more byy vx vy (.slice none 0 0) (sv5 p ss.length) (.slice none 0 0) undef (.int .i64 y) (p + 1) len i (.bool false :: js 119), ⟨p + 2, BM5 more byy :: rowI ss :: r⟩, []⟩
end
--< g5X0
theorem g5X0 (lx : Nat) (cx : Cp) (ly : Nat) (cy : Cp) (e1 : Sh) (e2 : Sh) (xs : List Int) (ys : List Int) (w : Int) (b : Int) (more : Int) (byy : Int) (hi : 0 < lx) (hl : lx ≤ 200) (hc : lx ≤ cx.fst) (hzl : List.length xs = cx.fst) (hr : -1152921504606846976 < List.getD xs 0 0 ∧ List.getD xs 0 0 < 1152921504606846976) :
    ∃ s', run5K 2 lI5 kO5 (G5 w b more byy (aX lx cx) (aY ly cy) (aX lx cx) undef 2 0 lx 0 [oY ys e2, oX xs e1]) = some (Ex.normal, s') ∧ (cl5K 2 lI5 kO5) s' = G5 w b more byy (aX lx cx) (aY ly cy) (aX lx cx) (VI (List.getD xs 0 0)) 2 0 lx 1 [oY ys e2, oX xs e1] :=
  Dg.code_round (f := 5) (cl5K 2 lI5 kO5) (hs := [Hint.val 5 59 (VT),
    Hint.soft 5 60 (Value.pointer (some { block := 0, off := 0 })),
    Hint.soft 5 61 (VI (List.getD xs 0 0)),
    Hint.val 5 63 (VF),
    Hint.val 5 66 (VF)])
    [Value.bool (decide ((↑(0 : Nat) : Int) < (↑lx : Int))) = VT,
    (0 : Int) ≤ (↑(0 : Nat) : Int) ∧ (↑(0 : Nat) : Int) < (↑lx : Int),
    Value.pointer (some { block := (0 : Nat), off := (0 : Nat) }) = Value.pointer (some { block := (0 : Nat), off := (0 : Nat) }),
    (i64s xs)[(0 : Nat)]? = some (VI (List.getD xs (0 : Nat) (0 : Int))),
    Value.bool (decide (List.getD xs (0 : Nat) (0 : Int) ≤ (-1152921504606846976 : Int))) = VF,
    Value.bool (decide (List.getD xs (0 : Nat) (0 : Int) ≥ (1152921504606846976 : Int))) = VF] (by kernel_rfl)
    ⟨Dg.vtrue (by omega), by omega, rfl, i64_load xs 0 (by omega), Dg.vfalse (by omega), Dg.vfalse (by omega), trivial⟩
--> g5X0
--< g5Xlo0
theorem g5Xlo0 (lx : Nat) (cx : Cp) (ly : Nat) (cy : Cp) (e1 : Sh) (e2 : Sh) (xs : List Int) (ys : List Int) (w : Int) (b : Int) (more : Int) (byy : Int) (hi : 0 < lx) (hl : lx ≤ 200) (hc : lx ≤ cx.fst) (hzl : List.length xs = cx.fst) (hr : List.getD xs 0 0 ≤ -1152921504606846976) :
    run5K 2 lI5 kO5 (G5 w b more byy (aX lx cx) (aY ly cy) (aX lx cx) undef 2 0 lx 0 [oY ys e2, oX xs e1]) = some (Ex.ret, ({ ts := ([VI w, VI b, VI more, VC 0 cx.2 lx cx.fst, VC 1 cy.2 ly cy.fst, VI byy] ++ (us 6 ++ ([VT, VN, VN, VN, undef, VC 0 cx.2 lx cx.fst, undef, VI (List.getD xs 0 0)] ++ (us 12 ++ (js 18 ++ ([Value.slice (some { block := 2, off := 0 }) 3 3, VI 3, VI 0, junk, junk, junk, VC 0 cx.2 lx cx.fst, VI (↑lx : Int), VI 0, VT, Value.pointer (some { block := 0, off := 0 }), VI (List.getD xs 0 0), VI (List.getD xs 0 0), VT, VT, undef, undef, VT, VT] ++ (js 143))))))), H := { n := 4, objs := [AObj.cells [VI byy, VI more] 2 4 1, AObj.cells [VC 0 cx.2 lx cx.fst, VC 1 cy.2 ly cy.fst, Value.slice (some { block := 3, off := 0 }) 2 2] 22 0 1, AObj.cells (i64s ys) e2.fst (e2.snd.fst + 4) e2.snd.snd, AObj.cells (i64s xs) e1.fst (e1.snd.fst + 4) e1.snd.snd] }, log := [] } : St)) :=
  Dg.evCode_hint (f := 5) (hs' := []) (hs := [Hint.val 5 59 (VT),
    Hint.soft 5 60 (Value.pointer (some { block := 0, off := 0 })),
    Hint.soft 5 61 (VI (List.getD xs 0 0)),
    Hint.val 5 63 (VT),
    Hint.call 8 (VT) { n := 0, objs := [] } []])
    [Value.bool (decide ((↑(0 : Nat) : Int) < (↑lx : Int))) = VT,
    (0 : Int) ≤ (↑(0 : Nat) : Int) ∧ (↑(0 : Nat) : Int) < (↑lx : Int),
    Value.pointer (some { block := (0 : Nat), off := (0 : Nat) }) = Value.pointer (some { block := (0 : Nat), off := (0 : Nat) }),
    (i64s xs)[(0 : Nat)]? = some (VI (List.getD xs (0 : Nat) (0 : Int))),
    Value.bool (decide (List.getD xs (0 : Nat) (0 : Int) ≤ (-1152921504606846976 : Int))) = VT,
    evCall Try.prog 0 (bodied Try.prog) over4 sbs 1000 19 8 [] { n := 0, objs := [] } = some (VT, { n := 0, objs := [] }, [])] (by kernel_rfl)
    ⟨Dg.vtrue (by omega), by omega, rfl, i64_load xs 0 (by omega), Dg.vtrue (by omega), Dg.evCall_over (c8 _), trivial⟩
--> g5Xlo0
--< g5Xhi0
theorem g5Xhi0 (lx : Nat) (cx : Cp) (ly : Nat) (cy : Cp) (e1 : Sh) (e2 : Sh) (xs : List Int) (ys : List Int) (w : Int) (b : Int) (more : Int) (byy : Int) (hi : 0 < lx) (hl : lx ≤ 200) (hc : lx ≤ cx.fst) (hzl : List.length xs = cx.fst) (hr0 : -1152921504606846976 < List.getD xs 0 0) (hr : 1152921504606846976 ≤ List.getD xs 0 0) :
    run5K 2 lI5 kO5 (G5 w b more byy (aX lx cx) (aY ly cy) (aX lx cx) undef 2 0 lx 0 [oY ys e2, oX xs e1]) = some (Ex.ret, ({ ts := ([VI w, VI b, VI more, VC 0 cx.2 lx cx.fst, VC 1 cy.2 ly cy.fst, VI byy] ++ (us 6 ++ ([VT, VN, VN, VN, undef, VC 0 cx.2 lx cx.fst, undef, VI (List.getD xs 0 0)] ++ (us 12 ++ (js 18 ++ ([Value.slice (some { block := 2, off := 0 }) 3 3, VI 3, VI 0, junk, junk, junk, VC 0 cx.2 lx cx.fst, VI (↑lx : Int), VI 0, VT, Value.pointer (some { block := 0, off := 0 }), VI (List.getD xs 0 0), VI (List.getD xs 0 0), VF, VF, VI (List.getD xs 0 0), VT, VT, VT] ++ (js 143))))))), H := { n := 4, objs := [AObj.cells [VI byy, VI more] 2 4 1, AObj.cells [VC 0 cx.2 lx cx.fst, VC 1 cy.2 ly cy.fst, Value.slice (some { block := 3, off := 0 }) 2 2] 22 0 1, AObj.cells (i64s ys) e2.fst (e2.snd.fst + 4) e2.snd.snd, AObj.cells (i64s xs) e1.fst (e1.snd.fst + 4) e1.snd.snd] }, log := [] } : St)) :=
  Dg.evCode_hint (f := 5) (hs' := []) (hs := [Hint.val 5 59 (VT),
    Hint.soft 5 60 (Value.pointer (some { block := 0, off := 0 })),
    Hint.soft 5 61 (VI (List.getD xs 0 0)),
    Hint.val 5 63 (VF),
    Hint.val 5 66 (VT),
    Hint.call 8 (VT) { n := 0, objs := [] } []])
    [Value.bool (decide ((↑(0 : Nat) : Int) < (↑lx : Int))) = VT,
    (0 : Int) ≤ (↑(0 : Nat) : Int) ∧ (↑(0 : Nat) : Int) < (↑lx : Int),
    Value.pointer (some { block := (0 : Nat), off := (0 : Nat) }) = Value.pointer (some { block := (0 : Nat), off := (0 : Nat) }),
    (i64s xs)[(0 : Nat)]? = some (VI (List.getD xs (0 : Nat) (0 : Int))),
    Value.bool (decide (List.getD xs (0 : Nat) (0 : Int) ≤ (-1152921504606846976 : Int))) = VF,
    Value.bool (decide (List.getD xs (0 : Nat) (0 : Int) ≥ (1152921504606846976 : Int))) = VT,
    evCall Try.prog 0 (bodied Try.prog) over4 sbs 1000 19 8 [] { n := 0, objs := [] } = some (VT, { n := 0, objs := [] }, [])] (by kernel_rfl)
    ⟨Dg.vtrue (by omega), by omega, rfl, i64_load xs 0 (by omega), Dg.vfalse (by omega), Dg.vtrue (by omega), Dg.evCall_over (c8 _), trivial⟩
--> g5Xhi0
--< g5X1
theorem g5X1 (lx : Nat) (cx : Cp) (ly : Nat) (cy : Cp) (e1 : Sh) (e2 : Sh) (xs : List Int) (ys : List Int) (w : Int) (b : Int) (more : Int) (byy : Int) (i : Nat) (x0 : Int) (hi : i < lx) (hl : lx ≤ 200) (hc : lx ≤ cx.fst) (hzl : List.length xs = cx.fst) (hr : -1152921504606846976 < List.getD xs i 0 ∧ List.getD xs i 0 < 1152921504606846976) :
    ∃ s', run5K 2 lI5 kO5 (G5 w b more byy (aX lx cx) (aY ly cy) (aX lx cx) (VI x0) 2 0 lx i [oY ys e2, oX xs e1]) = some (Ex.normal, s') ∧ (cl5K 2 lI5 kO5) s' = G5 w b more byy (aX lx cx) (aY ly cy) (aX lx cx) (VI (List.getD xs i 0)) 2 0 lx (i + 1) [oY ys e2, oX xs e1] :=
  Dg.code_round (f := 5) (cl5K 2 lI5 kO5) (hs := [Hint.val 5 59 (VT),
    Hint.soft 5 60 (Value.pointer (some { block := 0, off := i })),
    Hint.soft 5 61 (VI (List.getD xs i 0)),
    Hint.val 5 63 (VF),
    Hint.val 5 66 (VF),
    Hint.val 5 69 (VI ((↑i : Int) + 1))])
    [Value.bool (decide ((↑i : Int) < (↑lx : Int))) = VT,
    (0 : Int) ≤ (↑i : Int) ∧ (↑i : Int) < (↑lx : Int),
    Value.pointer (some { block := (0 : Nat), off := (0 : Nat) + Int.toNat (↑i : Int) * (1 : Nat) }) = Value.pointer (some { block := (0 : Nat), off := i }),
    (i64s xs)[i]? = some (VI (List.getD xs i (0 : Int))),
    Value.bool (decide (List.getD xs i (0 : Int) ≤ (-1152921504606846976 : Int))) = VF,
    Value.bool (decide (List.getD xs i (0 : Int) ≥ (1152921504606846976 : Int))) = VF,
    VI (IntKind.wrap IntKind.i64 ((↑i : Int) + (1 : Int))) = VI ((↑i : Int) + (1 : Int))] (by kernel_rfl)
    ⟨Dg.vtrue (by omega), by omega, Dg.ptr_eq (by omega), i64_load xs i (by omega), Dg.vfalse (by omega), Dg.vfalse (by omega), Dg.i64_eq rfl (by omega) (by omega), trivial⟩
--> g5X1
--< g5Xlo1
theorem g5Xlo1 (lx : Nat) (cx : Cp) (ly : Nat) (cy : Cp) (e1 : Sh) (e2 : Sh) (xs : List Int) (ys : List Int) (w : Int) (b : Int) (more : Int) (byy : Int) (i : Nat) (x0 : Int) (hi : i < lx) (hl : lx ≤ 200) (hc : lx ≤ cx.fst) (hzl : List.length xs = cx.fst) (hr : List.getD xs i 0 ≤ -1152921504606846976) :
    run5K 2 lI5 kO5 (G5 w b more byy (aX lx cx) (aY ly cy) (aX lx cx) (VI x0) 2 0 lx i [oY ys e2, oX xs e1]) = some (Ex.ret, ({ ts := ([VI w, VI b, VI more, VC 0 cx.2 lx cx.fst, VC 1 cy.2 ly cy.fst, VI byy] ++ (us 6 ++ ([VT, VN, VN, VN, undef, VC 0 cx.2 lx cx.fst, undef, VI (List.getD xs i 0)] ++ (us 12 ++ (js 18 ++ ([Value.slice (some { block := 2, off := 0 }) 3 3, VI 3, VI 0, junk, junk, junk, VC 0 cx.2 lx cx.fst, VI (↑lx : Int), VI (↑i : Int), VT, Value.pointer (some { block := 0, off := i }), VI (List.getD xs i 0), VI (List.getD xs i 0), VT, VT, undef, undef, VT, VT] ++ (js 143))))))), H := { n := 4, objs := [AObj.cells [VI byy, VI more] 2 4 1, AObj.cells [VC 0 cx.2 lx cx.fst, VC 1 cy.2 ly cy.fst, Value.slice (some { block := 3, off := 0 }) 2 2] 22 0 1, AObj.cells (i64s ys) e2.fst (e2.snd.fst + 4) e2.snd.snd, AObj.cells (i64s xs) e1.fst (e1.snd.fst + 4) e1.snd.snd] }, log := [] } : St)) :=
  Dg.evCode_hint (f := 5) (hs' := []) (hs := [Hint.val 5 59 (VT),
    Hint.soft 5 60 (Value.pointer (some { block := 0, off := i })),
    Hint.soft 5 61 (VI (List.getD xs i 0)),
    Hint.val 5 63 (VT),
    Hint.call 8 (VT) { n := 0, objs := [] } []])
    [Value.bool (decide ((↑i : Int) < (↑lx : Int))) = VT,
    (0 : Int) ≤ (↑i : Int) ∧ (↑i : Int) < (↑lx : Int),
    Value.pointer (some { block := (0 : Nat), off := (0 : Nat) + Int.toNat (↑i : Int) * (1 : Nat) }) = Value.pointer (some { block := (0 : Nat), off := i }),
    (i64s xs)[i]? = some (VI (List.getD xs i (0 : Int))),
    Value.bool (decide (List.getD xs i (0 : Int) ≤ (-1152921504606846976 : Int))) = VT,
    evCall Try.prog 0 (bodied Try.prog) over4 sbs 1000 19 8 [] { n := 0, objs := [] } = some (VT, { n := 0, objs := [] }, [])] (by kernel_rfl)
    ⟨Dg.vtrue (by omega), by omega, Dg.ptr_eq (by omega), i64_load xs i (by omega), Dg.vtrue (by omega), Dg.evCall_over (c8 _), trivial⟩
--> g5Xlo1
--< g5Xhi1
theorem g5Xhi1 (lx : Nat) (cx : Cp) (ly : Nat) (cy : Cp) (e1 : Sh) (e2 : Sh) (xs : List Int) (ys : List Int) (w : Int) (b : Int) (more : Int) (byy : Int) (i : Nat) (x0 : Int) (hi : i < lx) (hl : lx ≤ 200) (hc : lx ≤ cx.fst) (hzl : List.length xs = cx.fst) (hr0 : -1152921504606846976 < List.getD xs i 0) (hr : 1152921504606846976 ≤ List.getD xs i 0) :
    run5K 2 lI5 kO5 (G5 w b more byy (aX lx cx) (aY ly cy) (aX lx cx) (VI x0) 2 0 lx i [oY ys e2, oX xs e1]) = some (Ex.ret, ({ ts := ([VI w, VI b, VI more, VC 0 cx.2 lx cx.fst, VC 1 cy.2 ly cy.fst, VI byy] ++ (us 6 ++ ([VT, VN, VN, VN, undef, VC 0 cx.2 lx cx.fst, undef, VI (List.getD xs i 0)] ++ (us 12 ++ (js 18 ++ ([Value.slice (some { block := 2, off := 0 }) 3 3, VI 3, VI 0, junk, junk, junk, VC 0 cx.2 lx cx.fst, VI (↑lx : Int), VI (↑i : Int), VT, Value.pointer (some { block := 0, off := i }), VI (List.getD xs i 0), VI (List.getD xs i 0), VF, VF, VI (List.getD xs i 0), VT, VT, VT] ++ (js 143))))))), H := { n := 4, objs := [AObj.cells [VI byy, VI more] 2 4 1, AObj.cells [VC 0 cx.2 lx cx.fst, VC 1 cy.2 ly cy.fst, Value.slice (some { block := 3, off := 0 }) 2 2] 22 0 1, AObj.cells (i64s ys) e2.fst (e2.snd.fst + 4) e2.snd.snd, AObj.cells (i64s xs) e1.fst (e1.snd.fst + 4) e1.snd.snd] }, log := [] } : St)) :=
  Dg.evCode_hint (f := 5) (hs' := []) (hs := [Hint.val 5 59 (VT),
    Hint.soft 5 60 (Value.pointer (some { block := 0, off := i })),
    Hint.soft 5 61 (VI (List.getD xs i 0)),
    Hint.val 5 63 (VF),
    Hint.val 5 66 (VT),
    Hint.call 8 (VT) { n := 0, objs := [] } []])
    [Value.bool (decide ((↑i : Int) < (↑lx : Int))) = VT,
    (0 : Int) ≤ (↑i : Int) ∧ (↑i : Int) < (↑lx : Int),
    Value.pointer (some { block := (0 : Nat), off := (0 : Nat) + Int.toNat (↑i : Int) * (1 : Nat) }) = Value.pointer (some { block := (0 : Nat), off := i }),
    (i64s xs)[i]? = some (VI (List.getD xs i (0 : Int))),
    Value.bool (decide (List.getD xs i (0 : Int) ≤ (-1152921504606846976 : Int))) = VF,
    Value.bool (decide (List.getD xs i (0 : Int) ≥ (1152921504606846976 : Int))) = VT,
    evCall Try.prog 0 (bodied Try.prog) over4 sbs 1000 19 8 [] { n := 0, objs := [] } = some (VT, { n := 0, objs := [] }, [])] (by kernel_rfl)
    ⟨Dg.vtrue (by omega), by omega, Dg.ptr_eq (by omega), i64_load xs i (by omega), Dg.vfalse (by omega), Dg.vtrue (by omega), Dg.evCall_over (c8 _), trivial⟩
--> g5Xhi1
--< g5Xe
theorem g5Xe (lx : Nat) (cx : Cp) (ly : Nat) (cy : Cp) (e1 : Sh) (e2 : Sh) (xs : List Int) (ys : List Int) (w : Int) (b : Int) (more : Int) (byy : Int) (x : Value) :
    run5K 2 lI5 kO5 (G5 w b more byy (aX lx cx) (aY ly cy) (aX lx cx) x 2 0 lx lx [oY ys e2, oX xs e1]) = some (Ex.exit 2, ({ ts := ([VI w, VI b, VI more, VC 0 cx.2 lx cx.fst, VC 1 cy.2 ly cy.fst, VI byy] ++ (us 6 ++ ([VF, VN, VN, VN, undef, VC 0 cx.2 lx cx.fst, undef, x] ++ (us 12 ++ (js 18 ++ ([Value.slice (some { block := 2, off := 0 }) 3 3, VI 3, VI 0, junk, junk, junk, VC 0 cx.2 lx cx.fst, VI (↑lx : Int), VI (↑lx : Int), VF] ++ (js 152))))))), H := { n := 4, objs := [AObj.cells [VI byy, VI more] 2 4 1, AObj.cells [VC 0 cx.2 lx cx.fst, VC 1 cy.2 ly cy.fst, Value.slice (some { block := 3, off := 0 }) 2 2] 22 0 1, AObj.cells (i64s ys) e2.fst (e2.snd.fst + 4) e2.snd.snd, AObj.cells (i64s xs) e1.fst (e1.snd.fst + 4) e1.snd.snd] }, log := [] } : St)) :=
  Dg.evCode_hint (f := 5) (hs' := []) (hs := [Hint.val 5 59 (VF)])
    [Value.bool (decide ((↑lx : Int) < (↑lx : Int))) = VF] (by kernel_rfl)
    ⟨Dg.vfalse (by omega), trivial⟩
--> g5Xe
--< g5Y0
theorem g5Y0 (lx : Nat) (cx : Cp) (ly : Nat) (cy : Cp) (e1 : Sh) (e2 : Sh) (xs : List Int) (ys : List Int) (w : Int) (b : Int) (more : Int) (byy : Int) (hi : 0 < ly) (hl : ly ≤ 200) (hc : ly ≤ cy.fst) (hzl : List.length ys = cy.fst) (hr : -1152921504606846976 < List.getD ys 0 0 ∧ List.getD ys 0 0 < 1152921504606846976) :
    ∃ s', run5K 2 lI5 kO5 (G5 w b more byy (aX lx cx) (aY ly cy) (aY ly cy) undef 2 1 ly 0 [oY ys e2, oX xs e1]) = some (Ex.normal, s') ∧ (cl5K 2 lI5 kO5) s' = G5 w b more byy (aX lx cx) (aY ly cy) (aY ly cy) (VI (List.getD ys 0 0)) 2 1 ly 1 [oY ys e2, oX xs e1] :=
  Dg.code_round (f := 5) (cl5K 2 lI5 kO5) (hs := [Hint.val 5 59 (VT),
    Hint.soft 5 60 (Value.pointer (some { block := 1, off := 0 })),
    Hint.soft 5 61 (VI (List.getD ys 0 0)),
    Hint.val 5 63 (VF),
    Hint.val 5 66 (VF)])
    [Value.bool (decide ((↑(0 : Nat) : Int) < (↑ly : Int))) = VT,
    (0 : Int) ≤ (↑(0 : Nat) : Int) ∧ (↑(0 : Nat) : Int) < (↑ly : Int),
    Value.pointer (some { block := (1 : Nat), off := (0 : Nat) }) = Value.pointer (some { block := (1 : Nat), off := (0 : Nat) }),
    (i64s ys)[(0 : Nat)]? = some (VI (List.getD ys (0 : Nat) (0 : Int))),
    Value.bool (decide (List.getD ys (0 : Nat) (0 : Int) ≤ (-1152921504606846976 : Int))) = VF,
    Value.bool (decide (List.getD ys (0 : Nat) (0 : Int) ≥ (1152921504606846976 : Int))) = VF] (by kernel_rfl)
    ⟨Dg.vtrue (by omega), by omega, rfl, i64_load ys 0 (by omega), Dg.vfalse (by omega), Dg.vfalse (by omega), trivial⟩
--> g5Y0
--< g5Ylo0
theorem g5Ylo0 (lx : Nat) (cx : Cp) (ly : Nat) (cy : Cp) (e1 : Sh) (e2 : Sh) (xs : List Int) (ys : List Int) (w : Int) (b : Int) (more : Int) (byy : Int) (hi : 0 < ly) (hl : ly ≤ 200) (hc : ly ≤ cy.fst) (hzl : List.length ys = cy.fst) (hr : List.getD ys 0 0 ≤ -1152921504606846976) :
    run5K 2 lI5 kO5 (G5 w b more byy (aX lx cx) (aY ly cy) (aY ly cy) undef 2 1 ly 0 [oY ys e2, oX xs e1]) = some (Ex.ret, ({ ts := ([VI w, VI b, VI more, VC 0 cx.2 lx cx.fst, VC 1 cy.2 ly cy.fst, VI byy] ++ (us 6 ++ ([VT, VN, VN, VN, undef, VC 1 cy.2 ly cy.fst, undef, VI (List.getD ys 0 0)] ++ (us 12 ++ (js 18 ++ ([Value.slice (some { block := 2, off := 0 }) 3 3, VI 3, VI 1, junk, junk, junk, VC 1 cy.2 ly cy.fst, VI (↑ly : Int), VI 0, VT, Value.pointer (some { block := 1, off := 0 }), VI (List.getD ys 0 0), VI (List.getD ys 0 0), VT, VT, undef, undef, VT, VT] ++ (js 143))))))), H := { n := 4, objs := [AObj.cells [VI byy, VI more] 2 4 1, AObj.cells [VC 0 cx.2 lx cx.fst, VC 1 cy.2 ly cy.fst, Value.slice (some { block := 3, off := 0 }) 2 2] 22 0 1, AObj.cells (i64s ys) e2.fst (e2.snd.fst + 4) e2.snd.snd, AObj.cells (i64s xs) e1.fst (e1.snd.fst + 4) e1.snd.snd] }, log := [] } : St)) :=
  Dg.evCode_hint (f := 5) (hs' := []) (hs := [Hint.val 5 59 (VT),
    Hint.soft 5 60 (Value.pointer (some { block := 1, off := 0 })),
    Hint.soft 5 61 (VI (List.getD ys 0 0)),
    Hint.val 5 63 (VT),
    Hint.call 8 (VT) { n := 0, objs := [] } []])
    [Value.bool (decide ((↑(0 : Nat) : Int) < (↑ly : Int))) = VT,
    (0 : Int) ≤ (↑(0 : Nat) : Int) ∧ (↑(0 : Nat) : Int) < (↑ly : Int),
    Value.pointer (some { block := (1 : Nat), off := (0 : Nat) }) = Value.pointer (some { block := (1 : Nat), off := (0 : Nat) }),
    (i64s ys)[(0 : Nat)]? = some (VI (List.getD ys (0 : Nat) (0 : Int))),
    Value.bool (decide (List.getD ys (0 : Nat) (0 : Int) ≤ (-1152921504606846976 : Int))) = VT,
    evCall Try.prog 0 (bodied Try.prog) over4 sbs 1000 19 8 [] { n := 0, objs := [] } = some (VT, { n := 0, objs := [] }, [])] (by kernel_rfl)
    ⟨Dg.vtrue (by omega), by omega, rfl, i64_load ys 0 (by omega), Dg.vtrue (by omega), Dg.evCall_over (c8 _), trivial⟩
--> g5Ylo0
--< g5Yhi0
theorem g5Yhi0 (lx : Nat) (cx : Cp) (ly : Nat) (cy : Cp) (e1 : Sh) (e2 : Sh) (xs : List Int) (ys : List Int) (w : Int) (b : Int) (more : Int) (byy : Int) (hi : 0 < ly) (hl : ly ≤ 200) (hc : ly ≤ cy.fst) (hzl : List.length ys = cy.fst) (hr0 : -1152921504606846976 < List.getD ys 0 0) (hr : 1152921504606846976 ≤ List.getD ys 0 0) :
    run5K 2 lI5 kO5 (G5 w b more byy (aX lx cx) (aY ly cy) (aY ly cy) undef 2 1 ly 0 [oY ys e2, oX xs e1]) = some (Ex.ret, ({ ts := ([VI w, VI b, VI more, VC 0 cx.2 lx cx.fst, VC 1 cy.2 ly cy.fst, VI byy] ++ (us 6 ++ ([VT, VN, VN, VN, undef, VC 1 cy.2 ly cy.fst, undef, VI (List.getD ys 0 0)] ++ (us 12 ++ (js 18 ++ ([Value.slice (some { block := 2, off := 0 }) 3 3, VI 3, VI 1, junk, junk, junk, VC 1 cy.2 ly cy.fst, VI (↑ly : Int), VI 0, VT, Value.pointer (some { block := 1, off := 0 }), VI (List.getD ys 0 0), VI (List.getD ys 0 0), VF, VF, VI (List.getD ys 0 0), VT, VT, VT] ++ (js 143))))))), H := { n := 4, objs := [AObj.cells [VI byy, VI more] 2 4 1, AObj.cells [VC 0 cx.2 lx cx.fst, VC 1 cy.2 ly cy.fst, Value.slice (some { block := 3, off := 0 }) 2 2] 22 0 1, AObj.cells (i64s ys) e2.fst (e2.snd.fst + 4) e2.snd.snd, AObj.cells (i64s xs) e1.fst (e1.snd.fst + 4) e1.snd.snd] }, log := [] } : St)) :=
  Dg.evCode_hint (f := 5) (hs' := []) (hs := [Hint.val 5 59 (VT),
    Hint.soft 5 60 (Value.pointer (some { block := 1, off := 0 })),
    Hint.soft 5 61 (VI (List.getD ys 0 0)),
    Hint.val 5 63 (VF),
    Hint.val 5 66 (VT),
    Hint.call 8 (VT) { n := 0, objs := [] } []])
    [Value.bool (decide ((↑(0 : Nat) : Int) < (↑ly : Int))) = VT,
    (0 : Int) ≤ (↑(0 : Nat) : Int) ∧ (↑(0 : Nat) : Int) < (↑ly : Int),
    Value.pointer (some { block := (1 : Nat), off := (0 : Nat) }) = Value.pointer (some { block := (1 : Nat), off := (0 : Nat) }),
    (i64s ys)[(0 : Nat)]? = some (VI (List.getD ys (0 : Nat) (0 : Int))),
    Value.bool (decide (List.getD ys (0 : Nat) (0 : Int) ≤ (-1152921504606846976 : Int))) = VF,
    Value.bool (decide (List.getD ys (0 : Nat) (0 : Int) ≥ (1152921504606846976 : Int))) = VT,
    evCall Try.prog 0 (bodied Try.prog) over4 sbs 1000 19 8 [] { n := 0, objs := [] } = some (VT, { n := 0, objs := [] }, [])] (by kernel_rfl)
    ⟨Dg.vtrue (by omega), by omega, rfl, i64_load ys 0 (by omega), Dg.vfalse (by omega), Dg.vtrue (by omega), Dg.evCall_over (c8 _), trivial⟩
--> g5Yhi0
--< g5Y1
theorem g5Y1 (lx : Nat) (cx : Cp) (ly : Nat) (cy : Cp) (e1 : Sh) (e2 : Sh) (xs : List Int) (ys : List Int) (w : Int) (b : Int) (more : Int) (byy : Int) (i : Nat) (x0 : Int) (hi : i < ly) (hl : ly ≤ 200) (hc : ly ≤ cy.fst) (hzl : List.length ys = cy.fst) (hr : -1152921504606846976 < List.getD ys i 0 ∧ List.getD ys i 0 < 1152921504606846976) :
    ∃ s', run5K 2 lI5 kO5 (G5 w b more byy (aX lx cx) (aY ly cy) (aY ly cy) (VI x0) 2 1 ly i [oY ys e2, oX xs e1]) = some (Ex.normal, s') ∧ (cl5K 2 lI5 kO5) s' = G5 w b more byy (aX lx cx) (aY ly cy) (aY ly cy) (VI (List.getD ys i 0)) 2 1 ly (i + 1) [oY ys e2, oX xs e1] :=
  Dg.code_round (f := 5) (cl5K 2 lI5 kO5) (hs := [Hint.val 5 59 (VT),
    Hint.soft 5 60 (Value.pointer (some { block := 1, off := i })),
    Hint.soft 5 61 (VI (List.getD ys i 0)),
    Hint.val 5 63 (VF),
    Hint.val 5 66 (VF),
    Hint.val 5 69 (VI ((↑i : Int) + 1))])
    [Value.bool (decide ((↑i : Int) < (↑ly : Int))) = VT,
    (0 : Int) ≤ (↑i : Int) ∧ (↑i : Int) < (↑ly : Int),
    Value.pointer (some { block := (1 : Nat), off := (0 : Nat) + Int.toNat (↑i : Int) * (1 : Nat) }) = Value.pointer (some { block := (1 : Nat), off := i }),
    (i64s ys)[i]? = some (VI (List.getD ys i (0 : Int))),
    Value.bool (decide (List.getD ys i (0 : Int) ≤ (-1152921504606846976 : Int))) = VF,
    Value.bool (decide (List.getD ys i (0 : Int) ≥ (1152921504606846976 : Int))) = VF,
    VI (IntKind.wrap IntKind.i64 ((↑i : Int) + (1 : Int))) = VI ((↑i : Int) + (1 : Int))] (by kernel_rfl)
    ⟨Dg.vtrue (by omega), by omega, Dg.ptr_eq (by omega), i64_load ys i (by omega), Dg.vfalse (by omega), Dg.vfalse (by omega), Dg.i64_eq rfl (by omega) (by omega), trivial⟩
--> g5Y1
--< g5Ylo1
theorem g5Ylo1 (lx : Nat) (cx : Cp) (ly : Nat) (cy : Cp) (e1 : Sh) (e2 : Sh) (xs : List Int) (ys : List Int) (w : Int) (b : Int) (more : Int) (byy : Int) (i : Nat) (x0 : Int) (hi : i < ly) (hl : ly ≤ 200) (hc : ly ≤ cy.fst) (hzl : List.length ys = cy.fst) (hr : List.getD ys i 0 ≤ -1152921504606846976) :
    run5K 2 lI5 kO5 (G5 w b more byy (aX lx cx) (aY ly cy) (aY ly cy) (VI x0) 2 1 ly i [oY ys e2, oX xs e1]) = some (Ex.ret, ({ ts := ([VI w, VI b, VI more, VC 0 cx.2 lx cx.fst, VC 1 cy.2 ly cy.fst, VI byy] ++ (us 6 ++ ([VT, VN, VN, VN, undef, VC 1 cy.2 ly cy.fst, undef, VI (List.getD ys i 0)] ++ (us 12 ++ (js 18 ++ ([Value.slice (some { block := 2, off := 0 }) 3 3, VI 3, VI 1, junk, junk, junk, VC 1 cy.2 ly cy.fst, VI (↑ly : Int), VI (↑i : Int), VT, Value.pointer (some { block := 1, off := i }), VI (List.getD ys i 0), VI (List.getD ys i 0), VT, VT, undef, undef, VT, VT] ++ (js 143))))))), H := { n := 4, objs := [AObj.cells [VI byy, VI more] 2 4 1, AObj.cells [VC 0 cx.2 lx cx.fst, VC 1 cy.2 ly cy.fst, Value.slice (some { block := 3, off := 0 }) 2 2] 22 0 1, AObj.cells (i64s ys) e2.fst (e2.snd.fst + 4) e2.snd.snd, AObj.cells (i64s xs) e1.fst (e1.snd.fst + 4) e1.snd.snd] }, log := [] } : St)) :=
  Dg.evCode_hint (f := 5) (hs' := []) (hs := [Hint.val 5 59 (VT),
    Hint.soft 5 60 (Value.pointer (some { block := 1, off := i })),
    Hint.soft 5 61 (VI (List.getD ys i 0)),
    Hint.val 5 63 (VT),
    Hint.call 8 (VT) { n := 0, objs := [] } []])
    [Value.bool (decide ((↑i : Int) < (↑ly : Int))) = VT,
    (0 : Int) ≤ (↑i : Int) ∧ (↑i : Int) < (↑ly : Int),
    Value.pointer (some { block := (1 : Nat), off := (0 : Nat) + Int.toNat (↑i : Int) * (1 : Nat) }) = Value.pointer (some { block := (1 : Nat), off := i }),
    (i64s ys)[i]? = some (VI (List.getD ys i (0 : Int))),
    Value.bool (decide (List.getD ys i (0 : Int) ≤ (-1152921504606846976 : Int))) = VT,
    evCall Try.prog 0 (bodied Try.prog) over4 sbs 1000 19 8 [] { n := 0, objs := [] } = some (VT, { n := 0, objs := [] }, [])] (by kernel_rfl)
    ⟨Dg.vtrue (by omega), by omega, Dg.ptr_eq (by omega), i64_load ys i (by omega), Dg.vtrue (by omega), Dg.evCall_over (c8 _), trivial⟩
--> g5Ylo1
--< g5Yhi1
theorem g5Yhi1 (lx : Nat) (cx : Cp) (ly : Nat) (cy : Cp) (e1 : Sh) (e2 : Sh) (xs : List Int) (ys : List Int) (w : Int) (b : Int) (more : Int) (byy : Int) (i : Nat) (x0 : Int) (hi : i < ly) (hl : ly ≤ 200) (hc : ly ≤ cy.fst) (hzl : List.length ys = cy.fst) (hr0 : -1152921504606846976 < List.getD ys i 0) (hr : 1152921504606846976 ≤ List.getD ys i 0) :
    run5K 2 lI5 kO5 (G5 w b more byy (aX lx cx) (aY ly cy) (aY ly cy) (VI x0) 2 1 ly i [oY ys e2, oX xs e1]) = some (Ex.ret, ({ ts := ([VI w, VI b, VI more, VC 0 cx.2 lx cx.fst, VC 1 cy.2 ly cy.fst, VI byy] ++ (us 6 ++ ([VT, VN, VN, VN, undef, VC 1 cy.2 ly cy.fst, undef, VI (List.getD ys i 0)] ++ (us 12 ++ (js 18 ++ ([Value.slice (some { block := 2, off := 0 }) 3 3, VI 3, VI 1, junk, junk, junk, VC 1 cy.2 ly cy.fst, VI (↑ly : Int), VI (↑i : Int), VT, Value.pointer (some { block := 1, off := i }), VI (List.getD ys i 0), VI (List.getD ys i 0), VF, VF, VI (List.getD ys i 0), VT, VT, VT] ++ (js 143))))))), H := { n := 4, objs := [AObj.cells [VI byy, VI more] 2 4 1, AObj.cells [VC 0 cx.2 lx cx.fst, VC 1 cy.2 ly cy.fst, Value.slice (some { block := 3, off := 0 }) 2 2] 22 0 1, AObj.cells (i64s ys) e2.fst (e2.snd.fst + 4) e2.snd.snd, AObj.cells (i64s xs) e1.fst (e1.snd.fst + 4) e1.snd.snd] }, log := [] } : St)) :=
  Dg.evCode_hint (f := 5) (hs' := []) (hs := [Hint.val 5 59 (VT),
    Hint.soft 5 60 (Value.pointer (some { block := 1, off := i })),
    Hint.soft 5 61 (VI (List.getD ys i 0)),
    Hint.val 5 63 (VF),
    Hint.val 5 66 (VT),
    Hint.call 8 (VT) { n := 0, objs := [] } []])
    [Value.bool (decide ((↑i : Int) < (↑ly : Int))) = VT,
    (0 : Int) ≤ (↑i : Int) ∧ (↑i : Int) < (↑ly : Int),
    Value.pointer (some { block := (1 : Nat), off := (0 : Nat) + Int.toNat (↑i : Int) * (1 : Nat) }) = Value.pointer (some { block := (1 : Nat), off := i }),
    (i64s ys)[i]? = some (VI (List.getD ys i (0 : Int))),
    Value.bool (decide (List.getD ys i (0 : Int) ≤ (-1152921504606846976 : Int))) = VF,
    Value.bool (decide (List.getD ys i (0 : Int) ≥ (1152921504606846976 : Int))) = VT,
    evCall Try.prog 0 (bodied Try.prog) over4 sbs 1000 19 8 [] { n := 0, objs := [] } = some (VT, { n := 0, objs := [] }, [])] (by kernel_rfl)
    ⟨Dg.vtrue (by omega), by omega, Dg.ptr_eq (by omega), i64_load ys i (by omega), Dg.vfalse (by omega), Dg.vtrue (by omega), Dg.evCall_over (c8 _), trivial⟩
--> g5Yhi1
--< g5Ye
theorem g5Ye (lx : Nat) (cx : Cp) (ly : Nat) (cy : Cp) (e1 : Sh) (e2 : Sh) (xs : List Int) (ys : List Int) (w : Int) (b : Int) (more : Int) (byy : Int) (x : Value) :
    run5K 2 lI5 kO5 (G5 w b more byy (aX lx cx) (aY ly cy) (aY ly cy) x 2 1 ly ly [oY ys e2, oX xs e1]) = some (Ex.exit 2, ({ ts := ([VI w, VI b, VI more, VC 0 cx.2 lx cx.fst, VC 1 cy.2 ly cy.fst, VI byy] ++ (us 6 ++ ([VF, VN, VN, VN, undef, VC 1 cy.2 ly cy.fst, undef, x] ++ (us 12 ++ (js 18 ++ ([Value.slice (some { block := 2, off := 0 }) 3 3, VI 3, VI 1, junk, junk, junk, VC 1 cy.2 ly cy.fst, VI (↑ly : Int), VI (↑ly : Int), VF] ++ (js 152))))))), H := { n := 4, objs := [AObj.cells [VI byy, VI more] 2 4 1, AObj.cells [VC 0 cx.2 lx cx.fst, VC 1 cy.2 ly cy.fst, Value.slice (some { block := 3, off := 0 }) 2 2] 22 0 1, AObj.cells (i64s ys) e2.fst (e2.snd.fst + 4) e2.snd.snd, AObj.cells (i64s xs) e1.fst (e1.snd.fst + 4) e1.snd.snd] }, log := [] } : St)) :=
  Dg.evCode_hint (f := 5) (hs' := []) (hs := [Hint.val 5 59 (VF)])
    [Value.bool (decide ((↑ly : Int) < (↑ly : Int))) = VF] (by kernel_rfl)
    ⟨Dg.vfalse (by omega), trivial⟩
--> g5Ye
--< g5XN0
theorem g5XN0 (lx : Nat) (cx : Cp) (e1 : Sh) (xs : List Int) (w : Int) (b : Int) (more : Int) (byy : Int) (hi : 0 < lx) (hl : lx ≤ 200) (hc : lx ≤ cx.fst) (hzl : List.length xs = cx.fst) (hr : -1152921504606846976 < List.getD xs 0 0 ∧ List.getD xs 0 0 < 1152921504606846976) :
    ∃ s', run5K 1 lI5 kO5 (G5 w b more byy (aX lx cx) (VN) (aX lx cx) undef 1 0 lx 0 [oX xs e1]) = some (Ex.normal, s') ∧ (cl5K 1 lI5 kO5) s' = G5 w b more byy (aX lx cx) (VN) (aX lx cx) (VI (List.getD xs 0 0)) 1 0 lx 1 [oX xs e1] :=
  Dg.code_round (f := 5) (cl5K 1 lI5 kO5) (hs := [Hint.val 5 59 (VT),
    Hint.soft 5 60 (Value.pointer (some { block := 0, off := 0 })),
    Hint.soft 5 61 (VI (List.getD xs 0 0)),
    Hint.val 5 63 (VF),
    Hint.val 5 66 (VF)])
    [Value.bool (decide ((↑(0 : Nat) : Int) < (↑lx : Int))) = VT,
    (0 : Int) ≤ (↑(0 : Nat) : Int) ∧ (↑(0 : Nat) : Int) < (↑lx : Int),
    Value.pointer (some { block := (0 : Nat), off := (0 : Nat) }) = Value.pointer (some { block := (0 : Nat), off := (0 : Nat) }),
    (i64s xs)[(0 : Nat)]? = some (VI (List.getD xs (0 : Nat) (0 : Int))),
    Value.bool (decide (List.getD xs (0 : Nat) (0 : Int) ≤ (-1152921504606846976 : Int))) = VF,
    Value.bool (decide (List.getD xs (0 : Nat) (0 : Int) ≥ (1152921504606846976 : Int))) = VF] (by kernel_rfl)
    ⟨Dg.vtrue (by omega), by omega, rfl, i64_load xs 0 (by omega), Dg.vfalse (by omega), Dg.vfalse (by omega), trivial⟩
--> g5XN0
--< g5XNlo0
theorem g5XNlo0 (lx : Nat) (cx : Cp) (e1 : Sh) (xs : List Int) (w : Int) (b : Int) (more : Int) (byy : Int) (hi : 0 < lx) (hl : lx ≤ 200) (hc : lx ≤ cx.fst) (hzl : List.length xs = cx.fst) (hr : List.getD xs 0 0 ≤ -1152921504606846976) :
    run5K 1 lI5 kO5 (G5 w b more byy (aX lx cx) (VN) (aX lx cx) undef 1 0 lx 0 [oX xs e1]) = some (Ex.ret, ({ ts := ([VI w, VI b, VI more, VC 0 cx.2 lx cx.fst, VN, VI byy] ++ (us 6 ++ ([VT, VN, VN, VN, undef, VC 0 cx.2 lx cx.fst, undef, VI (List.getD xs 0 0)] ++ (us 12 ++ (js 18 ++ ([Value.slice (some { block := 1, off := 0 }) 3 3, VI 3, VI 0, junk, junk, junk, VC 0 cx.2 lx cx.fst, VI (↑lx : Int), VI 0, VT, Value.pointer (some { block := 0, off := 0 }), VI (List.getD xs 0 0), VI (List.getD xs 0 0), VT, VT, undef, undef, VT, VT] ++ (js 143))))))), H := { n := 3, objs := [AObj.cells [VI byy, VI more] 2 4 1, AObj.cells [VC 0 cx.2 lx cx.fst, VN, Value.slice (some { block := 2, off := 0 }) 2 2] 22 0 1, AObj.cells (i64s xs) e1.fst (e1.snd.fst + 4) e1.snd.snd] }, log := [] } : St)) :=
  Dg.evCode_hint (f := 5) (hs' := []) (hs := [Hint.val 5 59 (VT),
    Hint.soft 5 60 (Value.pointer (some { block := 0, off := 0 })),
    Hint.soft 5 61 (VI (List.getD xs 0 0)),
    Hint.val 5 63 (VT),
    Hint.call 8 (VT) { n := 0, objs := [] } []])
    [Value.bool (decide ((↑(0 : Nat) : Int) < (↑lx : Int))) = VT,
    (0 : Int) ≤ (↑(0 : Nat) : Int) ∧ (↑(0 : Nat) : Int) < (↑lx : Int),
    Value.pointer (some { block := (0 : Nat), off := (0 : Nat) }) = Value.pointer (some { block := (0 : Nat), off := (0 : Nat) }),
    (i64s xs)[(0 : Nat)]? = some (VI (List.getD xs (0 : Nat) (0 : Int))),
    Value.bool (decide (List.getD xs (0 : Nat) (0 : Int) ≤ (-1152921504606846976 : Int))) = VT,
    evCall Try.prog 0 (bodied Try.prog) over4 sbs 1000 19 8 [] { n := 0, objs := [] } = some (VT, { n := 0, objs := [] }, [])] (by kernel_rfl)
    ⟨Dg.vtrue (by omega), by omega, rfl, i64_load xs 0 (by omega), Dg.vtrue (by omega), Dg.evCall_over (c8 _), trivial⟩
--> g5XNlo0
--< g5XNhi0
theorem g5XNhi0 (lx : Nat) (cx : Cp) (e1 : Sh) (xs : List Int) (w : Int) (b : Int) (more : Int) (byy : Int) (hi : 0 < lx) (hl : lx ≤ 200) (hc : lx ≤ cx.fst) (hzl : List.length xs = cx.fst) (hr0 : -1152921504606846976 < List.getD xs 0 0) (hr : 1152921504606846976 ≤ List.getD xs 0 0) :
    run5K 1 lI5 kO5 (G5 w b more byy (aX lx cx) (VN) (aX lx cx) undef 1 0 lx 0 [oX xs e1]) = some (Ex.ret, ({ ts := ([VI w, VI b, VI more, VC 0 cx.2 lx cx.fst, VN, VI byy] ++ (us 6 ++ ([VT, VN, VN, VN, undef, VC 0 cx.2 lx cx.fst, undef, VI (List.getD xs 0 0)] ++ (us 12 ++ (js 18 ++ ([Value.slice (some { block := 1, off := 0 }) 3 3, VI 3, VI 0, junk, junk, junk, VC 0 cx.2 lx cx.fst, VI (↑lx : Int), VI 0, VT, Value.pointer (some { block := 0, off := 0 }), VI (List.getD xs 0 0), VI (List.getD xs 0 0), VF, VF, VI (List.getD xs 0 0), VT, VT, VT] ++ (js 143))))))), H := { n := 3, objs := [AObj.cells [VI byy, VI more] 2 4 1, AObj.cells [VC 0 cx.2 lx cx.fst, VN, Value.slice (some { block := 2, off := 0 }) 2 2] 22 0 1, AObj.cells (i64s xs) e1.fst (e1.snd.fst + 4) e1.snd.snd] }, log := [] } : St)) :=
  Dg.evCode_hint (f := 5) (hs' := []) (hs := [Hint.val 5 59 (VT),
    Hint.soft 5 60 (Value.pointer (some { block := 0, off := 0 })),
    Hint.soft 5 61 (VI (List.getD xs 0 0)),
    Hint.val 5 63 (VF),
    Hint.val 5 66 (VT),
    Hint.call 8 (VT) { n := 0, objs := [] } []])
    [Value.bool (decide ((↑(0 : Nat) : Int) < (↑lx : Int))) = VT,
    (0 : Int) ≤ (↑(0 : Nat) : Int) ∧ (↑(0 : Nat) : Int) < (↑lx : Int),
    Value.pointer (some { block := (0 : Nat), off := (0 : Nat) }) = Value.pointer (some { block := (0 : Nat), off := (0 : Nat) }),
    (i64s xs)[(0 : Nat)]? = some (VI (List.getD xs (0 : Nat) (0 : Int))),
    Value.bool (decide (List.getD xs (0 : Nat) (0 : Int) ≤ (-1152921504606846976 : Int))) = VF,
    Value.bool (decide (List.getD xs (0 : Nat) (0 : Int) ≥ (1152921504606846976 : Int))) = VT,
    evCall Try.prog 0 (bodied Try.prog) over4 sbs 1000 19 8 [] { n := 0, objs := [] } = some (VT, { n := 0, objs := [] }, [])] (by kernel_rfl)
    ⟨Dg.vtrue (by omega), by omega, rfl, i64_load xs 0 (by omega), Dg.vfalse (by omega), Dg.vtrue (by omega), Dg.evCall_over (c8 _), trivial⟩
--> g5XNhi0
--< g5XN1
theorem g5XN1 (lx : Nat) (cx : Cp) (e1 : Sh) (xs : List Int) (w : Int) (b : Int) (more : Int) (byy : Int) (i : Nat) (x0 : Int) (hi : i < lx) (hl : lx ≤ 200) (hc : lx ≤ cx.fst) (hzl : List.length xs = cx.fst) (hr : -1152921504606846976 < List.getD xs i 0 ∧ List.getD xs i 0 < 1152921504606846976) :
    ∃ s', run5K 1 lI5 kO5 (G5 w b more byy (aX lx cx) (VN) (aX lx cx) (VI x0) 1 0 lx i [oX xs e1]) = some (Ex.normal, s') ∧ (cl5K 1 lI5 kO5) s' = G5 w b more byy (aX lx cx) (VN) (aX lx cx) (VI (List.getD xs i 0)) 1 0 lx (i + 1) [oX xs e1] :=
  Dg.code_round (f := 5) (cl5K 1 lI5 kO5) (hs := [Hint.val 5 59 (VT),
    Hint.soft 5 60 (Value.pointer (some { block := 0, off := i })),
    Hint.soft 5 61 (VI (List.getD xs i 0)),
    Hint.val 5 63 (VF),
    Hint.val 5 66 (VF),
    Hint.val 5 69 (VI ((↑i : Int) + 1))])
    [Value.bool (decide ((↑i : Int) < (↑lx : Int))) = VT,
    (0 : Int) ≤ (↑i : Int) ∧ (↑i : Int) < (↑lx : Int),
    Value.pointer (some { block := (0 : Nat), off := (0 : Nat) + Int.toNat (↑i : Int) * (1 : Nat) }) = Value.pointer (some { block := (0 : Nat), off := i }),
    (i64s xs)[i]? = some (VI (List.getD xs i (0 : Int))),
    Value.bool (decide (List.getD xs i (0 : Int) ≤ (-1152921504606846976 : Int))) = VF,
    Value.bool (decide (List.getD xs i (0 : Int) ≥ (1152921504606846976 : Int))) = VF,
    VI (IntKind.wrap IntKind.i64 ((↑i : Int) + (1 : Int))) = VI ((↑i : Int) + (1 : Int))] (by kernel_rfl)
    ⟨Dg.vtrue (by omega), by omega, Dg.ptr_eq (by omega), i64_load xs i (by omega), Dg.vfalse (by omega), Dg.vfalse (by omega), Dg.i64_eq rfl (by omega) (by omega), trivial⟩
--> g5XN1
--< g5XNlo1
theorem g5XNlo1 (lx : Nat) (cx : Cp) (e1 : Sh) (xs : List Int) (w : Int) (b : Int) (more : Int) (byy : Int) (i : Nat) (x0 : Int) (hi : i < lx) (hl : lx ≤ 200) (hc : lx ≤ cx.fst) (hzl : List.length xs = cx.fst) (hr : List.getD xs i 0 ≤ -1152921504606846976) :
    run5K 1 lI5 kO5 (G5 w b more byy (aX lx cx) (VN) (aX lx cx) (VI x0) 1 0 lx i [oX xs e1]) = some (Ex.ret, ({ ts := ([VI w, VI b, VI more, VC 0 cx.2 lx cx.fst, VN, VI byy] ++ (us 6 ++ ([VT, VN, VN, VN, undef, VC 0 cx.2 lx cx.fst, undef, VI (List.getD xs i 0)] ++ (us 12 ++ (js 18 ++ ([Value.slice (some { block := 1, off := 0 }) 3 3, VI 3, VI 0, junk, junk, junk, VC 0 cx.2 lx cx.fst, VI (↑lx : Int), VI (↑i : Int), VT, Value.pointer (some { block := 0, off := i }), VI (List.getD xs i 0), VI (List.getD xs i 0), VT, VT, undef, undef, VT, VT] ++ (js 143))))))), H := { n := 3, objs := [AObj.cells [VI byy, VI more] 2 4 1, AObj.cells [VC 0 cx.2 lx cx.fst, VN, Value.slice (some { block := 2, off := 0 }) 2 2] 22 0 1, AObj.cells (i64s xs) e1.fst (e1.snd.fst + 4) e1.snd.snd] }, log := [] } : St)) :=
  Dg.evCode_hint (f := 5) (hs' := []) (hs := [Hint.val 5 59 (VT),
    Hint.soft 5 60 (Value.pointer (some { block := 0, off := i })),
    Hint.soft 5 61 (VI (List.getD xs i 0)),
    Hint.val 5 63 (VT),
    Hint.call 8 (VT) { n := 0, objs := [] } []])
    [Value.bool (decide ((↑i : Int) < (↑lx : Int))) = VT,
    (0 : Int) ≤ (↑i : Int) ∧ (↑i : Int) < (↑lx : Int),
    Value.pointer (some { block := (0 : Nat), off := (0 : Nat) + Int.toNat (↑i : Int) * (1 : Nat) }) = Value.pointer (some { block := (0 : Nat), off := i }),
    (i64s xs)[i]? = some (VI (List.getD xs i (0 : Int))),
    Value.bool (decide (List.getD xs i (0 : Int) ≤ (-1152921504606846976 : Int))) = VT,
    evCall Try.prog 0 (bodied Try.prog) over4 sbs 1000 19 8 [] { n := 0, objs := [] } = some (VT, { n := 0, objs := [] }, [])] (by kernel_rfl)
    ⟨Dg.vtrue (by omega), by omega, Dg.ptr_eq (by omega), i64_load xs i (by omega), Dg.vtrue (by omega), Dg.evCall_over (c8 _), trivial⟩
--> g5XNlo1
--< g5XNhi1
theorem g5XNhi1 (lx : Nat) (cx : Cp) (e1 : Sh) (xs : List Int) (w : Int) (b : Int) (more : Int) (byy : Int) (i : Nat) (x0 : Int) (hi : i < lx) (hl : lx ≤ 200) (hc : lx ≤ cx.fst) (hzl : List.length xs = cx.fst) (hr0 : -1152921504606846976 < List.getD xs i 0) (hr : 1152921504606846976 ≤ List.getD xs i 0) :
    run5K 1 lI5 kO5 (G5 w b more byy (aX lx cx) (VN) (aX lx cx) (VI x0) 1 0 lx i [oX xs e1]) = some (Ex.ret, ({ ts := ([VI w, VI b, VI more, VC 0 cx.2 lx cx.fst, VN, VI byy] ++ (us 6 ++ ([VT, VN, VN, VN, undef, VC 0 cx.2 lx cx.fst, undef, VI (List.getD xs i 0)] ++ (us 12 ++ (js 18 ++ ([Value.slice (some { block := 1, off := 0 }) 3 3, VI 3, VI 0, junk, junk, junk, VC 0 cx.2 lx cx.fst, VI (↑lx : Int), VI (↑i : Int), VT, Value.pointer (some { block := 0, off := i }), VI (List.getD xs i 0), VI (List.getD xs i 0), VF, VF, VI (List.getD xs i 0), VT, VT, VT] ++ (js 143))))))), H := { n := 3, objs := [AObj.cells [VI byy, VI more] 2 4 1, AObj.cells [VC 0 cx.2 lx cx.fst, VN, Value.slice (some { block := 2, off := 0 }) 2 2] 22 0 1, AObj.cells (i64s xs) e1.fst (e1.snd.fst + 4) e1.snd.snd] }, log := [] } : St)) :=
  Dg.evCode_hint (f := 5) (hs' := []) (hs := [Hint.val 5 59 (VT),
    Hint.soft 5 60 (Value.pointer (some { block := 0, off := i })),
    Hint.soft 5 61 (VI (List.getD xs i 0)),
    Hint.val 5 63 (VF),
    Hint.val 5 66 (VT),
    Hint.call 8 (VT) { n := 0, objs := [] } []])
    [Value.bool (decide ((↑i : Int) < (↑lx : Int))) = VT,
    (0 : Int) ≤ (↑i : Int) ∧ (↑i : Int) < (↑lx : Int),
    Value.pointer (some { block := (0 : Nat), off := (0 : Nat) + Int.toNat (↑i : Int) * (1 : Nat) }) = Value.pointer (some { block := (0 : Nat), off := i }),
    (i64s xs)[i]? = some (VI (List.getD xs i (0 : Int))),
    Value.bool (decide (List.getD xs i (0 : Int) ≤ (-1152921504606846976 : Int))) = VF,
    Value.bool (decide (List.getD xs i (0 : Int) ≥ (1152921504606846976 : Int))) = VT,
    evCall Try.prog 0 (bodied Try.prog) over4 sbs 1000 19 8 [] { n := 0, objs := [] } = some (VT, { n := 0, objs := [] }, [])] (by kernel_rfl)
    ⟨Dg.vtrue (by omega), by omega, Dg.ptr_eq (by omega), i64_load xs i (by omega), Dg.vfalse (by omega), Dg.vtrue (by omega), Dg.evCall_over (c8 _), trivial⟩
--> g5XNhi1
--< g5XNe
theorem g5XNe (lx : Nat) (cx : Cp) (e1 : Sh) (xs : List Int) (w : Int) (b : Int) (more : Int) (byy : Int) (x : Value) :
    run5K 1 lI5 kO5 (G5 w b more byy (aX lx cx) (VN) (aX lx cx) x 1 0 lx lx [oX xs e1]) = some (Ex.exit 2, ({ ts := ([VI w, VI b, VI more, VC 0 cx.2 lx cx.fst, VN, VI byy] ++ (us 6 ++ ([VF, VN, VN, VN, undef, VC 0 cx.2 lx cx.fst, undef, x] ++ (us 12 ++ (js 18 ++ ([Value.slice (some { block := 1, off := 0 }) 3 3, VI 3, VI 0, junk, junk, junk, VC 0 cx.2 lx cx.fst, VI (↑lx : Int), VI (↑lx : Int), VF] ++ (js 152))))))), H := { n := 3, objs := [AObj.cells [VI byy, VI more] 2 4 1, AObj.cells [VC 0 cx.2 lx cx.fst, VN, Value.slice (some { block := 2, off := 0 }) 2 2] 22 0 1, AObj.cells (i64s xs) e1.fst (e1.snd.fst + 4) e1.snd.snd] }, log := [] } : St)) :=
  Dg.evCode_hint (f := 5) (hs' := []) (hs := [Hint.val 5 59 (VF)])
    [Value.bool (decide ((↑lx : Int) < (↑lx : Int))) = VF] (by kernel_rfl)
    ⟨Dg.vfalse (by omega), trivial⟩
--> g5XNe
--< g5NY0
theorem g5NY0 (lx : Nat) (cx : Cp) (e1 : Sh) (xs : List Int) (w : Int) (b : Int) (more : Int) (byy : Int) (hi : 0 < lx) (hl : lx ≤ 200) (hc : lx ≤ cx.fst) (hzl : List.length xs = cx.fst) (hr : -1152921504606846976 < List.getD xs 0 0 ∧ List.getD xs 0 0 < 1152921504606846976) :
    ∃ s', run5K 1 lI5 kO5 (G5 w b more byy (VN) (aX lx cx) (aX lx cx) undef 1 1 lx 0 [oX xs e1]) = some (Ex.normal, s') ∧ (cl5K 1 lI5 kO5) s' = G5 w b more byy (VN) (aX lx cx) (aX lx cx) (VI (List.getD xs 0 0)) 1 1 lx 1 [oX xs e1] :=
  Dg.code_round (f := 5) (cl5K 1 lI5 kO5) (hs := [Hint.val 5 59 (VT),
    Hint.soft 5 60 (Value.pointer (some { block := 0, off := 0 })),
    Hint.soft 5 61 (VI (List.getD xs 0 0)),
    Hint.val 5 63 (VF),
    Hint.val 5 66 (VF)])
    [Value.bool (decide ((↑(0 : Nat) : Int) < (↑lx : Int))) = VT,
    (0 : Int) ≤ (↑(0 : Nat) : Int) ∧ (↑(0 : Nat) : Int) < (↑lx : Int),
    Value.pointer (some { block := (0 : Nat), off := (0 : Nat) }) = Value.pointer (some { block := (0 : Nat), off := (0 : Nat) }),
    (i64s xs)[(0 : Nat)]? = some (VI (List.getD xs (0 : Nat) (0 : Int))),
    Value.bool (decide (List.getD xs (0 : Nat) (0 : Int) ≤ (-1152921504606846976 : Int))) = VF,
    Value.bool (decide (List.getD xs (0 : Nat) (0 : Int) ≥ (1152921504606846976 : Int))) = VF] (by kernel_rfl)
    ⟨Dg.vtrue (by omega), by omega, rfl, i64_load xs 0 (by omega), Dg.vfalse (by omega), Dg.vfalse (by omega), trivial⟩
--> g5NY0
--< g5NYlo0
theorem g5NYlo0 (lx : Nat) (cx : Cp) (e1 : Sh) (xs : List Int) (w : Int) (b : Int) (more : Int) (byy : Int) (hi : 0 < lx) (hl : lx ≤ 200) (hc : lx ≤ cx.fst) (hzl : List.length xs = cx.fst) (hr : List.getD xs 0 0 ≤ -1152921504606846976) :
    run5K 1 lI5 kO5 (G5 w b more byy (VN) (aX lx cx) (aX lx cx) undef 1 1 lx 0 [oX xs e1]) = some (Ex.ret, ({ ts := ([VI w, VI b, VI more, VN, VC 0 cx.2 lx cx.fst, VI byy] ++ (us 6 ++ ([VT, VN, VN, VN, undef, VC 0 cx.2 lx cx.fst, undef, VI (List.getD xs 0 0)] ++ (us 12 ++ (js 18 ++ ([Value.slice (some { block := 1, off := 0 }) 3 3, VI 3, VI 1, junk, junk, junk, VC 0 cx.2 lx cx.fst, VI (↑lx : Int), VI 0, VT, Value.pointer (some { block := 0, off := 0 }), VI (List.getD xs 0 0), VI (List.getD xs 0 0), VT, VT, undef, undef, VT, VT] ++ (js 143))))))), H := { n := 3, objs := [AObj.cells [VI byy, VI more] 2 4 1, AObj.cells [VN, VC 0 cx.2 lx cx.fst, Value.slice (some { block := 2, off := 0 }) 2 2] 22 0 1, AObj.cells (i64s xs) e1.fst (e1.snd.fst + 4) e1.snd.snd] }, log := [] } : St)) :=
  Dg.evCode_hint (f := 5) (hs' := []) (hs := [Hint.val 5 59 (VT),
    Hint.soft 5 60 (Value.pointer (some { block := 0, off := 0 })),
    Hint.soft 5 61 (VI (List.getD xs 0 0)),
    Hint.val 5 63 (VT),
    Hint.call 8 (VT) { n := 0, objs := [] } []])
    [Value.bool (decide ((↑(0 : Nat) : Int) < (↑lx : Int))) = VT,
    (0 : Int) ≤ (↑(0 : Nat) : Int) ∧ (↑(0 : Nat) : Int) < (↑lx : Int),
    Value.pointer (some { block := (0 : Nat), off := (0 : Nat) }) = Value.pointer (some { block := (0 : Nat), off := (0 : Nat) }),
    (i64s xs)[(0 : Nat)]? = some (VI (List.getD xs (0 : Nat) (0 : Int))),
    Value.bool (decide (List.getD xs (0 : Nat) (0 : Int) ≤ (-1152921504606846976 : Int))) = VT,
    evCall Try.prog 0 (bodied Try.prog) over4 sbs 1000 19 8 [] { n := 0, objs := [] } = some (VT, { n := 0, objs := [] }, [])] (by kernel_rfl)
    ⟨Dg.vtrue (by omega), by omega, rfl, i64_load xs 0 (by omega), Dg.vtrue (by omega), Dg.evCall_over (c8 _), trivial⟩
--> g5NYlo0
--< g5NYhi0
theorem g5NYhi0 (lx : Nat) (cx : Cp) (e1 : Sh) (xs : List Int) (w : Int) (b : Int) (more : Int) (byy : Int) (hi : 0 < lx) (hl : lx ≤ 200) (hc : lx ≤ cx.fst) (hzl : List.length xs = cx.fst) (hr0 : -1152921504606846976 < List.getD xs 0 0) (hr : 1152921504606846976 ≤ List.getD xs 0 0) :
    run5K 1 lI5 kO5 (G5 w b more byy (VN) (aX lx cx) (aX lx cx) undef 1 1 lx 0 [oX xs e1]) = some (Ex.ret, ({ ts := ([VI w, VI b, VI more, VN, VC 0 cx.2 lx cx.fst, VI byy] ++ (us 6 ++ ([VT, VN, VN, VN, undef, VC 0 cx.2 lx cx.fst, undef, VI (List.getD xs 0 0)] ++ (us 12 ++ (js 18 ++ ([Value.slice (some { block := 1, off := 0 }) 3 3, VI 3, VI 1, junk, junk, junk, VC 0 cx.2 lx cx.fst, VI (↑lx : Int), VI 0, VT, Value.pointer (some { block := 0, off := 0 }), VI (List.getD xs 0 0), VI (List.getD xs 0 0), VF, VF, VI (List.getD xs 0 0), VT, VT, VT] ++ (js 143))))))), H := { n := 3, objs := [AObj.cells [VI byy, VI more] 2 4 1, AObj.cells [VN, VC 0 cx.2 lx cx.fst, Value.slice (some { block := 2, off := 0 }) 2 2] 22 0 1, AObj.cells (i64s xs) e1.fst (e1.snd.fst + 4) e1.snd.snd] }, log := [] } : St)) :=
  Dg.evCode_hint (f := 5) (hs' := []) (hs := [Hint.val 5 59 (VT),
    Hint.soft 5 60 (Value.pointer (some { block := 0, off := 0 })),
    Hint.soft 5 61 (VI (List.getD xs 0 0)),
    Hint.val 5 63 (VF),
    Hint.val 5 66 (VT),
    Hint.call 8 (VT) { n := 0, objs := [] } []])
    [Value.bool (decide ((↑(0 : Nat) : Int) < (↑lx : Int))) = VT,
    (0 : Int) ≤ (↑(0 : Nat) : Int) ∧ (↑(0 : Nat) : Int) < (↑lx : Int),
    Value.pointer (some { block := (0 : Nat), off := (0 : Nat) }) = Value.pointer (some { block := (0 : Nat), off := (0 : Nat) }),
    (i64s xs)[(0 : Nat)]? = some (VI (List.getD xs (0 : Nat) (0 : Int))),
    Value.bool (decide (List.getD xs (0 : Nat) (0 : Int) ≤ (-1152921504606846976 : Int))) = VF,
    Value.bool (decide (List.getD xs (0 : Nat) (0 : Int) ≥ (1152921504606846976 : Int))) = VT,
    evCall Try.prog 0 (bodied Try.prog) over4 sbs 1000 19 8 [] { n := 0, objs := [] } = some (VT, { n := 0, objs := [] }, [])] (by kernel_rfl)
    ⟨Dg.vtrue (by omega), by omega, rfl, i64_load xs 0 (by omega), Dg.vfalse (by omega), Dg.vtrue (by omega), Dg.evCall_over (c8 _), trivial⟩
--> g5NYhi0
--< g5NY1
theorem g5NY1 (lx : Nat) (cx : Cp) (e1 : Sh) (xs : List Int) (w : Int) (b : Int) (more : Int) (byy : Int) (i : Nat) (x0 : Int) (hi : i < lx) (hl : lx ≤ 200) (hc : lx ≤ cx.fst) (hzl : List.length xs = cx.fst) (hr : -1152921504606846976 < List.getD xs i 0 ∧ List.getD xs i 0 < 1152921504606846976) :
    ∃ s', run5K 1 lI5 kO5 (G5 w b more byy (VN) (aX lx cx) (aX lx cx) (VI x0) 1 1 lx i [oX xs e1]) = some (Ex.normal, s') ∧ (cl5K 1 lI5 kO5) s' = G5 w b more byy (VN) (aX lx cx) (aX lx cx) (VI (List.getD xs i 0)) 1 1 lx (i + 1) [oX xs e1] :=
  Dg.code_round (f := 5) (cl5K 1 lI5 kO5) (hs := [Hint.val 5 59 (VT),
    Hint.soft 5 60 (Value.pointer (some { block := 0, off := i })),
    Hint.soft 5 61 (VI (List.getD xs i 0)),
    Hint.val 5 63 (VF),
    Hint.val 5 66 (VF),
    Hint.val 5 69 (VI ((↑i : Int) + 1))])
    [Value.bool (decide ((↑i : Int) < (↑lx : Int))) = VT,
    (0 : Int) ≤ (↑i : Int) ∧ (↑i : Int) < (↑lx : Int),
    Value.pointer (some { block := (0 : Nat), off := (0 : Nat) + Int.toNat (↑i : Int) * (1 : Nat) }) = Value.pointer (some { block := (0 : Nat), off := i }),
    (i64s xs)[i]? = some (VI (List.getD xs i (0 : Int))),
    Value.bool (decide (List.getD xs i (0 : Int) ≤ (-1152921504606846976 : Int))) = VF,
    Value.bool (decide (List.getD xs i (0 : Int) ≥ (1152921504606846976 : Int))) = VF,
    VI (IntKind.wrap IntKind.i64 ((↑i : Int) + (1 : Int))) = VI ((↑i : Int) + (1 : Int))] (by kernel_rfl)
    ⟨Dg.vtrue (by omega), by omega, Dg.ptr_eq (by omega), i64_load xs i (by omega), Dg.vfalse (by omega), Dg.vfalse (by omega), Dg.i64_eq rfl (by omega) (by omega), trivial⟩
--> g5NY1
--< g5NYlo1
theorem g5NYlo1 (lx : Nat) (cx : Cp) (e1 : Sh) (xs : List Int) (w : Int) (b : Int) (more : Int) (byy : Int) (i : Nat) (x0 : Int) (hi : i < lx) (hl : lx ≤ 200) (hc : lx ≤ cx.fst) (hzl : List.length xs = cx.fst) (hr : List.getD xs i 0 ≤ -1152921504606846976) :
    run5K 1 lI5 kO5 (G5 w b more byy (VN) (aX lx cx) (aX lx cx) (VI x0) 1 1 lx i [oX xs e1]) = some (Ex.ret, ({ ts := ([VI w, VI b, VI more, VN, VC 0 cx.2 lx cx.fst, VI byy] ++ (us 6 ++ ([VT, VN, VN, VN, undef, VC 0 cx.2 lx cx.fst, undef, VI (List.getD xs i 0)] ++ (us 12 ++ (js 18 ++ ([Value.slice (some { block := 1, off := 0 }) 3 3, VI 3, VI 1, junk, junk, junk, VC 0 cx.2 lx cx.fst, VI (↑lx : Int), VI (↑i : Int), VT, Value.pointer (some { block := 0, off := i }), VI (List.getD xs i 0), VI (List.getD xs i 0), VT, VT, undef, undef, VT, VT] ++ (js 143))))))), H := { n := 3, objs := [AObj.cells [VI byy, VI more] 2 4 1, AObj.cells [VN, VC 0 cx.2 lx cx.fst, Value.slice (some { block := 2, off := 0 }) 2 2] 22 0 1, AObj.cells (i64s xs) e1.fst (e1.snd.fst + 4) e1.snd.snd] }, log := [] } : St)) :=
  Dg.evCode_hint (f := 5) (hs' := []) (hs := [Hint.val 5 59 (VT),
    Hint.soft 5 60 (Value.pointer (some { block := 0, off := i })),
    Hint.soft 5 61 (VI (List.getD xs i 0)),
    Hint.val 5 63 (VT),
    Hint.call 8 (VT) { n := 0, objs := [] } []])
    [Value.bool (decide ((↑i : Int) < (↑lx : Int))) = VT,
    (0 : Int) ≤ (↑i : Int) ∧ (↑i : Int) < (↑lx : Int),
    Value.pointer (some { block := (0 : Nat), off := (0 : Nat) + Int.toNat (↑i : Int) * (1 : Nat) }) = Value.pointer (some { block := (0 : Nat), off := i }),
    (i64s xs)[i]? = some (VI (List.getD xs i (0 : Int))),
    Value.bool (decide (List.getD xs i (0 : Int) ≤ (-1152921504606846976 : Int))) = VT,
    evCall Try.prog 0 (bodied Try.prog) over4 sbs 1000 19 8 [] { n := 0, objs := [] } = some (VT, { n := 0, objs := [] }, [])] (by kernel_rfl)
    ⟨Dg.vtrue (by omega), by omega, Dg.ptr_eq (by omega), i64_load xs i (by omega), Dg.vtrue (by omega), Dg.evCall_over (c8 _), trivial⟩
--> g5NYlo1
--< g5NYhi1
theorem g5NYhi1 (lx : Nat) (cx : Cp) (e1 : Sh) (xs : List Int) (w : Int) (b : Int) (more : Int) (byy : Int) (i : Nat) (x0 : Int) (hi : i < lx) (hl : lx ≤ 200) (hc : lx ≤ cx.fst) (hzl : List.length xs = cx.fst) (hr0 : -1152921504606846976 < List.getD xs i 0) (hr : 1152921504606846976 ≤ List.getD xs i 0) :
    run5K 1 lI5 kO5 (G5 w b more byy (VN) (aX lx cx) (aX lx cx) (VI x0) 1 1 lx i [oX xs e1]) = some (Ex.ret, ({ ts := ([VI w, VI b, VI more, VN, VC 0 cx.2 lx cx.fst, VI byy] ++ (us 6 ++ ([VT, VN, VN, VN, undef, VC 0 cx.2 lx cx.fst, undef, VI (List.getD xs i 0)] ++ (us 12 ++ (js 18 ++ ([Value.slice (some { block := 1, off := 0 }) 3 3, VI 3, VI 1, junk, junk, junk, VC 0 cx.2 lx cx.fst, VI (↑lx : Int), VI (↑i : Int), VT, Value.pointer (some { block := 0, off := i }), VI (List.getD xs i 0), VI (List.getD xs i 0), VF, VF, VI (List.getD xs i 0), VT, VT, VT] ++ (js 143))))))), H := { n := 3, objs := [AObj.cells [VI byy, VI more] 2 4 1, AObj.cells [VN, VC 0 cx.2 lx cx.fst, Value.slice (some { block := 2, off := 0 }) 2 2] 22 0 1, AObj.cells (i64s xs) e1.fst (e1.snd.fst + 4) e1.snd.snd] }, log := [] } : St)) :=
  Dg.evCode_hint (f := 5) (hs' := []) (hs := [Hint.val 5 59 (VT),
    Hint.soft 5 60 (Value.pointer (some { block := 0, off := i })),
    Hint.soft 5 61 (VI (List.getD xs i 0)),
    Hint.val 5 63 (VF),
    Hint.val 5 66 (VT),
    Hint.call 8 (VT) { n := 0, objs := [] } []])
    [Value.bool (decide ((↑i : Int) < (↑lx : Int))) = VT,
    (0 : Int) ≤ (↑i : Int) ∧ (↑i : Int) < (↑lx : Int),
    Value.pointer (some { block := (0 : Nat), off := (0 : Nat) + Int.toNat (↑i : Int) * (1 : Nat) }) = Value.pointer (some { block := (0 : Nat), off := i }),
    (i64s xs)[i]? = some (VI (List.getD xs i (0 : Int))),
    Value.bool (decide (List.getD xs i (0 : Int) ≤ (-1152921504606846976 : Int))) = VF,
    Value.bool (decide (List.getD xs i (0 : Int) ≥ (1152921504606846976 : Int))) = VT,
    evCall Try.prog 0 (bodied Try.prog) over4 sbs 1000 19 8 [] { n := 0, objs := [] } = some (VT, { n := 0, objs := [] }, [])] (by kernel_rfl)
    ⟨Dg.vtrue (by omega), by omega, Dg.ptr_eq (by omega), i64_load xs i (by omega), Dg.vfalse (by omega), Dg.vtrue (by omega), Dg.evCall_over (c8 _), trivial⟩
--> g5NYhi1
--< g5NYe
theorem g5NYe (lx : Nat) (cx : Cp) (e1 : Sh) (xs : List Int) (w : Int) (b : Int) (more : Int) (byy : Int) (x : Value) :
    run5K 1 lI5 kO5 (G5 w b more byy (VN) (aX lx cx) (aX lx cx) x 1 1 lx lx [oX xs e1]) = some (Ex.exit 2, ({ ts := ([VI w, VI b, VI more, VN, VC 0 cx.2 lx cx.fst, VI byy] ++ (us 6 ++ ([VF, VN, VN, VN, undef, VC 0 cx.2 lx cx.fst, undef, x] ++ (us 12 ++ (js 18 ++ ([Value.slice (some { block := 1, off := 0 }) 3 3, VI 3, VI 1, junk, junk, junk, VC 0 cx.2 lx cx.fst, VI (↑lx : Int), VI (↑lx : Int), VF] ++ (js 152))))))), H := { n := 3, objs := [AObj.cells [VI byy, VI more] 2 4 1, AObj.cells [VN, VC 0 cx.2 lx cx.fst, Value.slice (some { block := 2, off := 0 }) 2 2] 22 0 1, AObj.cells (i64s xs) e1.fst (e1.snd.fst + 4) e1.snd.snd] }, log := [] } : St)) :=
  Dg.evCode_hint (f := 5) (hs' := []) (hs := [Hint.val 5 59 (VF)])
    [Value.bool (decide ((↑lx : Int) < (↑lx : Int))) = VF] (by kernel_rfl)
    ⟨Dg.vfalse (by omega), trivial⟩
--> g5NYe
--< a5XY0
theorem a5XY0 (lx : Nat) (cx : Cp) (ly : Nat) (cy : Cp) (e1 : Sh) (e2 : Sh) (xs : List Int) (ys : List Int) (w : Int) (b : Int) (more : Int) (byy : Int) (hi : 0 < lx) (hl : lx ≤ 200) (hc : lx ≤ cx.fst) (hzl : List.length xs = cx.fst) (hr : -1152921504606846976 < List.getD xs 0 0 ∧ List.getD xs 0 0 < 1152921504606846976) (hby : -1152921504606846976 < byy ∧ byy < 1152921504606846976) :
    ∃ s', run5K 2 lA5 [] (A5a w b more byy (aX lx cx) (aY ly cy) 2 lx [oY ys e2, oX xs e1]) = some (Ex.normal, s') ∧ (cl5K 2 lA5 []) s' = A5b w b more byy (aX lx cx) (aY ly cy) (List.getD xs 0 0) [List.getD xs 0 0 + byy] [0 - List.getD xs 0 0] 2 lx 1 [oY ys e2, oX xs e1] :=
  Dg.code_round (f := 5) (cl5K 2 lA5 []) (hs := [Hint.val 5 74 (VT),
    Hint.soft 5 75 (Value.pointer (some { block := 0, off := 0 })),
    Hint.soft 5 76 (VI (List.getD xs 0 0)),
    Hint.val 5 80 (VI (List.getD xs 0 0 + byy)),
    Hint.val 5 85 (VI (0 - List.getD xs 0 0))])
    [Value.bool (decide ((↑(0 : Nat) : Int) < (↑lx : Int))) = VT,
    (0 : Int) ≤ (↑(0 : Nat) : Int) ∧ (↑(0 : Nat) : Int) < (↑lx : Int),
    Value.pointer (some { block := (0 : Nat), off := (0 : Nat) }) = Value.pointer (some { block := (0 : Nat), off := (0 : Nat) }),
    (i64s xs)[(0 : Nat)]? = some (VI (List.getD xs (0 : Nat) (0 : Int))),
    VI (IntKind.wrap IntKind.i64 (List.getD xs (0 : Nat) (0 : Int) + byy)) = VI (List.getD xs (0 : Nat) (0 : Int) + byy),
    VI (IntKind.wrap IntKind.i64 ((0 : Int) - List.getD xs (0 : Nat) (0 : Int))) = VI ((0 : Int) - List.getD xs (0 : Nat) (0 : Int))] (by kernel_rfl)
    ⟨Dg.vtrue (by omega), by omega, rfl, i64_load xs 0 (by omega), Dg.i64_eq rfl (by omega) (by omega), Dg.i64_eq rfl (by omega) (by omega), trivial⟩
--> a5XY0
--< a5XY1
theorem a5XY1 (lx : Nat) (cx : Cp) (ly : Nat) (cy : Cp) (e1 : Sh) (e2 : Sh) (xs : List Int) (ys : List Int) (w : Int) (b : Int) (more : Int) (byy : Int) (i : Nat) (x : Int) (ms : List Int) (ts : List Int) (ha : List.length ms = i) (hd : List.length ts = i) (hi : i < lx) (hl : lx ≤ 200) (hc : lx ≤ cx.fst) (hzl : List.length xs = cx.fst) (hr : -1152921504606846976 < List.getD xs i 0 ∧ List.getD xs i 0 < 1152921504606846976) (hby : -1152921504606846976 < byy ∧ byy < 1152921504606846976) :
    ∃ s', run5K 2 lA5 [] (A5b w b more byy (aX lx cx) (aY ly cy) x ms ts 2 lx i [oY ys e2, oX xs e1]) = some (Ex.normal, s') ∧ (cl5K 2 lA5 []) s' = A5b w b more byy (aX lx cx) (aY ly cy) (List.getD xs i 0) (ms ++ [List.getD xs i 0 + byy]) (ts ++ [0 - List.getD xs i 0]) 2 lx (i + 1) [oY ys e2, oX xs e1] :=
  Dg.code_round (f := 5) (cl5K 2 lA5 []) (hs := [Hint.val 5 74 (VT),
    Hint.soft 5 75 (Value.pointer (some { block := 0, off := i })),
    Hint.soft 5 76 (VI (List.getD xs i 0)),
    Hint.val 5 80 (VI (List.getD xs i 0 + byy)),
    Hint.softH 5 82 (VS 6 (List.length (ms ++ [List.getD xs i 0 + byy])) (List.length (ms ++ [List.getD xs i 0 + byy]))) { n := 7, objs := [AObj.cells (i64s (ms ++ [List.getD xs i 0 + byy])) 2 5 1, AObj.cells [VI (List.getD xs i 0 + byy)] 2 0 1, AObj.cells [VI byy, VI more] 2 4 1, AObj.cells (i64s ts) 2 5 1, AObj.dead, AObj.cells (i64s ys) e2.fst (e2.snd.fst + 4) e2.snd.snd, AObj.cells (i64s xs) e1.fst (e1.snd.fst + 4) e1.snd.snd] } [2],
    Hint.val 5 85 (VI (0 - List.getD xs i 0)),
    Hint.softH 5 87 (VS 8 (List.length (ts ++ [0 - List.getD xs i 0])) (List.length (ts ++ [0 - List.getD xs i 0]))) { n := 9, objs := [AObj.cells (i64s (ts ++ [0 - List.getD xs i 0])) 2 5 1, AObj.cells [VI (0 - List.getD xs i 0)] 2 0 1, AObj.cells (i64s (ms ++ [List.getD xs i 0 + byy])) 2 5 1, AObj.cells [VI (List.getD xs i 0 + byy)] 2 0 1, AObj.cells [VI byy, VI more] 2 4 1, AObj.dead, AObj.dead, AObj.cells (i64s ys) e2.fst (e2.snd.fst + 4) e2.snd.snd, AObj.cells (i64s xs) e1.fst (e1.snd.fst + 4) e1.snd.snd] } [3],
    Hint.val 5 88 (VI ((↑i : Int) + 1))])
    [Value.bool (decide ((↑i : Int) < (↑lx : Int))) = VT,
    (0 : Int) ≤ (↑i : Int) ∧ (↑i : Int) < (↑lx : Int),
    Value.pointer (some { block := (0 : Nat), off := (0 : Nat) + Int.toNat (↑i : Int) * (1 : Nat) }) = Value.pointer (some { block := (0 : Nat), off := i }),
    (i64s xs)[i]? = some (VI (List.getD xs i (0 : Int))),
    VI (IntKind.wrap IntKind.i64 (List.getD xs i (0 : Int) + byy)) = VI (List.getD xs i (0 : Int) + byy),
    Dg.evAppend Try.prog { n := (6 : Nat), objs := [AObj.cells [VI (List.getD xs i (0 : Int) + byy)] (2 : Nat) (0 : Nat) (1 : Nat), AObj.cells [VI byy, VI more] (2 : Nat) (4 : Nat) (1 : Nat), AObj.cells (i64s ts) (2 : Nat) (5 : Nat) (1 : Nat), AObj.cells (i64s ms) (2 : Nat) (5 : Nat) (1 : Nat), AObj.cells (i64s ys) e2.fst (e2.snd.fst + (4 : Nat)) e2.snd.snd, AObj.cells (i64s xs) e1.fst (e1.snd.fst + (4 : Nat)) e1.snd.snd] } (22 : Nat) (22 : Nat) (Value.slice (some { block := (2 : Nat), off := (0 : Nat), spot := some (0 : Nat) }) (List.length ms) (List.length ms)) (Value.slice (some { block := (5 : Nat), off := (0 : Nat) }) (1 : Nat) (1 : Nat)) = some (Value.slice (some { block := (6 : Nat), off := (0 : Nat), spot := some (0 : Nat) }) (List.length (ms ++ [List.getD xs i (0 : Int) + byy])) (List.length (ms ++ [List.getD xs i (0 : Int) + byy])), { n := (7 : Nat), objs := [AObj.cells (i64s (ms ++ [List.getD xs i (0 : Int) + byy])) (2 : Nat) (5 : Nat) (1 : Nat), AObj.cells [VI (List.getD xs i (0 : Int) + byy)] (2 : Nat) (0 : Nat) (1 : Nat), AObj.cells [VI byy, VI more] (2 : Nat) (4 : Nat) (1 : Nat), AObj.cells (i64s ts) (2 : Nat) (5 : Nat) (1 : Nat), AObj.dead, AObj.cells (i64s ys) e2.fst (e2.snd.fst + (4 : Nat)) e2.snd.snd, AObj.cells (i64s xs) e1.fst (e1.snd.fst + (4 : Nat)) e1.snd.snd] }, [(2 : Nat)]),
    VI (IntKind.wrap IntKind.i64 ((0 : Int) - List.getD xs i (0 : Int))) = VI ((0 : Int) - List.getD xs i (0 : Int)),
    Dg.evAppend Try.prog { n := (8 : Nat), objs := [AObj.cells [VI ((0 : Int) - List.getD xs i (0 : Int))] (2 : Nat) (0 : Nat) (1 : Nat), AObj.cells (i64s (ms ++ [List.getD xs i (0 : Int) + byy])) (2 : Nat) (5 : Nat) (1 : Nat), AObj.cells [VI (List.getD xs i (0 : Int) + byy)] (2 : Nat) (0 : Nat) (1 : Nat), AObj.cells [VI byy, VI more] (2 : Nat) (4 : Nat) (1 : Nat), AObj.cells (i64s ts) (2 : Nat) (5 : Nat) (1 : Nat), AObj.dead, AObj.cells (i64s ys) e2.fst (e2.snd.fst + (4 : Nat)) e2.snd.snd, AObj.cells (i64s xs) e1.fst (e1.snd.fst + (4 : Nat)) e1.snd.snd] } (22 : Nat) (22 : Nat) (Value.slice (some { block := (3 : Nat), off := (0 : Nat), spot := some (0 : Nat) }) (List.length ts) (List.length ts)) (Value.slice (some { block := (7 : Nat), off := (0 : Nat) }) (1 : Nat) (1 : Nat)) = some (Value.slice (some { block := (8 : Nat), off := (0 : Nat), spot := some (0 : Nat) }) (List.length (ts ++ [(0 : Int) - List.getD xs i (0 : Int)])) (List.length (ts ++ [(0 : Int) - List.getD xs i (0 : Int)])), { n := (9 : Nat), objs := [AObj.cells (i64s (ts ++ [(0 : Int) - List.getD xs i (0 : Int)])) (2 : Nat) (5 : Nat) (1 : Nat), AObj.cells [VI ((0 : Int) - List.getD xs i (0 : Int))] (2 : Nat) (0 : Nat) (1 : Nat), AObj.cells (i64s (ms ++ [List.getD xs i (0 : Int) + byy])) (2 : Nat) (5 : Nat) (1 : Nat), AObj.cells [VI (List.getD xs i (0 : Int) + byy)] (2 : Nat) (0 : Nat) (1 : Nat), AObj.cells [VI byy, VI more] (2 : Nat) (4 : Nat) (1 : Nat), AObj.dead, AObj.dead, AObj.cells (i64s ys) e2.fst (e2.snd.fst + (4 : Nat)) e2.snd.snd, AObj.cells (i64s xs) e1.fst (e1.snd.fst + (4 : Nat)) e1.snd.snd] }, [(3 : Nat)]),
    VI (IntKind.wrap IntKind.i64 ((↑i : Int) + (1 : Int))) = VI ((↑i : Int) + (1 : Int))] (by kernel_rfl)
    ⟨Dg.vtrue (by omega), by omega, Dg.ptr_eq (by omega), i64_load xs i (by omega), Dg.i64_eq rfl (by omega) (by omega), app22 (os := ms) (x := (xs.getD i 0) + byy) rfl rfl rfl (by omega) (by simp) rfl rfl, Dg.i64_eq rfl (by omega) (by omega), app22 (os := ts) (x := 0 - (xs.getD i 0)) rfl rfl rfl (by omega) (by simp) rfl rfl, Dg.i64_eq rfl (by omega) (by omega), trivial⟩
--> a5XY1
--< a5XYe
theorem a5XYe (lx : Nat) (cx : Cp) (ly : Nat) (cy : Cp) (e1 : Sh) (e2 : Sh) (xs : List Int) (ys : List Int) (w : Int) (b : Int) (more : Int) (byy : Int) (x : Int) (ms : List Int) (ts : List Int) :
    run5K 2 lA5 [] (A5b w b more byy (aX lx cx) (aY ly cy) x ms ts 2 lx lx [oY ys e2, oX xs e1]) = some (Ex.exit 4, ({ ts := ([VI w, VI b, VI more, VC 0 cx.2 lx cx.fst, VC 1 cy.2 ly cy.fst, VI byy] ++ (us 6 ++ ([VF, VS 2 (List.length ms) (List.length ms), VN, VS 3 (List.length ts) (List.length ts), undef, Value.slice (some { block := 4, off := 0 }) 2 2, undef, VI more, undef, VI x] ++ (us 10 ++ (js 39 ++ ([VC 0 cx.2 lx cx.fst, VI (↑lx : Int), VI (↑lx : Int), VF] ++ (js 137))))))), H := { n := 5, objs := [AObj.cells [VI byy, VI more] 2 4 1, AObj.cells (i64s ts) 2 5 1, AObj.cells (i64s ms) 2 5 1, AObj.cells (i64s ys) e2.fst (e2.snd.fst + 4) e2.snd.snd, AObj.cells (i64s xs) e1.fst (e1.snd.fst + 4) e1.snd.snd] }, log := [] } : St)) :=
  Dg.evCode_hint (f := 5) (hs' := []) (hs := [Hint.val 5 74 (VF)])
    [Value.bool (decide ((↑lx : Int) < (↑lx : Int))) = VF] (by kernel_rfl)
    ⟨Dg.vfalse (by omega), trivial⟩
--> a5XYe
--< a5XN0
theorem a5XN0 (lx : Nat) (cx : Cp) (e1 : Sh) (xs : List Int) (w : Int) (b : Int) (more : Int) (byy : Int) (hi : 0 < lx) (hl : lx ≤ 200) (hc : lx ≤ cx.fst) (hzl : List.length xs = cx.fst) (hr : -1152921504606846976 < List.getD xs 0 0 ∧ List.getD xs 0 0 < 1152921504606846976) (hby : -1152921504606846976 < byy ∧ byy < 1152921504606846976) :
    ∃ s', run5K 1 lA5 [] (A5a w b more byy (aX lx cx) (VN) 1 lx [oX xs e1]) = some (Ex.normal, s') ∧ (cl5K 1 lA5 []) s' = A5b w b more byy (aX lx cx) (VN) (List.getD xs 0 0) [List.getD xs 0 0 + byy] [0 - List.getD xs 0 0] 1 lx 1 [oX xs e1] :=
  Dg.code_round (f := 5) (cl5K 1 lA5 []) (hs := [Hint.val 5 74 (VT),
    Hint.soft 5 75 (Value.pointer (some { block := 0, off := 0 })),
    Hint.soft 5 76 (VI (List.getD xs 0 0)),
    Hint.val 5 80 (VI (List.getD xs 0 0 + byy)),
    Hint.val 5 85 (VI (0 - List.getD xs 0 0))])
    [Value.bool (decide ((↑(0 : Nat) : Int) < (↑lx : Int))) = VT,
    (0 : Int) ≤ (↑(0 : Nat) : Int) ∧ (↑(0 : Nat) : Int) < (↑lx : Int),
    Value.pointer (some { block := (0 : Nat), off := (0 : Nat) }) = Value.pointer (some { block := (0 : Nat), off := (0 : Nat) }),
    (i64s xs)[(0 : Nat)]? = some (VI (List.getD xs (0 : Nat) (0 : Int))),
    VI (IntKind.wrap IntKind.i64 (List.getD xs (0 : Nat) (0 : Int) + byy)) = VI (List.getD xs (0 : Nat) (0 : Int) + byy),
    VI (IntKind.wrap IntKind.i64 ((0 : Int) - List.getD xs (0 : Nat) (0 : Int))) = VI ((0 : Int) - List.getD xs (0 : Nat) (0 : Int))] (by kernel_rfl)
    ⟨Dg.vtrue (by omega), by omega, rfl, i64_load xs 0 (by omega), Dg.i64_eq rfl (by omega) (by omega), Dg.i64_eq rfl (by omega) (by omega), trivial⟩
--> a5XN0
--< a5XN1
theorem a5XN1 (lx : Nat) (cx : Cp) (e1 : Sh) (xs : List Int) (w : Int) (b : Int) (more : Int) (byy : Int) (i : Nat) (x : Int) (ms : List Int) (ts : List Int) (ha : List.length ms = i) (hd : List.length ts = i) (hi : i < lx) (hl : lx ≤ 200) (hc : lx ≤ cx.fst) (hzl : List.length xs = cx.fst) (hr : -1152921504606846976 < List.getD xs i 0 ∧ List.getD xs i 0 < 1152921504606846976) (hby : -1152921504606846976 < byy ∧ byy < 1152921504606846976) :
    ∃ s', run5K 1 lA5 [] (A5b w b more byy (aX lx cx) (VN) x ms ts 1 lx i [oX xs e1]) = some (Ex.normal, s') ∧ (cl5K 1 lA5 []) s' = A5b w b more byy (aX lx cx) (VN) (List.getD xs i 0) (ms ++ [List.getD xs i 0 + byy]) (ts ++ [0 - List.getD xs i 0]) 1 lx (i + 1) [oX xs e1] :=
  Dg.code_round (f := 5) (cl5K 1 lA5 []) (hs := [Hint.val 5 74 (VT),
    Hint.soft 5 75 (Value.pointer (some { block := 0, off := i })),
    Hint.soft 5 76 (VI (List.getD xs i 0)),
    Hint.val 5 80 (VI (List.getD xs i 0 + byy)),
    Hint.softH 5 82 (VS 5 (List.length (ms ++ [List.getD xs i 0 + byy])) (List.length (ms ++ [List.getD xs i 0 + byy]))) { n := 6, objs := [AObj.cells (i64s (ms ++ [List.getD xs i 0 + byy])) 2 5 1, AObj.cells [VI (List.getD xs i 0 + byy)] 2 0 1, AObj.cells [VI byy, VI more] 2 4 1, AObj.cells (i64s ts) 2 5 1, AObj.dead, AObj.cells (i64s xs) e1.fst (e1.snd.fst + 4) e1.snd.snd] } [1],
    Hint.val 5 85 (VI (0 - List.getD xs i 0)),
    Hint.softH 5 87 (VS 7 (List.length (ts ++ [0 - List.getD xs i 0])) (List.length (ts ++ [0 - List.getD xs i 0]))) { n := 8, objs := [AObj.cells (i64s (ts ++ [0 - List.getD xs i 0])) 2 5 1, AObj.cells [VI (0 - List.getD xs i 0)] 2 0 1, AObj.cells (i64s (ms ++ [List.getD xs i 0 + byy])) 2 5 1, AObj.cells [VI (List.getD xs i 0 + byy)] 2 0 1, AObj.cells [VI byy, VI more] 2 4 1, AObj.dead, AObj.dead, AObj.cells (i64s xs) e1.fst (e1.snd.fst + 4) e1.snd.snd] } [2],
    Hint.val 5 88 (VI ((↑i : Int) + 1))])
    [Value.bool (decide ((↑i : Int) < (↑lx : Int))) = VT,
    (0 : Int) ≤ (↑i : Int) ∧ (↑i : Int) < (↑lx : Int),
    Value.pointer (some { block := (0 : Nat), off := (0 : Nat) + Int.toNat (↑i : Int) * (1 : Nat) }) = Value.pointer (some { block := (0 : Nat), off := i }),
    (i64s xs)[i]? = some (VI (List.getD xs i (0 : Int))),
    VI (IntKind.wrap IntKind.i64 (List.getD xs i (0 : Int) + byy)) = VI (List.getD xs i (0 : Int) + byy),
    Dg.evAppend Try.prog { n := (5 : Nat), objs := [AObj.cells [VI (List.getD xs i (0 : Int) + byy)] (2 : Nat) (0 : Nat) (1 : Nat), AObj.cells [VI byy, VI more] (2 : Nat) (4 : Nat) (1 : Nat), AObj.cells (i64s ts) (2 : Nat) (5 : Nat) (1 : Nat), AObj.cells (i64s ms) (2 : Nat) (5 : Nat) (1 : Nat), AObj.cells (i64s xs) e1.fst (e1.snd.fst + (4 : Nat)) e1.snd.snd] } (22 : Nat) (22 : Nat) (Value.slice (some { block := (1 : Nat), off := (0 : Nat), spot := some (0 : Nat) }) (List.length ms) (List.length ms)) (Value.slice (some { block := (4 : Nat), off := (0 : Nat) }) (1 : Nat) (1 : Nat)) = some (Value.slice (some { block := (5 : Nat), off := (0 : Nat), spot := some (0 : Nat) }) (List.length (ms ++ [List.getD xs i (0 : Int) + byy])) (List.length (ms ++ [List.getD xs i (0 : Int) + byy])), { n := (6 : Nat), objs := [AObj.cells (i64s (ms ++ [List.getD xs i (0 : Int) + byy])) (2 : Nat) (5 : Nat) (1 : Nat), AObj.cells [VI (List.getD xs i (0 : Int) + byy)] (2 : Nat) (0 : Nat) (1 : Nat), AObj.cells [VI byy, VI more] (2 : Nat) (4 : Nat) (1 : Nat), AObj.cells (i64s ts) (2 : Nat) (5 : Nat) (1 : Nat), AObj.dead, AObj.cells (i64s xs) e1.fst (e1.snd.fst + (4 : Nat)) e1.snd.snd] }, [(1 : Nat)]),
    VI (IntKind.wrap IntKind.i64 ((0 : Int) - List.getD xs i (0 : Int))) = VI ((0 : Int) - List.getD xs i (0 : Int)),
    Dg.evAppend Try.prog { n := (7 : Nat), objs := [AObj.cells [VI ((0 : Int) - List.getD xs i (0 : Int))] (2 : Nat) (0 : Nat) (1 : Nat), AObj.cells (i64s (ms ++ [List.getD xs i (0 : Int) + byy])) (2 : Nat) (5 : Nat) (1 : Nat), AObj.cells [VI (List.getD xs i (0 : Int) + byy)] (2 : Nat) (0 : Nat) (1 : Nat), AObj.cells [VI byy, VI more] (2 : Nat) (4 : Nat) (1 : Nat), AObj.cells (i64s ts) (2 : Nat) (5 : Nat) (1 : Nat), AObj.dead, AObj.cells (i64s xs) e1.fst (e1.snd.fst + (4 : Nat)) e1.snd.snd] } (22 : Nat) (22 : Nat) (Value.slice (some { block := (2 : Nat), off := (0 : Nat), spot := some (0 : Nat) }) (List.length ts) (List.length ts)) (Value.slice (some { block := (6 : Nat), off := (0 : Nat) }) (1 : Nat) (1 : Nat)) = some (Value.slice (some { block := (7 : Nat), off := (0 : Nat), spot := some (0 : Nat) }) (List.length (ts ++ [(0 : Int) - List.getD xs i (0 : Int)])) (List.length (ts ++ [(0 : Int) - List.getD xs i (0 : Int)])), { n := (8 : Nat), objs := [AObj.cells (i64s (ts ++ [(0 : Int) - List.getD xs i (0 : Int)])) (2 : Nat) (5 : Nat) (1 : Nat), AObj.cells [VI ((0 : Int) - List.getD xs i (0 : Int))] (2 : Nat) (0 : Nat) (1 : Nat), AObj.cells (i64s (ms ++ [List.getD xs i (0 : Int) + byy])) (2 : Nat) (5 : Nat) (1 : Nat), AObj.cells [VI (List.getD xs i (0 : Int) + byy)] (2 : Nat) (0 : Nat) (1 : Nat), AObj.cells [VI byy, VI more] (2 : Nat) (4 : Nat) (1 : Nat), AObj.dead, AObj.dead, AObj.cells (i64s xs) e1.fst (e1.snd.fst + (4 : Nat)) e1.snd.snd] }, [(2 : Nat)]),
    VI (IntKind.wrap IntKind.i64 ((↑i : Int) + (1 : Int))) = VI ((↑i : Int) + (1 : Int))] (by kernel_rfl)
    ⟨Dg.vtrue (by omega), by omega, Dg.ptr_eq (by omega), i64_load xs i (by omega), Dg.i64_eq rfl (by omega) (by omega), app22 (os := ms) (x := (xs.getD i 0) + byy) rfl rfl rfl (by omega) (by simp) rfl rfl, Dg.i64_eq rfl (by omega) (by omega), app22 (os := ts) (x := 0 - (xs.getD i 0)) rfl rfl rfl (by omega) (by simp) rfl rfl, Dg.i64_eq rfl (by omega) (by omega), trivial⟩
--> a5XN1
--< a5XNe
theorem a5XNe (lx : Nat) (cx : Cp) (e1 : Sh) (xs : List Int) (w : Int) (b : Int) (more : Int) (byy : Int) (x : Int) (ms : List Int) (ts : List Int) :
    run5K 1 lA5 [] (A5b w b more byy (aX lx cx) (VN) x ms ts 1 lx lx [oX xs e1]) = some (Ex.exit 4, ({ ts := ([VI w, VI b, VI more, VC 0 cx.2 lx cx.fst, VN, VI byy] ++ (us 6 ++ ([VF, VS 1 (List.length ms) (List.length ms), VN, VS 2 (List.length ts) (List.length ts), undef, Value.slice (some { block := 3, off := 0 }) 2 2, undef, VI more, undef, VI x] ++ (us 10 ++ (js 39 ++ ([VC 0 cx.2 lx cx.fst, VI (↑lx : Int), VI (↑lx : Int), VF] ++ (js 137))))))), H := { n := 4, objs := [AObj.cells [VI byy, VI more] 2 4 1, AObj.cells (i64s ts) 2 5 1, AObj.cells (i64s ms) 2 5 1, AObj.cells (i64s xs) e1.fst (e1.snd.fst + 4) e1.snd.snd] }, log := [] } : St)) :=
  Dg.evCode_hint (f := 5) (hs' := []) (hs := [Hint.val 5 74 (VF)])
    [Value.bool (decide ((↑lx : Int) < (↑lx : Int))) = VF] (by kernel_rfl)
    ⟨Dg.vfalse (by omega), trivial⟩
--> a5XNe
--< b5m0
theorem b5m0 (lx : Nat) (cx : Cp) (ly : Nat) (cy : Cp) (e1 : Sh) (e2 : Sh) (xs : List Int) (ys : List Int) (w : Int) (b : Int) (more : Int) (byy : Int) (x : Int) (ms : List Int) (ts : List Int) (hi : 0 < ly) (hl : ly ≤ 200) (hc : ly ≤ cy.fst) (hzl : List.length ys = cy.fst) (hr : -1152921504606846976 < List.getD ys 0 0 ∧ List.getD ys 0 0 < 1152921504606846976) (hby : -1152921504606846976 < byy ∧ byy < 1152921504606846976) :
    ∃ s', run5K 2 lB5 [] (Bm5a w b more byy (aX lx cx) (aY ly cy) x ms ts 2 ly [oY ys e2, oX xs e1]) = some (Ex.normal, s') ∧ (cl5K 2 lB5 []) s' = Bm5b w b more byy (aX lx cx) (aY ly cy) x (List.getD ys 0 0) ms [List.getD ys 0 0 + byy] ts 2 ly 1 [oY ys e2, oX xs e1] :=
  Dg.code_round (f := 5) (cl5K 2 lB5 []) (hs := [Hint.val 5 92 (VT),
    Hint.soft 5 93 (Value.pointer (some { block := 1, off := 0 })),
    Hint.soft 5 94 (VI (List.getD ys 0 0)),
    Hint.val 5 98 (VI (List.getD ys 0 0 + byy))])
    [Value.bool (decide ((↑(0 : Nat) : Int) < (↑ly : Int))) = VT,
    (0 : Int) ≤ (↑(0 : Nat) : Int) ∧ (↑(0 : Nat) : Int) < (↑ly : Int),
    Value.pointer (some { block := (1 : Nat), off := (0 : Nat) }) = Value.pointer (some { block := (1 : Nat), off := (0 : Nat) }),
    (i64s ys)[(0 : Nat)]? = some (VI (List.getD ys (0 : Nat) (0 : Int))),
    VI (IntKind.wrap IntKind.i64 (List.getD ys (0 : Nat) (0 : Int) + byy)) = VI (List.getD ys (0 : Nat) (0 : Int) + byy)] (by kernel_rfl)
    ⟨Dg.vtrue (by omega), by omega, rfl, i64_load ys 0 (by omega), Dg.i64_eq rfl (by omega) (by omega), trivial⟩
--> b5m0
--< b5m1
theorem b5m1 (lx : Nat) (cx : Cp) (ly : Nat) (cy : Cp) (e1 : Sh) (e2 : Sh) (xs : List Int) (ys : List Int) (w : Int) (b : Int) (more : Int) (byy : Int) (x : Int) (ms : List Int) (ts : List Int) (i : Nat) (y : Int) (ss : List Int) (ha : List.length ss = i) (hi : i < ly) (hl : ly ≤ 200) (hc : ly ≤ cy.fst) (hzl : List.length ys = cy.fst) (hr : -1152921504606846976 < List.getD ys i 0 ∧ List.getD ys i 0 < 1152921504606846976) (hby : -1152921504606846976 < byy ∧ byy < 1152921504606846976) :
    ∃ s', run5K 2 lB5 [] (Bm5b w b more byy (aX lx cx) (aY ly cy) x y ms ss ts 2 ly i [oY ys e2, oX xs e1]) = some (Ex.normal, s') ∧ (cl5K 2 lB5 []) s' = Bm5b w b more byy (aX lx cx) (aY ly cy) x (List.getD ys i 0) ms (ss ++ [List.getD ys i 0 + byy]) ts 2 ly (i + 1) [oY ys e2, oX xs e1] :=
  Dg.code_round (f := 5) (cl5K 2 lB5 []) (hs := [Hint.val 5 92 (VT),
    Hint.soft 5 93 (Value.pointer (some { block := 1, off := i })),
    Hint.soft 5 94 (VI (List.getD ys i 0)),
    Hint.val 5 98 (VI (List.getD ys i 0 + byy)),
    Hint.softH 5 100 (VS 7 (List.length (ss ++ [List.getD ys i 0 + byy])) (List.length (ss ++ [List.getD ys i 0 + byy]))) { n := 8, objs := [AObj.cells (i64s (ss ++ [List.getD ys i 0 + byy])) 2 5 1, AObj.cells [VI (List.getD ys i 0 + byy)] 2 0 1, AObj.cells [VI byy, VI more] 2 4 1, AObj.cells (i64s ts) 2 5 1, AObj.dead, AObj.cells (i64s ms) 2 5 1, AObj.cells (i64s ys) e2.fst (e2.snd.fst + 4) e2.snd.snd, AObj.cells (i64s xs) e1.fst (e1.snd.fst + 4) e1.snd.snd] } [3],
    Hint.val 5 101 (VI ((↑i : Int) + 1))])
    [Value.bool (decide ((↑i : Int) < (↑ly : Int))) = VT,
    (0 : Int) ≤ (↑i : Int) ∧ (↑i : Int) < (↑ly : Int),
    Value.pointer (some { block := (1 : Nat), off := (0 : Nat) + Int.toNat (↑i : Int) * (1 : Nat) }) = Value.pointer (some { block := (1 : Nat), off := i }),
    (i64s ys)[i]? = some (VI (List.getD ys i (0 : Int))),
    VI (IntKind.wrap IntKind.i64 (List.getD ys i (0 : Int) + byy)) = VI (List.getD ys i (0 : Int) + byy),
    Dg.evAppend Try.prog { n := (7 : Nat), objs := [AObj.cells [VI (List.getD ys i (0 : Int) + byy)] (2 : Nat) (0 : Nat) (1 : Nat), AObj.cells [VI byy, VI more] (2 : Nat) (4 : Nat) (1 : Nat), AObj.cells (i64s ts) (2 : Nat) (5 : Nat) (1 : Nat), AObj.cells (i64s ss) (2 : Nat) (5 : Nat) (1 : Nat), AObj.cells (i64s ms) (2 : Nat) (5 : Nat) (1 : Nat), AObj.cells (i64s ys) e2.fst (e2.snd.fst + (4 : Nat)) e2.snd.snd, AObj.cells (i64s xs) e1.fst (e1.snd.fst + (4 : Nat)) e1.snd.snd] } (22 : Nat) (22 : Nat) (Value.slice (some { block := (3 : Nat), off := (0 : Nat), spot := some (0 : Nat) }) (List.length ss) (List.length ss)) (Value.slice (some { block := (6 : Nat), off := (0 : Nat) }) (1 : Nat) (1 : Nat)) = some (Value.slice (some { block := (7 : Nat), off := (0 : Nat), spot := some (0 : Nat) }) (List.length (ss ++ [List.getD ys i (0 : Int) + byy])) (List.length (ss ++ [List.getD ys i (0 : Int) + byy])), { n := (8 : Nat), objs := [AObj.cells (i64s (ss ++ [List.getD ys i (0 : Int) + byy])) (2 : Nat) (5 : Nat) (1 : Nat), AObj.cells [VI (List.getD ys i (0 : Int) + byy)] (2 : Nat) (0 : Nat) (1 : Nat), AObj.cells [VI byy, VI more] (2 : Nat) (4 : Nat) (1 : Nat), AObj.cells (i64s ts) (2 : Nat) (5 : Nat) (1 : Nat), AObj.dead, AObj.cells (i64s ms) (2 : Nat) (5 : Nat) (1 : Nat), AObj.cells (i64s ys) e2.fst (e2.snd.fst + (4 : Nat)) e2.snd.snd, AObj.cells (i64s xs) e1.fst (e1.snd.fst + (4 : Nat)) e1.snd.snd] }, [(3 : Nat)]),
    VI (IntKind.wrap IntKind.i64 ((↑i : Int) + (1 : Int))) = VI ((↑i : Int) + (1 : Int))] (by kernel_rfl)
    ⟨Dg.vtrue (by omega), by omega, Dg.ptr_eq (by omega), i64_load ys i (by omega), Dg.i64_eq rfl (by omega) (by omega), app22 (os := ss) (x := (ys.getD i 0) + byy) rfl rfl rfl (by omega) (by simp) rfl rfl, Dg.i64_eq rfl (by omega) (by omega), trivial⟩
--> b5m1
--< b5me
theorem b5me (lx : Nat) (cx : Cp) (ly : Nat) (cy : Cp) (e1 : Sh) (e2 : Sh) (xs : List Int) (ys : List Int) (w : Int) (b : Int) (more : Int) (byy : Int) (x : Int) (ms : List Int) (ts : List Int) (y : Int) (ss : List Int) :
    run5K 2 lB5 [] (Bm5b w b more byy (aX lx cx) (aY ly cy) x y ms ss ts 2 ly ly [oY ys e2, oX xs e1]) = some (Ex.exit 6, ({ ts := ([VI w, VI b, VI more, VC 0 cx.2 lx cx.fst, VC 1 cy.2 ly cy.fst, VI byy] ++ (us 6 ++ ([VF, VS 2 (List.length ms) (List.length ms), VS 3 (List.length ss) (List.length ss), VS 4 (List.length ts) (List.length ts), undef, Value.slice (some { block := 5, off := 0 }) 2 2, undef, VI more, undef, VI x, undef, VI y] ++ (us 8 ++ (js 57 ++ ([VC 1 cy.2 ly cy.fst, VI (↑ly : Int), VI (↑ly : Int), VF] ++ (js 119))))))), H := { n := 6, objs := [AObj.cells [VI byy, VI more] 2 4 1, AObj.cells (i64s ts) 2 5 1, AObj.cells (i64s ss) 2 5 1, AObj.cells (i64s ms) 2 5 1, AObj.cells (i64s ys) e2.fst (e2.snd.fst + 4) e2.snd.snd, AObj.cells (i64s xs) e1.fst (e1.snd.fst + 4) e1.snd.snd] }, log := [] } : St)) :=
  Dg.evCode_hint (f := 5) (hs' := []) (hs := [Hint.val 5 92 (VF)])
    [Value.bool (decide ((↑ly : Int) < (↑ly : Int))) = VF] (by kernel_rfl)
    ⟨Dg.vfalse (by omega), trivial⟩
--> b5me
--< b5z0
theorem b5z0 (lx : Nat) (cx : Cp) (ly : Nat) (cy : Cp) (e1 : Sh) (e2 : Sh) (xs : List Int) (ys : List Int) (w : Int) (b : Int) (more : Int) (byy : Int) (hi : 0 < ly) (hl : ly ≤ 200) (hc : ly ≤ cy.fst) (hzl : List.length ys = cy.fst) (hr : -1152921504606846976 < List.getD ys 0 0 ∧ List.getD ys 0 0 < 1152921504606846976) (hby : -1152921504606846976 < byy ∧ byy < 1152921504606846976) :
    ∃ s', run5K 2 lB5 [] (Bz5a w b more byy (aX lx cx) (aY ly cy) 2 ly [oY ys e2, oX xs e1]) = some (Ex.normal, s') ∧ (cl5K 2 lB5 []) s' = Bz5b w b more byy (aX lx cx) (aY ly cy) (List.getD ys 0 0) [List.getD ys 0 0 + byy] 2 ly 1 [oY ys e2, oX xs e1] :=
  Dg.code_round (f := 5) (cl5K 2 lB5 []) (hs := [Hint.val 5 92 (VT),
    Hint.soft 5 93 (Value.pointer (some { block := 1, off := 0 })),
    Hint.soft 5 94 (VI (List.getD ys 0 0)),
    Hint.val 5 98 (VI (List.getD ys 0 0 + byy))])
    [Value.bool (decide ((↑(0 : Nat) : Int) < (↑ly : Int))) = VT,
    (0 : Int) ≤ (↑(0 : Nat) : Int) ∧ (↑(0 : Nat) : Int) < (↑ly : Int),
    Value.pointer (some { block := (1 : Nat), off := (0 : Nat) }) = Value.pointer (some { block := (1 : Nat), off := (0 : Nat) }),
    (i64s ys)[(0 : Nat)]? = some (VI (List.getD ys (0 : Nat) (0 : Int))),
    VI (IntKind.wrap IntKind.i64 (List.getD ys (0 : Nat) (0 : Int) + byy)) = VI (List.getD ys (0 : Nat) (0 : Int) + byy)] (by kernel_rfl)
    ⟨Dg.vtrue (by omega), by omega, rfl, i64_load ys 0 (by omega), Dg.i64_eq rfl (by omega) (by omega), trivial⟩
--> b5z0
--< b5z1
theorem b5z1 (lx : Nat) (cx : Cp) (ly : Nat) (cy : Cp) (e1 : Sh) (e2 : Sh) (xs : List Int) (ys : List Int) (w : Int) (b : Int) (more : Int) (byy : Int) (i : Nat) (y : Int) (ss : List Int) (ha : List.length ss = i) (hi : i < ly) (hl : ly ≤ 200) (hc : ly ≤ cy.fst) (hzl : List.length ys = cy.fst) (hr : -1152921504606846976 < List.getD ys i 0 ∧ List.getD ys i 0 < 1152921504606846976) (hby : -1152921504606846976 < byy ∧ byy < 1152921504606846976) :
    ∃ s', run5K 2 lB5 [] (Bz5b w b more byy (aX lx cx) (aY ly cy) y ss 2 ly i [oY ys e2, oX xs e1]) = some (Ex.normal, s') ∧ (cl5K 2 lB5 []) s' = Bz5b w b more byy (aX lx cx) (aY ly cy) (List.getD ys i 0) (ss ++ [List.getD ys i 0 + byy]) 2 ly (i + 1) [oY ys e2, oX xs e1] :=
  Dg.code_round (f := 5) (cl5K 2 lB5 []) (hs := [Hint.val 5 92 (VT),
    Hint.soft 5 93 (Value.pointer (some { block := 1, off := i })),
    Hint.soft 5 94 (VI (List.getD ys i 0)),
    Hint.val 5 98 (VI (List.getD ys i 0 + byy)),
    Hint.softH 5 100 (VS 5 (List.length (ss ++ [List.getD ys i 0 + byy])) (List.length (ss ++ [List.getD ys i 0 + byy]))) { n := 6, objs := [AObj.cells (i64s (ss ++ [List.getD ys i 0 + byy])) 2 5 1, AObj.cells [VI (List.getD ys i 0 + byy)] 2 0 1, AObj.cells [VI byy, VI more] 2 4 1, AObj.dead, AObj.cells (i64s ys) e2.fst (e2.snd.fst + 4) e2.snd.snd, AObj.cells (i64s xs) e1.fst (e1.snd.fst + 4) e1.snd.snd] } [2],
    Hint.val 5 101 (VI ((↑i : Int) + 1))])
    [Value.bool (decide ((↑i : Int) < (↑ly : Int))) = VT,
    (0 : Int) ≤ (↑i : Int) ∧ (↑i : Int) < (↑ly : Int),
    Value.pointer (some { block := (1 : Nat), off := (0 : Nat) + Int.toNat (↑i : Int) * (1 : Nat) }) = Value.pointer (some { block := (1 : Nat), off := i }),
    (i64s ys)[i]? = some (VI (List.getD ys i (0 : Int))),
    VI (IntKind.wrap IntKind.i64 (List.getD ys i (0 : Int) + byy)) = VI (List.getD ys i (0 : Int) + byy),
    Dg.evAppend Try.prog { n := (5 : Nat), objs := [AObj.cells [VI (List.getD ys i (0 : Int) + byy)] (2 : Nat) (0 : Nat) (1 : Nat), AObj.cells [VI byy, VI more] (2 : Nat) (4 : Nat) (1 : Nat), AObj.cells (i64s ss) (2 : Nat) (5 : Nat) (1 : Nat), AObj.cells (i64s ys) e2.fst (e2.snd.fst + (4 : Nat)) e2.snd.snd, AObj.cells (i64s xs) e1.fst (e1.snd.fst + (4 : Nat)) e1.snd.snd] } (22 : Nat) (22 : Nat) (Value.slice (some { block := (2 : Nat), off := (0 : Nat), spot := some (0 : Nat) }) (List.length ss) (List.length ss)) (Value.slice (some { block := (4 : Nat), off := (0 : Nat) }) (1 : Nat) (1 : Nat)) = some (Value.slice (some { block := (5 : Nat), off := (0 : Nat), spot := some (0 : Nat) }) (List.length (ss ++ [List.getD ys i (0 : Int) + byy])) (List.length (ss ++ [List.getD ys i (0 : Int) + byy])), { n := (6 : Nat), objs := [AObj.cells (i64s (ss ++ [List.getD ys i (0 : Int) + byy])) (2 : Nat) (5 : Nat) (1 : Nat), AObj.cells [VI (List.getD ys i (0 : Int) + byy)] (2 : Nat) (0 : Nat) (1 : Nat), AObj.cells [VI byy, VI more] (2 : Nat) (4 : Nat) (1 : Nat), AObj.dead, AObj.cells (i64s ys) e2.fst (e2.snd.fst + (4 : Nat)) e2.snd.snd, AObj.cells (i64s xs) e1.fst (e1.snd.fst + (4 : Nat)) e1.snd.snd] }, [(2 : Nat)]),
    VI (IntKind.wrap IntKind.i64 ((↑i : Int) + (1 : Int))) = VI ((↑i : Int) + (1 : Int))] (by kernel_rfl)
    ⟨Dg.vtrue (by omega), by omega, Dg.ptr_eq (by omega), i64_load ys i (by omega), Dg.i64_eq rfl (by omega) (by omega), app22 (os := ss) (x := (ys.getD i 0) + byy) rfl rfl rfl (by omega) (by simp) rfl rfl, Dg.i64_eq rfl (by omega) (by omega), trivial⟩
--> b5z1
--< b5ze
theorem b5ze (lx : Nat) (cx : Cp) (ly : Nat) (cy : Cp) (e1 : Sh) (e2 : Sh) (xs : List Int) (ys : List Int) (w : Int) (b : Int) (more : Int) (byy : Int) (y : Int) (ss : List Int) :
    run5K 2 lB5 [] (Bz5b w b more byy (aX lx cx) (aY ly cy) y ss 2 ly ly [oY ys e2, oX xs e1]) = some (Ex.exit 6, ({ ts := ([VI w, VI b, VI more, VC 0 cx.2 lx cx.fst, VC 1 cy.2 ly cy.fst, VI byy] ++ (us 6 ++ ([VF, VN, VS 2 (List.length ss) (List.length ss), VN, undef, Value.slice (some { block := 3, off := 0 }) 2 2, undef, VI more, undef, undef, undef, VI y] ++ (us 8 ++ (js 57 ++ ([VC 1 cy.2 ly cy.fst, VI (↑ly : Int), VI (↑ly : Int), VF] ++ (js 119))))))), H := { n := 4, objs := [AObj.cells [VI byy, VI more] 2 4 1, AObj.cells (i64s ss) 2 5 1, AObj.cells (i64s ys) e2.fst (e2.snd.fst + 4) e2.snd.snd, AObj.cells (i64s xs) e1.fst (e1.snd.fst + 4) e1.snd.snd] }, log := [] } : St)) :=
  Dg.evCode_hint (f := 5) (hs' := []) (hs := [Hint.val 5 92 (VF)])
    [Value.bool (decide ((↑ly : Int) < (↑ly : Int))) = VF] (by kernel_rfl)
    ⟨Dg.vfalse (by omega), trivial⟩
--> b5ze
--< b5n0
theorem b5n0 (lx : Nat) (cx : Cp) (e1 : Sh) (xs : List Int) (w : Int) (b : Int) (more : Int) (byy : Int) (hi : 0 < lx) (hl : lx ≤ 200) (hc : lx ≤ cx.fst) (hzl : List.length xs = cx.fst) (hr : -1152921504606846976 < List.getD xs 0 0 ∧ List.getD xs 0 0 < 1152921504606846976) (hby : -1152921504606846976 < byy ∧ byy < 1152921504606846976) :
    ∃ s', run5K 1 lB5 [] (Bz5a w b more byy (VN) (aX lx cx) 1 lx [oX xs e1]) = some (Ex.normal, s') ∧ (cl5K 1 lB5 []) s' = Bz5b w b more byy (VN) (aX lx cx) (List.getD xs 0 0) [List.getD xs 0 0 + byy] 1 lx 1 [oX xs e1] :=
  Dg.code_round (f := 5) (cl5K 1 lB5 []) (hs := [Hint.val 5 92 (VT),
    Hint.soft 5 93 (Value.pointer (some { block := 0, off := 0 })),
    Hint.soft 5 94 (VI (List.getD xs 0 0)),
    Hint.val 5 98 (VI (List.getD xs 0 0 + byy))])
    [Value.bool (decide ((↑(0 : Nat) : Int) < (↑lx : Int))) = VT,
    (0 : Int) ≤ (↑(0 : Nat) : Int) ∧ (↑(0 : Nat) : Int) < (↑lx : Int),
    Value.pointer (some { block := (0 : Nat), off := (0 : Nat) }) = Value.pointer (some { block := (0 : Nat), off := (0 : Nat) }),
    (i64s xs)[(0 : Nat)]? = some (VI (List.getD xs (0 : Nat) (0 : Int))),
    VI (IntKind.wrap IntKind.i64 (List.getD xs (0 : Nat) (0 : Int) + byy)) = VI (List.getD xs (0 : Nat) (0 : Int) + byy)] (by kernel_rfl)
    ⟨Dg.vtrue (by omega), by omega, rfl, i64_load xs 0 (by omega), Dg.i64_eq rfl (by omega) (by omega), trivial⟩
--> b5n0
--< b5n1
theorem b5n1 (lx : Nat) (cx : Cp) (e1 : Sh) (xs : List Int) (w : Int) (b : Int) (more : Int) (byy : Int) (i : Nat) (y : Int) (ss : List Int) (ha : List.length ss = i) (hi : i < lx) (hl : lx ≤ 200) (hc : lx ≤ cx.fst) (hzl : List.length xs = cx.fst) (hr : -1152921504606846976 < List.getD xs i 0 ∧ List.getD xs i 0 < 1152921504606846976) (hby : -1152921504606846976 < byy ∧ byy < 1152921504606846976) :
    ∃ s', run5K 1 lB5 [] (Bz5b w b more byy (VN) (aX lx cx) y ss 1 lx i [oX xs e1]) = some (Ex.normal, s') ∧ (cl5K 1 lB5 []) s' = Bz5b w b more byy (VN) (aX lx cx) (List.getD xs i 0) (ss ++ [List.getD xs i 0 + byy]) 1 lx (i + 1) [oX xs e1] :=
  Dg.code_round (f := 5) (cl5K 1 lB5 []) (hs := [Hint.val 5 92 (VT),
    Hint.soft 5 93 (Value.pointer (some { block := 0, off := i })),
    Hint.soft 5 94 (VI (List.getD xs i 0)),
    Hint.val 5 98 (VI (List.getD xs i 0 + byy)),
    Hint.softH 5 100 (VS 4 (List.length (ss ++ [List.getD xs i 0 + byy])) (List.length (ss ++ [List.getD xs i 0 + byy]))) { n := 5, objs := [AObj.cells (i64s (ss ++ [List.getD xs i 0 + byy])) 2 5 1, AObj.cells [VI (List.getD xs i 0 + byy)] 2 0 1, AObj.cells [VI byy, VI more] 2 4 1, AObj.dead, AObj.cells (i64s xs) e1.fst (e1.snd.fst + 4) e1.snd.snd] } [1],
    Hint.val 5 101 (VI ((↑i : Int) + 1))])
    [Value.bool (decide ((↑i : Int) < (↑lx : Int))) = VT,
    (0 : Int) ≤ (↑i : Int) ∧ (↑i : Int) < (↑lx : Int),
    Value.pointer (some { block := (0 : Nat), off := (0 : Nat) + Int.toNat (↑i : Int) * (1 : Nat) }) = Value.pointer (some { block := (0 : Nat), off := i }),
    (i64s xs)[i]? = some (VI (List.getD xs i (0 : Int))),
    VI (IntKind.wrap IntKind.i64 (List.getD xs i (0 : Int) + byy)) = VI (List.getD xs i (0 : Int) + byy),
    Dg.evAppend Try.prog { n := (4 : Nat), objs := [AObj.cells [VI (List.getD xs i (0 : Int) + byy)] (2 : Nat) (0 : Nat) (1 : Nat), AObj.cells [VI byy, VI more] (2 : Nat) (4 : Nat) (1 : Nat), AObj.cells (i64s ss) (2 : Nat) (5 : Nat) (1 : Nat), AObj.cells (i64s xs) e1.fst (e1.snd.fst + (4 : Nat)) e1.snd.snd] } (22 : Nat) (22 : Nat) (Value.slice (some { block := (1 : Nat), off := (0 : Nat), spot := some (0 : Nat) }) (List.length ss) (List.length ss)) (Value.slice (some { block := (3 : Nat), off := (0 : Nat) }) (1 : Nat) (1 : Nat)) = some (Value.slice (some { block := (4 : Nat), off := (0 : Nat), spot := some (0 : Nat) }) (List.length (ss ++ [List.getD xs i (0 : Int) + byy])) (List.length (ss ++ [List.getD xs i (0 : Int) + byy])), { n := (5 : Nat), objs := [AObj.cells (i64s (ss ++ [List.getD xs i (0 : Int) + byy])) (2 : Nat) (5 : Nat) (1 : Nat), AObj.cells [VI (List.getD xs i (0 : Int) + byy)] (2 : Nat) (0 : Nat) (1 : Nat), AObj.cells [VI byy, VI more] (2 : Nat) (4 : Nat) (1 : Nat), AObj.dead, AObj.cells (i64s xs) e1.fst (e1.snd.fst + (4 : Nat)) e1.snd.snd] }, [(1 : Nat)]),
    VI (IntKind.wrap IntKind.i64 ((↑i : Int) + (1 : Int))) = VI ((↑i : Int) + (1 : Int))] (by kernel_rfl)
    ⟨Dg.vtrue (by omega), by omega, Dg.ptr_eq (by omega), i64_load xs i (by omega), Dg.i64_eq rfl (by omega) (by omega), app22 (os := ss) (x := (xs.getD i 0) + byy) rfl rfl rfl (by omega) (by simp) rfl rfl, Dg.i64_eq rfl (by omega) (by omega), trivial⟩
--> b5n1
--< b5ne
theorem b5ne (lx : Nat) (cx : Cp) (e1 : Sh) (xs : List Int) (w : Int) (b : Int) (more : Int) (byy : Int) (y : Int) (ss : List Int) :
    run5K 1 lB5 [] (Bz5b w b more byy (VN) (aX lx cx) y ss 1 lx lx [oX xs e1]) = some (Ex.exit 6, ({ ts := ([VI w, VI b, VI more, VN, VC 0 cx.2 lx cx.fst, VI byy] ++ (us 6 ++ ([VF, VN, VS 1 (List.length ss) (List.length ss), VN, undef, Value.slice (some { block := 2, off := 0 }) 2 2, undef, VI more, undef, undef, undef, VI y] ++ (us 8 ++ (js 57 ++ ([VC 0 cx.2 lx cx.fst, VI (↑lx : Int), VI (↑lx : Int), VF] ++ (js 119))))))), H := { n := 3, objs := [AObj.cells [VI byy, VI more] 2 4 1, AObj.cells (i64s ss) 2 5 1, AObj.cells (i64s xs) e1.fst (e1.snd.fst + 4) e1.snd.snd] }, log := [] } : St)) :=
  Dg.evCode_hint (f := 5) (hs' := []) (hs := [Hint.val 5 92 (VF)])
    [Value.bool (decide ((↑lx : Int) < (↑lx : Int))) = VF] (by kernel_rfl)
    ⟨Dg.vfalse (by omega), trivial⟩
--> b5ne
end Go.Proofs.Ytafhlmpifdclaaa.shift
