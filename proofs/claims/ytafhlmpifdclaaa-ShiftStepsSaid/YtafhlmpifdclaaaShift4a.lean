/- The rounds of the first loop of the law 'ShiftSteps' of layer 34: what is wanted. -/
import Derived.Test.YtafhlmpifdclaaaRows
import Derived.Test.YtafhlmpifdclaaaShift6a
namespace Go.Proofs.Ytafhlmpifdclaaa.shift
open Go.Dg (junk St Ex Ev Hint evCall evCallS evCode evCodeS evLoop cleanSt ue bodied noOver sbOf headOf tailOf bodyOf rAssign rBody lBody Flats flatOver Heap AObj SCall Law ofLaw Fix)
set_option linter.unusedVariables false
set_option linter.unusedSimpArgs false

/-- The calls that are known where nothing may be told. -/
noncomputable def over0 : Ev := fun f args H => match f with
  | 8 => ofLaw C8 args H
  | _ => none
theorem over0_ok : Dg.CallOk Try.prog 0 over0 ∧ Dg.CallLog over0 := Dg.over_ok (by
  intro f args H v H' log h
  unfold over0 at h
  split at h
  · obtain ⟨rfl, hr⟩ := Dg.ofLaw_inv h
    simp only [Prod.mk.injEq] at hr
    obtain ⟨rfl, rfl, rfl⟩ := hr
    exact SCall.of_flats works_is _
  · cases h)
theorem c80 (H : Heap) : over0 8 [] H = some (.bool true, H, []) := Dg.ofLaw_is u8 ⟨rfl, rfl⟩
theorem c83 (H : Heap) : over3 8 [] H = some (.bool true, H, []) := Dg.ofLaw_is u8 ⟨rfl, rfl⟩
theorem call12 {H : Heap} {w lx ly : Nat} {cx cy : Cp} {e1 e2 : Sh} {b k : Int} {xs ys : List Int} {v : Value} (hx : H.get 0 = oX xs e1) (hy : H.get 1 = oY ys e2) (s : StepArgs w b xs ys lx ly) (hk : k ≤ 900) (hv : v = stepV w b xs ys (min lx ly) k) :
    over3 12 [.int .i64 (w : Int), .int .i64 b, aX lx cx, aY ly cy, .int .i64 k] H = some (v, H, []) :=
  Dg.ofLaw_is u12 ⟨0, 1, e1.1, e1.2.1, e1.2.2, e2.1, e2.2.1, e2.2.2, lx, cx.1, ly, cy.1, w, b, k, cx.2, cy.2, xs, ys, rfl, by decide, hx, hy, s, hk, by rw [hv]⟩
noncomputable def l4 : Code := lBody (bodyF Try.f4)
noncomputable abbrev run4 (ov : Ev) (base : Nat) : St → Option (Ex × St) := evCode Try.prog 0 (bodied Try.prog) (evCall Try.prog 0 (bodied Try.prog) ov sbs 1000 19) base 18 1000 l4
noncomputable abbrev cl4 (base : Nat) : St → St := cleanSt base 18 (ue l4 [] []).1
def T4 (w b left : Int) (vx vy : Value) (lx : Nat) (p : Nat) (i : Nat) (v12 v13 v14 v15 : Value) : List Value := [.int .i64 w, .int .i64 b, vx, vy, .int .i64 left] ++ (List.replicate 4 undef ++ ([.pointer (some ⟨p, 0, none⟩), .pointer (some ⟨p + 1, 0, none⟩), .pointer (some ⟨p + 2, 0, none⟩), v12, v13, v14, v15, undef, undef] ++
  (js 14 ++ ([.int .i64 lx, .int .i64 i] ++ js 52))))
def O4 (left : Int) (r : List AObj) : List AObj := .cells [.slice none 0 0] 39 4 1 :: .cells [.bool false] 4 4 1 :: .cells [.int .i64 left] 3 4 1 :: r
def W4 (left : Int) (os : List (Int × Int × Int)) (r : List AObj) : List AObj := stps os :: .cells [.slice (some ⟨5, 0, some 0⟩) os.length os.length] 39 0 1 :: .cells [.bool false] 4 4 1 :: .cells [.int .i64 left] 3 4 1 :: r
/-- The heads: nothing wanted so far; ahead of the first round, and behind it. -/
def N4a (w b left : Int) (vx vy : Value) (lx p n : Nat) (r : List AObj) : St := ⟨T4 w b left vx vy lx p 0 undef undef undef undef, ⟨n, O4 left r⟩, []⟩
def N4b (w b left : Int) (vx vy : Value) (lx p n : Nat) (r : List AObj) (i : Nat) (k A B : Int) (t : Bool) : St := ⟨T4 w b left vx vy lx p i (.int .i64 k) (.bool t) (.int .i64 A) (.int .i64 B), ⟨n, O4 left r⟩, []⟩
/-- The head where some are wanted. -/
def N4c (w b left : Int) (vx vy : Value) (lx : Nat) (r : List AObj) (i : Nat) (k A B : Int) (t : Bool) (os : List (Int × Int × Int)) : St := ⟨T4 w b left vx vy lx 2 i (.int .i64 k) (.bool t) (.int .i64 A) (.int .i64 B), ⟨6, W4 left os r⟩, []⟩
--< p4XY_lowl0
theorem p4XY_lowl0 (left : Int) (lx : Nat) (cx : Cp) (ly : Nat) (cy : Cp) (e1 : Sh) (e2 : Sh) (xs : List Int) (ys : List Int) (w : Int) (b : Int) (hw : w < 1) (hi : 0 < lx) (hly : ly < lx) (hlx : lx ≤ 200) :
    ∃ s', run4 over0 2 (N4a w b left (aX lx cx) (aY ly cy) lx 2 5 [oY ys e2, oX xs e1]) = some (Ex.normal, s') ∧ (cl4 2) s' = N4b w b left (aX lx cx) (aY ly cy) lx 2 5 [oY ys e2, oX xs e1] 1 0 0 0 false :=
  Dg.code_round (f := 4) (cl4 2) (hs := [Hint.val 4 34 (Value.bool true),
    Hint.val 12 21 (Value.bool true),
    Hint.val 12 25 (Value.bool true)])
    [Value.bool (decide ((↑(0 : Nat) : Int) < (↑lx : Int))) = Value.bool true,
    Value.bool (decide ((↑ly : Int) < (↑lx : Int))) = Value.bool true,
    Value.bool (decide (w < (1 : Int))) = Value.bool true] (by kernel_rfl)
    ⟨Dg.vtrue (by omega), Dg.vtrue (by omega), Dg.vtrue (by omega), trivial⟩
--> p4XY_lowl0
--< p4XY_lowl1
theorem p4XY_lowl1 (left : Int) (lx : Nat) (cx : Cp) (ly : Nat) (cy : Cp) (e1 : Sh) (e2 : Sh) (xs : List Int) (ys : List Int) (w : Int) (b : Int) (hw : w < 1) (i : Nat) (k : Int) (A : Int) (B : Int) (t : Bool) (hi : i < lx) (hly : ly < lx) (hlx : lx ≤ 200) :
    ∃ s', run4 over0 2 (N4b w b left (aX lx cx) (aY ly cy) lx 2 5 [oY ys e2, oX xs e1] i k A B t) = some (Ex.normal, s') ∧ (cl4 2) s' = N4b w b left (aX lx cx) (aY ly cy) lx 2 5 [oY ys e2, oX xs e1] (i + 1) (↑i : Int) 0 0 false :=
  Dg.code_round (f := 4) (cl4 2) (hs := [Hint.val 4 34 (Value.bool true),
    Hint.val 12 21 (Value.bool true),
    Hint.val 12 25 (Value.bool true),
    Hint.val 4 55 (Value.int IntKind.i64 ((↑i : Int) + 1))])
    [Value.bool (decide ((↑i : Int) < (↑lx : Int))) = Value.bool true,
    Value.bool (decide ((↑ly : Int) < (↑lx : Int))) = Value.bool true,
    Value.bool (decide (w < (1 : Int))) = Value.bool true,
    Value.int IntKind.i64 (IntKind.wrap IntKind.i64 ((↑i : Int) + (1 : Int))) = Value.int IntKind.i64 ((↑i : Int) + (1 : Int))] (by kernel_rfl)
    ⟨Dg.vtrue (by omega), Dg.vtrue (by omega), Dg.vtrue (by omega), Dg.i64_eq rfl (by omega) (by omega), trivial⟩
--> p4XY_lowl1
--< p4XY_lowg0
theorem p4XY_lowg0 (left : Int) (lx : Nat) (cx : Cp) (ly : Nat) (cy : Cp) (e1 : Sh) (e2 : Sh) (xs : List Int) (ys : List Int) (w : Int) (b : Int) (hw : w < 1) (hi : 0 < lx) (hly : lx ≤ ly) (hlx : lx ≤ 200) :
    ∃ s', run4 over0 2 (N4a w b left (aX lx cx) (aY ly cy) lx 2 5 [oY ys e2, oX xs e1]) = some (Ex.normal, s') ∧ (cl4 2) s' = N4b w b left (aX lx cx) (aY ly cy) lx 2 5 [oY ys e2, oX xs e1] 1 0 0 0 false :=
  Dg.code_round (f := 4) (cl4 2) (hs := [Hint.val 4 34 (Value.bool true),
    Hint.val 12 21 (Value.bool false),
    Hint.val 12 25 (Value.bool true)])
    [Value.bool (decide ((↑(0 : Nat) : Int) < (↑lx : Int))) = Value.bool true,
    Value.bool (decide ((↑ly : Int) < (↑lx : Int))) = Value.bool false,
    Value.bool (decide (w < (1 : Int))) = Value.bool true] (by kernel_rfl)
    ⟨Dg.vtrue (by omega), Dg.vfalse (by omega), Dg.vtrue (by omega), trivial⟩
--> p4XY_lowg0
--< p4XY_lowg1
theorem p4XY_lowg1 (left : Int) (lx : Nat) (cx : Cp) (ly : Nat) (cy : Cp) (e1 : Sh) (e2 : Sh) (xs : List Int) (ys : List Int) (w : Int) (b : Int) (hw : w < 1) (i : Nat) (k : Int) (A : Int) (B : Int) (t : Bool) (hi : i < lx) (hly : lx ≤ ly) (hlx : lx ≤ 200) :
    ∃ s', run4 over0 2 (N4b w b left (aX lx cx) (aY ly cy) lx 2 5 [oY ys e2, oX xs e1] i k A B t) = some (Ex.normal, s') ∧ (cl4 2) s' = N4b w b left (aX lx cx) (aY ly cy) lx 2 5 [oY ys e2, oX xs e1] (i + 1) (↑i : Int) 0 0 false :=
  Dg.code_round (f := 4) (cl4 2) (hs := [Hint.val 4 34 (Value.bool true),
    Hint.val 12 21 (Value.bool false),
    Hint.val 12 25 (Value.bool true),
    Hint.val 4 55 (Value.int IntKind.i64 ((↑i : Int) + 1))])
    [Value.bool (decide ((↑i : Int) < (↑lx : Int))) = Value.bool true,
    Value.bool (decide ((↑ly : Int) < (↑lx : Int))) = Value.bool false,
    Value.bool (decide (w < (1 : Int))) = Value.bool true,
    Value.int IntKind.i64 (IntKind.wrap IntKind.i64 ((↑i : Int) + (1 : Int))) = Value.int IntKind.i64 ((↑i : Int) + (1 : Int))] (by kernel_rfl)
    ⟨Dg.vtrue (by omega), Dg.vfalse (by omega), Dg.vtrue (by omega), Dg.i64_eq rfl (by omega) (by omega), trivial⟩
--> p4XY_lowg1
--< p4XY_highl0
theorem p4XY_highl0 (left : Int) (lx : Nat) (cx : Cp) (ly : Nat) (cy : Cp) (e1 : Sh) (e2 : Sh) (xs : List Int) (ys : List Int) (w : Int) (b : Int) (hw : 64 < w) (hi : 0 < lx) (hly : ly < lx) (hlx : lx ≤ 200) :
    ∃ s', run4 over0 2 (N4a w b left (aX lx cx) (aY ly cy) lx 2 5 [oY ys e2, oX xs e1]) = some (Ex.normal, s') ∧ (cl4 2) s' = N4b w b left (aX lx cx) (aY ly cy) lx 2 5 [oY ys e2, oX xs e1] 1 0 0 0 false :=
  Dg.code_round (f := 4) (cl4 2) (hs := [Hint.val 4 34 (Value.bool true),
    Hint.val 12 21 (Value.bool true),
    Hint.val 12 25 (Value.bool false),
    Hint.val 12 28 (Value.bool true)])
    [Value.bool (decide ((↑(0 : Nat) : Int) < (↑lx : Int))) = Value.bool true,
    Value.bool (decide ((↑ly : Int) < (↑lx : Int))) = Value.bool true,
    Value.bool (decide (w < (1 : Int))) = Value.bool false,
    Value.bool (decide (w > (64 : Int))) = Value.bool true] (by kernel_rfl)
    ⟨Dg.vtrue (by omega), Dg.vtrue (by omega), Dg.vfalse (by omega), Dg.vtrue (by omega), trivial⟩
--> p4XY_highl0
--< p4XY_highl1
theorem p4XY_highl1 (left : Int) (lx : Nat) (cx : Cp) (ly : Nat) (cy : Cp) (e1 : Sh) (e2 : Sh) (xs : List Int) (ys : List Int) (w : Int) (b : Int) (hw : 64 < w) (i : Nat) (k : Int) (A : Int) (B : Int) (t : Bool) (hi : i < lx) (hly : ly < lx) (hlx : lx ≤ 200) :
    ∃ s', run4 over0 2 (N4b w b left (aX lx cx) (aY ly cy) lx 2 5 [oY ys e2, oX xs e1] i k A B t) = some (Ex.normal, s') ∧ (cl4 2) s' = N4b w b left (aX lx cx) (aY ly cy) lx 2 5 [oY ys e2, oX xs e1] (i + 1) (↑i : Int) 0 0 false :=
  Dg.code_round (f := 4) (cl4 2) (hs := [Hint.val 4 34 (Value.bool true),
    Hint.val 12 21 (Value.bool true),
    Hint.val 12 25 (Value.bool false),
    Hint.val 12 28 (Value.bool true),
    Hint.val 4 55 (Value.int IntKind.i64 ((↑i : Int) + 1))])
    [Value.bool (decide ((↑i : Int) < (↑lx : Int))) = Value.bool true,
    Value.bool (decide ((↑ly : Int) < (↑lx : Int))) = Value.bool true,
    Value.bool (decide (w < (1 : Int))) = Value.bool false,
    Value.bool (decide (w > (64 : Int))) = Value.bool true,
    Value.int IntKind.i64 (IntKind.wrap IntKind.i64 ((↑i : Int) + (1 : Int))) = Value.int IntKind.i64 ((↑i : Int) + (1 : Int))] (by kernel_rfl)
    ⟨Dg.vtrue (by omega), Dg.vtrue (by omega), Dg.vfalse (by omega), Dg.vtrue (by omega), Dg.i64_eq rfl (by omega) (by omega), trivial⟩
--> p4XY_highl1
--< p4XY_highg0
theorem p4XY_highg0 (left : Int) (lx : Nat) (cx : Cp) (ly : Nat) (cy : Cp) (e1 : Sh) (e2 : Sh) (xs : List Int) (ys : List Int) (w : Int) (b : Int) (hw : 64 < w) (hi : 0 < lx) (hly : lx ≤ ly) (hlx : lx ≤ 200) :
    ∃ s', run4 over0 2 (N4a w b left (aX lx cx) (aY ly cy) lx 2 5 [oY ys e2, oX xs e1]) = some (Ex.normal, s') ∧ (cl4 2) s' = N4b w b left (aX lx cx) (aY ly cy) lx 2 5 [oY ys e2, oX xs e1] 1 0 0 0 false :=
  Dg.code_round (f := 4) (cl4 2) (hs := [Hint.val 4 34 (Value.bool true),
    Hint.val 12 21 (Value.bool false),
    Hint.val 12 25 (Value.bool false),
    Hint.val 12 28 (Value.bool true)])
    [Value.bool (decide ((↑(0 : Nat) : Int) < (↑lx : Int))) = Value.bool true,
    Value.bool (decide ((↑ly : Int) < (↑lx : Int))) = Value.bool false,
    Value.bool (decide (w < (1 : Int))) = Value.bool false,
    Value.bool (decide (w > (64 : Int))) = Value.bool true] (by kernel_rfl)
    ⟨Dg.vtrue (by omega), Dg.vfalse (by omega), Dg.vfalse (by omega), Dg.vtrue (by omega), trivial⟩
--> p4XY_highg0
--< p4XY_highg1
theorem p4XY_highg1 (left : Int) (lx : Nat) (cx : Cp) (ly : Nat) (cy : Cp) (e1 : Sh) (e2 : Sh) (xs : List Int) (ys : List Int) (w : Int) (b : Int) (hw : 64 < w) (i : Nat) (k : Int) (A : Int) (B : Int) (t : Bool) (hi : i < lx) (hly : lx ≤ ly) (hlx : lx ≤ 200) :
    ∃ s', run4 over0 2 (N4b w b left (aX lx cx) (aY ly cy) lx 2 5 [oY ys e2, oX xs e1] i k A B t) = some (Ex.normal, s') ∧ (cl4 2) s' = N4b w b left (aX lx cx) (aY ly cy) lx 2 5 [oY ys e2, oX xs e1] (i + 1) (↑i : Int) 0 0 false :=
  Dg.code_round (f := 4) (cl4 2) (hs := [Hint.val 4 34 (Value.bool true),
    Hint.val 12 21 (Value.bool false),
    Hint.val 12 25 (Value.bool false),
    Hint.val 12 28 (Value.bool true),
    Hint.val 4 55 (Value.int IntKind.i64 ((↑i : Int) + 1))])
    [Value.bool (decide ((↑i : Int) < (↑lx : Int))) = Value.bool true,
    Value.bool (decide ((↑ly : Int) < (↑lx : Int))) = Value.bool false,
    Value.bool (decide (w < (1 : Int))) = Value.bool false,
    Value.bool (decide (w > (64 : Int))) = Value.bool true,
    Value.int IntKind.i64 (IntKind.wrap IntKind.i64 ((↑i : Int) + (1 : Int))) = Value.int IntKind.i64 ((↑i : Int) + (1 : Int))] (by kernel_rfl)
    ⟨Dg.vtrue (by omega), Dg.vfalse (by omega), Dg.vfalse (by omega), Dg.vtrue (by omega), Dg.i64_eq rfl (by omega) (by omega), trivial⟩
--> p4XY_highg1
--< p4XY_negl0
theorem p4XY_negl0 (left : Int) (lx : Nat) (cx : Cp) (ly : Nat) (cy : Cp) (e1 : Sh) (e2 : Sh) (xs : List Int) (ys : List Int) (w : Int) (b : Int) (hw : 1 ≤ w) (hw1 : w ≤ 64) (hb : b < 0) (hi : 0 < lx) (hly : ly < lx) (hlx : lx ≤ 200) :
    ∃ s', run4 over0 2 (N4a w b left (aX lx cx) (aY ly cy) lx 2 5 [oY ys e2, oX xs e1]) = some (Ex.normal, s') ∧ (cl4 2) s' = N4b w b left (aX lx cx) (aY ly cy) lx 2 5 [oY ys e2, oX xs e1] 1 0 0 0 false :=
  Dg.code_round (f := 4) (cl4 2) (hs := [Hint.val 4 34 (Value.bool true),
    Hint.val 12 21 (Value.bool true),
    Hint.val 12 25 (Value.bool false),
    Hint.val 12 28 (Value.bool false),
    Hint.val 12 32 (Value.bool true)])
    [Value.bool (decide ((↑(0 : Nat) : Int) < (↑lx : Int))) = Value.bool true,
    Value.bool (decide ((↑ly : Int) < (↑lx : Int))) = Value.bool true,
    Value.bool (decide (w < (1 : Int))) = Value.bool false,
    Value.bool (decide (w > (64 : Int))) = Value.bool false,
    Value.bool (decide (b < (0 : Int))) = Value.bool true] (by kernel_rfl)
    ⟨Dg.vtrue (by omega), Dg.vtrue (by omega), Dg.vfalse (by omega), Dg.vfalse (by omega), Dg.vtrue (by omega), trivial⟩
--> p4XY_negl0
--< p4XY_negl1
theorem p4XY_negl1 (left : Int) (lx : Nat) (cx : Cp) (ly : Nat) (cy : Cp) (e1 : Sh) (e2 : Sh) (xs : List Int) (ys : List Int) (w : Int) (b : Int) (hw : 1 ≤ w) (hw1 : w ≤ 64) (hb : b < 0) (i : Nat) (k : Int) (A : Int) (B : Int) (t : Bool) (hi : i < lx) (hly : ly < lx) (hlx : lx ≤ 200) :
    ∃ s', run4 over0 2 (N4b w b left (aX lx cx) (aY ly cy) lx 2 5 [oY ys e2, oX xs e1] i k A B t) = some (Ex.normal, s') ∧ (cl4 2) s' = N4b w b left (aX lx cx) (aY ly cy) lx 2 5 [oY ys e2, oX xs e1] (i + 1) (↑i : Int) 0 0 false :=
  Dg.code_round (f := 4) (cl4 2) (hs := [Hint.val 4 34 (Value.bool true),
    Hint.val 12 21 (Value.bool true),
    Hint.val 12 25 (Value.bool false),
    Hint.val 12 28 (Value.bool false),
    Hint.val 12 32 (Value.bool true),
    Hint.val 4 55 (Value.int IntKind.i64 ((↑i : Int) + 1))])
    [Value.bool (decide ((↑i : Int) < (↑lx : Int))) = Value.bool true,
    Value.bool (decide ((↑ly : Int) < (↑lx : Int))) = Value.bool true,
    Value.bool (decide (w < (1 : Int))) = Value.bool false,
    Value.bool (decide (w > (64 : Int))) = Value.bool false,
    Value.bool (decide (b < (0 : Int))) = Value.bool true,
    Value.int IntKind.i64 (IntKind.wrap IntKind.i64 ((↑i : Int) + (1 : Int))) = Value.int IntKind.i64 ((↑i : Int) + (1 : Int))] (by kernel_rfl)
    ⟨Dg.vtrue (by omega), Dg.vtrue (by omega), Dg.vfalse (by omega), Dg.vfalse (by omega), Dg.vtrue (by omega), Dg.i64_eq rfl (by omega) (by omega), trivial⟩
--> p4XY_negl1
--< p4XY_negg0
theorem p4XY_negg0 (left : Int) (lx : Nat) (cx : Cp) (ly : Nat) (cy : Cp) (e1 : Sh) (e2 : Sh) (xs : List Int) (ys : List Int) (w : Int) (b : Int) (hw : 1 ≤ w) (hw1 : w ≤ 64) (hb : b < 0) (hi : 0 < lx) (hly : lx ≤ ly) (hlx : lx ≤ 200) :
    ∃ s', run4 over0 2 (N4a w b left (aX lx cx) (aY ly cy) lx 2 5 [oY ys e2, oX xs e1]) = some (Ex.normal, s') ∧ (cl4 2) s' = N4b w b left (aX lx cx) (aY ly cy) lx 2 5 [oY ys e2, oX xs e1] 1 0 0 0 false :=
  Dg.code_round (f := 4) (cl4 2) (hs := [Hint.val 4 34 (Value.bool true),
    Hint.val 12 21 (Value.bool false),
    Hint.val 12 25 (Value.bool false),
    Hint.val 12 28 (Value.bool false),
    Hint.val 12 32 (Value.bool true)])
    [Value.bool (decide ((↑(0 : Nat) : Int) < (↑lx : Int))) = Value.bool true,
    Value.bool (decide ((↑ly : Int) < (↑lx : Int))) = Value.bool false,
    Value.bool (decide (w < (1 : Int))) = Value.bool false,
    Value.bool (decide (w > (64 : Int))) = Value.bool false,
    Value.bool (decide (b < (0 : Int))) = Value.bool true] (by kernel_rfl)
    ⟨Dg.vtrue (by omega), Dg.vfalse (by omega), Dg.vfalse (by omega), Dg.vfalse (by omega), Dg.vtrue (by omega), trivial⟩
--> p4XY_negg0
--< p4XY_negg1
theorem p4XY_negg1 (left : Int) (lx : Nat) (cx : Cp) (ly : Nat) (cy : Cp) (e1 : Sh) (e2 : Sh) (xs : List Int) (ys : List Int) (w : Int) (b : Int) (hw : 1 ≤ w) (hw1 : w ≤ 64) (hb : b < 0) (i : Nat) (k : Int) (A : Int) (B : Int) (t : Bool) (hi : i < lx) (hly : lx ≤ ly) (hlx : lx ≤ 200) :
    ∃ s', run4 over0 2 (N4b w b left (aX lx cx) (aY ly cy) lx 2 5 [oY ys e2, oX xs e1] i k A B t) = some (Ex.normal, s') ∧ (cl4 2) s' = N4b w b left (aX lx cx) (aY ly cy) lx 2 5 [oY ys e2, oX xs e1] (i + 1) (↑i : Int) 0 0 false :=
  Dg.code_round (f := 4) (cl4 2) (hs := [Hint.val 4 34 (Value.bool true),
    Hint.val 12 21 (Value.bool false),
    Hint.val 12 25 (Value.bool false),
    Hint.val 12 28 (Value.bool false),
    Hint.val 12 32 (Value.bool true),
    Hint.val 4 55 (Value.int IntKind.i64 ((↑i : Int) + 1))])
    [Value.bool (decide ((↑i : Int) < (↑lx : Int))) = Value.bool true,
    Value.bool (decide ((↑ly : Int) < (↑lx : Int))) = Value.bool false,
    Value.bool (decide (w < (1 : Int))) = Value.bool false,
    Value.bool (decide (w > (64 : Int))) = Value.bool false,
    Value.bool (decide (b < (0 : Int))) = Value.bool true,
    Value.int IntKind.i64 (IntKind.wrap IntKind.i64 ((↑i : Int) + (1 : Int))) = Value.int IntKind.i64 ((↑i : Int) + (1 : Int))] (by kernel_rfl)
    ⟨Dg.vtrue (by omega), Dg.vfalse (by omega), Dg.vfalse (by omega), Dg.vfalse (by omega), Dg.vtrue (by omega), Dg.i64_eq rfl (by omega) (by omega), trivial⟩
--> p4XY_negg1
--< p4XN_low0
theorem p4XN_low0 (left : Int) (lx : Nat) (cx : Cp) (e1 : Sh) (xs : List Int) (w : Int) (b : Int) (hw : w < 1) (hi : 0 < lx) (hlx : lx ≤ 200) :
    ∃ s', run4 over0 1 (N4a w b left (aX lx cx) (Value.slice none 0 0) lx 1 4 [oX xs e1]) = some (Ex.normal, s') ∧ (cl4 1) s' = N4b w b left (aX lx cx) (Value.slice none 0 0) lx 1 4 [oX xs e1] 1 0 0 0 false :=
  Dg.code_round (f := 4) (cl4 1) (hs := [Hint.val 4 34 (Value.bool true),
    Hint.val 12 21 (Value.bool true),
    Hint.val 12 25 (Value.bool true)])
    [Value.bool (decide ((↑(0 : Nat) : Int) < (↑lx : Int))) = Value.bool true,
    Value.bool (decide ((0 : Int) < (↑lx : Int))) = Value.bool true,
    Value.bool (decide (w < (1 : Int))) = Value.bool true] (by kernel_rfl)
    ⟨Dg.vtrue (by omega), Dg.vtrue (by omega), Dg.vtrue (by omega), trivial⟩
--> p4XN_low0
--< p4XN_low1
theorem p4XN_low1 (left : Int) (lx : Nat) (cx : Cp) (e1 : Sh) (xs : List Int) (w : Int) (b : Int) (hw : w < 1) (i : Nat) (k : Int) (A : Int) (B : Int) (t : Bool) (hi : i < lx) (hlx : lx ≤ 200) :
    ∃ s', run4 over0 1 (N4b w b left (aX lx cx) (Value.slice none 0 0) lx 1 4 [oX xs e1] i k A B t) = some (Ex.normal, s') ∧ (cl4 1) s' = N4b w b left (aX lx cx) (Value.slice none 0 0) lx 1 4 [oX xs e1] (i + 1) (↑i : Int) 0 0 false :=
  Dg.code_round (f := 4) (cl4 1) (hs := [Hint.val 4 34 (Value.bool true),
    Hint.val 12 21 (Value.bool true),
    Hint.val 12 25 (Value.bool true),
    Hint.val 4 55 (Value.int IntKind.i64 ((↑i : Int) + 1))])
    [Value.bool (decide ((↑i : Int) < (↑lx : Int))) = Value.bool true,
    Value.bool (decide ((0 : Int) < (↑lx : Int))) = Value.bool true,
    Value.bool (decide (w < (1 : Int))) = Value.bool true,
    Value.int IntKind.i64 (IntKind.wrap IntKind.i64 ((↑i : Int) + (1 : Int))) = Value.int IntKind.i64 ((↑i : Int) + (1 : Int))] (by kernel_rfl)
    ⟨Dg.vtrue (by omega), Dg.vtrue (by omega), Dg.vtrue (by omega), Dg.i64_eq rfl (by omega) (by omega), trivial⟩
--> p4XN_low1
--< p4XN_high0
theorem p4XN_high0 (left : Int) (lx : Nat) (cx : Cp) (e1 : Sh) (xs : List Int) (w : Int) (b : Int) (hw : 64 < w) (hi : 0 < lx) (hlx : lx ≤ 200) :
    ∃ s', run4 over0 1 (N4a w b left (aX lx cx) (Value.slice none 0 0) lx 1 4 [oX xs e1]) = some (Ex.normal, s') ∧ (cl4 1) s' = N4b w b left (aX lx cx) (Value.slice none 0 0) lx 1 4 [oX xs e1] 1 0 0 0 false :=
  Dg.code_round (f := 4) (cl4 1) (hs := [Hint.val 4 34 (Value.bool true),
    Hint.val 12 21 (Value.bool true),
    Hint.val 12 25 (Value.bool false),
    Hint.val 12 28 (Value.bool true)])
    [Value.bool (decide ((↑(0 : Nat) : Int) < (↑lx : Int))) = Value.bool true,
    Value.bool (decide ((0 : Int) < (↑lx : Int))) = Value.bool true,
    Value.bool (decide (w < (1 : Int))) = Value.bool false,
    Value.bool (decide (w > (64 : Int))) = Value.bool true] (by kernel_rfl)
    ⟨Dg.vtrue (by omega), Dg.vtrue (by omega), Dg.vfalse (by omega), Dg.vtrue (by omega), trivial⟩
--> p4XN_high0
--< p4XN_high1
theorem p4XN_high1 (left : Int) (lx : Nat) (cx : Cp) (e1 : Sh) (xs : List Int) (w : Int) (b : Int) (hw : 64 < w) (i : Nat) (k : Int) (A : Int) (B : Int) (t : Bool) (hi : i < lx) (hlx : lx ≤ 200) :
    ∃ s', run4 over0 1 (N4b w b left (aX lx cx) (Value.slice none 0 0) lx 1 4 [oX xs e1] i k A B t) = some (Ex.normal, s') ∧ (cl4 1) s' = N4b w b left (aX lx cx) (Value.slice none 0 0) lx 1 4 [oX xs e1] (i + 1) (↑i : Int) 0 0 false :=
  Dg.code_round (f := 4) (cl4 1) (hs := [Hint.val 4 34 (Value.bool true),
    Hint.val 12 21 (Value.bool true),
    Hint.val 12 25 (Value.bool false),
    Hint.val 12 28 (Value.bool true),
    Hint.val 4 55 (Value.int IntKind.i64 ((↑i : Int) + 1))])
    [Value.bool (decide ((↑i : Int) < (↑lx : Int))) = Value.bool true,
    Value.bool (decide ((0 : Int) < (↑lx : Int))) = Value.bool true,
    Value.bool (decide (w < (1 : Int))) = Value.bool false,
    Value.bool (decide (w > (64 : Int))) = Value.bool true,
    Value.int IntKind.i64 (IntKind.wrap IntKind.i64 ((↑i : Int) + (1 : Int))) = Value.int IntKind.i64 ((↑i : Int) + (1 : Int))] (by kernel_rfl)
    ⟨Dg.vtrue (by omega), Dg.vtrue (by omega), Dg.vfalse (by omega), Dg.vtrue (by omega), Dg.i64_eq rfl (by omega) (by omega), trivial⟩
--> p4XN_high1
--< p4XN_neg0
theorem p4XN_neg0 (left : Int) (lx : Nat) (cx : Cp) (e1 : Sh) (xs : List Int) (w : Int) (b : Int) (hw : 1 ≤ w) (hw1 : w ≤ 64) (hb : b < 0) (hi : 0 < lx) (hlx : lx ≤ 200) :
    ∃ s', run4 over0 1 (N4a w b left (aX lx cx) (Value.slice none 0 0) lx 1 4 [oX xs e1]) = some (Ex.normal, s') ∧ (cl4 1) s' = N4b w b left (aX lx cx) (Value.slice none 0 0) lx 1 4 [oX xs e1] 1 0 0 0 false :=
  Dg.code_round (f := 4) (cl4 1) (hs := [Hint.val 4 34 (Value.bool true),
    Hint.val 12 21 (Value.bool true),
    Hint.val 12 25 (Value.bool false),
    Hint.val 12 28 (Value.bool false),
    Hint.val 12 32 (Value.bool true)])
    [Value.bool (decide ((↑(0 : Nat) : Int) < (↑lx : Int))) = Value.bool true,
    Value.bool (decide ((0 : Int) < (↑lx : Int))) = Value.bool true,
    Value.bool (decide (w < (1 : Int))) = Value.bool false,
    Value.bool (decide (w > (64 : Int))) = Value.bool false,
    Value.bool (decide (b < (0 : Int))) = Value.bool true] (by kernel_rfl)
    ⟨Dg.vtrue (by omega), Dg.vtrue (by omega), Dg.vfalse (by omega), Dg.vfalse (by omega), Dg.vtrue (by omega), trivial⟩
--> p4XN_neg0
--< p4XN_neg1
theorem p4XN_neg1 (left : Int) (lx : Nat) (cx : Cp) (e1 : Sh) (xs : List Int) (w : Int) (b : Int) (hw : 1 ≤ w) (hw1 : w ≤ 64) (hb : b < 0) (i : Nat) (k : Int) (A : Int) (B : Int) (t : Bool) (hi : i < lx) (hlx : lx ≤ 200) :
    ∃ s', run4 over0 1 (N4b w b left (aX lx cx) (Value.slice none 0 0) lx 1 4 [oX xs e1] i k A B t) = some (Ex.normal, s') ∧ (cl4 1) s' = N4b w b left (aX lx cx) (Value.slice none 0 0) lx 1 4 [oX xs e1] (i + 1) (↑i : Int) 0 0 false :=
  Dg.code_round (f := 4) (cl4 1) (hs := [Hint.val 4 34 (Value.bool true),
    Hint.val 12 21 (Value.bool true),
    Hint.val 12 25 (Value.bool false),
    Hint.val 12 28 (Value.bool false),
    Hint.val 12 32 (Value.bool true),
    Hint.val 4 55 (Value.int IntKind.i64 ((↑i : Int) + 1))])
    [Value.bool (decide ((↑i : Int) < (↑lx : Int))) = Value.bool true,
    Value.bool (decide ((0 : Int) < (↑lx : Int))) = Value.bool true,
    Value.bool (decide (w < (1 : Int))) = Value.bool false,
    Value.bool (decide (w > (64 : Int))) = Value.bool false,
    Value.bool (decide (b < (0 : Int))) = Value.bool true,
    Value.int IntKind.i64 (IntKind.wrap IntKind.i64 ((↑i : Int) + (1 : Int))) = Value.int IntKind.i64 ((↑i : Int) + (1 : Int))] (by kernel_rfl)
    ⟨Dg.vtrue (by omega), Dg.vtrue (by omega), Dg.vfalse (by omega), Dg.vfalse (by omega), Dg.vtrue (by omega), Dg.i64_eq rfl (by omega) (by omega), trivial⟩
--> p4XN_neg1
--< p4XN_oka0
theorem p4XN_oka0 (left : Int) (lx : Nat) (cx : Cp) (e1 : Sh) (xs : List Int) (w : Int) (b : Int) (hw : 1 ≤ w) (hw1 : w ≤ 64) (hb : 0 ≤ b) (hi : 0 < lx) (hk : 0 < w) (hlx : lx ≤ 200) :
    ∃ s', run4 over0 1 (N4a w b left (aX lx cx) (Value.slice none 0 0) lx 1 4 [oX xs e1]) = some (Ex.normal, s') ∧ (cl4 1) s' = N4b w b left (aX lx cx) (Value.slice none 0 0) lx 1 4 [oX xs e1] 1 0 0 0 false :=
  Dg.code_round (f := 4) (cl4 1) (hs := [Hint.val 4 34 (Value.bool true),
    Hint.val 12 21 (Value.bool true),
    Hint.val 12 25 (Value.bool false),
    Hint.val 12 28 (Value.bool false),
    Hint.val 12 32 (Value.bool false),
    Hint.val 12 37 (Value.bool true)])
    [Value.bool (decide ((↑(0 : Nat) : Int) < (↑lx : Int))) = Value.bool true,
    Value.bool (decide ((0 : Int) < (↑lx : Int))) = Value.bool true,
    Value.bool (decide (w < (1 : Int))) = Value.bool false,
    Value.bool (decide (w > (64 : Int))) = Value.bool false,
    Value.bool (decide (b < (0 : Int))) = Value.bool false,
    Value.bool (decide ((0 : Int) < w)) = Value.bool true] (by kernel_rfl)
    ⟨Dg.vtrue (by omega), Dg.vtrue (by omega), Dg.vfalse (by omega), Dg.vfalse (by omega), Dg.vfalse (by omega), Dg.vtrue (by omega), trivial⟩
--> p4XN_oka0
--< p4XN_oka1
theorem p4XN_oka1 (left : Int) (lx : Nat) (cx : Cp) (e1 : Sh) (xs : List Int) (w : Int) (b : Int) (hw : 1 ≤ w) (hw1 : w ≤ 64) (hb : 0 ≤ b) (i : Nat) (k : Int) (A : Int) (B : Int) (t : Bool) (hi : i < lx) (hk : (↑i : Int) < w) (hlx : lx ≤ 200) :
    ∃ s', run4 over0 1 (N4b w b left (aX lx cx) (Value.slice none 0 0) lx 1 4 [oX xs e1] i k A B t) = some (Ex.normal, s') ∧ (cl4 1) s' = N4b w b left (aX lx cx) (Value.slice none 0 0) lx 1 4 [oX xs e1] (i + 1) (↑i : Int) 0 0 false :=
  Dg.code_round (f := 4) (cl4 1) (hs := [Hint.val 4 34 (Value.bool true),
    Hint.val 12 21 (Value.bool true),
    Hint.val 12 25 (Value.bool false),
    Hint.val 12 28 (Value.bool false),
    Hint.val 12 32 (Value.bool false),
    Hint.val 12 37 (Value.bool true),
    Hint.val 4 55 (Value.int IntKind.i64 ((↑i : Int) + 1))])
    [Value.bool (decide ((↑i : Int) < (↑lx : Int))) = Value.bool true,
    Value.bool (decide ((0 : Int) < (↑lx : Int))) = Value.bool true,
    Value.bool (decide (w < (1 : Int))) = Value.bool false,
    Value.bool (decide (w > (64 : Int))) = Value.bool false,
    Value.bool (decide (b < (0 : Int))) = Value.bool false,
    Value.bool (decide ((↑i : Int) < w)) = Value.bool true,
    Value.int IntKind.i64 (IntKind.wrap IntKind.i64 ((↑i : Int) + (1 : Int))) = Value.int IntKind.i64 ((↑i : Int) + (1 : Int))] (by kernel_rfl)
    ⟨Dg.vtrue (by omega), Dg.vtrue (by omega), Dg.vfalse (by omega), Dg.vfalse (by omega), Dg.vfalse (by omega), Dg.vtrue (by omega), Dg.i64_eq rfl (by omega) (by omega), trivial⟩
--> p4XN_oka1
--< p4XN_okb1
theorem p4XN_okb1 (left : Int) (lx : Nat) (cx : Cp) (e1 : Sh) (xs : List Int) (w : Int) (b : Int) (hw : 1 ≤ w) (hw1 : w ≤ 64) (hb : 0 ≤ b) (i : Nat) (k : Int) (A : Int) (B : Int) (t : Bool) (hi : i < lx) (hk : w ≤ (↑i : Int)) (hlx : lx ≤ 200) :
    ∃ s', run4 over0 1 (N4b w b left (aX lx cx) (Value.slice none 0 0) lx 1 4 [oX xs e1] i k A B t) = some (Ex.normal, s') ∧ (cl4 1) s' = N4b w b left (aX lx cx) (Value.slice none 0 0) lx 1 4 [oX xs e1] (i + 1) (↑i : Int) 0 0 false :=
  Dg.code_round (f := 4) (cl4 1) (hs := [Hint.val 4 34 (Value.bool true),
    Hint.val 12 21 (Value.bool true),
    Hint.val 12 25 (Value.bool false),
    Hint.val 12 28 (Value.bool false),
    Hint.val 12 32 (Value.bool false),
    Hint.val 12 37 (Value.bool false),
    Hint.val 12 42 (Value.int IntKind.i64 ((↑i : Int) + w)),
    Hint.val 12 44 (Value.bool true),
    Hint.val 4 55 (Value.int IntKind.i64 ((↑i : Int) + 1))])
    [Value.bool (decide ((↑i : Int) < (↑lx : Int))) = Value.bool true,
    Value.bool (decide ((0 : Int) < (↑lx : Int))) = Value.bool true,
    Value.bool (decide (w < (1 : Int))) = Value.bool false,
    Value.bool (decide (w > (64 : Int))) = Value.bool false,
    Value.bool (decide (b < (0 : Int))) = Value.bool false,
    Value.bool (decide ((↑i : Int) < w)) = Value.bool false,
    Value.int IntKind.i64 (IntKind.wrap IntKind.i64 ((↑i : Int) + w)) = Value.int IntKind.i64 ((↑i : Int) + w),
    Value.bool (decide ((↑i : Int) + w > (0 : Int))) = Value.bool true,
    Value.int IntKind.i64 (IntKind.wrap IntKind.i64 ((↑i : Int) + (1 : Int))) = Value.int IntKind.i64 ((↑i : Int) + (1 : Int))] (by kernel_rfl)
    ⟨Dg.vtrue (by omega), Dg.vtrue (by omega), Dg.vfalse (by omega), Dg.vfalse (by omega), Dg.vfalse (by omega), Dg.vfalse (by omega), Dg.i64_eq rfl (by omega) (by omega), Dg.vtrue (by omega), Dg.i64_eq rfl (by omega) (by omega), trivial⟩
--> p4XN_okb1
--< g4n0
theorem g4n0 (left : Int) (lx : Nat) (cx : Cp) (ly : Nat) (cy : Cp) (e1 : Sh) (e2 : Sh) (xs : List Int) (ys : List Int) (w : Nat) (b : Int) (sa : StepArgs w b xs ys lx ly) (hlx : lx ≤ 200) (hi : 0 < lx) (hv : stepV w b xs ys (min lx ly) 0 = Value.tuple #[Value.bool false, Value.int IntKind.i64 0, Value.int IntKind.i64 0]) :
    ∃ s', run4 over3 2 (N4a (↑w : Int) b left (aX lx cx) (aY ly cy) lx 2 5 [oY ys e2, oX xs e1]) = some (Ex.normal, s') ∧ (cl4 2) s' = N4b (↑w : Int) b left (aX lx cx) (aY ly cy) lx 2 5 [oY ys e2, oX xs e1] 1 0 0 0 false :=
  Dg.code_round (f := 4) (cl4 2) (hs := [Hint.val 4 34 (Value.bool true),
    Hint.call 12 (Value.tuple #[Value.bool false, Value.int IntKind.i64 0, Value.int IntKind.i64 0]) { n := 5, objs := [AObj.cells [Value.slice none 0 0] 39 4 1, AObj.cells [Value.bool false] 4 4 1, AObj.cells [Value.int IntKind.i64 left] 3 4 1, AObj.cells (i64s ys) e2.fst (e2.snd.fst + 4) e2.snd.snd, AObj.cells (i64s xs) e1.fst (e1.snd.fst + 4) e1.snd.snd] } []])
    [Value.bool (decide ((↑(0 : Nat) : Int) < (↑lx : Int))) = Value.bool true,
    evCall Try.prog 0 (bodied Try.prog) over3 sbs 1000 19 12 [Value.int IntKind.i64 (↑w : Int), Value.int IntKind.i64 b, Value.slice (some { block := 0, off := 0, spot := cx.snd }) lx cx.fst, Value.slice (some { block := 1, off := 0, spot := cy.snd }) ly cy.fst, Value.int IntKind.i64 0] { n := 5, objs := [AObj.cells [Value.slice none 0 0] 39 4 1, AObj.cells [Value.bool false] 4 4 1, AObj.cells [Value.int IntKind.i64 left] 3 4 1, AObj.cells (i64s ys) e2.fst (e2.snd.fst + 4) e2.snd.snd, AObj.cells (i64s xs) e1.fst (e1.snd.fst + 4) e1.snd.snd] } = some (Value.tuple #[Value.bool false, Value.int IntKind.i64 0, Value.int IntKind.i64 0], { n := 5, objs := [AObj.cells [Value.slice none 0 0] 39 4 1, AObj.cells [Value.bool false] 4 4 1, AObj.cells [Value.int IntKind.i64 left] 3 4 1, AObj.cells (i64s ys) e2.fst (e2.snd.fst + 4) e2.snd.snd, AObj.cells (i64s xs) e1.fst (e1.snd.fst + 4) e1.snd.snd] }, [])] (by kernel_rfl)
    ⟨Dg.vtrue (by omega), Dg.evCall_over (call12 (cx := cx) (cy := cy) (e1 := e1) (e2 := e2) rfl rfl sa (by omega) hv.symm), trivial⟩
--> g4n0
--< g4n1
theorem g4n1 (left : Int) (lx : Nat) (cx : Cp) (ly : Nat) (cy : Cp) (e1 : Sh) (e2 : Sh) (xs : List Int) (ys : List Int) (w : Nat) (b : Int) (sa : StepArgs w b xs ys lx ly) (hlx : lx ≤ 200) (i : Nat) (k : Int) (A : Int) (B : Int) (t : Bool) (hi : i < lx) (hv : stepV w b xs ys (min lx ly) (↑i : Int) = Value.tuple #[Value.bool false, Value.int IntKind.i64 0, Value.int IntKind.i64 0]) :
    ∃ s', run4 over3 2 (N4b (↑w : Int) b left (aX lx cx) (aY ly cy) lx 2 5 [oY ys e2, oX xs e1] i k A B t) = some (Ex.normal, s') ∧ (cl4 2) s' = N4b (↑w : Int) b left (aX lx cx) (aY ly cy) lx 2 5 [oY ys e2, oX xs e1] (i + 1) (↑i : Int) 0 0 false :=
  Dg.code_round (f := 4) (cl4 2) (hs := [Hint.val 4 34 (Value.bool true),
    Hint.call 12 (Value.tuple #[Value.bool false, Value.int IntKind.i64 0, Value.int IntKind.i64 0]) { n := 5, objs := [AObj.cells [Value.slice none 0 0] 39 4 1, AObj.cells [Value.bool false] 4 4 1, AObj.cells [Value.int IntKind.i64 left] 3 4 1, AObj.cells (i64s ys) e2.fst (e2.snd.fst + 4) e2.snd.snd, AObj.cells (i64s xs) e1.fst (e1.snd.fst + 4) e1.snd.snd] } [],
    Hint.val 4 55 (Value.int IntKind.i64 ((↑i : Int) + 1))])
    [Value.bool (decide ((↑i : Int) < (↑lx : Int))) = Value.bool true,
    evCall Try.prog 0 (bodied Try.prog) over3 sbs 1000 19 12 [Value.int IntKind.i64 (↑w : Int), Value.int IntKind.i64 b, Value.slice (some { block := 0, off := 0, spot := cx.snd }) lx cx.fst, Value.slice (some { block := 1, off := 0, spot := cy.snd }) ly cy.fst, Value.int IntKind.i64 (↑i : Int)] { n := 5, objs := [AObj.cells [Value.slice none 0 0] 39 4 1, AObj.cells [Value.bool false] 4 4 1, AObj.cells [Value.int IntKind.i64 left] 3 4 1, AObj.cells (i64s ys) e2.fst (e2.snd.fst + 4) e2.snd.snd, AObj.cells (i64s xs) e1.fst (e1.snd.fst + 4) e1.snd.snd] } = some (Value.tuple #[Value.bool false, Value.int IntKind.i64 0, Value.int IntKind.i64 0], { n := 5, objs := [AObj.cells [Value.slice none 0 0] 39 4 1, AObj.cells [Value.bool false] 4 4 1, AObj.cells [Value.int IntKind.i64 left] 3 4 1, AObj.cells (i64s ys) e2.fst (e2.snd.fst + 4) e2.snd.snd, AObj.cells (i64s xs) e1.fst (e1.snd.fst + 4) e1.snd.snd] }, []),
    Value.int IntKind.i64 (IntKind.wrap IntKind.i64 ((↑i : Int) + (1 : Int))) = Value.int IntKind.i64 ((↑i : Int) + (1 : Int))] (by kernel_rfl)
    ⟨Dg.vtrue (by omega), Dg.evCall_over (call12 (cx := cx) (cy := cy) (e1 := e1) (e2 := e2) rfl rfl sa (by omega) hv.symm), Dg.i64_eq rfl (by omega) (by omega), trivial⟩
--> g4n1
--< g4y1
theorem g4y1 (left : Int) (lx : Nat) (cx : Cp) (ly : Nat) (cy : Cp) (e1 : Sh) (e2 : Sh) (xs : List Int) (ys : List Int) (w : Nat) (b : Int) (sa : StepArgs w b xs ys lx ly) (hlx : lx ≤ 200) (i : Nat) (k : Int) (A : Int) (B : Int) (t : Bool) (hi : i < lx) (A1 : Int) (B1 : Int) (hv : stepV w b xs ys (min lx ly) (↑i : Int) = Value.tuple #[Value.bool true, Value.int IntKind.i64 A1, Value.int IntKind.i64 B1]) :
    ∃ s', run4 over3 2 (N4b (↑w : Int) b left (aX lx cx) (aY ly cy) lx 2 5 [oY ys e2, oX xs e1] i k A B t) = some (Ex.normal, s') ∧ (cl4 2) s' = N4c (↑w : Int) b left (aX lx cx) (aY ly cy) lx [oY ys e2, oX xs e1] (i + 1) (↑i : Int) A1 B1 true [((↑i : Int), A1, B1)] :=
  Dg.code_round (f := 4) (cl4 2) (hs := [Hint.val 4 34 (Value.bool true),
    Hint.call 12 (Value.tuple #[Value.bool true, Value.int IntKind.i64 A1, Value.int IntKind.i64 B1]) { n := 5, objs := [AObj.cells [Value.slice none 0 0] 39 4 1, AObj.cells [Value.bool false] 4 4 1, AObj.cells [Value.int IntKind.i64 left] 3 4 1, AObj.cells (i64s ys) e2.fst (e2.snd.fst + 4) e2.snd.snd, AObj.cells (i64s xs) e1.fst (e1.snd.fst + 4) e1.snd.snd] } [],
    Hint.val 4 49 (Value.int IntKind.u64 (↑i : Int)),
    Hint.val 4 55 (Value.int IntKind.i64 ((↑i : Int) + 1))])
    [Value.bool (decide ((↑i : Int) < (↑lx : Int))) = Value.bool true,
    evCall Try.prog 0 (bodied Try.prog) over3 sbs 1000 19 12 [Value.int IntKind.i64 (↑w : Int), Value.int IntKind.i64 b, Value.slice (some { block := 0, off := 0, spot := cx.snd }) lx cx.fst, Value.slice (some { block := 1, off := 0, spot := cy.snd }) ly cy.fst, Value.int IntKind.i64 (↑i : Int)] { n := 5, objs := [AObj.cells [Value.slice none 0 0] 39 4 1, AObj.cells [Value.bool false] 4 4 1, AObj.cells [Value.int IntKind.i64 left] 3 4 1, AObj.cells (i64s ys) e2.fst (e2.snd.fst + 4) e2.snd.snd, AObj.cells (i64s xs) e1.fst (e1.snd.fst + 4) e1.snd.snd] } = some (Value.tuple #[Value.bool true, Value.int IntKind.i64 A1, Value.int IntKind.i64 B1], { n := 5, objs := [AObj.cells [Value.slice none 0 0] 39 4 1, AObj.cells [Value.bool false] 4 4 1, AObj.cells [Value.int IntKind.i64 left] 3 4 1, AObj.cells (i64s ys) e2.fst (e2.snd.fst + 4) e2.snd.snd, AObj.cells (i64s xs) e1.fst (e1.snd.fst + 4) e1.snd.snd] }, []),
    Value.int IntKind.u64 (IntKind.wrap IntKind.u64 (↑i : Int)) = Value.int IntKind.u64 (↑i : Int),
    Value.int IntKind.i64 (IntKind.wrap IntKind.i64 ((↑i : Int) + (1 : Int))) = Value.int IntKind.i64 ((↑i : Int) + (1 : Int))] (by kernel_rfl)
    ⟨Dg.vtrue (by omega), Dg.evCall_over (call12 (cx := cx) (cy := cy) (e1 := e1) (e2 := e2) rfl rfl sa (by omega) hv.symm), Dg.u64_eq rfl (by omega) (by omega), Dg.i64_eq rfl (by omega) (by omega), trivial⟩
--> g4y1
--< g4n2
theorem g4n2 (left : Int) (lx : Nat) (cx : Cp) (ly : Nat) (cy : Cp) (e1 : Sh) (e2 : Sh) (xs : List Int) (ys : List Int) (w : Nat) (b : Int) (sa : StepArgs w b xs ys lx ly) (hlx : lx ≤ 200) (i : Nat) (k : Int) (A : Int) (B : Int) (t : Bool) (os : List (Int × Int × Int)) (hos : List.length os ≤ i) (hi : i < lx) (hv : stepV w b xs ys (min lx ly) (↑i : Int) = Value.tuple #[Value.bool false, Value.int IntKind.i64 0, Value.int IntKind.i64 0]) :
    ∃ s', run4 over3 2 (N4c (↑w : Int) b left (aX lx cx) (aY ly cy) lx [oY ys e2, oX xs e1] i k A B t os) = some (Ex.normal, s') ∧ (cl4 2) s' = N4c (↑w : Int) b left (aX lx cx) (aY ly cy) lx [oY ys e2, oX xs e1] (i + 1) (↑i : Int) 0 0 false os :=
  Dg.code_round (f := 4) (cl4 2) (hs := [Hint.val 4 34 (Value.bool true),
    Hint.call 12 (Value.tuple #[Value.bool false, Value.int IntKind.i64 0, Value.int IntKind.i64 0]) { n := 6, objs := [AObj.cells (tc os) 31 5 3, AObj.cells [Value.slice (some { block := 5, off := 0, spot := some 0 }) (List.length os) (List.length os)] 39 0 1, AObj.cells [Value.bool false] 4 4 1, AObj.cells [Value.int IntKind.i64 left] 3 4 1, AObj.cells (i64s ys) e2.fst (e2.snd.fst + 4) e2.snd.snd, AObj.cells (i64s xs) e1.fst (e1.snd.fst + 4) e1.snd.snd] } [],
    Hint.val 4 55 (Value.int IntKind.i64 ((↑i : Int) + 1))])
    [Value.bool (decide ((↑i : Int) < (↑lx : Int))) = Value.bool true,
    evCall Try.prog 0 (bodied Try.prog) over3 sbs 1000 19 12 [Value.int IntKind.i64 (↑w : Int), Value.int IntKind.i64 b, Value.slice (some { block := 0, off := 0, spot := cx.snd }) lx cx.fst, Value.slice (some { block := 1, off := 0, spot := cy.snd }) ly cy.fst, Value.int IntKind.i64 (↑i : Int)] { n := 6, objs := [AObj.cells (tc os) 31 5 3, AObj.cells [Value.slice (some { block := 5, off := 0, spot := some 0 }) (List.length os) (List.length os)] 39 0 1, AObj.cells [Value.bool false] 4 4 1, AObj.cells [Value.int IntKind.i64 left] 3 4 1, AObj.cells (i64s ys) e2.fst (e2.snd.fst + 4) e2.snd.snd, AObj.cells (i64s xs) e1.fst (e1.snd.fst + 4) e1.snd.snd] } = some (Value.tuple #[Value.bool false, Value.int IntKind.i64 0, Value.int IntKind.i64 0], { n := 6, objs := [AObj.cells (tc os) 31 5 3, AObj.cells [Value.slice (some { block := 5, off := 0, spot := some 0 }) (List.length os) (List.length os)] 39 0 1, AObj.cells [Value.bool false] 4 4 1, AObj.cells [Value.int IntKind.i64 left] 3 4 1, AObj.cells (i64s ys) e2.fst (e2.snd.fst + 4) e2.snd.snd, AObj.cells (i64s xs) e1.fst (e1.snd.fst + 4) e1.snd.snd] }, []),
    Value.int IntKind.i64 (IntKind.wrap IntKind.i64 ((↑i : Int) + (1 : Int))) = Value.int IntKind.i64 ((↑i : Int) + (1 : Int))] (by kernel_rfl)
    ⟨Dg.vtrue (by omega), Dg.evCall_over (call12 (cx := cx) (cy := cy) (e1 := e1) (e2 := e2) rfl rfl sa (by omega) hv.symm), Dg.i64_eq rfl (by omega) (by omega), trivial⟩
--> g4n2
--< g4y2
theorem g4y2 (left : Int) (lx : Nat) (cx : Cp) (ly : Nat) (cy : Cp) (e1 : Sh) (e2 : Sh) (xs : List Int) (ys : List Int) (w : Nat) (b : Int) (sa : StepArgs w b xs ys lx ly) (hlx : lx ≤ 200) (i : Nat) (k : Int) (A : Int) (B : Int) (t : Bool) (os : List (Int × Int × Int)) (hos : List.length os ≤ i) (hi : i < lx) (A1 : Int) (B1 : Int) (hv : stepV w b xs ys (min lx ly) (↑i : Int) = Value.tuple #[Value.bool true, Value.int IntKind.i64 A1, Value.int IntKind.i64 B1]) :
    ∃ s', run4 over3 2 (N4c (↑w : Int) b left (aX lx cx) (aY ly cy) lx [oY ys e2, oX xs e1] i k A B t os) = some (Ex.normal, s') ∧ (cl4 2) s' = N4c (↑w : Int) b left (aX lx cx) (aY ly cy) lx [oY ys e2, oX xs e1] (i + 1) (↑i : Int) A1 B1 true (os ++ [((↑i : Int), A1, B1)]) :=
  Dg.code_round (f := 4) (cl4 2) (hs := [Hint.val 4 34 (Value.bool true),
    Hint.call 12 (Value.tuple #[Value.bool true, Value.int IntKind.i64 A1, Value.int IntKind.i64 B1]) { n := 6, objs := [AObj.cells (tc os) 31 5 3, AObj.cells [Value.slice (some { block := 5, off := 0, spot := some 0 }) (List.length os) (List.length os)] 39 0 1, AObj.cells [Value.bool false] 4 4 1, AObj.cells [Value.int IntKind.i64 left] 3 4 1, AObj.cells (i64s ys) e2.fst (e2.snd.fst + 4) e2.snd.snd, AObj.cells (i64s xs) e1.fst (e1.snd.fst + 4) e1.snd.snd] } [],
    Hint.val 4 49 (Value.int IntKind.u64 (↑i : Int)),
    Hint.softH 4 54 (Value.slice (some { block := 7, off := 0, spot := some 0 }) (List.length (os ++ [((↑i : Int), A1, B1)])) (List.length (os ++ [((↑i : Int), A1, B1)]))) { n := 8, objs := [AObj.cells (tc (os ++ [((↑i : Int), A1, B1)])) 31 5 3, AObj.cells [Value.int IntKind.u64 (↑i : Int), Value.int IntKind.i64 A1, Value.int IntKind.i64 B1] 31 0 1, AObj.dead, AObj.cells [Value.slice (some { block := 5, off := 0, spot := some 0 }) (List.length os) (List.length os)] 39 0 1, AObj.cells [Value.bool false] 4 4 1, AObj.cells [Value.int IntKind.i64 left] 3 4 1, AObj.cells (i64s ys) e2.fst (e2.snd.fst + 4) e2.snd.snd, AObj.cells (i64s xs) e1.fst (e1.snd.fst + 4) e1.snd.snd] } [5],
    Hint.val 4 55 (Value.int IntKind.i64 ((↑i : Int) + 1))])
    [Value.bool (decide ((↑i : Int) < (↑lx : Int))) = Value.bool true,
    evCall Try.prog 0 (bodied Try.prog) over3 sbs 1000 19 12 [Value.int IntKind.i64 (↑w : Int), Value.int IntKind.i64 b, Value.slice (some { block := 0, off := 0, spot := cx.snd }) lx cx.fst, Value.slice (some { block := 1, off := 0, spot := cy.snd }) ly cy.fst, Value.int IntKind.i64 (↑i : Int)] { n := 6, objs := [AObj.cells (tc os) 31 5 3, AObj.cells [Value.slice (some { block := 5, off := 0, spot := some 0 }) (List.length os) (List.length os)] 39 0 1, AObj.cells [Value.bool false] 4 4 1, AObj.cells [Value.int IntKind.i64 left] 3 4 1, AObj.cells (i64s ys) e2.fst (e2.snd.fst + 4) e2.snd.snd, AObj.cells (i64s xs) e1.fst (e1.snd.fst + 4) e1.snd.snd] } = some (Value.tuple #[Value.bool true, Value.int IntKind.i64 A1, Value.int IntKind.i64 B1], { n := 6, objs := [AObj.cells (tc os) 31 5 3, AObj.cells [Value.slice (some { block := 5, off := 0, spot := some 0 }) (List.length os) (List.length os)] 39 0 1, AObj.cells [Value.bool false] 4 4 1, AObj.cells [Value.int IntKind.i64 left] 3 4 1, AObj.cells (i64s ys) e2.fst (e2.snd.fst + 4) e2.snd.snd, AObj.cells (i64s xs) e1.fst (e1.snd.fst + 4) e1.snd.snd] }, []),
    Value.int IntKind.u64 (IntKind.wrap IntKind.u64 (↑i : Int)) = Value.int IntKind.u64 (↑i : Int),
    Dg.evAppend Try.prog { n := (7 : Nat), objs := [AObj.cells [Value.int IntKind.u64 (↑i : Int), Value.int IntKind.i64 A1, Value.int IntKind.i64 B1] (31 : Nat) (0 : Nat) (1 : Nat), AObj.cells (tc os) (31 : Nat) (5 : Nat) (3 : Nat), AObj.cells [Value.slice (some { block := (5 : Nat), off := (0 : Nat), spot := some (0 : Nat) }) (List.length os) (List.length os)] (39 : Nat) (0 : Nat) (1 : Nat), AObj.cells [Value.bool false] (4 : Nat) (4 : Nat) (1 : Nat), AObj.cells [Value.int IntKind.i64 left] (3 : Nat) (4 : Nat) (1 : Nat), AObj.cells (i64s ys) e2.fst (e2.snd.fst + (4 : Nat)) e2.snd.snd, AObj.cells (i64s xs) e1.fst (e1.snd.fst + (4 : Nat)) e1.snd.snd] } (39 : Nat) (39 : Nat) (Value.slice (some { block := (5 : Nat), off := (0 : Nat), spot := some (0 : Nat) }) (List.length os) (List.length os)) (Value.slice (some { block := (6 : Nat), off := (0 : Nat) }) (1 : Nat) (1 : Nat)) = some (Value.slice (some { block := (7 : Nat), off := (0 : Nat), spot := some (0 : Nat) }) (List.length (os ++ [((↑i : Int), A1, B1)])) (List.length (os ++ [((↑i : Int), A1, B1)])), { n := (8 : Nat), objs := [AObj.cells (tc (os ++ [((↑i : Int), A1, B1)])) (31 : Nat) (5 : Nat) (3 : Nat), AObj.cells [Value.int IntKind.u64 (↑i : Int), Value.int IntKind.i64 A1, Value.int IntKind.i64 B1] (31 : Nat) (0 : Nat) (1 : Nat), AObj.dead, AObj.cells [Value.slice (some { block := (5 : Nat), off := (0 : Nat), spot := some (0 : Nat) }) (List.length os) (List.length os)] (39 : Nat) (0 : Nat) (1 : Nat), AObj.cells [Value.bool false] (4 : Nat) (4 : Nat) (1 : Nat), AObj.cells [Value.int IntKind.i64 left] (3 : Nat) (4 : Nat) (1 : Nat), AObj.cells (i64s ys) e2.fst (e2.snd.fst + (4 : Nat)) e2.snd.snd, AObj.cells (i64s xs) e1.fst (e1.snd.fst + (4 : Nat)) e1.snd.snd] }, [(5 : Nat)]),
    Value.int IntKind.i64 (IntKind.wrap IntKind.i64 ((↑i : Int) + (1 : Int))) = Value.int IntKind.i64 ((↑i : Int) + (1 : Int))] (by kernel_rfl)
    ⟨Dg.vtrue (by omega), Dg.evCall_over (call12 (cx := cx) (cy := cy) (e1 := e1) (e2 := e2) rfl rfl sa (by omega) hv.symm), Dg.u64_eq rfl (by omega) (by omega), app16 (os := os) (x := ((i : Int), A1, B1)) rfl rfl rfl (by omega) (by simp) rfl rfl, Dg.i64_eq rfl (by omega) (by omega), trivial⟩
--> g4y2
end Go.Proofs.Ytafhlmpifdclaaa.shift
