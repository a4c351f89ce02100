/- What 'ShiftSteps' comes to, at every case of its arguments. -/
import Derived.Test.YtafhlmpifdclaaaRows
import Derived.Test.YtafhlmpifdclaaaShift4c
namespace Go.Proofs.Ytafhlmpifdclaaa.shift
open Go.Dg (junk St Ex Ev Hint evCall evCallS evCode evCodeS evLoop cleanSt ue bodied noOver sbOf headOf tailOf bodyOf rAssign rBody lBody Flats flatOver Heap AObj SCall Law ofLaw Fix)
set_option linter.unusedVariables false
set_option linter.unusedSimpArgs false

theorem loopWo (left : Int) (lx : Nat) (cx : Cp) (ly : Nat) (cy : Cp) (e1 e2 : Sh) (xs ys : List Int) (w : Nat) (b : Int) (sa : StepArgs w b xs ys lx ly) (hlx : lx ≤ 200) (i : Nat) (hi : lx = i + 1) {os : List (Int × Int × Int)} (hw : wantL w b xs ys (min lx ly) lx = os) (ho : ¬ os = []) {s0 : St} (h0 : cl4 2 s0 = N4a w b left (aX lx cx) (aY ly cy) lx 2 5 [oY ys e2, oX xs e1]) :
    evLoop (run4 over3 2) (cl4 2) 1000 s0 = some (.exit 0, EW4 w b left (aX lx cx) (aY ly cy) lx [oY ys e2, oX xs e1] (i : Int) (lastA w b xs ys (min lx ly) i) (lastB w b xs ys (min lx ly) i) (isW w b xs ys (min lx ly) i) os) := by
  have h := loopWc left lx cx ly cy e1 e2 xs ys w b sa hlx i hi (by rw [hw]; exact ho) h0
  rw [hw] at h
  exact h
def HPXY_low (left : Int) (lx : Nat) (cx : Cp) (ly : Nat) (cy : Cp) (e1 e2 : Sh) (xs ys : List Int) (w b : Int) (i : Nat) : St := match i with
  | 0 => N4a w b left (aX lx cx) (aY ly cy) lx 2 5 [oY ys e2, oX xs e1]
  | i + 1 => N4b w b left (aX lx cx) (aY ly cy) lx 2 5 [oY ys e2, oX xs e1] (i + 1) (i : Int) 0 0 false
theorem loopPXY_low (left : Int) (lx : Nat) (cx : Cp) (ly : Nat) (cy : Cp) (e1 e2 : Sh) (xs ys : List Int) (w b : Int) (hw : w < 1) (hlx : lx ≤ 200) (i : Nat) (hi : lx = i + 1) {s0 : St} (h0 : cl4 2 s0 = N4a w b left (aX lx cx) (aY ly cy) lx 2 5 [oY ys e2, oX xs e1]) :
    evLoop (run4 over0 2) (cl4 2) 1000 s0 = some (.exit 0, EN4 w b left (aX lx cx) (aY ly cy) lx 2 5 [oY ys e2, oX xs e1] (i : Int) 0 0 false) := by
  refine Dg.loop_run (S := HPXY_low left lx cx ly cy e1 e2 xs ys w b) (n := lx) (by simp) (fun j hi => ?_) ?_ (by omega) h0
  · cases j with
    | zero =>
      by_cases hl : ly < lx
      · exact p4XY_lowl0 left lx cx ly cy e1 e2 xs ys w b hw hi hl hlx
      · exact p4XY_lowg0 left lx cx ly cy e1 e2 xs ys w b hw hi (by omega) hlx
    | succ i =>
      by_cases hl : ly < lx
      · exact p4XY_lowl1 left lx cx ly cy e1 e2 xs ys w b hw (i + 1) (i : Int) 0 0 false hi hl hlx
      · exact p4XY_lowg1 left lx cx ly cy e1 e2 xs ys w b hw (i + 1) (i : Int) 0 0 false hi (by omega) hlx
  · have hh : HPXY_low left lx cx ly cy e1 e2 xs ys w b lx = N4b w b left (aX lx cx) (aY ly cy) lx 2 5 [oY ys e2, oX xs e1] lx (i : Int) 0 0 false := by
      unfold HPXY_low
      split
      · omega
      · rename_i i'
        obtain rfl : i' = i := by omega
        rfl
    rw [hh]
    exact stop4 w b left (aX lx cx) (aY ly cy) lx 2 2 _ _ _ _ _ [] over0
def HPXY_high (left : Int) (lx : Nat) (cx : Cp) (ly : Nat) (cy : Cp) (e1 e2 : Sh) (xs ys : List Int) (w b : Int) (i : Nat) : St := match i with
  | 0 => N4a w b left (aX lx cx) (aY ly cy) lx 2 5 [oY ys e2, oX xs e1]
  | i + 1 => N4b w b left (aX lx cx) (aY ly cy) lx 2 5 [oY ys e2, oX xs e1] (i + 1) (i : Int) 0 0 false
theorem loopPXY_high (left : Int) (lx : Nat) (cx : Cp) (ly : Nat) (cy : Cp) (e1 e2 : Sh) (xs ys : List Int) (w b : Int) (hw : 64 < w) (hlx : lx ≤ 200) (i : Nat) (hi : lx = i + 1) {s0 : St} (h0 : cl4 2 s0 = N4a w b left (aX lx cx) (aY ly cy) lx 2 5 [oY ys e2, oX xs e1]) :
    evLoop (run4 over0 2) (cl4 2) 1000 s0 = some (.exit 0, EN4 w b left (aX lx cx) (aY ly cy) lx 2 5 [oY ys e2, oX xs e1] (i : Int) 0 0 false) := by
  refine Dg.loop_run (S := HPXY_high left lx cx ly cy e1 e2 xs ys w b) (n := lx) (by simp) (fun j hi => ?_) ?_ (by omega) h0
  · cases j with
    | zero =>
      by_cases hl : ly < lx
      · exact p4XY_highl0 left lx cx ly cy e1 e2 xs ys w b hw hi hl hlx
      · exact p4XY_highg0 left lx cx ly cy e1 e2 xs ys w b hw hi (by omega) hlx
    | succ i =>
      by_cases hl : ly < lx
      · exact p4XY_highl1 left lx cx ly cy e1 e2 xs ys w b hw (i + 1) (i : Int) 0 0 false hi hl hlx
      · exact p4XY_highg1 left lx cx ly cy e1 e2 xs ys w b hw (i + 1) (i : Int) 0 0 false hi (by omega) hlx
  · have hh : HPXY_high left lx cx ly cy e1 e2 xs ys w b lx = N4b w b left (aX lx cx) (aY ly cy) lx 2 5 [oY ys e2, oX xs e1] lx (i : Int) 0 0 false := by
      unfold HPXY_high
      split
      · omega
      · rename_i i'
        obtain rfl : i' = i := by omega
        rfl
    rw [hh]
    exact stop4 w b left (aX lx cx) (aY ly cy) lx 2 2 _ _ _ _ _ [] over0
def HPXY_neg (left : Int) (lx : Nat) (cx : Cp) (ly : Nat) (cy : Cp) (e1 e2 : Sh) (xs ys : List Int) (w b : Int) (i : Nat) : St := match i with
  | 0 => N4a w b left (aX lx cx) (aY ly cy) lx 2 5 [oY ys e2, oX xs e1]
  | i + 1 => N4b w b left (aX lx cx) (aY ly cy) lx 2 5 [oY ys e2, oX xs e1] (i + 1) (i : Int) 0 0 false
theorem loopPXY_neg (left : Int) (lx : Nat) (cx : Cp) (ly : Nat) (cy : Cp) (e1 e2 : Sh) (xs ys : List Int) (w b : Int) (hw : 1 ≤ w) (hw1 : w ≤ 64) (hb : b < 0) (hlx : lx ≤ 200) (i : Nat) (hi : lx = i + 1) {s0 : St} (h0 : cl4 2 s0 = N4a w b left (aX lx cx) (aY ly cy) lx 2 5 [oY ys e2, oX xs e1]) :
    evLoop (run4 over0 2) (cl4 2) 1000 s0 = some (.exit 0, EN4 w b left (aX lx cx) (aY ly cy) lx 2 5 [oY ys e2, oX xs e1] (i : Int) 0 0 false) := by
  refine Dg.loop_run (S := HPXY_neg left lx cx ly cy e1 e2 xs ys w b) (n := lx) (by simp) (fun j hi => ?_) ?_ (by omega) h0
  · cases j with
    | zero =>
      by_cases hl : ly < lx
      · exact p4XY_negl0 left lx cx ly cy e1 e2 xs ys w b hw hw1 hb hi hl hlx
      · exact p4XY_negg0 left lx cx ly cy e1 e2 xs ys w b hw hw1 hb hi (by omega) hlx
    | succ i =>
      by_cases hl : ly < lx
      · exact p4XY_negl1 left lx cx ly cy e1 e2 xs ys w b hw hw1 hb (i + 1) (i : Int) 0 0 false hi hl hlx
      · exact p4XY_negg1 left lx cx ly cy e1 e2 xs ys w b hw hw1 hb (i + 1) (i : Int) 0 0 false hi (by omega) hlx
  · have hh : HPXY_neg left lx cx ly cy e1 e2 xs ys w b lx = N4b w b left (aX lx cx) (aY ly cy) lx 2 5 [oY ys e2, oX xs e1] lx (i : Int) 0 0 false := by
      unfold HPXY_neg
      split
      · omega
      · rename_i i'
        obtain rfl : i' = i := by omega
        rfl
    rw [hh]
    exact stop4 w b left (aX lx cx) (aY ly cy) lx 2 2 _ _ _ _ _ [] over0
def HPXN_low (left : Int) (lx : Nat) (cx : Cp) (e1 : Sh) (xs : List Int) (w b : Int) (i : Nat) : St := match i with
  | 0 => N4a w b left (aX lx cx) (.slice none 0 0) lx 1 4 [oX xs e1]
  | i + 1 => N4b w b left (aX lx cx) (.slice none 0 0) lx 1 4 [oX xs e1] (i + 1) (i : Int) 0 0 false
theorem loopPXN_low (left : Int) (lx : Nat) (cx : Cp) (e1 : Sh) (xs : List Int) (w b : Int) (hw : w < 1) (hlx : lx ≤ 200) (i : Nat) (hi : lx = i + 1) {s0 : St} (h0 : cl4 1 s0 = N4a w b left (aX lx cx) (.slice none 0 0) lx 1 4 [oX xs e1]) :
    evLoop (run4 over0 1) (cl4 1) 1000 s0 = some (.exit 0, EN4 w b left (aX lx cx) (.slice none 0 0) lx 1 4 [oX xs e1] (i : Int) 0 0 false) := by
  refine Dg.loop_run (S := HPXN_low left lx cx e1 xs w b) (n := lx) (by simp) (fun j hi => ?_) ?_ (by omega) h0
  · cases j with
    | zero =>
      exact p4XN_low0 left lx cx e1 xs w b hw hi hlx
    | succ i =>
      exact p4XN_low1 left lx cx e1 xs w b hw (i + 1) (i : Int) 0 0 false hi hlx
  · have hh : HPXN_low left lx cx e1 xs w b lx = N4b w b left (aX lx cx) (.slice none 0 0) lx 1 4 [oX xs e1] lx (i : Int) 0 0 false := by
      unfold HPXN_low
      split
      · omega
      · rename_i i'
        obtain rfl : i' = i := by omega
        rfl
    rw [hh]
    exact stop4 w b left (aX lx cx) (.slice none 0 0) lx 1 1 _ _ _ _ _ [] over0
def HPXN_high (left : Int) (lx : Nat) (cx : Cp) (e1 : Sh) (xs : List Int) (w b : Int) (i : Nat) : St := match i with
  | 0 => N4a w b left (aX lx cx) (.slice none 0 0) lx 1 4 [oX xs e1]
  | i + 1 => N4b w b left (aX lx cx) (.slice none 0 0) lx 1 4 [oX xs e1] (i + 1) (i : Int) 0 0 false
theorem loopPXN_high (left : Int) (lx : Nat) (cx : Cp) (e1 : Sh) (xs : List Int) (w b : Int) (hw : 64 < w) (hlx : lx ≤ 200) (i : Nat) (hi : lx = i + 1) {s0 : St} (h0 : cl4 1 s0 = N4a w b left (aX lx cx) (.slice none 0 0) lx 1 4 [oX xs e1]) :
    evLoop (run4 over0 1) (cl4 1) 1000 s0 = some (.exit 0, EN4 w b left (aX lx cx) (.slice none 0 0) lx 1 4 [oX xs e1] (i : Int) 0 0 false) := by
  refine Dg.loop_run (S := HPXN_high left lx cx e1 xs w b) (n := lx) (by simp) (fun j hi => ?_) ?_ (by omega) h0
  · cases j with
    | zero =>
      exact p4XN_high0 left lx cx e1 xs w b hw hi hlx
    | succ i =>
      exact p4XN_high1 left lx cx e1 xs w b hw (i + 1) (i : Int) 0 0 false hi hlx
  · have hh : HPXN_high left lx cx e1 xs w b lx = N4b w b left (aX lx cx) (.slice none 0 0) lx 1 4 [oX xs e1] lx (i : Int) 0 0 false := by
      unfold HPXN_high
      split
      · omega
      · rename_i i'
        obtain rfl : i' = i := by omega
        rfl
    rw [hh]
    exact stop4 w b left (aX lx cx) (.slice none 0 0) lx 1 1 _ _ _ _ _ [] over0
def HPXN_neg (left : Int) (lx : Nat) (cx : Cp) (e1 : Sh) (xs : List Int) (w b : Int) (i : Nat) : St := match i with
  | 0 => N4a w b left (aX lx cx) (.slice none 0 0) lx 1 4 [oX xs e1]
  | i + 1 => N4b w b left (aX lx cx) (.slice none 0 0) lx 1 4 [oX xs e1] (i + 1) (i : Int) 0 0 false
theorem loopPXN_neg (left : Int) (lx : Nat) (cx : Cp) (e1 : Sh) (xs : List Int) (w b : Int) (hw : 1 ≤ w) (hw1 : w ≤ 64) (hb : b < 0) (hlx : lx ≤ 200) (i : Nat) (hi : lx = i + 1) {s0 : St} (h0 : cl4 1 s0 = N4a w b left (aX lx cx) (.slice none 0 0) lx 1 4 [oX xs e1]) :
    evLoop (run4 over0 1) (cl4 1) 1000 s0 = some (.exit 0, EN4 w b left (aX lx cx) (.slice none 0 0) lx 1 4 [oX xs e1] (i : Int) 0 0 false) := by
  refine Dg.loop_run (S := HPXN_neg left lx cx e1 xs w b) (n := lx) (by simp) (fun j hi => ?_) ?_ (by omega) h0
  · cases j with
    | zero =>
      exact p4XN_neg0 left lx cx e1 xs w b hw hw1 hb hi hlx
    | succ i =>
      exact p4XN_neg1 left lx cx e1 xs w b hw hw1 hb (i + 1) (i : Int) 0 0 false hi hlx
  · have hh : HPXN_neg left lx cx e1 xs w b lx = N4b w b left (aX lx cx) (.slice none 0 0) lx 1 4 [oX xs e1] lx (i : Int) 0 0 false := by
      unfold HPXN_neg
      split
      · omega
      · rename_i i'
        obtain rfl : i' = i := by omega
        rfl
    rw [hh]
    exact stop4 w b left (aX lx cx) (.slice none 0 0) lx 1 1 _ _ _ _ _ [] over0
def HPXN_ok (left : Int) (lx : Nat) (cx : Cp) (e1 : Sh) (xs : List Int) (w b : Int) (i : Nat) : St := match i with
  | 0 => N4a w b left (aX lx cx) (.slice none 0 0) lx 1 4 [oX xs e1]
  | i + 1 => N4b w b left (aX lx cx) (.slice none 0 0) lx 1 4 [oX xs e1] (i + 1) (i : Int) 0 0 false
theorem loopPXN_ok (left : Int) (lx : Nat) (cx : Cp) (e1 : Sh) (xs : List Int) (w b : Int) (hw : 1 ≤ w) (hw1 : w ≤ 64) (hb : 0 ≤ b) (hlx : lx ≤ 200) (i : Nat) (hi : lx = i + 1) {s0 : St} (h0 : cl4 1 s0 = N4a w b left (aX lx cx) (.slice none 0 0) lx 1 4 [oX xs e1]) :
    evLoop (run4 over0 1) (cl4 1) 1000 s0 = some (.exit 0, EN4 w b left (aX lx cx) (.slice none 0 0) lx 1 4 [oX xs e1] (i : Int) 0 0 false) := by
  refine Dg.loop_run (S := HPXN_ok left lx cx e1 xs w b) (n := lx) (by simp) (fun j hi => ?_) ?_ (by omega) h0
  · cases j with
    | zero =>
      exact p4XN_oka0 left lx cx e1 xs w b hw hw1 hb hi (by omega) hlx
    | succ i =>
      by_cases hk : ((i + 1 : Nat) : Int) < w
      · exact p4XN_oka1 left lx cx e1 xs w b hw hw1 hb (i + 1) (i : Int) 0 0 false hi hk hlx
      · exact p4XN_okb1 left lx cx e1 xs w b hw hw1 hb (i + 1) (i : Int) 0 0 false hi (by omega) hlx
  · have hh : HPXN_ok left lx cx e1 xs w b lx = N4b w b left (aX lx cx) (.slice none 0 0) lx 1 4 [oX xs e1] lx (i : Int) 0 0 false := by
      unfold HPXN_ok
      split
      · omega
      · rename_i i'
        obtain rfl : i' = i := by omega
        rfl
    rw [hh]
    exact stop4 w b left (aX lx cx) (.slice none 0 0) lx 1 1 _ _ _ _ _ [] over0
--< s4_0
theorem s4_0 (left : Int) (cx : Cp) (ly : Nat) (cy : Cp) (e1 : Sh) (e2 : Sh) (xs : List Int) (ys : List Int) (w : Nat) (b : Int) (hw : 0 < w) (hw1 : w ≤ 64) (hb : 0 ≤ b ∧ b < 9223372036854775808) (hly : ly ≤ 200) :
    evCall Try.prog 0 (bodied Try.prog) over3 sbs 1000 20 4 [Value.int IntKind.i64 (↑w : Int), Value.int IntKind.i64 b, aX 0 cx, aY ly cy, Value.int IntKind.i64 left] { n := 2, objs := [oY ys e2, oX xs e1] } = some (Value.bool true, { n := 2, objs := [AObj.cells (i64s ys) e2.fst (e2.snd.fst + 4) e2.snd.snd, AObj.cells (i64s xs) e1.fst (e1.snd.fst + 4) e1.snd.snd] }, []) :=
  Dg.evCall_hint (hs' := []) (hs := [Hint.val 4 24 (Value.bool false),
    Hint.call 8 (Value.bool true) { n := 0, objs := [] } [],
    Hint.val 9 7 (Value.bool false),
    Hint.val 9 10 (Value.bool false),
    Hint.val 9 14 (Value.bool false),
    Hint.val 24 9 (Value.int IntKind.i64 0),
    Hint.val 4 84 (Value.int IntKind.i64 0)])
    [Value.bool (decide ((↑ly : Int) > (200 : Int))) = Value.bool false,
    evCall Try.prog 0 (bodied Try.prog) over3 sbs 1000 19 8 [] { n := 0, objs := [] } = some (Value.bool true, { n := 0, objs := [] }, []),
    Value.bool (decide ((↑w : Int) < (1 : Int))) = Value.bool false,
    Value.bool (decide ((↑w : Int) > (64 : Int))) = Value.bool false,
    Value.bool (decide (b < (0 : Int))) = Value.bool false,
    Value.int IntKind.i64 (0 : Int) = Value.int IntKind.i64 (0 : Int),
    Value.int IntKind.i64 (if (if (1 : Int) > left then (1 : Int) else left) < (0 : Int) then if (1 : Int) > left then (1 : Int) else left else (0 : Int)) = Value.int IntKind.i64 (0 : Int)] (by kernel_rfl)
    ⟨Dg.vfalse (by omega), Dg.evCall_over (c83 _), Dg.vfalse (by omega), Dg.vfalse (by omega), Dg.vfalse (by omega), rfl, Dg.int_eq (by (repeat' split) <;> omega), trivial⟩
--> s4_0
--< s4_n0
theorem s4_n0 (left : Int) (lx : Nat) (cx : Cp) (ly : Nat) (cy : Cp) (e1 : Sh) (e2 : Sh) (xs : List Int) (ys : List Int) (w : Nat) (b : Int) (hw : 0 < w) (hw1 : w ≤ 64) (hb : 0 ≤ b ∧ b < 9223372036854775808) (hly : ly ≤ 200) (sa : StepArgs w b xs ys lx ly) (hlx : lx ≤ 200) (hcx : lx ≤ cx.fst) (hcy : ly ≤ cy.fst) (hxl : List.length xs = cx.fst) (hyl : List.length ys = cy.fst) (hx : ∀ (x : Int), x ∈ xs → In x) (i : Nat) (hi : lx = i + 1) (hN : min lx ly = 0) (hwant : wantL w b xs ys (min lx ly) lx = []) :
    evCall Try.prog 0 (bodied Try.prog) over3 sbs 1000 20 4 [Value.int IntKind.i64 (↑w : Int), Value.int IntKind.i64 b, aX lx cx, aY ly cy, Value.int IntKind.i64 left] { n := 2, objs := [oY ys e2, oX xs e1] } = some (Value.bool true, { n := 2, objs := [AObj.cells (i64s ys) e2.fst (e2.snd.fst + 4) e2.snd.snd, AObj.cells (i64s xs) e1.fst (e1.snd.fst + 4) e1.snd.snd] }, []) :=
  Dg.evCall_hint (hs' := []) (hs := [Hint.val 4 20 (Value.bool false),
    Hint.val 4 24 (Value.bool false),
    Hint.call 8 (Value.bool true) { n := 0, objs := [] } [],
    Hint.loop 4 (Ex.exit 0) (EN4 (↑w : Int) b left (aX lx cx) (aY ly cy) lx 2 5 [oY ys e2, oX xs e1] (↑i : Int) (lastA w b xs ys (min lx ly) i) (lastB w b xs ys (min lx ly) i) (isW w b xs ys (min lx ly) i)),
    Hint.val 9 7 (Value.bool false),
    Hint.val 9 10 (Value.bool false),
    Hint.val 9 14 (Value.bool false),
    Hint.val 24 9 (Value.int IntKind.i64 (↑0 : Int)),
    Hint.loop 24 (Ex.exit 0) { ts := TE24 5 0 undef, H := (S4a w lx cx ly cy b left 5 0 (Value.int IntKind.i64 (↑i : Int)) (Value.bool (isW w b xs ys (min lx ly) i)) (Value.int IntKind.i64 (lastA w b xs ys (min lx ly) i)) (Value.int IntKind.i64 (lastB w b xs ys (min lx ly) i)) (O4 left [oY ys e2, oX xs e1])).H, log := [] },
    Hint.val 4 84 (Value.int IntKind.i64 0)])
    [Value.bool (decide ((↑lx : Int) > (200 : Int))) = Value.bool false,
    Value.bool (decide ((↑ly : Int) > (200 : Int))) = Value.bool false,
    evCall Try.prog 0 (bodied Try.prog) over3 sbs 1000 19 8 [] { n := 0, objs := [] } = some (Value.bool true, { n := 0, objs := [] }, []),
    evLoop (run4 over3 2) (cl4 2) 1000 { ts := [Value.int IntKind.i64 (↑w : Int), Value.int IntKind.i64 b, Value.slice (some { block := 0, off := 0, spot := cx.2 }) lx cx.fst, Value.slice (some { block := 1, off := 0, spot := cy.2 }) ly cy.fst, Value.int IntKind.i64 left, undef, undef, undef, undef, Value.pointer (some { block := 2, off := 0 }), Value.pointer (some { block := 3, off := 0 }), Value.pointer (some { block := 4, off := 0 }), undef, undef, undef, undef, undef, undef, Value.slice (some { block := 0, off := 0, spot := cx.2 }) lx cx.fst, Value.int IntKind.i64 (↑lx : Int), Value.bool false, Value.bool false, Value.slice (some { block := 1, off := 0, spot := cy.2 }) ly cy.fst, Value.int IntKind.i64 (↑ly : Int), Value.bool false, Value.bool false, Value.bool false, Value.bool true, Value.bool false, Value.bool false, undef, Value.slice (some { block := 0, off := 0, spot := cx.2 }) lx cx.fst, Value.int IntKind.i64 (↑lx : Int), Value.int IntKind.i64 0, undef, undef, undef, undef, undef, undef, undef, undef, undef, undef, undef, undef, undef, undef, undef, undef, undef, undef, undef, undef, undef, undef, undef, undef, undef, undef, undef, undef, undef, undef, undef, undef, undef, undef, undef, undef, undef, undef, undef, undef, undef, undef, undef, undef, undef, undef, undef, undef, undef, undef, undef, undef], H := { n := 5, objs := [AObj.cells [Value.slice none 0 0] 39 0 1, AObj.cells [Value.bool false] 4 0 1, AObj.cells [Value.int IntKind.i64 left] 3 0 1, AObj.cells (i64s ys) e2.fst (e2.snd.fst + 4) e2.snd.snd, AObj.cells (i64s xs) e1.fst (e1.snd.fst + 4) e1.snd.snd] }, log := [] } = some (Ex.exit 0, EN4 (↑w : Int) b left (aX lx cx) (aY ly cy) lx 2 5 [oY ys e2, oX xs e1] (↑i : Int) (lastA w b xs ys (min lx ly) i) (lastB w b xs ys (min lx ly) i) (isW w b xs ys (min lx ly) i)),
    Value.bool (decide ((↑w : Int) < (1 : Int))) = Value.bool false,
    Value.bool (decide ((↑w : Int) > (64 : Int))) = Value.bool false,
    Value.bool (decide (b < (0 : Int))) = Value.bool false,
    Value.int IntKind.i64 (if (↑ly : Int) < (↑lx : Int) then (↑ly : Int) else (↑lx : Int)) = Value.int IntKind.i64 (↑(0 : Nat) : Int),
    evLoop (run4s 17) (cl4s 17) 1000 { ts := [Value.func (Fn.yield 16) #[] #[], Value.pointer (some { block := 14, off := 0 }), Value.pointer (some { block := 15, off := 0 }), undef, undef, Value.slice (some { block := 0, off := 0, spot := cx.2 }) lx cx.fst, Value.int IntKind.i64 (↑lx : Int), Value.slice (some { block := 1, off := 0, spot := cy.2 }) ly cy.fst, Value.int IntKind.i64 (↑ly : Int), Value.int IntKind.i64 0, Value.int IntKind.i64 0, undef, undef, undef, undef, undef, undef, undef, undef, undef, undef, undef, undef, undef, undef, undef], H := { n := 17, objs := [AObj.loop { sb := 11, ts := [Value.func (Fn.yield 10) #[] #[], Value.pointer (some { block := 6, off := 0 }), Value.pointer (some { block := 7, off := 0 }), Value.pointer (some { block := 8, off := 0 }), Value.pointer (some { block := 9, off := 0 }), Value.pointer (some { block := 11, off := 0 }), Value.pointer (some { block := 13, off := 0 }), Value.int IntKind.i64 0, undef, undef, undef, junk, junk, junk, junk, junk, junk, junk, junk, junk, junk, junk, undef, junk, junk, junk, junk, junk, junk, junk, junk, junk, junk, junk, junk, junk, junk, junk, junk], params := #[22], assign := as22, body := bd22, state := LoopState.ready, pending := none }, AObj.cells [Value.slice (some { block := 1, off := 0, spot := cy.2 }) ly cy.fst] 22 0 1, AObj.cells [Value.slice (some { block := 0, off := 0, spot := cx.2 }) lx cx.fst] 22 0 1, AObj.cells [Value.pointer (some { block := 12, off := 0 })] 24 0 1, AObj.cells [Value.int IntKind.i64 (↑w : Int), Value.int IntKind.i64 b, Value.slice none 0 0, Value.int IntKind.u64 0] 51 4 1, AObj.cells [Value.func (Fn.yield 10) #[] #[]] 58 0 1, AObj.loop { sb := 18, ts := [Value.int IntKind.i64 (↑w : Int), Value.int IntKind.i64 b, Value.slice (some { block := 0, off := 0, spot := cx.2 }) lx cx.fst, Value.slice (some { block := 1, off := 0, spot := cy.2 }) ly cy.fst, Value.int IntKind.i64 left, undef, undef, undef, undef, Value.pointer (some { block := 2, off := 0 }), Value.pointer (some { block := 3, off := 0 }), Value.pointer (some { block := 4, off := 0 }), Value.int IntKind.i64 (↑i : Int), Value.bool (isW w b xs ys (min lx ly) i), Value.int IntKind.i64 (lastA w b xs ys (min lx ly) i), Value.int IntKind.i64 (lastB w b xs ys (min lx ly) i), Value.pointer (some { block := 5, off := 0 }), undef, junk, junk, junk, junk, junk, junk, junk, junk, junk, junk, junk, junk, junk, junk, junk, junk, junk, junk, junk, junk, junk, junk, junk, junk, junk, junk, junk, junk, junk, junk, junk, junk, junk, junk, junk, junk, junk, junk, junk, junk, junk, junk, junk, junk, junk, junk, junk, junk, junk, junk, junk, junk, junk, junk, junk, junk, junk, junk, junk, junk, junk, junk, junk, junk, junk, junk, junk, junk], params := #[61], assign := as4, body := bd4, state := LoopState.ready, pending := none }, AObj.cells [Value.slice (some { block := 1, off := 0, spot := cy.2 }) ly cy.fst] 22 0 1, AObj.cells [Value.slice (some { block := 0, off := 0, spot := cx.2 }) lx cx.fst] 22 0 1, AObj.cells [Value.int IntKind.i64 b] 2 4 1, AObj.cells [Value.int IntKind.i64 (↑w : Int)] 3 4 1, AObj.cells [Value.int IntKind.i64 0] 3 0 1, AObj.cells [Value.slice none 0 0] 39 4 1, AObj.cells [Value.bool false] 4 4 1, AObj.cells [Value.int IntKind.i64 left] 3 4 1, AObj.cells (i64s ys) e2.fst (e2.snd.fst + 4) e2.snd.snd, AObj.cells (i64s xs) e1.fst (e1.snd.fst + 4) e1.snd.snd] }, log := [] } = some (Ex.exit 0, { ts := TE24 5 0 undef, H := (S4a w lx cx ly cy b left 5 0 (Value.int IntKind.i64 (↑i : Int)) (Value.bool (isW w b xs ys (min lx ly) i)) (Value.int IntKind.i64 (lastA w b xs ys (min lx ly) i)) (Value.int IntKind.i64 (lastB w b xs ys (min lx ly) i)) (O4 left [oY ys e2, oX xs e1])).H, log := [] }),
    Value.int IntKind.i64 (if (if (1 : Int) > left then (1 : Int) else left) < (0 : Int) then if (1 : Int) > left then (1 : Int) else left else (0 : Int)) = Value.int IntKind.i64 (0 : Int)] (by kernel_rfl)
    ⟨Dg.vfalse (by omega), Dg.vfalse (by omega), Dg.evCall_over (c83 _), loopWn left lx cx ly cy e1 e2 xs ys w b sa hlx i hi hwant (by kernel_rfl), Dg.vfalse (by omega), Dg.vfalse (by omega), Dg.vfalse (by omega), Dg.int_eq (by omega), loopN4 w lx cx ly cy e1 e2 b left xs ys 0 _ _ _ _ hw hw1 hb (by omega) (by omega) (by omega) hcx hcy hxl hyl hx rfl (by kernel_rfl), Dg.int_eq (by (repeat' split) <;> omega), trivial⟩
--> s4_n0
--< s4_n1
theorem s4_n1 (left : Int) (lx : Nat) (cx : Cp) (ly : Nat) (cy : Cp) (e1 : Sh) (e2 : Sh) (xs : List Int) (ys : List Int) (w : Nat) (b : Int) (hw : 0 < w) (hw1 : w ≤ 64) (hb : 0 ≤ b ∧ b < 9223372036854775808) (hly : ly ≤ 200) (sa : StepArgs w b xs ys lx ly) (hlx : lx ≤ 200) (hcx : lx ≤ cx.fst) (hcy : ly ≤ cy.fst) (hxl : List.length xs = cx.fst) (hyl : List.length ys = cy.fst) (hx : ∀ (x : Int), x ∈ xs → In x) (i : Nat) (hi : lx = i + 1) (m : Nat) (hN : min lx ly = m + 1) (ho : outs w b xs ys (m + 1) = []) (hwant : wantL w b xs ys (min lx ly) lx = []) :
    evCall Try.prog 0 (bodied Try.prog) over3 sbs 1000 20 4 [Value.int IntKind.i64 (↑w : Int), Value.int IntKind.i64 b, aX lx cx, aY ly cy, Value.int IntKind.i64 left] { n := 2, objs := [oY ys e2, oX xs e1] } = some (Value.bool true, { n := 2, objs := [AObj.cells (i64s ys) e2.fst (e2.snd.fst + 4) e2.snd.snd, AObj.cells (i64s xs) e1.fst (e1.snd.fst + 4) e1.snd.snd] }, []) :=
  Dg.evCall_hint (hs' := []) (hs := [Hint.val 4 20 (Value.bool false),
    Hint.val 4 24 (Value.bool false),
    Hint.call 8 (Value.bool true) { n := 0, objs := [] } [],
    Hint.loop 4 (Ex.exit 0) (EN4 (↑w : Int) b left (aX lx cx) (aY ly cy) lx 2 5 [oY ys e2, oX xs e1] (↑i : Int) (lastA w b xs ys (min lx ly) i) (lastB w b xs ys (min lx ly) i) (isW w b xs ys (min lx ly) i)),
    Hint.val 9 7 (Value.bool false),
    Hint.val 9 10 (Value.bool false),
    Hint.val 9 14 (Value.bool false),
    Hint.val 24 9 (Value.int IntKind.i64 (↑(m + 1) : Int)),
    Hint.loop 24 (Ex.exit 0) { ts := TE24 5 (m + 1) (Value.int IntKind.i64 (↑m : Int)), H := (S4b w lx cx ly cy b left 5 (m + 1) (m + 1) (↑m : Int) (psAt w xs ys (m + 1)) (Value.int IntKind.i64 (↑i : Int)) (Value.bool (isW w b xs ys (min lx ly) i)) (Value.int IntKind.i64 (lastA w b xs ys (min lx ly) i)) (Value.int IntKind.i64 (lastB w b xs ys (min lx ly) i)) (O4 left [oY ys e2, oX xs e1])).H, log := [12, 16] },
    Hint.val 4 84 (Value.int IntKind.i64 0)])
    [Value.bool (decide ((↑lx : Int) > (200 : Int))) = Value.bool false,
    Value.bool (decide ((↑ly : Int) > (200 : Int))) = Value.bool false,
    evCall Try.prog 0 (bodied Try.prog) over3 sbs 1000 19 8 [] { n := 0, objs := [] } = some (Value.bool true, { n := 0, objs := [] }, []),
    evLoop (run4 over3 2) (cl4 2) 1000 { ts := [Value.int IntKind.i64 (↑w : Int), Value.int IntKind.i64 b, Value.slice (some { block := 0, off := 0, spot := cx.2 }) lx cx.fst, Value.slice (some { block := 1, off := 0, spot := cy.2 }) ly cy.fst, Value.int IntKind.i64 left, undef, undef, undef, undef, Value.pointer (some { block := 2, off := 0 }), Value.pointer (some { block := 3, off := 0 }), Value.pointer (some { block := 4, off := 0 }), undef, undef, undef, undef, undef, undef, Value.slice (some { block := 0, off := 0, spot := cx.2 }) lx cx.fst, Value.int IntKind.i64 (↑lx : Int), Value.bool false, Value.bool false, Value.slice (some { block := 1, off := 0, spot := cy.2 }) ly cy.fst, Value.int IntKind.i64 (↑ly : Int), Value.bool false, Value.bool false, Value.bool false, Value.bool true, Value.bool false, Value.bool false, undef, Value.slice (some { block := 0, off := 0, spot := cx.2 }) lx cx.fst, Value.int IntKind.i64 (↑lx : Int), Value.int IntKind.i64 0, undef, undef, undef, undef, undef, undef, undef, undef, undef, undef, undef, undef, undef, undef, undef, undef, undef, undef, undef, undef, undef, undef, undef, undef, undef, undef, undef, undef, undef, undef, undef, undef, undef, undef, undef, undef, undef, undef, undef, undef, undef, undef, undef, undef, undef, undef, undef, undef, undef, undef, undef, undef], H := { n := 5, objs := [AObj.cells [Value.slice none 0 0] 39 0 1, AObj.cells [Value.bool false] 4 0 1, AObj.cells [Value.int IntKind.i64 left] 3 0 1, AObj.cells (i64s ys) e2.fst (e2.snd.fst + 4) e2.snd.snd, AObj.cells (i64s xs) e1.fst (e1.snd.fst + 4) e1.snd.snd] }, log := [] } = some (Ex.exit 0, EN4 (↑w : Int) b left (aX lx cx) (aY ly cy) lx 2 5 [oY ys e2, oX xs e1] (↑i : Int) (lastA w b xs ys (min lx ly) i) (lastB w b xs ys (min lx ly) i) (isW w b xs ys (min lx ly) i)),
    Value.bool (decide ((↑w : Int) < (1 : Int))) = Value.bool false,
    Value.bool (decide ((↑w : Int) > (64 : Int))) = Value.bool false,
    Value.bool (decide (b < (0 : Int))) = Value.bool false,
    Value.int IntKind.i64 (if (↑ly : Int) < (↑lx : Int) then (↑ly : Int) else (↑lx : Int)) = Value.int IntKind.i64 (↑(m + (1 : Nat)) : Int),
    evLoop (run4s 17) (cl4s 17) 1000 { ts := [Value.func (Fn.yield 16) #[] #[], Value.pointer (some { block := 14, off := 0 }), Value.pointer (some { block := 15, off := 0 }), undef, undef, Value.slice (some { block := 0, off := 0, spot := cx.2 }) lx cx.fst, Value.int IntKind.i64 (↑lx : Int), Value.slice (some { block := 1, off := 0, spot := cy.2 }) ly cy.fst, Value.int IntKind.i64 (↑ly : Int), Value.int IntKind.i64 (↑(m + 1) : Int), Value.int IntKind.i64 0, undef, undef, undef, undef, undef, undef, undef, undef, undef, undef, undef, undef, undef, undef, undef], H := { n := 17, objs := [AObj.loop { sb := 11, ts := [Value.func (Fn.yield 10) #[] #[], Value.pointer (some { block := 6, off := 0 }), Value.pointer (some { block := 7, off := 0 }), Value.pointer (some { block := 8, off := 0 }), Value.pointer (some { block := 9, off := 0 }), Value.pointer (some { block := 11, off := 0 }), Value.pointer (some { block := 13, off := 0 }), Value.int IntKind.i64 0, undef, undef, undef, junk, junk, junk, junk, junk, junk, junk, junk, junk, junk, junk, undef, junk, junk, junk, junk, junk, junk, junk, junk, junk, junk, junk, junk, junk, junk, junk, junk], params := #[22], assign := as22, body := bd22, state := LoopState.ready, pending := none }, AObj.cells [Value.slice (some { block := 1, off := 0, spot := cy.2 }) ly cy.fst] 22 0 1, AObj.cells [Value.slice (some { block := 0, off := 0, spot := cx.2 }) lx cx.fst] 22 0 1, AObj.cells [Value.pointer (some { block := 12, off := 0 })] 24 0 1, AObj.cells [Value.int IntKind.i64 (↑w : Int), Value.int IntKind.i64 b, Value.slice none 0 0, Value.int IntKind.u64 0] 51 4 1, AObj.cells [Value.func (Fn.yield 10) #[] #[]] 58 0 1, AObj.loop { sb := 18, ts := [Value.int IntKind.i64 (↑w : Int), Value.int IntKind.i64 b, Value.slice (some { block := 0, off := 0, spot := cx.2 }) lx cx.fst, Value.slice (some { block := 1, off := 0, spot := cy.2 }) ly cy.fst, Value.int IntKind.i64 left, undef, undef, undef, undef, Value.pointer (some { block := 2, off := 0 }), Value.pointer (some { block := 3, off := 0 }), Value.pointer (some { block := 4, off := 0 }), Value.int IntKind.i64 (↑i : Int), Value.bool (isW w b xs ys (min lx ly) i), Value.int IntKind.i64 (lastA w b xs ys (min lx ly) i), Value.int IntKind.i64 (lastB w b xs ys (min lx ly) i), Value.pointer (some { block := 5, off := 0 }), undef, junk, junk, junk, junk, junk, junk, junk, junk, junk, junk, junk, junk, junk, junk, junk, junk, junk, junk, junk, junk, junk, junk, junk, junk, junk, junk, junk, junk, junk, junk, junk, junk, junk, junk, junk, junk, junk, junk, junk, junk, junk, junk, junk, junk, junk, junk, junk, junk, junk, junk, junk, junk, junk, junk, junk, junk, junk, junk, junk, junk, junk, junk, junk, junk, junk, junk, junk, junk], params := #[61], assign := as4, body := bd4, state := LoopState.ready, pending := none }, AObj.cells [Value.slice (some { block := 1, off := 0, spot := cy.2 }) ly cy.fst] 22 0 1, AObj.cells [Value.slice (some { block := 0, off := 0, spot := cx.2 }) lx cx.fst] 22 0 1, AObj.cells [Value.int IntKind.i64 b] 2 4 1, AObj.cells [Value.int IntKind.i64 (↑w : Int)] 3 4 1, AObj.cells [Value.int IntKind.i64 0] 3 0 1, AObj.cells [Value.slice none 0 0] 39 4 1, AObj.cells [Value.bool false] 4 4 1, AObj.cells [Value.int IntKind.i64 left] 3 4 1, AObj.cells (i64s ys) e2.fst (e2.snd.fst + 4) e2.snd.snd, AObj.cells (i64s xs) e1.fst (e1.snd.fst + 4) e1.snd.snd] }, log := [] } = some (Ex.exit 0, { ts := TE24 5 (m + 1) (Value.int IntKind.i64 (↑m : Int)), H := (S4b w lx cx ly cy b left 5 (m + 1) (m + 1) (↑m : Int) (psAt w xs ys (m + 1)) (Value.int IntKind.i64 (↑i : Int)) (Value.bool (isW w b xs ys (min lx ly) i)) (Value.int IntKind.i64 (lastA w b xs ys (min lx ly) i)) (Value.int IntKind.i64 (lastB w b xs ys (min lx ly) i)) (O4 left [oY ys e2, oX xs e1])).H, log := [12, 16] }),
    Value.int IntKind.i64 (if (if (1 : Int) > left then (1 : Int) else left) < (0 : Int) then if (1 : Int) > left then (1 : Int) else left else (0 : Int)) = Value.int IntKind.i64 (0 : Int)] (by kernel_rfl)
    ⟨Dg.vfalse (by omega), Dg.vfalse (by omega), Dg.evCall_over (c83 _), loopWn left lx cx ly cy e1 e2 xs ys w b sa hlx i hi hwant (by kernel_rfl), Dg.vfalse (by omega), Dg.vfalse (by omega), Dg.vfalse (by omega), Dg.int_eq (by omega), loopN4 w lx cx ly cy e1 e2 b left xs ys (m + 1) _ _ _ _ hw hw1 hb (by omega) (by omega) (by omega) hcx hcy hxl hyl hx ho (by kernel_rfl), Dg.int_eq (by (repeat' split) <;> omega), trivial⟩
--> s4_n1
--< s4_s
theorem s4_s (left : Int) (lx : Nat) (cx : Cp) (ly : Nat) (cy : Cp) (e1 : Sh) (e2 : Sh) (xs : List Int) (ys : List Int) (w : Nat) (b : Int) (hw : 0 < w) (hw1 : w ≤ 64) (hb : 0 ≤ b ∧ b < 9223372036854775808) (hly : ly ≤ 200) (sa : StepArgs w b xs ys lx ly) (hlx : lx ≤ 200) (hcx : lx ≤ cx.fst) (hcy : ly ≤ cy.fst) (hxl : List.length xs = cx.fst) (hyl : List.length ys = cy.fst) (hx : ∀ (x : Int), x ∈ xs → In x) (i : Nat) (hi : lx = i + 1) (m : Nat) (hN : min lx ly = m + 1) (os : List (Int × Int × Int)) (hos : os = outs w b xs ys (m + 1)) (hne : ¬os = []) (hwant : wantL w b xs ys (min lx ly) lx = os) (hno : ∀ (j : Nat), j < m + 1 → ¬told? w b xs ys left j) (hf : (↑(List.length os) : Int) < left) (hl0 : 0 < List.length os) :
    evCall Try.prog 0 (bodied Try.prog) over3 sbs 1000 20 4 [Value.int IntKind.i64 (↑w : Int), Value.int IntKind.i64 b, aX lx cx, aY ly cy, Value.int IntKind.i64 left] { n := 2, objs := [oY ys e2, oX xs e1] } = some (Value.bool true, { n := 2, objs := [AObj.cells (i64s ys) e2.fst (e2.snd.fst + 4) e2.snd.snd, AObj.cells (i64s xs) e1.fst (e1.snd.fst + 4) e1.snd.snd] }, []) :=
  Dg.evCall_hint (hs' := []) (hs := [Hint.val 4 20 (Value.bool false),
    Hint.val 4 24 (Value.bool false),
    Hint.call 8 (Value.bool true) { n := 0, objs := [] } [],
    Hint.loop 4 (Ex.exit 0) (EW4 (↑w : Int) b left (aX lx cx) (aY ly cy) lx [oY ys e2, oX xs e1] (↑i : Int) (lastA w b xs ys (min lx ly) i) (lastB w b xs ys (min lx ly) i) (isW w b xs ys (min lx ly) i) os),
    Hint.val 9 7 (Value.bool false),
    Hint.val 9 10 (Value.bool false),
    Hint.val 9 14 (Value.bool false),
    Hint.val 24 9 (Value.int IntKind.i64 (↑(m + 1) : Int)),
    Hint.loop 24 (Ex.exit 0) (EWS w lx cx ly cy e1 e2 b left xs ys (↑i : Int) (lastA w b xs ys (min lx ly) i) (lastB w b xs ys (min lx ly) i) (isW w b xs ys (min lx ly) i) os m (List.length os)),
    Hint.val 4 84 (Value.int IntKind.i64 (↑(List.length os) : Int)),
    Hint.val 4 85 (Value.bool true)])
    [Value.bool (decide ((↑lx : Int) > (200 : Int))) = Value.bool false,
    Value.bool (decide ((↑ly : Int) > (200 : Int))) = Value.bool false,
    evCall Try.prog 0 (bodied Try.prog) over3 sbs 1000 19 8 [] { n := 0, objs := [] } = some (Value.bool true, { n := 0, objs := [] }, []),
    evLoop (run4 over3 2) (cl4 2) 1000 { ts := [Value.int IntKind.i64 (↑w : Int), Value.int IntKind.i64 b, Value.slice (some { block := 0, off := 0, spot := cx.2 }) lx cx.fst, Value.slice (some { block := 1, off := 0, spot := cy.2 }) ly cy.fst, Value.int IntKind.i64 left, undef, undef, undef, undef, Value.pointer (some { block := 2, off := 0 }), Value.pointer (some { block := 3, off := 0 }), Value.pointer (some { block := 4, off := 0 }), undef, undef, undef, undef, undef, undef, Value.slice (some { block := 0, off := 0, spot := cx.2 }) lx cx.fst, Value.int IntKind.i64 (↑lx : Int), Value.bool false, Value.bool false, Value.slice (some { block := 1, off := 0, spot := cy.2 }) ly cy.fst, Value.int IntKind.i64 (↑ly : Int), Value.bool false, Value.bool false, Value.bool false, Value.bool true, Value.bool false, Value.bool false, undef, Value.slice (some { block := 0, off := 0, spot := cx.2 }) lx cx.fst, Value.int IntKind.i64 (↑lx : Int), Value.int IntKind.i64 0, undef, undef, undef, undef, undef, undef, undef, undef, undef, undef, undef, undef, undef, undef, undef, undef, undef, undef, undef, undef, undef, undef, undef, undef, undef, undef, undef, undef, undef, undef, undef, undef, undef, undef, undef, undef, undef, undef, undef, undef, undef, undef, undef, undef, undef, undef, undef, undef, undef, undef, undef, undef], H := { n := 5, objs := [AObj.cells [Value.slice none 0 0] 39 0 1, AObj.cells [Value.bool false] 4 0 1, AObj.cells [Value.int IntKind.i64 left] 3 0 1, AObj.cells (i64s ys) e2.fst (e2.snd.fst + 4) e2.snd.snd, AObj.cells (i64s xs) e1.fst (e1.snd.fst + 4) e1.snd.snd] }, log := [] } = some (Ex.exit 0, EW4 (↑w : Int) b left (aX lx cx) (aY ly cy) lx [oY ys e2, oX xs e1] (↑i : Int) (lastA w b xs ys (min lx ly) i) (lastB w b xs ys (min lx ly) i) (isW w b xs ys (min lx ly) i) os),
    Value.bool (decide ((↑w : Int) < (1 : Int))) = Value.bool false,
    Value.bool (decide ((↑w : Int) > (64 : Int))) = Value.bool false,
    Value.bool (decide (b < (0 : Int))) = Value.bool false,
    Value.int IntKind.i64 (if (↑ly : Int) < (↑lx : Int) then (↑ly : Int) else (↑lx : Int)) = Value.int IntKind.i64 (↑(m + (1 : Nat)) : Int),
    evLoop (run4s 18) (cl4s 18) 1000 { ts := [Value.func (Fn.yield 17) #[] #[], Value.pointer (some { block := 15, off := 0 }), Value.pointer (some { block := 16, off := 0 }), undef, undef, Value.slice (some { block := 0, off := 0, spot := cx.2 }) lx cx.fst, Value.int IntKind.i64 (↑lx : Int), Value.slice (some { block := 1, off := 0, spot := cy.2 }) ly cy.fst, Value.int IntKind.i64 (↑ly : Int), Value.int IntKind.i64 (↑(m + 1) : Int), Value.int IntKind.i64 0, undef, undef, undef, undef, undef, undef, undef, undef, undef, undef, undef, undef, undef, undef, undef], H := { n := 18, objs := [AObj.loop { sb := 11, ts := [Value.func (Fn.yield 11) #[] #[], Value.pointer (some { block := 7, off := 0 }), Value.pointer (some { block := 8, off := 0 }), Value.pointer (some { block := 9, off := 0 }), Value.pointer (some { block := 10, off := 0 }), Value.pointer (some { block := 12, off := 0 }), Value.pointer (some { block := 14, off := 0 }), Value.int IntKind.i64 0, undef, undef, undef, junk, junk, junk, junk, junk, junk, junk, junk, junk, junk, junk, undef, junk, junk, junk, junk, junk, junk, junk, junk, junk, junk, junk, junk, junk, junk, junk, junk], params := #[22], assign := as22, body := bd22, state := LoopState.ready, pending := none }, AObj.cells [Value.slice (some { block := 1, off := 0, spot := cy.2 }) ly cy.fst] 22 0 1, AObj.cells [Value.slice (some { block := 0, off := 0, spot := cx.2 }) lx cx.fst] 22 0 1, AObj.cells [Value.pointer (some { block := 13, off := 0 })] 24 0 1, AObj.cells [Value.int IntKind.i64 (↑w : Int), Value.int IntKind.i64 b, Value.slice none 0 0, Value.int IntKind.u64 0] 51 4 1, AObj.cells [Value.func (Fn.yield 11) #[] #[]] 58 0 1, AObj.loop { sb := 18, ts := [Value.int IntKind.i64 (↑w : Int), Value.int IntKind.i64 b, Value.slice (some { block := 0, off := 0, spot := cx.2 }) lx cx.fst, Value.slice (some { block := 1, off := 0, spot := cy.2 }) ly cy.fst, Value.int IntKind.i64 left, undef, undef, undef, undef, Value.pointer (some { block := 2, off := 0 }), Value.pointer (some { block := 3, off := 0 }), Value.pointer (some { block := 4, off := 0 }), Value.int IntKind.i64 (↑i : Int), Value.bool (isW w b xs ys (min lx ly) i), Value.int IntKind.i64 (lastA w b xs ys (min lx ly) i), Value.int IntKind.i64 (lastB w b xs ys (min lx ly) i), Value.pointer (some { block := 6, off := 0 }), undef, junk, junk, junk, junk, junk, junk, junk, junk, junk, junk, junk, junk, junk, junk, junk, junk, junk, junk, junk, junk, junk, junk, junk, junk, junk, junk, junk, junk, junk, junk, junk, junk, junk, junk, junk, junk, junk, junk, junk, junk, junk, junk, junk, junk, junk, junk, junk, junk, junk, junk, junk, junk, junk, junk, junk, junk, junk, junk, junk, junk, junk, junk, junk, junk, junk, junk, junk, junk], params := #[61], assign := as4, body := bd4, state := LoopState.ready, pending := none }, AObj.cells [Value.slice (some { block := 1, off := 0, spot := cy.2 }) ly cy.fst] 22 0 1, AObj.cells [Value.slice (some { block := 0, off := 0, spot := cx.2 }) lx cx.fst] 22 0 1, AObj.cells [Value.int IntKind.i64 b] 2 4 1, AObj.cells [Value.int IntKind.i64 (↑w : Int)] 3 4 1, AObj.cells [Value.int IntKind.i64 0] 3 0 1, AObj.cells (tc os) 31 5 3, AObj.cells [Value.slice (some { block := 5, off := 0, spot := some 0 }) (List.length os) (List.length os)] 39 0 1, AObj.cells [Value.bool false] 4 4 1, AObj.cells [Value.int IntKind.i64 left] 3 4 1, AObj.cells (i64s ys) e2.fst (e2.snd.fst + 4) e2.snd.snd, AObj.cells (i64s xs) e1.fst (e1.snd.fst + 4) e1.snd.snd] }, log := [] } = some (Ex.exit 0, EWS w lx cx ly cy e1 e2 b left xs ys (↑i : Int) (lastA w b xs ys (min lx ly) i) (lastB w b xs ys (min lx ly) i) (isW w b xs ys (min lx ly) i) os m (List.length os)),
    Value.int IntKind.i64 (if (if (1 : Int) > left then (1 : Int) else left) < (↑(List.length os) : Int) then if (1 : Int) > left then (1 : Int) else left else (↑(List.length os) : Int)) = Value.int IntKind.i64 (↑(List.length os) : Int),
    Value.bool ((↑(List.length os) : Int) == (↑(List.length os) : Int)) = Value.bool true] (by kernel_rfl)
    ⟨Dg.vfalse (by omega), Dg.vfalse (by omega), Dg.evCall_over (c83 _), loopWo left lx cx ly cy e1 e2 xs ys w b sa hlx i hi hwant hne (by kernel_rfl), Dg.vfalse (by omega), Dg.vfalse (by omega), Dg.vfalse (by omega), Dg.int_eq (by omega), loopS_end w lx cx ly cy e1 e2 b left xs ys (m + 1) _ _ _ _ os hos hw hw1 hb (by omega) (by omega) (by omega) hcx hcy hxl hyl hx m rfl hne hno (by kernel_rfl), Dg.int_eq (by (repeat' split) <;> omega), Dg.vtrue (by omega), trivial⟩
--> s4_s
--< s4_b
theorem s4_b (left : Int) (lx : Nat) (cx : Cp) (ly : Nat) (cy : Cp) (e1 : Sh) (e2 : Sh) (xs : List Int) (ys : List Int) (w : Nat) (b : Int) (hw : 0 < w) (hw1 : w ≤ 64) (hb : 0 ≤ b ∧ b < 9223372036854775808) (hly : ly ≤ 200) (sa : StepArgs w b xs ys lx ly) (hlx : lx ≤ 200) (hcx : lx ≤ cx.fst) (hcy : ly ≤ cy.fst) (hxl : List.length xs = cx.fst) (hyl : List.length ys = cy.fst) (hx : ∀ (x : Int), x ∈ xs → In x) (i : Nat) (hi : lx = i + 1) (m : Nat) (hN : min lx ly = m + 1) (os : List (Int × Int × Int)) (hos : os = outs w b xs ys (m + 1)) (hne : ¬os = []) (hwant : wantL w b xs ys (min lx ly) lx = os) (j : Nat) (hj : j + 1 < m + 1) (ht : told? w b xs ys left (j + 1)) (hno : ∀ (i : Nat), i < j + 1 → ¬told? w b xs ys left i) (ho : outs w b xs ys (j + 1) = []) (hf : left ≤ 1) (hl0 : 0 < List.length os) :
    evCall Try.prog 0 (bodied Try.prog) over3 sbs 1000 20 4 [Value.int IntKind.i64 (↑w : Int), Value.int IntKind.i64 b, aX lx cx, aY ly cy, Value.int IntKind.i64 left] { n := 2, objs := [oY ys e2, oX xs e1] } = some (Value.bool true, { n := 2, objs := [AObj.cells (i64s ys) e2.fst (e2.snd.fst + 4) e2.snd.snd, AObj.cells (i64s xs) e1.fst (e1.snd.fst + 4) e1.snd.snd] }, []) :=
  Dg.evCall_hint (hs' := []) (hs := [Hint.val 4 20 (Value.bool false),
    Hint.val 4 24 (Value.bool false),
    Hint.call 8 (Value.bool true) { n := 0, objs := [] } [],
    Hint.loop 4 (Ex.exit 0) (EW4 (↑w : Int) b left (aX lx cx) (aY ly cy) lx [oY ys e2, oX xs e1] (↑i : Int) (lastA w b xs ys (min lx ly) i) (lastB w b xs ys (min lx ly) i) (isW w b xs ys (min lx ly) i) os),
    Hint.val 9 7 (Value.bool false),
    Hint.val 9 10 (Value.bool false),
    Hint.val 9 14 (Value.bool false),
    Hint.val 24 9 (Value.int IntKind.i64 (↑(m + 1) : Int)),
    Hint.loop 24 Ex.ret (X4b w lx cx ly cy e1 e2 b left xs ys (m + 1) (↑i : Int) (lastA w b xs ys (min lx ly) i) (lastB w b xs ys (min lx ly) i) (isW w b xs ys (min lx ly) i) os (j + 1) (↑j : Int) (psAt w xs ys (j + 1)) ((↑(j + 1) : Int) + 1 - (↑w : Int)) (r1 w (psAt w xs ys (j + 1 + 1))) (r2 w (psAt w xs ys (j + 1 + 1)))),
    Hint.val 4 84 (Value.int IntKind.i64 1)])
    [Value.bool (decide ((↑lx : Int) > (200 : Int))) = Value.bool false,
    Value.bool (decide ((↑ly : Int) > (200 : Int))) = Value.bool false,
    evCall Try.prog 0 (bodied Try.prog) over3 sbs 1000 19 8 [] { n := 0, objs := [] } = some (Value.bool true, { n := 0, objs := [] }, []),
    evLoop (run4 over3 2) (cl4 2) 1000 { ts := [Value.int IntKind.i64 (↑w : Int), Value.int IntKind.i64 b, Value.slice (some { block := 0, off := 0, spot := cx.2 }) lx cx.fst, Value.slice (some { block := 1, off := 0, spot := cy.2 }) ly cy.fst, Value.int IntKind.i64 left, undef, undef, undef, undef, Value.pointer (some { block := 2, off := 0 }), Value.pointer (some { block := 3, off := 0 }), Value.pointer (some { block := 4, off := 0 }), undef, undef, undef, undef, undef, undef, Value.slice (some { block := 0, off := 0, spot := cx.2 }) lx cx.fst, Value.int IntKind.i64 (↑lx : Int), Value.bool false, Value.bool false, Value.slice (some { block := 1, off := 0, spot := cy.2 }) ly cy.fst, Value.int IntKind.i64 (↑ly : Int), Value.bool false, Value.bool false, Value.bool false, Value.bool true, Value.bool false, Value.bool false, undef, Value.slice (some { block := 0, off := 0, spot := cx.2 }) lx cx.fst, Value.int IntKind.i64 (↑lx : Int), Value.int IntKind.i64 0, undef, undef, undef, undef, undef, undef, undef, undef, undef, undef, undef, undef, undef, undef, undef, undef, undef, undef, undef, undef, undef, undef, undef, undef, undef, undef, undef, undef, undef, undef, undef, undef, undef, undef, undef, undef, undef, undef, undef, undef, undef, undef, undef, undef, undef, undef, undef, undef, undef, undef, undef, undef], H := { n := 5, objs := [AObj.cells [Value.slice none 0 0] 39 0 1, AObj.cells [Value.bool false] 4 0 1, AObj.cells [Value.int IntKind.i64 left] 3 0 1, AObj.cells (i64s ys) e2.fst (e2.snd.fst + 4) e2.snd.snd, AObj.cells (i64s xs) e1.fst (e1.snd.fst + 4) e1.snd.snd] }, log := [] } = some (Ex.exit 0, EW4 (↑w : Int) b left (aX lx cx) (aY ly cy) lx [oY ys e2, oX xs e1] (↑i : Int) (lastA w b xs ys (min lx ly) i) (lastB w b xs ys (min lx ly) i) (isW w b xs ys (min lx ly) i) os),
    Value.bool (decide ((↑w : Int) < (1 : Int))) = Value.bool false,
    Value.bool (decide ((↑w : Int) > (64 : Int))) = Value.bool false,
    Value.bool (decide (b < (0 : Int))) = Value.bool false,
    Value.int IntKind.i64 (if (↑ly : Int) < (↑lx : Int) then (↑ly : Int) else (↑lx : Int)) = Value.int IntKind.i64 (↑(m + (1 : Nat)) : Int),
    evLoop (run4s 18) (cl4s 18) 1000 { ts := [Value.func (Fn.yield 17) #[] #[], Value.pointer (some { block := 15, off := 0 }), Value.pointer (some { block := 16, off := 0 }), undef, undef, Value.slice (some { block := 0, off := 0, spot := cx.2 }) lx cx.fst, Value.int IntKind.i64 (↑lx : Int), Value.slice (some { block := 1, off := 0, spot := cy.2 }) ly cy.fst, Value.int IntKind.i64 (↑ly : Int), Value.int IntKind.i64 (↑(m + 1) : Int), Value.int IntKind.i64 0, undef, undef, undef, undef, undef, undef, undef, undef, undef, undef, undef, undef, undef, undef, undef], H := { n := 18, objs := [AObj.loop { sb := 11, ts := [Value.func (Fn.yield 11) #[] #[], Value.pointer (some { block := 7, off := 0 }), Value.pointer (some { block := 8, off := 0 }), Value.pointer (some { block := 9, off := 0 }), Value.pointer (some { block := 10, off := 0 }), Value.pointer (some { block := 12, off := 0 }), Value.pointer (some { block := 14, off := 0 }), Value.int IntKind.i64 0, undef, undef, undef, junk, junk, junk, junk, junk, junk, junk, junk, junk, junk, junk, undef, junk, junk, junk, junk, junk, junk, junk, junk, junk, junk, junk, junk, junk, junk, junk, junk], params := #[22], assign := as22, body := bd22, state := LoopState.ready, pending := none }, AObj.cells [Value.slice (some { block := 1, off := 0, spot := cy.2 }) ly cy.fst] 22 0 1, AObj.cells [Value.slice (some { block := 0, off := 0, spot := cx.2 }) lx cx.fst] 22 0 1, AObj.cells [Value.pointer (some { block := 13, off := 0 })] 24 0 1, AObj.cells [Value.int IntKind.i64 (↑w : Int), Value.int IntKind.i64 b, Value.slice none 0 0, Value.int IntKind.u64 0] 51 4 1, AObj.cells [Value.func (Fn.yield 11) #[] #[]] 58 0 1, AObj.loop { sb := 18, ts := [Value.int IntKind.i64 (↑w : Int), Value.int IntKind.i64 b, Value.slice (some { block := 0, off := 0, spot := cx.2 }) lx cx.fst, Value.slice (some { block := 1, off := 0, spot := cy.2 }) ly cy.fst, Value.int IntKind.i64 left, undef, undef, undef, undef, Value.pointer (some { block := 2, off := 0 }), Value.pointer (some { block := 3, off := 0 }), Value.pointer (some { block := 4, off := 0 }), Value.int IntKind.i64 (↑i : Int), Value.bool (isW w b xs ys (min lx ly) i), Value.int IntKind.i64 (lastA w b xs ys (min lx ly) i), Value.int IntKind.i64 (lastB w b xs ys (min lx ly) i), Value.pointer (some { block := 6, off := 0 }), undef, junk, junk, junk, junk, junk, junk, junk, junk, junk, junk, junk, junk, junk, junk, junk, junk, junk, junk, junk, junk, junk, junk, junk, junk, junk, junk, junk, junk, junk, junk, junk, junk, junk, junk, junk, junk, junk, junk, junk, junk, junk, junk, junk, junk, junk, junk, junk, junk, junk, junk, junk, junk, junk, junk, junk, junk, junk, junk, junk, junk, junk, junk, junk, junk, junk, junk, junk, junk], params := #[61], assign := as4, body := bd4, state := LoopState.ready, pending := none }, AObj.cells [Value.slice (some { block := 1, off := 0, spot := cy.2 }) ly cy.fst] 22 0 1, AObj.cells [Value.slice (some { block := 0, off := 0, spot := cx.2 }) lx cx.fst] 22 0 1, AObj.cells [Value.int IntKind.i64 b] 2 4 1, AObj.cells [Value.int IntKind.i64 (↑w : Int)] 3 4 1, AObj.cells [Value.int IntKind.i64 0] 3 0 1, AObj.cells (tc os) 31 5 3, AObj.cells [Value.slice (some { block := 5, off := 0, spot := some 0 }) (List.length os) (List.length os)] 39 0 1, AObj.cells [Value.bool false] 4 4 1, AObj.cells [Value.int IntKind.i64 left] 3 4 1, AObj.cells (i64s ys) e2.fst (e2.snd.fst + 4) e2.snd.snd, AObj.cells (i64s xs) e1.fst (e1.snd.fst + 4) e1.snd.snd] }, log := [] } = some (Ex.ret, X4b w lx cx ly cy e1 e2 b left xs ys (m + 1) (↑i : Int) (lastA w b xs ys (min lx ly) i) (lastB w b xs ys (min lx ly) i) (isW w b xs ys (min lx ly) i) os (j + 1) (↑j : Int) (psAt w xs ys (j + 1)) ((↑(j + 1) : Int) + 1 - (↑w : Int)) (r1 w (psAt w xs ys (j + 1 + 1))) (r2 w (psAt w xs ys (j + 1 + 1)))),
    Value.int IntKind.i64 (if (if (1 : Int) > left then (1 : Int) else left) < (↑(List.length os) : Int) then if (1 : Int) > left then (1 : Int) else left else (↑(List.length os) : Int)) = Value.int IntKind.i64 (1 : Int)] (by kernel_rfl)
    ⟨Dg.vfalse (by omega), Dg.vfalse (by omega), Dg.evCall_over (c83 _), loopWo left lx cx ly cy e1 e2 xs ys w b sa hlx i hi hwant hne (by kernel_rfl), Dg.vfalse (by omega), Dg.vfalse (by omega), Dg.vfalse (by omega), Dg.int_eq (by omega), loopS_b w lx cx ly cy e1 e2 b left xs ys (m + 1) _ _ _ _ os hos hw hw1 hb (by omega) (by omega) (by omega) hcx hcy hxl hyl hx j hj ht hno ho (by kernel_rfl), Dg.int_eq (by (repeat' split) <;> omega), trivial⟩
--> s4_b
--< s4_c
theorem s4_c (left : Int) (lx : Nat) (cx : Cp) (ly : Nat) (cy : Cp) (e1 : Sh) (e2 : Sh) (xs : List Int) (ys : List Int) (w : Nat) (b : Int) (hw : 0 < w) (hw1 : w ≤ 64) (hb : 0 ≤ b ∧ b < 9223372036854775808) (hly : ly ≤ 200) (sa : StepArgs w b xs ys lx ly) (hlx : lx ≤ 200) (hcx : lx ≤ cx.fst) (hcy : ly ≤ cy.fst) (hxl : List.length xs = cx.fst) (hyl : List.length ys = cy.fst) (hx : ∀ (x : Int), x ∈ xs → In x) (i : Nat) (hi : lx = i + 1) (m : Nat) (hN : min lx ly = m + 1) (os : List (Int × Int × Int)) (hos : os = outs w b xs ys (m + 1)) (hne : ¬os = []) (hwant : wantL w b xs ys (min lx ly) lx = os) (j : Nat) (hj : j + 1 < m + 1) (ht : told? w b xs ys left (j + 1)) (hno : ∀ (i : Nat), i < j + 1 → ¬told? w b xs ys left i) (ho : ¬outs w b xs ys (j + 1) = []) (hf : left = (↑(List.length (outs w b xs ys (j + 1))) : Int) + 1) (hl0 : List.length (outs w b xs ys (j + 1)) < List.length os) (hl1 : 0 < List.length (outs w b xs ys (j + 1))) :
    evCall Try.prog 0 (bodied Try.prog) over3 sbs 1000 20 4 [Value.int IntKind.i64 (↑w : Int), Value.int IntKind.i64 b, aX lx cx, aY ly cy, Value.int IntKind.i64 left] { n := 2, objs := [oY ys e2, oX xs e1] } = some (Value.bool true, { n := 2, objs := [AObj.cells (i64s ys) e2.fst (e2.snd.fst + 4) e2.snd.snd, AObj.cells (i64s xs) e1.fst (e1.snd.fst + 4) e1.snd.snd] }, []) :=
  Dg.evCall_hint (hs' := []) (hs := [Hint.val 4 20 (Value.bool false),
    Hint.val 4 24 (Value.bool false),
    Hint.call 8 (Value.bool true) { n := 0, objs := [] } [],
    Hint.loop 4 (Ex.exit 0) (EW4 (↑w : Int) b left (aX lx cx) (aY ly cy) lx [oY ys e2, oX xs e1] (↑i : Int) (lastA w b xs ys (min lx ly) i) (lastB w b xs ys (min lx ly) i) (isW w b xs ys (min lx ly) i) os),
    Hint.val 9 7 (Value.bool false),
    Hint.val 9 10 (Value.bool false),
    Hint.val 9 14 (Value.bool false),
    Hint.val 24 9 (Value.int IntKind.i64 (↑(m + 1) : Int)),
    Hint.loop 24 Ex.ret (X4c w lx cx ly cy e1 e2 b left xs ys (m + 1) (↑i : Int) (lastA w b xs ys (min lx ly) i) (lastB w b xs ys (min lx ly) i) (isW w b xs ys (min lx ly) i) os (j + 1) (↑j : Int) (psAt w xs ys (j + 1)) (List.length (outs w b xs ys (j + 1))) ((↑(j + 1) : Int) + 1 - (↑w : Int)) (r1 w (psAt w xs ys (j + 1 + 1))) (r2 w (psAt w xs ys (j + 1 + 1)))),
    Hint.val 4 84 (Value.int IntKind.i64 ((↑(List.length (outs w b xs ys (j + 1))) : Int) + 1)),
    Hint.val 4 85 (Value.bool true)])
    [Value.bool (decide ((↑lx : Int) > (200 : Int))) = Value.bool false,
    Value.bool (decide ((↑ly : Int) > (200 : Int))) = Value.bool false,
    evCall Try.prog 0 (bodied Try.prog) over3 sbs 1000 19 8 [] { n := 0, objs := [] } = some (Value.bool true, { n := 0, objs := [] }, []),
    evLoop (run4 over3 2) (cl4 2) 1000 { ts := [Value.int IntKind.i64 (↑w : Int), Value.int IntKind.i64 b, Value.slice (some { block := 0, off := 0, spot := cx.2 }) lx cx.fst, Value.slice (some { block := 1, off := 0, spot := cy.2 }) ly cy.fst, Value.int IntKind.i64 left, undef, undef, undef, undef, Value.pointer (some { block := 2, off := 0 }), Value.pointer (some { block := 3, off := 0 }), Value.pointer (some { block := 4, off := 0 }), undef, undef, undef, undef, undef, undef, Value.slice (some { block := 0, off := 0, spot := cx.2 }) lx cx.fst, Value.int IntKind.i64 (↑lx : Int), Value.bool false, Value.bool false, Value.slice (some { block := 1, off := 0, spot := cy.2 }) ly cy.fst, Value.int IntKind.i64 (↑ly : Int), Value.bool false, Value.bool false, Value.bool false, Value.bool true, Value.bool false, Value.bool false, undef, Value.slice (some { block := 0, off := 0, spot := cx.2 }) lx cx.fst, Value.int IntKind.i64 (↑lx : Int), Value.int IntKind.i64 0, undef, undef, undef, undef, undef, undef, undef, undef, undef, undef, undef, undef, undef, undef, undef, undef, undef, undef, undef, undef, undef, undef, undef, undef, undef, undef, undef, undef, undef, undef, undef, undef, undef, undef, undef, undef, undef, undef, undef, undef, undef, undef, undef, undef, undef, undef, undef, undef, undef, undef, undef, undef], H := { n := 5, objs := [AObj.cells [Value.slice none 0 0] 39 0 1, AObj.cells [Value.bool false] 4 0 1, AObj.cells [Value.int IntKind.i64 left] 3 0 1, AObj.cells (i64s ys) e2.fst (e2.snd.fst + 4) e2.snd.snd, AObj.cells (i64s xs) e1.fst (e1.snd.fst + 4) e1.snd.snd] }, log := [] } = some (Ex.exit 0, EW4 (↑w : Int) b left (aX lx cx) (aY ly cy) lx [oY ys e2, oX xs e1] (↑i : Int) (lastA w b xs ys (min lx ly) i) (lastB w b xs ys (min lx ly) i) (isW w b xs ys (min lx ly) i) os),
    Value.bool (decide ((↑w : Int) < (1 : Int))) = Value.bool false,
    Value.bool (decide ((↑w : Int) > (64 : Int))) = Value.bool false,
    Value.bool (decide (b < (0 : Int))) = Value.bool false,
    Value.int IntKind.i64 (if (↑ly : Int) < (↑lx : Int) then (↑ly : Int) else (↑lx : Int)) = Value.int IntKind.i64 (↑(m + (1 : Nat)) : Int),
    evLoop (run4s 18) (cl4s 18) 1000 { ts := [Value.func (Fn.yield 17) #[] #[], Value.pointer (some { block := 15, off := 0 }), Value.pointer (some { block := 16, off := 0 }), undef, undef, Value.slice (some { block := 0, off := 0, spot := cx.2 }) lx cx.fst, Value.int IntKind.i64 (↑lx : Int), Value.slice (some { block := 1, off := 0, spot := cy.2 }) ly cy.fst, Value.int IntKind.i64 (↑ly : Int), Value.int IntKind.i64 (↑(m + 1) : Int), Value.int IntKind.i64 0, undef, undef, undef, undef, undef, undef, undef, undef, undef, undef, undef, undef, undef, undef, undef], H := { n := 18, objs := [AObj.loop { sb := 11, ts := [Value.func (Fn.yield 11) #[] #[], Value.pointer (some { block := 7, off := 0 }), Value.pointer (some { block := 8, off := 0 }), Value.pointer (some { block := 9, off := 0 }), Value.pointer (some { block := 10, off := 0 }), Value.pointer (some { block := 12, off := 0 }), Value.pointer (some { block := 14, off := 0 }), Value.int IntKind.i64 0, undef, undef, undef, junk, junk, junk, junk, junk, junk, junk, junk, junk, junk, junk, undef, junk, junk, junk, junk, junk, junk, junk, junk, junk, junk, junk, junk, junk, junk, junk, junk], params := #[22], assign := as22, body := bd22, state := LoopState.ready, pending := none }, AObj.cells [Value.slice (some { block := 1, off := 0, spot := cy.2 }) ly cy.fst] 22 0 1, AObj.cells [Value.slice (some { block := 0, off := 0, spot := cx.2 }) lx cx.fst] 22 0 1, AObj.cells [Value.pointer (some { block := 13, off := 0 })] 24 0 1, AObj.cells [Value.int IntKind.i64 (↑w : Int), Value.int IntKind.i64 b, Value.slice none 0 0, Value.int IntKind.u64 0] 51 4 1, AObj.cells [Value.func (Fn.yield 11) #[] #[]] 58 0 1, AObj.loop { sb := 18, ts := [Value.int IntKind.i64 (↑w : Int), Value.int IntKind.i64 b, Value.slice (some { block := 0, off := 0, spot := cx.2 }) lx cx.fst, Value.slice (some { block := 1, off := 0, spot := cy.2 }) ly cy.fst, Value.int IntKind.i64 left, undef, undef, undef, undef, Value.pointer (some { block := 2, off := 0 }), Value.pointer (some { block := 3, off := 0 }), Value.pointer (some { block := 4, off := 0 }), Value.int IntKind.i64 (↑i : Int), Value.bool (isW w b xs ys (min lx ly) i), Value.int IntKind.i64 (lastA w b xs ys (min lx ly) i), Value.int IntKind.i64 (lastB w b xs ys (min lx ly) i), Value.pointer (some { block := 6, off := 0 }), undef, junk, junk, junk, junk, junk, junk, junk, junk, junk, junk, junk, junk, junk, junk, junk, junk, junk, junk, junk, junk, junk, junk, junk, junk, junk, junk, junk, junk, junk, junk, junk, junk, junk, junk, junk, junk, junk, junk, junk, junk, junk, junk, junk, junk, junk, junk, junk, junk, junk, junk, junk, junk, junk, junk, junk, junk, junk, junk, junk, junk, junk, junk, junk, junk, junk, junk, junk, junk], params := #[61], assign := as4, body := bd4, state := LoopState.ready, pending := none }, AObj.cells [Value.slice (some { block := 1, off := 0, spot := cy.2 }) ly cy.fst] 22 0 1, AObj.cells [Value.slice (some { block := 0, off := 0, spot := cx.2 }) lx cx.fst] 22 0 1, AObj.cells [Value.int IntKind.i64 b] 2 4 1, AObj.cells [Value.int IntKind.i64 (↑w : Int)] 3 4 1, AObj.cells [Value.int IntKind.i64 0] 3 0 1, AObj.cells (tc os) 31 5 3, AObj.cells [Value.slice (some { block := 5, off := 0, spot := some 0 }) (List.length os) (List.length os)] 39 0 1, AObj.cells [Value.bool false] 4 4 1, AObj.cells [Value.int IntKind.i64 left] 3 4 1, AObj.cells (i64s ys) e2.fst (e2.snd.fst + 4) e2.snd.snd, AObj.cells (i64s xs) e1.fst (e1.snd.fst + 4) e1.snd.snd] }, log := [] } = some (Ex.ret, X4c w lx cx ly cy e1 e2 b left xs ys (m + 1) (↑i : Int) (lastA w b xs ys (min lx ly) i) (lastB w b xs ys (min lx ly) i) (isW w b xs ys (min lx ly) i) os (j + 1) (↑j : Int) (psAt w xs ys (j + 1)) (List.length (outs w b xs ys (j + 1))) ((↑(j + 1) : Int) + 1 - (↑w : Int)) (r1 w (psAt w xs ys (j + 1 + 1))) (r2 w (psAt w xs ys (j + 1 + 1)))),
    Value.int IntKind.i64 (if (if (1 : Int) > left then (1 : Int) else left) < (↑(List.length os) : Int) then if (1 : Int) > left then (1 : Int) else left else (↑(List.length os) : Int)) = Value.int IntKind.i64 ((↑(List.length (outs w b xs ys (j + (1 : Nat)))) : Int) + (1 : Int)),
    Value.bool ((↑(List.length (outs w b xs ys (j + (1 : Nat)))) : Int) + (1 : Int) == (↑(List.length (outs w b xs ys (j + (1 : Nat)))) : Int) + (1 : Int)) = Value.bool true] (by kernel_rfl)
    ⟨Dg.vfalse (by omega), Dg.vfalse (by omega), Dg.evCall_over (c83 _), loopWo left lx cx ly cy e1 e2 xs ys w b sa hlx i hi hwant hne (by kernel_rfl), Dg.vfalse (by omega), Dg.vfalse (by omega), Dg.vfalse (by omega), Dg.int_eq (by omega), loopS_c w lx cx ly cy e1 e2 b left xs ys (m + 1) _ _ _ _ os hos hw hw1 hb (by omega) (by omega) (by omega) hcx hcy hxl hyl hx j hj ht hno ho (by kernel_rfl), Dg.int_eq (by (repeat' split) <;> omega), Dg.vtrue (by omega), trivial⟩
--> s4_c
--< b4XY_low0
theorem b4XY_low0 (left : Int) (cx : Cp) (ly : Nat) (cy : Cp) (e1 : Sh) (e2 : Sh) (xs : List Int) (ys : List Int) (w : Int) (b : Int) (hw : w < 1) (hly : ly ≤ 200) :
    evCall Try.prog 0 (bodied Try.prog) over0 sbs 1000 20 4 [Value.int IntKind.i64 w, Value.int IntKind.i64 b, aX 0 cx, aY ly cy, Value.int IntKind.i64 left] { n := 2, objs := [oY ys e2, oX xs e1] } = some (Value.bool true, { n := 2, objs := [AObj.cells (i64s ys) e2.fst (e2.snd.fst + 4) e2.snd.snd, AObj.cells (i64s xs) e1.fst (e1.snd.fst + 4) e1.snd.snd] }, []) :=
  Dg.evCall_hint (hs' := []) (hs := [Hint.val 4 24 (Value.bool false),
    Hint.call 8 (Value.bool true) { n := 0, objs := [] } [],
    Hint.val 9 7 (Value.bool true),
    Hint.val 4 84 (Value.int IntKind.i64 0)])
    [Value.bool (decide ((↑ly : Int) > (200 : Int))) = Value.bool false,
    evCall Try.prog 0 (bodied Try.prog) over0 sbs 1000 19 8 [] { n := 0, objs := [] } = some (Value.bool true, { n := 0, objs := [] }, []),
    Value.bool (decide (w < (1 : Int))) = Value.bool true,
    Value.int IntKind.i64 (if (if (1 : Int) > left then (1 : Int) else left) < (0 : Int) then if (1 : Int) > left then (1 : Int) else left else (0 : Int)) = Value.int IntKind.i64 (0 : Int)] (by kernel_rfl)
    ⟨Dg.vfalse (by omega), Dg.evCall_over (c80 _), Dg.vtrue (by omega), Dg.int_eq (by (repeat' split) <;> omega), trivial⟩
--> b4XY_low0
--< b4XY_low1
theorem b4XY_low1 (left : Int) (lx : Nat) (cx : Cp) (ly : Nat) (cy : Cp) (e1 : Sh) (e2 : Sh) (xs : List Int) (ys : List Int) (w : Int) (b : Int) (hw : w < 1) (hly : ly ≤ 200) (hlx : lx ≤ 200) (i : Nat) (hi : lx = i + 1) :
    evCall Try.prog 0 (bodied Try.prog) over0 sbs 1000 20 4 [Value.int IntKind.i64 w, Value.int IntKind.i64 b, aX lx cx, aY ly cy, Value.int IntKind.i64 left] { n := 2, objs := [oY ys e2, oX xs e1] } = some (Value.bool true, { n := 2, objs := [AObj.cells (i64s ys) e2.fst (e2.snd.fst + 4) e2.snd.snd, AObj.cells (i64s xs) e1.fst (e1.snd.fst + 4) e1.snd.snd] }, []) :=
  Dg.evCall_hint (hs' := []) (hs := [Hint.val 4 20 (Value.bool false),
    Hint.val 4 24 (Value.bool false),
    Hint.call 8 (Value.bool true) { n := 0, objs := [] } [],
    Hint.loop 4 (Ex.exit 0) (EN4 w b left (aX lx cx) (aY ly cy) lx 2 5 [oY ys e2, oX xs e1] (↑i : Int) 0 0 false),
    Hint.val 9 7 (Value.bool true),
    Hint.val 4 84 (Value.int IntKind.i64 0)])
    [Value.bool (decide ((↑lx : Int) > (200 : Int))) = Value.bool false,
    Value.bool (decide ((↑ly : Int) > (200 : Int))) = Value.bool false,
    evCall Try.prog 0 (bodied Try.prog) over0 sbs 1000 19 8 [] { n := 0, objs := [] } = some (Value.bool true, { n := 0, objs := [] }, []),
    evLoop (run4 over0 2) (cl4 2) 1000 { ts := [Value.int IntKind.i64 w, Value.int IntKind.i64 b, Value.slice (some { block := 0, off := 0, spot := cx.2 }) lx cx.fst, Value.slice (some { block := 1, off := 0, spot := cy.2 }) ly cy.fst, Value.int IntKind.i64 left, undef, undef, undef, undef, Value.pointer (some { block := 2, off := 0 }), Value.pointer (some { block := 3, off := 0 }), Value.pointer (some { block := 4, off := 0 }), undef, undef, undef, undef, undef, undef, Value.slice (some { block := 0, off := 0, spot := cx.2 }) lx cx.fst, Value.int IntKind.i64 (↑lx : Int), Value.bool false, Value.bool false, Value.slice (some { block := 1, off := 0, spot := cy.2 }) ly cy.fst, Value.int IntKind.i64 (↑ly : Int), Value.bool false, Value.bool false, Value.bool false, Value.bool true, Value.bool false, Value.bool false, undef, Value.slice (some { block := 0, off := 0, spot := cx.2 }) lx cx.fst, Value.int IntKind.i64 (↑lx : Int), Value.int IntKind.i64 0, undef, undef, undef, undef, undef, undef, undef, undef, undef, undef, undef, undef, undef, undef, undef, undef, undef, undef, undef, undef, undef, undef, undef, undef, undef, undef, undef, undef, undef, undef, undef, undef, undef, undef, undef, undef, undef, undef, undef, undef, undef, undef, undef, undef, undef, undef, undef, undef, undef, undef, undef, undef], H := { n := 5, objs := [AObj.cells [Value.slice none 0 0] 39 0 1, AObj.cells [Value.bool false] 4 0 1, AObj.cells [Value.int IntKind.i64 left] 3 0 1, AObj.cells (i64s ys) e2.fst (e2.snd.fst + 4) e2.snd.snd, AObj.cells (i64s xs) e1.fst (e1.snd.fst + 4) e1.snd.snd] }, log := [] } = some (Ex.exit 0, EN4 w b left (aX lx cx) (aY ly cy) lx 2 5 [oY ys e2, oX xs e1] (↑i : Int) 0 0 false),
    Value.bool (decide (w < (1 : Int))) = Value.bool true,
    Value.int IntKind.i64 (if (if (1 : Int) > left then (1 : Int) else left) < (0 : Int) then if (1 : Int) > left then (1 : Int) else left else (0 : Int)) = Value.int IntKind.i64 (0 : Int)] (by kernel_rfl)
    ⟨Dg.vfalse (by omega), Dg.vfalse (by omega), Dg.evCall_over (c80 _), loopPXY_low left lx cx ly cy e1 e2 xs ys w b hw hlx i hi (by kernel_rfl), Dg.vtrue (by omega), Dg.int_eq (by (repeat' split) <;> omega), trivial⟩
--> b4XY_low1
--< b4XN_low0
theorem b4XN_low0 (left : Int) (cx : Cp) (e1 : Sh) (xs : List Int) (w : Int) (b : Int) (hw : w < 1) :
    evCall Try.prog 0 (bodied Try.prog) over0 sbs 1000 20 4 [Value.int IntKind.i64 w, Value.int IntKind.i64 b, aX 0 cx, Value.slice none 0 0, Value.int IntKind.i64 left] { n := 1, objs := [oX xs e1] } = some (Value.bool true, { n := 1, objs := [AObj.cells (i64s xs) e1.fst (e1.snd.fst + 4) e1.snd.snd] }, []) :=
  Dg.evCall_hint (hs' := []) (hs := [Hint.call 8 (Value.bool true) { n := 0, objs := [] } [],
    Hint.val 9 7 (Value.bool true),
    Hint.val 4 84 (Value.int IntKind.i64 0)])
    [evCall Try.prog 0 (bodied Try.prog) over0 sbs 1000 19 8 [] { n := 0, objs := [] } = some (Value.bool true, { n := 0, objs := [] }, []),
    Value.bool (decide (w < (1 : Int))) = Value.bool true,
    Value.int IntKind.i64 (if (if (1 : Int) > left then (1 : Int) else left) < (0 : Int) then if (1 : Int) > left then (1 : Int) else left else (0 : Int)) = Value.int IntKind.i64 (0 : Int)] (by kernel_rfl)
    ⟨Dg.evCall_over (c80 _), Dg.vtrue (by omega), Dg.int_eq (by (repeat' split) <;> omega), trivial⟩
--> b4XN_low0
--< b4XN_low1
theorem b4XN_low1 (left : Int) (lx : Nat) (cx : Cp) (e1 : Sh) (xs : List Int) (w : Int) (b : Int) (hw : w < 1) (hlx : lx ≤ 200) (i : Nat) (hi : lx = i + 1) :
    evCall Try.prog 0 (bodied Try.prog) over0 sbs 1000 20 4 [Value.int IntKind.i64 w, Value.int IntKind.i64 b, aX lx cx, Value.slice none 0 0, Value.int IntKind.i64 left] { n := 1, objs := [oX xs e1] } = some (Value.bool true, { n := 1, objs := [AObj.cells (i64s xs) e1.fst (e1.snd.fst + 4) e1.snd.snd] }, []) :=
  Dg.evCall_hint (hs' := []) (hs := [Hint.val 4 20 (Value.bool false),
    Hint.call 8 (Value.bool true) { n := 0, objs := [] } [],
    Hint.loop 4 (Ex.exit 0) (EN4 w b left (aX lx cx) (Value.slice none 0 0) lx 1 4 [oX xs e1] (↑i : Int) 0 0 false),
    Hint.val 9 7 (Value.bool true),
    Hint.val 4 84 (Value.int IntKind.i64 0)])
    [Value.bool (decide ((↑lx : Int) > (200 : Int))) = Value.bool false,
    evCall Try.prog 0 (bodied Try.prog) over0 sbs 1000 19 8 [] { n := 0, objs := [] } = some (Value.bool true, { n := 0, objs := [] }, []),
    evLoop (run4 over0 1) (cl4 1) 1000 { ts := [Value.int IntKind.i64 w, Value.int IntKind.i64 b, Value.slice (some { block := 0, off := 0, spot := cx.2 }) lx cx.fst, Value.slice none 0 0, Value.int IntKind.i64 left, undef, undef, undef, undef, Value.pointer (some { block := 1, off := 0 }), Value.pointer (some { block := 2, off := 0 }), Value.pointer (some { block := 3, off := 0 }), undef, undef, undef, undef, undef, undef, Value.slice (some { block := 0, off := 0, spot := cx.2 }) lx cx.fst, Value.int IntKind.i64 (↑lx : Int), Value.bool false, Value.bool false, Value.slice none 0 0, Value.int IntKind.i64 0, Value.bool false, Value.bool false, Value.bool false, Value.bool true, Value.bool false, Value.bool false, undef, Value.slice (some { block := 0, off := 0, spot := cx.2 }) lx cx.fst, Value.int IntKind.i64 (↑lx : Int), Value.int IntKind.i64 0, undef, undef, undef, undef, undef, undef, undef, undef, undef, undef, undef, undef, undef, undef, undef, undef, undef, undef, undef, undef, undef, undef, undef, undef, undef, undef, undef, undef, undef, undef, undef, undef, undef, undef, undef, undef, undef, undef, undef, undef, undef, undef, undef, undef, undef, undef, undef, undef, undef, undef, undef, undef], H := { n := 4, objs := [AObj.cells [Value.slice none 0 0] 39 0 1, AObj.cells [Value.bool false] 4 0 1, AObj.cells [Value.int IntKind.i64 left] 3 0 1, AObj.cells (i64s xs) e1.fst (e1.snd.fst + 4) e1.snd.snd] }, log := [] } = some (Ex.exit 0, EN4 w b left (aX lx cx) (Value.slice none 0 0) lx 1 4 [oX xs e1] (↑i : Int) 0 0 false),
    Value.bool (decide (w < (1 : Int))) = Value.bool true,
    Value.int IntKind.i64 (if (if (1 : Int) > left then (1 : Int) else left) < (0 : Int) then if (1 : Int) > left then (1 : Int) else left else (0 : Int)) = Value.int IntKind.i64 (0 : Int)] (by kernel_rfl)
    ⟨Dg.vfalse (by omega), Dg.evCall_over (c80 _), loopPXN_low left lx cx e1 xs w b hw hlx i hi (by kernel_rfl), Dg.vtrue (by omega), Dg.int_eq (by (repeat' split) <;> omega), trivial⟩
--> b4XN_low1
--< b4NY_low
theorem b4NY_low (left : Int) (ly : Nat) (cy : Cp) (e2 : Sh) (ys : List Int) (w : Int) (b : Int) (hw : w < 1) (hly : ly ≤ 200) :
    evCall Try.prog 0 (bodied Try.prog) over0 sbs 1000 20 4 [Value.int IntKind.i64 w, Value.int IntKind.i64 b, Value.slice none 0 0, aX ly cy, Value.int IntKind.i64 left] { n := 1, objs := [oX ys e2] } = some (Value.bool true, { n := 1, objs := [AObj.cells (i64s ys) e2.fst (e2.snd.fst + 4) e2.snd.snd] }, []) :=
  Dg.evCall_hint (hs' := []) (hs := [Hint.val 4 24 (Value.bool false),
    Hint.call 8 (Value.bool true) { n := 0, objs := [] } [],
    Hint.val 9 7 (Value.bool true),
    Hint.val 4 84 (Value.int IntKind.i64 0)])
    [Value.bool (decide ((↑ly : Int) > (200 : Int))) = Value.bool false,
    evCall Try.prog 0 (bodied Try.prog) over0 sbs 1000 19 8 [] { n := 0, objs := [] } = some (Value.bool true, { n := 0, objs := [] }, []),
    Value.bool (decide (w < (1 : Int))) = Value.bool true,
    Value.int IntKind.i64 (if (if (1 : Int) > left then (1 : Int) else left) < (0 : Int) then if (1 : Int) > left then (1 : Int) else left else (0 : Int)) = Value.int IntKind.i64 (0 : Int)] (by kernel_rfl)
    ⟨Dg.vfalse (by omega), Dg.evCall_over (c80 _), Dg.vtrue (by omega), Dg.int_eq (by (repeat' split) <;> omega), trivial⟩
--> b4NY_low
--< b4NN_low
theorem b4NN_low (left : Int) (w : Int) (b : Int) (hw : w < 1) :
    evCall Try.prog 0 (bodied Try.prog) over0 sbs 1000 20 4 [Value.int IntKind.i64 w, Value.int IntKind.i64 b, Value.slice none 0 0, Value.slice none 0 0, Value.int IntKind.i64 left] { n := 0, objs := [] } = some (Value.bool true, { n := 0, objs := [] }, []) :=
  Dg.evCall_hint (hs' := []) (hs := [Hint.call 8 (Value.bool true) { n := 0, objs := [] } [],
    Hint.val 9 7 (Value.bool true),
    Hint.val 4 84 (Value.int IntKind.i64 0)])
    [evCall Try.prog 0 (bodied Try.prog) over0 sbs 1000 19 8 [] { n := 0, objs := [] } = some (Value.bool true, { n := 0, objs := [] }, []),
    Value.bool (decide (w < (1 : Int))) = Value.bool true,
    Value.int IntKind.i64 (if (if (1 : Int) > left then (1 : Int) else left) < (0 : Int) then if (1 : Int) > left then (1 : Int) else left else (0 : Int)) = Value.int IntKind.i64 (0 : Int)] (by kernel_rfl)
    ⟨Dg.evCall_over (c80 _), Dg.vtrue (by omega), Dg.int_eq (by (repeat' split) <;> omega), trivial⟩
--> b4NN_low
--< b4XY_high0
theorem b4XY_high0 (left : Int) (cx : Cp) (ly : Nat) (cy : Cp) (e1 : Sh) (e2 : Sh) (xs : List Int) (ys : List Int) (w : Int) (b : Int) (hw : 64 < w) (hly : ly ≤ 200) :
    evCall Try.prog 0 (bodied Try.prog) over0 sbs 1000 20 4 [Value.int IntKind.i64 w, Value.int IntKind.i64 b, aX 0 cx, aY ly cy, Value.int IntKind.i64 left] { n := 2, objs := [oY ys e2, oX xs e1] } = some (Value.bool true, { n := 2, objs := [AObj.cells (i64s ys) e2.fst (e2.snd.fst + 4) e2.snd.snd, AObj.cells (i64s xs) e1.fst (e1.snd.fst + 4) e1.snd.snd] }, []) :=
  Dg.evCall_hint (hs' := []) (hs := [Hint.val 4 24 (Value.bool false),
    Hint.call 8 (Value.bool true) { n := 0, objs := [] } [],
    Hint.val 9 7 (Value.bool false),
    Hint.val 9 10 (Value.bool true),
    Hint.val 4 84 (Value.int IntKind.i64 0)])
    [Value.bool (decide ((↑ly : Int) > (200 : Int))) = Value.bool false,
    evCall Try.prog 0 (bodied Try.prog) over0 sbs 1000 19 8 [] { n := 0, objs := [] } = some (Value.bool true, { n := 0, objs := [] }, []),
    Value.bool (decide (w < (1 : Int))) = Value.bool false,
    Value.bool (decide (w > (64 : Int))) = Value.bool true,
    Value.int IntKind.i64 (if (if (1 : Int) > left then (1 : Int) else left) < (0 : Int) then if (1 : Int) > left then (1 : Int) else left else (0 : Int)) = Value.int IntKind.i64 (0 : Int)] (by kernel_rfl)
    ⟨Dg.vfalse (by omega), Dg.evCall_over (c80 _), Dg.vfalse (by omega), Dg.vtrue (by omega), Dg.int_eq (by (repeat' split) <;> omega), trivial⟩
--> b4XY_high0
--< b4XY_high1
theorem b4XY_high1 (left : Int) (lx : Nat) (cx : Cp) (ly : Nat) (cy : Cp) (e1 : Sh) (e2 : Sh) (xs : List Int) (ys : List Int) (w : Int) (b : Int) (hw : 64 < w) (hly : ly ≤ 200) (hlx : lx ≤ 200) (i : Nat) (hi : lx = i + 1) :
    evCall Try.prog 0 (bodied Try.prog) over0 sbs 1000 20 4 [Value.int IntKind.i64 w, Value.int IntKind.i64 b, aX lx cx, aY ly cy, Value.int IntKind.i64 left] { n := 2, objs := [oY ys e2, oX xs e1] } = some (Value.bool true, { n := 2, objs := [AObj.cells (i64s ys) e2.fst (e2.snd.fst + 4) e2.snd.snd, AObj.cells (i64s xs) e1.fst (e1.snd.fst + 4) e1.snd.snd] }, []) :=
  Dg.evCall_hint (hs' := []) (hs := [Hint.val 4 20 (Value.bool false),
    Hint.val 4 24 (Value.bool false),
    Hint.call 8 (Value.bool true) { n := 0, objs := [] } [],
    Hint.loop 4 (Ex.exit 0) (EN4 w b left (aX lx cx) (aY ly cy) lx 2 5 [oY ys e2, oX xs e1] (↑i : Int) 0 0 false),
    Hint.val 9 7 (Value.bool false),
    Hint.val 9 10 (Value.bool true),
    Hint.val 4 84 (Value.int IntKind.i64 0)])
    [Value.bool (decide ((↑lx : Int) > (200 : Int))) = Value.bool false,
    Value.bool (decide ((↑ly : Int) > (200 : Int))) = Value.bool false,
    evCall Try.prog 0 (bodied Try.prog) over0 sbs 1000 19 8 [] { n := 0, objs := [] } = some (Value.bool true, { n := 0, objs := [] }, []),
    evLoop (run4 over0 2) (cl4 2) 1000 { ts := [Value.int IntKind.i64 w, Value.int IntKind.i64 b, Value.slice (some { block := 0, off := 0, spot := cx.2 }) lx cx.fst, Value.slice (some { block := 1, off := 0, spot := cy.2 }) ly cy.fst, Value.int IntKind.i64 left, undef, undef, undef, undef, Value.pointer (some { block := 2, off := 0 }), Value.pointer (some { block := 3, off := 0 }), Value.pointer (some { block := 4, off := 0 }), undef, undef, undef, undef, undef, undef, Value.slice (some { block := 0, off := 0, spot := cx.2 }) lx cx.fst, Value.int IntKind.i64 (↑lx : Int), Value.bool false, Value.bool false, Value.slice (some { block := 1, off := 0, spot := cy.2 }) ly cy.fst, Value.int IntKind.i64 (↑ly : Int), Value.bool false, Value.bool false, Value.bool false, Value.bool true, Value.bool false, Value.bool false, undef, Value.slice (some { block := 0, off := 0, spot := cx.2 }) lx cx.fst, Value.int IntKind.i64 (↑lx : Int), Value.int IntKind.i64 0, undef, undef, undef, undef, undef, undef, undef, undef, undef, undef, undef, undef, undef, undef, undef, undef, undef, undef, undef, undef, undef, undef, undef, undef, undef, undef, undef, undef, undef, undef, undef, undef, undef, undef, undef, undef, undef, undef, undef, undef, undef, undef, undef, undef, undef, undef, undef, undef, undef, undef, undef, undef], H := { n := 5, objs := [AObj.cells [Value.slice none 0 0] 39 0 1, AObj.cells [Value.bool false] 4 0 1, AObj.cells [Value.int IntKind.i64 left] 3 0 1, AObj.cells (i64s ys) e2.fst (e2.snd.fst + 4) e2.snd.snd, AObj.cells (i64s xs) e1.fst (e1.snd.fst + 4) e1.snd.snd] }, log := [] } = some (Ex.exit 0, EN4 w b left (aX lx cx) (aY ly cy) lx 2 5 [oY ys e2, oX xs e1] (↑i : Int) 0 0 false),
    Value.bool (decide (w < (1 : Int))) = Value.bool false,
    Value.bool (decide (w > (64 : Int))) = Value.bool true,
    Value.int IntKind.i64 (if (if (1 : Int) > left then (1 : Int) else left) < (0 : Int) then if (1 : Int) > left then (1 : Int) else left else (0 : Int)) = Value.int IntKind.i64 (0 : Int)] (by kernel_rfl)
    ⟨Dg.vfalse (by omega), Dg.vfalse (by omega), Dg.evCall_over (c80 _), loopPXY_high left lx cx ly cy e1 e2 xs ys w b hw hlx i hi (by kernel_rfl), Dg.vfalse (by omega), Dg.vtrue (by omega), Dg.int_eq (by (repeat' split) <;> omega), trivial⟩
--> b4XY_high1
--< b4XN_high0
theorem b4XN_high0 (left : Int) (cx : Cp) (e1 : Sh) (xs : List Int) (w : Int) (b : Int) (hw : 64 < w) :
    evCall Try.prog 0 (bodied Try.prog) over0 sbs 1000 20 4 [Value.int IntKind.i64 w, Value.int IntKind.i64 b, aX 0 cx, Value.slice none 0 0, Value.int IntKind.i64 left] { n := 1, objs := [oX xs e1] } = some (Value.bool true, { n := 1, objs := [AObj.cells (i64s xs) e1.fst (e1.snd.fst + 4) e1.snd.snd] }, []) :=
  Dg.evCall_hint (hs' := []) (hs := [Hint.call 8 (Value.bool true) { n := 0, objs := [] } [],
    Hint.val 9 7 (Value.bool false),
    Hint.val 9 10 (Value.bool true),
    Hint.val 4 84 (Value.int IntKind.i64 0)])
    [evCall Try.prog 0 (bodied Try.prog) over0 sbs 1000 19 8 [] { n := 0, objs := [] } = some (Value.bool true, { n := 0, objs := [] }, []),
    Value.bool (decide (w < (1 : Int))) = Value.bool false,
    Value.bool (decide (w > (64 : Int))) = Value.bool true,
    Value.int IntKind.i64 (if (if (1 : Int) > left then (1 : Int) else left) < (0 : Int) then if (1 : Int) > left then (1 : Int) else left else (0 : Int)) = Value.int IntKind.i64 (0 : Int)] (by kernel_rfl)
    ⟨Dg.evCall_over (c80 _), Dg.vfalse (by omega), Dg.vtrue (by omega), Dg.int_eq (by (repeat' split) <;> omega), trivial⟩
--> b4XN_high0
--< b4XN_high1
theorem b4XN_high1 (left : Int) (lx : Nat) (cx : Cp) (e1 : Sh) (xs : List Int) (w : Int) (b : Int) (hw : 64 < w) (hlx : lx ≤ 200) (i : Nat) (hi : lx = i + 1) :
    evCall Try.prog 0 (bodied Try.prog) over0 sbs 1000 20 4 [Value.int IntKind.i64 w, Value.int IntKind.i64 b, aX lx cx, Value.slice none 0 0, Value.int IntKind.i64 left] { n := 1, objs := [oX xs e1] } = some (Value.bool true, { n := 1, objs := [AObj.cells (i64s xs) e1.fst (e1.snd.fst + 4) e1.snd.snd] }, []) :=
  Dg.evCall_hint (hs' := []) (hs := [Hint.val 4 20 (Value.bool false),
    Hint.call 8 (Value.bool true) { n := 0, objs := [] } [],
    Hint.loop 4 (Ex.exit 0) (EN4 w b left (aX lx cx) (Value.slice none 0 0) lx 1 4 [oX xs e1] (↑i : Int) 0 0 false),
    Hint.val 9 7 (Value.bool false),
    Hint.val 9 10 (Value.bool true),
    Hint.val 4 84 (Value.int IntKind.i64 0)])
    [Value.bool (decide ((↑lx : Int) > (200 : Int))) = Value.bool false,
    evCall Try.prog 0 (bodied Try.prog) over0 sbs 1000 19 8 [] { n := 0, objs := [] } = some (Value.bool true, { n := 0, objs := [] }, []),
    evLoop (run4 over0 1) (cl4 1) 1000 { ts := [Value.int IntKind.i64 w, Value.int IntKind.i64 b, Value.slice (some { block := 0, off := 0, spot := cx.2 }) lx cx.fst, Value.slice none 0 0, Value.int IntKind.i64 left, undef, undef, undef, undef, Value.pointer (some { block := 1, off := 0 }), Value.pointer (some { block := 2, off := 0 }), Value.pointer (some { block := 3, off := 0 }), undef, undef, undef, undef, undef, undef, Value.slice (some { block := 0, off := 0, spot := cx.2 }) lx cx.fst, Value.int IntKind.i64 (↑lx : Int), Value.bool false, Value.bool false, Value.slice none 0 0, Value.int IntKind.i64 0, Value.bool false, Value.bool false, Value.bool false, Value.bool true, Value.bool false, Value.bool false, undef, Value.slice (some { block := 0, off := 0, spot := cx.2 }) lx cx.fst, Value.int IntKind.i64 (↑lx : Int), Value.int IntKind.i64 0, undef, undef, undef, undef, undef, undef, undef, undef, undef, undef, undef, undef, undef, undef, undef, undef, undef, undef, undef, undef, undef, undef, undef, undef, undef, undef, undef, undef, undef, undef, undef, undef, undef, undef, undef, undef, undef, undef, undef, undef, undef, undef, undef, undef, undef, undef, undef, undef, undef, undef, undef, undef], H := { n := 4, objs := [AObj.cells [Value.slice none 0 0] 39 0 1, AObj.cells [Value.bool false] 4 0 1, AObj.cells [Value.int IntKind.i64 left] 3 0 1, AObj.cells (i64s xs) e1.fst (e1.snd.fst + 4) e1.snd.snd] }, log := [] } = some (Ex.exit 0, EN4 w b left (aX lx cx) (Value.slice none 0 0) lx 1 4 [oX xs e1] (↑i : Int) 0 0 false),
    Value.bool (decide (w < (1 : Int))) = Value.bool false,
    Value.bool (decide (w > (64 : Int))) = Value.bool true,
    Value.int IntKind.i64 (if (if (1 : Int) > left then (1 : Int) else left) < (0 : Int) then if (1 : Int) > left then (1 : Int) else left else (0 : Int)) = Value.int IntKind.i64 (0 : Int)] (by kernel_rfl)
    ⟨Dg.vfalse (by omega), Dg.evCall_over (c80 _), loopPXN_high left lx cx e1 xs w b hw hlx i hi (by kernel_rfl), Dg.vfalse (by omega), Dg.vtrue (by omega), Dg.int_eq (by (repeat' split) <;> omega), trivial⟩
--> b4XN_high1
--< b4NY_high
theorem b4NY_high (left : Int) (ly : Nat) (cy : Cp) (e2 : Sh) (ys : List Int) (w : Int) (b : Int) (hw : 64 < w) (hly : ly ≤ 200) :
    evCall Try.prog 0 (bodied Try.prog) over0 sbs 1000 20 4 [Value.int IntKind.i64 w, Value.int IntKind.i64 b, Value.slice none 0 0, aX ly cy, Value.int IntKind.i64 left] { n := 1, objs := [oX ys e2] } = some (Value.bool true, { n := 1, objs := [AObj.cells (i64s ys) e2.fst (e2.snd.fst + 4) e2.snd.snd] }, []) :=
  Dg.evCall_hint (hs' := []) (hs := [Hint.val 4 24 (Value.bool false),
    Hint.call 8 (Value.bool true) { n := 0, objs := [] } [],
    Hint.val 9 7 (Value.bool false),
    Hint.val 9 10 (Value.bool true),
    Hint.val 4 84 (Value.int IntKind.i64 0)])
    [Value.bool (decide ((↑ly : Int) > (200 : Int))) = Value.bool false,
    evCall Try.prog 0 (bodied Try.prog) over0 sbs 1000 19 8 [] { n := 0, objs := [] } = some (Value.bool true, { n := 0, objs := [] }, []),
    Value.bool (decide (w < (1 : Int))) = Value.bool false,
    Value.bool (decide (w > (64 : Int))) = Value.bool true,
    Value.int IntKind.i64 (if (if (1 : Int) > left then (1 : Int) else left) < (0 : Int) then if (1 : Int) > left then (1 : Int) else left else (0 : Int)) = Value.int IntKind.i64 (0 : Int)] (by kernel_rfl)
    ⟨Dg.vfalse (by omega), Dg.evCall_over (c80 _), Dg.vfalse (by omega), Dg.vtrue (by omega), Dg.int_eq (by (repeat' split) <;> omega), trivial⟩
--> b4NY_high
--< b4NN_high
theorem b4NN_high (left : Int) (w : Int) (b : Int) (hw : 64 < w) :
    evCall Try.prog 0 (bodied Try.prog) over0 sbs 1000 20 4 [Value.int IntKind.i64 w, Value.int IntKind.i64 b, Value.slice none 0 0, Value.slice none 0 0, Value.int IntKind.i64 left] { n := 0, objs := [] } = some (Value.bool true, { n := 0, objs := [] }, []) :=
  Dg.evCall_hint (hs' := []) (hs := [Hint.call 8 (Value.bool true) { n := 0, objs := [] } [],
    Hint.val 9 7 (Value.bool false),
    Hint.val 9 10 (Value.bool true),
    Hint.val 4 84 (Value.int IntKind.i64 0)])
    [evCall Try.prog 0 (bodied Try.prog) over0 sbs 1000 19 8 [] { n := 0, objs := [] } = some (Value.bool true, { n := 0, objs := [] }, []),
    Value.bool (decide (w < (1 : Int))) = Value.bool false,
    Value.bool (decide (w > (64 : Int))) = Value.bool true,
    Value.int IntKind.i64 (if (if (1 : Int) > left then (1 : Int) else left) < (0 : Int) then if (1 : Int) > left then (1 : Int) else left else (0 : Int)) = Value.int IntKind.i64 (0 : Int)] (by kernel_rfl)
    ⟨Dg.evCall_over (c80 _), Dg.vfalse (by omega), Dg.vtrue (by omega), Dg.int_eq (by (repeat' split) <;> omega), trivial⟩
--> b4NN_high
--< b4XY_neg0
theorem b4XY_neg0 (left : Int) (cx : Cp) (ly : Nat) (cy : Cp) (e1 : Sh) (e2 : Sh) (xs : List Int) (ys : List Int) (w : Int) (b : Int) (hw : 1 ≤ w) (hw1 : w ≤ 64) (hb : b < 0) (hly : ly ≤ 200) :
    evCall Try.prog 0 (bodied Try.prog) over0 sbs 1000 20 4 [Value.int IntKind.i64 w, Value.int IntKind.i64 b, aX 0 cx, aY ly cy, Value.int IntKind.i64 left] { n := 2, objs := [oY ys e2, oX xs e1] } = some (Value.bool true, { n := 2, objs := [AObj.cells (i64s ys) e2.fst (e2.snd.fst + 4) e2.snd.snd, AObj.cells (i64s xs) e1.fst (e1.snd.fst + 4) e1.snd.snd] }, []) :=
  Dg.evCall_hint (hs' := []) (hs := [Hint.val 4 24 (Value.bool false),
    Hint.call 8 (Value.bool true) { n := 0, objs := [] } [],
    Hint.val 9 7 (Value.bool false),
    Hint.val 9 10 (Value.bool false),
    Hint.val 9 14 (Value.bool true),
    Hint.val 4 84 (Value.int IntKind.i64 0)])
    [Value.bool (decide ((↑ly : Int) > (200 : Int))) = Value.bool false,
    evCall Try.prog 0 (bodied Try.prog) over0 sbs 1000 19 8 [] { n := 0, objs := [] } = some (Value.bool true, { n := 0, objs := [] }, []),
    Value.bool (decide (w < (1 : Int))) = Value.bool false,
    Value.bool (decide (w > (64 : Int))) = Value.bool false,
    Value.bool (decide (b < (0 : Int))) = Value.bool true,
    Value.int IntKind.i64 (if (if (1 : Int) > left then (1 : Int) else left) < (0 : Int) then if (1 : Int) > left then (1 : Int) else left else (0 : Int)) = Value.int IntKind.i64 (0 : Int)] (by kernel_rfl)
    ⟨Dg.vfalse (by omega), Dg.evCall_over (c80 _), Dg.vfalse (by omega), Dg.vfalse (by omega), Dg.vtrue (by omega), Dg.int_eq (by (repeat' split) <;> omega), trivial⟩
--> b4XY_neg0
--< b4XY_neg1
theorem b4XY_neg1 (left : Int) (lx : Nat) (cx : Cp) (ly : Nat) (cy : Cp) (e1 : Sh) (e2 : Sh) (xs : List Int) (ys : List Int) (w : Int) (b : Int) (hw : 1 ≤ w) (hw1 : w ≤ 64) (hb : b < 0) (hly : ly ≤ 200) (hlx : lx ≤ 200) (i : Nat) (hi : lx = i + 1) :
    evCall Try.prog 0 (bodied Try.prog) over0 sbs 1000 20 4 [Value.int IntKind.i64 w, Value.int IntKind.i64 b, aX lx cx, aY ly cy, Value.int IntKind.i64 left] { n := 2, objs := [oY ys e2, oX xs e1] } = some (Value.bool true, { n := 2, objs := [AObj.cells (i64s ys) e2.fst (e2.snd.fst + 4) e2.snd.snd, AObj.cells (i64s xs) e1.fst (e1.snd.fst + 4) e1.snd.snd] }, []) :=
  Dg.evCall_hint (hs' := []) (hs := [Hint.val 4 20 (Value.bool false),
    Hint.val 4 24 (Value.bool false),
    Hint.call 8 (Value.bool true) { n := 0, objs := [] } [],
    Hint.loop 4 (Ex.exit 0) (EN4 w b left (aX lx cx) (aY ly cy) lx 2 5 [oY ys e2, oX xs e1] (↑i : Int) 0 0 false),
    Hint.val 9 7 (Value.bool false),
    Hint.val 9 10 (Value.bool false),
    Hint.val 9 14 (Value.bool true),
    Hint.val 4 84 (Value.int IntKind.i64 0)])
    [Value.bool (decide ((↑lx : Int) > (200 : Int))) = Value.bool false,
    Value.bool (decide ((↑ly : Int) > (200 : Int))) = Value.bool false,
    evCall Try.prog 0 (bodied Try.prog) over0 sbs 1000 19 8 [] { n := 0, objs := [] } = some (Value.bool true, { n := 0, objs := [] }, []),
    evLoop (run4 over0 2) (cl4 2) 1000 { ts := [Value.int IntKind.i64 w, Value.int IntKind.i64 b, Value.slice (some { block := 0, off := 0, spot := cx.2 }) lx cx.fst, Value.slice (some { block := 1, off := 0, spot := cy.2 }) ly cy.fst, Value.int IntKind.i64 left, undef, undef, undef, undef, Value.pointer (some { block := 2, off := 0 }), Value.pointer (some { block := 3, off := 0 }), Value.pointer (some { block := 4, off := 0 }), undef, undef, undef, undef, undef, undef, Value.slice (some { block := 0, off := 0, spot := cx.2 }) lx cx.fst, Value.int IntKind.i64 (↑lx : Int), Value.bool false, Value.bool false, Value.slice (some { block := 1, off := 0, spot := cy.2 }) ly cy.fst, Value.int IntKind.i64 (↑ly : Int), Value.bool false, Value.bool false, Value.bool false, Value.bool true, Value.bool false, Value.bool false, undef, Value.slice (some { block := 0, off := 0, spot := cx.2 }) lx cx.fst, Value.int IntKind.i64 (↑lx : Int), Value.int IntKind.i64 0, undef, undef, undef, undef, undef, undef, undef, undef, undef, undef, undef, undef, undef, undef, undef, undef, undef, undef, undef, undef, undef, undef, undef, undef, undef, undef, undef, undef, undef, undef, undef, undef, undef, undef, undef, undef, undef, undef, undef, undef, undef, undef, undef, undef, undef, undef, undef, undef, undef, undef, undef, undef], H := { n := 5, objs := [AObj.cells [Value.slice none 0 0] 39 0 1, AObj.cells [Value.bool false] 4 0 1, AObj.cells [Value.int IntKind.i64 left] 3 0 1, AObj.cells (i64s ys) e2.fst (e2.snd.fst + 4) e2.snd.snd, AObj.cells (i64s xs) e1.fst (e1.snd.fst + 4) e1.snd.snd] }, log := [] } = some (Ex.exit 0, EN4 w b left (aX lx cx) (aY ly cy) lx 2 5 [oY ys e2, oX xs e1] (↑i : Int) 0 0 false),
    Value.bool (decide (w < (1 : Int))) = Value.bool false,
    Value.bool (decide (w > (64 : Int))) = Value.bool false,
    Value.bool (decide (b < (0 : Int))) = Value.bool true,
    Value.int IntKind.i64 (if (if (1 : Int) > left then (1 : Int) else left) < (0 : Int) then if (1 : Int) > left then (1 : Int) else left else (0 : Int)) = Value.int IntKind.i64 (0 : Int)] (by kernel_rfl)
    ⟨Dg.vfalse (by omega), Dg.vfalse (by omega), Dg.evCall_over (c80 _), loopPXY_neg left lx cx ly cy e1 e2 xs ys w b hw hw1 hb hlx i hi (by kernel_rfl), Dg.vfalse (by omega), Dg.vfalse (by omega), Dg.vtrue (by omega), Dg.int_eq (by (repeat' split) <;> omega), trivial⟩
--> b4XY_neg1
--< b4XN_neg0
theorem b4XN_neg0 (left : Int) (cx : Cp) (e1 : Sh) (xs : List Int) (w : Int) (b : Int) (hw : 1 ≤ w) (hw1 : w ≤ 64) (hb : b < 0) :
    evCall Try.prog 0 (bodied Try.prog) over0 sbs 1000 20 4 [Value.int IntKind.i64 w, Value.int IntKind.i64 b, aX 0 cx, Value.slice none 0 0, Value.int IntKind.i64 left] { n := 1, objs := [oX xs e1] } = some (Value.bool true, { n := 1, objs := [AObj.cells (i64s xs) e1.fst (e1.snd.fst + 4) e1.snd.snd] }, []) :=
  Dg.evCall_hint (hs' := []) (hs := [Hint.call 8 (Value.bool true) { n := 0, objs := [] } [],
    Hint.val 9 7 (Value.bool false),
    Hint.val 9 10 (Value.bool false),
    Hint.val 9 14 (Value.bool true),
    Hint.val 4 84 (Value.int IntKind.i64 0)])
    [evCall Try.prog 0 (bodied Try.prog) over0 sbs 1000 19 8 [] { n := 0, objs := [] } = some (Value.bool true, { n := 0, objs := [] }, []),
    Value.bool (decide (w < (1 : Int))) = Value.bool false,
    Value.bool (decide (w > (64 : Int))) = Value.bool false,
    Value.bool (decide (b < (0 : Int))) = Value.bool true,
    Value.int IntKind.i64 (if (if (1 : Int) > left then (1 : Int) else left) < (0 : Int) then if (1 : Int) > left then (1 : Int) else left else (0 : Int)) = Value.int IntKind.i64 (0 : Int)] (by kernel_rfl)
    ⟨Dg.evCall_over (c80 _), Dg.vfalse (by omega), Dg.vfalse (by omega), Dg.vtrue (by omega), Dg.int_eq (by (repeat' split) <;> omega), trivial⟩
--> b4XN_neg0
--< b4XN_neg1
theorem b4XN_neg1 (left : Int) (lx : Nat) (cx : Cp) (e1 : Sh) (xs : List Int) (w : Int) (b : Int) (hw : 1 ≤ w) (hw1 : w ≤ 64) (hb : b < 0) (hlx : lx ≤ 200) (i : Nat) (hi : lx = i + 1) :
    evCall Try.prog 0 (bodied Try.prog) over0 sbs 1000 20 4 [Value.int IntKind.i64 w, Value.int IntKind.i64 b, aX lx cx, Value.slice none 0 0, Value.int IntKind.i64 left] { n := 1, objs := [oX xs e1] } = some (Value.bool true, { n := 1, objs := [AObj.cells (i64s xs) e1.fst (e1.snd.fst + 4) e1.snd.snd] }, []) :=
  Dg.evCall_hint (hs' := []) (hs := [Hint.val 4 20 (Value.bool false),
    Hint.call 8 (Value.bool true) { n := 0, objs := [] } [],
    Hint.loop 4 (Ex.exit 0) (EN4 w b left (aX lx cx) (Value.slice none 0 0) lx 1 4 [oX xs e1] (↑i : Int) 0 0 false),
    Hint.val 9 7 (Value.bool false),
    Hint.val 9 10 (Value.bool false),
    Hint.val 9 14 (Value.bool true),
    Hint.val 4 84 (Value.int IntKind.i64 0)])
    [Value.bool (decide ((↑lx : Int) > (200 : Int))) = Value.bool false,
    evCall Try.prog 0 (bodied Try.prog) over0 sbs 1000 19 8 [] { n := 0, objs := [] } = some (Value.bool true, { n := 0, objs := [] }, []),
    evLoop (run4 over0 1) (cl4 1) 1000 { ts := [Value.int IntKind.i64 w, Value.int IntKind.i64 b, Value.slice (some { block := 0, off := 0, spot := cx.2 }) lx cx.fst, Value.slice none 0 0, Value.int IntKind.i64 left, undef, undef, undef, undef, Value.pointer (some { block := 1, off := 0 }), Value.pointer (some { block := 2, off := 0 }), Value.pointer (some { block := 3, off := 0 }), undef, undef, undef, undef, undef, undef, Value.slice (some { block := 0, off := 0, spot := cx.2 }) lx cx.fst, Value.int IntKind.i64 (↑lx : Int), Value.bool false, Value.bool false, Value.slice none 0 0, Value.int IntKind.i64 0, Value.bool false, Value.bool false, Value.bool false, Value.bool true, Value.bool false, Value.bool false, undef, Value.slice (some { block := 0, off := 0, spot := cx.2 }) lx cx.fst, Value.int IntKind.i64 (↑lx : Int), Value.int IntKind.i64 0, undef, undef, undef, undef, undef, undef, undef, undef, undef, undef, undef, undef, undef, undef, undef, undef, undef, undef, undef, undef, undef, undef, undef, undef, undef, undef, undef, undef, undef, undef, undef, undef, undef, undef, undef, undef, undef, undef, undef, undef, undef, undef, undef, undef, undef, undef, undef, undef, undef, undef, undef, undef], H := { n := 4, objs := [AObj.cells [Value.slice none 0 0] 39 0 1, AObj.cells [Value.bool false] 4 0 1, AObj.cells [Value.int IntKind.i64 left] 3 0 1, AObj.cells (i64s xs) e1.fst (e1.snd.fst + 4) e1.snd.snd] }, log := [] } = some (Ex.exit 0, EN4 w b left (aX lx cx) (Value.slice none 0 0) lx 1 4 [oX xs e1] (↑i : Int) 0 0 false),
    Value.bool (decide (w < (1 : Int))) = Value.bool false,
    Value.bool (decide (w > (64 : Int))) = Value.bool false,
    Value.bool (decide (b < (0 : Int))) = Value.bool true,
    Value.int IntKind.i64 (if (if (1 : Int) > left then (1 : Int) else left) < (0 : Int) then if (1 : Int) > left then (1 : Int) else left else (0 : Int)) = Value.int IntKind.i64 (0 : Int)] (by kernel_rfl)
    ⟨Dg.vfalse (by omega), Dg.evCall_over (c80 _), loopPXN_neg left lx cx e1 xs w b hw hw1 hb hlx i hi (by kernel_rfl), Dg.vfalse (by omega), Dg.vfalse (by omega), Dg.vtrue (by omega), Dg.int_eq (by (repeat' split) <;> omega), trivial⟩
--> b4XN_neg1
--< b4NY_neg
theorem b4NY_neg (left : Int) (ly : Nat) (cy : Cp) (e2 : Sh) (ys : List Int) (w : Int) (b : Int) (hw : 1 ≤ w) (hw1 : w ≤ 64) (hb : b < 0) (hly : ly ≤ 200) :
    evCall Try.prog 0 (bodied Try.prog) over0 sbs 1000 20 4 [Value.int IntKind.i64 w, Value.int IntKind.i64 b, Value.slice none 0 0, aX ly cy, Value.int IntKind.i64 left] { n := 1, objs := [oX ys e2] } = some (Value.bool true, { n := 1, objs := [AObj.cells (i64s ys) e2.fst (e2.snd.fst + 4) e2.snd.snd] }, []) :=
  Dg.evCall_hint (hs' := []) (hs := [Hint.val 4 24 (Value.bool false),
    Hint.call 8 (Value.bool true) { n := 0, objs := [] } [],
    Hint.val 9 7 (Value.bool false),
    Hint.val 9 10 (Value.bool false),
    Hint.val 9 14 (Value.bool true),
    Hint.val 4 84 (Value.int IntKind.i64 0)])
    [Value.bool (decide ((↑ly : Int) > (200 : Int))) = Value.bool false,
    evCall Try.prog 0 (bodied Try.prog) over0 sbs 1000 19 8 [] { n := 0, objs := [] } = some (Value.bool true, { n := 0, objs := [] }, []),
    Value.bool (decide (w < (1 : Int))) = Value.bool false,
    Value.bool (decide (w > (64 : Int))) = Value.bool false,
    Value.bool (decide (b < (0 : Int))) = Value.bool true,
    Value.int IntKind.i64 (if (if (1 : Int) > left then (1 : Int) else left) < (0 : Int) then if (1 : Int) > left then (1 : Int) else left else (0 : Int)) = Value.int IntKind.i64 (0 : Int)] (by kernel_rfl)
    ⟨Dg.vfalse (by omega), Dg.evCall_over (c80 _), Dg.vfalse (by omega), Dg.vfalse (by omega), Dg.vtrue (by omega), Dg.int_eq (by (repeat' split) <;> omega), trivial⟩
--> b4NY_neg
--< b4NN_neg
theorem b4NN_neg (left : Int) (w : Int) (b : Int) (hw : 1 ≤ w) (hw1 : w ≤ 64) (hb : b < 0) :
    evCall Try.prog 0 (bodied Try.prog) over0 sbs 1000 20 4 [Value.int IntKind.i64 w, Value.int IntKind.i64 b, Value.slice none 0 0, Value.slice none 0 0, Value.int IntKind.i64 left] { n := 0, objs := [] } = some (Value.bool true, { n := 0, objs := [] }, []) :=
  Dg.evCall_hint (hs' := []) (hs := [Hint.call 8 (Value.bool true) { n := 0, objs := [] } [],
    Hint.val 9 7 (Value.bool false),
    Hint.val 9 10 (Value.bool false),
    Hint.val 9 14 (Value.bool true),
    Hint.val 4 84 (Value.int IntKind.i64 0)])
    [evCall Try.prog 0 (bodied Try.prog) over0 sbs 1000 19 8 [] { n := 0, objs := [] } = some (Value.bool true, { n := 0, objs := [] }, []),
    Value.bool (decide (w < (1 : Int))) = Value.bool false,
    Value.bool (decide (w > (64 : Int))) = Value.bool false,
    Value.bool (decide (b < (0 : Int))) = Value.bool true,
    Value.int IntKind.i64 (if (if (1 : Int) > left then (1 : Int) else left) < (0 : Int) then if (1 : Int) > left then (1 : Int) else left else (0 : Int)) = Value.int IntKind.i64 (0 : Int)] (by kernel_rfl)
    ⟨Dg.evCall_over (c80 _), Dg.vfalse (by omega), Dg.vfalse (by omega), Dg.vtrue (by omega), Dg.int_eq (by (repeat' split) <;> omega), trivial⟩
--> b4NN_neg
--< b4XN_ok0
theorem b4XN_ok0 (left : Int) (cx : Cp) (e1 : Sh) (xs : List Int) (w : Int) (b : Int) (hw : 1 ≤ w) (hw1 : w ≤ 64) (hb : 0 ≤ b) :
    evCall Try.prog 0 (bodied Try.prog) over0 sbs 1000 20 4 [Value.int IntKind.i64 w, Value.int IntKind.i64 b, aX 0 cx, Value.slice none 0 0, Value.int IntKind.i64 left] { n := 1, objs := [oX xs e1] } = some (Value.bool true, { n := 1, objs := [AObj.cells (i64s xs) e1.fst (e1.snd.fst + 4) e1.snd.snd] }, []) :=
  Dg.evCall_hint (hs' := []) (hs := [Hint.call 8 (Value.bool true) { n := 0, objs := [] } [],
    Hint.val 9 7 (Value.bool false),
    Hint.val 9 10 (Value.bool false),
    Hint.val 9 14 (Value.bool false),
    Hint.val 24 9 (Value.int IntKind.i64 0),
    Hint.val 4 84 (Value.int IntKind.i64 0)])
    [evCall Try.prog 0 (bodied Try.prog) over0 sbs 1000 19 8 [] { n := 0, objs := [] } = some (Value.bool true, { n := 0, objs := [] }, []),
    Value.bool (decide (w < (1 : Int))) = Value.bool false,
    Value.bool (decide (w > (64 : Int))) = Value.bool false,
    Value.bool (decide (b < (0 : Int))) = Value.bool false,
    Value.int IntKind.i64 (0 : Int) = Value.int IntKind.i64 (0 : Int),
    Value.int IntKind.i64 (if (if (1 : Int) > left then (1 : Int) else left) < (0 : Int) then if (1 : Int) > left then (1 : Int) else left else (0 : Int)) = Value.int IntKind.i64 (0 : Int)] (by kernel_rfl)
    ⟨Dg.evCall_over (c80 _), Dg.vfalse (by omega), Dg.vfalse (by omega), Dg.vfalse (by omega), rfl, Dg.int_eq (by (repeat' split) <;> omega), trivial⟩
--> b4XN_ok0
--< b4XN_ok1
theorem b4XN_ok1 (left : Int) (lx : Nat) (cx : Cp) (e1 : Sh) (xs : List Int) (w : Int) (b : Int) (hw : 1 ≤ w) (hw1 : w ≤ 64) (hb : 0 ≤ b) (hlx : lx ≤ 200) (i : Nat) (hi : lx = i + 1) :
    evCall Try.prog 0 (bodied Try.prog) over0 sbs 1000 20 4 [Value.int IntKind.i64 w, Value.int IntKind.i64 b, aX lx cx, Value.slice none 0 0, Value.int IntKind.i64 left] { n := 1, objs := [oX xs e1] } = some (Value.bool true, { n := 1, objs := [AObj.cells (i64s xs) e1.fst (e1.snd.fst + 4) e1.snd.snd] }, []) :=
  Dg.evCall_hint (hs' := []) (hs := [Hint.val 4 20 (Value.bool false),
    Hint.call 8 (Value.bool true) { n := 0, objs := [] } [],
    Hint.loop 4 (Ex.exit 0) (EN4 w b left (aX lx cx) (Value.slice none 0 0) lx 1 4 [oX xs e1] (↑i : Int) 0 0 false),
    Hint.val 9 7 (Value.bool false),
    Hint.val 9 10 (Value.bool false),
    Hint.val 9 14 (Value.bool false),
    Hint.val 24 9 (Value.int IntKind.i64 0),
    Hint.val 4 84 (Value.int IntKind.i64 0)])
    [Value.bool (decide ((↑lx : Int) > (200 : Int))) = Value.bool false,
    evCall Try.prog 0 (bodied Try.prog) over0 sbs 1000 19 8 [] { n := 0, objs := [] } = some (Value.bool true, { n := 0, objs := [] }, []),
    evLoop (run4 over0 1) (cl4 1) 1000 { ts := [Value.int IntKind.i64 w, Value.int IntKind.i64 b, Value.slice (some { block := 0, off := 0, spot := cx.2 }) lx cx.fst, Value.slice none 0 0, Value.int IntKind.i64 left, undef, undef, undef, undef, Value.pointer (some { block := 1, off := 0 }), Value.pointer (some { block := 2, off := 0 }), Value.pointer (some { block := 3, off := 0 }), undef, undef, undef, undef, undef, undef, Value.slice (some { block := 0, off := 0, spot := cx.2 }) lx cx.fst, Value.int IntKind.i64 (↑lx : Int), Value.bool false, Value.bool false, Value.slice none 0 0, Value.int IntKind.i64 0, Value.bool false, Value.bool false, Value.bool false, Value.bool true, Value.bool false, Value.bool false, undef, Value.slice (some { block := 0, off := 0, spot := cx.2 }) lx cx.fst, Value.int IntKind.i64 (↑lx : Int), Value.int IntKind.i64 0, undef, undef, undef, undef, undef, undef, undef, undef, undef, undef, undef, undef, undef, undef, undef, undef, undef, undef, undef, undef, undef, undef, undef, undef, undef, undef, undef, undef, undef, undef, undef, undef, undef, undef, undef, undef, undef, undef, undef, undef, undef, undef, undef, undef, undef, undef, undef, undef, undef, undef, undef, undef], H := { n := 4, objs := [AObj.cells [Value.slice none 0 0] 39 0 1, AObj.cells [Value.bool false] 4 0 1, AObj.cells [Value.int IntKind.i64 left] 3 0 1, AObj.cells (i64s xs) e1.fst (e1.snd.fst + 4) e1.snd.snd] }, log := [] } = some (Ex.exit 0, EN4 w b left (aX lx cx) (Value.slice none 0 0) lx 1 4 [oX xs e1] (↑i : Int) 0 0 false),
    Value.bool (decide (w < (1 : Int))) = Value.bool false,
    Value.bool (decide (w > (64 : Int))) = Value.bool false,
    Value.bool (decide (b < (0 : Int))) = Value.bool false,
    Value.int IntKind.i64 (if (0 : Int) < (↑lx : Int) then (0 : Int) else (↑lx : Int)) = Value.int IntKind.i64 (0 : Int),
    Value.int IntKind.i64 (if (if (1 : Int) > left then (1 : Int) else left) < (0 : Int) then if (1 : Int) > left then (1 : Int) else left else (0 : Int)) = Value.int IntKind.i64 (0 : Int)] (by kernel_rfl)
    ⟨Dg.vfalse (by omega), Dg.evCall_over (c80 _), loopPXN_ok left lx cx e1 xs w b hw hw1 hb hlx i hi (by kernel_rfl), Dg.vfalse (by omega), Dg.vfalse (by omega), Dg.vfalse (by omega), Dg.int_eq (by omega), Dg.int_eq (by (repeat' split) <;> omega), trivial⟩
--> b4XN_ok1
--< b4NY_ok
theorem b4NY_ok (left : Int) (ly : Nat) (cy : Cp) (e2 : Sh) (ys : List Int) (w : Int) (b : Int) (hw : 1 ≤ w) (hw1 : w ≤ 64) (hb : 0 ≤ b) (hly : ly ≤ 200) :
    evCall Try.prog 0 (bodied Try.prog) over0 sbs 1000 20 4 [Value.int IntKind.i64 w, Value.int IntKind.i64 b, Value.slice none 0 0, aX ly cy, Value.int IntKind.i64 left] { n := 1, objs := [oX ys e2] } = some (Value.bool true, { n := 1, objs := [AObj.cells (i64s ys) e2.fst (e2.snd.fst + 4) e2.snd.snd] }, []) :=
  Dg.evCall_hint (hs' := []) (hs := [Hint.val 4 24 (Value.bool false),
    Hint.call 8 (Value.bool true) { n := 0, objs := [] } [],
    Hint.val 9 7 (Value.bool false),
    Hint.val 9 10 (Value.bool false),
    Hint.val 9 14 (Value.bool false),
    Hint.val 24 9 (Value.int IntKind.i64 0),
    Hint.val 4 84 (Value.int IntKind.i64 0)])
    [Value.bool (decide ((↑ly : Int) > (200 : Int))) = Value.bool false,
    evCall Try.prog 0 (bodied Try.prog) over0 sbs 1000 19 8 [] { n := 0, objs := [] } = some (Value.bool true, { n := 0, objs := [] }, []),
    Value.bool (decide (w < (1 : Int))) = Value.bool false,
    Value.bool (decide (w > (64 : Int))) = Value.bool false,
    Value.bool (decide (b < (0 : Int))) = Value.bool false,
    Value.int IntKind.i64 (0 : Int) = Value.int IntKind.i64 (0 : Int),
    Value.int IntKind.i64 (if (if (1 : Int) > left then (1 : Int) else left) < (0 : Int) then if (1 : Int) > left then (1 : Int) else left else (0 : Int)) = Value.int IntKind.i64 (0 : Int)] (by kernel_rfl)
    ⟨Dg.vfalse (by omega), Dg.evCall_over (c80 _), Dg.vfalse (by omega), Dg.vfalse (by omega), Dg.vfalse (by omega), rfl, Dg.int_eq (by (repeat' split) <;> omega), trivial⟩
--> b4NY_ok
--< b4NN_ok
theorem b4NN_ok (left : Int) (w : Int) (b : Int) (hw : 1 ≤ w) (hw1 : w ≤ 64) (hb : 0 ≤ b) :
    evCall Try.prog 0 (bodied Try.prog) over0 sbs 1000 20 4 [Value.int IntKind.i64 w, Value.int IntKind.i64 b, Value.slice none 0 0, Value.slice none 0 0, Value.int IntKind.i64 left] { n := 0, objs := [] } = some (Value.bool true, { n := 0, objs := [] }, []) :=
  Dg.evCall_hint (hs' := []) (hs := [Hint.call 8 (Value.bool true) { n := 0, objs := [] } [],
    Hint.val 9 7 (Value.bool false),
    Hint.val 9 10 (Value.bool false),
    Hint.val 9 14 (Value.bool false),
    Hint.val 24 9 (Value.int IntKind.i64 0),
    Hint.val 4 84 (Value.int IntKind.i64 0)])
    [evCall Try.prog 0 (bodied Try.prog) over0 sbs 1000 19 8 [] { n := 0, objs := [] } = some (Value.bool true, { n := 0, objs := [] }, []),
    Value.bool (decide (w < (1 : Int))) = Value.bool false,
    Value.bool (decide (w > (64 : Int))) = Value.bool false,
    Value.bool (decide (b < (0 : Int))) = Value.bool false,
    Value.int IntKind.i64 (0 : Int) = Value.int IntKind.i64 (0 : Int),
    Value.int IntKind.i64 (if (if (1 : Int) > left then (1 : Int) else left) < (0 : Int) then if (1 : Int) > left then (1 : Int) else left else (0 : Int)) = Value.int IntKind.i64 (0 : Int)] (by kernel_rfl)
    ⟨Dg.evCall_over (c80 _), Dg.vfalse (by omega), Dg.vfalse (by omega), Dg.vfalse (by omega), rfl, Dg.int_eq (by (repeat' split) <;> omega), trivial⟩
--> b4NN_ok
--< m4XY1
theorem m4XY1 (left : Int) (lx : Nat) (cx : Cp) (ly : Nat) (cy : Cp) (e1 : Sh) (e2 : Sh) (xs : List Int) (ys : List Int) (w : Int) (b : Int) (h : 200 < lx) :
    evCall Try.prog 0 (bodied Try.prog) over0 sbs 1000 20 4 [Value.int IntKind.i64 w, Value.int IntKind.i64 b, aX lx cx, aY ly cy, Value.int IntKind.i64 left] { n := 2, objs := [oY ys e2, oX xs e1] } = some (Value.bool true, { n := 2, objs := [AObj.cells (i64s ys) e2.fst (e2.snd.fst + 4) e2.snd.snd, AObj.cells (i64s xs) e1.fst (e1.snd.fst + 4) e1.snd.snd] }, []) :=
  Dg.evCall_hint (hs' := []) (hs := [Hint.val 4 20 (Value.bool true),
    Hint.call 8 (Value.bool true) { n := 0, objs := [] } []])
    [Value.bool (decide ((↑lx : Int) > (200 : Int))) = Value.bool true,
    evCall Try.prog 0 (bodied Try.prog) over0 sbs 1000 19 8 [] { n := 0, objs := [] } = some (Value.bool true, { n := 0, objs := [] }, [])] (by kernel_rfl)
    ⟨Dg.vtrue (by omega), Dg.evCall_over (c80 _), trivial⟩
--> m4XY1
--< m4XY2
theorem m4XY2 (left : Int) (lx : Nat) (cx : Cp) (ly : Nat) (cy : Cp) (e1 : Sh) (e2 : Sh) (xs : List Int) (ys : List Int) (w : Int) (b : Int) (h : lx ≤ 200) (h2 : 200 < ly) :
    evCall Try.prog 0 (bodied Try.prog) over0 sbs 1000 20 4 [Value.int IntKind.i64 w, Value.int IntKind.i64 b, aX lx cx, aY ly cy, Value.int IntKind.i64 left] { n := 2, objs := [oY ys e2, oX xs e1] } = some (Value.bool true, { n := 2, objs := [AObj.cells (i64s ys) e2.fst (e2.snd.fst + 4) e2.snd.snd, AObj.cells (i64s xs) e1.fst (e1.snd.fst + 4) e1.snd.snd] }, []) :=
  Dg.evCall_hint (hs' := []) (hs := [Hint.val 4 20 (Value.bool false),
    Hint.val 4 24 (Value.bool true),
    Hint.call 8 (Value.bool true) { n := 0, objs := [] } []])
    [Value.bool (decide ((↑lx : Int) > (200 : Int))) = Value.bool false,
    Value.bool (decide ((↑ly : Int) > (200 : Int))) = Value.bool true,
    evCall Try.prog 0 (bodied Try.prog) over0 sbs 1000 19 8 [] { n := 0, objs := [] } = some (Value.bool true, { n := 0, objs := [] }, [])] (by kernel_rfl)
    ⟨Dg.vfalse (by omega), Dg.vtrue (by omega), Dg.evCall_over (c80 _), trivial⟩
--> m4XY2
--< m4XN
theorem m4XN (left : Int) (lx : Nat) (cx : Cp) (e1 : Sh) (xs : List Int) (w : Int) (b : Int) (h : 200 < lx) :
    evCall Try.prog 0 (bodied Try.prog) over0 sbs 1000 20 4 [Value.int IntKind.i64 w, Value.int IntKind.i64 b, aX lx cx, Value.slice none 0 0, Value.int IntKind.i64 left] { n := 1, objs := [oX xs e1] } = some (Value.bool true, { n := 1, objs := [AObj.cells (i64s xs) e1.fst (e1.snd.fst + 4) e1.snd.snd] }, []) :=
  Dg.evCall_hint (hs' := []) (hs := [Hint.val 4 20 (Value.bool true),
    Hint.call 8 (Value.bool true) { n := 0, objs := [] } []])
    [Value.bool (decide ((↑lx : Int) > (200 : Int))) = Value.bool true,
    evCall Try.prog 0 (bodied Try.prog) over0 sbs 1000 19 8 [] { n := 0, objs := [] } = some (Value.bool true, { n := 0, objs := [] }, [])] (by kernel_rfl)
    ⟨Dg.vtrue (by omega), Dg.evCall_over (c80 _), trivial⟩
--> m4XN
--< m4NY
theorem m4NY (left : Int) (ly : Nat) (cy : Cp) (e2 : Sh) (ys : List Int) (w : Int) (b : Int) (h : 200 < ly) :
    evCall Try.prog 0 (bodied Try.prog) over0 sbs 1000 20 4 [Value.int IntKind.i64 w, Value.int IntKind.i64 b, Value.slice none 0 0, aX ly cy, Value.int IntKind.i64 left] { n := 1, objs := [oX ys e2] } = some (Value.bool true, { n := 1, objs := [AObj.cells (i64s ys) e2.fst (e2.snd.fst + 4) e2.snd.snd] }, []) :=
  Dg.evCall_hint (hs' := []) (hs := [Hint.val 4 24 (Value.bool true),
    Hint.call 8 (Value.bool true) { n := 0, objs := [] } []])
    [Value.bool (decide ((↑ly : Int) > (200 : Int))) = Value.bool true,
    evCall Try.prog 0 (bodied Try.prog) over0 sbs 1000 19 8 [] { n := 0, objs := [] } = some (Value.bool true, { n := 0, objs := [] }, [])] (by kernel_rfl)
    ⟨Dg.vtrue (by omega), Dg.evCall_over (c80 _), trivial⟩
--> m4NY
end Go.Proofs.Ytafhlmpifdclaaa.shift
