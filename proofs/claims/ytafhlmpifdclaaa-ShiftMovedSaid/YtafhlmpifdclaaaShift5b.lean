/- The first loops of the law 'ShiftMoved' of layer 34. -/
import Derived.Test.YtafhlmpifdclaaaRows
import Derived.Test.YtafhlmpifdclaaaShift5p
namespace Go.Proofs.Ytafhlmpifdclaaa.shift
open Go.Dg (junk St Ex Ev Hint evCall evCallS evCode evCodeK innerKp evCodeS evLoop cleanSt ue bodied noOver sbOf headOf tailOf bodyOf rAssign rBody lBody Flats flatOver Heap AObj SCall Law ofLaw Fix)
set_option linter.unusedVariables false
set_option linter.unusedSimpArgs false

theorem rng_of {xs : List Int} {n : Nat} (h : ∀ j, j < n → rng (xs.getD j 0)) (j : Nat) (hj : j < n) : -1152921504606846976 < xs.getD j 0 ∧ xs.getD j 0 < 1152921504606846976 := h j hj
theorem mvL_succ (byy : Int) (xs : List Int) (i : Nat) : mvL byy xs (i + 1) = mvL byy xs i ++ [xs.getD i 0 + byy] := map_succ5 _ i
theorem tnL_succ (xs : List Int) (i : Nat) : tnL xs (i + 1) = tnL xs i ++ [0 - xs.getD i 0] := map_succ5 _ i
section
variable (lx : Nat) (cx : Cp) (ly : Nat) (cy : Cp) (e1 e2 : Sh) (xs ys : List Int) (w b more byy : Int) 
def HGXu : Nat → St
  | 0 => G5 w b more byy (aX lx cx) (aY ly cy) (aX lx cx) undef 2 0 lx 0 [oY ys e2, oX xs e1]
  | i + 1 => G5 w b more byy (aX lx cx) (aY ly cy) (aX lx cx) (.int .i64 (xs.getD i 0)) 2 0 lx (i + 1) [oY ys e2, oX xs e1]
theorem roundGXu (hl : lx ≤ 200) (hc : lx ≤ cx.1) (hzl : xs.length = cx.1) (i : Nat) (h0 : i < lx) (hr : rng (xs.getD i 0)) : ∃ s', run5K 2 lI5 kO5 (HGXu lx cx ly cy e1 e2 xs ys w b more byy i) = some (.normal, s') ∧ cl5K 2 lI5 kO5 s' = HGXu lx cx ly cy e1 e2 xs ys w b more byy (i + 1) := by
  cases i with
  | zero => exact g5X0 lx cx ly cy e1 e2 xs ys w b more byy h0 hl hc hzl hr
  | succ i => exact g5X1 lx cx ly cy e1 e2 xs ys w b more byy (i + 1) (xs.getD i 0) h0 hl hc hzl hr
theorem okGXu (hl : lx ≤ 200) (hc : lx ≤ cx.1) (hzl : xs.length = cx.1) (i : Nat) (hi : lx = i + 1) (hr : ∀ j, j < lx → rng (xs.getD j 0)) {s0 : St} (h0 : cl5K 2 lI5 kO5 s0 = G5 w b more byy (aX lx cx) (aY ly cy) (aX lx cx) undef 2 0 lx 0 [oY ys e2, oX xs e1]) :
    evLoop (run5K 2 lI5 kO5) (cl5K 2 lI5 kO5) 1000 s0 = some (.exit 2, G5e w b more byy (aX lx cx) (aY ly cy) (aX lx cx) (.int .i64 (xs.getD i 0)) 2 0 lx lx [oY ys e2, oX xs e1]) := by
  refine Dg.loop_run (S := HGXu lx cx ly cy e1 e2 xs ys w b more byy) (n := lx) (by simp) (fun j hj => roundGXu lx cx ly cy e1 e2 xs ys w b more byy hl hc hzl j hj (hr j hj)) ?_ (by omega) h0
  have e : HGXu lx cx ly cy e1 e2 xs ys w b more byy lx = G5 w b more byy (aX lx cx) (aY ly cy) (aX lx cx) (.int .i64 (xs.getD i 0)) 2 0 lx lx [oY ys e2, oX xs e1] := by
    generalize hn : lx = n at hi ⊢
    subst hi
    rfl
  rw [e]
  exact g5Xe lx cx ly cy e1 e2 xs ys w b more byy _
theorem loGXu (hl : lx ≤ 200) (hc : lx ≤ cx.1) (hzl : xs.length = cx.1) (j : Nat) (hj : j < lx) (hr : ∀ i, i < j → rng (xs.getD i 0)) (hb : xs.getD j 0 ≤ -1152921504606846976) {s0 : St} (h0 : cl5K 2 lI5 kO5 s0 = G5 w b more byy (aX lx cx) (aY ly cy) (aX lx cx) undef 2 0 lx 0 [oY ys e2, oX xs e1]) :
    evLoop (run5K 2 lI5 kO5) (cl5K 2 lI5 kO5) 1000 s0 = some (.ret, G5lo w b more byy (aX lx cx) (aY ly cy) (aX lx cx) (xs.getD j 0) 0 2 0 lx j [oY ys e2, oX xs e1]) := by
  refine Dg.loop_run (S := HGXu lx cx ly cy e1 e2 xs ys w b more byy) (n := j) (by simp) (fun i hi => roundGXu lx cx ly cy e1 e2 xs ys w b more byy hl hc hzl i (by omega) (hr i hi)) ?_ (by omega) h0
  cases j with
  | zero => have h0 := hj; exact g5Xlo0 lx cx ly cy e1 e2 xs ys w b more byy h0 hl hc hzl hb
  | succ j => exact g5Xlo1 lx cx ly cy e1 e2 xs ys w b more byy (j + 1) (xs.getD j 0) hj hl hc hzl hb
theorem hiGXu (hl : lx ≤ 200) (hc : lx ≤ cx.1) (hzl : xs.length = cx.1) (j : Nat) (hj : j < lx) (hr : ∀ i, i < j → rng (xs.getD i 0)) (hb0 : -1152921504606846976 < xs.getD j 0) (hb : 1152921504606846976 ≤ xs.getD j 0) {s0 : St} (h0 : cl5K 2 lI5 kO5 s0 = G5 w b more byy (aX lx cx) (aY ly cy) (aX lx cx) undef 2 0 lx 0 [oY ys e2, oX xs e1]) :
    evLoop (run5K 2 lI5 kO5) (cl5K 2 lI5 kO5) 1000 s0 = some (.ret, G5hi w b more byy (aX lx cx) (aY ly cy) (aX lx cx) (xs.getD j 0) 0 2 0 lx j [oY ys e2, oX xs e1]) := by
  refine Dg.loop_run (S := HGXu lx cx ly cy e1 e2 xs ys w b more byy) (n := j) (by simp) (fun i hi => roundGXu lx cx ly cy e1 e2 xs ys w b more byy hl hc hzl i (by omega) (hr i hi)) ?_ (by omega) h0
  cases j with
  | zero => have h0 := hj; exact g5Xhi0 lx cx ly cy e1 e2 xs ys w b more byy h0 hl hc hzl hb0 hb
  | succ j => exact g5Xhi1 lx cx ly cy e1 e2 xs ys w b more byy (j + 1) (xs.getD j 0) hj hl hc hzl hb0 hb
end
section
variable (lx : Nat) (cx : Cp) (ly : Nat) (cy : Cp) (e1 e2 : Sh) (xs ys : List Int) (w b more byy : Int) 
def HGYu : Nat → St
  | 0 => G5 w b more byy (aX lx cx) (aY ly cy) (aY ly cy) undef 2 1 ly 0 [oY ys e2, oX xs e1]
  | i + 1 => G5 w b more byy (aX lx cx) (aY ly cy) (aY ly cy) (.int .i64 (ys.getD i 0)) 2 1 ly (i + 1) [oY ys e2, oX xs e1]
theorem roundGYu (hl : ly ≤ 200) (hc : ly ≤ cy.1) (hzl : ys.length = cy.1) (i : Nat) (h0 : i < ly) (hr : rng (ys.getD i 0)) : ∃ s', run5K 2 lI5 kO5 (HGYu lx cx ly cy e1 e2 xs ys w b more byy i) = some (.normal, s') ∧ cl5K 2 lI5 kO5 s' = HGYu lx cx ly cy e1 e2 xs ys w b more byy (i + 1) := by
  cases i with
  | zero => exact g5Y0 lx cx ly cy e1 e2 xs ys w b more byy h0 hl hc hzl hr
  | succ i => exact g5Y1 lx cx ly cy e1 e2 xs ys w b more byy (i + 1) (ys.getD i 0) h0 hl hc hzl hr
theorem okGYu (hl : ly ≤ 200) (hc : ly ≤ cy.1) (hzl : ys.length = cy.1) (i : Nat) (hi : ly = i + 1) (hr : ∀ j, j < ly → rng (ys.getD j 0)) {s0 : St} (h0 : cl5K 2 lI5 kO5 s0 = G5 w b more byy (aX lx cx) (aY ly cy) (aY ly cy) undef 2 1 ly 0 [oY ys e2, oX xs e1]) :
    evLoop (run5K 2 lI5 kO5) (cl5K 2 lI5 kO5) 1000 s0 = some (.exit 2, G5e w b more byy (aX lx cx) (aY ly cy) (aY ly cy) (.int .i64 (ys.getD i 0)) 2 1 ly ly [oY ys e2, oX xs e1]) := by
  refine Dg.loop_run (S := HGYu lx cx ly cy e1 e2 xs ys w b more byy) (n := ly) (by simp) (fun j hj => roundGYu lx cx ly cy e1 e2 xs ys w b more byy hl hc hzl j hj (hr j hj)) ?_ (by omega) h0
  have e : HGYu lx cx ly cy e1 e2 xs ys w b more byy ly = G5 w b more byy (aX lx cx) (aY ly cy) (aY ly cy) (.int .i64 (ys.getD i 0)) 2 1 ly ly [oY ys e2, oX xs e1] := by
    generalize hn : ly = n at hi ⊢
    subst hi
    rfl
  rw [e]
  exact g5Ye lx cx ly cy e1 e2 xs ys w b more byy _
theorem loGYu (hl : ly ≤ 200) (hc : ly ≤ cy.1) (hzl : ys.length = cy.1) (j : Nat) (hj : j < ly) (hr : ∀ i, i < j → rng (ys.getD i 0)) (hb : ys.getD j 0 ≤ -1152921504606846976) {s0 : St} (h0 : cl5K 2 lI5 kO5 s0 = G5 w b more byy (aX lx cx) (aY ly cy) (aY ly cy) undef 2 1 ly 0 [oY ys e2, oX xs e1]) :
    evLoop (run5K 2 lI5 kO5) (cl5K 2 lI5 kO5) 1000 s0 = some (.ret, G5lo w b more byy (aX lx cx) (aY ly cy) (aY ly cy) (ys.getD j 0) 1 2 1 ly j [oY ys e2, oX xs e1]) := by
  refine Dg.loop_run (S := HGYu lx cx ly cy e1 e2 xs ys w b more byy) (n := j) (by simp) (fun i hi => roundGYu lx cx ly cy e1 e2 xs ys w b more byy hl hc hzl i (by omega) (hr i hi)) ?_ (by omega) h0
  cases j with
  | zero => have h0 := hj; exact g5Ylo0 lx cx ly cy e1 e2 xs ys w b more byy h0 hl hc hzl hb
  | succ j => exact g5Ylo1 lx cx ly cy e1 e2 xs ys w b more byy (j + 1) (ys.getD j 0) hj hl hc hzl hb
theorem hiGYu (hl : ly ≤ 200) (hc : ly ≤ cy.1) (hzl : ys.length = cy.1) (j : Nat) (hj : j < ly) (hr : ∀ i, i < j → rng (ys.getD i 0)) (hb0 : -1152921504606846976 < ys.getD j 0) (hb : 1152921504606846976 ≤ ys.getD j 0) {s0 : St} (h0 : cl5K 2 lI5 kO5 s0 = G5 w b more byy (aX lx cx) (aY ly cy) (aY ly cy) undef 2 1 ly 0 [oY ys e2, oX xs e1]) :
    evLoop (run5K 2 lI5 kO5) (cl5K 2 lI5 kO5) 1000 s0 = some (.ret, G5hi w b more byy (aX lx cx) (aY ly cy) (aY ly cy) (ys.getD j 0) 1 2 1 ly j [oY ys e2, oX xs e1]) := by
  refine Dg.loop_run (S := HGYu lx cx ly cy e1 e2 xs ys w b more byy) (n := j) (by simp) (fun i hi => roundGYu lx cx ly cy e1 e2 xs ys w b more byy hl hc hzl i (by omega) (hr i hi)) ?_ (by omega) h0
  cases j with
  | zero => have h0 := hj; exact g5Yhi0 lx cx ly cy e1 e2 xs ys w b more byy h0 hl hc hzl hb0 hb
  | succ j => exact g5Yhi1 lx cx ly cy e1 e2 xs ys w b more byy (j + 1) (ys.getD j 0) hj hl hc hzl hb0 hb
end
section
variable (lx : Nat) (cx : Cp) (ly : Nat) (cy : Cp) (e1 e2 : Sh) (xs ys : List Int) (w b more byy : Int) (x0 : Int)
def HGYi : Nat → St
  | 0 => G5 w b more byy (aX lx cx) (aY ly cy) (aY ly cy) (.int .i64 x0) 2 1 ly 0 [oY ys e2, oX xs e1]
  | i + 1 => G5 w b more byy (aX lx cx) (aY ly cy) (aY ly cy) (.int .i64 (ys.getD i 0)) 2 1 ly (i + 1) [oY ys e2, oX xs e1]
theorem roundGYi (hl : ly ≤ 200) (hc : ly ≤ cy.1) (hzl : ys.length = cy.1) (i : Nat) (h0 : i < ly) (hr : rng (ys.getD i 0)) : ∃ s', run5K 2 lI5 kO5 (HGYi lx cx ly cy e1 e2 xs ys w b more byy x0 i) = some (.normal, s') ∧ cl5K 2 lI5 kO5 s' = HGYi lx cx ly cy e1 e2 xs ys w b more byy x0 (i + 1) := by
  cases i with
  | zero => exact g5Y1 lx cx ly cy e1 e2 xs ys w b more byy 0 x0 h0 hl hc hzl hr
  | succ i => exact g5Y1 lx cx ly cy e1 e2 xs ys w b more byy (i + 1) (ys.getD i 0) h0 hl hc hzl hr
theorem okGYi (hl : ly ≤ 200) (hc : ly ≤ cy.1) (hzl : ys.length = cy.1) (i : Nat) (hi : ly = i + 1) (hr : ∀ j, j < ly → rng (ys.getD j 0)) {s0 : St} (h0 : cl5K 2 lI5 kO5 s0 = G5 w b more byy (aX lx cx) (aY ly cy) (aY ly cy) (.int .i64 x0) 2 1 ly 0 [oY ys e2, oX xs e1]) :
    evLoop (run5K 2 lI5 kO5) (cl5K 2 lI5 kO5) 1000 s0 = some (.exit 2, G5e w b more byy (aX lx cx) (aY ly cy) (aY ly cy) (.int .i64 (ys.getD i 0)) 2 1 ly ly [oY ys e2, oX xs e1]) := by
  refine Dg.loop_run (S := HGYi lx cx ly cy e1 e2 xs ys w b more byy x0) (n := ly) (by simp) (fun j hj => roundGYi lx cx ly cy e1 e2 xs ys w b more byy x0 hl hc hzl j hj (hr j hj)) ?_ (by omega) h0
  have e : HGYi lx cx ly cy e1 e2 xs ys w b more byy x0 ly = G5 w b more byy (aX lx cx) (aY ly cy) (aY ly cy) (.int .i64 (ys.getD i 0)) 2 1 ly ly [oY ys e2, oX xs e1] := by
    generalize hn : ly = n at hi ⊢
    subst hi
    rfl
  rw [e]
  exact g5Ye lx cx ly cy e1 e2 xs ys w b more byy _
theorem loGYi (hl : ly ≤ 200) (hc : ly ≤ cy.1) (hzl : ys.length = cy.1) (j : Nat) (hj : j < ly) (hr : ∀ i, i < j → rng (ys.getD i 0)) (hb : ys.getD j 0 ≤ -1152921504606846976) {s0 : St} (h0 : cl5K 2 lI5 kO5 s0 = G5 w b more byy (aX lx cx) (aY ly cy) (aY ly cy) (.int .i64 x0) 2 1 ly 0 [oY ys e2, oX xs e1]) :
    evLoop (run5K 2 lI5 kO5) (cl5K 2 lI5 kO5) 1000 s0 = some (.ret, G5lo w b more byy (aX lx cx) (aY ly cy) (aY ly cy) (ys.getD j 0) 1 2 1 ly j [oY ys e2, oX xs e1]) := by
  refine Dg.loop_run (S := HGYi lx cx ly cy e1 e2 xs ys w b more byy x0) (n := j) (by simp) (fun i hi => roundGYi lx cx ly cy e1 e2 xs ys w b more byy x0 hl hc hzl i (by omega) (hr i hi)) ?_ (by omega) h0
  cases j with
  | zero => have h0 := hj; exact g5Ylo1 lx cx ly cy e1 e2 xs ys w b more byy 0 x0 h0 hl hc hzl hb
  | succ j => exact g5Ylo1 lx cx ly cy e1 e2 xs ys w b more byy (j + 1) (ys.getD j 0) hj hl hc hzl hb
theorem hiGYi (hl : ly ≤ 200) (hc : ly ≤ cy.1) (hzl : ys.length = cy.1) (j : Nat) (hj : j < ly) (hr : ∀ i, i < j → rng (ys.getD i 0)) (hb0 : -1152921504606846976 < ys.getD j 0) (hb : 1152921504606846976 ≤ ys.getD j 0) {s0 : St} (h0 : cl5K 2 lI5 kO5 s0 = G5 w b more byy (aX lx cx) (aY ly cy) (aY ly cy) (.int .i64 x0) 2 1 ly 0 [oY ys e2, oX xs e1]) :
    evLoop (run5K 2 lI5 kO5) (cl5K 2 lI5 kO5) 1000 s0 = some (.ret, G5hi w b more byy (aX lx cx) (aY ly cy) (aY ly cy) (ys.getD j 0) 1 2 1 ly j [oY ys e2, oX xs e1]) := by
  refine Dg.loop_run (S := HGYi lx cx ly cy e1 e2 xs ys w b more byy x0) (n := j) (by simp) (fun i hi => roundGYi lx cx ly cy e1 e2 xs ys w b more byy x0 hl hc hzl i (by omega) (hr i hi)) ?_ (by omega) h0
  cases j with
  | zero => have h0 := hj; exact g5Yhi1 lx cx ly cy e1 e2 xs ys w b more byy 0 x0 h0 hl hc hzl hb0 hb
  | succ j => exact g5Yhi1 lx cx ly cy e1 e2 xs ys w b more byy (j + 1) (ys.getD j 0) hj hl hc hzl hb0 hb
end
section
variable (lx : Nat) (cx : Cp) (e1 : Sh) (xs : List Int) (w b more byy : Int) 
def HGXNu : Nat → St
  | 0 => G5 w b more byy (aX lx cx) (.slice none 0 0) (aX lx cx) undef 1 0 lx 0 [oX xs e1]
  | i + 1 => G5 w b more byy (aX lx cx) (.slice none 0 0) (aX lx cx) (.int .i64 (xs.getD i 0)) 1 0 lx (i + 1) [oX xs e1]
theorem roundGXNu (hl : lx ≤ 200) (hc : lx ≤ cx.1) (hzl : xs.length = cx.1) (i : Nat) (h0 : i < lx) (hr : rng (xs.getD i 0)) : ∃ s', run5K 1 lI5 kO5 (HGXNu lx cx e1 xs w b more byy i) = some (.normal, s') ∧ cl5K 1 lI5 kO5 s' = HGXNu lx cx e1 xs w b more byy (i + 1) := by
  cases i with
  | zero => exact g5XN0 lx cx e1 xs w b more byy h0 hl hc hzl hr
  | succ i => exact g5XN1 lx cx e1 xs w b more byy (i + 1) (xs.getD i 0) h0 hl hc hzl hr
theorem okGXNu (hl : lx ≤ 200) (hc : lx ≤ cx.1) (hzl : xs.length = cx.1) (i : Nat) (hi : lx = i + 1) (hr : ∀ j, j < lx → rng (xs.getD j 0)) {s0 : St} (h0 : cl5K 1 lI5 kO5 s0 = G5 w b more byy (aX lx cx) (.slice none 0 0) (aX lx cx) undef 1 0 lx 0 [oX xs e1]) :
    evLoop (run5K 1 lI5 kO5) (cl5K 1 lI5 kO5) 1000 s0 = some (.exit 2, G5e w b more byy (aX lx cx) (.slice none 0 0) (aX lx cx) (.int .i64 (xs.getD i 0)) 1 0 lx lx [oX xs e1]) := by
  refine Dg.loop_run (S := HGXNu lx cx e1 xs w b more byy) (n := lx) (by simp) (fun j hj => roundGXNu lx cx e1 xs w b more byy hl hc hzl j hj (hr j hj)) ?_ (by omega) h0
  have e : HGXNu lx cx e1 xs w b more byy lx = G5 w b more byy (aX lx cx) (.slice none 0 0) (aX lx cx) (.int .i64 (xs.getD i 0)) 1 0 lx lx [oX xs e1] := by
    generalize hn : lx = n at hi ⊢
    subst hi
    rfl
  rw [e]
  exact g5XNe lx cx e1 xs w b more byy _
theorem loGXNu (hl : lx ≤ 200) (hc : lx ≤ cx.1) (hzl : xs.length = cx.1) (j : Nat) (hj : j < lx) (hr : ∀ i, i < j → rng (xs.getD i 0)) (hb : xs.getD j 0 ≤ -1152921504606846976) {s0 : St} (h0 : cl5K 1 lI5 kO5 s0 = G5 w b more byy (aX lx cx) (.slice none 0 0) (aX lx cx) undef 1 0 lx 0 [oX xs e1]) :
    evLoop (run5K 1 lI5 kO5) (cl5K 1 lI5 kO5) 1000 s0 = some (.ret, G5lo w b more byy (aX lx cx) (.slice none 0 0) (aX lx cx) (xs.getD j 0) 0 1 0 lx j [oX xs e1]) := by
  refine Dg.loop_run (S := HGXNu lx cx e1 xs w b more byy) (n := j) (by simp) (fun i hi => roundGXNu lx cx e1 xs w b more byy hl hc hzl i (by omega) (hr i hi)) ?_ (by omega) h0
  cases j with
  | zero => have h0 := hj; exact g5XNlo0 lx cx e1 xs w b more byy h0 hl hc hzl hb
  | succ j => exact g5XNlo1 lx cx e1 xs w b more byy (j + 1) (xs.getD j 0) hj hl hc hzl hb
theorem hiGXNu (hl : lx ≤ 200) (hc : lx ≤ cx.1) (hzl : xs.length = cx.1) (j : Nat) (hj : j < lx) (hr : ∀ i, i < j → rng (xs.getD i 0)) (hb0 : -1152921504606846976 < xs.getD j 0) (hb : 1152921504606846976 ≤ xs.getD j 0) {s0 : St} (h0 : cl5K 1 lI5 kO5 s0 = G5 w b more byy (aX lx cx) (.slice none 0 0) (aX lx cx) undef 1 0 lx 0 [oX xs e1]) :
    evLoop (run5K 1 lI5 kO5) (cl5K 1 lI5 kO5) 1000 s0 = some (.ret, G5hi w b more byy (aX lx cx) (.slice none 0 0) (aX lx cx) (xs.getD j 0) 0 1 0 lx j [oX xs e1]) := by
  refine Dg.loop_run (S := HGXNu lx cx e1 xs w b more byy) (n := j) (by simp) (fun i hi => roundGXNu lx cx e1 xs w b more byy hl hc hzl i (by omega) (hr i hi)) ?_ (by omega) h0
  cases j with
  | zero => have h0 := hj; exact g5XNhi0 lx cx e1 xs w b more byy h0 hl hc hzl hb0 hb
  | succ j => exact g5XNhi1 lx cx e1 xs w b more byy (j + 1) (xs.getD j 0) hj hl hc hzl hb0 hb
end
section
variable (lx : Nat) (cx : Cp) (e1 : Sh) (xs : List Int) (w b more byy : Int) 
def HGNYu : Nat → St
  | 0 => G5 w b more byy (.slice none 0 0) (aX lx cx) (aX lx cx) undef 1 1 lx 0 [oX xs e1]
  | i + 1 => G5 w b more byy (.slice none 0 0) (aX lx cx) (aX lx cx) (.int .i64 (xs.getD i 0)) 1 1 lx (i + 1) [oX xs e1]
theorem roundGNYu (hl : lx ≤ 200) (hc : lx ≤ cx.1) (hzl : xs.length = cx.1) (i : Nat) (h0 : i < lx) (hr : rng (xs.getD i 0)) : ∃ s', run5K 1 lI5 kO5 (HGNYu lx cx e1 xs w b more byy i) = some (.normal, s') ∧ cl5K 1 lI5 kO5 s' = HGNYu lx cx e1 xs w b more byy (i + 1) := by
  cases i with
  | zero => exact g5NY0 lx cx e1 xs w b more byy h0 hl hc hzl hr
  | succ i => exact g5NY1 lx cx e1 xs w b more byy (i + 1) (xs.getD i 0) h0 hl hc hzl hr
theorem okGNYu (hl : lx ≤ 200) (hc : lx ≤ cx.1) (hzl : xs.length = cx.1) (i : Nat) (hi : lx = i + 1) (hr : ∀ j, j < lx → rng (xs.getD j 0)) {s0 : St} (h0 : cl5K 1 lI5 kO5 s0 = G5 w b more byy (.slice none 0 0) (aX lx cx) (aX lx cx) undef 1 1 lx 0 [oX xs e1]) :
    evLoop (run5K 1 lI5 kO5) (cl5K 1 lI5 kO5) 1000 s0 = some (.exit 2, G5e w b more byy (.slice none 0 0) (aX lx cx) (aX lx cx) (.int .i64 (xs.getD i 0)) 1 1 lx lx [oX xs e1]) := by
  refine Dg.loop_run (S := HGNYu lx cx e1 xs w b more byy) (n := lx) (by simp) (fun j hj => roundGNYu lx cx e1 xs w b more byy hl hc hzl j hj (hr j hj)) ?_ (by omega) h0
  have e : HGNYu lx cx e1 xs w b more byy lx = G5 w b more byy (.slice none 0 0) (aX lx cx) (aX lx cx) (.int .i64 (xs.getD i 0)) 1 1 lx lx [oX xs e1] := by
    generalize hn : lx = n at hi ⊢
    subst hi
    rfl
  rw [e]
  exact g5NYe lx cx e1 xs w b more byy _
theorem loGNYu (hl : lx ≤ 200) (hc : lx ≤ cx.1) (hzl : xs.length = cx.1) (j : Nat) (hj : j < lx) (hr : ∀ i, i < j → rng (xs.getD i 0)) (hb : xs.getD j 0 ≤ -1152921504606846976) {s0 : St} (h0 : cl5K 1 lI5 kO5 s0 = G5 w b more byy (.slice none 0 0) (aX lx cx) (aX lx cx) undef 1 1 lx 0 [oX xs e1]) :
    evLoop (run5K 1 lI5 kO5) (cl5K 1 lI5 kO5) 1000 s0 = some (.ret, G5lo w b more byy (.slice none 0 0) (aX lx cx) (aX lx cx) (xs.getD j 0) 0 1 1 lx j [oX xs e1]) := by
  refine Dg.loop_run (S := HGNYu lx cx e1 xs w b more byy) (n := j) (by simp) (fun i hi => roundGNYu lx cx e1 xs w b more byy hl hc hzl i (by omega) (hr i hi)) ?_ (by omega) h0
  cases j with
  | zero => have h0 := hj; exact g5NYlo0 lx cx e1 xs w b more byy h0 hl hc hzl hb
  | succ j => exact g5NYlo1 lx cx e1 xs w b more byy (j + 1) (xs.getD j 0) hj hl hc hzl hb
theorem hiGNYu (hl : lx ≤ 200) (hc : lx ≤ cx.1) (hzl : xs.length = cx.1) (j : Nat) (hj : j < lx) (hr : ∀ i, i < j → rng (xs.getD i 0)) (hb0 : -1152921504606846976 < xs.getD j 0) (hb : 1152921504606846976 ≤ xs.getD j 0) {s0 : St} (h0 : cl5K 1 lI5 kO5 s0 = G5 w b more byy (.slice none 0 0) (aX lx cx) (aX lx cx) undef 1 1 lx 0 [oX xs e1]) :
    evLoop (run5K 1 lI5 kO5) (cl5K 1 lI5 kO5) 1000 s0 = some (.ret, G5hi w b more byy (.slice none 0 0) (aX lx cx) (aX lx cx) (xs.getD j 0) 0 1 1 lx j [oX xs e1]) := by
  refine Dg.loop_run (S := HGNYu lx cx e1 xs w b more byy) (n := j) (by simp) (fun i hi => roundGNYu lx cx e1 xs w b more byy hl hc hzl i (by omega) (hr i hi)) ?_ (by omega) h0
  cases j with
  | zero => have h0 := hj; exact g5NYhi0 lx cx e1 xs w b more byy h0 hl hc hzl hb0 hb
  | succ j => exact g5NYhi1 lx cx e1 xs w b more byy (j + 1) (xs.getD j 0) hj hl hc hzl hb0 hb
end
section
variable (lx : Nat) (cx : Cp) (ly : Nat) (cy : Cp) (e1 e2 : Sh) (xs ys : List Int) (w b more byy : Int)
def HAXY : Nat → St
  | 0 => A5a w b more byy (aX lx cx) (aY ly cy) 2 lx [oY ys e2, oX xs e1]
  | i + 1 => A5b w b more byy (aX lx cx) (aY ly cy) (xs.getD i 0) (mvL byy xs (i + 1)) (tnL xs (i + 1)) 2 lx (i + 1) [oY ys e2, oX xs e1]
theorem loopAXY (hl : lx ≤ 200) (hc : lx ≤ cx.1) (hzl : xs.length = cx.1) (hby : rng byy) (i : Nat) (hi : lx = i + 1) (hr : ∀ j, j < lx → rng (xs.getD j 0)) {s0 : St} (h0 : cl5K 2 lA5 [] s0 = A5a w b more byy (aX lx cx) (aY ly cy) 2 lx [oY ys e2, oX xs e1]) :
    evLoop (run5K 2 lA5 []) (cl5K 2 lA5 []) 1000 s0 = some (.exit 4, A5e w b more byy (aX lx cx) (aY ly cy) (xs.getD i 0) (mvL byy xs lx) (tnL xs lx) 2 lx lx [oY ys e2, oX xs e1]) := by
  refine Dg.loop_run (S := HAXY lx cx ly cy e1 e2 xs ys w b more byy) (n := lx) (by simp) (fun j hj => ?_) ?_ (by omega) h0
  · cases j with
    | zero => exact a5XY0 lx cx ly cy e1 e2 xs ys w b more byy hj hl hc hzl (hr 0 hj) hby
    | succ j =>
      obtain ⟨s', h1, h2⟩ := a5XY1 lx cx ly cy e1 e2 xs ys w b more byy (j + 1) (xs.getD j 0) (mvL byy xs (j + 1)) (tnL xs (j + 1)) (mvL_len ..) (tnL_len ..) hj hl hc hzl (hr _ hj) hby
      refine ⟨s', h1, h2.trans ?_⟩
      show _ = A5b w b more byy (aX lx cx) (aY ly cy) (xs.getD (j + 1) 0) (mvL byy xs (j + 1 + 1)) (tnL xs (j + 1 + 1)) 2 lx (j + 1 + 1) [oY ys e2, oX xs e1]
      rw [mvL_succ byy xs (j + 1), tnL_succ xs (j + 1)]
  · have e : HAXY lx cx ly cy e1 e2 xs ys w b more byy lx = A5b w b more byy (aX lx cx) (aY ly cy) (xs.getD i 0) (mvL byy xs lx) (tnL xs lx) 2 lx lx [oY ys e2, oX xs e1] := by
      generalize hn : lx = n at hi ⊢
      subst hi
      rfl
    rw [e]
    exact a5XYe lx cx ly cy e1 e2 xs ys w b more byy _ _ _
end
section
variable (lx : Nat) (cx : Cp) (e1 : Sh) (xs : List Int) (w b more byy : Int)
def HAXN : Nat → St
  | 0 => A5a w b more byy (aX lx cx) (.slice none 0 0) 1 lx [oX xs e1]
  | i + 1 => A5b w b more byy (aX lx cx) (.slice none 0 0) (xs.getD i 0) (mvL byy xs (i + 1)) (tnL xs (i + 1)) 1 lx (i + 1) [oX xs e1]
theorem loopAXN (hl : lx ≤ 200) (hc : lx ≤ cx.1) (hzl : xs.length = cx.1) (hby : rng byy) (i : Nat) (hi : lx = i + 1) (hr : ∀ j, j < lx → rng (xs.getD j 0)) {s0 : St} (h0 : cl5K 1 lA5 [] s0 = A5a w b more byy (aX lx cx) (.slice none 0 0) 1 lx [oX xs e1]) :
    evLoop (run5K 1 lA5 []) (cl5K 1 lA5 []) 1000 s0 = some (.exit 4, A5e w b more byy (aX lx cx) (.slice none 0 0) (xs.getD i 0) (mvL byy xs lx) (tnL xs lx) 1 lx lx [oX xs e1]) := by
  refine Dg.loop_run (S := HAXN lx cx e1 xs w b more byy) (n := lx) (by simp) (fun j hj => ?_) ?_ (by omega) h0
  · cases j with
    | zero => exact a5XN0 lx cx e1 xs w b more byy hj hl hc hzl (hr 0 hj) hby
    | succ j =>
      obtain ⟨s', h1, h2⟩ := a5XN1 lx cx e1 xs w b more byy (j + 1) (xs.getD j 0) (mvL byy xs (j + 1)) (tnL xs (j + 1)) (mvL_len ..) (tnL_len ..) hj hl hc hzl (hr _ hj) hby
      refine ⟨s', h1, h2.trans ?_⟩
      show _ = A5b w b more byy (aX lx cx) (.slice none 0 0) (xs.getD (j + 1) 0) (mvL byy xs (j + 1 + 1)) (tnL xs (j + 1 + 1)) 1 lx (j + 1 + 1) [oX xs e1]
      rw [mvL_succ byy xs (j + 1), tnL_succ xs (j + 1)]
  · have e : HAXN lx cx e1 xs w b more byy lx = A5b w b more byy (aX lx cx) (.slice none 0 0) (xs.getD i 0) (mvL byy xs lx) (tnL xs lx) 1 lx lx [oX xs e1] := by
      generalize hn : lx = n at hi ⊢
      subst hi
      rfl
    rw [e]
    exact a5XNe lx cx e1 xs w b more byy _ _ _
end
section
variable (lx : Nat) (cx : Cp) (ly : Nat) (cy : Cp) (e1 e2 : Sh) (xs ys : List Int) (w b more byy : Int) (x : Int) (ms ts : List Int)
def HBm : Nat → St
  | 0 => Bm5a w b more byy (aX lx cx) (aY ly cy) x ms ts 2 ly [oY ys e2, oX xs e1]
  | i + 1 => Bm5b w b more byy (aX lx cx) (aY ly cy) x (ys.getD i 0) ms (mvL byy ys (i + 1)) ts 2 ly (i + 1) [oY ys e2, oX xs e1]
theorem loopBm (hl : ly ≤ 200) (hc : ly ≤ cy.1) (hzl : ys.length = cy.1) (hby : rng byy) (i : Nat) (hi : ly = i + 1) (hr : ∀ j, j < ly → rng (ys.getD j 0)) {s0 : St} (h0 : cl5K 2 lB5 [] s0 = Bm5a w b more byy (aX lx cx) (aY ly cy) x ms ts 2 ly [oY ys e2, oX xs e1]) :
    evLoop (run5K 2 lB5 []) (cl5K 2 lB5 []) 1000 s0 = some (.exit 6, Bm5e w b more byy (aX lx cx) (aY ly cy) x (ys.getD i 0) ms (mvL byy ys ly) ts 2 ly ly [oY ys e2, oX xs e1]) := by
  refine Dg.loop_run (S := HBm lx cx ly cy e1 e2 xs ys w b more byy x ms ts) (n := ly) (by simp) (fun j hj => ?_) ?_ (by omega) h0
  · cases j with
    | zero => exact b5m0 lx cx ly cy e1 e2 xs ys w b more byy x ms ts hj hl hc hzl (hr 0 hj) hby
    | succ j =>
      obtain ⟨s', h1, h2⟩ := b5m1 lx cx ly cy e1 e2 xs ys w b more byy x ms ts (j + 1) (ys.getD j 0) (mvL byy ys (j + 1)) (mvL_len ..) hj hl hc hzl (hr _ hj) hby
      refine ⟨s', h1, h2.trans ?_⟩
      show _ = Bm5b w b more byy (aX lx cx) (aY ly cy) x (ys.getD (j + 1) 0) ms (mvL byy ys (j + 1 + 1)) ts 2 ly (j + 1 + 1) [oY ys e2, oX xs e1]
      rw [mvL_succ byy ys (j + 1)]
  · have e : HBm lx cx ly cy e1 e2 xs ys w b more byy x ms ts ly = Bm5b w b more byy (aX lx cx) (aY ly cy) x (ys.getD i 0) ms (mvL byy ys ly) ts 2 ly ly [oY ys e2, oX xs e1] := by
      generalize hn : ly = n at hi ⊢
      subst hi
      rfl
    rw [e]
    exact b5me lx cx ly cy e1 e2 xs ys w b more byy x ms ts _ _
end
section
variable (lx : Nat) (cx : Cp) (ly : Nat) (cy : Cp) (e1 e2 : Sh) (xs ys : List Int) (w b more byy : Int) 
def HBz : Nat → St
  | 0 => Bz5a w b more byy (aX lx cx) (aY ly cy) 2 ly [oY ys e2, oX xs e1]
  | i + 1 => Bz5b w b more byy (aX lx cx) (aY ly cy) (ys.getD i 0) (mvL byy ys (i + 1)) 2 ly (i + 1) [oY ys e2, oX xs e1]
theorem loopBz (hl : ly ≤ 200) (hc : ly ≤ cy.1) (hzl : ys.length = cy.1) (hby : rng byy) (i : Nat) (hi : ly = i + 1) (hr : ∀ j, j < ly → rng (ys.getD j 0)) {s0 : St} (h0 : cl5K 2 lB5 [] s0 = Bz5a w b more byy (aX lx cx) (aY ly cy) 2 ly [oY ys e2, oX xs e1]) :
    evLoop (run5K 2 lB5 []) (cl5K 2 lB5 []) 1000 s0 = some (.exit 6, Bz5e w b more byy (aX lx cx) (aY ly cy) (ys.getD i 0) (mvL byy ys ly) 2 ly ly [oY ys e2, oX xs e1]) := by
  refine Dg.loop_run (S := HBz lx cx ly cy e1 e2 xs ys w b more byy) (n := ly) (by simp) (fun j hj => ?_) ?_ (by omega) h0
  · cases j with
    | zero => exact b5z0 lx cx ly cy e1 e2 xs ys w b more byy hj hl hc hzl (hr 0 hj) hby
    | succ j =>
      obtain ⟨s', h1, h2⟩ := b5z1 lx cx ly cy e1 e2 xs ys w b more byy (j + 1) (ys.getD j 0) (mvL byy ys (j + 1)) (mvL_len ..) hj hl hc hzl (hr _ hj) hby
      refine ⟨s', h1, h2.trans ?_⟩
      show _ = Bz5b w b more byy (aX lx cx) (aY ly cy) (ys.getD (j + 1) 0) (mvL byy ys (j + 1 + 1)) 2 ly (j + 1 + 1) [oY ys e2, oX xs e1]
      rw [mvL_succ byy ys (j + 1)]
  · have e : HBz lx cx ly cy e1 e2 xs ys w b more byy ly = Bz5b w b more byy (aX lx cx) (aY ly cy) (ys.getD i 0) (mvL byy ys ly) 2 ly ly [oY ys e2, oX xs e1] := by
      generalize hn : ly = n at hi ⊢
      subst hi
      rfl
    rw [e]
    exact b5ze lx cx ly cy e1 e2 xs ys w b more byy _ _
end
section
variable (lx : Nat) (cx : Cp) (e1 : Sh) (xs : List Int) (w b more byy : Int) 
def HBn : Nat → St
  | 0 => Bz5a w b more byy (.slice none 0 0) (aX lx cx) 1 lx [oX xs e1]
  | i + 1 => Bz5b w b more byy (.slice none 0 0) (aX lx cx) (xs.getD i 0) (mvL byy xs (i + 1)) 1 lx (i + 1) [oX xs e1]
theorem loopBn (hl : lx ≤ 200) (hc : lx ≤ cx.1) (hzl : xs.length = cx.1) (hby : rng byy) (i : Nat) (hi : lx = i + 1) (hr : ∀ j, j < lx → rng (xs.getD j 0)) {s0 : St} (h0 : cl5K 1 lB5 [] s0 = Bz5a w b more byy (.slice none 0 0) (aX lx cx) 1 lx [oX xs e1]) :
    evLoop (run5K 1 lB5 []) (cl5K 1 lB5 []) 1000 s0 = some (.exit 6, Bz5e w b more byy (.slice none 0 0) (aX lx cx) (xs.getD i 0) (mvL byy xs lx) 1 lx lx [oX xs e1]) := by
  refine Dg.loop_run (S := HBn lx cx e1 xs w b more byy) (n := lx) (by simp) (fun j hj => ?_) ?_ (by omega) h0
  · cases j with
    | zero => exact b5n0 lx cx e1 xs w b more byy hj hl hc hzl (hr 0 hj) hby
    | succ j =>
      obtain ⟨s', h1, h2⟩ := b5n1 lx cx e1 xs w b more byy (j + 1) (xs.getD j 0) (mvL byy xs (j + 1)) (mvL_len ..) hj hl hc hzl (hr _ hj) hby
      refine ⟨s', h1, h2.trans ?_⟩
      show _ = Bz5b w b more byy (.slice none 0 0) (aX lx cx) (xs.getD (j + 1) 0) (mvL byy xs (j + 1 + 1)) 1 lx (j + 1 + 1) [oX xs e1]
      rw [mvL_succ byy xs (j + 1)]
  · have e : HBn lx cx e1 xs w b more byy lx = Bz5b w b more byy (.slice none 0 0) (aX lx cx) (xs.getD i 0) (mvL byy xs lx) 1 lx lx [oX xs e1] := by
      generalize hn : lx = n at hi ⊢
      subst hi
      rfl
    rw [e]
    exact b5ne lx cx e1 xs w b more byy _ _
end
theorem c16ny {H : Heap} {ky ly : Nat} {cy : Cp} {e2 : Sh} {ys : List Int} {w b : Int} (hky : H.get ky = oX ys e2) (hb1 : b < 9223372036854775808) : over4 16 [.int .i64 w, .int .i64 b, .slice none 0 0, .slice (some ⟨ky, 0, cy.2⟩) ly cy.1] H = some (.slice none 0 0, H, []) :=
  Dg.ofLaw_is u16 ⟨w, b, _, _, rfl, hb1, .inr ⟨.inl rfl, .inr ⟨ky, ly, cy, e2, ys, rfl, hky⟩, .inl rfl, rfl⟩⟩
theorem c16xn {H : Heap} {kx lx : Nat} {cx : Cp} {e1 : Sh} {xs : List Int} {w b : Int} (hkx : H.get kx = oX xs e1) (hb1 : b < 9223372036854775808) : over4 16 [.int .i64 w, .int .i64 b, .slice (some ⟨kx, 0, cx.2⟩) lx cx.1, .slice none 0 0] H = some (.slice none 0 0, H, []) :=
  Dg.ofLaw_is u16 ⟨w, b, _, _, rfl, hb1, .inr ⟨.inr ⟨kx, lx, cx, e1, xs, rfl, hkx⟩, .inl rfl, .inr rfl, rfl⟩⟩
theorem stepsOf_0 (w b : Int) (xs ys : List Int) {n : Nat} (h : n = 0) : stepsOf w b xs ys n = [] := by
  subst h
  unfold stepsOf
  split <;> rfl
theorem c16zz {H : Heap} {kx ky lx ly : Nat} {cx cy : Cp} {e1 e2 : Sh} {xs ys : List Int} {w b : Int} (hne : kx ≠ ky) (hkx : H.get kx = oX xs e1) (hky : H.get ky = oX ys e2) (hb1 : b < 9223372036854775808) (hn : min lx ly = 0)
    (hcx : lx ≤ cx.1) (hcy : ly ≤ cy.1) (hxl : xs.length = cx.1) (hyl : ys.length = cy.1) (hx : ∀ x ∈ xs, In x) :
    over4 16 [.int .i64 w, .int .i64 b, .slice (some ⟨kx, 0, cx.2⟩) lx cx.1, .slice (some ⟨ky, 0, cy.2⟩) ly cy.1] H = some (.slice none 0 0, H, []) :=
  c16 hne hkx hky hb1 (by omega) hcx hcy hxl hyl hx (by rw [stepsOf_0 w b xs ys hn]; rfl) (by rw [stepsOf_0 w b xs ys hn]; rfl)
theorem In_rng {x : Int} (h : rng x) : In x := ⟨by unfold rng at h; omega, by unfold rng at h; omega⟩
theorem mvL_In {byy : Int} {xs : List Int} {n : Nat} (hb : rng byy) (h : ∀ j, j < n → rng (xs.getD j 0)) : ∀ x ∈ mvL byy xs n, In x := by
  intro x hx
  obtain ⟨j, hj, rfl⟩ := List.mem_map.1 hx
  have h1 := h j (List.mem_range.1 hj)
  unfold rng at h1 hb
  exact ⟨by omega, by omega⟩
theorem tnL_In {xs : List Int} {n : Nat} (h : ∀ j, j < n → rng (xs.getD j 0)) : ∀ x ∈ tnL xs n, In x := by
  intro x hx
  obtain ⟨j, hj, rfl⟩ := List.mem_map.1 hx
  have h1 := h j (List.mem_range.1 hj)
  unfold rng at h1
  exact ⟨by omega, by omega⟩
end Go.Proofs.Ytafhlmpifdclaaa.shift
