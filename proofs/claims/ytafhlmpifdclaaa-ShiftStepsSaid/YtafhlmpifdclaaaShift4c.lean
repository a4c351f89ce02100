/- The loops and the whole runs of the law 'ShiftSteps' of layer 34. -/
import Derived.Test.YtafhlmpifdclaaaRows
import Derived.Test.YtafhlmpifdclaaaShift4p
namespace Go.Proofs.Ytafhlmpifdclaaa.shift
open Go.Dg (junk St Ex Ev Hint evCall evCallS evCode evCodeS evLoop cleanSt ue bodied noOver sbOf headOf tailOf bodyOf rAssign rBody lBody Flats flatOver Heap AObj SCall Law ofLaw Fix)
set_option linter.unusedVariables false
set_option linter.unusedSimpArgs false

/-! ### what is wanted -/
def TE4 (w b left : Int) (vx vy : Value) (lx p : Nat) (v12 v13 v14 v15 : Value) : List Value := [.int .i64 w, .int .i64 b, vx, vy, .int .i64 left] ++ (List.replicate 4 undef ++ ([.pointer (some ⟨p, 0, none⟩), .pointer (some ⟨p + 1, 0, none⟩), .pointer (some ⟨p + 2, 0, none⟩), v12, v13, v14, v15, undef, undef] ++
  (js 14 ++ ([.int .i64 lx, .int .i64 lx, .bool false] ++ js 51))))
def EN4 (w b left : Int) (vx vy : Value) (lx p n : Nat) (r : List AObj) (k A B : Int) (t : Bool) : St := ⟨TE4 w b left vx vy lx p (.int .i64 k) (.bool t) (.int .i64 A) (.int .i64 B), ⟨n, O4 left r⟩, []⟩
def EW4 (w b left : Int) (vx vy : Value) (lx : Nat) (r : List AObj) (k A B : Int) (t : Bool) (os : List (Int × Int × Int)) : St := ⟨TE4 w b left vx vy lx 2 (.int .i64 k) (.bool t) (.int .i64 A) (.int .i64 B), ⟨6, W4 left os r⟩, []⟩
def lastA (w : Nat) (b : Int) (xs ys : List Int) (N i : Nat) : Int := if isW w b xs ys N i = true then rr1 w xs ys (i - w) else 0
def lastB (w : Nat) (b : Int) (xs ys : List Int) (N i : Nat) : Int := if isW w b xs ys N i = true then rr1 w xs ys (i - w + w) else 0
section
variable (left : Int) (lx : Nat) (cx : Cp) (ly : Nat) (cy : Cp) (e1 e2 : Sh) (xs ys : List Int) (w : Nat) (b : Int)
abbrev rXY (e1 e2 : Sh) (xs ys : List Int) : List AObj := [oY ys e2, oX xs e1]
def HW (i : Nat) : St := match i with
  | 0 => N4a w b left (aX lx cx) (aY ly cy) lx 2 5 [oY ys e2, oX xs e1]
  | i + 1 => if wantL w b xs ys (min lx ly) (i + 1) = [] then N4b w b left (aX lx cx) (aY ly cy) lx 2 5 [oY ys e2, oX xs e1] (i + 1) (i : Int) (lastA w b xs ys (min lx ly) i) (lastB w b xs ys (min lx ly) i) (isW w b xs ys (min lx ly) i)
    else N4c w b left (aX lx cx) (aY ly cy) lx [oY ys e2, oX xs e1] (i + 1) (i : Int) (lastA w b xs ys (min lx ly) i) (lastB w b xs ys (min lx ly) i) (isW w b xs ys (min lx ly) i) (wantL w b xs ys (min lx ly) (i + 1))
theorem roundW (sa : StepArgs w b xs ys lx ly) (hlx : lx ≤ 200) (i : Nat) (hi : i < lx) : ∃ s', run4 over3 2 (HW left lx cx ly cy e1 e2 xs ys w b i) = some (.normal, s') ∧ cl4 2 s' = HW left lx cx ly cy e1 e2 xs ys w b (i + 1) := by
  have hlen := wantL_len w b xs ys (min lx ly) i
  cases hs : isW w b xs ys (min lx ly) i with
  | false =>
    have hv := stepV_no hs
    have hA : lastA w b xs ys (min lx ly) i = 0 := if_neg (by rw [hs]; simp)
    have hB : lastB w b xs ys (min lx ly) i = 0 := if_neg (by rw [hs]; simp)
    have hw : wantL w b xs ys (min lx ly) (i + 1) = wantL w b xs ys (min lx ly) i := by simp only [wantL]; rw [hs]; simp
    cases i with
    | zero =>
      obtain ⟨s', h1, h2⟩ := g4n0 left lx cx ly cy e1 e2 xs ys w b sa hlx hi hv
      refine ⟨s', h1, h2.trans ?_⟩
      show _ = if wantL w b xs ys (min lx ly) (0 + 1) = [] then _ else _
      rw [if_pos (by rw [hw]; rfl), hA, hB, hs]
      rfl
    | succ i =>
      by_cases ho : wantL w b xs ys (min lx ly) (i + 1) = []
      · obtain ⟨s', h1, h2⟩ := g4n1 left lx cx ly cy e1 e2 xs ys w b sa hlx (i + 1) (i : Int) (lastA w b xs ys (min lx ly) i) (lastB w b xs ys (min lx ly) i) (isW w b xs ys (min lx ly) i) hi hv
        refine ⟨s', ?_, h2.trans ?_⟩
        · show run4 over3 2 (if wantL w b xs ys (min lx ly) (i + 1) = [] then _ else _) = _
          rw [if_pos ho]; exact h1
        · show _ = if wantL w b xs ys (min lx ly) (i + 1 + 1) = [] then _ else _
          rw [hw, if_pos ho, hA, hB, hs]
      · obtain ⟨s', h1, h2⟩ := g4n2 left lx cx ly cy e1 e2 xs ys w b sa hlx (i + 1) (i : Int) (lastA w b xs ys (min lx ly) i) (lastB w b xs ys (min lx ly) i) (isW w b xs ys (min lx ly) i) (wantL w b xs ys (min lx ly) (i + 1)) hlen hi hv
        refine ⟨s', ?_, h2.trans ?_⟩
        · show run4 over3 2 (if wantL w b xs ys (min lx ly) (i + 1) = [] then _ else _) = _
          rw [if_neg ho]; exact h1
        · show _ = if wantL w b xs ys (min lx ly) (i + 1 + 1) = [] then _ else _
          rw [hw, if_neg ho, hA, hB, hs]
  | true =>
    have hv := stepV_yes hs
    have hA : lastA w b xs ys (min lx ly) i = rr1 w xs ys (i - w) := if_pos hs
    have hB : lastB w b xs ys (min lx ly) i = rr1 w xs ys (i - w + w) := if_pos hs
    have hw : wantL w b xs ys (min lx ly) (i + 1) = wantL w b xs ys (min lx ly) i ++ [((i : Int), rr1 w xs ys (i - w), rr1 w xs ys (i - w + w))] := by simp only [wantL]; rw [hs]; simp
    have hne : ¬ wantL w b xs ys (min lx ly) (i + 1) = [] := by rw [hw]; simp
    cases i with
    | zero =>
      unfold isW at hs
      rw [decide_eq_false (by have := sa.w0; omega)] at hs
      cases hs
    | succ i =>
      by_cases ho : wantL w b xs ys (min lx ly) (i + 1) = []
      · obtain ⟨s', h1, h2⟩ := g4y1 left lx cx ly cy e1 e2 xs ys w b sa hlx (i + 1) (i : Int) (lastA w b xs ys (min lx ly) i) (lastB w b xs ys (min lx ly) i) (isW w b xs ys (min lx ly) i) hi _ _ hv
        refine ⟨s', ?_, h2.trans ?_⟩
        · show run4 over3 2 (if wantL w b xs ys (min lx ly) (i + 1) = [] then _ else _) = _
          rw [if_pos ho]; exact h1
        · show _ = if wantL w b xs ys (min lx ly) (i + 1 + 1) = [] then _ else _
          rw [if_neg hne, hw, ho, hA, hB, hs]
          rfl
      · obtain ⟨s', h1, h2⟩ := g4y2 left lx cx ly cy e1 e2 xs ys w b sa hlx (i + 1) (i : Int) (lastA w b xs ys (min lx ly) i) (lastB w b xs ys (min lx ly) i) (isW w b xs ys (min lx ly) i) (wantL w b xs ys (min lx ly) (i + 1)) hlen hi _ _ hv
        refine ⟨s', ?_, h2.trans ?_⟩
        · show run4 over3 2 (if wantL w b xs ys (min lx ly) (i + 1) = [] then _ else _) = _
          rw [if_neg ho]; exact h1
        · show _ = if wantL w b xs ys (min lx ly) (i + 1 + 1) = [] then _ else _
          rw [if_neg hne, hw, hA, hB, hs]
theorem loopWn (sa : StepArgs w b xs ys lx ly) (hlx : lx ≤ 200) (i : Nat) (hi : lx = i + 1) (ho : wantL w b xs ys (min lx ly) lx = []) {s0 : St} (h0 : cl4 2 s0 = N4a w b left (aX lx cx) (aY ly cy) lx 2 5 [oY ys e2, oX xs e1]) :
    evLoop (run4 over3 2) (cl4 2) 1000 s0 = some (.exit 0, EN4 w b left (aX lx cx) (aY ly cy) lx 2 5 [oY ys e2, oX xs e1] (i : Int) (lastA w b xs ys (min lx ly) i) (lastB w b xs ys (min lx ly) i) (isW w b xs ys (min lx ly) i)) := by
  refine Dg.loop_run (S := HW left lx cx ly cy e1 e2 xs ys w b) (n := lx) (by simp) (fun j hj => roundW left lx cx ly cy e1 e2 xs ys w b sa hlx j hj) ?_ (by omega) h0
  have hh : HW left lx cx ly cy e1 e2 xs ys w b lx = N4b w b left (aX lx cx) (aY ly cy) lx 2 5 [oY ys e2, oX xs e1] lx (i : Int) (lastA w b xs ys (min lx ly) i) (lastB w b xs ys (min lx ly) i) (isW w b xs ys (min lx ly) i) := by
    generalize hN : min lx ly = N at ho ⊢
    unfold HW
    split
    · omega
    · rename_i i' 
      obtain rfl : i' = i := by omega
      rw [hN, if_pos ho]
  rw [hh]
  exact stop4 w b left (aX lx cx) (aY ly cy) lx 2 2 _ _ _ _ _ [] over3
theorem loopWc (sa : StepArgs w b xs ys lx ly) (hlx : lx ≤ 200) (i : Nat) (hi : lx = i + 1) (ho : ¬ wantL w b xs ys (min lx ly) lx = []) {s0 : St} (h0 : cl4 2 s0 = N4a w b left (aX lx cx) (aY ly cy) lx 2 5 [oY ys e2, oX xs e1]) :
    evLoop (run4 over3 2) (cl4 2) 1000 s0 = some (.exit 0, EW4 w b left (aX lx cx) (aY ly cy) lx [oY ys e2, oX xs e1] (i : Int) (lastA w b xs ys (min lx ly) i) (lastB w b xs ys (min lx ly) i) (isW w b xs ys (min lx ly) i) (wantL w b xs ys (min lx ly) lx)) := by
  refine Dg.loop_run (S := HW left lx cx ly cy e1 e2 xs ys w b) (n := lx) (by simp) (fun j hj => roundW left lx cx ly cy e1 e2 xs ys w b sa hlx j hj) ?_ (by omega) h0
  have hh : HW left lx cx ly cy e1 e2 xs ys w b lx = N4c w b left (aX lx cx) (aY ly cy) lx [oY ys e2, oX xs e1] lx (i : Int) (lastA w b xs ys (min lx ly) i) (lastB w b xs ys (min lx ly) i) (isW w b xs ys (min lx ly) i) (wantL w b xs ys (min lx ly) lx) := by
    generalize hN : min lx ly = N at ho ⊢
    unfold HW
    split
    · omega
    · rename_i i' 
      obtain rfl : i' = i := by omega
      rw [hN, if_neg ho]
  rw [hh]
  exact stop4 w b left (aX lx cx) (aY ly cy) lx 2 2 _ _ _ _ _ [] over3
end

/-! ### the steps -/
noncomputable def X4b (w lx : Nat) (cx : Cp) (ly : Nat) (cy : Cp) (e1 e2 : Sh) (b left : Int) (xs ys : List Int) (n : Nat) (k0 A0 B0 : Int) (t0 : Bool) (os : List (Int × Int × Int)) (i : Nat) (v : Int) (ps : List (Int × Int)) (k A B : Int) : St := { ts := [Value.func (Fn.yield 17) #[] #[], Value.pointer (some { block := 15, off := 0 }), Value.pointer (some { block := 16, off := 0 }), undef, Value.int IntKind.i64 (↑i : Int), junk, junk, junk, junk, Value.int IntKind.i64 (↑n : Int), Value.int IntKind.i64 (↑i : Int), Value.bool true, Value.int IntKind.i64 (↑i : Int), Value.func (Fn.yield 17) #[] #[], Value.slice (some { block := 0, off := 0, spot := cx.2 }) lx cx.fst, Value.int IntKind.i64 (↑i : Int), Value.pointer (some { block := 0, off := i }), Value.int IntKind.i64 (List.getD xs i 0), Value.slice (some { block := 1, off := 0, spot := cy.2 }) ly cy.fst, Value.int IntKind.i64 (↑i : Int), Value.pointer (some { block := 1, off := i }), Value.int IntKind.i64 (List.getD ys i 0), Value.agg #[Value.int IntKind.i64 (List.getD xs i 0), Value.int IntKind.i64 (List.getD ys i 0)], Value.bool false, Value.bool true, junk], H := { n := 20, objs := [AObj.cells (pc (addS w ps (List.getD xs i 0) (List.getD ys i 0))) 54 5 2, AObj.dead, AObj.loop { sb := 11, ts := [Value.func (Fn.yield 11) #[] #[], Value.pointer (some { block := 7, off := 0 }), Value.pointer (some { block := 8, off := 0 }), Value.pointer (some { block := 9, off := 0 }), Value.pointer (some { block := 10, off := 0 }), Value.pointer (some { block := 12, off := 0 }), Value.pointer (some { block := 14, off := 0 }), Value.int IntKind.i64 0, undef, undef, undef, junk, junk, junk, junk, junk, junk, junk, junk, junk, junk, junk, undef, junk, junk, junk, junk, junk, junk, junk, junk, junk, junk, junk, junk, junk, junk, junk, junk], params := #[22], assign := as22, body := bd22, state := LoopState.done, pending := some Code.ret }, AObj.cells [Value.slice (some { block := 1, off := 0, spot := cy.2 }) ly cy.fst] 22 0 1, AObj.cells [Value.slice (some { block := 0, off := 0, spot := cx.2 }) lx cx.fst] 22 0 1, AObj.cells [Value.pointer (some { block := 13, off := 0 })] 24 0 1, AObj.cells [Value.int IntKind.i64 (↑w : Int), Value.int IntKind.i64 b, Value.slice (some { block := 19, off := 0, spot := some 0 }) (List.length (addS w ps (List.getD xs i 0) (List.getD ys i 0))) (List.length (addS w ps (List.getD xs i 0) (List.getD ys i 0))), Value.int IntKind.u64 ((↑i : Int) + 1)] 51 0 1, AObj.cells [Value.func (Fn.yield 11) #[] #[]] 58 0 1, AObj.loop { sb := 18, ts := [Value.int IntKind.i64 (↑w : Int), Value.int IntKind.i64 b, Value.slice (some { block := 0, off := 0, spot := cx.2 }) lx cx.fst, Value.slice (some { block := 1, off := 0, spot := cy.2 }) ly cy.fst, Value.int IntKind.i64 left, undef, undef, undef, undef, Value.pointer (some { block := 2, off := 0 }), Value.pointer (some { block := 3, off := 0 }), Value.pointer (some { block := 4, off := 0 }), Value.int IntKind.i64 k0, Value.bool t0, Value.int IntKind.i64 A0, Value.int IntKind.i64 B0, Value.pointer (some { block := 6, off := 0 }), undef, junk, junk, junk, junk, junk, junk, junk, junk, junk, junk, junk, junk, junk, junk, junk, junk, junk, junk, junk, junk, junk, junk, junk, junk, junk, junk, junk, junk, junk, junk, junk, junk, junk, junk, junk, junk, junk, junk, junk, junk, junk, junk, junk, junk, junk, junk, junk, junk, junk, junk, junk, junk, junk, junk, junk, junk, junk, junk, junk, junk, junk, junk, junk, junk, junk, junk, junk, junk], params := #[61], assign := as4, body := bd4, state := LoopState.done, pending := some (Code.exit 2) }, AObj.cells [Value.slice (some { block := 1, off := 0, spot := cy.2 }) ly cy.fst] 22 0 1, AObj.cells [Value.slice (some { block := 0, off := 0, spot := cx.2 }) lx cx.fst] 22 0 1, AObj.cells [Value.int IntKind.i64 b] 2 4 1, AObj.cells [Value.int IntKind.i64 (↑w : Int)] 3 4 1, AObj.cells [Value.int IntKind.i64 1] 3 4 1, AObj.cells (tc os) 31 5 3, AObj.cells [Value.slice (some { block := 5, off := 0, spot := some 0 }) (List.length os) (List.length os)] 39 0 1, AObj.cells [Value.bool false] 4 4 1, AObj.cells [Value.int IntKind.i64 left] 3 4 1, AObj.cells (i64s ys) e2.fst (e2.snd.fst + 4) e2.snd.snd, AObj.cells (i64s xs) e1.fst (e1.snd.fst + 4) e1.snd.snd] }, log := [6, 11, 13, 17] }
noncomputable def X4c (w lx : Nat) (cx : Cp) (ly : Nat) (cy : Cp) (e1 e2 : Sh) (b left : Int) (xs ys : List Int) (n : Nat) (k0 A0 B0 : Int) (t0 : Bool) (os : List (Int × Int × Int)) (i : Nat) (v : Int) (ps : List (Int × Int)) (t : Nat) (k A B : Int) : St := { ts := [Value.func (Fn.yield 17) #[] #[], Value.pointer (some { block := 15, off := 0 }), Value.pointer (some { block := 16, off := 0 }), undef, Value.int IntKind.i64 (↑i : Int), junk, junk, junk, junk, Value.int IntKind.i64 (↑n : Int), Value.int IntKind.i64 (↑i : Int), Value.bool true, Value.int IntKind.i64 (↑i : Int), Value.func (Fn.yield 17) #[] #[], Value.slice (some { block := 0, off := 0, spot := cx.2 }) lx cx.fst, Value.int IntKind.i64 (↑i : Int), Value.pointer (some { block := 0, off := i }), Value.int IntKind.i64 (List.getD xs i 0), Value.slice (some { block := 1, off := 0, spot := cy.2 }) ly cy.fst, Value.int IntKind.i64 (↑i : Int), Value.pointer (some { block := 1, off := i }), Value.int IntKind.i64 (List.getD ys i 0), Value.agg #[Value.int IntKind.i64 (List.getD xs i 0), Value.int IntKind.i64 (List.getD ys i 0)], Value.bool false, Value.bool true, junk], H := { n := 20, objs := [AObj.cells (pc (addS w ps (List.getD xs i 0) (List.getD ys i 0))) 54 5 2, AObj.dead, AObj.loop { sb := 11, ts := [Value.func (Fn.yield 11) #[] #[], Value.pointer (some { block := 7, off := 0 }), Value.pointer (some { block := 8, off := 0 }), Value.pointer (some { block := 9, off := 0 }), Value.pointer (some { block := 10, off := 0 }), Value.pointer (some { block := 12, off := 0 }), Value.pointer (some { block := 14, off := 0 }), Value.int IntKind.i64 0, undef, undef, undef, junk, junk, junk, junk, junk, junk, junk, junk, junk, junk, junk, undef, junk, junk, junk, junk, junk, junk, junk, junk, junk, junk, junk, junk, junk, junk, junk, junk], params := #[22], assign := as22, body := bd22, state := LoopState.done, pending := some Code.ret }, AObj.cells [Value.slice (some { block := 1, off := 0, spot := cy.2 }) ly cy.fst] 22 0 1, AObj.cells [Value.slice (some { block := 0, off := 0, spot := cx.2 }) lx cx.fst] 22 0 1, AObj.cells [Value.pointer (some { block := 13, off := 0 })] 24 0 1, AObj.cells [Value.int IntKind.i64 (↑w : Int), Value.int IntKind.i64 b, Value.slice (some { block := 19, off := 0, spot := some 0 }) (List.length (addS w ps (List.getD xs i 0) (List.getD ys i 0))) (List.length (addS w ps (List.getD xs i 0) (List.getD ys i 0))), Value.int IntKind.u64 ((↑i : Int) + 1)] 51 0 1, AObj.cells [Value.func (Fn.yield 11) #[] #[]] 58 0 1, AObj.loop { sb := 18, ts := [Value.int IntKind.i64 (↑w : Int), Value.int IntKind.i64 b, Value.slice (some { block := 0, off := 0, spot := cx.2 }) lx cx.fst, Value.slice (some { block := 1, off := 0, spot := cy.2 }) ly cy.fst, Value.int IntKind.i64 left, undef, undef, undef, undef, Value.pointer (some { block := 2, off := 0 }), Value.pointer (some { block := 3, off := 0 }), Value.pointer (some { block := 4, off := 0 }), Value.int IntKind.i64 k0, Value.bool t0, Value.int IntKind.i64 A0, Value.int IntKind.i64 B0, Value.pointer (some { block := 6, off := 0 }), undef, junk, junk, junk, junk, junk, junk, junk, junk, junk, junk, junk, junk, junk, junk, junk, junk, junk, junk, junk, junk, junk, junk, junk, junk, junk, junk, junk, junk, junk, junk, junk, junk, junk, junk, junk, junk, junk, junk, junk, junk, junk, junk, junk, junk, junk, junk, junk, junk, junk, junk, junk, junk, junk, junk, junk, junk, junk, junk, junk, junk, junk, junk, junk, junk, junk, junk, junk, junk], params := #[61], assign := as4, body := bd4, state := LoopState.done, pending := some (Code.exit 2) }, AObj.cells [Value.slice (some { block := 1, off := 0, spot := cy.2 }) ly cy.fst] 22 0 1, AObj.cells [Value.slice (some { block := 0, off := 0, spot := cx.2 }) lx cx.fst] 22 0 1, AObj.cells [Value.int IntKind.i64 b] 2 4 1, AObj.cells [Value.int IntKind.i64 (↑w : Int)] 3 4 1, AObj.cells [Value.int IntKind.i64 ((↑t : Int) + 1)] 3 4 1, AObj.cells (tc os) 31 5 3, AObj.cells [Value.slice (some { block := 5, off := 0, spot := some 0 }) (List.length os) (List.length os)] 39 0 1, AObj.cells [Value.bool false] 4 4 1, AObj.cells [Value.int IntKind.i64 left] 3 4 1, AObj.cells (i64s ys) e2.fst (e2.snd.fst + 4) e2.snd.snd, AObj.cells (i64s xs) e1.fst (e1.snd.fst + 4) e1.snd.snd] }, log := [6, 11, 13, 17] }
def TE24 (p n : Nat) (v : Value) : List Value := [.func (.yield (p + 11)) #[] #[], .pointer (some ⟨p + 9, 0, none⟩), .pointer (some ⟨p + 10, 0, none⟩), undef, v] ++ (js 4 ++ ([.int .i64 n, .int .i64 n, .bool false] ++ js 14))
def told? (w : Nat) (b : Int) (xs ys : List Int) (left : Int) (i : Nat) : Prop := isStep w b (psAt w xs ys (i + 1)) = true ∧ left ≤ ((outs w b xs ys i).length : Int) + 1
instance (w : Nat) (b : Int) (xs ys : List Int) (left : Int) (i : Nat) : Decidable (told? w b xs ys left i) := by unfold told?; infer_instance
section
variable (w lx : Nat) (cx : Cp) (ly : Nat) (cy : Cp) (e1 e2 : Sh) (b left : Int) (xs ys : List Int) (n : Nat) (k0 A0 B0 : Int) (t0 : Bool)
noncomputable def HN (i : Nat) : St := match i with
  | 0 => S4a w lx cx ly cy b left 5 n (.int .i64 k0) (.bool t0) (.int .i64 A0) (.int .i64 B0) (O4 left [oY ys e2, oX xs e1])
  | i + 1 => S4b w lx cx ly cy b left 5 n (i + 1) (i : Int) (psAt w xs ys (i + 1)) (.int .i64 k0) (.bool t0) (.int .i64 A0) (.int .i64 B0) (O4 left [oY ys e2, oX xs e1])
noncomputable def ENS (i : Nat) : St := match i with
  | 0 => ⟨TE24 5 0 undef, (S4a w lx cx ly cy b left 5 0 (.int .i64 k0) (.bool t0) (.int .i64 A0) (.int .i64 B0) (O4 left [oY ys e2, oX xs e1])).H, []⟩
  | i + 1 => ⟨TE24 5 (i + 1) (.int .i64 (i : Int)), (S4b w lx cx ly cy b left 5 (i + 1) (i + 1) (i : Int) (psAt w xs ys (i + 1)) (.int .i64 k0) (.bool t0) (.int .i64 A0) (.int .i64 B0) (O4 left [oY ys e2, oX xs e1])).H, [12, 16]⟩
theorem all_In (hx : ∀ x ∈ xs, In x) (i : Nat) : In (xs.getD i 0) := by
  rw [List.getD_eq_getElem?_getD]
  cases hi : xs[i]? with
  | none => unfold In; simp
  | some p => exact hx p (List.mem_of_getElem? hi)
theorem ps1 (hw : 0 < w) : psAt w xs ys (0 + 1) = [(xs.getD 0 0, ys.getD 0 0)] := by
  show addS w [] (xs.getD 0 0) (ys.getD 0 0) = _
  unfold addS
  rw [if_neg (by simp; omega)]
  rfl
theorem det_at (hw : 0 < w) (hw1 : w ≤ 64) (hb : 0 ≤ b ∧ b < 9223372036854775808) (hx : ∀ x ∈ xs, In x) (i : Nat) (hi : i ≤ 200) : Det w b (i : Int) (psAt w xs ys i) := by
  have hlen := psAt_len hw xs ys i
  exact ⟨hw, hw1, hb, by omega, by omega, by omega, psAt_ok (all_In xs hx) _⟩
theorem loopN4 (hw : 0 < w) (hw1 : w ≤ 64) (hb : 0 ≤ b ∧ b < 9223372036854775808) (hn : n ≤ 200) (hlx : n ≤ lx) (hly : n ≤ ly) (hcx : lx ≤ cx.1) (hcy : ly ≤ cy.1) (hxl : xs.length = cx.1) (hyl : ys.length = cy.1) (hx : ∀ x ∈ xs, In x) (ho : outs w b xs ys n = [])
    {s0 : St} (h0 : cl4s 17 s0 = S4a w lx cx ly cy b left 5 n (.int .i64 k0) (.bool t0) (.int .i64 A0) (.int .i64 B0) (O4 left [oY ys e2, oX xs e1])) :
    evLoop (run4s 17) (cl4s 17) 1000 s0 = some (.exit 0, ENS w lx cx ly cy e1 e2 b left xs ys k0 A0 B0 t0 n) := by
  refine Dg.loop_run (S := HN w lx cx ly cy e1 e2 b left xs ys n k0 A0 B0 t0) (n := n) (by simp) (fun i hi => ?_) ?_ (by omega) h0
  · have hs : isStep w b (psAt w xs ys (i + 1)) = false := by
      cases hs : isStep w b (psAt w xs ys (i + 1)) with
      | false => rfl
      | true => have := (outs_next hi hs).1; rw [ho] at this; simp at this
    cases i with
    | zero =>
      obtain ⟨s', h1, h2⟩ := r4na w lx cx ly cy e1 e2 b left xs ys n k0 A0 B0 t0 hi hlx hly hcx hcy hxl hyl hn (all_In xs hx 0) ⟨hw, hw1, hb, by simp, by omega, by simp, by simp⟩
      refine ⟨s', h1, h2.trans ?_⟩
      show _ = S4b w lx cx ly cy b left 5 n (0 + 1) ((0 : Nat) : Int) (psAt w xs ys (0 + 1)) _ _ _ _ _
      rw [ps1 w xs ys hw]
      rfl
    | succ i =>
      have hr : addR w b (((i + 1 : Nat) : Int) + 1) (addS w (psAt w xs ys (i + 1)) (xs.getD (i + 1) 0) (ys.getD (i + 1) 0)) = zeroR := if_neg (by show ¬ isStep w b (psAt w xs ys (i + 1 + 1)) = true; rw [hs]; simp)
      exact r4nbn w lx cx ly cy e1 e2 b left xs ys n k0 A0 B0 t0 (i + 1) (i : Int) (psAt w xs ys (i + 1)) hi hlx hly hcx hcy hxl hyl hn (all_In xs hx _) (det_at w b xs ys hw hw1 hb hx (i + 1) (by omega)) (by rw [psAt_len hw]; omega) hr
  · cases n with
    | zero => exact stop4s 5 0 undef _ [] 17
    | succ i => exact stop4s 5 (i + 1) _ _ [12, 16] 17
variable (os : List (Int × Int × Int))
noncomputable def HS (i : Nat) : St := match i with
  | 0 => S4a w lx cx ly cy b left 6 n (.int .i64 k0) (.bool t0) (.int .i64 A0) (.int .i64 B0) (W4 left os [oY ys e2, oX xs e1])
  | i + 1 => if outs w b xs ys (i + 1) = [] then S4b w lx cx ly cy b left 6 n (i + 1) (i : Int) (psAt w xs ys (i + 1)) (.int .i64 k0) (.bool t0) (.int .i64 A0) (.int .i64 B0) (W4 left os [oY ys e2, oX xs e1])
    else S4c w lx cx ly cy b left n (i + 1) (i : Int) (psAt w xs ys (i + 1)) (outs w b xs ys (i + 1)).length (.int .i64 k0) (.bool t0) (.int .i64 A0) (.int .i64 B0) (W4 left os [oY ys e2, oX xs e1])
theorem roundS (hos : os = outs w b xs ys n) (hw : 0 < w) (hw1 : w ≤ 64) (hb : 0 ≤ b ∧ b < 9223372036854775808) (hn : n ≤ 200) (hlx : n ≤ lx) (hly : n ≤ ly) (hcx : lx ≤ cx.1) (hcy : ly ≤ cy.1) (hxl : xs.length = cx.1) (hyl : ys.length = cy.1) (hx : ∀ x ∈ xs, In x) (i : Nat) (hi : i < n) (hno : ¬ told? w b xs ys left i) :
    ∃ s', run4s 18 (HS w lx cx ly cy e1 e2 b left xs ys n k0 A0 B0 t0 os i) = some (.normal, s') ∧ cl4s 18 s' = HS w lx cx ly cy e1 e2 b left xs ys n k0 A0 B0 t0 os (i + 1) := by
  have hol := outs_len w b xs ys n
  cases i with
  | zero =>
    have ho : outs w b xs ys (0 + 1) = [] := outs_few hw _ (by omega)
    obtain ⟨s', h1, h2⟩ := r4wa w lx cx ly cy e1 e2 b left xs ys n k0 A0 B0 t0 os hi hlx hly hcx hcy hxl hyl hn (all_In xs hx 0) ⟨hw, hw1, hb, by simp, by omega, by simp, by simp⟩
    refine ⟨s', h1, h2.trans ?_⟩
    show _ = if outs w b xs ys (0 + 1) = [] then S4b w lx cx ly cy b left 6 n (0 + 1) ((0 : Nat) : Int) (psAt w xs ys (0 + 1)) _ _ _ _ _ else _
    rw [if_pos ho, ps1 w xs ys hw]
    rfl
  | succ i =>
    have det := det_at w b xs ys hw hw1 hb hx (i + 1) (by omega)
    have hp0 : 0 < (psAt w xs ys (i + 1)).length := by rw [psAt_len hw]; omega
    cases hs : isStep w b (psAt w xs ys (i + 1 + 1)) with
    | false =>
      have hr : addR w b (((i + 1 : Nat) : Int) + 1) (addS w (psAt w xs ys (i + 1)) (xs.getD (i + 1) 0) (ys.getD (i + 1) 0)) = zeroR := if_neg (by show ¬ isStep w b (psAt w xs ys (i + 1 + 1)) = true; rw [hs]; simp)
      have hoo : outs w b xs ys (i + 1 + 1) = outs w b xs ys (i + 1) := by
        show outs w b xs ys (i + 1) ++ _ = _
        rw [hs]; simp
      by_cases ho : outs w b xs ys (i + 1) = []
      · obtain ⟨s', h1, h2⟩ := r4wbn w lx cx ly cy e1 e2 b left xs ys n k0 A0 B0 t0 os (i + 1) (i : Int) (psAt w xs ys (i + 1)) hi hlx hly hcx hcy hxl hyl hn (all_In xs hx _) det hp0 hr
        refine ⟨s', ?_, h2.trans ?_⟩
        · show run4s 18 (if outs w b xs ys (i + 1) = [] then _ else _) = _
          rw [if_pos ho]; exact h1
        · show _ = if outs w b xs ys (i + 1 + 1) = [] then _ else _
          rw [hoo, if_pos ho]
          rfl
      · obtain ⟨s', h1, h2⟩ := r4wcn w lx cx ly cy e1 e2 b left xs ys n k0 A0 B0 t0 os (i + 1) (i : Int) (psAt w xs ys (i + 1)) (outs w b xs ys (i + 1)).length hi hlx hly hcx hcy hxl hyl hn (all_In xs hx _) det hp0 hr
        refine ⟨s', ?_, h2.trans ?_⟩
        · show run4s 18 (if outs w b xs ys (i + 1) = [] then _ else _) = _
          rw [if_neg ho]; exact h1
        · show _ = if outs w b xs ys (i + 1 + 1) = [] then _ else _
          rw [hoo, if_neg ho]
          rfl
    | true =>
      have hr : addR w b (((i + 1 : Nat) : Int) + 1) (addS w (psAt w xs ys (i + 1)) (xs.getD (i + 1) 0) (ys.getD (i + 1) 0)) = _ := if_pos hs
      have hoo : outs w b xs ys (i + 1 + 1) = outs w b xs ys (i + 1) ++ [(((i + 1 : Nat) : Int) + 1 - (w : Int), r1 w (psAt w xs ys (i + 1 + 1)), r2 w (psAt w xs ys (i + 1 + 1)))] := by
        show outs w b xs ys (i + 1) ++ _ = _
        rw [hs]; simp
      have hne : ¬ outs w b xs ys (i + 1 + 1) = [] := by rw [hoo]; simp
      obtain ⟨hlt, hget⟩ := outs_next hi hs
      rw [← hos] at hlt hget
      have hleft : ((outs w b xs ys (i + 1)).length : Int) + 1 < left := by
        rcases Int.lt_or_le (((outs w b xs ys (i + 1)).length : Int) + 1) left with h0 | h0
        · exact h0
        · exact absurd ⟨hs, h0⟩ hno
      have hlen : (outs w b xs ys (i + 1 + 1)).length = (outs w b xs ys (i + 1)).length + 1 := by rw [hoo]; simp
      have hos9 : os.length ≤ 900 := by rw [hos]; omega
      by_cases ho : outs w b xs ys (i + 1) = []
      · rw [ho] at hlt hget hleft hlen
        obtain ⟨s', h1, h2⟩ := r4wbt w lx cx ly cy e1 e2 b left xs ys n k0 A0 B0 t0 os (i + 1) (i : Int) (psAt w xs ys (i + 1)) _ _ _ hlt hget hos9 hleft hi hlx hly hcx hcy hxl hyl hn (all_In xs hx _) det hp0 hr
        refine ⟨s', ?_, h2.trans ?_⟩
        · show run4s 18 (if outs w b xs ys (i + 1) = [] then _ else _) = _
          rw [if_pos ho]; exact h1
        · show _ = if outs w b xs ys (i + 1 + 1) = [] then _ else _
          rw [if_neg hne, hlen]
          rfl
      · obtain ⟨s', h1, h2⟩ := r4wct w lx cx ly cy e1 e2 b left xs ys n k0 A0 B0 t0 os (i + 1) (i : Int) (psAt w xs ys (i + 1)) (outs w b xs ys (i + 1)).length _ _ _ hlt hget hos9 hleft hi hlx hly hcx hcy hxl hyl hn (all_In xs hx _) det hp0 hr
        refine ⟨s', ?_, h2.trans ?_⟩
        · show run4s 18 (if outs w b xs ys (i + 1) = [] then _ else _) = _
          rw [if_neg ho]; exact h1
        · show _ = if outs w b xs ys (i + 1 + 1) = [] then _ else _
          rw [if_neg hne, hlen]
          rfl
noncomputable def EWS (i t : Nat) : St := ⟨TE24 6 (i + 1) (.int .i64 (i : Int)), (S4c w lx cx ly cy b left (i + 1) (i + 1) (i : Int) (psAt w xs ys (i + 1)) t (.int .i64 k0) (.bool t0) (.int .i64 A0) (.int .i64 B0) (W4 left os [oY ys e2, oX xs e1])).H, [6, 11, 13, 17]⟩
end
section
variable (w lx : Nat) (cx : Cp) (ly : Nat) (cy : Cp) (e1 e2 : Sh) (b left : Int) (xs ys : List Int) (n : Nat) (k0 A0 B0 : Int) (t0 : Bool) (os : List (Int × Int × Int)) (hos : os = outs w b xs ys n)
  (hw : 0 < w) (hw1 : w ≤ 64) (hb : 0 ≤ b ∧ b < 9223372036854775808) (hn : n ≤ 200) (hlx : n ≤ lx) (hly : n ≤ ly) (hcx : lx ≤ cx.1) (hcy : ly ≤ cy.1) (hxl : xs.length = cx.1) (hyl : ys.length = cy.1) (hx : ∀ x ∈ xs, In x)
include hos hw hw1 hb hn hlx hly hcx hcy hxl hyl hx
/-- All steps are gone over. -/
theorem loopS_end (i : Nat) (hi : n = i + 1) (hne : ¬ os = []) (hno : ∀ j, j < n → ¬ told? w b xs ys left j) {s0 : St} (h0 : cl4s 18 s0 = S4a w lx cx ly cy b left 6 n (.int .i64 k0) (.bool t0) (.int .i64 A0) (.int .i64 B0) (W4 left os [oY ys e2, oX xs e1])) :
    evLoop (run4s 18) (cl4s 18) 1000 s0 = some (.exit 0, EWS w lx cx ly cy e1 e2 b left xs ys k0 A0 B0 t0 os i os.length) := by
  refine Dg.loop_run (S := HS w lx cx ly cy e1 e2 b left xs ys n k0 A0 B0 t0 os) (n := n) (by simp) (fun j hj => roundS w lx cx ly cy e1 e2 b left xs ys n k0 A0 B0 t0 os hos hw hw1 hb hn hlx hly hcx hcy hxl hyl hx j hj (hno j hj)) ?_ (by omega) h0
  subst hi
  show run4s 18 (if outs w b xs ys (i + 1) = [] then _ else _) = _
  rw [← hos, if_neg hne]
  exact stop4s 6 (i + 1) _ _ [6, 11, 13, 17] 18
/-- It is left at the first step. -/
theorem loopS_b (j : Nat) (hj : j + 1 < n) (ht : told? w b xs ys left (j + 1)) (hno : ∀ i, i < j + 1 → ¬ told? w b xs ys left i) (ho : outs w b xs ys (j + 1) = []) {s0 : St} (h0 : cl4s 18 s0 = S4a w lx cx ly cy b left 6 n (.int .i64 k0) (.bool t0) (.int .i64 A0) (.int .i64 B0) (W4 left os [oY ys e2, oX xs e1])) :
    evLoop (run4s 18) (cl4s 18) 1000 s0 = some (.ret, X4b w lx cx ly cy e1 e2 b left xs ys n k0 A0 B0 t0 os (j + 1) (j : Int) (psAt w xs ys (j + 1)) (((j + 1 : Nat) : Int) + 1 - (w : Int)) (r1 w (psAt w xs ys (j + 1 + 1))) (r2 w (psAt w xs ys (j + 1 + 1)))) := by
  refine Dg.loop_run (S := HS w lx cx ly cy e1 e2 b left xs ys n k0 A0 B0 t0 os) (n := j + 1) (by simp) (fun i hi => roundS w lx cx ly cy e1 e2 b left xs ys n k0 A0 B0 t0 os hos hw hw1 hb hn hlx hly hcx hcy hxl hyl hx i (by omega) (hno i hi)) ?_ (by omega) h0
  have hol := outs_len w b xs ys n
  obtain ⟨hlt, hget⟩ := outs_next hj ht.1
  rw [← hos, ho] at hlt hget
  have hleft := ht.2
  rw [ho] at hleft
  show run4s 18 (if outs w b xs ys (j + 1) = [] then _ else _) = _
  rw [if_pos ho]
  exact r4wbx w lx cx ly cy e1 e2 b left xs ys n k0 A0 B0 t0 os (j + 1) (j : Int) (psAt w xs ys (j + 1)) _ _ _ hlt hget (by rw [hos]; omega) hleft hj hlx hly hcx hcy hxl hyl hn (all_In xs hx _) (det_at w b xs ys hw hw1 hb hx (j + 1) (by omega)) (by rw [psAt_len hw]; omega) (if_pos ht.1)
/-- It is left at a later one. -/
theorem loopS_c (j : Nat) (hj : j + 1 < n) (ht : told? w b xs ys left (j + 1)) (hno : ∀ i, i < j + 1 → ¬ told? w b xs ys left i) (ho : ¬ outs w b xs ys (j + 1) = []) {s0 : St} (h0 : cl4s 18 s0 = S4a w lx cx ly cy b left 6 n (.int .i64 k0) (.bool t0) (.int .i64 A0) (.int .i64 B0) (W4 left os [oY ys e2, oX xs e1])) :
    evLoop (run4s 18) (cl4s 18) 1000 s0 = some (.ret, X4c w lx cx ly cy e1 e2 b left xs ys n k0 A0 B0 t0 os (j + 1) (j : Int) (psAt w xs ys (j + 1)) (outs w b xs ys (j + 1)).length (((j + 1 : Nat) : Int) + 1 - (w : Int)) (r1 w (psAt w xs ys (j + 1 + 1))) (r2 w (psAt w xs ys (j + 1 + 1)))) := by
  refine Dg.loop_run (S := HS w lx cx ly cy e1 e2 b left xs ys n k0 A0 B0 t0 os) (n := j + 1) (by simp) (fun i hi => roundS w lx cx ly cy e1 e2 b left xs ys n k0 A0 B0 t0 os hos hw hw1 hb hn hlx hly hcx hcy hxl hyl hx i (by omega) (hno i hi)) ?_ (by omega) h0
  have hol := outs_len w b xs ys n
  obtain ⟨hlt, hget⟩ := outs_next hj ht.1
  rw [← hos] at hlt hget
  show run4s 18 (if outs w b xs ys (j + 1) = [] then _ else _) = _
  rw [if_neg ho]
  exact r4wcx w lx cx ly cy e1 e2 b left xs ys n k0 A0 B0 t0 os (j + 1) (j : Int) (psAt w xs ys (j + 1)) _ _ _ _ hlt hget (by rw [hos]; omega) ht.2 hj hlx hly hcx hcy hxl hyl hn (all_In xs hx _) (det_at w b xs ys hw hw1 hb hx (j + 1) (by omega)) (by rw [psAt_len hw]; omega) (if_pos ht.1)
end
end Go.Proofs.Ytafhlmpifdclaaa.shift
