/- What 'all' comes to, at every case of its arguments: for the laws of layer 34. -/
import Derived.Test.YtafhlmpifdclaaaRows
import Derived.Test.YtafhlmpifdclaaaShift16
namespace Go.Proofs.Ytafhlmpifdclaaa.shift
open Go.Dg (junk St Ex Ev Hint evCall evCallS evCode evCodeS evLoop cleanSt ue bodied noOver sbOf headOf tailOf bodyOf rAssign rBody lBody Flats flatOver Heap AObj SCall Law ofLaw)
set_option linter.unusedVariables false
set_option linter.unusedSimpArgs false

/-- The steps that are told at the first i samples. -/
def outs (w : Nat) (b : Int) (xs ys : List Int) : Nat → List (Int × Int × Int)
  | 0 => []
  | i + 1 => outs w b xs ys i ++ (if isStep w b (psAt w xs ys (i + 1)) = true then [(((i : Nat) : Int) + 1 - (w : Int), r1 w (psAt w xs ys (i + 1)), r2 w (psAt w xs ys (i + 1)))] else [])
theorem outs_len (w : Nat) (b : Int) (xs ys : List Int) : ∀ i, (outs w b xs ys i).length ≤ i := by
  intro i
  induction i with
  | zero => simp [outs]
  | succ i ih =>
    simp only [outs, List.length_append]
    split <;> simp <;> omega
section
variable (w lx : Nat) (cx : Cp) (ly : Nat) (cy : Cp) (e1 e2 : Sh) (b : Int) (xs ys : List Int)
noncomputable def B16 (n : Nat) : St := ⟨[.func (.yield 13) #[] #[], .pointer (some ⟨11, 0, none⟩), .pointer (some ⟨12, 0, none⟩), undef, undef, aX lx cx, .int .i64 lx, aY ly cy, .int .i64 ly, .int .i64 n, .int .i64 0] ++ List.replicate 15 undef,
  ⟨14, Old w lx cx ly cy e1 e2 b xs ys (D w b (.slice none 0 0) 0) (.cells [.slice none 0 0] 39 0 1)⟩, []⟩
def TE (n : Nat) (v : Value) : List Value := [.func (.yield 13) #[] #[], .pointer (some ⟨11, 0, none⟩), .pointer (some ⟨12, 0, none⟩), undef, v] ++ (js 4 ++ ([.int .i64 n, .int .i64 n, .bool false] ++ js 14))
noncomputable def Hd16 (n : Nat) : Nat → St
  | 0 => S16a w lx cx ly cy e1 e2 b xs ys n
  | i + 1 => if outs w b xs ys (i + 1) = [] then S16b w lx cx ly cy e1 e2 b xs ys n (i + 1) (i : Int) (psAt w xs ys (i + 1)) else S16c w lx cx ly cy e1 e2 b xs ys n (i + 1) (i : Int) (psAt w xs ys (i + 1)) (outs w b xs ys (i + 1))
theorem round16 (n : Nat) (hw : 0 < w) (hw1 : w ≤ 64) (hb : 0 ≤ b ∧ b < 9223372036854775808) (hn : n ≤ 200) (hlx : n ≤ lx) (hly : n ≤ ly) (hcx : lx ≤ cx.1) (hcy : ly ≤ cy.1) (hxl : xs.length = cx.1) (hyl : ys.length = cy.1) (hx : ∀ x ∈ xs, In x) (i : Nat) (hi : i < n) :
    ∃ s', run16 (Hd16 w lx cx ly cy e1 e2 b xs ys n i) = some (.normal, s') ∧ cl16 s' = Hd16 w lx cx ly cy e1 e2 b xs ys n (i + 1) := by
  have hx' : ∀ i, In (xs.getD i 0) := by
    intro i
    rw [List.getD_eq_getElem?_getD]
    cases hi : xs[i]? with
    | none => unfold In; simp
    | some p => exact hx p (List.mem_of_getElem? hi)
  cases i with
  | zero =>
    have det0 : Det w b 0 [] := ⟨hw, hw1, hb, by simp, by omega, by simp, by simp⟩
    have hp : psAt w xs ys (0 + 1) = [(xs.getD 0 0, ys.getD 0 0)] := by
      show addS w [] (xs.getD 0 0) (ys.getD 0 0) = _
      unfold addS
      rw [if_neg (by simp; omega)]
      rfl
    have hs : isStep w b (psAt w xs ys (0 + 1)) = false := by
      rw [hp]; unfold isStep; rw [decide_eq_false (by simp; omega)]; rfl
    have ho : outs w b xs ys (0 + 1) = [] := by simp only [outs, hs]; rfl
    obtain ⟨s', h1, h2⟩ := r16a w lx cx ly cy e1 e2 n b xs ys hi hlx hly hcx hcy hxl hyl (hx' 0) det0
    refine ⟨s', h1, h2.trans ?_⟩
    show _ = if outs w b xs ys (0 + 1) = [] then _ else _
    rw [if_pos ho, hp]
    rfl
  | succ i =>
    have hlen := psAt_len hw xs ys (i + 1)
    have h0 : 0 < (psAt w xs ys (i + 1)).length := by omega
    have det : Det w b ((i + 1 : Nat) : Int) (psAt w xs ys (i + 1)) := ⟨hw, hw1, hb, by omega, by omega, by omega, psAt_ok hx' _⟩
    have hol := outs_len w b xs ys (i + 1)
    cases hs : isStep w b (psAt w xs ys (i + 1 + 1)) with
    | false =>
      have hr : addR w b (((i + 1 : Nat) : Int) + 1) (addS w (psAt w xs ys (i + 1)) (xs.getD (i + 1) 0) (ys.getD (i + 1) 0)) = zeroR := if_neg (by show ¬ isStep w b (psAt w xs ys (i + 1 + 1)) = true; rw [hs]; simp)
      have hoo : outs w b xs ys (i + 1 + 1) = outs w b xs ys (i + 1) := by
        show outs w b xs ys (i + 1) ++ _ = _
        rw [hs]; simp
      by_cases ho : outs w b xs ys (i + 1) = []
      · obtain ⟨s', h1, h2⟩ := r16bn w lx cx ly cy e1 e2 n (i + 1) b (i : Int) xs ys (psAt w xs ys (i + 1)) hi hlx hly hcx hcy hxl hyl hn (hx' _) det h0 hr
        refine ⟨s', ?_, h2.trans ?_⟩
        · show run16 (if outs w b xs ys (i + 1) = [] then _ else _) = _
          rw [if_pos ho]; exact h1
        · show _ = if outs w b xs ys (i + 1 + 1) = [] then _ else _
          rw [hoo, if_pos ho]
          rfl
      · obtain ⟨s', h1, h2⟩ := r16cn w lx cx ly cy e1 e2 n (i + 1) b (i : Int) xs ys (psAt w xs ys (i + 1)) (outs w b xs ys (i + 1)) hol hi hlx hly hcx hcy hxl hyl hn (hx' _) det h0 hr
        refine ⟨s', ?_, h2.trans ?_⟩
        · show run16 (if outs w b xs ys (i + 1) = [] then _ else _) = _
          rw [if_neg ho]; exact h1
        · show _ = if outs w b xs ys (i + 1 + 1) = [] then _ else _
          rw [hoo, if_neg ho]
          rfl
    | true =>
      have hr : addR w b (((i + 1 : Nat) : Int) + 1) (addS w (psAt w xs ys (i + 1)) (xs.getD (i + 1) 0) (ys.getD (i + 1) 0)) = _ := if_pos hs
      have hoo : outs w b xs ys (i + 1 + 1) = outs w b xs ys (i + 1) ++ [(((i + 1 : Nat) : Int) + 1 - (w : Int), r1 w (psAt w xs ys (i + 1 + 1)), r2 w (psAt w xs ys (i + 1 + 1)))] := by
        show outs w b xs ys (i + 1) ++ _ = _
        rw [hs]; simp
      have hne : ¬ outs w b xs ys (i + 1 + 1) = [] := by rw [hoo]; simp
      by_cases ho : outs w b xs ys (i + 1) = []
      · obtain ⟨s', h1, h2⟩ := r16bt w lx cx ly cy e1 e2 n (i + 1) b (i : Int) xs ys (psAt w xs ys (i + 1)) _ _ _ hi hlx hly hcx hcy hxl hyl hn (hx' _) det h0 hr
        refine ⟨s', ?_, h2.trans ?_⟩
        · show run16 (if outs w b xs ys (i + 1) = [] then _ else _) = _
          rw [if_pos ho]; exact h1
        · show _ = if outs w b xs ys (i + 1 + 1) = [] then _ else _
          rw [if_neg hne, hoo, ho]
          rfl
      · obtain ⟨s', h1, h2⟩ := r16ct w lx cx ly cy e1 e2 n (i + 1) b (i : Int) xs ys (psAt w xs ys (i + 1)) _ _ _ (outs w b xs ys (i + 1)) hol hi hlx hly hcx hcy hxl hyl hn (hx' _) det h0 hr
        refine ⟨s', ?_, h2.trans ?_⟩
        · show run16 (if outs w b xs ys (i + 1) = [] then _ else _) = _
          rw [if_neg ho]; exact h1
        · show _ = if outs w b xs ys (i + 1 + 1) = [] then _ else _
          rw [if_neg hne, hoo]
          rfl
end
--< stop16
theorem stop16 (n : Nat) (v : Value) (H : Heap) (log : List Nat) :
    run16 ({ ts := T16 n n v, H := H, log := log }) = some (Ex.exit 0, ({ ts := [Value.func (Fn.yield 13) #[] #[], Value.pointer (some { block := 11, off := 0 }), Value.pointer (some { block := 12, off := 0 }), undef, v, junk, junk, junk, junk, Value.int IntKind.i64 (↑n : Int), Value.int IntKind.i64 (↑n : Int), Value.bool false, junk, junk, junk, junk, junk, junk, junk, junk, junk, junk, junk, junk, junk, junk], H := H, log := log } : St)) :=
  Dg.evCode_hint (f := 24) (hs' := []) (hs := [Hint.val 24 11 (Value.bool false)])
    [Value.bool (decide ((↑n : Int) < (↑n : Int))) = Value.bool false] (by kernel_rfl)
    ⟨Dg.vfalse (by omega), trivial⟩
--> stop16
section
variable (w lx : Nat) (cx : Cp) (ly : Nat) (cy : Cp) (e1 e2 : Sh) (b : Int) (xs ys : List Int)
/-- Where the loop ends. -/
noncomputable def E16 (n : Nat) : St := match n with
  | 0 => ⟨TE 0 undef, (S16a w lx cx ly cy e1 e2 b xs ys 0).H, []⟩
  | i + 1 => if outs w b xs ys (i + 1) = [] then ⟨TE (i + 1) (.int .i64 (i : Int)), (S16b w lx cx ly cy e1 e2 b xs ys (i + 1) (i + 1) (i : Int) (psAt w xs ys (i + 1))).H, [9, 13]⟩
    else ⟨TE (i + 1) (.int .i64 (i : Int)), (S16c w lx cx ly cy e1 e2 b xs ys (i + 1) (i + 1) (i : Int) (psAt w xs ys (i + 1)) (outs w b xs ys (i + 1))).H, [2, 7, 9, 13]⟩
theorem loop16 (n : Nat) (hw : 0 < w) (hw1 : w ≤ 64) (hb : 0 ≤ b ∧ b < 9223372036854775808) (hn : n ≤ 200) (hlx : n ≤ lx) (hly : n ≤ ly) (hcx : lx ≤ cx.1) (hcy : ly ≤ cy.1) (hxl : xs.length = cx.1) (hyl : ys.length = cy.1) (hx : ∀ x ∈ xs, In x) :
    evLoop run16 cl16 1000 (B16 w lx cx ly cy e1 e2 b xs ys n) = some (.exit 0, E16 w lx cx ly cy e1 e2 b xs ys n) := by
  refine Dg.loop_run (S := Hd16 w lx cx ly cy e1 e2 b xs ys n) (n := n) (by simp) (fun j hj => round16 w lx cx ly cy e1 e2 b xs ys n hw hw1 hb hn hlx hly hcx hcy hxl hyl hx j hj) ?_ (by omega) (by kernel_rfl)
  cases n with
  | zero => exact stop16 0 undef _ []
  | succ i =>
    by_cases ho : outs w b xs ys (i + 1) = []
    · show run16 (if outs w b xs ys (i + 1) = [] then _ else _) = some (.exit 0, if outs w b xs ys (i + 1) = [] then _ else _)
      rw [if_pos ho, if_pos ho]
      exact stop16 (i + 1) _ _ [9, 13]
    · show run16 (if outs w b xs ys (i + 1) = [] then _ else _) = some (.exit 0, if outs w b xs ys (i + 1) = [] then _ else _)
      rw [if_neg ho, if_neg ho]
      exact stop16 (i + 1) _ _ [2, 7, 9, 13]
theorem loop16z {n : Nat} (hw : 0 < w) (hw1 : w ≤ 64) (hb : 0 ≤ b ∧ b < 9223372036854775808) (hn : n ≤ 200) (hlx : n ≤ lx) (hly : n ≤ ly) (hcx : lx ≤ cx.1) (hcy : ly ≤ cy.1) (hxl : xs.length = cx.1) (hyl : ys.length = cy.1) (hx : ∀ x ∈ xs, In x) (h0 : n = 0) :
    evLoop run16 cl16 1000 (B16 w lx cx ly cy e1 e2 b xs ys 0) = some (.exit 0, ⟨TE 0 undef, (S16a w lx cx ly cy e1 e2 b xs ys 0).H, []⟩) := by
  subst h0
  exact loop16 w lx cx ly cy e1 e2 b xs ys 0 hw hw1 hb hn hlx hly hcx hcy hxl hyl hx
theorem loop16b (i : Nat) (hw : 0 < w) (hw1 : w ≤ 64) (hb : 0 ≤ b ∧ b < 9223372036854775808) (hn : i + 1 ≤ 200) (hlx : i + 1 ≤ lx) (hly : i + 1 ≤ ly) (hcx : lx ≤ cx.1) (hcy : ly ≤ cy.1) (hxl : xs.length = cx.1) (hyl : ys.length = cy.1) (hx : ∀ x ∈ xs, In x) (ho : outs w b xs ys (i + 1) = []) :
    evLoop run16 cl16 1000 (B16 w lx cx ly cy e1 e2 b xs ys (i + 1)) = some (.exit 0, ⟨TE (i + 1) (.int .i64 (i : Int)), (S16b w lx cx ly cy e1 e2 b xs ys (i + 1) (i + 1) (i : Int) (psAt w xs ys (i + 1))).H, [9, 13]⟩) := by
  have h := loop16 w lx cx ly cy e1 e2 b xs ys (i + 1) hw hw1 hb hn hlx hly hcx hcy hxl hyl hx
  simp only [E16] at h
  rw [if_pos ho] at h
  exact h
theorem loop16c (i : Nat) (hw : 0 < w) (hw1 : w ≤ 64) (hb : 0 ≤ b ∧ b < 9223372036854775808) (hn : i + 1 ≤ 200) (hlx : i + 1 ≤ lx) (hly : i + 1 ≤ ly) (hcx : lx ≤ cx.1) (hcy : ly ≤ cy.1) (hxl : xs.length = cx.1) (hyl : ys.length = cy.1) (hx : ∀ x ∈ xs, In x) (ho : ¬ outs w b xs ys (i + 1) = []) :
    evLoop run16 cl16 1000 (B16 w lx cx ly cy e1 e2 b xs ys (i + 1)) = some (.exit 0, ⟨TE (i + 1) (.int .i64 (i : Int)), (S16c w lx cx ly cy e1 e2 b xs ys (i + 1) (i + 1) (i : Int) (psAt w xs ys (i + 1)) (outs w b xs ys (i + 1))).H, [2, 7, 9, 13]⟩) := by
  have h := loop16 w lx cx ly cy e1 e2 b xs ys (i + 1) hw hw1 hb hn hlx hly hcx hcy hxl hyl hx
  simp only [E16] at h
  rw [if_neg ho] at h
  exact h
end
--< a16XY_low
theorem a16XY_low (lx : Nat) (cx : Cp) (ly : Nat) (cy : Cp) (e1 : Sh) (e2 : Sh) (xs : List Int) (ys : List Int) (w : Int) (b : Int) (hw : w < 1) :
    evCall Try.prog 0 (bodied Try.prog) over3 sbs 1000 20 16 [Value.int IntKind.i64 w, Value.int IntKind.i64 b, aX lx cx, aY ly cy] { n := 2, objs := [oY ys e2, oX xs e1] } = some (Value.slice none 0 0, { n := 2, objs := [AObj.cells (i64s ys) e2.fst (e2.snd.fst + 4) e2.snd.snd, AObj.cells (i64s xs) e1.fst (e1.snd.fst + 4) e1.snd.snd] }, []) :=
  Dg.evCall_hint (hs' := []) (hs := [Hint.val 9 7 (Value.bool true)])
    [Value.bool (decide (w < (1 : Int))) = Value.bool true] (by kernel_rfl)
    ⟨Dg.vtrue (by omega), trivial⟩
--> a16XY_low
--< a16XY_high
theorem a16XY_high (lx : Nat) (cx : Cp) (ly : Nat) (cy : Cp) (e1 : Sh) (e2 : Sh) (xs : List Int) (ys : List Int) (w : Int) (b : Int) (hw : 64 < w) :
    evCall Try.prog 0 (bodied Try.prog) over3 sbs 1000 20 16 [Value.int IntKind.i64 w, Value.int IntKind.i64 b, aX lx cx, aY ly cy] { n := 2, objs := [oY ys e2, oX xs e1] } = some (Value.slice none 0 0, { n := 2, objs := [AObj.cells (i64s ys) e2.fst (e2.snd.fst + 4) e2.snd.snd, AObj.cells (i64s xs) e1.fst (e1.snd.fst + 4) e1.snd.snd] }, []) :=
  Dg.evCall_hint (hs' := []) (hs := [Hint.val 9 7 (Value.bool false),
    Hint.val 9 10 (Value.bool true)])
    [Value.bool (decide (w < (1 : Int))) = Value.bool false,
    Value.bool (decide (w > (64 : Int))) = Value.bool true] (by kernel_rfl)
    ⟨Dg.vfalse (by omega), Dg.vtrue (by omega), trivial⟩
--> a16XY_high
--< a16XY_neg
theorem a16XY_neg (lx : Nat) (cx : Cp) (ly : Nat) (cy : Cp) (e1 : Sh) (e2 : Sh) (xs : List Int) (ys : List Int) (w : Int) (b : Int) (hw : 1 ≤ w) (hw1 : w ≤ 64) (hb : b < 0) :
    evCall Try.prog 0 (bodied Try.prog) over3 sbs 1000 20 16 [Value.int IntKind.i64 w, Value.int IntKind.i64 b, aX lx cx, aY ly cy] { n := 2, objs := [oY ys e2, oX xs e1] } = some (Value.slice none 0 0, { n := 2, objs := [AObj.cells (i64s ys) e2.fst (e2.snd.fst + 4) e2.snd.snd, AObj.cells (i64s xs) e1.fst (e1.snd.fst + 4) e1.snd.snd] }, []) :=
  Dg.evCall_hint (hs' := []) (hs := [Hint.val 9 7 (Value.bool false),
    Hint.val 9 10 (Value.bool false),
    Hint.val 9 14 (Value.bool true)])
    [Value.bool (decide (w < (1 : Int))) = Value.bool false,
    Value.bool (decide (w > (64 : Int))) = Value.bool false,
    Value.bool (decide (b < (0 : Int))) = Value.bool true] (by kernel_rfl)
    ⟨Dg.vfalse (by omega), Dg.vfalse (by omega), Dg.vtrue (by omega), trivial⟩
--> a16XY_neg
--< a16NY_low
theorem a16NY_low (ly : Nat) (cy : Cp) (e2 : Sh) (ys : List Int) (w : Int) (b : Int) (hw : w < 1) :
    evCall Try.prog 0 (bodied Try.prog) over3 sbs 1000 20 16 [Value.int IntKind.i64 w, Value.int IntKind.i64 b, Value.slice none 0 0, aX ly cy] { n := 1, objs := [oX ys e2] } = some (Value.slice none 0 0, { n := 1, objs := [AObj.cells (i64s ys) e2.fst (e2.snd.fst + 4) e2.snd.snd] }, []) :=
  Dg.evCall_hint (hs' := []) (hs := [Hint.val 9 7 (Value.bool true)])
    [Value.bool (decide (w < (1 : Int))) = Value.bool true] (by kernel_rfl)
    ⟨Dg.vtrue (by omega), trivial⟩
--> a16NY_low
--< a16NY_high
theorem a16NY_high (ly : Nat) (cy : Cp) (e2 : Sh) (ys : List Int) (w : Int) (b : Int) (hw : 64 < w) :
    evCall Try.prog 0 (bodied Try.prog) over3 sbs 1000 20 16 [Value.int IntKind.i64 w, Value.int IntKind.i64 b, Value.slice none 0 0, aX ly cy] { n := 1, objs := [oX ys e2] } = some (Value.slice none 0 0, { n := 1, objs := [AObj.cells (i64s ys) e2.fst (e2.snd.fst + 4) e2.snd.snd] }, []) :=
  Dg.evCall_hint (hs' := []) (hs := [Hint.val 9 7 (Value.bool false),
    Hint.val 9 10 (Value.bool true)])
    [Value.bool (decide (w < (1 : Int))) = Value.bool false,
    Value.bool (decide (w > (64 : Int))) = Value.bool true] (by kernel_rfl)
    ⟨Dg.vfalse (by omega), Dg.vtrue (by omega), trivial⟩
--> a16NY_high
--< a16NY_neg
theorem a16NY_neg (ly : Nat) (cy : Cp) (e2 : Sh) (ys : List Int) (w : Int) (b : Int) (hw : 1 ≤ w) (hw1 : w ≤ 64) (hb : b < 0) :
    evCall Try.prog 0 (bodied Try.prog) over3 sbs 1000 20 16 [Value.int IntKind.i64 w, Value.int IntKind.i64 b, Value.slice none 0 0, aX ly cy] { n := 1, objs := [oX ys e2] } = some (Value.slice none 0 0, { n := 1, objs := [AObj.cells (i64s ys) e2.fst (e2.snd.fst + 4) e2.snd.snd] }, []) :=
  Dg.evCall_hint (hs' := []) (hs := [Hint.val 9 7 (Value.bool false),
    Hint.val 9 10 (Value.bool false),
    Hint.val 9 14 (Value.bool true)])
    [Value.bool (decide (w < (1 : Int))) = Value.bool false,
    Value.bool (decide (w > (64 : Int))) = Value.bool false,
    Value.bool (decide (b < (0 : Int))) = Value.bool true] (by kernel_rfl)
    ⟨Dg.vfalse (by omega), Dg.vfalse (by omega), Dg.vtrue (by omega), trivial⟩
--> a16NY_neg
--< a16NY_ok
theorem a16NY_ok (ly : Nat) (cy : Cp) (e2 : Sh) (ys : List Int) (w : Nat) (b : Int) (hw : 0 < w) (hw1 : w ≤ 64) (hb : 0 ≤ b) :
    evCall Try.prog 0 (bodied Try.prog) over3 sbs 1000 20 16 [Value.int IntKind.i64 (↑w : Int), Value.int IntKind.i64 b, Value.slice none 0 0, aX ly cy] { n := 1, objs := [oX ys e2] } = some (Value.slice none 0 0, { n := 1, objs := [AObj.cells (i64s ys) e2.fst (e2.snd.fst + 4) e2.snd.snd] }, []) :=
  Dg.evCall_hint (hs' := []) (hs := [Hint.val 9 7 (Value.bool false),
    Hint.val 9 10 (Value.bool false),
    Hint.val 9 14 (Value.bool false),
    Hint.val 24 9 (Value.int IntKind.i64 0)])
    [Value.bool (decide ((↑w : Int) < (1 : Int))) = Value.bool false,
    Value.bool (decide ((↑w : Int) > (64 : Int))) = Value.bool false,
    Value.bool (decide (b < (0 : Int))) = Value.bool false,
    Value.int IntKind.i64 (0 : Int) = Value.int IntKind.i64 (0 : Int)] (by kernel_rfl)
    ⟨Dg.vfalse (by omega), Dg.vfalse (by omega), Dg.vfalse (by omega), rfl, trivial⟩
--> a16NY_ok
--< a16XN_low
theorem a16XN_low (lx : Nat) (cx : Cp) (e1 : Sh) (xs : List Int) (w : Int) (b : Int) (hw : w < 1) :
    evCall Try.prog 0 (bodied Try.prog) over3 sbs 1000 20 16 [Value.int IntKind.i64 w, Value.int IntKind.i64 b, aX lx cx, Value.slice none 0 0] { n := 1, objs := [oX xs e1] } = some (Value.slice none 0 0, { n := 1, objs := [AObj.cells (i64s xs) e1.fst (e1.snd.fst + 4) e1.snd.snd] }, []) :=
  Dg.evCall_hint (hs' := []) (hs := [Hint.val 9 7 (Value.bool true)])
    [Value.bool (decide (w < (1 : Int))) = Value.bool true] (by kernel_rfl)
    ⟨Dg.vtrue (by omega), trivial⟩
--> a16XN_low
--< a16XN_high
theorem a16XN_high (lx : Nat) (cx : Cp) (e1 : Sh) (xs : List Int) (w : Int) (b : Int) (hw : 64 < w) :
    evCall Try.prog 0 (bodied Try.prog) over3 sbs 1000 20 16 [Value.int IntKind.i64 w, Value.int IntKind.i64 b, aX lx cx, Value.slice none 0 0] { n := 1, objs := [oX xs e1] } = some (Value.slice none 0 0, { n := 1, objs := [AObj.cells (i64s xs) e1.fst (e1.snd.fst + 4) e1.snd.snd] }, []) :=
  Dg.evCall_hint (hs' := []) (hs := [Hint.val 9 7 (Value.bool false),
    Hint.val 9 10 (Value.bool true)])
    [Value.bool (decide (w < (1 : Int))) = Value.bool false,
    Value.bool (decide (w > (64 : Int))) = Value.bool true] (by kernel_rfl)
    ⟨Dg.vfalse (by omega), Dg.vtrue (by omega), trivial⟩
--> a16XN_high
--< a16XN_neg
theorem a16XN_neg (lx : Nat) (cx : Cp) (e1 : Sh) (xs : List Int) (w : Int) (b : Int) (hw : 1 ≤ w) (hw1 : w ≤ 64) (hb : b < 0) :
    evCall Try.prog 0 (bodied Try.prog) over3 sbs 1000 20 16 [Value.int IntKind.i64 w, Value.int IntKind.i64 b, aX lx cx, Value.slice none 0 0] { n := 1, objs := [oX xs e1] } = some (Value.slice none 0 0, { n := 1, objs := [AObj.cells (i64s xs) e1.fst (e1.snd.fst + 4) e1.snd.snd] }, []) :=
  Dg.evCall_hint (hs' := []) (hs := [Hint.val 9 7 (Value.bool false),
    Hint.val 9 10 (Value.bool false),
    Hint.val 9 14 (Value.bool true)])
    [Value.bool (decide (w < (1 : Int))) = Value.bool false,
    Value.bool (decide (w > (64 : Int))) = Value.bool false,
    Value.bool (decide (b < (0 : Int))) = Value.bool true] (by kernel_rfl)
    ⟨Dg.vfalse (by omega), Dg.vfalse (by omega), Dg.vtrue (by omega), trivial⟩
--> a16XN_neg
--< a16XN_ok
theorem a16XN_ok (lx : Nat) (cx : Cp) (e1 : Sh) (xs : List Int) (w : Nat) (b : Int) (hw : 0 < w) (hw1 : w ≤ 64) (hb : 0 ≤ b) :
    evCall Try.prog 0 (bodied Try.prog) over3 sbs 1000 20 16 [Value.int IntKind.i64 (↑w : Int), Value.int IntKind.i64 b, aX lx cx, Value.slice none 0 0] { n := 1, objs := [oX xs e1] } = some (Value.slice none 0 0, { n := 1, objs := [AObj.cells (i64s xs) e1.fst (e1.snd.fst + 4) e1.snd.snd] }, []) :=
  Dg.evCall_hint (hs' := []) (hs := [Hint.val 9 7 (Value.bool false),
    Hint.val 9 10 (Value.bool false),
    Hint.val 9 14 (Value.bool false),
    Hint.val 24 9 (Value.int IntKind.i64 0)])
    [Value.bool (decide ((↑w : Int) < (1 : Int))) = Value.bool false,
    Value.bool (decide ((↑w : Int) > (64 : Int))) = Value.bool false,
    Value.bool (decide (b < (0 : Int))) = Value.bool false,
    Value.int IntKind.i64 (if (0 : Int) < (↑lx : Int) then (0 : Int) else (↑lx : Int)) = Value.int IntKind.i64 (0 : Int)] (by kernel_rfl)
    ⟨Dg.vfalse (by omega), Dg.vfalse (by omega), Dg.vfalse (by omega), Dg.int_eq (by omega), trivial⟩
--> a16XN_ok
--< a16NN_low
theorem a16NN_low (w : Int) (b : Int) (hw : w < 1) :
    evCall Try.prog 0 (bodied Try.prog) over3 sbs 1000 20 16 [Value.int IntKind.i64 w, Value.int IntKind.i64 b, Value.slice none 0 0, Value.slice none 0 0] { n := 0, objs := [] } = some (Value.slice none 0 0, { n := 0, objs := [] }, []) :=
  Dg.evCall_hint (hs' := []) (hs := [Hint.val 9 7 (Value.bool true)])
    [Value.bool (decide (w < (1 : Int))) = Value.bool true] (by kernel_rfl)
    ⟨Dg.vtrue (by omega), trivial⟩
--> a16NN_low
--< a16NN_high
theorem a16NN_high (w : Int) (b : Int) (hw : 64 < w) :
    evCall Try.prog 0 (bodied Try.prog) over3 sbs 1000 20 16 [Value.int IntKind.i64 w, Value.int IntKind.i64 b, Value.slice none 0 0, Value.slice none 0 0] { n := 0, objs := [] } = some (Value.slice none 0 0, { n := 0, objs := [] }, []) :=
  Dg.evCall_hint (hs' := []) (hs := [Hint.val 9 7 (Value.bool false),
    Hint.val 9 10 (Value.bool true)])
    [Value.bool (decide (w < (1 : Int))) = Value.bool false,
    Value.bool (decide (w > (64 : Int))) = Value.bool true] (by kernel_rfl)
    ⟨Dg.vfalse (by omega), Dg.vtrue (by omega), trivial⟩
--> a16NN_high
--< a16NN_neg
theorem a16NN_neg (w : Int) (b : Int) (hw : 1 ≤ w) (hw1 : w ≤ 64) (hb : b < 0) :
    evCall Try.prog 0 (bodied Try.prog) over3 sbs 1000 20 16 [Value.int IntKind.i64 w, Value.int IntKind.i64 b, Value.slice none 0 0, Value.slice none 0 0] { n := 0, objs := [] } = some (Value.slice none 0 0, { n := 0, objs := [] }, []) :=
  Dg.evCall_hint (hs' := []) (hs := [Hint.val 9 7 (Value.bool false),
    Hint.val 9 10 (Value.bool false),
    Hint.val 9 14 (Value.bool true)])
    [Value.bool (decide (w < (1 : Int))) = Value.bool false,
    Value.bool (decide (w > (64 : Int))) = Value.bool false,
    Value.bool (decide (b < (0 : Int))) = Value.bool true] (by kernel_rfl)
    ⟨Dg.vfalse (by omega), Dg.vfalse (by omega), Dg.vtrue (by omega), trivial⟩
--> a16NN_neg
--< a16NN_ok
theorem a16NN_ok (w : Nat) (b : Int) (hw : 0 < w) (hw1 : w ≤ 64) (hb : 0 ≤ b) :
    evCall Try.prog 0 (bodied Try.prog) over3 sbs 1000 20 16 [Value.int IntKind.i64 (↑w : Int), Value.int IntKind.i64 b, Value.slice none 0 0, Value.slice none 0 0] { n := 0, objs := [] } = some (Value.slice none 0 0, { n := 0, objs := [] }, []) :=
  Dg.evCall_hint (hs' := []) (hs := [Hint.val 9 7 (Value.bool false),
    Hint.val 9 10 (Value.bool false),
    Hint.val 9 14 (Value.bool false),
    Hint.val 24 9 (Value.int IntKind.i64 0)])
    [Value.bool (decide ((↑w : Int) < (1 : Int))) = Value.bool false,
    Value.bool (decide ((↑w : Int) > (64 : Int))) = Value.bool false,
    Value.bool (decide (b < (0 : Int))) = Value.bool false,
    Value.int IntKind.i64 (0 : Int) = Value.int IntKind.i64 (0 : Int)] (by kernel_rfl)
    ⟨Dg.vfalse (by omega), Dg.vfalse (by omega), Dg.vfalse (by omega), rfl, trivial⟩
--> a16NN_ok
--< a16XY_za
theorem a16XY_za (lx : Nat) (cx : Cp) (ly : Nat) (cy : Cp) (e1 : Sh) (e2 : Sh) (xs : List Int) (ys : List Int) (w : Nat) (b : Int) (hw : 0 < w) (hw1 : w ≤ 64) (hb : 0 ≤ b ∧ b < 9223372036854775808) (hcx : lx ≤ cx.fst) (hcy : ly ≤ cy.fst) (hxl : List.length xs = cx.fst) (hyl : List.length ys = cy.fst) (hx : ∀ (x : Int), x ∈ xs → In x) (hn : min lx ly = 0) :
    evCall Try.prog 0 (bodied Try.prog) over3 sbs 1000 20 16 [Value.int IntKind.i64 (↑w : Int), Value.int IntKind.i64 b, aX lx cx, aY ly cy] { n := 2, objs := [oY ys e2, oX xs e1] } = some (Value.slice none 0 0, { n := 2, objs := [AObj.cells (i64s ys) e2.fst (e2.snd.fst + 4) e2.snd.snd, AObj.cells (i64s xs) e1.fst (e1.snd.fst + 4) e1.snd.snd] }, []) :=
  Dg.evCall_hint (hs' := []) (hs := [Hint.val 9 7 (Value.bool false),
    Hint.val 9 10 (Value.bool false),
    Hint.val 9 14 (Value.bool false),
    Hint.val 24 9 (Value.int IntKind.i64 (↑0 : Int)),
    Hint.loop 24 (Ex.exit 0) { ts := TE 0 undef, H := (S16a w lx cx ly cy e1 e2 b xs ys 0).H, log := [] }])
    [Value.bool (decide ((↑w : Int) < (1 : Int))) = Value.bool false,
    Value.bool (decide ((↑w : Int) > (64 : Int))) = Value.bool false,
    Value.bool (decide (b < (0 : Int))) = Value.bool false,
    Value.int IntKind.i64 (if (↑ly : Int) < (↑lx : Int) then (↑ly : Int) else (↑lx : Int)) = Value.int IntKind.i64 (↑(0 : Nat) : Int),
    evLoop run16 cl16 1000 (B16 w lx cx ly cy e1 e2 b xs ys 0) = some (Ex.exit 0, { ts := TE 0 undef, H := (S16a w lx cx ly cy e1 e2 b xs ys 0).H, log := [] })] (by kernel_rfl)
    ⟨Dg.vfalse (by omega), Dg.vfalse (by omega), Dg.vfalse (by omega), Dg.int_eq (by omega), loop16z w lx cx ly cy e1 e2 b xs ys (n := 0) hw hw1 hb (by omega) (by omega) (by omega) hcx hcy hxl hyl hx rfl, trivial⟩
--> a16XY_za
--< a16XY_zb
theorem a16XY_zb (lx : Nat) (cx : Cp) (ly : Nat) (cy : Cp) (e1 : Sh) (e2 : Sh) (xs : List Int) (ys : List Int) (w : Nat) (b : Int) (hw : 0 < w) (hw1 : w ≤ 64) (hb : 0 ≤ b ∧ b < 9223372036854775808) (hcx : lx ≤ cx.fst) (hcy : ly ≤ cy.fst) (hxl : List.length xs = cx.fst) (hyl : List.length ys = cy.fst) (hx : ∀ (x : Int), x ∈ xs → In x) (i : Nat) (hn : min lx ly = i + 1) (hi : i < 200) (ho : outs w b xs ys (i + 1) = []) :
    evCall Try.prog 0 (bodied Try.prog) over3 sbs 1000 20 16 [Value.int IntKind.i64 (↑w : Int), Value.int IntKind.i64 b, aX lx cx, aY ly cy] { n := 2, objs := [oY ys e2, oX xs e1] } = some (Value.slice none 0 0, { n := 2, objs := [AObj.cells (i64s ys) e2.fst (e2.snd.fst + 4) e2.snd.snd, AObj.cells (i64s xs) e1.fst (e1.snd.fst + 4) e1.snd.snd] }, []) :=
  Dg.evCall_hint (hs' := []) (hs := [Hint.val 9 7 (Value.bool false),
    Hint.val 9 10 (Value.bool false),
    Hint.val 9 14 (Value.bool false),
    Hint.val 24 9 (Value.int IntKind.i64 (↑(i + 1) : Int)),
    Hint.loop 24 (Ex.exit 0) { ts := TE (i + 1) (Value.int IntKind.i64 (↑i : Int)), H := (S16b w lx cx ly cy e1 e2 b xs ys (i + 1) (i + 1) (↑i : Int) (psAt w xs ys (i + 1))).H, log := [9, 13] }])
    [Value.bool (decide ((↑w : Int) < (1 : Int))) = Value.bool false,
    Value.bool (decide ((↑w : Int) > (64 : Int))) = Value.bool false,
    Value.bool (decide (b < (0 : Int))) = Value.bool false,
    Value.int IntKind.i64 (if (↑ly : Int) < (↑lx : Int) then (↑ly : Int) else (↑lx : Int)) = Value.int IntKind.i64 (↑(i + (1 : Nat)) : Int),
    evLoop run16 cl16 1000 (B16 w lx cx ly cy e1 e2 b xs ys (i + 1)) = some (Ex.exit 0, { ts := TE (i + 1) (Value.int IntKind.i64 (↑i : Int)), H := (S16b w lx cx ly cy e1 e2 b xs ys (i + 1) (i + 1) (↑i : Int) (psAt w xs ys (i + 1))).H, log := [9, 13] })] (by kernel_rfl)
    ⟨Dg.vfalse (by omega), Dg.vfalse (by omega), Dg.vfalse (by omega), Dg.int_eq (by omega), loop16b w lx cx ly cy e1 e2 b xs ys i hw hw1 hb (by omega) (by omega) (by omega) hcx hcy hxl hyl hx ho, trivial⟩
--> a16XY_zb
--< a16XY_zc
theorem a16XY_zc (lx : Nat) (cx : Cp) (ly : Nat) (cy : Cp) (e1 : Sh) (e2 : Sh) (xs : List Int) (ys : List Int) (w : Nat) (b : Int) (hw : 0 < w) (hw1 : w ≤ 64) (hb : 0 ≤ b ∧ b < 9223372036854775808) (hcx : lx ≤ cx.fst) (hcy : ly ≤ cy.fst) (hxl : List.length xs = cx.fst) (hyl : List.length ys = cy.fst) (hx : ∀ (x : Int), x ∈ xs → In x) (i : Nat) (hn : min lx ly = i + 1) (hi : i < 200) (ho : ¬outs w b xs ys (i + 1) = []) :
    evCall Try.prog 0 (bodied Try.prog) over3 sbs 1000 20 16 [Value.int IntKind.i64 (↑w : Int), Value.int IntKind.i64 b, aX lx cx, aY ly cy] { n := 2, objs := [oY ys e2, oX xs e1] } = some (Value.slice (some { block := 2, off := 0, spot := some 0 }) (List.length (outs w b xs ys (i + 1))) (List.length (outs w b xs ys (i + 1))), { n := 3, objs := [AObj.cells (tc (outs w b xs ys (i + 1))) 31 5 3, AObj.cells (i64s ys) e2.fst (e2.snd.fst + 4) e2.snd.snd, AObj.cells (i64s xs) e1.fst (e1.snd.fst + 4) e1.snd.snd] }, []) :=
  Dg.evCall_hint (hs' := []) (hs := [Hint.val 9 7 (Value.bool false),
    Hint.val 9 10 (Value.bool false),
    Hint.val 9 14 (Value.bool false),
    Hint.val 24 9 (Value.int IntKind.i64 (↑(i + 1) : Int)),
    Hint.loop 24 (Ex.exit 0) { ts := TE (i + 1) (Value.int IntKind.i64 (↑i : Int)), H := (S16c w lx cx ly cy e1 e2 b xs ys (i + 1) (i + 1) (↑i : Int) (psAt w xs ys (i + 1)) (outs w b xs ys (i + 1))).H, log := [2, 7, 9, 13] }])
    [Value.bool (decide ((↑w : Int) < (1 : Int))) = Value.bool false,
    Value.bool (decide ((↑w : Int) > (64 : Int))) = Value.bool false,
    Value.bool (decide (b < (0 : Int))) = Value.bool false,
    Value.int IntKind.i64 (if (↑ly : Int) < (↑lx : Int) then (↑ly : Int) else (↑lx : Int)) = Value.int IntKind.i64 (↑(i + (1 : Nat)) : Int),
    evLoop run16 cl16 1000 (B16 w lx cx ly cy e1 e2 b xs ys (i + 1)) = some (Ex.exit 0, { ts := TE (i + 1) (Value.int IntKind.i64 (↑i : Int)), H := (S16c w lx cx ly cy e1 e2 b xs ys (i + 1) (i + 1) (↑i : Int) (psAt w xs ys (i + 1)) (outs w b xs ys (i + 1))).H, log := [2, 7, 9, 13] })] (by kernel_rfl)
    ⟨Dg.vfalse (by omega), Dg.vfalse (by omega), Dg.vfalse (by omega), Dg.int_eq (by omega), loop16c w lx cx ly cy e1 e2 b xs ys i hw hw1 hb (by omega) (by omega) (by omega) hcx hcy hxl hyl hx ho, trivial⟩
--> a16XY_zc
end Go.Proofs.Ytafhlmpifdclaaa.shift
