/- PROVED: 'horologelaw34.ShiftSteps' returns true at every width, bound, offsets, delays and number, in whatever memory, and leaves what was there as it was. Conditions: none. -/
import Derived.Test.YtafhlmpifdclaaaRows
import Derived.Test.YtafhlmpifdclaaaShift4d
import Derived.WalkKit
import Derived.ProofKit
import Derived.OpenShut
namespace Go.Proofs.Ytafhlmpifdclaaa.shiftSteps
open Go.ChangeShapes Go.WideShapes Go.ChangeAt Go.RowKit
open Go.Dg (junk St Ex Ev Hint evCall evCallS evCode evLoop cleanSt ue bodied noOver sbOf headOf tailOf bodyOf Flats flatOver Heap AObj)
open Go.Proofs.Ytafhlmpifdclaaa.shift
set_option linter.unusedVariables false

/-! ### All cases. -/
noncomputable abbrev ev4 (ov : Ev) : List Value → Heap → Option (Value × Heap × List Nat) := evCall Try.prog 0 (bodied Try.prog) ov sbs 1000 20 4
theorem of_is {r : Option (Value × Heap × List Nat)} {H : Heap} (h : r = some (.bool true, H, [])) : r.map (·.1) = some (.bool true) := by rw [h]; rfl
/-- One of the two ways to know the calls. -/
def Good (args : List Value) (H : Heap) : Prop := (ev4 over3 args H).map (·.1) = some (.bool true) ∨ (ev4 over0 args H).map (·.1) = some (.bool true)
theorem good_XY (left : Int) (lx : Nat) (cx : Cp) (ly : Nat) (cy : Cp) (e1 e2 : Sh) (xs ys : List Int) (w : Nat) (b : Int) (hw : 0 < w) (hw1 : w ≤ 64) (hb : 0 ≤ b ∧ b < 9223372036854775808) (hlx : lx ≤ 200) (hly : ly ≤ 200) (hcx : lx ≤ cx.1) (hcy : ly ≤ cy.1) (hxl : xs.length = cx.1) (hyl : ys.length = cy.1) (hx : ∀ x ∈ xs, In x) :
    (ev4 over3 [.int .i64 w, .int .i64 b, aX lx cx, aY ly cy, .int .i64 left] ⟨2, [oY ys e2, oX xs e1]⟩).map (·.1) = some (.bool true) := by
  rcases Nat.eq_zero_or_pos lx with rfl | h0
  · exact of_is (s4_0 left cx ly cy e1 e2 xs ys w b hw hw1 hb hly)
  obtain ⟨i, hi⟩ : ∃ i, lx = i + 1 := ⟨lx - 1, by omega⟩
  have sa : StepArgs w b xs ys lx ly := ⟨hw, hw1, hb, by omega, by omega, by omega, by omega, hx⟩
  have hwant := want_all (b := b) (xs := xs) (ys := ys) (lx := lx) (ly := ly) hw
  rcases Nat.eq_zero_or_pos (min lx ly) with hN | hN
  · exact of_is (s4_n0 left lx cx ly cy e1 e2 xs ys w b hw hw1 hb hly sa hlx hcx hcy hxl hyl hx i hi hN (by rw [hwant, hN]; rfl))
  obtain ⟨m, hm⟩ : ∃ m, min lx ly = m + 1 := ⟨min lx ly - 1, by omega⟩
  by_cases ho : outs w b xs ys (m + 1) = []
  · exact of_is (s4_n1 left lx cx ly cy e1 e2 xs ys w b hw hw1 hb hly sa hlx hcx hcy hxl hyl hx i hi m hm ho (by rw [hwant, hm]; exact ho))
  have hpos : 0 < (outs w b xs ys (m + 1)).length := List.length_pos_iff.2 ho
  have hwant' : wantL w b xs ys (min lx ly) lx = outs w b xs ys (m + 1) := by rw [hwant, hm]
  -- a bound on the number of steps that were gone over without leaving
  have few : ∀ i, i ≤ m + 1 → (∀ j, j < i → ¬ told? w b xs ys left j) → (outs w b xs ys i).length = 0 ∨ ((outs w b xs ys i).length : Int) < left := by
    intro i
    induction i with
    | zero => intro _ _; exact .inl rfl
    | succ i ih =>
      intro hi hno
      have h1 := ih (by omega) (fun j hj => hno j (by omega))
      have h2 := hno i (by omega)
      cases hs : isStep w b (psAt w xs ys (i + 1)) with
      | false =>
        have hoo : outs w b xs ys (i + 1) = outs w b xs ys i := by simp only [outs]; rw [hs]; simp
        rw [hoo]; exact h1
      | true =>
        have hlen : (outs w b xs ys (i + 1)).length = (outs w b xs ys i).length + 1 := by simp only [outs]; rw [hs]; simp
        right
        rcases Int.lt_or_le (((outs w b xs ys i).length : Int) + 1) left with h3 | h3
        · omega
        · exact absurd ⟨hs, h3⟩ h2
  rcases first_or (p := fun j => told? w b xs ys left j) (m + 1) with ⟨j, hj, ht, hno⟩ | hno
  · cases j with
    | zero =>
      have hs := ht.1
      unfold isStep at hs
      rw [psAt_len hw, decide_eq_false (by omega)] at hs
      cases hs
    | succ j =>
      have hnext := (outs_next hj ht.1).1
      by_cases hoj : outs w b xs ys (j + 1) = []
      · have hf := ht.2
        rw [hoj] at hf
        exact of_is (s4_b left lx cx ly cy e1 e2 xs ys w b hw hw1 hb hly sa hlx hcx hcy hxl hyl hx i hi m hm _ rfl ho hwant' j hj ht hno hoj (by simpa using hf) hpos)
      · have hp := List.length_pos_iff.2 hoj
        have hf := ht.2
        have hfew := few (j + 1) (by omega) hno
        exact of_is (s4_c left lx cx ly cy e1 e2 xs ys w b hw hw1 hb hly sa hlx hcx hcy hxl hyl hx i hi m hm _ rfl ho hwant' j hj ht hno hoj (by omega) hnext hp)
  · have hfew := few (m + 1) (Nat.le_refl _) hno
    exact of_is (s4_s left lx cx ly cy e1 e2 xs ys w b hw hw1 hb hly sa hlx hcx hcy hxl hyl hx i hi m hm _ rfl ho hwant' hno (by omega) hpos)
theorem all_XY4 (left w b : Int) (lx : Nat) (cx : Cp) (ly : Nat) (cy : Cp) (e1 e2 : Sh) (xs ys : List Int) (hb1 : b < 9223372036854775808) (hcx : lx ≤ cx.1) (hcy : ly ≤ cy.1) (hxl : xs.length = cx.1) (hyl : ys.length = cy.1) (hx : ∀ x ∈ xs, In x) :
    Good [.int .i64 w, .int .i64 b, aX lx cx, aY ly cy, .int .i64 left] ⟨2, [oY ys e2, oX xs e1]⟩ := by
  by_cases hlx : 200 < lx
  · exact .inr (of_is (m4XY1 left lx cx ly cy e1 e2 xs ys w b hlx))
  by_cases hly : 200 < ly
  · exact .inr (of_is (m4XY2 left lx cx ly cy e1 e2 xs ys w b (by omega) hly))
  have z := Nat.eq_zero_or_pos lx
  have sc : 0 < lx → ∃ i, lx = i + 1 := fun h => ⟨lx - 1, by omega⟩
  by_cases h1 : w < 1
  · rcases z with rfl | h0
    · exact .inr (of_is (b4XY_low0 left cx ly cy e1 e2 xs ys w b h1 (by omega)))
    · obtain ⟨i, hi⟩ := sc h0
      exact .inr (of_is (b4XY_low1 left lx cx ly cy e1 e2 xs ys w b h1 (by omega) (by omega) i hi))
  by_cases h2 : 64 < w
  · rcases z with rfl | h0
    · exact .inr (of_is (b4XY_high0 left cx ly cy e1 e2 xs ys w b h2 (by omega)))
    · obtain ⟨i, hi⟩ := sc h0
      exact .inr (of_is (b4XY_high1 left lx cx ly cy e1 e2 xs ys w b h2 (by omega) (by omega) i hi))
  by_cases h3 : b < 0
  · rcases z with rfl | h0
    · exact .inr (of_is (b4XY_neg0 left cx ly cy e1 e2 xs ys w b (by omega) (by omega) h3 (by omega)))
    · obtain ⟨i, hi⟩ := sc h0
      exact .inr (of_is (b4XY_neg1 left lx cx ly cy e1 e2 xs ys w b (by omega) (by omega) h3 (by omega) (by omega) i hi))
  obtain ⟨k, rfl⟩ : ∃ k : Nat, w = (k : Int) := ⟨w.toNat, by omega⟩
  exact .inl (good_XY left lx cx ly cy e1 e2 xs ys k b (by omega) (by omega) ⟨by omega, hb1⟩ (by omega) (by omega) hcx hcy hxl hyl hx)
theorem all_XN4 (left w b : Int) (lx : Nat) (cx : Cp) (e1 : Sh) (xs : List Int) : Good [.int .i64 w, .int .i64 b, aX lx cx, .slice none 0 0, .int .i64 left] ⟨1, [oX xs e1]⟩ := by
  by_cases hlx : 200 < lx
  · exact .inr (of_is (m4XN left lx cx e1 xs w b hlx))
  right
  have z := Nat.eq_zero_or_pos lx
  have sc : 0 < lx → ∃ i, lx = i + 1 := fun h => ⟨lx - 1, by omega⟩
  by_cases h1 : w < 1
  · rcases z with rfl | h0
    · exact of_is (b4XN_low0 left cx e1 xs w b h1)
    · obtain ⟨i, hi⟩ := sc h0
      exact of_is (b4XN_low1 left lx cx e1 xs w b h1 (by omega) i hi)
  by_cases h2 : 64 < w
  · rcases z with rfl | h0
    · exact of_is (b4XN_high0 left cx e1 xs w b h2)
    · obtain ⟨i, hi⟩ := sc h0
      exact of_is (b4XN_high1 left lx cx e1 xs w b h2 (by omega) i hi)
  by_cases h3 : b < 0
  · rcases z with rfl | h0
    · exact of_is (b4XN_neg0 left cx e1 xs w b (by omega) (by omega) h3)
    · obtain ⟨i, hi⟩ := sc h0
      exact of_is (b4XN_neg1 left lx cx e1 xs w b (by omega) (by omega) h3 (by omega) i hi)
  · rcases z with rfl | h0
    · exact of_is (b4XN_ok0 left cx e1 xs w b (by omega) (by omega) (by omega))
    · obtain ⟨i, hi⟩ := sc h0
      exact of_is (b4XN_ok1 left lx cx e1 xs w b (by omega) (by omega) (by omega) (by omega) i hi)
theorem all_NY4 (left w b : Int) (ly : Nat) (cy : Cp) (e2 : Sh) (ys : List Int) : Good [.int .i64 w, .int .i64 b, .slice none 0 0, aX ly cy, .int .i64 left] ⟨1, [oX ys e2]⟩ := by
  right
  by_cases hly : 200 < ly
  · exact of_is (m4NY left ly cy e2 ys w b hly)
  by_cases h1 : w < 1
  · exact of_is (b4NY_low left ly cy e2 ys w b h1 (by omega))
  by_cases h2 : 64 < w
  · exact of_is (b4NY_high left ly cy e2 ys w b h2 (by omega))
  by_cases h3 : b < 0
  · exact of_is (b4NY_neg left ly cy e2 ys w b (by omega) (by omega) h3 (by omega))
  · exact of_is (b4NY_ok left ly cy e2 ys w b (by omega) (by omega) (by omega) (by omega))
theorem all_NN4 (left w b : Int) : Good [.int .i64 w, .int .i64 b, .slice none 0 0, .slice none 0 0, .int .i64 left] ⟨0, []⟩ := by
  right
  by_cases h1 : w < 1
  · exact of_is (b4NN_low left w b h1)
  by_cases h2 : 64 < w
  · exact of_is (b4NN_high left w b h2)
  by_cases h3 : b < 0
  · exact of_is (b4NN_neg left w b (by omega) (by omega) h3)
  · exact of_is (b4NN_ok left w b (by omega) (by omega) (by omega))
/-- A slice of integers: nil, or a row of cells. -/
def Ints (w : World) (v : Value) : Prop := v = .slice none 0 0 ∨ ∃ (b off len cap : Nat) (zs : List Int) (e' : TypeId), v = .slice (some ⟨b, off, none⟩) len cap ∧ len ≤ cap ∧ cap ≤ maxLen ∧ zs.length = cap ∧ (∀ n ∈ zs, (Lit.int .i64 n).wf = true) ∧
      ∀ M N, Dg.ObjRel M N w (.cells (zs.map (Value.int .i64 ·)) e' 6 1) b off 0
theorem good_closed {args : List Value} (h : Good args ⟨0, []⟩) (ha : Dg.flatL args = true) (W : World) : Calls Try.prog 4 args.toArray W fun e W' => e = .returned (.bool true) ∧ Below W.heap.size W W' := by
  rcases h with h | h
  · exact (Dg.closed_call mixed (Dg.bodied_ok _) over3_ok (sb := sbs) (lf := 1000) (n := 20) h ha rfl).2.2 W
  · exact (Dg.closed_call mixed (Dg.bodied_ok _) over0_ok (sb := sbs) (lf := 1000) (n := 20) h ha rfl).2.2 W
theorem good_open {args args' : List Value} {W : World} (L : List (Nat × Nat × AObj)) (h : Good args (Dg.heapOf L)) (hL : ∀ x ∈ L, x.2.2.owned = false ∧ ∀ M N, Dg.ObjRel M N W x.2.2 x.1 x.2.1 0) (ha : Dg.LRel (Dg.embOf L) args args') : Calls Try.prog 4 args'.toArray W fun e W' => e = .returned (.bool true) ∧ Below W.heap.size W W' := by
  rcases h with h | h
  · exact Dg.open_call mixed (Dg.bodied_ok _) over3_ok L hL ha (sb := sbs) (lf := 1000) (n := 20) h rfl
  · exact Dg.open_call mixed (Dg.bodied_ok _) over0_ok L hL ha (sb := sbs) (lf := 1000) (n := 20) h rfl
theorem walk (W : World) (w b left : Int) (hb : b < 9223372036854775808) (vx vy : Value) (hx : Ints W vx) (hy : Ints W vy) :
    Calls Try.prog 4 #[.int .i64 w, .int .i64 b, vx, vy, .int .i64 left] W fun e W' => e = .returned (.bool true) ∧ Below W.heap.size W W' := by
  have F : ∀ v, Dg.flat v = true → ∀ M, Dg.VRel M v v := fun v h M => Dg.vrel_of_flat _ _ h
  rcases hx with rfl | ⟨bx, ox, lx, cx, xs, e1, rfl, hlx, _, hxl, hwx, hox⟩
  · rcases hy with rfl | ⟨by', oy, ly, cy, ys, e2, rfl, hly, _, hyl, hwy, hoy⟩
    · exact good_closed (all_NN4 left w b) rfl W
    · refine good_open [(by', oy, .cells (ys.map (Value.int .i64 ·)) e2 6 1)] (all_NY4 left w b ly (cy, none) (e2, 2, 1) ys) (by simp; exact ⟨rfl, hoy⟩) ?_
      exact Dg.LRel.cons (F _ rfl _) (Dg.LRel.cons (F _ rfl _) (Dg.LRel.cons (F _ rfl _) (Dg.LRel.cons (Dg.VRel.slx (k := 0) (off := 0) (b := by') (o := oy) (sp := 0) rfl) (Dg.LRel.cons (F _ rfl _) Dg.LRel.nil))))
  · have hIn : ∀ x ∈ xs, In x := fun x hx => Dg.wf_i64 (hwx x hx)
    rcases hy with rfl | ⟨by', oy, ly, cy, ys, e2, rfl, hly, _, hyl, hwy, hoy⟩
    · refine good_open [(bx, ox, .cells (xs.map (Value.int .i64 ·)) e1 6 1)] (all_XN4 left w b lx (cx, none) (e1, 2, 1) xs) (by simp; exact ⟨rfl, hox⟩) ?_
      exact Dg.LRel.cons (F _ rfl _) (Dg.LRel.cons (F _ rfl _) (Dg.LRel.cons (Dg.VRel.slx (k := 0) (off := 0) (b := bx) (o := ox) (sp := 0) rfl) (Dg.LRel.cons (F _ rfl _) (Dg.LRel.cons (F _ rfl _) Dg.LRel.nil))))
    · refine good_open [(bx, ox, .cells (xs.map (Value.int .i64 ·)) e1 6 1), (by', oy, .cells (ys.map (Value.int .i64 ·)) e2 6 1)] (all_XY4 left w b lx (cx, none) ly (cy, none) (e1, 2, 1) (e2, 2, 1) xs ys hb hlx hly hxl hyl hIn) ?_ ?_
      · intro x hx
        simp only [List.mem_cons, List.not_mem_nil, or_false] at hx
        rcases hx with rfl | rfl
        · exact ⟨rfl, hox⟩
        · exact ⟨rfl, hoy⟩
      · exact Dg.LRel.cons (F _ rfl _) (Dg.LRel.cons (F _ rfl _) (Dg.LRel.cons (Dg.VRel.slx (k := 0) (off := 0) (b := bx) (o := ox) (sp := 0) rfl) (Dg.LRel.cons (Dg.VRel.slx (k := 1) (off := 0) (b := by') (o := oy) (sp := 0) rfl) (Dg.LRel.cons (F _ rfl _) Dg.LRel.nil))))

/-! ### The row. -/
theorem ownKnob_is : ownKnob Try.prog.godebug = none := by kernel_rfl
theorem laidOut : laidOutB Try.prog = true := by kernel_rfl
set_option maxRecDepth 100000 in
theorem lifted (os : Os) (started : os.Started) (H : Type) (enc : TypeId × Value → H) :
    ReturnsInHanded {} Try.checked os 4 .any (Rows.shiftStepsSpec.pre6 enc Try.prog Try.f4 Rows.shiftStepsRow.domain false) (Rows.shiftStepsSpec.post enc Try.prog Try.f4 false true false false) := by
  refine returnsInHanded_of_change (C := Try.checked) ownKnob_is started (by kernel_rfl) Try.func4
    (ChangeSpec.witness6 (enc := enc) (C := Try.checked) false ⟨#[], #[.int .i64 0, .int .i64 0, .slice none 0 0, .slice none 0 0, .int .i64 0], []⟩ 8 (by kernel_rfl) (by kernel_rfl) (by kernel_rfl) (by kernel_rfl)) ?_
  intro W base args ds gs before hval0 hW hcnd _
  have hval : ∀ (j : Nat) t v, Try.f4.params[j]? = some t → args[j]? = some v → Value.okWide Try.prog W .any base t v := hval0
  have hW' := hW
  obtain ⟨p, q, hA0, hV, rfl, hfz, hnd⟩ := hW
  have hA : DataW.TrodAll enc Try.prog W 0 (fun _ => true) true Try.f4.params.toList args.toList ds p := hA0
  rw [Try.params4] at hA hval
  obtain ⟨v0, vs0, d0, ds0, p0, q0, hargs, rfl, rfl, h0, t0⟩ := trodAll_cons hA
  obtain ⟨v1, vs1, d1, ds1, p1, q1, rfl, rfl, rfl, h1, t1⟩ := trodAll_cons t0
  obtain ⟨v2, vs2, d2, ds2, p2, q2, rfl, rfl, rfl, h2, t2⟩ := trodAll_cons t1
  obtain ⟨v3, vs3, d3, ds3, p3, q3, rfl, rfl, rfl, h3, t3⟩ := trodAll_cons t2
  obtain ⟨v4, vs4, d4, ds4, p4, q4, rfl, rfl, rfl, h4, t4⟩ := trodAll_cons t3
  obtain ⟨rfl, rfl, rfl⟩ := trodAll_nil t4
  obtain rfl : args = #[v0, v1, v2, v3, v4] := by cases args; simp_all
  obtain ⟨rfl, rfl⟩ := trodVars_none hV
  have k2 := h2
  have k3 := h3
  have lt2 : ∀ x ∈ p2, x.block < W.heap.size := by obtain ⟨m, hm⟩ := k2; exact DataW.trod_lt m _ _ _ hm
  have lt3 : ∀ x ∈ p3, x.block < W.heap.size := by obtain ⟨m, hm⟩ := k3; exact DataW.trod_lt m _ _ _ hm
  obtain ⟨a0, rfl, rfl, rfl, w0⟩ := open_int Try.underlying3 (hval 0 3 v0 rfl rfl) h0
  obtain ⟨a1, rfl, rfl, rfl, w1⟩ := open_int Try.underlying2 (hval 1 2 v1 rfl rfl) h1
  obtain ⟨a4, rfl, rfl, rfl, w4⟩ := open_int Try.underlying3 (hval 4 3 v4 rfl rfl) h4
  have i2 := Dg.ints_arg Try.underlying22 Try.underlying2 (by kernel_rfl) (hval 2 22 v2 rfl rfl) h2
  have i3 := Dg.ints_arg Try.underlying22 Try.underlying2 (by kernel_rfl) (hval 3 22 v3 rfl rfl) h3
  have hcall := walk W a0 a1 a4 (Dg.wf_i64 w1).2 v2 v3 i2 i3
  clear hA0 hval0
  simp only [List.append_nil, List.nil_append] at hW'
  refine hcall.mono fun e W' ⟨he, bel⟩ => ?_
  subst he
  exact ⟨_, rfl, _, _, _, [], _, [], hW', trodAll_mk1 (shut_bool Try.underlying4 _), trodAll_cons_mk (shut_int Try.underlying3 w0) (trodAll_cons_mk (shut_int Try.underlying2 w1) (trodAll_cons_mk (Below.trod laidOut (by kernel_rfl) (of_decide_eq_true (by kernel_rfl)) k2 bel lt2) (trodAll_cons_mk (Below.trod laidOut (by kernel_rfl) (of_decide_eq_true (by kernel_rfl)) k3 bel lt3) (trodAll_cons_mk (shut_int Try.underlying3 w4) trodAll_mk0)))), rfl, bel.frame _, fun h => by cases h⟩

theorem over : Rows.shiftStepsRow.holds Try.pinned (OpenSpec.ofChange Rows.shiftStepsSpec) :=
  OpenClaim.holds_of_wide 4 Try.f4 rfl rfl rfl rfl rfl rfl rfl ⟨rfl, rfl, rfl, rfl, rfl⟩ rfl rfl rfl rfl rfl (by kernel_rfl) Try.func4 (by kernel_rfl)
    (of_decide_eq_true (by kernel_rfl)) (by unfold Func.isWrapper; first | (rw [if_pos (by decide +kernel)]; kernel_rfl) | (rw [if_neg (by decide +kernel)]; exact ⟨rfl, rfl⟩))
    (fun os started H enc _ => lifted os started H enc)

theorem proved : Rows.ShiftStepsSaid := over
#print axioms proved
end Go.Proofs.Ytafhlmpifdclaaa.shiftSteps
