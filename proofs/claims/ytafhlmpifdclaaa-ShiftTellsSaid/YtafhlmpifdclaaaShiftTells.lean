/- PROVED: 'horologelaw34.ShiftTells' returns true at every width, bound, offsets, delays and place, in whatever memory, and leaves what was there as it was. Conditions: none. -/
import Derived.Test.YtafhlmpifdclaaaRows
import Derived.Test.YtafhlmpifdclaaaShiftRun
import Derived.WalkKit
import Derived.ProofKit
import Derived.OpenShut
namespace Go.Proofs.Ytafhlmpifdclaaa.shiftTells
open Go.ChangeShapes Go.WideShapes Go.ChangeAt Go.RowKit
open Go.Dg (junk St Ex Ev Hint evCall evCallS evCode evLoop cleanSt ue bodied noOver sbOf headOf tailOf bodyOf Flats flatOver Heap AObj)
open Go.Proofs.Ytafhlmpifdclaaa.shift
set_option linter.unusedVariables false

/-! ### All cases. -/
theorem both (w b at' : Int) (lx cx ly cy e1 e2 : Nat) (xs ys : List Int) (hb1 : b < 9223372036854775808) (hcx : lx ≤ cx) (hcy : ly ≤ cy) (hxl : xs.length = cx) (hyl : ys.length = cy) (hx : ∀ x ∈ xs, In x) :
    (ev3 [.int .i64 w, .int .i64 b, aX lx cx, aY ly cy, .int .i64 at'] ⟨2, [oY ys e2, oX xs e1]⟩).map (·.1) = some (.bool true) := by
  have key : ev3 [.int .i64 w, .int .i64 b, aX lx cx, aY ly cy, .int .i64 at'] ⟨2, [oY ys e2, oX xs e1]⟩ = some (.bool true, ⟨2, [oY ys e2, oX xs e1]⟩, []) := by
    by_cases hn : min lx ly ≤ 200
    · by_cases h1 : w < 1
      · exact run_XY_low lx cx ly cy _ e1 e2 xs ys rfl w b at' hn h1
      · by_cases h2 : 64 < w
        · exact run_XY_high lx cx ly cy _ e1 e2 xs ys rfl w b at' hn h2
        · by_cases h3 : b < 0
          · exact run_XY_neg lx cx ly cy _ e1 e2 xs ys rfl w b at' hn (by omega) (by omega) h3
          · obtain ⟨k, rfl⟩ : ∃ k : Nat, w = (k : Int) := ⟨w.toNat, by omega⟩
            rcases Nat.eq_zero_or_pos (min lx ly) with h0 | h0
            · exact run_XY_ok_zero lx cx ly cy e1 e2 xs ys h0.symm k b at' (by omega) (by omega) (by omega) (by omega) hcx hcy hxl hyl hx
            · obtain ⟨m, hm⟩ : ∃ m, min lx ly = m + 1 := ⟨min lx ly - 1, by omega⟩
              exact run_XY_ok_more lx cx ly cy m e1 e2 xs ys hm.symm k b at' (by omega) (by omega) (by omega) (by omega) hcx hcy hxl hyl hx
    · exact run_XY_many lx cx ly cy _ e1 e2 xs ys rfl w b at' (by omega)
  rw [key]
  rfl
theorem left_nil (w b at' : Int) (ly cy e2 : Nat) (ys : List Int) (hb1 : b < 9223372036854775808) :
    (ev3 [.int .i64 w, .int .i64 b, .slice none 0 0, aX ly cy, .int .i64 at'] ⟨1, [oX ys e2]⟩).map (·.1) = some (.bool true) := by
  have key : ev3 [.int .i64 w, .int .i64 b, .slice none 0 0, aX ly cy, .int .i64 at'] ⟨1, [oX ys e2]⟩ = some (.bool true, ⟨1, [oX ys e2]⟩, []) := by
    by_cases h1 : w < 1
    · exact run_NY_low ly cy e2 ys w b at' h1
    · by_cases h2 : 64 < w
      · exact run_NY_high ly cy e2 ys w b at' h2
      · by_cases h3 : b < 0
        · exact run_NY_neg ly cy e2 ys w b at' (by omega) (by omega) h3
        · obtain ⟨k, rfl⟩ : ∃ k : Nat, w = (k : Int) := ⟨w.toNat, by omega⟩
          exact run_NY_ok ly cy e2 ys k b at' (by omega) (by omega) (by omega)
  rw [key]
  rfl
theorem right_nil (w b at' : Int) (lx cx e1 : Nat) (xs : List Int) (hb1 : b < 9223372036854775808) :
    (ev3 [.int .i64 w, .int .i64 b, aX lx cx, .slice none 0 0, .int .i64 at'] ⟨1, [oX xs e1]⟩).map (·.1) = some (.bool true) := by
  have key : ev3 [.int .i64 w, .int .i64 b, aX lx cx, .slice none 0 0, .int .i64 at'] ⟨1, [oX xs e1]⟩ = some (.bool true, ⟨1, [oX xs e1]⟩, []) := by
    by_cases h1 : w < 1
    · exact run_XN_low lx cx e1 xs w b at' h1
    · by_cases h2 : 64 < w
      · exact run_XN_high lx cx e1 xs w b at' h2
      · by_cases h3 : b < 0
        · exact run_XN_neg lx cx e1 xs w b at' (by omega) (by omega) h3
        · obtain ⟨k, rfl⟩ : ∃ k : Nat, w = (k : Int) := ⟨w.toNat, by omega⟩
          exact run_XN_ok lx cx e1 xs k b at' (by omega) (by omega) (by omega)
  rw [key]
  rfl
theorem none_is (w b at' : Int) (hb1 : b < 9223372036854775808) : (ev3 [.int .i64 w, .int .i64 b, .slice none 0 0, .slice none 0 0, .int .i64 at'] ⟨0, []⟩).map (·.1) = some (.bool true) := by
  have key : ev3 [.int .i64 w, .int .i64 b, .slice none 0 0, .slice none 0 0, .int .i64 at'] ⟨0, []⟩ = some (.bool true, ⟨0, []⟩, []) := by
    by_cases h1 : w < 1
    · exact run_NN_low w b at' h1
    · by_cases h2 : 64 < w
      · exact run_NN_high w b at' h2
      · by_cases h3 : b < 0
        · exact run_NN_neg w b at' (by omega) (by omega) h3
        · obtain ⟨k, rfl⟩ : ∃ k : Nat, w = (k : Int) := ⟨w.toNat, by omega⟩
          exact run_NN_ok k b at' (by omega) (by omega) (by omega)
  rw [key]
  rfl
/-- A slice of integers: nil, or a row of cells. -/
def Ints (w : World) (v : Value) : Prop := v = .slice none 0 0 ∨ ∃ (b off len cap : Nat) (zs : List Int) (e' : TypeId), v = .slice (some ⟨b, off, none⟩) len cap ∧ len ≤ cap ∧ cap ≤ maxLen ∧ zs.length = cap ∧ (∀ n ∈ zs, (Lit.int .i64 n).wf = true) ∧
      ∀ M N, Dg.ObjRel M N w (.cells (zs.map (Value.int .i64 ·)) e' 2 1) b off 0
theorem walk (W : World) (w b at' : Int) (hb : b < 9223372036854775808) (vx vy : Value) (hx : Ints W vx) (hy : Ints W vy) :
    Calls Try.prog 3 #[.int .i64 w, .int .i64 b, vx, vy, .int .i64 at'] W fun e W' => e = .returned (.bool true) ∧ Below W.heap.size W W' := by
  have F : ∀ v, Dg.flat v = true → ∀ M, Dg.VRel M v v := fun v h M => Dg.vrel_of_flat _ _ h
  rcases hx with rfl | ⟨bx, ox, lx, cx, xs, e1, rfl, hlx, _, hxl, hwx, hox⟩
  · rcases hy with rfl | ⟨by', oy, ly, cy, ys, e2, rfl, hly, _, hyl, hwy, hoy⟩
    · exact (Dg.closed_call mixed (Dg.bodied_ok _) over3_ok (sb := sbs3) (lf := 1000) (n := 20) (none_is w b at' hb) rfl rfl).2.2 W
    · refine Dg.open_call mixed (Dg.bodied_ok _) over3_ok [(by', oy, .cells (ys.map (Value.int .i64 ·)) e2 2 1)] (by simp; exact ⟨rfl, hoy⟩) (args := [.int .i64 w, .int .i64 b, .slice none 0 0, .slice (some ⟨0, 0, none⟩) ly cy, .int .i64 at']) ?_ (sb := sbs3) (lf := 1000) (n := 20) (left_nil w b at' ly cy e2 ys hb) rfl
      exact Dg.LRel.cons (F _ rfl _) (Dg.LRel.cons (F _ rfl _) (Dg.LRel.cons (F _ rfl _) (Dg.LRel.cons (Dg.VRel.slx (k := 0) (off := 0) (b := by') (o := oy) (sp := 0) rfl) (Dg.LRel.cons (F _ rfl _) Dg.LRel.nil))))
  · have hIn : ∀ x ∈ xs, In x := fun x hx => Dg.wf_i64 (hwx x hx)
    rcases hy with rfl | ⟨by', oy, ly, cy, ys, e2, rfl, hly, _, hyl, hwy, hoy⟩
    · refine Dg.open_call mixed (Dg.bodied_ok _) over3_ok [(bx, ox, .cells (xs.map (Value.int .i64 ·)) e1 2 1)] (by simp; exact ⟨rfl, hox⟩) (args := [.int .i64 w, .int .i64 b, .slice (some ⟨0, 0, none⟩) lx cx, .slice none 0 0, .int .i64 at']) ?_ (sb := sbs3) (lf := 1000) (n := 20) (right_nil w b at' lx cx e1 xs hb) rfl
      exact Dg.LRel.cons (F _ rfl _) (Dg.LRel.cons (F _ rfl _) (Dg.LRel.cons (Dg.VRel.slx (k := 0) (off := 0) (b := bx) (o := ox) (sp := 0) rfl) (Dg.LRel.cons (F _ rfl _) (Dg.LRel.cons (F _ rfl _) Dg.LRel.nil))))
    · refine Dg.open_call mixed (Dg.bodied_ok _) over3_ok [(bx, ox, .cells (xs.map (Value.int .i64 ·)) e1 2 1), (by', oy, .cells (ys.map (Value.int .i64 ·)) e2 2 1)] ?_ (args := [.int .i64 w, .int .i64 b, .slice (some ⟨0, 0, none⟩) lx cx, .slice (some ⟨1, 0, none⟩) ly cy, .int .i64 at']) ?_ (sb := sbs3) (lf := 1000) (n := 20) (both w b at' lx cx ly cy e1 e2 xs ys hb hlx hly hxl hyl hIn) rfl
      · intro x hx
        simp only [List.mem_cons, List.not_mem_nil, or_false] at hx
        rcases hx with rfl | rfl
        · exact ⟨rfl, hox⟩
        · exact ⟨rfl, hoy⟩
      · exact Dg.LRel.cons (F _ rfl _) (Dg.LRel.cons (F _ rfl _) (Dg.LRel.cons (Dg.VRel.slx (k := 0) (off := 0) (b := bx) (o := ox) (sp := 0) rfl) (Dg.LRel.cons (Dg.VRel.slx (k := 1) (off := 0) (b := by') (o := oy) (sp := 0) rfl) (Dg.LRel.cons (F _ rfl _) Dg.LRel.nil))))

/-! ### The row. -/
theorem ownKnob_is : ownKnob Try.prog.godebug = none := by kernel_rfl
theorem laidOut : laidOutB Try.prog = true := by kernel_rfl
set_option maxRecDepth 100000 in
theorem lifted (os : Os) (started : os.Started) (H : Type) (enc : TypeId × Value → H) :
    ReturnsInHanded {} Try.checked os 3 .any (Rows.shiftTellsSpec.pre6 enc Try.prog Try.f3 Rows.shiftTellsRow.domain false) (Rows.shiftTellsSpec.post enc Try.prog Try.f3 false true false false) := by
  refine returnsInHanded_of_change (C := Try.checked) ownKnob_is started (by kernel_rfl) Try.func3
    (ChangeSpec.witness6 (enc := enc) (C := Try.checked) false ⟨#[], #[.int .i64 0, .int .i64 0, .slice none 0 0, .slice none 0 0, .int .i64 0], []⟩ 8 (by kernel_rfl) (by kernel_rfl) (by kernel_rfl) (by kernel_rfl)) ?_
  intro W base args ds gs before hval0 hW hcnd _
  have hval : ∀ (j : Nat) t v, Try.f3.params[j]? = some t → args[j]? = some v → Value.okWide Try.prog W .any base t v := hval0
  have hW' := hW
  obtain ⟨p, q, hA0, hV, rfl, hfz, hnd⟩ := hW
  have hA : DataW.TrodAll enc Try.prog W 0 (fun _ => true) true Try.f3.params.toList args.toList ds p := hA0
  rw [Try.params3] at hA hval
  obtain ⟨v0, vs0, d0, ds0, p0, q0, hargs, rfl, rfl, h0, t0⟩ := trodAll_cons hA
  obtain ⟨v1, vs1, d1, ds1, p1, q1, rfl, rfl, rfl, h1, t1⟩ := trodAll_cons t0
  obtain ⟨v2, vs2, d2, ds2, p2, q2, rfl, rfl, rfl, h2, t2⟩ := trodAll_cons t1
  obtain ⟨v3, vs3, d3, ds3, p3, q3, rfl, rfl, rfl, h3, t3⟩ := trodAll_cons t2
  obtain ⟨v4, vs4, d4, ds4, p4, q4, rfl, rfl, rfl, h4, t4⟩ := trodAll_cons t3
  obtain ⟨rfl, rfl, rfl⟩ := trodAll_nil t4
  obtain rfl : args = #[v0, v1, v2, v3, v4] := by cases args; simp_all
  obtain ⟨rfl, rfl⟩ := trodVars_none hV
  have k2 := h2
  have k3 := h3
  have lt2 : ∀ x ∈ p2, x.block < W.heap.size := by obtain ⟨m, hm⟩ := k2; exact DataW.trod_lt m _ _ _ hm
  have lt3 : ∀ x ∈ p3, x.block < W.heap.size := by obtain ⟨m, hm⟩ := k3; exact DataW.trod_lt m _ _ _ hm
  obtain ⟨a0, rfl, rfl, rfl, w0⟩ := open_int Try.underlying3 (hval 0 3 v0 rfl rfl) h0
  obtain ⟨a1, rfl, rfl, rfl, w1⟩ := open_int Try.underlying2 (hval 1 2 v1 rfl rfl) h1
  obtain ⟨a4, rfl, rfl, rfl, w4⟩ := open_int Try.underlying3 (hval 4 3 v4 rfl rfl) h4
  have i2 := Dg.ints_arg Try.underlying22 Try.underlying2 (by kernel_rfl) (hval 2 22 v2 rfl rfl) h2
  have i3 := Dg.ints_arg Try.underlying22 Try.underlying2 (by kernel_rfl) (hval 3 22 v3 rfl rfl) h3
  have hcall := walk W a0 a1 a4 (Dg.wf_i64 w1).2 v2 v3 i2 i3
  clear hA0 hval0
  simp only [List.append_nil, List.nil_append] at hW'
  refine hcall.mono fun e W' ⟨he, bel⟩ => ?_
  subst he
  exact ⟨_, rfl, _, _, _, [], _, [], hW', trodAll_mk1 (shut_bool Try.underlying4 _), trodAll_cons_mk (shut_int Try.underlying3 w0) (trodAll_cons_mk (shut_int Try.underlying2 w1) (trodAll_cons_mk (Below.trod laidOut (by kernel_rfl) (of_decide_eq_true (by kernel_rfl)) k2 bel lt2) (trodAll_cons_mk (Below.trod laidOut (by kernel_rfl) (of_decide_eq_true (by kernel_rfl)) k3 bel lt3) (trodAll_cons_mk (shut_int Try.underlying3 w4) trodAll_mk0)))), rfl, bel.frame _, fun h => by cases h⟩

theorem over : Rows.shiftTellsRow.holds Try.pinned (OpenSpec.ofChange Rows.shiftTellsSpec) :=
  OpenClaim.holds_of_wide 3 Try.f3 rfl rfl rfl rfl rfl rfl rfl ⟨rfl, rfl, rfl, rfl, rfl⟩ rfl rfl rfl rfl rfl (by kernel_rfl) Try.func3 (by kernel_rfl)
    (of_decide_eq_true (by kernel_rfl)) (by unfold Func.isWrapper; first | (rw [if_pos (by decide +kernel)]; kernel_rfl) | (rw [if_neg (by decide +kernel)]; exact ⟨rfl, rfl⟩))
    (fun os started H enc _ => lifted os started H enc)

theorem proved : Rows.ShiftTellsSaid := over
#print axioms proved
end Go.Proofs.Ytafhlmpifdclaaa.shiftTells
