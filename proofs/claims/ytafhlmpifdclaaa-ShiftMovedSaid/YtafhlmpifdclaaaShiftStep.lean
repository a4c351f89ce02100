/- What the document's 'Step' comes to: for the laws of layer 34. -/
import Derived.Test.YtafhlmpifdclaaaRows
import Derived.Test.YtafhlmpifdclaaaShiftDet
namespace Go.Proofs.Ytafhlmpifdclaaa.shift
open Go.Dg (junk St Ex Ev Hint evCall evCallS evCode evCodeS evLoop cleanSt ue bodied noOver sbOf headOf tailOf bodyOf Flats flatOver Heap AObj SCall Law ofLaw)
set_option linter.unusedVariables false
set_option linter.unusedSimpArgs false

theorem i64s_inj : ∀ (a b : List Int), i64s a = i64s b → a = b := by
  intro a
  induction a with
  | nil => intro b h; cases b with
    | nil => rfl
    | cons y s => simp [i64s] at h
  | cons x r ih =>
    intro b h
    cases b with
    | nil => simp [i64s] at h
    | cons y s =>
      simp only [i64s, List.map_cons, List.cons.injEq, Value.int.injEq, true_and] at h
      rw [ih s h.2, h.1]
def C20 : Law := fun args H r => ∃ kx ky e1 m1 z1 e2 m2 z2 lx cx ly cy f T sx sy xs ys, args = [.slice (some ⟨kx, 0, sx⟩) lx cx, .slice (some ⟨ky, 0, sy⟩) ly cy, .int .i64 ((f : Nat) : Int), .int .i64 ((f + T : Nat) : Int)] ∧ kx ≠ ky ∧
  H.get kx = .cells (i64s xs) e1 (m1 + 4) z1 ∧ H.get ky = .cells (i64s ys) e2 (m2 + 4) z2 ∧ 0 < T ∧ f + T ≤ 900 ∧ f + T ≤ ly ∧ ly ≤ ys.length ∧ f + T ≤ lx ∧ lx ≤ xs.length ∧ r = (.int .i64 (bst (qr xs ys f) (T - 1)).1, H, [])
theorem u20 (args : List Value) (H : Heap) (r r' : Value × Heap × List Nat) (h : C20 args H r) (h' : C20 args H r') : r = r' := by
  obtain ⟨kx, ky, e1, m1, z1, e2, m2, z2, lx, cx, ly, cy, f, T, sx, sy, xs, ys, rfl, _, hx, hy, _, _, _, _, _, _, rfl⟩ := h
  obtain ⟨kx', ky', e1', m1', z1', e2', m2', z2', lx', cx', ly', cy', f', T', sx', sy', xs', ys', ha, _, hx', hy', _, _, _, _, _, _, rfl⟩ := h'
  simp only [List.cons.injEq, Value.slice.injEq, Value.int.injEq, Option.some.injEq, Addr.mk.injEq, and_true, true_and] at ha
  obtain ⟨⟨⟨rfl, rfl⟩, rfl, rfl⟩, ⟨⟨rfl, rfl⟩, rfl, rfl⟩, h3, h4⟩ := ha
  rw [hx] at hx'
  rw [hy] at hy'
  simp only [AObj.cells.injEq] at hx' hy'
  obtain rfl := i64s_inj _ _ hx'.1
  obtain rfl := i64s_inj _ _ hy'.1
  obtain rfl : f = f' := by omega
  obtain rfl : T = T' := by omega
  rfl
noncomputable def over2 : Ev := fun f args H => match f with
  | 20 => ofLaw C20 args H
  | 21 => ofLaw C19 args H
  | _ => none
theorem over2_ok : Dg.CallOk Try.prog 0 over2 ∧ Dg.CallLog over2 := Dg.over_ok (by
  intro f args H v H' log h
  unfold over2 at h
  split at h
  · obtain ⟨kx, ky, e1, m1, z1, e2, m2, z2, lx, cx, ly, cy, f, T, sx, sy, xs, ys, rfl, hne, hx, hy, h1, h2, h3, h4, h5, h6, hr⟩ := Dg.ofLaw_inv h
    simp only [Prod.mk.injEq] at hr
    obtain ⟨rfl, rfl, rfl⟩ := hr
    exact ref_best_is hne hx hy h1 h2 h3 h4 h5 h6
  · obtain ⟨a, b, t, rfl, h1, h2, h3, hr⟩ := Dg.ofLaw_inv h
    simp only [Prod.mk.injEq] at hr
    obtain ⟨rfl, rfl, rfl⟩ := hr
    exact SCall.of_flats (apartR_is a b t h1 h2 h3) _
  · cases h)
theorem call20 {xs ys : List Int} {H : Heap} {e1 m1 z1 e2 m2 z2 lx cx ly cy f T : Nat} {sx sy : Option Nat} (hx : H.get 0 = .cells (i64s xs) e1 (m1 + 4) z1) (hy : H.get 1 = .cells (i64s ys) e2 (m2 + 4) z2) (h0 : 0 < T) (h1 : f + T ≤ 900) (h2 : f + T ≤ ly) (h3 : ly ≤ ys.length) (h4 : f + T ≤ lx) (h5 : lx ≤ xs.length) :
    over2 20 [aO sx lx cx, aD sy ly cy, .int .i64 (f : Int), .int .i64 ((f + T : Nat) : Int)] H = some (.int .i64 (bst (qr xs ys f) (T - 1)).1, H, []) :=
  Dg.ofLaw_is u20 ⟨0, 1, e1, m1, z1, e2, m2, z2, lx, cx, ly, cy, f, T, sx, sy, xs, ys, rfl, by decide, hx, hy, h0, h1, h2, h3, h4, h5, rfl⟩
theorem call21 {H : Heap} {a b t : Int} {r : Bool} (ha : In a) (hb : In b) (ht : 0 ≤ t ∧ t < 9223372036854775808) (h : apartB a b t = r) : over2 21 [.int .i64 a, .int .i64 b, .int .i64 t] H = some (.bool r, H, []) :=
  Dg.ofLaw_is u19 ⟨a, b, t, rfl, ha, hb, ht, by rw [h]⟩

/-! ### 'Step' -/
theorem step_low_true (xs ys : List Int) (e1 m1 z1 e2 m2 z2 : Nat) (sx sy : Option Nat) (lx cx ly cy w : Nat) (b : Int) (k : Int) (hk : k < w) (hn : ly < lx) (hw : 0 < w) (hw1 : w ≤ 64) (hb : 0 ≤ b ∧ b < 9223372036854775808) (hlx : lx ≤ 900) (hly : ly ≤ 900) : evCall Try.prog 0 (bodied Try.prog) over2 sbs 1000 20 12 [.int .i64 (w : Int), .int .i64 b, aO sx lx cx, aD sy ly cy, .int .i64 k] (H20 xs ys e1 m1 z1 e2 m2 z2) = some (.tuple #[.bool false, .int .i64 0, .int .i64 0], H20 xs ys e1 m1 z1 e2 m2 z2, []) :=
  Dg.evCall_hint (hs := [.val 12 21 (.bool true),
    .val 12 25 (.bool false),
    .val 12 28 (.bool false),
    .val 12 32 (.bool false),
    .val 12 37 (.bool true)]) (hs' := []) [Value.bool (decide ((ly : Int) < lx)) = .bool true,
    Value.bool (decide ((w : Int) < 1)) = .bool false,
    Value.bool (decide ((64 : Int) < w)) = .bool false,
    Value.bool (decide (b < 0)) = .bool false,
    Value.bool (decide (k < (w : Int))) = .bool true] (by kernel_rfl)
    ⟨Dg.vtrue (by omega), Dg.vfalse (by omega), Dg.vfalse (by omega), Dg.vfalse (by omega), Dg.vtrue (by omega), trivial⟩

theorem step_high_true (xs ys : List Int) (e1 m1 z1 e2 m2 z2 : Nat) (sx sy : Option Nat) (lx cx ly cy w : Nat) (b : Int) (j : Nat) (hj : j ≤ 900) (hk : ly < j + w + w) (hn : ly < lx) (hw : 0 < w) (hw1 : w ≤ 64) (hb : 0 ≤ b ∧ b < 9223372036854775808) (hlx : lx ≤ 900) (hly : ly ≤ 900) : evCall Try.prog 0 (bodied Try.prog) over2 sbs 1000 20 12 [.int .i64 (w : Int), .int .i64 b, aO sx lx cx, aD sy ly cy, .int .i64 ((j + w : Nat) : Int)] (H20 xs ys e1 m1 z1 e2 m2 z2) = some (.tuple #[.bool false, .int .i64 0, .int .i64 0], H20 xs ys e1 m1 z1 e2 m2 z2, []) :=
  Dg.evCall_hint (hs := [.val 12 21 (.bool true),
    .val 12 25 (.bool false),
    .val 12 28 (.bool false),
    .val 12 32 (.bool false),
    .val 12 37 (.bool false),
    .val 12 42 (.int .i64 (((j + w + w : Nat) : Int))),
    .val 12 44 (.bool true)]) (hs' := []) [Value.bool (decide ((ly : Int) < lx)) = .bool true,
    Value.bool (decide ((w : Int) < 1)) = .bool false,
    Value.bool (decide ((64 : Int) < w)) = .bool false,
    Value.bool (decide (b < 0)) = .bool false,
    Value.bool (decide (((j + w : Nat) : Int) < (w : Int))) = .bool false,
    Value.int .i64 (IntKind.i64.wrap (((j + w : Nat) : Int) + (w : Int))) = .int .i64 (((j + w + w : Nat) : Int)),
    Value.bool (decide ((ly : Int) < ((j + w + w : Nat) : Int))) = .bool true] (by kernel_rfl)
    ⟨Dg.vtrue (by omega), Dg.vfalse (by omega), Dg.vfalse (by omega), Dg.vfalse (by omega), Dg.vfalse (by omega), Dg.i64_eq (by omega) (by omega) (by omega), Dg.vtrue (by omega), trivial⟩

theorem step_mid_true_true (xs ys : List Int) (e1 m1 z1 e2 m2 z2 : Nat) (sx sy : Option Nat) (lx cx ly cy w : Nat) (b : Int) (j : Nat) (hk : j + w + w ≤ ly) (hxl : lx ≤ xs.length) (hyl : ly ≤ ys.length) (h1 : In (bst (qr xs ys j) (w - 1)).1) (h2 : In (bst (qr xs ys (j + w)) (w - 1)).1) (hap : apartB (bst (qr xs ys j) (w - 1)).1 (bst (qr xs ys (j + w)) (w - 1)).1 b = true) (hn : ly < lx) (hw : 0 < w) (hw1 : w ≤ 64) (hb : 0 ≤ b ∧ b < 9223372036854775808) (hlx : lx ≤ 900) (hly : ly ≤ 900) : evCall Try.prog 0 (bodied Try.prog) over2 sbs 1000 20 12 [.int .i64 (w : Int), .int .i64 b, aO sx lx cx, aD sy ly cy, .int .i64 ((j + w : Nat) : Int)] (H20 xs ys e1 m1 z1 e2 m2 z2) = some (.tuple #[.bool true, .int .i64 (bst (qr xs ys j) (w - 1)).1, .int .i64 (bst (qr xs ys (j + w)) (w - 1)).1], H20 xs ys e1 m1 z1 e2 m2 z2, []) :=
  Dg.evCall_hint (hs := [.val 12 21 (.bool true),
    .val 12 25 (.bool false),
    .val 12 28 (.bool false),
    .val 12 32 (.bool false),
    .val 12 37 (.bool false),
    .val 12 42 (.int .i64 (((j + w + w : Nat) : Int))),
    .val 12 44 (.bool false),
    .val 12 50 (.int .i64 ((j : Int))),
    .call 20 (.int .i64 (bst (qr xs ys j) (w - 1)).1) (H20 xs ys e1 m1 z1 e2 m2 z2) [],
    .val 12 58 (.int .i64 (((j + w + w : Nat) : Int))),
    .call 20 (.int .i64 (bst (qr xs ys (j + w)) (w - 1)).1) (H20 xs ys e1 m1 z1 e2 m2 z2) [],
    .call 21 (.bool true) ⟨0, []⟩ []]) (hs' := []) [Value.bool (decide ((ly : Int) < lx)) = .bool true,
    Value.bool (decide ((w : Int) < 1)) = .bool false,
    Value.bool (decide ((64 : Int) < w)) = .bool false,
    Value.bool (decide (b < 0)) = .bool false,
    Value.bool (decide (((j + w : Nat) : Int) < (w : Int))) = .bool false,
    Value.int .i64 (IntKind.i64.wrap (((j + w : Nat) : Int) + (w : Int))) = .int .i64 (((j + w + w : Nat) : Int)),
    Value.bool (decide ((ly : Int) < ((j + w + w : Nat) : Int))) = .bool false,
    Value.int .i64 (IntKind.i64.wrap (((j + w : Nat) : Int) - (w : Int))) = .int .i64 ((j : Int)),
    evCall Try.prog 0 (bodied Try.prog) over2 sbs 1000 19 20 [aO sx lx cx, aD sy ly cy, .int .i64 (j : Int), .int .i64 ((j + w : Nat) : Int)] (H20 xs ys e1 m1 z1 e2 m2 z2) = some (.int .i64 (bst (qr xs ys j) (w - 1)).1, H20 xs ys e1 m1 z1 e2 m2 z2, []),
    Value.int .i64 (IntKind.i64.wrap (((j + w : Nat) : Int) + (w : Int))) = .int .i64 (((j + w + w : Nat) : Int)),
    evCall Try.prog 0 (bodied Try.prog) over2 sbs 1000 19 20 [aO sx lx cx, aD sy ly cy, .int .i64 ((j + w : Nat) : Int), .int .i64 ((j + w + w : Nat) : Int)] (H20 xs ys e1 m1 z1 e2 m2 z2) = some (.int .i64 (bst (qr xs ys (j + w)) (w - 1)).1, H20 xs ys e1 m1 z1 e2 m2 z2, []),
    evCall Try.prog 0 (bodied Try.prog) over2 sbs 1000 19 21 [.int .i64 (bst (qr xs ys j) (w - 1)).1, .int .i64 (bst (qr xs ys (j + w)) (w - 1)).1, .int .i64 b] ⟨0, []⟩ = some (.bool true, ⟨0, []⟩, [])] (by kernel_rfl)
    ⟨Dg.vtrue (by omega), Dg.vfalse (by omega), Dg.vfalse (by omega), Dg.vfalse (by omega), Dg.vfalse (by omega), Dg.i64_eq (by omega) (by omega) (by omega), Dg.vfalse (by omega), Dg.i64_eq (by omega) (by omega) (by omega), Dg.evCall_over (call20 rfl rfl hw (by omega) (by omega) hyl (by omega) hxl), Dg.i64_eq (by omega) (by omega) (by omega), Dg.evCall_over (call20 rfl rfl hw (by omega) (by omega) hyl (by omega) hxl), Dg.evCall_over (call21 h1 h2 hb hap), trivial⟩

theorem step_mid_true_false (xs ys : List Int) (e1 m1 z1 e2 m2 z2 : Nat) (sx sy : Option Nat) (lx cx ly cy w : Nat) (b : Int) (j : Nat) (hk : j + w + w ≤ ly) (hxl : lx ≤ xs.length) (hyl : ly ≤ ys.length) (h1 : In (bst (qr xs ys j) (w - 1)).1) (h2 : In (bst (qr xs ys (j + w)) (w - 1)).1) (hap : apartB (bst (qr xs ys j) (w - 1)).1 (bst (qr xs ys (j + w)) (w - 1)).1 b = false) (hn : ly < lx) (hw : 0 < w) (hw1 : w ≤ 64) (hb : 0 ≤ b ∧ b < 9223372036854775808) (hlx : lx ≤ 900) (hly : ly ≤ 900) : evCall Try.prog 0 (bodied Try.prog) over2 sbs 1000 20 12 [.int .i64 (w : Int), .int .i64 b, aO sx lx cx, aD sy ly cy, .int .i64 ((j + w : Nat) : Int)] (H20 xs ys e1 m1 z1 e2 m2 z2) = some (.tuple #[.bool false, .int .i64 0, .int .i64 0], H20 xs ys e1 m1 z1 e2 m2 z2, []) :=
  Dg.evCall_hint (hs := [.val 12 21 (.bool true),
    .val 12 25 (.bool false),
    .val 12 28 (.bool false),
    .val 12 32 (.bool false),
    .val 12 37 (.bool false),
    .val 12 42 (.int .i64 (((j + w + w : Nat) : Int))),
    .val 12 44 (.bool false),
    .val 12 50 (.int .i64 ((j : Int))),
    .call 20 (.int .i64 (bst (qr xs ys j) (w - 1)).1) (H20 xs ys e1 m1 z1 e2 m2 z2) [],
    .val 12 58 (.int .i64 (((j + w + w : Nat) : Int))),
    .call 20 (.int .i64 (bst (qr xs ys (j + w)) (w - 1)).1) (H20 xs ys e1 m1 z1 e2 m2 z2) [],
    .call 21 (.bool false) ⟨0, []⟩ []]) (hs' := []) [Value.bool (decide ((ly : Int) < lx)) = .bool true,
    Value.bool (decide ((w : Int) < 1)) = .bool false,
    Value.bool (decide ((64 : Int) < w)) = .bool false,
    Value.bool (decide (b < 0)) = .bool false,
    Value.bool (decide (((j + w : Nat) : Int) < (w : Int))) = .bool false,
    Value.int .i64 (IntKind.i64.wrap (((j + w : Nat) : Int) + (w : Int))) = .int .i64 (((j + w + w : Nat) : Int)),
    Value.bool (decide ((ly : Int) < ((j + w + w : Nat) : Int))) = .bool false,
    Value.int .i64 (IntKind.i64.wrap (((j + w : Nat) : Int) - (w : Int))) = .int .i64 ((j : Int)),
    evCall Try.prog 0 (bodied Try.prog) over2 sbs 1000 19 20 [aO sx lx cx, aD sy ly cy, .int .i64 (j : Int), .int .i64 ((j + w : Nat) : Int)] (H20 xs ys e1 m1 z1 e2 m2 z2) = some (.int .i64 (bst (qr xs ys j) (w - 1)).1, H20 xs ys e1 m1 z1 e2 m2 z2, []),
    Value.int .i64 (IntKind.i64.wrap (((j + w : Nat) : Int) + (w : Int))) = .int .i64 (((j + w + w : Nat) : Int)),
    evCall Try.prog 0 (bodied Try.prog) over2 sbs 1000 19 20 [aO sx lx cx, aD sy ly cy, .int .i64 ((j + w : Nat) : Int), .int .i64 ((j + w + w : Nat) : Int)] (H20 xs ys e1 m1 z1 e2 m2 z2) = some (.int .i64 (bst (qr xs ys (j + w)) (w - 1)).1, H20 xs ys e1 m1 z1 e2 m2 z2, []),
    evCall Try.prog 0 (bodied Try.prog) over2 sbs 1000 19 21 [.int .i64 (bst (qr xs ys j) (w - 1)).1, .int .i64 (bst (qr xs ys (j + w)) (w - 1)).1, .int .i64 b] ⟨0, []⟩ = some (.bool false, ⟨0, []⟩, [])] (by kernel_rfl)
    ⟨Dg.vtrue (by omega), Dg.vfalse (by omega), Dg.vfalse (by omega), Dg.vfalse (by omega), Dg.vfalse (by omega), Dg.i64_eq (by omega) (by omega) (by omega), Dg.vfalse (by omega), Dg.i64_eq (by omega) (by omega) (by omega), Dg.evCall_over (call20 rfl rfl hw (by omega) (by omega) hyl (by omega) hxl), Dg.i64_eq (by omega) (by omega) (by omega), Dg.evCall_over (call20 rfl rfl hw (by omega) (by omega) hyl (by omega) hxl), Dg.evCall_over (call21 h1 h2 hb hap), trivial⟩

theorem step_low_false (xs ys : List Int) (e1 m1 z1 e2 m2 z2 : Nat) (sx sy : Option Nat) (lx cx ly cy w : Nat) (b : Int) (k : Int) (hk : k < w) (hn : ¬ ly < lx) (hw : 0 < w) (hw1 : w ≤ 64) (hb : 0 ≤ b ∧ b < 9223372036854775808) (hlx : lx ≤ 900) (hly : ly ≤ 900) : evCall Try.prog 0 (bodied Try.prog) over2 sbs 1000 20 12 [.int .i64 (w : Int), .int .i64 b, aO sx lx cx, aD sy ly cy, .int .i64 k] (H20 xs ys e1 m1 z1 e2 m2 z2) = some (.tuple #[.bool false, .int .i64 0, .int .i64 0], H20 xs ys e1 m1 z1 e2 m2 z2, []) :=
  Dg.evCall_hint (hs := [.val 12 21 (.bool false),
    .val 12 25 (.bool false),
    .val 12 28 (.bool false),
    .val 12 32 (.bool false),
    .val 12 37 (.bool true)]) (hs' := []) [Value.bool (decide ((ly : Int) < lx)) = .bool false,
    Value.bool (decide ((w : Int) < 1)) = .bool false,
    Value.bool (decide ((64 : Int) < w)) = .bool false,
    Value.bool (decide (b < 0)) = .bool false,
    Value.bool (decide (k < (w : Int))) = .bool true] (by kernel_rfl)
    ⟨Dg.vfalse (by omega), Dg.vfalse (by omega), Dg.vfalse (by omega), Dg.vfalse (by omega), Dg.vtrue (by omega), trivial⟩

theorem step_high_false (xs ys : List Int) (e1 m1 z1 e2 m2 z2 : Nat) (sx sy : Option Nat) (lx cx ly cy w : Nat) (b : Int) (j : Nat) (hj : j ≤ 900) (hk : lx < j + w + w) (hn : ¬ ly < lx) (hw : 0 < w) (hw1 : w ≤ 64) (hb : 0 ≤ b ∧ b < 9223372036854775808) (hlx : lx ≤ 900) (hly : ly ≤ 900) : evCall Try.prog 0 (bodied Try.prog) over2 sbs 1000 20 12 [.int .i64 (w : Int), .int .i64 b, aO sx lx cx, aD sy ly cy, .int .i64 ((j + w : Nat) : Int)] (H20 xs ys e1 m1 z1 e2 m2 z2) = some (.tuple #[.bool false, .int .i64 0, .int .i64 0], H20 xs ys e1 m1 z1 e2 m2 z2, []) :=
  Dg.evCall_hint (hs := [.val 12 21 (.bool false),
    .val 12 25 (.bool false),
    .val 12 28 (.bool false),
    .val 12 32 (.bool false),
    .val 12 37 (.bool false),
    .val 12 42 (.int .i64 (((j + w + w : Nat) : Int))),
    .val 12 44 (.bool true)]) (hs' := []) [Value.bool (decide ((ly : Int) < lx)) = .bool false,
    Value.bool (decide ((w : Int) < 1)) = .bool false,
    Value.bool (decide ((64 : Int) < w)) = .bool false,
    Value.bool (decide (b < 0)) = .bool false,
    Value.bool (decide (((j + w : Nat) : Int) < (w : Int))) = .bool false,
    Value.int .i64 (IntKind.i64.wrap (((j + w : Nat) : Int) + (w : Int))) = .int .i64 (((j + w + w : Nat) : Int)),
    Value.bool (decide ((lx : Int) < ((j + w + w : Nat) : Int))) = .bool true] (by kernel_rfl)
    ⟨Dg.vfalse (by omega), Dg.vfalse (by omega), Dg.vfalse (by omega), Dg.vfalse (by omega), Dg.vfalse (by omega), Dg.i64_eq (by omega) (by omega) (by omega), Dg.vtrue (by omega), trivial⟩

theorem step_mid_false_true (xs ys : List Int) (e1 m1 z1 e2 m2 z2 : Nat) (sx sy : Option Nat) (lx cx ly cy w : Nat) (b : Int) (j : Nat) (hk : j + w + w ≤ lx) (hxl : lx ≤ xs.length) (hyl : ly ≤ ys.length) (h1 : In (bst (qr xs ys j) (w - 1)).1) (h2 : In (bst (qr xs ys (j + w)) (w - 1)).1) (hap : apartB (bst (qr xs ys j) (w - 1)).1 (bst (qr xs ys (j + w)) (w - 1)).1 b = true) (hn : ¬ ly < lx) (hw : 0 < w) (hw1 : w ≤ 64) (hb : 0 ≤ b ∧ b < 9223372036854775808) (hlx : lx ≤ 900) (hly : ly ≤ 900) : evCall Try.prog 0 (bodied Try.prog) over2 sbs 1000 20 12 [.int .i64 (w : Int), .int .i64 b, aO sx lx cx, aD sy ly cy, .int .i64 ((j + w : Nat) : Int)] (H20 xs ys e1 m1 z1 e2 m2 z2) = some (.tuple #[.bool true, .int .i64 (bst (qr xs ys j) (w - 1)).1, .int .i64 (bst (qr xs ys (j + w)) (w - 1)).1], H20 xs ys e1 m1 z1 e2 m2 z2, []) :=
  Dg.evCall_hint (hs := [.val 12 21 (.bool false),
    .val 12 25 (.bool false),
    .val 12 28 (.bool false),
    .val 12 32 (.bool false),
    .val 12 37 (.bool false),
    .val 12 42 (.int .i64 (((j + w + w : Nat) : Int))),
    .val 12 44 (.bool false),
    .val 12 50 (.int .i64 ((j : Int))),
    .call 20 (.int .i64 (bst (qr xs ys j) (w - 1)).1) (H20 xs ys e1 m1 z1 e2 m2 z2) [],
    .val 12 58 (.int .i64 (((j + w + w : Nat) : Int))),
    .call 20 (.int .i64 (bst (qr xs ys (j + w)) (w - 1)).1) (H20 xs ys e1 m1 z1 e2 m2 z2) [],
    .call 21 (.bool true) ⟨0, []⟩ []]) (hs' := []) [Value.bool (decide ((ly : Int) < lx)) = .bool false,
    Value.bool (decide ((w : Int) < 1)) = .bool false,
    Value.bool (decide ((64 : Int) < w)) = .bool false,
    Value.bool (decide (b < 0)) = .bool false,
    Value.bool (decide (((j + w : Nat) : Int) < (w : Int))) = .bool false,
    Value.int .i64 (IntKind.i64.wrap (((j + w : Nat) : Int) + (w : Int))) = .int .i64 (((j + w + w : Nat) : Int)),
    Value.bool (decide ((lx : Int) < ((j + w + w : Nat) : Int))) = .bool false,
    Value.int .i64 (IntKind.i64.wrap (((j + w : Nat) : Int) - (w : Int))) = .int .i64 ((j : Int)),
    evCall Try.prog 0 (bodied Try.prog) over2 sbs 1000 19 20 [aO sx lx cx, aD sy ly cy, .int .i64 (j : Int), .int .i64 ((j + w : Nat) : Int)] (H20 xs ys e1 m1 z1 e2 m2 z2) = some (.int .i64 (bst (qr xs ys j) (w - 1)).1, H20 xs ys e1 m1 z1 e2 m2 z2, []),
    Value.int .i64 (IntKind.i64.wrap (((j + w : Nat) : Int) + (w : Int))) = .int .i64 (((j + w + w : Nat) : Int)),
    evCall Try.prog 0 (bodied Try.prog) over2 sbs 1000 19 20 [aO sx lx cx, aD sy ly cy, .int .i64 ((j + w : Nat) : Int), .int .i64 ((j + w + w : Nat) : Int)] (H20 xs ys e1 m1 z1 e2 m2 z2) = some (.int .i64 (bst (qr xs ys (j + w)) (w - 1)).1, H20 xs ys e1 m1 z1 e2 m2 z2, []),
    evCall Try.prog 0 (bodied Try.prog) over2 sbs 1000 19 21 [.int .i64 (bst (qr xs ys j) (w - 1)).1, .int .i64 (bst (qr xs ys (j + w)) (w - 1)).1, .int .i64 b] ⟨0, []⟩ = some (.bool true, ⟨0, []⟩, [])] (by kernel_rfl)
    ⟨Dg.vfalse (by omega), Dg.vfalse (by omega), Dg.vfalse (by omega), Dg.vfalse (by omega), Dg.vfalse (by omega), Dg.i64_eq (by omega) (by omega) (by omega), Dg.vfalse (by omega), Dg.i64_eq (by omega) (by omega) (by omega), Dg.evCall_over (call20 rfl rfl hw (by omega) (by omega) hyl (by omega) hxl), Dg.i64_eq (by omega) (by omega) (by omega), Dg.evCall_over (call20 rfl rfl hw (by omega) (by omega) hyl (by omega) hxl), Dg.evCall_over (call21 h1 h2 hb hap), trivial⟩

theorem step_mid_false_false (xs ys : List Int) (e1 m1 z1 e2 m2 z2 : Nat) (sx sy : Option Nat) (lx cx ly cy w : Nat) (b : Int) (j : Nat) (hk : j + w + w ≤ lx) (hxl : lx ≤ xs.length) (hyl : ly ≤ ys.length) (h1 : In (bst (qr xs ys j) (w - 1)).1) (h2 : In (bst (qr xs ys (j + w)) (w - 1)).1) (hap : apartB (bst (qr xs ys j) (w - 1)).1 (bst (qr xs ys (j + w)) (w - 1)).1 b = false) (hn : ¬ ly < lx) (hw : 0 < w) (hw1 : w ≤ 64) (hb : 0 ≤ b ∧ b < 9223372036854775808) (hlx : lx ≤ 900) (hly : ly ≤ 900) : evCall Try.prog 0 (bodied Try.prog) over2 sbs 1000 20 12 [.int .i64 (w : Int), .int .i64 b, aO sx lx cx, aD sy ly cy, .int .i64 ((j + w : Nat) : Int)] (H20 xs ys e1 m1 z1 e2 m2 z2) = some (.tuple #[.bool false, .int .i64 0, .int .i64 0], H20 xs ys e1 m1 z1 e2 m2 z2, []) :=
  Dg.evCall_hint (hs := [.val 12 21 (.bool false),
    .val 12 25 (.bool false),
    .val 12 28 (.bool false),
    .val 12 32 (.bool false),
    .val 12 37 (.bool false),
    .val 12 42 (.int .i64 (((j + w + w : Nat) : Int))),
    .val 12 44 (.bool false),
    .val 12 50 (.int .i64 ((j : Int))),
    .call 20 (.int .i64 (bst (qr xs ys j) (w - 1)).1) (H20 xs ys e1 m1 z1 e2 m2 z2) [],
    .val 12 58 (.int .i64 (((j + w + w : Nat) : Int))),
    .call 20 (.int .i64 (bst (qr xs ys (j + w)) (w - 1)).1) (H20 xs ys e1 m1 z1 e2 m2 z2) [],
    .call 21 (.bool false) ⟨0, []⟩ []]) (hs' := []) [Value.bool (decide ((ly : Int) < lx)) = .bool false,
    Value.bool (decide ((w : Int) < 1)) = .bool false,
    Value.bool (decide ((64 : Int) < w)) = .bool false,
    Value.bool (decide (b < 0)) = .bool false,
    Value.bool (decide (((j + w : Nat) : Int) < (w : Int))) = .bool false,
    Value.int .i64 (IntKind.i64.wrap (((j + w : Nat) : Int) + (w : Int))) = .int .i64 (((j + w + w : Nat) : Int)),
    Value.bool (decide ((lx : Int) < ((j + w + w : Nat) : Int))) = .bool false,
    Value.int .i64 (IntKind.i64.wrap (((j + w : Nat) : Int) - (w : Int))) = .int .i64 ((j : Int)),
    evCall Try.prog 0 (bodied Try.prog) over2 sbs 1000 19 20 [aO sx lx cx, aD sy ly cy, .int .i64 (j : Int), .int .i64 ((j + w : Nat) : Int)] (H20 xs ys e1 m1 z1 e2 m2 z2) = some (.int .i64 (bst (qr xs ys j) (w - 1)).1, H20 xs ys e1 m1 z1 e2 m2 z2, []),
    Value.int .i64 (IntKind.i64.wrap (((j + w : Nat) : Int) + (w : Int))) = .int .i64 (((j + w + w : Nat) : Int)),
    evCall Try.prog 0 (bodied Try.prog) over2 sbs 1000 19 20 [aO sx lx cx, aD sy ly cy, .int .i64 ((j + w : Nat) : Int), .int .i64 ((j + w + w : Nat) : Int)] (H20 xs ys e1 m1 z1 e2 m2 z2) = some (.int .i64 (bst (qr xs ys (j + w)) (w - 1)).1, H20 xs ys e1 m1 z1 e2 m2 z2, []),
    evCall Try.prog 0 (bodied Try.prog) over2 sbs 1000 19 21 [.int .i64 (bst (qr xs ys j) (w - 1)).1, .int .i64 (bst (qr xs ys (j + w)) (w - 1)).1, .int .i64 b] ⟨0, []⟩ = some (.bool false, ⟨0, []⟩, [])] (by kernel_rfl)
    ⟨Dg.vfalse (by omega), Dg.vfalse (by omega), Dg.vfalse (by omega), Dg.vfalse (by omega), Dg.vfalse (by omega), Dg.i64_eq (by omega) (by omega) (by omega), Dg.vfalse (by omega), Dg.i64_eq (by omega) (by omega) (by omega), Dg.evCall_over (call20 rfl rfl hw (by omega) (by omega) hyl (by omega) hxl), Dg.i64_eq (by omega) (by omega) (by omega), Dg.evCall_over (call20 rfl rfl hw (by omega) (by omega) hyl (by omega) hxl), Dg.evCall_over (call21 h1 h2 hb hap), trivial⟩

def rr1 (w : Nat) (xs ys : List Int) (j : Nat) : Int := (bst (qr xs ys j) (w - 1)).1
/-- Is there a step where j samples lie ahead of the first window? -/
def refIs (w : Nat) (b : Int) (xs ys : List Int) (n j : Nat) : Bool := decide (j + w + w ≤ n) && apartB (rr1 w xs ys j) (rr1 w xs ys (j + w)) b
def stepR (w : Nat) (b : Int) (xs ys : List Int) (n j : Nat) : Value := if refIs w b xs ys n j = true then .tuple #[.bool true, .int .i64 (rr1 w xs ys j), .int .i64 (rr1 w xs ys (j + w))] else .tuple #[.bool false, .int .i64 0, .int .i64 0]
theorem In_qr {xs ys : List Int} (hx : ∀ x ∈ xs, In x) (f i : Nat) : In (bst (qr xs ys f) i).1 := by
  have key : ∀ i, In (qr xs ys f i).1 := by
    intro i
    show In (xs.getD (f + i) 0)
    rw [List.getD_eq_getElem?_getD]
    cases hi : xs[f + i]? with
    | none => unfold In; simp
    | some p => exact hx p (List.mem_of_getElem? hi)
  rw [bst_bx]
  exact key _
structure StepArgs (w : Nat) (b : Int) (xs ys : List Int) (lx ly : Nat) : Prop where
  w0 : 0 < w
  w1 : w ≤ 64
  b0 : 0 ≤ b ∧ b < 9223372036854775808
  lx0 : lx ≤ 900
  ly0 : ly ≤ 900
  lx1 : lx ≤ xs.length
  ly1 : ly ≤ ys.length
  ok : ∀ x ∈ xs, In x
theorem step_small {w : Nat} {b : Int} {xs ys : List Int} {lx ly : Nat} (s : StepArgs w b xs ys lx ly) (e1 m1 z1 e2 m2 z2 : Nat) (sx sy : Option Nat) (cx cy j : Nat) (hj : j ≤ 900) :
    evCall Try.prog 0 (bodied Try.prog) over2 sbs 1000 20 12 [.int .i64 (w : Int), .int .i64 b, aO sx lx cx, aD sy ly cy, .int .i64 ((j + w : Nat) : Int)] (H20 xs ys e1 m1 z1 e2 m2 z2) = some (stepR w b xs ys (min lx ly) j, H20 xs ys e1 m1 z1 e2 m2 z2, []) := by
  have i1 := In_qr (ys := ys) s.ok j (w - 1)
  have i2 := In_qr (ys := ys) s.ok (j + w) (w - 1)
  have no : ∀ n, n < j + w + w → stepR w b xs ys n j = .tuple #[.bool false, .int .i64 0, .int .i64 0] := fun n hn => if_neg (by unfold refIs; rw [decide_eq_false (by omega)]; simp)
  by_cases hn : ly < lx
  · have hm : min lx ly = ly := by omega
    rw [hm]
    by_cases hk : ly < j + w + w
    · rw [no _ hk]
      exact step_high_true xs ys e1 m1 z1 e2 m2 z2 sx sy lx cx ly cy w b j hj hk hn s.w0 s.w1 s.b0 s.lx0 s.ly0
    · cases hap : apartB (bst (qr xs ys j) (w - 1)).1 (bst (qr xs ys (j + w)) (w - 1)).1 b with
      | true =>
        have hi : stepR w b xs ys ly j = _ := if_pos (by unfold refIs rr1; rw [hap, decide_eq_true (by omega)]; rfl)
        rw [hi]
        exact step_mid_true_true xs ys e1 m1 z1 e2 m2 z2 sx sy lx cx ly cy w b j (by omega) s.lx1 s.ly1 i1 i2 hap hn s.w0 s.w1 s.b0 s.lx0 s.ly0
      | false =>
        have hi : stepR w b xs ys ly j = .tuple #[.bool false, .int .i64 0, .int .i64 0] := if_neg (by unfold refIs rr1; rw [hap]; simp)
        rw [hi]
        exact step_mid_true_false xs ys e1 m1 z1 e2 m2 z2 sx sy lx cx ly cy w b j (by omega) s.lx1 s.ly1 i1 i2 hap hn s.w0 s.w1 s.b0 s.lx0 s.ly0
  · have hm : min lx ly = lx := by omega
    rw [hm]
    by_cases hk : lx < j + w + w
    · rw [no _ hk]
      exact step_high_false xs ys e1 m1 z1 e2 m2 z2 sx sy lx cx ly cy w b j hj hk hn s.w0 s.w1 s.b0 s.lx0 s.ly0
    · cases hap : apartB (bst (qr xs ys j) (w - 1)).1 (bst (qr xs ys (j + w)) (w - 1)).1 b with
      | true =>
        have hi : stepR w b xs ys lx j = _ := if_pos (by unfold refIs rr1; rw [hap, decide_eq_true (by omega)]; rfl)
        rw [hi]
        exact step_mid_false_true xs ys e1 m1 z1 e2 m2 z2 sx sy lx cx ly cy w b j (by omega) s.lx1 s.ly1 i1 i2 hap hn s.w0 s.w1 s.b0 s.lx0 s.ly0
      | false =>
        have hi : stepR w b xs ys lx j = .tuple #[.bool false, .int .i64 0, .int .i64 0] := if_neg (by unfold refIs rr1; rw [hap]; simp)
        rw [hi]
        exact step_mid_false_false xs ys e1 m1 z1 e2 m2 z2 sx sy lx cx ly cy w b j (by omega) s.lx1 s.ly1 i1 i2 hap hn s.w0 s.w1 s.b0 s.lx0 s.ly0
theorem step_low {w : Nat} {b : Int} {xs ys : List Int} {lx ly : Nat} (s : StepArgs w b xs ys lx ly) (e1 m1 z1 e2 m2 z2 : Nat) (sx sy : Option Nat) (cx cy : Nat) (k : Int) (hk : k < w) :
    evCall Try.prog 0 (bodied Try.prog) over2 sbs 1000 20 12 [.int .i64 (w : Int), .int .i64 b, aO sx lx cx, aD sy ly cy, .int .i64 k] (H20 xs ys e1 m1 z1 e2 m2 z2) = some (.tuple #[.bool false, .int .i64 0, .int .i64 0], H20 xs ys e1 m1 z1 e2 m2 z2, []) := by
  by_cases hn : ly < lx
  · exact step_low_true xs ys e1 m1 z1 e2 m2 z2 sx sy lx cx ly cy w b k hk hn s.w0 s.w1 s.b0 s.lx0 s.ly0
  · exact step_low_false xs ys e1 m1 z1 e2 m2 z2 sx sy lx cx ly cy w b k hk hn s.w0 s.w1 s.b0 s.lx0 s.ly0
/-- The value at whatever place. -/
def stepV (w : Nat) (b : Int) (xs ys : List Int) (n : Nat) (k : Int) : Value := if k < w then .tuple #[.bool false, .int .i64 0, .int .i64 0] else stepR w b xs ys n (k - w).toNat
theorem stepV_flat (w : Nat) (b : Int) (xs ys : List Int) (n : Nat) (k : Int) (f : Nat → Nat) : Dg.renV f (stepV w b xs ys n k) = stepV w b xs ys n k := by
  unfold stepV stepR
  split
  · rfl
  · split <;> rfl
theorem step_is {H : Heap} {kx ky e1 m1 z1 e2 m2 z2 lx cx ly cy w : Nat} {b k : Int} {sx sy : Option Nat} {xs ys : List Int} (hne : kx ≠ ky) (hkx : H.get kx = .cells (i64s xs) e1 (m1 + 4) z1) (hky : H.get ky = .cells (i64s ys) e2 (m2 + 4) z2) (s : StepArgs w b xs ys lx ly) (hk : k ≤ 900) :
    SCall Try.prog 12 [.int .i64 (w : Int), .int .i64 b, .slice (some ⟨kx, 0, sx⟩) lx cx, .slice (some ⟨ky, 0, sy⟩) ly cy, .int .i64 k] H (stepV w b xs ys (min lx ly) k) H [] := by
  have hlx : (H.get kx).live = true := by rw [hkx]; rfl
  have hly : (H.get ky).live = true := by rw [hky]; rfl
  have hsm : SCall Try.prog 12 [.int .i64 (w : Int), .int .i64 b, aO sx lx cx, aD sy ly cy, .int .i64 k] (H20 xs ys e1 m1 z1 e2 m2 z2) (stepV w b xs ys (min lx ly) k) (H20 xs ys e1 m1 z1 e2 m2 z2) [] := by
    refine SCall.of_ev mixed (Dg.bodied_ok _) over2_ok (sb := sbs) (lf := 1000) (n := 20) ?_
    unfold stepV
    by_cases hkw : k < w
    · rw [if_pos hkw]; exact step_low s e1 m1 z1 e2 m2 z2 sx sy cx cy k hkw
    · rw [if_neg hkw]
      have := step_small s e1 m1 z1 e2 m2 z2 sx sy cx cy (k - w).toNat (by omega)
      rwa [show (((k - w).toNat + w : Nat) : Int) = k by omega] at this
  have fx := i64s_flat xs
  have fy := i64s_flat ys
  refine hsm.frame [kx, ky] (by simp [hne]) rfl rfl (by simp; exact ⟨Dg.Heap.lt_of_live hlx, Dg.Heap.lt_of_live hly⟩) ?_ ?_ (by simp [Dg.idsOfL, Dg.idsOf]) (fun h => h) rfl (fun _ _ _ => rfl) ?_ (fun i hi => by simp [H20] at hi) (stepV_flat _ _ _ _ _ _ _).symm (fun _ _ _ => rfl)
  · intro i j hj
    match i, hj with
    | 0, hj =>
      cases hj
      exact ⟨hlx, by rw [hkx, Dg.ids_flat fx]; simp, by rw [hkx, Dg.ren_mark]; rfl⟩
    | 1, hj =>
      cases hj
      exact ⟨hly, by rw [hky, Dg.ids_flat fy]; simp, by rw [hky, Dg.ren_mark]; rfl⟩
  · have hxy : (kx == ky) = false := by simpa using hne
    simp [Dg.renL, Dg.renV, Dg.renK, aO, aD, List.idxOf_cons, hxy]
  · intro i j hj
    match i, hj with
    | 0, hj =>
      cases hj
      show H.get kx = (AObj.cells (i64s xs) e1 (m1 + 4) z1).ren _
      rw [hkx, Dg.ren_mark]
    | 1, hj =>
      cases hj
      show H.get ky = (AObj.cells (i64s ys) e2 (m2 + 4) z2).ren _
      rw [hky, Dg.ren_mark]
end Go.Proofs.Ytafhlmpifdclaaa.shift

