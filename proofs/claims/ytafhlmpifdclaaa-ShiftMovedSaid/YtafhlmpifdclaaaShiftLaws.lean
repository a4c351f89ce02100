/- What the laws of layer 34 know of the calls that they meet. -/
import Derived.Test.YtafhlmpifdclaaaRows
import Derived.Test.YtafhlmpifdclaaaShiftStep
namespace Go.Proofs.Ytafhlmpifdclaaa.shift
open Go.Dg (junk St Ex Ev Hint evCall evCallS evCode evCodeS evLoop cleanSt ue bodied noOver sbOf headOf tailOf bodyOf Flats flatOver Heap AObj SCall Law ofLaw)
set_option linter.unusedVariables false
set_option linter.unusedSimpArgs false

theorem works_is : Flats Try.prog 8 [] (.bool true) :=
  Dg.closed_call mixed (Dg.bodied_ok _) Dg.noOver_ok (sb := sbs) (lf := 1000) (n := 20) (by kernel_rfl) rfl rfl
theorem D_inj {w w' : Nat} {b b' c c' : Int} {l l' : Value} (h : D w b l c = D w' b' l' c') : w = w' ∧ b = b' ∧ l = l' ∧ c = c' := by
  simp only [D, AObj.cells.injEq, List.cons.injEq, Value.int.injEq, true_and, and_true] at h
  have h := h.1
  exact ⟨by omega, h.2.1, h.2.2.1, h.2.2.2⟩
theorem arr_inj {a b : List (Int × Int)} (h : arr a = arr b) : a = b := by
  simp only [arr, AObj.cells.injEq, true_and, and_true] at h
  exact pc_inj _ _ h
theorem sl_inj {a a' n n' : Nat} (h : sl a n = sl a' n') : a = a' ∧ n = n' := by
  simp only [sl, Value.slice.injEq, Option.some.injEq, Addr.mk.injEq, true_and, and_true] at h
  exact ⟨h.1, h.2.1⟩
def C8 : Law := fun args H r => args = [] ∧ r = (.bool true, H, [])
def C10 : Law := fun args H r => ∃ d w b c, args = [.pointer (some ⟨d, 0, none⟩)] ∧ H.objs.length = H.n ∧ 0 < w ∧
  ((H.get d = D w b (.slice none 0 0) c ∧ r = (.pointer (some ⟨H.n, 0, none⟩), H.push (D w b (.slice none 0 0) c), [])) ∨
   (∃ a ps, H.get d = D w b (sl a ps.length) c ∧ H.get a = arr ps ∧ d ≠ a ∧ 0 < ps.length ∧ ps.length ≤ 900 ∧ r = (.pointer (some ⟨H.n, 0, none⟩), (H.push (D w b (sl (H.n + 1) ps.length) c)).push (arr ps), [])))
def C11 : Law := fun args H r => ∃ d w b c x y, args = [.pointer (some ⟨d, 0, none⟩), .int .i64 x, .int .i64 y] ∧ H.objs.length = H.n ∧ In x ∧
  ((H.get d = D w b (.slice none 0 0) c ∧ Det w b c [] ∧ r = (zeroR, (H.set d (D w b (sl H.n 1) (c + 1))).push (arr [(x, y)]), [d])) ∨
   (∃ a ps, H.get d = D w b (sl a ps.length) c ∧ H.get a = arr ps ∧ d ≠ a ∧ Det w b c ps ∧ 0 < ps.length ∧
     r = (addR w b (c + 1) (addS w ps x y), ((H.set a .dead).set d (D w b (sl H.n (addS w ps x y).length) (c + 1))).push (arr (addS w ps x y)), [d, a])))
def C12 : Law := fun args H r => ∃ kx ky e1 m1 z1 e2 m2 z2 lx cx ly cy w b k sx sy xs ys, args = [.int .i64 ((w : Nat) : Int), .int .i64 b, .slice (some ⟨kx, 0, sx⟩) lx cx, .slice (some ⟨ky, 0, sy⟩) ly cy, .int .i64 k] ∧ kx ≠ ky ∧
  H.get kx = .cells (i64s xs) e1 (m1 + 4) z1 ∧ H.get ky = .cells (i64s ys) e2 (m2 + 4) z2 ∧ StepArgs w b xs ys lx ly ∧ k ≤ 900 ∧ r = (stepV w b xs ys (min lx ly) k, H, [])
theorem u8 (args : List Value) (H : Heap) (r r' : Value × Heap × List Nat) (h : C8 args H r) (h' : C8 args H r') : r = r' := h.2.trans h'.2.symm
theorem u10 (args : List Value) (H : Heap) (r r' : Value × Heap × List Nat) (h : C10 args H r) (h' : C10 args H r') : r = r' := by
  obtain ⟨d, w, b, c, rfl, _, _, h1⟩ := h
  obtain ⟨d', w', b', c', ha, _, _, h1'⟩ := h'
  simp only [List.cons.injEq, Value.pointer.injEq, Option.some.injEq, Addr.mk.injEq, and_true] at ha
  subst ha
  rcases h1 with ⟨g1, rfl⟩ | ⟨a, ps, g1, g2, _, _, _, rfl⟩
  · rcases h1' with ⟨g1', rfl⟩ | ⟨a', ps', g1', g2', _, _, _, rfl⟩
    · rw [g1] at g1'
      obtain ⟨rfl, rfl, _, rfl⟩ := D_inj g1'
      rfl
    · rw [g1] at g1'
      have := (D_inj g1').2.2.1
      simp [sl] at this
  · rcases h1' with ⟨g1', rfl⟩ | ⟨a', ps', g1', g2', _, _, _, rfl⟩
    · rw [g1] at g1'
      have := (D_inj g1').2.2.1
      simp [sl] at this
    · rw [g1] at g1'
      obtain ⟨rfl, rfl, h3, rfl⟩ := D_inj g1'
      obtain ⟨rfl, _⟩ := sl_inj h3
      rw [g2] at g2'
      obtain rfl := arr_inj g2'
      rfl
theorem u11 (args : List Value) (H : Heap) (r r' : Value × Heap × List Nat) (h : C11 args H r) (h' : C11 args H r') : r = r' := by
  obtain ⟨d, w, b, c, x, y, rfl, _, _, h1⟩ := h
  obtain ⟨d', w', b', c', x', y', ha, _, _, h1'⟩ := h'
  simp only [List.cons.injEq, Value.pointer.injEq, Value.int.injEq, Option.some.injEq, Addr.mk.injEq, and_true, true_and] at ha
  obtain ⟨rfl, rfl, rfl⟩ := ha
  rcases h1 with ⟨g1, _, rfl⟩ | ⟨a, ps, g1, g2, _, _, _, rfl⟩
  · rcases h1' with ⟨g1', _, rfl⟩ | ⟨a', ps', g1', g2', _, _, _, rfl⟩
    · rw [g1] at g1'
      obtain ⟨rfl, rfl, _, rfl⟩ := D_inj g1'
      rfl
    · rw [g1] at g1'
      have := (D_inj g1').2.2.1
      simp [sl] at this
  · rcases h1' with ⟨g1', _, rfl⟩ | ⟨a', ps', g1', g2', _, _, _, rfl⟩
    · rw [g1] at g1'
      have := (D_inj g1').2.2.1
      simp [sl] at this
    · rw [g1] at g1'
      obtain ⟨rfl, rfl, h3, rfl⟩ := D_inj g1'
      obtain ⟨rfl, _⟩ := sl_inj h3
      rw [g2] at g2'
      obtain rfl := arr_inj g2'
      rfl
theorem u12 (args : List Value) (H : Heap) (r r' : Value × Heap × List Nat) (h : C12 args H r) (h' : C12 args H r') : r = r' := by
  obtain ⟨kx, ky, e1, m1, z1, e2, m2, z2, lx, cx, ly, cy, w, b, k, sx, sy, xs, ys, rfl, _, hx, hy, _, _, rfl⟩ := h
  obtain ⟨kx', ky', e1', m1', z1', e2', m2', z2', lx', cx', ly', cy', w', b', k', sx', sy', xs', ys', ha, _, hx', hy', _, _, rfl⟩ := h'
  simp only [List.cons.injEq, Value.slice.injEq, Value.int.injEq, Option.some.injEq, Addr.mk.injEq, and_true, true_and] at ha
  obtain ⟨h1, rfl, ⟨⟨rfl, rfl⟩, rfl, rfl⟩, ⟨⟨rfl, rfl⟩, rfl, rfl⟩, rfl⟩ := ha
  rw [hx] at hx'
  rw [hy] at hy'
  simp only [AObj.cells.injEq] at hx' hy'
  obtain rfl := i64s_inj _ _ hx'.1
  obtain rfl := i64s_inj _ _ hy'.1
  obtain rfl : w = w' := by omega
  rfl
noncomputable def over3 : Ev := fun f args H => match f with
  | 8 => ofLaw C8 args H
  | 10 => ofLaw C10 args H
  | 11 => ofLaw C11 args H
  | 12 => ofLaw C12 args H
  | _ => none
theorem over3_ok : Dg.CallOk Try.prog 0 over3 ∧ Dg.CallLog over3 := Dg.over_ok (by
  intro f args H v H' log h
  unfold over3 at h
  split at h
  · obtain ⟨rfl, hr⟩ := Dg.ofLaw_inv h
    simp only [Prod.mk.injEq] at hr
    obtain ⟨rfl, rfl, rfl⟩ := hr
    exact SCall.of_flats works_is _
  · obtain ⟨d, w, b, c, rfl, hl, hw, h1⟩ := Dg.ofLaw_inv h
    rcases h1 with ⟨g1, hr⟩ | ⟨a, ps, g1, g2, g3, g4, g5, hr⟩
    · simp only [Prod.mk.injEq] at hr
      obtain ⟨rfl, rfl, rfl⟩ := hr
      exact copyn_is hl g1 hw
    · simp only [Prod.mk.injEq] at hr
      obtain ⟨rfl, rfl, rfl⟩ := hr
      exact copy_is hl g1 g2 g3 hw g4 g5
  · obtain ⟨d, w, b, c, x, y, rfl, hl, hx, h1⟩ := Dg.ofLaw_inv h
    rcases h1 with ⟨g1, g2, hr⟩ | ⟨a, ps, g1, g2, g3, g4, g5, hr⟩
    · simp only [Prod.mk.injEq] at hr
      obtain ⟨rfl, rfl, rfl⟩ := hr
      exact addn_is hl g1 g2
    · simp only [Prod.mk.injEq] at hr
      obtain ⟨rfl, rfl, rfl⟩ := hr
      exact add_is hl g1 g2 g3 g4 hx g5
  · obtain ⟨kx, ky, e1, m1, z1, e2, m2, z2, lx, cx, ly, cy, w, b, k, sx, sy, xs, ys, rfl, hne, hx, hy, h1, h2, hr⟩ := Dg.ofLaw_inv h
    simp only [Prod.mk.injEq] at hr
    obtain ⟨rfl, rfl, rfl⟩ := hr
    exact step_is hne hx hy h1 h2
  · cases h)
end Go.Proofs.Ytafhlmpifdclaaa.shift
