/- What the document's best of some samples comes to: for the laws of layer 34. -/
import Derived.Test.YtafhlmpifdclaaaRows
import Derived.Test.YtafhlmpifdclaaaShiftBest
namespace Go.Proofs.Ytafhlmpifdclaaa.shift
open Go.Dg (junk St Ex Ev Hint evCall evCallS evCode evCodeS evLoop cleanSt ue bodied noOver sbOf headOf tailOf bodyOf Flats flatOver Heap AObj SCall)
set_option linter.unusedVariables false
set_option linter.unusedSimpArgs false

def i64s (zs : List Int) : List Value := zs.map (Value.int .i64 ·)
theorem i64_load (zs : List Int) (i : Nat) (h : i < zs.length) : (i64s zs)[i]? = some (.int .i64 (zs.getD i 0)) := by
  simp [i64s, List.getD_eq_getElem?_getD, h]
theorem i64s_flat (zs : List Int) : Dg.flatL (i64s zs) = true := Dg.flatL_all fun v hv => by
  obtain ⟨n, _, rfl⟩ := List.mem_map.1 hv
  rfl
/-- The place of the best. -/
def bx (q : Nat → Int × Int) : Nat → Nat
  | 0 => 0
  | j + 1 => if (q (j + 1)).2 < (q (bx q j)).2 then j + 1 else bx q j
theorem bst_bx (q : Nat → Int × Int) : ∀ j, bst q j = q (bx q j) := by
  intro j
  induction j with
  | zero => rfl
  | succ j ih => simp only [bst, bx, ih]; split <;> rfl
theorem bx_le (q : Nat → Int × Int) : ∀ j, bx q j ≤ j := by
  intro j
  induction j with
  | zero => exact Nat.le_refl _
  | succ j ih => simp only [bx]; split <;> omega

/-! ### 'Best' of the document -/
noncomputable def c20 : Code := (Try.f20.body).getD .skip
noncomputable def lb20 : Code := bodyOf (bodyOf (tailOf (headOf (tailOf (tailOf c20)))))
def aO (sx : Option Nat) (lx cx : Nat) : Value := .slice (some ⟨0, 0, sx⟩) lx cx
def aD (sy : Option Nat) (ly cy : Nat) : Value := .slice (some ⟨1, 0, sy⟩) ly cy
def H20 (xs ys : List Int) (e1 m1 z1 e2 m2 z2 : Nat) : Heap := ⟨2, [.cells (i64s ys) e2 (m2 + 4) z2, .cells (i64s xs) e1 (m1 + 4) z1]⟩
def S20 (xs ys : List Int) (e1 m1 z1 e2 m2 z2 : Nat) (sx sy : Option Nat) (lx cx ly cy f to at' i : Nat) : St :=
  ⟨[aO sx lx cx, aD sy ly cy, .int .i64 f, .int .i64 to, undef, undef, undef, undef, .int .i64 0, .int .i64 at', .int .i64 i] ++ js 21, H20 xs ys e1 m1 z1 e2 m2 z2, []⟩
def E20 (xs ys : List Int) (e1 m1 z1 e2 m2 z2 : Nat) (sx sy : Option Nat) (lx cx ly cy f to at' i : Nat) : St :=
  ⟨[aO sx lx cx, aD sy ly cy, .int .i64 f, .int .i64 to, undef, undef, undef, undef, .int .i64 0, .int .i64 at', .int .i64 i] ++ (js 2 ++ ([.int .i64 i, .int .i64 to, .bool false] ++ js 16)), H20 xs ys e1 m1 z1 e2 m2 z2, []⟩
def B20 (xs ys : List Int) (e1 m1 z1 e2 m2 z2 : Nat) (sx sy : Option Nat) (lx cx ly cy f to : Nat) : St :=
  ⟨[aO sx lx cx, aD sy ly cy, .int .i64 f, .int .i64 to, undef, undef, undef, undef, .int .i64 0, .int .i64 f, .int .i64 f, .int .i64 f, .int .i64 f] ++ List.replicate 19 undef, H20 xs ys e1 m1 z1 e2 m2 z2, []⟩
noncomputable abbrev run20 : St → Option (Ex × St) := evCode Try.prog 0 (bodied Try.prog) (evCall Try.prog 0 (bodied Try.prog) noOver sbs 1000 19) 2 11 1000 lb20
noncomputable abbrev cl20 : St → St := cleanSt 2 11 (ue lb20 [] []).1
section
variable (xs ys : List Int) (e1 m1 z1 e2 m2 z2 : Nat) (sx sy : Option Nat) (lx cx ly cy f to : Nat)
theorem step20 (at' i : Nat) (hi : i < to) (hto : to ≤ 100000) (hy : to ≤ ly) (hyl : ly ≤ ys.length) (ha : at' < to) :
    ∃ s', run20 (S20 xs ys e1 m1 z1 e2 m2 z2 sx sy lx cx ly cy f to at' i) = some (.normal, s') ∧ cl20 s' = S20 xs ys e1 m1 z1 e2 m2 z2 sx sy lx cx ly cy f to (if ys.getD i 0 < ys.getD at' 0 then i else at') (i + 1) := by
  by_cases h : ys.getD i 0 < ys.getD at' 0
  · rw [if_pos h]
    exact Dg.code_round (f := 20) cl20 [.val 20 15 (.bool true), .soft 20 20 (.pointer (some ⟨1, i, none⟩)), .soft 20 21 (.int .i64 (ys.getD i 0)), .soft 20 24 (.pointer (some ⟨1, at', none⟩)), .soft 20 25 (.int .i64 (ys.getD at' 0)), .val 20 26 (.bool true), .val 20 17 (.int .i64 ((i + 1 : Nat) : Int))]
      [Value.bool (decide ((i : Int) < (to : Int))) = .bool true, (0 : Int) ≤ i ∧ (i : Int) < ly, Value.pointer (some ⟨1, 0 + i * 1, none⟩) = .pointer (some ⟨1, i, none⟩), (i64s ys)[i]? = some (.int .i64 (ys.getD i 0)),
       (0 : Int) ≤ at' ∧ (at' : Int) < ly, Value.pointer (some ⟨1, 0 + at' * 1, none⟩) = .pointer (some ⟨1, at', none⟩), (i64s ys)[at']? = some (.int .i64 (ys.getD at' 0)), Value.bool (decide (ys.getD i 0 < ys.getD at' 0)) = .bool true,
       Value.int .i64 (IntKind.i64.wrap ((i : Int) + 1)) = .int .i64 ((i + 1 : Nat) : Int)] (by kernel_rfl)
      ⟨Dg.vtrue (by omega), by omega, Dg.ptr_eq (by omega), i64_load ys i (by omega), by omega, Dg.ptr_eq (by omega), i64_load ys at' (by omega), Dg.vtrue h, Dg.i64_eq (by omega) (by omega) (by omega), trivial⟩
  · rw [if_neg h]
    exact Dg.code_round (f := 20) cl20 [.val 20 15 (.bool true), .soft 20 20 (.pointer (some ⟨1, i, none⟩)), .soft 20 21 (.int .i64 (ys.getD i 0)), .soft 20 24 (.pointer (some ⟨1, at', none⟩)), .soft 20 25 (.int .i64 (ys.getD at' 0)), .val 20 26 (.bool false), .val 20 17 (.int .i64 ((i + 1 : Nat) : Int))]
      [Value.bool (decide ((i : Int) < (to : Int))) = .bool true, (0 : Int) ≤ i ∧ (i : Int) < ly, Value.pointer (some ⟨1, 0 + i * 1, none⟩) = .pointer (some ⟨1, i, none⟩), (i64s ys)[i]? = some (.int .i64 (ys.getD i 0)),
       (0 : Int) ≤ at' ∧ (at' : Int) < ly, Value.pointer (some ⟨1, 0 + at' * 1, none⟩) = .pointer (some ⟨1, at', none⟩), (i64s ys)[at']? = some (.int .i64 (ys.getD at' 0)), Value.bool (decide (ys.getD i 0 < ys.getD at' 0)) = .bool false,
       Value.int .i64 (IntKind.i64.wrap ((i : Int) + 1)) = .int .i64 ((i + 1 : Nat) : Int)] (by kernel_rfl)
      ⟨Dg.vtrue (by omega), by omega, Dg.ptr_eq (by omega), i64_load ys i (by omega), by omega, Dg.ptr_eq (by omega), i64_load ys at' (by omega), Dg.vfalse h, Dg.i64_eq (by omega) (by omega) (by omega), trivial⟩
theorem stop20 (at' : Nat) : run20 (S20 xs ys e1 m1 z1 e2 m2 z2 sx sy lx cx ly cy f to at' to) = some (.exit 0, E20 xs ys e1 m1 z1 e2 m2 z2 sx sy lx cx ly cy f to at' to) :=
  Dg.evCode_hint (f := 20) (hs := [.val 20 15 (.bool false)]) (hs' := []) [Value.bool (decide ((to : Int) < (to : Int))) = .bool false] (by kernel_rfl) ⟨Dg.vfalse (by omega), trivial⟩
/-- The samples from a place on. -/
def qr (xs ys : List Int) (f i : Nat) : Int × Int := (xs.getD (f + i) 0, ys.getD (f + i) 0)
theorem loop20 (T : Nat) (hT : to = f + T) (h0 : 0 < T) (hto : to ≤ 900) (hy : to ≤ ly) (hyl : ly ≤ ys.length) (s0 : St) (hs : cl20 s0 = S20 xs ys e1 m1 z1 e2 m2 z2 sx sy lx cx ly cy f to f f) :
    evLoop run20 cl20 1000 s0 = some (.exit 0, E20 xs ys e1 m1 z1 e2 m2 z2 sx sy lx cx ly cy f to (f + bx (qr xs ys f) (T - 1)) to) := by
  refine Dg.loop_run (S := fun j => S20 xs ys e1 m1 z1 e2 m2 z2 sx sy lx cx ly cy f to (f + bx (qr xs ys f) (j - 1)) (f + j)) (n := T) (by simp) (fun j hj => ?_) ?_ (by omega) hs
  · have hb := bx_le (qr xs ys f) (j - 1)
    have := step20 xs ys e1 m1 z1 e2 m2 z2 sx sy lx cx ly cy f to (f + bx (qr xs ys f) (j - 1)) (f + j) (by omega) (by omega) hy hyl (by omega)
    have e : (if ys.getD (f + j) 0 < ys.getD (f + bx (qr xs ys f) (j - 1)) 0 then f + j else f + bx (qr xs ys f) (j - 1)) = f + bx (qr xs ys f) (j + 1 - 1) := by
      cases j with
      | zero => simp [bx]
      | succ j =>
        simp only [Nat.add_sub_cancel, bx]
        by_cases h : ys.getD (f + (j + 1)) 0 < ys.getD (f + bx (qr xs ys f) j) 0
        · have h2 : (qr xs ys f (j + 1)).2 < (qr xs ys f (bx (qr xs ys f) j)).2 := h
          rw [if_pos h, if_pos h2]
        · have h2 : ¬ (qr xs ys f (j + 1)).2 < (qr xs ys f (bx (qr xs ys f) j)).2 := h
          rw [if_neg h, if_neg h2]
    rw [e] at this
    exact this
  · subst hT; exact stop20 xs ys e1 m1 z1 e2 m2 z2 sx sy lx cx ly cy f _ _
theorem ref_best (T : Nat) (hT : to = f + T) (h0 : 0 < T) (hto : to ≤ 900) (hy : to ≤ ly) (hyl : ly ≤ ys.length) (hx : to ≤ lx) (hxl : lx ≤ xs.length) :
    evCall Try.prog 0 (bodied Try.prog) noOver sbs 1000 20 20 [aO sx lx cx, aD sy ly cy, .int .i64 f, .int .i64 to] (H20 xs ys e1 m1 z1 e2 m2 z2) = some (.int .i64 (bst (qr xs ys f) (T - 1)).1, H20 xs ys e1 m1 z1 e2 m2 z2, []) := by
  have hb := bx_le (qr xs ys f) (T - 1)
  have hv : (bst (qr xs ys f) (T - 1)).1 = xs.getD (f + bx (qr xs ys f) (T - 1)) 0 := by rw [bst_bx]; rfl
  rw [hv]
  exact Dg.evCall_hint (hs := [.loop 20 (.exit 0) (E20 xs ys e1 m1 z1 e2 m2 z2 sx sy lx cx ly cy f to (f + bx (qr xs ys f) (T - 1)) to), .soft 20 30 (.pointer (some ⟨0, f + bx (qr xs ys f) (T - 1), none⟩)), .soft 20 31 (.int .i64 (xs.getD (f + bx (qr xs ys f) (T - 1)) 0))]) (hs' := [])
    [evLoop run20 cl20 1000 (B20 xs ys e1 m1 z1 e2 m2 z2 sx sy lx cx ly cy f to) = some (.exit 0, E20 xs ys e1 m1 z1 e2 m2 z2 sx sy lx cx ly cy f to (f + bx (qr xs ys f) (T - 1)) to),
     (0 : Int) ≤ ((f + bx (qr xs ys f) (T - 1) : Nat) : Int) ∧ ((f + bx (qr xs ys f) (T - 1) : Nat) : Int) < lx, Value.pointer (some ⟨0, 0 + (f + bx (qr xs ys f) (T - 1)) * 1, none⟩) = .pointer (some ⟨0, f + bx (qr xs ys f) (T - 1), none⟩),
     (i64s xs)[f + bx (qr xs ys f) (T - 1)]? = some (.int .i64 (xs.getD (f + bx (qr xs ys f) (T - 1)) 0))] (by kernel_rfl)
    ⟨loop20 xs ys e1 m1 z1 e2 m2 z2 sx sy lx cx ly cy f to T hT h0 hto hy hyl _ (by kernel_rfl), by omega, Dg.ptr_eq (by omega), i64_load xs _ (by omega), trivial⟩
end
/-- 'Best' of samples, over whatever heap. -/
theorem ref_best_is {H : Heap} {kx ky e1 m1 z1 e2 m2 z2 lx cx ly cy f T : Nat} {sx sy : Option Nat} {xs ys : List Int} (hne : kx ≠ ky) (hkx : H.get kx = .cells (i64s xs) e1 (m1 + 4) z1) (hky : H.get ky = .cells (i64s ys) e2 (m2 + 4) z2)
    (h0 : 0 < T) (hto : f + T ≤ 900) (hy : f + T ≤ ly) (hyl : ly ≤ ys.length) (hx : f + T ≤ lx) (hxl : lx ≤ xs.length) :
    SCall Try.prog 20 [.slice (some ⟨kx, 0, sx⟩) lx cx, .slice (some ⟨ky, 0, sy⟩) ly cy, .int .i64 f, .int .i64 ((f + T : Nat) : Int)] H (.int .i64 (bst (qr xs ys f) (T - 1)).1) H [] := by
  have hlx : (H.get kx).live = true := by rw [hkx]; rfl
  have hly : (H.get ky).live = true := by rw [hky]; rfl
  have hsm : SCall Try.prog 20 [aO sx lx cx, aD sy ly cy, .int .i64 f, .int .i64 ((f + T : Nat) : Int)] (H20 xs ys e1 m1 z1 e2 m2 z2) (.int .i64 (bst (qr xs ys f) (T - 1)).1) (H20 xs ys e1 m1 z1 e2 m2 z2) [] :=
    SCall.of_ev mixed (Dg.bodied_ok _) Dg.noOver_ok (sb := sbs) (lf := 1000) (n := 20) (ref_best xs ys e1 m1 z1 e2 m2 z2 sx sy lx cx ly cy f (f + T) T rfl h0 hto hy hyl hx hxl)
  have fx := i64s_flat xs
  have fy := i64s_flat ys
  refine hsm.frame [kx, ky] (by simp [hne]) rfl rfl (by simp; exact ⟨Dg.Heap.lt_of_live hlx, Dg.Heap.lt_of_live hly⟩) ?_ ?_ (by simp [Dg.idsOfL, Dg.idsOf]) (fun h => h) rfl (fun _ _ _ => rfl) ?_ (fun i hi => by simp [H20] at hi) rfl (fun _ _ _ => rfl)
  · intro i j hj
    match i, hj with
    | 0, hj =>
      cases hj
      exact ⟨hlx, by rw [hkx, Dg.ids_flat fx]; simp, by rw [hkx, Dg.ren_mark]; rfl⟩
    | 1, hj =>
      cases hj
      exact ⟨hly, by rw [hky, Dg.ids_flat fy]; simp, by rw [hky, Dg.ren_mark]; rfl⟩
  · have hxy : (kx == ky) = false := by simpa using hne
    simp [Dg.renL, Dg.renV, Dg.renK, aO, aD, List.idxOf_cons, hxy]
  · intro i j hj
    match i, hj with
    | 0, hj =>
      cases hj
      show H.get kx = (AObj.cells (i64s xs) e1 (m1 + 4) z1).ren _
      rw [hkx, Dg.ren_mark]
    | 1, hj =>
      cases hj
      show H.get ky = (AObj.cells (i64s ys) e2 (m2 + 4) z2).ren _
      rw [hky, Dg.ren_mark]
end Go.Proofs.Ytafhlmpifdclaaa.shift
