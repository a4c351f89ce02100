/- What the detector holds when i samples have come: for the laws of layer 34. -/
import Derived.Test.YtafhlmpifdclaaaRows
import Derived.Test.YtafhlmpifdclaaaShiftLaws
namespace Go.Proofs.Ytafhlmpifdclaaa.shift
open Go.Dg (junk St Ex Ev Hint evCall evCallS evCode evCodeS evLoop cleanSt ue bodied noOver sbOf headOf tailOf bodyOf Flats flatOver Heap AObj SCall Law ofLaw)
set_option linter.unusedVariables false
set_option linter.unusedSimpArgs false

/-- Capacity and spot of a slice. -/
abbrev Cp := Nat × Option Nat
def aX (lx : Nat) (cx : Cp) : Value := .slice (some ⟨0, 0, cx.2⟩) lx cx.1
def aY (ly : Nat) (cy : Cp) : Value := .slice (some ⟨1, 0, cy.2⟩) ly cy.1
/-- What an object is, but for its values: type, mode, size. -/
abbrev Sh := Nat × Nat × Nat
def oX (xs : List Int) (e : Sh) : AObj := .cells (i64s xs) e.1 (e.2.1 + 4) e.2.2
def oY (xs : List Int) (e : Sh) : AObj := .cells (i64s xs) e.1 (e.2.1 + 4) e.2.2
theorem bst_congr {q q' : Nat → Int × Int} : ∀ (m : Nat), (∀ j, j ≤ m → q j = q' j) → bst q m = bst q' m := by
  intro m
  induction m with
  | zero => intro h; exact h 0 (Nat.le_refl _)
  | succ m ih =>
    intro h
    simp only [bst]
    rw [ih (fun j hj => h j (by omega)), h (m + 1) (Nat.le_refl _)]
def psAt (w : Nat) (xs ys : List Int) : Nat → List (Int × Int)
  | 0 => []
  | i + 1 => addS w (psAt w xs ys i) (xs.getD i 0) (ys.getD i 0)
theorem psAt_len {w : Nat} (hw : 0 < w) (xs ys : List Int) : ∀ i, (psAt w xs ys i).length = min i (2 * w) := by
  intro i
  induction i with
  | zero => simp [psAt]
  | succ i ih =>
    simp only [psAt]
    rw [addS_len (by omega), ih]
    omega
theorem psAt_get {w : Nat} (hw : 0 < w) (xs ys : List Int) : ∀ i j, j < min i (2 * w) → (psAt w xs ys i).getD j (0, 0) = (xs.getD (i - min i (2 * w) + j) 0, ys.getD (i - min i (2 * w) + j) 0) := by
  intro i
  induction i with
  | zero => intro j hj; omega
  | succ i ih =>
    intro j hj
    have hl := psAt_len hw xs ys i
    simp only [psAt]
    unfold addS
    have app : ∀ k, k < i + 1 - (i - min i (2 * w)) → ((psAt w xs ys i) ++ [(xs.getD i 0, ys.getD i 0)]).getD k (0, 0) = (xs.getD (i - min i (2 * w) + k) 0, ys.getD (i - min i (2 * w) + k) 0) := by
      intro k hk
      by_cases hk1 : k < min i (2 * w)
      · have hlt : k < (psAt w xs ys i).length := by omega
        have h2 := ih k hk1
        rw [List.getD_eq_getElem?_getD] at h2 ⊢
        rw [List.getElem?_append_left hlt]
        exact h2
      · have hke : k = (psAt w xs ys i).length := by omega
        have hki : i - min i (2 * w) + k = i := by omega
        rw [hki, List.getD_eq_getElem?_getD, List.getElem?_append_right (by omega), hke, Nat.sub_self]
        rfl
    split
    · rename_i hf
      rw [List.getD_eq_getElem?_getD, List.getElem?_drop, ← List.getD_eq_getElem?_getD, app (1 + j) (by omega)]
      have : i - min i (2 * w) + (1 + j) = i + 1 - min (i + 1) (2 * w) + j := by omega
      rw [this]
    · rename_i hf
      rw [app j (by omega)]
      have : i - min i (2 * w) + j = i + 1 - min (i + 1) (2 * w) + j := by omega
      rw [this]
theorem psAt_ok {w : Nat} {xs ys : List Int} (hx : ∀ i, In (xs.getD i 0)) : ∀ i, ∀ p ∈ psAt w xs ys i, In p.1 := by
  intro i
  induction i with
  | zero => intro p hp; simp [psAt] at hp
  | succ i ih => simp only [psAt]; exact addS_mem ih (hx i)
theorem q18_is {w : Nat} (hw : 0 < w) (xs ys : List Int) (i o : Nat) (hf : 2 * w ≤ i) (ho : o + w ≤ 2 * w) : ∀ j, j ≤ w - 1 → q18 (psAt w xs ys i) o j = qr xs ys (i - 2 * w + o) j := by
  intro j hj
  unfold q18 qr
  rw [psAt_get hw xs ys i (o + j) (by omega)]
  have : i - min i (2 * w) + (o + j) = i - 2 * w + o + j := by omega
  rw [this]
theorem r1_is {w : Nat} (hw : 0 < w) (xs ys : List Int) (i : Nat) (hf : 2 * w ≤ i) : r1 w (psAt w xs ys i) = rr1 w xs ys (i - 2 * w) := by
  unfold r1 rr1
  rw [bst_congr (w - 1) (q18_is hw xs ys i 0 hf (by omega))]
  rfl
theorem r2_is {w : Nat} (hw : 0 < w) (xs ys : List Int) (i : Nat) (hf : 2 * w ≤ i) : r2 w (psAt w xs ys i) = rr1 w xs ys (i - 2 * w + w) := by
  unfold r2 rr1
  rw [bst_congr (w - 1) (q18_is hw xs ys i w hf (by omega))]
def noV : Value := .tuple #[.bool false, .int .i64 0, .int .i64 0]
/-- Is a step told at the sample? Both say so. -/
theorem told {w : Nat} {b : Int} (hw : 0 < w) (xs ys : List Int) (i : Nat) (hs : isStep w b (psAt w xs ys (i + 1)) = true) :
    2 * w ≤ i + 1 ∧ stepV w b xs ys (min (i + 1) (i + 1)) (((i + 1 : Nat) : Int) - (w : Int)) = .tuple #[.bool true, .int .i64 (r1 w (psAt w xs ys (i + 1))), .int .i64 (r2 w (psAt w xs ys (i + 1)))] := by
  have h := hs
  unfold isStep at h
  rw [Bool.and_eq_true, decide_eq_true_eq, psAt_len hw] at h
  have hf : 2 * w ≤ i + 1 := by omega
  refine ⟨hf, ?_⟩
  have ha := h.2
  rw [r1_is hw xs ys _ hf, r2_is hw xs ys _ hf] at ha ⊢
  have hk : (((i + 1 : Nat) : Int) - (w : Int) - (w : Int)).toNat = i + 1 - 2 * w := by omega
  unfold stepV
  rw [if_neg (by omega), hk]
  unfold stepR refIs
  rw [if_pos (by rw [Bool.and_eq_true, decide_eq_true_eq]; exact ⟨by omega, ha⟩)]
theorem not_told {w : Nat} {b : Int} (hw : 0 < w) (xs ys : List Int) (i : Nat) (hs : isStep w b (psAt w xs ys (i + 1)) = false) :
    stepV w b xs ys (min (i + 1) (i + 1)) (((i + 1 : Nat) : Int) - (w : Int)) = .tuple #[.bool false, .int .i64 0, .int .i64 0] := by
  unfold stepV
  by_cases hk : ((i + 1 : Nat) : Int) - (w : Int) < w
  · rw [if_pos hk]
  · rw [if_neg hk]
    have hf : 2 * w ≤ i + 1 := by omega
    have hkk : (((i + 1 : Nat) : Int) - (w : Int) - (w : Int)).toNat = i + 1 - 2 * w := by omega
    rw [hkk]
    unfold stepR refIs
    unfold isStep at hs
    rw [psAt_len hw, decide_eq_true (by omega), Bool.true_and, r1_is hw xs ys _ hf, r2_is hw xs ys _ hf] at hs
    rw [hs, Bool.and_false, if_neg (by simp)]

end Go.Proofs.Ytafhlmpifdclaaa.shift
