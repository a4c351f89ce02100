/- The plain laws behind 'ShiftStill'. -/
import Derived.Test.YtafhlmpifdclaaaRows
import Derived.Test.YtafhlmpifdclaaaShift6b
namespace Go.Proofs.Ytafhlmpifdclaaa.shift
set_option linter.unusedVariables false
set_option linter.unusedSimpArgs false

theorem bst_all {q : Nat → Int × Int} {P : Int × Int → Prop} : ∀ (m : Nat), (∀ j, j ≤ m → P (q j)) → P (bst q m) := by
  intro m
  induction m with
  | zero => intro h; exact h 0 (Nat.le_refl _)
  | succ m ih =>
    intro h
    simp only [bst]
    split
    · exact h _ (Nat.le_refl _)
    · exact ih fun j hj => h j (by omega)
theorem bst_const {q : Nat → Int × Int} {d : Int} : ∀ (m : Nat), (∀ j, j ≤ m → (q j).2 = d) → bst q m = q 0 := by
  intro m
  induction m with
  | zero => intro h; rfl
  | succ m ih =>
    intro h
    have h0 := ih fun j hj => h j (by omega)
    simp only [bst]
    rw [h0, if_neg (by rw [h _ (Nat.le_refl _), h 0 (by omega)]; omega)]
theorem isStep_near {w : Nat} {b lo : Int} {xs ys : List Int} (hw : 0 < w) (i : Nat) (hx : ∀ j, j < i → lo ≤ xs.getD j 0 ∧ xs.getD j 0 ≤ lo + b) : isStep w b (psAt w xs ys i) = false := by
  by_cases h2 : 2 * w ≤ (psAt w xs ys i).length
  rotate_left
  · unfold isStep; rw [decide_eq_false h2]; rfl
  rw [psAt_len hw] at h2
  have key : ∀ o, o + w ≤ 2 * w → lo ≤ (bst (q18 (psAt w xs ys i) o) (w - 1)).1 ∧ (bst (q18 (psAt w xs ys i) o) (w - 1)).1 ≤ lo + b := by
    intro o ho
    refine bst_all (P := fun p => lo ≤ p.1 ∧ p.1 ≤ lo + b) (w - 1) fun j hj => ?_
    unfold q18
    rw [psAt_get hw xs ys i (o + j) (by omega)]
    exact hx _ (by omega)
  have k1 := key 0 (by omega)
  have k2 := key w (by omega)
  unfold isStep r1 r2 apartB
  rw [Bool.and_eq_false_iff]
  right
  rw [decide_eq_false]
  split <;> omega
theorem outs_near {w : Nat} {b lo : Int} {xs ys : List Int} (hw : 0 < w) : ∀ i, (∀ j, j < i → lo ≤ xs.getD j 0 ∧ xs.getD j 0 ≤ lo + b) → outs w b xs ys i = [] := by
  intro i
  induction i with
  | zero => intro _; rfl
  | succ i ih =>
    intro h
    simp only [outs]
    rw [ih (fun j hj => h j (by omega)), isStep_near hw (i + 1) h]
    rfl
theorem steps_near {n : Nat} {b lo : Int} {xs ys : List Int} {m : Nat} (hn : 0 < n) (h : ∀ j, j < m → lo ≤ xs.getD j 0 ∧ xs.getD j 0 ≤ lo + b) : stepsOf (n : Int) b xs ys m = [] := by
  unfold stepsOf
  split
  · rfl
  · rw [Int.toNat_natCast]; exact outs_near hn m h

def nearL (bd bs : Int) (zs : List Int) (i : Nat) : List Int := (List.range i).map fun j => bs + (zs.getD j 0).tmod (bd + 1)
def delL (zs : List Int) (i : Nat) : List Int := (List.range i).map fun j => (zs.getD j 0).tmod 7
theorem getD_map (f : Nat → Int) (i j : Nat) (h : j < i) : ((List.range i).map f).getD j 0 = f j := by
  simp [List.getD_eq_getElem?_getD, h]
theorem map_succ (f : Nat → Int) (i : Nat) : (List.range (i + 1)).map f = (List.range i).map f ++ [f i] := by
  rw [List.range_succ, List.map_append]; rfl
theorem tmod_bounds {x b : Int} (hx : 0 ≤ x) (hb : 0 ≤ b) : 0 ≤ x.tmod (b + 1) ∧ x.tmod (b + 1) ≤ b := by
  have h1 := Int.tmod_nonneg (b + 1) hx
  have h2 := Int.tmod_lt_of_pos x (show 0 < b + 1 by omega)
  omega

/-! ### a clock that steps once -/
def oneL (n : Nat) (A B : Int) (i : Nat) : List Int := (List.range i).map fun j => if j < 2 * n then A else B
def evL (i : Nat) : List Int := (List.range i).map fun _ => 5
theorem isStep_once {n : Nat} {b A B : Int} (hn : 0 < n) (hb : 0 ≤ b) (hAB : A + b < B) (i : Nat) (hi : i ≤ 4 * n) :
    isStep n b (psAt n (oneL n A B (4 * n)) (evL (4 * n)) i) = decide (3 * n ≤ i ∧ i < 4 * n) ∧
    (2 * n ≤ i → r1 n (psAt n (oneL n A B (4 * n)) (evL (4 * n)) i) = (if i - 2 * n < 2 * n then A else B) ∧ r2 n (psAt n (oneL n A B (4 * n)) (evL (4 * n)) i) = (if i - n < 2 * n then A else B)) := by
  have key : 2 * n ≤ i → ∀ o, o + n ≤ 2 * n → (bst (q18 (psAt n (oneL n A B (4 * n)) (evL (4 * n)) i) o) (n - 1)).1 = (if i - 2 * n + o < 2 * n then A else B) := by
    intro h2 o ho
    have hq : ∀ j, j ≤ n - 1 → q18 (psAt n (oneL n A B (4 * n)) (evL (4 * n)) i) o j = (if i - 2 * n + o + j < 2 * n then A else B, 5) := by
      intro j hj
      unfold q18
      rw [psAt_get hn _ _ i (o + j) (by omega)]
      have e : i - min i (2 * n) + (o + j) = i - 2 * n + o + j := by omega
      rw [e]
      unfold oneL evL
      rw [getD_map _ _ _ (by omega), getD_map _ _ _ (by omega)]
    rw [bst_const (d := 5) (n - 1) (fun j hj => by rw [hq j hj]), hq 0 (by omega), Nat.add_zero]
  refine ⟨?_, fun h2 => ⟨by have := key h2 0 (by omega); unfold r1; rw [this]; simp, by have := key h2 n (by omega); unfold r2; rw [this, show i - 2 * n + n = i - n by omega]⟩⟩
  unfold isStep
  rw [psAt_len hn]
  by_cases h2 : 2 * n ≤ i
  · rw [decide_eq_true (by omega), Bool.true_and]
    unfold r1 r2
    rw [key h2 0 (by omega), key h2 n (by omega)]
    unfold apartB
    by_cases h3 : 3 * n ≤ i ∧ i < 4 * n
    · rw [decide_eq_true h3, if_pos (by omega), if_neg (by omega), if_pos (by omega)]
      exact decide_eq_true (by omega)
    · rw [decide_eq_false h3, decide_eq_false]
      by_cases h4 : i - 2 * n + n < 2 * n
      · have a1 : (if i - 2 * n + 0 < 2 * n then A else B) = A := if_pos (by omega)
        have a2 : (if i - 2 * n + n < 2 * n then A else B) = A := if_pos h4
        rw [a1, a2, if_neg (by omega)]; omega
      · have a1 : (if i - 2 * n + 0 < 2 * n then A else B) = B := if_neg (by omega)
        have a2 : (if i - 2 * n + n < 2 * n then A else B) = B := if_neg h4
        rw [a1, a2, if_neg (by omega)]; omega
  · rw [decide_eq_false (by omega), Bool.false_and, decide_eq_false (by omega)]
theorem outs_once {n : Nat} {b A B : Int} (hn : 0 < n) (hb : 0 ≤ b) (hAB : A + b < B) : ∀ i, i ≤ 4 * n → outs n b (oneL n A B (4 * n)) (evL (4 * n)) i = (List.range (min i (4 * n - 1) + 1 - 3 * n)).map fun j => (((2 * n + j : Nat) : Int), A, B) := by
  intro i
  induction i with
  | zero =>
    intro _
    rw [show min 0 (4 * n - 1) + 1 - 3 * n = 0 by omega]
    rfl
  | succ i ih =>
    intro hi
    obtain ⟨h1, h2⟩ := isStep_once hn hb hAB (i + 1) hi
    simp only [outs]
    rw [ih (by omega), h1]
    by_cases h3 : 3 * n ≤ i + 1 ∧ i + 1 < 4 * n
    · rw [decide_eq_true h3, if_pos rfl]
      obtain ⟨h4, h5⟩ := h2 (by omega)
      rw [h4, h5, if_pos (by omega), if_neg (by omega), show min (i + 1) (4 * n - 1) + 1 - 3 * n = (min i (4 * n - 1) + 1 - 3 * n) + 1 by omega, List.range_succ, List.map_append]
      congr 1
      simp only [List.map_cons, List.map_nil, List.cons.injEq, Prod.mk.injEq, and_true]
      omega
    · rw [decide_eq_false h3, if_neg (by simp), List.append_nil, show min (i + 1) (4 * n - 1) + 1 - 3 * n = min i (4 * n - 1) + 1 - 3 * n by omega]
theorem steps_once {n : Nat} {b A B : Int} (hn : 0 < n) (hn1 : n ≤ 20) (hb : 0 ≤ b) (hAB : A + b < B) : stepsOf (n : Int) b (oneL n A B (4 * n)) (evL (4 * n)) (4 * n) = once n A B := by
  unfold stepsOf
  rw [if_neg (by omega), Int.toNat_natCast, outs_once hn hb hAB (4 * n) (Nat.le_refl _), show min (4 * n) (4 * n - 1) + 1 - 3 * n = n by omega]
  rfl
theorem once_ne {n : Nat} (hn : 0 < n) (A B : Int) : once n A B ≠ [] := by
  intro h
  have := once_len n A B
  rw [h] at this
  simp at this
  omega
end Go.Proofs.Ytafhlmpifdclaaa.shift
