/- The plain law behind 'ShiftSteps': what is wanted is what is told. -/
import Derived.Test.YtafhlmpifdclaaaRows
import Derived.Test.YtafhlmpifdclaaaShift4b
namespace Go.Proofs.Ytafhlmpifdclaaa.shift
set_option linter.unusedVariables false
set_option linter.unusedSimpArgs false

def isW (w : Nat) (b : Int) (xs ys : List Int) (N k : Nat) : Bool := decide (w ≤ k) && refIs w b xs ys N (k - w)
def wantL (w : Nat) (b : Int) (xs ys : List Int) (N : Nat) : Nat → List (Int × Int × Int)
  | 0 => []
  | k + 1 => wantL w b xs ys N k ++ (if isW w b xs ys N k = true then [((k : Int), rr1 w xs ys (k - w), rr1 w xs ys (k - w + w))] else [])
theorem stepV_yes {w : Nat} {b : Int} {xs ys : List Int} {N k : Nat} (h : isW w b xs ys N k = true) : stepV w b xs ys N (k : Int) = .tuple #[.bool true, .int .i64 (rr1 w xs ys (k - w)), .int .i64 (rr1 w xs ys (k - w + w))] := by
  unfold isW at h
  rw [Bool.and_eq_true, decide_eq_true_eq] at h
  unfold stepV
  rw [if_neg (by omega), show ((k : Int) - (w : Int)).toNat = k - w by omega]
  exact if_pos h.2
theorem stepV_no {w : Nat} {b : Int} {xs ys : List Int} {N k : Nat} (h : isW w b xs ys N k = false) : stepV w b xs ys N (k : Int) = .tuple #[.bool false, .int .i64 0, .int .i64 0] := by
  unfold isW at h
  unfold stepV
  by_cases hk : (k : Int) < w
  · rw [if_pos hk]
  · rw [if_neg hk, show ((k : Int) - (w : Int)).toNat = k - w by omega]
    rw [decide_eq_true (by omega), Bool.true_and] at h
    exact if_neg (by rw [h]; simp)
theorem wantL_len (w : Nat) (b : Int) (xs ys : List Int) (N : Nat) : ∀ k, (wantL w b xs ys N k).length ≤ k := by
  intro k
  induction k with
  | zero => simp [wantL]
  | succ k ih =>
    simp only [wantL, List.length_append]
    split <;> simp <;> omega
theorem outs_few {w : Nat} {b : Int} {xs ys : List Int} (hw : 0 < w) : ∀ i, i < 2 * w → outs w b xs ys i = [] := by
  intro i
  induction i with
  | zero => intro _; rfl
  | succ i ih =>
    intro h
    have hs : isStep w b (psAt w xs ys (i + 1)) = false := by
      unfold isStep
      rw [psAt_len hw, decide_eq_false (by omega)]
      rfl
    simp only [outs]
    rw [ih (by omega), hs]
    rfl
theorem isStep_isW {w : Nat} {b : Int} {xs ys : List Int} {N : Nat} (hw : 0 < w) (k : Nat) (h : k + w ≤ N) : isStep w b (psAt w xs ys (k + w)) = isW w b xs ys N k := by
  unfold isStep isW refIs
  rw [psAt_len hw]
  by_cases h1 : w ≤ k
  · rw [decide_eq_true (by omega), decide_eq_true h1, decide_eq_true (by omega), Bool.true_and, Bool.true_and, Bool.true_and, r1_is hw xs ys _ (by omega), r2_is hw xs ys _ (by omega), show k + w - 2 * w = k - w by omega]
  · rw [decide_eq_false (by omega), decide_eq_false h1]
    rfl
theorem want_outs {w : Nat} {b : Int} {xs ys : List Int} {N : Nat} (hw : 0 < w) : ∀ k, wantL w b xs ys N k = outs w b xs ys (min (k + w - 1) N) := by
  intro k
  induction k with
  | zero => rw [outs_few hw _ (by omega)]; rfl
  | succ k ih =>
    simp only [wantL]
    rw [ih]
    by_cases h : k + w ≤ N
    · rw [show min (k + 1 + w - 1) N = (k + w - 1) + 1 by omega, show min (k + w - 1) N = k + w - 1 by omega]
      simp only [outs]
      rw [show k + w - 1 + 1 = k + w by omega, isStep_isW (N := N) hw k h]
      cases hs : isW w b xs ys N k with
      | false => rfl
      | true =>
        have hs' := hs
        unfold isW at hs'
        rw [Bool.and_eq_true, decide_eq_true_eq] at hs'
        rw [if_pos rfl, if_pos rfl, r1_is hw xs ys _ (by omega), r2_is hw xs ys _ (by omega), show k + w - 2 * w = k - w by omega, show (((k + w - 1 : Nat) : Int) + 1 - (w : Int)) = (k : Int) by omega]
    · have hs : isW w b xs ys N k = false := by
        unfold isW refIs
        by_cases h1 : w ≤ k
        · rw [decide_eq_false (p := k - w + w + w ≤ N) (by omega), Bool.false_and, Bool.and_false]
        · rw [decide_eq_false h1, Bool.false_and]
      rw [hs, show min (k + 1 + w - 1) N = N by omega, show min (k + w - 1) N = N by omega]
      simp
theorem want_all {w : Nat} {b : Int} {xs ys : List Int} {lx ly : Nat} (hw : 0 < w) : wantL w b xs ys (min lx ly) lx = outs w b xs ys (min lx ly) := by
  rw [want_outs hw, show min (lx + w - 1) (min lx ly) = min lx ly by omega]
/-- What is told later comes behind. -/
theorem outs_pre (w : Nat) (b : Int) (xs ys : List Int) (i : Nat) : ∀ d, ∃ r, outs w b xs ys (i + d) = outs w b xs ys i ++ r := by
  intro d
  induction d with
  | zero => exact ⟨[], by simp⟩
  | succ d ih =>
    obtain ⟨r, h⟩ := ih
    show ∃ r, outs w b xs ys (i + d + 1) = _
    simp only [outs]
    exact ⟨r ++ _, by rw [h, List.append_assoc]⟩
theorem outs_next {w : Nat} {b : Int} {xs ys : List Int} {n i : Nat} (hi : i < n) (hs : isStep w b (psAt w xs ys (i + 1)) = true) :
    (outs w b xs ys i).length < (outs w b xs ys n).length ∧ (outs w b xs ys n).getD (outs w b xs ys i).length (0, 0, 0) = (((i : Nat) : Int) + 1 - (w : Int), r1 w (psAt w xs ys (i + 1)), r2 w (psAt w xs ys (i + 1))) := by
  obtain ⟨r, h⟩ := outs_pre w b xs ys (i + 1) (n - (i + 1))
  rw [show i + 1 + (n - (i + 1)) = n by omega] at h
  have h1 : outs w b xs ys (i + 1) = outs w b xs ys i ++ [(((i : Nat) : Int) + 1 - (w : Int), r1 w (psAt w xs ys (i + 1)), r2 w (psAt w xs ys (i + 1)))] := by
    simp only [outs]
    rw [hs, if_pos rfl]
  rw [h, h1]
  refine ⟨by simp, ?_⟩
  rw [List.getD_eq_getElem?_getD, List.append_assoc, List.getElem?_append_right (Nat.le_refl _), Nat.sub_self]
  rfl
theorem first_or {p : Nat → Prop} [DecidablePred p] : ∀ n, (∃ j, j < n ∧ p j ∧ ∀ i, i < j → ¬ p i) ∨ ∀ i, i < n → ¬ p i := by
  intro n
  induction n with
  | zero => exact .inr fun i hi => by omega
  | succ n ih =>
    rcases ih with ⟨j, h1, h2, h3⟩ | h
    · exact .inl ⟨j, by omega, h2, h3⟩
    · by_cases hn : p n
      · exact .inl ⟨n, by omega, hn, h⟩
      · refine .inr fun i hi => ?_
        rcases Nat.lt_or_ge i n with h0 | h0
        · exact h i h0
        · obtain rfl : i = n := by omega
          exact hn
end Go.Proofs.Ytafhlmpifdclaaa.shift
