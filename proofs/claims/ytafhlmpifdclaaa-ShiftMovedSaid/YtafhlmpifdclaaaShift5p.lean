/- The plain laws behind 'ShiftMoved': offsets and delays that are moved, or turned; a greater bound. -/
import Derived.Test.YtafhlmpifdclaaaRows
import Derived.Test.YtafhlmpifdclaaaShift5a
namespace Go.Proofs.Ytafhlmpifdclaaa.shift
set_option linter.unusedVariables false
set_option linter.unusedSimpArgs false

theorem bst_all5 {q : Nat → Int × Int} {P : Int × Int → Prop} : ∀ (m : Nat), (∀ j, j ≤ m → P (q j)) → P (bst q m) := by
  intro m
  induction m with
  | zero => intro h; exact h 0 (Nat.le_refl _)
  | succ m ih =>
    intro h
    simp only [bst]
    split
    · exact h _ (Nat.le_refl _)
    · exact ih fun j hj => h j (by omega)
theorem getD_map5 (f : Nat → Int) (i j : Nat) (h : j < i) : ((List.range i).map f).getD j 0 = f j := by simp [List.getD_eq_getElem?_getD, h]
theorem map_succ5 (f : Nat → Int) (i : Nat) : (List.range (i + 1)).map f = (List.range i).map f ++ [f i] := by rw [List.range_succ, List.map_append]; rfl
def rng (x : Int) : Prop := -1152921504606846976 < x ∧ x < 1152921504606846976
def mvL (byy : Int) (xs : List Int) (i : Nat) : List Int := (List.range i).map fun j => xs.getD j 0 + byy
def tnL (xs : List Int) (i : Nat) : List Int := (List.range i).map fun j => 0 - xs.getD j 0
theorem mvL_len (byy : Int) (xs : List Int) (i : Nat) : (mvL byy xs i).length = i := by simp [mvL]
theorem tnL_len (xs : List Int) (i : Nat) : (tnL xs i).length = i := by simp [tnL]
theorem bst_map {q q' : Nat → Int × Int} {g : Int × Int → Int × Int} (hg : ∀ p r, (g p).2 < (g r).2 ↔ p.2 < r.2) : ∀ (m : Nat), (∀ j, j ≤ m → q' j = g (q j)) → bst q' m = g (bst q m) := by
  intro m
  induction m with
  | zero => intro h; exact h 0 (Nat.le_refl _)
  | succ m ih =>
    intro h
    have h0 := ih fun j hj => h j (by omega)
    simp only [bst]
    rw [h0, h (m + 1) (Nat.le_refl _)]
    by_cases hc : (q (m + 1)).2 < (bst q m).2
    · rw [if_pos hc, if_pos ((hg _ _).2 hc)]
    · rw [if_neg hc, if_neg (fun h2 => hc ((hg _ _).1 h2))]
theorem psAt_map {w : Nat} {xs ys xs' ys' : List Int} {g : Int × Int → Int × Int} : ∀ i, (∀ j, j < i → (xs'.getD j 0, ys'.getD j 0) = g (xs.getD j 0, ys.getD j 0)) → psAt w xs' ys' i = (psAt w xs ys i).map g := by
  intro i
  induction i with
  | zero => intro _; rfl
  | succ i ih =>
    intro h
    have h0 := ih fun j hj => h j (by omega)
    have h1 := h i (by omega)
    simp only [psAt, addS]
    rw [h0, List.length_map, h1]
    split
    · simp only [List.map_drop, List.map_append, List.map_cons, List.map_nil]
    · simp only [List.map_append, List.map_cons, List.map_nil]
theorem q18_map {ps : List (Int × Int)} {g : Int × Int → Int × Int} {o j : Nat} (h : o + j < ps.length) : q18 (ps.map g) o j = g (q18 ps o j) := by
  simp only [q18, List.getD_eq_getElem?_getD, List.getElem?_map, List.getElem?_eq_getElem h, Option.map_some, Option.getD_some]
section
variable {w : Nat} {f h : Int → Int} (hw : 0 < w) (hh : ∀ a b, h a < h b ↔ a < b)
theorem r12_map (ps : List (Int × Int)) (hl : 2 * w ≤ ps.length) (hw : 0 < w) (hh : ∀ a b, h a < h b ↔ a < b) : r1 w (ps.map fun p => (f p.1, h p.2)) = f (r1 w ps) ∧ r2 w (ps.map fun p => (f p.1, h p.2)) = f (r2 w ps) := by
  constructor
  · unfold r1
    rw [bst_map (g := fun p => (f p.1, h p.2)) (fun p r => hh _ _) (w - 1) (fun j hj => q18_map (by omega))]
  · unfold r2
    rw [bst_map (g := fun p => (f p.1, h p.2)) (fun p r => hh _ _) (w - 1) (fun j hj => q18_map (by omega))]
theorem isStep_map {b : Int} (ps : List (Int × Int)) (hw : 0 < w) (hh : ∀ a b, h a < h b ↔ a < b) (hf : ∀ x y, apartB (f x) (f y) b = apartB x y b) : isStep w b (ps.map fun p => (f p.1, h p.2)) = isStep w b ps := by
  unfold isStep
  rw [List.length_map]
  by_cases hl : 2 * w ≤ ps.length
  · rw [(r12_map ps hl hw hh).1, (r12_map ps hl hw hh).2, hf]
  · rw [decide_eq_false hl]; rfl
theorem outs_map {b : Int} {xs ys xs' ys' : List Int} (hw : 0 < w) (hh : ∀ a b, h a < h b ↔ a < b) (hf : ∀ x y, apartB (f x) (f y) b = apartB x y b) : ∀ i, (∀ j, j < i → xs'.getD j 0 = f (xs.getD j 0) ∧ ys'.getD j 0 = h (ys.getD j 0)) →
    outs w b xs' ys' i = (outs w b xs ys i).map fun s => (s.1, f s.2.1, f s.2.2) := by
  intro i
  induction i with
  | zero => intro _; rfl
  | succ i ih =>
    intro hx
    have h0 := ih fun j hj => hx j (by omega)
    have h1 : psAt w xs' ys' (i + 1) = (psAt w xs ys (i + 1)).map fun p => (f p.1, h p.2) := psAt_map (g := fun p => (f p.1, h p.2)) (i + 1) fun j hj => by rw [(hx j hj).1, (hx j hj).2]
    simp only [outs]
    rw [h0, h1, isStep_map _ hw hh hf, List.map_append]
    congr 1
    cases hs : isStep w b (psAt w xs ys (i + 1)) with
    | false => simp
    | true =>
      have hl : 2 * w ≤ (psAt w xs ys (i + 1)).length := by
        unfold isStep at hs
        simp only [Bool.and_eq_true, decide_eq_true_eq] at hs
        exact hs.1
      simp only [if_true, List.map_cons, List.map_nil]
      rw [(r12_map _ hl hw hh).1, (r12_map _ hl hw hh).2]
end
theorem getD_range (f : Nat → Int) (i j : Nat) (h : j < i) : ((List.range i).map f).getD j 0 = f j := getD_map5 f i j h
def mvS (byy : Int) (os : List (Int × Int × Int)) : List (Int × Int × Int) := os.map fun s => (s.1, s.2.1 + byy, s.2.2 + byy)
def tnS (os : List (Int × Int × Int)) : List (Int × Int × Int) := os.map fun s => (s.1, 0 - s.2.1, 0 - s.2.2)
theorem steps_moved (w b byy : Int) (xs ys : List Int) (lx ly : Nat) : stepsOf w b (mvL byy xs lx) (mvL byy ys ly) (min lx ly) = mvS byy (stepsOf w b xs ys (min lx ly)) := by
  unfold stepsOf
  split
  · rfl
  · refine outs_map (f := (· + byy)) (h := (· + byy)) (by omega) (by intros; omega) ?_ _ ?_
    · intro x y
      unfold apartB
      congr 2
      split <;> split <;> omega
    · intro j hj
      exact ⟨getD_range _ lx j (by omega), getD_range _ ly j (by omega)⟩
theorem steps_turned (w b : Int) (xs ys : List Int) (lx ly : Nat) : stepsOf w b (tnL xs lx) ys (min lx ly) = tnS (stepsOf w b xs ys (min lx ly)) := by
  unfold stepsOf
  split
  · rfl
  · refine outs_map (f := (0 - ·)) (h := id) (by omega) (by intros; exact Iff.rfl) ?_ _ ?_
    · intro x y
      unfold apartB
      congr 2
      split <;> split <;> omega
    · intro j hj
      exact ⟨getD_range _ lx j (by omega), rfl⟩

/-! ### offsets of steps lie where offsets lie -/
theorem addS_rng {w : Nat} {ps : List (Int × Int)} {x y : Int} (h : ∀ p ∈ ps, rng p.1) (hx : rng x) : ∀ p ∈ addS w ps x y, rng p.1 := by
  intro p hp
  have hp' : p ∈ ps ++ [(x, y)] := by
    unfold addS at hp
    split at hp
    · exact List.mem_of_mem_drop hp
    · exact hp
  rcases List.mem_append.1 hp' with h1 | h1
  · exact h p h1
  · simp only [List.mem_cons, List.not_mem_nil, or_false] at h1
    subst h1; exact hx
theorem psAt_rng {w : Nat} {xs ys : List Int} : ∀ i, (∀ j, j < i → rng (xs.getD j 0)) → ∀ p ∈ psAt w xs ys i, rng p.1 := by
  intro i
  induction i with
  | zero => intro _ p hp; cases hp
  | succ i ih => intro h; exact addS_rng (ih fun j hj => h j (by omega)) (h i (by omega))
theorem q18_rng {ps : List (Int × Int)} (h : ∀ p ∈ ps, rng p.1) (o j : Nat) : rng (q18 ps o j).1 := by
  unfold q18
  rw [List.getD_eq_getElem?_getD]
  cases hi : ps[o + j]? with
  | none => simp [rng]
  | some p => exact h p (List.mem_of_getElem? hi)
theorem outs_rng {w : Nat} {b : Int} {xs ys : List Int} : ∀ i, (∀ j, j < i → rng (xs.getD j 0)) → ∀ s ∈ outs w b xs ys i, rng s.2.1 ∧ rng s.2.2 := by
  intro i
  induction i with
  | zero => intro _ s hs; cases hs
  | succ i ih =>
    intro h s hs
    simp only [outs] at hs
    rcases List.mem_append.1 hs with h1 | h1
    · exact ih (fun j hj => h j (by omega)) s h1
    · split at h1
      · simp only [List.mem_cons, List.not_mem_nil, or_false] at h1
        subst h1
        have hp := psAt_rng (w := w) (ys := ys) (i + 1) h
        exact ⟨bst_all5 (P := fun p => rng p.1) _ fun j _ => q18_rng hp 0 j, bst_all5 (P := fun p => rng p.1) _ fun j _ => q18_rng hp w j⟩
      · cases h1
theorem steps_rng {w b : Int} {xs ys : List Int} {n : Nat} (h : ∀ j, j < n → rng (xs.getD j 0)) : ∀ s ∈ stepsOf w b xs ys n, rng s.2.1 ∧ rng s.2.2 := by
  unfold stepsOf
  split
  · intro s hs; cases hs
  · exact outs_rng n h

/-! ### a greater bound -/
/-- Each of ds stands in os, in this order: f says where. -/
def Within (ds os : List (Int × Int × Int)) (f : Nat → Nat) : Prop := (∀ j, j < ds.length → f j < os.length ∧ os.getD (f j) (0, 0, 0) = ds.getD j (0, 0, 0)) ∧ ∀ i j, i < j → j < ds.length → f i < f j
theorem getD_app {α : Type} (l r : List α) (i : Nat) (d : α) (h : i < l.length) : (l ++ r).getD i d = l.getD i d := by
  simp only [List.getD_eq_getElem?_getD, List.getElem?_append_left h]
theorem getD_app2 {α : Type} (l : List α) (x : α) (d : α) : (l ++ [x]).getD l.length d = x := by
  simp only [List.getD_eq_getElem?_getD, List.getElem?_append_right (Nat.le_refl _), Nat.sub_self]
  rfl
theorem Within.more {ds os : List (Int × Int × Int)} {f : Nat → Nat} (h : Within ds os f) (x : Int × Int × Int) : Within ds (os ++ [x]) f := by
  refine ⟨fun j hj => ?_, h.2⟩
  obtain ⟨h1, h2⟩ := h.1 j hj
  exact ⟨by simp; omega, by rw [getD_app _ _ _ _ h1]; exact h2⟩
theorem Within.both {ds os : List (Int × Int × Int)} {f : Nat → Nat} (h : Within ds os f) (x : Int × Int × Int) : Within (ds ++ [x]) (os ++ [x]) (fun j => if j < ds.length then f j else os.length) := by
  constructor
  · intro j hj
    simp only [List.length_append, List.length_cons, List.length_nil] at hj ⊢
    by_cases hj2 : j < ds.length
    · obtain ⟨h1, h2⟩ := h.1 j hj2
      rw [if_pos hj2, getD_app _ _ _ _ h1, getD_app _ _ _ _ hj2]
      exact ⟨by omega, h2⟩
    · obtain rfl : j = ds.length := by omega
      rw [if_neg hj2, getD_app2, getD_app2]
      exact ⟨by omega, rfl⟩
  · intro i j hij hj
    simp only [List.length_append, List.length_cons, List.length_nil] at hj
    have hi2 : i < ds.length := by omega
    simp only
    rw [if_pos hi2]
    by_cases hj2 : j < ds.length
    · rw [if_pos hj2]; exact h.2 i j hij hj2
    · rw [if_neg hj2]; exact (h.1 i hi2).1
theorem isStep_more {w : Nat} {b more : Int} {ps : List (Int × Int)} (hm : 0 ≤ more) (h : isStep w (b + more) ps = true) : isStep w b ps = true := by
  unfold isStep apartB at *
  simp only [Bool.and_eq_true, decide_eq_true_eq] at h ⊢
  exact ⟨h.1, by omega⟩
theorem outs_within {w : Nat} {b more : Int} {xs ys : List Int} (hm : 0 ≤ more) : ∀ i, ∃ f, Within (outs w (b + more) xs ys i) (outs w b xs ys i) f := by
  intro i
  induction i with
  | zero => exact ⟨id, ⟨fun j hj => by simp [outs] at hj, fun i j _ hj => by simp [outs] at hj⟩⟩
  | succ i ih =>
    obtain ⟨f, hf⟩ := ih
    simp only [outs]
    cases h1 : isStep w (b + more) (psAt w xs ys (i + 1)) with
    | true =>
      rw [isStep_more hm h1]
      exact ⟨_, hf.both _⟩
    | false =>
      cases h2 : isStep w b (psAt w xs ys (i + 1)) with
      | true =>
        refine ⟨f, ?_⟩
        simp only [Bool.false_eq_true, if_false, if_true, List.append_nil]
        exact hf.more _
      | false =>
        refine ⟨f, ?_⟩
        simpa using hf
theorem steps_within {w b more : Int} {xs ys : List Int} {n : Nat} (hb : 0 ≤ b) (hm : 0 ≤ more) : ∃ f, Within (stepsOf w (b + more) xs ys n) (stepsOf w b xs ys n) f := by
  unfold stepsOf
  by_cases h : w < 1 ∨ 64 < w
  · rw [if_pos (by omega), if_pos (by omega)]
    exact ⟨id, ⟨fun j hj => by simp at hj, fun i j _ hj => by simp at hj⟩⟩
  · rw [if_neg (by omega), if_neg (by omega)]
    exact outs_within hm n
/-- Where the search stands: T j ahead of number j of ds. -/
def Search (ds os : List (Int × Int × Int)) (T : Nat → Nat) : Prop := T 0 = 0 ∧ ∀ j, j < ds.length → T j ≤ T (j + 1) ∧ T (j + 1) < os.length ∧ os.getD (T (j + 1)) (0, 0, 0) = ds.getD j (0, 0, 0) ∧ ∀ k, T j ≤ k → k < T (j + 1) → os.getD k (0, 0, 0) ≠ ds.getD j (0, 0, 0)
theorem first_or5 {p : Nat → Prop} [DecidablePred p] : ∀ n, (∃ j, j < n ∧ p j ∧ ∀ i, i < j → ¬ p i) ∨ ∀ i, i < n → ¬ p i := by
  intro n
  induction n with
  | zero => exact .inr fun i hi => by omega
  | succ n ih =>
    rcases ih with ⟨j, h1, h2, h3⟩ | h
    · exact .inl ⟨j, by omega, h2, h3⟩
    · by_cases hn : p n
      · exact .inl ⟨n, by omega, hn, h⟩
      · refine .inr fun i hi => ?_
        rcases Nat.lt_or_ge i n with h0 | h0
        · exact h i h0
        · obtain rfl : i = n := by omega
          exact hn
theorem first_from {p : Nat → Prop} [DecidablePred p] (a : Nat) : ∀ n, a ≤ n → p n → ∃ j, a ≤ j ∧ j ≤ n ∧ p j ∧ ∀ i, a ≤ i → i < j → ¬ p i := by
  intro n ha hn
  rcases first_or5 (p := fun i => a ≤ i ∧ p i) (n + 1) with ⟨j, h1, h2, h3⟩ | h
  · exact ⟨j, h2.1, by omega, h2.2, fun i hi hij hp => h3 i hij ⟨hi, hp⟩⟩
  · exact absurd ⟨ha, hn⟩ (h n (by omega))
theorem search_of {ds os : List (Int × Int × Int)} {f : Nat → Nat} (h : Within ds os f) : ∃ T, Search ds os T := by
  have key : ∀ n, n ≤ ds.length → ∃ T : Nat → Nat, T 0 = 0 ∧ (∀ j, j < n → T (j + 1) ≤ f j ∧ T j ≤ T (j + 1) ∧ T (j + 1) < os.length ∧ os.getD (T (j + 1)) (0, 0, 0) = ds.getD j (0, 0, 0) ∧ ∀ k, T j ≤ k → k < T (j + 1) → os.getD k (0, 0, 0) ≠ ds.getD j (0, 0, 0)) := by
    intro n
    induction n with
    | zero => intro _; exact ⟨fun _ => 0, rfl, fun j hj => by omega⟩
    | succ n ih =>
      intro hn
      obtain ⟨T, h0, hT⟩ := ih (by omega)
      have hf := h.1 n (by omega)
      have hle : T n ≤ f n := by
        cases n with
        | zero => omega
        | succ n => have := (hT n (by omega)).1; have := h.2 n (n + 1) (by omega) (by omega); omega
      obtain ⟨j, h1, h2, h3, h4⟩ := first_from (p := fun k => os.getD k (0, 0, 0) = ds.getD n (0, 0, 0)) (T n) (f n) hle hf.2
      refine ⟨fun i => if i = n + 1 then j else T i, by simpa using h0, fun i hi => ?_⟩
      by_cases hin : i = n
      · subst hin
        simp only [if_true]
        rw [if_neg (by omega)]
        exact ⟨h2, h1, by omega, h3, h4⟩
      · simp only
        rw [if_neg (by omega), if_neg (by omega)]
        exact hT i (by omega)
  obtain ⟨T, h0, hT⟩ := key ds.length (Nat.le_refl _)
  exact ⟨T, h0, fun j hj => (hT j hj).2⟩
end Go.Proofs.Ytafhlmpifdclaaa.shift
