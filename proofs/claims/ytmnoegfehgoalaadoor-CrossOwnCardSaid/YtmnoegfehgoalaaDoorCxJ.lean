/- Lines that tell one sample each at the most, and no two the same: how they meet. Plain Lean. Lines that are turned, lines and samples that want one: how they meet. Plain Lean. What is amiss: cross.amiss, cross.Audit. The exchanges of trips: which lines tell which samples, what they measure. Plain. The exchanges' samples and lines, as rows: their cells are of their kinds. Plain. -/
import Derived.Test.YtmnoegfehgoalaaDoorCxA
import Derived.Test.YtmnoegfehgoalaaDoorCxG
import Derived.Test.YtmnoegfehgoalaaDoorCxI
namespace Go.Cx
set_option linter.unusedVariables false

/-- What lines meet that tell one sample each. -/
def ownMet (f : Nat → Option Nat) (r : Nat) : List (Nat × Nat) := (List.range r).filterMap fun i => (f i).map fun j => (i, j)
def ownLost (f : Nat → Option Nat) (r : Nat) : List Nat := (List.range r).filter fun i => (f i).isNone
def ownTk (f : Nat → Option Nat) (r : Nat) (j : Nat) : Bool := (List.range r).any fun i => f i == some j
theorem find_congr {α : Type} {p q : α → Bool} : ∀ (l : List α), (∀ x ∈ l, p x = q x) → l.find? p = l.find? q := by
  intro l
  induction l with
  | nil => intro _; rfl
  | cons a l ih =>
    intro h
    rw [List.find?_cons, List.find?_cons, h a (List.mem_cons_self ..), ih fun x hx => h x (List.mem_cons_of_mem _ hx)]
theorem own_pick {m : Nat} {f : Nat → Option Nat} {r : Nat} (hin : ∀ i j, f i = some j → j < m) (hinj : ∀ i i' j, f i = some j → f i' = some j → i = i') : pick m (ownTk f r) (fun j => f r == some j) = f r := by
  cases h : f r with
  | none =>
    unfold pick
    rw [List.find?_eq_none]
    intro x hx
    simp
  | some j =>
    unfold pick
    rw [List.find?_range_eq_some]
    have ht : ownTk f r j = false := by
      unfold ownTk
      rw [List.any_eq_false]
      intro i hi he
      have := hinj i r j (by simpa using he) h
      have h2 := List.mem_range.1 hi
      omega
    refine ⟨by rw [ht]; simp, by simpa using hin r j h, fun x hx => ?_⟩
    have : ¬ j = x := by omega
    simp [this]
theorem greed_own {m : Nat} {f : Nat → Option Nat} {T : Nat → Nat → Bool} (r : Nat) (hT : ∀ i, i < r → ∀ j, j < m → T i j = (f i == some j)) (hin : ∀ i j, f i = some j → j < m) (hinj : ∀ i i' j, f i = some j → f i' = some j → i = i') :
    greed m T r = ⟨ownMet f r, ownLost f r, ownTk f r⟩ := by
  induction r with
  | zero => rfl
  | succ r ih =>
    rw [greed, ih fun i hi => hT i (by omega)]
    have hp : pick m (ownTk f r) (T r) = f r := by
      rw [← own_pick (r := r) hin hinj]
      unfold pick
      apply find_congr
      intro j hj
      rw [hT r (by omega) j (List.mem_range.1 hj)]
    unfold gstep
    show (match pick m (ownTk f r) (T r) with
      | some k => (⟨ownMet f r ++ [(r, k)], ownLost f r, fun j => ownTk f r j || j == k⟩ : Greed)
      | none => ⟨ownMet f r, ownLost f r ++ [r], ownTk f r⟩) = _
    rw [hp]
    have e1 : ownMet f (r + 1) = ownMet f r ++ ((f r).map fun j => (r, j)).toList := by
      unfold ownMet
      rw [List.range_succ, List.filterMap_append]
      cases h : f r <;> simp [h]
    have e2 : ownLost f (r + 1) = ownLost f r ++ (if (f r).isNone then [r] else []) := by
      unfold ownLost
      rw [List.range_succ, List.filter_append]
      cases h : f r <;> simp [h]
    have e3 : ownTk f (r + 1) = fun j => ownTk f r j || f r == some j := by
      funext j
      unfold ownTk
      rw [List.range_succ, List.any_append]
      simp
    rw [e1, e2, e3]
    cases h : f r with
    | none => simp
    | some k =>
      have e4 : (fun j => ownTk f r j || j == k) = (fun j => ownTk f r j || some k == some j) := by
        funext j
        by_cases hjk : j = k
        · subst hjk; simp
        · have : ¬ k = j := fun e => hjk e.symm
          have a1 : (j == k) = false := by simpa using hjk
          have a2 : (some k == some j) = false := by simpa using this
          rw [a1, a2]
      simp only [e4]
      simp
end Go.Cx

namespace Go.Cx
set_option linter.unusedVariables false

section
variable {α : Type}
def rot (k : Nat) (l : List α) : List α := l.drop k ++ l.take k
def del (g : Nat) (l : List α) : List α := l.take g ++ l.drop (g + 1)
theorem rot_len (k : Nat) (l : List α) : (rot k l).length = l.length := by
  unfold rot
  rw [List.length_append, List.length_drop, List.length_take]
  omega
theorem del_len {g : Nat} {l : List α} (h : g < l.length) : (del g l).length = l.length - 1 := by
  unfold del
  rw [List.length_append, List.length_drop, List.length_take]
  omega
def md (n k i : Nat) : Nat := if i + k < n then i + k else i + k - n
theorem md_mod {n k i : Nat} (hi : i < n) (hk : k < n) : (i + k) % n = md n k i := by
  unfold md
  split
  · rename_i h
    exact Nat.mod_eq_of_lt h
  · rename_i h
    rw [Nat.mod_eq_sub_mod (by omega), Nat.mod_eq_of_lt (by omega)]
theorem md_lt {n k i : Nat} (hi : i < n) (hk : k < n) : md n k i < n := by
  unfold md
  split <;> omega
theorem md_inj {n k i j : Nat} (hi : i < n) (hj : j < n) (hk : k < n) (h : md n k i = md n k j) : i = j := by
  unfold md at h
  split at h <;> split at h <;> omega
theorem rot_get {k i : Nat} {l : List α} (hk : k < l.length) (hi : i < l.length) (d : α) : (rot k l).getD i d = l.getD (md l.length k i) d := by
  unfold rot md
  rw [List.getD_eq_getElem?_getD, List.getD_eq_getElem?_getD, List.getElem?_append, List.length_drop]
  split
  · rename_i h
    rw [if_pos (by omega), List.getElem?_drop, Nat.add_comm]
  · rename_i h
    rw [if_neg (by omega), List.getElem?_take, if_pos (by omega)]
    congr 2
    omega
def og (g i : Nat) : Nat := if i < g then i else i + 1
theorem del_get {g i : Nat} {l : List α} (hg : g < l.length) (d : α) : (del g l).getD i d = l.getD (og g i) d := by
  unfold del og
  rw [List.getD_eq_getElem?_getD, List.getD_eq_getElem?_getD, List.getElem?_append, List.length_take]
  split
  · rename_i h
    rw [if_pos (by omega), List.getElem?_take, if_pos (by omega)]
  · rename_i h
    rw [if_neg (by omega), List.getElem?_drop]
    congr 2
    omega
end
theorem fm_map {α β : Type} {f : α → Option β} {g : α → β} : ∀ {l : List α}, (∀ x ∈ l, f x = some (g x)) → l.filterMap f = l.map g := by
  intro l
  induction l with
  | nil => intro _; rfl
  | cons a l ih =>
    intro h
    rw [List.filterMap_cons, h a (List.mem_cons_self ..), List.map_cons, ih fun x hx => h x (List.mem_cons_of_mem _ hx)]
theorem own_all {n k : Nat} {T : Nat → Nat → Bool} (hk : k < n) (hT : ∀ i, i < n → ∀ j, j < n → T i j = decide (md n k i = j)) :
    (greed n T n).met = ((List.range n).map fun i => (i, md n k i)) ∧ (greed n T n).lost = [] ∧ bare n (greed n T n) = [] := by
  have h := greed_own (m := n) (f := fun i => if i < n then some (md n k i) else none) (T := T) n
    (fun i hi j hj => by rw [hT i hi j hj]; simp [hi]; by_cases h : md n k i = j <;> simp [h])
    (fun i j h => by
      split at h
      · rename_i hi
        injection h with h
        rw [← h]
        exact md_lt hi hk
      · cases h)
    (fun i i' j h1 h2 => by
      split at h1
      · split at h2
        · rename_i hi hi'
          injection h1 with h1
          injection h2 with h2
          exact md_inj hi hi' hk (h1.trans h2.symm)
        · cases h2
      · cases h1)
  have hm : (greed n T n).met = ((List.range n).map fun i => (i, md n k i)) := by
    rw [h]
    show ownMet _ n = _
    unfold ownMet
    exact fm_map fun i hi => by simp [List.mem_range.1 hi]
  have hb := bare_len n T n
  rw [hm, List.length_map, List.length_range] at hb
  refine ⟨hm, ?_, List.length_eq_zero_iff.1 (by omega)⟩
  have hl := (greed_inv n T n).len
  rw [hm, List.length_map, List.length_range] at hl
  exact List.length_eq_zero_iff.1 (by omega)
theorem own_lost {n k g : Nat} {T : Nat → Nat → Bool} (hk : k < n) (hg : g < n) (hT : ∀ i, i < n → ∀ j, j < n - 1 → T i j = decide (md n k i = og g j)) :
    ∃ x xs, (greed (n - 1) T n).lost = x :: xs ∧ md n k x = g ∧ x < n := by
  have h := greed_own (m := n - 1) (f := fun i => if i < n ∧ md n k i ≠ g then some (if md n k i < g then md n k i else md n k i - 1) else none) (T := T) n
    (fun i hi j hj => by
      rw [hT i hi j hj]
      unfold og
      by_cases hgi : md n k i = g
      · simp only [hgi, ne_eq, not_true_eq_false, and_false, if_false]
        split
        · rw [decide_eq_false (by omega)]; rfl
        · rw [decide_eq_false (by omega)]; rfl
      · simp only [hi, ne_eq, hgi, not_false_eq_true, and_self, if_true]
        by_cases hq : md n k i = if j < g then j else j + 1
        · rw [decide_eq_true hq]
          have : (if md n k i < g then md n k i else md n k i - 1) = j := by
            split at hq <;> split <;> omega
          rw [this]; simp
        · rw [decide_eq_false hq]
          have : ¬ (if md n k i < g then md n k i else md n k i - 1) = j := by
            split at hq <;> split <;> omega
          simp [this])
    (fun i j h => by
      split at h
      · rename_i hi
        injection h with h
        have := md_lt hi.1 hk
        have := hi.2
        split at h <;> omega
      · cases h)
    (fun i i' j h1 h2 => by
      split at h1
      · split at h2
        · rename_i hi hi'
          injection h1 with h1
          injection h2 with h2
          refine md_inj hi.1 hi'.1 hk ?_
          have := hi.2
          have := hi'.2
          split at h1 <;> split at h2 <;> omega
        · cases h2
      · cases h1)
  have hl : (greed (n - 1) T n).lost = (List.range n).filter fun i => ((fun i => if i < n ∧ md n k i ≠ g then some (if md n k i < g then md n k i else md n k i - 1) else none : Nat → Option Nat) i).isNone := by
    rw [h]
    rfl
  have hx : ∃ x, x < n ∧ md n k x = g := by
    by_cases hc : k ≤ g
    · exact ⟨g - k, by omega, by unfold md; split <;> omega⟩
    · exact ⟨g + n - k, by omega, by unfold md; split <;> omega⟩
  obtain ⟨x0, hx0, hx1⟩ := hx
  have hmem : ∀ x ∈ (greed (n - 1) T n).lost, md n k x = g ∧ x < n := by
    intro x hx
    rw [hl, List.mem_filter] at hx
    have hxn := List.mem_range.1 hx.1
    have hx2 := hx.2
    simp only at hx2
    split at hx2
    · cases hx2
    · rename_i hne
      refine ⟨?_, hxn⟩
      by_cases he : md n k x = g
      · exact he
      · exact absurd ⟨hxn, he⟩ hne
  have hmem0 : x0 ∈ (greed (n - 1) T n).lost := by
    rw [hl, List.mem_filter]
    refine ⟨List.mem_range.2 hx0, ?_⟩
    simp [hx1]
  cases hlo : (greed (n - 1) T n).lost with
  | nil => rw [hlo] at hmem0; cases hmem0
  | cons x xs => exact ⟨x, xs, rfl, hmem x (by rw [hlo]; exact List.mem_cons_self ..)⟩
theorem own_bare {n k g : Nat} {T : Nat → Nat → Bool} (hk : k < n) (hg : g < n) (hT : ∀ i, i < n - 1 → ∀ j, j < n → T i j = decide (md n k (og g i) = j)) :
    (greed n T (n - 1)).lost = [] ∧ bare n (greed n T (n - 1)) = [md n k g] := by
  have ho : ∀ i, i < n - 1 → og g i < n := by intro i hi; unfold og; split <;> omega
  have h := greed_own (m := n) (f := fun i => if i < n - 1 then some (md n k (og g i)) else none) (T := T) (n - 1)
    (fun i hi j hj => by rw [hT i hi j hj]; simp [hi]; by_cases h : md n k (og g i) = j <;> simp [h])
    (fun i j h => by
      split at h
      · rename_i hi
        injection h with h
        rw [← h]
        exact md_lt (ho i hi) hk
      · cases h)
    (fun i i' j h1 h2 => by
      split at h1
      · split at h2
        · rename_i hi hi'
          injection h1 with h1
          injection h2 with h2
          have := md_inj (ho i hi) (ho i' hi') hk (h1.trans h2.symm)
          unfold og at this
          split at this <;> split at this <;> omega
        · cases h2
      · cases h1)
  have hm : (greed n T (n - 1)).met = ((List.range (n - 1)).map fun i => (i, md n k (og g i))) := by
    rw [h]
    show ownMet _ (n - 1) = _
    unfold ownMet
    exact fm_map fun i hi => by simp [List.mem_range.1 hi]
  have hb := bare_len n T (n - 1)
  have hl := (greed_inv n T (n - 1)).len
  rw [hm, List.length_map, List.length_range] at hb hl
  refine ⟨List.length_eq_zero_iff.1 (by omega), ?_⟩
  have hmem : md n k g ∈ bare n (greed n T (n - 1)) := by
    rw [bare_in]
    refine ⟨md_lt hg hk, ?_⟩
    cases htk : (greed n T (n - 1)).tk (md n k g) with
    | false => rfl
    | true =>
      have hs := (greed_inv n T (n - 1)).samples (md n k g)
      rw [htk, hm, List.map_map] at hs
      have hin : md n k g ∈ ((List.range (n - 1)).map ((fun p : Nat × Nat => p.2) ∘ fun i => (i, md n k (og g i)))) := by
        rw [← List.count_pos_iff]
        rw [if_pos rfl] at hs
        rw [show (fun p : Nat × Nat => p.2) ∘ (fun i => (i, md n k (og g i))) = (fun x : Nat × Nat => x.snd) ∘ fun i => (i, md n k (og g i)) from rfl, hs]
        exact Nat.one_pos
      obtain ⟨i, hi, he⟩ := List.mem_map.1 hin
      have hi' := List.mem_range.1 hi
      have := md_inj (ho i hi') hg hk he
      unfold og at this
      split at this <;> omega
  have hlen : (bare n (greed n T (n - 1))).length = 1 := by omega
  obtain ⟨y, hy⟩ := List.length_eq_one_iff.1 hlen
  rw [hy] at hmem ⊢
  rw [List.mem_singleton.1 hmem]
end Go.Cx

namespace Go.Proofs.YtmnoegfehgoalaaDoor.cx
open Go.RowKit Go.Extern.Stop Go.Stop Go.Extern Go.Cx
set_option linter.unusedVariables false

/-- A value that is a word, a place and a sort. -/
def AmissAt (w : World) (v : Value) (what : ByteArray) (at' : Nat) (kind : Int) : Prop :=
  ∃ g, v = .iface 85 (.pointer (some ⟨g, 0, none⟩)) ∧ w.heap[g]? = some (.cells #[.string what, .int .i64 (at' : Nat), .iface 91 (.int .i64 kind)] 89)
theorem AmissAt.up {w w' : World} {v : Value} {what : ByteArray} {at' : Nat} {kind : Int} (h : AmissAt w v what at' kind) (hb : Below w.heap.size w w') : AmissAt w' v what at' kind := by
  obtain ⟨g, h1, h2⟩ := h
  exact ⟨g, h1, keepB hb h2⟩
set_option maxRecDepth 1000000 in
theorem amiss_w (W : World) (s : ByteArray) (a : Nat) (k : Int) : Calls Tryd.prog 24 #[.string s, .int .i64 (a : Nat), .int .i64 k] W fun e w' => ∃ v, e = .returned v ∧ AmissAt w' v s a k ∧ Below W.heap.size W w' := by
  go_enter Tryd.func24, Tryd.ntmps24
  go_wp2_with fail
  go_ret
  exact ⟨_, rfl, ⟨_, rfl, heap_alloc_new _ _⟩, (Below.refl _ _).alloc (Nat.le_refl _) _⟩
/-- The lag of a meeting. -/
def lagV (ls ss : List (List Value)) (p : Nat × Nat) : Int := wayV (num (ss.getD p.2 []) 43) (num (ls.getD p.1 []) 39)
def wLine : ByteArray := ⟨#[108, 105, 110, 101]⟩
def wSample : ByteArray := ⟨#[115, 97, 109, 112, 108, 101]⟩
def wLag : ByteArray := ⟨#[108, 97, 103]⟩
def farLag (ls ss : List (List Value)) (most : Int) (p : Nat × Nat) : Bool := decide (most < lagV ls ss p) || decide (lagV ls ss p < -most)
/-- What is amiss, of whatever greed. -/
def auditG (ls ss : List (List Value)) (most : Int) (m : Nat) (G : Greed) : Option (ByteArray × Nat × Int) := match G.lost with
  | x :: _ => some (wLine, x, 4)
  | [] => match bare m G with
    | y :: _ => some (wSample, y, 6)
    | [] => match G.met.find? (farLag ls ss most) with
      | some p => some (wLag, p.1, 5)
      | none => none
def AudAt (w : World) (r : Option (ByteArray × Nat × Int)) (v : Value) : Prop := match r with
  | some (s, a, k) => AmissAt w v s a k
  | none => v = .nilIface
theorem find_at {α : Type} {l : List α} {f : α → Bool} {k : Nat} {p : α} (hp : l[k]? = some p) (hf : f p = true) (hj : ∀ (j : Nat) (q : α), j < k → l[j]? = some q → f q = false) : l.find? f = some p := by
  obtain ⟨hk, rfl⟩ := List.getElem?_eq_some_iff.1 hp
  rw [List.find?_eq_some_iff_getElem]
  exact ⟨hf, k, hk, rfl, fun j hjk => by rw [hj j _ hjk (List.getElem?_eq_getElem (by omega))]; rfl⟩
set_option maxHeartbeats 4000000 in
set_option maxRecDepth 1000000 in
theorem audit_w (W : World) (lv sv : Value) (ls ss : List (List Value)) (most : Int) (hm0 : 0 ≤ most ∧ most < 9223372036854775808) (hl : ∀ r ∈ ls, RowOk lineK r) (hs : ∀ r ∈ ss, RowOk sampK r) (hlv : Sl W 53 lv ls) (hsv : Sl W 48 sv ss) (n1 : ls.length ≤ 60) (n2 : ss.length ≤ 60) :
    Calls Tryd.prog 8 #[lv, sv, .int .i64 most] W fun e w' => ∃ v, e = .returned (.tuple #[v, .int .i64 0]) ∧ AudAt w' (auditG ls ss most ss.length (greed ss.length (TT ls ss) ls.length)) v ∧ Below W.heap.size W w' := by
  have hml := (greed_inv ss.length (TT ls ss) ls.length).len
  have HM := Lib.hid (meet_w W lv sv ls ss hl hs hlv hsv n1 n2)
  have d1 : decide (most < 0) = false := by simp; omega
  clear hl hs hlv hsv
  generalize hG : greed ss.length (TT ls ss) ls.length = G at *
  have hml : G.met.length ≤ 60 := by omega
  generalize hm : ss.length = m at *
  generalize hr : auditG ls ss most m G = r
  cases hlo : G.lost with
  | cons x xs =>
    have hr' : r = some (wLine, x, 4) := by rw [← hr]; unfold auditG; rw [hlo]
    subst hr'
    go_enter Tryd.func8, Tryd.ntmps8
    go_wp2_with (first
      | (go_at_call 6; refine HM.out.mono ?_; rintro e w1 ⟨vm, vl, vb, rfl, o1, o2, o3, hb1⟩; (rw [hm, hG, hlo] at o2); (obtain ⟨a6, c6, rfl, k61, k62, k63, k64⟩ := own_get o2); (obtain ⟨g6, rfl, _, hr6⟩ := k64 (by simp)); have c0 := range_cell hr6 0 _ (ints_get (l := x :: xs) (i := 0) rfl); have q2 : (0 : Int) < (((x :: xs).length : Nat) : Int) := (by rw [List.length_cons]; omega); have q1 := decide_eq_true q2; rw [Nat.add_zero] at c0; (generalize (x :: xs).length = nl at q1 q2 ⊢); clear o1 o2 o3 hr6 k64)
      | (go_at_call 24; refine (amiss_w _ _ _ _).mono ?_; rintro e w2 ⟨v, rfl, hA, hb2⟩))
    go_ret2
    exact ⟨v, rfl, hA, hb1.trans (hb2.mono hb1.size)⟩
  | nil =>
    cases hba : bare m G with
    | cons y ys =>
      have hr' : r = some (wSample, y, 6) := by rw [← hr]; unfold auditG; rw [hlo, hba]
      subst hr'
      go_enter Tryd.func8, Tryd.ntmps8
      go_wp2_with (first
        | (go_at_call 6; refine HM.out.mono ?_; rintro e w1 ⟨vm, vl, vb, rfl, o1, o2, o3, hb1⟩; (rw [hm, hG, hlo] at o2); (rw [hm, hG, hba] at o3); (obtain ⟨a6, c6, rfl, k61, k62, k63, k64⟩ := own_get o2); (obtain ⟨a7, c7, rfl, k71, k72, k73, k74⟩ := own_get o3); (obtain ⟨g7, rfl, _, hr7⟩ := k74 (by simp)); have c0 := range_cell hr7 0 _ (ints_get (l := y :: ys) (i := 0) rfl); have q2 : (0 : Int) < (((y :: ys).length : Nat) : Int) := (by rw [List.length_cons]; omega); have q1 := decide_eq_true q2; rw [Nat.add_zero] at c0; (generalize (y :: ys).length = nl at q1 q2 ⊢); clear o1 o2 o3 hr7 k64 k74 k61 k62 k63 k71 k72 k73)
        | (go_at_call 24; refine (amiss_w _ _ _ _).mono ?_; rintro e w2 ⟨v, rfl, hA, hb2⟩))
      go_ret2
      exact ⟨v, rfl, hA, hb1.trans (hb2.mono hb1.size)⟩
    | nil =>
      have hr' : r = match G.met.find? (farLag ls ss most) with
        | some p => some (wLag, p.1, 5)
        | none => none := by rw [← hr]; unfold auditG; rw [hlo, hba]
      have HR := Lib.hid hr'
      clear hr' hr
      go_enter Tryd.func8, Tryd.ntmps8
      go_wp2_with (go_at_call 6; refine HM.out.mono ?_; rintro e w1 ⟨vm, vl, vb, rfl, o1, o2, o3, hb1⟩; (rw [hm, hG] at o1); (rw [hm, hG, hlo] at o2); (rw [hm, hG, hba] at o3); (obtain ⟨a6, c6, rfl, _, _, _, _⟩ := own_get o2); (obtain ⟨a7, c7, rfl, _, _, _, _⟩ := own_get o3); (obtain ⟨a5, c5, rfl, k51, k52, k53, k54⟩ := own_get o1); have HO := Lib.hid (And.intro k54 hb1); clear o1 o2 o3 k53 k54 hb1)
      go_loopg [46] G.met.length (fun g i wl => ∃ k : Nat, i = .int .i64 (k : Nat) ∧ k ≤ G.met.length ∧ g = G.met.length - k ∧ Below w1.heap.size w1 wl ∧ ∀ (j : Nat) (p : Nat × Nat), j < k → G.met[j]? = some p → farLag ls ss most p = false)
      case atStart => exact ⟨0, rfl, Nat.zero_le _, by omega, Below.refl _ _, fun j p hj => absurd hj (by omega)⟩
      case round =>
        obtain ⟨k, rfl, hk, hg, hbw, hj⟩ := hrel
        by_cases hkn : k = G.met.length
        · have e1 : decide ((k : Int) < (G.met.length : Int)) = false := by rw [hkn]; simp
          have hnone : G.met.find? (farLag ls ss most) = none := by
            rw [List.find?_eq_none]
            intro p hp
            obtain ⟨j, hjl, rfl⟩ := List.getElem_of_mem hp
            rw [hj j _ (by omega) (List.getElem?_eq_getElem hjl)]
            simp
          have hrn : r = none := by rw [HR.out, hnone]
          subst hrn
          have HB := Lib.hid hbw
          clear hbw hj hnone
          go_wp2_with fail
          go_ret2
          exact ⟨_, rfl, rfl, HO.out.2.trans (HB.out.mono HO.out.2.size)⟩
        · have hkl : k < G.met.length := by omega
          obtain ⟨⟨a, b⟩, hp⟩ : ∃ p, G.met[k]? = some p := ⟨G.met[k], List.getElem?_eq_getElem hkl⟩
          obtain ⟨gm, ha5, hgm, hrg⟩ := HO.out.1 (by omega)
          subst ha5
          have hlt5 : gm < w1.heap.size := range_lt hrg (by rw [metC_len _ (mv_len ls ss)]; omega)
          have hr5 := range_part hrg (k * 5) 5
          rw [metC_get _ (mv_len ls ss) _ _ _ hp] at hr5
          obtain ⟨x, y, z, hxyz, hxl⟩ : ∃ x y z : Int, MV ls ss a b = [.int .i64 x, .int .i64 y, .int .i64 z] ∧ x = lagV ls ss (a, b) := ⟨_, _, _, rfl, rfl⟩
          have hr5 : w1.rangeAt gm (0 + k * 5) [.int .i64 (a : Nat), .int .i64 (b : Nat), .int .i64 x, .int .i64 y, .int .i64 z] := by rw [← hxyz]; exact hr5
          have hr5 := range_up hr5 hbw hlt5
          rw [Nat.zero_add] at hr5
          have c0 := hr5 0 _ rfl
          have c1 := hr5 1 _ rfl
          have c2 := hr5 2 _ rfl
          have c3 := hr5 3 _ rfl
          have c4 := hr5 4 _ rfl
          rw [Nat.add_zero] at c0
          have e1 : decide ((k : Int) < (G.met.length : Int)) = true := by simp; omega
          have e2 : (0 : Int) ≤ (k : Int) := by omega
          have e3 : (k : Int) < (G.met.length : Int) := by omega
          have hfar : farLag ls ss most (a, b) = (decide (most < x) || decide (x < -most)) := by rw [hxl]; rfl
          have HJ := Lib.hid (And.intro hj (And.intro hp (And.intro hbw hfar)))
          clear hr5 hrg hxyz hxl hfar hj hp hbw
          cases s1 : decide (most < x) with
          | true =>
            have hrn : r = some (wLag, a, 5) := by
              have hf : G.met.find? (farLag ls ss most) = some (a, b) := find_at HJ.out.2.1 (by rw [HJ.out.2.2.2, s1]; rfl) HJ.out.1
              rw [HR.out, hf]
            subst hrn
            go_wp2_with (go_at_call 24; refine (amiss_w _ _ _ _).mono ?_; rintro e w2 ⟨v, rfl, hA, hb2⟩)
            go_ret2
            exact ⟨v, rfl, hA, bT (bA (bT HO.out.2 HJ.out.2.2.1)) hb2⟩
          | false =>
            cases s2 : decide (x < -most) with
            | true =>
              have hrn : r = some (wLag, a, 5) := by
                have hf : G.met.find? (farLag ls ss most) = some (a, b) := find_at HJ.out.2.1 (by rw [HJ.out.2.2.2, s1, s2]; rfl) HJ.out.1
                rw [HR.out, hf]
              subst hrn
              go_wp2_with (go_at_call 24; refine (amiss_w _ _ _ _).mono ?_; rintro e w2 ⟨v, rfl, hA, hb2⟩)
              go_ret2
              exact ⟨v, rfl, hA, bT (bA (bT HO.out.2 HJ.out.2.2.1)) hb2⟩
            | false =>
              go_wp2_with fail
              go_roundg (G.met.length - (k + 1))
              case measure => omega
              case rel =>
                refine ⟨k + 1, by go_num, by omega, rfl, bA HJ.out.2.2.1, fun j p hj hp => ?_⟩
                by_cases hjk : j = k
                · subst hjk
                  have : p = (a, b) := by rw [HJ.out.2.1] at hp; exact (Option.some.inj hp).symm
                  rw [this, HJ.out.2.2.2, s1, s2]
                  rfl
                · exact HJ.out.1 j p (by omega) hp
end Go.Proofs.YtmnoegfehgoalaaDoor.cx

namespace Go.Proofs.YtmnoegfehgoalaaDoor.cx
open Go.RowKit Go.Extern.Stop Go.Stop Go.Extern Go.Cx
set_option linter.unusedVariables false

def samL (b : Int) (ls : List (List Value)) : List (List Value) := (List.range ls.length).map fun i => samR (atK b ls i) (ls.getD i [])
def linL (b : Int) (ls : List (List Value)) : List (List Value) := (List.range ls.length).map fun i => linR (atK b ls i) (ls.getD i [])
theorem samL_len (b : Int) (ls : List (List Value)) : (samL b ls).length = ls.length := by unfold samL; simp
theorem linL_len (b : Int) (ls : List (List Value)) : (linL b ls).length = ls.length := by unfold linL; simp
theorem samL_get (b : Int) (ls : List (List Value)) {i : Nat} (h : i < ls.length) : (samL b ls).getD i [] = samR (atK b ls i) (ls.getD i []) := by
  unfold samL
  simp [List.getD_eq_getElem?_getD, h]
theorem linL_get (b : Int) (ls : List (List Value)) {i : Nat} (h : i < ls.length) : (linL b ls).getD i [] = linR (atK b ls i) (ls.getD i []) := by
  unfold linL
  simp [List.getD_eq_getElem?_getD, h]
theorem trip_at {ls : List (List Value)} (hl : ∀ r ∈ ls, RowOk tripK r) {i : Nat} (h : i < ls.length) : (0 ≤ num (ls.getD i []) 0 ∧ num (ls.getD i []) 0 < 4294967296) ∧ (0 ≤ num (ls.getD i []) 1 ∧ num (ls.getD i []) 1 < 4294967296) ∧ (0 ≤ num (ls.getD i []) 2 ∧ num (ls.getD i []) 2 < 4294967296) ∧ (0 ≤ num (ls.getD i []) 3 ∧ num (ls.getD i []) 3 < 4294967296) ∧ (0 ≤ num (ls.getD i []) 4 ∧ num (ls.getD i []) 4 < 256) :=
  trip_num (hl _ (by rw [List.getD_eq_getElem?_getD, List.getElem?_eq_getElem h]; exact List.getElem_mem _))
/-- Each exchange begins behind the last one. -/
theorem at_up {b : Int} {ls : List (List Value)} (hl : ∀ r ∈ ls, RowOk tripK r) (i : Nat) : ∀ d, i + d ≤ ls.length → atK b ls i + d * 100 ≤ atK b ls (i + d) ∧ atK b ls (i + d) ≤ atK b ls i + d * 17179869284 := by
  intro d
  induction d with
  | zero => intro _; simp
  | succ d ih =>
    intro h
    have h1 := ih (by omega)
    have h2 := trip_at hl (show i + d < ls.length by omega)
    show atK b ls i + _ ≤ atK b ls (i + d + 1) ∧ atK b ls (i + d + 1) ≤ _
    have e : atK b ls (i + d + 1) = tD (atK b ls (i + d)) (ls.getD (i + d) []) := rfl
    rw [e]
    unfold tD tC tB tA
    omega
theorem way_near {x y : Int} (h : -9223372036854775808 ≤ y - x ∧ y - x < 9223372036854775808) : wayV (x % 18446744073709551616) (y % 18446744073709551616) = y - x := by
  unfold wayV
  rw [Go.Cx.w_u64]
  unfold wrap64
  omega
theorem cell_self (k : IntKind) (c : Int) : cellEq (.int k c) (.int k c) = true := by simp [cellEq]
theorem adr_self (c : Int) : addrEq (adr c) (adr c) = true := by simp [addrEq, adr, cellEq]
theorem far_begin {b : Int} {ls : List (List Value)} (hl : ∀ r ∈ ls, RowOk tripK r) (hn : ls.length ≤ 40) {i j : Nat} (hi : i < ls.length) (hj : j < ls.length) (h : i < j) : tA (atK b ls i) (ls.getD i []) + 100 ≤ tA (atK b ls j) (ls.getD j []) ∧ tA (atK b ls j) (ls.getD j []) ≤ tA (atK b ls i) (ls.getD i []) + 1000000000000 := by
  have h1 := at_up (b := b) hl i 1 (by omega)
  have h2 := at_up (b := b) hl (i + 1) (j - (i + 1)) (by omega)
  have h3 := at_up (b := b) hl i (j - i) (by omega)
  have h4 := trip_at hl hi
  have h5 := trip_at hl hj
  rw [show i + 1 + (j - (i + 1)) = j by omega] at h2
  rw [show i + (j - i) = j by omega] at h3
  have e : atK b ls (i + 1) = tD (atK b ls i) (ls.getD i []) := rfl
  rw [e] at h1 h2
  unfold tD tC tB at h2
  unfold tA at h2 ⊢
  omega
/-- A line tells its own sample and no other one. -/
theorem tell_own {b : Int} {ls : List (List Value)} (hl : ∀ r ∈ ls, RowOk tripK r) (hn : ls.length ≤ 40) {i j : Nat} (hi : i < ls.length) (hj : j < ls.length) : tellsV (linR (atK b ls i) (ls.getD i [])) (samR (atK b ls j) (ls.getD j [])) = decide (i = j) := by
  have e1 : part (linR (atK b ls i) (ls.getD i [])) 2 17 = adr 9 := rfl
  have e2 : part (samR (atK b ls j) (ls.getD j [])) 18 17 = adr 9 := rfl
  have e3 : part (linR (atK b ls i) (ls.getD i [])) 19 17 = adr (num (ls.getD i []) 4) := rfl
  have e4 : part (samR (atK b ls j) (ls.getD j [])) 0 17 = adr (num (ls.getD j []) 4) := rfl
  have e5 : num (samR (atK b ls j) (ls.getD j [])) 37 = tA (atK b ls j) (ls.getD j []) % 18446744073709551616 := rfl
  have e6 : num (linR (atK b ls i) (ls.getD i [])) 36 = tA (atK b ls i) (ls.getD i []) % 18446744073709551616 := rfl
  have e7 : num (samR (atK b ls j) (ls.getD j [])) 39 = tB (atK b ls j) (ls.getD j []) % 18446744073709551616 := rfl
  have e8 : num (linR (atK b ls i) (ls.getD i [])) 37 = tB (atK b ls i) (ls.getD i []) % 18446744073709551616 := rfl
  have e9 : num (samR (atK b ls j) (ls.getD j [])) 41 = tC (atK b ls j) (ls.getD j []) % 18446744073709551616 := rfl
  have e0 : num (linR (atK b ls i) (ls.getD i [])) 38 = tC (atK b ls i) (ls.getD i []) % 18446744073709551616 := rfl
  unfold tellsV
  rw [e1, e2, e3, e4, e5, e6, e7, e8, e9, e0, adr_self]
  by_cases h : i = j
  · subst h
    rw [way_near (by omega), way_near (by omega), way_near (by omega), adr_self]
    simp [inW]
  · have hw : inW (wayV (tA (atK b ls j) (ls.getD j []) % 18446744073709551616) (tA (atK b ls i) (ls.getD i []) % 18446744073709551616)) = false := by
      rcases Nat.lt_or_gt_of_ne h with h | h
      · have := far_begin (b := b) hl hn hi hj h
        rw [way_near (by omega)]
        unfold inW
        rw [decide_eq_true (by omega)]
        rfl
      · have := far_begin (b := b) hl hn hj hi h
        rw [way_near (by omega)]
        unfold inW
        rw [decide_eq_true (show (8 : Int) < _ by omega)]
        simp
    rw [hw, decide_eq_false h]
    simp
theorem less_self {x : Int} (h : I64 x) : lessV x x = 0 := by
  unfold lessV I64 at *
  have e1 : x / 9223372036854775808 = x / 18446744073709551616 := by omega
  rw [e1, sub_val (by unfold InW; omega) (by unfold InW; omega), wv_hi, wv_lo, clip_val (clamp_in _), show x - x = 0 by omega]
  decide
theorem clip_in (v : Int) : I64 (clip64 v) := by
  unfold I64 clip64
  split
  · omega
  · split <;> omega
/-- A line and its own sample are alike. -/
theorem mv_own {a : Int} {r : List Value} (ha : 0 ≤ a ∧ a < 36893488147419103232) (hr : (0 ≤ num r 0 ∧ num r 0 < 4294967296) ∧ (0 ≤ num r 1 ∧ num r 1 < 4294967296) ∧ (0 ≤ num r 2 ∧ num r 2 < 4294967296) ∧ (0 ≤ num r 3 ∧ num r 3 < 4294967296) ∧ (0 ≤ num r 4 ∧ num r 4 < 256)) : mvR (linR a r) (samR a r) = [.int .i64 0, .int .i64 0, .int .i64 0] := by
  have hA : InW (tA a r) := by unfold tA InW; omega
  have hB : InW (tB a r) := by unfold tB tA InW; omega
  have hC : InW (tC a r) := by unfold tC tB tA InW; omega
  have hD : InW (tD a r) := by unfold tD tC tB tA InW; omega
  have l0 : num (linR a r) 0 = tD a r / 18446744073709551616 := rfl
  have l1 : num (linR a r) 1 = tD a r % 18446744073709551616 := rfl
  have l36 : num (linR a r) 36 = tA a r % 18446744073709551616 := rfl
  have l37 : num (linR a r) 37 = tB a r % 18446744073709551616 := rfl
  have l38 : num (linR a r) 38 = tC a r % 18446744073709551616 := rfl
  have l39 : num (linR a r) 39 = tD a r % 18446744073709551616 := rfl
  have s43 : num (samR a r) 43 = tD a r % 18446744073709551616 := rfl
  have s44 : num (samR a r) 44 = offN (tA a r) (tB a r) (tC a r) (tD a r) := rfl
  have s45 : num (samR a r) 45 = delN (tA a r) (tB a r) (tC a r) (tD a r) := rfl
  have eA : unfH (tA a r % 18446744073709551616) (tD a r / 18446744073709551616) (tD a r % 18446744073709551616) = tA a r / 18446744073709551616 := era_near hD hA (by unfold tD tC tB; omega)
  have eB : unfH (tB a r % 18446744073709551616) (tD a r / 18446744073709551616) (tD a r % 18446744073709551616) = tB a r / 18446744073709551616 := era_near hD hB (by unfold tD tC; omega)
  have eC : unfH (tC a r % 18446744073709551616) (tD a r / 18446744073709551616) (tD a r % 18446744073709551616) = tC a r / 18446744073709551616 := era_near hD hC (by unfold tD; omega)
  have eD : unfH (tD a r % 18446744073709551616) (tD a r / 18446744073709551616) (tD a r % 18446744073709551616) = tD a r / 18446744073709551616 := era_near hD hD (by omega)
  unfold mvR
  rw [l0, l1, l36, l37, l38, l39, s43, s44, s45, eA, eB, eC, eD, off_val hA hB hC hD, del_val hA hB hC hD, less_self (show I64 (offN (tA a r) (tB a r) (tC a r) (tD a r)) from clip_in _), less_self (show I64 (delN (tA a r) (tB a r) (tC a r) (tD a r)) from clip_in _), way_near (by omega), Int.sub_self]
section
variable {b : Int} {ls : List (List Value)}
theorem at_small (hb : 0 ≤ b ∧ b < 4294967296) (hl : ∀ r ∈ ls, RowOk tripK r) (hn : ls.length ≤ 40) {i : Nat} (hi : i < ls.length) : 0 ≤ atK b ls i ∧ atK b ls i < 36893488147419103232 := by
  have := at_in hb hl i (by omega)
  omega
/-- Lines that are turned, and all samples. -/
theorem own_tt (hl : ∀ r ∈ ls, RowOk tripK r) (hn : ls.length ≤ 40) {i j : Nat} (hi : i < ls.length) (hj : j < ls.length) {L S : List (List Value)} {p q : Nat} (hL : L.getD p [] = (linL b ls).getD i []) (hS : S.getD q [] = (samL b ls).getD j []) : TT L S p q = decide (i = j) := by
  unfold TT tellR
  rw [hL, hS, linL_get b ls hi, samL_get b ls hj]
  exact tell_own hl hn hi hj
theorem own_mv (hb : 0 ≤ b ∧ b < 4294967296) (hl : ∀ r ∈ ls, RowOk tripK r) (hn : ls.length ≤ 40) {i : Nat} (hi : i < ls.length) {L S : List (List Value)} {p q : Nat} (hL : L.getD p [] = (linL b ls).getD i []) (hS : S.getD q [] = (samL b ls).getD i []) : MV L S p q = [.int .i64 0, .int .i64 0, .int .i64 0] := by
  unfold MV
  rw [hL, hS, linL_get b ls hi, samL_get b ls hi]
  exact mv_own (at_small hb hl hn hi) (trip_at hl hi)
theorem turn_get {k i : Nat} (hk : k < ls.length) (hi : i < ls.length) : (rot k (linL b ls)).getD i [] = (linL b ls).getD (md ls.length k i) [] := by
  have := rot_get (k := k) (i := i) (l := linL b ls) (by rw [linL_len]; exact hk) (by rw [linL_len]; exact hi) []
  rw [linL_len] at this
  exact this
theorem own_meet (hb : 0 ≤ b ∧ b < 4294967296) (hl : ∀ r ∈ ls, RowOk tripK r) (hn : ls.length ≤ 40) {k : Nat} (hk : k < ls.length) :
    (greed ls.length (TT (rot k (linL b ls)) (samL b ls)) ls.length).met = ((List.range ls.length).map fun i => (i, md ls.length k i)) ∧ (greed ls.length (TT (rot k (linL b ls)) (samL b ls)) ls.length).lost = [] ∧ bare ls.length (greed ls.length (TT (rot k (linL b ls)) (samL b ls)) ls.length) = [] :=
  own_all hk fun i hi j hj => own_tt hl hn (md_lt hi hk) hj (turn_get hk hi) rfl
theorem own_mvs (hb : 0 ≤ b ∧ b < 4294967296) (hl : ∀ r ∈ ls, RowOk tripK r) (hn : ls.length ≤ 40) {k i : Nat} (hk : k < ls.length) (hi : i < ls.length) : MV (rot k (linL b ls)) (samL b ls) i (md ls.length k i) = [.int .i64 0, .int .i64 0, .int .i64 0] :=
  own_mv hb hl hn (md_lt hi hk) (turn_get hk hi) rfl
theorem own_aud1 (hb : 0 ≤ b ∧ b < 4294967296) (hl : ∀ r ∈ ls, RowOk tripK r) (hn : ls.length ≤ 40) {k : Nat} (hk : k < ls.length) :
    auditG (rot k (linL b ls)) (samL b ls) 0 ls.length (greed ls.length (TT (rot k (linL b ls)) (samL b ls)) ls.length) = none := by
  obtain ⟨h1, h2, h3⟩ := own_meet hb hl hn hk
  unfold auditG
  rw [h2, h3, h1]
  have hf : ((List.range ls.length).map fun i => (i, md ls.length k i)).find? (farLag (rot k (linL b ls)) (samL b ls) 0) = none := by
    rw [List.find?_eq_none]
    intro p hp
    obtain ⟨i, hi, rfl⟩ := List.mem_map.1 hp
    have hi := List.mem_range.1 hi
    have hm := own_mvs hb hl hn hk hi
    unfold MV mvR at hm
    injection hm with hm _
    injection hm with _ hm
    unfold farLag lagV
    rw [hm]
    simp
  rw [hf]
theorem own_aud2 (hb : 0 ≤ b ∧ b < 4294967296) (hl : ∀ r ∈ ls, RowOk tripK r) (hn : ls.length ≤ 40) {k g : Nat} (hk : k < ls.length) (hg : g < ls.length) :
    ∃ x, auditG (rot k (linL b ls)) (del g (samL b ls)) 0 (ls.length - 1) (greed (ls.length - 1) (TT (rot k (linL b ls)) (del g (samL b ls))) ls.length) = some (wLine, x, 4) ∧ md ls.length k x = g ∧ x < ls.length := by
  obtain ⟨x, xs, h1, h2, h3⟩ := own_lost (T := TT (rot k (linL b ls)) (del g (samL b ls))) hk hg fun i hi j hj => own_tt hl hn (md_lt hi hk) (by unfold og; split <;> omega) (turn_get hk hi) (del_get (by rw [samL_len]; exact hg) [])
  refine ⟨x, ?_, h2, h3⟩
  unfold auditG
  rw [h1]
theorem own_aud3 (hb : 0 ≤ b ∧ b < 4294967296) (hl : ∀ r ∈ ls, RowOk tripK r) (hn : ls.length ≤ 40) {k g : Nat} (hk : k < ls.length) (hg : g < ls.length) :
    auditG (del g (rot k (linL b ls))) (samL b ls) 0 ls.length (greed ls.length (TT (del g (rot k (linL b ls))) (samL b ls)) (ls.length - 1)) = some (wSample, md ls.length k g, 6) := by
  have ho : ∀ i, i < ls.length - 1 → og g i < ls.length := by intro i hi; unfold og; split <;> omega
  obtain ⟨h1, h2⟩ := own_bare (T := TT (del g (rot k (linL b ls))) (samL b ls)) hk hg fun i hi j hj => own_tt hl hn (md_lt (ho i hi) hk) hj (by rw [del_get (by rw [rot_len, linL_len]; exact hg) [], turn_get hk (ho i hi)]) rfl
  unfold auditG
  rw [h1, h2]
theorem sam_ok_len (hg : 0 < ls.length) {g : Nat} (h : g < ls.length) : (del g (samL b ls)).length = ls.length - 1 := by
  rw [del_len (by rw [samL_len]; exact h), samL_len]
end
end Go.Proofs.YtmnoegfehgoalaaDoor.cx

namespace Go.Proofs.YtmnoegfehgoalaaDoor.cx
open Go.RowKit Go.Extern.Stop Go.Stop Go.Extern Go.Cx
set_option linter.unusedVariables false

theorem ok_int {k : IntKind} {n : Int} {ks : List PK} {cs : List Value} (h : (Lit.int k n).wf = true) (r : RowOk ks cs) : RowOk (.int k :: ks) (.int k n :: cs) := ⟨⟨n, rfl, h⟩, r⟩
theorem ok_bool {b : Bool} {ks : List PK} {cs : List Value} (r : RowOk ks cs) : RowOk (.bool :: ks) (.bool b :: cs) := ⟨⟨b, rfl⟩, r⟩
theorem ok_nil : RowOk [] [] := True.intro
theorem ok_u8 {n : Int} (h : 0 ≤ n ∧ n < 256) : (Lit.int .u8 n).wf = true := by
  show (decide ((0 : Int) ≤ n) && decide (n ≤ 255)) = true
  simp; omega
theorem ok_u64 {n : Int} (h : 0 ≤ n ∧ n < 18446744073709551616) : (Lit.int .u64 n).wf = true := by
  show (decide ((0 : Int) ≤ n) && decide (n ≤ 18446744073709551615)) = true
  simp; omega
theorem ok_i64 {n : Int} (h : I64 n) : (Lit.int .i64 n).wf = true := by
  unfold I64 at h
  show (decide ((-9223372036854775808 : Int) ≤ n) && decide (n ≤ 9223372036854775807)) = true
  simp; omega
theorem adr_ok {c : Int} (h : 0 ≤ c ∧ c < 256) : RowOk addrK (adr c) :=
  ok_bool (ok_int (ok_u8 h) (ok_int rfl (ok_int rfl (ok_int rfl (ok_int rfl (ok_int rfl (ok_int rfl (ok_int rfl (ok_int rfl (ok_int rfl (ok_int rfl (ok_int rfl (ok_int rfl (ok_int rfl (ok_int rfl (ok_int rfl ok_nil))))))))))))))))
theorem samR_ok {a : Int} {r : List Value} (ha : 0 ≤ a ∧ a < 36893488147419103232) (hr : (0 ≤ num r 0 ∧ num r 0 < 4294967296) ∧ (0 ≤ num r 1 ∧ num r 1 < 4294967296) ∧ (0 ≤ num r 2 ∧ num r 2 < 4294967296) ∧ (0 ≤ num r 3 ∧ num r 3 < 4294967296) ∧ (0 ≤ num r 4 ∧ num r 4 < 256)) : RowOk sampK (samR a r) := by
  have hA : InW (tA a r) := by unfold tA InW; omega
  have hB : InW (tB a r) := by unfold tB tA InW; omega
  have hC : InW (tC a r) := by unfold tC tB tA InW; omega
  have hD : InW (tD a r) := by unfold tD tC tB tA InW; omega
  have ho : I64 (offN (tA a r) (tB a r) (tC a r) (tD a r)) := clip_in _
  have hd : I64 (delN (tA a r) (tB a r) (tC a r) (tD a r)) := clip_in _
  have h2 := ok_int (k := .u16) (n := 0) rfl (ok_int (ok_i64 (hi_in hA)) (ok_int (ok_u64 (show 0 ≤ tA a r % 18446744073709551616 ∧ tA a r % 18446744073709551616 < 18446744073709551616 by omega)) (ok_int (ok_i64 (hi_in hB)) (ok_int (ok_u64 (show 0 ≤ tB a r % 18446744073709551616 ∧ tB a r % 18446744073709551616 < 18446744073709551616 by omega)) (ok_int (ok_i64 (hi_in hC)) (ok_int (ok_u64 (show 0 ≤ tC a r % 18446744073709551616 ∧ tC a r % 18446744073709551616 < 18446744073709551616 by omega)) (ok_int (ok_i64 (hi_in hD)) (ok_int (ok_u64 (show 0 ≤ tD a r % 18446744073709551616 ∧ tD a r % 18446744073709551616 < 18446744073709551616 by omega)) (ok_int (ok_i64 ho) (ok_int (ok_i64 hd) (ok_int (k := .i64) (n := 0) rfl (ok_int (k := .u8) (n := 0) rfl ok_nil))))))))))))
  have h3 := RowOk.app (adr_ok hr.2.2.2.2) (ok_int (k := .u16) (n := 0) rfl (RowOk.app (adr_ok (c := 9) (by decide)) h2))
  exact h3
theorem linR_ok {a : Int} {r : List Value} (ha : 0 ≤ a ∧ a < 36893488147419103232) (hr : (0 ≤ num r 0 ∧ num r 0 < 4294967296) ∧ (0 ≤ num r 1 ∧ num r 1 < 4294967296) ∧ (0 ≤ num r 2 ∧ num r 2 < 4294967296) ∧ (0 ≤ num r 3 ∧ num r 3 < 4294967296) ∧ (0 ≤ num r 4 ∧ num r 4 < 256)) : RowOk lineK (linR a r) := by
  have hD : InW (tD a r) := by unfold tD tC tB tA InW; omega
  have h2 := (ok_int (ok_u64 (show 0 ≤ tA a r % 18446744073709551616 ∧ tA a r % 18446744073709551616 < 18446744073709551616 by omega)) (ok_int (ok_u64 (show 0 ≤ tB a r % 18446744073709551616 ∧ tB a r % 18446744073709551616 < 18446744073709551616 by omega)) (ok_int (ok_u64 (show 0 ≤ tC a r % 18446744073709551616 ∧ tC a r % 18446744073709551616 < 18446744073709551616 by omega)) (ok_int (ok_u64 (show 0 ≤ tD a r % 18446744073709551616 ∧ tD a r % 18446744073709551616 < 18446744073709551616 by omega)) (ok_bool (b := true) (ok_int (k := .u8) (n := 0) rfl (ok_int (k := .u8) (n := 4) rfl (ok_int (k := .u8) (n := 4) rfl (ok_int (k := .u8) (n := 2) rfl (ok_int (k := .i8) (n := 0) rfl (ok_int (k := .i8) (n := 0) rfl (ok_int (k := .i64) (n := 0) rfl (ok_int (k := .i64) (n := 0) rfl (ok_int (k := .u8) (n := 0) rfl (ok_int (k := .u8) (n := 0) rfl (ok_int (k := .u8) (n := 0) rfl (ok_int (k := .u8) (n := 0) rfl ok_nil)))))))))))))))))
  have h3 := ok_int (ok_i64 (hi_in hD)) (ok_int (ok_u64 (show 0 ≤ tD a r % 18446744073709551616 ∧ tD a r % 18446744073709551616 < 18446744073709551616 by omega)) (RowOk.app (adr_ok (c := 9) (by decide)) (RowOk.app (adr_ok hr.2.2.2.2) h2)))
  exact h3
section
variable {b : Int} {ls : List (List Value)}
theorem samL_ok (hb : 0 ≤ b ∧ b < 4294967296) (hl : ∀ r ∈ ls, RowOk tripK r) (hn : ls.length ≤ 40) : ∀ r ∈ samL b ls, RowOk sampK r := by
  intro r hr
  unfold samL at hr
  obtain ⟨i, hi, rfl⟩ := List.mem_map.1 hr
  exact samR_ok (at_small hb hl hn (List.mem_range.1 hi)) (trip_at hl (List.mem_range.1 hi))
theorem linL_ok (hb : 0 ≤ b ∧ b < 4294967296) (hl : ∀ r ∈ ls, RowOk tripK r) (hn : ls.length ≤ 40) : ∀ r ∈ linL b ls, RowOk lineK r := by
  intro r hr
  unfold linL at hr
  obtain ⟨i, hi, rfl⟩ := List.mem_map.1 hr
  exact linR_ok (at_small hb hl hn (List.mem_range.1 hi)) (trip_at hl (List.mem_range.1 hi))
theorem rot_mem {α : Type} {k : Nat} {l : List α} {x : α} (h : x ∈ rot k l) : x ∈ l := by
  unfold rot at h
  rcases List.mem_append.1 h with h | h
  · exact List.mem_of_mem_drop h
  · exact List.mem_of_mem_take h
theorem del_mem {α : Type} {k : Nat} {l : List α} {x : α} (h : x ∈ del k l) : x ∈ l := by
  unfold del at h
  rcases List.mem_append.1 h with h | h
  · exact List.mem_of_mem_take h
  · exact List.mem_of_mem_drop h
/-- A row of cells, as rows. -/
theorem flat_get {n : Nat} : ∀ (rows : List (List Value)), (∀ r ∈ rows, r.length = n) → ∀ i r, rows[i]? = some r → (rows.flatten.drop (i * n)).take n = r := by
  intro rows
  induction rows with
  | nil => intro _ i r h; simp at h
  | cons a rows ih =>
    intro hl i r h
    have ha := hl a (List.mem_cons_self ..)
    rw [List.flatten_cons]
    cases i with
    | zero =>
      simp at h
      subst h
      rw [Nat.zero_mul, List.drop_zero, List.take_append, ha, Nat.sub_self, List.take_zero, List.append_nil, List.take_of_length_le (by omega)]
    | succ i =>
      rw [List.drop_append, ha, List.drop_of_length_le (by rw [ha, Nat.succ_mul]; omega), List.nil_append, show (i + 1) * n - n = i * n by rw [Nat.succ_mul]; omega]
      exact ih (fun r hr => hl r (List.mem_cons_of_mem _ hr)) i r (by simpa using h)
theorem flat_len {n : Nat} : ∀ (rows : List (List Value)), (∀ r ∈ rows, r.length = n) → rows.flatten.length = rows.length * n := by
  intro rows
  induction rows with
  | nil => intro _; simp
  | cons a rows ih =>
    intro hl
    rw [List.flatten_cons, List.length_append, hl a (List.mem_cons_self ..), ih fun r hr => hl r (List.mem_cons_of_mem _ hr), List.length_cons, Nat.succ_mul]
    omega
theorem Sl.of_own {w : World} {base n m : Nat} {e : TypeId} {v : Value} {rows : List (List Value)} {xs : List Value} (h : w.ownsRow base e n v m xs) (hm : m = rows.length) (hx : xs = rows.flatten) (hl : ∀ r ∈ rows, r.length = n) : Sl w n v rows := by
  subst hm hx
  obtain ⟨a, cap, rfl, h1, h2, h3, h4⟩ := own_get h
  by_cases h0 : rows.length = 0
  · obtain rfl := List.length_eq_zero_iff.1 h0
    cases a with
    | none =>
      have := (h3 rfl).2
      subst this
      exact .inl ⟨rfl, rfl⟩
    | some a =>
      obtain ⟨g, c, cur, hv, _⟩ := (h.2.resolve_left (by rintro ⟨hv, _⟩; cases hv))
      injection hv with hv _ _
      injection hv with hv
      subst hv
      exact .inr ⟨g, 0, cap, rfl, h1, h2, fun i r hi => by simp at hi⟩
  · obtain ⟨g, rfl, _, hr⟩ := h4 (by omega)
    refine .inr ⟨g, 0, cap, rfl, h1, h2, fun i r hi => ?_⟩
    have := range_part hr (i * n) n
    rw [flat_get rows hl i r hi] at this
    exact this
theorem samC_flat : samC b ls ls.length = (samL b ls).flatten := by unfold samC samL; rw [List.flatMap_def]
theorem linC_flat : linC b ls ls.length = (linL b ls).flatten := by unfold linC linL; rw [List.flatMap_def]
end
end Go.Proofs.YtmnoegfehgoalaaDoor.cx
