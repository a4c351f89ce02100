/- Package variables that are laid: what their cells hold, and calls that find them. -/
import Derived.Test.YtmnoegfehgoalaaGreatDoorDgFrame
import Derived.ChangeArms
import Derived.OpenShut
namespace Go.Dg
set_option linter.unusedVariables false
set_option linter.unusedSimpArgs false
section
variable {H : Type} {enc : TypeId × Value → H} {P : Program} {w : World} {base : Nat} {spare : Nat → Bool} {held : Bool}
def litsFields (P : Program) (go : TypeId → DataW H → Option (List Value)) : List Field → List (DataW H) → Nat → Option (List Value)
  | [], [], _ => some []
  | f :: r, d :: ds, off => if f.offset = off then match go f.type d with
      | some l => if l.length = P.cellsOf f.type then (litsFields P go r ds (off + l.length)).map (l ++ ·) else none
      | none => none
    else none
  | _, _, _ => none
def litsArr (go : DataW H → Option (List Value)) (n : Nat) : List (DataW H) → Option (List Value)
  | [] => some []
  | d :: ds => match go d with
    | some l => if l.length = n then (litsArr go n ds).map (l ++ ·) else none
    | none => none
/-- The cells of a datum of numbers and texts. -/
def litsOf (P : Program) : Nat → TypeId → DataW H → Option (List Value)
  | 0, _, _ => none
  | n + 1, t, d => match P.underlying t, d with
    | some .bool, .lit (.bool b) => some [.bool b]
    | some (.int k), .lit (.int k' m) => if k' = k then some [.int k m] else none
    | some .string, .lit (.string bytes) => some [.string ⟨bytes.toArray⟩]
    | some (.struct fs), .agg ds => match litsFields P (litsOf P n) fs.toList ds 0 with
      | some l => if l.length = P.cellsOf t then some l else none
      | none => none
    | some (.array m e), .agg ds => match litsArr (litsOf P n e) (P.cellsOf e) ds with
      | some l => if l.length = P.cellsOf t then some l else none
      | none => none
    | _, _ => none
theorem litsFields_ok {go : TypeId → DataW H → Option (List Value)} {cs : List Value} {rd : TypeId → List Value → Option (DataW H × List MemPlace)} (hgo : ∀ t c d p l, rd t c = some (d, p) → go t d = some l → c = l) :
    ∀ (fs : List Field) (xs : List (DataW H × List MemPlace)) (off : Nat) (l : List Value), litsFields P go fs (xs.map (·.1)) off = some l → fs.length = xs.length →
    (∀ (i : Nat) (f : Field), fs[i]? = some f → rd f.type ((cs.drop f.offset).take (P.cellsOf f.type)) = xs[i]?) → (cs.drop off).take l.length = l := by
  intro fs
  induction fs with
  | nil =>
    intro xs off l h hlen _
    cases xs with
    | nil => simp only [litsFields, List.map_nil, Option.some.injEq] at h; subst h; rfl
    | cons x r => simp at hlen
  | cons f r ih =>
    intro xs off l h hlen hx
    cases xs with
    | nil => simp at hlen
    | cons x xs =>
      simp only [litsFields, List.map_cons] at h
      split at h
      rotate_left
      · cases h
      rename_i hoff
      split at h
      rotate_left
      · cases h
      rename_i l0 hl0
      split at h
      rotate_left
      · cases h
      rename_i hlen0
      rw [Option.map_eq_some_iff] at h
      obtain ⟨l1, h1, rfl⟩ := h
      have e0 := hx 0 f rfl
      simp only [List.getElem?_cons_zero] at e0
      have c0 := hgo _ _ x.1 x.2 l0 e0 hl0
      have c1 := ih xs (off + l0.length) l1 h1 (by simpa using hlen) (fun i f' hf => by
        have := hx (i + 1) f' (by simpa using hf)
        simpa using this)
      rw [hoff, ← hlen0] at c0
      rw [List.length_append, List.take_add, List.drop_drop, c0, c1]
theorem litsArr_ok {go : DataW H → Option (List Value)} {n : Nat} {cs : List Value} {rd : List Value → Option (DataW H × List MemPlace)} (hgo : ∀ c d p l, rd c = some (d, p) → go d = some l → c = l) :
    ∀ (xs : List (DataW H × List MemPlace)) (j : Nat) (l : List Value), litsArr go n (xs.map (·.1)) = some l → (∀ i, i < xs.length → rd ((cs.drop ((j + i) * n)).take n) = xs[i]?) → (cs.drop (j * n)).take l.length = l := by
  intro xs
  induction xs with
  | nil => intro j l h _; simp only [litsArr, List.map_nil, Option.some.injEq] at h; subst h; rfl
  | cons x xs ih =>
    intro j l h hx
    simp only [litsArr, List.map_cons] at h
    split at h
    rotate_left
    · cases h
    rename_i l0 hl0
    split at h
    rotate_left
    · cases h
    rename_i hlen0
    rw [Option.map_eq_some_iff] at h
    obtain ⟨l1, h1, rfl⟩ := h
    have e0 := hx 0 (by simp)
    simp only [List.getElem?_cons_zero, Nat.add_zero] at e0
    have c0 := hgo _ x.1 x.2 l0 e0 hl0
    have c1 := ih (j + 1) l1 h1 (fun i hi => by
      have := hx (i + 1) (by simpa using hi)
      rw [show j + (i + 1) = j + 1 + i by omega] at this
      simpa using this)
    rw [← hlen0] at c0 c1
    have e : (j + 1) * l0.length = j * l0.length + l0.length := by rw [Nat.add_mul, Nat.one_mul]
    rw [e] at c1
    rw [List.length_append, List.take_add, List.drop_drop, ← hlen0, c0, c1]
theorem litsOf_ok : ∀ (n : Nat) (fuel : Nat) (t : TypeId) (cs : List Value) (d : DataW H) (p : List MemPlace) (l : List Value), DataW.trod enc P w base spare held fuel t cs = some (d, p) → litsOf P n t d = some l → cs = l := by
  intro n
  induction n with
  | zero => intro fuel t cs d p l _ h; cases h
  | succ n ih =>
    intro fuel t cs d p l h hl
    simp only [litsOf] at hl
    split at hl
    · rename_i hu
      obtain ⟨b', rfl, hx⟩ := DataW.trod_bool hu h
      simp only [Prod.mk.injEq, DataW.lit.injEq, Lit.bool.injEq] at hx
      cases hl
      rw [hx.1]
    · rename_i hu
      split at hl
      · rename_i hk
        cases hl
        obtain ⟨n', rfl, hx, _⟩ := DataW.trod_int hu h
        simp only [Prod.mk.injEq, DataW.lit.injEq, Lit.int.injEq] at hx
        rw [hx.1.2]
      · cases hl
    · rename_i hu
      cases hl
      obtain ⟨s, rfl, hx, _⟩ := DataW.trod_string hu h
      simp only [Prod.mk.injEq, DataW.lit.injEq, Lit.string.injEq] at hx
      rw [hx.1]
    · rename_i fs ds hu
      split at hl
      rotate_left
      · cases hl
      rename_i l' hl'
      split at hl
      rotate_left
      · cases hl
      rename_i hlen
      cases hl
      obtain ⟨xs, m, rfl, hx, hcl, hxl, hget⟩ := DataW.trod_struct hu h
      simp only [Prod.mk.injEq, DataW.agg.injEq] at hx
      obtain ⟨rfl, _⟩ := hx
      have := litsFields_ok (P := P) (cs := cs) (rd := fun t c => DataW.trod enc P w base spare held m t c) (fun t c d p l h1 h2 => ih m t c d p l h1 h2) fs.toList xs 0 l hl' (by simpa using hxl.symm)
        (fun i f hf => hget i f (by simpa using hf))
      rw [List.drop_zero, hlen, ← hcl, List.take_length] at this
      exact this
    · rename_i m e ds hu
      split at hl
      rotate_left
      · cases hl
      rename_i l' hl'
      split at hl
      rotate_left
      · cases hl
      rename_i hlen
      cases hl
      obtain ⟨xs, m', rfl, hx, hcl, hxl, hget⟩ := DataW.trod_array hu h
      simp only [Prod.mk.injEq, DataW.agg.injEq] at hx
      obtain ⟨rfl, _⟩ := hx
      have := litsArr_ok (cs := cs) (n := P.cellsOf e) (rd := fun c => DataW.trod enc P w base spare held m' e c) (fun c d p l h1 h2 => ih m' e c d p l h1 h2) xs 0 l hl'
        (fun i hi => by rw [Nat.zero_add]; exact hget i (by omega))
      rw [Nat.zero_mul, List.drop_zero, hlen, ← hcl, List.take_length] at this
      exact this
    · cases hl
end
/-- Objects that a call finds, and leaves alone; the first G are the package variables. -/
theorem hrel_listG {w : World} (L : List (Nat × Nat × AObj)) (hL : ∀ x ∈ L, x.2.2.owned = false ∧ ∀ N, ObjRel (embOf L) N w x.2.2 x.1 x.2.1 0) : HRel (embOf L) w.heap.size (heapOf L) w := by
  have hget : ∀ k, k < L.length → ∃ x, L[k]? = some x ∧ x ∈ L ∧ (heapOf L).get k = x.2.2 := by
    intro k hk
    exact ⟨L[k], List.getElem?_eq_getElem hk, List.getElem_mem hk, heapOf_get L k _ (List.getElem?_eq_getElem hk)⟩
  have hown : ∀ k, ((heapOf L).get k).owned = false := by
    intro k
    rcases Nat.lt_or_ge k L.length with h0 | h0
    · obtain ⟨x, _, h1, h2⟩ := hget k h0; rw [h2]; exact (hL x h1).1
    · rw [Heap.get_out _ _ (by simpa [heapOf] using h0)]; rfl
  refine ⟨by simp [heapOf], ?_, ?_, ?_, Nat.le_refl _⟩
  · intro k x h
    simp only [embOf, Option.map_eq_some_iff] at h
    obtain ⟨y, h1, _⟩ := h
    rcases Nat.lt_or_ge k L.length with h0 | h0
    · simpa [heapOf] using h0
    · rw [List.getElem?_eq_none h0] at h1; cases h1
  · intro k hlive
    have hk : k < L.length := by simpa [heapOf] using Heap.lt_of_live hlive
    obtain ⟨x, h0, h1, h2⟩ := hget k hk
    exact ⟨x.1, x.2.1, 0, by simp [embOf, h0], by rw [h2]; exact (hL x h1).2 _⟩
  · intro k k' b o sp b' o' sp' _ h
    rw [hown k] at h; cases h
/-- A call that finds package variables and other objects, and leaves them alone; the result holds no address. -/
theorem open_callG {P : Program} {G : Nat} {ok : List Bool} (hm : P.follows .mixedOrders = true) (hok : BodiesOk P ok) {over : Ev} (hover : CallOk P G over ∧ CallLog over) {sb : List Nat} {lf n : Nat} {f : FuncId} {args args' : List Value} {v : Value} {w : World}
    (L : List (Nat × Nat × AObj)) (hG : Globs G (embOf L)) (hL : ∀ x ∈ L, x.2.2.owned = false ∧ ∀ N, ObjRel (embOf L) N w x.2.2 x.1 x.2.1 0) (ha : LRel (embOf L) args args')
    (h : (evCall P G ok over sb lf n f args (heapOf L)).map (·.1) = some v) (hv : flat v = true) (hfY : Nat.ble Y f = false := by rfl) : Calls P f args'.toArray w fun e w' => e = .returned v ∧ RowKit.Below w.heap.size w w' := by
  rw [Option.map_eq_some_iff] at h
  obtain ⟨⟨v1, H', log⟩, h1, h2⟩ := h
  simp only at h2
  subst h2
  have hr := hrel_listG L hL
  refine ((evCall_ok (G := G) hm hok hover.1 hover.2 sb lf n).1 f args _ v1 H' log h1 (lt_Y hfY) w.heap.size _ w args'.toArray hG hr (by simpa using ha)).mono ?_
  rintro e w' ⟨M', v', rfl, hv', hs⟩
  rw [hv'.eq_of_flat hv]
  exact ⟨rfl, hs.below hr⟩
end Go.Dg
