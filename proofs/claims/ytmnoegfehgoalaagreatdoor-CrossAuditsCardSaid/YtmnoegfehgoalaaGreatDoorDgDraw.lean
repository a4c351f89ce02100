/- A region that draws its order. -/
import Derived.Test.YtmnoegfehgoalaaGreatDoorDgLog
namespace Go.Dg
set_option linter.unusedVariables false
set_option linter.unusedSimpArgs false
/-! ### the bits of 'before' -/
theorem before_step (acc : Array Nat) (es : List Edge) (j : Nat) : ∀ (s : Nat), ((es.foldl (fun s e => if Region.binds .any e then s ||| 2 ^ e.on ||| acc.getD e.on 0 else s) s).testBit j = true) →
    s.testBit j = true ∨ ∃ e ∈ es, Region.binds .any e = true ∧ (e.on = j ∨ (acc.getD e.on 0).testBit j = true) := by
  induction es with
  | nil => intro s h; exact .inl h
  | cons e r ih =>
    intro s h
    simp only [List.foldl_cons] at h
    rcases ih _ h with h1 | ⟨e', he', hb, hor⟩
    · split at h1
      · rename_i hb
        simp only [Nat.testBit_or, Bool.or_eq_true] at h1
        rcases h1 with (h1 | h1) | h1
        · exact .inl h1
        · refine .inr ⟨e, by simp, hb, .inl ?_⟩
          rw [Nat.testBit_two_pow] at h1
          simpa using h1
        · exact .inr ⟨e, by simp, hb, .inr h1⟩
      · exact .inl h1
    · exact .inr ⟨e', by simp [he'], hb, hor⟩
def befStep (acc : Array Nat) (o : Oper) : Array Nat := acc.push (o.after.foldl (fun s e => if Region.binds .any e then s ||| 2 ^ e.on ||| acc.getD e.on 0 else s) 0)
theorem before_fold : ∀ (l : List Oper) (acc : Array Nat), (l.foldl befStep acc).size = acc.size + l.length ∧ (∀ i, i < acc.size → (l.foldl befStep acc).getD i 0 = acc.getD i 0) ∧
    ∀ (i : Nat) (o : Oper), l[i]? = some o → ∀ j, ((l.foldl befStep acc).getD (acc.size + i) 0).testBit j = true →
      ∃ e ∈ o.after.toList, Region.binds .any e = true ∧ (e.on = j ∨ (e.on < acc.size + i ∧ ((l.foldl befStep acc).getD e.on 0).testBit j = true)) := by
  intro l
  induction l with
  | nil => intro acc; exact ⟨by simp, fun _ _ => rfl, fun i o h => by simp at h⟩
  | cons o r ih =>
    intro acc
    obtain ⟨h1, h2, h3⟩ := ih (befStep acc o)
    have hs : (befStep acc o).size = acc.size + 1 := by simp [befStep]
    have hold : ∀ i, i < acc.size → (befStep acc o).getD i 0 = acc.getD i 0 := by
      intro i hi
      simp only [befStep, Array.getD_eq_getD_getElem?, Array.getElem?_push]
      rw [if_neg (by omega)]
    refine ⟨?_, ?_, ?_⟩
    · simp only [List.foldl_cons]; rw [h1, hs]; simp; omega
    · intro i hi
      simp only [List.foldl_cons]
      rw [h2 i (by omega), hold i hi]
    · intro i p hp j hj
      simp only [List.foldl_cons] at hj ⊢
      cases i with
      | zero =>
        simp at hp
        subst hp
        rw [Nat.add_zero, h2 acc.size (by omega)] at hj
        have e0 : (befStep acc o).getD acc.size 0 = o.after.foldl (fun s e => if Region.binds .any e then s ||| 2 ^ e.on ||| acc.getD e.on 0 else s) 0 := by
          simp [befStep, Array.getD_eq_getD_getElem?, Array.getElem?_push]
        rw [e0, ← Array.foldl_toList] at hj
        rcases before_step acc _ j 0 hj with h0 | ⟨e, he, hb, hor⟩
        · simp at h0
        · refine ⟨e, he, hb, ?_⟩
          rcases hor with h4 | h4
          · exact .inl h4
          · have hlt : e.on < acc.size := by
              rcases Nat.lt_or_ge e.on acc.size with h5 | h5
              · exact h5
              · rw [Array.getD_eq_getD_getElem?, Array.getElem?_eq_none h5] at h4; simp at h4
            refine .inr ⟨by omega, ?_⟩
            rw [h2 _ (by omega), hold _ hlt]; exact h4
      | succ i =>
        have hp' : r[i]? = some p := by simpa using hp
        have hj' : ((List.foldl befStep (befStep acc o) r).getD ((befStep acc o).size + i) 0).testBit j = true := by
          rw [hs]; have e : acc.size + 1 + i = acc.size + (i + 1) := by omega
          rw [e]; exact hj
        obtain ⟨e, he, hb, hor⟩ := h3 i p hp' j hj'
        refine ⟨e, he, hb, ?_⟩
        rcases hor with h4 | ⟨h4, h5⟩
        · exact .inl h4
        · exact .inr ⟨by omega, h5⟩
theorem before_edge {ops : Array Oper} {i : Nat} {o : Oper} (ho : ops[i]? = some o) {j : Nat} (hj : ((Region.before ops).getD i 0).testBit j = true) :
    ∃ e ∈ o.after, Region.binds .any e = true ∧ (e.on = j ∨ (e.on < i ∧ ((Region.before ops).getD e.on 0).testBit j = true)) := by
  have e0 : Region.before ops = ops.toList.foldl befStep #[] := by
    unfold Region.before
    rw [← Array.foldl_toList]
    rfl
  rw [e0] at hj ⊢
  obtain ⟨_, _, h3⟩ := before_fold ops.toList #[]
  obtain ⟨e, he, hb, hor⟩ := h3 i o (by simpa using ho) j (by simpa using hj)
  refine ⟨e, by simpa using he, hb, ?_⟩
  simpa using hor
theorem before_out {ops : Array Oper} {i : Nat} (h : ops.size ≤ i) : (Region.before ops).getD i 0 = 0 := by
  have e0 : Region.before ops = ops.toList.foldl befStep #[] := by
    unfold Region.before
    rw [← Array.foldl_toList]
    rfl
  obtain ⟨h1, _, _⟩ := before_fold ops.toList #[]
  have h2 : (ops.toList.foldl befStep #[]).size = ops.size := by rw [h1]; simp
  rw [e0, Array.getD_eq_getD_getElem?, Array.getElem?_eq_none (by omega)]
  rfl
/-- What has been listed holds what stands ahead of it. -/
def Closed (ops : Array Oper) (f : Nat → Bool) : Prop := ∀ i o, ops[i]? = some o → f i = true → ∀ e ∈ o.after, Region.binds .any e = true → f e.on = true
theorem closed_bit {ops : Array Oper} {f : Nat → Bool} (hc : Closed ops f) : ∀ (i : Nat) (o : Oper), ops[i]? = some o → (∀ e ∈ o.after, Region.binds .any e = true → f e.on = true) → ∀ j, ((Region.before ops).getD i 0).testBit j = true → f j = true := by
  intro i
  induction i using Nat.strongRecOn with
  | _ i ih =>
    intro o ho hf j hj
    obtain ⟨e, he, hb, hor⟩ := before_edge ho hj
    have h1 := hf e he hb
    rcases hor with rfl | ⟨hlt, hj'⟩
    · exact h1
    · have hlt' : i < ops.size := by
        rcases Nat.lt_or_ge i ops.size with h0 | h0
        · exact h0
        · rw [Array.getElem?_eq_none h0] at ho; cases ho
      have ho' : ops[e.on]? = some ops[e.on] := by simp
      exact ih e.on hlt _ ho' (fun e' he' hb' => hc e.on _ ho' h1 e' he' hb') j hj'
/-- The bits lead back. -/
theorem bit_lt {ops : Array Oper} (hb : ∀ i o, ops[i]? = some o → ∀ e ∈ o.after, Region.binds .any e = true → e.on < i) : ∀ (i j : Nat), ((Region.before ops).getD i 0).testBit j = true → j < i := by
  intro i
  induction i using Nat.strongRecOn with
  | _ i ih =>
    intro j hj
    rcases Nat.lt_or_ge i ops.size with h0 | h0
    · have ho : ops[i]? = some ops[i] := by simp [h0]
      obtain ⟨e, he, hbb, hor⟩ := before_edge ho hj
      have h1 := hb i _ ho e he hbb
      rcases hor with rfl | ⟨hlt, hj'⟩
      · exact h1
      · have := ih e.on hlt j hj'; omega
    · rw [before_out h0] at hj; simp at hj
/-! ### the trace -/
/-- The slots when the operations that f says have been done. -/
def TSgo (f : Nat → Bool) : List (Oper × Rec) → Nat → List Value → List Value
  | [], _, ts => ts
  | (o, r) :: l, i, ts => TSgo f l (i + 1) (if f i then putL ts o.dst r.v else ts)
theorem putL_length (ts : List Value) (d : Option Tmp) (v : Value) : (putL ts d v).length = ts.length := by cases d <;> simp [putL]
theorem TSgo_length (f : Nat → Bool) : ∀ (l : List (Oper × Rec)) (i : Nat) (ts : List Value), (TSgo f l i ts).length = ts.length := by
  intro l
  induction l with
  | nil => intro i ts; rfl
  | cons x l ih => intro i ts; obtain ⟨o, r⟩ := x; simp only [TSgo]; rw [ih]; split <;> simp [putL_length]
theorem TSgo_congr (f g : Nat → Bool) (t : Nat) : ∀ (l : List (Oper × Rec)) (i : Nat) (ts ts' : List Value), ts.length = ts'.length → ts[t]? = ts'[t]? →
    (∀ k o r, l[k]? = some (o, r) → o.dst = some t → f (i + k) = g (i + k)) → (TSgo f l i ts)[t]? = (TSgo g l i ts')[t]? := by
  intro l
  induction l with
  | nil => intro i ts ts' _ h _; exact h
  | cons x l ih =>
    intro i ts ts' hl h hw
    obtain ⟨o, r⟩ := x
    simp only [TSgo]
    have hw' : ∀ (k : Nat) (p : Oper) (q : Rec), l[k]? = some (p, q) → p.dst = some t → f (i + 1 + k) = g (i + 1 + k) := by
      intro k p q hk hd
      have := hw (k + 1) p q (by simpa using hk) hd
      have e : i + 1 + k = i + (k + 1) := by omega
      rw [e]; exact this
    refine ih (i + 1) _ _ (by split <;> split <;> simp [putL_length, hl]) ?_ hw'
    by_cases hd : o.dst = some t
    · have := hw 0 o r rfl hd
      simp only [Nat.add_zero] at this
      rw [this]
      split
      · simp [putL, hd, List.getElem?_set, hl]
      · exact h
    · have hput : ∀ us : List Value, (putL us o.dst r.v)[t]? = us[t]? := by
        intro us
        cases hdd : o.dst with
        | none => rfl
        | some d =>
          simp only [putL, List.getElem?_set]
          rw [if_neg (fun e => hd (by rw [hdd, e]))]
      split <;> split <;> simp only [hput, h]
theorem TSgo_at (f : Nat → Bool) (t : Nat) : ∀ (l : List (Oper × Rec)) (i : Nat) (ts : List Value) (k : Nat) (o : Oper) (r : Rec), l[k]? = some (o, r) → o.dst = some t → f (i + k) = true →
    (∀ k' o' r', l[k']? = some (o', r') → o'.dst = some t → k' = k) → t < ts.length → (TSgo f l i ts)[t]? = some r.v := by
  intro l
  induction l with
  | nil => intro i ts k o r h; simp at h
  | cons x l ih =>
    intro i ts k o r h hd hf hu hlt
    obtain ⟨p, q⟩ := x
    simp only [TSgo]
    cases k with
    | zero =>
      simp at h
      obtain ⟨rfl, rfl⟩ := h
      simp only [Nat.add_zero] at hf
      rw [hf]
      simp only [if_true]
      have h1 := TSgo_congr f (fun _ => false) t l (i + 1) (putL ts p.dst q.v) (putL ts p.dst q.v) rfl rfl (fun k' o' r' hk' hd' => by
        have := hu (k' + 1) o' r' (by simpa using hk') hd'; omega)
      rw [h1]
      have hfalse : ∀ (l : List (Oper × Rec)) (i : Nat) (ts : List Value), TSgo (fun _ => false) l i ts = ts := by
        intro l
        induction l with
        | nil => intro i ts; rfl
        | cons x l ih => intro i ts; obtain ⟨a, b⟩ := x; simp only [TSgo, Bool.false_eq_true, if_false]; exact ih _ _
      rw [hfalse, hd]
      simp [putL, hlt]
    | succ k =>
      have hf' : f (i + 1 + k) = true := by
        have e : i + 1 + k = i + (k + 1) := by omega
        rw [e]; exact hf
      refine ih (i + 1) _ k o r (by simpa using h) hd hf' (fun k' o' r' hk' hd' => by have := hu (k' + 1) o' r' (by simpa using hk') hd'; omega) ?_
      split <;> simp [putL_length, hlt]
/-- The heap ahead of operation i, in the order of the text. -/
def HT (recs : List Rec) (H' : Heap) (i : Nat) : Heap := match recs[i]? with | some r => r.H | none => H'
theorem trace_facts {P : Program} {G : Nat} {ok : List Bool} {call : Ev} {ops : Array Oper} : ∀ (l : List Oper) (ts : List Value) (H : Heap) (recs : List Rec) (H' : Heap) (i0 : Nat) (f : Nat → Bool), evTrace P G ok call ops l ts H = some (recs, H') →
    (∀ i, i0 ≤ i → f i = false) →
    recs.length = l.length ∧ HT recs H' 0 = H ∧ ∀ (i : Nat) (o : Oper) (r : Rec), l[i]? = some o → recs[i]? = some r →
      (wantedL ops (TSgo (fun j => decide (j < i0 + i)) (l.zip recs) i0 ts) o = some true ∧
        evOp P G ok call (mask (looks ops o) (TSgo (fun j => decide (j < i0 + i)) (l.zip recs) i0 ts)) r.H o = some (r.cls, r.v, HT recs H' (i + 1), r.log) ∧
        r.touched = touchedBy G (mask (looks ops o) (TSgo (fun j => decide (j < i0 + i)) (l.zip recs) i0 ts)) o.op ∧ r.ids = idsOfL (mask (looks ops o) (TSgo (fun j => decide (j < i0 + i)) (l.zip recs) i0 ts))) ∨
      (wantedL ops (TSgo (fun j => decide (j < i0 + i)) (l.zip recs) i0 ts) o = some false ∧ r.v = undef ∧ r.cls = 0 ∧ HT recs H' (i + 1) = r.H) := by
  have hnone : ∀ (l : List (Oper × Rec)) (i n : Nat) (ts : List Value), n ≤ i → TSgo (fun j => decide (j < n)) l i ts = ts := by
    intro l
    induction l with
    | nil => intro i n ts _; rfl
    | cons x l ih =>
      intro i n ts h
      obtain ⟨a, b⟩ := x
      simp only [TSgo]
      rw [if_neg (by simp; omega)]
      exact ih _ _ _ (by omega)
  intro l
  induction l with
  | nil =>
    intro ts H recs H' i0 f h _
    simp only [evTrace, Option.some.injEq, Prod.mk.injEq] at h
    obtain ⟨rfl, rfl⟩ := h
    exact ⟨rfl, rfl, fun i o r h => by simp at h⟩
  | cons o l ih =>
    intro ts H recs H' i0 f h hf
    have shift : ∀ (rs : List Rec) (r0 : Rec) (i : Nat), HT (r0 :: rs) H' (i + 1) = HT rs H' i := by intro rs r0 i; simp [HT]
    simp only [evTrace] at h
    split at h
    · rename_i hw
      split at h
      · rename_i c v H1 lg hev
        split at h
        · rename_i rs H2 htr
          cases h
          obtain ⟨h1, h2, h3⟩ := ih _ _ _ _ (i0 + 1) f htr (fun i hi => hf i (by omega))
          refine ⟨by simp [h1], rfl, ?_⟩
          intro i p r hp hr
          cases i with
          | zero =>
            simp at hp hr
            subst hp; subst hr
            rw [hnone _ _ _ _ (by omega), shift, h2]
            exact .inl ⟨hw, hev, rfl, rfl⟩
          | succ i =>
            have e1 : TSgo (fun j => decide (j < i0 + (i + 1))) ((o :: l).zip ({ cls := c, v := v, H := H, log := lg, touched := touchedBy G (mask (looks ops o) ts) o.op, ids := idsOfL (mask (looks ops o) ts) } :: rs)) i0 ts =
                TSgo (fun j => decide (j < i0 + 1 + i)) (l.zip rs) (i0 + 1) (putL ts o.dst v) := by
              simp only [List.zip_cons_cons, TSgo]
              rw [if_pos (by simp)]
              have e : i0 + (i + 1) = i0 + 1 + i := by omega
              rw [e]
            rw [e1, shift]
            exact h3 i p r (by simpa using hp) (by simpa using hr)
        · cases h
      · cases h
    · rename_i hw
      split at h
      · rename_i rs H2 htr
        cases h
        obtain ⟨h1, h2, h3⟩ := ih _ _ _ _ (i0 + 1) f htr (fun i hi => hf i (by omega))
        refine ⟨by simp [h1], rfl, ?_⟩
        intro i p r hp hr
        cases i with
        | zero =>
          simp at hp hr
          subst hp; subst hr
          rw [hnone _ _ _ _ (by omega), shift, h2]
          exact .inr ⟨hw, rfl, rfl, rfl⟩
        | succ i =>
          have e1 : TSgo (fun j => decide (j < i0 + (i + 1))) ((o :: l).zip ({ cls := 0, v := undef, H := H, log := [], touched := [], ids := [] } :: rs)) i0 ts =
              TSgo (fun j => decide (j < i0 + 1 + i)) (l.zip rs) (i0 + 1) (putL ts o.dst undef) := by
            simp only [List.zip_cons_cons, TSgo]
            rw [if_pos (by simp)]
            have e : i0 + (i + 1) = i0 + 1 + i := by omega
            rw [e]
          rw [e1, shift]
          exact h3 i p r (by simpa using hp) (by simpa using hr)
      · cases h
    · cases h
end Go.Dg
