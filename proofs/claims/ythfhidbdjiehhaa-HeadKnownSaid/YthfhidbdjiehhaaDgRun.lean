/- The abstract run of code and of calls is sound. -/
import Derived.Test.YthfhidbdjiehhaaDgDrawS
namespace Go.Dg
set_option linter.unusedVariables false
set_option linter.unusedSimpArgs false

theorem fold_all : ∀ (l : List (Oper × Rec)) (i : Nat) (ts : List Value), l.foldl (fun ts (x : Oper × Rec) => putL ts x.1.dst x.2.v) ts = TSgo (fun _ => true) l i ts := by
  intro l
  induction l with
  | nil => intro i ts; rfl
  | cons x l ih => intro i ts; obtain ⟨o, r⟩ := x; simp only [List.foldl_cons, TSgo, if_true]; exact ih (i + 1) _

section
variable {P : Program} {G N : Nat} {ok : List Bool} {call : Ev}

/-- What a piece of code leaves. -/
def exOf : Ex → Exit
  | .normal => .normal
  | .exit id => .exit id
  | .ret => .ret

theorem evDraw_sound (hm : P.follows .mixedOrders = true) (hok : BodiesOk P ok) (hcall : CallOk P G call) (hclog : CallLog call) {id : Nat} {ops : Array Oper} {Q : Exit → Act → World → Prop} {s s' : St} {M : Emb} {a : Act} {w : World}
    (hg : Globs G M) (hr : HRel M N s.H w) (hts : LRel M s.ts a.tmps.toList) (h : evDraw P G ok call ops s = some s')
    (hq : ∀ M' a' w', Stp N M s.H w M' s'.H w' → LRel M' s'.ts a'.tmps.toList → a'.defers = a.defers → Q .normal a' w') : (Code.region id ops true).wp P Q a w := by
  unfold evDraw at h
  split at h
  rotate_left
  · cases h
  rename_i recs H' htr
  split at h
  rotate_left
  · cases h
  rename_i hdr
  cases h
  have F := drawOk_facts hdr
  have hd := Stp.drew hr (w.drawn + 1)
  refine wp_region_any hm ?_
  obtain ⟨hlen, hT0, hfacts⟩ := trace_facts ops.toList s.ts s.H recs H' 0 (fun _ => false) htr (fun _ _ => rfl)
  have hf : ∀ i, (Array.replicate ops.size false).getD i false = false := by
    intro i
    simp only [Array.getD_eq_getD_getElem?, Array.getElem?_replicate]
    split <;> rfl
  have hts0 : ∀ (l : List (Oper × Rec)) (i : Nat) (ts : List Value), TSgo (fun i => (Array.replicate ops.size false).getD i false) l i ts = ts := by
    intro l
    induction l with
    | nil => intro i ts; rfl
    | cons x l ih => intro i ts; obtain ⟨o, r⟩ := x; rw [TSgo, if_neg (by rw [hf]; decide)]; exact ih _ _
  have hunl : ∀ n, unl (fun i => (Array.replicate ops.size false).getD i false) n ≤ n := by
    intro n
    induction n with
    | zero => exact Nat.le_refl _
    | succ n ih => simp only [unl]; split <;> omega
  refine draw_any (N := N) hok hcall hclog htr F (M0 := M) (w0 := w) (a0 := a) hg ?_ ops.size _ M a _ 0 (by simp) (hunl _) ?_ ?_ ?_ ?_ rfl
  · intro M' a' w' hs hts' hd'
    refine hq M' a' w' hs ?_ hd'
    rw [← fold_all] at hts'
    exact hts'
  · intro i o _ hi; exact absurd (hi.symm.trans (hf i)) (by decide)
  · intro i r _ _; rw [hf]; simp
  · rw [hT0]; exact hd
  · rw [hts0]; exact hts

/-- Code from where it stands, round a loop. -/
def LoopFrom (P : Program) (c : Code) (Q : Exit → Act → World → Prop) (a : Act) (w : World) : Prop :=
  ∀ (b : Frame) (k : List Item) (cs : List Frame), ∃ e a' w', Q e a' w' ∧ Arrives P (lone (b.at a (.code c :: .inLoop c :: k)) cs w) b k cs e a' w'

theorem loop_from {c : Code} {Q : Exit → Act → World → Prop} {a : Act} {w : World} (h : LoopFrom P c Q a w) : (Code.loop c).wp P Q a w := by
  intro b k cs
  obtain ⟨e, a', w', hq, harr⟩ := h b k cs
  exact ⟨e, a', w', hq, .of_steps (.one step_loop) harr⟩
theorem from_wp {c : Code} {Q : Exit → Act → World → Prop} {a : Act} {w : World} (h : c.wp P (Exit.then (LoopFrom P c Q) Q) a w) : LoopFrom P c Q a w := by
  intro b k cs
  obtain ⟨e, a₁, w₁, hq, harr⟩ := h b (.inLoop c :: k) cs
  cases e with
  | normal =>
    obtain ⟨e₂, a₂, w₂, hq₂, harr₂⟩ := hq b k cs
    exact ⟨e₂, a₂, w₂, hq₂, .of_steps (Steps.trans harr (.one step_inLoop)) harr₂⟩
  | exit id => exact ⟨_, a₁, w₁, hq, .pass (x := .inLoop c) rfl (fun _ _ => .inl (by simp)) harr⟩
  | goto l => exact ⟨_, a₁, w₁, hq, .pass (x := .inLoop c) rfl (fun _ _ => .inl (by simp)) harr⟩
  | ret => exact ⟨_, a₁, w₁, hq, .pass (x := .inLoop c) rfl (fun _ _ => .inl (by simp)) harr⟩
  | panic ch => exact ⟨_, a₁, w₁, hq, .pass (x := .inLoop c) rfl (fun _ _ => .inl (by simp)) harr⟩
  | outgrown => exact ⟨_, a₁, w₁, hq, .pass (x := .inLoop c) rfl (fun _ _ => .inl (by simp)) harr⟩

/-- Code is met by an abstract run. -/
def CodeOk (P : Program) (G : Nat) (c : Code) (run : St → Option (Ex × St)) : Prop :=
  ∀ (s : St) (e : Ex) (s' : St), run s = some (e, s') → ∀ (N : Nat) (M : Emb) (a : Act) (w : World) (Q : Exit → Act → World → Prop), Globs G M → HRel M N s.H w → LRel M s.ts a.tmps.toList →
    (∀ M' a' w', Stp N M s.H w M' s'.H w' → LRel M' s'.ts a'.tmps.toList → a'.defers = a.defers → Q (exOf e) a' w') → c.wp P Q a w

theorem loop_ok {c : Code} {body : St → Option (Ex × St)} (hb : CodeOk P G c body) : ∀ n, ∀ (s : St) (e : Ex) (s' : St), evLoop body n s = some (e, s') → ∀ (N : Nat) (M : Emb) (a : Act) (w : World) (Q : Exit → Act → World → Prop), Globs G M → HRel M N s.H w → LRel M s.ts a.tmps.toList →
    (∀ M' a' w', Stp N M s.H w M' s'.H w' → LRel M' s'.ts a'.tmps.toList → a'.defers = a.defers → Q (exOf e) a' w') → LoopFrom P c Q a w := by
  intro n
  induction n with
  | zero => intro s e s' h; cases h
  | succ n ih =>
    intro s e s' h N M a w Q hg hr hts hq
    simp only [evLoop] at h
    split at h
    · rename_i s1 hs1
      refine from_wp (hb s .normal s1 hs1 N M a w _ hg hr hts ?_)
      intro M1 a1 w1 hst hts1 hd1
      refine ih s1 e s' h N M1 a1 w1 Q (hg.mono hst.le) hst.rel hts1 ?_
      intro M2 a2 w2 hst2 hts2 hd2
      exact hq M2 a2 w2 (hst.trans hst2) hts2 (hd2.trans hd1)
    · rename_i hne
      refine from_wp (hb s e s' h N M a w _ hg hr hts ?_)
      intro M1 a1 w1 hst hts1 hd1
      have := hq M1 a1 w1 hst hts1 hd1
      cases e with
      | normal => exact absurd h (by intro h'; exact hne s' h')
      | exit id => exact this
      | ret => exact this

theorem evCode_ok (hm : P.follows .mixedOrders = true) (hok : BodiesOk P ok) (hcall : CallOk P G call) (hclog : CallLog call) (lf : Nat) : ∀ c : Code, CodeOk P G c (evCode P G ok call lf c) := by
  intro c
  induction c with
  | skip =>
    intro s e s' h N M a w Q hg hr hts hq
    simp only [evCode, Option.some.injEq, Prod.mk.injEq] at h
    obtain ⟨rfl, rfl⟩ := h
    exact wp_skip (hq M a w (Stp.refl hr) hts rfl)
  | region id ops d =>
    intro s e s' h N M a w Q hg hr hts hq
    simp only [evCode, Option.map_eq_some_iff, Prod.mk.injEq] at h
    obtain ⟨s1, h1, rfl, rfl⟩ := h
    cases d with
    | true =>
      simp only [if_true] at h1
      exact evDraw_sound hm hok hcall hclog hg hr hts h1 hq
    | false =>
      simp only [Bool.false_eq_true, if_false] at h1
      refine wp_region (evOps_sound (N := N) hok hcall ops.toList (List.range ops.size) ?_ (by simp) s s1 M a w hg hr hts h1 hq)
      intro j
      rcases Nat.lt_or_ge j ops.size with h0 | h0
      · rw [List.getElem?_range h0]; simp
      · rw [List.getElem?_eq_none (by simpa using h0), List.getElem?_eq_none (by simpa using h0)]; rfl
  | seq x y ihx ihy =>
    intro s e s' h N M a w Q hg hr hts hq
    simp only [evCode] at h
    split at h
    · rename_i s1 h1
      refine wp_seq (ihx s .normal s1 h1 N M a w _ hg hr hts ?_)
      intro M1 a1 w1 hst hts1 hd1
      refine ihy s1 e s' h N M1 a1 w1 Q (hg.mono hst.le) hst.rel hts1 ?_
      intro M2 a2 w2 hst2 hts2 hd2
      exact hq M2 a2 w2 (hst.trans hst2) hts2 (hd2.trans hd1)
    · rename_i hne
      refine wp_seq (ihx s e s' h N M a w _ hg hr hts ?_)
      intro M1 a1 w1 hst hts1 hd1
      have := hq M1 a1 w1 hst hts1 hd1
      cases e with
      | normal => exact absurd h (by intro h'; exact hne s' h')
      | exit id => exact this
      | ret => exact this
  | cond c x y ihx ihy =>
    intro s e s' h N M a w Q hg hr hts hq
    simp only [evCode] at h
    split at h
    · rename_i hc
      exact wp_cond_true ((rd_sound hg hts hc).bool_inv) (ihx s e s' h N M a w Q hg hr hts hq)
    · rename_i hc
      exact wp_cond_false ((rd_sound hg hts hc).bool_inv) (ihy s e s' h N M a w Q hg hr hts hq)
    · cases h
  | block id b ih =>
    intro s e s' h N M a w Q hg hr hts hq
    simp only [evCode] at h
    refine wp_block ?_
    split at h
    · rename_i id' s1 h1
      simp only [Option.some.injEq, Prod.mk.injEq] at h
      obtain ⟨he, rfl⟩ := h
      refine ih s (.exit id') s1 h1 N M a w _ hg hr hts ?_
      intro M1 a1 w1 hst hts1 hd1
      have := hq M1 a1 w1 hst hts1 hd1
      show if id' = id then Q .normal a1 w1 else Q (.exit id') a1 w1
      rw [← he] at this
      split
      · rename_i heq; rw [if_pos heq] at this; exact this
      · rename_i heq; rw [if_neg heq] at this; exact this
    · rename_i hne
      refine ih s e s' h N M a w _ hg hr hts ?_
      intro M1 a1 w1 hst hts1 hd1
      have := hq M1 a1 w1 hst hts1 hd1
      cases e with
      | normal => exact this
      | exit id' => exact absurd h (by intro h'; exact hne id' s' h')
      | ret => exact this
  | loop b ih =>
    intro s e s' h N M a w Q hg hr hts hq
    simp only [evCode] at h
    exact loop_from (loop_ok ih lf s e s' h N M a w Q hg hr hts hq)
  | rangeFunc f ps x y _ _ => intro s e s' h; cases h
  | exit id =>
    intro s e s' h N M a w Q hg hr hts hq
    simp only [evCode, Option.some.injEq, Prod.mk.injEq] at h
    obtain ⟨rfl, rfl⟩ := h
    exact wp_exit (hq M a w (Stp.refl hr) hts rfl)
  | scope b ih =>
    intro s e s' h N M a w Q hg hr hts hq
    simp only [evCode] at h
    refine wp_scope_straight (ih s e s' h N M a w _ hg hr hts ?_)
    intro M1 a1 w1 hst hts1 hd1
    have := hq M1 a1 w1 hst hts1 hd1
    cases e <;> exact this
  | label l =>
    intro s e s' h N M a w Q hg hr hts hq
    simp only [evCode, Option.some.injEq, Prod.mk.injEq] at h
    obtain ⟨rfl, rfl⟩ := h
    exact wp_label (hq M a w (Stp.refl hr) hts rfl)
  | goto l => intro s e s' h; cases h
  | ret =>
    intro s e s' h N M a w Q hg hr hts hq
    simp only [evCode, Option.some.injEq, Prod.mk.injEq] at h
    obtain ⟨rfl, rfl⟩ := h
    exact wp_ret (hq M a w (Stp.refl hr) hts rfl)
  | refuse y => intro s e s' h; cases h


theorem evOps_log (hclog : CallLog call) {ops : Array Oper} : ∀ (l : List Oper) (s s' : St), evOps P G ok call ops l s = some s' → ∃ lg, s'.log = lg ++ s.log ∧ LogOk s.H s'.H lg := by
  intro l
  induction l with
  | nil => intro s s' h; simp only [evOps, Option.some.injEq] at h; subst h; exact ⟨[], rfl, LogOk.same _ _⟩
  | cons o r ih =>
    intro s s' h
    simp only [evOps] at h
    split at h
    · split at h
      · rename_i c v H1 lg hev
        obtain ⟨lg2, h1, h2⟩ := ih _ _ h
        have h3 := evOp_log hclog hev
        exact ⟨lg2 ++ lg, by rw [h1]; simp, h3.trans h2⟩
      · cases h
    · obtain ⟨lg2, h1, h2⟩ := ih ⟨putL s.ts o.dst undef, s.H, s.log⟩ s' h
      exact ⟨lg2, h1, h2⟩

theorem evTrace_log (hclog : CallLog call) {ops : Array Oper} : ∀ (l : List Oper) (ts : List Value) (H : Heap) (recs : List Rec) (H' : Heap), evTrace P G ok call ops l ts H = some (recs, H') → ∀ lg0 : List Nat, ∃ lg, recs.foldl (fun l r => r.log ++ l) lg0 = lg ++ lg0 ∧ LogOk H H' lg := by
  intro l
  induction l with
  | nil => intro ts H recs H' h lg0; simp only [evTrace, Option.some.injEq, Prod.mk.injEq] at h; obtain ⟨rfl, rfl⟩ := h; exact ⟨[], rfl, LogOk.same _ _⟩
  | cons o r ih =>
    intro ts H recs H' h lg0
    simp only [evTrace] at h
    split at h
    · split at h
      · rename_i c v H1 lg hev
        split at h
        · rename_i rs H2 htr
          cases h
          obtain ⟨lg2, h1, h2⟩ := ih _ _ _ _ htr (lg ++ lg0)
          exact ⟨lg2 ++ lg, by simp only [List.foldl_cons]; rw [h1]; simp, (evOp_log hclog hev).trans h2⟩
        · cases h
      · cases h
    · split at h
      · rename_i rs H2 htr
        cases h
        obtain ⟨lg2, h1, h2⟩ := ih _ _ _ _ htr lg0
        exact ⟨lg2, by simp only [List.foldl_cons, List.nil_append]; exact h1, h2⟩
      · cases h

def RunLog (run : St → Option (Ex × St)) : Prop := ∀ s e s', run s = some (e, s') → ∃ lg, s'.log = lg ++ s.log ∧ LogOk s.H s'.H lg

theorem RunLog.loop {body : St → Option (Ex × St)} (hb : RunLog body) : ∀ n, RunLog (evLoop body n) := by
  intro n
  induction n with
  | zero => intro s e s' h; cases h
  | succ n ih =>
    intro s e s' h
    simp only [evLoop] at h
    split at h
    · rename_i s1 h1
      obtain ⟨l1, e1, k1⟩ := hb _ _ _ h1
      obtain ⟨l2, e2, k2⟩ := ih _ _ _ h
      exact ⟨l2 ++ l1, by rw [e2, e1]; simp, k1.trans k2⟩
    · exact hb _ _ _ h

theorem evCode_log (hclog : CallLog call) (lf : Nat) : ∀ c : Code, RunLog (evCode P G ok call lf c) := by
  have same : ∀ (s : St), ∃ lg, s.log = lg ++ s.log ∧ LogOk s.H s.H lg := fun s => ⟨[], rfl, LogOk.same _ _⟩
  intro c
  induction c with
  | region id ops d =>
    intro s e s' h
    simp only [evCode, Option.map_eq_some_iff, Prod.mk.injEq] at h
    obtain ⟨s1, h1, rfl, rfl⟩ := h
    cases d with
    | true =>
      simp only [if_true] at h1
      unfold evDraw at h1
      split at h1
      · rename_i recs H' htr
        split at h1
        · cases h1; exact evTrace_log hclog _ _ _ _ _ htr _
        · cases h1
      · cases h1
    | false =>
      simp only [Bool.false_eq_true, if_false] at h1
      exact evOps_log hclog _ _ _ h1
  | seq x y ihx ihy =>
    intro s e s' h
    simp only [evCode] at h
    split at h
    · rename_i s1 h1
      obtain ⟨l1, e1, k1⟩ := ihx _ _ _ h1
      obtain ⟨l2, e2, k2⟩ := ihy _ _ _ h
      exact ⟨l2 ++ l1, by rw [e2, e1]; simp, k1.trans k2⟩
    · exact ihx _ _ _ h
  | cond c x y ihx ihy =>
    intro s e s' h
    simp only [evCode] at h
    split at h
    · exact ihx _ _ _ h
    · exact ihy _ _ _ h
    · cases h
  | block id b ih =>
    intro s e s' h
    simp only [evCode] at h
    split at h
    · rename_i id' s1 h1
      simp only [Option.some.injEq, Prod.mk.injEq] at h
      obtain ⟨_, rfl⟩ := h
      exact ih _ _ _ h1
    · exact ih _ _ _ h
  | loop b ih =>
    intro s e s' h
    simp only [evCode] at h
    exact RunLog.loop ih lf _ _ _ h
  | scope b ih =>
    intro s e s' h
    simp only [evCode] at h
    exact ih _ _ _ h
  | rangeFunc f ps x y _ _ => intro s e s' h; cases h
  | goto l => intro s e s' h; cases h
  | refuse y => intro s e s' h; cases h
  | _ =>
    intro s e s' h
    simp only [evCode, Option.some.injEq, Prod.mk.injEq] at h
    obtain ⟨rfl, rfl⟩ := h
    exact same _

/-- One result, as the model reads it. -/
def resSem (tmps : Array Value) (r : ResultVar) : Sem Value :=
  match r with
  | .tmp t => pure (tmps.getD t undef)
  | .cell a t => do loadVar t (← asAddr (tmps.getD a undef))

theorem evResults_sound {M : Emb} {H : Heap} {w : World} {ts : List Value} {a : Act} (hr : HRel M N H w) (hts : LRel M ts a.tmps.toList) : ∀ (rs : List ResultVar) (l : List Value), evResults P ts H rs = some l →
    ∃ l', LRel M l l' ∧ (rs.mapM (resSem a.tmps)).run P w = .ok l' w := by
  have slot : ∀ t, VRel M (ts.getD t undef) (a.tmps.getD t undef) := fun t => rd_sound (G := 0) (ts := ts) (a := a) (x := .tmp t) (fun g h => by omega) hts rfl
  have step : ∀ (r : ResultVar) (rs : List ResultVar) (v' : Value) (l' : List Value), (resSem a.tmps r).run P w = .ok v' w → (rs.mapM (resSem a.tmps)).run P w = .ok l' w → ((r :: rs).mapM (resSem a.tmps)).run P w = .ok (v' :: l') w := by
    intro r rs v' l' h1 h2
    rw [List.mapM_cons]
    simp only [Sem.run_bind, h1, Result.andThen_ok, h2, Sem.run_pure]
  intro rs
  induction rs with
  | nil => intro l h; cases h; exact ⟨[], LRel.nil, rfl⟩
  | cons r rs ih =>
    intro l h
    cases r with
    | tmp t =>
      simp only [evResults, Option.map_eq_some_iff] at h
      obtain ⟨l1, h1, rfl⟩ := h
      obtain ⟨l', g1, g2⟩ := ih l1 h1
      exact ⟨_ :: l', LRel.cons (slot t) g1, step _ _ _ _ rfl g2⟩
    | cell x t =>
      simp only [evResults] at h
      split at h
      rotate_left
      · cases h
      rename_i k off l1 hx h1
      obtain ⟨l', g1, g2⟩ := ih l1 h1
      have hs := slot x
      rw [hx] at hs
      obtain ⟨b, o, sp, hM, ev⟩ := hs.ptr_inv
      split at h
      · rename_i hagg
        split at h
        · rename_i n hn
          rw [Option.map_eq_some_iff] at h
          obtain ⟨cs, hcs, rfl⟩ := h
          obtain ⟨cs', q1, q2, q3⟩ := read_run (P := P) hr hcs hM
          refine ⟨.agg cs'.toArray :: l', LRel.cons (.agg q1.toArray.1 q1.toArray.2) g1, step _ _ _ _ ?_ g2⟩
          simp only [resSem, Sem.run_bind, ev, asAddr, Sem.run_pure, Result.andThen_ok, loadVar, run_of_eval0 hagg, if_true, run_of_eval0 hn, q3]
        · cases h
      · rename_i hagg
        split at h
        · rename_i u hu
          cases h
          obtain ⟨cs', q1, q2, q3⟩ := hr.read hu hM
          obtain ⟨u', r', rfl, q4, q5⟩ := q1.cons_inv
          have hc := q3 0 u' rfl
          simp only [Nat.add_zero] at hc
          refine ⟨u' :: l', LRel.cons q4 g1, step _ _ _ _ ?_ g2⟩
          simp only [resSem, Sem.run_bind, ev, asAddr, Sem.run_pure, Result.andThen_ok, loadVar, run_of_eval0 hagg, Bool.false_eq_true, if_false, run_load, hc]
        · cases h
      · cases h

/-- Up to n alone. -/
def Emb.upTo (M : Emb) (n : Nat) : Emb := fun k => if k < n then M k else none

theorem belowL_of {n : Nat} : ∀ (l : List Value), (∀ (i : Nat) (v : Value), l[i]? = some v → below n v = true) → belowL n l = true := by
  intro l
  induction l with
  | nil => intro _; rfl
  | cons v r ih => intro h; simp only [belowL, Bool.and_eq_true]; exact ⟨h 0 v rfl, ih fun i u hu => h (i + 1) u (by simpa using hu)⟩
theorem belowL_get {n : Nat} : ∀ (l : List Value), belowL n l = true → ∀ (i : Nat) (v : Value), l[i]? = some v → below n v = true := by
  intro l
  induction l with
  | nil => intro _ i v h; simp at h
  | cons u r ih =>
    intro h i v hv
    simp only [belowL, Bool.and_eq_true] at h
    cases i with
    | zero => simp at hv; subst hv; exact h.1
    | succ i => exact ih h.2 i v (by simpa using hv)
theorem belowA_of {n : Nat} (a : Array Value) (h : ∀ (i : Nat) (v : Value), a[i]? = some v → below n v = true) : belowA n a = true := by
  cases a with | mk l => simp only [belowA]; exact belowL_of l (fun i v hv => h i v (by simpa using hv))
theorem belowA_get {n : Nat} (a : Array Value) (h : belowA n a = true) (i : Nat) (v : Value) (hv : a[i]? = some v) : below n v = true := by
  cases a with | mk l => exact belowL_get l (by simpa [belowA] using h) i v (by simpa using hv)

theorem below_of_vrel {M : Emb} {n : Nat} (hd : ∀ k x, M k = some x → k < n) {v v' : Value} (h : VRel M v v') : below n v = true := by
  induction h with
  | atom h0 =>
    rename_i v
    cases v <;> simp_all [atom, below]
  | ptr h0 => simpa [below] using hd _ _ h0
  | slx h0 => simpa [below] using hd _ _ h0
  | slf h0 => simpa [below] using hd _ _ h0
  | map h0 => simpa [below] using hd _ _ h0
  | iface _ ih => simpa [below] using ih
  | func f h1 h2 h3 h4 ih1 ih2 =>
    rename_i fn a a' c c'
    simp only [below, Bool.and_eq_true]
    refine ⟨⟨?_, belowA_of a fun i v hv => ?_⟩, belowA_of c fun i v hv => ?_⟩
    · cases fn <;> first | rfl | (simp [flatFn] at f)
    · obtain ⟨v', hv', _⟩ := ARel.get (M := M) ⟨h1, h2⟩ hv
      exact ih1 i v v' hv hv'
    · obtain ⟨v', hv', _⟩ := ARel.get (M := M) ⟨h3, h4⟩ hv
      exact ih2 i v v' hv hv'
  | yield h0 =>
    simp only [below, Bool.and_eq_true]
    exact ⟨⟨by simpa using hd _ _ h0, rfl⟩, rfl⟩
  | agg h1 h2 ih =>
    rename_i a a'
    simp only [below]
    refine belowA_of a fun i v hv => ?_
    obtain ⟨v', hv', _⟩ := ARel.get (M := M) ⟨h1, h2⟩ hv
    exact ih i v v' hv hv'
  | tuple h1 h2 ih =>
    rename_i a a'
    simp only [below]
    refine belowA_of a fun i v hv => ?_
    obtain ⟨v', hv', _⟩ := ARel.get (M := M) ⟨h1, h2⟩ hv
    exact ih i v v' hv hv'

theorem vrel_upTo {M : Emb} {n : Nat} {v v' : Value} (h : VRel M v v') : below n v = true → VRel (M.upTo n) v v' := by
  have up : ∀ {k : Nat} {x : Nat × Nat × Nat}, M k = some x → k < n → M.upTo n k = some x := by intro k x h1 h2; simp [Emb.upTo, h1, h2]
  induction h with
  | atom h0 => intro _; exact .atom h0
  | ptr h0 => intro hb; exact .ptr (up h0 (by simpa [below] using hb))
  | slx h0 => intro hb; exact .slx (up h0 (by simpa [below] using hb))
  | slf h0 => intro hb; exact .slf (up h0 (by simpa [below] using hb))
  | map h0 => intro hb; exact .map (up h0 (by simpa [below] using hb))
  | iface _ ih => intro hb; exact .iface (ih (by simpa [below] using hb))
  | func f h1 h2 h3 h4 ih1 ih2 =>
    intro hb
    simp only [below, Bool.and_eq_true] at hb
    exact .func f h1 (fun i v v' hv hv' => ih1 i v v' hv hv' (belowA_get _ hb.1.2 i v hv)) h3 (fun i v v' hv hv' => ih2 i v v' hv hv' (belowA_get _ hb.2 i v hv))
  | yield h0 =>
    intro hb
    simp only [below, Bool.and_eq_true] at hb
    exact .yield (up h0 (by simpa using hb.1.1))
  | agg h1 h2 ih => intro hb; exact .agg h1 (fun i v v' hv hv' => ih i v v' hv hv' (belowA_get _ (by simpa [below] using hb) i v hv))
  | tuple h1 h2 ih => intro hb; exact .tuple h1 (fun i v v' hv hv' => ih i v v' hv hv' (belowA_get _ (by simpa [below] using hb) i v hv))

theorem get_trunc {H : Heap} {n : Nat} (hn : n ≤ H.n) (k : Nat) : (⟨n, H.objs.drop (H.n - n)⟩ : Heap).get k = if k < n then H.get k else .dead := by
  unfold Heap.get
  by_cases hk : k < n
  · have hk2 : k < H.n := by omega
    simp only [hk, hk2, if_true, List.getD_eq_getElem?_getD, List.getElem?_drop]
    have e : H.n - n + (n - 1 - k) = H.n - 1 - k := by omega
    rw [e]
  · simp only [hk, if_false]

theorem dropNew_sound {M M' : Emb} {H H' : Heap} {w w' : World} {v v' : Value} {log : List Nat} (hr : HRel M N H w) (hv : VRel M' v v') (hs : Stp N M H w M' H' w') (hl : LogOk H H' log) {v2 : Value} {H2 : Heap} {log2 : List Nat}
    (h : dropNew H.n v H' log = (v2, H2, log2)) : (∃ M2, VRel M2 v2 v' ∧ Stp N M H w M2 H2 w') ∧ LogOk H H2 log2 := by
  unfold dropNew at h
  split at h
  rotate_left
  · cases h; exact ⟨⟨M', hv, hs⟩, hl⟩
  rename_i hc
  cases h
  simp only [Bool.and_eq_true, List.all_eq_true, Bool.or_eq_true, decide_eq_true_eq] at hc
  obtain ⟨hb, hlog⟩ := hc
  have hn := hs.n
  have hget := get_trunc (H := H') hn
  have hbel : ∀ k, k < H.n → (H'.get k).live = true → (H'.get k).below H.n = true := by
    intro k hk hlive
    by_cases hkl : k ∈ log
    · rcases hlog k hkl with h1 | h1
      · omega
      · exact h1
    · have he := hl.2 k hk hkl
      rw [he] at hlive ⊢
      obtain ⟨b, o, sp, _, ho⟩ := hr.obj k hlive
      cases hg : H.get k with
      | dead => rfl
      | iter s pos => rfl
      | cells cs e md esz =>
        rw [hg] at ho
        obtain ⟨C, fz, _, _, h3, _⟩ := ho
        simp only [AObj.below]
        exact belowL_of cs fun i v hv => let ⟨u, _, hu⟩ := h3 i v hv; below_of_vrel hr.dom hu
  have hle : Emb.le M (M'.upTo H.n) := by
    intro k x hx
    have h1 := hr.dom k x hx
    simp [Emb.upTo, h1, hs.le k x hx]
  have hup : ∀ {k : Nat} {x : Nat × Nat × Nat}, (M'.upTo H.n) k = some x → k < H.n ∧ M' k = some x := by
    intro k x hx
    unfold Emb.upTo at hx
    split at hx
    · rename_i hk; exact ⟨hk, hx⟩
    · cases hx
  have hlive : ∀ k, ((⟨H.n, H'.objs.drop (H'.n - H.n)⟩ : Heap).get k).live = true → k < H.n ∧ (H'.get k).live = true ∧ (⟨H.n, H'.objs.drop (H'.n - H.n)⟩ : Heap).get k = H'.get k := by
    intro k hk
    rw [hget] at hk ⊢
    split at hk
    · rename_i hlt; exact ⟨hlt, hk, by rw [if_pos hlt]⟩
    · cases hk
  refine ⟨⟨M'.upTo H.n, vrel_upTo hv hb, ⟨hle, ⟨?_, ?_, ?_, ?_, hs.rel.base⟩, hs.size, hs.os, hs.tape, hs.output, Nat.le_refl _, ?_, hs.frame⟩⟩, ?_⟩
  · have := hs.rel.len
    simp only [List.length_drop]
    omega
  · intro k x hx; exact (hup hx).1
  · intro k hk
    obtain ⟨hlt, hl', he⟩ := hlive k hk
    obtain ⟨b, o, sp, h1, h2⟩ := hs.rel.obj k hl'
    refine ⟨b, o, sp, by simp [Emb.upTo, hlt, h1], ?_⟩
    rw [he]
    have hbk := hbel k hlt hl'
    cases hg : H'.get k with
    | dead => trivial
    | iter s pos => rw [hg] at h2; exact h2
    | cells cs e md esz =>
      rw [hg] at h2 hbk
      obtain ⟨C, fz, q1, q2, q3, q4, q5⟩ := h2
      refine ⟨C, fz, q1, q2, fun i u hu => ?_, q4, q5⟩
      obtain ⟨u', a1, a2⟩ := q3 i u hu
      exact ⟨u', a1, vrel_upTo a2 (belowL_get cs hbk i u hu)⟩
  · intro k k' b o sp b' o' sp' hne hko hkl hm hm'
    obtain ⟨_, _, he⟩ := hlive k (AObj.live_of_owned hko)
    obtain ⟨_, hl', _⟩ := hlive k' hkl
    rw [he] at hko
    exact hs.rel.apart k k' b o sp b' o' sp' hne hko hl' (hup hm).2 (hup hm').2
  · intro k b o sp hko hm
    obtain ⟨_, _, he⟩ := hlive k (AObj.live_of_owned hko)
    rw [he] at hko
    exact hs.own k b o sp hko (hup hm).2
  · refine ⟨Nat.le_refl _, fun k hk hkn => ?_⟩
    rw [hget, if_pos hk]
    refine hl.2 k hk fun hmem => hkn ?_
    simp [List.mem_filter, hmem, hk]

theorem dropNew_log {H H' H2 : Heap} {v v2 : Value} {log log2 : List Nat} (hl : LogOk H H' log) (h : dropNew H.n v H' log = (v2, H2, log2)) : LogOk H H2 log2 := by
  unfold dropNew at h
  split at h
  · cases h
    refine ⟨Nat.le_refl _, fun k hk hkn => ?_⟩
    rw [get_trunc hl.1, if_pos hk]
    refine hl.2 k hk fun hmem => hkn ?_
    simp [List.mem_filter, hmem, hk]
  · cases h; exact hl

theorem resVal_rel {M : Emb} {l l' : List Value} (h : LRel M l l') : VRel M (resVal l) (if h : l'.toArray.size = 1 then l'.toArray[0] else .tuple l'.toArray) := by
  cases l with
  | nil => obtain rfl := h.nil_inv; exact .tuple rfl (fun i u u' h => by simp at h)
  | cons u r =>
    obtain ⟨u', r', rfl, h1, h2⟩ := h.cons_inv
    cases r with
    | nil => obtain rfl := h2.nil_inv; exact h1
    | cons u2 r2 =>
      obtain ⟨u2', r2', rfl, h3, h4⟩ := h2.cons_inv
      rw [dif_neg (by simp)]
      exact .tuple h.toArray.1 h.toArray.2

theorem evCall_ok (hm : P.follows .mixedOrders = true) (hok : BodiesOk P ok) (lf : Nat) : ∀ n, CallOk P G (evCall P G ok lf n) ∧ CallLog (evCall P G ok lf n) := by
  intro n
  induction n with
  | zero => exact ⟨fun f args H v H' log h => (by cases h), fun f args H v H' log h => (by cases h)⟩
  | succ n ih =>
    obtain ⟨ihc, ihl⟩ := ih
    -- what both want
    have parts : ∀ f args H v H' log, evCall P G ok lf (n + 1) f args H = some (v, H', log) → ∃ fn c ex s l, P.funcs[f]? = some fn ∧ fn.body = some c ∧
        evCode P G ok (evCall P G ok lf n) lf c ⟨args ++ List.replicate (fn.ntmps - args.length) undef, H, []⟩ = some (ex, s) ∧ (ex = .normal ∨ ex = .ret) ∧ evResults P s.ts s.H fn.results.toList = some l ∧
        dropNew H.n (resVal l) s.H s.log = (v, H', log) := by
      intro f args H v H' log h
      simp only [evCall] at h
      split at h
      · rename_i fn hfn
        split at h
        · rename_i c hc
          split at h
          · rename_i ex s hrun
            split at h
            · cases h
            · rename_i hne
              split at h
              · rename_i l hl
                simp only [Option.some.injEq] at h
                refine ⟨fn, c, ex, s, l, hfn, hc, hrun, ?_, hl, h⟩
                cases ex with
                | normal => exact .inl rfl
                | ret => exact .inr rfl
                | exit id => exact absurd rfl (hne id)
              · cases h
          · cases h
        · cases h
      · cases h
    constructor
    · intro f args H v H' log h N M w args' hg hr hargs
      obtain ⟨fn, c, ex, s, l, hfn, hc, hrun, hex, hl, hd⟩ := parts f args H v H' log h
      refine calls_of_wp hfn hc ?_
      obtain ⟨lg, e1, k1⟩ := evCode_log ihl lf c _ _ _ hrun
      simp only [List.append_nil] at e1
      have hts : LRel M (args ++ List.replicate (fn.ntmps - args.length) undef) (args' ++ Array.replicate (fn.ntmps - args'.size) undef).toList := by
        have hsz : args.length = args'.size := by rw [hargs.1]; simp
        rw [Array.toList_append, Array.toList_replicate, ← hsz]
        exact hargs.append ⟨by simp, fun i u u' h1 h2 => by
          simp only [List.getElem?_replicate, Option.ite_none_right_eq_some, Option.some.injEq] at h1 h2
          obtain ⟨_, rfl⟩ := h1
          obtain ⟨_, rfl⟩ := h2
          exact vrel_undef⟩
      refine evCode_ok hm hok ihc ihl lf c _ ex s hrun N M { tmps := args' ++ Array.replicate (fn.ntmps - args'.size) undef, defers := [] } w _ hg hr hts ?_
      intro M1 a1 w1 hst hts1 hd1
      obtain ⟨l', q1, q2⟩ := evResults_sound (P := P) hst.rel hts1 fn.results.toList l hl
      have hres : (results fn a1.tmps).run P w1 = .ok (if h : l'.toArray.size = 1 then l'.toArray[0] else .tuple l'.toArray) w1 := by
        have er : (fn.results.mapM (resSem a1.tmps)).run P w1 = .ok l'.toArray w1 := by
          rw [Array.mapM_eq_mapM_toList, Sem.run_map, q2]; rfl
        have e2 : results fn a1.tmps = (fn.results.mapM (resSem a1.tmps) >>= fun vs => pure (if h : vs.size = 1 then vs[0] else .tuple vs)) := by
          unfold results
          congr 1
        rw [e2, Sem.run_bind, er]
        rfl
      have hv := resVal_rel q1
      rw [e1] at hd
      obtain ⟨⟨M2, hv2, hs2⟩, _⟩ := dropNew_sound hr hv hst k1 hd
      have hfin : bodyPost P fn (fun e w' => ∃ M' v', e = .returned v' ∧ VRel M' v v' ∧ Stp N M H w M' H' w') .ret a1 w1 := by
        exact ⟨hd1, _, hres, M2, _, rfl, hv2, hs2⟩
      rcases hex with rfl | rfl
      · exact hfin
      · exact hfin
    · intro f args H v H' log h
      obtain ⟨fn, c, ex, s, l, hfn, hc, hrun, hex, hl, hd⟩ := parts f args H v H' log h
      obtain ⟨lg, e1, k1⟩ := evCode_log ihl lf c _ _ _ hrun
      simp only [List.append_nil] at e1
      rw [e1] at hd
      exact dropNew_log k1 hd

end
end Go.Dg
