/- The abstract run of code and of calls is sound. -/
import Derived.Test.YtafhlmpifdclaaaDgFloat
namespace Go.Dg
set_option linter.unusedVariables false
set_option linter.unusedSimpArgs false

theorem fold_all : ∀ (l : List (Oper × Rec)) (i : Nat) (ts : List Value), l.foldl (fun ts (x : Oper × Rec) => putL ts x.1.dst x.2.v) ts = TSgo (fun _ => true) l i ts := by
  intro l
  induction l with
  | nil => intro i ts; rfl
  | cons x l ih => intro i ts; obtain ⟨o, r⟩ := x; simp only [List.foldl_cons, TSgo, if_true]; exact ih (i + 1) _

section
variable {P : Program} {G N : Nat} {ok : List Bool} {call : Ev}

/-- What a piece of code leaves. -/
def exOf : Ex → Exit
  | .normal => .normal
  | .exit id => .exit id
  | .ret => .ret

theorem mem_addLog {base : Nat} : ∀ (lg log : List Nat) (k : Nat), k < base → (k ∈ addLog base lg log ↔ k ∈ lg ∨ k ∈ log) := by
  intro lg
  induction lg with
  | nil => intro log k _; simp [addLog]
  | cons j r ih =>
    intro log k hk
    have e : addLog base (j :: r) log = if j < base && !(addLog base r log).contains j then j :: addLog base r log else addLog base r log := rfl
    rw [e]
    have := ih log k hk
    split
    · simp only [List.mem_cons, this]
      constructor
      · rintro (rfl | h | h)
        · exact .inl (.inl rfl)
        · exact .inl (.inr h)
        · exact .inr h
      · rintro ((rfl | h) | h)
        · exact .inl rfl
        · exact .inr (.inl h)
        · exact .inr (.inr h)
    · rename_i hc
      simp only [List.mem_cons, this]
      constructor
      · rintro (h | h)
        · exact .inl (.inr h)
        · exact .inr h
      · rintro ((rfl | h) | h)
        · rw [← this]
          simp only [Bool.and_eq_true, decide_eq_true_eq, Bool.not_eq_true', not_and] at hc
          have h2 := hc hk
          have h3 : (addLog base r log).contains k = true := by
            cases hcc : (addLog base r log).contains k with
            | true => rfl
            | false => exact absurd hcc h2
          simpa using h3
        · exact .inl h
        · exact .inr h

theorem LogOk.add {H0 H H' : Heap} {lg log : List Nat} (h : LogOk H0 H log) (k : LogOk H H' lg) : LogOk H0 H' (addLog H0.n lg log) := fun hl => by
  obtain ⟨a1, a2, a3⟩ := h hl
  obtain ⟨b1, b2, b3⟩ := k a1
  refine ⟨b1, Nat.le_trans a2 b2, fun j hj hn => ?_⟩
  rw [mem_addLog lg log j hj, not_or] at hn
  rw [b3 j (Nat.lt_of_lt_of_le hj a2) hn.1, a3 j hj hn.2]

theorem evTrace_n (hclog : CallLog call) {ops : Array Oper} : ∀ (l : List Oper) (ts : List Value) (H : Heap) (recs : List Rec) (H' : Heap), evTrace P G ok call ops l ts H = some (recs, H') → H.objs.length = H.n → H'.objs.length = H'.n ∧ H.n ≤ H'.n := by
  intro l
  induction l with
  | nil => intro ts H recs H' h hl; simp only [evTrace, Option.some.injEq, Prod.mk.injEq] at h; obtain ⟨_, rfl⟩ := h; exact ⟨hl, Nat.le_refl _⟩
  | cons o r ih =>
    intro ts H recs H' h hl
    simp only [evTrace] at h
    split at h
    · split at h
      · rename_i c v H1 lg hev
        split at h
        · rename_i rs H2 htr
          cases h
          have h1 := evOp_log hclog hev hl
          have h2 := ih _ _ _ _ htr h1.1
          exact ⟨h2.1, Nat.le_trans h1.2.1 h2.2⟩
        · cases h
      · cases h
    · split at h
      · rename_i rs H2 htr
        cases h
        exact ih _ _ _ _ htr hl
      · cases h
    · cases h
theorem evDraw_sound (hm : P.follows .mixedOrders = true) (hok : BodiesOk P ok) (hcall : CallOk P G call) (hclog : CallLog call) {base id : Nat} {ops : Array Oper} {Q : Exit → Act → World → Prop} {s s' : St} {M : Emb} {a : Act} {w : World}
    (hg : Globs G M) (hr : HRel M N s.H w) (hts : TRel M s.ts a.tmps.toList) (h : evDraw P G ok call base ops s = some s')
    (hq : ∀ M' a' w', Stp N M s.H w M' s'.H w' → TRel M' s'.ts a'.tmps.toList → a'.defers = a.defers → Q .normal a' w') : (Code.region id ops true).wp P Q a w := by
  unfold evDraw at h
  split at h
  rotate_left
  · cases h
  rename_i recs H' htr
  split at h
  rotate_left
  · cases h
  rename_i hdr
  cases h
  have hd := Stp.drew hr (w.drawn + 1)
  refine wp_region_any hm ?_
  obtain ⟨hlen, hT0, hfacts⟩ := trace_facts ops.toList s.ts s.H recs H' 0 (fun _ => false) htr (fun _ _ => rfl)
  have hf : ∀ i, (Array.replicate ops.size false).getD i false = false := by
    intro i
    simp only [Array.getD_eq_getD_getElem?, Array.getElem?_replicate]
    split <;> rfl
  have hts0 : ∀ (l : List (Oper × Rec)) (i : Nat) (ts : List Value), TSgo (fun i => (Array.replicate ops.size false).getD i false) l i ts = ts := by
    intro l
    induction l with
    | nil => intro i ts; rfl
    | cons x l ih => intro i ts; obtain ⟨o, r⟩ := x; rw [TSgo, if_neg (by rw [hf]; decide)]; exact ih _ _
  have hunl : ∀ n, unl (fun i => (Array.replicate ops.size false).getD i false) n ≤ n := by
    intro n
    induction n with
    | zero => exact Nat.le_refl _
    | succ n ih => simp only [unl]; split <;> omega
  have hq' : ∀ M' a' w', Stp N M s.H w M' H' w' → TRel M' (TSgo (fun _ => true) (ops.toList.zip recs) 0 s.ts) a'.tmps.toList → a'.defers = a.defers → Q .normal a' w' := by
    intro M' a' w' hs hts' hd'
    refine hq M' a' w' hs ?_ hd'
    rw [← fold_all] at hts'
    exact hts'
  rcases Bool.or_eq_true_iff.1 hdr with hdr | hdr
  · have F := drawOk_facts hdr
    refine draw_any (N := N) hok hcall hclog htr F (M0 := M) (w0 := w) (a0 := a) hg hr.len hq' ops.size _ M a _ 0 (by simp) (hunl _) ?_ ?_ ?_ ?_ rfl
    · intro i o _ hi; exact absurd (hi.symm.trans (hf i)) (by decide)
    · intro i r _ _; rw [hf]; simp
    · rw [hT0]; exact hd
    · rw [hts0]; exact hts
  · have F := floatOk_facts hdr
    have hn : s.H.n ≤ H'.n := (evTrace_n hclog ops.toList s.ts s.H recs H' htr hr.len).2
    refine draw_float (N := N) hok hcall hclog htr F (M0 := M) (w0 := w) (a0 := a) hg hr hr.len hq' ops.size _ M a _ 0 (padTo s.H H'.n) (by simp) (hunl _) ?_ ?_ ?_ ?_ ?_ rfl
    · intro i o _ hi; exact absurd (hi.symm.trans (hf i)) (by decide)
    · intro i r _ _ _ _ _; rw [hf]; simp
    · intro i r _ _ _ _ _ h; omega
    · have hgp := padTo_get hr.len hn
      refine ⟨padTo_len hr.len hn, rfl, ?_, ?_, ?_, ?_, hd.toStw.trans (Stw.pad hd.rel (padTo_len hr.len hn) hn hgp), fun k _ h => h⟩
      · intro k hk
        rw [hT0] at hk ⊢
        rw [hgp, if_pos hk]
      · intro j _ _ _ _ _ _ _ h
        have h' : (Array.replicate ops.size false).getD j false = true := h
        rw [hf] at h'; cases h'
      · intro k hk _
        rw [hT0] at hk
        refine ⟨by rw [hgp, if_neg (by omega)], ?_⟩
        cases hm2 : M k with
        | none => rfl
        | some x => have := hr.dom k x hm2; omega
      · intro k hk j hj
        rw [hT0] at hk hj ⊢
        cases hl : (s.H.get k).live with
        | true =>
          obtain ⟨b, oo, sp, q1, q2⟩ := hr.obj k hl
          obtain ⟨x, hx⟩ := ids_obj q2 j hj
          exact hr.dom j x hx
        | false =>
          cases hg2 : s.H.get k with
          | dead => rw [hg2] at hj; cases hj
          | cells _ _ _ _ => rw [hg2] at hl; cases hl
          | iter _ _ => rw [hg2] at hj; cases hj
    · rw [hts0]; exact hts

/-! ### what is noted is all that was turned -/
theorem evOps_log (hclog : CallLog call) {H0 : Heap} {ops : Array Oper} : ∀ (l : List Oper) (s s' : St), evOps P G ok call H0.n ops l s = some s' → LogOk H0 s.H s.log → LogOk H0 s'.H s'.log := by
  intro l
  induction l with
  | nil => intro s s' h hl; simp only [evOps, Option.some.injEq] at h; subst h; exact hl
  | cons o r ih =>
    intro s s' h hl
    simp only [evOps] at h
    split at h
    · split at h
      · rename_i c v H1 lg hev
        exact ih _ _ h (hl.add (evOp_log hclog hev))
      · cases h
    · exact ih ⟨putL s.ts o.dst undef, s.H, s.log⟩ s' h hl
    · cases h

theorem evTrace_log (hclog : CallLog call) {H0 : Heap} {ops : Array Oper} : ∀ (l : List Oper) (ts : List Value) (H : Heap) (recs : List Rec) (H' : Heap), evTrace P G ok call ops l ts H = some (recs, H') → ∀ log : List Nat, LogOk H0 H log → LogOk H0 H' (recs.foldl (fun l r => addLog H0.n r.log l) log) := by
  intro l
  induction l with
  | nil => intro ts H recs H' h log hl; simp only [evTrace, Option.some.injEq, Prod.mk.injEq] at h; obtain ⟨rfl, rfl⟩ := h; exact hl
  | cons o r ih =>
    intro ts H recs H' h log hl
    simp only [evTrace] at h
    split at h
    · split at h
      · rename_i c v H1 lg hev
        split at h
        · rename_i rs H2 htr
          cases h
          simp only [List.foldl_cons]
          exact ih _ _ _ _ htr _ (hl.add (evOp_log hclog hev))
        · cases h
      · cases h
    · split at h
      · rename_i rs H2 htr
        cases h
        simp only [List.foldl_cons]
        have e : addLog H0.n [] log = log := rfl
        rw [e]
        exact ih _ _ _ _ htr _ hl
      · cases h
    · cases h

def RunLog (H0 : Heap) (run : St → Option (Ex × St)) : Prop := ∀ s e s', run s = some (e, s') → LogOk H0 s.H s.log → LogOk H0 s'.H s'.log

theorem clean_log {H0 : Heap} {sb : Nat} {keep : List Nat} {s : St} (h : LogOk H0 s.H s.log) : LogOk H0 (cleanSt H0.n sb keep s).H (cleanSt H0.n sb keep s).log :=
  gc_log (vals := cleanTs sb keep s.ts) h rfl

theorem RunLog.loop {H0 : Heap} {body : St → Option (Ex × St)} (hb : RunLog H0 body) (sb : Nat) (keep : List Nat) : ∀ n, RunLog H0 (evLoop body (cleanSt H0.n sb keep) n) := by
  intro n
  induction n with
  | zero => intro s e s' h; cases h
  | succ n ih =>
    intro s e s' h hl
    simp only [evLoop] at h
    split at h
    · rename_i s1 h1
      exact ih _ _ _ h (hb _ _ _ h1 (clean_log hl))
    · exact hb _ _ _ h (clean_log hl)

theorem evCode_log (hclog : CallLog call) (H0 : Heap) (sb lf : Nat) : ∀ c : Code, RunLog H0 (evCode P G ok call H0.n sb lf c) := by
  intro c
  induction c with
  | region id ops d =>
    intro s e s' h hl
    simp only [evCode, Option.map_eq_some_iff, Prod.mk.injEq] at h
    obtain ⟨s1, h1, rfl, rfl⟩ := h
    cases d with
    | true =>
      simp only [if_true] at h1
      unfold evDraw at h1
      split at h1
      · rename_i recs H' htr
        split at h1
        · cases h1; exact evTrace_log hclog _ _ _ _ _ htr _ hl
        · cases h1
      · cases h1
    | false =>
      simp only [Bool.false_eq_true, if_false] at h1
      exact evOps_log hclog _ _ _ h1 hl
  | seq x y ihx ihy =>
    intro s e s' h hl
    simp only [evCode] at h
    split at h
    · rename_i s1 h1
      exact ihy _ _ _ h (ihx _ _ _ h1 hl)
    · exact ihx _ _ _ h hl
  | cond c x y ihx ihy =>
    intro s e s' h hl
    simp only [evCode] at h
    split at h
    · exact ihx _ _ _ h hl
    · exact ihy _ _ _ h hl
    · cases h
  | block id b ih =>
    intro s e s' h hl
    simp only [evCode] at h
    split at h
    · rename_i id' s1 h1
      simp only [Option.some.injEq, Prod.mk.injEq] at h
      obtain ⟨_, rfl⟩ := h
      exact ih _ _ _ h1 hl
    · exact ih _ _ _ h hl
  | loop b ih =>
    intro s e s' h hl
    simp only [evCode] at h
    exact RunLog.loop ih sb _ lf _ _ _ h hl
  | scope b ih =>
    intro s e s' h hl
    simp only [evCode] at h
    exact ih _ _ _ h hl
  | rangeFunc f ps x y _ _ => intro s e s' h; cases h
  | goto l => intro s e s' h; cases h
  | refuse y => intro s e s' h; cases h
  | _ =>
    intro s e s' h hl
    simp only [evCode, Option.some.injEq, Prod.mk.injEq] at h
    obtain ⟨rfl, rfl⟩ := h
    exact hl

/-! ### code -/
/-- Code from where it stands, round a loop. -/
def LoopFrom (P : Program) (c : Code) (Q : Exit → Act → World → Prop) (a : Act) (w : World) : Prop :=
  ∀ (b : Frame) (k : List Item) (cs : List Frame), ∃ e a' w', Q e a' w' ∧ Arrives P (lone (b.at a (.code c :: .inLoop c :: k)) cs w) b k cs e a' w'

theorem loop_from {c : Code} {Q : Exit → Act → World → Prop} {a : Act} {w : World} (h : LoopFrom P c Q a w) : (Code.loop c).wp P Q a w := by
  intro b k cs
  obtain ⟨e, a', w', hq, harr⟩ := h b k cs
  exact ⟨e, a', w', hq, .of_steps (.one step_loop) harr⟩
theorem from_wp {c : Code} {Q : Exit → Act → World → Prop} {a : Act} {w : World} (h : c.wp P (Exit.then (LoopFrom P c Q) Q) a w) : LoopFrom P c Q a w := by
  intro b k cs
  obtain ⟨e, a₁, w₁, hq, harr⟩ := h b (.inLoop c :: k) cs
  cases e with
  | normal =>
    obtain ⟨e₂, a₂, w₂, hq₂, harr₂⟩ := hq b k cs
    exact ⟨e₂, a₂, w₂, hq₂, .of_steps (Steps.trans harr (.one step_inLoop)) harr₂⟩
  | exit id => exact ⟨_, a₁, w₁, hq, .pass (x := .inLoop c) rfl (fun _ _ => .inl (by simp)) harr⟩
  | goto l => exact ⟨_, a₁, w₁, hq, .pass (x := .inLoop c) rfl (fun _ _ => .inl (by simp)) harr⟩
  | ret => exact ⟨_, a₁, w₁, hq, .pass (x := .inLoop c) rfl (fun _ _ => .inl (by simp)) harr⟩
  | panic ch => exact ⟨_, a₁, w₁, hq, .pass (x := .inLoop c) rfl (fun _ _ => .inl (by simp)) harr⟩
  | outgrown => exact ⟨_, a₁, w₁, hq, .pass (x := .inLoop c) rfl (fun _ _ => .inl (by simp)) harr⟩

/-- Code is met by an abstract run, from an entry (M0, H0, w0) on. -/
def CodeOk (P : Program) (G N : Nat) (M0 : Emb) (H0 : Heap) (w0 : World) (c : Code) (run : St → Option (Ex × St)) : Prop :=
  ∀ (s : St) (e : Ex) (s' : St), run s = some (e, s') → ∀ (M : Emb) (a : Act) (w : World) (Q : Exit → Act → World → Prop), Stp N M0 H0 w0 M s.H w → LogOk H0 s.H s.log → TRel M s.ts a.tmps.toList →
    (∀ M' a' w', Stp N M0 H0 w0 M' s'.H w' → TRel M' s'.ts a'.tmps.toList → a'.defers = a.defers → Q (exOf e) a' w') → c.wp P Q a w

theorem TRel.clean {M : Emb} {sb : Nat} {keep : List Nat} {ts l : List Value} (h : TRel M ts l) : TRel M (cleanTs sb keep ts) l := by
  refine ⟨by simp [cleanTs, h.1], fun i v v' h1 h2 h3 => ?_⟩
  unfold cleanTs at h1
  rw [List.getElem?_map, List.getElem?_zipIdx] at h1
  cases hu : ts[i]? with
  | none => rw [hu] at h1; simp at h1
  | some u =>
    rw [hu] at h1
    simp only [Option.map_some, Option.some.injEq] at h1
    split at h1
    · subst h1; exact h.2 i u v' hu h2 h3
    · subst h1; simp [junk, isJunk] at h3

section
variable {M0 : Emb} {H0 : Heap} {w0 : World} (hr0 : HRel M0 N H0 w0) (hg0 : Globs G M0)

theorem loop_ok (hr0 : HRel M0 N H0 w0) {c : Code} {body : St → Option (Ex × St)} (hb : CodeOk P G N M0 H0 w0 c body) (hlog : RunLog H0 body) (sb : Nat) (keep : List Nat) : ∀ n, ∀ (s : St) (e : Ex) (s' : St), evLoop body (cleanSt H0.n sb keep) n s = some (e, s') →
    ∀ (M : Emb) (a : Act) (w : World) (Q : Exit → Act → World → Prop), Stp N M0 H0 w0 M s.H w → LogOk H0 s.H s.log → TRel M s.ts a.tmps.toList →
    (∀ M' a' w', Stp N M0 H0 w0 M' s'.H w' → TRel M' s'.ts a'.tmps.toList → a'.defers = a.defers → Q (exOf e) a' w') → LoopFrom P c Q a w := by
  intro n
  induction n with
  | zero => intro s e s' h; cases h
  | succ n ih =>
    intro s e s' h M a w Q hs hl hts hq
    obtain ⟨Mc, hsc, _, htc⟩ := gc_sound (vals := cleanTs sb keep s.ts) hr0 hs hl rfl
    have htc' : TRel Mc (cleanSt H0.n sb keep s).ts a.tmps.toList := htc _ hts.clean
    have hsc' : Stp N M0 H0 w0 Mc (cleanSt H0.n sb keep s).H w := hsc
    simp only [evLoop] at h
    split at h
    · rename_i s1 hs1
      refine from_wp (hb _ .normal s1 hs1 Mc a w _ hsc' (clean_log hl) htc' ?_)
      intro M1 a1 w1 hst hts1 hd1
      refine ih s1 e s' h M1 a1 w1 Q hst (hlog _ _ _ hs1 (clean_log hl)) hts1 ?_
      intro M2 a2 w2 hst2 hts2 hd2
      exact hq M2 a2 w2 hst2 hts2 (hd2.trans hd1)
    · rename_i hne
      refine from_wp (hb _ e s' h Mc a w _ hsc' (clean_log hl) htc' ?_)
      intro M1 a1 w1 hst hts1 hd1
      have := hq M1 a1 w1 hst hts1 hd1
      cases e with
      | normal => exact absurd h (by intro h'; exact hne s' h')
      | exit id => exact this
      | ret => exact this

theorem evCode_ok (hr0 : HRel M0 N H0 w0) (hg0 : Globs G M0) (hm : P.follows .mixedOrders = true) (hok : BodiesOk P ok) (hcall : CallOk P G call) (hclog : CallLog call) (sb lf : Nat) : ∀ c : Code, CodeOk P G N M0 H0 w0 c (evCode P G ok call H0.n sb lf c) := by
  intro c
  induction c with
  | skip =>
    intro s e s' h M a w Q hs hl hts hq
    simp only [evCode, Option.some.injEq, Prod.mk.injEq] at h
    obtain ⟨rfl, rfl⟩ := h
    exact wp_skip (hq M a w hs hts rfl)
  | region id ops d =>
    intro s e s' h M a w Q hs hl hts hq
    simp only [evCode, Option.map_eq_some_iff, Prod.mk.injEq] at h
    obtain ⟨s1, h1, rfl, rfl⟩ := h
    have hq' : ∀ M' a' w', Stp N M s.H w M' s1.H w' → TRel M' s1.ts a'.tmps.toList → a'.defers = a.defers → Q .normal a' w' := fun M' a' w' h1 h2 h3 => hq M' a' w' (hs.trans h1) h2 h3
    cases d with
    | true =>
      simp only [if_true] at h1
      exact evDraw_sound hm hok hcall hclog (hg0.mono hs.le) hs.rel hts h1 hq'
    | false =>
      simp only [Bool.false_eq_true, if_false] at h1
      refine wp_region (evOps_sound (N := N) hok hcall ops.toList (List.range ops.size) ?_ (by simp) s s1 M a w (hg0.mono hs.le) hs.rel hts h1 hq')
      intro j
      rcases Nat.lt_or_ge j ops.size with h0 | h0
      · rw [List.getElem?_range h0]; simp
      · rw [List.getElem?_eq_none (by simpa using h0), List.getElem?_eq_none (by simpa using h0)]; rfl
  | seq x y ihx ihy =>
    intro s e s' h M a w Q hs hl hts hq
    simp only [evCode] at h
    split at h
    · rename_i s1 h1
      refine wp_seq (ihx s .normal s1 h1 M a w _ hs hl hts ?_)
      intro M1 a1 w1 hst hts1 hd1
      refine ihy s1 e s' h M1 a1 w1 Q hst (evCode_log hclog H0 sb lf x _ _ _ h1 hl) hts1 ?_
      intro M2 a2 w2 hst2 hts2 hd2
      exact hq M2 a2 w2 hst2 hts2 (hd2.trans hd1)
    · rename_i hne
      refine wp_seq (ihx s e s' h M a w _ hs hl hts ?_)
      intro M1 a1 w1 hst hts1 hd1
      have := hq M1 a1 w1 hst hts1 hd1
      cases e with
      | normal => exact absurd h (by intro h'; exact hne s' h')
      | exit id => exact this
      | ret => exact this
  | cond c x y ihx ihy =>
    intro s e s' h M a w Q hs hl hts hq
    simp only [evCode] at h
    split at h
    · rename_i hc
      exact wp_cond_true ((rd_sound (hg0.mono hs.le) hts hc).bool_inv) (ihx s e s' h M a w Q hs hl hts hq)
    · rename_i hc
      exact wp_cond_false ((rd_sound (hg0.mono hs.le) hts hc).bool_inv) (ihy s e s' h M a w Q hs hl hts hq)
    · cases h
  | block id b ih =>
    intro s e s' h M a w Q hs hl hts hq
    simp only [evCode] at h
    refine wp_block ?_
    split at h
    · rename_i id' s1 h1
      simp only [Option.some.injEq, Prod.mk.injEq] at h
      obtain ⟨he, rfl⟩ := h
      refine ih s (.exit id') s1 h1 M a w _ hs hl hts ?_
      intro M1 a1 w1 hst hts1 hd1
      have := hq M1 a1 w1 hst hts1 hd1
      show if id' = id then Q .normal a1 w1 else Q (.exit id') a1 w1
      rw [← he] at this
      split
      · rename_i heq; rw [if_pos heq] at this; exact this
      · rename_i heq; rw [if_neg heq] at this; exact this
    · rename_i hne
      refine ih s e s' h M a w _ hs hl hts ?_
      intro M1 a1 w1 hst hts1 hd1
      have := hq M1 a1 w1 hst hts1 hd1
      cases e with
      | normal => exact this
      | exit id' => exact absurd h (by intro h'; exact hne id' s' h')
      | ret => exact this
  | loop b ih =>
    intro s e s' h M a w Q hs hl hts hq
    simp only [evCode] at h
    exact loop_from (loop_ok hr0 ih (evCode_log hclog H0 sb lf b) sb _ lf s e s' h M a w Q hs hl hts hq)
  | rangeFunc f ps x y _ _ => intro s e s' h; cases h
  | exit id =>
    intro s e s' h M a w Q hs hl hts hq
    simp only [evCode, Option.some.injEq, Prod.mk.injEq] at h
    obtain ⟨rfl, rfl⟩ := h
    exact wp_exit (hq M a w hs hts rfl)
  | scope b ih =>
    intro s e s' h M a w Q hs hl hts hq
    simp only [evCode] at h
    refine wp_scope_straight (ih s e s' h M a w _ hs hl hts ?_)
    intro M1 a1 w1 hst hts1 hd1
    have := hq M1 a1 w1 hst hts1 hd1
    cases e <;> exact this
  | label l =>
    intro s e s' h M a w Q hs hl hts hq
    simp only [evCode, Option.some.injEq, Prod.mk.injEq] at h
    obtain ⟨rfl, rfl⟩ := h
    exact wp_label (hq M a w hs hts rfl)
  | goto l => intro s e s' h; cases h
  | ret =>
    intro s e s' h M a w Q hs hl hts hq
    simp only [evCode, Option.some.injEq, Prod.mk.injEq] at h
    obtain ⟨rfl, rfl⟩ := h
    exact wp_ret (hq M a w hs hts rfl)
  | refuse y => intro s e s' h; cases h
end

/-! ### calls -/
/-- One result, as the model reads it. -/
def resSem (tmps : Array Value) (r : ResultVar) : Sem Value :=
  match r with
  | .tmp t => pure (tmps.getD t undef)
  | .cell a t => do loadVar t (← asAddr (tmps.getD a undef))

theorem evResults_sound {M : Emb} {H : Heap} {w : World} {ts : List Value} {a : Act} (hr : HRel M N H w) (hts : TRel M ts a.tmps.toList) : ∀ (rs : List ResultVar) (l : List Value), evResults P ts H rs = some l →
    ∃ l', LRel M l l' ∧ (rs.mapM (resSem a.tmps)).run P w = .ok l' w := by
  have slot : ∀ t v, rd 0 ts (.tmp t) = some v → VRel M v (a.tmps.getD t undef) := fun t v hv => rd_sound (G := 0) (ts := ts) (a := a) (x := .tmp t) (fun g h => by omega) hts hv
  have step : ∀ (r : ResultVar) (rs : List ResultVar) (v' : Value) (l' : List Value), (resSem a.tmps r).run P w = .ok v' w → (rs.mapM (resSem a.tmps)).run P w = .ok l' w → ((r :: rs).mapM (resSem a.tmps)).run P w = .ok (v' :: l') w := by
    intro r rs v' l' h1 h2
    rw [List.mapM_cons]
    simp only [Sem.run_bind, h1, Result.andThen_ok, h2, Sem.run_pure]
  intro rs
  induction rs with
  | nil => intro l h; cases h; exact ⟨[], LRel.nil, rfl⟩
  | cons r rs ih =>
    intro l h
    cases r with
    | tmp t =>
      simp only [evResults] at h
      split at h
      · rename_i v l1 hv h1
        cases h
        obtain ⟨l', g1, g2⟩ := ih l1 h1
        exact ⟨_ :: l', LRel.cons (slot t v hv) g1, step _ _ _ _ rfl g2⟩
      · cases h
    | cell x t =>
      simp only [evResults] at h
      split at h
      rotate_left
      · cases h
      rename_i k off l1 hx h1
      obtain ⟨l', g1, g2⟩ := ih l1 h1
      have hs := slot x _ hx
      obtain ⟨b, o, sp, hM, ev⟩ := hs.ptr_inv
      split at h
      · rename_i hagg
        split at h
        · rename_i n hn
          rw [Option.map_eq_some_iff] at h
          obtain ⟨cs, hcs, rfl⟩ := h
          obtain ⟨cs', q1, q2, q3⟩ := read_run (P := P) hr hcs hM
          refine ⟨.agg cs'.toArray :: l', LRel.cons (.agg q1.toArray.1 q1.toArray.2) g1, step _ _ _ _ ?_ g2⟩
          simp only [resSem, Sem.run_bind, ev, asAddr, Sem.run_pure, Result.andThen_ok, loadVar, run_of_eval0 hagg, if_true, run_of_eval0 hn, q3]
        · cases h
      · rename_i hagg
        split at h
        · rename_i u hu
          cases h
          obtain ⟨cs', q1, q2, q3⟩ := hr.read hu hM
          obtain ⟨u', r', rfl, q4, q5⟩ := q1.cons_inv
          have hc := q3 0 u' rfl
          simp only [Nat.add_zero] at hc
          refine ⟨u' :: l', LRel.cons q4 g1, step _ _ _ _ ?_ g2⟩
          simp only [resSem, Sem.run_bind, ev, asAddr, Sem.run_pure, Result.andThen_ok, loadVar, run_of_eval0 hagg, Bool.false_eq_true, if_false, run_load, hc]
        · cases h
      · cases h

theorem resVal_rel {M : Emb} {l l' : List Value} (h : LRel M l l') : VRel M (resVal l) (if h : l'.toArray.size = 1 then l'.toArray[0] else .tuple l'.toArray) := by
  cases l with
  | nil => obtain rfl := h.nil_inv; exact .tuple rfl (fun i u u' h => by simp at h)
  | cons u r =>
    obtain ⟨u', r', rfl, h1, h2⟩ := h.cons_inv
    cases r with
    | nil => obtain rfl := h2.nil_inv; exact h1
    | cons u2 r2 =>
      obtain ⟨u2', r2', rfl, h3, h4⟩ := h2.cons_inv
      rw [dif_neg (by simp)]
      exact .tuple h.toArray.1 h.toArray.2

theorem evCall_ok (hm : P.follows .mixedOrders = true) (hok : BodiesOk P ok) {over : Ev} (hover : CallOk P G over) (hoverl : CallLog over) (sb : List Nat) (lf : Nat) : ∀ n, CallOk P G (evCall P G ok over sb lf n) ∧ CallLog (evCall P G ok over sb lf n) := by
  intro n
  induction n with
  | zero => exact ⟨fun f args H v H' log h => (by cases h), fun f args H v H' log h => (by cases h)⟩
  | succ n ih =>
    obtain ⟨ihc, ihl⟩ := ih
    -- what both want
    have parts : ∀ f args H v H' log, evCall P G ok over sb lf (n + 1) f args H = some (v, H', log) → over f args H = some (v, H', log) ∨ ∃ fn c ex s l l2, P.funcs[f]? = some fn ∧ fn.body = some c ∧
        evCode P G ok (evCall P G ok over sb lf n) H.n (sb.getD f 0) lf c ⟨args ++ List.replicate (fn.ntmps - args.length) undef, H, []⟩ = some (ex, s) ∧ (ex = .normal ∨ ex = .ret) ∧ evResults P s.ts s.H fn.results.toList = some l ∧
        gcAt H.n l s.log s.H = (l2, H') ∧ v = resVal l2 ∧ log = s.log := by
      intro f args H v H' log h
      simp only [evCall] at h
      split at h
      · rename_i r hr; left; rw [hr]; exact h
      · right
        split at h
        · rename_i fn hfn
          split at h
          · rename_i c hc
            split at h
            · rename_i ex s hrun
              split at h
              · cases h
              · rename_i hne
                split at h
                · rename_i l hl
                  simp only [Option.some.injEq, Prod.mk.injEq] at h
                  obtain ⟨rfl, rfl, rfl⟩ := h
                  refine ⟨fn, c, ex, s, l, _, hfn, hc, hrun, ?_, hl, rfl, rfl, rfl⟩
                  cases ex with
                  | normal => exact .inl rfl
                  | ret => exact .inr rfl
                  | exit id => exact absurd rfl (hne id)
                · cases h
            · cases h
          · cases h
        · cases h
    constructor
    · intro f args H v H' log h N M w args' hg hr hargs
      rcases parts f args H v H' log h with ho | ⟨fn, c, ex, s, l, l2, hfn, hc, hrun, hex, hl, hgc, rfl, rfl⟩
      · exact hover f args H v H' log ho N M w args' hg hr hargs
      refine calls_of_wp hfn hc ?_
      have hts : LRel M (args ++ List.replicate (fn.ntmps - args.length) undef) (args' ++ Array.replicate (fn.ntmps - args'.size) undef).toList := by
        have hsz : args.length = args'.size := by rw [hargs.1]; simp
        rw [Array.toList_append, Array.toList_replicate, ← hsz]
        exact hargs.append ⟨by simp, fun i u u' h1 h2 => by
          simp only [List.getElem?_replicate, Option.ite_none_right_eq_some, Option.some.injEq] at h1 h2
          obtain ⟨_, rfl⟩ := h1
          obtain ⟨_, rfl⟩ := h2
          exact vrel_undef⟩
      refine evCode_ok hr hg hm hok ihc ihl (sb.getD f 0) lf c _ ex s hrun M { tmps := args' ++ Array.replicate (fn.ntmps - args'.size) undef, defers := [] } w _ (Stp.refl hr) (LogOk.same _ _) (TRel.of_l hts) ?_
      intro M1 a1 w1 hst hts1 hd1
      obtain ⟨l', q1, q2⟩ := evResults_sound (P := P) hst.rel hts1 fn.results.toList l hl
      have hres : (results fn a1.tmps).run P w1 = .ok (if h : l'.toArray.size = 1 then l'.toArray[0] else .tuple l'.toArray) w1 := by
        have er : (fn.results.mapM (resSem a1.tmps)).run P w1 = .ok l'.toArray w1 := by
          rw [Array.mapM_eq_mapM_toList, Sem.run_map, q2]; rfl
        have e2 : results fn a1.tmps = (fn.results.mapM (resSem a1.tmps) >>= fun vs => pure (if h : vs.size = 1 then vs[0] else .tuple vs)) := by
          unfold results
          congr 1
        rw [e2, Sem.run_bind, er]
        rfl
      have hlog := evCode_log (P := P) (G := G) (ok := ok) ihl H (sb.getD f 0) lf c _ _ _ hrun (LogOk.same _ _)
      obtain ⟨M2, hs2, hl2, _⟩ := gc_sound hr hst hlog hgc
      have hv2 := resVal_rel (hl2 l' q1)
      have hfin : bodyPost P fn (fun e w' => ∃ M' v', e = .returned v' ∧ VRel M' (resVal l2) v' ∧ Stp N M H w M' H' w') .ret a1 w1 :=
        ⟨hd1, _, hres, M2, _, rfl, hv2, hs2⟩
      rcases hex with rfl | rfl
      · exact hfin
      · exact hfin
    · intro f args H v H' log h
      rcases parts f args H v H' log h with ho | ⟨fn, c, ex, s, l, l2, hfn, hc, hrun, hex, hl, hgc, rfl, rfl⟩
      · exact hoverl f args H v H' log ho
      · exact gc_log (evCode_log (P := P) (G := G) (ok := ok) ihl H (sb.getD f 0) lf c _ _ _ hrun (LogOk.same _ _)) hgc

theorem noOver_ok : CallOk P G noOver ∧ CallLog noOver := ⟨fun f args H v H' log h => (by cases h), fun f args H v H' log h => (by cases h)⟩

end
end Go.Dg
