/- The abstract run of code and of calls is sound. -/
import Derived.Test.YtmnoegfehgoalaaGreatDoorDgFloat
import Derived.RangeFuncRecord
namespace Go.Dg
set_option linter.unusedVariables false
set_option linter.unusedSimpArgs false
theorem fold_all : ∀ (l : List (Oper × Rec)) (i : Nat) (ts : List Value), l.foldl (fun ts (x : Oper × Rec) => putL ts x.1.dst x.2.v) ts = TSgo (fun _ => true) l i ts := by
  intro l
  induction l with
  | nil => intro i ts; rfl
  | cons x l ih => intro i ts; obtain ⟨o, r⟩ := x; simp only [List.foldl_cons, TSgo, if_true]; exact ih (i + 1) _
section
variable {P : Program} {G N : Nat} {ok : List Bool} {call : Ev}
/-- What a piece of code leaves. -/
def exOf : Ex → Exit
  | .normal => .normal
  | .exit id => .exit id
  | .ret => .ret
theorem mem_addLog {base : Nat} : ∀ (lg log : List Nat) (k : Nat), k < base → (k ∈ addLog base lg log ↔ k ∈ lg ∨ k ∈ log) := by
  intro lg
  induction lg with
  | nil => intro log k _; simp [addLog]
  | cons j r ih =>
    intro log k hk
    have e : addLog base (j :: r) log = if j < base && !(addLog base r log).contains j then j :: addLog base r log else addLog base r log := rfl
    rw [e]
    have := ih log k hk
    split
    · simp only [List.mem_cons, this]
      constructor
      · rintro (rfl | h | h)
        · exact .inl (.inl rfl)
        · exact .inl (.inr h)
        · exact .inr h
      · rintro ((rfl | h) | h)
        · exact .inl rfl
        · exact .inr (.inl h)
        · exact .inr (.inr h)
    · rename_i hc
      simp only [List.mem_cons, this]
      constructor
      · rintro (h | h)
        · exact .inl (.inr h)
        · exact .inr h
      · rintro ((rfl | h) | h)
        · rw [← this]
          simp only [Bool.and_eq_true, decide_eq_true_eq, Bool.not_eq_true', not_and] at hc
          have h2 := hc hk
          have h3 : (addLog base r log).contains k = true := by
            cases hcc : (addLog base r log).contains k with
            | true => rfl
            | false => exact absurd hcc h2
          simpa using h3
        · exact .inl h
        · exact .inr h
theorem LogOk.add {H0 H H' : Heap} {lg log : List Nat} (h : LogOk H0 H log) (k : LogOk H H' lg) : LogOk H0 H' (addLog H0.n lg log) := fun hl => by
  obtain ⟨a1, a2, a3⟩ := h hl
  obtain ⟨b1, b2, b3⟩ := k a1
  refine ⟨b1, Nat.le_trans a2 b2, fun j hj hn => ?_⟩
  rw [mem_addLog lg log j hj, not_or] at hn
  rw [b3 j (Nat.lt_of_lt_of_le hj a2) hn.1, a3 j hj hn.2]
theorem evTrace_n (hclog : CallLog call) {ops : Array Oper} : ∀ (l : List Oper) (ts : List Value) (H : Heap) (recs : List Rec) (H' : Heap), evTrace P G ok call ops l ts H = some (recs, H') → H.objs.length = H.n → H'.objs.length = H'.n ∧ H.n ≤ H'.n := by
  intro l
  induction l with
  | nil => intro ts H recs H' h hl; simp only [evTrace, Option.some.injEq, Prod.mk.injEq] at h; obtain ⟨_, rfl⟩ := h; exact ⟨hl, Nat.le_refl _⟩
  | cons o r ih =>
    intro ts H recs H' h hl
    simp only [evTrace] at h
    split at h
    · split at h
      · rename_i c v H1 lg hev
        split at h
        · rename_i rs H2 htr
          cases h
          have h1 := evOp_log hclog hev hl
          have h2 := ih _ _ _ _ htr h1.1
          exact ⟨h2.1, Nat.le_trans h1.2.1 h2.2⟩
        · cases h
      · cases h
    · split at h
      · rename_i rs H2 htr
        cases h
        exact ih _ _ _ _ htr hl
      · cases h
    · cases h
theorem evDraw_sound {rd : Option Nat} (hm : P.follows .mixedOrders = true) (hok : BodiesOk P ok) (hcall : CallOk P G call) (hy : YieldOk P G call) (hclog : CallLog call) {base id : Nat} {ops : Array Oper} {Q : Exit → Act → World → Prop} {s s' : St} {M : Emb} {a : Act} {w : World}
    (hg : Globs G M) (hr : HRel M N s.H w) (hts : TRel M s.ts a.tmps.toList) (h : evDraw P G ok call base ops s = some s')
    (hq : ∀ M' a' w', Stp N M s.H w M' s'.H w' → TRel M' s'.ts a'.tmps.toList → a'.defers = a.defers → Q .normal a' w') : (Code.region id ops true).wpIn (FR rd) 0 P Q a w := by
  unfold evDraw at h
  split at h
  rotate_left
  · cases h
  rename_i recs H' htr
  split at h
  rotate_left
  · cases h
  rename_i hdr
  cases h
  have hd := Stp.drew hr (w.drawn + 1)
  refine wpIn_region_any hm ?_
  obtain ⟨hlen, hT0, hfacts⟩ := trace_facts ops.toList s.ts s.H recs H' 0 (fun _ => false) htr (fun _ _ => rfl)
  have hf : ∀ i, (Array.replicate ops.size false).getD i false = false := by
    intro i
    simp only [Array.getD_eq_getD_getElem?, Array.getElem?_replicate]
    split <;> rfl
  have hts0 : ∀ (l : List (Oper × Rec)) (i : Nat) (ts : List Value), TSgo (fun i => (Array.replicate ops.size false).getD i false) l i ts = ts := by
    intro l
    induction l with
    | nil => intro i ts; rfl
    | cons x l ih => intro i ts; obtain ⟨o, r⟩ := x; rw [TSgo, if_neg (by rw [hf]; decide)]; exact ih _ _
  have hunl : ∀ n, unl (fun i => (Array.replicate ops.size false).getD i false) n ≤ n := by
    intro n
    induction n with
    | zero => exact Nat.le_refl _
    | succ n ih => simp only [unl]; split <;> omega
  have hq' : ∀ M' a' w', Stp N M s.H w M' H' w' → TRel M' (TSgo (fun _ => true) (ops.toList.zip recs) 0 s.ts) a'.tmps.toList → a'.defers = a.defers → Q .normal a' w' := by
    intro M' a' w' hs hts' hd'
    refine hq M' a' w' hs ?_ hd'
    rw [← fold_all] at hts'
    exact hts'
  rcases Bool.or_eq_true_iff.1 hdr with hdr | hdr
  · have F := drawOk_facts hdr
    refine draw_any (N := N) hok hcall hy hclog htr F (M0 := M) (w0 := w) (a0 := a) hg hr.len hq' ops.size _ M a _ 0 (by simp) (hunl _) ?_ ?_ ?_ ?_ rfl
    · intro i o _ hi; exact absurd (hi.symm.trans (hf i)) (by decide)
    · intro i r _ _; rw [hf]; simp
    · rw [hT0]; exact hd
    · rw [hts0]; exact hts
  · have F := floatOk_facts hdr
    have hn : s.H.n ≤ H'.n := (evTrace_n hclog ops.toList s.ts s.H recs H' htr hr.len).2
    refine draw_float (N := N) hok hcall hy hclog htr F (M0 := M) (w0 := w) (a0 := a) hg hr hr.len hq' ops.size _ M a _ 0 (padTo s.H H'.n) (by simp) (hunl _) ?_ ?_ ?_ ?_ ?_ rfl
    · intro i o _ hi; exact absurd (hi.symm.trans (hf i)) (by decide)
    · intro i r _ _ _ _ _; rw [hf]; simp
    · intro i r _ _ _ _ _ h; omega
    · have hgp := padTo_get hr.len hn
      refine ⟨padTo_len hr.len hn, rfl, ?_, ?_, ?_, ?_, hd.toStw.trans (Stw.pad hd.rel (padTo_len hr.len hn) hn hgp), fun k _ h => h⟩
      · intro k hk
        rw [hT0] at hk ⊢
        rw [hgp, if_pos hk]
      · intro j _ _ _ _ _ _ _ h
        have h' : (Array.replicate ops.size false).getD j false = true := h
        rw [hf] at h'; cases h'
      · intro k hk _
        rw [hT0] at hk
        refine ⟨by rw [hgp, if_neg (by omega)], ?_⟩
        cases hm2 : M k with
        | none => rfl
        | some x => have := hr.dom k x hm2; omega
      · intro k hk j hj
        rw [hT0] at hk hj ⊢
        cases hl : (s.H.get k).live with
        | true =>
          obtain ⟨b, oo, sp, q1, q2⟩ := hr.obj k hl
          obtain ⟨x, hx⟩ := ids_obj q2 j hj
          exact hr.dom j x hx
        | false =>
          cases hg2 : s.H.get k with
          | dead => rw [hg2] at hj; cases hj
          | cells _ _ _ _ => rw [hg2] at hl; cases hl
          | iter _ _ => rw [hg2] at hj; cases hj
          | loop _ => rw [hg2] at hl; cases hl
    · rw [hts0]; exact hts
/-! ### what is noted is all that was turned -/
theorem evOps_log (hclog : CallLog call) {H0 : Heap} {ops : Array Oper} : ∀ (l : List Oper) (s s' : St), evOps P G ok call H0.n ops l s = some s' → LogOk H0 s.H s.log → LogOk H0 s'.H s'.log := by
  intro l
  induction l with
  | nil => intro s s' h hl; simp only [evOps, Option.some.injEq] at h; subst h; exact hl
  | cons o r ih =>
    intro s s' h hl
    simp only [evOps] at h
    split at h
    · split at h
      · rename_i c v H1 lg hev
        exact ih _ _ h (hl.add (evOp_log hclog hev))
      · cases h
    · exact ih ⟨putL s.ts o.dst undef, s.H, s.log⟩ s' h hl
    · cases h
theorem evTrace_log (hclog : CallLog call) {H0 : Heap} {ops : Array Oper} : ∀ (l : List Oper) (ts : List Value) (H : Heap) (recs : List Rec) (H' : Heap), evTrace P G ok call ops l ts H = some (recs, H') → ∀ log : List Nat, LogOk H0 H log → LogOk H0 H' (recs.foldl (fun l r => addLog H0.n r.log l) log) := by
  intro l
  induction l with
  | nil => intro ts H recs H' h log hl; simp only [evTrace, Option.some.injEq, Prod.mk.injEq] at h; obtain ⟨rfl, rfl⟩ := h; exact hl
  | cons o r ih =>
    intro ts H recs H' h log hl
    simp only [evTrace] at h
    split at h
    · split at h
      · rename_i c v H1 lg hev
        split at h
        · rename_i rs H2 htr
          cases h
          simp only [List.foldl_cons]
          exact ih _ _ _ _ htr _ (hl.add (evOp_log hclog hev))
        · cases h
      · cases h
    · split at h
      · rename_i rs H2 htr
        cases h
        simp only [List.foldl_cons]
        have e : addLog H0.n [] log = log := rfl
        rw [e]
        exact ih _ _ _ _ htr _ hl
      · cases h
    · cases h
theorem after_log {H0 H2 : Heap} {k : Nat} {ts : List Value} {log : List Nat} {e : Ex} {s' : St} (h : afterRange k H0.n ts H2 log = some (e, s')) (hl : LogOk H0 H2 log) : LogOk H0 s'.H s'.log := by
  have key : ∀ o, LogOk H0 (H2.set k o) (addLog H0.n [k] log) := fun o => hl.add (LogOk.set _ _ _)
  unfold afterRange at h
  split at h
  rotate_left
  · cases h
  split at h
  · cases h
  split at h
  · simp only [Option.some.injEq, Prod.mk.injEq] at h; obtain ⟨rfl, rfl⟩ := h; exact key _
  · simp only [Option.some.injEq, Prod.mk.injEq] at h; obtain ⟨rfl, rfl⟩ := h; exact key _
  · simp only [Option.some.injEq, Prod.mk.injEq] at h; obtain ⟨rfl, rfl⟩ := h; exact key _
  · cases h
def RunLog (H0 : Heap) (run : St → Option (Ex × St)) : Prop := ∀ s e s', run s = some (e, s') → LogOk H0 s.H s.log → LogOk H0 s'.H s'.log
theorem clean_log {H0 : Heap} {sb : Nat} {keep : List Nat} {s : St} (h : LogOk H0 s.H s.log) : LogOk H0 (cleanSt H0.n sb keep s).H (cleanSt H0.n sb keep s).log :=
  gc_log (vals := cleanTs sb keep s.ts) h rfl
theorem RunLog.loop {H0 : Heap} {body : St → Option (Ex × St)} (hb : RunLog H0 body) (sb : Nat) (keep : List Nat) : ∀ n, RunLog H0 (evLoop body (cleanSt H0.n sb keep) n) := by
  intro n
  induction n with
  | zero => intro s e s' h; cases h
  | succ n ih =>
    intro s e s' h hl
    simp only [evLoop] at h
    split at h
    · rename_i s1 h1
      exact ih _ _ _ h (hb _ _ _ h1 (clean_log hl))
    · exact hb _ _ _ h (clean_log hl)
theorem evCode_log (hclog : CallLog call) (H0 : Heap) (sb lf : Nat) : ∀ (c : Code) (kp : List Nat), RunLog H0 (evCodeK P G ok call H0.n sb lf c kp) := by
  intro c
  induction c with
  | region id ops d =>
    intro kp s e s' h hl
    simp only [evCodeK, Option.map_eq_some_iff, Prod.mk.injEq] at h
    obtain ⟨s1, h1, rfl, rfl⟩ := h
    cases d with
    | true =>
      simp only [if_true] at h1
      unfold evDraw at h1
      split at h1
      · rename_i recs H' htr
        split at h1
        · cases h1; exact evTrace_log hclog _ _ _ _ _ htr _ hl
        · cases h1
      · cases h1
    | false =>
      simp only [Bool.false_eq_true, if_false] at h1
      exact evOps_log hclog _ _ _ h1 hl
  | seq x y ihx ihy =>
    intro kp s e s' h hl
    simp only [evCodeK] at h
    split at h
    · rename_i s1 h1
      exact ihy _ _ _ _ h (ihx _ _ _ _ h1 hl)
    · exact ihx _ _ _ _ h hl
  | cond c x y ihx ihy =>
    intro kp s e s' h hl
    simp only [evCodeK] at h
    split at h
    · exact ihx _ _ _ _ h hl
    · exact ihy _ _ _ _ h hl
    · cases h
  | block id b ih =>
    intro kp s e s' h hl
    simp only [evCodeK] at h
    split at h
    · rename_i id' s1 h1
      simp only [Option.some.injEq, Prod.mk.injEq] at h
      obtain ⟨_, rfl⟩ := h
      exact ih _ _ _ _ h1 hl
    · exact ih _ _ _ _ h hl
  | loop b ih =>
    intro kp s e s' h hl
    simp only [evCodeK] at h
    exact RunLog.loop (ih _) sb _ lf _ _ _ h hl
  | scope b ih =>
    intro kp s e s' h hl
    simp only [evCodeK] at h
    exact ih _ _ _ _ h hl
  | rangeFunc f ps x y _ _ =>
    intro kp s e s' h hl
    simp only [evCodeK] at h
    split at h
    rotate_left
    · cases h
    split at h
    rotate_left
    · cases h
    split at h
    rotate_left
    · cases h
    rename_i v H2 log2 hc
    have h1 : LogOk H0 (s.H.push (.loop ⟨sb, cleanTs sb (ue (.seq x y) [] []).1 s.ts, ps, x, y, .ready, none⟩)) s.log := hl.add (lg := []) (LogOk.push _ _ _)
    exact after_log h (h1.add (hclog _ _ _ _ _ _ hc))
  | goto l => intro kp s e s' h; cases h
  | refuse y => intro kp s e s' h; cases h
  | _ =>
    intro kp s e s' h hl
    simp only [evCodeK, Option.some.injEq, Prod.mk.injEq] at h
    obtain ⟨rfl, rfl⟩ := h
    exact hl
/-! ### code -/
/-- Code from where it stands, round a loop. -/
def LoopFrom (rd : Option Nat) (P : Program) (c : Code) (Q : Exit → Act → World → Prop) (a : Act) (w : World) : Prop :=
  ∀ (b : Frame) (k : List Item) (cs : List Frame), b.roundOf = rd → ∃ e a' w', Q e a' w' ∧ ArrivesIn (Machine.fenced P (FR rd)) P (lone (b.atR a (.code c :: .inLoop c :: k)) cs w) b k cs e a' w'
theorem FR_room (rd : Option Nat) (n : Nat) : (FR rd).room n := fun d hd => by simp [FR, Fence.wide] at hd
theorem loop_from {rd : Option Nat} {c : Code} {Q : Exit → Act → World → Prop} {a : Act} {w : World} (h : LoopFrom rd P c Q a w) : (Code.loop c).wpIn (FR rd) 0 P Q a w := by
  intro b k cs hro hb hr
  obtain ⟨e, a', w', hq, harr⟩ := h b k cs hro
  exact ⟨e, a', w', hq, .of_steps (.one (fenced_calm hb hr rfl) stepR_loop) harr⟩
theorem from_wp {rd : Option Nat} {c : Code} {Q : Exit → Act → World → Prop} {a : Act} {w : World} (h : c.wpIn (FR rd) 0 P (Exit.then (LoopFrom rd P c Q) Q) a w) : LoopFrom rd P c Q a w := by
  intro b k cs hro
  have hb : (FR rd).fn b.fn := True.intro
  have hr : (FR rd).room (cs.length + 1 + 0) := FR_room rd _
  obtain ⟨e, a₁, w₁, hq, harr⟩ := h b (.inLoop c :: k) cs hro hb hr
  cases e with
  | normal =>
    obtain ⟨e₂, a₂, w₂, hq₂, harr₂⟩ := hq b k cs hro
    exact ⟨e₂, a₂, w₂, hq₂, .of_steps (StepsIn.trans harr (.one (fenced_calm hb hr rfl) stepR_inLoop)) harr₂⟩
  | exit id => exact ⟨_, a₁, w₁, hq, .pass (x := .inLoop c) rfl (fun _ _ => .inl (by simp)) harr⟩
  | goto l => exact ⟨_, a₁, w₁, hq, .pass (x := .inLoop c) rfl (fun _ _ => .inl (by simp)) harr⟩
  | ret => exact ⟨_, a₁, w₁, hq, .pass (x := .inLoop c) rfl (fun _ _ => .inl (by simp)) harr⟩
  | panic ch => exact ⟨_, a₁, w₁, hq, .pass (x := .inLoop c) rfl (fun _ _ => .inl (by simp)) harr⟩
  | outgrown => exact ⟨_, a₁, w₁, hq, .pass (x := .inLoop c) rfl (fun _ _ => .inl (by simp)) harr⟩
theorem stepR_scope {P : Program} {b : Frame} {a : Act} {k : List Item} {cs : List Frame} {w : World} {c : Code} : step P (lone (b.atR a (.code (.scope c) :: k)) cs w) = .next (lone (b.atR a (.code c :: .inScope c :: k)) cs w) :=
  step_lone_go (by simp [stepG, stepG.exec, Frame.atR])
theorem stepR_inScope {P : Program} {b : Frame} {a : Act} {k : List Item} {cs : List Frame} {w : World} {c : Code} : step P (lone (b.atR a (.inScope c :: k)) cs w) = .next (lone (b.atR a k) cs w) :=
  step_lone_go (by simp [stepG, stepG.exec, Frame.atR])
theorem wpIn_scope_straight {F : Fence} {n : Nat} {P : Program} {Q : Exit → Act → World → Prop} {a : Act} {w : World} {c : Code} (h : c.wpIn F n P (Exit.noGoto Q) a w) : (Code.scope c).wpIn F n P Q a w := by
  intro b k cs hro hb hr
  obtain ⟨e, a₁, w₁, hq, harr⟩ := h b (.inScope c :: k) cs hro hb hr
  have s1 : StepsIn (Machine.fenced P F) P (lone (b.atR a (.code (.scope c) :: k)) cs w) (lone (b.atR a (.code c :: .inScope c :: k)) cs w) := .one (fenced_calm hb hr rfl) stepR_scope
  cases e with
  | normal => exact ⟨.normal, a₁, w₁, hq, StepsIn.trans s1 (StepsIn.trans harr (.one (fenced_calm hb hr rfl) stepR_inScope))⟩
  | exit id => exact ⟨.exit id, a₁, w₁, hq, .of_steps s1 ⟨fun k' hk => harr.1 k' (by simp [exitTo, hk]), fun hro hk => harr.2 hro (by simp [exitTo, hk])⟩⟩
  | goto l => exact hq.elim
  | ret => exact ⟨_, a₁, w₁, hq, .of_steps s1 harr⟩
  | panic ch => exact ⟨_, a₁, w₁, hq, .of_steps s1 harr⟩
  | outgrown => exact ⟨_, a₁, w₁, hq, .of_steps s1 harr⟩
/-! ### records -/
section
variable {M : Emb} {H : Heap} {w : World}
theorem loop_at (hr : HRel M N H w) {k b o sp : Nat} {r : ALoop} (hk : H.get k = .loop r) (hM : M k = some (b, o, sp)) :
    ∃ fn tmps D, w.heap[b]? = some (.loop { state := r.state, pending := r.pending, fn := fn, tmps := tmps, params := r.params, assign := r.assign, body := r.body, defers := D }) ∧ TRel M r.ts tmps.toList ∧ N ≤ b ∧ o = 0 := by
  obtain ⟨b', o', sp', h1, h2⟩ := hr.obj k (by rw [hk]; rfl)
  rw [hM] at h1
  cases h1
  rw [hk] at h2
  exact h2
theorem loop_turn (hr : HRel M N H w) {k b o sp : Nat} {r : ALoop} (hk : H.get k = .loop r) (hM : M k = some (b, o, sp)) {fn : FuncId} {tmps : Array Value} {D : Nat}
    (hw : w.heap[b]? = some (.loop { state := r.state, pending := r.pending, fn := fn, tmps := tmps, params := r.params, assign := r.assign, body := r.body, defers := D })) (ht : TRel M r.ts tmps.toList) (hN : N ≤ b) (ho : o = 0) (st : LoopState) (pe : Option Code) :
    Stp N M H w M (H.set k (.loop { r with state := st, pending := pe })) (w.putObj b (.loop { state := st, pending := pe, fn := fn, tmps := tmps, params := r.params, assign := r.assign, body := r.body, defers := D })) := by
  have hlt : b < w.heap.size := by
    rcases Nat.lt_or_ge b w.heap.size with h0 | h0
    · exact h0
    · rw [Array.getElem?_eq_none h0] at hw; cases hw
  exact Stp.turn hr (.loop { r with state := st, pending := pe }) (by rw [hk]; rfl) hM (fun _ => ⟨fn, tmps, D, World.putObj_heap_same hlt, ht, hN, ho⟩) (by simp) rfl rfl rfl (fun b' hb => World.putObj_heap_other hb)
end
/-! ### marks -/
/-- The marks of the loops over functions that were entered: blocks of their own, new, without deferred calls. -/
def MOk (w0 w : World) : List Deferred → Prop
  | [] => True
  | d :: ds => (∃ D, d.target = .collected D ∧ w0.heap.size ≤ D ∧ w.heap[D]? = some (.deferred (some [])) ∧ ∀ e ∈ ds, e.target ≠ .collected D) ∧ MOk w0 w ds
theorem no_deferred {M : Emb} {H : Heap} {w : World} (hr : HRel M N H w) {D : Nat} {x : Option (List Deferred)} (hD : w.heap[D]? = some (.deferred x)) {k o sp : Nat} (hk : (H.get k).live = true) : M k ≠ some (D, o, sp) := by
  intro hm
  obtain ⟨b, o1, sp1, h1, h2⟩ := hr.obj k hk
  rw [hm] at h1
  cases h1
  cases hg : H.get k with
  | dead => rw [hg] at hk; cases hk
  | cells cs elem md esz => rw [hg] at h2; obtain ⟨C, fz, h3, _⟩ := h2; rw [hD] at h3; cases h3
  | iter s pos => rw [hg] at h2; have h3 := h2.1; rw [hD] at h3; cases h3
  | loop r => rw [hg] at h2; obtain ⟨fn, tmps, D', h3, _⟩ := h2; rw [hD] at h3; cases h3
theorem MOk.step {w0 : World} {M M' : Emb} {H H' : Heap} {w w' : World} (hr : HRel M N H w) (h : Stp N M H w M' H' w') : ∀ ds, MOk w0 w ds → MOk w0 w' ds := by
  intro ds
  induction ds with
  | nil => intro _; trivial
  | cons d ds ih =>
    rintro ⟨⟨D, h1, h2, h3, h4⟩, h5⟩
    refine ⟨⟨D, h1, h2, ?_, h4⟩, ih h5⟩
    rw [h.frame D (Array.getElem?_eq_some_iff.1 h3).1 (fun k o sp ho => no_deferred hr h3 (AObj.live_of_owned ho))]
    exact h3
theorem Stp.shut {M0 M : Emb} {H0 H : Heap} {w0 w : World} (h : Stp N M0 H0 w0 M H w) {D : Nat} {x : Option (List Deferred)} (hD : w.heap[D]? = some (.deferred x)) (h0 : w0.heap.size ≤ D) (o : Obj) : Stp N M0 H0 w0 M H (w.putObj D o) := by
  refine ⟨⟨h.le, ⟨h.rel.len, h.rel.dom, fun k hk => ?_, h.rel.apart, by simpa using h.rel.base⟩, by simpa using h.size, h.os, h.tape, h.output, h.n, h.own, fun b hb hf => ?_⟩, h.nodead⟩
  · obtain ⟨b, o1, sp1, h1, h2⟩ := h.rel.obj k hk
    refine ⟨b, o1, sp1, h1, h2.block (World.putObj_heap_other ?_)⟩
    intro e
    exact no_deferred h.rel hD hk (e ▸ h1)
  · rw [World.putObj_heap_other (by omega)]; exact h.frame b hb hf
theorem Stp.allocOther {M : Emb} {H : Heap} {w : World} (hr : HRel M N H w) (O : Obj) : Stp N M H w M H (w.alloc O) := by
  have hold : ∀ b, b < w.heap.size → (w.alloc O).heap[b]? = w.heap[b]? := by
    intro b hb; simp only [World.alloc, Array.getElem?_push]; rw [if_neg (by omega)]
  refine ⟨⟨Emb.le_refl M, ⟨hr.len, hr.dom, fun k hk => ?_, hr.apart, by have := hr.base; simp; omega⟩, by simp, rfl, rfl, rfl, Nat.le_refl _, fun k b o sp ho hm => .inr ⟨k, o, sp, ho, hm⟩, fun b hb _ => hold b hb⟩, fun _ _ h => h⟩
  obtain ⟨b, o1, sp1, h1, h2⟩ := hr.obj k hk
  exact ⟨b, o1, sp1, h1, h2.block (hold b (h2.lt hk))⟩
/-- The marks are taken, one by one. -/
theorem leaves_marks {rd : Option Nat} {fn : Func} {tmps : Array Value} {R : Ending → World → Prop} {M0 M : Emb} {H0 H : Heap} {w0 : World} : ∀ (ds : List Deferred) (w : World), Stp N M0 H0 w0 M H w → MOk w0 w ds →
    (∀ wf, Stp N M0 H0 w0 M H wf → LeavesIn (FR rd) 0 P fn tmps R [] .returning wf) → LeavesInM (FR rd) 0 P fn tmps R ds .returning w := by
  intro ds
  induction ds with
  | nil => intro w hs _ h; exact h w hs
  | cons d ds ih =>
    rintro w hs ⟨⟨D, h1, h2, h3, h4⟩, h5⟩ h
    refine ⟨by simp, .inl ⟨D, _, h1, run_takeDeferred h3, ih _ (hs.shut h3 h2 _) ?_ h⟩⟩
    clear ih h
    induction ds with
    | nil => trivial
    | cons e es ih2 =>
      obtain ⟨⟨D2, g1, g2, g3, g4⟩, g5⟩ := h5
      refine ⟨⟨D2, g1, g2, ?_, g4⟩, ih2 g5 (fun e' he' => h4 e' (List.mem_cons_of_mem _ he'))⟩
      rw [World.putObj_heap_other]
      · exact g3
      · rintro rfl; exact h4 e (List.mem_cons_self ..) g1
/-- Code is met by an abstract run, from an entry (M0, H0, w0) on. -/
def CodeOk (rd : Option Nat) (P : Program) (G N : Nat) (M0 : Emb) (H0 : Heap) (w0 : World) (c : Code) (run : St → Option (Ex × St)) : Prop :=
  ∀ (s : St) (e : Ex) (s' : St), run s = some (e, s') → ∀ (M : Emb) (a : Act) (w : World) (Q : Exit → Act → World → Prop), Stp N M0 H0 w0 M s.H w → LogOk H0 s.H s.log → TRel M s.ts a.tmps.toList → MOk w0 w a.defers →
    (∀ M' a' w', Stp N M0 H0 w0 M' s'.H w' → TRel M' s'.ts a'.tmps.toList → MOk w0 w' a'.defers → Q (exOf e) a' w') → c.wpIn (FR rd) 0 P Q a w
theorem TRel.clean {M : Emb} {sb : Nat} {keep : List Nat} {ts l : List Value} (h : TRel M ts l) : TRel M (cleanTs sb keep ts) l := by
  refine ⟨by simp [cleanTs, h.1], fun i v v' h1 h2 h3 => ?_⟩
  unfold cleanTs at h1
  rw [List.getElem?_map, List.getElem?_zipIdx] at h1
  cases hu : ts[i]? with
  | none => rw [hu] at h1; simp at h1
  | some u =>
    rw [hu] at h1
    simp only [Option.map_some, Option.some.injEq] at h1
    split at h1
    · subst h1; exact h.2 i u v' hu h2 h3
    · subst h1; simp [junk, isJunk] at h3
section
variable {M0 : Emb} {H0 : Heap} {w0 : World} (hr0 : HRel M0 N H0 w0) (hg0 : Globs G M0)
theorem loop_ok {rd : Option Nat} (hr0 : HRel M0 N H0 w0) {c : Code} {body : St → Option (Ex × St)} (hb : CodeOk rd P G N M0 H0 w0 c body) (hlog : RunLog H0 body) (sb : Nat) (keep : List Nat) : ∀ n, ∀ (s : St) (e : Ex) (s' : St), evLoop body (cleanSt H0.n sb keep) n s = some (e, s') →
    ∀ (M : Emb) (a : Act) (w : World) (Q : Exit → Act → World → Prop), Stp N M0 H0 w0 M s.H w → LogOk H0 s.H s.log → TRel M s.ts a.tmps.toList → MOk w0 w a.defers →
    (∀ M' a' w', Stp N M0 H0 w0 M' s'.H w' → TRel M' s'.ts a'.tmps.toList → MOk w0 w' a'.defers → Q (exOf e) a' w') → LoopFrom rd P c Q a w := by
  intro n
  induction n with
  | zero => intro s e s' h; cases h
  | succ n ih =>
    intro s e s' h M a w Q hs hl hts hmk hq
    obtain ⟨Mc, hsc, _, htc⟩ := gc_sound (vals := cleanTs sb keep s.ts) hr0 hs hl rfl
    have htc' : TRel Mc (cleanSt H0.n sb keep s).ts a.tmps.toList := htc _ hts.clean
    have hsc' : Stp N M0 H0 w0 Mc (cleanSt H0.n sb keep s).H w := hsc
    simp only [evLoop] at h
    split at h
    · rename_i s1 hs1
      refine from_wp (hb _ .normal s1 hs1 Mc a w _ hsc' (clean_log hl) htc' hmk ?_)
      intro M1 a1 w1 hst hts1 hd1
      exact ih s1 e s' h M1 a1 w1 Q hst (hlog _ _ _ hs1 (clean_log hl)) hts1 hd1 hq
    · rename_i hne
      refine from_wp (hb _ e s' h Mc a w _ hsc' (clean_log hl) htc' hmk ?_)
      intro M1 a1 w1 hst hts1 hd1
      have := hq M1 a1 w1 hst hts1 hd1
      cases e with
      | normal => exact absurd h (by intro h'; exact hne s' h')
      | exit id => exact this
      | ret => exact this
theorem evCode_ok {rd : Option Nat} (hr0 : HRel M0 N H0 w0) (hg0 : Globs G M0) (hm : P.follows .mixedOrders = true) (hok : BodiesOk P ok) (hcall : CallOk P G call) (hy : YieldOk P G call) (hclog : CallLog call) (sb lf : Nat) : ∀ (c : Code) (kp : List Nat), (rd = none ∨ noRange c = true) → CodeOk rd P G N M0 H0 w0 c (evCodeK P G ok call H0.n sb lf c kp) := by
  intro c
  induction c with
  | skip =>
    intro kp hnr s e s' h M a w Q hs hl hts hmk hq
    simp only [evCodeK, Option.some.injEq, Prod.mk.injEq] at h
    obtain ⟨rfl, rfl⟩ := h
    exact wpIn_skip (hq M a w hs hts hmk)
  | region id ops d =>
    intro kp hnr s e s' h M a w Q hs hl hts hmk hq
    simp only [evCodeK, Option.map_eq_some_iff, Prod.mk.injEq] at h
    obtain ⟨s1, h1, rfl, rfl⟩ := h
    have hq' : ∀ M' a' w', Stp N M s.H w M' s1.H w' → TRel M' s1.ts a'.tmps.toList → a'.defers = a.defers → Q .normal a' w' := fun M' a' w' h1 h2 h3 => hq M' a' w' (hs.trans h1) h2 (h3 ▸ MOk.step hs.rel h1 _ hmk)
    cases d with
    | true =>
      simp only [if_true] at h1
      exact evDraw_sound hm hok hcall hy hclog (hg0.mono hs.le) hs.rel hts h1 hq'
    | false =>
      simp only [Bool.false_eq_true, if_false] at h1
      refine wpIn_region (evOps_sound (N := N) hok hcall hy ops.toList (List.range ops.size) ?_ (by simp) s s1 M a w (hg0.mono hs.le) hs.rel hts h1 hq')
      intro j
      rcases Nat.lt_or_ge j ops.size with h0 | h0
      · rw [List.getElem?_range h0]; simp
      · rw [List.getElem?_eq_none (by simpa using h0), List.getElem?_eq_none (by simpa using h0)]; rfl
  | seq x y ihx ihy =>
    intro kp hnr s e s' h M a w Q hs hl hts hmk hq
    have hx : rd = none ∨ noRange x = true := hnr.imp id fun h => by simp only [noRange, Bool.and_eq_true] at h; exact h.1
    have hy' : rd = none ∨ noRange y = true := hnr.imp id fun h => by simp only [noRange, Bool.and_eq_true] at h; exact h.2
    simp only [evCodeK] at h
    split at h
    · rename_i s1 h1
      refine wpIn_seq (ihx kp hx s .normal s1 h1 M a w _ hs hl hts hmk ?_)
      intro M1 a1 w1 hst hts1 hd1
      exact ihy kp hy' s1 e s' h M1 a1 w1 Q hst (evCode_log hclog H0 sb lf x _ _ _ _ h1 hl) hts1 hd1 hq
    · rename_i hne
      refine wpIn_seq (ihx kp hx s e s' h M a w _ hs hl hts hmk ?_)
      intro M1 a1 w1 hst hts1 hd1
      have := hq M1 a1 w1 hst hts1 hd1
      cases e with
      | normal => exact absurd h (by intro h'; exact hne s' h')
      | exit id => exact this
      | ret => exact this
  | cond c x y ihx ihy =>
    intro kp hnr s e s' h M a w Q hs hl hts hmk hq
    have hx : rd = none ∨ noRange x = true := hnr.imp id fun h => by simp only [noRange, Bool.and_eq_true] at h; exact h.1
    have hy' : rd = none ∨ noRange y = true := hnr.imp id fun h => by simp only [noRange, Bool.and_eq_true] at h; exact h.2
    simp only [evCodeK] at h
    split at h
    · rename_i hc
      exact wpIn_cond_true ((rd_sound (hg0.mono hs.le) hts hc).bool_inv) (ihx kp hx s e s' h M a w Q hs hl hts hmk hq)
    · rename_i hc
      exact wpIn_cond_false ((rd_sound (hg0.mono hs.le) hts hc).bool_inv) (ihy kp hy' s e s' h M a w Q hs hl hts hmk hq)
    · cases h
  | block id b ih =>
    intro kp hnr s e s' h M a w Q hs hl hts hmk hq
    simp only [evCodeK] at h
    refine wpIn_block ?_
    split at h
    · rename_i id' s1 h1
      simp only [Option.some.injEq, Prod.mk.injEq] at h
      obtain ⟨he, rfl⟩ := h
      refine ih kp hnr s (.exit id') s1 h1 M a w _ hs hl hts hmk ?_
      intro M1 a1 w1 hst hts1 hd1
      have := hq M1 a1 w1 hst hts1 hd1
      show if id' = id then Q .normal a1 w1 else Q (.exit id') a1 w1
      rw [← he] at this
      split
      · rename_i heq; rw [if_pos heq] at this; exact this
      · rename_i heq; rw [if_neg heq] at this; exact this
    · rename_i hne
      refine ih kp hnr s e s' h M a w _ hs hl hts hmk ?_
      intro M1 a1 w1 hst hts1 hd1
      have := hq M1 a1 w1 hst hts1 hd1
      cases e with
      | normal => exact this
      | exit id' => exact absurd h (by intro h'; exact hne id' s' h')
      | ret => exact this
  | loop b ih =>
    intro kp hnr s e s' h M a w Q hs hl hts hmk hq
    simp only [evCodeK] at h
    exact loop_from (loop_ok hr0 (ih _ hnr) (evCode_log hclog H0 sb lf b _) sb _ lf s e s' h M a w Q hs hl hts hmk hq)
  | rangeFunc f ps x y _ _ =>
    intro kp hnr s e s' h M a w Q hs hl hts hmk hq
    rcases hnr with rfl | h0
    rotate_left
    · simp [noRange] at h0
    simp only [evCodeK] at h
    split at h
    rotate_left
    · cases h
    rename_i gf first captured hf
    split at h
    rotate_left
    · cases h
    rename_i hgo
    split at h
    rotate_left
    · cases h
    rename_i v H2 log2 hcl
    obtain ⟨first', captured', ev, g1, g2⟩ := (rd_sound (hg0.mono hs.le) hts hf).func_inv
    refine wpIn_rangeFunc ?_
    intro fn _
    have st1 := Stp.allocOther hs.rel (.deferred (some []))
    obtain ⟨rec, hrec⟩ : ∃ rec : Loop, rec = { state := .ready, pending := none, fn, tmps := a.tmps, params := ps, assign := x, body := y, defers := w.heap.size } := ⟨_, rfl⟩
    have hts0 : TRel M (cleanTs sb (ue (.seq x y) [] []).1 s.ts) a.tmps.toList := hts.clean
    have st2 := Stp.alloc st1.rel (.loop ⟨sb, cleanTs sb (ue (.seq x y) [] []).1 s.ts, ps, x, y, .ready, none⟩) (.loop rec) rfl
      (fun M' hM' w' hw' => ⟨fn, a.tmps, w.heap.size, by rw [hw', hrec], hts0.mono hM', st1.rel.base, rfl⟩)
    have st := st1.trans st2
    have hsz : (w.alloc (.deferred (some []))).heap.size = w.heap.size + 1 := by simp
    have hpush : LogOk H0 (s.H.push (.loop ⟨sb, cleanTs sb (ue (.seq x y) [] []).1 s.ts, ps, x, y, .ready, none⟩)) s.log := hl.add (lg := []) (LogOk.push _ _ _)
    have hM2 : (M.put s.H.n ((w.alloc (.deferred (some []))).heap.size, 0, 0)) s.H.n = some (w.heap.size + 1, 0, 0) := by rw [Emb.put_same, hsz]
    have hyv : VRel (M.put s.H.n ((w.alloc (.deferred (some []))).heap.size, 0, 0)) (.func (.yield s.H.n) #[] #[]) (.func (.yield (w.heap.size + 1)) #[] #[]) := .yield hM2
    have hall : LRel (M.put s.H.n ((w.alloc (.deferred (some []))).heap.size, 0, 0)) (first.toList ++ [Value.func (.yield s.H.n) #[] #[]] ++ captured.toList) (first' ++ #[Value.func (.yield (w.heap.size + 1)) #[] #[]] ++ captured').toList := by
      simp only [Array.toList_append]
      exact ((g1.toList.mono st.le).append (LRel.cons hyv LRel.nil)).append (g2.toList.mono st.le)
    have hcalls := hcall _ _ _ _ _ _ hcl (hok _ hgo).1 N _ _ _ (hg0.mono (hs.trans st).le) st.rel hall
    have he : (Instr.enterLoop fn a.tmps ps x y (FR none).round).run P w = .ok (w.heap.size + 1, [{ target := .collected w.heap.size, args := #[] }]) ((w.alloc (.deferred (some []))).alloc (.loop rec)) := by rw [hrec]; exact run_enterLoop_outer _ _ _ _ _
    refine ⟨w.heap.size + 1, [{ target := .collected w.heap.size, args := #[] }], (w.alloc (.deferred (some []))).alloc (.loop rec), ⟨.fn (.func gf) captured', first' ++ #[Value.func (.yield (w.heap.size + 1)) #[] #[]]⟩, (w.alloc (.deferred (some []))).alloc (.loop rec), gf,
      first' ++ #[Value.func (.yield (w.heap.size + 1)) #[] #[]] ++ captured', (w.alloc (.deferred (some []))).alloc (.loop rec), he, ?_, fun _ _ => True.intro, ?_, fun h => by simp [FR, Fence.wide] at h, ?_⟩
    · have evc : a.eval (.const (.func (.yield (w.heap.size + 1)) #[] #[])) = Value.func (.yield (w.heap.size + 1)) #[] #[] := by simp [Act.eval, Lit.value]
      simp only [resolve, ev, Sem.run_bind, Sem.run_pure, Result.andThen_ok, Deferred.ofValue]
      simp [evc]
    · simp only [invoke, Sem.run_bind, Sem.run_pure, Result.andThen_ok, callFunc_run hok hgo]
    · refine CallsIn.mono (F := FR none) (n := 0) (callsIn_wide (n := 0).2 hcalls) ?_
      rintro e2 w2 ⟨M2, v', rfl, hv, hs2⟩
      have hs2' := (hs.trans st).trans hs2
      have hk0 : (s.H.push (.loop ⟨sb, cleanTs sb (ue (.seq x y) [] []).1 s.ts, ps, x, y, .ready, none⟩)).n = s.H.n + 1 := rfl
      have hM3 := hs2.le _ _ hM2
      -- the marks
      have hmk2 : MOk w0 w2 ({ target := .collected w.heap.size, args := #[] } :: a.defers) := by
        refine MOk.step st.rel hs2 _ ⟨⟨w.heap.size, rfl, hs.size, ?_, ?_⟩, MOk.step hs.rel st _ hmk⟩
        · exact (RowKit.Below.heap_alloc _ _ _ (by simp)).trans (World.alloc_heap_new w _)
        · intro e he
          have : ∀ ds, MOk w0 w ds → ∀ e ∈ ds, e.target ≠ .collected w.heap.size := by
            intro ds
            induction ds with
            | nil => intro _ e he; cases he
            | cons d ds ih =>
              rintro ⟨⟨D, h1, h2, h3, h4⟩, h5⟩ e he
              rcases List.mem_cons.1 he with rfl | he
              · intro h6
                rw [h1] at h6
                have := (Array.getElem?_eq_some_iff.1 h3).1
                cases h6
                omega
              · exact ih h5 e he
          exact this _ hmk e he
      unfold afterRange at h
      split at h
      rotate_left
      · cases h
      rename_i r hk
      obtain ⟨fn', tmps', D', q1, q2, q3, q4⟩ := loop_at hs2.rel hk hM3
      have hts3 : TRel M2 s.ts a.tmps.toList := hts.mono (Emb.le_trans st.le hs2.le)
      split at h
      · cases h
      rename_i hnb
      have hend := run_endLoop (P := P) q1 (by intro hb; exact hnb hb)
      have turn := loop_turn hs2.rel hk hM3 q1 q2 q3 q4 .exhausted r.pending
      have fin := hs2'.trans turn
      have hmk3 := MOk.step hs2.rel turn _ hmk2
      split at h
      · rename_i hp
        simp only [Option.some.injEq, Prod.mk.injEq] at h
        obtain ⟨rfl, rfl⟩ := h
        exact ⟨none, _, hend.trans (congrArg (fun j => Result.ok j _) hp), hq M2 _ _ fin hts3 hmk3⟩
      · rename_i hp
        simp only [Option.some.injEq, Prod.mk.injEq] at h
        obtain ⟨rfl, rfl⟩ := h
        exact ⟨some .ret, _, hend.trans (congrArg (fun j => Result.ok j _) hp), wpIn_ret (hq M2 _ _ fin hts3 hmk3)⟩
      · rename_i id hp
        simp only [Option.some.injEq, Prod.mk.injEq] at h
        obtain ⟨rfl, rfl⟩ := h
        exact ⟨some (.exit id), _, hend.trans (congrArg (fun j => Result.ok j _) hp), wpIn_exit (hq M2 _ _ fin hts3 hmk3)⟩
      · cases h
  | exit id =>
    intro kp hnr s e s' h M a w Q hs hl hts hmk hq
    simp only [evCodeK, Option.some.injEq, Prod.mk.injEq] at h
    obtain ⟨rfl, rfl⟩ := h
    exact wpIn_exit (hq M a w hs hts hmk)
  | scope b ih =>
    intro kp hnr s e s' h M a w Q hs hl hts hmk hq
    simp only [evCodeK] at h
    refine wpIn_scope_straight (ih kp hnr s e s' h M a w _ hs hl hts hmk ?_)
    intro M1 a1 w1 hst hts1 hd1
    have := hq M1 a1 w1 hst hts1 hd1
    cases e <;> exact this
  | label l =>
    intro kp hnr s e s' h M a w Q hs hl hts hmk hq
    simp only [evCodeK, Option.some.injEq, Prod.mk.injEq] at h
    obtain ⟨rfl, rfl⟩ := h
    exact wpIn_label (hq M a w hs hts hmk)
  | goto l => intro kp hnr s e s' h; cases h
  | ret =>
    intro kp hnr s e s' h M a w Q hs hl hts hmk hq
    simp only [evCodeK, Option.some.injEq, Prod.mk.injEq] at h
    obtain ⟨rfl, rfl⟩ := h
    exact wpIn_ret (hq M a w hs hts hmk)
  | refuse y => intro kp hnr s e s' h; cases h
end
end
end Go.Dg
