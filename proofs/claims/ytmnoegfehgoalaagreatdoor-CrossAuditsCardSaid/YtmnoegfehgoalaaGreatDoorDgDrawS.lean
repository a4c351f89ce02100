/- A region that draws its order comes, in whatever order, to what it comes to in the order of the text. -/
import Derived.Test.YtmnoegfehgoalaaGreatDoorDgDraw
namespace Go.Dg
set_option linter.unusedVariables false
set_option linter.unusedSimpArgs false
def unl (f : Nat → Bool) : Nat → Nat
  | 0 => 0
  | n + 1 => unl f n + (if f n then 0 else 1)
def upd (f : Nat → Bool) (i : Nat) : Nat → Bool := fun j => if j = i then true else f j
theorem unl_out (f : Nat → Bool) (i : Nat) : ∀ n, n ≤ i → unl (upd f i) n = unl f n := by
  intro n
  induction n with
  | zero => intro _; rfl
  | succ n ih => intro h; simp only [unl]; rw [ih (by omega)]; simp [upd, show n ≠ i by omega]
theorem unl_upd (f : Nat → Bool) (i : Nat) (hf : f i = false) : ∀ n, i < n → unl (upd f i) n + 1 = unl f n := by
  intro n
  induction n with
  | zero => intro h; omega
  | succ n ih =>
    intro h
    simp only [unl]
    by_cases hi : i = n
    · subst hi; rw [unl_out f i i (Nat.le_refl _)]; simp [upd, hf]
    · have := ih (by omega); simp [upd, show n ≠ i by omega]; omega
theorem unl_zero (f : Nat → Bool) : ∀ n, unl f n = 0 → ∀ i, i < n → f i = true := by
  intro n
  induction n with
  | zero => intro _ i h; omega
  | succ n ih =>
    intro h i hi
    simp only [unl] at h
    by_cases he : i = n
    · subst he
      cases hf : f i with
      | true => rfl
      | false => rw [hf] at h; simp at h
    · exact ih (by omega) i (by omega)
theorem mask_get (l : List Tmp) (ts : List Value) (t : Nat) : (mask l ts)[t]? = (ts[t]?).map fun v => if l.contains t then v else undef := by
  unfold mask
  rw [List.getElem?_map, List.getElem?_zipIdx]
  cases ts[t]? <;> simp
theorem mask_congr {l : List Tmp} {ts ts' : List Value} (hl : ts.length = ts'.length) (h : ∀ t, t ∈ l → ts[t]? = ts'[t]?) : mask l ts = mask l ts' := by
  apply List.ext_getElem?
  intro t
  rw [mask_get, mask_get]
  by_cases ht : t ∈ l
  · rw [h t ht]
  · have hc : l.contains t = false := by simpa using ht
    simp only [hc]
    cases h1 : ts[t]? with
    | none =>
      have : ts'[t]? = none := by rw [List.getElem?_eq_none_iff] at h1 ⊢; omega
      rw [this]
    | some v =>
      have : t < ts.length := by
        rcases Nat.lt_or_ge t ts.length with h0 | h0
        · exact h0
        · rw [List.getElem?_eq_none h0] at h1; cases h1
      have h2 : ts'[t]? = some ts'[t] := by simp
      rw [h2]; rfl
theorem mask_rel {M : Emb} {l : List Tmp} {ts ts' : List Value} (h : TRel M ts ts') : TRel M (mask l ts) (mask l ts') := by
  refine ⟨by simp [mask, h.1], fun i v v' h1 h2 h3 => ?_⟩
  rw [mask_get, Option.map_eq_some_iff] at h1 h2
  obtain ⟨u, hu, rfl⟩ := h1
  obtain ⟨u', hu', rfl⟩ := h2
  split
  · rename_i hc; rw [if_pos hc] at h3; exact h.2 i u u' hu hu' h3
  · exact vrel_undef
theorem wanted_congr {ops : Array Oper} {o : Oper} {ts ts' : List Value} (h : ∀ t, t ∈ looks ops o → ts[t]? = ts'[t]?) : wantedL ops ts o = wantedL ops ts' o := by
  unfold wantedL
  cases hg : o.guard with
  | none => rfl
  | some x =>
    obtain ⟨j, want⟩ := x
    have : yieldedL ops ts j = yieldedL ops ts' j := by
      unfold yieldedL
      cases hd : (ops[j]?).bind (·.dst) with
      | none => rfl
      | some d =>
        simp only [Option.bind_some]
        rw [h d (by unfold looks Oper.looksAt; rw [hg]; simp [hd])]
    simp only [this]
section
variable {P : Program} {G N : Nat} {ok : List Bool} {call : Ev}
theorem ready_iff {ops : Array Oper} {listed : Array Bool} {i : Nat} : i ∈ Region.ready .any ops listed ↔ i < ops.size ∧ listed.getD i true = false ∧ ∃ o, ops[i]? = some o ∧ ∀ e ∈ o.after, Region.binds .any e = true → listed.getD e.on false = true := by
  unfold Region.ready
  rw [List.mem_filter, List.mem_range]
  constructor
  · rintro ⟨h1, h2⟩
    simp only [Bool.and_eq_true, Bool.not_eq_true'] at h2
    refine ⟨h1, h2.1, ops[i], by simp [h1], ?_⟩
    have h3 := h2.2
    simp only [Array.getElem?_eq_getElem h1, Option.map_some, Option.getD_some] at h3
    intro e he hb
    have := (Array.all_eq_true_iff_forall_mem.1 h3) e he
    simpa [hb] using this
  · rintro ⟨h1, h2, o, ho, h3⟩
    refine ⟨h1, ?_⟩
    simp only [h2, Bool.not_false, Bool.true_and, ho, Option.map_some, Option.getD_some]
    rw [Array.all_eq_true_iff_forall_mem]
    intro e he
    cases hb : Region.binds .any e with
    | true => simp [h3 e he hb]
    | false => rfl
/-- What 'drawOk' says. -/
structure DrawFacts (ops : Array Oper) (recs : List Rec) : Prop where
  back : ∀ (i : Nat) (o : Oper), ops[i]? = some o → ∀ e ∈ o.after, Region.binds .any e = true → e.on < i
  nosel : ∀ (i : Nat) (o : Oper), ops[i]? = some o → noSelect o.op = true
  uniq : ∀ (i j : Nat) (o p : Oper) (d : Nat), ops[i]? = some o → ops[j]? = some p → o.dst = some d → p.dst = some d → i = j
  look : ∀ (i j : Nat) (o p : Oper) (t : Nat), ops[i]? = some o → ops[j]? = some p → t ∈ looks ops o → p.dst = some t → i = j ∨ ((Region.before ops).getD j 0).testBit i = true ∨ ((Region.before ops).getD i 0).testBit j = true
  chain : ∀ (i j : Nat) (r q : Rec), recs[i]? = some r → recs[j]? = some q → r.cls = 2 → q.cls = 2 → i < j → ((Region.before ops).getD j 0).testBit i = true
  reads : ∀ (i j : Nat) (r q : Rec), recs[i]? = some r → recs[j]? = some q → r.cls = 1 → q.cls = 2 → ((Region.before ops).getD j 0).testBit i = false → ((Region.before ops).getD i 0).testBit j = false →
    ∀ k ∈ r.touched, k ∉ q.log ∧ k < q.H.n
theorem all_idx {α : Type} {l : List α} {p : α × Nat → Bool} (h : l.zipIdx.all p = true) {i : Nat} {x : α} (hx : l[i]? = some x) : p (x, i) = true := by
  rw [List.all_eq_true] at h
  refine h (x, i) ?_
  rw [List.mem_iff_getElem?]
  exact ⟨i, by simp [List.getElem?_zipIdx, hx]⟩
theorem drawOk_facts {ops : Array Oper} {recs : List Rec} (h : drawOk ops recs = true) : DrawFacts ops recs := by
  unfold drawOk at h
  simp only [Bool.and_eq_true] at h
  obtain ⟨⟨⟨⟨h1, h2⟩, h3⟩, h4⟩, h5⟩ := h
  have tl : ∀ {i : Nat} {o : Oper}, ops[i]? = some o → ops.toList[i]? = some o := fun h => by simpa using h
  refine ⟨?_, ?_, ?_, ?_, ?_, ?_⟩
  · intro i o ho e he hb
    have := all_idx h1 (tl ho)
    simp only [List.all_eq_true] at this
    have := this e (by simpa using he)
    simpa [hb] using this
  · intro i o ho
    rw [List.all_eq_true] at h2
    exact h2 o (List.mem_of_getElem? (tl ho))
  · intro i j o p d ho hp hd hd'
    have := all_idx h3 (tl ho)
    simp only [hd] at this
    have := all_idx this (tl hp)
    simpa [hd'] using this
  · intro i j o p t ho hp ht hd
    have := all_idx h4 (tl ho)
    simp only [List.all_eq_true] at this
    have := this t ht
    have := all_idx (p := fun (x : Oper × Nat) => x.1.dst != some t || i == x.2 || comparable (Region.before ops) i x.2) (by rw [List.all_eq_true]; exact this) (tl hp)
    simpa [hd, comparable] using this
  · intro i j r q hr hq hrc hqc hij
    have := all_idx h5 hr
    have := all_idx this hq
    simp only [hrc, hqc, beq_self_eq_true, Bool.and_eq_true, and_self, if_true] at this
    have h6 := this.1
    rcases Bool.or_eq_true_iff.1 h6 with h7 | h7
    · have := of_decide_eq_true h7; omega
    · exact h7
  · intro i j r q hr hq hrc hqc hb1 hb2 k hk
    have := all_idx h5 hr
    have := all_idx this hq
    have hcmp : comparable (Region.before ops) i j = false := by unfold comparable; rw [hb1, hb2]; rfl
    simp only [hrc, hqc, beq_self_eq_true, hcmp, Bool.not_false, Bool.and_eq_true, and_self, if_true] at this
    have h6 := List.all_eq_true.1 this.2 k hk
    simpa using h6
theorem HT_some {recs : List Rec} {H' : Heap} {i : Nat} {r : Rec} (h : recs[i]? = some r) : HT recs H' i = r.H := by simp [HT, h]
theorem HT_out {recs : List Rec} {H' : Heap} {i : Nat} (h : recs.length ≤ i) : HT recs H' i = H' := by simp [HT, List.getElem?_eq_none h]
/-- Between two places without an operation that turns memory the heap is one. -/
theorem HT_span {recs : List Rec} {H' : Heap} (hstay : ∀ (i : Nat) (r : Rec), recs[i]? = some r → r.cls ≠ 2 → HT recs H' (i + 1) = HT recs H' i) :
    ∀ (n x : Nat), (∀ (i : Nat) (r : Rec), x ≤ i → i < x + n → recs[i]? = some r → r.cls ≠ 2) → HT recs H' (x + n) = HT recs H' x := by
  intro n
  induction n with
  | zero => intro x _; rfl
  | succ n ih =>
    intro x h
    have h1 := ih x (fun i r a b c => h i r a (by omega) c)
    rw [← h1]
    cases hr : recs[x + n]? with
    | none =>
      have hl : recs.length ≤ x + n := by simpa using hr
      rw [HT_out (H' := H') hl, HT_out (H' := H') (by omega)]
    | some r =>
      have h2 : r.cls ≠ 2 := h (x + n) r (Nat.le_add_right x n) (Nat.add_lt_add_left (Nat.lt_succ_self n) x) hr
      exact hstay (x + n) r hr h2
theorem HT_span_get {recs : List Rec} {H' : Heap} {k : Nat} : ∀ (n x : Nat), (∀ (i : Nat) (r : Rec), x ≤ i → i < x + n → recs[i]? = some r → (HT recs H' (i + 1)).get k = (HT recs H' i).get k) →
    (HT recs H' (x + n)).get k = (HT recs H' x).get k := by
  intro n
  induction n with
  | zero => intro x _; rfl
  | succ n ih =>
    intro x h
    have h1 := ih x (fun i r a b c => h i r a (by omega) c)
    rw [← h1]
    cases hr : recs[x + n]? with
    | none =>
      have hl : recs.length ≤ x + n := by simpa using hr
      rw [HT_out (H' := H') hl, show x + (n + 1) = x + n + 1 by omega, HT_out (H' := H') (by omega)]
    | some r => exact h (x + n) r (Nat.le_add_right x n) (Nat.add_lt_add_left (Nat.lt_succ_self n) x) hr
theorem cls_cases {ts : List Value} {H H' : Heap} {o : Oper} {c : Nat} {v : Value} {log : List Nat} (h : evOp P G ok call ts H o = some (c, v, H', log)) :
    (c = 0 ∧ H' = H ∧ (evShape P G ts o = some v ∨ evGen P G ts o = some v ∨ ∀ H2, evCallOp P G ok (flatCall P G call) ts H2 o = some (v, H2, []))) ∨ (c = 1 ∧ isReader P o.op = true ∧ evMem P G ts H o = some (v, H', log)) ∨ c = 2 := by
  unfold evOp at h
  split at h
  · rename_i u hu; cases h; exact .inl ⟨rfl, rfl, .inl hu⟩
  · split at h
    · rename_i u H1 l hu
      simp only [Option.some.injEq, Prod.mk.injEq] at h
      obtain ⟨h1, rfl, rfl, rfl⟩ := h
      split at h1
      · rename_i hr; exact .inr (.inl ⟨h1.symm, hr, hu⟩)
      · exact .inr (.inr h1.symm)
    · split at h
      · cases h; exact .inr (.inr rfl)
      · split at h
        · rename_i u H1 l hu
          simp only [Option.some.injEq, Prod.mk.injEq] at h
          obtain ⟨rfl, rfl, rfl, rfl⟩ := h
          exact .inl ⟨rfl, rfl, .inr (.inr (flatOp_eq hu).2.2)⟩
        · split at h
          · cases h; exact .inr (.inr rfl)
          · split at h
            · cases h; exact .inr (.inr rfl)
            · split at h
              · rename_i u hu; cases h; exact .inl ⟨rfl, rfl, .inr (.inl hu)⟩
              · split at h
                · cases h; exact .inr (.inr rfl)
                · cases h
set_option maxHeartbeats 1000000 in
theorem draw_any {rd : Option Nat} (hok : BodiesOk P ok) (hcall : CallOk P G call) (hy : YieldOk P G call) (hclog : CallLog call) {ops : Array Oper} {recs : List Rec} {H' : Heap} {ts0 : List Value} {H0 : Heap} {Q : Exit → Act → World → Prop}
    (htr : evTrace P G ok call ops ops.toList ts0 H0 = some (recs, H')) (F : DrawFacts ops recs) {M0 : Emb} {w0 : World} {a0 : Act} (hg0 : Globs G M0) (hlen0 : H0.objs.length = H0.n)
    (hq : ∀ M' a' w', Stp N M0 H0 w0 M' H' w' → TRel M' (TSgo (fun _ => true) (ops.toList.zip recs) 0 ts0) a'.tmps.toList → a'.defers = a0.defers → Q .normal a' w') :
    ∀ (fuel : Nat) (listed : Array Bool) (M : Emb) (a : Act) (w : World) (q : Nat), listed.size = ops.size → unl (fun i => listed.getD i false) ops.size ≤ fuel → Closed ops (fun i => listed.getD i false) →
      (∀ (i : Nat) (r : Rec), recs[i]? = some r → r.cls = 2 → (listed.getD i false = true ↔ i < q)) →
      Stp N M0 H0 w0 M (HT recs H' q) w → TRel M (TSgo (fun i => listed.getD i false) (ops.toList.zip recs) 0 ts0) a.tmps.toList → a.defers = a0.defers →
      wpAnyIn (FR rd) 0 P .any ops Q fuel listed a w := by
  obtain ⟨hlen, hT0, hfacts⟩ := trace_facts ops.toList ts0 H0 recs H' 0 (fun _ => false) htr (fun _ _ => rfl)
  have hlen' : recs.length = ops.size := by rw [hlen]; simp
  -- what is no turn leaves the heap
  have hstay : ∀ (i : Nat) (r : Rec), recs[i]? = some r → r.cls ≠ 2 → HT recs H' (i + 1) = HT recs H' i := by
    intro i r hr hc
    have hi : i < recs.length := by
      rcases Nat.lt_or_ge i recs.length with h0 | h0
      · exact h0
      · rw [List.getElem?_eq_none h0] at hr; cases hr
    have ho : ops.toList[i]? = some ops.toList[i] := by simp
    rw [HT_some hr]
    rcases hfacts i _ r ho hr with ⟨_, hev, _, _⟩ | ⟨_, _, _, h4⟩
    · rcases cls_cases hev with ⟨_, h1, _⟩ | ⟨_, h1, h2⟩ | h1
      · exact h1
      · exact (reader_at h2 h1).1
      · exact absurd h1 hc
    · exact h4
  have hlens : ∀ i, (HT recs H' i).objs.length = (HT recs H' i).n := by
    intro i
    induction i with
    | zero => rw [hT0]; exact hlen0
    | succ i ih =>
      cases hr : recs[i]? with
      | none =>
        have hl : recs.length ≤ i := by simpa using hr
        rw [HT_out (H' := H') hl] at ih
        rw [HT_out (H' := H') (by omega)]; exact ih
      | some r =>
        by_cases hc : r.cls = 2
        · have hi : i < recs.length := by
            rcases Nat.lt_or_ge i recs.length with h0 | h0
            · exact h0
            · rw [List.getElem?_eq_none h0] at hr; cases hr
          have ho : ops.toList[i]? = some ops.toList[i] := by simp
          rcases hfacts i _ r ho hr with ⟨_, hev, _⟩ | ⟨_, _, h3, _⟩
          · have := evOp_log hclog hev
            rw [HT_some hr] at ih
            exact (this ih).1
          · rw [h3] at hc; cases hc
        · rw [hstay i r hr hc]; exact ih
  -- the end
  have hend : ∀ (listed : Array Bool) (M : Emb) (a : Act) (w : World) (q : Nat), (∀ i, i < ops.size → listed.getD i false = true) →
      (∀ (i : Nat) (r : Rec), recs[i]? = some r → r.cls = 2 → (listed.getD i false = true ↔ i < q)) →
      Stp N M0 H0 w0 M (HT recs H' q) w → TRel M (TSgo (fun i => listed.getD i false) (ops.toList.zip recs) 0 ts0) a.tmps.toList → a.defers = a0.defers → Q .normal a w := by
    intro listed M a w q hall hchain hs hts hd
    have hH : HT recs H' q = H' := by
      rcases Nat.lt_or_ge q recs.length with h0 | h0
      · have h1 := HT_span (H' := H') hstay (recs.length - q) q (by
          intro i r h1 h2 hr hc
          have := (hchain i r hr hc).1 (hall i (by omega))
          omega)
        rw [← h1]; exact HT_out (by omega)
      · exact HT_out h0
    rw [hH] at hs
    refine hq M a w hs ?_ hd
    refine ⟨by rw [TSgo_length, ← TSgo_length (fun i => listed.getD i false) (ops.toList.zip recs) 0 ts0]; exact hts.1, fun t v v' h1 h2 h3 => hts.2 t v v' ?_ h2 h3⟩
    rw [← h1]
    refine TSgo_congr _ _ t _ _ _ _ rfl rfl ?_
    intro k o r hk _
    have hlt : k < (ops.toList.zip recs).length := by
      rcases Nat.lt_or_ge k (ops.toList.zip recs).length with h0 | h0
      · exact h0
      · rw [List.getElem?_eq_none h0] at hk; cases hk
    have hk2 : k < ops.size := by simp at hlt; omega
    simp only [Nat.zero_add]
    exact hall k hk2
  -- who is ready
  have hnone : ∀ (listed : Array Bool), listed.size = ops.size → Region.ready .any ops listed = [] → ∀ i, i < ops.size → listed.getD i false = true := by
    intro listed hsz hnil i
    induction i using Nat.strongRecOn with
    | _ i ih =>
      intro hi
      cases hf : listed.getD i false with
      | true => rfl
      | false =>
        have : i ∈ Region.ready .any ops listed := by
          rw [ready_iff]
          refine ⟨hi, ?_, ops[i], by simp [hi], ?_⟩
          · have : i < listed.size := by omega
            simp [Array.getD_eq_getD_getElem?, this] at hf ⊢; exact hf
          · intro e he hb
            have := F.back i ops[i] (by simp [hi]) e he hb
            exact ih e.on this (by omega)
        rw [hnil] at this; cases this
  intro fuel
  induction fuel with
  | zero =>
    intro listed M a w q hsz hcnt hcl hchain hs hts hd
    have hall := unl_zero (fun i => listed.getD i false) ops.size (by omega)
    refine ⟨?_, hend listed M a w q hall hchain hs hts hd⟩
    cases hrd : Region.ready .any ops listed with
    | nil => rfl
    | cons x xs =>
      have hx : x ∈ Region.ready .any ops listed := by rw [hrd]; simp
      rw [ready_iff] at hx
      obtain ⟨h1, h2, _⟩ := hx
      have h3 := hall x h1
      have : x < listed.size := by omega
      simp [Array.getD_eq_getD_getElem?, this] at h2 h3
      rw [h2] at h3; cases h3
  | succ fuel ih =>
    intro listed M a w q hsz hcnt hcl hchain hs hts hd
    refine ⟨fun hnil => hend listed M a w q (hnone listed hsz hnil) hchain hs hts hd, ?_⟩
    intro i hi
    rw [ready_iff] at hi
    obtain ⟨hilt, hifalse, o, ho, hedges⟩ := hi
    have hif : listed.getD i false = false := by
      have : i < listed.size := by omega
      simp [Array.getD_eq_getD_getElem?, this] at hifalse ⊢; exact hifalse
    have hor : recs[i]? = some recs[i] := by simp
    generalize hrdef : recs[i] = r at hor
    have hol : ops.toList[i]? = some o := by simpa using ho
    -- closure
    have hbit : ∀ j, ((Region.before ops).getD i 0).testBit j = true → listed.getD j false = true := closed_bit hcl i o ho hedges
    have hbitl : ∀ j p, ops[j]? = some p → listed.getD j false = true → ∀ k, ((Region.before ops).getD j 0).testBit k = true → listed.getD k false = true := fun j p hp hj => closed_bit hcl j p hp (hcl j p hp hj)
    have hblt := bit_lt F.back
    -- the new state of what is listed
    have hsz' : (listed.setIfInBounds i true).size = ops.size := by simpa using hsz
    have hupd : ∀ j, (listed.setIfInBounds i true).getD j false = upd (fun i => listed.getD i false) i j := by
      intro j
      simp only [upd, Array.getD_eq_getD_getElem?, Array.getElem?_setIfInBounds]
      by_cases hji : i = j
      · subst hji
        have hil : i < listed.size := by omega
        simp [hil]
      · rw [if_neg hji, if_neg (by omega)]
    have hfun : (fun j => (listed.setIfInBounds i true).getD j false) = upd (fun i => listed.getD i false) i := funext hupd
    have hcnt' : unl (fun j => (listed.setIfInBounds i true).getD j false) ops.size ≤ fuel := by
      rw [hfun]
      have := unl_upd (fun i => listed.getD i false) i hif ops.size hilt
      omega
    have hcl' : Closed ops (fun j => (listed.setIfInBounds i true).getD j false) := by
      intro j p hp hj e he hb
      rw [hfun] at hj ⊢
      simp only [upd] at hj ⊢
      by_cases hji : j = i
      · subst hji
        rw [ho] at hp; cases hp
        split
        · rfl
        · exact hedges e he hb
      · rw [if_neg hji] at hj
        split
        · rfl
        · exact hcl j p hp hj e he hb
    -- the slots
    have hsame : ∀ t, t ∈ looks ops o → (TSgo (fun j => decide (j < 0 + i)) (ops.toList.zip recs) 0 ts0)[t]? = (TSgo (fun i => listed.getD i false) (ops.toList.zip recs) 0 ts0)[t]? := by
      intro t ht
      refine TSgo_congr _ _ t _ _ _ _ rfl rfl ?_
      intro k p rr hk hdst
      have hp : ops[k]? = some p := by
        have := List.getElem?_zip_eq_some.1 hk
        simpa using this.1
      simp only [Nat.zero_add]
      rcases F.look i k o p t ho hp ht hdst with rfl | hb | hb
      · simp [hif]
      · have := hblt k i hb
        have h1 : decide (k < i) = false := by simp; omega
        rw [h1]
        cases hlk : listed.getD k false with
        | false => rfl
        | true => have := hbitl k p hp hlk i hb; rw [hif] at this; cases this
      · have := hblt i k hb
        have h1 : decide (k < i) = true := by simp; omega
        rw [h1, hbit k hb]
    have hmask : mask (looks ops o) (TSgo (fun j => decide (j < 0 + i)) (ops.toList.zip recs) 0 ts0) = mask (looks ops o) (TSgo (fun i => listed.getD i false) (ops.toList.zip recs) 0 ts0) :=
      mask_congr (by rw [TSgo_length, TSgo_length]) hsame
    have hwant : wantedL ops (TSgo (fun j => decide (j < 0 + i)) (ops.toList.zip recs) 0 ts0) o = wantedL ops (TSgo (fun i => listed.getD i false) (ops.toList.zip recs) 0 ts0) o := wanted_congr hsame
    have hzip : (ops.toList.zip recs)[i]? = some (o, r) := List.getElem?_zip_eq_some.2 ⟨hol, hor⟩
    have hslots : ∀ (M' : Emb) (v' : Value), Emb.le M M' → VRel M' r.v v' → TRel M' (TSgo (fun j => (listed.setIfInBounds i true).getD j false) (ops.toList.zip recs) 0 ts0) (a.put o.dst v').tmps.toList := by
      intro M' v' hle hv
      rw [hfun]
      have hp := put_rel (hts.mono hle) hv o.dst
      refine ⟨by rw [TSgo_length]; rw [← hp.1, putL_length, TSgo_length], fun t u u' h1 h2 h3 => hp.2 t u u' ?_ h2 h3⟩
      rw [← h1]
      by_cases hdt : o.dst = some t
      · have hlt : t < ts0.length := by
          have : t < (TSgo (upd (fun i => listed.getD i false) i) (ops.toList.zip recs) 0 ts0).length := by
            rcases Nat.lt_or_ge t (TSgo (upd (fun i => listed.getD i false) i) (ops.toList.zip recs) 0 ts0).length with h0 | h0
            · exact h0
            · rw [List.getElem?_eq_none h0] at h1; cases h1
          rwa [TSgo_length] at this
        rw [TSgo_at _ t _ 0 ts0 i o r hzip hdt (by simp [upd]) (by
          intro k' o' r' hk' hd'
          have := List.getElem?_zip_eq_some.1 hk'
          exact (F.uniq i k' o o' t ho (by simpa using this.1) hdt hd').symm) hlt]
        simp [putL, hdt, TSgo_length, hlt]
      · have e1 : (putL (TSgo (fun i => listed.getD i false) (ops.toList.zip recs) 0 ts0) o.dst r.v)[t]? = (TSgo (fun i => listed.getD i false) (ops.toList.zip recs) 0 ts0)[t]? := by
          cases hdd : o.dst with
          | none => rfl
          | some d =>
            simp only [putL, List.getElem?_set]
            rw [if_neg (fun e => hdt (by rw [hdd, e]))]
        rw [e1]
        refine TSgo_congr _ _ t _ _ _ _ rfl rfl ?_
        intro k p rr hk hdst
        simp only [Nat.zero_add, upd]
        split
        · rename_i hki
          subst hki
          have := List.getElem?_zip_eq_some.1 hk
          have hp2 : ops[k]? = some p := by simpa using this.1
          rw [ho] at hp2; cases hp2
          exact absurd hdst hdt
        · rfl
    have hd' : ∀ v', (a.put o.dst v').defers = a0.defers := fun v' => put_defers.trans hd
    -- the chain when i turns no memory
    have hchain_same : r.cls ≠ 2 → ∀ (j : Nat) (rr : Rec), recs[j]? = some rr → rr.cls = 2 → ((listed.setIfInBounds i true).getD j false = true ↔ j < q) := by
      intro hc j rr hj hjc
      rw [hupd]
      simp only [upd]
      split
      · rename_i hji; subst hji; rw [hor] at hj; cases hj; exact absurd hjc hc
      · exact hchain j rr hj hjc
    unfold wpOpIn
    rw [ho]
    simp only
    rcases hfacts i o r hol hor with ⟨hw, hev, htouch, _⟩ | ⟨hw, hv, hc, hH⟩
    · -- it is wanted
      rw [hwant] at hw
      rw [if_pos (wanted_eq hts o hw)]
      have hnd := evOp_nodefer hev
      rw [hmask] at hev htouch
      -- the act with the other slots hidden
      let am : Act := { tmps := (mask (looks ops o) a.tmps.toList).toArray, defers := a.defers }
      have hrm : TRel M (mask (looks ops o) (TSgo (fun i => listed.getD i false) (ops.toList.zip recs) 0 ts0)) am.tmps.toList := by
        show TRel M _ (mask (looks ops o) a.tmps.toList).toArray.toList
        simpa using mask_rel (l := looks ops o) hts
      have hexec : execOp am.eval o = execOp a.eval o := by
        refine execOp_congr o ?_ ?_
        · intro cs b he
          have := F.nosel i o ho
          rw [he] at this; simp [noSelect] at this
        · intro x hx
          cases x with
          | tmp t =>
            have ht : t ∈ looks ops o := by
              unfold looks Oper.looksAt
              exact List.mem_append_left _ (List.mem_filterMap.2 ⟨.tmp t, by simpa using hx, rfl⟩)
            show am.tmps.getD t undef = a.tmps.getD t undef
            have e1 : am.tmps[t]? = a.tmps[t]? := by
              show (mask (looks ops o) a.tmps.toList).toArray[t]? = _
              rw [List.getElem?_toArray, mask_get]
              have hc : (looks ops o).contains t = true := by simpa using ht
              rw [hc]
              simp
            simp [Array.getD_eq_getD_getElem?, e1]
          | _ => rfl
      rcases cls_cases hev with ⟨hc, hH, hpure⟩ | ⟨hc, hrdr, hmem⟩ | hc
      · -- no memory
        have hpost : OpPost P N M (HT recs H' q) w r.v (HT recs H' q) ((execOp a.eval o).run P w) := by
          rw [← hexec]
          rcases hpure with hp | hp | hp
          · exact evShape_sound (hg0.mono hs.le) hs.rel hrm hp
          · exact evGen_sound (hg0.mono hs.le) hs.rel hrm hp
          · exact evCallOp_sound hok (flatCall_ok hcall) (hg0.mono hs.le) hs.rel hrm (hp _)
        refine wpIn_of hnd hpost ?_
        intro M' v' w' hv hs'
        exact ih _ M' _ w' q hsz' hcnt' hcl' (hchain_same (by rw [hc]; decide)) (hs.trans hs') (hslots M' v' hs'.le hv) (hd' v')
      · -- it reads
        obtain ⟨hHe, hlog, hat⟩ := reader_at hmem hrdr
        have hget : ∀ k ∈ touchedBy G (mask (looks ops o) (TSgo (fun i => listed.getD i false) (ops.toList.zip recs) 0 ts0)) o.op, (HT recs H' q).get k = r.H.get k := by
          intro k hk
          rw [← htouch] at hk
          rw [← HT_some (H' := H') hor]
          have hone : ∀ (j : Nat) (rr : Rec), recs[j]? = some rr → j ≠ i → ((q ≤ j ∧ j < i) ∨ (i ≤ j ∧ j < q)) → (HT recs H' (j + 1)).get k = (HT recs H' j).get k := by
            intro j rr hj hji hrange
            by_cases hjc : rr.cls = 2
            · have hjo : ∃ p, ops[j]? = some p := by
                have hjl : j < recs.length := by
                  rcases Nat.lt_or_ge j recs.length with h0 | h0
                  · exact h0
                  · rw [List.getElem?_eq_none h0] at hj; cases hj
                exact ⟨ops[j], by simp⟩
              obtain ⟨p, hp⟩ := hjo
              have hn1 : ((Region.before ops).getD j 0).testBit i = false := by
                cases hb : ((Region.before ops).getD j 0).testBit i with
                | false => rfl
                | true =>
                  have hlt := hblt j i hb
                  rcases hrange with ⟨h1, h2⟩ | ⟨h1, h2⟩
                  · omega
                  · have hl := (hchain j rr hj hjc).2 h2
                    have := hbitl j p hp hl i hb
                    rw [hif] at this; cases this
              have hn2 : ((Region.before ops).getD i 0).testBit j = false := by
                cases hb : ((Region.before ops).getD i 0).testBit j with
                | false => rfl
                | true =>
                  have hlt := hblt i j hb
                  rcases hrange with ⟨h1, h2⟩ | ⟨h1, h2⟩
                  · have hl := hbit j hb
                    have := (hchain j rr hj hjc).1 hl
                    omega
                  · omega
              obtain ⟨hk1, hk2⟩ := F.reads i j r rr hor hj hc hjc hn1 hn2 k hk
              rcases hfacts j p rr (by simpa using hp) hj with ⟨_, hev2, _⟩ | ⟨_, _, hc0, _⟩
              · have hl := evOp_log hclog hev2
                have hll := hlens j
                rw [HT_some hj] at hll ⊢
                exact (hl hll).2.2 k hk2 hk1
              · rw [hc0] at hjc; cases hjc
            · rw [hstay j rr hj hjc]
          rcases Nat.le_total q i with h0 | h0
          · have := HT_span_get (recs := recs) (H' := H') (k := k) (i - q) q (fun j rr h1 h2 hj => hone j rr hj (by omega) (.inl ⟨h1, by omega⟩))
            rw [show q + (i - q) = i by omega] at this
            exact this.symm
          · have hi1 : HT recs H' (i + 1) = HT recs H' i := hstay i r hor (by rw [hc]; decide)
            rcases Nat.eq_or_lt_of_le h0 with h3 | h3
            · rw [← h3]
            · have := HT_span_get (recs := recs) (H' := H') (k := k) (q - (i + 1)) (i + 1) (fun j rr h1 h2 hj => hone j rr hj (by omega) (.inr ⟨by omega, by omega⟩))
              rw [show i + 1 + (q - (i + 1)) = q by omega, hi1] at this
              exact this
        have hmem2 := hat (HT recs H' q) hget
        have hpost : OpPost P N M (HT recs H' q) w r.v (HT recs H' q) ((execOp a.eval o).run P w) := by
          rw [← hexec]
          exact evMem_sound (hg0.mono hs.le) hs.rel hrm hmem2
        refine wpIn_of hnd hpost ?_
        intro M' v' w' hv hs'
        exact ih _ M' _ w' q hsz' hcnt' hcl' (hchain_same (by rw [hc]; decide)) (hs.trans hs') (hslots M' v' hs'.le hv) (hd' v')
      · -- it turns memory
        have hqi : q ≤ i := by
          rcases Nat.lt_or_ge i q with h0 | h0
          · have := (hchain i r hor hc).2 h0
            rw [hif] at this; cases this
          · exact h0
        have hHq : HT recs H' q = r.H := by
          have := HT_span (H' := H') hstay (i - q) q (by
            intro j rr h1 h2 hj hjc
            have hb := F.chain j i rr r hj hor hjc hc (by omega)
            have := (hchain j rr hj hjc).1 (hbit j hb)
            omega)
          rw [show q + (i - q) = i by omega] at this
          rw [← this, HT_some hor]
        rw [hHq] at hs
        have hpost := evOp_sound (w := w) hok hcall hy (hg0.mono hs.le) hs.rel hrm hev
        rw [hexec] at hpost
        refine wpIn_of hnd hpost ?_
        intro M' v' w' hv hs'
        refine ih _ M' _ w' (i + 1) hsz' hcnt' hcl' ?_ (hs.trans hs') (hslots M' v' hs'.le hv) (hd' v')
        intro j rr hj hjc
        rw [hupd]
        simp only [upd]
        split
        · rename_i hji; subst hji; simp
        · rename_i hji
          constructor
          · intro hl
            have := (hchain j rr hj hjc).1 hl
            omega
          · intro hlt
            exact hbit j (F.chain j i rr r hj hor hjc hc (by omega))
    · -- it is passed over
      rw [hwant] at hw
      rw [if_neg (by rw [wanted_eq hts o hw]; decide)]
      refine ⟨fun _ _ => True.intro, ?_⟩
      exact ih _ M _ w q hsz' hcnt' hcl' (hchain_same (by rw [hc]; decide)) hs (hslots M undef (Emb.le_refl M) (by rw [hv]; exact vrel_undef)) (hd' undef)
end
end Go.Dg
