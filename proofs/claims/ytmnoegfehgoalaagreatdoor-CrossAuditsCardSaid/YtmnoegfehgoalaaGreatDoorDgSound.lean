/- The abstract run is sound: operations, regions in order. -/
import Derived.Test.YtmnoegfehgoalaaGreatDoorDgCode
namespace Go.Dg
set_option linter.unusedVariables false
set_option linter.unusedSimpArgs false
def CallOk (P : Program) (G : Nat) (call : Ev) : Prop := ∀ f args H v H' log, call f args H = some (v, H', log) → f < Y → ∀ N M w args', Globs G M → HRel M N H w → LRel M args (Array.toList args') →
  Calls P f args' w fun e w' => ∃ M' v', e = .returned v' ∧ VRel M' v v' ∧ Stp N M H w M' H' w'
/-- Calls of yield: a round. -/
def YieldOk (P : Program) (G : Nat) (call : Ev) : Prop := ∀ k args H v H' log, call (Y + k) args H = some (v, H', log) → ∀ N M w args', Globs G M → HRel M N H w → LRel M args (Array.toList args') →
  ∀ b o sp, M k = some (b, o, sp) → ∃ fn tmps assign body, (Instr.yield b args').run P w = .ok (.round b fn tmps assign body) w ∧
    RoundIn Fence.wide 0 P b fn tmps assign body w fun e w' => ∃ M' v', e = .returned v' ∧ VRel M' v v' ∧ Stp N M H w M' H' w'
def LogOk (H H' : Heap) (log : List Nat) : Prop := H.objs.length = H.n → H'.objs.length = H'.n ∧ H.n ≤ H'.n ∧ ∀ k, k < H.n → k ∉ log → H'.get k = H.get k
def CallLog (call : Ev) : Prop := ∀ f args H v H' log, call f args H = some (v, H', log) → LogOk H H' log
def BodiesOk (P : Program) (ok : List Bool) : Prop := ∀ g, ok.getD g false = true → g < Y ∧ ∃ fn, P.funcs[g]? = some fn ∧ (fn.name == "runtime.NumGoroutine") = false ∧ fn.body.isNone = false
theorem Stp.below {N : Nat} {M M' : Emb} {H H' : Heap} {w w' : World} (hr : HRel M N H w) (h : Stp N M H w M' H' w') : RowKit.Below N w w' := by
  refine ⟨h.os, h.tape, h.output, h.size, fun k hk => ?_⟩
  refine h.frame k (Nat.lt_of_lt_of_le hk hr.base) fun j o sp ho hm => ?_
  obtain ⟨b1, o1, sp1, h1, h2⟩ := hr.obj j (AObj.live_of_owned ho)
  rw [hm] at h1
  cases h1
  have := h2.ge ho
  omega
theorem hrel_empty (w : World) : HRel (fun _ => none) w.heap.size ⟨0, []⟩ w := by
  have hdead : ∀ k, (⟨0, []⟩ : Heap).get k = .dead := fun k => by simp [Heap.get]
  refine ⟨rfl, ?_, ?_, ?_, Nat.le_refl _⟩
  · intro k x h; cases h
  · intro k h; rw [hdead] at h; cases h
  · intro k k' b o sp b' o' sp' _ h; rw [hdead] at h; cases h
/-- A step that turns nothing that was there. -/
theorem Stp.of_below {N : Nat} {M : Emb} {H : Heap} {w w' : World} (hr : HRel M N H w) (hb : RowKit.Below w.heap.size w w') : Stp N M H w M H w' := by
  refine ⟨⟨Emb.le_refl M, ⟨hr.len, hr.dom, fun k hk => ?_, hr.apart, Nat.le_trans hr.base hb.size⟩, hb.size, hb.os, hb.tape, hb.output, Nat.le_refl _, fun k b o sp ho hm => .inr ⟨k, o, sp, ho, hm⟩, fun b h _ => hb.block b h⟩, fun _ _ h => h⟩
  obtain ⟨b, o, sp, h1, h2⟩ := hr.obj k hk
  exact ⟨b, o, sp, h1, h2.block (hb.block b (h2.lt hk))⟩
def ownEmb (G : Nat) : Emb := fun g => if g < G then some (g, 0, 0) else none
theorem deadHeap_get (G k : Nat) : (deadHeap G).get k = .dead := by
  unfold Heap.get deadHeap
  split
  · rename_i h
    simp only
    rw [List.getD_eq_getElem?_getD, List.getElem?_replicate]
    split <;> rfl
  · rfl
theorem hrel_dead (G : Nat) (w : World) : HRel (ownEmb G) w.heap.size (deadHeap G) w := by
  refine ⟨by simp [deadHeap], ?_, ?_, ?_, Nat.le_refl _⟩
  · intro k x h
    unfold ownEmb at h
    split at h
    · assumption
    · cases h
  · intro k h; rw [deadHeap_get] at h; cases h
  · intro k k' b o sp b' o' sp' _ h; rw [deadHeap_get] at h; cases h
theorem globs_own (G : Nat) : Globs G (ownEmb G) := fun g hg => by unfold ownEmb; rw [if_pos hg]
theorem flatCall_ok {P : Program} {G : Nat} {call : Ev} (hc : CallOk P G call) : CallOk P G (flatCall P G call) := by
  intro f args H v H' log h hY N M w args' hg hr hl
  unfold flatCall at h
  split at h
  · rename_i hcond
    simp only [isFlatCall, Bool.and_eq_true] at hcond
    obtain ⟨_, hf⟩ := hcond
    split at h
    · rename_i v1 H1 l1 hcall
      split at h
      · rename_i hz
        simp only [Bool.and_eq_true] at hz
        simp only [Option.some.injEq, Prod.mk.injEq] at h
        obtain ⟨rfl, rfl, rfl⟩ := h
        have hr0 := hrel_dead G w
        have he := hl.eq_of_flat hf
        refine (hc f args _ v1 H1 l1 hcall hY w.heap.size (ownEmb G) w args' (globs_own G) hr0 (by rw [he]; exact LRel.of_flat _ hf)).mono ?_
        rintro e w' ⟨M', v', rfl, hv', hs⟩
        rw [hv'.eq_of_flat hz.2]
        exact ⟨M, v1, rfl, vrel_of_flat _ _ hz.2, .of_below hr (hs.below hr0)⟩
      · cases h
    · cases h
  · cases h
theorem restCall_ok {P : Program} {G : Nat} {call : Ev} (hc : CallOk P G call) : CallOk P G (restCall P G call) := by
  intro f args H v H' log h
  unfold restCall at h
  split at h
  · cases h
  · exact hc f args H v H' log h
theorem restCall_log {P : Program} {G : Nat} {call : Ev} (hc : CallLog call) : CallLog (restCall P G call) := by
  intro f args H v H' log h
  unfold restCall at h
  split at h
  · cases h
  · exact hc f args H v H' log h
theorem flatCall_eq {P : Program} {G : Nat} {call : Ev} {f : FuncId} {args : List Value} {H H' : Heap} {v : Value} {log : List Nat} (h : flatCall P G call f args H = some (v, H', log)) : H' = H ∧ log = [] ∧ ∀ H2, flatCall P G call f args H2 = some (v, H2, []) := by
  unfold flatCall at h ⊢
  split at h
  · rename_i hcond
    split at h
    · split at h
      · rename_i hz
        simp only [Option.some.injEq, Prod.mk.injEq] at h
        obtain ⟨rfl, rfl, rfl⟩ := h
        refine ⟨rfl, rfl, fun H2 => ?_⟩
        simp only [hcond, if_true, hz]
      · cases h
    · cases h
  · cases h
theorem flatOp_eq {P : Program} {G : Nat} {ok : List Bool} {call : Ev} {ts : List Value} {H H' : Heap} {o : Oper} {v : Value} {log : List Nat} (h : evCallOp P G ok (flatCall P G call) ts H o = some (v, H', log)) :
    H' = H ∧ log = [] ∧ ∀ H2, evCallOp P G ok (flatCall P G call) ts H2 o = some (v, H2, []) := by
  unfold evCallOp at h ⊢
  split at h
  · rename_i heq
    split at h
    · rename_i h1 h2
      split at h
      · rename_i h3
        obtain ⟨e1, e2, e3⟩ := flatCall_eq h
        refine ⟨e1, e2, fun H2 => ?_⟩
        simp only [heq, h1, h2, h3, if_true]
        exact e3 H2
      · cases h
    · cases h
  · rename_i heq
    split at h
    · rename_i h1 h2
      split at h
      · rename_i h4
        split at h
        · rename_i h3
          obtain ⟨e1, e2, e3⟩ := flatCall_eq h
          refine ⟨e1, e2, fun H2 => ?_⟩
          simp only [heq, h1, h2, h4, h3, if_true]
          exact e3 H2
        · cases h
      · cases h
    · cases h
  · cases h
theorem bodied_ok (P : Program) : BodiesOk P (bodied P) := by
  intro g hg
  unfold bodied at hg
  rw [List.getD_eq_getElem?_getD, List.getElem?_map, List.getElem?_take] at hg
  by_cases hY : g < Y
  rotate_left
  · rw [if_neg hY] at hg; cases hg
  rw [if_pos hY] at hg
  refine ⟨hY, ?_⟩
  cases h : P.funcs.toList[g]? with
  | none => rw [h] at hg; cases hg
  | some fn =>
    rw [h] at hg
    simp only [Option.map_some, Option.getD_some, Bool.and_eq_true, Bool.not_eq_true'] at hg
    refine ⟨fn, by simpa using h, hg.2, ?_⟩
    cases hb : fn.body with
    | none => rw [hb] at hg; simp at hg
    | some c => rfl
section
variable {P : Program} {G N : Nat} {M : Emb} {H : Heap} {w : World} {ts : List Value} {a : Act} {ok : List Bool} {call : Ev}
theorem callFunc_run (hok : BodiesOk P ok) {g : FuncId} (h : ok.getD g false = true) (args : Array Value) (w : World) : (callFunc g args).run P w = .ok (.enter g args) w := by
  obtain ⟨_, fn, h1, h2, h3⟩ := hok g h
  simp only [callFunc, Sem.run_bind, run_program, Result.andThen_ok, h1, h2, h3, Bool.false_eq_true, if_false, Sem.run_pure]
theorem OpPost.enter {g : FuncId} {args' : Array Value} {v : Value} {H' : Heap} (h : Calls P g args' w fun e w' => ∃ M' v', e = .returned v' ∧ VRel M' v v' ∧ Stp N M H w M' H' w') :
    OpPost P N M H w v H' (.ok (.enter g args') w) := by
  intro rd next Q a o hn
  rw [Oper.uponIn_enter]
  refine ⟨fun h => by simp [FR, Fence.wide] at h, ?_⟩
  refine CallsIn.mono (F := FR rd) (n := 0) (callsIn_wide (n := 0).2 h) ?_
  rintro e w' ⟨M', v', rfl, hv, hs⟩
  exact hn M' v' w' hv hs
theorem method_run {t : TypeId} {name : String} {g : FuncId} (h : methodOf P t name = some g) (v : Value) (fuel : Nat) (w : World) : (method (fuel + 1) t v name).run P w = .ok (g, v) w := by
  unfold methodOf at h
  split at h
  rotate_left
  · cases h
  rename_i i hi
  split at h
  rotate_left
  · cases h
  rename_i m hm
  split at h
  rotate_left
  · cases h
  rename_i hp
  have hp' : m.path.toList = [] := by simpa using hp
  simp only [method, Sem.run_bind, typeInfo, run_program, Result.andThen_ok, hi, Sem.run_pure, hm, hp', follow]
  split at h
  · rename_i f e hf hu
    cases h
    simp only [hf, receiverAt, Sem.run_bind, under_run hu, Result.andThen_ok, Place.get, Sem.run_pure]
  · cases h
  · rename_i f d hno hf hu
    cases h
    have hd : ∀ e, d ≠ .pointer e := by
      intro e he
      exact hno e he
    simp only [hf, receiverAt, Sem.run_bind, under_run hu, Result.andThen_ok]
    cases d <;> first | (exact absurd rfl (hd _)) | simp only [Place.get, Sem.run_pure, Result.andThen_ok]
  · cases h
theorem methodV_run {t : TypeId} {name : String} {g : FuncId} {v v' rv : Value} (h : methodV P t name v = some (g, rv)) (hv : VRel M v v') (fuel : Nat) (w : World) : ∃ rv', (method (fuel + 1) t v' name).run P w = .ok (g, rv') w ∧ VRel M rv rv' := by
  unfold methodV at h
  split at h
  · rename_i g' hm
    cases h
    exact ⟨v', method_run hm v' fuel w, hv⟩
  split at h
  rotate_left
  · cases h
  rename_i i hi
  split at h
  rotate_left
  · cases h
  rename_i m hm
  split at h
  rotate_left
  · cases h
  rename_i s g' p hp hf
  split at h
  rotate_left
  · cases h
  rename_i fields hst
  split at h
  rotate_left
  · cases h
  rename_i f hfd
  split at h
  rotate_left
  · cases h
  rename_i e hu ha
  split at h
  rotate_left
  · cases h
  rename_i hc
  cases h
  simp only [Bool.and_eq_true, Bool.not_eq_true'] at hc
  obtain ⟨c1, c2⟩ := hc
  have c2' := Nat.eq_of_beq_eq_true c2
  obtain ⟨cs, rfl, hcs⟩ := hv.agg_inv
  have hl := hcs.toList
  obtain ⟨lc⟩ := cs
  obtain ⟨p', r', h1, h2, h3⟩ := hl.cons_inv
  have h4 := h3.nil_inv
  subst h4
  have e1 : lc = [p'] := h1
  subst e1
  refine ⟨p', ?_, h2⟩
  have ha' := eval0_run P _ _ ha w
  simp only [method, Sem.run_bind, typeInfo, run_program, Result.andThen_ok, hi, Sem.run_pure, hm, hp, follow, under_run hst, hfd, c1, Bool.false_eq_true, if_false, part, ha', c2']
  simp only [hf, receiverAt, Sem.run_bind, under_run hu, Result.andThen_ok, Place.get, Sem.run_pure, List.getElem?_toArray, List.getElem?_cons_zero]
theorem evCallOp_sound (hok : BodiesOk P ok) (hcall : CallOk P G call) (hg : Globs G M) (hr : HRel M N H w) (hts : TRel M ts a.tmps.toList) {o : Oper} {v : Value} {H' : Heap} {log : List Nat}
    (h : evCallOp P G ok call ts H o = some (v, H', log)) : OpPost P N M H w v H' ((execOp a.eval o).run P w) := by
  obtain ⟨dst, op, type, pos, after, guard⟩ := o
  unfold evCallOp at h
  simp only at h
  split at h
  · rename_i f args argTypes
    split at h
    rotate_left
    · cases h
    rename_i g first captured l hf hl
    split at h
    rotate_left
    · cases h
    rename_i hgo
    obtain ⟨first', captured', ev, h1, h2⟩ := (rd_sound hg hts hf).func_inv
    have hargs := rdAll_sound (a := a) hg hts _ _ hl
    have ea : (args.toList.map a.eval) = (args.map a.eval).toList := by simp
    have hall : LRel M (first.toList ++ l ++ captured.toList) (first' ++ args.map a.eval ++ captured').toList := by
      rw [ea] at hargs
      simp only [Array.toList_append]
      exact (h1.toList.append hargs).append h2.toList
    simp only [execOp, resolve, ev, Deferred.ofValue, Sem.run_bind, Sem.run_pure, Result.andThen_ok, invoke, callFunc_run hok hgo]
    exact .enter (hcall _ _ _ _ _ _ h (hok _ hgo).1 N M w _ hg hr hall)
  · rename_i r name args argTypes
    split at h
    rotate_left
    · cases h
    rename_i t u l hr0 hl
    split at h
    rotate_left
    · cases h
    rename_i g hm
    split at h
    rotate_left
    · cases h
    rename_i hgo
    obtain ⟨u', ev, hu⟩ := (rd_sound hg hts hr0).iface_inv
    have hargs := rdAll_sound (a := a) hg hts _ _ hl
    have ea : (args.toList.map a.eval) = (args.map a.eval).toList := by simp
    have hall : LRel M (u :: l) (#[u'] ++ args.map a.eval).toList := by
      rw [ea] at hargs
      simp only [Array.toList_append]
      exact LRel.cons hu hargs
    have hmeth : (method (P.types.size + Made.depth) t u' name).run P w = .ok (g, u') w := by
      have e : P.types.size + Made.depth = (P.types.size + Made.depth - 1) + 1 := by
        have : 0 < Made.depth := by decide
        omega
      rw [e]; exact method_run hm u' _ w
    have eargs : (#[Value.iface t u'] ++ args.map a.eval).extract 1 (#[Value.iface t u'] ++ args.map a.eval).size = args.map a.eval := by
      apply Array.ext'
      simp
      rw [List.take_of_length_le (by simp)]
    have e0 : (#[Value.iface t u'] ++ args.map a.eval)[0]? = some (Value.iface t u') := by
      rw [Array.getElem?_append_left (by show 0 < 1; decide)]; rfl
    simp only [execOp, resolve, Sem.run_bind, Sem.run_pure, Result.andThen_ok, invoke, ev]
    rw [e0]
    simp only [eargs, callMethod, Sem.run_bind, Sem.run_pure, Result.andThen_ok, run_program, hmeth, callFunc_run hok hgo]
    exact .enter (hcall _ _ _ _ _ _ h (hok _ hgo).1 N M w _ hg hr hall)
  · cases h
theorem VRel.yield_inv {M : Emb} {k : Nat} {x y : Array Value} {v' : Value} (h : VRel M (.func (.yield k) x y) v') : ∃ b o sp, M k = some (b, o, sp) ∧ v' = .func (.yield b) #[] #[] := by
  cases h with
  | atom h0 => cases h0
  | func h0 => cases h0
  | yield h0 => exact ⟨_, _, _, h0, rfl⟩
theorem evYieldOp_sound (hy : YieldOk P G call) (hg : Globs G M) (hr : HRel M N H w) (hts : TRel M ts a.tmps.toList) {o : Oper} {v : Value} {H' : Heap} {log : List Nat}
    (h : evYieldOp G call ts H o = some (v, H', log)) : OpPost P N M H w v H' ((execOp a.eval o).run P w) := by
  obtain ⟨dst, op, type, pos, after, guard⟩ := o
  unfold evYieldOp at h
  simp only at h
  split at h
  rotate_left
  · cases h
  rename_i f args argTypes
  split at h
  rotate_left
  · cases h
  rename_i k first captured l hf hl
  split at h
  rotate_left
  · cases h
  obtain ⟨b, o, sp, hM, ev⟩ := (rd_sound hg hts hf).yield_inv
  have hargs := rdAll_sound (a := a) hg hts _ _ hl
  have ea : (args.toList.map a.eval) = (args.map a.eval).toList := by simp
  rw [ea] at hargs
  obtain ⟨fn, tmps, assign, body, h1, h2⟩ := hy k l H v H' log h N M w (args.map a.eval) hg hr hargs b o sp hM
  have hexe : (execOp a.eval { dst := dst, op := .call { callee := .value f, args := args, argTypes := argTypes }, type := type, pos := pos, after := after, guard := guard }).run P w = .ok (.round b fn tmps assign body) w := by
    simp only [execOp, resolve, ev, Deferred.ofValue, Sem.run_bind, Sem.run_pure, Result.andThen_ok, invoke]
    simpa using h1
  rw [hexe]
  intro rd next Q a' o' hn
  rw [Oper.uponIn_round]
  refine ⟨fun h => by simp [FR, Fence.wide] at h, ?_⟩
  refine RoundIn.mono (F := FR rd) (n := 0) h2 ?_
  rintro e w' ⟨M', v', rfl, hv, hs⟩
  exact hn M' v' w' hv hs
theorem extOf_inv {g : FuncId} {name : String} (h : extOf P ok g = some name) : ∃ fn, P.funcs[g]? = some fn ∧ fn.body.isNone = true ∧ fn.origin = "" ∧ (fn.name == "runtime.NumGoroutine") = false ∧ fn.name = name := by
  unfold extOf at h
  split at h
  · cases h
  split at h
  rotate_left
  · cases h
  rename_i fn hfn
  split at h
  rotate_left
  · cases h
  rename_i hc
  cases h
  simp only [Bool.and_eq_true, Bool.not_eq_true', beq_iff_eq] at hc
  exact ⟨fn, hfn, hc.1.1, hc.1.2, hc.2, rfl⟩
theorem evExtOp_sound (hg : Globs G M) (hr : HRel M N H w) (hts : TRel M ts a.tmps.toList) {o : Oper} {v : Value} {H' : Heap} {log : List Nat} (h : evExtOp P G ok ts H o = some (v, H', log)) : OpPost P N M H w v H' ((execOp a.eval o).run P w) := by
  obtain ⟨dst, op, type, pos, after, guard⟩ := o
  unfold evExtOp at h
  simp only at h
  split at h
  · rename_i f args argTypes
    split at h
    rotate_left
    · cases h
    rename_i g first captured l hf hl
    split at h
    rotate_left
    · cases h
    rename_i name hx
    obtain ⟨fn, hfn, hb, ho, hn, rfl⟩ := extOf_inv hx
    obtain ⟨first', captured', ev, h1, h2⟩ := (rd_sound hg hts hf).func_inv
    have hargs := rdAll_sound (a := a) hg hts _ _ hl
    have ea : (args.toList.map a.eval) = (args.map a.eval).toList := by simp
    have hall : LRel M (first.toList ++ l ++ captured.toList) (first' ++ args.map a.eval ++ captured').toList := by
      rw [ea] at hargs
      simp only [Array.toList_append]
      exact (h1.toList.append hargs).append h2.toList
    obtain ⟨v', M', w', q1, q2, q3⟩ := extRun_run (P := P) hg hr hfn hb ho hn hall h
    simp only [execOp, resolve, ev, Deferred.ofValue, Sem.run_bind, Sem.run_pure, Result.andThen_ok, invoke, q1]
    exact .value q2 q3
  · rename_i r name args argTypes
    split at h
    rotate_left
    · cases h
    rename_i t u l hr0 hl
    split at h
    rotate_left
    · cases h
    rename_i g rv hm
    split at h
    rotate_left
    · cases h
    rename_i nm hx
    obtain ⟨fn, hfn, hb, ho, hn, rfl⟩ := extOf_inv hx
    obtain ⟨u', ev, hu⟩ := (rd_sound hg hts hr0).iface_inv
    have hargs := rdAll_sound (a := a) hg hts _ _ hl
    have ea : (args.toList.map a.eval) = (args.map a.eval).toList := by simp
    obtain ⟨rv', hmeth, hrv⟩ : ∃ rv', (method (P.types.size + Made.depth) t u' name).run P w = .ok (g, rv') w ∧ VRel M rv rv' := by
      have e : P.types.size + Made.depth = (P.types.size + Made.depth - 1) + 1 := by
        have : 0 < Made.depth := by decide
        omega
      rw [e]; exact methodV_run hm hu _ w
    have hall : LRel M (rv :: l) (#[rv'] ++ args.map a.eval).toList := by
      rw [ea] at hargs
      simp only [Array.toList_append]
      exact LRel.cons hrv hargs
    have eargs : (#[Value.iface t u'] ++ args.map a.eval).extract 1 (#[Value.iface t u'] ++ args.map a.eval).size = args.map a.eval := by
      apply Array.ext'
      simp
      rw [List.take_of_length_le (by simp)]
    have e0 : (#[Value.iface t u'] ++ args.map a.eval)[0]? = some (Value.iface t u') := by
      rw [Array.getElem?_append_left (by show 0 < 1; decide)]; rfl
    obtain ⟨v', M', w', q1, q2, q3⟩ := extRun_run (P := P) hg hr hfn hb ho hn hall h
    simp only [execOp, resolve, Sem.run_bind, Sem.run_pure, Result.andThen_ok, invoke, ev]
    rw [e0]
    simp only [eargs, callMethod, Sem.run_bind, Sem.run_pure, Result.andThen_ok, run_program, hmeth, q1]
    exact .value q2 q3
  · cases h
theorem evOp_sound (hok : BodiesOk P ok) (hcall : CallOk P G call) (hy : YieldOk P G call) (hg : Globs G M) (hr : HRel M N H w) (hts : TRel M ts a.tmps.toList) {o : Oper} {c : Nat} {v : Value} {H' : Heap} {log : List Nat}
    (h : evOp P G ok call ts H o = some (c, v, H', log)) : OpPost P N M H w v H' ((execOp a.eval o).run P w) := by
  unfold evOp at h
  split at h
  · rename_i u hu; cases h; exact evShape_sound hg hr hts hu
  · split at h
    · rename_i u H1 l hu; cases h; exact evMem_sound hg hr hts hu
    · split at h
      · rename_i u H1 l hu; cases h; exact evExtOp_sound hg hr hts hu
      · split at h
        · rename_i u H1 l hu
          cases h
          obtain ⟨rfl, rfl, _⟩ := flatOp_eq hu
          exact evCallOp_sound hok (flatCall_ok hcall) hg hr hts hu
        · split at h
          · rename_i u H1 l hu; cases h; exact evCallOp_sound hok (restCall_ok hcall) hg hr hts hu
          · split at h
            · rename_i u H1 l hu; cases h; exact evYieldOp_sound hy hg hr hts hu
            · split at h
              · rename_i u hu; cases h; exact evGen_sound hg hr hts hu
              · split at h
                · rename_i u H1 l hu; cases h; exact evUns_sound hg hr hts hu
                · cases h
theorem yielded_eq {ops : Array Oper} (hts : TRel M ts a.tmps.toList) (j : Nat) {y : Option Bool} (h : yieldedL ops ts j = some y) : yielded ops a.tmps j = y := by
  unfold yieldedL at h
  unfold yielded
  cases hd : (ops[j]?).bind (·.dst) with
  | none => rw [hd] at h; simp at h; rw [← h]; rfl
  | some d =>
    rw [hd] at h
    simp only [Option.bind_some] at h ⊢
    cases h1 : ts[d]? with
    | none =>
      have h2 : a.tmps[d]? = none := by have := hts.1; simp at h1 this ⊢; omega
      rw [h1] at h
      rw [h2]
      simpa using h
    | some u =>
      obtain ⟨u', h2, h3⟩ := hts.get h1
      have h2' : a.tmps[d]? = some u' := by simpa using h2
      rw [h1] at h
      rw [h2']
      by_cases hj : isJunk u = true
      · cases u <;> simp [isJunk] at hj
        simp at h
      · have h4 := h3 (by simpa using hj)
        cases h4 with
        | atom h0 => cases u <;> simp_all [isJunk]
        | _ => simpa using h
theorem wanted_eq {ops : Array Oper} (hts : TRel M ts a.tmps.toList) (o : Oper) {b : Bool} (h : wantedL ops ts o = some b) : Region.wanted o (yielded ops a.tmps) = b := by
  unfold wantedL at h
  unfold Region.wanted
  cases hg : o.guard with
  | none => rw [hg] at h; simpa using h
  | some x =>
    obtain ⟨j, want⟩ := x
    rw [hg] at h
    simp only at h ⊢
    split at h
    · rename_i y hy
      rw [yielded_eq hts j hy]
      simpa using h
    · cases h
theorem put_rel (hts : TRel M ts a.tmps.toList) {v v' : Value} (hv : VRel M v v') (dst : Option Tmp) : TRel M (putL ts dst v) (a.put dst v').tmps.toList := by
  cases dst with
  | none => exact hts
  | some d =>
    simp only [putL, Act.put, Array.toList_setIfInBounds]
    exact hts.set hv d
theorem put_defers {a : Act} {dst : Option Tmp} {v : Value} : (a.put dst v).defers = a.defers := by cases dst <;> rfl
/-- One operation, as the walk does it. -/
theorem wpIn_of {rd : Option Nat} {v : Value} {H' : Heap} {o : Oper} {next : Act → World → Prop} {Q : Exit → Act → World → Prop} (hnd : ∀ c, o.op ≠ .defer c) (h : OpPost P N M H w v H' ((execOp a.eval o).run P w))
    (hn : ∀ M' v' w', VRel M' v v' → Stp N M H w M' H' w' → next (a.put o.dst v') w') : o.wpIn (FR rd) 0 P a w next Q := by
  refine ⟨fun _ _ => True.intro, ?_⟩
  rw [Oper.semAt_eq _ _ _ hnd]
  exact h rd next Q a o hn
theorem evOp_nodefer {o : Oper} {r : Nat × Value × Heap × List Nat} (h : evOp P G ok call ts H o = some r) : ∀ c, o.op ≠ .defer c := by
  intro c hc
  obtain ⟨dst, op, type, pos, after, guard⟩ := o
  simp only at hc
  subst hc
  simp [evOp, evShape, evMem, evExtOp, evCallOp, evYieldOp, evGen, evEq, evGen0, noSelect, evUns] at h
theorem evOp_wp {rd : Option Nat} (hok : BodiesOk P ok) (hcall : CallOk P G call) (hy : YieldOk P G call) (hg : Globs G M) (hr : HRel M N H w) (hts : TRel M ts a.tmps.toList) {o : Oper} {c : Nat} {v : Value} {H' : Heap} {log : List Nat}
    (h : evOp P G ok call ts H o = some (c, v, H', log)) {next : Act → World → Prop} {Q : Exit → Act → World → Prop}
    (hn : ∀ M' v' w', VRel M' v v' → Stp N M H w M' H' w' → next (a.put o.dst v') w') : o.wpIn (FR rd) 0 P a w next Q :=
  wpIn_of (evOp_nodefer h) (evOp_sound hok hcall hy hg hr hts h) hn
theorem evOps_sound {rd : Option Nat} (hok : BodiesOk P ok) (hcall : CallOk P G call) (hy : YieldOk P G call) {base : Nat} {ops : Array Oper} {Q : Exit → Act → World → Prop} : ∀ (l : List Oper) (is : List Nat), (∀ (j : Nat), (is[j]?).bind (ops[·]?) = l[j]?) → is.length = l.length → ∀ (s s' : St) (M : Emb) (a : Act) (w : World),
    Globs G M → HRel M N s.H w → TRel M s.ts a.tmps.toList → evOps P G ok call base ops l s = some s' →
    (∀ M' a' w', Stp N M s.H w M' s'.H w' → TRel M' s'.ts a'.tmps.toList → a'.defers = a.defers → Q .normal a' w') → wpOpsIn (FR rd) 0 P ops Q is a w := by
  intro l
  induction l with
  | nil =>
    intro is hi hl s s' M a w hg hr hts h hq
    have : is = [] := by simpa using hl
    subst this
    simp only [evOps, Option.some.injEq] at h
    subst h
    exact hq M a w (Stp.refl hr) hts rfl
  | cons o r ih =>
    intro is hi hl s s' M a w hg hr hts h hq
    cases is with
    | nil => simp at hl
    | cons i rest =>
      have ho : ops[i]? = some o := by have := hi 0; simpa using this
      have hi' : ∀ (j : Nat), (rest[j]?).bind (ops[·]?) = r[j]? := fun j => by have := hi (j + 1); simpa using this
      have hl' : rest.length = r.length := by simpa using hl
      simp only [wpOpsIn, ho]
      simp only [evOps] at h
      split at h
      · rename_i hw
        rw [if_pos (wanted_eq hts o hw)]
        split at h
        · rename_i c v H1 lg hev
          refine evOp_wp hok hcall hy hg hr hts hev ?_
          intro M' v' w' hv hs
          refine ih rest hi' hl' _ s' M' _ w' (hg.mono hs.le) hs.rel (put_rel (hts.mono hs.le) hv o.dst) h ?_
          intro M2 a2 w2 hs2 hts2 hd2
          exact hq M2 a2 w2 (hs.trans hs2) hts2 (hd2.trans put_defers)
        · cases h
      · rename_i hw
        rw [if_neg (by rw [wanted_eq hts o hw]; decide)]
        refine ⟨fun _ _ => True.intro, ?_⟩
        refine ih rest hi' hl' ⟨putL s.ts o.dst undef, s.H, s.log⟩ s' M _ w hg hr (put_rel hts vrel_undef o.dst) h ?_
        intro M2 a2 w2 hs2 hts2 hd2
        exact hq M2 a2 w2 hs2 hts2 (hd2.trans put_defers)
      · cases h
end
end Go.Dg
