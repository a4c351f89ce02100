/- The run with hints: it agrees with the abstract run where its obligations hold. -/
import Derived.Test.YtmnoegfehgoalaaGreatDoorDgSym
namespace Go.Dg
set_option linter.unusedVariables false
set_option linter.unusedSimpArgs false
def evCallOpS (P : Program) (G : Nat) (ok : List Bool) (call : EvS) (ts : List Value) (H : Heap) (o : Oper) (hs : List Hint) : Option (Value × Heap × List Nat × List Hint × List Prop) :=
  match o.op with
  | .call { callee := .value f, args, .. } => match rd G ts f, rdAll G ts args.toList with
    | some (.func (.func g) first captured), some l => if ok.getD g false then call g (first.toList ++ l ++ captured.toList) H hs else none
    | _, _ => none
  | .call { callee := .invoke r name, args, .. } => match rd G ts r, rdAll G ts args.toList with
    | some (.iface t v), some l => match methodOf P t name with
      | some g => if ok.getD g false then call g (v :: l) H hs else none
      | none => none
    | _, _ => none
  | _ => none
def flatCallS (P : Program) (G : Nat) (call : EvS) : EvS := fun f args H hs =>
  if isFlatCall P G f args then match call f args (deadHeap G) hs with
    | some (v, H', log, hs', ob) => if Nat.beq H'.n G && log.isEmpty && flat v then some (v, H, [], hs', ob) else none
    | none => none
  else none
def restCallS (P : Program) (G : Nat) (call : EvS) : EvS := fun f args H hs => if isFlatCall P G f args then none else call f args H hs
def evYieldOpS (G : Nat) (call : EvS) (ts : List Value) (H : Heap) (o : Oper) (hs : List Hint) : Option (Value × Heap × List Nat × List Hint × List Prop) :=
  match o.op with
  | .call { callee := .value f, args, .. } => match rd G ts f, rdAll G ts args.toList with
    | some (.func (.yield k) first captured), some l => if first.isEmpty && captured.isEmpty then call (Y + k) l H hs else none
    | _, _ => none
  | _ => none
def isCallOp : Op → Bool
  | .call { callee := .value _, .. } => true
  | .call { callee := .invoke _ _, .. } => true
  | _ => false
def baseOpS (P : Program) (G : Nat) (ok : List Bool) (call : EvS) (ts : List Value) (H : Heap) (o : Oper) (hs : List Hint) : Option (Nat × Value × Heap × List Nat × List Hint × List Prop) :=
  match evShape P G ts o with
  | some v => some (0, v, H, [], hs, [])
  | none => match evMem P G ts H o with
    | some (v, H', log) => some (if isReader P o.op then 1 else 2, v, H', log, hs, [])
    | none => if isCallOp o.op then match evExtOp P G ok ts H o with
        | some (v, H', log) => some (2, v, H', log, hs, [])
        | none => match evCallOpS P G ok (flatCallS P G call) ts H o hs with
          | some (v, _, _, hs', obs) => some (0, v, H, [], hs', obs)
          | none => match evCallOpS P G ok (restCallS P G call) ts H o hs with
            | some (v, H', log, hs', obs) => some (2, v, H', log, hs', obs)
            | none => match evYieldOpS G call ts H o hs with
              | some (v, H', log, hs', obs) => some (2, v, H', log, hs', obs)
              | none => none
      else match evGen P G ts o with
        | some v => some (0, v, H, [], hs, [])
        | none => match evUns P G ts H o with
          | some (v, H', log) => some (2, v, H', log, hs, [])
          | none => none
def evOpS (P : Program) (G : Nat) (ok : List Bool) (call : EvS) (f : Nat) (ts : List Value) (H : Heap) (o : Oper) (hs : List Hint) : Option (Nat × Value × Heap × List Nat × List Hint × List Prop) :=
  match hs with
  | .soft f' t v :: r => if Nat.beq f' f && o.dst == some t then match softOp P G ts H o v with
      | some (c, ob) => some (c, v, H, [], r, ob)
      | none => none
    else baseOpS P G ok call ts H o (.soft f' t v :: r)
  | .softH f' t v H' log :: r => if Nat.beq f' f && Nat.beq (o.dst.getD 0) t then match softH P G ts H o v H' log with
      | some ob => some (2, v, H', log, r, ob)
      | none => none
    else baseOpS P G ok call ts H o (.softH f' t v H' log :: r)
  | .val f' t v :: r => if Nat.beq f' f && o.dst == some t then match baseOpS P G ok call ts H o r with
      | some (c, v0, H', log, r', ob) => some (c, v, H', log, r', ob ++ [v0 = v])
      | none => none
    else baseOpS P G ok call ts H o (.val f' t v :: r)
  | hs => baseOpS P G ok call ts H o hs
def evOpsS (P : Program) (G : Nat) (ok : List Bool) (call : EvS) (f base : Nat) (ops : Array Oper) : List Oper → St → List Hint → Option (St × List Hint × List Prop)
  | [], s, hs => some (s, hs, [])
  | o :: r, s, hs =>
    match wantedL ops s.ts o with
    | some true => match evOpS P G ok call f s.ts s.H o hs with
      | some (_, v, H', log, hs', ob) => match evOpsS P G ok call f base ops r ⟨putL s.ts o.dst v, H', addLog base log s.log⟩ hs' with
        | some (s', hs2, ob2) => some (s', hs2, ob ++ ob2)
        | none => none
      | none => none
    | some false => evOpsS P G ok call f base ops r ⟨putL s.ts o.dst undef, s.H, s.log⟩ hs
    | none => none
def evTraceS (P : Program) (G : Nat) (ok : List Bool) (call : EvS) (f : Nat) (ops : Array Oper) : List Oper → List Value → Heap → List Hint → Option (List Rec × Heap × List Hint × List Prop)
  | [], _, H, hs => some ([], H, hs, [])
  | o :: r, ts, H, hs =>
    match wantedL ops ts o with
    | some true =>
      match evOpS P G ok call f (mask (looks ops o) ts) H o hs with
      | some (c, v, H', log, hs', ob) => match evTraceS P G ok call f ops r (putL ts o.dst v) H' hs' with
        | some (l, H2, hs2, ob2) => some (⟨c, v, H, log, touchedBy G (mask (looks ops o) ts) o.op, idsOfL (mask (looks ops o) ts)⟩ :: l, H2, hs2, ob ++ ob2)
        | none => none
      | none => none
    | some false => match evTraceS P G ok call f ops r (putL ts o.dst undef) H hs with
      | some (l, H2, hs2, ob2) => some (⟨0, undef, H, [], [], []⟩ :: l, H2, hs2, ob2)
      | none => none
    | none => none
def evDrawS (P : Program) (G : Nat) (ok : List Bool) (call : EvS) (f base : Nat) (ops : Array Oper) (s : St) (hs : List Hint) : Option (St × List Hint × List Prop) :=
  match evTraceS P G ok call f ops ops.toList s.ts s.H hs with
  | some (recs, H', hs', ob) =>
    if drawOk ops recs || floatOk ops recs s.H.n H' then
      some (⟨(ops.toList.zip recs).foldl (fun ts (o, r) => putL ts o.dst r.v) s.ts, H', recs.foldl (fun l r => addLog base r.log l) s.log⟩, hs', ob)
    else none
  | none => none
def gcS (f base : Nat) (vals : List Value) (log : List Nat) (H : Heap) : List Hint → (List Value × Heap) × List Hint × List Prop
  | .gc f' vs H' :: r => if Nat.beq f' f then ((vs, H'), r, [gcAt base vals log H = (vs, H')]) else (gcAt base vals log H, .gc f' vs H' :: r, [])
  | hs => (gcAt base vals log H, hs, [])
theorem gcS_ok {f base : Nat} {vals : List Value} {log : List Nat} {H : Heap} {hs hs' : List Hint} {x : List Value × Heap} {ob : List Prop} (h : gcS f base vals log H hs = (x, hs', ob)) (ho : AllP ob) : gcAt base vals log H = x := by
  unfold gcS at h
  split at h
  · split at h
    · simp only [Prod.mk.injEq] at h
      obtain ⟨rfl, rfl, rfl⟩ := h
      exact ho.1
    · simp only [Prod.mk.injEq] at h
      exact h.1
  · simp only [Prod.mk.injEq] at h
    exact h.1
def cleanS (f base sb : Nat) (keep : List Nat) (s : St) (hs : List Hint) : St × List Hint × List Prop :=
  match gcS f base (cleanTs sb keep s.ts) s.log s.H hs with
  | (r, hs', ob) => (⟨r.1, r.2, s.log⟩, hs', ob)
theorem cleanS_ok {f base sb : Nat} {keep : List Nat} {s s' : St} {hs hs' : List Hint} {ob : List Prop} (h : cleanS f base sb keep s hs = (s', hs', ob)) (ho : AllP ob) : cleanSt base sb keep s = s' := by
  unfold cleanS at h
  cases hg : gcS f base (cleanTs sb keep s.ts) s.log s.H hs with
  | mk r x =>
    obtain ⟨h1, ob1⟩ := x
    rw [hg] at h
    simp only [Prod.mk.injEq] at h
    obtain ⟨rfl, rfl, rfl⟩ := h
    unfold cleanSt
    simp only [gcS_ok hg ho]
def evLoopS (body : St → List Hint → Option (Ex × St × List Hint × List Prop)) (clean : St → List Hint → St × List Hint × List Prop) : Nat → St → List Hint → Option (Ex × St × List Hint × List Prop)
  | 0, _, _ => none
  | n + 1, s, hs => match clean s hs with
    | (s1, hs1, ob1) => match body s1 hs1 with
      | some (ex, s2, hs2, ob2) => match ex with
        | .normal => match evLoopS body clean n s2 hs2 with
          | some (ex', s3, hs3, ob3) => some (ex', s3, hs3, ob1 ++ (ob2 ++ ob3))
          | none => none
        | ex => some (ex, s2, hs2, ob1 ++ ob2)
      | none => none
def evCodeSK (P : Program) (G : Nat) (ok : List Bool) (call : Ev) (callS : EvS) (f base sb lf : Nat) : Code → List Nat → St → List Hint → Option (Ex × St × List Hint × List Prop)
  | .skip, kp, s, hs => some (.normal, s, hs, [])
  | .label _, kp, s, hs => some (.normal, s, hs, [])
  | .region _ ops d, kp, s, hs => match (if d then evDrawS P G ok callS f base ops s hs else evOpsS P G ok callS f base ops ops.toList s hs) with
    | some (s', hs', ob) => some (.normal, s', hs', ob)
    | none => none
  | .seq a b, kp, s, hs => match evCodeSK P G ok call callS f base sb lf a kp s hs with
    | some (ex, s', hs', ob) => match ex with
      | .normal => match evCodeSK P G ok call callS f base sb lf b kp s' hs' with
        | some (ex2, s2, hs2, ob2) => some (ex2, s2, hs2, ob ++ ob2)
        | none => none
      | ex => some (ex, s', hs', ob)
    | none => none
  | .cond c a b, kp, s, hs => match rd G s.ts c with
    | some (.bool true) => evCodeSK P G ok call callS f base sb lf a kp s hs
    | some (.bool false) => evCodeSK P G ok call callS f base sb lf b kp s hs
    | _ => none
  | .block id b, kp, s, hs => match evCodeSK P G ok call callS f base sb lf b kp s hs with
    | some (ex, s', hs', ob) => match ex with
      | .exit id' => some (if id' = id then .normal else .exit id', s', hs', ob)
      | ex => some (ex, s', hs', ob)
    | none => none
  | .loop b, kp, s, hs => match hs with
    | .loop f' ex s' :: r => if Nat.beq f' f then some (ex, s', r, [evLoop (evCodeK P G ok call base sb lf b (innerKp b kp)) (cleanSt base sb (ue b kp []).1) lf s = some (ex, s')])
      else evLoopS (evCodeSK P G ok call callS f base sb lf b (innerKp b kp)) (cleanS f base sb (ue b kp []).1) lf s (.loop f' ex s' :: r)
    | hs => evLoopS (evCodeSK P G ok call callS f base sb lf b (innerKp b kp)) (cleanS f base sb (ue b kp []).1) lf s hs
  | .exit id, kp, s, hs => some (.exit id, s, hs, [])
  | .scope b, kp, s, hs => evCodeSK P G ok call callS f base sb lf b kp s hs
  | .ret, kp, s, hs => some (.ret, s, hs, [])
  | .rangeFunc g ps x y, kp, s, hs => match rd G s.ts g with
    | some (.func (.func gf) first captured) => if ok.getD gf false then
        match callS gf (first.toList ++ [.func (.yield s.H.n) #[] #[]] ++ captured.toList) (s.H.push (.loop ⟨sb, cleanTs sb (ue (.seq x y) [] []).1 s.ts, ps, x, y, .ready, none⟩)) hs with
        | some (_, H2, log2, hs', ob) => match afterRange s.H.n base s.ts H2 (addLog base log2 s.log) with
          | some (ex, s') => some (ex, s', hs', ob)
          | none => none
        | none => none
      else none
    | _ => none
  | _, _, _, _ => none
abbrev evCodeS (P : Program) (G : Nat) (ok : List Bool) (call : Ev) (callS : EvS) (f base sb lf : Nat) (c : Code) (s : St) (hs : List Hint) : Option (Ex × St × List Hint × List Prop) := evCodeSK P G ok call callS f base sb lf c [] s hs
/-- A round with hints: they are those of 'function' f = Y + k. -/
def evRoundS (P : Program) (G : Nat) (ok : List Bool) (call : Ev) (callS : EvS) (lf : Nat) (f k : Nat) (args : List Value) (H : Heap) (hs : List Hint) : Option (Value × Heap × List Nat × List Hint × List Prop) :=
  match H.get k with
  | .loop r => match r.state with
    | .ready => if Nat.beq args.length r.params.size && (noRange r.assign && noRange r.body) then match evCodeS P G ok call callS f H.n r.sb lf r.assign ⟨setL r.params.toList args r.ts, H, []⟩ hs with
      | some (.normal, s1, hs1, ob1) => match s1.H.get k with
        | .loop r1 => match r1.state with
          | .ready => match evCodeS P G ok call callS f H.n r.sb lf r.body ⟨s1.ts, s1.H.set k (.loop { r1 with state := .busy }), addLog H.n [k] s1.log⟩ hs1 with
            | some (e, s2, hs2, ob2) => match s2.H.get k with
              | .loop r2 => match r2.state with
                | .busy => match gcS f H.n [] (addLog H.n [k] s2.log) (s2.H.set k (.loop { r2 with state := if (jumpOf e).isNone then .ready else .done, pending := jumpOf e })) hs2 with
                  | (x, hs3, ob3) => some (.bool (jumpOf e).isNone, x.2, addLog H.n [k] s2.log, hs3, ob1 ++ (ob2 ++ ob3))
                | _ => none
              | _ => none
            | none => none
          | _ => none
        | _ => none
      | _ => none
      else none
    | _ => none
  | _ => none
def evBodyS (P : Program) (G : Nat) (ok : List Bool) (over : Ev) (sb : List Nat) (lf : Nat) (call : Ev) (callS : EvS) : EvS := fun f args H hs =>
  match Nat.ble Y f with
  | true => evRoundS P G ok call callS lf f (f - Y) args H hs
  | false => match over f args H with
  | some (v, H', log) => some (v, H', log, hs, [])
  | none => match P.funcs[f]? with
    | some fn => match fn.body with
      | some c => match evCodeS P G ok call callS f H.n (sb.getD f 0) lf c ⟨args ++ List.replicate (fn.ntmps - args.length) undef, H, []⟩ hs with
        | some (ex, s, hs1, ob1) => match ex with
          | .exit _ => none
          | _ => match evResults P s.ts s.H fn.results.toList with
            | some l => match gcS f H.n l s.log s.H hs1 with
              | (r, hs2, ob2) => some (resVal r.1, r.2, s.log, hs2, ob1 ++ ob2)
            | none => none
        | none => none
      | none => none
    | none => none
def evCallS (P : Program) (G : Nat) (ok : List Bool) (over : Ev) (sb : List Nat) (lf : Nat) : Nat → EvS
  | 0 => fun _ _ _ _ => none
  | n + 1 => fun f args H hs => match hs with
    | .call g v H' log :: r => if Nat.beq g f then some (v, H', log, r, [evCall P G ok over sb lf (n + 1) f args H = some (v, H', log)])
      else evBodyS P G ok over sb lf (evCall P G ok over sb lf n) (evCallS P G ok over sb lf n) f args H (.call g v H' log :: r)
    | hs => evBodyS P G ok over sb lf (evCall P G ok over sb lf n) (evCallS P G ok over sb lf n) f args H hs
def SOk (call : Ev) (callS : EvS) : Prop := ∀ g args H hs v H' log hs' ob, callS g args H hs = some (v, H', log, hs', ob) → AllP ob → call g args H = some (v, H', log)
section
variable {P : Program} {G : Nat} {ok : List Bool} {call : Ev} {callS : EvS}
theorem evCallOpS_ok (hc : SOk call callS) {ts : List Value} {H : Heap} {o : Oper} {hs : List Hint} {v : Value} {H' : Heap} {log : List Nat} {hs' : List Hint} {ob : List Prop}
    (h : evCallOpS P G ok callS ts H o hs = some (v, H', log, hs', ob)) (ho : AllP ob) : evCallOp P G ok call ts H o = some (v, H', log) := by
  unfold evCallOpS at h
  unfold evCallOp
  split at h
  · split at h
    · rename_i h1 h2
      split at h
      · rename_i h3
        simp only [*, if_true]
        exact hc _ _ _ _ _ _ _ _ _ h ho
      · cases h
    · cases h
  · split at h
    · rename_i h1 h2
      split at h
      · rename_i h4
        split at h
        · rename_i h3
          simp only [*, if_true]
          exact hc _ _ _ _ _ _ _ _ _ h ho
        · cases h
      · cases h
    · cases h
  · cases h
theorem flatCallS_ok (hc : SOk call callS) : SOk (flatCall P G call) (flatCallS P G callS) := by
  intro g args H hs v H' log hs' ob h ho
  unfold flatCallS at h
  unfold flatCall
  split at h
  · rename_i hcond
    split at h
    · rename_i v1 H1 l1 hs1 ob1 h1
      split at h
      · rename_i hz
        simp only [Option.some.injEq, Prod.mk.injEq] at h
        obtain ⟨rfl, rfl, rfl, rfl, rfl⟩ := h
        simp only [hcond, if_true, hc _ _ _ _ _ _ _ _ _ h1 ho, hz]
      · cases h
    · cases h
  · cases h
theorem restCallS_ok (hc : SOk call callS) : SOk (restCall P G call) (restCallS P G callS) := by
  intro g args H hs v H' log hs' ob h ho
  unfold restCallS at h
  unfold restCall
  split at h
  · cases h
  · rename_i hcond
    rw [if_neg hcond]
    exact hc _ _ _ _ _ _ _ _ _ h ho
theorem rest_flat {ts : List Value} {H : Heap} {o : Oper} {hs : List Hint} {r} (h : evCallOpS P G ok (restCallS P G callS) ts H o hs = some r) : evCallOp P G ok (flatCall P G call) ts H o = none := by
  have key : ∀ g args, restCallS P G callS g args H hs = some r → flatCall P G call g args H = none := by
    intro g args h
    unfold restCallS at h
    unfold flatCall
    split at h
    · cases h
    · rename_i hcond; rw [if_neg hcond]
  unfold evCallOpS at h
  unfold evCallOp
  split at h
  · rename_i heq
    split at h
    · rename_i h1 h2
      split at h
      · rename_i h3
        simp only [heq, h1, h2, h3, if_true]
        exact key _ _ h
      · cases h
    · cases h
  · rename_i heq
    split at h
    · rename_i h1 h2
      split at h
      · rename_i h4
        split at h
        · rename_i h3
          simp only [heq, h1, h2, h4, h3, if_true]
          exact key _ _ h
        · cases h
      · cases h
    · cases h
  · cases h
theorem evYieldOpS_ok (hc : SOk call callS) {ts : List Value} {H : Heap} {o : Oper} {hs : List Hint} {v : Value} {H' : Heap} {log : List Nat} {hs' : List Hint} {ob : List Prop}
    (h : evYieldOpS G callS ts H o hs = some (v, H', log, hs', ob)) (ho : AllP ob) : evYieldOp G call ts H o = some (v, H', log) ∧ ∀ call2, evCallOp P G ok call2 ts H o = none := by
  unfold evYieldOpS at h
  unfold evYieldOp evCallOp
  split at h
  · rename_i heq
    split at h
    · rename_i h1 h2
      split at h
      · rename_i h3
        simp only [heq, h1, h2, h3, if_true]
        exact ⟨hc _ _ _ _ _ _ _ _ _ h ho, fun _ => trivial⟩
      · cases h
    · cases h
  · cases h
theorem baseOpS_ok (hc : SOk call callS) {ts : List Value} {H : Heap} {o : Oper} {hs : List Hint} {c : Nat} {v : Value} {H' : Heap} {log : List Nat} {hs' : List Hint} {ob : List Prop}
    (h : baseOpS P G ok callS ts H o hs = some (c, v, H', log, hs', ob)) (ho : AllP ob) : evOp P G ok call ts H o = some (c, v, H', log) := by
  unfold baseOpS at h
  unfold evOp
  split at h
  · rename_i v0 h1
    simp only [Option.some.injEq, Prod.mk.injEq] at h
    obtain ⟨rfl, rfl, rfl, rfl, rfl, rfl⟩ := h
    rw [h1]
  · rename_i h1
    rw [h1]
    split at h
    · rename_i v0 H0 l0 h2
      simp only [Option.some.injEq, Prod.mk.injEq] at h
      obtain ⟨rfl, rfl, rfl, rfl, rfl, rfl⟩ := h
      rw [h2]
    · rename_i h2
      rw [h2]
      split at h
      · split at h
        · rename_i h3
          simp only [Option.some.injEq, Prod.mk.injEq] at h
          obtain ⟨rfl, rfl, rfl, rfl, rfl, rfl⟩ := h
          rw [h3]
        · rename_i hx
          rw [hx]
          split at h
          · rename_i h3
            simp only [Option.some.injEq, Prod.mk.injEq] at h
            obtain ⟨rfl, rfl, rfl, rfl, rfl, rfl⟩ := h
            rw [evCallOpS_ok (flatCallS_ok hc) h3 ho]
          · split at h
            · rename_i h3
              simp only [Option.some.injEq, Prod.mk.injEq] at h
              obtain ⟨rfl, rfl, rfl, rfl, rfl, rfl⟩ := h
              rw [rest_flat h3, evCallOpS_ok (restCallS_ok hc) h3 ho]
            · split at h
              · rename_i h3
                simp only [Option.some.injEq, Prod.mk.injEq] at h
                obtain ⟨rfl, rfl, rfl, rfl, rfl, rfl⟩ := h
                obtain ⟨q1, q2⟩ := evYieldOpS_ok (P := P) (ok := ok) hc h3 ho
                rw [q2, q2, q1]
              · cases h
      · rename_i hn
        have : ∀ call, evCallOp P G ok call ts H o = none := by
          intro call
          unfold evCallOp
          split
          · rename_i heq; rw [heq] at hn; exact absurd rfl hn
          · rename_i heq; rw [heq] at hn; exact absurd rfl hn
          · rfl
        have hyl : evYieldOp G call ts H o = none := by
          unfold evYieldOp
          split
          · rename_i heq; rw [heq] at hn; exact absurd rfl hn
          · rfl
        have hxl : evExtOp P G ok ts H o = none := by
          cases hx : evExtOp P G ok ts H o with
          | none => rfl
          | some v1 =>
            rcases evExtOp_body hx with ⟨f, args, argTypes, heq⟩ | ⟨r, n, args, argTypes, heq⟩
            · rw [heq] at hn
              exact absurd rfl hn
            · rw [heq] at hn
              exact absurd rfl hn
        rw [hxl, this, this, hyl]
        split at h
        · rename_i v0 h3
          simp only [Option.some.injEq, Prod.mk.injEq] at h
          obtain ⟨rfl, rfl, rfl, rfl, rfl, rfl⟩ := h
          rw [h3]
        · rename_i h3
          rw [h3]
          split at h
          · rename_i h4
            simp only [Option.some.injEq, Prod.mk.injEq] at h
            obtain ⟨rfl, rfl, rfl, rfl, rfl, rfl⟩ := h
            rw [h4]
          · cases h
theorem evOpS_ok (hc : SOk call callS) {f : Nat} {ts : List Value} {H : Heap} {o : Oper} {hs : List Hint} {c : Nat} {v : Value} {H' : Heap} {log : List Nat} {hs' : List Hint} {ob : List Prop}
    (h : evOpS P G ok callS f ts H o hs = some (c, v, H', log, hs', ob)) (ho : AllP ob) : evOp P G ok call ts H o = some (c, v, H', log) := by
  unfold evOpS at h
  split at h
  · split at h
    · split at h
      · rename_i h1
        simp only [Option.some.injEq, Prod.mk.injEq] at h
        obtain ⟨rfl, rfl, rfl, rfl, rfl, rfl⟩ := h
        exact softOp_ok h1 ho
      · cases h
    · exact baseOpS_ok hc h ho
  · split at h
    · split at h
      · rename_i h1
        simp only [Option.some.injEq, Prod.mk.injEq] at h
        obtain ⟨rfl, rfl, rfl, rfl, rfl, rfl⟩ := h
        exact softH_ok h1 ho
      · cases h
    · exact baseOpS_ok hc h ho
  · split at h
    · split at h
      · rename_i h1
        simp only [Option.some.injEq, Prod.mk.injEq] at h
        obtain ⟨rfl, rfl, rfl, rfl, rfl, rfl⟩ := h
        obtain ⟨a1, a2, _⟩ := allP_append ho
        subst a2
        exact baseOpS_ok hc h1 a1
      · cases h
    · exact baseOpS_ok hc h ho
  · exact baseOpS_ok hc h ho
theorem evOpsS_ok (hc : SOk call callS) {f base : Nat} {ops : Array Oper} : ∀ (l : List Oper) (s s' : St) (hs hs' : List Hint) (ob : List Prop),
    evOpsS P G ok callS f base ops l s hs = some (s', hs', ob) → AllP ob → evOps P G ok call base ops l s = some s' := by
  intro l
  induction l with
  | nil => intro s s' hs hs' ob h ho; simp only [evOpsS, Option.some.injEq, Prod.mk.injEq] at h; obtain ⟨rfl, rfl, rfl⟩ := h; rfl
  | cons o r ih =>
    intro s s' hs hs' ob h ho
    simp only [evOpsS] at h
    simp only [evOps]
    split at h
    · rename_i hw
      split at h
      · rename_i c v H1 log hs1 ob1 h1
        split at h
        · rename_i s2 hs2 ob2 h2
          simp only [Option.some.injEq, Prod.mk.injEq] at h
          obtain ⟨rfl, rfl, rfl⟩ := h
          obtain ⟨a1, a2⟩ := allP_append ho
          rw [hw]
          simp only [evOpS_ok hc h1 a1]
          exact ih _ _ _ _ _ h2 a2
        · cases h
      · cases h
    · rename_i hw
      rw [hw]
      exact ih _ _ _ _ _ h ho
    · cases h
theorem evTraceS_ok (hc : SOk call callS) {f : Nat} {ops : Array Oper} : ∀ (l : List Oper) (ts : List Value) (H : Heap) (hs : List Hint) (recs : List Rec) (H' : Heap) (hs' : List Hint) (ob : List Prop),
    evTraceS P G ok callS f ops l ts H hs = some (recs, H', hs', ob) → AllP ob → evTrace P G ok call ops l ts H = some (recs, H') := by
  intro l
  induction l with
  | nil => intro ts H hs recs H' hs' ob h ho; simp only [evTraceS, Option.some.injEq, Prod.mk.injEq] at h; obtain ⟨rfl, rfl, rfl, rfl⟩ := h; rfl
  | cons o r ih =>
    intro ts H hs recs H' hs' ob h ho
    simp only [evTraceS] at h
    simp only [evTrace]
    split at h
    · rename_i hw
      rw [hw]
      split at h
      · rename_i c v H1 log hs1 ob1 h1
        split at h
        · rename_i l2 H2 hs2 ob2 h2
          simp only [Option.some.injEq, Prod.mk.injEq] at h
          obtain ⟨rfl, rfl, rfl, rfl⟩ := h
          obtain ⟨a1, a2⟩ := allP_append ho
          simp only [evOpS_ok hc h1 a1, ih _ _ _ _ _ _ _ h2 a2]
        · cases h
      · cases h
    · rename_i hw
      rw [hw]
      split at h
      · rename_i l2 H2 hs2 ob2 h2
        simp only [Option.some.injEq, Prod.mk.injEq] at h
        obtain ⟨rfl, rfl, rfl, rfl⟩ := h
        simp only [ih _ _ _ _ _ _ _ h2 ho]
      · cases h
    · cases h
theorem evDrawS_ok (hc : SOk call callS) {f base : Nat} {ops : Array Oper} {s s' : St} {hs hs' : List Hint} {ob : List Prop} (h : evDrawS P G ok callS f base ops s hs = some (s', hs', ob)) (ho : AllP ob) :
    evDraw P G ok call base ops s = some s' := by
  unfold evDrawS at h
  unfold evDraw
  split at h
  · rename_i recs H' hs1 ob1 h1
    split at h
    · rename_i hd
      simp only [Option.some.injEq, Prod.mk.injEq] at h
      obtain ⟨rfl, rfl, rfl⟩ := h
      simp only [evTraceS_ok hc _ _ _ _ _ _ _ _ h1 ho, hd, if_true]
    · cases h
  · cases h
theorem evLoopS_ok {bodyS : St → List Hint → Option (Ex × St × List Hint × List Prop)} {cleanS : St → List Hint → St × List Hint × List Prop} {body : St → Option (Ex × St)} {clean : St → St}
    (hb : ∀ s hs ex s' hs' ob, bodyS s hs = some (ex, s', hs', ob) → AllP ob → body s = some (ex, s'))
    (hcl : ∀ s hs s' hs' ob, cleanS s hs = (s', hs', ob) → AllP ob → clean s = s') :
    ∀ (n : Nat) (s : St) (hs : List Hint) (ex : Ex) (s' : St) (hs' : List Hint) (ob : List Prop), evLoopS bodyS cleanS n s hs = some (ex, s', hs', ob) → AllP ob → evLoop body clean n s = some (ex, s') := by
  intro n
  induction n with
  | zero => intro s hs ex s' hs' ob h; cases h
  | succ n ih =>
    intro s hs ex s' hs' ob h ho
    simp only [evLoopS] at h
    simp only [evLoop]
    cases h0 : cleanS s hs with
    | mk s1 x =>
      obtain ⟨hs1, ob1⟩ := x
      rw [h0] at h
      simp only at h
      split at h
      · rename_i ex1 s2 hs2 ob2 h1
        split at h
        · split at h
          · rename_i ex' s3 hs3 ob3 h2
            simp only [Option.some.injEq, Prod.mk.injEq] at h
            obtain ⟨rfl, rfl, rfl, rfl⟩ := h
            obtain ⟨a1, a2⟩ := allP_append ho
            obtain ⟨a2, a3⟩ := allP_append a2
            rw [hcl _ _ _ _ _ h0 a1, hb _ _ _ _ _ _ h1 a2]
            exact ih _ _ _ _ _ _ h2 a3
          · cases h
        · rename_i hne
          simp only [Option.some.injEq, Prod.mk.injEq] at h
          obtain ⟨rfl, rfl, rfl, rfl⟩ := h
          obtain ⟨a1, a2⟩ := allP_append ho
          rw [hcl _ _ _ _ _ h0 a1, hb _ _ _ _ _ _ h1 a2]
          cases ex1 with
          | normal => exact absurd rfl hne
          | exit id => rfl
          | ret => rfl
      · cases h
theorem evCodeS_ok (hc : SOk call callS) {f base sb lf : Nat} : ∀ (c : Code) (kp : List Nat) (s : St) (hs : List Hint) (ex : Ex) (s' : St) (hs' : List Hint) (ob : List Prop),
    evCodeSK P G ok call callS f base sb lf c kp s hs = some (ex, s', hs', ob) → AllP ob → evCodeK P G ok call base sb lf c kp s = some (ex, s') := by
  intro c
  induction c with
  | skip => intro kp s hs ex s' hs' ob h ho; simp only [evCodeSK, Option.some.injEq, Prod.mk.injEq] at h; obtain ⟨rfl, rfl, rfl, rfl⟩ := h; rfl
  | label => intro kp s hs ex s' hs' ob h ho; simp only [evCodeSK, Option.some.injEq, Prod.mk.injEq] at h; obtain ⟨rfl, rfl, rfl, rfl⟩ := h; rfl
  | region id ops d =>
    intro kp s hs ex s' hs' ob h ho
    simp only [evCodeSK] at h
    simp only [evCodeK]
    split at h
    · rename_i s1 hs1 ob1 h1
      simp only [Option.some.injEq, Prod.mk.injEq] at h
      obtain ⟨rfl, rfl, rfl, rfl⟩ := h
      cases d with
      | true =>
        simp only [if_true] at h1 ⊢
        rw [evDrawS_ok hc h1 ho]; rfl
      | false =>
        simp only [Bool.false_eq_true, if_false] at h1 ⊢
        rw [evOpsS_ok hc _ _ _ _ _ _ h1 ho]; rfl
    · cases h
  | seq a b iha ihb =>
    intro kp s hs ex s' hs' ob h ho
    simp only [evCodeSK] at h
    simp only [evCodeK]
    split at h
    · rename_i ex1 s1 hs1 ob1 h1
      split at h
      · split at h
        · rename_i ex2 s2 hs2 ob2 h2
          simp only [Option.some.injEq, Prod.mk.injEq] at h
          obtain ⟨rfl, rfl, rfl, rfl⟩ := h
          obtain ⟨a1, a2⟩ := allP_append ho
          rw [iha _ _ _ _ _ _ _ h1 a1]
          exact ihb _ _ _ _ _ _ _ h2 a2
        · cases h
      · rename_i hne
        simp only [Option.some.injEq, Prod.mk.injEq] at h
        obtain ⟨rfl, rfl, rfl, rfl⟩ := h
        rw [iha _ _ _ _ _ _ _ h1 ho]
        cases ex1 with
        | normal => exact absurd rfl hne
        | exit id => rfl
        | ret => rfl
    · cases h
  | cond c a b iha ihb =>
    intro kp s hs ex s' hs' ob h ho
    simp only [evCodeSK] at h
    simp only [evCodeK]
    split at h
    · rename_i h1; rw [h1]; exact iha _ _ _ _ _ _ _ h ho
    · rename_i h1; rw [h1]; exact ihb _ _ _ _ _ _ _ h ho
    · cases h
  | block id b ih =>
    intro kp s hs ex s' hs' ob h ho
    simp only [evCodeSK] at h
    simp only [evCodeK]
    split at h
    · rename_i ex1 s1 hs1 ob1 h1
      split at h
      · simp only [Option.some.injEq, Prod.mk.injEq] at h
        obtain ⟨rfl, rfl, rfl, rfl⟩ := h
        rw [ih _ _ _ _ _ _ _ h1 ho]
      · rename_i hne
        simp only [Option.some.injEq, Prod.mk.injEq] at h
        obtain ⟨rfl, rfl, rfl, rfl⟩ := h
        rw [ih _ _ _ _ _ _ _ h1 ho]
        cases ex1 with
        | normal => rfl
        | exit id => exact absurd rfl (hne id)
        | ret => rfl
    · cases h
  | loop b ih =>
    intro kp s hs ex s' hs' ob h ho
    simp only [evCodeSK] at h
    simp only [evCodeK]
    split at h
    · split at h
      · simp only [Option.some.injEq, Prod.mk.injEq] at h
        obtain ⟨rfl, rfl, rfl, rfl⟩ := h
        exact ho.1
      · exact evLoopS_ok (fun s hs ex s' hs' ob h ho => ih _ s hs ex s' hs' ob h ho) (fun s hs s' hs' ob h ho => cleanS_ok h ho) _ _ _ _ _ _ _ h ho
    · exact evLoopS_ok (fun s hs ex s' hs' ob h ho => ih _ s hs ex s' hs' ob h ho) (fun s hs s' hs' ob h ho => cleanS_ok h ho) _ _ _ _ _ _ _ h ho
  | exit id => intro kp s hs ex s' hs' ob h ho; simp only [evCodeSK, Option.some.injEq, Prod.mk.injEq] at h; obtain ⟨rfl, rfl, rfl, rfl⟩ := h; rfl
  | scope b ih => intro kp s hs ex s' hs' ob h ho; simp only [evCodeSK] at h; simp only [evCodeK]; exact ih _ _ _ _ _ _ _ h ho
  | ret => intro kp s hs ex s' hs' ob h ho; simp only [evCodeSK, Option.some.injEq, Prod.mk.injEq] at h; obtain ⟨rfl, rfl, rfl, rfl⟩ := h; rfl
  | rangeFunc g ps x y _ _ =>
    intro kp s hs ex s' hs' ob h ho
    simp only [evCodeSK] at h
    simp only [evCodeK]
    split at h
    · rename_i h1
      split at h
      · rename_i h2
        split at h
        · rename_i h3
          split at h
          · rename_i h4
            simp only [Option.some.injEq, Prod.mk.injEq] at h
            obtain ⟨rfl, rfl, rfl, rfl⟩ := h
            simp only [h1, h2, if_true, hc _ _ _ _ _ _ _ _ _ h3 ho, h4]
          · cases h
        · cases h
      · cases h
    · cases h
  | goto l => intro kp s hs ex s' hs' ob h; simp [evCodeSK] at h
  | refuse y => intro kp s hs ex s' hs' ob h; simp [evCodeSK] at h
theorem evRoundS_ok (hc : SOk call callS) {lf f k : Nat} {args : List Value} {H : Heap} {hs : List Hint} {v : Value} {H' : Heap} {log : List Nat} {hs' : List Hint} {ob : List Prop}
    (h : evRoundS P G ok call callS lf f k args H hs = some (v, H', log, hs', ob)) (ho : AllP ob) : evRound P G ok call lf k args H = some (v, H', log) := by
  unfold evRoundS at h
  unfold evRound
  split at h
  rotate_left
  · cases h
  rename_i r hk
  split at h
  rotate_left
  · cases h
  rename_i hst
  split at h
  rotate_left
  · cases h
  rename_i hsz
  split at h
  rotate_left
  · cases h
  rename_i s1 hs1 ob1 hrun1
  split at h
  rotate_left
  · cases h
  rename_i r1 hk1
  split at h
  rotate_left
  · cases h
  rename_i hst1
  split at h
  rotate_left
  · cases h
  rename_i e s2 hs2 ob2 hrun2
  split at h
  rotate_left
  · cases h
  rename_i r2 hk2
  split at h
  rotate_left
  · cases h
  rename_i hst2
  cases hg : gcS f H.n [] (addLog H.n [k] s2.log) (s2.H.set k (.loop { r2 with state := if (jumpOf e).isNone then .ready else .done, pending := jumpOf e })) hs2 with
  | mk x y =>
    obtain ⟨hs3, ob3⟩ := y
    rw [hg] at h
    simp only [Option.some.injEq, Prod.mk.injEq] at h
    obtain ⟨rfl, rfl, rfl, rfl, rfl⟩ := h
    obtain ⟨a1, a2⟩ := allP_append ho
    obtain ⟨a2, a3⟩ := allP_append a2
    have e1 := evCodeS_ok hc _ _ _ _ _ _ _ _ hrun1 a1
    have e2 := evCodeS_ok hc _ _ _ _ _ _ _ _ hrun2 a2
    have e3 := gcS_ok hg a3
    simp only [evCode, hk, hst, hsz, if_true, e1, hk1, hst1, e2, hk2, hst2, e3]
theorem evBodyS_ok {over : Ev} {sb : List Nat} {lf n : Nat} (hc : SOk (evCall P G ok over sb lf n) callS) : SOk (evCall P G ok over sb lf (n + 1)) (evBodyS P G ok over sb lf (evCall P G ok over sb lf n) callS) := by
  intro f args H hs v H' log hs' ob h ho
  unfold evBodyS at h
  simp only [evCall]
  split at h
  · rename_i hYf
    simp only [hYf]
    exact evRoundS_ok hc h ho
  rename_i hYf
  simp only [hYf]
  split at h
  · rename_i v0 H0 l0 h1
    simp only [Option.some.injEq, Prod.mk.injEq] at h
    obtain ⟨rfl, rfl, rfl, rfl, rfl⟩ := h
    rw [h1]
  · rename_i h1
    rw [h1]
    split at h
    · rename_i fn h2
      simp only [h2]
      split at h
      · rename_i c h3
        simp only [h3]
        split at h
        · rename_i ex s hs1 ob1 h4
          have key : (∃ l r ob2, evResults P s.ts s.H fn.results.toList = some l ∧ gcS f H.n l s.log s.H hs1 = (r, hs', ob2) ∧ v = resVal r.1 ∧ H' = r.2 ∧ log = s.log ∧ ob = ob1 ++ ob2) ∧ ∀ id, ex ≠ .exit id := by
            cases ex with
            | exit id => simp at h
            | normal =>
              simp only at h
              split at h
              · rename_i l h5
                cases hg : gcS f H.n l s.log s.H hs1 with
                | mk r x =>
                  obtain ⟨hs2, ob2⟩ := x
                  rw [hg] at h
                  simp only [Option.some.injEq, Prod.mk.injEq] at h
                  obtain ⟨rfl, rfl, rfl, rfl, rfl⟩ := h
                  exact ⟨⟨l, r, ob2, h5, hg, rfl, rfl, rfl, rfl⟩, by simp⟩
              · cases h
            | ret =>
              simp only at h
              split at h
              · rename_i l h5
                cases hg : gcS f H.n l s.log s.H hs1 with
                | mk r x =>
                  obtain ⟨hs2, ob2⟩ := x
                  rw [hg] at h
                  simp only [Option.some.injEq, Prod.mk.injEq] at h
                  obtain ⟨rfl, rfl, rfl, rfl, rfl⟩ := h
                  exact ⟨⟨l, r, ob2, h5, hg, rfl, rfl, rfl, rfl⟩, by simp⟩
              · cases h
          obtain ⟨⟨l, r, ob2, h5, hg, rfl, rfl, rfl, rfl⟩, hne⟩ := key
          obtain ⟨a1, a2⟩ := allP_append ho
          simp only [evCode]
          rw [evCodeS_ok hc _ _ _ _ _ _ _ _ h4 a1]
          have hgg := gcS_ok hg a2
          cases ex with
          | exit id => exact absurd rfl (hne id)
          | normal => simp only [h5, hgg]
          | ret => simp only [h5, hgg]
        · cases h
      · cases h
    · cases h
theorem evCallS_ok {over : Ev} {sb : List Nat} {lf : Nat} : ∀ n, SOk (evCall P G ok over sb lf n) (evCallS P G ok over sb lf n) := by
  intro n
  induction n with
  | zero => intro f args H hs v H' log hs' ob h; cases h
  | succ n ih =>
    intro f args H hs v H' log hs' ob h ho
    simp only [evCallS] at h
    split at h
    · split at h
      · simp only [Option.some.injEq, Prod.mk.injEq] at h
        obtain ⟨rfl, rfl, rfl, rfl, rfl⟩ := h
        exact ho.1
      · exact evBodyS_ok ih _ _ _ _ _ _ _ _ _ h ho
    · exact evBodyS_ok ih _ _ _ _ _ _ _ _ _ h ho
/-- A call by a run with hints. -/
theorem evCall_hint {over : Ev} {sb : List Nat} {lf n : Nat} {f : FuncId} {args : List Value} {H : Heap} (hs : List Hint) {v : Value} {H' : Heap} {log : List Nat} {hs' : List Hint} (ob : List Prop)
    (h : evCallS P G ok over sb lf n f args H hs = some (v, H', log, hs', ob)) (ho : AllP ob) : evCall P G ok over sb lf n f args H = some (v, H', log) := evCallS_ok n _ _ _ _ _ _ _ _ _ h ho
end
end Go.Dg
