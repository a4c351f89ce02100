/- The abstract run of operations, regions, code and calls. -/
import Derived.Test.YtmnoegfehgoalaaGreatDoorDgRefl
import Derived.Scope
namespace Go.Dg
set_option linter.unusedVariables false
set_option linter.unusedSimpArgs false
abbrev Ev := FuncId → List Value → Heap → Option (Value × Heap × List Nat)
/-- A method that is called on what an interface value holds: pointer methods of a pointer, value methods of a value that is none. -/
def methodOf (P : Program) (t : TypeId) (name : String) : Option FuncId :=
  match P.info? t with
  | some i => match i.methods.find? (·.name == name) with
    | some m => if m.path.isEmpty then
        match m.func, P.underlying t with
        | some (f, true), some (.pointer _) => some f
        | some (_, false), some (.pointer _) => none
        | some (f, false), some _ => some f
        | _, _ => none
      else none
    | none => none
  | none => none
/-- The method of what an interface value holds, and what it is called on: a method that is promoted through one embedded pointer, too. -/
def methodV (P : Program) (t : TypeId) (name : String) (v : Value) : Option (FuncId × Value) :=
  match methodOf P t name with
  | some g => some (g, v)
  | none => match P.info? t with
    | some i => match i.methods.find? (·.name == name) with
      | some m => match m.path.toList, m.func, v with
        | [s], some (g, true), .agg ⟨[p]⟩ => match P.underlying s.struct with
          | some (.struct fields) => match fields[s.index]? with
            | some f => match P.underlying f.type, eval0 P (isAgg f.type) with
              | some (.pointer _), some false => if !s.deref && Nat.beq f.offset 0 then some (g, p) else none
              | _, _ => none
            | none => none
          | _ => none
        | _, _, _ => none
      | none => none
    | none => none
def extOf (P : Program) (ok : List Bool) (g : FuncId) : Option String := if ok.getD g false then none else match P.funcs[g]? with
  | some fn => if fn.body.isNone && fn.origin == "" && !(fn.name == "runtime.NumGoroutine") then some fn.name else none
  | none => none
/-- Calls of functions without a body. -/
def evExtOp (P : Program) (G : Nat) (ok : List Bool) (ts : List Value) (H : Heap) (o : Oper) : Option (Value × Heap × List Nat) :=
  match o.op with
  | .call { callee := .value f, args, .. } => match rd G ts f, rdAll G ts args.toList with
    | some (.func (.func g) first captured), some l => match extOf P ok g with
      | some name => extRun P G name (first.toList ++ l ++ captured.toList) H
      | none => none
    | _, _ => none
  | .call { callee := .invoke r name, args, .. } => match rd G ts r, rdAll G ts args.toList with
    | some (.iface t v), some l => match methodV P t name v with
      | some (g, rv) => match extOf P ok g with
        | some name => extRun P G name (rv :: l) H
        | none => none
      | none => none
    | _, _ => none
  | _ => none
/-- Whatever calls are, this one is none of theirs. -/
theorem evExtOp_body {P : Program} {G : Nat} {ok : List Bool} {ts : List Value} {H : Heap} {o : Oper} {r : Value × Heap × List Nat} (h : evExtOp P G ok ts H o = some r) : (∃ f args argTypes, o.op = .call { callee := .value f, args, argTypes }) ∨ (∃ r n args argTypes, o.op = .call { callee := .invoke r n, args, argTypes }) := by
  unfold evExtOp at h
  split at h
  · rename_i heq; exact .inl ⟨_, _, _, heq⟩
  · rename_i heq; exact .inr ⟨_, _, _, _, heq⟩
  · cases h
/-- Calls. 'ok': which functions have a body (and are none of the model's own). -/
def evCallOp (P : Program) (G : Nat) (ok : List Bool) (call : Ev) (ts : List Value) (H : Heap) (o : Oper) : Option (Value × Heap × List Nat) :=
  match o.op with
  | .call { callee := .value f, args, .. } => match rd G ts f, rdAll G ts args.toList with
    | some (.func (.func g) first captured), some l => if ok.getD g false then call g (first.toList ++ l ++ captured.toList) H else none
    | _, _ => none
  | .call { callee := .invoke r name, args, .. } => match rd G ts r, rdAll G ts args.toList with
    | some (.iface t v), some l => match methodOf P t name with
      | some g => if ok.getD g false then call g (v :: l) H else none
      | none => none
    | _, _ => none
  | _ => none
/-- Calls of yield have numbers from here on. -/
def Y : Nat := 1000000
/-- A call of yield: the record's number behind Y. -/
def evYieldOp (G : Nat) (call : Ev) (ts : List Value) (H : Heap) (o : Oper) : Option (Value × Heap × List Nat) :=
  match o.op with
  | .call { callee := .value f, args, .. } => match rd G ts f, rdAll G ts args.toList with
    | some (.func (.yield k) first captured), some l => if first.isEmpty && captured.isEmpty then call (Y + k) l H else none
    | _, _ => none
  | _ => none
/-- Types whose values hold no address. -/
def flatTy (P : Program) : Nat → TypeId → Bool
  | 0, _ => false
  | d + 1, t => match P.underlying t with
    | some .bool => true
    | some (.int _) => true
    | some (.float _) => true
    | some .string => true
    | some (.struct fs) => fs.toList.all fun f => flatTy P d f.type
    | some (.array _ e) => flatTy P d e
    | _ => false
def flatRes (P : Program) (f : FuncId) : Bool := match P.funcs[f]? with
  | some fn => fn.resultTypes.toList.all (flatTy P 12) && !fn.resultTypes.isEmpty
  | none => false
/-- Does an operation name no package variable, nor code that does? -/
def opPlain (plain : FuncId → Bool) (op : Op) : Bool :=
  match op with
  | .makeFunc _ _ _ => false
  | .call { callee := .invoke _ _, .. } => false
  | op => op.operands.toList.all fun x => match x with
    | .global _ => false
    | .func g => plain g
    | _ => true
def codePlain (plain : FuncId → Bool) : Code → Bool
  | .region _ ops _ => ops.toList.all fun o => opPlain plain o.op
  | .seq a b => codePlain plain a && codePlain plain b
  | .cond _ a b => codePlain plain a && codePlain plain b
  | .block _ b => codePlain plain b
  | .loop b => codePlain plain b
  | .scope b => codePlain plain b
  | .rangeFunc _ _ _ _ => false
  | _ => true
/-- Functions that reach no package variable (a look at their text; nothing hangs on it). -/
def plainF (P : Program) : Nat → FuncId → Bool
  | 0, _ => false
  | d + 1, f => match P.funcs[f]? with
    | some fn => match fn.body with
      | some c => codePlain (plainF P d) c
      | none => false
    | none => false
/-- The package variables, unseen. -/
def deadHeap (G : Nat) : Heap := ⟨G, List.replicate G .dead⟩
/-- Calls that hand over no address and hand back none: as in the empty heap. -/
def isFlatCall (P : Program) (G : Nat) (f : FuncId) (args : List Value) : Bool := (Nat.beq G 0 || plainF P 10 f) && flatRes P f && flatL args
def flatCall (P : Program) (G : Nat) (call : Ev) : Ev := fun f args H =>
  if isFlatCall P G f args then match call f args (deadHeap G) with
    | some (v, H', log) => if Nat.beq H'.n G && log.isEmpty && flat v then some (v, H, []) else none
    | none => none
  else none
def restCall (P : Program) (G : Nat) (call : Ev) : Ev := fun f args H => if isFlatCall P G f args then none else call f args H
/-- Which operations only read: the class. -/
def isReader (P : Program) : Op → Bool
  | .load _ _ => true
  | .convert _ dst _ => match P.underlying dst with | some .string => true | _ => false
  | _ => false
/-- One operation: its class (0: no memory; 1: it reads; 2: it turns memory), the value, the heap, what was turned. -/
def evOp (P : Program) (G : Nat) (ok : List Bool) (call : Ev) (ts : List Value) (H : Heap) (o : Oper) : Option (Nat × Value × Heap × List Nat) :=
  match evShape P G ts o with
  | some v => some (0, v, H, [])
  | none => match evMem P G ts H o with
    | some (v, H', log) => some (if isReader P o.op then 1 else 2, v, H', log)
    | none => match evExtOp P G ok ts H o with
      | some (v, H', log) => some (2, v, H', log)
      | none => match evCallOp P G ok (flatCall P G call) ts H o with
        | some (v, _, _) => some (0, v, H, [])
        | none => match evCallOp P G ok (restCall P G call) ts H o with
          | some (v, H', log) => some (2, v, H', log)
          | none => match evYieldOp G call ts H o with
            | some (v, H', log) => some (2, v, H', log)
            | none => match evGen P G ts o with
              | some v => some (0, v, H, [])
              | none => match evUns P G ts H o with
                | some (v, H', log) => some (2, v, H', log)
                | none => none
/-- The bool in the slot that an operation's guard looks at; none: nothing is known of it. -/
def yieldedL (ops : Array Oper) (ts : List Value) (j : Nat) : Option (Option Bool) :=
  match ((ops[j]?).bind (·.dst)).bind (ts[·]?) with
  | some (.bool b) => some (some b)
  | some (.complex _ _ _) => none
  | _ => some none
def wantedL (ops : Array Oper) (ts : List Value) (o : Oper) : Option Bool :=
  match o.guard with
  | none => some true
  | some (j, want) => match yieldedL ops ts j with
    | some y => some (y == some want)
    | none => none
def putL (ts : List Value) (dst : Option Tmp) (v : Value) : List Value :=
  match dst with
  | some d => ts.set d v
  | none => ts
structure St where
  ts : List Value
  H : Heap
  log : List Nat
/-- What is turned below 'base' is noted, once. -/
def addLog (base : Nat) (lg log : List Nat) : List Nat := lg.foldr (fun k l => if k < base && !l.contains k then k :: l else l) log
/-- A region in the order of the text. -/
def evOps (P : Program) (G : Nat) (ok : List Bool) (call : Ev) (base : Nat) (ops : Array Oper) : List Oper → St → Option St
  | [], s => some s
  | o :: r, s =>
    match wantedL ops s.ts o with
    | some true => match evOp P G ok call s.ts s.H o with
      | some (_, v, H', log) => evOps P G ok call base ops r ⟨putL s.ts o.dst v, H', addLog base log s.log⟩
      | none => none
    | some false => evOps P G ok call base ops r ⟨putL s.ts o.dst undef, s.H, s.log⟩
    | none => none
-- The blocks that a value names.
mutual
def idsOf : Value → List Nat
  | .bool _ | .int _ _ | .float _ _ | .complex _ _ _ | .string _ | .nilFunc | .nilIface | .chan _ => []
  | .pointer a => match a with | none => [] | some a => [a.block]
  | .slice a _ _ => match a with | none => [] | some a => [a.block]
  | .map r => match r with | none => [] | some r => [r]
  | .func fn a b => (match fn with | .yield l => [l] | _ => []) ++ (idsOfA a ++ idsOfA b)
  | .iface _ v => idsOf v
  | .agg cs => idsOfA cs
  | .tuple cs => idsOfA cs
def idsOfA : Array Value → List Nat
  | ⟨l⟩ => idsOfL l
def idsOfL : List Value → List Nat
  | [] => []
  | v :: r => idsOf v ++ idsOfL r
end
/-- What one operation of a region that draws its order did, in the order of the text. -/
structure Rec where
  cls : Nat
  v : Value
  H : Heap
  log : List Nat
  touched : List Nat
  ids : List Nat
/-- The slots that an operation looks at. -/
def looks (ops : Array Oper) (o : Oper) : List Tmp := o.looksAt ops
/-- The other slots are hidden. -/
def mask (l : List Tmp) (ts : List Value) : List Value := ts.zipIdx.map fun (v, i) => if l.contains i then v else undef
def touchedBy (G : Nat) (ts : List Value) : Op → List Nat
  | .load _ x => match rd G ts x with | some (.pointer (some a)) => [a.block] | _ => []
  | .convert _ _ x => match rd G ts x with | some (.slice (some a) _ _) => [a.block] | _ => []
  | _ => []
def evTrace (P : Program) (G : Nat) (ok : List Bool) (call : Ev) (ops : Array Oper) : List Oper → List Value → Heap → Option (List Rec × Heap)
  | [], _, H => some ([], H)
  | o :: r, ts, H =>
    match wantedL ops ts o with
    | some true =>
      match evOp P G ok call (mask (looks ops o) ts) H o with
      | some (c, v, H', log) => match evTrace P G ok call ops r (putL ts o.dst v) H' with
        | some (l, H2) => some (⟨c, v, H, log, touchedBy G (mask (looks ops o) ts) o.op, idsOfL (mask (looks ops o) ts)⟩ :: l, H2)
        | none => none
      | none => none
    | some false => match evTrace P G ok call ops r (putL ts o.dst undef) H with
      | some (l, H2) => some (⟨0, undef, H, [], [], []⟩ :: l, H2)
      | none => none
    | none => none
/-- i must come ahead of j, or j of i. -/
def comparable (B : Array Nat) (i j : Nat) : Bool := (B.getD j 0).testBit i || (B.getD i 0).testBit j
/-- May the operations be done in any order that the edges leave? -/
def drawOk (ops : Array Oper) (recs : List Rec) : Bool :=
  let B := Region.before ops
  let L := ops.toList.zipIdx
  let R := recs.zipIdx
  -- the edges lead back
  L.all (fun (o, i) => o.after.toList.all fun e => !Region.binds .any e || decide (e.on < i)) &&
  -- no 'select'
  ops.toList.all (fun o => noSelect o.op) &&
  -- each slot is written by one operation
  L.all (fun (o, i) => match o.dst with | none => true | some d => L.all fun (p, j) => p.dst != some d || i == j) &&
  -- who looks at a slot that another one writes stands in order with it
  L.all (fun (o, i) => (looks ops o).all fun t => L.all fun (p, j) => p.dst != some t || i == j || comparable B i j) &&
  -- what turns memory stands in a row; what reads stands in order with what turns what it reads
  R.all (fun (r, i) => R.all fun (q, j) =>
    (if q.cls == 2 && r.cls == 2 then decide (j ≤ i) || (B.getD j 0).testBit i else true) &&
    (if q.cls == 2 && r.cls == 1 && !comparable B i j then r.touched.all (fun k => !q.log.contains k && decide (k < q.H.n)) else true))
/-- An operation that lays a new cell by itself. -/
def isFloat (o : Oper) : Bool := match o.op with
  | .alloc _ => true
  | _ => false
/-- The heap ahead of operation i. -/
def htOf (recs : List Rec) (H' : Heap) (i : Nat) : Heap := match recs[i]? with | some r => r.H | none => H'
/-- The same where new cells may be laid ahead of their turn. -/
def floatOk (ops : Array Oper) (recs : List Rec) (n0 : Nat) (H' : Heap) : Bool :=
  let B := Region.before ops
  let L := ops.toList.zipIdx
  let Z := (ops.toList.zip recs).zipIdx
  L.all (fun (o, i) => o.after.toList.all fun e => !Region.binds .any e || decide (e.on < i)) &&
  ops.toList.all (fun o => noSelect o.op) &&
  L.all (fun (o, i) => match o.dst with | none => true | some d => L.all fun (p, j) => p.dst != some d || i == j) &&
  L.all (fun (o, i) => (looks ops o).all fun t => L.all fun (p, j) => p.dst != some t || i == j || comparable B i j) &&
  Z.all (fun x => Z.all fun y =>
    (if y.1.2.cls == 2 && x.1.2.cls == 2 && !isFloat y.1.1 then decide (y.2 ≤ x.2) || (B.getD y.2 0).testBit x.2 else true) &&
    (if y.1.2.cls == 2 && x.1.2.cls == 1 && !isFloat y.1.1 && !comparable B x.2 y.2 then x.1.2.touched.all (fun k => !y.1.2.log.contains k) else true)) &&
  Z.all (fun x =>
    (if x.1.2.cls == 1 then x.1.2.touched.all (fun k => decide (k < n0)) else true) &&
    (if x.1.2.cls == 2 && !isFloat x.1.1 then
      x.1.2.ids.all (fun k => decide (k < x.1.2.H.n)) &&
      ((List.range ((htOf recs H' (x.2 + 1)).n - x.1.2.H.n)).all fun d => !((htOf recs H' (x.2 + 1)).get (x.1.2.H.n + d)).live || ((htOf recs H' (x.2 + 1)).get (x.1.2.H.n + d)).owned) &&
      x.1.2.log.all fun k => !((htOf recs H' (x.2 + 1)).get k).live || (x.1.2.H.get k).live
     else true))
def evDraw (P : Program) (G : Nat) (ok : List Bool) (call : Ev) (base : Nat) (ops : Array Oper) (s : St) : Option St :=
  match evTrace P G ok call ops ops.toList s.ts s.H with
  | some (recs, H') =>
    if drawOk ops recs || floatOk ops recs s.H.n H' then
      some ⟨(ops.toList.zip recs).foldl (fun ts (o, r) => putL ts o.dst r.v) s.ts, H', recs.foldl (fun l r => addLog base r.log l) s.log⟩
    else none
  | none => none
def renFn (f : Nat → Nat) : Fn → Fn
  | .yield l => .yield (f l)
  | fn => fn
-- The same value under other names of blocks.
mutual
def renV (f : Nat → Nat) : Value → Value
  | .pointer a => .pointer (match a with | none => none | some a => some ⟨f a.block, a.off, a.spot⟩)
  | .slice a len cap => .slice (match a with | none => none | some a => some ⟨f a.block, a.off, a.spot⟩) len cap
  | .map r => .map (match r with | none => none | some r => some (f r))
  | .func fn a b => .func (renFn f fn) (renA f a) (renA f b)
  | .iface t v => .iface t (renV f v)
  | .agg cs => .agg (renA f cs)
  | .tuple cs => .tuple (renA f cs)
  | .bool b => .bool b
  | .int k n => .int k n
  | .float k b => .float k b
  | .complex k r i => .complex k r i
  | .string s => .string s
  | .nilFunc => .nilFunc
  | .nilIface => .nilIface
  | .chan c => .chan c
def renA (f : Nat → Nat) : Array Value → Array Value
  | ⟨l⟩ => ⟨renL f l⟩
def renL (f : Nat → Nat) : List Value → List Value
  | [] => []
  | v :: r => renV f v :: renL f r
end
def AObj.ids : AObj → List Nat
  | .cells cs _ md _ => if Nat.ble 4 md then [] else if flatL cs then [] else idsOfL cs
  | .loop r => idsOfL r.ts
  | _ => []
def AObj.ren (f : Nat → Nat) : AObj → AObj
  | .cells cs e md esz => if Nat.ble 4 md then .cells cs e md esz else if flatL cs then .cells cs e (md + 4) esz else .cells (renL f cs) e md esz
  | .loop r => .loop { r with ts := renL f r.ts }
  | o => o
/-- What can be come to, from base on, in the order in which it is met. -/
def collect (base : Nat) (H : Heap) : Nat → List Nat → List Nat → Option (List Nat)
  | _, [], seen => some seen
  | 0, _ :: _, _ => none
  | n + 1, k :: r, seen => if k < base || seen.contains k then collect base H n r seen else collect base H n ((H.get k).ids ++ r) (seen ++ [k])
def renK (base : Nat) (L : List Nat) (k : Nat) : Nat := if k < base then k else base + L.idxOf k
/-- What no value leads to any more is dropped; the others get numbers in the order in which they are met. -/
def gcAt (base : Nat) (vals : List Value) (log : List Nat) (H : Heap) : List Value × Heap :=
  match collect base H 100000 (idsOfL vals ++ log.flatMap fun k => (H.get k).ids) [] with
  | some L =>
    if base ≤ H.n then
      (renL (renK base L) vals, L.foldl (fun h k => h.push ((H.get k).ren (renK base L))) (log.foldl (fun h k => h.set k ((H.get k).ren (renK base L))) ⟨base, H.objs.drop (H.n - base)⟩))
    else (vals, H)
  | none => (vals, H)
inductive Ex where
  | normal
  | exit (id : Nat)
  | ret
/-- Which slots a piece of code may read ahead of writing them (a hint, never trusted). -/
def tmpsOf (xs : List Operand) : List Nat := xs.filterMap fun | .tmp t => some t | _ => none
def ueOps : List Oper → List Nat → List Nat → List Nat × List Nat
  | [], ex, df => (ex, df)
  | o :: r, ex, df => ueOps r ((tmpsOf o.op.operands.toList).foldl (fun e t => if df.contains t || e.contains t then e else t :: e) ex) (match o.dst with | some d => d :: df | none => df)
def ue : Code → List Nat → List Nat → List Nat × List Nat
  | .region _ ops _, ex, df => ueOps ops.toList ex df
  | .seq a b, ex, df => let (ex, df) := ue a ex df; ue b ex df
  | .cond c a b, ex, df => let ex := (tmpsOf [c]).foldl (fun e t => if df.contains t || e.contains t then e else t :: e) ex; let (ex, _) := ue a ex df; let (ex, _) := ue b ex df; (ex, df)
  | .block _ b, ex, df => ((ue b ex df).1, df)
  | .loop b, ex, df => ((ue b ex df).1, df)
  | .scope b, ex, df => ((ue b ex df).1, df)
  | .rangeFunc f _ a b, ex, df => let ex := (tmpsOf [f]).foldl (fun e t => if df.contains t || e.contains t then e else t :: e) ex; let (ex, _) := ue a ex df; let (ex, _) := ue b ex df; (ex, df)
  | _, ex, df => (ex, df)
/-- At a loop's head: slots that are not kept are forgotten, and the heap is swept. -/
def cleanTs (sb : Nat) (keep : List Nat) (ts : List Value) : List Value := ts.zipIdx.map fun (v, i) => if i < sb || keep.contains i then v else junk
def cleanSt (base sb : Nat) (keep : List Nat) (s : St) : St :=
  let ts := cleanTs sb keep s.ts
  let r := gcAt base ts s.log s.H
  ⟨r.1, r.2, s.log⟩
/-- No range over a function in it. -/
def noRange : Code → Bool
  | .seq a b => noRange a && noRange b
  | .cond _ a b => noRange a && noRange b
  | .block _ b => noRange b
  | .loop b => noRange b
  | .scope b => noRange b
  | .rangeFunc _ _ _ _ => false
  | _ => true
def evLoop (body : St → Option (Ex × St)) (clean : St → St) : Nat → St → Option (Ex × St)
  | 0, _ => none
  | n + 1, s => match body (clean s) with
    | some (.normal, s') => evLoop body clean n s'
    | r => r
/-- The function that was ranged over has returned: the pending jump. -/
def afterRange (k base : Nat) (ts : List Value) (H2 : Heap) (log : List Nat) : Option (Ex × St) :=
  match H2.get k with
  | .loop r => match r.state with
    | .busy => none
    | _ => match r.pending with
      | none => some (.normal, ⟨ts, H2.set k (.loop { r with state := .exhausted, pending := r.pending }), addLog base [k] log⟩)
      | some .ret => some (.ret, ⟨ts, H2.set k (.loop { r with state := .exhausted, pending := r.pending }), addLog base [k] log⟩)
      | some (.exit id) => some (.exit id, ⟨ts, H2.set k (.loop { r with state := .exhausted, pending := r.pending }), addLog base [k] log⟩)
      | _ => none
  | _ => none
/-- A loop within it. -/
def hasLoop : Code → Bool
  | .seq a b => hasLoop a || hasLoop b
  | .cond _ a b => hasLoop a || hasLoop b
  | .block _ b => hasLoop b
  | .loop _ => true
  | .scope b => hasLoop b
  | _ => false
/-- Which slots a loop within a loop's body is to keep (a hint). -/
def innerKp (b : Code) (kp : List Nat) : List Nat := bif hasLoop b then (ue b kp []).1 else []
def evCodeK (P : Program) (G : Nat) (ok : List Bool) (call : Ev) (base sb lf : Nat) : Code → List Nat → St → Option (Ex × St)
  | .skip, kp, s => some (.normal, s)
  | .label _, kp, s => some (.normal, s)
  | .region _ ops d, kp, s => (if d then evDraw P G ok call base ops s else evOps P G ok call base ops ops.toList s).map fun s' => (.normal, s')
  | .seq a b, kp, s => match evCodeK P G ok call base sb lf a kp s with
    | some (.normal, s') => evCodeK P G ok call base sb lf b kp s'
    | r => r
  | .cond c a b, kp, s => match rd G s.ts c with
    | some (.bool true) => evCodeK P G ok call base sb lf a kp s
    | some (.bool false) => evCodeK P G ok call base sb lf b kp s
    | _ => none
  | .block id b, kp, s => match evCodeK P G ok call base sb lf b kp s with
    | some (.exit id', s') => some (if id' = id then .normal else .exit id', s')
    | r => r
  | .loop b, kp, s => evLoop (evCodeK P G ok call base sb lf b (innerKp b kp)) (cleanSt base sb (ue b kp []).1) lf s
  | .exit id, kp, s => some (.exit id, s)
  | .scope b, kp, s => evCodeK P G ok call base sb lf b kp s
  | .ret, kp, s => some (.ret, s)
  | .rangeFunc g ps x y, kp, s => match rd G s.ts g with
    | some (.func (.func gf) first captured) => if ok.getD gf false then
        match call gf (first.toList ++ [.func (.yield s.H.n) #[] #[]] ++ captured.toList) (s.H.push (.loop ⟨sb, cleanTs sb (ue (.seq x y) [] []).1 s.ts, ps, x, y, .ready, none⟩)) with
        | some (_, H2, log2) => afterRange s.H.n base s.ts H2 (addLog base log2 s.log)
        | none => none
      else none
    | _ => none
  | _, _, _ => none
abbrev evCode (P : Program) (G : Nat) (ok : List Bool) (call : Ev) (base sb lf : Nat) (c : Code) (s : St) : Option (Ex × St) := evCodeK P G ok call base sb lf c [] s
/-- What a function hands back. -/
def evResults (P : Program) (ts : List Value) (H : Heap) : List ResultVar → Option (List Value)
  | [] => some []
  | .tmp t :: r => match rd 0 ts (.tmp t), evResults P ts H r with
    | some v, some l => some (v :: l)
    | _, _ => none
  | .cell x t :: r => match rd 0 ts (.tmp x), evResults P ts H r with
    | some (.pointer (some ⟨k, off, none⟩)), some l => match eval0 P (isAgg t) with
      | some true => match eval0 P (sizeOf t) with
        | some n => (H.read k off n).map fun cs => .agg cs.toArray :: l
        | none => none
      | some false => match H.read k off 1 with
        | some [v] => some (v :: l)
        | _ => none
      | none => none
    | _, _ => none
/-- One result by itself; several as a tuple. -/
def resVal : List Value → Value
  | [v] => v
  | l => .tuple l.toArray
/-- The jump by which a round was left. -/
def jumpOf : Ex → Option Code
  | .normal => none
  | .ret => some .ret
  | .exit id => some (.exit id)
def setL (ps : List Tmp) (args ts : List Value) : List Value := (ps.zip args).foldl (fun t x => t.set x.1 x.2) ts
/-- One round of a range over a function: a call of yield. -/
def evRound (P : Program) (G : Nat) (ok : List Bool) (call : Ev) (lf : Nat) (k : Nat) (args : List Value) (H : Heap) : Option (Value × Heap × List Nat) :=
  match H.get k with
  | .loop r => match r.state with
    | .ready => if Nat.beq args.length r.params.size && (noRange r.assign && noRange r.body) then match evCode P G ok call H.n r.sb lf r.assign ⟨setL r.params.toList args r.ts, H, []⟩ with
      | some (.normal, s1) => match s1.H.get k with
        | .loop r1 => match r1.state with
          | .ready => match evCode P G ok call H.n r.sb lf r.body ⟨s1.ts, s1.H.set k (.loop { r1 with state := .busy }), addLog H.n [k] s1.log⟩ with
            | some (e, s2) => match s2.H.get k with
              | .loop r2 => match r2.state with
                | .busy => some (.bool (jumpOf e).isNone, (gcAt H.n [] (addLog H.n [k] s2.log) (s2.H.set k (.loop { r2 with state := if (jumpOf e).isNone then .ready else .done, pending := jumpOf e }))).2, addLog H.n [k] s2.log)
                | _ => none
              | _ => none
            | none => none
          | _ => none
        | _ => none
      | _ => none
      else none
    | _ => none
  | _ => none
/-- A call. 'over': calls whose outcome is known; 'sb': of each function, from which slot on there is scratch (a hint); 'lf': how many rounds a loop is given. -/
def evCall (P : Program) (G : Nat) (ok : List Bool) (over : Ev) (sb : List Nat) (lf : Nat) : Nat → Ev
  | 0 => fun _ _ _ => none
  | n + 1 => fun f args H => match Nat.ble Y f with
    | true => evRound P G ok (evCall P G ok over sb lf n) lf (f - Y) args H
    | false => match over f args H with
    | some r => some r
    | none => match P.funcs[f]? with
      | some fn => match fn.body with
        | some c => match evCode P G ok (evCall P G ok over sb lf n) H.n (sb.getD f 0) lf c ⟨args ++ List.replicate (fn.ntmps - args.length) undef, H, []⟩ with
          | some (ex, s) => match ex with
            | .exit _ => none
            | _ => match evResults P s.ts s.H fn.results.toList with
              | some l => some (resVal (gcAt H.n l s.log s.H).1, (gcAt H.n l s.log s.H).2, s.log)
              | none => none
          | none => none
        | none => none
      | none => none
/-- Behind the last slot that has a name, or that a result is read from. -/
def sbOf (fn : Func) : Nat :=
  let a := fn.tmpNames.toList.zipIdx.foldl (fun m (x : String × Nat) => if x.1.utf8ByteSize = 0 then m else x.2 + 1) 0
  fn.results.toList.foldl (fun m r => match r with | .tmp t => max m (t + 1) | .cell t _ => max m (t + 1)) a
def noOver : Ev := fun _ _ _ => none
/-- The functions that have a body. -/
def bodied (P : Program) : List Bool := (P.funcs.toList.take Y).map fun fn => fn.body.isSome && !(fn.name == "runtime.NumGoroutine")
end Go.Dg
