/- The abstract run of operations, regions, code and calls. -/
import Derived.Test.YthfhidbdjiehhaaDgMemU
import Derived.Scope
namespace Go.Dg
set_option linter.unusedVariables false
set_option linter.unusedSimpArgs false

abbrev Ev := FuncId → List Value → Heap → Option (Value × Heap × List Nat)

/-- A method that is called on what an interface value holds: pointer methods of a pointer, value methods of a value that is none. -/
def methodOf (P : Program) (t : TypeId) (name : String) : Option FuncId :=
  match P.info? t with
  | some i => match i.methods.find? (·.name == name) with
    | some m => if m.path.isEmpty then
        match m.func, P.underlying t with
        | some (f, true), some (.pointer _) => some f
        | some (_, false), some (.pointer _) => none
        | some (f, false), some _ => some f
        | _, _ => none
      else none
    | none => none
  | none => none

/-- Calls. 'ok': which functions have a body (and are none of the model's own). -/
def evCallOp (P : Program) (G : Nat) (ok : List Bool) (call : Ev) (ts : List Value) (H : Heap) (o : Oper) : Option (Value × Heap × List Nat) :=
  match o.op with
  | .call { callee := .value f, args, .. } => match rd G ts f, rdAll G ts args.toList with
    | some (.func (.func g) first captured), some l => if ok.getD g false then call g (first.toList ++ l ++ captured.toList) H else none
    | _, _ => none
  | .call { callee := .invoke r name, args, .. } => match rd G ts r, rdAll G ts args.toList with
    | some (.iface t v), some l => match methodOf P t name with
      | some g => if ok.getD g false then call g (v :: l) H else none
      | none => none
    | _, _ => none
  | _ => none

/-- Which operations only read: the class. -/
def isReader (P : Program) : Op → Bool
  | .load _ _ => true
  | .convert _ dst _ => match P.underlying dst with | some .string => true | _ => false
  | _ => false

/-- One operation: its class (0: no memory; 1: it reads; 2: it turns memory), the value, the heap, what was turned. -/
def evOp (P : Program) (G : Nat) (ok : List Bool) (call : Ev) (ts : List Value) (H : Heap) (o : Oper) : Option (Nat × Value × Heap × List Nat) :=
  match evShape P G ts o with
  | some v => some (0, v, H, [])
  | none => match evMem P G ts H o with
    | some (v, H', log) => some (if isReader P o.op then 1 else 2, v, H', log)
    | none => match evCallOp P G ok call ts H o with
      | some (v, H', log) => some (2, v, H', log)
      | none => match evGen P G ts o with
        | some v => some (0, v, H, [])
        | none => none

def yieldedL (ops : Array Oper) (ts : List Value) (j : Nat) : Option Bool :=
  match ((ops[j]?).bind (·.dst)).bind (ts[·]?) with
  | some (.bool b) => some b
  | _ => none
def wantedL (ops : Array Oper) (ts : List Value) (o : Oper) : Bool :=
  match o.guard with
  | none => true
  | some (j, want) => yieldedL ops ts j == some want
def putL (ts : List Value) (dst : Option Tmp) (v : Value) : List Value :=
  match dst with
  | some d => ts.set d v
  | none => ts

structure St where
  ts : List Value
  H : Heap
  log : List Nat

/-- A region in the order of the text. -/
def evOps (P : Program) (G : Nat) (ok : List Bool) (call : Ev) (ops : Array Oper) : List Oper → St → Option St
  | [], s => some s
  | o :: r, s =>
    if wantedL ops s.ts o then
      match evOp P G ok call s.ts s.H o with
      | some (_, v, H', log) => evOps P G ok call ops r ⟨putL s.ts o.dst v, H', log ++ s.log⟩
      | none => none
    else evOps P G ok call ops r ⟨putL s.ts o.dst undef, s.H, s.log⟩

/-- What one operation of a region that draws its order did, in the order of the text. -/
structure Rec where
  cls : Nat
  v : Value
  H : Heap
  log : List Nat
  touched : List Nat

/-- The slots that an operation looks at. -/
def looks (ops : Array Oper) (o : Oper) : List Tmp := o.looksAt ops
/-- The other slots are hidden. -/
def mask (l : List Tmp) (ts : List Value) : List Value := ts.zipIdx.map fun (v, i) => if l.contains i then v else undef

def touchedBy (G : Nat) (ts : List Value) : Op → List Nat
  | .load _ x => match rd G ts x with | some (.pointer (some a)) => [a.block] | _ => []
  | .convert _ _ x => match rd G ts x with | some (.slice (some a) _ _) => [a.block] | _ => []
  | _ => []

def evTrace (P : Program) (G : Nat) (ok : List Bool) (call : Ev) (ops : Array Oper) : List Oper → List Value → Heap → Option (List Rec × Heap)
  | [], _, H => some ([], H)
  | o :: r, ts, H =>
    if wantedL ops ts o then
      match evOp P G ok call (mask (looks ops o) ts) H o with
      | some (c, v, H', log) => match evTrace P G ok call ops r (putL ts o.dst v) H' with
        | some (l, H2) => some (⟨c, v, H, log, touchedBy G (mask (looks ops o) ts) o.op⟩ :: l, H2)
        | none => none
      | none => none
    else match evTrace P G ok call ops r (putL ts o.dst undef) H with
      | some (l, H2) => some (⟨0, undef, H, [], []⟩ :: l, H2)
      | none => none

/-- i must come ahead of j, or j of i. -/
def comparable (B : Array Nat) (i j : Nat) : Bool := (B.getD j 0).testBit i || (B.getD i 0).testBit j

/-- May the operations be done in any order that the edges leave? -/
def drawOk (ops : Array Oper) (recs : List Rec) : Bool :=
  let B := Region.before ops
  let L := ops.toList.zipIdx
  let R := recs.zipIdx
  -- the edges lead back
  L.all (fun (o, i) => o.after.toList.all fun e => !Region.binds .any e || decide (e.on < i)) &&
  -- no 'select'
  ops.toList.all (fun o => noSelect o.op) &&
  -- each slot is written by one operation
  L.all (fun (o, i) => match o.dst with | none => true | some d => L.all fun (p, j) => p.dst != some d || i == j) &&
  -- who looks at a slot that another one writes stands in order with it
  L.all (fun (o, i) => (looks ops o).all fun t => L.all fun (p, j) => p.dst != some t || i == j || comparable B i j) &&
  -- what turns memory stands in a row; what reads stands in order with what turns what it reads
  R.all (fun (r, i) => R.all fun (q, j) =>
    (if q.cls == 2 && r.cls == 2 then decide (j ≤ i) || (B.getD j 0).testBit i else true) &&
    (if q.cls == 2 && r.cls == 1 && !comparable B i j then r.touched.all (fun k => !q.log.contains k && decide (k < q.H.n)) else true))

def evDraw (P : Program) (G : Nat) (ok : List Bool) (call : Ev) (ops : Array Oper) (s : St) : Option St :=
  match evTrace P G ok call ops ops.toList s.ts s.H with
  | some (recs, H') =>
    if drawOk ops recs then
      some ⟨(ops.toList.zip recs).foldl (fun ts (o, r) => putL ts o.dst r.v) s.ts, H', recs.foldl (fun l r => r.log ++ l) s.log⟩
    else none
  | none => none

inductive Ex where
  | normal
  | exit (id : Nat)
  | ret

def evLoop (body : St → Option (Ex × St)) : Nat → St → Option (Ex × St)
  | 0, _ => none
  | n + 1, s => match body s with
    | some (.normal, s') => evLoop body n s'
    | r => r

def evCode (P : Program) (G : Nat) (ok : List Bool) (call : Ev) (lf : Nat) : Code → St → Option (Ex × St)
  | .skip, s => some (.normal, s)
  | .label _, s => some (.normal, s)
  | .region _ ops d, s => (if d then evDraw P G ok call ops s else evOps P G ok call ops ops.toList s).map fun s' => (.normal, s')
  | .seq a b, s => match evCode P G ok call lf a s with
    | some (.normal, s') => evCode P G ok call lf b s'
    | r => r
  | .cond c a b, s => match rd G s.ts c with
    | some (.bool true) => evCode P G ok call lf a s
    | some (.bool false) => evCode P G ok call lf b s
    | _ => none
  | .block id b, s => match evCode P G ok call lf b s with
    | some (.exit id', s') => some (if id' = id then .normal else .exit id', s')
    | r => r
  | .loop b, s => evLoop (evCode P G ok call lf b) lf s
  | .exit id, s => some (.exit id, s)
  | .scope b, s => evCode P G ok call lf b s
  | .ret, s => some (.ret, s)
  | _, _ => none

/-- What a function hands back. -/
def evResults (P : Program) (ts : List Value) (H : Heap) : List ResultVar → Option (List Value)
  | [] => some []
  | .tmp t :: r => (evResults P ts H r).map fun l => ts.getD t undef :: l
  | .cell x t :: r => match ts.getD x undef, evResults P ts H r with
    | .pointer (some ⟨k, off, none⟩), some l => match eval0 P (isAgg t) with
      | some true => match eval0 P (sizeOf t) with
        | some n => (H.read k off n).map fun cs => .agg cs.toArray :: l
        | none => none
      | some false => match H.read k off 1 with
        | some [v] => some (v :: l)
        | _ => none
      | none => none
    | _, _ => none

-- No address from n on.
mutual
def below (n : Nat) : Value → Bool
  | .bool _ | .int _ _ | .float _ _ | .complex _ _ _ | .string _ | .nilFunc | .nilIface | .chan _ => true
  | .pointer a => match a with | none => true | some a => decide (a.block < n)
  | .slice a _ _ => match a with | none => true | some a => decide (a.block < n)
  | .map r => match r with | none => true | some r => decide (r < n)
  | .func fn a b => (match fn with | .yield l => decide (l < n) | _ => true) && belowA n a && belowA n b
  | .iface _ v => below n v
  | .agg cs => belowA n cs
  | .tuple cs => belowA n cs
def belowA (n : Nat) : Array Value → Bool
  | ⟨l⟩ => belowL n l
def belowL (n : Nat) : List Value → Bool
  | [] => true
  | v :: r => below n v && belowL n r
end
def AObj.below (n : Nat) : AObj → Bool
  | .cells cs _ _ _ => belowL n cs
  | _ => true

/-- Behind a call: what the call made is dropped, if nothing that is left leads to it. -/
def dropNew (n : Nat) (v : Value) (H : Heap) (log : List Nat) : Value × Heap × List Nat :=
  if below n v && log.all (fun k => decide (n ≤ k) || (H.get k).below n) then (v, ⟨n, H.objs.drop (H.n - n)⟩, log.filter (· < n)) else (v, H, log)

/-- One result by itself; several as a tuple. -/
def resVal : List Value → Value
  | [v] => v
  | l => .tuple l.toArray

def evCall (P : Program) (G : Nat) (ok : List Bool) (lf : Nat) : Nat → Ev
  | 0 => fun _ _ _ => none
  | n + 1 => fun f args H => match P.funcs[f]? with
    | some fn => match fn.body with
      | some c => match evCode P G ok (evCall P G ok lf n) lf c ⟨args ++ List.replicate (fn.ntmps - args.length) undef, H, []⟩ with
        | some (ex, s) => match ex with
          | .exit _ => none
          | _ => match evResults P s.ts s.H fn.results.toList with
            | some l => some (dropNew H.n (resVal l) s.H s.log)
            | none => none
        | none => none
      | none => none
    | none => none

/-- The functions that have a body. -/
def bodied (P : Program) : List Bool := P.funcs.toList.map fun fn => fn.body.isSome && !(fn.name == "runtime.NumGoroutine")

end Go.Dg
