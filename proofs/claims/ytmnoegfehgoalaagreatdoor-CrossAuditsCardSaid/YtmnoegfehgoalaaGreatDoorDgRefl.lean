/- Functions of internal/reflectlite that the model does itself: what errors.As and errors.Is ask of types and of variables. -/
import Derived.Test.YtmnoegfehgoalaaGreatDoorDgExt
namespace Go.Dg
set_option linter.unusedVariables false
set_option linter.unusedSimpArgs false
open Go.Extern
/-- Values whose addresses are those of package variables and of types' handles. -/
def globP (G : Nat) : Value → Bool
  | .pointer (some ⟨k, _, none⟩) => decide (k < G)
  | v => flat v
def globL (G : Nat) : List Value → Bool
  | [] => true
  | v :: r => globP G v && globL G r
def globV (G : Nat) : Value → Bool
  | .iface _ (.agg ⟨l⟩) => globL G l
  | .agg ⟨l⟩ => globL G l
  | v => globP G v
def globsV (G : Nat) : List Value → Bool
  | [] => true
  | v :: r => globV G v && globsV G r
section
variable {G : Nat} {M : Emb}
theorem globP_rel (hg : Globs G M) {v : Value} (h : globP G v = true) : VRel M v v := by
  unfold globP at h
  split at h
  · rename_i k off
    have h1 := VRel.ptr (off := off) (hg k (of_decide_eq_true h))
    simpa using h1
  · exact vrel_of_flat _ _ h
theorem globP_eq (hg : Globs G M) {v v' : Value} (hv : VRel M v v') (h : globP G v = true) : v' = v := by
  unfold globP at h
  split at h
  · rename_i k off
    obtain ⟨b, o, sp, h1, rfl⟩ := hv.ptr_inv
    rw [hg k (of_decide_eq_true h)] at h1
    cases h1
    simp
  · exact hv.eq_of_flat h
theorem globL_rel (hg : Globs G M) : ∀ {l : List Value}, globL G l = true → LRel M l l
  | [], _ => LRel.nil
  | v :: r, h => by
    simp only [globL, Bool.and_eq_true] at h
    exact LRel.cons (globP_rel hg h.1) (globL_rel hg h.2)
theorem globL_eq (hg : Globs G M) : ∀ {l l' : List Value}, LRel M l l' → globL G l = true → l' = l
  | [], l', hl, _ => hl.nil_inv
  | v :: r, l', hl, h => by
    simp only [globL, Bool.and_eq_true] at h
    obtain ⟨v', r', rfl, h1, h2⟩ := hl.cons_inv
    rw [globP_eq hg h1 h.1, globL_eq hg h2 h.2]
theorem globV_rel (hg : Globs G M) {v : Value} (h : globV G v = true) : VRel M v v := by
  unfold globV at h
  split at h
  · exact .iface (.agg rfl (globL_rel hg h).toArray.2)
  · exact .agg rfl (globL_rel hg h).toArray.2
  · exact globP_rel hg h
theorem globV_eq (hg : Globs G M) {v v' : Value} (hv : VRel M v v') (h : globV G v = true) : v' = v := by
  unfold globV at h
  split at h
  · obtain ⟨u, rfl, h1⟩ := hv.iface_inv
    obtain ⟨a, rfl, h2⟩ := h1.agg_inv
    have := globL_eq hg h2.toList h
    have e : a = ⟨_⟩ := Array.ext' this
    rw [e]
  · obtain ⟨a, rfl, h2⟩ := hv.agg_inv
    have := globL_eq hg h2.toList h
    have e : a = ⟨_⟩ := Array.ext' this
    rw [e]
  · exact globP_eq hg hv h
theorem globsV_eq (hg : Globs G M) : ∀ {l l' : List Value}, LRel M l l' → globsV G l = true → l' = l
  | [], l', hl, _ => hl.nil_inv
  | v :: r, l', hl, h => by
    simp only [globsV, Bool.and_eq_true] at h
    obtain ⟨v', r', rfl, h1, h2⟩ := hl.cons_inv
    rw [globV_eq hg h1 h.1, globsV_eq hg h2 h.2]
end
/-- Functions that ask of types alone. -/
def extSem (name : String) : Option (Array Value → Sem Value) :=
  if name == "(internal/reflectlite.rtype).Elem" then some (ReflectliteType.method ReflectliteType.elem)
  else if name == "(internal/reflectlite.rtype).Comparable" then some (ReflectliteType.method fun t => do Rtype.noPackHeld "Comparable" t; pure (.bool (← typeInfo t).comparable))
  else if name == "(internal/reflectlite.rtype).Implements" then some (ReflectliteType.relation "Implements" ReflectliteType.implements_)
  else if name == "(internal/reflectlite.rtype).AssignableTo" then some (ReflectliteType.relation "AssignableTo" ReflectliteType.assignableTo)
  else if name == "(internal/reflectlite.rtype).common" then some (ReflectliteType.method Rtype.handle)
  else if name == "(*internal/abi.Type).Kind" then some (ReflectliteType.abiMethod fun t => do pure (.int .u8 (← Rtype.kind t)))
  else none
theorem find_sem {fn : Func} {f : Array Value → Sem Value} (h : extSem fn.name = some f) (ho : fn.origin = "") : Extern.findNext fn = none ∧ Extern.find fn = some f := by
  have e : ∀ (s : String) (hs : (fn.name == s) = true), fn.name = s := fun s hs => eq_of_beq hs
  have key : ∀ s, fn.name = s → (Extern.findNext fn = Extern.findNext { fn with name := s, origin := "" } ∧ Extern.find fn = Extern.find { fn with name := s, origin := "" }) := by
    intro s hs
    subst hs
    have : fn = { fn with origin := "" } := by cases fn; simp only at ho; subst ho; rfl
    exact ⟨congrArg Extern.findNext this, congrArg Extern.find this⟩
  unfold extSem at h
  repeat' split at h
  all_goals first
    | (cases h; done)
    | skip
  all_goals
    rename_i hn
    cases h
    constructor
    · unfold Extern.findNext
      rw [e _ hn, ho]
      kernel_rfl
    · unfold Extern.find
      rw [e _ hn, ho]
      kernel_rfl
/-- A type's handle, by a Value's first part. -/
def tyOf (P : Program) (h : Value) : Option TypeId := eval0 P (do let t ← Rtype.ofHandle h; Rtype.noPack "a Value asked or handed on" t; pure t)
def readVar (P : Program) (H : Heap) (t : TypeId) (k off : Nat) : Option Value := match eval0 P (isAgg t) with
  | some true => match eval0 P (sizeOf t) with
    | some n => (H.read k off n).map fun l => .agg l.toArray
    | none => none
  | some false => match H.read k off 1 with
    | some [v] => some v
    | _ => none
  | none => none
def rlTypeOf (P : Program) (G : Nat) (l : List Value) (H : Heap) : Option (Value × Heap × List Nat) := match l with
  | [.iface t _] => match eval0 P (ReflectliteType.toType t) with
    | some v => if globV G v then some (v, H, []) else none
    | none => none
  | [.nilIface] => some (.nilIface, H, [])
  | _ => none
def rlValueOf (P : Program) (G : Nat) (l : List Value) (H : Heap) : Option (Value × Heap × List Nat) := match l with
  | [.iface t v] => match eval0 P (Rtype.handle t), eval0 P (Rtype.kind t) with
    | some h, some k => if globP G h then some (.agg #[h, .pointer (some ⟨H.n, 0, none⟩), .int .u64 (Int.ofNat (k + 128 + 0))], H.push (.cells v.cells.toList t 0 1), []) else none
    | _, _ => none
  | _ => none
def rlType (P : Program) (G : Nat) (l : List Value) (H : Heap) : Option (Value × Heap × List Nat) := match l with
  | [.agg ⟨[h, .pointer (some ⟨_, _, none⟩), .int .u64 f]⟩] => if f = 0 then none else if globP G h then match eval0 P (do let t ← Rtype.ofHandle h; ReflectliteType.toType t) with
      | some v => if globV G v then some (v, H, []) else none
      | none => none
    else none
  | _ => none
def rlIsNil (P : Program) (G : Nat) (l : List Value) (H : Heap) : Option (Value × Heap × List Nat) := match l with
  | [.agg ⟨[h, .pointer (some ⟨k, off, none⟩), .int .u64 f]⟩] => if f = 0 then none else if globP G h then match tyOf P h with
      | some t => if f.toNat % 32 = 22 then match readVar P H t k off with
          | some (.pointer none) => some (.bool true, H, [])
          | some (.pointer (some _)) => some (.bool false, H, [])
          | _ => none
        else none
      | none => none
    else none
  | _ => none
def rlElem (P : Program) (G : Nat) (l : List Value) (H : Heap) : Option (Value × Heap × List Nat) := match l with
  | [.agg ⟨[h, .pointer (some ⟨k, off, none⟩), .int .u64 f]⟩] => if f = 0 then none else if globP G h then match tyOf P h with
      | some t => if f.toNat % 32 = 22 then match readVar P H t k off, eval0 P (Rtype.elem? t) with
          | some (.pointer (some ⟨k2, off2, none⟩)), some (some e) => match eval0 P (Rtype.handle e), eval0 P (Rtype.kind e) with
            | some h2, some kd => if globP G h2 then some (.agg #[h2, .pointer (some ⟨k2, off2, none⟩), .int .u64 (Int.ofNat (kd + 128 + 256))], H, []) else none
            | _, _ => none
          | _, _ => none
        else none
      | none => none
    else none
  | _ => none
def rlSet (P : Program) (G : Nat) (l : List Value) (H : Heap) : Option (Value × Heap × List Nat) := match l with
  | [.agg ⟨[h1, .pointer (some ⟨k1, off1, none⟩), .int .u64 f1]⟩, .agg ⟨[h2, .pointer (some ⟨k2, off2, none⟩), .int .u64 f2]⟩] =>
    if f1 = 0 ∨ f2 = 0 ∨ f1.toNat / 256 % 2 = 0 then none else if globP G h1 && globP G h2 then match tyOf P h1, tyOf P h2 with
      | some dst, some src => match readVar P H src k2 off2, eval0 P (sizeOf dst) with
        | some val, some n => match eval0 P (Rtype.directlyAssignable dst src) with
          | some true => if val.cells.size = n then (H.write k1 off1 val.cells.toList).map fun H' => (.tuple #[], H', [k1]) else none
          | some false => match eval0 P (Rtype.implements dst src), eval0 P (Rtype.kind src) with
            | some true, some kd => if kd = 20 then none else if n = 1 then (H.write k1 off1 [.iface src val]).map fun H' => (.tuple #[], H', [k1]) else none
            | _, _ => none
          | none => none
        | _, _ => none
      | _, _ => none
    else none
  | _ => none
/-- Functions that ask of variables, too. -/
def extHeap (P : Program) (G : Nat) (name : String) (l : List Value) (H : Heap) : Option (Value × Heap × List Nat) :=
  if name == "internal/reflectlite.TypeOf" then rlTypeOf P G l H
  else if name == "internal/reflectlite.ValueOf" then rlValueOf P G l H
  else if name == "(internal/reflectlite.Value).Type" then rlType P G l H
  else if name == "(internal/reflectlite.Value).IsNil" then rlIsNil P G l H
  else if name == "(internal/reflectlite.Value).Elem" then rlElem P G l H
  else if name == "(internal/reflectlite.Value).Set" then rlSet P G l H
  else none
def extRun (P : Program) (G : Nat) (name : String) (l : List Value) (H : Heap) : Option (Value × Heap × List Nat) :=
  match extVal name l with
  | some v => some (v, H, [])
  | none => match extSem name with
    | some f => if globsV G l then match eval0 P (f l.toArray) with
        | some v => if globV G v then some (v, H, []) else none
        | none => none
      else none
    | none => extHeap P G name l H
section
variable {P : Program} {G N : Nat} {M : Emb} {H : Heap} {w : World}
theorem find_at {fn : Func} (s : String) (f : Array Value → Sem Value) (h : fn.name = s) (ho : fn.origin = "") (h1 : ∀ fn' : Func, fn'.name = s → fn'.origin = "" → Extern.findNext fn' = none) (h2 : ∀ fn' : Func, fn'.name = s → fn'.origin = "" → Extern.find fn' = some f) :
    Extern.findNext fn = none ∧ Extern.find fn = some f := ⟨h1 fn h ho, h2 fn h ho⟩
theorem tyOf_run {h : Value} {t : TypeId} (ht : tyOf P h = some t) (w : World) : (Rtype.ofHandle h).run P w = .ok t w ∧ (Rtype.noPack "a Value asked or handed on" t).run P w = .ok () w := by
  unfold tyOf at ht
  obtain ⟨t1, h1, h2⟩ := eval0_bind_some ht
  obtain ⟨u, h3, h4⟩ := eval0_bind_some h2
  cases h4
  exact ⟨eval0_run P _ _ h1 w, eval0_run P _ _ h3 w⟩
theorem readVar_run (hr : HRel M N H w) {t : TypeId} {k off b o sp : Nat} {v : Value} (h : readVar P H t k off = some v) (hM : M k = some (b, o, sp)) : ∃ v', VRel M v v' ∧ (loadVar t ⟨b, o + off, none⟩).run P w = .ok v' w := by
  unfold readVar at h
  split at h
  · rename_i ha
    split at h
    · rename_i n hn
      rw [Option.map_eq_some_iff] at h
      obtain ⟨l, hl, rfl⟩ := h
      obtain ⟨l', h1, _, h3⟩ := read_run (P := P) hr hl hM
      refine ⟨.agg l'.toArray, .agg h1.toArray.1 h1.toArray.2, ?_⟩
      simp only [loadVar, Sem.run_bind, run_of_eval0 ha, run_of_eval0 hn, Result.andThen_ok, if_true, h3, Sem.run_pure]
    · cases h
  · rename_i ha
    split at h
    · rename_i u hu
      cases h
      obtain ⟨l', h1, h2, h3⟩ := hr.read hu hM
      obtain ⟨v', r, rfl, h4, h5⟩ := h1.cons_inv
      have h6 := h3 0 v' rfl
      rw [Nat.add_zero] at h6
      refine ⟨v', h4, ?_⟩
      simp only [loadVar, Sem.run_bind, run_of_eval0 ha, Result.andThen_ok, Bool.false_eq_true, if_false, run_load, h6]
    · cases h
  · cases h
theorem agg3 {h : Value} {k off : Nat} {f : Int} {v' : Value} (hv : VRel M (.agg ⟨[h, .pointer (some ⟨k, off, none⟩), .int .u64 f]⟩) v') : ∃ h' b o sp, M k = some (b, o, sp) ∧ VRel M h h' ∧ v' = .agg #[h', .pointer (some ⟨b, o + off, none⟩), .int .u64 f] := by
  obtain ⟨a, rfl, ha⟩ := hv.agg_inv
  obtain ⟨h', r, e, h1, h2⟩ := ha.toList.cons_inv
  obtain ⟨p, r2, rfl, h3, h4⟩ := h2.cons_inv
  obtain ⟨n, r3, rfl, h5, h6⟩ := h4.cons_inv
  obtain rfl := h6.nil_inv
  obtain ⟨b, o, sp, q1, rfl⟩ := h3.ptr_inv
  obtain rfl := h5.eq_of_flat rfl
  have : a = #[h', .pointer (some ⟨b, o + off, none⟩), .int .u64 f] := Array.ext' e
  exact ⟨h', b, o, sp, q1, h1, by rw [this]⟩
theorem one_arg {v : Value} {args' : Array Value} (hl : LRel M [v] args'.toList) : ∃ v', VRel M v v' ∧ args' = #[v'] := by
  obtain ⟨v', r, e, h1, h2⟩ := hl.cons_inv
  obtain rfl := h2.nil_inv
  exact ⟨v', h1, Array.ext' e⟩
theorem two_args {u v : Value} {args' : Array Value} (hl : LRel M [u, v] args'.toList) : ∃ u' v', VRel M u u' ∧ VRel M v v' ∧ args' = #[u', v'] := by
  obtain ⟨u', r, e, h1, h2⟩ := hl.cons_inv
  obtain ⟨v', r2, rfl, h3, h4⟩ := h2.cons_inv
  obtain rfl := h4.nil_inv
  exact ⟨u', v', h1, h3, Array.ext' e⟩
theorem find_typeOf {fn : Func} (h : fn.name = "internal/reflectlite.TypeOf") (ho : fn.origin = "") : Extern.findNext fn = none ∧ Extern.find fn = some ReflectliteType.typeOf := by
  constructor
  · unfold Extern.findNext
    rw [h, ho]
    kernel_rfl
  · unfold Extern.find
    rw [h, ho]
    kernel_rfl
theorem find_valueOf {fn : Func} (h : fn.name = "internal/reflectlite.ValueOf") (ho : fn.origin = "") : Extern.findNext fn = none ∧ Extern.find fn = some fun args => ReflectliteValue.unpack (args.getD 0 (.tuple #[])) := by
  constructor
  · unfold Extern.findNext
    rw [h, ho]
    kernel_rfl
  · unfold Extern.find
    rw [h, ho]
    kernel_rfl
theorem find_vType {fn : Func} (h : fn.name = "(internal/reflectlite.Value).Type") (ho : fn.origin = "") : Extern.findNext fn = none ∧ Extern.find fn = some (ReflectliteValue.methodAny (ReflectliteValue.valueError "reflectlite.Value.Type" 0) fun t _ _ _ => ReflectliteType.toType t) := by
  constructor
  · unfold Extern.findNext
    rw [h, ho]
    kernel_rfl
  · unfold Extern.find
    rw [h, ho]
    kernel_rfl
theorem find_vIsNil {fn : Func} (h : fn.name = "(internal/reflectlite.Value).IsNil") (ho : fn.origin = "") : Extern.findNext fn = none ∧ Extern.find fn = some (ReflectliteValue.method (ReflectliteValue.valueError "reflectlite.Value.IsNil" 0) ReflectliteValue.isNil) := by
  constructor
  · unfold Extern.findNext
    rw [h, ho]
    kernel_rfl
  · unfold Extern.find
    rw [h, ho]
    kernel_rfl
theorem find_vElem {fn : Func} (h : fn.name = "(internal/reflectlite.Value).Elem") (ho : fn.origin = "") : Extern.findNext fn = none ∧ Extern.find fn = some (ReflectliteValue.method (ReflectliteValue.valueError "reflectlite.Value.Elem" 0) ReflectliteValue.elem) := by
  constructor
  · unfold Extern.findNext
    rw [h, ho]
    kernel_rfl
  · unfold Extern.find
    rw [h, ho]
    kernel_rfl
theorem find_vSet {fn : Func} (h : fn.name = "(internal/reflectlite.Value).Set") (ho : fn.origin = "") : Extern.findNext fn = none ∧ Extern.find fn = some ReflectliteValue.set := by
  constructor
  · unfold Extern.findNext
    rw [h, ho]
    kernel_rfl
  · unfold Extern.find
    rw [h, ho]
    kernel_rfl
theorem partsAny_run {h : Value} {t : TypeId} {a : Addr} {f : Int} (hf : ¬ f = 0) (w : World) (ht : (Rtype.ofHandle h).run P w = .ok t w) : (ReflectliteValue.partsAny (.agg #[h, .pointer (some a), .int .u64 f])).run P w = .ok (some (t, a, f.toNat)) w := by
  cases f with
  | ofNat n =>
    cases n with
    | zero => exact absurd rfl hf
    | succ n =>
      have hdef : ReflectliteValue.partsAny (.agg #[h, .pointer (some a), .int .u64 (Int.ofNat (n + 1))]) = (do pure (some (← Rtype.ofHandle h, a, (Int.ofNat (n + 1)).toNat))) := rfl
      rw [hdef]
      simp only [Sem.run_bind, ht, Result.andThen_ok, Sem.run_pure]
  | negSucc n =>
    have hdef : ReflectliteValue.partsAny (.agg #[h, .pointer (some a), .int .u64 (Int.negSucc n)]) = (do pure (some (← Rtype.ofHandle h, a, (Int.negSucc n).toNat))) := rfl
    rw [hdef]
    simp only [Sem.run_bind, ht, Result.andThen_ok, Sem.run_pure]
theorem parts_run {h : Value} {t : TypeId} {a : Addr} {f : Int} (hf : ¬ f = 0) (w : World) (ht : tyOf P h = some t) : (ReflectliteValue.parts (.agg #[h, .pointer (some a), .int .u64 f])).run P w = .ok (some (t, a, f.toNat)) w := by
  obtain ⟨h1, h2⟩ := tyOf_run ht w
  unfold ReflectliteValue.parts
  simp only [Sem.run_bind, partsAny_run hf w h1, Result.andThen_ok, h2, Sem.run_pure]
theorem mk_run {e : TypeId} {h2 : Value} {kd : Nat} (h1 : eval0 P (Rtype.handle e) = some h2) (hk : eval0 P (Rtype.kind e) = some kd) (a : Addr) (fl : Nat) (w : World) : (ReflectliteValue.mk e a fl).run P w = .ok (.agg #[h2, .pointer (some a), .int .u64 (Int.ofNat (kd + 128 + fl))]) w := by
  unfold ReflectliteValue.mk
  simp only [Sem.run_bind, run_of_eval0 h1, run_of_eval0 hk, Result.andThen_ok, Sem.run_pure]
  rfl
theorem extHeap_run (hg : Globs G M) (hr : HRel M N H w) {fn : Func} {g : FuncId} (hf : P.funcs[g]? = some fn) (hb : fn.body.isNone = true) (ho : fn.origin = "") (hn : (fn.name == "runtime.NumGoroutine") = false) {l : List Value} {args' : Array Value}
    (hl : LRel M l args'.toList) {v : Value} {H' : Heap} {log : List Nat} (h : extHeap P G fn.name l H = some (v, H', log)) :
    ∃ v' M' w', (callFunc g args').run P w = .ok (.value v') w' ∧ VRel M' v v' ∧ Stp N M H w M' H' w' := by
  unfold extHeap at h
  split at h
  · -- TypeOf
    rename_i hname
    unfold rlTypeOf at h
    obtain ⟨q1, q2⟩ := find_typeOf (eq_of_beq hname) ho
    split at h
    · rename_i t u
      split at h
      · rename_i v0 hv0
        split at h
        · rename_i hgv
          cases h
          obtain ⟨v', h1, rfl⟩ := one_arg hl
          obtain ⟨u', rfl, _⟩ := h1.iface_inv
          have hd : ReflectliteType.typeOf #[.iface t u'] = ReflectliteType.toType t := rfl
          exact ⟨v, M, w, by rw [run_callFunc_extern hf hn hb q1 q2, hd, run_of_eval0 hv0]; rfl, globV_rel hg hgv, .refl hr⟩
        · cases h
      · cases h
    · cases h
      obtain ⟨v', h1, rfl⟩ := one_arg hl
      obtain rfl := h1.eq_of_flat rfl
      exact ⟨.nilIface, M, w, by rw [run_callFunc_extern hf hn hb q1 q2]; rfl, .atom rfl, .refl hr⟩
    · cases h
  split at h
  · -- ValueOf
    rename_i hname
    unfold rlValueOf at h
    obtain ⟨q1, q2⟩ := find_valueOf (eq_of_beq hname) ho
    split at h
    rotate_left
    · cases h
    rename_i t u
    split at h
    rotate_left
    · cases h
    rename_i hd k h1 h2
    split at h
    rotate_left
    · cases h
    rename_i hgp
    cases h
    obtain ⟨v', h3, rfl⟩ := one_arg hl
    obtain ⟨u', rfl, h4⟩ := h3.iface_inv
    have hd2 : (ReflectliteValue.unpack ((#[.iface t u'] : Array Value).getD 0 (.tuple #[]))) = (do ReflectliteValue.mk t (← newVar t u') 0) := rfl
    have hst := Stp.row hr t h4.cells.toList
    refine ⟨.agg #[hd, .pointer (some ⟨w.heap.size, 0, none⟩), .int .u64 (Int.ofNat (k + 128 + 0))], _, _, ?_, ?_, hst⟩
    · rw [run_callFunc_extern hf hn hb q1 q2]
      simp only [hd2, newVar, newRow, Sem.run_bind, run_newObj, Result.andThen_ok, Sem.run_pure, mk_run h1 h2]
      rfl
    · refine .agg rfl (LRel.cons ((globP_rel hg hgp).mono hst.le) (LRel.cons vrel_new (LRel.cons (.atom rfl) LRel.nil))).toArray.2
  split at h
  · -- Type
    rename_i hname
    unfold rlType at h
    obtain ⟨q1, q2⟩ := find_vType (eq_of_beq hname) ho
    split at h
    rotate_left
    · cases h
    rename_i hd k off f
    split at h
    · cases h
    rename_i hf0
    split at h
    rotate_left
    · cases h
    rename_i hgp
    split at h
    rotate_left
    · cases h
    rename_i v0 hv0
    split at h
    rotate_left
    · cases h
    rename_i hgv
    cases h
    obtain ⟨v', h1, rfl⟩ := one_arg hl
    obtain ⟨h', b, o, sp, hM, h2, rfl⟩ := agg3 h1
    obtain rfl := globP_eq hg h2 hgp
    obtain ⟨t, h3, h4⟩ := eval0_bind_some hv0
    refine ⟨v, M, w, ?_, globV_rel hg hgv, .refl hr⟩
    rw [run_callFunc_extern hf hn hb q1 q2]
    have hd2 : ∀ x, ReflectliteValue.methodAny (ReflectliteValue.valueError "reflectlite.Value.Type" 0) (fun t _ _ _ => ReflectliteType.toType t) #[x] = (do
      match ← ReflectliteValue.partsAny x with
      | none => ReflectliteValue.valueError "reflectlite.Value.Type" 0
      | some (t, a, fl) => ReflectliteType.toType t) := fun _ => rfl
    simp only [hd2, Sem.run_bind, partsAny_run hf0 w (eval0_run P _ _ h3 w), Result.andThen_ok, run_of_eval0 h4]
  split at h
  · -- IsNil
    rename_i hname
    unfold rlIsNil at h
    obtain ⟨q1, q2⟩ := find_vIsNil (eq_of_beq hname) ho
    split at h
    rotate_left
    · cases h
    rename_i hd k off f
    split at h
    · cases h
    rename_i hf0
    split at h
    rotate_left
    · cases h
    rename_i hgp
    split at h
    rotate_left
    · cases h
    rename_i t ht
    split at h
    rotate_left
    · cases h
    rename_i h22
    obtain ⟨v', h1, rfl⟩ := one_arg hl
    obtain ⟨h', b, o, sp, hM, h2, rfl⟩ := agg3 h1
    obtain rfl := globP_eq hg h2 hgp
    have hd2 : ∀ x, ReflectliteValue.method (ReflectliteValue.valueError "reflectlite.Value.IsNil" 0) ReflectliteValue.isNil #[x] = (do
      match ← ReflectliteValue.parts x with
      | none => ReflectliteValue.valueError "reflectlite.Value.IsNil" 0
      | some (t, a, fl) => ReflectliteValue.isNil t a fl (fl % 32)) := fun _ => rfl
    have hrun : ∀ (u : Value) (bb : Bool), (loadVar t ⟨b, o + off, none⟩).run P w = .ok u w → (u = .pointer none ∧ bb = true ∨ (∃ a, u = .pointer (some a)) ∧ bb = false) → (callFunc g #[.agg #[h', .pointer (some ⟨b, o + off, none⟩), .int .u64 f]]).run P w = .ok (.value (.bool bb)) w := by
      intro u bb hu hb2
      rw [run_callFunc_extern hf hn hb q1 q2]
      simp only [hd2, Sem.run_bind, parts_run hf0 w ht, Result.andThen_ok, ReflectliteValue.isNil, h22]
      have hc : (!([18, 19, 20, 21, 22, 23, 26].contains 22)) = false := by decide
      simp only [hc, Bool.false_eq_true, if_false, Sem.run_bind, Sem.run_pure, Result.andThen_ok, hu]
      rcases hb2 with ⟨rfl, rfl⟩ | ⟨⟨a, rfl⟩, rfl⟩ <;> simp only [Sem.run_pure, Result.andThen_ok]
    split at h
    · rename_i hv
      cases h
      obtain ⟨u, h3, h4⟩ := readVar_run hr hv hM
      obtain rfl := h3.eq_of_flat rfl
      exact ⟨.bool true, M, w, hrun _ _ h4 (.inl ⟨rfl, rfl⟩), .atom rfl, .refl hr⟩
    · rename_i p hv
      cases h
      obtain ⟨u, h3, h4⟩ := readVar_run hr hv hM
      have h5 : ∃ a, u = .pointer (some a) := by
        cases h3 with
        | atom h0 => simp [atom] at h0
        | ptr _ => exact ⟨_, rfl⟩
      exact ⟨.bool false, M, w, hrun _ _ h4 (.inr ⟨h5, rfl⟩), .atom rfl, .refl hr⟩
    · cases h
  split at h
  · -- Elem
    rename_i hname
    unfold rlElem at h
    obtain ⟨q1, q2⟩ := find_vElem (eq_of_beq hname) ho
    split at h
    rotate_left
    · cases h
    rename_i hd k off f
    split at h
    · cases h
    rename_i hf0
    split at h
    rotate_left
    · cases h
    rename_i hgp
    split at h
    rotate_left
    · cases h
    rename_i t ht
    split at h
    rotate_left
    · cases h
    rename_i h22
    split at h
    rotate_left
    · cases h
    rename_i k2 off2 e hv he
    split at h
    rotate_left
    · cases h
    rename_i h2 kd hh hk
    split at h
    rotate_left
    · cases h
    rename_i hgp2
    cases h
    obtain ⟨v', h1, rfl⟩ := one_arg hl
    obtain ⟨h', b, o, sp, hM, h3, rfl⟩ := agg3 h1
    obtain rfl := globP_eq hg h3 hgp
    obtain ⟨u, h4, h5⟩ := readVar_run hr hv hM
    obtain ⟨b2, o2, sp2, hM2, rfl⟩ := h4.ptr_inv
    have hd2 : ∀ x, ReflectliteValue.method (ReflectliteValue.valueError "reflectlite.Value.Elem" 0) ReflectliteValue.elem #[x] = (do
      match ← ReflectliteValue.parts x with
      | none => ReflectliteValue.valueError "reflectlite.Value.Elem" 0
      | some (t, a, fl) => ReflectliteValue.elem t a fl (fl % 32)) := fun _ => rfl
    refine ⟨.agg #[h2, .pointer (some ⟨b2, o2 + off2, none⟩), .int .u64 (Int.ofNat (kd + 128 + 256))], M, w, ?_, .agg rfl (LRel.cons (globP_rel hg hgp2) (LRel.cons (.ptr hM2) (LRel.cons (.atom rfl) LRel.nil))).toArray.2, .refl hr⟩
    rw [run_callFunc_extern hf hn hb q1 q2]
    simp only [hd2, Sem.run_bind, parts_run hf0 w ht, Result.andThen_ok, ReflectliteValue.elem, h22]
    have hc : ((22 != 20 && 22 != 22 : Bool)) = false := by decide
    simp only [hc, Bool.false_eq_true, if_false, Sem.run_bind, Sem.run_pure, Result.andThen_ok, h5, run_of_eval0 he, mk_run hh hk, ReflectliteValue.flagAddr]
  split at h
  · -- Set
    rename_i hname
    unfold rlSet at h
    obtain ⟨q1, q2⟩ := find_vSet (eq_of_beq hname) ho
    split at h
    rotate_left
    · cases h
    rename_i h1 k1 off1 f1 h2 k2 off2 f2
    split at h
    · cases h
    rename_i hc0
    split at h
    rotate_left
    · cases h
    rename_i hgp
    simp only [Bool.and_eq_true] at hgp
    split at h
    rotate_left
    · cases h
    rename_i dst src hdst hsrc
    split at h
    rotate_left
    · cases h
    rename_i val n hval hsz
    obtain ⟨x, y, hx, hy, rfl⟩ := two_args hl
    obtain ⟨h1', b1, o1, sp1, hM1, r1, rfl⟩ := agg3 hx
    obtain ⟨h2', b2, o2, sp2, hM2, r2, rfl⟩ := agg3 hy
    obtain rfl := globP_eq hg r1 hgp.1
    obtain rfl := globP_eq hg r2 hgp.2
    obtain ⟨val', hv', hload⟩ := readVar_run hr hval hM2
    have g1 : ¬ f1 = 0 := fun e => hc0 (.inl e)
    have g2 : ¬ f2 = 0 := fun e => hc0 (.inr (.inl e))
    have g3 : ¬ f1.toNat / 256 % 2 = 0 := fun e => hc0 (.inr (.inr e))
    have hd2 : ∀ x y, ReflectliteValue.set #[x, y] = (do
      let (some (dst, a, fl), some (src, b, _)) := (← ReflectliteValue.parts x, ← ReflectliteValue.parts y)
        | unsupported (.noEntry "extern/(internal/reflectlite.Value).Set.zeroValue")
      if fl / ReflectliteValue.flagAddr % 2 == 0 then unsupported (.noEntry "extern/(internal/reflectlite.Value).Set.unaddressable")
      let val ← loadVar src b
      if ← Rtype.directlyAssignable dst src then storeVar dst a val
      else if ← Rtype.implements dst src then
        if (← Rtype.kind src) == 20 then
          match val with
          | .nilIface => unsupported (.noEntry "extern/reflectlite: a nil value of one interface type handed on as a value of another")
          | _ => storeVar dst a val
        else storeVar dst a (.iface src val)
      else panicString ("reflectlite.Set: value of type " ++ (← Rtype.spelt src) ++ " is not assignable to type " ++ (← Rtype.spelt dst))
      pure (.tuple #[])) := fun _ _ => rfl
    have hb256 : (f1.toNat / ReflectliteValue.flagAddr % 2 == 0) = false := by
      show (f1.toNat / 256 % 2 == 0) = false
      simpa using g3
    have store : ∀ (u u' : Value), VRel M u u' → u.cells.size = n → ∀ H1, H.write k1 off1 u.cells.toList = some H1 → ∃ w', (storeVar dst ⟨b1, o1 + off1, none⟩ u').run P w = .ok () w' ∧ Stp N M H w M H1 w' := by
      intro u u' hu hn' H1 hw
      obtain ⟨p1, p2, _⟩ := Stp.write (P := P) hr hw (by simp) hM1 hu.cells.toList
      refine ⟨_, ?_, p2⟩
      have hcs : u'.cells.size = n := by rw [← hu.cells.1]; exact hn'
      have hcs2 : ¬ (u'.cells.size ≠ n) := fun h => h hcs
      simp only [storeVar, Sem.run_bind, run_of_eval0 hsz, Result.andThen_ok, hcs2, if_false, Sem.run_pure, p1]
    split at h
    · rename_i hda
      split at h
      rotate_left
      · cases h
      rename_i hn'
      rw [Option.map_eq_some_iff] at h
      obtain ⟨H1, hw, he⟩ := h
      cases he
      obtain ⟨w', p1, p2⟩ := store val val' hv' hn' _ hw
      refine ⟨.tuple #[], M, w', ?_, vrel_undef, p2⟩
      rw [run_callFunc_extern hf hn hb q1 q2]
      simp only [hd2, Sem.run_bind, parts_run g1 w hdst, parts_run g2 w hsrc, Result.andThen_ok, hb256, Bool.false_eq_true, if_false, Sem.run_pure, hload, run_of_eval0 hda, if_true, p1]
    · rename_i hda
      split at h
      rotate_left
      · cases h
      rename_i kd him hkd
      split at h
      · cases h
      rename_i hk20
      split at h
      rotate_left
      · cases h
      rename_i hn1
      rw [Option.map_eq_some_iff] at h
      obtain ⟨H1, hw, he⟩ := h
      cases he
      obtain ⟨w', p1, p2⟩ := store (.iface src val) (.iface src val') (.iface hv') (by rw [hn1]; rfl) _ hw
      refine ⟨.tuple #[], M, w', ?_, vrel_undef, p2⟩
      have hk : (kd == 20) = false := by simpa using hk20
      rw [run_callFunc_extern hf hn hb q1 q2]
      simp only [hd2, Sem.run_bind, parts_run g1 w hdst, parts_run g2 w hsrc, Result.andThen_ok, hb256, Bool.false_eq_true, if_false, Sem.run_pure, hload, run_of_eval0 hda, run_of_eval0 him, if_true, run_of_eval0 hkd, hk, p1]
    · cases h
  · cases h
theorem extRun_run (hg : Globs G M) (hr : HRel M N H w) {fn : Func} {g : FuncId} (hf : P.funcs[g]? = some fn) (hb : fn.body.isNone = true) (ho : fn.origin = "") (hn : (fn.name == "runtime.NumGoroutine") = false) {l : List Value} {args' : Array Value}
    (hl : LRel M l args'.toList) {v : Value} {H' : Heap} {log : List Nat} (h : extRun P G fn.name l H = some (v, H', log)) :
    ∃ v' M' w', (callFunc g args').run P w = .ok (.value v') w' ∧ VRel M' v v' ∧ Stp N M H w M' H' w' := by
  unfold extRun at h
  split at h
  · rename_i u hu
    cases h
    obtain ⟨v', h1, h2⟩ := extVal_run (P := P) (w := w) hf hb ho hn hu hl
    exact ⟨v', M, w, h2, h1, .refl hr⟩
  · split at h
    · rename_i f hs
      obtain ⟨q1, q2⟩ := find_sem hs ho
      split at h
      rotate_left
      · cases h
      rename_i hgl
      split at h
      rotate_left
      · cases h
      rename_i u hu
      split at h
      rotate_left
      · cases h
      rename_i hgv
      cases h
      have e := globsV_eq hg hl hgl
      have e2 : args' = l.toArray := by rw [← e]
      refine ⟨v, M, w, ?_, globV_rel hg hgv, .refl hr⟩
      rw [run_callFunc_extern hf hn hb q1 q2, e2, run_of_eval0 hu]
      rfl
    · exact extHeap_run hg hr hf hb ho hn hl h
end
/-- What is turned is noted. -/
theorem extRun_log {P : Program} {G : Nat} {name : String} {l : List Value} {H H' : Heap} {v : Value} {log : List Nat} (h : extRun P G name l H = some (v, H', log)) : (H' = H ∧ log = []) ∨ (∃ o, H' = H.push o ∧ log = []) ∨ ∃ k off vs, H.write k off vs = some H' ∧ log = [k] := by
  unfold extRun at h
  split at h
  · cases h; exact .inl ⟨rfl, rfl⟩
  · split at h
    · repeat' split at h
      all_goals first
        | (cases h; done)
        | (cases h; exact .inl ⟨rfl, rfl⟩)
    · unfold extHeap at h
      split at h
      · unfold rlTypeOf at h
        repeat' split at h
        all_goals first
          | (cases h; done)
          | (cases h; exact .inl ⟨rfl, rfl⟩)
      split at h
      · unfold rlValueOf at h
        repeat' split at h
        all_goals first
          | (cases h; done)
          | (cases h; exact .inr (.inl ⟨_, rfl, rfl⟩))
      split at h
      · unfold rlType at h
        repeat' split at h
        all_goals first
          | (cases h; done)
          | (cases h; exact .inl ⟨rfl, rfl⟩)
      split at h
      · unfold rlIsNil at h
        repeat' split at h
        all_goals first
          | (cases h; done)
          | (cases h; exact .inl ⟨rfl, rfl⟩)
      split at h
      · unfold rlElem at h
        repeat' split at h
        all_goals first
          | (cases h; done)
          | (cases h; exact .inl ⟨rfl, rfl⟩)
      split at h
      · unfold rlSet at h
        repeat' split at h
        all_goals first
          | (cases h; done)
          | (rw [Option.map_eq_some_iff] at h
             obtain ⟨H1, hw, he⟩ := h
             cases he
             exact .inr (.inr ⟨_, _, _, hw, rfl⟩))
      · cases h
end Go.Dg
