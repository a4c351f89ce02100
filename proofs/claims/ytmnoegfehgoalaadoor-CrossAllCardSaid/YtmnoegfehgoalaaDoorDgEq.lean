/- '==' on structs and arrays of numbers, texts and bools, without stopping at the first that is unlike. -/
import Derived.Test.YtmnoegfehgoalaaDoorDgPure
namespace Go.Dg
set_option linter.unusedVariables false

def eqFields (P : Program) (E : TypeId → Value → Value → Option Bool) (xs ys : Array Value) : List Field → Option Bool
  | [] => some true
  | f :: r => if f.name = "_" then eqFields P E xs ys r else
    match eval0 P (part f.type xs f.offset), eval0 P (part f.type ys f.offset) with
    | some u, some v => match E f.type u v, eqFields P E xs ys r with
      | some b, some c => some (b && c)
      | _, _ => none
    | _, _ => none
def eqElems (P : Program) (E : TypeId → Value → Value → Option Bool) (elem : TypeId) (n : Nat) (xs ys : Array Value) : List Nat → Option Bool
  | [] => some true
  | i :: r =>
    match eval0 P (part elem xs (i * n)), eval0 P (part elem ys (i * n)) with
    | some u, some v => match E elem u v, eqElems P E elem n xs ys r with
      | some b, some c => some (b && c)
      | _, _ => none
    | _, _ => none

def eqPure (P : Program) : Nat → TypeId → Value → Value → Option Bool
  | 0, _, _, _ => none
  | d + 1, t, x, y => match P.underlying t with
    | some .bool => match x, y with
      | .bool a, .bool b => some (a == b)
      | _, _ => none
    | some (.int _) => match x, y with
      | .int k a, .int k' b => if k = k' then some (a == b) else none
      | _, _ => none
    | some .string => match x, y with
      | .string a, .string b => some (a == b)
      | _, _ => none
    | some (.struct fields) => match x, y with
      | .agg xs, .agg ys => if P.stoodInHeld t then none else eqFields P (eqPure P d) xs ys fields.toList
      | _, _ => none
    | some (.array len elem) => match x, y, eval0 P (sizeOf elem) with
      | .agg xs, .agg ys, some n => eqElems P (eqPure P d) elem n xs ys (List.range len)
      | _, _, _ => none
    | _ => none

/-- A 'for' that leaves with 'false' at the first that is not so. -/
theorem forIn_all {α : Type} {P : Program} (X : α → Option Bool) (body : α → Option Bool × Unit → Sem (ForInStep (Option Bool × Unit))) :
    ∀ (l : List α), (∀ a ∈ l, ∀ b, X a = some b → eval0 P (body a (none, ())) = some (if b then .yield (none, ()) else .done (some false, ()))) →
      ∀ c, (l.foldr (fun a r => match X a, r with | some b, some c => some (b && c) | _, _ => none) (some true)) = some c →
      eval0 P (forIn l ((none, ()) : Option Bool × Unit) body) = some (if c then (none, ()) else (some false, ())) := by
  intro l
  induction l with
  | nil => intro _ c h; simp at h; subst h; rfl
  | cons a r ih =>
    intro hb c h
    simp only [List.foldr_cons] at h
    rw [List.forIn_cons]
    split at h
    · rename_i b c' hx hr
      cases h
      rw [eval0_bind_of (hb a (by simp) b hx)]
      cases b with
      | true => simp only [if_true, Bool.true_and]; exact ih (fun a ha => hb a (by simp [ha])) c' hr
      | false => simp only [Bool.false_eq_true, if_false, Bool.false_and]; rfl
    · cases h

theorem eval0_underlying {P : Program} {t : TypeId} {d : TypeDesc} (h : P.underlying t = some d) : eval0 P (underlying t) = some d := by
  unfold underlying
  have : eval0 P program = some P := rfl
  rw [eval0_bind_of this]
  simp only [h]
  rfl

def fieldX (P : Program) (E : TypeId → Value → Value → Option Bool) (xs ys : Array Value) (f : Field) : Option Bool :=
  if f.name = "_" then some true else
    match eval0 P (part f.type xs f.offset), eval0 P (part f.type ys f.offset) with
    | some u, some v => E f.type u v
    | _, _ => none
theorem eqFields_fold (P : Program) (E : TypeId → Value → Value → Option Bool) (xs ys : Array Value) : ∀ (l : List Field) (c : Bool), eqFields P E xs ys l = some c →
    l.foldr (fun a r => match fieldX P E xs ys a, r with | some b, some c => some (b && c) | _, _ => none) (some true) = some c := by
  intro l
  induction l with
  | nil => intro c h; exact h
  | cons f r ih =>
    intro c h
    simp only [eqFields] at h
    simp only [List.foldr_cons]
    split at h
    · rename_i hn
      rw [ih c h]
      have hx : fieldX P E xs ys f = some true := by unfold fieldX; rw [if_pos hn]
      rw [hx]
      simp
    · rename_i hn
      split at h
      · rename_i u v h1 h2
        split at h
        · rename_i b c' h3 h4
          rw [ih c' h4]
          have hx : fieldX P E xs ys f = some b := by unfold fieldX; rw [if_neg hn, h1, h2]; exact h3
          rw [hx]
          exact h
        · cases h
      · cases h
def elemX (P : Program) (E : TypeId → Value → Value → Option Bool) (elem : TypeId) (n : Nat) (xs ys : Array Value) (i : Nat) : Option Bool :=
    match eval0 P (part elem xs (i * n)), eval0 P (part elem ys (i * n)) with
    | some u, some v => E elem u v
    | _, _ => none
theorem eqElems_fold (P : Program) (E : TypeId → Value → Value → Option Bool) (elem : TypeId) (n : Nat) (xs ys : Array Value) : ∀ (l : List Nat) (c : Bool), eqElems P E elem n xs ys l = some c →
    l.foldr (fun a r => match elemX P E elem n xs ys a, r with | some b, some c => some (b && c) | _, _ => none) (some true) = some c := by
  intro l
  induction l with
  | nil => intro c h; exact h
  | cons f r ih =>
    intro c h
    simp only [eqElems] at h
    simp only [List.foldr_cons]
    split at h
    · rename_i u v h1 h2
      split at h
      · rename_i b c' h3 h4
        rw [ih c' h4]
        have hx : elemX P E elem n xs ys f = some b := by unfold elemX; rw [h1, h2]; exact h3
        rw [hx]
        exact h
      · cases h
    · cases h

theorem eqPure_ok {P : Program} : ∀ (d : Nat) (t : TypeId) (x y : Value) (b : Bool), eqPure P d t x y = some b → eval0 P (Op.equalIn d t x y) = some b := by
  intro d
  induction d with
  | zero => intro t x y b h; cases h
  | succ d ih =>
    intro t x y b h
    simp only [eqPure] at h
    split at h
    · rename_i hu
      split at h
      · cases h; unfold Op.equalIn; rw [eval0_bind_of (eval0_underlying hu)]; rfl
      · cases h
    · rename_i hu
      split at h
      · split at h
        · rename_i hk; subst hk; cases h; unfold Op.equalIn; rw [eval0_bind_of (eval0_underlying hu)]; simp only [if_true]; rfl
        · cases h
      · cases h
    · rename_i hu
      split at h
      · cases h; unfold Op.equalIn; rw [eval0_bind_of (eval0_underlying hu)]; rfl
      · cases h
    · rename_i fields hu
      split at h
      · rename_i xs ys
        split at h
        · cases h
        · rename_i hs
          unfold Op.equalIn
          rw [eval0_bind_of (eval0_underlying hu)]
          simp only
          have hp : eval0 P program = some P := rfl
          rw [eval0_bind_of hp]
          rw [if_neg hs]
          rw [← Array.forIn_toList]
          rw [eval0_bind_of (forIn_all (fieldX P (eqPure P d) xs ys) _ fields.toList ?_ b (eqFields_fold _ _ _ _ _ _ h))]
          · cases b <;> rfl
          · intro f hf c hc
            unfold fieldX at hc
            split at hc
            · rename_i hn
              cases hc
              simp only [hn, ne_eq, not_true_eq_false, if_false, if_true]; rfl
            · rename_i hn
              simp only [ne_eq, hn, not_false_eq_true, if_true]
              split at hc
              · rename_i u v h1 h2
                rw [eval0_bind_of h1, eval0_bind_of h2, eval0_bind_of (ih _ _ _ _ hc)]
                cases c <;> rfl
              · cases hc
      · cases h
    · rename_i len elem hu
      split at h
      · rename_i xs ys n hn
        unfold Op.equalIn
        rw [eval0_bind_of (eval0_underlying hu)]
        simp only
        rw [eval0_bind_of hn]
        rw [Std.Legacy.Range.forIn_eq_forIn_range']
        have hr : List.range' ({ stop := len, step_pos := Nat.zero_lt_one } : Std.Legacy.Range).start ({ stop := len, step_pos := Nat.zero_lt_one } : Std.Legacy.Range).size ({ stop := len, step_pos := Nat.zero_lt_one } : Std.Legacy.Range).step = List.range len := by
          simp [Std.Legacy.Range.size, List.range_eq_range']
        rw [hr]
        rw [eval0_bind_of (forIn_all (elemX P (eqPure P d) elem n xs ys) _ (List.range len) ?_ b (eqElems_fold _ _ _ _ _ _ _ _ h))]
        · cases b <;> rfl
        · intro i hi c hc
          unfold elemX at hc
          split at hc
          · rename_i u v h1 h2
            rw [eval0_bind_of h1, eval0_bind_of h2, eval0_bind_of (ih _ _ _ _ hc)]
            cases c <;> rfl
          · cases hc
      · cases h
    · cases h

/-- Any operation whose operands hold no address and which asks nothing of the world. -/
def evGen0 (P : Program) (G : Nat) (ts : List Value) (o : Oper) : Option Value :=
  if noSelect o.op && o.op.operands.toList.all (fun x => match rd G ts x with | some v => flat v | none => false) then
    match eval0 P (execOp (fun x => (rd G ts x).getD undef) o) with
    | some (.value v) => if flat v then some v else none
    | _ => none
  else none

theorem evGen0_sound {P : Program} {G N : Nat} {M : Emb} {H : Heap} {w : World} {ts : List Value} {a : Act} {o : Oper} {v : Value} (hg : Globs G M) (hr : HRel M N H w) (hts : TRel M ts a.tmps.toList)
    (h : evGen0 P G ts o = some v) : OpPost P N M H w v H ((execOp a.eval o).run P w) := by
  unfold evGen0 at h
  split at h
  · rename_i hc
    simp only [Bool.and_eq_true] at hc
    have hs : ∀ cs b, o.op ≠ .select cs b := by intro cs b he; rw [he] at hc; simp [noSelect] at hc
    have hcong : execOp a.eval o = execOp (fun x => (rd G ts x).getD undef) o := by
      refine execOp_congr o hs fun x hx => ?_
      have := List.all_eq_true.1 hc.2 x (by simpa using hx)
      cases hrd : rd G ts x with
      | none => rw [hrd] at this; cases this
      | some u =>
        rw [hrd] at this
        simp only [Option.getD_some]
        exact (rd_sound hg hts hrd).eq_of_flat this
    split at h
    · rename_i u hu
      split at h
      · rename_i hf
        cases h
        rw [hcong, eval0_run P _ _ hu w]
        exact .same hr (vrel_of_flat M _ hf)
      · cases h
    · cases h
  · cases h


theorem eval0_map {α β : Type} {P : Program} (s : Sem α) (f : α → β) : eval0 P (Functor.map f s) = (eval0 P s).map f := by
  have : Functor.map f s = s >>= fun a => pure (f a) := rfl
  rw [this, eval0_bind]
  cases eval0 P s <;> rfl
def eqSign : BinOp → Option Bool
  | .eql => some true
  | .neq => some false
  | _ => none
/-- One address and the same. -/
def onePtr : Value → Value → Bool
  | .pointer (some ⟨k, off, none⟩), .pointer (some ⟨k', off', none⟩) => Nat.beq k k' && Nat.beq off off'
  | _, _ => false
/-- '==' on what two interface values of one type hold. -/
def ifVal (P : Program) (d : Nat) (t : TypeId) (x y : Value) : Option Bool :=
  if flat x && flat y then eqPure P d t x y
  else if onePtr x y && !(Nat.beq d 0) then match P.underlying t with
    | some (.pointer e) => (eval0 P (sizeOf e)).map fun _ => true
    | _ => none
  else none
/-- '==' on interface values that are not nil. -/
def ifEq (P : Program) (d : Nat) (t tx : TypeId) (vx : Value) (ty : TypeId) (vy : Value) : Option Bool := match P.underlying t with
  | some (.interface _) => if tx = ty then match P.info? tx with
      | some i => if i.comparable then ifVal P d tx vx vy else none
      | none => none
    else some false
  | _ => none
theorem ptr_inv0 {M : Emb} {k off : Nat} {v' : Value} (h : VRel M (.pointer (some ⟨k, off, none⟩)) v') : ∃ b o sp, M k = some (b, o, sp) ∧ v' = .pointer (some ⟨b, o + off, none⟩) := by
  cases h with
  | atom h0 => cases h0
  | ptr h1 => exact ⟨_, _, _, h1, rfl⟩
theorem iface_inv0 {M : Emb} {t : TypeId} {v v' : Value} (h : VRel M (.iface t v) v') : ∃ u, v' = .iface t u ∧ VRel M v u := by
  cases h with
  | atom h0 => cases h0
  | iface h1 => exact ⟨_, rfl, h1⟩
theorem eval0_info {P : Program} {t : TypeId} {i : TypeInfo} (h : P.info? t = some i) : eval0 P (typeInfo t) = some i := by
  have hp : eval0 P program = some P := rfl
  simp [typeInfo, eval0_bind, hp, h, eval0_pure]
theorem onePtr_inv {M : Emb} {u v u' v' : Value} (h : onePtr u v = true) (hu : VRel M u u') (hv : VRel M v v') : ∃ a, u' = .pointer (some a) ∧ v' = .pointer (some a) := by
  unfold onePtr at h
  split at h
  · rename_i k off k' off'
    simp only [Bool.and_eq_true] at h
    obtain rfl := Nat.eq_of_beq_eq_true h.1
    obtain rfl := Nat.eq_of_beq_eq_true h.2
    obtain ⟨b, o, sp, h1, rfl⟩ := ptr_inv0 hu
    obtain ⟨b', o', sp', h2, rfl⟩ := ptr_inv0 hv
    rw [h1] at h2
    cases h2
    exact ⟨_, rfl, rfl⟩
  · cases h
theorem ifVal_ok {P : Program} {M : Emb} {d : Nat} {t : TypeId} {x y x' y' : Value} {b : Bool} (h : ifVal P d t x y = some b) (hx : VRel M x x') (hy : VRel M y y') : eval0 P (Op.equalIn d t x' y') = some b := by
  unfold ifVal at h
  split at h
  · rename_i hf
    rw [Bool.and_eq_true] at hf
    rw [hx.eq_of_flat hf.1, hy.eq_of_flat hf.2]
    exact eqPure_ok _ _ _ _ _ h
  · split at h
    · rename_i hc
      rw [Bool.and_eq_true] at hc
      obtain ⟨a, rfl, rfl⟩ := onePtr_inv hc.1 hx hy
      split at h
      · rename_i e he
        rw [Option.map_eq_some_iff] at h
        obtain ⟨n, hn, rfl⟩ := h
        cases d with
        | zero => simp at hc
        | succ d =>
          have hu : eval0 P (underlying t) = some (.pointer e) := eval0_underlying he
          rw [Op.equalIn, eval0_bind_of hu]
          simp only []
          rw [eval0_bind_of hn]
          by_cases h0 : n = 0
          · simp [h0, eval0_pure]
          · simp [h0, sameAddr, eval0_pure]
      · cases h
    · cases h
theorem ifEq_ok {P : Program} {M : Emb} {d : Nat} {t tx ty : TypeId} {vx vy x' y' : Value} {b : Bool} (h : ifEq P d t tx vx ty vy = some b) (hx : VRel M vx x') (hy : VRel M vy y') : eval0 P (Op.equalIn (d + 1) t (.iface tx x') (.iface ty y')) = some b := by
  unfold ifEq at h
  split at h
  · rename_i ms ht
    rw [Op.equalIn, eval0_bind_of (eval0_underlying ht)]
    simp only []
    split at h
    · rename_i he
      subst he
      split at h
      · rename_i i hi
        split at h
        · rename_i hc
          have hinfo : eval0 P (typeInfo tx) = some i := eval0_info hi
          simp only [ne_eq, not_true_eq_false, if_false]
          rw [eval0_bind_of hinfo]
          simp only [hc, Bool.not_true, Bool.false_eq_true, if_false]
          exact ifVal_ok h hx hy
        · cases h
      · cases h
    · rename_i he
      cases h
      simp [he, eval0_pure]
  · cases h
def taFail (P : Program) (asserted : TypeId) (commaOk : Bool) : Option Value :=
  if commaOk then match eval0 P (zeroValue asserted) with
    | some z => if flat z then some (Value.tuple #[z, .bool false]) else none
    | none => none
  else none
theorem taFail_inv {P : Program} {asserted : TypeId} {commaOk : Bool} {w : Value} (hw : taFail P asserted commaOk = some w) : commaOk = true ∧ ∃ z, eval0 P (zeroValue asserted) = some z ∧ w = .tuple #[z, .bool false] ∧ flat z = true := by
  unfold taFail at hw
  split at hw
  · rename_i hc
    split at hw
    · rename_i z hz
      split at hw
      · rename_i hf; cases hw; exact ⟨hc, z, hz, rfl, hf⟩
      · cases hw
    · cases hw
  · cases hw
/-- The methods that are wanting. -/
def lacks (want : Array (String × TypeId)) (got : Array Method) : List (String × TypeId) := want.toList.filter fun (name, sig) => !got.any fun m => m.name == name && m.sig == sig
theorem lacks_none {want : Array (String × TypeId)} {got : Array Method} (h : lacks want got = []) : Instr.missingMethod want got = none := by
  unfold lacks at h
  unfold Instr.missingMethod
  simp only [h, List.map_nil, List.partition_eq_filter_filter, List.filter_nil]
  rfl
theorem least_some {l : List String} (h : l ≠ []) : ∃ m, Instr.least l = some m := by
  cases l with
  | nil => exact absurd rfl h
  | cons a r => exact ⟨_, rfl⟩
theorem least_two (p : String → Bool) (f : String → String) {l : List String} (h : l ≠ []) : ∃ m, (Instr.least (l.partition p).2 <|> Instr.least ((l.partition p).1.map f)) = some m := by
  rw [List.partition_eq_filter_filter]
  by_cases he : (l.filter ((fun b => !b) ∘ p)) = []
  · have hu : l.filter p ≠ [] := by
      intro e
      cases l with
      | nil => exact h rfl
      | cons a r =>
        rw [List.filter_eq_nil_iff] at he e
        have h1 := he a (List.mem_cons_self ..)
        have h2 := e a (List.mem_cons_self ..)
        simp only [Function.comp_apply, Bool.not_eq_true, Bool.not_eq_false'] at h1 h2
        simp_all
    obtain ⟨m, hm⟩ := least_some (l := (l.filter p).map f) (by simpa using hu)
    refine ⟨m, ?_⟩
    show (Instr.least (l.filter ((fun b => !b) ∘ p)) <|> Instr.least ((l.filter p).map f)) = some m
    rw [he, hm]
    rfl
  · obtain ⟨m, hm⟩ := least_some he
    refine ⟨m, ?_⟩
    show (Instr.least (l.filter ((fun b => !b) ∘ p)) <|> Instr.least ((l.filter p).map f)) = some m
    rw [hm]
    rfl
theorem lacks_some {want : Array (String × TypeId)} {got : Array Method} (h : lacks want got ≠ []) : ∃ m, Instr.missingMethod want got = some m := by
  unfold lacks at h
  unfold Instr.missingMethod
  exact least_two _ _ (by simpa using h)
/-- Whether an interface value holds what is asked. -/
def taVal (P : Program) (t : TypeId) (u : Value) (asserted : TypeId) (commaOk : Bool) : Option Value :=
  match P.underlying asserted with
  | some (.interface want) => match P.info? t with
    | some i => match lacks want i.methods with
      | [] => some (if commaOk then .tuple #[.iface t u, .bool true] else .iface t u)
      | _ :: _ => taFail P asserted commaOk
    | none => none
  | some _ => if t = asserted then some (if commaOk then .tuple #[u, .bool true] else u) else taFail P asserted commaOk
  | none => none
theorem taVal_ok {P : Program} {M : Emb} {t asserted xType : TypeId} {u u' v : Value} {commaOk : Bool} (h : taVal P t u asserted commaOk = some v) (hu : VRel M u u') :
    ∃ v', eval0 P (Instr.typeAssert (.iface t u') xType asserted commaOk) = some v' ∧ VRel M v v' := by
  have two : ∀ {a a' : Value} {b : Bool}, VRel M a a' → VRel M (.tuple #[a, .bool b]) (.tuple #[a', .bool b]) := fun ha => .tuple rfl (LRel.cons ha (LRel.cons (vrel_of_flat M _ rfl) LRel.nil)).toArray.2
  unfold taVal at h
  unfold Instr.typeAssert
  split at h
  · rename_i want ha
    simp only [eval0_bind, eval0_underlying ha, Option.bind_some]
    split at h
    · rename_i i hi
      simp only [eval0_info hi, Option.bind_some]
      split at h
      · rename_i hm0
        have hm := lacks_none hm0
        cases h
        simp only [hm]
        refine ⟨if commaOk then .tuple #[.iface t u', .bool true] else .iface t u', ?_, ?_⟩
        · rfl
        · cases commaOk
          · exact .iface hu
          · exact two (.iface hu)
      · rename_i m0 r0 hm0
        obtain ⟨m, hm⟩ := lacks_some (want := want) (got := i.methods) (by rw [hm0]; simp)
        obtain ⟨hc, z, hz, rfl, hf⟩ := taFail_inv h
        subst hc
        simp only [hm, if_true, eval0_bind, hz, Option.bind_some]
        exact ⟨_, rfl, two (vrel_of_flat M _ hf)⟩
    · cases h
  · rename_i d hno ha
    split at h
    · rename_i he
      subst he
      cases h
      refine ⟨if commaOk then .tuple #[u', .bool true] else u', ?_, ?_⟩
      · simp only [eval0_bind, eval0_underlying ha, Option.bind_some]
        cases d <;> first | (exact absurd rfl (hno _)) | simp [eval0_pure]
      · cases commaOk
        · exact hu
        · exact two hu
    · rename_i he
      obtain ⟨hc, z, hz, rfl, hf⟩ := taFail_inv h
      subst hc
      refine ⟨_, ?_, two (vrel_of_flat M _ hf)⟩
      simp only [eval0_bind, eval0_underlying ha, Option.bind_some]
      cases d <;> first | (exact absurd rfl (hno _)) | simp [he, eval0_map, hz]
  · cases h
/-- '==' and '!=' on structs and arrays. -/
def evEq (P : Program) (G : Nat) (ts : List Value) (o : Oper) : Option Value :=
  match o.op with
  | .binOp op t x y _ => match eqSign op with
    | some s => match rd G ts x, rd G ts y with
      | some (.agg xs), some (.agg ys) => if flatA xs && flatA ys && !P.eqGuardType P.depth t then (eqPure P Op.maxDepth t (.agg xs) (.agg ys)).map fun b => .bool (if s then b else !b) else none
      | some (.iface tx vx), some (.iface ty vy) => (ifEq P (Op.maxDepth - 1) t tx vx ty vy).map fun b => .bool (if s then b else !b)
      | _, _ => none
    | none => none
  | .typeAssert x xt t c => match rd G ts x with
    | some (.iface tv u) => taVal P tv u t c
    | _ => none
  | _ => none

theorem evEq_sound {P : Program} {G N : Nat} {M : Emb} {H : Heap} {w : World} {ts : List Value} {a : Act} {o : Oper} {v : Value} (hg : Globs G M) (hr : HRel M N H w) (hts : TRel M ts a.tmps.toList)
    (h : evEq P G ts o = some v) : OpPost P N M H w v H ((execOp a.eval o).run P w) := by
  obtain ⟨d, op, ty, pos, after, g⟩ := o
  unfold evEq at h
  split at h
  · rename_i op t x y t' heq
    simp only at heq
    subst heq
    split at h
    · rename_i s hsg
      split at h
      · rename_i xs ys hx hy
        split at h
        · rename_i hf
          rw [Bool.and_eq_true, Bool.and_eq_true] at hf
          rw [Option.map_eq_some_iff] at h
          obtain ⟨b, hb, rfl⟩ := h
          have e1 : a.eval x = .agg xs := (rd_sound hg hts hx).eq_of_flat hf.1.1
          have e2 : a.eval y = .agg ys := (rd_sound hg hts hy).eq_of_flat hf.1.2
          have he := eqPure_ok _ _ _ _ _ hb
          have hn : P.eqGuardType P.depth t = false := by simpa using hf.2
          have hp : eval0 P program = some P := rfl
          have key : eval0 P (execOp a.eval ⟨d, .binOp op t x y t', ty, pos, after, g⟩) = some (.value (.bool (if s then b else !b))) := by
            cases op <;> simp [eqSign] at hsg
            · subst hsg
              simp only [execOp, e1, e2, eqGuard, binOp, Op.equal]
              simp [eval0_pure, eval0_bind, eval0_map, hp, hn, he]
            · subst hsg
              simp only [execOp, e1, e2, eqGuard, binOp, Op.equal]
              simp [eval0_pure, eval0_bind, eval0_map, hp, hn, he]
          rw [eval0_run P _ _ key w]
          exact .same hr (vrel_of_flat M _ rfl)
        · cases h
      · rename_i tx vx ty' vy hx hy
        rw [Option.map_eq_some_iff] at h
        obtain ⟨b, hb, rfl⟩ := h
        obtain ⟨x', e1, h1⟩ := iface_inv0 (rd_sound hg hts hx)
        obtain ⟨y', e2, h2⟩ := iface_inv0 (rd_sound hg hts hy)
        have he : eval0 P (Op.equalIn Op.maxDepth t (.iface tx x') (.iface ty' y')) = some b := ifEq_ok hb h1 h2
        have key : eval0 P (execOp a.eval ⟨d, .binOp op t x y t', ty, pos, after, g⟩) = some (.value (.bool (if s then b else !b))) := by
          cases op <;> simp [eqSign] at hsg
          · subst hsg
            simp only [execOp, e1, e2, eqGuard, binOp, Op.equal]
            simp [eval0_map, he]
          · subst hsg
            simp only [execOp, e1, e2, eqGuard, binOp, Op.equal]
            simp [eval0_map, he]
        rw [eval0_run P _ _ key w]
        exact .same hr (vrel_of_flat M _ rfl)
      · cases h
    · cases h
  · rename_i x xt t c heq
    simp only at heq
    subst heq
    split at h
    · rename_i tv u hx
      obtain ⟨u', e1, h1⟩ := iface_inv0 (rd_sound hg hts hx)
      obtain ⟨v', h2, h3⟩ := taVal_ok (xType := xt) h h1
      have h4 := eval0_run P _ _ h2 w
      simp only [execOp, e1, Sem.run_bind, h4, Sem.run_pure, Result.andThen_ok]
      exact .same hr h3
    · cases h
  · cases h

def evGen (P : Program) (G : Nat) (ts : List Value) (o : Oper) : Option Value :=
  match evEq P G ts o with
  | some v => some v
  | none => evGen0 P G ts o
theorem evGen_sound {P : Program} {G N : Nat} {M : Emb} {H : Heap} {w : World} {ts : List Value} {a : Act} {o : Oper} {v : Value} (hg : Globs G M) (hr : HRel M N H w) (hts : TRel M ts a.tmps.toList)
    (h : evGen P G ts o = some v) : OpPost P N M H w v H ((execOp a.eval o).run P w) := by
  unfold evGen at h
  split at h
  · rename_i u hu; cases h; exact evEq_sound hg hr hts hu
  · exact evGen0_sound hg hr hts h

end Go.Dg
