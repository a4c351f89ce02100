/- Operations over values that hold addresses, which look into no memory. -/
import Derived.Test.YtflgpkkbifkpoaaDoorDgEq
namespace Go.Dg
set_option linter.unusedVariables false

theorem VRel.bool_inv {M : Emb} {b : Bool} {v' : Value} (h : VRel M (.bool b) v') : v' = .bool b := h.eq_of_flat rfl
theorem VRel.int_inv {M : Emb} {k : IntKind} {n : Int} {v' : Value} (h : VRel M (.int k n) v') : v' = .int k n := h.eq_of_flat rfl
theorem VRel.string_inv {M : Emb} {s : ByteArray} {v' : Value} (h : VRel M (.string s) v') : v' = .string s := h.eq_of_flat rfl
theorem VRel.tuple_inv {M : Emb} {a : Array Value} {v' : Value} (h : VRel M (.tuple a) v') : ∃ a', v' = .tuple a' ∧ ARel M a a' := by
  cases h with
  | atom h0 => cases h0
  | tuple h1 h2 => exact ⟨_, rfl, h1, h2⟩
theorem VRel.agg_inv {M : Emb} {a : Array Value} {v' : Value} (h : VRel M (.agg a) v') : ∃ a', v' = .agg a' ∧ ARel M a a' := by
  cases h with
  | atom h0 => cases h0
  | agg h1 h2 => exact ⟨_, rfl, h1, h2⟩
theorem VRel.iface_inv {M : Emb} {t : TypeId} {v v' : Value} (h : VRel M (.iface t v) v') : ∃ u, v' = .iface t u ∧ VRel M v u := by
  cases h with
  | atom h0 => cases h0
  | iface h1 => exact ⟨_, rfl, h1⟩
theorem VRel.ptr_inv {M : Emb} {k off : Nat} {v' : Value} (h : VRel M (.pointer (some ⟨k, off, none⟩)) v') : ∃ b o sp, M k = some (b, o, sp) ∧ v' = .pointer (some ⟨b, o + off, none⟩) := by
  cases h with
  | atom h0 => cases h0
  | ptr h1 => exact ⟨_, _, _, h1, rfl⟩
theorem VRel.slice_inv {M : Emb} {k off : Nat} {s : Option Nat} {len cap : Nat} {v' : Value} (h : VRel M (.slice (some ⟨k, off, s⟩) len cap) v') :
    ∃ b o sp, M k = some (b, o, sp) ∧ v' = .slice (some ⟨b, o + off, none⟩) len (if s.isSome then cap + sp else cap) ∧ (s = none ∨ s = some 0) := by
  cases h with
  | atom h0 => cases h0
  | slx h1 => exact ⟨_, _, _, h1, rfl, .inl rfl⟩
  | slf h1 => exact ⟨_, _, _, h1, rfl, .inr rfl⟩
theorem VRel.func_inv {M : Emb} {f : FuncId} {a c : Array Value} {v' : Value} (h : VRel M (.func (.func f) a c) v') : ∃ a' c', v' = .func (.func f) a' c' ∧ ARel M a a' ∧ ARel M c c' := by
  cases h with
  | atom h0 => cases h0
  | func _ h1 h2 h3 h4 => exact ⟨_, _, rfl, ⟨h1, h2⟩, ⟨h3, h4⟩⟩

theorem VRel.emp_inv {M : Emb} {n : Nat} {v' : Value} (h : VRel M (.chan (some n)) v') : n = 0 ∧ ∃ (a : Addr) (c : Nat), v' = .slice (some a) 0 c ∧ a.spot = none := by
  cases h with
  | atom h0 => cases h0
  | emp h1 => exact ⟨rfl, _, _, rfl, h1⟩
theorem VRel.map_inv {M : Emb} {k : Nat} {v' : Value} (h : VRel M (.map (some k)) v') : ∃ b, v' = .map (some b) := by
  cases h with
  | atom h0 => cases h0
  | map h1 => exact ⟨_, rfl⟩

theorem VRel.cells {M : Emb} {v v' : Value} (h : VRel M v v') : ARel M v.cells v'.cells := by
  cases h with
  | agg h1 h2 => exact ⟨h1, h2⟩
  | atom h0 =>
    have hv : VRel M v v := .atom h0
    have e : v.cells = #[v] := by cases v <;> simp_all [Value.cells, Dg.atom]
    rw [e]; exact (LRel.cons hv LRel.nil).toArray
  | ptr h0 => exact (LRel.cons (.ptr h0) LRel.nil).toArray
  | slx h0 => exact (LRel.cons (.slx h0) LRel.nil).toArray
  | slf h0 => exact (LRel.cons (.slf h0) LRel.nil).toArray
  | map h0 => exact (LRel.cons (.map h0) LRel.nil).toArray
  | emp h0 => exact (LRel.cons (.emp h0) LRel.nil).toArray
  | iface h0 => exact (LRel.cons (.iface h0) LRel.nil).toArray
  | func f h1 h2 h3 h4 => exact (LRel.cons (.func f h1 h2 h3 h4) LRel.nil).toArray
  | yield h0 => exact (LRel.cons (.yield h0) LRel.nil).toArray
  | tuple h1 h2 => exact (LRel.cons (.tuple h1 h2) LRel.nil).toArray

/-- A part of a row: as 'part' takes it. -/
theorem part_rel {P : Program} {M : Emb} {t : TypeId} {cs cs' : Array Value} (h : ARel M cs cs') {off : Nat} {v : Value} (hv : eval0 P (part t cs off) = some v) :
    ∃ v', eval0 P (part t cs' off) = some v' ∧ VRel M v v' := by
  unfold part at hv ⊢
  obtain ⟨g, hg, hv⟩ := eval0_bind_some hv
  rw [eval0_bind_of hg]
  cases g with
  | true =>
    simp only [if_true] at hv ⊢
    obtain ⟨s, hs, hv⟩ := eval0_bind_some hv
    rw [eval0_bind_of hs]
    rw [eval0_pure] at hv ⊢
    cases hv
    refine ⟨_, rfl, .agg ?_ ?_⟩
    · simp [h.1]
    · intro i u u' hu hu'
      simp only [Array.getElem?_extract] at hu hu'
      rw [← h.1] at hu'
      split at hu
      · rename_i hlt
        rw [if_pos hlt] at hu'; exact h.2 _ u u' hu hu'
      · cases hu
  | false =>
    simp only [Bool.false_eq_true, if_false] at hv ⊢
    split at hv
    · rename_i u hu
      rw [eval0_pure] at hv
      cases hv
      obtain ⟨u', h1, h2⟩ := h.get hu
      rw [h1]
      exact ⟨u', rfl, h2⟩
    · cases hv

theorem fold_cells {M : Emb} : ∀ (l l' : List Value) (off j : Nat) (cs cs' : Array Value), LRel M l l' → ARel M cs cs' →
    ARel M ((l.zipIdx j).foldl (fun cs (c, j) => cs.setIfInBounds (off + j) c) cs) ((l'.zipIdx j).foldl (fun cs (c, j) => cs.setIfInBounds (off + j) c) cs') := by
  intro l
  induction l with
  | nil => intro l' off j cs cs' h hc; have := h.nil_inv; subst this; exact hc
  | cons v r ih =>
    intro l' off j cs cs' h hc
    obtain ⟨v', r', rfl, h1, h2⟩ := h.cons_inv
    simp only [List.zipIdx_cons, List.foldl_cons]
    refine ih r' off (j + 1) _ _ h2 ?_
    have := (hc.toList.set h1 (off + j)).toArray
    have e1 : cs.setIfInBounds (off + j) v = (cs.toList.set (off + j) v).toArray := by apply Array.ext'; simp
    have e2 : cs'.setIfInBounds (off + j) v' = (cs'.toList.set (off + j) v').toArray := by apply Array.ext'; simp
    rw [e1, e2]; exact this

/-- Parts, one by one: the same places, related values. -/
def PRel (M : Emb) (ps ps' : List (Nat × Value)) : Prop := ps.length = ps'.length ∧ ∀ (i : Nat) (p p' : Nat × Value), ps[i]? = some p → ps'[i]? = some p' → p.1 = p'.1 ∧ VRel M p.2 p'.2

theorem fill_rel {M : Emb} (place : Nat → Option (Nat × Nat)) : ∀ (ps ps' : List (Nat × Value)) (cs cs' r : Array Value), PRel M ps ps' → ARel M cs cs' → Instr.fill place cs ps = some r →
    ∃ r', Instr.fill place cs' ps' = some r' ∧ ARel M r r' := by
  intro ps
  induction ps with
  | nil =>
    intro ps' cs cs' r hp hc h
    have : ps' = [] := by have := hp.1; simpa using this.symm
    subst this
    simp only [Instr.fill, Option.some.injEq] at h ⊢
    exact ⟨cs', rfl, h ▸ hc⟩
  | cons p rest ih =>
    intro ps' cs cs' r hp hc h
    cases ps' with
    | nil => have := hp.1; simp at this
    | cons p' rest' =>
      obtain ⟨he, hv⟩ := hp.2 0 p p' rfl rfl
      obtain ⟨i, v⟩ := p
      obtain ⟨i', v'⟩ := p'
      simp only at he hv
      subst he
      have hrest : PRel M rest rest' := ⟨by have := hp.1; simpa using this, fun j q q' h1 h2 => hp.2 (j + 1) q q' (by simpa using h1) (by simpa using h2)⟩
      simp only [Instr.fill] at h ⊢
      cases hpl : place i with
      | none => rw [hpl] at h; cases h
      | some x =>
        obtain ⟨off, size⟩ := x
        rw [hpl] at h
        simp only at h ⊢
        have hcl := hv.cells
        split at h
        · cases h
        · rename_i hno
          rw [if_neg (by rw [← hcl.1, ← hc.1]; exact hno)]
          have e : ∀ (c : Array Value) (l : Array Value), (l.zipIdx.foldl (fun cs (c, j) => cs.setIfInBounds (off + j) c) c) = ((l.toList.zipIdx 0).foldl (fun cs (c, j) => cs.setIfInBounds (off + j) c) c) := by
            intro c l
            rw [← Array.foldl_toList]; simp
          rw [e] at h
          rw [e]
          exact ih rest' _ _ r hrest (fold_cells _ _ off 0 cs cs' hcl.toList hc) h

theorem build_rel {P : Program} {M : Emb} {t : TypeId} {ps ps' : Array (Nat × Value)} (hp : PRel M ps.toList ps'.toList) {v : Value} (hz : ∀ z, eval0 P (zeroValue t) = some z → flat z = true)
    (h : eval0 P (Instr.build t ps) = some v) : ∃ v', eval0 P (Instr.build t ps') = some v' ∧ VRel M v v' := by
  unfold Instr.build at h ⊢
  obtain ⟨z, hz0, h⟩ := eval0_bind_some h
  rw [eval0_bind_of hz0]
  have hzc : ARel M z.cells z.cells := (vrel_of_flat M z (hz z hz0)).cells
  simp only at h ⊢
  obtain ⟨d, hd, h⟩ := eval0_bind_some h
  rw [eval0_bind_of hd]
  cases d with
  | struct fields =>
    simp only at h ⊢
    obtain ⟨pl, hpl, h⟩ := eval0_bind_some h
    rw [eval0_bind_of hpl]
    split at h
    · rename_i cs hcs
      obtain ⟨r', h1, h2⟩ := fill_rel _ _ _ _ _ _ hp hzc hcs
      rw [h1]
      rw [eval0_pure] at h; cases h
      exact ⟨_, rfl, .agg h2.1 h2.2⟩
    · cases h
  | array n e =>
    simp only at h ⊢
    obtain ⟨s, hs, h⟩ := eval0_bind_some h
    rw [eval0_bind_of hs]
    split at h
    · rename_i cs hcs
      obtain ⟨r', h1, h2⟩ := fill_rel _ _ _ _ _ _ hp hzc hcs
      rw [h1]
      rw [eval0_pure] at h; cases h
      exact ⟨_, rfl, .agg h2.1 h2.2⟩
    · cases h
  | _ => cases h

/-- Operands of parts. -/
def rdParts (G : Nat) (ts : List Value) : List (Nat × Operand) → Option (List (Nat × Value))
  | [] => some []
  | (i, x) :: r => match rd G ts x, rdParts G ts r with
    | some v, some l => some ((i, v) :: l)
    | _, _ => none
theorem rdParts_sound {G : Nat} {M : Emb} {ts : List Value} {a : Act} (hg : Globs G M) (h : TRel M ts a.tmps.toList) : ∀ (ps : List (Nat × Operand)) (l : List (Nat × Value)), rdParts G ts ps = some l →
    PRel M l (ps.map fun (i, x) => (i, a.eval x)) := by
  intro ps
  induction ps with
  | nil => intro l hl; cases hl; exact ⟨rfl, fun i p p' h => by simp at h⟩
  | cons p r ih =>
    intro l hl
    obtain ⟨i, x⟩ := p
    simp only [rdParts] at hl
    split at hl
    · rename_i v l' hv hl'
      cases hl
      have := ih l' hl'
      refine ⟨by simp [this.1], fun j q q' h1 h2 => ?_⟩
      cases j with
      | zero => simp at h1 h2; subst h1; subst h2; exact ⟨rfl, rd_sound hg h hv⟩
      | succ j => exact this.2 j q q' (by simpa using h1) (by simpa using h2)
    · cases hl
def rdAll (G : Nat) (ts : List Value) : List Operand → Option (List Value)
  | [] => some []
  | x :: r => match rd G ts x, rdAll G ts r with
    | some v, some l => some (v :: l)
    | _, _ => none
theorem rdAll_sound {G : Nat} {M : Emb} {ts : List Value} {a : Act} (hg : Globs G M) (h : TRel M ts a.tmps.toList) : ∀ (xs : List Operand) (l : List Value), rdAll G ts xs = some l → LRel M l (xs.map a.eval) := by
  intro xs
  induction xs with
  | nil => intro l hl; cases hl; exact LRel.nil
  | cons x r ih =>
    intro l hl
    simp only [rdAll] at hl
    split at hl
    · rename_i v l' hv hl'
      cases hl
      exact LRel.cons (rd_sound hg h hv) (ih l' hl')
    · cases hl

/-- A slice taken of a slice, or of an array's address; bounds: integers that fit. -/
def rdInt (G : Nat) (ts : List Value) : Option Operand → Nat → Option Nat
  | none, d => some d
  | some x, _ => match rd G ts x with
    | some (.int _ i) => if 0 ≤ i then some i.toNat else none
    | _ => none

/-- Which comparison with nil: the result of '=='. -/
def nilEq : Value → Value → Option Bool
  | .pointer none, .pointer (some ⟨_, _, none⟩) | .pointer (some ⟨_, _, none⟩), .pointer none => some false
  | .slice none _ _, .slice (some _) _ _ | .slice (some _) _ _, .slice none _ _ => some false
  | .map none, .map (some _) | .map (some _), .map none => some false
  | .nilIface, .iface _ _ | .iface _ _, .nilIface => some false
  | _, _ => none

def evShape.nilType : TypeDesc → Value → Bool
  | .pointer _, .pointer _ => true
  | .slice _, .slice _ _ _ => true
  | .map _ _, .map _ => true
  | .interface _, .nilIface => true
  | .interface _, .iface _ _ => true
  | _, _ => false
def evShape (P : Program) (G : Nat) (ts : List Value) (o : Oper) : Option Value :=
  match o.op with
  | .move x | .assign x => rd G ts x
  | .pick c a b => match rd G ts c with
    | some (.bool t) => if t then rd G ts a else rd G ts b
    | _ => none
  | .extract x i => match rd G ts x with
    | some (.tuple vs) => vs[i]?
    | _ => none
  | .nilCheck x => match rd G ts x with
    | some (.pointer (some ⟨k, off, none⟩)) => some (.pointer (some ⟨k, off, none⟩))
    | some (.func (.func f) a c) => some (.func (.func f) a c)
    | _ => none
  | .build t ps => match rdParts G ts ps.toList, eval0 P (zeroValue t) with
    | some l, some z => if flat z then eval0 P (Instr.build t l.toArray) else none
    | _, _ => none
  | .makeInterface t x => match rd G ts x, P.underlying t with
    | some v, some d => (match d with | .interface _ => none | _ => some (.iface t v))
    | _, _ => none
  | .makeFunc (.func f) first captured => match rdAll G ts first.toList, rdAll G ts captured.toList with
    | some l, some c => some (.func (.func f) l.toArray c.toArray)
    | _, _ => none
  | .fieldAddr s x f => match P.underlying s, rd G ts x with
    | some (.struct fields), some (.pointer (some ⟨k, off, none⟩)) => match fields[f]? with
      | some fd => match eval0 P (sizeOf fd.type) with
        | some n => if n = 0 then none else some (.pointer (some ⟨k, off + fd.offset, none⟩))
        | none => none
      | none => none
    | _, _ => none
  | .field t x f => match rd G ts x with
    | some (.agg cs) => eval0 P (Instr.field t (.agg cs) f)
    | _ => none
  | .indexAddr t x ix => match P.underlying t, rd G ts x, rd G ts ix with
    | some (.array len elem), some (.pointer (some ⟨k, off, none⟩)), some (.int _ i) => match eval0 P (sizeOf elem) with
      | some n => if 0 ≤ i ∧ i.toNat < len then some (.pointer (some ⟨k, off + i.toNat * n, none⟩)) else none
      | none => none
    | some (.slice elem), some (.slice (some ⟨k, off, _⟩) len _), some (.int _ i) => match eval0 P (sizeOf elem) with
      | some n => if 0 ≤ i ∧ i.toNat < len then some (.pointer (some ⟨k, off + i.toNat * n, none⟩)) else none
      | none => none
    | _, _, _ => none
  | .index t x ix => match P.underlying t, rd G ts x, rd G ts ix with
    | some (.array len elem), some (.agg cs), some (.int _ i) => match eval0 P (sizeOf elem) with
      | some n => if 0 ≤ i ∧ i.toNat < len then eval0 P (part elem cs (i.toNat * n)) else none
      | none => none
    | _, _, _ => none
  | .slice t x lo hi mx => match P.underlying t, rd G ts x with
    | some (.slice elem), some (.slice (some ⟨k, off, s⟩) len cap) => match rdInt G ts lo 0, rdInt G ts hi len, rdInt G ts mx cap, eval0 P (sizeOf elem) with
      | some l, some h, some m, some n =>
        if l ≤ h && h ≤ m && (mx.isNone || m ≤ cap) && (hi.isSome || mx.isNone) then
          (if mx.isSome then some (.slice (some ⟨k, if m = l then off else off + l * n, none⟩) (h - l) (m - l))
           else if s.isSome && l = cap && l != 0 then some (.chan (some 0))
           else some (.slice (some ⟨k, if m = l then off else off + l * n, s⟩) (h - l) (m - l)))
        else none
      | _, _, _, _ => none
    | some (.slice elem), some (.slice none len cap) => match rdInt G ts lo 0, rdInt G ts hi len, rdInt G ts mx cap, eval0 P (sizeOf elem) with
      | some l, some h, some m, some n => if l ≤ h && h ≤ m && (mx.isNone || m ≤ cap) && (hi.isSome || mx.isNone) then some (.slice none (h - l) (m - l)) else none
      | _, _, _, _ => none
    | some (.array len elem), some (.pointer (some ⟨k, off, none⟩)) => match rdInt G ts lo 0, rdInt G ts hi len, rdInt G ts mx len, eval0 P (sizeOf elem) with
      | some l, some h, some m, some n => if l ≤ h && h ≤ m && m ≤ len && (hi.isSome || mx.isNone) then some (.slice (some ⟨k, if m = l then off else off + l * n, none⟩) (h - l) (m - l)) else none
      | _, _, _, _ => none
    | some (.pointer arr), some (.pointer (some ⟨k, off, none⟩)) => match P.underlying arr with
      | some (.array len elem) => match rdInt G ts lo 0, rdInt G ts hi len, rdInt G ts mx len, eval0 P (sizeOf elem) with
        | some l, some h, some m, some n => if l ≤ h && h ≤ m && m ≤ len && (hi.isSome || mx.isNone) then some (.slice (some ⟨k, if m = l then off else off + l * n, none⟩) (h - l) (m - l)) else none
        | _, _, _, _ => none
      | _ => none
    | _, _ => none
  | .binOp .eql t x y _ => match rd G ts x, rd G ts y with
    | some u, some v => match nilEq u v, P.underlying t with
      | some r, some d => if evShape.nilType d u then some (.bool r) else none
      | _, _ => none
    | _, _ => none
  | .binOp .neq t x y _ => match rd G ts x, rd G ts y with
    | some u, some v => match nilEq u v, P.underlying t with
      | some r, some d => if evShape.nilType d u then some (.bool !r) else none
      | _, _ => none
    | _, _ => none
  | .call { callee := .builtin .len, args, argTypes } => match args.toList, (argTypes[0]?).bind P.underlying with
    | [x], some (.slice _) => match rd G ts x with
      | some (.slice _ n _) => some (goInt n)
      | some (.chan (some _)) => some (goInt 0)
      | _ => none
    | [x], some (.pointer arr) => match P.underlying arr, rd G ts x with
      | some (.array n _), some _ => some (goInt n)
      | _, _ => none
    | _, _ => none
  | .call { callee := .builtin .cap, args, argTypes } => match args.toList, (argTypes[0]?).bind P.underlying with
    | [x], some (.slice _) => match rd G ts x with
      | some (.slice (some ⟨_, _, none⟩) _ n) => some (goInt n)
      | _ => none
    | _, _ => none
  | _ => none

end Go.Dg
