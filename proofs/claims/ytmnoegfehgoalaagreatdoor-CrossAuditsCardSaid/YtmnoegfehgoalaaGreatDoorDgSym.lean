/- The abstract run with hints: what a run over open terms cannot decide is taken from a hint, and noted as an obligation. -/
import Derived.Test.YtmnoegfehgoalaaGreatDoorDgTop
namespace Go.Dg
set_option linter.unusedVariables false
set_option linter.unusedSimpArgs false
/-- All of some propositions. -/
def AllP : List Prop → Prop
  | [] => True
  | p :: r => p ∧ AllP r
theorem allP_append : ∀ {a b : List Prop}, AllP (a ++ b) → AllP a ∧ AllP b
  | [], _, h => ⟨trivial, h⟩
  | _ :: _, _, h => ⟨⟨h.1, (allP_append h.2).1⟩, (allP_append h.2).2⟩
/-- What is known ahead: an operation's value; a call's outcome; a loop's; what is left when the heap is swept. 'f': the function, 't': the slot that is written. -/
inductive Hint where
  | val (f t : Nat) (v : Value)
  | soft (f t : Nat) (v : Value)
  | softH (f t : Nat) (v : Value) (H : Heap) (log : List Nat)
  | call (g : FuncId) (v : Value) (H : Heap) (log : List Nat)
  | loop (f : Nat) (ex : Ex) (s : St)
  | gc (f : Nat) (vals : List Value) (H : Heap)
abbrev EvS := FuncId → List Value → Heap → List Hint → Option (Value × Heap × List Nat × List Hint × List Prop)
/-- The text of some cells that are bytes. -/
def strOf (cs : List Value) (off len : Nat) : Option ByteArray :=
  if off + len ≤ cs.length then (cellInts ((cs.drop off).take len)).map fun ns => ⟨(ns.map fun n => UInt8.ofNat n.toNat).toArray⟩ else none
def rdIntS (G : Nat) (ts : List Value) : Option Operand → Nat → Option (Nat × List Prop)
  | none, d => some (d, [])
  | some x, _ => match rd G ts x with
    | some (.int _ i) => some (i.toNat, [0 ≤ i])
    | _ => none
theorem rdIntS_ok {G : Nat} {ts : List Value} {x : Option Operand} {d n : Nat} {ob : List Prop} (h : rdIntS G ts x d = some (n, ob)) (ho : AllP ob) : rdInt G ts x d = some n := by
  cases x with
  | none => simp only [rdIntS, Option.some.injEq, Prod.mk.injEq] at h; obtain ⟨rfl, rfl⟩ := h; rfl
  | some x =>
    simp only [rdIntS] at h
    split at h
    · rename_i k i hr
      simp only [Option.some.injEq, Prod.mk.injEq] at h
      obtain ⟨rfl, rfl⟩ := h
      simp only [rdInt, hr, if_pos ho.1]
    · cases h
theorem rdIntS_inv {G : Nat} {ts : List Value} {x : Option Operand} {d n : Nat} {ob : List Prop} (h : rdIntS G ts x d = some (n, ob)) (ho : AllP ob) : (x = none ∧ n = d) ∨ ∃ y k i, x = some y ∧ rd G ts y = some (.int k i) ∧ 0 ≤ i ∧ n = i.toNat := by
  cases x with
  | none => simp only [rdIntS, Option.some.injEq, Prod.mk.injEq] at h; exact .inl ⟨rfl, h.1.symm⟩
  | some x =>
    simp only [rdIntS] at h
    split at h
    · rename_i k i hr
      simp only [Option.some.injEq, Prod.mk.injEq] at h
      obtain ⟨rfl, rfl⟩ := h
      exact .inr ⟨x, k, i, rfl, hr, ho.1, rfl⟩
    · cases h
theorem eval0_bound {P : Program} {k : IntKind} {i : Int} {y : Nat} {c : BoundsCode} (h0 : 0 ≤ i) (h1 : i.toNat ≤ y) : eval0 P (Instr.sliceBound (.int k i) y c) = some i.toNat := by
  have h2 : 0 ≤ i ∧ i ≤ (y : Int) := ⟨h0, by omega⟩
  simp [Instr.sliceBound, asIntOf, h2, eval0_pure]
/-- Byte i of a text. -/
def strAt (s : ByteArray) (i : Int) : Option Int := match (if 0 ≤ i then s[i.toNat]? else none) with
  | some b => some (b.toNat : Int)
  | none => none
/-- The next sign of a text that is gone over. -/
def nextAt (H : Heap) (k : Nat) : Option (Value × Heap × List Nat) := match H.get k with
  | .iter s pos =>
    if pos < s.size then
      some (.tuple #[.bool true, goInt pos, .int .i32 (Utf8.decode s pos).1], H.set k (.iter s (pos + (Utf8.decode s pos).2)), [k])
    else some (.tuple #[.bool false], H, [])
  | _ => none
/-- Operations whose checks become obligations; 'v' is the value that is said to come. -/
def softOp (P : Program) (G : Nat) (ts : List Value) (H : Heap) (o : Oper) (v : Value) : Option (Nat × List Prop) :=
  match o.op with
  | .indexAddr t x ix => match P.underlying t, rd G ts x, rd G ts ix with
    | some (.array len elem), some (.pointer (some ⟨k, off, none⟩)), some (.int _ i) => match eval0 P (sizeOf elem) with
      | some n => some (0, [0 ≤ i ∧ i < len, Value.pointer (some ⟨k, off + i.toNat * n, none⟩) = v])
      | none => none
    | some (.slice elem), some (.slice (some ⟨k, off, _⟩) len _), some (.int _ i) => match eval0 P (sizeOf elem) with
      | some n => some (0, [0 ≤ i ∧ i < len, Value.pointer (some ⟨k, off + i.toNat * n, none⟩) = v])
      | none => none
    | _, _, _ => none
  | .slice t x lo hi mx => match P.underlying t, rd G ts x with
    | some (.slice elem), some (.slice (some ⟨k, off, s⟩) len cap) => match rdIntS G ts lo 0, rdIntS G ts hi len, rdIntS G ts mx cap, eval0 P (sizeOf elem) with
      | some (l, o1), some (h, o2), some (m, o3), some n => if mx.isNone then
          some (0, o1 ++ (o2 ++ (o3 ++ [l ≤ h ∧ h ≤ m ∧ m ≤ cap, s.isSome = true → ¬ (l = cap ∧ l ≠ 0), Value.slice (some ⟨k, if m = l then off else off + l * n, s⟩) (h - l) (m - l) = v])))
        else none
      | _, _, _, _ => none
    | some (.slice elem), some (.slice none len cap) => match rdIntS G ts lo 0, rdIntS G ts hi len, rdIntS G ts mx cap, eval0 P (sizeOf elem) with
      | some (l, o1), some (h, o2), some (m, o3), some n => if mx.isNone then some (0, o1 ++ (o2 ++ (o3 ++ [l ≤ h ∧ h ≤ m ∧ m ≤ cap, Value.slice none (h - l) (m - l) = v]))) else none
      | _, _, _, _ => none
    | some .string, some (.string s) => match rdIntS G ts lo 0, rdIntS G ts hi s.size with
      | some (l, o1), some (h, o2) => if mx.isNone then some (0, o1 ++ (o2 ++ [l ≤ h ∧ h ≤ s.size, Value.string (s.extract l h) = v])) else none
      | _, _ => none
    | _, _ => none
  | .load t x => match rd G ts x with
    | some (.pointer (some ⟨k, off, none⟩)) => match eval0 P (isAgg t) with
      | some false => match H.get k with
        | .cells cs _ _ _ => some (1, [cs[off]? = some v])
        | _ => none
      | some true => match eval0 P (sizeOf t), H.get k, v with
        | some n, .cells cs _ _ _, .agg c => some (1, [off + n ≤ cs.length, (cs.drop off).take n = c.toList])
        | _, _, _ => none
      | _ => none
    | _ => none
  | .convert src dst x => match P.underlying src, P.underlying dst, rd G ts x with
    | some (.slice e), some .string, some (.slice (some ⟨k, off, _⟩) len _) => match P.underlying e with
      | some (.int .u8) => match H.get k with
        | .cells cs _ _ _ => match v with
          | .string s => some (1, [strOf cs off len = some s])
          | _ => none
        | _ => none
      | _ => none
    | _, _, _ => none
  | .binOp .quo t x y t' => match rd G ts x, rd G ts y with
    | some (.int k a), some (.int k' b) => if k = k' then some (0, [b ≠ 0, Value.int k (k.wrap (a.tdiv b)) = v]) else none
    | _, _ => none
  | .binOp .rem t x y t' => match rd G ts x, rd G ts y with
    | some (.int k a), some (.int k' b) => if k = k' then some (0, [b ≠ 0, Value.int k (a.tmod b) = v]) else none
    | _, _ => none
  | .binOp .shl t x y t' => match rd G ts x, rd G ts y with
    | some (.int k a), some (.int k' b) => some (0, [0 ≤ b, Value.int k (k.wrap (a * 2 ^ min b.toNat k.bits)) = v])
    | _, _ => none
  | .binOp .shr t x y t' => match rd G ts x, rd G ts y with
    | some (.int k a), some (.int k' b) => some (0, [0 ≤ b, Value.int k (a.fdiv (2 ^ min b.toNat k.bits)) = v])
    | _, _ => none
  | .index t x ix => match P.underlying t, rd G ts x, rd G ts ix, v with
    | some .string, some (.string s), some (.int _ i), .int .u8 n => some (0, [strAt s i = some n])
    | _, _, _, _ => none
  | .binOp .add t x y t' => match rd G ts x, rd G ts y with
    | some (.string a), some (.string b) => some (0, [a.size + b.size ≤ 9223372036854775807, Value.string (a ++ b) = v])
    | _, _ => none
  | _ => none
/-- Operations that turn memory: what is said to come of them. -/
def softH (P : Program) (G : Nat) (ts : List Value) (H : Heap) (o : Oper) (v : Value) (H' : Heap) (log : List Nat) : Option (List Prop) :=
  match o.op with
  | .call { callee := .builtin .append, args, argTypes } => match args.toList, argTypes.toList with
    | [x, y], [t, tx] => match rd G ts x, rd G ts y with
      | some s, some u => some [evAppend P H t tx s u = some (v, H', log)]
      | _, _ => none
    | _, _ => none
  | .store t x y => match rd G ts x, rd G ts y, eval0 P (sizeOf t) with
    | some (.pointer (some ⟨k, off, none⟩)), some u, some n =>
      if u.cells.size = n then some [H.write k off u.cells.toList = some H', v = undef, log = [k]] else none
    | _, _, _ => none
  | .makeSlice t x y => match someSlice (P.underlying t), rd G ts x, rd G ts y with
    | some e, some (.int _ l), some (.int _ c) => match P.info? e with
      | some i => match i.zero with
        | some z =>
          if flat z then some [0 ≤ l ∧ l ≤ c ∧ c ≤ 1099511627776 ∧ c.toNat * i.bytes ≤ 1099511627776, v = .slice (some ⟨H.n, 0, none⟩) l.toNat c.toNat, log = [], H' = H.push (.cells ((Array.range (c.toNat * i.size)).map (z.cells[· % z.cells.size]!)).toList e 4 1)]
          else none
        | none => none
      | none => none
    | _, _, _ => none
  | .call { callee := .builtin .copy, args, argTypes } => match args.toList, argTypes.toList with
    | [x, y], t :: _ => match someSlice (P.underlying t), rd G ts x, rd G ts y with
      | some e, some (.slice (some ⟨k, off, _⟩) dl _), some u => match eval0 P (sizeOf e) with
        | some n => match u with
          | .slice (some ⟨k2, off2, _⟩) len _ => some [((H.read k2 off2 (Nat.min len dl * n)).bind fun l => H.write k off l (flagAt H k2)) = some H', v = goInt (Nat.min len dl), log = [k]]
          | _ => none
        | none => none
      | _, _, _ => none
    | _, _ => none
  | .next x true => match rd G ts x with
    | some (.pointer (some ⟨k, 0, none⟩)) => some [nextAt H k = some (v, H', log)]
    | _ => none
  | .call { callee := .builtin .unsafeSliceData, args, argTypes } => match args.toList with
    | [x] => match rd G ts x with
      | some (.slice (some ⟨k, off, _⟩) _ cap) => some [cap ≠ 0, v = .pointer (some ⟨k, off, none⟩), H' = H, log = []]
      | _ => none
    | _ => none
  | .call { callee := .builtin .unsafeString, args, argTypes } => match args.toList, argTypes.toList with
    | [x, y], [pt, _] => match rd G ts x, rd G ts y, P.underlying pt, v with
      | some (.pointer (some ⟨k, off, none⟩)), some (.int .i64 n), some (.pointer e), .string t => match H.get k with
        | .cells cs e' md _ => if Nat.beq off 0 && Nat.beq e e' && !(Nat.beq (md % 4) 2) && Nat.beq (P.cellsOf e) 1 then
            some [0 < n ∧ n.toNat ≤ cs.length ∧ n ≤ 9223372036854775807, headStr cs n.toNat = some t, H' = H.set k .dead, log = [k]]
          else none
        | _ => none
      | _, _, _, _ => none
    | _, _ => none
  | _ => none
section
variable {P : Program} {G : Nat} {ok : List Bool} {call : Ev} {ts : List Value} {H : Heap}
theorem evOp_of_shape {o : Oper} {v : Value} (h : evShape P G ts o = some v) : evOp P G ok call ts H o = some (0, v, H, []) := by
  unfold evOp; rw [h]
theorem evOp_of_mem {o : Oper} {v : Value} {H' : Heap} {log : List Nat} (h0 : evShape P G ts o = none) (h : evMem P G ts H o = some (v, H', log)) : evOp P G ok call ts H o = some (if isReader P o.op then 1 else 2, v, H', log) := by
  unfold evOp; rw [h0, h]
theorem evOp_of_uns {o : Oper} {v : Value} {H' : Heap} {log : List Nat} (h0 : evShape P G ts o = none) (h1 : evMem P G ts H o = none) (h2 : evExtOp P G ok ts H o = none) (h3 : ∀ c : Ev, evCallOp P G ok c ts H o = none) (h4 : evYieldOp G call ts H o = none) (h5 : evGen P G ts o = none)
    (h : evUns P G ts H o = some (v, H', log)) : evOp P G ok call ts H o = some (2, v, H', log) := by
  unfold evOp; rw [h0, h1, h2, h3, h3, h4, h5, h]
theorem softOp_ok {o : Oper} {v : Value} {c : Nat} {ob : List Prop} (h : softOp P G ts H o v = some (c, ob)) (hob : AllP ob) : evOp P G ok call ts H o = some (c, v, H, []) := by
  obtain ⟨d, op, ty, pos, after, g⟩ := o
  unfold softOp at h
  split at h
  -- indexAddr
  · rename_i t x ix heq
    simp only at heq
    subst heq
    split at h
    · rename_i len elem k off i' i h1 h2 h3
      split at h
      · rename_i n h4
        simp only [Option.some.injEq, Prod.mk.injEq] at h
        obtain ⟨rfl, rfl⟩ := h
        obtain ⟨a1, rfl, _⟩ := hob
        have a1' : 0 ≤ i ∧ i.toNat < len := ⟨a1.1, by omega⟩
        exact evOp_of_shape (by simp only [evShape, h1, h2, h3, h4, if_pos a1'])
      · cases h
    · rename_i elem k off s len cap i' i h1 h2 h3
      split at h
      · rename_i n h4
        simp only [Option.some.injEq, Prod.mk.injEq] at h
        obtain ⟨rfl, rfl⟩ := h
        obtain ⟨a1, rfl, _⟩ := hob
        have a1' : 0 ≤ i ∧ i.toNat < len := ⟨a1.1, by omega⟩
        exact evOp_of_shape (by simp only [evShape, h1, h2, h3, h4, if_pos a1'])
      · cases h
    · cases h
  -- slice
  · rename_i t x lo hi mx heq
    simp only at heq
    subst heq
    split at h
    · rename_i elem k off s len cap h1 h2
      split at h
      · rename_i l o1 hh o2 m o3 n r1 r2 r3 r4
        split at h
        · rename_i hmx
          simp only [Option.some.injEq, Prod.mk.injEq] at h
          obtain ⟨rfl, rfl⟩ := h
          obtain ⟨a1, hob⟩ := allP_append hob
          obtain ⟨a2, hob⟩ := allP_append hob
          obtain ⟨a3, b1, b2, rfl, _⟩ := allP_append hob
          have e1 : (decide (l ≤ hh) && decide (hh ≤ m) && (mx.isNone || decide (m ≤ cap)) && (hi.isSome || mx.isNone)) = true := by simp [b1.1, b1.2.1, b1.2.2, hmx]
          have e2 : mx.isSome = false := by cases mx <;> simp_all
          have e3 : (s.isSome && decide (l = cap) && l != 0) = false := by
            cases s with
            | none => rfl
            | some s0 =>
              have := b2 rfl
              by_cases hl : l = cap <;> by_cases h0 : l = 0 <;> simp_all
          exact evOp_of_shape (by simp only [evShape, h1, h2, rdIntS_ok r1 a1, rdIntS_ok r2 a2, rdIntS_ok r3 a3, r4, if_pos e1, e2, e3, Bool.false_eq_true, if_false])
        · cases h
      · cases h
    · rename_i elem len cap h1 h2
      split at h
      · rename_i l o1 hh o2 m o3 n r1 r2 r3 r4
        split at h
        · rename_i hmx
          simp only [Option.some.injEq, Prod.mk.injEq] at h
          obtain ⟨rfl, rfl⟩ := h
          obtain ⟨a1, hob⟩ := allP_append hob
          obtain ⟨a2, hob⟩ := allP_append hob
          obtain ⟨a3, b1, rfl, _⟩ := allP_append hob
          have e1 : (decide (l ≤ hh) && decide (hh ≤ m) && (mx.isNone || decide (m ≤ cap)) && (hi.isSome || mx.isNone)) = true := by simp [b1.1, b1.2.1, b1.2.2, hmx]
          exact evOp_of_shape (by simp only [evShape, h1, h2, rdIntS_ok r1 a1, rdIntS_ok r2 a2, rdIntS_ok r3 a3, r4, if_pos e1])
        · cases h
      · cases h
    · rename_i s h1 h2
      split at h
      · rename_i l o1 hh o2 r1 r2
        split at h
        · rename_i hmx
          simp only [Option.some.injEq, Prod.mk.injEq] at h
          obtain ⟨rfl, rfl⟩ := h
          obtain ⟨a1, hob⟩ := allP_append hob
          obtain ⟨a2, b1, rfl, _⟩ := allP_append hob
          obtain rfl : mx = none := by cases mx <;> simp_all
          have e : eval0 P (execOp (fun x => (rd G ts x).getD undef) ⟨d, .slice t x lo hi none, ty, pos, after, g⟩) = some (.value (.string (s.extract l hh))) := by
            rcases rdIntS_inv r1 a1 with ⟨rfl, rfl⟩ | ⟨y, k, i, rfl, q1, q2, rfl⟩ <;> rcases rdIntS_inv r2 a2 with ⟨rfl, rfl⟩ | ⟨y', k', i', rfl, q1', q2', rfl⟩
            all_goals simp only [execOp, h2, Option.getD_some, Instr.sliceAt, Instr.slice, Instr.sliceBounds, Option.map_some, Option.map_none]
            all_goals simp [eval0_pure, eval0_bind, eval0_map, eval0_underlying h1, *, eval0_bound]
          have ef : (Op.slice t x lo hi none).operands.toList.all (fun x => match rd G ts x with | some v => flat v | none => false) = true := by
            rcases rdIntS_inv r1 a1 with ⟨rfl, rfl⟩ | ⟨y, k, i, rfl, q1, q2, rfl⟩ <;> rcases rdIntS_inv r2 a2 with ⟨rfl, rfl⟩ | ⟨y', k', i', rfl, q1', q2', rfl⟩
            all_goals simp [Op.operands, *, flat]
          have hg0 : evGen0 P G ts ⟨d, .slice t x lo hi none, ty, pos, after, g⟩ = some (.string (s.extract l hh)) := by
            unfold evGen0
            simp only [noSelect, Bool.true_and]
            refine (if_pos ?_).trans ?_
            · exact ef
            · rw [e]; rfl
          simp only [evOp, evShape, h1, h2, evMem, evExtOp, evCallOp, evYieldOp, evGen, evEq, eqSign, hg0]
        · cases h
      · cases h
    · cases h
  -- load
  · rename_i t x heq
    simp only at heq
    subst heq
    split at h
    · rename_i k off h1
      split at h
      · rename_i h2
        split at h
        · rename_i cs e md esz h3
          simp only [Option.some.injEq, Prod.mk.injEq] at h
          obtain ⟨rfl, rfl⟩ := h
          have hv := hob.1
          have hlt : off < cs.length := by
            rcases Nat.lt_or_ge off cs.length with h0 | h0
            · exact h0
            · rw [List.getElem?_eq_none h0] at hv; cases hv
          have hr : H.read k off 1 = some [v] := by
            unfold Heap.read
            rw [h3]
            simp only
            rw [if_pos (by omega)]
            have : (cs.drop off).take 1 = [v] := by
              rw [List.drop_eq_getElem_cons hlt, List.take_succ_cons, List.take_zero]
              rw [List.getElem?_eq_getElem hlt] at hv
              cases hv; rfl
            rw [this]
          exact evOp_of_mem (by rfl) (by simp only [evMem, h1, h2, hr])
        · cases h
      · rename_i h2
        split at h
        · rename_i n cs e md esz c h4 h3
          simp only [Option.some.injEq, Prod.mk.injEq] at h
          obtain ⟨rfl, rfl⟩ := h
          obtain ⟨b1, b2, _⟩ := hob
          have hr : H.read k off n = some c.toList := by
            unfold Heap.read
            rw [h3]
            simp only
            rw [if_pos b1, b2]
          exact evOp_of_mem (by rfl) (by simp only [evMem, h1, h2, h4, hr, Option.map_some])
        · cases h
      · cases h
    · cases h
  -- convert
  · rename_i src dst x heq
    simp only at heq
    subst heq
    split at h
    · rename_i e k off s len cap h1 h2 h3
      split at h
      · rename_i h4
        split at h
        · rename_i cs e' md esz h5
          split at h
          · rename_i s'
            simp only [Option.some.injEq, Prod.mk.injEq] at h
            obtain ⟨rfl, rfl⟩ := h
            have hv := hob.1
            unfold strOf at hv
            split at hv
            · rename_i hlen
              rw [Option.map_eq_some_iff] at hv
              obtain ⟨ns, hv1, hv2⟩ := hv
              have hr : H.read k off len = some ((cs.drop off).take len) := by
                unfold Heap.read; rw [h5]; simp only; rw [if_pos hlen]
              have := evOp_of_mem (ok := ok) (call := call) (o := ⟨d, .convert src dst x, ty, pos, after, g⟩) (P := P) (G := G) (ts := ts) (H := H) (v := .string s') (H' := H) (log := []) (by rfl) (by simp only [evMem, h1, h2, h3, h4, hr, hv1, Option.map_some, hv2])
              rw [this]
              simp only [isReader, h2, if_true]
            · cases hv
          · cases h
        · cases h
      · cases h
    · cases h
  -- quo, rem, shl, shr
  · rename_i t x y t' heq
    simp only at heq
    subst heq
    split at h
    · rename_i k a k' b h1 h2
      split at h
      · rename_i hk
        subst hk
        simp only [Option.some.injEq, Prod.mk.injEq] at h
        obtain ⟨rfl, rfl⟩ := h
        obtain ⟨a1, rfl, _⟩ := hob
        have e : execOp (fun x => (rd G ts x).getD undef) ⟨d, .binOp .quo t x y t', ty, pos, after, g⟩ = pure (.value (.int k (k.wrap (a.tdiv b)))) := by
          simp [execOp, h1, h2, binOp, Op.intDiv, a1, eqGuard]
        simp only [evOp, evShape, evMem, evExtOp, evCallOp, evYieldOp, evGen, evEq, eqSign, evGen0, noSelect, Op.operands, e]
        simp [h1, h2, flat, eval0_pure]
      · cases h
    · cases h
  · rename_i t x y t' heq
    simp only at heq
    subst heq
    split at h
    · rename_i k a k' b h1 h2
      split at h
      · rename_i hk
        subst hk
        simp only [Option.some.injEq, Prod.mk.injEq] at h
        obtain ⟨rfl, rfl⟩ := h
        obtain ⟨a1, rfl, _⟩ := hob
        have e : execOp (fun x => (rd G ts x).getD undef) ⟨d, .binOp .rem t x y t', ty, pos, after, g⟩ = pure (.value (.int k (a.tmod b))) := by
          simp [execOp, h1, h2, binOp, Op.intDiv, a1, eqGuard]
        simp only [evOp, evShape, evMem, evExtOp, evCallOp, evYieldOp, evGen, evEq, eqSign, evGen0, noSelect, Op.operands, e]
        simp [h1, h2, flat, eval0_pure]
      · cases h
    · cases h
  · rename_i t x y t' heq
    simp only at heq
    subst heq
    split at h
    · rename_i k a k' b h1 h2
      simp only [Option.some.injEq, Prod.mk.injEq] at h
      obtain ⟨rfl, rfl⟩ := h
      obtain ⟨a1, rfl, _⟩ := hob
      have e : execOp (fun x => (rd G ts x).getD undef) ⟨d, .binOp .shl t x y t', ty, pos, after, g⟩ = pure (.value (.int k (k.wrap (a * 2 ^ min b.toNat k.bits)))) := by
        simp [execOp, h1, h2, binOp, Op.shift, Int.not_lt.2 a1, eqGuard]
      simp only [evOp, evShape, evMem, evExtOp, evCallOp, evYieldOp, evGen, evEq, eqSign, evGen0, noSelect, Op.operands, e]
      simp [h1, h2, flat, eval0_pure]
    · cases h
  · rename_i t x y t' heq
    simp only at heq
    subst heq
    split at h
    · rename_i k a k' b h1 h2
      simp only [Option.some.injEq, Prod.mk.injEq] at h
      obtain ⟨rfl, rfl⟩ := h
      obtain ⟨a1, rfl, _⟩ := hob
      have e : execOp (fun x => (rd G ts x).getD undef) ⟨d, .binOp .shr t x y t', ty, pos, after, g⟩ = pure (.value (.int k (a.fdiv (2 ^ min b.toNat k.bits)))) := by
        simp [execOp, h1, h2, binOp, Op.shift, Int.not_lt.2 a1, eqGuard]
      simp only [evOp, evShape, evMem, evExtOp, evCallOp, evYieldOp, evGen, evEq, eqSign, evGen0, noSelect, Op.operands, e]
      simp [h1, h2, flat, eval0_pure]
    · cases h
  · rename_i t x ix heq
    simp only at heq
    subst heq
    split at h
    · rename_i s k i n h1 h2 h3
      simp only [Option.some.injEq, Prod.mk.injEq] at h
      obtain ⟨rfl, rfl⟩ := h
      have a1 := hob.1
      unfold strAt at a1
      split at a1
      rotate_left
      · cases a1
      rename_i b hb
      simp only [Option.some.injEq] at a1
      subst a1
      have hp : eval0 P program = some P := rfl
      have e : eval0 P (execOp (fun x => (rd G ts x).getD undef) ⟨d, .index t x ix, ty, pos, after, g⟩) = some (.value (.int .u8 (b.toNat : Int))) := by
        simp only [execOp, h2, h3, Option.getD_some, Instr.index, asIntOf]
        simp [eval0_pure, eval0_bind, eval0_map, eval0_underlying h1, hb]
      simp only [evOp, evShape, h1, h2, h3, evMem, evExtOp, evCallOp, evYieldOp, evGen, evEq, eqSign, evGen0, noSelect, Op.operands, e]
      simp [h2, h3, flat]
    · cases h
  · rename_i t x y t' heq
    simp only at heq
    subst heq
    split at h
    · rename_i a b h1 h2
      simp only [Option.some.injEq, Prod.mk.injEq] at h
      obtain ⟨rfl, rfl⟩ := h
      obtain ⟨a1, rfl, _⟩ := hob
      have a2 : ¬ (((a.size + b.size : Nat) : Int) > IntKind.i64.max) := by
        simp [IntKind.max, IntKind.bits, IntKind.signed]; omega
      have e : execOp (fun x => (rd G ts x).getD undef) ⟨d, .binOp .add t x y t', ty, pos, after, g⟩ = pure (.value (.string (a ++ b))) := by
        simp only [execOp, h1, h2, Option.getD_some, binOp, Op.stringOp, if_neg a2]
        rfl
      simp only [evOp, evShape, evMem, evExtOp, evCallOp, evYieldOp, evGen, evEq, eqSign, evGen0, noSelect, Op.operands, e]
      simp [h1, h2, flat, eval0_pure]
    · cases h
  · cases h
theorem softH_ok {o : Oper} {v : Value} {H' : Heap} {log : List Nat} {ob : List Prop} (h : softH P G ts H o v H' log = some ob) (hob : AllP ob) : evOp P G ok call ts H o = some (2, v, H', log) := by
  obtain ⟨d, op, ty, pos, after, g⟩ := o
  unfold softH at h
  split at h
  · rename_i args argTypes heq
    simp only at heq
    subst heq
    split at h
    · rename_i x y t tx h1 h2
      split at h
      · rename_i s u h3 h4
        simp only [Option.some.injEq] at h
        subst h
        have := evOp_of_mem (ok := ok) (call := call) (P := P) (G := G) (ts := ts) (H := H) (v := v) (H' := H') (log := log)
          (o := ⟨d, .call { callee := .builtin .append, args := args, argTypes := argTypes }, ty, pos, after, g⟩) (by rfl) (by simp only [evMem, h1, h2, h3, h4]; exact hob.1)
        rw [this]; rfl
      · cases h
    · cases h
  · rename_i t x y heq
    simp only at heq
    subst heq
    split at h
    · rename_i k off u n h1 h2 h3
      split at h
      · rename_i hn
        simp only [Option.some.injEq] at h
        subst h
        obtain ⟨a1, rfl, rfl, _⟩ := hob
        have := evOp_of_mem (ok := ok) (call := call) (P := P) (G := G) (ts := ts) (H := H) (v := undef) (H' := H') (log := [k])
          (o := ⟨d, .store t x y, ty, pos, after, g⟩) (by rfl) (by simp only [evMem, h1, h2, h3, if_pos hn, a1, Option.map_some])
        rw [this]; rfl
      · cases h
    · cases h
  · rename_i t x y heq
    simp only at heq
    subst heq
    split at h
    · rename_i e l' l c' c h1 h2 h3
      split at h
      · rename_i i h4
        split at h
        · rename_i z h5
          split at h
          · rename_i hz
            simp only [Option.some.injEq] at h
            subst h
            obtain ⟨a1, rfl, rfl, rfl, _⟩ := hob
            have e1 : (flat z && decide (0 ≤ l) && decide (l ≤ c) && decide (c ≤ 1099511627776) && decide (c.toNat * i.bytes ≤ 1099511627776)) = true := by simp [hz, a1.1, a1.2.1, a1.2.2.1, a1.2.2.2]
            have := evOp_of_mem (ok := ok) (call := call) (P := P) (G := G) (ts := ts) (H := H) (v := .slice (some ⟨H.n, 0, none⟩) l.toNat c.toNat) (H' := H.push (.cells ((Array.range (c.toNat * i.size)).map (z.cells[· % z.cells.size]!)).toList e 4 1)) (log := [])
              (o := ⟨d, .makeSlice t x y, ty, pos, after, g⟩) (by rfl) (by simp only [evMem, h1, h2, h3, h4, h5, if_pos e1])
            rw [this]; rfl
          · cases h
        · cases h
      · cases h
    · cases h
  · rename_i args argTypes heq
    simp only at heq
    subst heq
    split at h
    · rename_i x y t tx h1 h2
      split at h
      · rename_i e k off s0 dl cp u h3 h4 h5
        split at h
        · rename_i n h6
          split at h
          · rename_i k2 off2 s2 len cp2
            simp only [Option.some.injEq] at h
            subst h
            obtain ⟨a1, rfl, rfl, _⟩ := hob
            rw [Option.bind_eq_some_iff] at a1
            obtain ⟨l, a1, a2⟩ := a1
            have := evOp_of_mem (ok := ok) (call := call) (P := P) (G := G) (ts := ts) (H := H) (v := goInt (Nat.min len dl)) (H' := H') (log := [k])
              (o := ⟨d, .call { callee := .builtin .copy, args := args, argTypes := argTypes }, ty, pos, after, g⟩) (by rfl) (by simp only [evMem, h1, h2, h3, h4, h5, h6, a1, a2, Option.map_some])
            rw [this]; rfl
          · cases h
        · cases h
      · cases h
    · cases h
  · rename_i x heq
    simp only at heq
    subst heq
    split at h
    · rename_i k h1
      simp only [Option.some.injEq] at h
      subst h
      have := evOp_of_mem (ok := ok) (call := call) (P := P) (G := G) (ts := ts) (H := H) (v := v) (H' := H') (log := log)
        (o := ⟨d, .next x true, ty, pos, after, g⟩) (by rfl) (by simp only [evMem, h1]; exact hob.1)
      rw [this]; rfl
    · cases h
  · rename_i args argTypes heq
    simp only at heq
    subst heq
    split at h
    · rename_i x h1
      split at h
      · rename_i k off s n cap h2
        simp only [Option.some.injEq] at h
        subst h
        obtain ⟨a1, rfl, rfl, rfl, _⟩ := hob
        refine evOp_of_uns (by rfl) (by rfl) (by rfl) (fun _ => by rfl) (by rfl) ?_ ?_
        · have ha : args = #[x] := by apply Array.ext'; simpa using h1
          simp only [evGen, evEq, eqSign, evGen0, noSelect, Op.operands, Call.operands, ha]
          simp [h2, flat]
        · simp only [evUns, h1, h2]
          cases cap with
          | zero => exact absurd rfl a1
          | succ c => rfl
      · cases h
    · cases h
  · rename_i args argTypes heq
    simp only at heq
    subst heq
    split at h
    · rename_i x y pt it h1 h2
      split at h
      · rename_i k off n e t h3 h4 h5
        split at h
        · rename_i cs e' md esz h6
          split at h
          · rename_i hc
            simp only [Option.some.injEq] at h
            subst h
            obtain ⟨a1, a2, rfl, rfl, _⟩ := hob
            refine evOp_of_uns (by rfl) (by rfl) (by rfl) (fun _ => by rfl) (by rfl) ?_ ?_
            · have ha : args = #[x, y] := by apply Array.ext'; simpa using h1
              simp only [evGen, evEq, eqSign, evGen0, noSelect, Op.operands, Call.operands, ha]
              simp [h3, flat]
            · have hn : ¬ n = 0 := by omega
              have hcc : (Nat.beq off 0 && Nat.beq e e' && !(Nat.beq (md % 4) 2) && Nat.beq (P.cellsOf e) 1 && decide (0 < n) && decide (n.toNat ≤ cs.length) && decide (n ≤ 9223372036854775807)) = true := by
                rw [hc]; simp [a1.1, a1.2.1, a1.2.2]
              simp only [evUns, h1, h2, h3, h4, if_neg hn, h5, h6, if_pos hcc, a2, Option.map_some]
          · cases h
        · cases h
      · cases h
    · cases h
  · cases h
end
end Go.Dg
