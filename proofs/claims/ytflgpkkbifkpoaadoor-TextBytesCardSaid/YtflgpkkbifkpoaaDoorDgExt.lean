/- Functions without a body that the model does itself: abi.NoEscape, bytealg's searches in strings. -/
import Derived.Test.YtflgpkkbifkpoaaDoorDgUns
import Derived.Laws.Externs
import Derived.KernelRfl
namespace Go.Dg
set_option linter.unusedVariables false
set_option linter.unusedSimpArgs false

/-- Where a byte stands first; -1: nowhere. -/
def idxByte (b : ByteArray) (c : UInt8) : Int := match (List.range b.size).find? fun i => b[i]! == c with | some i => (i : Int) | none => -1
/-- How often it stands. -/
def cntByte (b : ByteArray) (c : UInt8) : Int := b.foldl (fun n x => if x == c then n + 1 else n) ((0 : Nat) : Int)

def extVal (name : String) (l : List Value) : Option Value :=
  if name == "internal/abi.NoEscape" then (match l with | [v] => some v | _ => none)
  else if name == "internal/bytealg.IndexByteString" then (match l with | [.string s, .int .u8 c] => some (.int .i64 (idxByte s c.toNat.toUInt8)) | _ => none)
  else if name == "internal/bytealg.CountString" then (match l with | [.string s, .int .u8 c] => some (.int .i64 (cntByte s c.toNat.toUInt8)) | _ => none)
  else none
def evExtOp (P : Program) (G : Nat) (ok : List Bool) (ts : List Value) (o : Oper) : Option Value :=
  match o.op with
  | .call { callee := .value f, args, .. } => match rd G ts f, rdAll G ts args.toList with
    | some (.func (.func g) first captured), some l => if ok.getD g false then none else match P.funcs[g]? with
      | some fn => if fn.body.isNone && fn.origin == "" && !(fn.name == "runtime.NumGoroutine") then extVal fn.name (first.toList ++ l ++ captured.toList) else none
      | none => none
    | _, _ => none
  | _ => none

section
variable {P : Program} {G N : Nat} {ok : List Bool} {M : Emb} {H : Heap} {w : World} {ts : List Value} {a : Act}

theorem find_noescape {fn : Func} (h : fn.name = "internal/abi.NoEscape") (ho : fn.origin = "") : Extern.findNext fn = none ∧ Extern.find fn = some Extern.AbiNoEscape.same := by
  constructor
  · unfold Extern.findNext
    rw [h, ho]
    kernel_rfl
  · unfold Extern.find
    rw [h, ho]
    kernel_rfl
theorem find_index {fn : Func} (h : fn.name = "internal/bytealg.IndexByteString") (ho : fn.origin = "") : Extern.findNext fn = none ∧ Extern.find fn = some Extern.BytealgIndexByte.indexByte := by
  constructor
  · unfold Extern.findNext
    rw [h, ho]
    kernel_rfl
  · unfold Extern.find
    rw [h, ho]
    kernel_rfl
theorem find_count {fn : Func} (h : fn.name = "internal/bytealg.CountString") (ho : fn.origin = "") : Extern.findNext fn = none ∧ Extern.find fn = some Extern.BytealgCount.count := by
  constructor
  · unfold Extern.findNext
    rw [h, ho]
    kernel_rfl
  · unfold Extern.find
    rw [h, ho]
    kernel_rfl
theorem run_index (s : ByteArray) (c : Int) (w : World) : (Extern.BytealgIndexByte.indexByte #[.string s, .int .u8 c]).run P w = .ok (.int .i64 (idxByte s c.toNat.toUInt8)) w := by
  have hdef : Extern.BytealgIndexByte.indexByte #[.string s, .int .u8 c] = (match (List.range s.size).find? fun i => s[i]! == c.toNat.toUInt8 with | some i => pure (goInt i) | none => pure (goInt (-1))) := rfl
  rw [hdef]
  unfold idxByte
  cases (List.range s.size).find? fun i => s[i]! == c.toNat.toUInt8 <;> rfl
theorem run_count (s : ByteArray) (c : Int) (w : World) : (Extern.BytealgCount.count #[.string s, .int .u8 c]).run P w = .ok (.int .i64 (cntByte s c.toNat.toUInt8)) w := by
  have hdef : Extern.BytealgCount.count #[.string s, .int .u8 c] = pure (goInt (s.foldl (fun n x => if x == c.toNat.toUInt8 then n + 1 else n) ((0 : Nat) : Int))) := rfl
  rw [hdef, Sem.run_pure]
  rfl

theorem extVal_run {fn : Func} {g : FuncId} (hf : P.funcs[g]? = some fn) (hb : fn.body.isNone = true) (ho : fn.origin = "") (hn : (fn.name == "runtime.NumGoroutine") = false) {l : List Value} {args' : Array Value} {v : Value} (h : extVal fn.name l = some v) (hl : LRel M l args'.toList) :
    ∃ v', VRel M v v' ∧ (callFunc g args').run P w = .ok (.value v') w := by
  unfold extVal at h
  split at h
  · rename_i hname
    split at h
    rotate_left
    · cases h
    cases h
    obtain ⟨v', r, e, h1, h2⟩ := hl.cons_inv
    obtain rfl := h2.nil_inv
    obtain rfl : args' = #[v'] := by apply Array.ext'; simpa using e
    obtain ⟨q1, q2⟩ := find_noescape (eq_of_beq hname) ho
    exact ⟨v', h1, by rw [run_callFunc_extern hf hn hb q1 q2]; rfl⟩
  · split at h
    · rename_i hname
      split at h
      rotate_left
      · cases h
      rename_i s c
      cases h
      obtain ⟨v', r, e, h1, h2⟩ := hl.cons_inv
      obtain ⟨v2, r2, rfl, h3, h4⟩ := h2.cons_inv
      obtain rfl := h4.nil_inv
      obtain rfl := h1.eq_of_flat rfl
      obtain rfl := h3.eq_of_flat rfl
      obtain rfl : args' = #[.string s, .int .u8 c] := by apply Array.ext'; simpa using e
      obtain ⟨q1, q2⟩ := find_index (eq_of_beq hname) ho
      exact ⟨_, .atom rfl, by rw [run_callFunc_extern hf hn hb q1 q2, run_index]; rfl⟩
    · split at h
      · rename_i hname
        split at h
        rotate_left
        · cases h
        rename_i s c
        cases h
        obtain ⟨v', r, e, h1, h2⟩ := hl.cons_inv
        obtain ⟨v2, r2, rfl, h3, h4⟩ := h2.cons_inv
        obtain rfl := h4.nil_inv
        obtain rfl := h1.eq_of_flat rfl
        obtain rfl := h3.eq_of_flat rfl
        obtain rfl : args' = #[.string s, .int .u8 c] := by apply Array.ext'; simpa using e
        obtain ⟨q1, q2⟩ := find_count (eq_of_beq hname) ho
        exact ⟨_, .atom rfl, by rw [run_callFunc_extern hf hn hb q1 q2, run_count]; rfl⟩
      · cases h
end
/-- Whatever calls are, this one is none of theirs. -/
theorem evExtOp_body {P : Program} {G : Nat} {ok : List Bool} {ts : List Value} {o : Oper} {v : Value} (h : evExtOp P G ok ts o = some v) : (∃ f args argTypes, o.op = .call { callee := .value f, args, argTypes }) := by
  unfold evExtOp at h
  split at h
  · rename_i heq; exact ⟨_, _, _, heq⟩
  · cases h
end Go.Dg
