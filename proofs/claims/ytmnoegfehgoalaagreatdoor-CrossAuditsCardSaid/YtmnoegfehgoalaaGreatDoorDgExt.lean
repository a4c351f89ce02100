/- Functions without a body that the model does itself: abi.NoEscape, bytealg's searches in strings. -/
import Derived.Test.YtmnoegfehgoalaaGreatDoorDgUns
import Derived.Laws.Externs
import Derived.KernelRfl
namespace Go.Dg
set_option linter.unusedVariables false
set_option linter.unusedSimpArgs false
/-- Where a byte stands first; -1: nowhere. -/
def idxByte (b : ByteArray) (c : UInt8) : Int := match (List.range b.size).find? fun i => b[i]! == c with | some i => (i : Int) | none => -1
/-- How often it stands. -/
def cntByte (b : ByteArray) (c : UInt8) : Int := b.foldl (fun n x => if x == c then n + 1 else n) ((0 : Nat) : Int)
def extVal (name : String) (l : List Value) : Option Value :=
  if name == "internal/abi.NoEscape" then (match l with | [v] => some v | _ => none)
  else if name == "internal/bytealg.IndexByteString" then (match l with | [.string s, .int .u8 c] => some (.int .i64 (idxByte s c.toNat.toUInt8)) | _ => none)
  else if name == "internal/bytealg.CountString" then (match l with | [.string s, .int .u8 c] => some (.int .i64 (cntByte s c.toNat.toUInt8)) | _ => none)
  else if name == "math/bits.Add64" then (match l with
    | [.int .u64 x, .int .u64 y, .int .u64 c] => if Nat.ble c.toNat 1 then some (.tuple #[.int .u64 (Int.ofNat ((x.toNat + y.toNat + c.toNat) % 18446744073709551616)), .int .u64 (Int.ofNat ((x.toNat + y.toNat + c.toNat) / 18446744073709551616))]) else none
    | _ => none)
  else if name == "math/bits.Sub64" then (match l with
    | [.int .u64 x, .int .u64 y, .int .u64 c] => if Nat.ble c.toNat 1 then some (.tuple #[.int .u64 (Int.ofNat ((18446744073709551616 + x.toNat - y.toNat - c.toNat) % 18446744073709551616)), .int .u64 (Int.ofNat (if x.toNat < y.toNat + c.toNat then 1 else 0))]) else none
    | _ => none)
  else none
section
variable {P : Program} {G N : Nat} {ok : List Bool} {M : Emb} {H : Heap} {w : World} {ts : List Value} {a : Act}
theorem find_noescape {fn : Func} (h : fn.name = "internal/abi.NoEscape") (ho : fn.origin = "") : Extern.findNext fn = none ∧ Extern.find fn = some Extern.AbiNoEscape.same := by
  constructor
  · unfold Extern.findNext
    rw [h, ho]
    kernel_rfl
  · unfold Extern.find
    rw [h, ho]
    kernel_rfl
theorem find_index {fn : Func} (h : fn.name = "internal/bytealg.IndexByteString") (ho : fn.origin = "") : Extern.findNext fn = none ∧ Extern.find fn = some Extern.BytealgIndexByte.indexByte := by
  constructor
  · unfold Extern.findNext
    rw [h, ho]
    kernel_rfl
  · unfold Extern.find
    rw [h, ho]
    kernel_rfl
theorem find_count {fn : Func} (h : fn.name = "internal/bytealg.CountString") (ho : fn.origin = "") : Extern.findNext fn = none ∧ Extern.find fn = some Extern.BytealgCount.count := by
  constructor
  · unfold Extern.findNext
    rw [h, ho]
    kernel_rfl
  · unfold Extern.find
    rw [h, ho]
    kernel_rfl
def addS : Array Value → Sem Value := fun args => do
    let (x, y, c) ← Extern.MathBitsCarry.three "Add64" args
    pure (Extern.MathBitsCarry.pair ((x + y + c) % Extern.MathBitsCarry.m64) ((x + y + c) / Extern.MathBitsCarry.m64))
theorem find_add64 {fn : Func} (h : fn.name = "math/bits.Add64") (ho : fn.origin = "") : Extern.findNext fn = none ∧ Extern.find fn = some addS := by
  constructor
  · unfold Extern.findNext
    rw [h, ho]
    kernel_rfl
  · unfold Extern.find
    rw [h, ho]
    kernel_rfl
def subS : Array Value → Sem Value := fun args => do
    let (x, y, b) ← Extern.MathBitsCarry.three "Sub64" args
    pure (Extern.MathBitsCarry.pair ((x + Extern.MathBitsCarry.m64 - y - b) % Extern.MathBitsCarry.m64) (if x < y + b then 1 else 0))
theorem find_sub64 {fn : Func} (h : fn.name = "math/bits.Sub64") (ho : fn.origin = "") : Extern.findNext fn = none ∧ Extern.find fn = some subS := by
  constructor
  · unfold Extern.findNext
    rw [h, ho]
    kernel_rfl
  · unfold Extern.find
    rw [h, ho]
    kernel_rfl
theorem run_three (s : String) (x y c : Int) (hc : c.toNat ≤ 1) (w : World) : (Extern.MathBitsCarry.three s #[.int .u64 x, .int .u64 y, .int .u64 c]).run P w = .ok (x.toNat, y.toNat, c.toNat) w := by
  have hn : ¬ c.toNat > 1 := by omega
  have hdef : Extern.MathBitsCarry.three s #[.int .u64 x, .int .u64 y, .int .u64 c] = (do
      let c := (← asInt (.int .u64 c)).toNat
      if c > 1 then unsupported (.noEntry ("extern/math/bits." ++ s ++ ": a carry that is neither 0 nor 1"))
      pure ((← asInt (.int .u64 x)).toNat, (← asInt (.int .u64 y)).toNat, c)) := rfl
  rw [hdef]
  simp [asInt, asIntOf, hn]
  omega
theorem three_args {a b c : Value} (ha : flat a = true) (hb : flat b = true) (hc : flat c = true) {args' : Array Value} (hl : LRel M [a, b, c] args'.toList) : args' = #[a, b, c] := by
  obtain ⟨v1, r1, e, h1, h2⟩ := hl.cons_inv
  obtain ⟨v2, r2, rfl, h3, h4⟩ := h2.cons_inv
  obtain ⟨v3, r3, rfl, h5, h6⟩ := h4.cons_inv
  obtain rfl := h6.nil_inv
  obtain rfl := h1.eq_of_flat ha
  obtain rfl := h3.eq_of_flat hb
  obtain rfl := h5.eq_of_flat hc
  apply Array.ext'
  simpa using e
theorem run_index (s : ByteArray) (c : Int) (w : World) : (Extern.BytealgIndexByte.indexByte #[.string s, .int .u8 c]).run P w = .ok (.int .i64 (idxByte s c.toNat.toUInt8)) w := by
  have hdef : Extern.BytealgIndexByte.indexByte #[.string s, .int .u8 c] = (match (List.range s.size).find? fun i => s[i]! == c.toNat.toUInt8 with | some i => pure (goInt i) | none => pure (goInt (-1))) := rfl
  rw [hdef]
  unfold idxByte
  cases (List.range s.size).find? fun i => s[i]! == c.toNat.toUInt8 <;> rfl
theorem run_count (s : ByteArray) (c : Int) (w : World) : (Extern.BytealgCount.count #[.string s, .int .u8 c]).run P w = .ok (.int .i64 (cntByte s c.toNat.toUInt8)) w := by
  have hdef : Extern.BytealgCount.count #[.string s, .int .u8 c] = pure (goInt (s.foldl (fun n x => if x == c.toNat.toUInt8 then n + 1 else n) ((0 : Nat) : Int))) := rfl
  rw [hdef, Sem.run_pure]
  rfl
theorem extVal_run {fn : Func} {g : FuncId} (hf : P.funcs[g]? = some fn) (hb : fn.body.isNone = true) (ho : fn.origin = "") (hn : (fn.name == "runtime.NumGoroutine") = false) {l : List Value} {args' : Array Value} {v : Value} (h : extVal fn.name l = some v) (hl : LRel M l args'.toList) :
    ∃ v', VRel M v v' ∧ (callFunc g args').run P w = .ok (.value v') w := by
  unfold extVal at h
  split at h
  · rename_i hname
    split at h
    rotate_left
    · cases h
    cases h
    obtain ⟨v', r, e, h1, h2⟩ := hl.cons_inv
    obtain rfl := h2.nil_inv
    obtain rfl : args' = #[v'] := by apply Array.ext'; simpa using e
    obtain ⟨q1, q2⟩ := find_noescape (eq_of_beq hname) ho
    exact ⟨v', h1, by rw [run_callFunc_extern hf hn hb q1 q2]; rfl⟩
  · split at h
    · rename_i hname
      split at h
      rotate_left
      · cases h
      rename_i s c
      cases h
      obtain ⟨v', r, e, h1, h2⟩ := hl.cons_inv
      obtain ⟨v2, r2, rfl, h3, h4⟩ := h2.cons_inv
      obtain rfl := h4.nil_inv
      obtain rfl := h1.eq_of_flat rfl
      obtain rfl := h3.eq_of_flat rfl
      obtain rfl : args' = #[.string s, .int .u8 c] := by apply Array.ext'; simpa using e
      obtain ⟨q1, q2⟩ := find_index (eq_of_beq hname) ho
      exact ⟨_, .atom rfl, by rw [run_callFunc_extern hf hn hb q1 q2, run_index]; rfl⟩
    · split at h
      · rename_i hname
        split at h
        rotate_left
        · cases h
        rename_i s c
        cases h
        obtain ⟨v', r, e, h1, h2⟩ := hl.cons_inv
        obtain ⟨v2, r2, rfl, h3, h4⟩ := h2.cons_inv
        obtain rfl := h4.nil_inv
        obtain rfl := h1.eq_of_flat rfl
        obtain rfl := h3.eq_of_flat rfl
        obtain rfl : args' = #[.string s, .int .u8 c] := by apply Array.ext'; simpa using e
        obtain ⟨q1, q2⟩ := find_count (eq_of_beq hname) ho
        exact ⟨_, .atom rfl, by rw [run_callFunc_extern hf hn hb q1 q2, run_count]; rfl⟩
      · split at h
        · rename_i hname
          split at h
          rotate_left
          · cases h
          rename_i x y c
          split at h
          rotate_left
          · cases h
          rename_i hc
          cases h
          obtain rfl := three_args rfl rfl rfl hl
          obtain ⟨q1, q2⟩ := find_add64 (eq_of_beq hname) ho
          refine ⟨_, vrel_of_flat _ _ rfl, ?_⟩
          rw [run_callFunc_extern hf hn hb q1 q2]
          simp only [addS, Sem.run_bind, run_three _ x y c (Nat.le_of_ble_eq_true hc) w, Result.andThen_ok, Sem.run_pure]
          rfl
        · split at h
          · rename_i hname
            split at h
            rotate_left
            · cases h
            rename_i x y c
            split at h
            rotate_left
            · cases h
            rename_i hc
            cases h
            obtain rfl := three_args rfl rfl rfl hl
            obtain ⟨q1, q2⟩ := find_sub64 (eq_of_beq hname) ho
            refine ⟨_, vrel_of_flat _ _ rfl, ?_⟩
            rw [run_callFunc_extern hf hn hb q1 q2]
            simp only [subS, Sem.run_bind, run_three _ x y c (Nat.le_of_ble_eq_true hc) w, Result.andThen_ok, Sem.run_pure]
            rw [Nat.add_comm x.toNat Extern.MathBitsCarry.m64]
            rfl
          · cases h
end
end Go.Dg
