/- Integers of a kind: wrapping in closed form. -/
import Derived.Test.YtmnoegfehgoalaaGreatDoorDgSymRun
namespace Go.Dg
theorem w_u64 (n : Int) : IntKind.u64.wrap n = n % 18446744073709551616 := by simp [IntKind.wrap, IntKind.bits, IntKind.signed]
theorem w_i64 (n : Int) : IntKind.i64.wrap n = (n + 9223372036854775808) % 18446744073709551616 - 9223372036854775808 := by simp [IntKind.wrap, IntKind.bits, IntKind.signed]; omega
theorem wf_u64 {n : Int} (h : (Lit.int .u64 n).wf = true) : 0 ≤ n ∧ n < 18446744073709551616 := by simp [Lit.wf, IntKind.min, IntKind.max, IntKind.bits, IntKind.signed] at h; omega
theorem wf_i64 {n : Int} (h : (Lit.int .i64 n).wf = true) : -9223372036854775808 ≤ n ∧ n < 9223372036854775808 := by simp [Lit.wf, IntKind.min, IntKind.max, IntKind.bits, IntKind.signed] at h; omega
theorem vtrue {p : Prop} [Decidable p] (h : p) : Value.bool (decide p) = .bool true := by rw [decide_eq_true h]
theorem vfalse {p : Prop} [Decidable p] (h : ¬ p) : Value.bool (decide p) = .bool false := by rw [decide_eq_false h]
-- Parts of a code.
def tailOf : Code → Code | .seq _ b => b | c => c
def headOf : Code → Code | .seq a _ => a | c => c
def bodyOf : Code → Code | .block _ b => b | .loop b => b | .scope b => b | .seq _ b => bodyOf b | c => c
/-- The first range over a function in a code; the first loop. -/
def findR : Code → Option (Code × Code)
  | .rangeFunc _ _ a b => some (a, b)
  | .seq a b => match findR a with | some r => some r | none => findR b
  | .cond _ a b => match findR a with | some r => some r | none => findR b
  | .block _ b => findR b
  | .loop b => findR b
  | .scope b => findR b
  | _ => none
def rAssign (c : Code) : Code := match findR c with | some r => r.1 | none => .skip
def rBody (c : Code) : Code := match findR c with | some r => r.2 | none => .skip
def findL : Code → Option Code
  | .loop b => some b
  | .seq a b => match findL a with | some r => some r | none => findL b
  | .cond _ a b => match findL a with | some r => some r | none => findL b
  | .block _ b => findL b
  | .scope b => findL b
  | _ => none
def lBody (c : Code) : Code := match findL c with | some r => r | none => .skip
/-- One round more. -/
theorem evLoop_step {body : St → Option (Ex × St)} {clean : St → St} {n : Nat} {s s1 s2 : St} (hc : clean s = s1) (hb : body s1 = some (.normal, s2)) : evLoop body clean (n + 1) s = evLoop body clean n s2 := by
  simp only [evLoop, hc, hb]
theorem evLoop_stop {body : St → Option (Ex × St)} {clean : St → St} {n : Nat} {s s1 s2 : St} {ex : Ex} (hc : clean s = s1) (hb : body s1 = some (ex, s2)) (hx : ex ≠ .normal) : evLoop body clean (n + 1) s = some (ex, s2) := by
  simp only [evLoop, hc, hb]
  cases ex with
  | normal => exact absurd rfl hx
  | exit _ => rfl
  | ret => rfl
/-- A piece of code by a run with hints. -/
theorem evCode_hint {P : Program} {G : Nat} {ok : List Bool} {over : Ev} {sb : List Nat} {lf n f base b0 : Nat} {c : Code} {kp : List Nat} {s s' : St} {ex : Ex} {hs hs' : List Hint} (ob : List Prop)
    (h : evCodeSK P G ok (evCall P G ok over sb lf n) (evCallS P G ok over sb lf n) f base b0 lf c kp s hs = some (ex, s', hs', ob)) (ho : AllP ob) : evCodeK P G ok (evCall P G ok over sb lf n) base b0 lf c kp s = some (ex, s') :=
  evCodeS_ok (evCallS_ok n) _ _ _ _ _ _ _ _ h ho
end Go.Dg
