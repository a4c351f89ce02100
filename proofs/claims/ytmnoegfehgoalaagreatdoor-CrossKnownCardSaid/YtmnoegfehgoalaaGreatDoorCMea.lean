/- raw.Measure at the lines of the chapter's examples, as a table. -/
import Derived.Test.YtmnoegfehgoalaaGreatDoorRows
import Derived.Test.YtmnoegfehgoalaaGreatDoorCBase
import Derived.Test.YtmnoegfehgoalaaGreatDoorDgLay
namespace Go.Proofs.YtmnoegfehgoalaaGreatDoor.base
open Go.Dg (junk St Ex Ev Hint evCall evCallS evLoop bodied noOver Flats flatOver Heap AObj)
set_option linter.unusedVariables false

/-- Are two rows of numbers and truths the same? -/
def eqL : List Value → List Value → Bool
  | [], [] => true
  | .int k n :: r, .int k' n' :: r' => decide (k = k') && (decide (n = n') && eqL r r')
  | .bool b :: r, .bool b' :: r' => (b == b') && eqL r r'
  | _, _ => false
theorem eqL_sound : ∀ a b : List Value, eqL a b = true → a = b := by
  intro a
  induction a with
  | nil =>
    intro b h
    cases b with
    | nil => rfl
    | cons x r => simp [eqL] at h
  | cons x r ih =>
    intro b h
    cases b with
    | nil => cases x <;> simp [eqL] at h
    | cons y r' =>
      cases x <;> cases y <;> simp only [eqL, Bool.and_eq_true, decide_eq_true_eq, beq_iff_eq, Bool.false_eq_true] at h
      · obtain ⟨rfl, h2⟩ := h
        rw [ih r' h2]
      · obtain ⟨rfl, rfl, h2⟩ := h
        rw [ih r' h2]
def w0 (l : Nat) : List Value := [.int .i64 0, .int .u64 l]
def ends (b : Nat) : List Value := [.bool false, .int .u8 b] ++ List.replicate 15 (.int .u8 0)
/-- The line of the example, with its stamps. -/
def lT (a b c d : Nat) : List Value := w0 9487534670410153984 ++ ends 10 ++ ends 11 ++ [.int .u64 a, .int .u64 b, .int .u64 c, .int .u64 d, .bool true, .int .u8 0, .int .u8 0, .int .u8 0, .int .u8 0, .int .i8 0, .int .i8 0, .int .i64 0, .int .i64 0, .int .u8 0, .int .u8 0, .int .u8 0, .int .u8 0]
def lL : List Value := lT 9487534657525252096 9487534661820219392 9487534666115186688 9487534670410153984
def xL : List Value := lT 9487534657525252104 9487534661820219392 9487534666115186688 9487534670410153984
def zL : List Value := lT 9487534657525252096 9487534661820219392 9487534666115186688 9487534670410153977
noncomputable abbrev evM (l : List Value) : Option (Value × Heap × List Nat) := evCall Tryz.prog 0 (bodied Tryz.prog) noOver sbs 2000 20 26 [.agg ⟨l⟩] ⟨0, []⟩
def two (a b : Int) : Value := .tuple #[.int .i64 a, .int .i64 b]
theorem mL : (evM lL).map (·.1) = some (two 0 8589934592) := by kernel_rfl
theorem mX : (evM xL).map (·.1) = some (two (-4) 8589934584) := by kernel_rfl
theorem mZ : (evM zL).map (·.1) = some (two 3 8589934585) := by kernel_rfl
theorem flats_of {l : List Value} {v : Value} (hl : Dg.flatL l = true) (hv : Dg.flat v = true) (h : (evM l).map (·.1) = some v) : Flats Tryz.prog 26 [.agg ⟨l⟩] v :=
  Dg.closed_call mixed okB Dg.noOver_ok h (by simp [Dg.flatL, Dg.flat, Dg.flatA, hl]) hv
/-- raw.Measure of these lines. -/
def oM (f : FuncId) (args : List Value) : Option Value := match f, args with
  | 26, [.agg ⟨l⟩] => bif eqL l lL then some (two 0 8589934592) else bif eqL l xL then some (two (-4) 8589934584) else bif eqL l zL then some (two 3 8589934585) else none
  | _, _ => none
theorem oM_flats : ∀ f args v, oM f args = some v → Flats Tryz.prog f args v := by
  intro f args v h
  unfold oM at h
  split at h
  · rename_i l
    cases h1 : eqL l lL with
    | true => rw [h1, cond_true] at h; cases h; rw [eqL_sound _ _ h1]; exact flats_of rfl rfl mL
    | false =>
      rw [h1, cond_false] at h
      cases h2 : eqL l xL with
      | true => rw [h2, cond_true] at h; cases h; rw [eqL_sound _ _ h2]; exact flats_of rfl rfl mX
      | false =>
        rw [h2, cond_false] at h
        cases h3 : eqL l zL with
        | true => rw [h3, cond_true] at h; cases h; rw [eqL_sound _ _ h3]; exact flats_of rfl rfl mZ
        | false => rw [h3, cond_false] at h; cases h
  · cases h
def ovM : Ev := flatOver oM
theorem ovM_ok : Dg.CallOk Tryz.prog 10 ovM ∧ Dg.CallLog ovM := Dg.flatOver_ok oM_flats
end Go.Proofs.YtmnoegfehgoalaaGreatDoor.base
