/- Runs for the law 'HeadBack' of layer 20. -/
import Derived.Test.YthfhidbdjiehhaaRows
import Derived.Test.YthfhidbdjiehhaaHeadPatchRun
import Derived.WalkKit
import Derived.ProofKit
import Derived.OpenShut
namespace Go.Proofs.Ythfhidbdjiehhaa.headBack
open Go.ChangeShapes Go.WideShapes Go.ChangeAt Go.RowKit
open Go.Dg (junk St Ex Ev Hint evCall evCallS evCode evLoop cleanSt ue bodied noOver sbOf headOf tailOf bodyOf Flats flatOver Heap AObj)
open Go.Proofs.Ythfhidbdjiehhaa.headPut (sbs mixed works_is headL u8s str mays intsA open_head)
open Go.Proofs.Ythfhidbdjiehhaa.headTake
open Go.Proofs.Ythfhidbdjiehhaa.headPatches (iA mayOb own takeV E hB bO xO zP ev append_own)
set_option linter.unusedVariables false

def mayB (l : List Int) : Bool := decide (l.getD 0 0 ≤ 3) && (decide (l.getD 1 0 ≤ 7) && decide (l.getD 2 0 ≤ 7))
theorem may_is (l : List Int) : ev 19 10 [.agg (hd l).toArray] ⟨0, []⟩ = some (.bool (mayB l), ⟨0, []⟩, []) := by
  unfold mayB
  by_cases a0 : l.getD 0 0 ≤ 3
  · by_cases a1 : l.getD 1 0 ≤ 7
    · by_cases a2 : l.getD 2 0 ≤ 7
      · have := Dg.evCall_hint (P := Try.prog) (G := 0) (ok := bodied Try.prog) (over := flatOver known) (sb := sbs) (lf := 1000) (n := 19) (f := 10) (args := [.agg (hd l).toArray]) (H := ⟨0, []⟩) [.val 10 5 (.bool true), .val 10 9 (.bool true), .val 10 14 (.bool true)] (v := .bool true) (H' := ⟨0, []⟩) (log := []) (hs' := []) [Value.bool (decide (l.getD 0 0 ≤ 3)) = .bool true, Value.bool (decide (l.getD 1 0 ≤ 7)) = .bool true, Value.bool (decide (l.getD 2 0 ≤ 7)) = .bool true] (by kernel_rfl) ⟨Dg.vtrue a0, Dg.vtrue a1, Dg.vtrue a2, trivial⟩
        rw [decide_eq_true a0, decide_eq_true a1, decide_eq_true a2]; exact this
      · have := Dg.evCall_hint (P := Try.prog) (G := 0) (ok := bodied Try.prog) (over := flatOver known) (sb := sbs) (lf := 1000) (n := 19) (f := 10) (args := [.agg (hd l).toArray]) (H := ⟨0, []⟩) [.val 10 5 (.bool true), .val 10 9 (.bool true), .val 10 14 (.bool false)] (v := .bool false) (H' := ⟨0, []⟩) (log := []) (hs' := []) [Value.bool (decide (l.getD 0 0 ≤ 3)) = .bool true, Value.bool (decide (l.getD 1 0 ≤ 7)) = .bool true, Value.bool (decide (l.getD 2 0 ≤ 7)) = .bool false] (by kernel_rfl) ⟨Dg.vtrue a0, Dg.vtrue a1, Dg.vfalse a2, trivial⟩
        rw [decide_eq_true a0, decide_eq_true a1, decide_eq_false a2]; exact this
    · have := Dg.evCall_hint (P := Try.prog) (G := 0) (ok := bodied Try.prog) (over := flatOver known) (sb := sbs) (lf := 1000) (n := 19) (f := 10) (args := [.agg (hd l).toArray]) (H := ⟨0, []⟩) [.val 10 5 (.bool true), .val 10 9 (.bool false)] (v := .bool false) (H' := ⟨0, []⟩) (log := []) (hs' := []) [Value.bool (decide (l.getD 0 0 ≤ 3)) = .bool true, Value.bool (decide (l.getD 1 0 ≤ 7)) = .bool false] (by kernel_rfl) ⟨Dg.vtrue a0, Dg.vfalse a1, trivial⟩
      rw [decide_eq_true a0, decide_eq_false a1]; exact this
  · have := Dg.evCall_hint (P := Try.prog) (G := 0) (ok := bodied Try.prog) (over := flatOver known) (sb := sbs) (lf := 1000) (n := 19) (f := 10) (args := [.agg (hd l).toArray]) (H := ⟨0, []⟩) [.val 10 5 (.bool false)] (v := .bool false) (H' := ⟨0, []⟩) (log := []) (hs' := []) [Value.bool (decide (l.getD 0 0 ≤ 3)) = .bool false] (by kernel_rfl) ⟨Dg.vfalse a0, trivial⟩
    rw [decide_eq_false a0]; exact this

/-! ### 'Put' and 'Take' over heaps of so many objects. -/
def pV (k : Nat) : Value := .tuple #[.slice (some ⟨k, 0, some 0⟩) 48 48, .int .i64 0]
section
variable (l : List Int) (objs : List AObj)
theorem put2 : evCallS Try.prog 0 (bodied Try.prog) (flatOver known) sbs 1000 19 9 [.agg (hd l).toArray] ⟨2, objs⟩ (mays 18) = some (pV 2, ⟨3, xO l :: objs⟩, [], [], mayOb l) := by kernel_rfl
theorem put3 : evCallS Try.prog 0 (bodied Try.prog) (flatOver known) sbs 1000 19 9 [.agg (hd l).toArray] ⟨3, objs⟩ (mays 18) = some (pV 3, ⟨4, xO l :: objs⟩, [], [], mayOb l) := by kernel_rfl
theorem put4 : evCallS Try.prog 0 (bodied Try.prog) (flatOver known) sbs 1000 19 9 [.agg (hd l).toArray] ⟨4, objs⟩ (mays 18) = some (pV 4, ⟨5, xO l :: objs⟩, [], [], mayOb l) := by kernel_rfl
theorem put10 : evCallS Try.prog 0 (bodied Try.prog) (flatOver known) sbs 1000 19 9 [.agg (hd l).toArray] ⟨10, objs⟩ (mays 18) = some (pV 10, ⟨11, xO l :: objs⟩, [], [], mayOb l) := by kernel_rfl
variable (z : Nat → Int) (zr : List Int) (m : Nat) (e' : TypeId)
theorem take5 : evCallS Try.prog 0 (bodied Try.prog) (flatOver known) sbs 1000 19 15 [.slice (some ⟨5, 0, some 0⟩) 48 48] ⟨6, own z [] :: objs⟩ [] = some (takeV (la z), ⟨6, own z [] :: objs⟩, [], [], []) := by kernel_rfl
theorem take6 : evCallS Try.prog 0 (bodied Try.prog) (flatOver known) sbs 1000 19 15 [.slice (some ⟨6, 0, some 0⟩) 48 48] ⟨7, own z [] :: objs⟩ [] = some (takeV (la z), ⟨7, own z [] :: objs⟩, [], [], []) := by kernel_rfl
def takeOb7 (m : Nat) : List Prop := [Value.bool (decide (((m + 48 : Nat) : Int) < 48)) = .bool false, (0 : Int) ≤ 12, 12 ≤ m + 48 ∧ m + 48 ≤ m + 48 ∧ m + 48 ≤ m + 48,
      (some 0 : Option Nat).isSome = true → ¬ (12 = m + 48 ∧ 12 ≠ 0), Value.slice (some ⟨7, if m + 48 = 12 then 0 else 0 + 12 * 1, some 0⟩) (m + 48 - 12) (m + 48 - 12) = .slice (some ⟨7, 12, some 0⟩) (m + 36) (m + 36)]
theorem take7 : evCallS Try.prog 0 (bodied Try.prog) (flatOver known) sbs 1000 19 15 [.slice (some ⟨7, 0, some 0⟩) (m + 48) (m + 48)] ⟨8, own z zr :: objs⟩ [.val 15 9 (.bool false), .soft 15 50 (.slice (some ⟨7, 12, some 0⟩) (m + 36) (m + 36))] = some (takeV (la z), ⟨8, own z zr :: objs⟩, [], [], takeOb7 m) := by kernel_rfl
def takeObB (zr : List Int) (m : Nat) : List Prop := [Value.bool (decide (((m + 48 : Nat) : Int) < 48)) = .bool false, (0 : Int) ≤ 12, 12 ≤ m + 48 ∧ m + 48 ≤ zr.length + 48 ∧ zr.length + 48 ≤ zr.length + 48,
      (none : Option Nat).isSome = true → ¬ (12 = zr.length + 48 ∧ 12 ≠ 0), Value.slice (some ⟨0, if zr.length + 48 = 12 then 0 else 0 + 12 * 1, none⟩) (m + 48 - 12) (zr.length + 48 - 12) = .slice (some ⟨0, 12, none⟩) (m + 36) (zr.length + 36)]
variable (a1 a2 a3 a4 a5 a6 a7 a8 : AObj)
theorem takeB3 : evCallS Try.prog 0 (bodied Try.prog) (flatOver known) sbs 1000 19 15 [arg zr m] ⟨3, [a1, a2, bO z zr e']⟩ [.val 15 9 (.bool false), .soft 15 50 (.slice (some ⟨0, 12, none⟩) (m + 36) (zr.length + 36))]
    = some (takeV (la z), ⟨3, [a1, a2, bO z zr e']⟩, [], [], takeObB zr m) := by kernel_rfl
theorem takeB9 : evCallS Try.prog 0 (bodied Try.prog) (flatOver known) sbs 1000 19 15 [arg zr m] ⟨9, [a1, a2, a3, a4, a5, a6, a7, a8, bO z zr e']⟩ [.val 15 9 (.bool false), .soft 15 50 (.slice (some ⟨0, 12, none⟩) (m + 36) (zr.length + 36))]
    = some (takeV (la z), ⟨9, [a1, a2, a3, a4, a5, a6, a7, a8, bO z zr e']⟩, [], [], takeObB zr m) := by kernel_rfl
end
theorem takeOb7_is (m : Nat) : Dg.AllP (takeOb7 m) := ⟨Dg.vfalse (by omega), by omega, by omega, fun _ => by omega, by rw [if_neg (by omega)]; simp, trivial⟩
theorem takeObB_is (zr : List Int) (m : Nat) (h : m ≤ zr.length) : Dg.AllP (takeObB zr m) := ⟨Dg.vfalse (by omega), by omega, by omega, by simp, by rw [if_neg (by omega)]; simp, trivial⟩
end Go.Proofs.Ythfhidbdjiehhaa.headBack
