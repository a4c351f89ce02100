/- The decimal text of the reference's numbers, as a law. -/
import Derived.Test.YtflgpkkbifkpoaaDoorRows
import Derived.Test.YtflgpkkbifkpoaaDoorNumF
namespace Go.Proofs.YtflgpkkbifkpoaaDoor.num
open Go.Dg (junk St Ex Ev Hint evCall evLoop bodied noOver Flats flatOver Heap AObj lay noO)
set_option linter.unusedVariables false

/-- The text of a number. -/
def decS (b : Bool) (m : Nat) : List Int := if b = true ∧ 0 < m then 45 :: decZ m else decZ m
def L3 : List FuncId := [11]
noncomputable def o3 : FuncId → List Value → Option Value := lay Tryd.prog (bodied Tryd.prog) ov2 sbs 1000 20 L3 o2
noncomputable abbrev ov3 : Ev := flatOver o3
theorem o3_flats : ∀ f args v, o3 f args = some v → Flats Tryd.prog f args v := Dg.lay_flats mixed okB (Dg.flatOver_ok o2_flats) (by kernel_rfl) o2_flats
theorem under3 {f : FuncId} {args : List Value} {v : Value} (h : o2 f args = some v) (hf : L3.contains f = false := by rfl) : o3 f args = some v := Dg.lay_under hf h
theorem decZ_le {m : Nat} (hm : m < B ^ 20) : (decZ m).length ≤ 100 := by rw [decZ_len]; exact nd_le hm
theorem num_told (b : Bool) {m : Nat} (hm : m < B ^ 20) : o3 11 [num b m] = some (.string (txt (decS b m))) := by
  have pos : o3 11 [num false m] = some (.string (txt (decZ m))) := by
    exact Dg.lay_told rfl (np20 m (decZ m) _ _ fun s0 h0 => numloop19 false m m hm h0) (flat1 _ _) rfl
  cases b with
  | false =>
    rw [pos]
    simp [decS]
  | true =>
    rcases Nat.eq_zero_or_pos m with h | h
    · rw [show decS true m = decZ m by simp [decS, h]]
      exact Dg.lay_told rfl (np0 m (decZ m) _ _ h fun s0 h0 => numloop19 true m m hm h0) (flat1 _ _) rfl
    · rw [show decS true m = 45 :: decZ m by simp [decS, h]]
      exact Dg.lay_told rfl (nneg m (decZ m) hm h (by have := decZ_le hm; omega) (np19 m (decZ m) _ _ fun s0 h0 => numloop18 false m m hm h0)) (flat1 _ _) rfl
end Go.Proofs.YtflgpkkbifkpoaaDoor.num
