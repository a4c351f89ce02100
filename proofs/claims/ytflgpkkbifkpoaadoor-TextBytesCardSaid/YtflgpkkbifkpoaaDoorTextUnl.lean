/- The loop of 'text.Unhex' of layer 4, as far as digits go. -/
import Derived.Test.YtflgpkkbifkpoaaDoorRows
import Derived.Test.YtflgpkkbifkpoaaDoorTextUnb
namespace Go.Proofs.YtflgpkkbifkpoaaDoor.text
open Go.Dg (junk St Ex Ev Hint evCall evCallS evCode evLoop cleanSt ue bodied noOver Heap AObj)
set_option linter.unusedVariables false
set_option linter.unusedSimpArgs false

def dv (z : Int) : Int := if z ≤ 57 then z - 48 else z - 97 + 10
def isHex (z : Int) : Prop := (48 ≤ z ∧ z ≤ 57) ∨ (97 ≤ z ∧ z ≤ 102)
theorem dv_d {z : Int} (h : 48 ≤ z ∧ z ≤ 57) : dv z = z - 48 := if_pos h.2
theorem dv_a {z : Int} (h : 97 ≤ z ∧ z ≤ 102) : dv z = z - 97 + 10 := if_neg (by omega)
theorem dv_rng {z : Int} (h : isHex z) : 0 ≤ dv z ∧ dv z < 16 := by
  rcases h with h | h
  · rw [dv_d h]; omega
  · rw [dv_a h]; omega
def outL (zs : List Int) : Nat → List Int
  | 0 => []
  | j + 1 => outL zs j ++ [16 * dv (zs.getD (2 * j) 0) + dv (zs.getD (2 * j + 1) 0)]
theorem outL_len (zs : List Int) : ∀ j, (outL zs j).length = j := by
  intro j
  induction j with
  | zero => rfl
  | succ j ih => simp [outL, ih]
def SU (zs : List Int) : Nat → St
  | 0 => Ua zs
  | 1 => Ub zs (dv (zs.getD 0 0)) (zs.getD 0 0)
  | i + 2 => Uc zs (i + 1) (dv (zs.getD (2 * ((i + 1) / 2)) 0)) (zs.getD (i + 1) 0) (dv (zs.getD (i + 1) 0)) (outL zs ((i + 2) / 2))
theorem roundU (zs : List Int) (hl : zs.length ≤ 2000) (i : Nat) (hi : i < zs.length) (hx : ∀ j, j ≤ i → isHex (zs.getD j 0)) : ∃ s', runU (SU zs i) = some (.normal, s') ∧ clU s' = SU zs (i + 1) := by
  match i, hi, hx with
  | 0, hi, hx =>
    show ∃ s', runU (Ua zs) = _ ∧ clU s' = Ub zs (dv (zs.getD 0 0)) (zs.getD 0 0)
    rcases hx 0 (Nat.le_refl _) with h | h
    · rw [dv_d h]; exact uad zs hi h
    · rw [dv_a h]; exact uaa zs hi h
  | 1, hi, hx =>
    have hh := dv_rng (hx 0 (by omega))
    show ∃ s', runU (Ub zs (dv (zs.getD 0 0)) (zs.getD 0 0)) = _ ∧ clU s' = Uc zs 1 (dv (zs.getD 0 0)) (zs.getD 1 0) (dv (zs.getD 1 0)) [16 * dv (zs.getD 0 0) + dv (zs.getD 1 0)]
    rcases hx 1 (Nat.le_refl _) with h | h
    · rw [dv_d h]; exact ubd zs _ _ hi hh h
    · rw [dv_a h]; exact uba zs _ _ hi hh h
  | i + 2, hi, hx =>
    rcases Nat.mod_two_eq_zero_or_one (i + 1 + 1) with hp | hp
    · have e1 : 2 * ((i + 1 + 1) / 2) = i + 1 + 1 := by omega
      have e2 : (i + 1 + 2) / 2 = (i + 2) / 2 := by omega
      show ∃ s', runU (Uc zs (i + 1) _ _ _ _) = _ ∧ clU s' = Uc zs (i + 1 + 1) (dv (zs.getD (2 * ((i + 1 + 1) / 2)) 0)) (zs.getD (i + 1 + 1) 0) (dv (zs.getD (i + 1 + 1) 0)) (outL zs ((i + 1 + 2) / 2))
      rw [e1, e2]
      rcases hx (i + 2) (Nat.le_refl _) with h | h
      · rw [dv_d h]; exact ucd zs (i + 1) _ _ _ _ hi hp hl h
      · rw [dv_a h]; exact uca zs (i + 1) _ _ _ _ hi hp hl h
    · have e0 : 2 * ((i + 1) / 2) = i + 1 := by omega
      have e1 : 2 * ((i + 1 + 1) / 2) = i + 1 := by omega
      have e2 : (i + 1 + 2) / 2 = (i + 2) / 2 + 1 := by omega
      have e3 : 2 * ((i + 2) / 2) = i + 1 := by omega
      have hh := dv_rng (hx (i + 1) (by omega))
      have ho : outL zs ((i + 1 + 2) / 2) = outL zs ((i + 2) / 2) ++ [16 * dv (zs.getD (i + 1) 0) + dv (zs.getD (i + 1 + 1) 0)] := by
        rw [e2]; simp only [outL, e3]
      show ∃ s', runU (Uc zs (i + 1) (dv (zs.getD (2 * ((i + 1) / 2)) 0)) _ _ _) = _ ∧ clU s' = Uc zs (i + 1 + 1) (dv (zs.getD (2 * ((i + 1 + 1) / 2)) 0)) (zs.getD (i + 1 + 1) 0) (dv (zs.getD (i + 1 + 1) 0)) (outL zs ((i + 1 + 2) / 2))
      rw [e0, e1, ho]
      rcases hx (i + 2) (Nat.le_refl _) with h | h
      · rw [dv_d h]; exact udd zs (i + 1) _ _ _ _ (by rw [outL_len]; omega) hi hp hl hh h
      · rw [dv_a h]; exact uda zs (i + 1) _ _ _ _ (by rw [outL_len]; omega) hi hp hl hh h
end Go.Proofs.YtflgpkkbifkpoaaDoor.text
