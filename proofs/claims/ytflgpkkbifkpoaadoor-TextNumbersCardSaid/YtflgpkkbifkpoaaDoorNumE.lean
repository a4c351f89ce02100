/- What Of, Num64, Zero, Size of the reference's numbers come to, as an oracle. -/
import Derived.Test.YtflgpkkbifkpoaaDoorRows
import Derived.Test.YtflgpkkbifkpoaaDoorNumC
import Derived.Test.YtflgpkkbifkpoaaDoorDgLay
namespace Go.Proofs.YtflgpkkbifkpoaaDoor.num
open Go.Dg (junk St Ex Ev Hint evCall evLoop bodied noOver Flats flatOver Heap AObj lay noO)
set_option linter.unusedVariables false

theorem num_flat (b : Bool) (m : Nat) : Dg.flat (num b m) = true := by
  show Dg.flatL (kpN b (lim m)) = true
  exact kpN_flat _ _
theorem flat1 (b : Bool) (m : Nat) : Dg.flatL [num b m] = true := by simp only [Dg.flatL, num_flat, Bool.and_self]
theorem flat2 (b c : Bool) (m n : Nat) : Dg.flatL [num b m, num c n] = true := by simp only [Dg.flatL, num_flat, Bool.and_self]
/-- The functions of the first layer. -/
def L1 : List FuncId := [12, 14, 25, 30]
noncomputable def o1 : FuncId → List Value → Option Value := lay Tryd.prog (bodied Tryd.prog) noOver sbs 1000 20 L1 noO
noncomputable abbrev ov1 : Ev := flatOver o1
theorem okB : Dg.BodiesOk Tryd.prog (bodied Tryd.prog) := Dg.bodied_ok _
theorem o1_flats : ∀ f args v, o1 f args = some v → Flats Tryd.prog f args v := Dg.lay_flats mixed okB Dg.noOver_ok (by kernel_rfl) Dg.noO_flats
/-- -1, 0, 1. -/
def sgn (m n : Nat) : Int := if m < n then -1 else if n < m then 1 else 0

theorem of_told (n : Int) (h : -9223372036854775808 ≤ n ∧ n < 9223372036854775808) : o1 12 [.int .i64 n] = some (num (decide (n < 0)) n.natAbs) := by
  rcases Int.lt_or_le n 0 with h0 | h0
  · obtain ⟨m, rfl⟩ : ∃ m : Nat, n = -(m : Int) := ⟨n.natAbs, by omega⟩
    rw [decide_eq_true h0, Int.natAbs_neg, Int.natAbs_natCast, num_small (by omega)]
    exact Dg.lay_told rfl (of_neg0 m (by omega) (by omega)) rfl rfl
  · obtain ⟨m, rfl⟩ : ∃ m : Nat, n = (m : Int) := ⟨n.toNat, by omega⟩
    rw [decide_eq_false (by omega), Int.natAbs_natCast, num_small (by omega)]
    exact Dg.lay_told rfl (of_pos0 m (by omega)) rfl rfl
theorem n64_told (m : Nat) (h : m < 18446744073709551616) : o1 14 [.int .u64 (m : Int)] = some (num false m) := by
  rw [num_small h]
  have := n64_0 m h
  simp only [Nat.pow_zero, Nat.div_one] at this
  exact Dg.lay_told rfl this rfl rfl

theorem zero_no (b : Bool) {m : Nat} (hm : m < B ^ 20) (h : 0 < m) : o1 25 [num b m] = some (.bool false) := by
  obtain ⟨k, hk, h1, h2⟩ := first_limb hm h
  have e : ∀ j, j < k → lim m j = 0 := fun j hj => by simp [lim, h1 j hj]
  exact Dg.lay_told rfl (zcall_x b (lim m) _ (fun s0 h0 => Dg.loop_run (S := SZ b (lim m)) (n := k) (by simp) (fun j hj => zr b (lim m) j (by omega) (e j hj)) (zx b (lim m) k hk (by simp only [lim]; omega)) (by omega) h0)) (flat1 _ _) rfl
theorem zero_yes (b : Bool) {m : Nat} (h : m = 0) : o1 25 [num b m] = some (.bool true) := by
  subst h
  have e : ∀ j, lim 0 j = 0 := fun j => by simp [lim, limb_zero]
  exact Dg.lay_told rfl (zcall_e b (lim 0) _ (fun s0 h0 => Dg.loop_run (S := SZ b (lim 0)) (n := 20) (by simp) (fun j hj => zr b (lim 0) j (by omega) (e j)) (ze b (lim 0)) (by omega) h0)) (flat1 _ _) rfl

/-- The loop of Size, as far as pieces are alike. -/
theorem size_round (b c : Bool) (f g : Nat → Int) (k : Nat) (hk : k ≤ 20) (h : ∀ i, 20 - k ≤ i → i < 20 → f i = g i) : ∀ j, j < k → ∃ s', runS (SS b f c g ((19 : Int) - (j : Int))) = some (.normal, s') ∧ clS s' = SS b f c g ((19 : Int) - ((j + 1 : Nat) : Int)) := by
  intro j hj
  have := sr b f c g (19 - j) (by omega) ((19 : Int) - ((j + 1 : Nat) : Int)) (by omega) (h _ (by omega) (by omega))
  rw [show (19 : Int) - (j : Int) = ((19 - j : Nat) : Int) by omega]
  exact this
theorem size_told (b c : Bool) {m n : Nat} (hm : m < B ^ 20) (hn : n < B ^ 20) : o1 30 [num b m, num c n] = some (.int .i64 (sgn m n)) := by
  rcases parts hm hn with rfl | ⟨k, hk, h1, h2⟩
  · have e : sgn m m = 0 := by simp [sgn]
    rw [e]
    refine Dg.lay_told rfl (scall_e b (lim m) c (lim m) _ (fun s0 h0 => Dg.loop_run (S := fun j => SS b (lim m) c (lim m) ((19 : Int) - (j : Int))) (n := 20) (by simp) (size_round b c _ _ 20 (by omega) (fun _ _ _ => rfl)) (se b (lim m) c (lim m)) (by omega) h0)) (flat2 _ _ _ _) rfl
  · have e : ∀ i, 20 - (19 - k) ≤ i → i < 20 → lim m i = lim n i := fun i hi hi2 => by
      unfold lim
      rw [h1 i (by omega) hi2]
    have hz : (19 : Int) - ((19 - k : Nat) : Int) = ((k : Nat) : Int) := by omega
    rcases Nat.lt_or_ge (limb m k) (limb n k) with h3 | h3
    · have e2 : sgn m n = -1 := by simp [sgn, lt_limbs hm hn h1 h3]
      rw [e2]
      have hs := sl b (lim m) c (lim n) k hk (by simp only [lim]; omega)
      rw [← hz] at hs
      exact Dg.lay_told rfl (scall_l b (lim m) c (lim n) _ (fun s0 h0 => Dg.loop_run (S := fun j => SS b (lim m) c (lim n) ((19 : Int) - (j : Int))) (n := 19 - k) (by simp) (size_round b c _ _ (19 - k) (by omega) e) hs (by omega) h0)) (flat2 _ _ _ _) rfl
    · have h4 : limb n k < limb m k := by omega
      have h5 := lt_limbs hn hm (fun i hi hi2 => (h1 i hi hi2).symm) h4
      have e2 : sgn m n = 1 := by
        unfold sgn
        rw [if_neg (by omega), if_pos h5]
      rw [e2]
      have hs := sg b (lim m) c (lim n) k hk (by simp only [lim]; omega)
      rw [← hz] at hs
      exact Dg.lay_told rfl (scall_g b (lim m) c (lim n) _ (fun s0 h0 => Dg.loop_run (S := fun j => SS b (lim m) c (lim n) ((19 : Int) - (j : Int))) (n := 19 - k) (by simp) (size_round b c _ _ (19 - k) (by omega) e) hs (by omega) h0)) (flat2 _ _ _ _) rfl
end Go.Proofs.YtflgpkkbifkpoaaDoor.num
