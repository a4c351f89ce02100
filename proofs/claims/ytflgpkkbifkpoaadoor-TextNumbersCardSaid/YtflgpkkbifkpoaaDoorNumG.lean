/- What comparisons, sums and products of the reference's numbers come to. -/
import Derived.Test.YtflgpkkbifkpoaaDoorRows
import Derived.Test.YtflgpkkbifkpoaaDoorNumD
namespace Go.Proofs.YtflgpkkbifkpoaaDoor.num
open Go.Dg (junk St Ex Ev Hint evCall evLoop bodied noOver Flats flatOver Heap AObj lay noO)
set_option linter.unusedVariables false

/-- The functions of the second layer. -/
def L2 : List FuncId := [17, 28, 29]
noncomputable def o2 : FuncId → List Value → Option Value := lay Tryd.prog (bodied Tryd.prog) ov1 sbs 1000 20 L2 o1
noncomputable abbrev ov2 : Ev := flatOver o2
theorem o2_flats : ∀ f args v, o2 f args = some v → Flats Tryd.prog f args v := Dg.lay_flats mixed okB (Dg.flatOver_ok o1_flats) (by kernel_rfl) o1_flats
theorem under2 {f : FuncId} {args : List Value} {v : Value} (h : o1 f args = some v) (hf : L2.contains f = false := by rfl) : o2 f args = some v := Dg.lay_under hf h

/-! ### Sums -/
theorem loopP (b c : Bool) {m n : Nat} (hm : m < B ^ 19) (hn : n < B ^ 19) (h : m + n < B ^ 19) {s0 : St} (h0 : clP s0 = SP b c m n 0) : evLoop runP clP 1000 s0 = some (.exit 0, RP b c m n (lim (m + n))) := by
  have e : evLoop runP clP 1000 s0 = some (.exit 0, RP b c m n (limN (adP m n 19))) := (Dg.loop_run (S := SP b c m n) (n := 19) (by simp) (fun j hj => pr b c m n j (pow19 hm) (pow19 hn) hj) (pe b c m n) (by omega) h0).trans (by kernel_rfl)
  rw [e]
  unfold RP
  rw [oN_congr (limN_congr (adP_end (pow19 hm) hn (pow19 h)))]
  rfl
theorem add_same (b : Bool) {m n : Nat} (hm : m < B ^ 19) (hn : n < B ^ 19) (h : m + n < B ^ 19) : o2 28 [num b m, num b n] = some (num b (m + n)) :=
  Dg.lay_told rfl (add_eq b m n (lim (m + n)) fun s0 h0 => loopP b b hm hn h h0) (flat2 _ _ _ _) (num_flat b (m + n))
theorem loopQ (b0 c0 : Bool) (m n : Nat) (b c : Bool) {M N : Nat} (h : N ≤ M) {s0 : St} (h0 : clQ s0 = SQ b0 c0 m n b c 0 (lim M) (lim N) 0) : evLoop runQ clQ 1000 s0 = some (.exit 2, RQ b0 c0 m n b c (bor M N 20) (lim (M - N)) (lim N)) := by
  have h1 : clQ s0 = SQ b0 c0 m n b c (bor M N 0) (limN (sbP M N 0)) (lim N) 0 := by
    rw [h0, bor_zero, sbP_start]
    rfl
  have e : evLoop runQ clQ 1000 s0 = some (.exit 2, RQ b0 c0 m n b c (bor M N 20) (limN (sbP M N 20)) (lim N)) :=
    (Dg.loop_run (S := fun i => SQ b0 c0 m n b c (bor M N i) (limN (sbP M N i)) (lim N) i) (n := 20) (by simp) (fun i hi => by
      have l1 : limb M i < 65536 := limb_lt M i
      have l2 : limb N i < 65536 := limb_lt N i
      have l3 := bor_le M N i
      have l4 := bor_succ M N i
      refine qr b0 c0 m n b c (limN (sbP M N i)) (lim N) (limN (sbP M N (i + 1))) i (limb M i) (limb N i) (bor M N (i + 1)) (limb M i + 65536 - limb N i) (bor M N i) (sbx M N i / 65536) (limb M i + 65536) (sbx M N i) (limb (M - N) i) hi (sb_at M N i) rfl l1 l2 l3 rfl (by omega) (by unfold sbx; omega) (sub_limb h i) rfl ?_ (sb_is M N i)
      have := sbx_lt M N i
      unfold sbx at this ⊢
      omega) (qe b0 c0 m n b c _ (lim N) _) (by omega) h1).trans (by kernel_rfl)
  rw [e]
  unfold RQ
  rw [oN_congr (limN_congr (sbP_end M N))]
  rfl
theorem add_ge (b : Bool) {m n : Nat} (hm : m < B ^ 20) (hn : n < B ^ 20) (h : n ≤ m) : o2 28 [num b m, num (!b) n] = some (num b (m - n)) := by
  cases b with
  | false => exact Dg.lay_told rfl (add_ge_f m n hm hn h (lim (m - n)) _ fun s0 h0 => loopQ false true m n false true h h0) (flat2 _ _ _ _) (num_flat _ (m - n))
  | true => exact Dg.lay_told rfl (add_ge_t m n hm hn h (lim (m - n)) _ fun s0 h0 => loopQ true false m n true false h h0) (flat2 _ _ _ _) (num_flat _ (m - n))
theorem add_lt (b : Bool) {m n : Nat} (hm : m < B ^ 20) (hn : n < B ^ 20) (h : m < n) : o2 28 [num b m, num (!b) n] = some (num (!b) (n - m)) := by
  cases b with
  | false => exact Dg.lay_told rfl (add_lt_f m n hm hn h (lim (n - m)) _ fun s0 h0 => loopQ false true m n true false (Nat.le_of_lt h) h0) (flat2 _ _ _ _) (num_flat _ (n - m))
  | true => exact Dg.lay_told rfl (add_lt_t m n hm hn h (lim (n - m)) _ fun s0 h0 => loopQ true false m n false true (Nat.le_of_lt h) h0) (flat2 _ _ _ _) (num_flat _ (n - m))

/-! ### Products -/
theorem loopM (s b c : Bool) {m n : Nat} (hm : m < B ^ 20) (h : m * n < B ^ 19) {s0 : St} (h0 : clM lM [] s0 = SM s b c (lim m) (lim n) (fun _ => 0) 0) : evLoop (runM lM []) (clM lM []) 1000 s0 = some (.exit 0, RM s b c (lim m) (lim n) (lim (m * n))) := by
  have e0 : limN (mulJ m n 0 0) = fun _ => 0 := by
    funext t
    simp [limN, mulJ_start, Nat.mod_one, limb_zero]
  have h1 : clM lM [] s0 = SM s b c (lim m) (lim n) (limN (mulJ m n 0 0)) 0 := by rw [h0, e0]
  have e : evLoop (runM lM []) (clM lM []) 1000 s0 = some (.exit 0, RM s b c (lim m) (lim n) (limN (mulJ m n 20 0))) :=
    (Dg.loop_run (S := fun i => SM s b c (lim m) (lim n) (limN (mulJ m n i 0)) i) (n := 20) (by simp) (fun i hi =>
      mr s b c (lim m) (lim n) (limN (mulJ m n i 0)) (limN (crP (mulF m n i) 0)) (limN (mulJ m n (i + 1) 0)) i hi (fun s0 h0 => loopJ s b c m n i hi h0) (fun s0 h0 => loopK s b c m n i hi h h0)) (me s b c (lim m) (lim n) _) (by omega) h1).trans (by kernel_rfl)
  rw [e]
  unfold RM HM
  have e2 : limN (mulJ m n 20 0) = lim (m * n) := by rw [mulJ_start, Nat.mod_eq_of_lt hm]; rfl
  rw [e2]
theorem mul_told (b c : Bool) {m n : Nat} (hm : m < B ^ 20) (h : m * n < B ^ 19) : o2 29 [num b m, num c n] = some (num (b != c) (m * n)) := by
  cases b <;> cases c
  · exact Dg.lay_told rfl (mul_ff m n (lim (m * n)) fun s0 h0 => loopM _ _ _ hm h h0) (flat2 _ _ _ _) (num_flat false (m * n))
  · exact Dg.lay_told rfl (mul_ft m n (lim (m * n)) fun s0 h0 => loopM _ _ _ hm h h0) (flat2 _ _ _ _) (num_flat true (m * n))
  · exact Dg.lay_told rfl (mul_tf m n (lim (m * n)) fun s0 h0 => loopM _ _ _ hm h h0) (flat2 _ _ _ _) (num_flat true (m * n))
  · exact Dg.lay_told rfl (mul_tt m n (lim (m * n)) fun s0 h0 => loopM _ _ _ hm h h0) (flat2 _ _ _ _) (num_flat false (m * n))

/-! ### Comparisons -/
/-- What a number stands for. -/
def sval (b : Bool) (m : Nat) : Int := if b then -(m : Int) else (m : Int)
def scmp (x y : Int) : Int := if x < y then -1 else if y < x then 1 else 0
theorem cmp_told (b c : Bool) {m n : Nat} (hm : m < B ^ 20) (hn : n < B ^ 20) : o2 17 [num b m, num c n] = some (.int .i64 (scmp (sval b m) (sval c n))) := by
  have one : ∀ {v : Int}, evCall Tryd.prog 0 (bodied Tryd.prog) ov1 sbs 1000 20 17 [num b m, num c n] ⟨0, []⟩ = some (.int .i64 v, ⟨0, []⟩, []) → v = scmp (sval b m) (sval c n) → o2 17 [num b m, num c n] = some (.int .i64 (scmp (sval b m) (sval c n))) := by
    intro v h e
    rw [← e]
    exact Dg.lay_told rfl h (flat2 _ _ _ _) rfl
  have sg : ∀ x y : Nat, sgn x y = scmp (x : Int) (y : Int) := fun x y => by
    unfold sgn scmp
    repeat' split
    all_goals omega
  cases b <;> cases c
  · exact one (cmp_pp m n hm hn) (by simp [sval, sg])
  · rcases Nat.eq_zero_or_pos n with h | h
    · exact one (cmp_p0 m n hm hn h) (by simp [sval, sg, h])
    · exact one (cmp_pm m n hm hn h) (by simp only [sval, scmp]; repeat' split <;> simp_all <;> omega)
  · rcases Nat.eq_zero_or_pos m with h | h
    · exact one (cmp_0p m n hm hn h) (by simp [sval, sg, h])
    · exact one (cmp_mp m n hm hn h) (by simp only [sval, scmp]; repeat' split <;> simp_all <;> omega)
  · rcases Nat.eq_zero_or_pos m with h | h <;> rcases Nat.eq_zero_or_pos n with k | k
    · exact one (cmp_00 m n hm hn h k) (by simp [sval, sg, h, k])
    · exact one (cmp_0m m n hm hn h k) (by simp only [sval, scmp]; repeat' split <;> simp_all <;> omega)
    · exact one (cmp_m0 m n hm hn h k) (by simp only [sval, scmp]; repeat' split <;> simp_all <;> omega)
    · exact one (cmp_mm m n hm hn h k) (by rw [sg]; simp only [sval, scmp]; repeat' split <;> simp_all <;> omega)
end Go.Proofs.YtflgpkkbifkpoaaDoor.num
