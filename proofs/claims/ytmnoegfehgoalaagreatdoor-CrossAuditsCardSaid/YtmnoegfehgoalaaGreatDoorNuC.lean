/- What comparisons, sums and products of the reference's numbers come to. The reference's numbers of wide numbers, and back. The reference's numbers of wide numbers, their ends, and back: what they come to. The reference's numbers: sums of any two, wide numbers of any. The reference's numbers: the other side, moments, clips. The references' differences, sizes of differences, delays. -/
import Derived.Test.YtmnoegfehgoalaaGreatDoorRows
import Derived.Test.YtmnoegfehgoalaaGreatDoorNuB
import Derived.Test.YtmnoegfehgoalaaGreatDoorDgLay
namespace Go.Proofs.YtmnoegfehgoalaaGreatDoor.num
open Go.Dg (junk St Ex Ev Hint evCall evLoop bodied noOver Flats flatOver Heap AObj lay noO)
set_option linter.unusedVariables false
/-- The functions of the second layer. -/
def L2 : List FuncId := [83, 54, 103]
noncomputable def o2 : FuncId → List Value → Option Value := lay Tryz.prog (bodied Tryz.prog) ov1 sbs 1000 20 L2 o1
noncomputable abbrev ov2 : Ev := flatOver o2
theorem o2_flats : ∀ f args v, o2 f args = some v → Flats Tryz.prog f args v := Dg.lay_flats mixed okB (Dg.flatOver_ok o1_flats) (by kernel_rfl) o1_flats
theorem under2 {f : FuncId} {args : List Value} {v : Value} (h : o1 f args = some v) (hf : L2.contains f = false := by rfl) : o2 f args = some v := Dg.lay_under hf h
/-! ### Sums -/
theorem loopP (b c : Bool) {m n : Nat} (hm : m < B ^ 19) (hn : n < B ^ 19) (h : m + n < B ^ 19) {s0 : St} (h0 : clP s0 = SP b c m n 0) : evLoop runP clP 1000 s0 = some (.exit 0, RP b c m n (lim (m + n))) := by
  have e : evLoop runP clP 1000 s0 = some (.exit 0, RP b c m n (limN (adP m n 19))) := (Dg.loop_run (S := SP b c m n) (n := 19) (by simp) (fun j hj => pr b c m n j (pow19 hm) (pow19 hn) hj) (pe b c m n) (by omega) h0).trans (by kernel_rfl)
  rw [e]
  unfold RP
  rw [oN_congr (limN_congr (adP_end (pow19 hm) hn (pow19 h)))]
  rfl
theorem add_same (b : Bool) {m n : Nat} (hm : m < B ^ 19) (hn : n < B ^ 19) (h : m + n < B ^ 19) : o2 54 [num b m, num b n] = some (num b (m + n)) :=
  Dg.lay_told rfl (add_eq b m n (lim (m + n)) fun s0 h0 => loopP b b hm hn h h0) (flat2 _ _ _ _) (num_flat b (m + n))
theorem loopQ (b0 c0 : Bool) (m n : Nat) (b c : Bool) {M N : Nat} (h : N ≤ M) {s0 : St} (h0 : clQ s0 = SQ b0 c0 m n b c 0 (lim M) (lim N) 0) : evLoop runQ clQ 1000 s0 = some (.exit 2, RQ b0 c0 m n b c (bor M N 20) (lim (M - N)) (lim N)) := by
  have h1 : clQ s0 = SQ b0 c0 m n b c (bor M N 0) (limN (sbP M N 0)) (lim N) 0 := by
    rw [h0, bor_zero, sbP_start]
    rfl
  have e : evLoop runQ clQ 1000 s0 = some (.exit 2, RQ b0 c0 m n b c (bor M N 20) (limN (sbP M N 20)) (lim N)) :=
    (Dg.loop_run (S := fun i => SQ b0 c0 m n b c (bor M N i) (limN (sbP M N i)) (lim N) i) (n := 20) (by simp) (fun i hi => by
      have l1 : limb M i < 65536 := limb_lt M i
      have l2 : limb N i < 65536 := limb_lt N i
      have l3 := bor_le M N i
      have l4 := bor_succ M N i
      refine qr b0 c0 m n b c (limN (sbP M N i)) (lim N) (limN (sbP M N (i + 1))) i (limb M i) (limb N i) (bor M N (i + 1)) (limb M i + 65536 - limb N i) (bor M N i) (sbx M N i / 65536) (limb M i + 65536) (sbx M N i) (limb (M - N) i) hi (sb_at M N i) rfl l1 l2 l3 rfl (by omega) (by unfold sbx; omega) (sub_limb h i) rfl ?_ (sb_is M N i)
      have := sbx_lt M N i
      unfold sbx at this ⊢
      omega) (qe b0 c0 m n b c _ (lim N) _) (by omega) h1).trans (by kernel_rfl)
  rw [e]
  unfold RQ
  rw [oN_congr (limN_congr (sbP_end M N))]
  rfl
theorem add_ge (b : Bool) {m n : Nat} (hm : m < B ^ 20) (hn : n < B ^ 20) (h : n ≤ m) : o2 54 [num b m, num (!b) n] = some (num b (m - n)) := by
  cases b with
  | false => exact Dg.lay_told rfl (add_ge_f m n hm hn h (lim (m - n)) _ fun s0 h0 => loopQ false true m n false true h h0) (flat2 _ _ _ _) (num_flat _ (m - n))
  | true => exact Dg.lay_told rfl (add_ge_t m n hm hn h (lim (m - n)) _ fun s0 h0 => loopQ true false m n true false h h0) (flat2 _ _ _ _) (num_flat _ (m - n))
theorem add_lt (b : Bool) {m n : Nat} (hm : m < B ^ 20) (hn : n < B ^ 20) (h : m < n) : o2 54 [num b m, num (!b) n] = some (num (!b) (n - m)) := by
  cases b with
  | false => exact Dg.lay_told rfl (add_lt_f m n hm hn h (lim (n - m)) _ fun s0 h0 => loopQ false true m n true false (Nat.le_of_lt h) h0) (flat2 _ _ _ _) (num_flat _ (n - m))
  | true => exact Dg.lay_told rfl (add_lt_t m n hm hn h (lim (n - m)) _ fun s0 h0 => loopQ true false m n false true (Nat.le_of_lt h) h0) (flat2 _ _ _ _) (num_flat _ (n - m))
/-! ### Products -/
theorem loopM (s b c : Bool) {m n : Nat} (hm : m < B ^ 20) (h : m * n < B ^ 19) {s0 : St} (h0 : clM lM [] s0 = SM s b c (lim m) (lim n) (fun _ => 0) 0) : evLoop (runM lM []) (clM lM []) 1000 s0 = some (.exit 0, RM s b c (lim m) (lim n) (lim (m * n))) := by
  have e0 : limN (mulJ m n 0 0) = fun _ => 0 := by
    funext t
    simp [limN, mulJ_start, Nat.mod_one, limb_zero]
  have h1 : clM lM [] s0 = SM s b c (lim m) (lim n) (limN (mulJ m n 0 0)) 0 := by rw [h0, e0]
  have e : evLoop (runM lM []) (clM lM []) 1000 s0 = some (.exit 0, RM s b c (lim m) (lim n) (limN (mulJ m n 20 0))) :=
    (Dg.loop_run (S := fun i => SM s b c (lim m) (lim n) (limN (mulJ m n i 0)) i) (n := 20) (by simp) (fun i hi =>
      mr s b c (lim m) (lim n) (limN (mulJ m n i 0)) (limN (crP (mulF m n i) 0)) (limN (mulJ m n (i + 1) 0)) i hi (fun s0 h0 => loopJ s b c m n i hi h0) (fun s0 h0 => loopK s b c m n i hi h h0)) (me s b c (lim m) (lim n) _) (by omega) h1).trans (by kernel_rfl)
  rw [e]
  unfold RM HM
  have e2 : limN (mulJ m n 20 0) = lim (m * n) := by rw [mulJ_start, Nat.mod_eq_of_lt hm]; rfl
  rw [e2]
theorem mul_told (b c : Bool) {m n : Nat} (hm : m < B ^ 20) (h : m * n < B ^ 19) : o2 103 [num b m, num c n] = some (num (b != c) (m * n)) := by
  cases b <;> cases c
  · exact Dg.lay_told rfl (mul_ff m n (lim (m * n)) fun s0 h0 => loopM _ _ _ hm h h0) (flat2 _ _ _ _) (num_flat false (m * n))
  · exact Dg.lay_told rfl (mul_ft m n (lim (m * n)) fun s0 h0 => loopM _ _ _ hm h h0) (flat2 _ _ _ _) (num_flat true (m * n))
  · exact Dg.lay_told rfl (mul_tf m n (lim (m * n)) fun s0 h0 => loopM _ _ _ hm h h0) (flat2 _ _ _ _) (num_flat true (m * n))
  · exact Dg.lay_told rfl (mul_tt m n (lim (m * n)) fun s0 h0 => loopM _ _ _ hm h h0) (flat2 _ _ _ _) (num_flat false (m * n))
/-! ### Comparisons -/
/-- What a number stands for. -/
def sval (b : Bool) (m : Nat) : Int := if b then -(m : Int) else (m : Int)
def scmp (x y : Int) : Int := if x < y then -1 else if y < x then 1 else 0
theorem cmp_told (b c : Bool) {m n : Nat} (hm : m < B ^ 20) (hn : n < B ^ 20) : o2 83 [num b m, num c n] = some (.int .i64 (scmp (sval b m) (sval c n))) := by
  have one : ∀ {v : Int}, evCall Tryz.prog 0 (bodied Tryz.prog) ov1 sbs 1000 20 83 [num b m, num c n] ⟨0, []⟩ = some (.int .i64 v, ⟨0, []⟩, []) → v = scmp (sval b m) (sval c n) → o2 83 [num b m, num c n] = some (.int .i64 (scmp (sval b m) (sval c n))) := by
    intro v h e
    rw [← e]
    exact Dg.lay_told rfl h (flat2 _ _ _ _) rfl
  have sg : ∀ x y : Nat, sgn x y = scmp (x : Int) (y : Int) := fun x y => by
    unfold sgn scmp
    repeat' split
    all_goals omega
  cases b <;> cases c
  · exact one (cmp_pp m n hm hn) (by simp [sval, sg])
  · rcases Nat.eq_zero_or_pos n with h | h
    · exact one (cmp_p0 m n hm hn h) (by simp [sval, sg, h])
    · exact one (cmp_pm m n hm hn h) (by simp only [sval, scmp]; repeat' split <;> simp_all <;> omega)
  · rcases Nat.eq_zero_or_pos m with h | h
    · exact one (cmp_0p m n hm hn h) (by simp [sval, sg, h])
    · exact one (cmp_mp m n hm hn h) (by simp only [sval, scmp]; repeat' split <;> simp_all <;> omega)
  · rcases Nat.eq_zero_or_pos m with h | h <;> rcases Nat.eq_zero_or_pos n with k | k
    · exact one (cmp_00 m n hm hn h k) (by simp [sval, sg, h, k])
    · exact one (cmp_0m m n hm hn h k) (by simp only [sval, scmp]; repeat' split <;> simp_all <;> omega)
    · exact one (cmp_m0 m n hm hn h k) (by simp only [sval, scmp]; repeat' split <;> simp_all <;> omega)
    · exact one (cmp_mm m n hm hn h k) (by rw [sg]; simp only [sval, scmp]; repeat' split <;> simp_all <;> omega)
end Go.Proofs.YtmnoegfehgoalaaGreatDoor.num
namespace Go.Proofs.YtmnoegfehgoalaaGreatDoor.num
open Go.Dg (junk St Ex Ev Hint evCall evCallS evCode evCodeK innerKp evCodeS evLoop cleanSt ue bodied noOver sbOf headOf tailOf bodyOf rAssign rBody lBody Flats flatOver Heap AObj SCall Law ofLaw Fix lay noO)
set_option linter.unusedVariables false
set_option linter.unusedSimpArgs false
def I64 (a : Int) : Prop := -9223372036854775808 ≤ a ∧ a < 9223372036854775808
abbrev wd (h l : Int) : Value := .agg #[.int .i64 h, .int .u64 l]
def wv (v : Int) : Value := wd (v / 18446744073709551616) (v % 18446744073709551616)
def InW (v : Int) : Prop := -170141183460469231731687303715884105728 ≤ v ∧ v < 170141183460469231731687303715884105728
theorem wv_eq {v h l : Int} (hv : v = h * 18446744073709551616 + l) (hl : 0 ≤ l ∧ l < 18446744073709551616) : wv v = wd h l := by
  unfold wv
  rw [show v / 18446744073709551616 = h by omega, show v % 18446744073709551616 = l by omega]
theorem wv_parts {v : Int} (h : InW v) : ∃ h l : Int, wv v = wd h l ∧ v = h * 18446744073709551616 + l ∧ (0 ≤ l ∧ l < 18446744073709551616) ∧ I64 h := by
  refine ⟨v / 18446744073709551616, v % 18446744073709551616, rfl, ?_, ?_, ?_⟩
  · omega
  · omega
  · unfold I64
    unfold InW at h
    omega
theorem scmp_lo {x y : Int} : 0 ≤ scmp x y ↔ y ≤ x := by
  unfold scmp
  split
  · omega
  · split <;> omega
theorem scmp_hi {x y : Int} : scmp x y ≤ 0 ↔ x ≤ y := by
  unfold scmp
  split
  · omega
  · split <;> omega
theorem sval_int (n : Int) : sval (decide (n < 0)) n.natAbs = n := by
  unfold sval
  by_cases h : n < 0
  · rw [decide_eq_true h, if_pos rfl]; omega
  · rw [decide_eq_false h, if_neg (by decide)]; omega
theorem wu {x v : Int} (h : x % 18446744073709551616 = v) : Value.int .u64 (IntKind.wrap .u64 x) = .int .u64 v := by rw [Dg.w_u64, h]
theorem wi {x v : Int} (h : (x + 9223372036854775808) % 18446744073709551616 - 9223372036854775808 = v) : Value.int .i64 (IntKind.wrap .i64 x) = .int .i64 v := by rw [Dg.w_i64, h]
/-- 2^64; the ends of wide numbers. -/
def topV : Value := .agg #[.bool false, .int .u64 0, .int .u64 0, .int .u64 0, .int .u64 0, .int .u64 1, .int .u64 0, .int .u64 0, .int .u64 0, .int .u64 0, .int .u64 0, .int .u64 0, .int .u64 0, .int .u64 0, .int .u64 0, .int .u64 0, .int .u64 0, .int .u64 0, .int .u64 0, .int .u64 0, .int .u64 0]
def mostV : Value := .agg #[.bool false, .int .u64 65535, .int .u64 65535, .int .u64 65535, .int .u64 65535, .int .u64 65535, .int .u64 65535, .int .u64 65535, .int .u64 32767, .int .u64 0, .int .u64 0, .int .u64 0, .int .u64 0, .int .u64 0, .int .u64 0, .int .u64 0, .int .u64 0, .int .u64 0, .int .u64 0, .int .u64 0, .int .u64 0]
def leastV : Value := .agg #[.bool true, .int .u64 0, .int .u64 0, .int .u64 0, .int .u64 0, .int .u64 0, .int .u64 0, .int .u64 0, .int .u64 32768, .int .u64 0, .int .u64 0, .int .u64 0, .int .u64 0, .int .u64 0, .int .u64 0, .int .u64 0, .int .u64 0, .int .u64 0, .int .u64 0, .int .u64 0, .int .u64 0]
theorem topV_is : topV = num false 18446744073709551616 := by kernel_rfl
theorem mostV_is : mostV = num false 170141183460469231731687303715884105727 := by kernel_rfl
theorem leastV_is : leastV = num true 170141183460469231731687303715884105728 := by kernel_rfl
--< from_r
theorem from_r (h : Int) (l : Int) (b : Bool) (c : Bool) (m : Nat) (m2 : Nat) (x : Nat) (k : Nat) (h1 : o2 55 [Value.int IntKind.i64 h] = some (num b m)) (h2 : o2 103 [num b m, topV] = some (num b m2)) (h3 : o2 104 [Value.int IntKind.u64 l] = some (num false x)) (h4 : o2 54 [num b m2, num false x] = some (num c k)) :
    evCall Tryz.prog 0 (bodied Tryz.prog) ov2 sbs 1000 20 77 [wd h l] { n := 0, objs := [] } = some (Value.agg #[Value.bool c, Value.int IntKind.u64 (lim k 0), Value.int IntKind.u64 (lim k 1), Value.int IntKind.u64 (lim k 2), Value.int IntKind.u64 (lim k 3), Value.int IntKind.u64 (lim k 4), Value.int IntKind.u64 (lim k 5), Value.int IntKind.u64 (lim k 6), Value.int IntKind.u64 (lim k 7), Value.int IntKind.u64 (lim k 8), Value.int IntKind.u64 (lim k 9), Value.int IntKind.u64 (lim k 10), Value.int IntKind.u64 (lim k 11), Value.int IntKind.u64 (lim k 12), Value.int IntKind.u64 (lim k 13), Value.int IntKind.u64 (lim k 14), Value.int IntKind.u64 (lim k 15), Value.int IntKind.u64 (lim k 16), Value.int IntKind.u64 (lim k 17), Value.int IntKind.u64 (lim k 18), Value.int IntKind.u64 (lim k 19)], { n := 0, objs := [] }, []) :=
  Dg.evCall_hint (hs' := []) (hs := [Hint.call 55 (Value.agg { toList := kpN b (lim m) }) { n := 0, objs := [] } [],
    Hint.call 103 (Value.agg { toList := kpN b (lim m2) }) { n := 0, objs := [] } [],
    Hint.call 104 (Value.agg { toList := kpN false (lim x) }) { n := 0, objs := [] } [],
    Hint.call 54 (Value.agg { toList := kpN c (lim k) }) { n := 0, objs := [] } []])
    [evCall Tryz.prog 0 (bodied Tryz.prog) ov2 sbs 1000 19 55 [Value.int IntKind.i64 h] { n := 0, objs := [] } = some (Value.agg { toList := kpN b (lim m) }, { n := 0, objs := [] }, []),
    evCall Tryz.prog 0 (bodied Tryz.prog) ov2 sbs 1000 19 103 [Value.agg { toList := kpN b (lim m) }, Value.agg #[Value.bool false, Value.int IntKind.u64 0, Value.int IntKind.u64 0, Value.int IntKind.u64 0, Value.int IntKind.u64 0, Value.int IntKind.u64 1, Value.int IntKind.u64 0, Value.int IntKind.u64 0, Value.int IntKind.u64 0, Value.int IntKind.u64 0, Value.int IntKind.u64 0, Value.int IntKind.u64 0, Value.int IntKind.u64 0, Value.int IntKind.u64 0, Value.int IntKind.u64 0, Value.int IntKind.u64 0, Value.int IntKind.u64 0, Value.int IntKind.u64 0, Value.int IntKind.u64 0, Value.int IntKind.u64 0, Value.int IntKind.u64 0]] { n := 0, objs := [] } = some (Value.agg { toList := kpN b (lim m2) }, { n := 0, objs := [] }, []),
    evCall Tryz.prog 0 (bodied Tryz.prog) ov2 sbs 1000 19 104 [Value.int IntKind.u64 l] { n := 0, objs := [] } = some (Value.agg { toList := kpN false (lim x) }, { n := 0, objs := [] }, []),
    evCall Tryz.prog 0 (bodied Tryz.prog) ov2 sbs 1000 19 54 [Value.agg { toList := kpN b (lim m2) }, Value.agg { toList := kpN false (lim x) }] { n := 0, objs := [] } = some (Value.agg { toList := kpN c (lim k) }, { n := 0, objs := [] }, [])] (by kernel_rfl)
    ⟨Dg.evCall_told h1, Dg.evCall_told h2, Dg.evCall_told h3, Dg.evCall_told h4, trivial⟩
--> from_r
--< wide_f
theorem wide_f (m : Nat) (q1 : Int) (q2 : Int) (h1 : o2 83 [num false m, mostV] = some (Value.int IntKind.i64 q1)) (hq1 : q1 ≤ 0) (h2c : o2 83 [num false m, leastV] = some (Value.int IntKind.i64 q2)) (hq2 : 0 ≤ q2) (r0 : 0 ≤ lim m 0 ∧ lim m 0 < 65536) (r1 : 0 ≤ lim m 1 ∧ lim m 1 < 65536) (r2 : 0 ≤ lim m 2 ∧ lim m 2 < 65536) (r3 : 0 ≤ lim m 3 ∧ lim m 3 < 65536) (r4 : 0 ≤ lim m 4 ∧ lim m 4 < 65536) (r5 : 0 ≤ lim m 5 ∧ lim m 5 < 65536) (r6 : 0 ≤ lim m 6 ∧ lim m 6 < 65536) (r7 : 0 ≤ lim m 7 ∧ lim m 7 < 65536) (a1 : Int) (h2 : Int) (a2 : Int) (h3 : Int) (a3 : Int) (h4 : Int) (c1 : Int) (l2 : Int) (c2 : Int) (l3 : Int) (c3 : Int) (l4 : Int) (e1 : 65536 * lim m 7 = a1) (e2 : a1 + lim m 6 = h2) (e3 : 65536 * h2 = a2) (e4 : a2 + lim m 5 = h3) (e5 : 65536 * h3 = a3) (e6 : a3 + lim m 4 = h4) (f1 : 65536 * lim m 3 = c1) (f2 : c1 + lim m 2 = l2) (f3 : 65536 * l2 = c2) (f4 : c2 + lim m 1 = l3) (f5 : 65536 * l3 = c3) (f6 : c3 + lim m 0 = l4) (x : Int) (ex : (h4 + 9223372036854775808) % 18446744073709551616 - 9223372036854775808 = x) :
    evCall Tryz.prog 0 (bodied Tryz.prog) ov2 sbs 1000 20 58 [num false m] { n := 0, objs := [] } = some (Value.agg #[Value.int IntKind.i64 x, Value.int IntKind.u64 l4], { n := 0, objs := [] }, []) :=
  Dg.evCall_hint (hs' := []) (hs := [Hint.call 83 (Value.int IntKind.i64 q1) { n := 0, objs := [] } [],
    Hint.val 58 25 (Value.bool false),
    Hint.call 83 (Value.int IntKind.i64 q2) { n := 0, objs := [] } [],
    Hint.val 58 30 (Value.bool false),
    Hint.val 58 37 (Value.int IntKind.u64 0),
    Hint.val 58 42 (Value.int IntKind.u64 (lim m 7)),
    Hint.val 58 43 (Value.int IntKind.u64 (lim m 7)),
    Hint.val 58 45 (Value.int IntKind.u64 0),
    Hint.val 58 49 (Value.int IntKind.u64 (lim m 3)),
    Hint.val 58 50 (Value.int IntKind.u64 (lim m 3)),
    Hint.val 58 37 (Value.int IntKind.u64 a1),
    Hint.val 58 42 (Value.int IntKind.u64 (lim m 6)),
    Hint.val 58 43 (Value.int IntKind.u64 h2),
    Hint.val 58 45 (Value.int IntKind.u64 c1),
    Hint.val 58 49 (Value.int IntKind.u64 (lim m 2)),
    Hint.val 58 50 (Value.int IntKind.u64 l2),
    Hint.val 58 37 (Value.int IntKind.u64 a2),
    Hint.val 58 42 (Value.int IntKind.u64 (lim m 5)),
    Hint.val 58 43 (Value.int IntKind.u64 h3),
    Hint.val 58 45 (Value.int IntKind.u64 c2),
    Hint.val 58 49 (Value.int IntKind.u64 (lim m 1)),
    Hint.val 58 50 (Value.int IntKind.u64 l3),
    Hint.val 58 37 (Value.int IntKind.u64 a3),
    Hint.val 58 42 (Value.int IntKind.u64 (lim m 4)),
    Hint.val 58 43 (Value.int IntKind.u64 h4),
    Hint.val 58 45 (Value.int IntKind.u64 c3),
    Hint.val 58 49 (Value.int IntKind.u64 (lim m 0)),
    Hint.val 58 50 (Value.int IntKind.u64 l4),
    Hint.val 58 62 (Value.int IntKind.i64 x)])
    [evCall Tryz.prog 0 (bodied Tryz.prog) ov2 sbs 1000 19 83 [Value.agg #[Value.bool false, Value.int IntKind.u64 (lim m 0), Value.int IntKind.u64 (lim m 1), Value.int IntKind.u64 (lim m 2), Value.int IntKind.u64 (lim m 3), Value.int IntKind.u64 (lim m 4), Value.int IntKind.u64 (lim m 5), Value.int IntKind.u64 (lim m 6), Value.int IntKind.u64 (lim m 7), Value.int IntKind.u64 (lim m 8), Value.int IntKind.u64 (lim m 9), Value.int IntKind.u64 (lim m 10), Value.int IntKind.u64 (lim m 11), Value.int IntKind.u64 (lim m 12), Value.int IntKind.u64 (lim m 13), Value.int IntKind.u64 (lim m 14), Value.int IntKind.u64 (lim m 15), Value.int IntKind.u64 (lim m 16), Value.int IntKind.u64 (lim m 17), Value.int IntKind.u64 (lim m 18), Value.int IntKind.u64 (lim m 19)], Value.agg #[Value.bool false, Value.int IntKind.u64 65535, Value.int IntKind.u64 65535, Value.int IntKind.u64 65535, Value.int IntKind.u64 65535, Value.int IntKind.u64 65535, Value.int IntKind.u64 65535, Value.int IntKind.u64 65535, Value.int IntKind.u64 32767, Value.int IntKind.u64 0, Value.int IntKind.u64 0, Value.int IntKind.u64 0, Value.int IntKind.u64 0, Value.int IntKind.u64 0, Value.int IntKind.u64 0, Value.int IntKind.u64 0, Value.int IntKind.u64 0, Value.int IntKind.u64 0, Value.int IntKind.u64 0, Value.int IntKind.u64 0, Value.int IntKind.u64 0]] { n := 0, objs := [] } = some (Value.int IntKind.i64 q1, { n := 0, objs := [] }, []),
    Value.bool (decide (q1 > (0 : Int))) = Value.bool false,
    evCall Tryz.prog 0 (bodied Tryz.prog) ov2 sbs 1000 19 83 [Value.agg #[Value.bool false, Value.int IntKind.u64 (lim m 0), Value.int IntKind.u64 (lim m 1), Value.int IntKind.u64 (lim m 2), Value.int IntKind.u64 (lim m 3), Value.int IntKind.u64 (lim m 4), Value.int IntKind.u64 (lim m 5), Value.int IntKind.u64 (lim m 6), Value.int IntKind.u64 (lim m 7), Value.int IntKind.u64 (lim m 8), Value.int IntKind.u64 (lim m 9), Value.int IntKind.u64 (lim m 10), Value.int IntKind.u64 (lim m 11), Value.int IntKind.u64 (lim m 12), Value.int IntKind.u64 (lim m 13), Value.int IntKind.u64 (lim m 14), Value.int IntKind.u64 (lim m 15), Value.int IntKind.u64 (lim m 16), Value.int IntKind.u64 (lim m 17), Value.int IntKind.u64 (lim m 18), Value.int IntKind.u64 (lim m 19)], Value.agg #[Value.bool true, Value.int IntKind.u64 0, Value.int IntKind.u64 0, Value.int IntKind.u64 0, Value.int IntKind.u64 0, Value.int IntKind.u64 0, Value.int IntKind.u64 0, Value.int IntKind.u64 0, Value.int IntKind.u64 32768, Value.int IntKind.u64 0, Value.int IntKind.u64 0, Value.int IntKind.u64 0, Value.int IntKind.u64 0, Value.int IntKind.u64 0, Value.int IntKind.u64 0, Value.int IntKind.u64 0, Value.int IntKind.u64 0, Value.int IntKind.u64 0, Value.int IntKind.u64 0, Value.int IntKind.u64 0, Value.int IntKind.u64 0]] { n := 0, objs := [] } = some (Value.int IntKind.i64 q2, { n := 0, objs := [] }, []),
    Value.bool (decide (q2 < (0 : Int))) = Value.bool false,
    Value.int IntKind.u64 (0 : Int) = Value.int IntKind.u64 (0 : Int),
    Value.int IntKind.u64 (lim m (nat_lit 7)) = Value.int IntKind.u64 (lim m (7 : Nat)),
    Value.int IntKind.u64 (IntKind.wrap IntKind.u64 ((0 : Int) + lim m (7 : Nat))) = Value.int IntKind.u64 (lim m (7 : Nat)),
    Value.int IntKind.u64 (0 : Int) = Value.int IntKind.u64 (0 : Int),
    Value.int IntKind.u64 (lim m (nat_lit 3)) = Value.int IntKind.u64 (lim m (3 : Nat)),
    Value.int IntKind.u64 (IntKind.wrap IntKind.u64 ((0 : Int) + lim m (3 : Nat))) = Value.int IntKind.u64 (lim m (3 : Nat)),
    Value.int IntKind.u64 (IntKind.wrap IntKind.u64 ((65536 : Int) * lim m (7 : Nat))) = Value.int IntKind.u64 a1,
    Value.int IntKind.u64 (lim m (nat_lit 6)) = Value.int IntKind.u64 (lim m (6 : Nat)),
    Value.int IntKind.u64 (IntKind.wrap IntKind.u64 (a1 + lim m (6 : Nat))) = Value.int IntKind.u64 h2,
    Value.int IntKind.u64 (IntKind.wrap IntKind.u64 ((65536 : Int) * lim m (3 : Nat))) = Value.int IntKind.u64 c1,
    Value.int IntKind.u64 (lim m (nat_lit 2)) = Value.int IntKind.u64 (lim m (2 : Nat)),
    Value.int IntKind.u64 (IntKind.wrap IntKind.u64 (c1 + lim m (2 : Nat))) = Value.int IntKind.u64 l2,
    Value.int IntKind.u64 (IntKind.wrap IntKind.u64 ((65536 : Int) * h2)) = Value.int IntKind.u64 a2,
    Value.int IntKind.u64 (lim m (nat_lit 5)) = Value.int IntKind.u64 (lim m (5 : Nat)),
    Value.int IntKind.u64 (IntKind.wrap IntKind.u64 (a2 + lim m (5 : Nat))) = Value.int IntKind.u64 h3,
    Value.int IntKind.u64 (IntKind.wrap IntKind.u64 ((65536 : Int) * l2)) = Value.int IntKind.u64 c2,
    Value.int IntKind.u64 (lim m (nat_lit 1)) = Value.int IntKind.u64 (lim m (1 : Nat)),
    Value.int IntKind.u64 (IntKind.wrap IntKind.u64 (c2 + lim m (1 : Nat))) = Value.int IntKind.u64 l3,
    Value.int IntKind.u64 (IntKind.wrap IntKind.u64 ((65536 : Int) * h3)) = Value.int IntKind.u64 a3,
    Value.int IntKind.u64 (lim m (nat_lit 4)) = Value.int IntKind.u64 (lim m (4 : Nat)),
    Value.int IntKind.u64 (IntKind.wrap IntKind.u64 (a3 + lim m (4 : Nat))) = Value.int IntKind.u64 h4,
    Value.int IntKind.u64 (IntKind.wrap IntKind.u64 ((65536 : Int) * l3)) = Value.int IntKind.u64 c3,
    Value.int IntKind.u64 (lim m (nat_lit 0)) = Value.int IntKind.u64 (lim m (0 : Nat)),
    Value.int IntKind.u64 (IntKind.wrap IntKind.u64 (c3 + lim m (0 : Nat))) = Value.int IntKind.u64 l4,
    Value.int IntKind.i64 (IntKind.wrap IntKind.i64 h4) = Value.int IntKind.i64 x] (by kernel_rfl)
    ⟨Dg.evCall_told h1, by first | exact Dg.vtrue (by omega) | exact Dg.vfalse (by omega), Dg.evCall_told h2c, by first | exact Dg.vtrue (by omega) | exact Dg.vfalse (by omega), rfl, rfl, wu (by omega), rfl, rfl, wu (by omega), wu (by omega), rfl, wu (by omega), wu (by omega), rfl, wu (by omega), wu (by omega), rfl, wu (by omega), wu (by omega), rfl, wu (by omega), wu (by omega), rfl, wu (by omega), wu (by omega), rfl, wu (by omega), wi ex, trivial⟩
--> wide_f
--< wide_t0
theorem wide_t0 (m : Nat) (q1 : Int) (q2 : Int) (h1 : o2 83 [num true m, mostV] = some (Value.int IntKind.i64 q1)) (hq1 : q1 ≤ 0) (h2c : o2 83 [num true m, leastV] = some (Value.int IntKind.i64 q2)) (hq2 : 0 ≤ q2) (r0 : 0 ≤ lim m 0 ∧ lim m 0 < 65536) (r1 : 0 ≤ lim m 1 ∧ lim m 1 < 65536) (r2 : 0 ≤ lim m 2 ∧ lim m 2 < 65536) (r3 : 0 ≤ lim m 3 ∧ lim m 3 < 65536) (r4 : 0 ≤ lim m 4 ∧ lim m 4 < 65536) (r5 : 0 ≤ lim m 5 ∧ lim m 5 < 65536) (r6 : 0 ≤ lim m 6 ∧ lim m 6 < 65536) (r7 : 0 ≤ lim m 7 ∧ lim m 7 < 65536) (a1 : Int) (h2 : Int) (a2 : Int) (h3 : Int) (a3 : Int) (h4 : Int) (c1 : Int) (l2 : Int) (c2 : Int) (l3 : Int) (c3 : Int) (l4 : Int) (e1 : 65536 * lim m 7 = a1) (e2 : a1 + lim m 6 = h2) (e3 : 65536 * h2 = a2) (e4 : a2 + lim m 5 = h3) (e5 : 65536 * h3 = a3) (e6 : a3 + lim m 4 = h4) (f1 : 65536 * lim m 3 = c1) (f2 : c1 + lim m 2 = l2) (f3 : 65536 * l2 = c2) (f4 : c2 + lim m 1 = l3) (f5 : 65536 * l3 = c3) (f6 : c3 + lim m 0 = l4) (y : Int) (z : Int) (ey : (0 - h4) % 18446744073709551616 = y) (hl : l4 = 0) (ez : (0 - l4) % 18446744073709551616 = z) (x : Int) (ex : (y + 9223372036854775808) % 18446744073709551616 - 9223372036854775808 = x) :
    evCall Tryz.prog 0 (bodied Tryz.prog) ov2 sbs 1000 20 58 [num true m] { n := 0, objs := [] } = some (Value.agg #[Value.int IntKind.i64 x, Value.int IntKind.u64 z], { n := 0, objs := [] }, []) :=
  Dg.evCall_hint (hs' := []) (hs := [Hint.call 83 (Value.int IntKind.i64 q1) { n := 0, objs := [] } [],
    Hint.val 58 25 (Value.bool false),
    Hint.call 83 (Value.int IntKind.i64 q2) { n := 0, objs := [] } [],
    Hint.val 58 30 (Value.bool false),
    Hint.val 58 37 (Value.int IntKind.u64 0),
    Hint.val 58 42 (Value.int IntKind.u64 (lim m 7)),
    Hint.val 58 43 (Value.int IntKind.u64 (lim m 7)),
    Hint.val 58 45 (Value.int IntKind.u64 0),
    Hint.val 58 49 (Value.int IntKind.u64 (lim m 3)),
    Hint.val 58 50 (Value.int IntKind.u64 (lim m 3)),
    Hint.val 58 37 (Value.int IntKind.u64 a1),
    Hint.val 58 42 (Value.int IntKind.u64 (lim m 6)),
    Hint.val 58 43 (Value.int IntKind.u64 h2),
    Hint.val 58 45 (Value.int IntKind.u64 c1),
    Hint.val 58 49 (Value.int IntKind.u64 (lim m 2)),
    Hint.val 58 50 (Value.int IntKind.u64 l2),
    Hint.val 58 37 (Value.int IntKind.u64 a2),
    Hint.val 58 42 (Value.int IntKind.u64 (lim m 5)),
    Hint.val 58 43 (Value.int IntKind.u64 h3),
    Hint.val 58 45 (Value.int IntKind.u64 c2),
    Hint.val 58 49 (Value.int IntKind.u64 (lim m 1)),
    Hint.val 58 50 (Value.int IntKind.u64 l3),
    Hint.val 58 37 (Value.int IntKind.u64 a3),
    Hint.val 58 42 (Value.int IntKind.u64 (lim m 4)),
    Hint.val 58 43 (Value.int IntKind.u64 h4),
    Hint.val 58 45 (Value.int IntKind.u64 c3),
    Hint.val 58 49 (Value.int IntKind.u64 (lim m 0)),
    Hint.val 58 50 (Value.int IntKind.u64 l4),
    Hint.val 58 54 (Value.int IntKind.u64 y),
    Hint.val 58 56 (Value.bool false),
    Hint.val 58 60 (Value.int IntKind.u64 z),
    Hint.val 58 62 (Value.int IntKind.i64 x)])
    [evCall Tryz.prog 0 (bodied Tryz.prog) ov2 sbs 1000 19 83 [Value.agg #[Value.bool true, Value.int IntKind.u64 (lim m 0), Value.int IntKind.u64 (lim m 1), Value.int IntKind.u64 (lim m 2), Value.int IntKind.u64 (lim m 3), Value.int IntKind.u64 (lim m 4), Value.int IntKind.u64 (lim m 5), Value.int IntKind.u64 (lim m 6), Value.int IntKind.u64 (lim m 7), Value.int IntKind.u64 (lim m 8), Value.int IntKind.u64 (lim m 9), Value.int IntKind.u64 (lim m 10), Value.int IntKind.u64 (lim m 11), Value.int IntKind.u64 (lim m 12), Value.int IntKind.u64 (lim m 13), Value.int IntKind.u64 (lim m 14), Value.int IntKind.u64 (lim m 15), Value.int IntKind.u64 (lim m 16), Value.int IntKind.u64 (lim m 17), Value.int IntKind.u64 (lim m 18), Value.int IntKind.u64 (lim m 19)], Value.agg #[Value.bool false, Value.int IntKind.u64 65535, Value.int IntKind.u64 65535, Value.int IntKind.u64 65535, Value.int IntKind.u64 65535, Value.int IntKind.u64 65535, Value.int IntKind.u64 65535, Value.int IntKind.u64 65535, Value.int IntKind.u64 32767, Value.int IntKind.u64 0, Value.int IntKind.u64 0, Value.int IntKind.u64 0, Value.int IntKind.u64 0, Value.int IntKind.u64 0, Value.int IntKind.u64 0, Value.int IntKind.u64 0, Value.int IntKind.u64 0, Value.int IntKind.u64 0, Value.int IntKind.u64 0, Value.int IntKind.u64 0, Value.int IntKind.u64 0]] { n := 0, objs := [] } = some (Value.int IntKind.i64 q1, { n := 0, objs := [] }, []),
    Value.bool (decide (q1 > (0 : Int))) = Value.bool false,
    evCall Tryz.prog 0 (bodied Tryz.prog) ov2 sbs 1000 19 83 [Value.agg #[Value.bool true, Value.int IntKind.u64 (lim m 0), Value.int IntKind.u64 (lim m 1), Value.int IntKind.u64 (lim m 2), Value.int IntKind.u64 (lim m 3), Value.int IntKind.u64 (lim m 4), Value.int IntKind.u64 (lim m 5), Value.int IntKind.u64 (lim m 6), Value.int IntKind.u64 (lim m 7), Value.int IntKind.u64 (lim m 8), Value.int IntKind.u64 (lim m 9), Value.int IntKind.u64 (lim m 10), Value.int IntKind.u64 (lim m 11), Value.int IntKind.u64 (lim m 12), Value.int IntKind.u64 (lim m 13), Value.int IntKind.u64 (lim m 14), Value.int IntKind.u64 (lim m 15), Value.int IntKind.u64 (lim m 16), Value.int IntKind.u64 (lim m 17), Value.int IntKind.u64 (lim m 18), Value.int IntKind.u64 (lim m 19)], Value.agg #[Value.bool true, Value.int IntKind.u64 0, Value.int IntKind.u64 0, Value.int IntKind.u64 0, Value.int IntKind.u64 0, Value.int IntKind.u64 0, Value.int IntKind.u64 0, Value.int IntKind.u64 0, Value.int IntKind.u64 32768, Value.int IntKind.u64 0, Value.int IntKind.u64 0, Value.int IntKind.u64 0, Value.int IntKind.u64 0, Value.int IntKind.u64 0, Value.int IntKind.u64 0, Value.int IntKind.u64 0, Value.int IntKind.u64 0, Value.int IntKind.u64 0, Value.int IntKind.u64 0, Value.int IntKind.u64 0, Value.int IntKind.u64 0]] { n := 0, objs := [] } = some (Value.int IntKind.i64 q2, { n := 0, objs := [] }, []),
    Value.bool (decide (q2 < (0 : Int))) = Value.bool false,
    Value.int IntKind.u64 (0 : Int) = Value.int IntKind.u64 (0 : Int),
    Value.int IntKind.u64 (lim m (nat_lit 7)) = Value.int IntKind.u64 (lim m (7 : Nat)),
    Value.int IntKind.u64 (IntKind.wrap IntKind.u64 ((0 : Int) + lim m (7 : Nat))) = Value.int IntKind.u64 (lim m (7 : Nat)),
    Value.int IntKind.u64 (0 : Int) = Value.int IntKind.u64 (0 : Int),
    Value.int IntKind.u64 (lim m (nat_lit 3)) = Value.int IntKind.u64 (lim m (3 : Nat)),
    Value.int IntKind.u64 (IntKind.wrap IntKind.u64 ((0 : Int) + lim m (3 : Nat))) = Value.int IntKind.u64 (lim m (3 : Nat)),
    Value.int IntKind.u64 (IntKind.wrap IntKind.u64 ((65536 : Int) * lim m (7 : Nat))) = Value.int IntKind.u64 a1,
    Value.int IntKind.u64 (lim m (nat_lit 6)) = Value.int IntKind.u64 (lim m (6 : Nat)),
    Value.int IntKind.u64 (IntKind.wrap IntKind.u64 (a1 + lim m (6 : Nat))) = Value.int IntKind.u64 h2,
    Value.int IntKind.u64 (IntKind.wrap IntKind.u64 ((65536 : Int) * lim m (3 : Nat))) = Value.int IntKind.u64 c1,
    Value.int IntKind.u64 (lim m (nat_lit 2)) = Value.int IntKind.u64 (lim m (2 : Nat)),
    Value.int IntKind.u64 (IntKind.wrap IntKind.u64 (c1 + lim m (2 : Nat))) = Value.int IntKind.u64 l2,
    Value.int IntKind.u64 (IntKind.wrap IntKind.u64 ((65536 : Int) * h2)) = Value.int IntKind.u64 a2,
    Value.int IntKind.u64 (lim m (nat_lit 5)) = Value.int IntKind.u64 (lim m (5 : Nat)),
    Value.int IntKind.u64 (IntKind.wrap IntKind.u64 (a2 + lim m (5 : Nat))) = Value.int IntKind.u64 h3,
    Value.int IntKind.u64 (IntKind.wrap IntKind.u64 ((65536 : Int) * l2)) = Value.int IntKind.u64 c2,
    Value.int IntKind.u64 (lim m (nat_lit 1)) = Value.int IntKind.u64 (lim m (1 : Nat)),
    Value.int IntKind.u64 (IntKind.wrap IntKind.u64 (c2 + lim m (1 : Nat))) = Value.int IntKind.u64 l3,
    Value.int IntKind.u64 (IntKind.wrap IntKind.u64 ((65536 : Int) * h3)) = Value.int IntKind.u64 a3,
    Value.int IntKind.u64 (lim m (nat_lit 4)) = Value.int IntKind.u64 (lim m (4 : Nat)),
    Value.int IntKind.u64 (IntKind.wrap IntKind.u64 (a3 + lim m (4 : Nat))) = Value.int IntKind.u64 h4,
    Value.int IntKind.u64 (IntKind.wrap IntKind.u64 ((65536 : Int) * l3)) = Value.int IntKind.u64 c3,
    Value.int IntKind.u64 (lim m (nat_lit 0)) = Value.int IntKind.u64 (lim m (0 : Nat)),
    Value.int IntKind.u64 (IntKind.wrap IntKind.u64 (c3 + lim m (0 : Nat))) = Value.int IntKind.u64 l4,
    Value.int IntKind.u64 (IntKind.wrap IntKind.u64 ((0 : Int) - h4)) = Value.int IntKind.u64 y,
    Value.bool (decide (l4 > (0 : Int))) = Value.bool false,
    Value.int IntKind.u64 (IntKind.wrap IntKind.u64 ((0 : Int) - l4)) = Value.int IntKind.u64 z,
    Value.int IntKind.i64 (IntKind.wrap IntKind.i64 y) = Value.int IntKind.i64 x] (by kernel_rfl)
    ⟨Dg.evCall_told h1, by first | exact Dg.vtrue (by omega) | exact Dg.vfalse (by omega), Dg.evCall_told h2c, by first | exact Dg.vtrue (by omega) | exact Dg.vfalse (by omega), rfl, rfl, wu (by omega), rfl, rfl, wu (by omega), wu (by omega), rfl, wu (by omega), wu (by omega), rfl, wu (by omega), wu (by omega), rfl, wu (by omega), wu (by omega), rfl, wu (by omega), wu (by omega), rfl, wu (by omega), wu (by omega), rfl, wu (by omega), wu (by omega), by first | exact Dg.vtrue (by omega) | exact Dg.vfalse (by omega), wu (by omega), wi ex, trivial⟩
--> wide_t0
--< wide_t1
theorem wide_t1 (m : Nat) (q1 : Int) (q2 : Int) (h1 : o2 83 [num true m, mostV] = some (Value.int IntKind.i64 q1)) (hq1 : q1 ≤ 0) (h2c : o2 83 [num true m, leastV] = some (Value.int IntKind.i64 q2)) (hq2 : 0 ≤ q2) (r0 : 0 ≤ lim m 0 ∧ lim m 0 < 65536) (r1 : 0 ≤ lim m 1 ∧ lim m 1 < 65536) (r2 : 0 ≤ lim m 2 ∧ lim m 2 < 65536) (r3 : 0 ≤ lim m 3 ∧ lim m 3 < 65536) (r4 : 0 ≤ lim m 4 ∧ lim m 4 < 65536) (r5 : 0 ≤ lim m 5 ∧ lim m 5 < 65536) (r6 : 0 ≤ lim m 6 ∧ lim m 6 < 65536) (r7 : 0 ≤ lim m 7 ∧ lim m 7 < 65536) (a1 : Int) (h2 : Int) (a2 : Int) (h3 : Int) (a3 : Int) (h4 : Int) (c1 : Int) (l2 : Int) (c2 : Int) (l3 : Int) (c3 : Int) (l4 : Int) (e1 : 65536 * lim m 7 = a1) (e2 : a1 + lim m 6 = h2) (e3 : 65536 * h2 = a2) (e4 : a2 + lim m 5 = h3) (e5 : 65536 * h3 = a3) (e6 : a3 + lim m 4 = h4) (f1 : 65536 * lim m 3 = c1) (f2 : c1 + lim m 2 = l2) (f3 : 65536 * l2 = c2) (f4 : c2 + lim m 1 = l3) (f5 : 65536 * l3 = c3) (f6 : c3 + lim m 0 = l4) (y : Int) (z : Int) (ey : (0 - h4) % 18446744073709551616 = y) (hl : 0 < l4) (y2 : Int) (ey2 : (y - 1) % 18446744073709551616 = y2) (ez : (0 - l4) % 18446744073709551616 = z) (x : Int) (ex : (y2 + 9223372036854775808) % 18446744073709551616 - 9223372036854775808 = x) :
    evCall Tryz.prog 0 (bodied Tryz.prog) ov2 sbs 1000 20 58 [num true m] { n := 0, objs := [] } = some (Value.agg #[Value.int IntKind.i64 x, Value.int IntKind.u64 z], { n := 0, objs := [] }, []) :=
  Dg.evCall_hint (hs' := []) (hs := [Hint.call 83 (Value.int IntKind.i64 q1) { n := 0, objs := [] } [],
    Hint.val 58 25 (Value.bool false),
    Hint.call 83 (Value.int IntKind.i64 q2) { n := 0, objs := [] } [],
    Hint.val 58 30 (Value.bool false),
    Hint.val 58 37 (Value.int IntKind.u64 0),
    Hint.val 58 42 (Value.int IntKind.u64 (lim m 7)),
    Hint.val 58 43 (Value.int IntKind.u64 (lim m 7)),
    Hint.val 58 45 (Value.int IntKind.u64 0),
    Hint.val 58 49 (Value.int IntKind.u64 (lim m 3)),
    Hint.val 58 50 (Value.int IntKind.u64 (lim m 3)),
    Hint.val 58 37 (Value.int IntKind.u64 a1),
    Hint.val 58 42 (Value.int IntKind.u64 (lim m 6)),
    Hint.val 58 43 (Value.int IntKind.u64 h2),
    Hint.val 58 45 (Value.int IntKind.u64 c1),
    Hint.val 58 49 (Value.int IntKind.u64 (lim m 2)),
    Hint.val 58 50 (Value.int IntKind.u64 l2),
    Hint.val 58 37 (Value.int IntKind.u64 a2),
    Hint.val 58 42 (Value.int IntKind.u64 (lim m 5)),
    Hint.val 58 43 (Value.int IntKind.u64 h3),
    Hint.val 58 45 (Value.int IntKind.u64 c2),
    Hint.val 58 49 (Value.int IntKind.u64 (lim m 1)),
    Hint.val 58 50 (Value.int IntKind.u64 l3),
    Hint.val 58 37 (Value.int IntKind.u64 a3),
    Hint.val 58 42 (Value.int IntKind.u64 (lim m 4)),
    Hint.val 58 43 (Value.int IntKind.u64 h4),
    Hint.val 58 45 (Value.int IntKind.u64 c3),
    Hint.val 58 49 (Value.int IntKind.u64 (lim m 0)),
    Hint.val 58 50 (Value.int IntKind.u64 l4),
    Hint.val 58 54 (Value.int IntKind.u64 y),
    Hint.val 58 56 (Value.bool true),
    Hint.val 58 58 (Value.int IntKind.u64 y2),
    Hint.val 58 60 (Value.int IntKind.u64 z),
    Hint.val 58 62 (Value.int IntKind.i64 x)])
    [evCall Tryz.prog 0 (bodied Tryz.prog) ov2 sbs 1000 19 83 [Value.agg #[Value.bool true, Value.int IntKind.u64 (lim m 0), Value.int IntKind.u64 (lim m 1), Value.int IntKind.u64 (lim m 2), Value.int IntKind.u64 (lim m 3), Value.int IntKind.u64 (lim m 4), Value.int IntKind.u64 (lim m 5), Value.int IntKind.u64 (lim m 6), Value.int IntKind.u64 (lim m 7), Value.int IntKind.u64 (lim m 8), Value.int IntKind.u64 (lim m 9), Value.int IntKind.u64 (lim m 10), Value.int IntKind.u64 (lim m 11), Value.int IntKind.u64 (lim m 12), Value.int IntKind.u64 (lim m 13), Value.int IntKind.u64 (lim m 14), Value.int IntKind.u64 (lim m 15), Value.int IntKind.u64 (lim m 16), Value.int IntKind.u64 (lim m 17), Value.int IntKind.u64 (lim m 18), Value.int IntKind.u64 (lim m 19)], Value.agg #[Value.bool false, Value.int IntKind.u64 65535, Value.int IntKind.u64 65535, Value.int IntKind.u64 65535, Value.int IntKind.u64 65535, Value.int IntKind.u64 65535, Value.int IntKind.u64 65535, Value.int IntKind.u64 65535, Value.int IntKind.u64 32767, Value.int IntKind.u64 0, Value.int IntKind.u64 0, Value.int IntKind.u64 0, Value.int IntKind.u64 0, Value.int IntKind.u64 0, Value.int IntKind.u64 0, Value.int IntKind.u64 0, Value.int IntKind.u64 0, Value.int IntKind.u64 0, Value.int IntKind.u64 0, Value.int IntKind.u64 0, Value.int IntKind.u64 0]] { n := 0, objs := [] } = some (Value.int IntKind.i64 q1, { n := 0, objs := [] }, []),
    Value.bool (decide (q1 > (0 : Int))) = Value.bool false,
    evCall Tryz.prog 0 (bodied Tryz.prog) ov2 sbs 1000 19 83 [Value.agg #[Value.bool true, Value.int IntKind.u64 (lim m 0), Value.int IntKind.u64 (lim m 1), Value.int IntKind.u64 (lim m 2), Value.int IntKind.u64 (lim m 3), Value.int IntKind.u64 (lim m 4), Value.int IntKind.u64 (lim m 5), Value.int IntKind.u64 (lim m 6), Value.int IntKind.u64 (lim m 7), Value.int IntKind.u64 (lim m 8), Value.int IntKind.u64 (lim m 9), Value.int IntKind.u64 (lim m 10), Value.int IntKind.u64 (lim m 11), Value.int IntKind.u64 (lim m 12), Value.int IntKind.u64 (lim m 13), Value.int IntKind.u64 (lim m 14), Value.int IntKind.u64 (lim m 15), Value.int IntKind.u64 (lim m 16), Value.int IntKind.u64 (lim m 17), Value.int IntKind.u64 (lim m 18), Value.int IntKind.u64 (lim m 19)], Value.agg #[Value.bool true, Value.int IntKind.u64 0, Value.int IntKind.u64 0, Value.int IntKind.u64 0, Value.int IntKind.u64 0, Value.int IntKind.u64 0, Value.int IntKind.u64 0, Value.int IntKind.u64 0, Value.int IntKind.u64 32768, Value.int IntKind.u64 0, Value.int IntKind.u64 0, Value.int IntKind.u64 0, Value.int IntKind.u64 0, Value.int IntKind.u64 0, Value.int IntKind.u64 0, Value.int IntKind.u64 0, Value.int IntKind.u64 0, Value.int IntKind.u64 0, Value.int IntKind.u64 0, Value.int IntKind.u64 0, Value.int IntKind.u64 0]] { n := 0, objs := [] } = some (Value.int IntKind.i64 q2, { n := 0, objs := [] }, []),
    Value.bool (decide (q2 < (0 : Int))) = Value.bool false,
    Value.int IntKind.u64 (0 : Int) = Value.int IntKind.u64 (0 : Int),
    Value.int IntKind.u64 (lim m (nat_lit 7)) = Value.int IntKind.u64 (lim m (7 : Nat)),
    Value.int IntKind.u64 (IntKind.wrap IntKind.u64 ((0 : Int) + lim m (7 : Nat))) = Value.int IntKind.u64 (lim m (7 : Nat)),
    Value.int IntKind.u64 (0 : Int) = Value.int IntKind.u64 (0 : Int),
    Value.int IntKind.u64 (lim m (nat_lit 3)) = Value.int IntKind.u64 (lim m (3 : Nat)),
    Value.int IntKind.u64 (IntKind.wrap IntKind.u64 ((0 : Int) + lim m (3 : Nat))) = Value.int IntKind.u64 (lim m (3 : Nat)),
    Value.int IntKind.u64 (IntKind.wrap IntKind.u64 ((65536 : Int) * lim m (7 : Nat))) = Value.int IntKind.u64 a1,
    Value.int IntKind.u64 (lim m (nat_lit 6)) = Value.int IntKind.u64 (lim m (6 : Nat)),
    Value.int IntKind.u64 (IntKind.wrap IntKind.u64 (a1 + lim m (6 : Nat))) = Value.int IntKind.u64 h2,
    Value.int IntKind.u64 (IntKind.wrap IntKind.u64 ((65536 : Int) * lim m (3 : Nat))) = Value.int IntKind.u64 c1,
    Value.int IntKind.u64 (lim m (nat_lit 2)) = Value.int IntKind.u64 (lim m (2 : Nat)),
    Value.int IntKind.u64 (IntKind.wrap IntKind.u64 (c1 + lim m (2 : Nat))) = Value.int IntKind.u64 l2,
    Value.int IntKind.u64 (IntKind.wrap IntKind.u64 ((65536 : Int) * h2)) = Value.int IntKind.u64 a2,
    Value.int IntKind.u64 (lim m (nat_lit 5)) = Value.int IntKind.u64 (lim m (5 : Nat)),
    Value.int IntKind.u64 (IntKind.wrap IntKind.u64 (a2 + lim m (5 : Nat))) = Value.int IntKind.u64 h3,
    Value.int IntKind.u64 (IntKind.wrap IntKind.u64 ((65536 : Int) * l2)) = Value.int IntKind.u64 c2,
    Value.int IntKind.u64 (lim m (nat_lit 1)) = Value.int IntKind.u64 (lim m (1 : Nat)),
    Value.int IntKind.u64 (IntKind.wrap IntKind.u64 (c2 + lim m (1 : Nat))) = Value.int IntKind.u64 l3,
    Value.int IntKind.u64 (IntKind.wrap IntKind.u64 ((65536 : Int) * h3)) = Value.int IntKind.u64 a3,
    Value.int IntKind.u64 (lim m (nat_lit 4)) = Value.int IntKind.u64 (lim m (4 : Nat)),
    Value.int IntKind.u64 (IntKind.wrap IntKind.u64 (a3 + lim m (4 : Nat))) = Value.int IntKind.u64 h4,
    Value.int IntKind.u64 (IntKind.wrap IntKind.u64 ((65536 : Int) * l3)) = Value.int IntKind.u64 c3,
    Value.int IntKind.u64 (lim m (nat_lit 0)) = Value.int IntKind.u64 (lim m (0 : Nat)),
    Value.int IntKind.u64 (IntKind.wrap IntKind.u64 (c3 + lim m (0 : Nat))) = Value.int IntKind.u64 l4,
    Value.int IntKind.u64 (IntKind.wrap IntKind.u64 ((0 : Int) - h4)) = Value.int IntKind.u64 y,
    Value.bool (decide (l4 > (0 : Int))) = Value.bool true,
    Value.int IntKind.u64 (IntKind.wrap IntKind.u64 (y - (1 : Int))) = Value.int IntKind.u64 y2,
    Value.int IntKind.u64 (IntKind.wrap IntKind.u64 ((0 : Int) - l4)) = Value.int IntKind.u64 z,
    Value.int IntKind.i64 (IntKind.wrap IntKind.i64 y2) = Value.int IntKind.i64 x] (by kernel_rfl)
    ⟨Dg.evCall_told h1, by first | exact Dg.vtrue (by omega) | exact Dg.vfalse (by omega), Dg.evCall_told h2c, by first | exact Dg.vtrue (by omega) | exact Dg.vfalse (by omega), rfl, rfl, wu (by omega), rfl, rfl, wu (by omega), wu (by omega), rfl, wu (by omega), wu (by omega), rfl, wu (by omega), wu (by omega), rfl, wu (by omega), wu (by omega), rfl, wu (by omega), wu (by omega), rfl, wu (by omega), wu (by omega), rfl, wu (by omega), wu (by omega), by first | exact Dg.vtrue (by omega) | exact Dg.vfalse (by omega), wu (by omega), wu (by omega), wi ex, trivial⟩
--> wide_t1
end Go.Proofs.YtmnoegfehgoalaaGreatDoor.num
namespace Go.Proofs.YtmnoegfehgoalaaGreatDoor.num
open Go.Dg (junk St Ex Ev Hint evCall evLoop bodied noOver Flats flatOver Heap AObj lay noO)
set_option linter.unusedVariables false
theorem num_open (c : Bool) (k : Nat) : num c k = .agg #[.bool c, .int .u64 (lim k 0), .int .u64 (lim k 1), .int .u64 (lim k 2), .int .u64 (lim k 3), .int .u64 (lim k 4), .int .u64 (lim k 5), .int .u64 (lim k 6), .int .u64 (lim k 7), .int .u64 (lim k 8), .int .u64 (lim k 9), .int .u64 (lim k 10), .int .u64 (lim k 11), .int .u64 (lim k 12), .int .u64 (lim k 13), .int .u64 (lim k 14), .int .u64 (lim k 15), .int .u64 (lim k 16), .int .u64 (lim k 17), .int .u64 (lim k 18), .int .u64 (lim k 19)] := by kernel_rfl
def L5 : List FuncId := [77, 58]
noncomputable def o5 : FuncId → List Value → Option Value := lay Tryz.prog (bodied Tryz.prog) ov2 sbs 1000 20 L5 o2
noncomputable abbrev ov5 : Ev := flatOver o5
theorem o5_flats : ∀ f args v, o5 f args = some v → Flats Tryz.prog f args v := Dg.lay_flats mixed okB (Dg.flatOver_ok o2_flats) (by kernel_rfl) o2_flats
theorem under5 {f : FuncId} {args : List Value} {v : Value} (h : o2 f args = some v) (hf : L5.contains f = false := by rfl) : o5 f args = some v := Dg.lay_under hf h
theorem b19 {m : Nat} (h : m ≤ 340282366920938463463374607431768211456) : m < B ^ 19 := Nat.lt_of_le_of_lt h (by decide)
theorem b20 {m : Nat} (h : m ≤ 340282366920938463463374607431768211456) : m < B ^ 20 := Nat.lt_of_le_of_lt h (by decide)
theorem from_w {v : Int} (hv : InW v) : o5 77 [wv v] = some (num (decide (v < 0)) v.natAbs) := by
  obtain ⟨h, l, e1, e2, e3, e4⟩ := wv_parts hv
  unfold I64 at e4
  rw [e1]
  obtain ⟨x, rfl⟩ := Int.eq_ofNat_of_zero_le e3.1
  have h1 := under2 (of_told h (by omega))
  have h3 := under2 (n64_told x (by omega))
  have h2 := mul_told (decide (h < 0)) false (m := h.natAbs) (n := 18446744073709551616) (b20 (by omega)) (b19 (by omega))
  rw [← topV_is, show (decide (h < 0) != false) = decide (h < 0) by cases decide (h < 0) <;> rfl] at h2
  have fin : o2 54 [num (decide (h < 0)) (h.natAbs * 18446744073709551616), num false x] = some (num (decide (v < 0)) v.natAbs) := by
    rcases Int.lt_or_le h 0 with h0 | h0
    · have := ((add_ge true (m := h.natAbs * 18446744073709551616) (n := x) (b20 (by omega)) (b20 (by omega)) (by omega)))
      rw [decide_eq_true h0, decide_eq_true (by omega : v < 0)]
      rw [show h.natAbs * 18446744073709551616 - x = v.natAbs by omega] at this
      exact this
    · have := ((add_same false (m := h.natAbs * 18446744073709551616) (n := x) (b19 (by omega)) (b19 (by omega)) (b19 (by omega))))
      rw [decide_eq_false (by omega), decide_eq_false (by omega : ¬ v < 0)]
      rw [show h.natAbs * 18446744073709551616 + x = v.natAbs by omega] at this
      exact this
  have r := from_r h (x : Int) (decide (h < 0)) (decide (v < 0)) h.natAbs (h.natAbs * 18446744073709551616) x v.natAbs h1 h2 h3 fin
  rw [← num_open] at r
  exact Dg.lay_told rfl r rfl (num_flat _ _)
theorem limb_up (m i : Nat) : limb m (i + 4) = limb (m / B ^ 4) i := by
  unfold limb
  rw [Nat.div_div_eq_div_mul, ← Nat.pow_add, Nat.add_comm 4 i]
theorem four (m : Nat) : lim m 0 + 65536 * (lim m 1 + 65536 * (lim m 2 + 65536 * lim m 3)) = ((m % 18446744073709551616 : Nat) : Int) := by
  have h := qs_limb m 4
  have e : B ^ 4 = 18446744073709551616 := by decide
  rw [e] at h
  rw [← h]
  unfold lim
  have hB : B = 65536 := rfl
  simp only [qs]
  have e0 : B ^ 0 = 1 := rfl
  have e1 : B ^ 1 = 65536 := rfl
  have e2 : B ^ 2 = 4294967296 := by decide
  have e3 : B ^ 3 = 281474976710656 := by decide
  rw [e0, e1, e2, e3]
  omega
theorem fourhi (m : Nat) (h : m < 340282366920938463463374607431768211456) : lim m 4 + 65536 * (lim m 5 + 65536 * (lim m 6 + 65536 * lim m 7)) = ((m / 18446744073709551616 : Nat) : Int) := by
  have h4 := four (m / B ^ 4)
  have e : B ^ 4 = 18446744073709551616 := by decide
  have u : ∀ i, lim m (i + 4) = lim (m / B ^ 4) i := fun i => by unfold lim; rw [limb_up]
  have u0 := u 0; have u1 := u 1; have u2 := u 2; have u3 := u 3
  simp only [Nat.zero_add] at u0
  rw [u0, u1, u2, u3, h4, e]
  congr 1
  omega
theorem wide_w {v : Int} (hv : InW v) : o5 58 [num (decide (v < 0)) v.natAbs] = some (wv v) := by
  have hv' := hv
  unfold InW at hv
  have hm : v.natAbs < 340282366920938463463374607431768211456 := by omega
  have c1 := ((cmp_told (decide (v < 0)) false (m := v.natAbs) (n := 170141183460469231731687303715884105727) (b20 (by omega)) (b20 (by omega))))
  have c2 := ((cmp_told (decide (v < 0)) true (m := v.natAbs) (n := 170141183460469231731687303715884105728) (b20 (by omega)) (b20 (by omega))))
  rw [sval_int, ← mostV_is] at c1
  rw [sval_int, ← leastV_is] at c2
  have q1 : scmp v (sval false 170141183460469231731687303715884105727) ≤ 0 := scmp_hi.2 (by unfold sval; rw [if_neg (by decide)]; omega)
  have q2 : 0 ≤ scmp v (sval true 170141183460469231731687303715884105728) := scmp_lo.2 (by unfold sval; rw [if_pos rfl]; omega)
  have f4 := four v.natAbs
  have g4 := fourhi v.natAbs hm
  have b0 := lim_b v.natAbs 0; have b1 := lim_b v.natAbs 1; have b2 := lim_b v.natAbs 2; have b3 := lim_b v.natAbs 3
  have b4 := lim_b v.natAbs 4; have b5 := lim_b v.natAbs 5; have b6 := lim_b v.natAbs 6; have b7 := lim_b v.natAbs 7
  generalize hL : v.natAbs % 18446744073709551616 = lo at f4
  generalize hH : v.natAbs / 18446744073709551616 = hi at g4
  have hsum : v.natAbs = hi * 18446744073709551616 + lo := by omega
  rcases Int.lt_or_le v 0 with h0 | h0
  · rw [decide_eq_true h0] at c1 c2 ⊢
    rcases Nat.eq_zero_or_pos lo with hl | hl
    · have r := wide_t0 v.natAbs _ _ c1 q1 c2 q2 b0 b1 b2 b3 b4 b5 b6 b7 _ _ _ _ _ (hi : Int) _ _ _ _ _ (lo : Int) rfl rfl rfl rfl rfl (by omega) rfl rfl rfl rfl rfl (by omega) ((0 - (hi : Int)) % 18446744073709551616) 0 rfl (by omega) (by omega) (-(hi : Int)) (by omega)
      rw [wv_eq (v := v) (h := -(hi : Int)) (l := 0) (by omega) (by omega)]
      exact Dg.lay_told rfl r (flat1 _ _) rfl
    · have r := wide_t1 v.natAbs _ _ c1 q1 c2 q2 b0 b1 b2 b3 b4 b5 b6 b7 _ _ _ _ _ (hi : Int) _ _ _ _ _ (lo : Int) rfl rfl rfl rfl rfl (by omega) rfl rfl rfl rfl rfl (by omega) ((0 - (hi : Int)) % 18446744073709551616) (18446744073709551616 - (lo : Int)) rfl (by omega) _ rfl (by omega) (-(hi : Int) - 1) (by omega)
      rw [wv_eq (v := v) (h := -(hi : Int) - 1) (l := 18446744073709551616 - (lo : Int)) (by omega) (by omega)]
      exact Dg.lay_told rfl r (flat1 _ _) rfl
  · rw [decide_eq_false (by omega)] at c1 c2 ⊢
    have r := wide_f v.natAbs _ _ c1 q1 c2 q2 b0 b1 b2 b3 b4 b5 b6 b7 _ _ _ _ _ (hi : Int) _ _ _ _ _ (lo : Int) rfl rfl rfl rfl rfl (by omega) rfl rfl rfl rfl rfl (by omega) (hi : Int) (by omega)
    rw [wv_eq (v := v) (h := (hi : Int)) (l := (lo : Int)) (by omega) (by omega)]
    exact Dg.lay_told rfl r (flat1 _ _) rfl
end Go.Proofs.YtmnoegfehgoalaaGreatDoor.num
namespace Go.Proofs.YtmnoegfehgoalaaGreatDoor.num
open Go.Dg (junk St Ex Ev Hint evCall evLoop bodied noOver Flats flatOver Heap AObj lay noO)
set_option linter.unusedVariables false
/-- What a number is above the ends. -/
theorem wide_hi (b : Bool) (m : Nat) (q1 q2 : Int) (h1 : o2 83 [num b m, mostV] = some (.int .i64 q1)) (hq1 : 0 < q1) (h2 : o2 83 [mostV, leastV] = some (.int .i64 q2)) (hq2 : 0 ≤ q2) :
    evCall Tryz.prog 0 (bodied Tryz.prog) ov2 sbs 1000 20 58 [num b m] ⟨0, []⟩ = some (wd 9223372036854775807 18446744073709551615, ⟨0, []⟩, []) :=
  Dg.evCall_hint (hs' := []) (hs := [Hint.call 83 (.int .i64 q1) ⟨0, []⟩ [], Hint.val 58 25 (.bool true), Hint.call 83 (.int .i64 q2) ⟨0, []⟩ [], Hint.val 58 30 (.bool false)])
    [evCall Tryz.prog 0 (bodied Tryz.prog) ov2 sbs 1000 19 83 [num b m, mostV] ⟨0, []⟩ = some (.int .i64 q1, ⟨0, []⟩, []), Value.bool (decide (q1 > (0 : Int))) = Value.bool true, evCall Tryz.prog 0 (bodied Tryz.prog) ov2 sbs 1000 19 83 [mostV, leastV] ⟨0, []⟩ = some (.int .i64 q2, ⟨0, []⟩, []), Value.bool (decide (q2 < (0 : Int))) = Value.bool false] (by kernel_rfl)
    ⟨Dg.evCall_told h1, Dg.vtrue (by omega), Dg.evCall_told h2, Dg.vfalse (by omega), trivial⟩
theorem wide_lo (b : Bool) (m : Nat) (q1 q2 : Int) (h1 : o2 83 [num b m, mostV] = some (.int .i64 q1)) (hq1 : q1 ≤ 0) (h2 : o2 83 [num b m, leastV] = some (.int .i64 q2)) (hq2 : q2 < 0) :
    evCall Tryz.prog 0 (bodied Tryz.prog) ov2 sbs 1000 20 58 [num b m] ⟨0, []⟩ = some (wd (-9223372036854775808) 0, ⟨0, []⟩, []) :=
  Dg.evCall_hint (hs' := []) (hs := [Hint.call 83 (.int .i64 q1) ⟨0, []⟩ [], Hint.val 58 25 (.bool false), Hint.call 83 (.int .i64 q2) ⟨0, []⟩ [], Hint.val 58 30 (.bool true)])
    [evCall Tryz.prog 0 (bodied Tryz.prog) ov2 sbs 1000 19 83 [num b m, mostV] ⟨0, []⟩ = some (.int .i64 q1, ⟨0, []⟩, []), Value.bool (decide (q1 > (0 : Int))) = Value.bool false, evCall Tryz.prog 0 (bodied Tryz.prog) ov2 sbs 1000 19 83 [num b m, leastV] ⟨0, []⟩ = some (.int .i64 q2, ⟨0, []⟩, []), Value.bool (decide (q2 < (0 : Int))) = Value.bool true] (by kernel_rfl)
    ⟨Dg.evCall_told h1, Dg.vfalse (by omega), Dg.evCall_told h2, Dg.vtrue (by omega), trivial⟩
def clampW (v : Int) : Int := if v < -170141183460469231731687303715884105728 then -170141183460469231731687303715884105728 else if 170141183460469231731687303715884105728 ≤ v then 170141183460469231731687303715884105727 else v
theorem scmp_no {x y : Int} : 0 < scmp x y ↔ y < x := by
  unfold scmp
  split
  · omega
  · split <;> omega
theorem scmp_yes {x y : Int} : scmp x y < 0 ↔ x < y := by
  unfold scmp
  split
  · omega
  · split <;> omega
/-- A wide number of any number: it saturates. -/
theorem wide_all (b : Bool) {m : Nat} (hm : m < B ^ 20) : o5 58 [num b m] = some (wv (clampW (sval b m))) := by
  have c1 := cmp_told b false (m := m) (n := 170141183460469231731687303715884105727) hm (b20 (by omega))
  have c2 := cmp_told b true (m := m) (n := 170141183460469231731687303715884105728) hm (b20 (by omega))
  have c3 := cmp_told false true (m := 170141183460469231731687303715884105727) (n := 170141183460469231731687303715884105728) (b20 (by omega)) (b20 (by omega))
  rw [← mostV_is] at c1
  rw [← leastV_is] at c2
  rw [← mostV_is, ← leastV_is] at c3
  have s1 : sval false 170141183460469231731687303715884105727 = 170141183460469231731687303715884105727 := by decide
  have s2 : sval true 170141183460469231731687303715884105728 = -170141183460469231731687303715884105728 := by decide
  rw [s1] at c1 c3
  rw [s2] at c2 c3
  unfold clampW
  split
  · rename_i h
    have := wide_lo b m _ _ c1 (scmp_hi.2 (by omega)) c2 (scmp_yes.2 h)
    exact Dg.lay_told rfl this (flat1 _ _) rfl
  · split
    · rename_i h1 h
      have := wide_hi b m _ _ c1 (scmp_no.2 (by omega)) c3 (scmp_lo.2 (by decide))
      exact Dg.lay_told rfl this (flat1 _ _) rfl
    · rename_i h1 h2
      have hin : InW (sval b m) := by unfold InW; omega
      by_cases hz : b = true ∧ m = 0
      · obtain ⟨rfl, rfl⟩ := hz
        have r := wide_t0 0 _ _ c1 (scmp_hi.2 (by omega)) c2 (scmp_lo.2 (by omega)) (lim_b 0 0) (lim_b 0 1) (lim_b 0 2) (lim_b 0 3) (lim_b 0 4) (lim_b 0 5) (lim_b 0 6) (lim_b 0 7) 0 0 0 0 0 0 0 0 0 0 0 0 (by decide) (by decide) (by decide) (by decide) (by decide) (by decide) (by decide) (by decide) (by decide) (by decide) (by decide) (by decide) 0 0 (by decide) rfl (by decide) 0 (by decide)
        exact Dg.lay_told rfl r (flat1 _ _) rfl
      · have e : num b m = num (decide (sval b m < 0)) (sval b m).natAbs := by
          unfold sval
          cases b with
          | false => rw [if_neg (by decide), decide_eq_false (by omega), Int.natAbs_natCast]
          | true =>
            have : m ≠ 0 := fun h => hz ⟨rfl, h⟩
            rw [if_pos rfl, decide_eq_true (by omega), Int.natAbs_neg, Int.natAbs_natCast]
        rw [e]
        exact wide_w hin
/-- A sum of any two. -/
theorem add_all (b c : Bool) {m n : Nat} (h : m + n < B ^ 19) : ∃ d k, o2 54 [num b m, num c n] = some (num d k) ∧ sval d k = sval b m + sval c n ∧ k ≤ m + n := by
  have hm : m < B ^ 19 := by omega
  have hn : n < B ^ 19 := by omega
  have hp : B ^ 19 ≤ B ^ 20 := Nat.pow_le_pow_right (by decide) (by decide)
  by_cases hbc : b = c
  · subst hbc
    refine ⟨b, m + n, add_same b hm hn h, ?_, Nat.le_refl _⟩
    unfold sval
    cases b <;> simp <;> omega
  · have hc : c = !b := by cases b <;> cases c <;> simp_all
    subst hc
    rcases Nat.lt_or_ge m n with hlt | hge
    · refine ⟨!b, n - m, add_lt b (by omega) (by omega) hlt, ?_, by omega⟩
      unfold sval
      cases b <;> simp <;> omega
    · refine ⟨b, m - n, add_ge b (by omega) (by omega) hge, ?_, by omega⟩
      unfold sval
      cases b <;> simp <;> omega
theorem wv_in {v : Int} : InW (clampW v) := by
  unfold InW clampW
  split
  · omega
  · split <;> omega
end Go.Proofs.YtmnoegfehgoalaaGreatDoor.num
namespace Go.Proofs.YtmnoegfehgoalaaGreatDoor.num
open Go.Dg (junk St Ex Ev Hint evCall evLoop bodied noOver Flats flatOver Heap AObj lay noO)
set_option linter.unusedVariables false
theorem neg_r (b : Bool) (m : Nat) : evCall Tryz.prog 0 (bodied Tryz.prog) ov5 sbs 1000 20 56 [num b m] ⟨0, []⟩ = some (num (!b) m, ⟨0, []⟩, []) := by kernel_rfl
theorem era_r (h : Int) (l : Int) (b c : Bool) (m m2 x k : Nat) (h1 : o5 55 [.int .i64 h] = some (num b m)) (h2 : o5 103 [num b m, topV] = some (num b m2)) (h3 : o5 104 [.int .u64 l] = some (num false x)) (h4 : o5 54 [num b m2, num false x] = some (num c k)) :
    evCall Tryz.prog 0 (bodied Tryz.prog) ov5 sbs 1000 20 78 [.int .i64 h, .int .u64 l] ⟨0, []⟩ = some (num c k, ⟨0, []⟩, []) :=
  Dg.evCall_hint (hs' := []) (hs := [Hint.call 55 (num b m) ⟨0, []⟩ [], Hint.call 103 (num b m2) ⟨0, []⟩ [], Hint.call 104 (num false x) ⟨0, []⟩ [], Hint.call 54 (num c k) ⟨0, []⟩ []])
    [evCall Tryz.prog 0 (bodied Tryz.prog) ov5 sbs 1000 19 55 [.int .i64 h] ⟨0, []⟩ = some (num b m, ⟨0, []⟩, []), evCall Tryz.prog 0 (bodied Tryz.prog) ov5 sbs 1000 19 103 [num b m, topV] ⟨0, []⟩ = some (num b m2, ⟨0, []⟩, []),
     evCall Tryz.prog 0 (bodied Tryz.prog) ov5 sbs 1000 19 104 [.int .u64 l] ⟨0, []⟩ = some (num false x, ⟨0, []⟩, []), evCall Tryz.prog 0 (bodied Tryz.prog) ov5 sbs 1000 19 54 [num b m2, num false x] ⟨0, []⟩ = some (num c k, ⟨0, []⟩, [])] (by kernel_rfl)
    ⟨Dg.evCall_told h1, Dg.evCall_told h2, Dg.evCall_told h3, Dg.evCall_told h4, trivial⟩
def L6 : List FuncId := [56, 78, 57, 105]
noncomputable def o6 : FuncId → List Value → Option Value := lay Tryz.prog (bodied Tryz.prog) ov5 sbs 1000 20 L6 o5
noncomputable abbrev ov6 : Ev := flatOver o6
theorem o6_flats : ∀ f args v, o6 f args = some v → Flats Tryz.prog f args v := Dg.lay_flats mixed okB (Dg.flatOver_ok o5_flats) (by kernel_rfl) o5_flats
theorem under6 {f : FuncId} {args : List Value} {v : Value} (h : o5 f args = some v) (hf : L6.contains f = false := by rfl) : o6 f args = some v := Dg.lay_under hf h
theorem neg_told (b : Bool) (m : Nat) : o6 56 [num b m] = some (num (!b) m) := Dg.lay_told rfl (neg_r b m) (flat1 _ _) (num_flat _ _)
theorem sval_neg (b : Bool) (m : Nat) : sval (!b) m = -sval b m := by
  unfold sval
  cases b <;> simp
theorem era_told {h : Int} (hh : I64 h) {x : Nat} (hx : x < 18446744073709551616) : ∃ d k, o6 78 [.int .i64 h, .int .u64 (x : Nat)] = some (num d k) ∧ sval d k = h * 18446744073709551616 + x ∧ k ≤ 340282366920938463463374607431768211456 := by
  unfold I64 at hh
  have h1 := under5 (under2 (of_told h (by omega)))
  have h3 := under5 (under2 (n64_told x hx))
  have h2 := under5 (mul_told (decide (h < 0)) false (m := h.natAbs) (n := 18446744073709551616) (b20 (by omega)) (b19 (by omega)))
  rw [← topV_is, show (decide (h < 0) != false) = decide (h < 0) by cases decide (h < 0) <;> rfl] at h2
  obtain ⟨d, k, h4, h5, h6⟩ := add_all (decide (h < 0)) false (m := h.natAbs * 18446744073709551616) (n := x) (b19 (by omega))
  refine ⟨d, k, Dg.lay_told rfl (era_r h x _ d _ _ x k h1 h2 h3 (under5 h4)) rfl (num_flat _ _), ?_, by omega⟩
  rw [h5]
  unfold sval
  by_cases h0 : h < 0
  · rw [decide_eq_true h0]; simp; omega
  · rw [decide_eq_false h0]; simp; omega
def clip64 (v : Int) : Int := if v < -9223372036854775808 then -9223372036854775808 else if 9223372036854775808 ≤ v then 9223372036854775807 else v
theorem clip_hi (h l q1 : Int) (b c : Bool) (m n : Nat) (h1 : o5 77 [wd h l] = some (num b m)) (h2 : o5 55 [.int .i64 9223372036854775807] = some (num c n)) (h3 : o5 83 [num b m, num c n] = some (.int .i64 q1)) (hq : 0 < q1) :
    evCall Tryz.prog 0 (bodied Tryz.prog) ov5 sbs 1000 20 57 [wd h l] ⟨0, []⟩ = some (.int .i64 9223372036854775807, ⟨0, []⟩, []) :=
  Dg.evCall_hint (hs' := []) (hs := [Hint.call 77 (num b m) ⟨0, []⟩ [], Hint.call 55 (num c n) ⟨0, []⟩ [], Hint.call 83 (.int .i64 q1) ⟨0, []⟩ [], Hint.val 57 12 (.bool true)])
    [evCall Tryz.prog 0 (bodied Tryz.prog) ov5 sbs 1000 19 77 [wd h l] ⟨0, []⟩ = some (num b m, ⟨0, []⟩, []), evCall Tryz.prog 0 (bodied Tryz.prog) ov5 sbs 1000 19 55 [.int .i64 9223372036854775807] ⟨0, []⟩ = some (num c n, ⟨0, []⟩, []),
     evCall Tryz.prog 0 (bodied Tryz.prog) ov5 sbs 1000 19 83 [num b m, num c n] ⟨0, []⟩ = some (.int .i64 q1, ⟨0, []⟩, []), Value.bool (decide (q1 > (0 : Int))) = Value.bool true] (by kernel_rfl)
    ⟨Dg.evCall_told h1, Dg.evCall_told h2, Dg.evCall_told h3, Dg.vtrue (by omega), trivial⟩
theorem clip_lo (h l q1 q2 : Int) (b c d : Bool) (m n k : Nat) (h1 : o5 77 [wd h l] = some (num b m)) (h2 : o5 55 [.int .i64 9223372036854775807] = some (num c n)) (h3 : o5 83 [num b m, num c n] = some (.int .i64 q1)) (hq : q1 ≤ 0)
    (h4 : o5 55 [.int .i64 (-9223372036854775808)] = some (num d k)) (h5 : o5 83 [num b m, num d k] = some (.int .i64 q2)) (hq2 : q2 < 0) :
    evCall Tryz.prog 0 (bodied Tryz.prog) ov5 sbs 1000 20 57 [wd h l] ⟨0, []⟩ = some (.int .i64 (-9223372036854775808), ⟨0, []⟩, []) :=
  Dg.evCall_hint (hs' := []) (hs := [Hint.call 77 (num b m) ⟨0, []⟩ [], Hint.call 55 (num c n) ⟨0, []⟩ [], Hint.call 83 (.int .i64 q1) ⟨0, []⟩ [], Hint.val 57 12 (.bool false), Hint.call 55 (num d k) ⟨0, []⟩ [], Hint.call 83 (.int .i64 q2) ⟨0, []⟩ [], Hint.val 57 18 (.bool true)])
    [evCall Tryz.prog 0 (bodied Tryz.prog) ov5 sbs 1000 19 77 [wd h l] ⟨0, []⟩ = some (num b m, ⟨0, []⟩, []), evCall Tryz.prog 0 (bodied Tryz.prog) ov5 sbs 1000 19 55 [.int .i64 9223372036854775807] ⟨0, []⟩ = some (num c n, ⟨0, []⟩, []),
     evCall Tryz.prog 0 (bodied Tryz.prog) ov5 sbs 1000 19 83 [num b m, num c n] ⟨0, []⟩ = some (.int .i64 q1, ⟨0, []⟩, []), Value.bool (decide (q1 > (0 : Int))) = Value.bool false,
     evCall Tryz.prog 0 (bodied Tryz.prog) ov5 sbs 1000 19 55 [.int .i64 (-9223372036854775808)] ⟨0, []⟩ = some (num d k, ⟨0, []⟩, []), evCall Tryz.prog 0 (bodied Tryz.prog) ov5 sbs 1000 19 83 [num b m, num d k] ⟨0, []⟩ = some (.int .i64 q2, ⟨0, []⟩, []), Value.bool (decide (q2 < (0 : Int))) = Value.bool true] (by kernel_rfl)
    ⟨Dg.evCall_told h1, Dg.evCall_told h2, Dg.evCall_told h3, Dg.vfalse (by omega), Dg.evCall_told h4, Dg.evCall_told h5, Dg.vtrue (by omega), trivial⟩
theorem clip_mid (h l q1 q2 : Int) (b c d : Bool) (m n k : Nat) (h1 : o5 77 [wd h l] = some (num b m)) (h2 : o5 55 [.int .i64 9223372036854775807] = some (num c n)) (h3 : o5 83 [num b m, num c n] = some (.int .i64 q1)) (hq : q1 ≤ 0)
    (h4 : o5 55 [.int .i64 (-9223372036854775808)] = some (num d k)) (h5 : o5 83 [num b m, num d k] = some (.int .i64 q2)) (hq2 : 0 ≤ q2) :
    evCall Tryz.prog 0 (bodied Tryz.prog) ov5 sbs 1000 20 57 [wd h l] ⟨0, []⟩ = some (.int .i64 (IntKind.wrap .i64 l), ⟨0, []⟩, []) :=
  Dg.evCall_hint (hs' := []) (hs := [Hint.call 77 (num b m) ⟨0, []⟩ [], Hint.call 55 (num c n) ⟨0, []⟩ [], Hint.call 83 (.int .i64 q1) ⟨0, []⟩ [], Hint.val 57 12 (.bool false), Hint.call 55 (num d k) ⟨0, []⟩ [], Hint.call 83 (.int .i64 q2) ⟨0, []⟩ [], Hint.val 57 18 (.bool false)])
    [evCall Tryz.prog 0 (bodied Tryz.prog) ov5 sbs 1000 19 77 [wd h l] ⟨0, []⟩ = some (num b m, ⟨0, []⟩, []), evCall Tryz.prog 0 (bodied Tryz.prog) ov5 sbs 1000 19 55 [.int .i64 9223372036854775807] ⟨0, []⟩ = some (num c n, ⟨0, []⟩, []),
     evCall Tryz.prog 0 (bodied Tryz.prog) ov5 sbs 1000 19 83 [num b m, num c n] ⟨0, []⟩ = some (.int .i64 q1, ⟨0, []⟩, []), Value.bool (decide (q1 > (0 : Int))) = Value.bool false,
     evCall Tryz.prog 0 (bodied Tryz.prog) ov5 sbs 1000 19 55 [.int .i64 (-9223372036854775808)] ⟨0, []⟩ = some (num d k, ⟨0, []⟩, []), evCall Tryz.prog 0 (bodied Tryz.prog) ov5 sbs 1000 19 83 [num b m, num d k] ⟨0, []⟩ = some (.int .i64 q2, ⟨0, []⟩, []), Value.bool (decide (q2 < (0 : Int))) = Value.bool false] (by kernel_rfl)
    ⟨Dg.evCall_told h1, Dg.evCall_told h2, Dg.evCall_told h3, Dg.vfalse (by omega), Dg.evCall_told h4, Dg.evCall_told h5, Dg.vfalse (by omega), trivial⟩
theorem clip_told {v : Int} (hv : InW v) : o6 57 [wv v] = some (.int .i64 (clip64 v)) := by
  have h1 := from_w hv
  have h2 := under5 (under2 (of_told 9223372036854775807 (by omega)))
  have h4 := under5 (under2 (of_told (-9223372036854775808) (by omega)))
  have hv' := hv
  unfold InW at hv'
  have h3 := under5 (cmp_told (decide (v < 0)) (decide ((9223372036854775807 : Int) < 0)) (m := v.natAbs) (n := (9223372036854775807 : Int).natAbs) (b20 (by omega)) (b20 (by omega)))
  have h5 := under5 (cmp_told (decide (v < 0)) (decide ((-9223372036854775808 : Int) < 0)) (m := v.natAbs) (n := (-9223372036854775808 : Int).natAbs) (b20 (by omega)) (b20 (by omega)))
  rw [sval_int, sval_int] at h3 h5
  unfold clip64
  split
  · rename_i h
    exact Dg.lay_told rfl (clip_lo _ _ _ _ _ _ _ _ _ _ h1 h2 h3 (scmp_hi.2 (by omega)) h4 h5 (scmp_yes.2 h)) rfl rfl
  · split
    · rename_i h0 h
      exact Dg.lay_told rfl (clip_hi _ _ _ _ _ _ _ h1 h2 h3 (scmp_no.2 (by omega))) rfl rfl
    · rename_i ha hb
      have r := clip_mid _ _ _ _ _ _ _ _ _ _ h1 h2 h3 (scmp_hi.2 (by omega)) h4 h5 (scmp_lo.2 (by omega))
      have e : IntKind.wrap .i64 (v % 18446744073709551616) = v := by
        rw [Dg.w_i64]; omega
      rw [e] at r
      exact Dg.lay_told rfl r rfl rfl
theorem power_r (n : Nat) (h : n < 16) : o6 105 [.int .i64 (n : Nat)] = some (.int .u64 ((2 ^ n : Nat) : Int)) := by
  have key : ∀ n : Nat, n < 16 → (evCall Tryz.prog 0 (bodied Tryz.prog) ov5 sbs 1000 20 105 [.int .i64 (n : Nat)] ⟨0, []⟩) = some (.int .u64 ((2 ^ n : Nat) : Int), ⟨0, []⟩, []) := by
    intro n hn
    rcases (by omega : n = 0 ∨ n = 1 ∨ n = 2 ∨ n = 3 ∨ n = 4 ∨ n = 5 ∨ n = 6 ∨ n = 7 ∨ n = 8 ∨ n = 9 ∨ n = 10 ∨ n = 11 ∨ n = 12 ∨ n = 13 ∨ n = 14 ∨ n = 15) with rfl | rfl | rfl | rfl | rfl | rfl | rfl | rfl | rfl | rfl | rfl | rfl | rfl | rfl | rfl | rfl <;> kernel_rfl
  exact Dg.lay_told rfl (key n h) rfl rfl
end Go.Proofs.YtmnoegfehgoalaaGreatDoor.num
namespace Go.Proofs.YtmnoegfehgoalaaGreatDoor.num
open Go.Dg (junk St Ex Ev Hint evCall evLoop bodied noOver Flats flatOver Heap AObj lay noO)
set_option linter.unusedVariables false
theorem less2_r (h1 l1 h2 l2 x y : Int) (b c d e : Bool) (m n n' k : Nat) (g1 : o6 77 [wd h1 l1] = some (num b m)) (g2 : o6 77 [wd h2 l2] = some (num c n)) (g3 : o6 56 [num c n] = some (num e n')) (g4 : o6 54 [num b m, num e n'] = some (num d k)) (g5 : o6 58 [num d k] = some (wd x y)) :
    evCall Tryz.prog 0 (bodied Tryz.prog) ov6 sbs 1000 20 81 [wd h1 l1, wd h2 l2] ⟨0, []⟩ = some (wd x y, ⟨0, []⟩, []) :=
  Dg.evCall_hint (hs' := []) (hs := [Hint.call 77 (num b m) ⟨0, []⟩ [], Hint.call 77 (num c n) ⟨0, []⟩ [], Hint.call 56 (num e n') ⟨0, []⟩ [], Hint.call 54 (num d k) ⟨0, []⟩ [], Hint.call 58 (wd x y) ⟨0, []⟩ []])
    [evCall Tryz.prog 0 (bodied Tryz.prog) ov6 sbs 1000 19 77 [wd h1 l1] ⟨0, []⟩ = some (num b m, ⟨0, []⟩, []), evCall Tryz.prog 0 (bodied Tryz.prog) ov6 sbs 1000 19 77 [wd h2 l2] ⟨0, []⟩ = some (num c n, ⟨0, []⟩, []),
     evCall Tryz.prog 0 (bodied Tryz.prog) ov6 sbs 1000 19 56 [num c n] ⟨0, []⟩ = some (num e n', ⟨0, []⟩, []), evCall Tryz.prog 0 (bodied Tryz.prog) ov6 sbs 1000 19 54 [num b m, num e n'] ⟨0, []⟩ = some (num d k, ⟨0, []⟩, []),
     evCall Tryz.prog 0 (bodied Tryz.prog) ov6 sbs 1000 19 58 [num d k] ⟨0, []⟩ = some (wd x y, ⟨0, []⟩, [])] (by kernel_rfl)
    ⟨Dg.evCall_told g1, Dg.evCall_told g2, Dg.evCall_told g3, Dg.evCall_told g4, Dg.evCall_told g5, trivial⟩
theorem size_r (b c d e : Bool) (m n n' k : Nat) (g3 : o6 56 [num c n] = some (num e n')) (g4 : o6 54 [num b m, num e n'] = some (num d k)) :
    evCall Tryz.prog 0 (bodied Tryz.prog) ov6 sbs 1000 20 80 [num b m, num c n] ⟨0, []⟩ = some (num false k, ⟨0, []⟩, []) :=
  Dg.evCall_hint (hs' := []) (hs := [Hint.call 56 (num e n') ⟨0, []⟩ [], Hint.call 54 (num d k) ⟨0, []⟩ []])
    [evCall Tryz.prog 0 (bodied Tryz.prog) ov6 sbs 1000 19 56 [num c n] ⟨0, []⟩ = some (num e n', ⟨0, []⟩, []), evCall Tryz.prog 0 (bodied Tryz.prog) ov6 sbs 1000 19 54 [num b m, num e n'] ⟨0, []⟩ = some (num d k, ⟨0, []⟩, [])] (by kernel_rfl)
    ⟨Dg.evCall_told g3, Dg.evCall_told g4, trivial⟩
theorem less27_r (a1 a2 x y z : Int) (b c d e : Bool) (m n n' k : Nat) (g1 : o6 55 [.int .i64 a1] = some (num b m)) (g2 : o6 55 [.int .i64 a2] = some (num c n)) (g3 : o6 56 [num c n] = some (num e n')) (g4 : o6 54 [num b m, num e n'] = some (num d k)) (g5 : o6 58 [num d k] = some (wd x y)) (g6 : o6 57 [wd x y] = some (.int .i64 z)) :
    evCall Tryz.prog 0 (bodied Tryz.prog) ov6 sbs 1000 20 32 [.int .i64 a1, .int .i64 a2] ⟨0, []⟩ = some (.int .i64 z, ⟨0, []⟩, []) :=
  Dg.evCall_hint (hs' := []) (hs := [Hint.call 55 (num b m) ⟨0, []⟩ [], Hint.call 55 (num c n) ⟨0, []⟩ [], Hint.call 56 (num e n') ⟨0, []⟩ [], Hint.call 54 (num d k) ⟨0, []⟩ [], Hint.call 58 (wd x y) ⟨0, []⟩ [], Hint.call 57 (.int .i64 z) ⟨0, []⟩ []])
    [evCall Tryz.prog 0 (bodied Tryz.prog) ov6 sbs 1000 19 55 [.int .i64 a1] ⟨0, []⟩ = some (num b m, ⟨0, []⟩, []), evCall Tryz.prog 0 (bodied Tryz.prog) ov6 sbs 1000 19 55 [.int .i64 a2] ⟨0, []⟩ = some (num c n, ⟨0, []⟩, []),
     evCall Tryz.prog 0 (bodied Tryz.prog) ov6 sbs 1000 19 56 [num c n] ⟨0, []⟩ = some (num e n', ⟨0, []⟩, []), evCall Tryz.prog 0 (bodied Tryz.prog) ov6 sbs 1000 19 54 [num b m, num e n'] ⟨0, []⟩ = some (num d k, ⟨0, []⟩, []),
     evCall Tryz.prog 0 (bodied Tryz.prog) ov6 sbs 1000 19 58 [num d k] ⟨0, []⟩ = some (wd x y, ⟨0, []⟩, []), evCall Tryz.prog 0 (bodied Tryz.prog) ov6 sbs 1000 19 57 [wd x y] ⟨0, []⟩ = some (.int .i64 z, ⟨0, []⟩, [])] (by kernel_rfl)
    ⟨Dg.evCall_told g1, Dg.evCall_told g2, Dg.evCall_told g3, Dg.evCall_told g4, Dg.evCall_told g5, Dg.evCall_told g6, trivial⟩
def L7 : List FuncId := [81, 80, 32]
noncomputable def o7 : FuncId → List Value → Option Value := lay Tryz.prog (bodied Tryz.prog) ov6 sbs 1000 20 L7 o6
noncomputable abbrev ov7 : Ev := flatOver o7
theorem o7_flats : ∀ f args v, o7 f args = some v → Flats Tryz.prog f args v := Dg.lay_flats mixed okB (Dg.flatOver_ok o6_flats) (by kernel_rfl) o6_flats
theorem under7 {f : FuncId} {args : List Value} {v : Value} (h : o6 f args = some v) (hf : L7.contains f = false := by rfl) : o7 f args = some v := Dg.lay_under hf h
theorem small {v : Int} (hv : InW v) : v.natAbs ≤ 170141183460469231731687303715884105728 := by unfold InW at hv; omega
theorem diff {p q : Int} (hp : InW p) (hq : InW q) : ∃ d k, o6 54 [num (decide (p < 0)) p.natAbs, num (!decide (q < 0)) q.natAbs] = some (num d k) ∧ sval d k = p - q ∧ k < B ^ 20 := by
  have h1 := small hp
  have h2 := small hq
  obtain ⟨d, k, h4, h5, h6⟩ := add_all (decide (p < 0)) (!decide (q < 0)) (m := p.natAbs) (n := q.natAbs) (b19 (by omega))
  refine ⟨d, k, under6 (under5 h4), ?_, b20 (by omega)⟩
  rw [h5, sval_neg, sval_int, sval_int]
  omega
theorem less2_told {p q : Int} (hp : InW p) (hq : InW q) : o7 81 [wv p, wv q] = some (wv (clampW (p - q))) := by
  obtain ⟨d, k, h4, h5, h6⟩ := diff hp hq
  have hw := under6 (wide_all d h6)
  rw [h5] at hw
  exact Dg.lay_told rfl (less2_r _ _ _ _ _ _ _ _ _ _ _ _ _ _ (under6 (from_w hp)) (under6 (from_w hq)) (neg_told _ _) h4 hw) rfl rfl
theorem size3_told (b c : Bool) {m n : Nat} (h : m + n < B ^ 19) : o7 80 [num b m, num c n] = some (num false (sval b m - sval c n).natAbs) := by
  obtain ⟨d, k, h4, h5, h6⟩ := add_all b (!c) h
  have e : (sval b m - sval c n).natAbs = k := by
    rw [sval_neg] at h5
    have : (sval d k).natAbs = k := by unfold sval; cases d <;> simp
    rw [← this, h5]
    rfl
  rw [e]
  exact Dg.lay_told rfl (size_r b c d _ m n _ k (neg_told _ _) (under6 (under5 h4))) (flat2 _ _ _ _) (num_flat _ _)
theorem i64_in {a : Int} (h : I64 a) : InW a := by unfold I64 at h; unfold InW; omega
theorem less27_told {a b : Int} (ha : I64 a) (hb : I64 b) : o7 32 [.int .i64 a, .int .i64 b] = some (.int .i64 (clip64 (clampW (a - b)))) := by
  obtain ⟨d, k, h4, h5, h6⟩ := diff (i64_in ha) (i64_in hb)
  have hw := under6 (wide_all d h6)
  rw [h5] at hw
  have hc := clip_told (wv_in (v := a - b))
  unfold I64 at ha hb
  exact Dg.lay_told rfl (less27_r a b _ _ _ _ _ _ _ _ _ _ _ (under6 (under5 (under2 (of_told a ha)))) (under6 (under5 (under2 (of_told b hb)))) (neg_told _ _) h4 hw hc) rfl rfl
theorem delay_r (h1 l1 h2 l2 h3 l3 h4 l4 x1 y1 x2 y2 x3 y3 z : Int) (g1 : o7 81 [wd h4 l4, wd h1 l1] = some (wd x1 y1)) (g2 : o7 81 [wd h3 l3, wd h2 l2] = some (wd x2 y2)) (g3 : o7 81 [wd x1 y1, wd x2 y2] = some (wd x3 y3)) (g4 : o7 57 [wd x3 y3] = some (.int .i64 z)) :
    evCall Tryz.prog 0 (bodied Tryz.prog) ov7 sbs 1000 20 53 [wd h1 l1, wd h2 l2, wd h3 l3, wd h4 l4] ⟨0, []⟩ = some (.int .i64 z, ⟨0, []⟩, []) :=
  Dg.evCall_hint (hs' := []) (hs := [Hint.call 81 (wd x1 y1) ⟨0, []⟩ [], Hint.call 81 (wd x2 y2) ⟨0, []⟩ [], Hint.call 81 (wd x3 y3) ⟨0, []⟩ [], Hint.call 57 (.int .i64 z) ⟨0, []⟩ []])
    [evCall Tryz.prog 0 (bodied Tryz.prog) ov7 sbs 1000 19 81 [wd h4 l4, wd h1 l1] ⟨0, []⟩ = some (wd x1 y1, ⟨0, []⟩, []), evCall Tryz.prog 0 (bodied Tryz.prog) ov7 sbs 1000 19 81 [wd h3 l3, wd h2 l2] ⟨0, []⟩ = some (wd x2 y2, ⟨0, []⟩, []),
     evCall Tryz.prog 0 (bodied Tryz.prog) ov7 sbs 1000 19 81 [wd x1 y1, wd x2 y2] ⟨0, []⟩ = some (wd x3 y3, ⟨0, []⟩, []), evCall Tryz.prog 0 (bodied Tryz.prog) ov7 sbs 1000 19 57 [wd x3 y3] ⟨0, []⟩ = some (.int .i64 z, ⟨0, []⟩, [])] (by kernel_rfl)
    ⟨Dg.evCall_told g1, Dg.evCall_told g2, Dg.evCall_told g3, Dg.evCall_told g4, trivial⟩
end Go.Proofs.YtmnoegfehgoalaaGreatDoor.num
