/- Wide numbers as whole numbers: when sums and differences go over, half a number. Plain Lean. What the program's sums, differences, halves and clips of wide numbers are, as whole numbers. The era that is nearest, as whole numbers. -/
import Derived.Tactics
import Derived.IntWalk
import Derived.Test.YtmnoegfehgoalaaGreatDoorCxD
namespace Go.Cx
open Go.RowKit
set_option linter.unusedVariables false
def I64 (a : Int) : Prop := -9223372036854775808 ≤ a ∧ a < 9223372036854775808
theorem wrap_neg (x : BitVec 64) : IntKind.wrap .i64 ((x.toNat : Nat) : Int) < 0 ↔ x.msb = true := by
  have := x.isLt
  rw [IntWalk.i64_left, BitVec.msb_eq_decide, decide_eq_true_eq]
  unfold wrap64
  omega
theorem ofInt_msb {a : Int} (h : I64 a) : (BitVec.ofInt 64 a).msb = decide (a < 0) := by
  unfold I64 at h
  rw [BitVec.msb_eq_decide, BitVec.toNat_ofInt]
  by_cases h0 : a < 0
  · rw [decide_eq_true h0, decide_eq_true_eq]; omega
  · rw [decide_eq_false h0, decide_eq_false_iff_not]; omega
theorem wrap_back (x : BitVec 64) : BitVec.ofInt 64 (IntKind.wrap .i64 ((x.toNat : Nat) : Int)) = x := by
  have := x.isLt
  apply BitVec.eq_of_toNat_eq
  rw [BitVec.toNat_ofInt, IntWalk.i64_left]
  unfold wrap64
  omega
theorem bx_msb (a b : Int) : (BitVec.ofInt 64 (bits .xor .i64 a b)).msb = ((BitVec.ofInt 64 a).msb ^^ (BitVec.ofInt 64 b).msb) := by
  show (BitVec.ofInt 64 (IntKind.wrap .i64 (((BitVec.ofInt 64 a ^^^ BitVec.ofInt 64 b).toNat : Nat) : Int))).msb = _
  rw [wrap_back, BitVec.msb_xor]
theorem ba_neg (a b : Int) : bits .and .i64 a b < 0 ↔ (BitVec.ofInt 64 a).msb = true ∧ (BitVec.ofInt 64 b).msb = true := by
  show IntKind.wrap .i64 (((BitVec.ofInt 64 a &&& BitVec.ofInt 64 b).toNat : Nat) : Int) < 0 ↔ _
  rw [wrap_neg, BitVec.msb_and, Bool.and_eq_true]
/-- Did a sum go over? -/
theorem over_add {a b h : Int} (ha : I64 a) (hb : I64 b) (hh : I64 h) : bits .and .i64 (bits .xor .i64 a h) (bits .xor .i64 b h) < 0 ↔ ((a < 0 ↔ ¬ h < 0) ∧ (b < 0 ↔ ¬ h < 0)) := by
  rw [ba_neg, bx_msb, bx_msb, ofInt_msb ha, ofInt_msb hb, ofInt_msb hh]
  by_cases h1 : a < 0 <;> by_cases h2 : b < 0 <;> by_cases h3 : h < 0 <;> simp [h1, h2, h3]
/-- Did a difference? -/
theorem over_sub {a b h : Int} (ha : I64 a) (hb : I64 b) (hh : I64 h) : bits .and .i64 (bits .xor .i64 a b) (bits .xor .i64 a h) < 0 ↔ ((a < 0 ↔ ¬ b < 0) ∧ (a < 0 ↔ ¬ h < 0)) := by
  rw [ba_neg, bx_msb, bx_msb, ofInt_msb ha, ofInt_msb hb, ofInt_msb hh]
  by_cases h1 : a < 0 <;> by_cases h2 : b < 0 <;> by_cases h3 : h < 0 <;> simp [h1, h2, h3]
def InW (v : Int) : Prop := -170141183460469231731687303715884105728 ≤ v ∧ v < 170141183460469231731687303715884105728
def clampW (v : Int) : Int := if v < -170141183460469231731687303715884105728 then -170141183460469231731687303715884105728 else if 170141183460469231731687303715884105728 ≤ v then 170141183460469231731687303715884105727 else v
theorem clamp_in (v : Int) : InW (clampW v) := by
  unfold InW clampW
  split
  · omega
  · split <;> omega
theorem clamp_id {v : Int} (h : InW v) : clampW v = v := by
  unfold InW at h
  unfold clampW
  rw [if_neg (by omega), if_neg (by omega)]
theorem hi_in {v : Int} (h : InW v) : I64 (v / 18446744073709551616) := by
  unfold InW at h
  unfold I64
  omega
theorem w_u64 (n : Int) : IntKind.wrap .u64 n = n % 18446744073709551616 := by unfold IntKind.wrap; rfl
/-- The upper half of a sum, of a difference. -/
theorem sum_hi (a1 b1 c : Int) : wrap64 ((IntKind.wrap .u64 a1 + IntKind.wrap .u64 b1 + c) % 18446744073709551616) = wrap64 (a1 + b1 + c) := by
  rw [w_u64, w_u64]
  unfold wrap64
  omega
theorem sub_hi (a1 b1 c : Int) : wrap64 ((IntKind.wrap .u64 a1 - IntKind.wrap .u64 b1 - c) % 18446744073709551616) = wrap64 (a1 - b1 - c) := by
  rw [w_u64, w_u64]
  unfold wrap64
  omega
theorem wrap64_in (n : Int) : I64 (wrap64 n) := by
  unfold I64 wrap64
  omega
/-- Half a number, its lower half. -/
theorem or_half (h l : Int) (hl : 0 ≤ l ∧ l < 18446744073709551616) : bits .or .u64 (IntKind.wrap .u64 (IntKind.wrap .u64 h * 9223372036854775808)) (l / 2) = h % 2 * 9223372036854775808 + l / 2 := by
  obtain ⟨p, hp⟩ : ∃ p : Nat, h % 2 = (p : Int) := ⟨(h % 2).toNat, by omega⟩
  obtain ⟨q, hq⟩ : ∃ q : Nat, l / 2 = (q : Int) := ⟨(l / 2).toNat, by omega⟩
  have hp2 : p < 2 := by omega
  have hq2 : q < 9223372036854775808 := by omega
  have e1 : IntKind.wrap .u64 (IntKind.wrap .u64 h * 9223372036854775808) = ((p * 9223372036854775808 : Nat) : Int) := by
    rw [w_u64, w_u64]
    omega
  rw [e1, hq, hp]
  show IntKind.wrap .u64 (((BitVec.ofInt 64 ((p * 9223372036854775808 : Nat) : Int) ||| BitVec.ofInt 64 (q : Int)).toNat : Nat) : Int) = _
  have t1 : (BitVec.ofInt 64 ((p * 9223372036854775808 : Nat) : Int)).toNat = p * 9223372036854775808 := by rw [BitVec.toNat_ofInt]; omega
  have t2 : (BitVec.ofInt 64 (q : Int)).toNat = q := by rw [BitVec.toNat_ofInt]; omega
  rw [BitVec.toNat_or, t1, t2, w_u64]
  have hs : p * 9223372036854775808 = p <<< 63 := by rw [Nat.shiftLeft_eq]
  rw [hs, ← Nat.shiftLeft_add_eq_or_of_lt (i := 63) (by exact hq2), Nat.shiftLeft_eq]
  omega
end Go.Cx
namespace Go.Proofs.YtmnoegfehgoalaaGreatDoor.cx
open Go.RowKit Go.Extern.Stop Go.Stop Go.Extern Go.Cx
set_option linter.unusedVariables false
/-- A wide number's value, of a whole number. -/
def wv (v : Int) : Value := wd (v / 18446744073709551616) (v % 18446744073709551616)
theorem wv_hi (v : Int) : hiV (wv v) = v / 18446744073709551616 := rfl
theorem wv_lo (v : Int) : loV (wv v) = v % 18446744073709551616 := rfl
theorem add_val {a b : Int} (ha : InW a) (hb : InW b) : addV (a / 18446744073709551616) (a % 18446744073709551616) (b / 18446744073709551616) (b % 18446744073709551616) = wv (clampW (a + b)) := by
  have h1 := hi_in ha
  have h2 := hi_in hb
  unfold addV
  rw [sum_hi]
  have h3 := wrap64_in (a / 18446744073709551616 + b / 18446744073709551616 + (a % 18446744073709551616 + b % 18446744073709551616) / 18446744073709551616)
  have ho := over_add h1 h2 h3
  unfold InW at ha hb
  unfold I64 at h1 h2
  split
  · rename_i hlt
    have hc := ho.1 hlt
    clear ho hlt h3
    unfold wrap64 at hc
    by_cases hs : a / 18446744073709551616 < 0
    · rw [decide_eq_true hs]
      have : clampW (a + b) = -170141183460469231731687303715884105728 := by unfold clampW; rw [if_pos (by omega)]
      rw [this]
      rfl
    · rw [decide_eq_false hs]
      have : clampW (a + b) = 170141183460469231731687303715884105727 := by unfold clampW; rw [if_neg (by omega), if_pos (by omega)]
      rw [this]
      rfl
  · rename_i hlt
    have hc := mt ho.2 hlt
    clear ho hlt h3
    unfold wrap64 at hc ⊢
    have hin : InW (a + b) := by unfold InW; omega
    rw [clamp_id hin]
    unfold InW at hin
    have e1 : (a / 18446744073709551616 + b / 18446744073709551616 + (a % 18446744073709551616 + b % 18446744073709551616) / 18446744073709551616 + 9223372036854775808) % 18446744073709551616 - 9223372036854775808 = (a + b) / 18446744073709551616 := by omega
    have e2 : (a % 18446744073709551616 + b % 18446744073709551616) % 18446744073709551616 = (a + b) % 18446744073709551616 := by omega
    unfold wv
    rw [e1, e2]
theorem sub_val {a b : Int} (ha : InW a) (hb : InW b) : subV (a / 18446744073709551616) (a % 18446744073709551616) (b / 18446744073709551616) (b % 18446744073709551616) = wv (clampW (a - b)) := by
  have h1 := hi_in ha
  have h2 := hi_in hb
  unfold subV
  rw [sub_hi]
  generalize hc0 : (if a % 18446744073709551616 < b % 18446744073709551616 then (1 : Int) else 0) = c
  have hc1 : (a % 18446744073709551616 < b % 18446744073709551616 ∧ c = 1) ∨ (b % 18446744073709551616 ≤ a % 18446744073709551616 ∧ c = 0) := by
    by_cases h : a % 18446744073709551616 < b % 18446744073709551616
    · rw [if_pos h] at hc0; exact .inl ⟨h, hc0.symm⟩
    · rw [if_neg h] at hc0; exact .inr ⟨by omega, hc0.symm⟩
  clear hc0
  have h3 := wrap64_in (a / 18446744073709551616 - b / 18446744073709551616 - c)
  have ho := over_sub h1 h2 h3
  unfold InW at ha hb
  unfold I64 at h1 h2
  split
  · rename_i hlt
    have hc := ho.1 hlt
    clear ho hlt h3
    unfold wrap64 at hc
    by_cases hs : a / 18446744073709551616 < 0
    · rw [decide_eq_true hs]
      have : clampW (a - b) = -170141183460469231731687303715884105728 := by unfold clampW; rw [if_pos (by omega)]
      rw [this]
      rfl
    · rw [decide_eq_false hs]
      have : clampW (a - b) = 170141183460469231731687303715884105727 := by unfold clampW; rw [if_neg (by omega), if_pos (by omega)]
      rw [this]
      rfl
  · rename_i hlt
    have hc := mt ho.2 hlt
    clear ho hlt h3
    unfold wrap64 at hc ⊢
    have hin : InW (a - b) := by unfold InW; omega
    rw [clamp_id hin]
    unfold InW at hin
    have e1 : (a / 18446744073709551616 - b / 18446744073709551616 - c + 9223372036854775808) % 18446744073709551616 - 9223372036854775808 = (a - b) / 18446744073709551616 := by omega
    have e2 : (a % 18446744073709551616 - b % 18446744073709551616) % 18446744073709551616 = (a - b) % 18446744073709551616 := by omega
    unfold wv
    rw [e1, e2]
/-- As a number of 64 bits, clipped. -/
def clip64 (v : Int) : Int := if v < -9223372036854775808 then -9223372036854775808 else if 9223372036854775808 ≤ v then 9223372036854775807 else v
theorem clip_val {v : Int} (hv : InW v) : clipV (v / 18446744073709551616) (v % 18446744073709551616) = clip64 v := by
  unfold InW at hv
  unfold clipV clip64
  by_cases h : -9223372036854775808 ≤ v ∧ v < 9223372036854775808
  · have e : wrap64 (v % 18446744073709551616) = v := by unfold wrap64; omega
    rw [e, if_pos ⟨by simp only [beq_iff_eq]; omega, by simp⟩, if_neg (by omega), if_neg (by omega)]
  · have e : ¬ ((v / 18446744073709551616 == wrap64 (v % 18446744073709551616) / 9223372036854775808) = true ∧ (v % 18446744073709551616 == wrap64 (v % 18446744073709551616) % 18446744073709551616) = true) := by
      simp only [beq_iff_eq]
      unfold wrap64
      omega
    rw [if_neg e]
    by_cases h0 : v / 18446744073709551616 < 0
    · rw [if_pos h0, if_pos (by omega)]
    · rw [if_neg h0, if_neg (by omega), if_pos (by omega)]
theorem half_val {v : Int} (hv : InW v) : wd ((v / 18446744073709551616) / 2) (halfL (v / 18446744073709551616) (v % 18446744073709551616)) = wv (v / 2) := by
  unfold InW at hv
  unfold halfL
  rw [or_half _ _ (by omega)]
  have e1 : v / 18446744073709551616 / 2 = v / 2 / 18446744073709551616 := by omega
  have e2 : v / 18446744073709551616 % 2 * 9223372036854775808 + v % 18446744073709551616 / 2 = v / 2 % 18446744073709551616 := by omega
  unfold wv
  rw [e1, e2]
/-- An offset, a delay, of whole numbers. -/
def offN (p q r s : Int) : Int := clip64 (clampW (clampW (q - p) + clampW (r - s)) / 2)
def delN (p q r s : Int) : Int := clip64 (clampW (clampW (s - p) - clampW (r - q)))
theorem half_in {v : Int} (h : InW v) : InW (v / 2) := by
  unfold InW at h ⊢
  omega
theorem off_val {p q r s : Int} (hp : InW p) (hq : InW q) (hr : InW r) (hs : InW s) : offV (p / 18446744073709551616) (p % 18446744073709551616) (q / 18446744073709551616) (q % 18446744073709551616) (r / 18446744073709551616) (r % 18446744073709551616) (s / 18446744073709551616) (s % 18446744073709551616) = offN p q r s := by
  unfold offV offN
  rw [sub_val hq hp, sub_val hr hs]
  show clipV (hiV (addV (clampW (q - p) / 18446744073709551616) (clampW (q - p) % 18446744073709551616) (clampW (r - s) / 18446744073709551616) (clampW (r - s) % 18446744073709551616)) / 2) (halfL (hiV (addV (clampW (q - p) / 18446744073709551616) (clampW (q - p) % 18446744073709551616) (clampW (r - s) / 18446744073709551616) (clampW (r - s) % 18446744073709551616))) (loV (addV (clampW (q - p) / 18446744073709551616) (clampW (q - p) % 18446744073709551616) (clampW (r - s) / 18446744073709551616) (clampW (r - s) % 18446744073709551616)))) = _
  rw [add_val (clamp_in _) (clamp_in _), wv_hi, wv_lo]
  have hh := half_val (clamp_in (clampW (q - p) + clampW (r - s)))
  unfold wv at hh
  injection hh with hh
  injection hh with hh
  injection hh with e1 hh
  injection hh with e2 _
  injection e1 with _ e1
  injection e2 with _ e2
  rw [e1, e2]
  exact clip_val (half_in (clamp_in _))
theorem del_val {p q r s : Int} (hp : InW p) (hq : InW q) (hr : InW r) (hs : InW s) : delV (p / 18446744073709551616) (p % 18446744073709551616) (q / 18446744073709551616) (q % 18446744073709551616) (r / 18446744073709551616) (r % 18446744073709551616) (s / 18446744073709551616) (s % 18446744073709551616) = delN p q r s := by
  unfold delV delN
  rw [sub_val hs hp, sub_val hr hq]
  show clipV (hiV (subV (clampW (s - p) / 18446744073709551616) (clampW (s - p) % 18446744073709551616) (clampW (r - q) / 18446744073709551616) (clampW (r - q) % 18446744073709551616))) (loV (subV (clampW (s - p) / 18446744073709551616) (clampW (s - p) % 18446744073709551616) (clampW (r - q) / 18446744073709551616) (clampW (r - q) % 18446744073709551616))) = _
  rw [sub_val (clamp_in _) (clamp_in _), wv_hi, wv_lo]
  exact clip_val (clamp_in _)
/-- Of two whole numbers, held against each other by halves. -/
theorem ov_lt (a b : Int) : ov (cv (a / 18446744073709551616) (b / 18446744073709551616)) (cv (a % 18446744073709551616) (b % 18446744073709551616)) < 0 ↔ a < b := by
  unfold ov cv
  constructor
  · intro h
    split at h <;> (repeat' split at h) <;> omega
  · intro h
    split <;> (repeat' split) <;> omega
theorem ov_eq (a b : Int) : ov (cv (a / 18446744073709551616) (b / 18446744073709551616)) (cv (a % 18446744073709551616) (b % 18446744073709551616)) = 0 ↔ a = b := by
  unfold ov cv
  constructor
  · intro h
    split at h <;> (repeat' split at h) <;> omega
  · intro h
    split <;> (repeat' split) <;> omega
/-- How far two whole numbers are apart. -/
def gapN (a b : Int) : Int := if a < b then clampW (b - a) else clampW (a - b)
theorem gap_val {a b : Int} (ha : InW a) (hb : InW b) : gapV (a / 18446744073709551616) (a % 18446744073709551616) (b / 18446744073709551616) (b % 18446744073709551616) = wv (gapN a b) := by
  unfold gapV gapN
  by_cases h : a < b
  · rw [if_pos ((ov_lt a b).2 h), if_pos h, sub_val hb ha]
  · rw [if_neg (fun h1 => h ((ov_lt a b).1 h1)), if_neg h, sub_val ha hb]
end Go.Proofs.YtmnoegfehgoalaaGreatDoor.cx
namespace Go.Proofs.YtmnoegfehgoalaaGreatDoor.cx
open Go.RowKit Go.Extern.Stop Go.Stop Go.Extern Go.Cx
set_option linter.unusedVariables false
theorem div_of (e s : Int) (hs : 0 ≤ s ∧ s < 18446744073709551616) : (e * 18446744073709551616 + s) / 18446744073709551616 = e ∧ (e * 18446744073709551616 + s) % 18446744073709551616 = s := by omega
theorem gapN_near {a b : Int} (h : -73786976294838206464 < a - b ∧ a - b < 73786976294838206464) : gapN a b = if a < b then b - a else a - b := by
  unfold gapN
  rw [clamp_id (by unfold InW; omega), clamp_id (by unfold InW; omega)]
theorem gap_halves (e s h l : Int) (he : I64 e) (hh : I64 h) (hs : 0 ≤ s ∧ s < 18446744073709551616) (hl : 0 ≤ l ∧ l < 18446744073709551616) : gapV e s h l = wv (gapN (e * 18446744073709551616 + s) (h * 18446744073709551616 + l)) := by
  have h1 : InW (e * 18446744073709551616 + s) := by unfold I64 at he; unfold InW; omega
  have h2 : InW (h * 18446744073709551616 + l) := by unfold I64 at hh; unfold InW; omega
  have h3 := gap_val h1 h2
  rw [(div_of e s hs).1, (div_of e s hs).2, (div_of h l hl).1, (div_of h l hl).2] at h3
  exact h3
theorem try_val (e s h l b : Int) (he : I64 e) (hh : I64 h) (hb : I64 b) (hs : 0 ≤ s ∧ s < 18446744073709551616) (hl : 0 ≤ l ∧ l < 18446744073709551616) :
    tryC e s h l b s = (decide (gapN (e * 18446744073709551616 + s) (h * 18446744073709551616 + l) < gapN (b * 18446744073709551616 + s) (h * 18446744073709551616 + l)) || (decide (gapN (e * 18446744073709551616 + s) (h * 18446744073709551616 + l) = gapN (b * 18446744073709551616 + s) (h * 18446744073709551616 + l)) && decide (e < b))) := by
  unfold tryC
  rw [gap_halves e s h l he hh hs hl, gap_halves b s h l hb hh hs hl]
  generalize gapN (e * 18446744073709551616 + s) (h * 18446744073709551616 + l) = f
  generalize gapN (b * 18446744073709551616 + s) (h * 18446744073709551616 + l) = o
  show (decide (ov (cv (f / 18446744073709551616) (o / 18446744073709551616)) (cv (f % 18446744073709551616) (o % 18446744073709551616)) < 0) || (ov (cv (f / 18446744073709551616) (o / 18446744073709551616)) (cv (f % 18446744073709551616) (o % 18446744073709551616)) == 0 && decide (ov (cv e b) (cv s s) < 0))) = _
  have h1 := ov_lt f o
  have h2 := ov_eq f o
  have h3 : ov (cv e b) (cv s s) < 0 ↔ e < b := by
    unfold ov cv
    constructor
    · intro h
      split at h <;> (repeat' split at h) <;> omega
    · intro h
      split <;> (repeat' split) <;> omega
  rw [decide_eq_decide.2 h1, decide_eq_decide.2 h3]
  have h4 : (ov (cv (f / 18446744073709551616) (o / 18446744073709551616)) (cv (f % 18446744073709551616) (o % 18446744073709551616)) == 0) = decide (f = o) := by
    rw [Bool.eq_iff_iff, beq_iff_eq, decide_eq_true_iff]
    exact h2
  rw [h4]
/-- The nearest era. -/
def eraN (s h l : Int) : Int := if 9223372036854775808 < l - s ∧ h < 9223372036854775807 then h + 1 else if 9223372036854775808 ≤ s - l ∧ -9223372036854775808 < h then h - 1 else h
theorem unf_val (s h l : Int) (hh : I64 h) (hs : 0 ≤ s ∧ s < 18446744073709551616) (hl : 0 ≤ l ∧ l < 18446744073709551616) : unfH s h l = eraN s h l := by
  have hh' := hh
  unfold I64 at hh'
  have g0 : gapN (h * 18446744073709551616 + s) (h * 18446744073709551616 + l) = if s < l then l - s else s - l := by
    rw [gapN_near (by omega)]
    split <;> split <;> omega
  have g1 : gapN ((h + 1) * 18446744073709551616 + s) (h * 18446744073709551616 + l) = 18446744073709551616 + s - l := by
    rw [gapN_near (by omega)]
    split <;> omega
  have g2 : gapN ((h - 1) * 18446744073709551616 + s) (h * 18446744073709551616 + l) = 18446744073709551616 - s + l := by
    rw [gapN_near (by omega)]
    split <;> omega
  have u1 : unf1 s h l = if 9223372036854775808 < l - s ∧ h < 9223372036854775807 then h + 1 else h := by
    unfold unf1
    by_cases hm : h < 9223372036854775807
    · rw [if_pos hm]
      unfold tryH
      rw [try_val (h + 1) s h l h (by unfold I64; omega) hh hh hs hl, g0, g1]
      by_cases hc : 9223372036854775808 < l - s
      · rw [if_pos (show s < l by omega), if_pos (show 9223372036854775808 < l - s ∧ h < 9223372036854775807 from ⟨hc, hm⟩), if_pos]
        simp only [Bool.or_eq_true, decide_eq_true_iff]
        omega
      · rw [if_neg (show ¬ (9223372036854775808 < l - s ∧ h < 9223372036854775807) by omega), if_neg]
        simp only [Bool.or_eq_true, Bool.and_eq_true, decide_eq_true_iff]
        split <;> omega
    · rw [if_neg hm, if_neg (by omega)]
  unfold unfH eraN
  rw [u1]
  by_cases hm : -9223372036854775808 < h
  · rw [if_pos hm]
    by_cases hc : 9223372036854775808 < l - s ∧ h < 9223372036854775807
    · rw [if_pos hc, if_pos hc]
      unfold tryH
      rw [try_val (h - 1) s h l (h + 1) (by unfold I64; omega) hh (by unfold I64; omega) hs hl, g1, g2, if_neg]
      simp only [Bool.or_eq_true, Bool.and_eq_true, decide_eq_true_iff]
      omega
    · rw [if_neg hc, if_neg hc]
      unfold tryH
      rw [try_val (h - 1) s h l h (by unfold I64; omega) hh hh hs hl, g0, g2]
      by_cases hd : 9223372036854775808 ≤ s - l
      · rw [if_pos (show 9223372036854775808 ≤ s - l ∧ -9223372036854775808 < h from ⟨hd, hm⟩), if_neg (show ¬ s < l by omega), if_pos]
        simp only [Bool.or_eq_true, Bool.and_eq_true, decide_eq_true_iff]
        omega
      · rw [if_neg (show ¬ (9223372036854775808 ≤ s - l ∧ -9223372036854775808 < h) by omega), if_neg]
        simp only [Bool.or_eq_true, Bool.and_eq_true, decide_eq_true_iff]
        split <;> omega
  · rw [if_neg hm, if_neg (show ¬ (9223372036854775808 ≤ s - l ∧ -9223372036854775808 < h) by omega)]
end Go.Proofs.YtmnoegfehgoalaaGreatDoor.cx
