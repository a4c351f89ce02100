/- Wide numbers as whole numbers; decimal texts put together of parts. Plain Lean. Wide numbers: what sums, differences, sizes come to, by halves. bits.Div64 by 10^18, by its two digits. -/
import Derived.Test.YtflgpkkbifkpoaaGreatDoorRows
import Derived.Test.YtflgpkkbifkpoaaGreatDoorNumA
namespace Go.Proofs.YtflgpkkbifkpoaaGreatDoor.num
set_option linter.unusedVariables false

/-! ### Bits of signs -/
def xr (a b : Int) : Int := IntKind.wrap .i64 ((BitVec.toNat (BitVec.ofInt 64 a ^^^ BitVec.ofInt 64 b) : Nat) : Int)
def an (a b : Int) : Int := IntKind.wrap .i64 ((BitVec.toNat (BitVec.ofInt 64 a &&& BitVec.ofInt 64 b) : Nat) : Int)
def I64 (a : Int) : Prop := -9223372036854775808 ≤ a ∧ a < 9223372036854775808
theorem wrap_neg (x : BitVec 64) : IntKind.wrap .i64 ((x.toNat : Nat) : Int) < 0 ↔ x.msb = true := by
  have := x.isLt
  rw [Dg.w_i64, BitVec.msb_eq_decide, decide_eq_true_eq]
  omega
theorem ofInt_msb {a : Int} (h : I64 a) : (BitVec.ofInt 64 a).msb = decide (a < 0) := by
  unfold I64 at h
  rw [BitVec.msb_eq_decide, BitVec.toNat_ofInt]
  by_cases h0 : a < 0
  · rw [decide_eq_true h0, decide_eq_true_eq]; omega
  · rw [decide_eq_false h0, decide_eq_false_iff_not]; omega
theorem xr_neg {a b : Int} (ha : I64 a) (hb : I64 b) : xr a b < 0 ↔ (a < 0 ↔ ¬ b < 0) := by
  unfold xr
  rw [wrap_neg, BitVec.msb_xor, ofInt_msb ha, ofInt_msb hb]
  by_cases h1 : a < 0 <;> by_cases h2 : b < 0 <;> simp [h1, h2]
theorem wrap_back (x : BitVec 64) : BitVec.ofInt 64 (IntKind.wrap .i64 ((x.toNat : Nat) : Int)) = x := by
  have := x.isLt
  apply BitVec.eq_of_toNat_eq
  rw [BitVec.toNat_ofInt, Dg.w_i64]
  omega
theorem an_neg {a b : Int} : an a b < 0 ↔ (BitVec.ofInt 64 a).msb = true ∧ (BitVec.ofInt 64 b).msb = true := by
  unfold an
  rw [wrap_neg, BitVec.msb_and, Bool.and_eq_true]
theorem xr_msb (a b : Int) : (BitVec.ofInt 64 (xr a b)).msb = ((BitVec.ofInt 64 a).msb ^^ (BitVec.ofInt 64 b).msb) := by
  unfold xr
  rw [wrap_back, BitVec.msb_xor]
/-- Did a sum go over? -/
theorem over_is {a b h : Int} (ha : I64 a) (hb : I64 b) (hh : I64 h) : an (xr a h) (xr b h) < 0 ↔ ((a < 0 ↔ ¬ h < 0) ∧ (b < 0 ↔ ¬ h < 0)) := by
  rw [an_neg, xr_msb, xr_msb, ofInt_msb ha, ofInt_msb hb, ofInt_msb hh]
  by_cases h1 : a < 0 <;> by_cases h2 : b < 0 <;> by_cases h3 : h < 0 <;> simp [h1, h2, h3]
/-- Did a difference? -/
theorem overS_is {a b h : Int} (ha : I64 a) (hb : I64 b) (hh : I64 h) : an (xr a b) (xr a h) < 0 ↔ ((a < 0 ↔ ¬ b < 0) ∧ (a < 0 ↔ ¬ h < 0)) := by
  rw [an_neg, xr_msb, xr_msb, ofInt_msb ha, ofInt_msb hb, ofInt_msb hh]
  by_cases h1 : a < 0 <;> by_cases h2 : b < 0 <;> by_cases h3 : h < 0 <;> simp [h1, h2, h3]
/-- The low half of a word. -/
theorem and_low {a : Nat} (h : a < 18446744073709551616) : (BitVec.toNat (BitVec.ofInt 64 (a : Int) &&& BitVec.ofInt 64 4294967295) : Nat) = a % 4294967296 := by
  rw [BitVec.toNat_and, BitVec.toNat_ofInt, BitVec.toNat_ofInt]
  have e1 : (((a : Int)) % ((2 ^ 64 : Nat) : Int)).toNat = a := by omega
  have e2 : ((4294967295 : Int) % ((2 ^ 64 : Nat) : Int)).toNat = 2 ^ 32 - 1 := by decide
  rw [e1, e2, Nat.and_two_pow_sub_one_eq_mod]
theorem or_small {a b : Nat} (hb : b < 16) (ha : a * 16 + b < 18446744073709551616) : (BitVec.toNat (BitVec.ofInt 64 ((a * 16 : Nat) : Int) ||| BitVec.ofInt 64 (b : Int)) : Nat) = a * 16 + b := by
  rw [BitVec.toNat_or, BitVec.toNat_ofInt, BitVec.toNat_ofInt]
  have e1 : ((((a * 16 : Nat) : Int)) % ((2 ^ 64 : Nat) : Int)).toNat = a * 16 := by omega
  have e2 : (((b : Int)) % ((2 ^ 64 : Nat) : Int)).toNat = b := by omega
  rw [e1, e2, show a * 16 = a <<< 4 by rw [Nat.shiftLeft_eq], ← Nat.shiftLeft_add_eq_or_of_lt (i := 4) (by omega)]

/-! ### Wide numbers -/
abbrev wd (h l : Int) : Value := .agg #[.int .i64 h, .int .u64 l]
def wv (v : Int) : Value := wd (v / 18446744073709551616) (v % 18446744073709551616)
def InW (v : Int) : Prop := -170141183460469231731687303715884105728 ≤ v ∧ v < 170141183460469231731687303715884105728
def clampW (v : Int) : Int := if v < -170141183460469231731687303715884105728 then -170141183460469231731687303715884105728 else if 170141183460469231731687303715884105728 ≤ v then 170141183460469231731687303715884105727 else v
theorem clamp_in (v : Int) : InW (clampW v) := by
  unfold InW clampW
  split
  · omega
  · split <;> omega
theorem clamp_id {v : Int} (h : InW v) : clampW v = v := by
  unfold InW at h
  unfold clampW
  rw [if_neg (by omega), if_neg (by omega)]
theorem wv_eq {v h l : Int} (hv : v = h * 18446744073709551616 + l) (hl : 0 ≤ l ∧ l < 18446744073709551616) : wv v = wd h l := by
  unfold wv
  have e1 : v / 18446744073709551616 = h := by omega
  have e2 : v % 18446744073709551616 = l := by omega
  rw [e1, e2]
theorem wv_parts {v : Int} (h : InW v) : ∃ h l : Int, wv v = wd h l ∧ v = h * 18446744073709551616 + l ∧ (0 ≤ l ∧ l < 18446744073709551616) ∧ I64 h := by
  refine ⟨v / 18446744073709551616, v % 18446744073709551616, rfl, ?_, ?_, ?_⟩
  · omega
  · omega
  · unfold I64
    unfold InW at h
    omega
theorem wv_inj {u v : Int} (h : wv u = wv v) : u = v := by
  unfold wv at h
  injection h with h1
  have h2 := congrArg Array.toList h1
  simp only [List.cons.injEq] at h2
  injection h2.1 with _ e1
  injection h2.2.1 with _ e2
  omega

/-! ### Decimal texts -/
theorem dec_snoc {a d : Nat} (ha : 0 < a) (hd : d < 10) : Lib.decDigits (10 * a + d) = Lib.decDigits a ++ [UInt8.ofNat (48 + d)] := by
  rw [Lib.decDigits, dif_neg (by omega)]
  rw [show (10 * a + d) / 10 = a by omega, show (10 * a + d) % 10 = d by omega]
def pad : Nat → Nat → List UInt8
  | 0, _ => []
  | k + 1, r => pad k (r / 10) ++ [UInt8.ofNat (48 + r % 10)]
theorem dec_pad {a : Nat} (ha : 0 < a) : ∀ k r, r < 10 ^ k → Lib.decDigits (a * 10 ^ k + r) = Lib.decDigits a ++ pad k r := by
  intro k
  induction k with
  | zero =>
    intro r hr
    have : r = 0 := by simpa using hr
    subst this
    simp [pad]
  | succ k ih =>
    intro r hr
    rw [Nat.pow_succ] at hr ⊢
    have e : a * (10 ^ k * 10) + r = 10 * (a * 10 ^ k + r / 10) + r % 10 := by
      rw [← Nat.mul_assoc, Nat.mul_comm (a * 10 ^ k) 10]
      omega
    rw [e, dec_snoc (Nat.lt_of_lt_of_le (Nat.mul_pos ha (Nat.pow_pos (by decide))) (Nat.le_add_right _ _)) (by omega), ih _ (by omega), pad, List.append_assoc]
theorem pad_zero : ∀ k, pad k 0 = List.replicate k 48 := by
  intro k
  induction k with
  | zero => rfl
  | succ k ih => rw [pad, Nat.zero_div, ih, List.replicate_succ']; rfl
theorem nd_snoc {r : Nat} (h : ¬ r < 10) : Lib.nDigits r = Lib.nDigits (r / 10) + 1 := by
  rw [← Lib.decDigits_length, ← Lib.decDigits_length, Lib.decDigits, dif_neg h, List.length_append]
  rfl
theorem pad_dec : ∀ k r, r < 10 ^ (k + 1) → pad (k + 1) r = List.replicate (k + 1 - Lib.nDigits r) 48 ++ Lib.decDigits r := by
  intro k
  induction k with
  | zero =>
    intro r hr
    have h : r < 10 := by simpa using hr
    have e : Lib.nDigits r = 1 := by rw [← Lib.decDigits_length, Lib.decDigits_one h]; rfl
    rw [e, Lib.decDigits_one h, pad, pad, show r % 10 = r by omega]
    rfl
  | succ k ih =>
    intro r hr
    rw [pad]
    by_cases h : r < 10
    · have e : Lib.nDigits r = 1 := by rw [← Lib.decDigits_length, Lib.decDigits_one h]; rfl
      rw [e, Lib.decDigits_one h, show r / 10 = 0 by omega, show r % 10 = r by omega, pad_zero]
      rfl
    · have e2 : Lib.decDigits r = Lib.decDigits (r / 10) ++ [UInt8.ofNat (48 + r % 10)] := by rw [Lib.decDigits, dif_neg h]
      rw [ih (r / 10) (by rw [Nat.pow_succ] at hr; omega), nd_snoc h, e2, show k + 1 + 1 - (Lib.nDigits (r / 10) + 1) = k + 1 - Lib.nDigits (r / 10) by omega, List.append_assoc]
theorem itoa_natN (u : Nat) : Lib.itoa (u : Int) = Lib.decDigits u := by unfold Lib.itoa; rw [if_neg (by omega)]; simp
theorem itoa_negN (u : Nat) (h : 1 ≤ u) : Lib.itoa (-(u : Int)) = 45 :: Lib.decDigits u := by unfold Lib.itoa; rw [if_pos (by omega)]; simp
/-- A number's text, of a part in front and 18 digits. -/
theorem itoa_split {q v : Int} {r : Nat} (hr : r < 1000000000000000000) (hq : q ≠ 0) (hv : v = q * 1000000000000000000 + (if 0 < q then (r : Int) else -(r : Int))) :
    Lib.itoa v = Lib.itoa q ++ List.replicate (18 - Lib.nDigits r) 48 ++ Lib.decDigits r := by
  have key : ∀ a : Nat, 0 < a → Lib.decDigits (a * 1000000000000000000 + r) = Lib.decDigits a ++ List.replicate (18 - Lib.nDigits r) 48 ++ Lib.decDigits r := fun a ha => by
    have := dec_pad ha 18 r hr
    rw [pad_dec 17 r hr, ← List.append_assoc] at this
    exact this
  rcases Int.lt_or_le q 0 with h | h
  · obtain ⟨a, rfl⟩ : ∃ a : Nat, q = -(a : Int) := ⟨q.natAbs, by omega⟩
    rw [if_neg (by omega)] at hv
    have e : v.natAbs = a * 1000000000000000000 + r := by omega
    have e1 : Lib.itoa v = 45 :: Lib.decDigits v.natAbs := by unfold Lib.itoa; rw [if_pos (by omega)]
    rw [e1, e, key a (by omega), itoa_negN a (by omega)]
    rfl
  · obtain ⟨a, rfl⟩ : ∃ a : Nat, q = (a : Int) := ⟨q.toNat, by omega⟩
    rw [if_pos (by omega)] at hv
    have e : v.toNat = a * 1000000000000000000 + r := by omega
    have e1 : Lib.itoa v = Lib.decDigits v.toNat := by unfold Lib.itoa; rw [if_neg (by omega)]
    rw [e1, e, key a (by omega), itoa_natN a]

/-! ### What digits of a wide number spell, as they come -/
def sgd (neg : Bool) (a : Nat) : Int := if neg then -(a : Int) else (a : Int)
def wstep (neg : Bool) (w : Int) (c : UInt8) : Int := clampW (clampW (w * 10) + sgd neg (c.toNat - 48))
def wval (neg : Bool) (w : Int) (l : List UInt8) : Int := l.foldl (wstep neg) w
theorem wval_in (neg : Bool) : ∀ (l : List UInt8) (w : Int), InW w → InW (wval neg w l) := by
  intro l
  induction l with
  | nil => intro w h; exact h
  | cons c r ih => intro w h; exact ih _ (clamp_in _)
theorem wval_exact (neg : Bool) : ∀ (l : List UInt8) (acc : Nat), (∀ c ∈ l, DigB c) → InW (sgd neg (valB acc l)) → wval neg (sgd neg acc) l = sgd neg (valB acc l) := by
  intro l
  induction l with
  | nil => intro acc _ _; rfl
  | cons c r ih =>
    intro acc hd h
    have hc := hd c (List.mem_cons_self ..)
    unfold DigB at hc
    rw [valB_cons] at h ⊢
    have h1 := valB_le r (stepB acc c)
    have h2 : stepB acc c = acc * 10 + (c.toNat - 48) := rfl
    have e : wstep neg (sgd neg acc) c = sgd neg (stepB acc c) := by
      unfold wstep
      generalize valB (stepB acc c) r = v at *
      generalize stepB acc c = s at *
      have r1 : InW (sgd neg acc * 10) := by
        unfold InW sgd at *
        split at h <;> simp_all <;> omega
      have r2 : InW (sgd neg s) := by
        unfold InW sgd at *
        split at h <;> simp_all <;> omega
      rw [clamp_id r1]
      have e3 : sgd neg acc * 10 + sgd neg (c.toNat - 48) = sgd neg s := by
        unfold sgd
        split <;> omega
      rw [e3, clamp_id r2]
    show wval neg (wstep neg (sgd neg acc) c) r = _
    rw [e]
    exact ih _ (fun d hd' => hd d (List.mem_cons_of_mem _ hd')) h
/-- The wide number that a text is. -/
noncomputable def undecW (l : List UInt8) : Option Int := open Classical in if h : ∃ v, InW v ∧ Lib.itoa v = l then some h.choose else none
theorem undecW_some {l : List UInt8} {v : Int} : undecW l = some v ↔ InW v ∧ Lib.itoa v = l := by
  unfold undecW
  constructor
  · intro h
    split at h
    · rename_i hx
      cases h
      exact hx.choose_spec
    · cases h
  · rintro ⟨h1, h2⟩
    have hx : ∃ v, InW v ∧ Lib.itoa v = l := ⟨v, h1, h2⟩
    rw [dif_pos hx]
    exact congrArg some (itoa_inj (hx.choose_spec.2.trans h2.symm))
noncomputable def undecWV (l : List UInt8) : Int × Bool := match undecW l with
  | some v => (v, true)
  | none => (0, false)
/-- Is there a sign in front? What is behind it? -/
def negB (l : List UInt8) : Bool := l.head? == some 45
def restB (l : List UInt8) : List UInt8 := if negB l then l.tail else l
theorem restB_len (l : List UInt8) : (negB l = true ∧ (restB l).length + 1 = l.length) ∨ (negB l = false ∧ restB l = l) := by
  unfold restB
  cases h : negB l with
  | false => exact .inr ⟨rfl, rfl⟩
  | true =>
    refine .inl ⟨rfl, ?_⟩
    cases l with
    | nil => cases h
    | cons c r => rfl
theorem natAbs_in {v : Int} (h : InW v) : v.natAbs < 10 ^ 39 := by
  unfold InW at h
  have e : (10 : Nat) ^ 39 = 1000000000000000000000000000000000000000 := by decide
  omega
/-- A wide number's own text. -/
theorem own_wide {v : Int} (h : InW v) : negB (Lib.itoa v) = decide (v < 0) ∧ restB (Lib.itoa v) = Lib.decDigits v.natAbs ∧ (restB (Lib.itoa v)).length ≤ 40 ∧ (∀ c ∈ restB (Lib.itoa v), DigB c) ∧ wval (negB (Lib.itoa v)) 0 (restB (Lib.itoa v)) = v := by
  obtain ⟨d1, d2, d3⟩ := dec_val v.natAbs
  have hn := nDigits_le (m := v.natAbs) (k := 38) (natAbs_in h)
  have hlen : (Lib.decDigits v.natAbs).length ≤ 40 := by rw [Lib.decDigits_length]; omega
  have fin : ∀ (neg : Bool), sgd neg v.natAbs = v → wval neg 0 (Lib.decDigits v.natAbs) = v := fun neg e => by
    have := wval_exact neg (Lib.decDigits v.natAbs) 0 d2 (by rw [d1, e]; exact h)
    have e0 : sgd neg 0 = 0 := by unfold sgd; split <;> rfl
    rw [d1, e, e0] at this
    exact this
  by_cases h0 : v < 0
  · have hl : Lib.itoa v = 45 :: Lib.decDigits v.natAbs := by unfold Lib.itoa; rw [if_pos h0]
    have hb : negB (Lib.itoa v) = true := by rw [hl]; rfl
    have hr : restB (Lib.itoa v) = Lib.decDigits v.natAbs := by unfold restB; rw [hb, hl]; rfl
    rw [hb, hr]
    exact ⟨(decide_eq_true h0).symm, rfl, hlen, d2, fin true (by unfold sgd; rw [if_pos rfl]; omega)⟩
  · have hl : Lib.itoa v = Lib.decDigits v.natAbs := by unfold Lib.itoa; rw [if_neg h0]; congr 1; omega
    have hb : negB (Lib.itoa v) = false := by
      rw [hl]
      cases hd : Lib.decDigits v.natAbs with
      | nil => rfl
      | cons c r =>
        have := d2 c (by rw [hd]; exact List.mem_cons_self ..)
        unfold DigB at this
        unfold negB
        simp only [List.head?_cons]
        rw [beq_eq_false_iff_ne]
        intro e
        injection e with e
        subst e
        revert this
        decide
    have hr : restB (Lib.itoa v) = Lib.decDigits v.natAbs := by unfold restB; rw [hb, hl]; rfl
    rw [hb, hr]
    exact ⟨(decide_eq_false h0).symm, rfl, hlen, d2, fin false (by unfold sgd; rw [if_neg (by decide)]; omega)⟩
/-- What going over the digits, and telling the number again, shows. -/
theorem undecW_fold (l : List UInt8) (hd : ∀ c ∈ restB l, DigB c) : undecWV l = if Lib.itoa (wval (negB l) 0 (restB l)) = l then (wval (negB l) 0 (restB l), true) else (0, false) := by
  unfold undecWV
  have hz : InW 0 := by unfold InW; omega
  by_cases h : Lib.itoa (wval (negB l) 0 (restB l)) = l
  · rw [if_pos h, undecW_some.2 ⟨wval_in _ _ _ hz, h⟩]
  · rw [if_neg h]
    cases hu : undecW l with
    | none => rfl
    | some v =>
      obtain ⟨h1, h2⟩ := undecW_some.1 hu
      exfalso
      apply h
      subst h2
      rw [(own_wide h1).2.2.2.2]
theorem undecW_bad (l : List UInt8) (hd : (restB l).length > 40 ∨ ∃ c ∈ restB l, ¬ DigB c) : undecWV l = (0, false) := by
  unfold undecWV
  cases hu : undecW l with
  | none => rfl
  | some v =>
    obtain ⟨h1, h2⟩ := undecW_some.1 hu
    subst h2
    obtain ⟨_, _, h3, h4, _⟩ := own_wide h1
    rcases hd with hd | ⟨c, hc, hd⟩
    · omega
    · exact absurd (h4 c hc) hd
end Go.Proofs.YtflgpkkbifkpoaaGreatDoor.num

namespace Go.Proofs.YtflgpkkbifkpoaaGreatDoor.num
open Go.Dg (junk St Ex Ev Hint evCall evCallS evCode evCodeK innerKp evCodeS evLoop cleanSt ue bodied noOver sbOf headOf tailOf bodyOf rAssign rBody lBody Flats flatOver Heap AObj SCall Law ofLaw Fix)
set_option linter.unusedVariables false
set_option linter.unusedSimpArgs false

theorem wu {x v : Int} (h : x % 18446744073709551616 = v) : Value.int .u64 (IntKind.wrap .u64 x) = .int .u64 v := by rw [Dg.w_u64, h]
theorem wi {x v : Int} (h : (x + 9223372036854775808) % 18446744073709551616 - 9223372036854775808 = v) : Value.int .i64 (IntKind.wrap .i64 x) = .int .i64 v := by rw [Dg.w_i64, h]
/-- A half of 64 bits. -/
def U64 (x : Int) : Prop := 0 ≤ x ∧ x < 18446744073709551616
theorem ad_lo {x y v : Int} {c : Nat} (hx : U64 x) (hy : U64 y) (h : (x + y + c) % 18446744073709551616 = v) : Value.int .u64 (Int.ofNat ((x.toNat + y.toNat + c) % 18446744073709551616)) = .int .u64 v := by
  unfold U64 at hx hy
  congr 1
  show (((x.toNat + y.toNat + c) % 18446744073709551616 : Nat) : Int) = v
  omega
theorem ad_hi {x y v : Int} {c : Nat} (hx : U64 x) (hy : U64 y) (h : (x + y + c) / 18446744073709551616 = v) : Value.int .u64 (Int.ofNat ((x.toNat + y.toNat + c) / 18446744073709551616)) = .int .u64 v := by
  unfold U64 at hx hy
  congr 1
  show (((x.toNat + y.toNat + c) / 18446744073709551616 : Nat) : Int) = v
  omega
theorem sb_lo {x y v : Int} {c : Nat} (hx : U64 x) (hy : U64 y) (hc : c ≤ 1) (h : (x - y - c) % 18446744073709551616 = v) : Value.int .u64 (Int.ofNat ((18446744073709551616 + x.toNat - y.toNat - c) % 18446744073709551616)) = .int .u64 v := by
  unfold U64 at hx hy
  congr 1
  show (((18446744073709551616 + x.toNat - y.toNat - c) % 18446744073709551616 : Nat) : Int) = v
  omega
theorem sb_hi1 {x y : Int} {c : Nat} (hx : U64 x) (hy : U64 y) (h : x < y + c) : Value.int .u64 (Int.ofNat (if x.toNat < y.toNat + c then 1 else 0)) = .int .u64 1 := by
  unfold U64 at hx hy
  rw [if_pos (by omega)]
  rfl
theorem sb_hi0 {x y : Int} {c : Nat} (hx : U64 x) (hy : U64 y) (h : ¬ x < y + c) : Value.int .u64 (Int.ofNat (if x.toNat < y.toNat + c then 1 else 0)) = .int .u64 0 := by
  unfold U64 at hx hy
  rw [if_neg (by omega)]
  rfl
--< wof_p
theorem wof_p (n : Int) (h0 : 0 ≤ n) (h1 : n < 9223372036854775808) :
    evCall Tryz.prog 0 (bodied Tryz.prog) noOver sbs 1000 20 25 [Value.int IntKind.i64 n] { n := 0, objs := [] } = some (Value.agg #[Value.int IntKind.i64 0, Value.int IntKind.u64 n], { n := 0, objs := [] }, []) :=
  Dg.evCall_hint (hs' := []) (hs := [Hint.soft 25 4 (Value.int IntKind.i64 0),
    Hint.val 25 6 (Value.int IntKind.u64 n)])
    [(0 : Int) ≤ (63 : Int),
    Value.int IntKind.i64 (Int.fdiv n ((2 : Int) ^ (63 : Nat))) = Value.int IntKind.i64 (0 : Int),
    Value.int IntKind.u64 (IntKind.wrap IntKind.u64 n) = Value.int IntKind.u64 n] (by kernel_rfl)
    ⟨by omega, Dg.int_eq (by rw [Int.fdiv_eq_ediv_of_nonneg _ (by decide)]; omega), wu (by omega), trivial⟩
--> wof_p
--< wof_n
theorem wof_n (n : Int) (m : Int) (h0 : n < 0) (h1 : -9223372036854775808 ≤ n) (hm : m = n + 18446744073709551616) :
    evCall Tryz.prog 0 (bodied Tryz.prog) noOver sbs 1000 20 25 [Value.int IntKind.i64 n] { n := 0, objs := [] } = some (Value.agg #[Value.int IntKind.i64 (-1), Value.int IntKind.u64 m], { n := 0, objs := [] }, []) :=
  Dg.evCall_hint (hs' := []) (hs := [Hint.soft 25 4 (Value.int IntKind.i64 (-1)),
    Hint.val 25 6 (Value.int IntKind.u64 m)])
    [(0 : Int) ≤ (63 : Int),
    Value.int IntKind.i64 (Int.fdiv n ((2 : Int) ^ (63 : Nat))) = Value.int IntKind.i64 (-1 : Int),
    Value.int IntKind.u64 (IntKind.wrap IntKind.u64 n) = Value.int IntKind.u64 m] (by kernel_rfl)
    ⟨by omega, Dg.int_eq (by rw [Int.fdiv_eq_ediv_of_nonneg _ (by decide)]; omega), wu (by omega), trivial⟩
--> wof_n
--< wadd0n
theorem wadd0n (ah : Int) (al : Int) (bh : Int) (bl : Int) (lo : Int) (ua : Int) (ub : Int) (hu : Int) (h : Int) (x : Int) (y : Int) (z : Int) (ha : U64 al) (hb : U64 bl) (hua : U64 ua) (hub : U64 ub) (ea : ah % 18446744073709551616 = ua) (eb : bh % 18446744073709551616 = ub) (el : (al + bl + (↑0 : Int)) % 18446744073709551616 = lo) (ec : (al + bl + (↑0 : Int)) / 18446744073709551616 = 0) (eh : (ua + ub + (↑0 : Int)) % 18446744073709551616 = hu) (ei : (hu + 9223372036854775808) % 18446744073709551616 - 9223372036854775808 = h) (hx : xr ah h = x) (hy : xr bh h = y) (hz : an x y = z) (hov : 0 ≤ z) :
    evCall Tryz.prog 0 (bodied Tryz.prog) noOver sbs 1000 20 24 [wd ah al, wd bh bl] { n := 0, objs := [] } = some (Value.agg #[Value.int IntKind.i64 h, Value.int IntKind.u64 lo], { n := 0, objs := [] }, []) :=
  Dg.evCall_hint (hs' := []) (hs := [Hint.val 24 16 (Value.int IntKind.u64 lo),
    Hint.val 24 17 (Value.int IntKind.u64 0),
    Hint.val 24 21 (Value.int IntKind.u64 ua),
    Hint.val 24 24 (Value.int IntKind.u64 ub),
    Hint.val 24 27 (Value.int IntKind.u64 hu),
    Hint.val 24 32 (Value.int IntKind.i64 h),
    Hint.val 24 33 (Value.int IntKind.i64 x),
    Hint.val 24 37 (Value.int IntKind.i64 h),
    Hint.val 24 38 (Value.int IntKind.i64 y),
    Hint.val 24 39 (Value.int IntKind.i64 z),
    Hint.val 24 40 (Value.bool false),
    Hint.val 24 47 (Value.int IntKind.i64 h)])
    [Value.int IntKind.u64 (Int.ofNat ((Int.toNat al + Int.toNat bl + (0 : Nat)) % (18446744073709551616 : Nat))) = Value.int IntKind.u64 lo,
    Value.int IntKind.u64 (Int.ofNat ((Int.toNat al + Int.toNat bl + (0 : Nat)) / (18446744073709551616 : Nat))) = Value.int IntKind.u64 (0 : Int),
    Value.int IntKind.u64 (IntKind.wrap IntKind.u64 ah) = Value.int IntKind.u64 ua,
    Value.int IntKind.u64 (IntKind.wrap IntKind.u64 bh) = Value.int IntKind.u64 ub,
    Value.int IntKind.u64 (Int.ofNat ((Int.toNat ua + Int.toNat ub + (0 : Nat)) % (18446744073709551616 : Nat))) = Value.int IntKind.u64 hu,
    Value.int IntKind.i64 (IntKind.wrap IntKind.i64 hu) = Value.int IntKind.i64 h,
    Value.int IntKind.i64 (IntKind.wrap IntKind.i64 (↑(BitVec.toNat (BitVec.ofInt (64 : Nat) ah ^^^ BitVec.ofInt (64 : Nat) h)) : Int)) = Value.int IntKind.i64 x,
    Value.int IntKind.i64 (IntKind.wrap IntKind.i64 hu) = Value.int IntKind.i64 h,
    Value.int IntKind.i64 (IntKind.wrap IntKind.i64 (↑(BitVec.toNat (BitVec.ofInt (64 : Nat) bh ^^^ BitVec.ofInt (64 : Nat) h)) : Int)) = Value.int IntKind.i64 y,
    Value.int IntKind.i64 (IntKind.wrap IntKind.i64 (↑(BitVec.toNat (BitVec.ofInt (64 : Nat) x &&& BitVec.ofInt (64 : Nat) y)) : Int)) = Value.int IntKind.i64 z,
    Value.bool (decide (z < (0 : Int))) = Value.bool false,
    Value.int IntKind.i64 (IntKind.wrap IntKind.i64 hu) = Value.int IntKind.i64 h] (by kernel_rfl)
    ⟨ad_lo ha hb el, ad_hi ha hb ec, wu ea, wu eb, ad_lo hua hub eh, wi ei, Dg.int_eq hx, wi ei, Dg.int_eq hy, Dg.int_eq hz, Dg.vfalse (by omega), wi ei, trivial⟩
--> wadd0n
--< wadd0l
theorem wadd0l (ah : Int) (al : Int) (bh : Int) (bl : Int) (lo : Int) (ua : Int) (ub : Int) (hu : Int) (h : Int) (x : Int) (y : Int) (z : Int) (ha : U64 al) (hb : U64 bl) (hua : U64 ua) (hub : U64 ub) (ea : ah % 18446744073709551616 = ua) (eb : bh % 18446744073709551616 = ub) (el : (al + bl + (↑0 : Int)) % 18446744073709551616 = lo) (ec : (al + bl + (↑0 : Int)) / 18446744073709551616 = 0) (eh : (ua + ub + (↑0 : Int)) % 18446744073709551616 = hu) (ei : (hu + 9223372036854775808) % 18446744073709551616 - 9223372036854775808 = h) (hx : xr ah h = x) (hy : xr bh h = y) (hz : an x y = z) (hov : z < 0) (hs : ah < 0) :
    evCall Tryz.prog 0 (bodied Tryz.prog) noOver sbs 1000 20 24 [wd ah al, wd bh bl] { n := 0, objs := [] } = some (Value.agg #[Value.int IntKind.i64 (-9223372036854775808), Value.int IntKind.u64 0], { n := 0, objs := [] }, []) :=
  Dg.evCall_hint (hs' := []) (hs := [Hint.val 24 16 (Value.int IntKind.u64 lo),
    Hint.val 24 17 (Value.int IntKind.u64 0),
    Hint.val 24 21 (Value.int IntKind.u64 ua),
    Hint.val 24 24 (Value.int IntKind.u64 ub),
    Hint.val 24 27 (Value.int IntKind.u64 hu),
    Hint.val 24 32 (Value.int IntKind.i64 h),
    Hint.val 24 33 (Value.int IntKind.i64 x),
    Hint.val 24 37 (Value.int IntKind.i64 h),
    Hint.val 24 38 (Value.int IntKind.i64 y),
    Hint.val 24 39 (Value.int IntKind.i64 z),
    Hint.val 24 40 (Value.bool true),
    Hint.val 24 44 (Value.bool true)])
    [Value.int IntKind.u64 (Int.ofNat ((Int.toNat al + Int.toNat bl + (0 : Nat)) % (18446744073709551616 : Nat))) = Value.int IntKind.u64 lo,
    Value.int IntKind.u64 (Int.ofNat ((Int.toNat al + Int.toNat bl + (0 : Nat)) / (18446744073709551616 : Nat))) = Value.int IntKind.u64 (0 : Int),
    Value.int IntKind.u64 (IntKind.wrap IntKind.u64 ah) = Value.int IntKind.u64 ua,
    Value.int IntKind.u64 (IntKind.wrap IntKind.u64 bh) = Value.int IntKind.u64 ub,
    Value.int IntKind.u64 (Int.ofNat ((Int.toNat ua + Int.toNat ub + (0 : Nat)) % (18446744073709551616 : Nat))) = Value.int IntKind.u64 hu,
    Value.int IntKind.i64 (IntKind.wrap IntKind.i64 hu) = Value.int IntKind.i64 h,
    Value.int IntKind.i64 (IntKind.wrap IntKind.i64 (↑(BitVec.toNat (BitVec.ofInt (64 : Nat) ah ^^^ BitVec.ofInt (64 : Nat) h)) : Int)) = Value.int IntKind.i64 x,
    Value.int IntKind.i64 (IntKind.wrap IntKind.i64 hu) = Value.int IntKind.i64 h,
    Value.int IntKind.i64 (IntKind.wrap IntKind.i64 (↑(BitVec.toNat (BitVec.ofInt (64 : Nat) bh ^^^ BitVec.ofInt (64 : Nat) h)) : Int)) = Value.int IntKind.i64 y,
    Value.int IntKind.i64 (IntKind.wrap IntKind.i64 (↑(BitVec.toNat (BitVec.ofInt (64 : Nat) x &&& BitVec.ofInt (64 : Nat) y)) : Int)) = Value.int IntKind.i64 z,
    Value.bool (decide (z < (0 : Int))) = Value.bool true,
    Value.bool (decide (ah < (0 : Int))) = Value.bool true] (by kernel_rfl)
    ⟨ad_lo ha hb el, ad_hi ha hb ec, wu ea, wu eb, ad_lo hua hub eh, wi ei, Dg.int_eq hx, wi ei, Dg.int_eq hy, Dg.int_eq hz, Dg.vtrue (by omega), Dg.vtrue (by omega), trivial⟩
--> wadd0l
--< wadd0m
theorem wadd0m (ah : Int) (al : Int) (bh : Int) (bl : Int) (lo : Int) (ua : Int) (ub : Int) (hu : Int) (h : Int) (x : Int) (y : Int) (z : Int) (ha : U64 al) (hb : U64 bl) (hua : U64 ua) (hub : U64 ub) (ea : ah % 18446744073709551616 = ua) (eb : bh % 18446744073709551616 = ub) (el : (al + bl + (↑0 : Int)) % 18446744073709551616 = lo) (ec : (al + bl + (↑0 : Int)) / 18446744073709551616 = 0) (eh : (ua + ub + (↑0 : Int)) % 18446744073709551616 = hu) (ei : (hu + 9223372036854775808) % 18446744073709551616 - 9223372036854775808 = h) (hx : xr ah h = x) (hy : xr bh h = y) (hz : an x y = z) (hov : z < 0) (hs : 0 ≤ ah) :
    evCall Tryz.prog 0 (bodied Tryz.prog) noOver sbs 1000 20 24 [wd ah al, wd bh bl] { n := 0, objs := [] } = some (Value.agg #[Value.int IntKind.i64 9223372036854775807, Value.int IntKind.u64 18446744073709551615], { n := 0, objs := [] }, []) :=
  Dg.evCall_hint (hs' := []) (hs := [Hint.val 24 16 (Value.int IntKind.u64 lo),
    Hint.val 24 17 (Value.int IntKind.u64 0),
    Hint.val 24 21 (Value.int IntKind.u64 ua),
    Hint.val 24 24 (Value.int IntKind.u64 ub),
    Hint.val 24 27 (Value.int IntKind.u64 hu),
    Hint.val 24 32 (Value.int IntKind.i64 h),
    Hint.val 24 33 (Value.int IntKind.i64 x),
    Hint.val 24 37 (Value.int IntKind.i64 h),
    Hint.val 24 38 (Value.int IntKind.i64 y),
    Hint.val 24 39 (Value.int IntKind.i64 z),
    Hint.val 24 40 (Value.bool true),
    Hint.val 24 44 (Value.bool false)])
    [Value.int IntKind.u64 (Int.ofNat ((Int.toNat al + Int.toNat bl + (0 : Nat)) % (18446744073709551616 : Nat))) = Value.int IntKind.u64 lo,
    Value.int IntKind.u64 (Int.ofNat ((Int.toNat al + Int.toNat bl + (0 : Nat)) / (18446744073709551616 : Nat))) = Value.int IntKind.u64 (0 : Int),
    Value.int IntKind.u64 (IntKind.wrap IntKind.u64 ah) = Value.int IntKind.u64 ua,
    Value.int IntKind.u64 (IntKind.wrap IntKind.u64 bh) = Value.int IntKind.u64 ub,
    Value.int IntKind.u64 (Int.ofNat ((Int.toNat ua + Int.toNat ub + (0 : Nat)) % (18446744073709551616 : Nat))) = Value.int IntKind.u64 hu,
    Value.int IntKind.i64 (IntKind.wrap IntKind.i64 hu) = Value.int IntKind.i64 h,
    Value.int IntKind.i64 (IntKind.wrap IntKind.i64 (↑(BitVec.toNat (BitVec.ofInt (64 : Nat) ah ^^^ BitVec.ofInt (64 : Nat) h)) : Int)) = Value.int IntKind.i64 x,
    Value.int IntKind.i64 (IntKind.wrap IntKind.i64 hu) = Value.int IntKind.i64 h,
    Value.int IntKind.i64 (IntKind.wrap IntKind.i64 (↑(BitVec.toNat (BitVec.ofInt (64 : Nat) bh ^^^ BitVec.ofInt (64 : Nat) h)) : Int)) = Value.int IntKind.i64 y,
    Value.int IntKind.i64 (IntKind.wrap IntKind.i64 (↑(BitVec.toNat (BitVec.ofInt (64 : Nat) x &&& BitVec.ofInt (64 : Nat) y)) : Int)) = Value.int IntKind.i64 z,
    Value.bool (decide (z < (0 : Int))) = Value.bool true,
    Value.bool (decide (ah < (0 : Int))) = Value.bool false] (by kernel_rfl)
    ⟨ad_lo ha hb el, ad_hi ha hb ec, wu ea, wu eb, ad_lo hua hub eh, wi ei, Dg.int_eq hx, wi ei, Dg.int_eq hy, Dg.int_eq hz, Dg.vtrue (by omega), Dg.vfalse (by omega), trivial⟩
--> wadd0m
--< wadd1n
theorem wadd1n (ah : Int) (al : Int) (bh : Int) (bl : Int) (lo : Int) (ua : Int) (ub : Int) (hu : Int) (h : Int) (x : Int) (y : Int) (z : Int) (ha : U64 al) (hb : U64 bl) (hua : U64 ua) (hub : U64 ub) (ea : ah % 18446744073709551616 = ua) (eb : bh % 18446744073709551616 = ub) (el : (al + bl + (↑0 : Int)) % 18446744073709551616 = lo) (ec : (al + bl + (↑0 : Int)) / 18446744073709551616 = 1) (eh : (ua + ub + (↑1 : Int)) % 18446744073709551616 = hu) (ei : (hu + 9223372036854775808) % 18446744073709551616 - 9223372036854775808 = h) (hx : xr ah h = x) (hy : xr bh h = y) (hz : an x y = z) (hov : 0 ≤ z) :
    evCall Tryz.prog 0 (bodied Tryz.prog) noOver sbs 1000 20 24 [wd ah al, wd bh bl] { n := 0, objs := [] } = some (Value.agg #[Value.int IntKind.i64 h, Value.int IntKind.u64 lo], { n := 0, objs := [] }, []) :=
  Dg.evCall_hint (hs' := []) (hs := [Hint.val 24 16 (Value.int IntKind.u64 lo),
    Hint.val 24 17 (Value.int IntKind.u64 1),
    Hint.val 24 21 (Value.int IntKind.u64 ua),
    Hint.val 24 24 (Value.int IntKind.u64 ub),
    Hint.val 24 27 (Value.int IntKind.u64 hu),
    Hint.val 24 32 (Value.int IntKind.i64 h),
    Hint.val 24 33 (Value.int IntKind.i64 x),
    Hint.val 24 37 (Value.int IntKind.i64 h),
    Hint.val 24 38 (Value.int IntKind.i64 y),
    Hint.val 24 39 (Value.int IntKind.i64 z),
    Hint.val 24 40 (Value.bool false),
    Hint.val 24 47 (Value.int IntKind.i64 h)])
    [Value.int IntKind.u64 (Int.ofNat ((Int.toNat al + Int.toNat bl + (0 : Nat)) % (18446744073709551616 : Nat))) = Value.int IntKind.u64 lo,
    Value.int IntKind.u64 (Int.ofNat ((Int.toNat al + Int.toNat bl + (0 : Nat)) / (18446744073709551616 : Nat))) = Value.int IntKind.u64 (1 : Int),
    Value.int IntKind.u64 (IntKind.wrap IntKind.u64 ah) = Value.int IntKind.u64 ua,
    Value.int IntKind.u64 (IntKind.wrap IntKind.u64 bh) = Value.int IntKind.u64 ub,
    Value.int IntKind.u64 (Int.ofNat ((Int.toNat ua + Int.toNat ub + (1 : Nat)) % (18446744073709551616 : Nat))) = Value.int IntKind.u64 hu,
    Value.int IntKind.i64 (IntKind.wrap IntKind.i64 hu) = Value.int IntKind.i64 h,
    Value.int IntKind.i64 (IntKind.wrap IntKind.i64 (↑(BitVec.toNat (BitVec.ofInt (64 : Nat) ah ^^^ BitVec.ofInt (64 : Nat) h)) : Int)) = Value.int IntKind.i64 x,
    Value.int IntKind.i64 (IntKind.wrap IntKind.i64 hu) = Value.int IntKind.i64 h,
    Value.int IntKind.i64 (IntKind.wrap IntKind.i64 (↑(BitVec.toNat (BitVec.ofInt (64 : Nat) bh ^^^ BitVec.ofInt (64 : Nat) h)) : Int)) = Value.int IntKind.i64 y,
    Value.int IntKind.i64 (IntKind.wrap IntKind.i64 (↑(BitVec.toNat (BitVec.ofInt (64 : Nat) x &&& BitVec.ofInt (64 : Nat) y)) : Int)) = Value.int IntKind.i64 z,
    Value.bool (decide (z < (0 : Int))) = Value.bool false,
    Value.int IntKind.i64 (IntKind.wrap IntKind.i64 hu) = Value.int IntKind.i64 h] (by kernel_rfl)
    ⟨ad_lo ha hb el, ad_hi ha hb ec, wu ea, wu eb, ad_lo hua hub eh, wi ei, Dg.int_eq hx, wi ei, Dg.int_eq hy, Dg.int_eq hz, Dg.vfalse (by omega), wi ei, trivial⟩
--> wadd1n
--< wadd1l
theorem wadd1l (ah : Int) (al : Int) (bh : Int) (bl : Int) (lo : Int) (ua : Int) (ub : Int) (hu : Int) (h : Int) (x : Int) (y : Int) (z : Int) (ha : U64 al) (hb : U64 bl) (hua : U64 ua) (hub : U64 ub) (ea : ah % 18446744073709551616 = ua) (eb : bh % 18446744073709551616 = ub) (el : (al + bl + (↑0 : Int)) % 18446744073709551616 = lo) (ec : (al + bl + (↑0 : Int)) / 18446744073709551616 = 1) (eh : (ua + ub + (↑1 : Int)) % 18446744073709551616 = hu) (ei : (hu + 9223372036854775808) % 18446744073709551616 - 9223372036854775808 = h) (hx : xr ah h = x) (hy : xr bh h = y) (hz : an x y = z) (hov : z < 0) (hs : ah < 0) :
    evCall Tryz.prog 0 (bodied Tryz.prog) noOver sbs 1000 20 24 [wd ah al, wd bh bl] { n := 0, objs := [] } = some (Value.agg #[Value.int IntKind.i64 (-9223372036854775808), Value.int IntKind.u64 0], { n := 0, objs := [] }, []) :=
  Dg.evCall_hint (hs' := []) (hs := [Hint.val 24 16 (Value.int IntKind.u64 lo),
    Hint.val 24 17 (Value.int IntKind.u64 1),
    Hint.val 24 21 (Value.int IntKind.u64 ua),
    Hint.val 24 24 (Value.int IntKind.u64 ub),
    Hint.val 24 27 (Value.int IntKind.u64 hu),
    Hint.val 24 32 (Value.int IntKind.i64 h),
    Hint.val 24 33 (Value.int IntKind.i64 x),
    Hint.val 24 37 (Value.int IntKind.i64 h),
    Hint.val 24 38 (Value.int IntKind.i64 y),
    Hint.val 24 39 (Value.int IntKind.i64 z),
    Hint.val 24 40 (Value.bool true),
    Hint.val 24 44 (Value.bool true)])
    [Value.int IntKind.u64 (Int.ofNat ((Int.toNat al + Int.toNat bl + (0 : Nat)) % (18446744073709551616 : Nat))) = Value.int IntKind.u64 lo,
    Value.int IntKind.u64 (Int.ofNat ((Int.toNat al + Int.toNat bl + (0 : Nat)) / (18446744073709551616 : Nat))) = Value.int IntKind.u64 (1 : Int),
    Value.int IntKind.u64 (IntKind.wrap IntKind.u64 ah) = Value.int IntKind.u64 ua,
    Value.int IntKind.u64 (IntKind.wrap IntKind.u64 bh) = Value.int IntKind.u64 ub,
    Value.int IntKind.u64 (Int.ofNat ((Int.toNat ua + Int.toNat ub + (1 : Nat)) % (18446744073709551616 : Nat))) = Value.int IntKind.u64 hu,
    Value.int IntKind.i64 (IntKind.wrap IntKind.i64 hu) = Value.int IntKind.i64 h,
    Value.int IntKind.i64 (IntKind.wrap IntKind.i64 (↑(BitVec.toNat (BitVec.ofInt (64 : Nat) ah ^^^ BitVec.ofInt (64 : Nat) h)) : Int)) = Value.int IntKind.i64 x,
    Value.int IntKind.i64 (IntKind.wrap IntKind.i64 hu) = Value.int IntKind.i64 h,
    Value.int IntKind.i64 (IntKind.wrap IntKind.i64 (↑(BitVec.toNat (BitVec.ofInt (64 : Nat) bh ^^^ BitVec.ofInt (64 : Nat) h)) : Int)) = Value.int IntKind.i64 y,
    Value.int IntKind.i64 (IntKind.wrap IntKind.i64 (↑(BitVec.toNat (BitVec.ofInt (64 : Nat) x &&& BitVec.ofInt (64 : Nat) y)) : Int)) = Value.int IntKind.i64 z,
    Value.bool (decide (z < (0 : Int))) = Value.bool true,
    Value.bool (decide (ah < (0 : Int))) = Value.bool true] (by kernel_rfl)
    ⟨ad_lo ha hb el, ad_hi ha hb ec, wu ea, wu eb, ad_lo hua hub eh, wi ei, Dg.int_eq hx, wi ei, Dg.int_eq hy, Dg.int_eq hz, Dg.vtrue (by omega), Dg.vtrue (by omega), trivial⟩
--> wadd1l
--< wadd1m
theorem wadd1m (ah : Int) (al : Int) (bh : Int) (bl : Int) (lo : Int) (ua : Int) (ub : Int) (hu : Int) (h : Int) (x : Int) (y : Int) (z : Int) (ha : U64 al) (hb : U64 bl) (hua : U64 ua) (hub : U64 ub) (ea : ah % 18446744073709551616 = ua) (eb : bh % 18446744073709551616 = ub) (el : (al + bl + (↑0 : Int)) % 18446744073709551616 = lo) (ec : (al + bl + (↑0 : Int)) / 18446744073709551616 = 1) (eh : (ua + ub + (↑1 : Int)) % 18446744073709551616 = hu) (ei : (hu + 9223372036854775808) % 18446744073709551616 - 9223372036854775808 = h) (hx : xr ah h = x) (hy : xr bh h = y) (hz : an x y = z) (hov : z < 0) (hs : 0 ≤ ah) :
    evCall Tryz.prog 0 (bodied Tryz.prog) noOver sbs 1000 20 24 [wd ah al, wd bh bl] { n := 0, objs := [] } = some (Value.agg #[Value.int IntKind.i64 9223372036854775807, Value.int IntKind.u64 18446744073709551615], { n := 0, objs := [] }, []) :=
  Dg.evCall_hint (hs' := []) (hs := [Hint.val 24 16 (Value.int IntKind.u64 lo),
    Hint.val 24 17 (Value.int IntKind.u64 1),
    Hint.val 24 21 (Value.int IntKind.u64 ua),
    Hint.val 24 24 (Value.int IntKind.u64 ub),
    Hint.val 24 27 (Value.int IntKind.u64 hu),
    Hint.val 24 32 (Value.int IntKind.i64 h),
    Hint.val 24 33 (Value.int IntKind.i64 x),
    Hint.val 24 37 (Value.int IntKind.i64 h),
    Hint.val 24 38 (Value.int IntKind.i64 y),
    Hint.val 24 39 (Value.int IntKind.i64 z),
    Hint.val 24 40 (Value.bool true),
    Hint.val 24 44 (Value.bool false)])
    [Value.int IntKind.u64 (Int.ofNat ((Int.toNat al + Int.toNat bl + (0 : Nat)) % (18446744073709551616 : Nat))) = Value.int IntKind.u64 lo,
    Value.int IntKind.u64 (Int.ofNat ((Int.toNat al + Int.toNat bl + (0 : Nat)) / (18446744073709551616 : Nat))) = Value.int IntKind.u64 (1 : Int),
    Value.int IntKind.u64 (IntKind.wrap IntKind.u64 ah) = Value.int IntKind.u64 ua,
    Value.int IntKind.u64 (IntKind.wrap IntKind.u64 bh) = Value.int IntKind.u64 ub,
    Value.int IntKind.u64 (Int.ofNat ((Int.toNat ua + Int.toNat ub + (1 : Nat)) % (18446744073709551616 : Nat))) = Value.int IntKind.u64 hu,
    Value.int IntKind.i64 (IntKind.wrap IntKind.i64 hu) = Value.int IntKind.i64 h,
    Value.int IntKind.i64 (IntKind.wrap IntKind.i64 (↑(BitVec.toNat (BitVec.ofInt (64 : Nat) ah ^^^ BitVec.ofInt (64 : Nat) h)) : Int)) = Value.int IntKind.i64 x,
    Value.int IntKind.i64 (IntKind.wrap IntKind.i64 hu) = Value.int IntKind.i64 h,
    Value.int IntKind.i64 (IntKind.wrap IntKind.i64 (↑(BitVec.toNat (BitVec.ofInt (64 : Nat) bh ^^^ BitVec.ofInt (64 : Nat) h)) : Int)) = Value.int IntKind.i64 y,
    Value.int IntKind.i64 (IntKind.wrap IntKind.i64 (↑(BitVec.toNat (BitVec.ofInt (64 : Nat) x &&& BitVec.ofInt (64 : Nat) y)) : Int)) = Value.int IntKind.i64 z,
    Value.bool (decide (z < (0 : Int))) = Value.bool true,
    Value.bool (decide (ah < (0 : Int))) = Value.bool false] (by kernel_rfl)
    ⟨ad_lo ha hb el, ad_hi ha hb ec, wu ea, wu eb, ad_lo hua hub eh, wi ei, Dg.int_eq hx, wi ei, Dg.int_eq hy, Dg.int_eq hz, Dg.vtrue (by omega), Dg.vfalse (by omega), trivial⟩
--> wadd1m
--< wsub0n
theorem wsub0n (ah : Int) (al : Int) (bh : Int) (bl : Int) (lo : Int) (ua : Int) (ub : Int) (hu : Int) (h : Int) (x : Int) (y : Int) (z : Int) (ha : U64 al) (hb : U64 bl) (hua : U64 ua) (hub : U64 ub) (ea : ah % 18446744073709551616 = ua) (eb : bh % 18446744073709551616 = ub) (el : (al - bl - (↑0 : Int)) % 18446744073709551616 = lo) (ec : ¬al < bl + (↑0 : Int)) (eh : (ua - ub - (↑0 : Int)) % 18446744073709551616 = hu) (ei : (hu + 9223372036854775808) % 18446744073709551616 - 9223372036854775808 = h) (hx : xr ah bh = x) (hy : xr ah h = y) (hz : an x y = z) (hov : 0 ≤ z) :
    evCall Tryz.prog 0 (bodied Tryz.prog) noOver sbs 1000 20 54 [wd ah al, wd bh bl] { n := 0, objs := [] } = some (Value.agg #[Value.int IntKind.i64 h, Value.int IntKind.u64 lo], { n := 0, objs := [] }, []) :=
  Dg.evCall_hint (hs' := []) (hs := [Hint.val 54 16 (Value.int IntKind.u64 lo),
    Hint.val 54 17 (Value.int IntKind.u64 0),
    Hint.val 54 21 (Value.int IntKind.u64 ua),
    Hint.val 54 24 (Value.int IntKind.u64 ub),
    Hint.val 54 27 (Value.int IntKind.u64 hu),
    Hint.val 54 33 (Value.int IntKind.i64 x),
    Hint.val 54 37 (Value.int IntKind.i64 h),
    Hint.val 54 38 (Value.int IntKind.i64 y),
    Hint.val 54 39 (Value.int IntKind.i64 z),
    Hint.val 54 40 (Value.bool false),
    Hint.val 54 47 (Value.int IntKind.i64 h)])
    [Value.int IntKind.u64 (Int.ofNat (((18446744073709551616 : Nat) + Int.toNat al - Int.toNat bl - (0 : Nat)) % (18446744073709551616 : Nat))) = Value.int IntKind.u64 lo,
    Value.int IntKind.u64 (Int.ofNat (if Int.toNat al < Int.toNat bl + (0 : Nat) then (1 : Nat) else (0 : Nat))) = Value.int IntKind.u64 (0 : Int),
    Value.int IntKind.u64 (IntKind.wrap IntKind.u64 ah) = Value.int IntKind.u64 ua,
    Value.int IntKind.u64 (IntKind.wrap IntKind.u64 bh) = Value.int IntKind.u64 ub,
    Value.int IntKind.u64 (Int.ofNat (((18446744073709551616 : Nat) + Int.toNat ua - Int.toNat ub - (0 : Nat)) % (18446744073709551616 : Nat))) = Value.int IntKind.u64 hu,
    Value.int IntKind.i64 (IntKind.wrap IntKind.i64 (↑(BitVec.toNat (BitVec.ofInt (64 : Nat) ah ^^^ BitVec.ofInt (64 : Nat) bh)) : Int)) = Value.int IntKind.i64 x,
    Value.int IntKind.i64 (IntKind.wrap IntKind.i64 hu) = Value.int IntKind.i64 h,
    Value.int IntKind.i64 (IntKind.wrap IntKind.i64 (↑(BitVec.toNat (BitVec.ofInt (64 : Nat) ah ^^^ BitVec.ofInt (64 : Nat) h)) : Int)) = Value.int IntKind.i64 y,
    Value.int IntKind.i64 (IntKind.wrap IntKind.i64 (↑(BitVec.toNat (BitVec.ofInt (64 : Nat) x &&& BitVec.ofInt (64 : Nat) y)) : Int)) = Value.int IntKind.i64 z,
    Value.bool (decide (z < (0 : Int))) = Value.bool false,
    Value.int IntKind.i64 (IntKind.wrap IntKind.i64 hu) = Value.int IntKind.i64 h] (by kernel_rfl)
    ⟨sb_lo ha hb (by omega) el, sb_hi0 ha hb ec, wu ea, wu eb, sb_lo hua hub (by omega) eh, Dg.int_eq hx, wi ei, Dg.int_eq hy, Dg.int_eq hz, Dg.vfalse (by omega), wi ei, trivial⟩
--> wsub0n
--< wsub0l
theorem wsub0l (ah : Int) (al : Int) (bh : Int) (bl : Int) (lo : Int) (ua : Int) (ub : Int) (hu : Int) (h : Int) (x : Int) (y : Int) (z : Int) (ha : U64 al) (hb : U64 bl) (hua : U64 ua) (hub : U64 ub) (ea : ah % 18446744073709551616 = ua) (eb : bh % 18446744073709551616 = ub) (el : (al - bl - (↑0 : Int)) % 18446744073709551616 = lo) (ec : ¬al < bl + (↑0 : Int)) (eh : (ua - ub - (↑0 : Int)) % 18446744073709551616 = hu) (ei : (hu + 9223372036854775808) % 18446744073709551616 - 9223372036854775808 = h) (hx : xr ah bh = x) (hy : xr ah h = y) (hz : an x y = z) (hov : z < 0) (hs : ah < 0) :
    evCall Tryz.prog 0 (bodied Tryz.prog) noOver sbs 1000 20 54 [wd ah al, wd bh bl] { n := 0, objs := [] } = some (Value.agg #[Value.int IntKind.i64 (-9223372036854775808), Value.int IntKind.u64 0], { n := 0, objs := [] }, []) :=
  Dg.evCall_hint (hs' := []) (hs := [Hint.val 54 16 (Value.int IntKind.u64 lo),
    Hint.val 54 17 (Value.int IntKind.u64 0),
    Hint.val 54 21 (Value.int IntKind.u64 ua),
    Hint.val 54 24 (Value.int IntKind.u64 ub),
    Hint.val 54 27 (Value.int IntKind.u64 hu),
    Hint.val 54 33 (Value.int IntKind.i64 x),
    Hint.val 54 37 (Value.int IntKind.i64 h),
    Hint.val 54 38 (Value.int IntKind.i64 y),
    Hint.val 54 39 (Value.int IntKind.i64 z),
    Hint.val 54 40 (Value.bool true),
    Hint.val 54 44 (Value.bool true)])
    [Value.int IntKind.u64 (Int.ofNat (((18446744073709551616 : Nat) + Int.toNat al - Int.toNat bl - (0 : Nat)) % (18446744073709551616 : Nat))) = Value.int IntKind.u64 lo,
    Value.int IntKind.u64 (Int.ofNat (if Int.toNat al < Int.toNat bl + (0 : Nat) then (1 : Nat) else (0 : Nat))) = Value.int IntKind.u64 (0 : Int),
    Value.int IntKind.u64 (IntKind.wrap IntKind.u64 ah) = Value.int IntKind.u64 ua,
    Value.int IntKind.u64 (IntKind.wrap IntKind.u64 bh) = Value.int IntKind.u64 ub,
    Value.int IntKind.u64 (Int.ofNat (((18446744073709551616 : Nat) + Int.toNat ua - Int.toNat ub - (0 : Nat)) % (18446744073709551616 : Nat))) = Value.int IntKind.u64 hu,
    Value.int IntKind.i64 (IntKind.wrap IntKind.i64 (↑(BitVec.toNat (BitVec.ofInt (64 : Nat) ah ^^^ BitVec.ofInt (64 : Nat) bh)) : Int)) = Value.int IntKind.i64 x,
    Value.int IntKind.i64 (IntKind.wrap IntKind.i64 hu) = Value.int IntKind.i64 h,
    Value.int IntKind.i64 (IntKind.wrap IntKind.i64 (↑(BitVec.toNat (BitVec.ofInt (64 : Nat) ah ^^^ BitVec.ofInt (64 : Nat) h)) : Int)) = Value.int IntKind.i64 y,
    Value.int IntKind.i64 (IntKind.wrap IntKind.i64 (↑(BitVec.toNat (BitVec.ofInt (64 : Nat) x &&& BitVec.ofInt (64 : Nat) y)) : Int)) = Value.int IntKind.i64 z,
    Value.bool (decide (z < (0 : Int))) = Value.bool true,
    Value.bool (decide (ah < (0 : Int))) = Value.bool true] (by kernel_rfl)
    ⟨sb_lo ha hb (by omega) el, sb_hi0 ha hb ec, wu ea, wu eb, sb_lo hua hub (by omega) eh, Dg.int_eq hx, wi ei, Dg.int_eq hy, Dg.int_eq hz, Dg.vtrue (by omega), Dg.vtrue (by omega), trivial⟩
--> wsub0l
--< wsub0m
theorem wsub0m (ah : Int) (al : Int) (bh : Int) (bl : Int) (lo : Int) (ua : Int) (ub : Int) (hu : Int) (h : Int) (x : Int) (y : Int) (z : Int) (ha : U64 al) (hb : U64 bl) (hua : U64 ua) (hub : U64 ub) (ea : ah % 18446744073709551616 = ua) (eb : bh % 18446744073709551616 = ub) (el : (al - bl - (↑0 : Int)) % 18446744073709551616 = lo) (ec : ¬al < bl + (↑0 : Int)) (eh : (ua - ub - (↑0 : Int)) % 18446744073709551616 = hu) (ei : (hu + 9223372036854775808) % 18446744073709551616 - 9223372036854775808 = h) (hx : xr ah bh = x) (hy : xr ah h = y) (hz : an x y = z) (hov : z < 0) (hs : 0 ≤ ah) :
    evCall Tryz.prog 0 (bodied Tryz.prog) noOver sbs 1000 20 54 [wd ah al, wd bh bl] { n := 0, objs := [] } = some (Value.agg #[Value.int IntKind.i64 9223372036854775807, Value.int IntKind.u64 18446744073709551615], { n := 0, objs := [] }, []) :=
  Dg.evCall_hint (hs' := []) (hs := [Hint.val 54 16 (Value.int IntKind.u64 lo),
    Hint.val 54 17 (Value.int IntKind.u64 0),
    Hint.val 54 21 (Value.int IntKind.u64 ua),
    Hint.val 54 24 (Value.int IntKind.u64 ub),
    Hint.val 54 27 (Value.int IntKind.u64 hu),
    Hint.val 54 33 (Value.int IntKind.i64 x),
    Hint.val 54 37 (Value.int IntKind.i64 h),
    Hint.val 54 38 (Value.int IntKind.i64 y),
    Hint.val 54 39 (Value.int IntKind.i64 z),
    Hint.val 54 40 (Value.bool true),
    Hint.val 54 44 (Value.bool false)])
    [Value.int IntKind.u64 (Int.ofNat (((18446744073709551616 : Nat) + Int.toNat al - Int.toNat bl - (0 : Nat)) % (18446744073709551616 : Nat))) = Value.int IntKind.u64 lo,
    Value.int IntKind.u64 (Int.ofNat (if Int.toNat al < Int.toNat bl + (0 : Nat) then (1 : Nat) else (0 : Nat))) = Value.int IntKind.u64 (0 : Int),
    Value.int IntKind.u64 (IntKind.wrap IntKind.u64 ah) = Value.int IntKind.u64 ua,
    Value.int IntKind.u64 (IntKind.wrap IntKind.u64 bh) = Value.int IntKind.u64 ub,
    Value.int IntKind.u64 (Int.ofNat (((18446744073709551616 : Nat) + Int.toNat ua - Int.toNat ub - (0 : Nat)) % (18446744073709551616 : Nat))) = Value.int IntKind.u64 hu,
    Value.int IntKind.i64 (IntKind.wrap IntKind.i64 (↑(BitVec.toNat (BitVec.ofInt (64 : Nat) ah ^^^ BitVec.ofInt (64 : Nat) bh)) : Int)) = Value.int IntKind.i64 x,
    Value.int IntKind.i64 (IntKind.wrap IntKind.i64 hu) = Value.int IntKind.i64 h,
    Value.int IntKind.i64 (IntKind.wrap IntKind.i64 (↑(BitVec.toNat (BitVec.ofInt (64 : Nat) ah ^^^ BitVec.ofInt (64 : Nat) h)) : Int)) = Value.int IntKind.i64 y,
    Value.int IntKind.i64 (IntKind.wrap IntKind.i64 (↑(BitVec.toNat (BitVec.ofInt (64 : Nat) x &&& BitVec.ofInt (64 : Nat) y)) : Int)) = Value.int IntKind.i64 z,
    Value.bool (decide (z < (0 : Int))) = Value.bool true,
    Value.bool (decide (ah < (0 : Int))) = Value.bool false] (by kernel_rfl)
    ⟨sb_lo ha hb (by omega) el, sb_hi0 ha hb ec, wu ea, wu eb, sb_lo hua hub (by omega) eh, Dg.int_eq hx, wi ei, Dg.int_eq hy, Dg.int_eq hz, Dg.vtrue (by omega), Dg.vfalse (by omega), trivial⟩
--> wsub0m
--< wsub1n
theorem wsub1n (ah : Int) (al : Int) (bh : Int) (bl : Int) (lo : Int) (ua : Int) (ub : Int) (hu : Int) (h : Int) (x : Int) (y : Int) (z : Int) (ha : U64 al) (hb : U64 bl) (hua : U64 ua) (hub : U64 ub) (ea : ah % 18446744073709551616 = ua) (eb : bh % 18446744073709551616 = ub) (el : (al - bl - (↑0 : Int)) % 18446744073709551616 = lo) (ec : al < bl + (↑0 : Int)) (eh : (ua - ub - (↑1 : Int)) % 18446744073709551616 = hu) (ei : (hu + 9223372036854775808) % 18446744073709551616 - 9223372036854775808 = h) (hx : xr ah bh = x) (hy : xr ah h = y) (hz : an x y = z) (hov : 0 ≤ z) :
    evCall Tryz.prog 0 (bodied Tryz.prog) noOver sbs 1000 20 54 [wd ah al, wd bh bl] { n := 0, objs := [] } = some (Value.agg #[Value.int IntKind.i64 h, Value.int IntKind.u64 lo], { n := 0, objs := [] }, []) :=
  Dg.evCall_hint (hs' := []) (hs := [Hint.val 54 16 (Value.int IntKind.u64 lo),
    Hint.val 54 17 (Value.int IntKind.u64 1),
    Hint.val 54 21 (Value.int IntKind.u64 ua),
    Hint.val 54 24 (Value.int IntKind.u64 ub),
    Hint.val 54 27 (Value.int IntKind.u64 hu),
    Hint.val 54 33 (Value.int IntKind.i64 x),
    Hint.val 54 37 (Value.int IntKind.i64 h),
    Hint.val 54 38 (Value.int IntKind.i64 y),
    Hint.val 54 39 (Value.int IntKind.i64 z),
    Hint.val 54 40 (Value.bool false),
    Hint.val 54 47 (Value.int IntKind.i64 h)])
    [Value.int IntKind.u64 (Int.ofNat (((18446744073709551616 : Nat) + Int.toNat al - Int.toNat bl - (0 : Nat)) % (18446744073709551616 : Nat))) = Value.int IntKind.u64 lo,
    Value.int IntKind.u64 (Int.ofNat (if Int.toNat al < Int.toNat bl + (0 : Nat) then (1 : Nat) else (0 : Nat))) = Value.int IntKind.u64 (1 : Int),
    Value.int IntKind.u64 (IntKind.wrap IntKind.u64 ah) = Value.int IntKind.u64 ua,
    Value.int IntKind.u64 (IntKind.wrap IntKind.u64 bh) = Value.int IntKind.u64 ub,
    Value.int IntKind.u64 (Int.ofNat (((18446744073709551616 : Nat) + Int.toNat ua - Int.toNat ub - (1 : Nat)) % (18446744073709551616 : Nat))) = Value.int IntKind.u64 hu,
    Value.int IntKind.i64 (IntKind.wrap IntKind.i64 (↑(BitVec.toNat (BitVec.ofInt (64 : Nat) ah ^^^ BitVec.ofInt (64 : Nat) bh)) : Int)) = Value.int IntKind.i64 x,
    Value.int IntKind.i64 (IntKind.wrap IntKind.i64 hu) = Value.int IntKind.i64 h,
    Value.int IntKind.i64 (IntKind.wrap IntKind.i64 (↑(BitVec.toNat (BitVec.ofInt (64 : Nat) ah ^^^ BitVec.ofInt (64 : Nat) h)) : Int)) = Value.int IntKind.i64 y,
    Value.int IntKind.i64 (IntKind.wrap IntKind.i64 (↑(BitVec.toNat (BitVec.ofInt (64 : Nat) x &&& BitVec.ofInt (64 : Nat) y)) : Int)) = Value.int IntKind.i64 z,
    Value.bool (decide (z < (0 : Int))) = Value.bool false,
    Value.int IntKind.i64 (IntKind.wrap IntKind.i64 hu) = Value.int IntKind.i64 h] (by kernel_rfl)
    ⟨sb_lo ha hb (by omega) el, sb_hi1 ha hb ec, wu ea, wu eb, sb_lo hua hub (by omega) eh, Dg.int_eq hx, wi ei, Dg.int_eq hy, Dg.int_eq hz, Dg.vfalse (by omega), wi ei, trivial⟩
--> wsub1n
--< wsub1l
theorem wsub1l (ah : Int) (al : Int) (bh : Int) (bl : Int) (lo : Int) (ua : Int) (ub : Int) (hu : Int) (h : Int) (x : Int) (y : Int) (z : Int) (ha : U64 al) (hb : U64 bl) (hua : U64 ua) (hub : U64 ub) (ea : ah % 18446744073709551616 = ua) (eb : bh % 18446744073709551616 = ub) (el : (al - bl - (↑0 : Int)) % 18446744073709551616 = lo) (ec : al < bl + (↑0 : Int)) (eh : (ua - ub - (↑1 : Int)) % 18446744073709551616 = hu) (ei : (hu + 9223372036854775808) % 18446744073709551616 - 9223372036854775808 = h) (hx : xr ah bh = x) (hy : xr ah h = y) (hz : an x y = z) (hov : z < 0) (hs : ah < 0) :
    evCall Tryz.prog 0 (bodied Tryz.prog) noOver sbs 1000 20 54 [wd ah al, wd bh bl] { n := 0, objs := [] } = some (Value.agg #[Value.int IntKind.i64 (-9223372036854775808), Value.int IntKind.u64 0], { n := 0, objs := [] }, []) :=
  Dg.evCall_hint (hs' := []) (hs := [Hint.val 54 16 (Value.int IntKind.u64 lo),
    Hint.val 54 17 (Value.int IntKind.u64 1),
    Hint.val 54 21 (Value.int IntKind.u64 ua),
    Hint.val 54 24 (Value.int IntKind.u64 ub),
    Hint.val 54 27 (Value.int IntKind.u64 hu),
    Hint.val 54 33 (Value.int IntKind.i64 x),
    Hint.val 54 37 (Value.int IntKind.i64 h),
    Hint.val 54 38 (Value.int IntKind.i64 y),
    Hint.val 54 39 (Value.int IntKind.i64 z),
    Hint.val 54 40 (Value.bool true),
    Hint.val 54 44 (Value.bool true)])
    [Value.int IntKind.u64 (Int.ofNat (((18446744073709551616 : Nat) + Int.toNat al - Int.toNat bl - (0 : Nat)) % (18446744073709551616 : Nat))) = Value.int IntKind.u64 lo,
    Value.int IntKind.u64 (Int.ofNat (if Int.toNat al < Int.toNat bl + (0 : Nat) then (1 : Nat) else (0 : Nat))) = Value.int IntKind.u64 (1 : Int),
    Value.int IntKind.u64 (IntKind.wrap IntKind.u64 ah) = Value.int IntKind.u64 ua,
    Value.int IntKind.u64 (IntKind.wrap IntKind.u64 bh) = Value.int IntKind.u64 ub,
    Value.int IntKind.u64 (Int.ofNat (((18446744073709551616 : Nat) + Int.toNat ua - Int.toNat ub - (1 : Nat)) % (18446744073709551616 : Nat))) = Value.int IntKind.u64 hu,
    Value.int IntKind.i64 (IntKind.wrap IntKind.i64 (↑(BitVec.toNat (BitVec.ofInt (64 : Nat) ah ^^^ BitVec.ofInt (64 : Nat) bh)) : Int)) = Value.int IntKind.i64 x,
    Value.int IntKind.i64 (IntKind.wrap IntKind.i64 hu) = Value.int IntKind.i64 h,
    Value.int IntKind.i64 (IntKind.wrap IntKind.i64 (↑(BitVec.toNat (BitVec.ofInt (64 : Nat) ah ^^^ BitVec.ofInt (64 : Nat) h)) : Int)) = Value.int IntKind.i64 y,
    Value.int IntKind.i64 (IntKind.wrap IntKind.i64 (↑(BitVec.toNat (BitVec.ofInt (64 : Nat) x &&& BitVec.ofInt (64 : Nat) y)) : Int)) = Value.int IntKind.i64 z,
    Value.bool (decide (z < (0 : Int))) = Value.bool true,
    Value.bool (decide (ah < (0 : Int))) = Value.bool true] (by kernel_rfl)
    ⟨sb_lo ha hb (by omega) el, sb_hi1 ha hb ec, wu ea, wu eb, sb_lo hua hub (by omega) eh, Dg.int_eq hx, wi ei, Dg.int_eq hy, Dg.int_eq hz, Dg.vtrue (by omega), Dg.vtrue (by omega), trivial⟩
--> wsub1l
--< wsub1m
theorem wsub1m (ah : Int) (al : Int) (bh : Int) (bl : Int) (lo : Int) (ua : Int) (ub : Int) (hu : Int) (h : Int) (x : Int) (y : Int) (z : Int) (ha : U64 al) (hb : U64 bl) (hua : U64 ua) (hub : U64 ub) (ea : ah % 18446744073709551616 = ua) (eb : bh % 18446744073709551616 = ub) (el : (al - bl - (↑0 : Int)) % 18446744073709551616 = lo) (ec : al < bl + (↑0 : Int)) (eh : (ua - ub - (↑1 : Int)) % 18446744073709551616 = hu) (ei : (hu + 9223372036854775808) % 18446744073709551616 - 9223372036854775808 = h) (hx : xr ah bh = x) (hy : xr ah h = y) (hz : an x y = z) (hov : z < 0) (hs : 0 ≤ ah) :
    evCall Tryz.prog 0 (bodied Tryz.prog) noOver sbs 1000 20 54 [wd ah al, wd bh bl] { n := 0, objs := [] } = some (Value.agg #[Value.int IntKind.i64 9223372036854775807, Value.int IntKind.u64 18446744073709551615], { n := 0, objs := [] }, []) :=
  Dg.evCall_hint (hs' := []) (hs := [Hint.val 54 16 (Value.int IntKind.u64 lo),
    Hint.val 54 17 (Value.int IntKind.u64 1),
    Hint.val 54 21 (Value.int IntKind.u64 ua),
    Hint.val 54 24 (Value.int IntKind.u64 ub),
    Hint.val 54 27 (Value.int IntKind.u64 hu),
    Hint.val 54 33 (Value.int IntKind.i64 x),
    Hint.val 54 37 (Value.int IntKind.i64 h),
    Hint.val 54 38 (Value.int IntKind.i64 y),
    Hint.val 54 39 (Value.int IntKind.i64 z),
    Hint.val 54 40 (Value.bool true),
    Hint.val 54 44 (Value.bool false)])
    [Value.int IntKind.u64 (Int.ofNat (((18446744073709551616 : Nat) + Int.toNat al - Int.toNat bl - (0 : Nat)) % (18446744073709551616 : Nat))) = Value.int IntKind.u64 lo,
    Value.int IntKind.u64 (Int.ofNat (if Int.toNat al < Int.toNat bl + (0 : Nat) then (1 : Nat) else (0 : Nat))) = Value.int IntKind.u64 (1 : Int),
    Value.int IntKind.u64 (IntKind.wrap IntKind.u64 ah) = Value.int IntKind.u64 ua,
    Value.int IntKind.u64 (IntKind.wrap IntKind.u64 bh) = Value.int IntKind.u64 ub,
    Value.int IntKind.u64 (Int.ofNat (((18446744073709551616 : Nat) + Int.toNat ua - Int.toNat ub - (1 : Nat)) % (18446744073709551616 : Nat))) = Value.int IntKind.u64 hu,
    Value.int IntKind.i64 (IntKind.wrap IntKind.i64 (↑(BitVec.toNat (BitVec.ofInt (64 : Nat) ah ^^^ BitVec.ofInt (64 : Nat) bh)) : Int)) = Value.int IntKind.i64 x,
    Value.int IntKind.i64 (IntKind.wrap IntKind.i64 hu) = Value.int IntKind.i64 h,
    Value.int IntKind.i64 (IntKind.wrap IntKind.i64 (↑(BitVec.toNat (BitVec.ofInt (64 : Nat) ah ^^^ BitVec.ofInt (64 : Nat) h)) : Int)) = Value.int IntKind.i64 y,
    Value.int IntKind.i64 (IntKind.wrap IntKind.i64 (↑(BitVec.toNat (BitVec.ofInt (64 : Nat) x &&& BitVec.ofInt (64 : Nat) y)) : Int)) = Value.int IntKind.i64 z,
    Value.bool (decide (z < (0 : Int))) = Value.bool true,
    Value.bool (decide (ah < (0 : Int))) = Value.bool false] (by kernel_rfl)
    ⟨sb_lo ha hb (by omega) el, sb_hi1 ha hb ec, wu ea, wu eb, sb_lo hua hub (by omega) eh, Dg.int_eq hx, wi ei, Dg.int_eq hy, Dg.int_eq hz, Dg.vtrue (by omega), Dg.vfalse (by omega), trivial⟩
--> wsub1m
theorem sb_lo0 {y v : Int} {c : Nat} (hy : U64 y) (hc : c ≤ 1) (h : (0 - y - c) % 18446744073709551616 = v) : Value.int .u64 (Int.ofNat ((18446744073709551616 - y.toNat - c) % 18446744073709551616)) = .int .u64 v := by
  unfold U64 at hy
  congr 1
  show (((18446744073709551616 - y.toNat - c) % 18446744073709551616 : Nat) : Int) = v
  omega
theorem sb_hi01 {y : Int} {c : Nat} (hy : U64 y) (h : 0 < y + c) : Value.int .u64 (Int.ofNat (if (0 : Nat) < y.toNat + c then 1 else 0)) = .int .u64 1 := by
  unfold U64 at hy
  rw [if_pos (by omega)]
  rfl
theorem sb_hi00 {y : Int} {c : Nat} (hy : U64 y) (h : ¬ 0 < y + c) : Value.int .u64 (Int.ofNat (if (0 : Nat) < y.toNat + c then 1 else 0)) = .int .u64 0 := by
  unfold U64 at hy
  rw [if_neg (by omega)]
  rfl
theorem sh_and {x v : Int} (hx : U64 x) (h : x % 4294967296 = v) : Value.int .u64 (IntKind.wrap .u64 ((BitVec.toNat (BitVec.ofInt 64 x &&& BitVec.ofInt 64 4294967295) : Nat) : Int)) = .int .u64 v := by
  obtain ⟨h0, h1⟩ := hx
  obtain ⟨a, rfl⟩ := Int.eq_ofNat_of_zero_le h0
  rw [and_low (by omega), Dg.w_u64, ← h]
  congr 1
  omega
theorem sh_or {a b v : Int} (ha : 0 ≤ a) (hb : 0 ≤ b ∧ b < 16) (hv : a * 16 + b = v) (h : v < 18446744073709551616) {c : Int} (hc : a * 16 = c) : Value.int .u64 (IntKind.wrap .u64 ((BitVec.toNat (BitVec.ofInt 64 c ||| BitVec.ofInt 64 b) : Nat) : Int)) = .int .u64 v := by
  obtain ⟨h0, h1⟩ := hb
  subst hc
  obtain ⟨x, rfl⟩ := Int.eq_ofNat_of_zero_le ha
  obtain ⟨y, rfl⟩ := Int.eq_ofNat_of_zero_le h0
  have e := or_small (a := x) (b := y) (by omega) (by omega)
  rw [show ((x : Int) * 16) = ((x * 16 : Nat) : Int) by omega, e, Dg.w_u64]
  congr 1
  omega
--< wsize_p
theorem wsize_p (ah : Int) (al : Int) (h : I64 ah) (h0 : 0 ≤ ah) (hl : U64 al) :
    evCall Tryz.prog 0 (bodied Tryz.prog) noOver sbs 1000 20 51 [wd ah al] { n := 0, objs := [] } = some (Value.tuple #[Value.int IntKind.u64 ah, Value.int IntKind.u64 al], { n := 0, objs := [] }, []) :=
  Dg.evCall_hint (hs' := []) (hs := [Hint.val 51 7 (Value.int IntKind.u64 ah),
    Hint.val 51 12 (Value.bool true)])
    [Value.int IntKind.u64 (IntKind.wrap IntKind.u64 ah) = Value.int IntKind.u64 ah,
    Value.bool (decide (ah ≥ (0 : Int))) = Value.bool true] (by kernel_rfl)
    ⟨wu (by unfold I64 at h; omega), Dg.vtrue (by omega), trivial⟩
--> wsize_p
--< wsize_n0
theorem wsize_n0 (ah : Int) (al : Int) (ua : Int) (sl : Int) (sh : Int) (h : I64 ah) (h0 : ah < 0) (hl : U64 al) (h1 : al = 0) (ea : ah % 18446744073709551616 = ua) (e0 : (0 - al - (↑0 : Int)) % 18446744073709551616 = sl) (e1 : (0 - ua - (↑0 : Int)) % 18446744073709551616 = sh) :
    evCall Tryz.prog 0 (bodied Tryz.prog) noOver sbs 1000 20 51 [wd ah al] { n := 0, objs := [] } = some (Value.tuple #[Value.int IntKind.u64 sh, Value.int IntKind.u64 sl], { n := 0, objs := [] }, []) :=
  Dg.evCall_hint (hs' := []) (hs := [Hint.val 51 7 (Value.int IntKind.u64 ua),
    Hint.val 51 12 (Value.bool false),
    Hint.val 51 18 (Value.int IntKind.u64 sl),
    Hint.val 51 19 (Value.int IntKind.u64 0),
    Hint.val 51 24 (Value.int IntKind.u64 sh)])
    [Value.int IntKind.u64 (IntKind.wrap IntKind.u64 ah) = Value.int IntKind.u64 ua,
    Value.bool (decide (ah ≥ (0 : Int))) = Value.bool false,
    Value.int IntKind.u64 (Int.ofNat (((18446744073709551616 : Nat) - Int.toNat al - (0 : Nat)) % (18446744073709551616 : Nat))) = Value.int IntKind.u64 sl,
    Value.int IntKind.u64 (Int.ofNat (if (0 : Nat) < Int.toNat al + (0 : Nat) then (1 : Nat) else (0 : Nat))) = Value.int IntKind.u64 (0 : Int),
    Value.int IntKind.u64 (Int.ofNat (((18446744073709551616 : Nat) - Int.toNat ua - (0 : Nat)) % (18446744073709551616 : Nat))) = Value.int IntKind.u64 sh] (by kernel_rfl)
    ⟨wu ea, Dg.vfalse (by omega), sb_lo0 hl (by omega) e0, sb_hi00 hl (by omega), sb_lo0 (by unfold U64; omega) (by omega) e1, trivial⟩
--> wsize_n0
--< wsize_n1
theorem wsize_n1 (ah : Int) (al : Int) (ua : Int) (sl : Int) (sh : Int) (h : I64 ah) (h0 : ah < 0) (hl : U64 al) (h1 : 0 < al) (ea : ah % 18446744073709551616 = ua) (e0 : (0 - al - (↑0 : Int)) % 18446744073709551616 = sl) (e1 : (0 - ua - (↑1 : Int)) % 18446744073709551616 = sh) :
    evCall Tryz.prog 0 (bodied Tryz.prog) noOver sbs 1000 20 51 [wd ah al] { n := 0, objs := [] } = some (Value.tuple #[Value.int IntKind.u64 sh, Value.int IntKind.u64 sl], { n := 0, objs := [] }, []) :=
  Dg.evCall_hint (hs' := []) (hs := [Hint.val 51 7 (Value.int IntKind.u64 ua),
    Hint.val 51 12 (Value.bool false),
    Hint.val 51 18 (Value.int IntKind.u64 sl),
    Hint.val 51 19 (Value.int IntKind.u64 1),
    Hint.val 51 24 (Value.int IntKind.u64 sh)])
    [Value.int IntKind.u64 (IntKind.wrap IntKind.u64 ah) = Value.int IntKind.u64 ua,
    Value.bool (decide (ah ≥ (0 : Int))) = Value.bool false,
    Value.int IntKind.u64 (Int.ofNat (((18446744073709551616 : Nat) - Int.toNat al - (0 : Nat)) % (18446744073709551616 : Nat))) = Value.int IntKind.u64 sl,
    Value.int IntKind.u64 (Int.ofNat (if (0 : Nat) < Int.toNat al + (0 : Nat) then (1 : Nat) else (0 : Nat))) = Value.int IntKind.u64 (1 : Int),
    Value.int IntKind.u64 (Int.ofNat (((18446744073709551616 : Nat) - Int.toNat ua - (1 : Nat)) % (18446744073709551616 : Nat))) = Value.int IntKind.u64 sh] (by kernel_rfl)
    ⟨wu ea, Dg.vfalse (by omega), sb_lo0 hl (by omega) e0, sb_hi01 hl (by omega), sb_lo0 (by unfold U64; omega) (by omega) e1, trivial⟩
--> wsize_n1
--< wmul10
theorem wmul10 (x : Int) (x0 : Int) (x1 : Int) (w0 : Int) (m : Int) (a : Int) (t : Int) (w1 : Int) (w2 : Int) (lo : Int) (hx : U64 x) (e0 : x % 4294967296 = x0) (e1 : x / 4294967296 = x1) (e2 : x0 * 10 = w0) (e3 : x1 * 10 = m) (e4 : w0 / 4294967296 = a) (e5 : m + a = t) (e6 : t % 4294967296 = w1) (e7 : t / 4294967296 = w2) (e8 : x * 10 % 18446744073709551616 = lo) :
    evCall Tryz.prog 0 (bodied Tryz.prog) noOver sbs 1000 20 62 [Value.int IntKind.u64 x, Value.int IntKind.u64 10] { n := 0, objs := [] } = some (Value.tuple #[Value.int IntKind.u64 w2, Value.int IntKind.u64 lo], { n := 0, objs := [] }, []) :=
  Dg.evCall_hint (hs' := []) (hs := [Hint.val 62 15 (Value.int IntKind.u64 x0),
    Hint.soft 62 17 (Value.int IntKind.u64 x1),
    Hint.val 62 24 (Value.int IntKind.u64 w0),
    Hint.val 62 27 (Value.int IntKind.u64 m),
    Hint.soft 62 29 (Value.int IntKind.u64 a),
    Hint.val 62 30 (Value.int IntKind.u64 t),
    Hint.val 62 32 (Value.int IntKind.u64 w1),
    Hint.soft 62 34 (Value.int IntKind.u64 w2),
    Hint.val 62 38 (Value.int IntKind.u64 0),
    Hint.val 62 39 (Value.int IntKind.u64 w1),
    Hint.val 62 42 (Value.int IntKind.u64 0),
    Hint.val 62 44 (Value.int IntKind.u64 w2),
    Hint.soft 62 46 (Value.int IntKind.u64 0),
    Hint.val 62 47 (Value.int IntKind.u64 w2),
    Hint.val 62 50 (Value.int IntKind.u64 lo)])
    [Value.int IntKind.u64 (IntKind.wrap IntKind.u64 (↑(BitVec.toNat (BitVec.ofInt (64 : Nat) x &&& BitVec.ofInt (64 : Nat) (4294967295 : Int))) : Int)) = Value.int IntKind.u64 x0,
    (0 : Int) ≤ (32 : Int),
    Value.int IntKind.u64 (Int.fdiv x ((2 : Int) ^ (32 : Nat))) = Value.int IntKind.u64 x1,
    Value.int IntKind.u64 (IntKind.wrap IntKind.u64 (x0 * (10 : Int))) = Value.int IntKind.u64 w0,
    Value.int IntKind.u64 (IntKind.wrap IntKind.u64 (x1 * (10 : Int))) = Value.int IntKind.u64 m,
    (0 : Int) ≤ (32 : Int),
    Value.int IntKind.u64 (Int.fdiv w0 ((2 : Int) ^ (32 : Nat))) = Value.int IntKind.u64 a,
    Value.int IntKind.u64 (IntKind.wrap IntKind.u64 (m + a)) = Value.int IntKind.u64 t,
    Value.int IntKind.u64 (IntKind.wrap IntKind.u64 (↑(BitVec.toNat (BitVec.ofInt (64 : Nat) t &&& BitVec.ofInt (64 : Nat) (4294967295 : Int))) : Int)) = Value.int IntKind.u64 w1,
    (0 : Int) ≤ (32 : Int),
    Value.int IntKind.u64 (Int.fdiv t ((2 : Int) ^ (32 : Nat))) = Value.int IntKind.u64 w2,
    Value.int IntKind.u64 (IntKind.wrap IntKind.u64 (x0 * (0 : Int))) = Value.int IntKind.u64 (0 : Int),
    Value.int IntKind.u64 (IntKind.wrap IntKind.u64 (w1 + (0 : Int))) = Value.int IntKind.u64 w1,
    Value.int IntKind.u64 (IntKind.wrap IntKind.u64 (x1 * (0 : Int))) = Value.int IntKind.u64 (0 : Int),
    Value.int IntKind.u64 (IntKind.wrap IntKind.u64 ((0 : Int) + w2)) = Value.int IntKind.u64 w2,
    (0 : Int) ≤ (32 : Int),
    Value.int IntKind.u64 (Int.fdiv w1 ((2 : Int) ^ (32 : Nat))) = Value.int IntKind.u64 (0 : Int),
    Value.int IntKind.u64 (IntKind.wrap IntKind.u64 (w2 + (0 : Int))) = Value.int IntKind.u64 w2,
    Value.int IntKind.u64 (IntKind.wrap IntKind.u64 (x * (10 : Int))) = Value.int IntKind.u64 lo] (by kernel_rfl)
    ⟨sh_and (by unfold U64 at *; omega) (by omega), by omega, Dg.int_eq (by unfold U64 at hx; rw [Int.fdiv_eq_ediv_of_nonneg _ (by decide)]; omega), wu (by unfold U64 at hx; omega), wu (by unfold U64 at hx; omega), by omega, Dg.int_eq (by unfold U64 at hx; rw [Int.fdiv_eq_ediv_of_nonneg _ (by decide)]; omega), wu (by unfold U64 at hx; omega), sh_and (by unfold U64 at *; omega) (by omega), by omega, Dg.int_eq (by unfold U64 at hx; rw [Int.fdiv_eq_ediv_of_nonneg _ (by decide)]; omega), wu (by unfold U64 at hx; omega), wu (by unfold U64 at hx; omega), wu (by unfold U64 at hx; omega), wu (by unfold U64 at hx; omega), by omega, Dg.int_eq (by unfold U64 at hx; rw [Int.fdiv_eq_ediv_of_nonneg _ (by decide)]; omega), wu (by unfold U64 at hx; omega), wu (by unfold U64 at hx; omega), trivial⟩
--> wmul10
end Go.Proofs.YtflgpkkbifkpoaaGreatDoor.num

namespace Go.Proofs.YtflgpkkbifkpoaaGreatDoor.num
open Go.Dg (junk St Ex Ev Hint evCall evCallS evCode evCodeK innerKp evCodeS evLoop cleanSt ue bodied noOver sbOf headOf tailOf bodyOf rAssign rBody lBody Flats flatOver Heap AObj SCall Law ofLaw Fix)
set_option linter.unusedVariables false
set_option linter.unusedSimpArgs false

/-- The loops of a code that stand in no other one. -/
def loopsD : Code → List Code
  | .seq a b => loopsD a ++ loopsD b
  | .cond _ a b => loopsD a ++ loopsD b
  | .block _ b => loopsD b
  | .loop b => [b]
  | .scope b => loopsD b
  | _ => []
noncomputable def lD1 : Code := (loopsD ((Tryz.f52.body).getD .skip)).getD 0 .skip
noncomputable def lD2 : Code := (loopsD ((Tryz.f52.body).getD .skip)).getD 1 .skip
noncomputable abbrev runD (l : Code) : St → Option (Ex × St) := evCodeK Tryz.prog 0 (bodied Tryz.prog) (evCall Tryz.prog 0 (bodied Tryz.prog) noOver sbs 1000 19) 0 19 1000 l (innerKp l [])
noncomputable abbrev clD (l : Code) : St → St := cleanSt 0 19 (ue l [] []).1
def nD (h l u n10 n1 n0 q r w q2 : Value) : List Value := [h, l, .int .u64 16000000000000000000, undef, undef, undef, .int .u64 0, .int .u64 0, .int .u64 4, .int .u64 3725290298, .int .u64 1983905792, u, n10, n1, n0, q, r, w, q2]
abbrev n64 (x : Int) : Value := .int .u64 x
def SD1 (h l u n10 n1 n0 q r : Int) : St := ⟨nD (n64 h) (n64 l) (n64 u) (n64 n10) (n64 n1) (n64 n0) (n64 q) (n64 r) undef undef ++ js 116, ⟨0, []⟩, []⟩
def ED1 (h l u n10 n1 n0 q r : Int) (t0 t1 t2 t3 t4 t5 t6 t7 t8 t9 t10 t11 t12 t13 t14 t15 t16 t17 t18 : Value) : St := ⟨nD (n64 h) (n64 l) (n64 u) (n64 n10) (n64 n1) (n64 n0) (n64 q) (n64 r) undef undef ++ (js 48 ++ ([t0, t1, t2, t3, t4, t5, t6, t7, t8, t9, t10, t11, t12, t13, t14, t15, t16, t17, t18] ++ js 49)), ⟨0, []⟩, []⟩
def SD2 (h l u n10 n1 n0 q r w q2 : Int) : St := ⟨nD (n64 h) (n64 l) (n64 u) (n64 n10) (n64 n1) (n64 n0) (n64 q) (n64 r) (n64 w) (n64 q2) ++ js 116, ⟨0, []⟩, []⟩
def ED2 (h l u n10 n1 n0 q r w q2 : Int) (t0 t1 t2 t3 t4 t5 t6 t7 t8 t9 t10 t11 t12 t13 t14 t15 t16 t17 t18 : Value) : St := ⟨nD (n64 h) (n64 l) (n64 u) (n64 n10) (n64 n1) (n64 n0) (n64 q) (n64 r) (n64 w) (n64 q2) ++ (js 83 ++ ([t0, t1, t2, t3, t4, t5, t6, t7, t8, t9, t10, t11, t12, t13, t14, t15, t16, t17, t18] ++ js 14)), ⟨0, []⟩, []⟩
theorem tdv2 {x y v : Int} (h0 : 0 ≤ x) (h1 : x / y = v) (h2 : 0 ≤ v ∧ v < 18446744073709551616) : Value.int .u64 (IntKind.wrap .u64 (Int.tdiv x y)) = .int .u64 v := by
  rw [Int.tdiv_eq_ediv_of_nonneg h0, h1, Dg.w_u64]
  congr 1
  omega
theorem tmv' {x y v : Int} (h0 : 0 ≤ x) (h1 : x % y = v) : Value.int .u64 (Int.tmod x y) = .int .u64 v := by rw [Int.tmod_eq_emod_of_nonneg h0, h1]
theorem fdv {x v : Int} {k : Nat} (h : x / 2 ^ k = v) : Value.int .u64 (Int.fdiv x ((2 : Int) ^ k)) = .int .u64 v := by rw [Int.fdiv_eq_ediv_of_nonneg _ (Int.pow_nonneg (by decide)), h]
--< dv0
theorem dv0 (l : Int) (q : Int) (r : Int) (hl : U64 l) (hq : l / 1000000000000000000 = q) (hr : l % 1000000000000000000 = r) :
    evCall Tryz.prog 0 (bodied Tryz.prog) noOver sbs 1000 20 52 [Value.int IntKind.u64 0, Value.int IntKind.u64 l, Value.int IntKind.u64 1000000000000000000] { n := 0, objs := [] } = some (Value.tuple #[Value.int IntKind.u64 q, Value.int IntKind.u64 r], { n := 0, objs := [] }, []) :=
  Dg.evCall_hint (hs' := []) (hs := [Hint.soft 52 30 (Value.int IntKind.u64 q),
    Hint.soft 52 33 (Value.int IntKind.u64 r)])
    [(1000000000000000000 : Int) ≠ (0 : Int),
    Value.int IntKind.u64 (IntKind.wrap IntKind.u64 (Int.tdiv l (1000000000000000000 : Int))) = Value.int IntKind.u64 q,
    (1000000000000000000 : Int) ≠ (0 : Int),
    Value.int IntKind.u64 (Int.tmod l (1000000000000000000 : Int)) = Value.int IntKind.u64 r] (by kernel_rfl)
    ⟨by omega, tdv2 hl.1 hq (by unfold U64 at hl; omega), by omega, tmv' hl.1 hr, trivial⟩
--> dv0
--< dl1a
theorem dl1a (h : Int) (l : Int) (u : Int) (n10 : Int) (n1 : Int) (n0 : Int) (q : Int) (r : Int) (x : Int) (y : Int) (z : Int) (ex : q * 1983905792 = x) (ey : 4294967296 * r = y) (ez : y + n1 = z) (hq : 0 ≤ q ∧ q ≤ 4294967296) (hr : 0 ≤ r ∧ r < 4294967296) (hn : 0 ≤ n1 ∧ n1 < 4294967296) (h0 : q < 4294967296) (h1 : x ≤ z) :
    (runD lD1) (SD1 h l u n10 n1 n0 q r) = some (Ex.exit 0, ({ ts := [Value.int IntKind.u64 h, Value.int IntKind.u64 l, Value.int IntKind.u64 16000000000000000000, undef, undef, undef, Value.int IntKind.u64 0, Value.int IntKind.u64 0, Value.int IntKind.u64 4, Value.int IntKind.u64 3725290298, Value.int IntKind.u64 1983905792, Value.int IntKind.u64 u, Value.int IntKind.u64 n10, Value.int IntKind.u64 n1, Value.int IntKind.u64 n0, Value.int IntKind.u64 q, Value.int IntKind.u64 r, undef, undef, junk, junk, junk, junk, junk, junk, junk, junk, junk, junk, junk, junk, junk, junk, junk, junk, junk, junk, junk, junk, junk, junk, junk, junk, junk, junk, junk, junk, junk, junk, junk, junk, junk, junk, junk, junk, junk, junk, junk, junk, junk, junk, junk, junk, junk, junk, junk, junk, Value.int IntKind.u64 q, Value.bool false, Value.bool false, Value.int IntKind.u64 q, Value.int IntKind.u64 1983905792, Value.int IntKind.u64 x, Value.int IntKind.u64 r, Value.int IntKind.u64 y, Value.int IntKind.u64 n1, Value.int IntKind.u64 z, Value.bool false, Value.bool false, junk, junk, junk, junk, junk, junk, junk, junk, junk, junk, junk, junk, junk, junk, junk, junk, junk, junk, junk, junk, junk, junk, junk, junk, junk, junk, junk, junk, junk, junk, junk, junk, junk, junk, junk, junk, junk, junk, junk, junk, junk, junk, junk, junk, junk, junk, junk, junk, junk, junk, junk, junk, junk, junk, junk, junk], H := { n := 0, objs := [] }, log := [] } : St)) :=
  Dg.evCode_hint (f := 52) (hs' := []) (hs := [Hint.val 52 68 (Value.bool false),
    Hint.val 52 72 (Value.int IntKind.u64 x),
    Hint.val 52 74 (Value.int IntKind.u64 y),
    Hint.val 52 76 (Value.int IntKind.u64 z),
    Hint.val 52 77 (Value.bool false)])
    [Value.bool (decide (q ≥ (4294967296 : Int))) = Value.bool false,
    Value.int IntKind.u64 (IntKind.wrap IntKind.u64 (q * (1983905792 : Int))) = Value.int IntKind.u64 x,
    Value.int IntKind.u64 (IntKind.wrap IntKind.u64 ((4294967296 : Int) * r)) = Value.int IntKind.u64 y,
    Value.int IntKind.u64 (IntKind.wrap IntKind.u64 (y + n1)) = Value.int IntKind.u64 z,
    Value.bool (decide (x > z)) = Value.bool false] (by kernel_rfl)
    ⟨by first | exact Dg.vtrue (by omega) | exact Dg.vfalse (by omega), wu (by omega), wu (by omega), wu (by omega), by first | exact Dg.vtrue (by omega) | exact Dg.vfalse (by omega), trivial⟩
--> dl1a
--< dl1b1
theorem dl1b1 (h : Int) (l : Int) (u : Int) (n10 : Int) (n1 : Int) (n0 : Int) (q : Int) (r : Int) (p : Int) (s : Int) (h0 : q = 4294967296) (hq : 0 ≤ q ∧ q ≤ 4294967296) (hr : 0 ≤ r ∧ r < 4294967296) (hn : 0 ≤ n1 ∧ n1 < 4294967296) (ep : q - 1 = p) (es : r + 3725290298 = s) (hs : 4294967296 ≤ s) :
    (runD lD1) (SD1 h l u n10 n1 n0 q r) = some (Ex.exit 0, ({ ts := [Value.int IntKind.u64 h, Value.int IntKind.u64 l, Value.int IntKind.u64 16000000000000000000, undef, undef, undef, Value.int IntKind.u64 0, Value.int IntKind.u64 0, Value.int IntKind.u64 4, Value.int IntKind.u64 3725290298, Value.int IntKind.u64 1983905792, Value.int IntKind.u64 u, Value.int IntKind.u64 n10, Value.int IntKind.u64 n1, Value.int IntKind.u64 n0, Value.int IntKind.u64 p, Value.int IntKind.u64 s, undef, undef, junk, junk, junk, junk, junk, junk, junk, junk, junk, junk, junk, junk, junk, junk, junk, junk, junk, junk, junk, junk, junk, junk, junk, junk, junk, junk, junk, junk, junk, junk, junk, junk, junk, junk, junk, junk, junk, junk, junk, junk, junk, junk, junk, junk, junk, junk, junk, junk, Value.int IntKind.u64 q, Value.bool true, Value.bool true, undef, undef, undef, undef, undef, undef, undef, undef, Value.bool true, Value.int IntKind.u64 q, Value.int IntKind.u64 p, Value.int IntKind.u64 r, Value.int IntKind.u64 3725290298, Value.int IntKind.u64 s, Value.int IntKind.u64 s, Value.bool true, junk, junk, junk, junk, junk, junk, junk, junk, junk, junk, junk, junk, junk, junk, junk, junk, junk, junk, junk, junk, junk, junk, junk, junk, junk, junk, junk, junk, junk, junk, junk, junk, junk, junk, junk, junk, junk, junk, junk, junk, junk, junk, junk, junk, junk, junk, junk, junk, junk], H := { n := 0, objs := [] }, log := [] } : St)) :=
  Dg.evCode_hint (f := 52) (hs' := []) (hs := [Hint.val 52 68 (Value.bool true),
    Hint.val 52 80 (Value.int IntKind.u64 p),
    Hint.val 52 83 (Value.int IntKind.u64 s),
    Hint.val 52 85 (Value.bool true)])
    [Value.bool (decide (q ≥ (4294967296 : Int))) = Value.bool true,
    Value.int IntKind.u64 (IntKind.wrap IntKind.u64 (q - (1 : Int))) = Value.int IntKind.u64 p,
    Value.int IntKind.u64 (IntKind.wrap IntKind.u64 (r + (3725290298 : Int))) = Value.int IntKind.u64 s,
    Value.bool (decide (s ≥ (4294967296 : Int))) = Value.bool true] (by kernel_rfl)
    ⟨by first | exact Dg.vtrue (by omega) | exact Dg.vfalse (by omega), wu (by omega), wu (by omega), by first | exact Dg.vtrue (by omega) | exact Dg.vfalse (by omega), trivial⟩
--> dl1b1
--< dl1c1
theorem dl1c1 (h : Int) (l : Int) (u : Int) (n10 : Int) (n1 : Int) (n0 : Int) (q : Int) (r : Int) (p : Int) (s : Int) (h0 : q = 4294967296) (hq : 0 ≤ q ∧ q ≤ 4294967296) (hr : 0 ≤ r ∧ r < 4294967296) (hn : 0 ≤ n1 ∧ n1 < 4294967296) (ep : q - 1 = p) (es : r + 3725290298 = s) (hs : s < 4294967296) :
    ∃ s', (runD lD1) (SD1 h l u n10 n1 n0 q r) = some (Ex.normal, s') ∧ (clD lD1) s' = SD1 h l u n10 n1 n0 p s :=
  Dg.code_round (f := 52) (clD lD1) (hs := [Hint.val 52 68 (Value.bool true),
    Hint.val 52 80 (Value.int IntKind.u64 p),
    Hint.val 52 83 (Value.int IntKind.u64 s),
    Hint.val 52 85 (Value.bool false)])
    [Value.bool (decide (q ≥ (4294967296 : Int))) = Value.bool true,
    Value.int IntKind.u64 (IntKind.wrap IntKind.u64 (q - (1 : Int))) = Value.int IntKind.u64 p,
    Value.int IntKind.u64 (IntKind.wrap IntKind.u64 (r + (3725290298 : Int))) = Value.int IntKind.u64 s,
    Value.bool (decide (s ≥ (4294967296 : Int))) = Value.bool false] (by kernel_rfl)
    ⟨by first | exact Dg.vtrue (by omega) | exact Dg.vfalse (by omega), wu (by omega), wu (by omega), by first | exact Dg.vtrue (by omega) | exact Dg.vfalse (by omega), trivial⟩
--> dl1c1
--< dl1b2
theorem dl1b2 (h : Int) (l : Int) (u : Int) (n10 : Int) (n1 : Int) (n0 : Int) (q : Int) (r : Int) (p : Int) (s : Int) (x : Int) (y : Int) (z : Int) (ex : q * 1983905792 = x) (ey : 4294967296 * r = y) (ez : y + n1 = z) (h0 : q < 4294967296) (h1 : z < x) (hq : 0 ≤ q ∧ q ≤ 4294967296) (hr : 0 ≤ r ∧ r < 4294967296) (hn : 0 ≤ n1 ∧ n1 < 4294967296) (ep : q - 1 = p) (es : r + 3725290298 = s) (hs : 4294967296 ≤ s) :
    (runD lD1) (SD1 h l u n10 n1 n0 q r) = some (Ex.exit 0, ({ ts := [Value.int IntKind.u64 h, Value.int IntKind.u64 l, Value.int IntKind.u64 16000000000000000000, undef, undef, undef, Value.int IntKind.u64 0, Value.int IntKind.u64 0, Value.int IntKind.u64 4, Value.int IntKind.u64 3725290298, Value.int IntKind.u64 1983905792, Value.int IntKind.u64 u, Value.int IntKind.u64 n10, Value.int IntKind.u64 n1, Value.int IntKind.u64 n0, Value.int IntKind.u64 p, Value.int IntKind.u64 s, undef, undef, junk, junk, junk, junk, junk, junk, junk, junk, junk, junk, junk, junk, junk, junk, junk, junk, junk, junk, junk, junk, junk, junk, junk, junk, junk, junk, junk, junk, junk, junk, junk, junk, junk, junk, junk, junk, junk, junk, junk, junk, junk, junk, junk, junk, junk, junk, junk, junk, Value.int IntKind.u64 q, Value.bool false, Value.bool false, Value.int IntKind.u64 q, Value.int IntKind.u64 1983905792, Value.int IntKind.u64 x, Value.int IntKind.u64 r, Value.int IntKind.u64 y, Value.int IntKind.u64 n1, Value.int IntKind.u64 z, Value.bool true, Value.bool true, Value.int IntKind.u64 q, Value.int IntKind.u64 p, Value.int IntKind.u64 r, Value.int IntKind.u64 3725290298, Value.int IntKind.u64 s, Value.int IntKind.u64 s, Value.bool true, junk, junk, junk, junk, junk, junk, junk, junk, junk, junk, junk, junk, junk, junk, junk, junk, junk, junk, junk, junk, junk, junk, junk, junk, junk, junk, junk, junk, junk, junk, junk, junk, junk, junk, junk, junk, junk, junk, junk, junk, junk, junk, junk, junk, junk, junk, junk, junk, junk], H := { n := 0, objs := [] }, log := [] } : St)) :=
  Dg.evCode_hint (f := 52) (hs' := []) (hs := [Hint.val 52 68 (Value.bool false),
    Hint.val 52 72 (Value.int IntKind.u64 x),
    Hint.val 52 74 (Value.int IntKind.u64 y),
    Hint.val 52 76 (Value.int IntKind.u64 z),
    Hint.val 52 77 (Value.bool true),
    Hint.val 52 80 (Value.int IntKind.u64 p),
    Hint.val 52 83 (Value.int IntKind.u64 s),
    Hint.val 52 85 (Value.bool true)])
    [Value.bool (decide (q ≥ (4294967296 : Int))) = Value.bool false,
    Value.int IntKind.u64 (IntKind.wrap IntKind.u64 (q * (1983905792 : Int))) = Value.int IntKind.u64 x,
    Value.int IntKind.u64 (IntKind.wrap IntKind.u64 ((4294967296 : Int) * r)) = Value.int IntKind.u64 y,
    Value.int IntKind.u64 (IntKind.wrap IntKind.u64 (y + n1)) = Value.int IntKind.u64 z,
    Value.bool (decide (x > z)) = Value.bool true,
    Value.int IntKind.u64 (IntKind.wrap IntKind.u64 (q - (1 : Int))) = Value.int IntKind.u64 p,
    Value.int IntKind.u64 (IntKind.wrap IntKind.u64 (r + (3725290298 : Int))) = Value.int IntKind.u64 s,
    Value.bool (decide (s ≥ (4294967296 : Int))) = Value.bool true] (by kernel_rfl)
    ⟨by first | exact Dg.vtrue (by omega) | exact Dg.vfalse (by omega), wu (by omega), wu (by omega), wu (by omega), by first | exact Dg.vtrue (by omega) | exact Dg.vfalse (by omega), wu (by omega), wu (by omega), by first | exact Dg.vtrue (by omega) | exact Dg.vfalse (by omega), trivial⟩
--> dl1b2
--< dl1c2
theorem dl1c2 (h : Int) (l : Int) (u : Int) (n10 : Int) (n1 : Int) (n0 : Int) (q : Int) (r : Int) (p : Int) (s : Int) (x : Int) (y : Int) (z : Int) (ex : q * 1983905792 = x) (ey : 4294967296 * r = y) (ez : y + n1 = z) (h0 : q < 4294967296) (h1 : z < x) (hq : 0 ≤ q ∧ q ≤ 4294967296) (hr : 0 ≤ r ∧ r < 4294967296) (hn : 0 ≤ n1 ∧ n1 < 4294967296) (ep : q - 1 = p) (es : r + 3725290298 = s) (hs : s < 4294967296) :
    ∃ s', (runD lD1) (SD1 h l u n10 n1 n0 q r) = some (Ex.normal, s') ∧ (clD lD1) s' = SD1 h l u n10 n1 n0 p s :=
  Dg.code_round (f := 52) (clD lD1) (hs := [Hint.val 52 68 (Value.bool false),
    Hint.val 52 72 (Value.int IntKind.u64 x),
    Hint.val 52 74 (Value.int IntKind.u64 y),
    Hint.val 52 76 (Value.int IntKind.u64 z),
    Hint.val 52 77 (Value.bool true),
    Hint.val 52 80 (Value.int IntKind.u64 p),
    Hint.val 52 83 (Value.int IntKind.u64 s),
    Hint.val 52 85 (Value.bool false)])
    [Value.bool (decide (q ≥ (4294967296 : Int))) = Value.bool false,
    Value.int IntKind.u64 (IntKind.wrap IntKind.u64 (q * (1983905792 : Int))) = Value.int IntKind.u64 x,
    Value.int IntKind.u64 (IntKind.wrap IntKind.u64 ((4294967296 : Int) * r)) = Value.int IntKind.u64 y,
    Value.int IntKind.u64 (IntKind.wrap IntKind.u64 (y + n1)) = Value.int IntKind.u64 z,
    Value.bool (decide (x > z)) = Value.bool true,
    Value.int IntKind.u64 (IntKind.wrap IntKind.u64 (q - (1 : Int))) = Value.int IntKind.u64 p,
    Value.int IntKind.u64 (IntKind.wrap IntKind.u64 (r + (3725290298 : Int))) = Value.int IntKind.u64 s,
    Value.bool (decide (s ≥ (4294967296 : Int))) = Value.bool false] (by kernel_rfl)
    ⟨by first | exact Dg.vtrue (by omega) | exact Dg.vfalse (by omega), wu (by omega), wu (by omega), wu (by omega), by first | exact Dg.vtrue (by omega) | exact Dg.vfalse (by omega), wu (by omega), wu (by omega), by first | exact Dg.vtrue (by omega) | exact Dg.vfalse (by omega), trivial⟩
--> dl1c2
--< dl2a
theorem dl2a (h : Int) (l : Int) (u : Int) (n10 : Int) (n1 : Int) (n0 : Int) (q1 : Int) (q : Int) (r : Int) (w : Int) (x : Int) (y : Int) (z : Int) (ex : q * 1983905792 = x) (ey : 4294967296 * r = y) (ez : y + n0 = z) (hq : 0 ≤ q ∧ q ≤ 4294967296) (hr : 0 ≤ r ∧ r < 4294967296) (hn : 0 ≤ n0 ∧ n0 < 4294967296) (h0 : q < 4294967296) (h1 : x ≤ z) :
    (runD lD2) (SD2 h l u n10 n1 n0 q1 r w q) = some (Ex.exit 2, ({ ts := [Value.int IntKind.u64 h, Value.int IntKind.u64 l, Value.int IntKind.u64 16000000000000000000, undef, undef, undef, Value.int IntKind.u64 0, Value.int IntKind.u64 0, Value.int IntKind.u64 4, Value.int IntKind.u64 3725290298, Value.int IntKind.u64 1983905792, Value.int IntKind.u64 u, Value.int IntKind.u64 n10, Value.int IntKind.u64 n1, Value.int IntKind.u64 n0, Value.int IntKind.u64 q1, Value.int IntKind.u64 r, Value.int IntKind.u64 w, Value.int IntKind.u64 q, junk, junk, junk, junk, junk, junk, junk, junk, junk, junk, junk, junk, junk, junk, junk, junk, junk, junk, junk, junk, junk, junk, junk, junk, junk, junk, junk, junk, junk, junk, junk, junk, junk, junk, junk, junk, junk, junk, junk, junk, junk, junk, junk, junk, junk, junk, junk, junk, junk, junk, junk, junk, junk, junk, junk, junk, junk, junk, junk, junk, junk, junk, junk, junk, junk, junk, junk, junk, junk, junk, junk, junk, junk, junk, junk, junk, junk, junk, junk, junk, junk, junk, junk, Value.int IntKind.u64 q, Value.bool false, Value.bool false, Value.int IntKind.u64 q, Value.int IntKind.u64 1983905792, Value.int IntKind.u64 x, Value.int IntKind.u64 r, Value.int IntKind.u64 y, Value.int IntKind.u64 n0, Value.int IntKind.u64 z, Value.bool false, Value.bool false, junk, junk, junk, junk, junk, junk, junk, junk, junk, junk, junk, junk, junk, junk, junk, junk, junk, junk, junk, junk, junk], H := { n := 0, objs := [] }, log := [] } : St)) :=
  Dg.evCode_hint (f := 52) (hs' := []) (hs := [Hint.val 52 103 (Value.bool false),
    Hint.val 52 107 (Value.int IntKind.u64 x),
    Hint.val 52 109 (Value.int IntKind.u64 y),
    Hint.val 52 111 (Value.int IntKind.u64 z),
    Hint.val 52 112 (Value.bool false)])
    [Value.bool (decide (q ≥ (4294967296 : Int))) = Value.bool false,
    Value.int IntKind.u64 (IntKind.wrap IntKind.u64 (q * (1983905792 : Int))) = Value.int IntKind.u64 x,
    Value.int IntKind.u64 (IntKind.wrap IntKind.u64 ((4294967296 : Int) * r)) = Value.int IntKind.u64 y,
    Value.int IntKind.u64 (IntKind.wrap IntKind.u64 (y + n0)) = Value.int IntKind.u64 z,
    Value.bool (decide (x > z)) = Value.bool false] (by kernel_rfl)
    ⟨by first | exact Dg.vtrue (by omega) | exact Dg.vfalse (by omega), wu (by omega), wu (by omega), wu (by omega), by first | exact Dg.vtrue (by omega) | exact Dg.vfalse (by omega), trivial⟩
--> dl2a
--< dl2b1
theorem dl2b1 (h : Int) (l : Int) (u : Int) (n10 : Int) (n1 : Int) (n0 : Int) (q1 : Int) (q : Int) (r : Int) (w : Int) (p : Int) (s : Int) (h0 : q = 4294967296) (hq : 0 ≤ q ∧ q ≤ 4294967296) (hr : 0 ≤ r ∧ r < 4294967296) (hn : 0 ≤ n0 ∧ n0 < 4294967296) (ep : q - 1 = p) (es : r + 3725290298 = s) (hs : 4294967296 ≤ s) :
    (runD lD2) (SD2 h l u n10 n1 n0 q1 r w q) = some (Ex.exit 2, ({ ts := [Value.int IntKind.u64 h, Value.int IntKind.u64 l, Value.int IntKind.u64 16000000000000000000, undef, undef, undef, Value.int IntKind.u64 0, Value.int IntKind.u64 0, Value.int IntKind.u64 4, Value.int IntKind.u64 3725290298, Value.int IntKind.u64 1983905792, Value.int IntKind.u64 u, Value.int IntKind.u64 n10, Value.int IntKind.u64 n1, Value.int IntKind.u64 n0, Value.int IntKind.u64 q1, Value.int IntKind.u64 s, Value.int IntKind.u64 w, Value.int IntKind.u64 p, junk, junk, junk, junk, junk, junk, junk, junk, junk, junk, junk, junk, junk, junk, junk, junk, junk, junk, junk, junk, junk, junk, junk, junk, junk, junk, junk, junk, junk, junk, junk, junk, junk, junk, junk, junk, junk, junk, junk, junk, junk, junk, junk, junk, junk, junk, junk, junk, junk, junk, junk, junk, junk, junk, junk, junk, junk, junk, junk, junk, junk, junk, junk, junk, junk, junk, junk, junk, junk, junk, junk, junk, junk, junk, junk, junk, junk, junk, junk, junk, junk, junk, junk, Value.int IntKind.u64 q, Value.bool true, Value.bool true, undef, undef, undef, undef, undef, undef, undef, undef, Value.bool true, Value.int IntKind.u64 q, Value.int IntKind.u64 p, Value.int IntKind.u64 r, Value.int IntKind.u64 3725290298, Value.int IntKind.u64 s, Value.int IntKind.u64 s, Value.bool true, junk, junk, junk, junk, junk, junk, junk, junk, junk, junk, junk, junk, junk, junk], H := { n := 0, objs := [] }, log := [] } : St)) :=
  Dg.evCode_hint (f := 52) (hs' := []) (hs := [Hint.val 52 103 (Value.bool true),
    Hint.val 52 115 (Value.int IntKind.u64 p),
    Hint.val 52 118 (Value.int IntKind.u64 s),
    Hint.val 52 120 (Value.bool true)])
    [Value.bool (decide (q ≥ (4294967296 : Int))) = Value.bool true,
    Value.int IntKind.u64 (IntKind.wrap IntKind.u64 (q - (1 : Int))) = Value.int IntKind.u64 p,
    Value.int IntKind.u64 (IntKind.wrap IntKind.u64 (r + (3725290298 : Int))) = Value.int IntKind.u64 s,
    Value.bool (decide (s ≥ (4294967296 : Int))) = Value.bool true] (by kernel_rfl)
    ⟨by first | exact Dg.vtrue (by omega) | exact Dg.vfalse (by omega), wu (by omega), wu (by omega), by first | exact Dg.vtrue (by omega) | exact Dg.vfalse (by omega), trivial⟩
--> dl2b1
--< dl2c1
theorem dl2c1 (h : Int) (l : Int) (u : Int) (n10 : Int) (n1 : Int) (n0 : Int) (q1 : Int) (q : Int) (r : Int) (w : Int) (p : Int) (s : Int) (h0 : q = 4294967296) (hq : 0 ≤ q ∧ q ≤ 4294967296) (hr : 0 ≤ r ∧ r < 4294967296) (hn : 0 ≤ n0 ∧ n0 < 4294967296) (ep : q - 1 = p) (es : r + 3725290298 = s) (hs : s < 4294967296) :
    ∃ s', (runD lD2) (SD2 h l u n10 n1 n0 q1 r w q) = some (Ex.normal, s') ∧ (clD lD2) s' = SD2 h l u n10 n1 n0 q1 s w p :=
  Dg.code_round (f := 52) (clD lD2) (hs := [Hint.val 52 103 (Value.bool true),
    Hint.val 52 115 (Value.int IntKind.u64 p),
    Hint.val 52 118 (Value.int IntKind.u64 s),
    Hint.val 52 120 (Value.bool false)])
    [Value.bool (decide (q ≥ (4294967296 : Int))) = Value.bool true,
    Value.int IntKind.u64 (IntKind.wrap IntKind.u64 (q - (1 : Int))) = Value.int IntKind.u64 p,
    Value.int IntKind.u64 (IntKind.wrap IntKind.u64 (r + (3725290298 : Int))) = Value.int IntKind.u64 s,
    Value.bool (decide (s ≥ (4294967296 : Int))) = Value.bool false] (by kernel_rfl)
    ⟨by first | exact Dg.vtrue (by omega) | exact Dg.vfalse (by omega), wu (by omega), wu (by omega), by first | exact Dg.vtrue (by omega) | exact Dg.vfalse (by omega), trivial⟩
--> dl2c1
--< dl2b2
theorem dl2b2 (h : Int) (l : Int) (u : Int) (n10 : Int) (n1 : Int) (n0 : Int) (q1 : Int) (q : Int) (r : Int) (w : Int) (p : Int) (s : Int) (x : Int) (y : Int) (z : Int) (ex : q * 1983905792 = x) (ey : 4294967296 * r = y) (ez : y + n0 = z) (h0 : q < 4294967296) (h1 : z < x) (hq : 0 ≤ q ∧ q ≤ 4294967296) (hr : 0 ≤ r ∧ r < 4294967296) (hn : 0 ≤ n0 ∧ n0 < 4294967296) (ep : q - 1 = p) (es : r + 3725290298 = s) (hs : 4294967296 ≤ s) :
    (runD lD2) (SD2 h l u n10 n1 n0 q1 r w q) = some (Ex.exit 2, ({ ts := [Value.int IntKind.u64 h, Value.int IntKind.u64 l, Value.int IntKind.u64 16000000000000000000, undef, undef, undef, Value.int IntKind.u64 0, Value.int IntKind.u64 0, Value.int IntKind.u64 4, Value.int IntKind.u64 3725290298, Value.int IntKind.u64 1983905792, Value.int IntKind.u64 u, Value.int IntKind.u64 n10, Value.int IntKind.u64 n1, Value.int IntKind.u64 n0, Value.int IntKind.u64 q1, Value.int IntKind.u64 s, Value.int IntKind.u64 w, Value.int IntKind.u64 p, junk, junk, junk, junk, junk, junk, junk, junk, junk, junk, junk, junk, junk, junk, junk, junk, junk, junk, junk, junk, junk, junk, junk, junk, junk, junk, junk, junk, junk, junk, junk, junk, junk, junk, junk, junk, junk, junk, junk, junk, junk, junk, junk, junk, junk, junk, junk, junk, junk, junk, junk, junk, junk, junk, junk, junk, junk, junk, junk, junk, junk, junk, junk, junk, junk, junk, junk, junk, junk, junk, junk, junk, junk, junk, junk, junk, junk, junk, junk, junk, junk, junk, junk, Value.int IntKind.u64 q, Value.bool false, Value.bool false, Value.int IntKind.u64 q, Value.int IntKind.u64 1983905792, Value.int IntKind.u64 x, Value.int IntKind.u64 r, Value.int IntKind.u64 y, Value.int IntKind.u64 n0, Value.int IntKind.u64 z, Value.bool true, Value.bool true, Value.int IntKind.u64 q, Value.int IntKind.u64 p, Value.int IntKind.u64 r, Value.int IntKind.u64 3725290298, Value.int IntKind.u64 s, Value.int IntKind.u64 s, Value.bool true, junk, junk, junk, junk, junk, junk, junk, junk, junk, junk, junk, junk, junk, junk], H := { n := 0, objs := [] }, log := [] } : St)) :=
  Dg.evCode_hint (f := 52) (hs' := []) (hs := [Hint.val 52 103 (Value.bool false),
    Hint.val 52 107 (Value.int IntKind.u64 x),
    Hint.val 52 109 (Value.int IntKind.u64 y),
    Hint.val 52 111 (Value.int IntKind.u64 z),
    Hint.val 52 112 (Value.bool true),
    Hint.val 52 115 (Value.int IntKind.u64 p),
    Hint.val 52 118 (Value.int IntKind.u64 s),
    Hint.val 52 120 (Value.bool true)])
    [Value.bool (decide (q ≥ (4294967296 : Int))) = Value.bool false,
    Value.int IntKind.u64 (IntKind.wrap IntKind.u64 (q * (1983905792 : Int))) = Value.int IntKind.u64 x,
    Value.int IntKind.u64 (IntKind.wrap IntKind.u64 ((4294967296 : Int) * r)) = Value.int IntKind.u64 y,
    Value.int IntKind.u64 (IntKind.wrap IntKind.u64 (y + n0)) = Value.int IntKind.u64 z,
    Value.bool (decide (x > z)) = Value.bool true,
    Value.int IntKind.u64 (IntKind.wrap IntKind.u64 (q - (1 : Int))) = Value.int IntKind.u64 p,
    Value.int IntKind.u64 (IntKind.wrap IntKind.u64 (r + (3725290298 : Int))) = Value.int IntKind.u64 s,
    Value.bool (decide (s ≥ (4294967296 : Int))) = Value.bool true] (by kernel_rfl)
    ⟨by first | exact Dg.vtrue (by omega) | exact Dg.vfalse (by omega), wu (by omega), wu (by omega), wu (by omega), by first | exact Dg.vtrue (by omega) | exact Dg.vfalse (by omega), wu (by omega), wu (by omega), by first | exact Dg.vtrue (by omega) | exact Dg.vfalse (by omega), trivial⟩
--> dl2b2
--< dl2c2
theorem dl2c2 (h : Int) (l : Int) (u : Int) (n10 : Int) (n1 : Int) (n0 : Int) (q1 : Int) (q : Int) (r : Int) (w : Int) (p : Int) (s : Int) (x : Int) (y : Int) (z : Int) (ex : q * 1983905792 = x) (ey : 4294967296 * r = y) (ez : y + n0 = z) (h0 : q < 4294967296) (h1 : z < x) (hq : 0 ≤ q ∧ q ≤ 4294967296) (hr : 0 ≤ r ∧ r < 4294967296) (hn : 0 ≤ n0 ∧ n0 < 4294967296) (ep : q - 1 = p) (es : r + 3725290298 = s) (hs : s < 4294967296) :
    ∃ s', (runD lD2) (SD2 h l u n10 n1 n0 q1 r w q) = some (Ex.normal, s') ∧ (clD lD2) s' = SD2 h l u n10 n1 n0 q1 s w p :=
  Dg.code_round (f := 52) (clD lD2) (hs := [Hint.val 52 103 (Value.bool false),
    Hint.val 52 107 (Value.int IntKind.u64 x),
    Hint.val 52 109 (Value.int IntKind.u64 y),
    Hint.val 52 111 (Value.int IntKind.u64 z),
    Hint.val 52 112 (Value.bool true),
    Hint.val 52 115 (Value.int IntKind.u64 p),
    Hint.val 52 118 (Value.int IntKind.u64 s),
    Hint.val 52 120 (Value.bool false)])
    [Value.bool (decide (q ≥ (4294967296 : Int))) = Value.bool false,
    Value.int IntKind.u64 (IntKind.wrap IntKind.u64 (q * (1983905792 : Int))) = Value.int IntKind.u64 x,
    Value.int IntKind.u64 (IntKind.wrap IntKind.u64 ((4294967296 : Int) * r)) = Value.int IntKind.u64 y,
    Value.int IntKind.u64 (IntKind.wrap IntKind.u64 (y + n0)) = Value.int IntKind.u64 z,
    Value.bool (decide (x > z)) = Value.bool true,
    Value.int IntKind.u64 (IntKind.wrap IntKind.u64 (q - (1 : Int))) = Value.int IntKind.u64 p,
    Value.int IntKind.u64 (IntKind.wrap IntKind.u64 (r + (3725290298 : Int))) = Value.int IntKind.u64 s,
    Value.bool (decide (s ≥ (4294967296 : Int))) = Value.bool false] (by kernel_rfl)
    ⟨by first | exact Dg.vtrue (by omega) | exact Dg.vfalse (by omega), wu (by omega), wu (by omega), wu (by omega), by first | exact Dg.vtrue (by omega) | exact Dg.vfalse (by omega), wu (by omega), wu (by omega), by first | exact Dg.vtrue (by omega) | exact Dg.vfalse (by omega), trivial⟩
--> dl2c2
--< dvt
theorem dvt (h : Int) (l : Int) (a : Int) (b : Int) (u : Int) (n10 : Int) (n1 : Int) (n0 : Int) (q : Int) (m : Int) (r : Int) (q' : Int) (r' : Int) (k1 : Int) (k2 : Int) (k3 : Int) (w : Int) (q2 : Int) (m2 : Int) (r2 : Int) (q2' : Int) (r2' : Int) (k4 : Int) (Q : Int) (k5 : Int) (k6 : Int) (k7 : Int) (R16 : Int) (R : Int) (t0 : Value) (t1 : Value) (t2 : Value) (t3 : Value) (t4 : Value) (t5 : Value) (t6 : Value) (t7 : Value) (t8 : Value) (t9 : Value) (t10 : Value) (t11 : Value) (t12 : Value) (t13 : Value) (t14 : Value) (t15 : Value) (t16 : Value) (t17 : Value) (t18 : Value) (c0 : Value) (c1 : Value) (c2 : Value) (c3 : Value) (c4 : Value) (c5 : Value) (c6 : Value) (c7 : Value) (c8 : Value) (c9 : Value) (c10 : Value) (c11 : Value) (c12 : Value) (c13 : Value) (c14 : Value) (c15 : Value) (c16 : Value) (c17 : Value) (c18 : Value) (h0 : 0 < h) (h1 : h < 1000000000000000000) (hl : U64 l) (ea : h * 16 = a) (eb : l / 1152921504606846976 = b) (eu : a + b = u) (e10 : l * 16 % 18446744073709551616 = n10) (e1 : n10 / 4294967296 = n1) (e0 : n10 % 4294967296 = n0) (eq : u / 3725290298 = q) (em : q * 3725290298 = m) (er : u - m = r) (ek1 : u * 4294967296 % 18446744073709551616 = k1) (ek2 : (k1 + n1) % 18446744073709551616 = k2) (ek3 : q' * 16000000000000000000 % 18446744073709551616 = k3) (ew : (k2 - k3) % 18446744073709551616 = w) (eq2 : w / 3725290298 = q2) (em2 : q2 * 3725290298 = m2) (er2 : w - m2 = r2) (ek4 : q' * 4294967296 % 18446744073709551616 = k4) (eQ : (k4 + q2') % 18446744073709551616 = Q) (ek5 : w * 4294967296 % 18446744073709551616 = k5) (ek6 : (k5 + n0) % 18446744073709551616 = k6) (ek7 : q2' * 16000000000000000000 % 18446744073709551616 = k7) (eR : (k6 - k7) % 18446744073709551616 = R16) (eR2 : R16 / 16 = R) (hw : 0 ≤ w) (hb : 0 ≤ q2 ∧ q2 ≤ 4294967296) (hL1 : ∀ (s0 : St), clD lD1 s0 = SD1 h l u n10 n1 n0 q r → evLoop (runD lD1) (clD lD1) 1000 s0 = some (Ex.exit 0, ED1 h l u n10 n1 n0 q' r' t0 t1 t2 t3 t4 t5 t6 t7 t8 t9 t10 t11 t12 t13 t14 t15 t16 t17 t18)) (hL2 : ∀ (s0 : St), clD lD2 s0 = SD2 h l u n10 n1 n0 q' r2 w q2 → evLoop (runD lD2) (clD lD2) 1000 s0 = some (Ex.exit 2, ED2 h l u n10 n1 n0 q' r2' w q2' c0 c1 c2 c3 c4 c5 c6 c7 c8 c9 c10 c11 c12 c13 c14 c15 c16 c17 c18)) :
    evCall Tryz.prog 0 (bodied Tryz.prog) noOver sbs 1000 20 52 [Value.int IntKind.u64 h, Value.int IntKind.u64 l, Value.int IntKind.u64 1000000000000000000] { n := 0, objs := [] } = some (Value.tuple #[Value.int IntKind.u64 Q, Value.int IntKind.u64 R], { n := 0, objs := [] }, []) :=
  Dg.evCall_hint (hs' := []) (hs := [Hint.val 52 24 (Value.bool false),
    Hint.val 52 27 (Value.bool false),
    Hint.soft 52 46 (Value.int IntKind.u64 a),
    Hint.soft 52 50 (Value.int IntKind.u64 b),
    Hint.val 52 51 (Value.int IntKind.u64 u),
    Hint.soft 52 54 (Value.int IntKind.u64 n10),
    Hint.soft 52 56 (Value.int IntKind.u64 n1),
    Hint.val 52 58 (Value.int IntKind.u64 n0),
    Hint.soft 52 61 (Value.int IntKind.u64 q),
    Hint.val 52 65 (Value.int IntKind.u64 m),
    Hint.val 52 66 (Value.int IntKind.u64 r),
    Hint.loop 52 (Ex.exit 0) (ED1 h l u n10 n1 n0 q' r' t0 t1 t2 t3 t4 t5 t6 t7 t8 t9 t10 t11 t12 t13 t14 t15 t16 t17 t18),
    Hint.val 52 87 (Value.int IntKind.u64 k1),
    Hint.val 52 89 (Value.int IntKind.u64 k2),
    Hint.val 52 92 (Value.int IntKind.u64 k3),
    Hint.val 52 93 (Value.int IntKind.u64 w),
    Hint.soft 52 96 (Value.int IntKind.u64 q2),
    Hint.val 52 100 (Value.int IntKind.u64 m2),
    Hint.val 52 101 (Value.int IntKind.u64 r2),
    Hint.loop 52 (Ex.exit 2) (ED2 h l u n10 n1 n0 q' r2' w q2' c0 c1 c2 c3 c4 c5 c6 c7 c8 c9 c10 c11 c12 c13 c14 c15 c16 c17 c18),
    Hint.val 52 122 (Value.int IntKind.u64 k4),
    Hint.val 52 124 (Value.int IntKind.u64 Q),
    Hint.val 52 126 (Value.int IntKind.u64 k5),
    Hint.val 52 128 (Value.int IntKind.u64 k6),
    Hint.val 52 131 (Value.int IntKind.u64 k7),
    Hint.val 52 132 (Value.int IntKind.u64 R16),
    Hint.soft 52 134 (Value.int IntKind.u64 R)])
    [Value.bool (decide ((1000000000000000000 : Int) ≤ h)) = Value.bool false,
    Value.bool (h == (0 : Int)) = Value.bool false,
    (0 : Int) ≤ (4 : Int),
    Value.int IntKind.u64 (IntKind.wrap IntKind.u64 (h * (2 : Int) ^ (4 : Nat))) = Value.int IntKind.u64 a,
    (0 : Int) ≤ (60 : Int),
    Value.int IntKind.u64 (Int.fdiv l ((2 : Int) ^ (60 : Nat))) = Value.int IntKind.u64 b,
    Value.int IntKind.u64 (IntKind.wrap IntKind.u64 (↑(BitVec.toNat (BitVec.ofInt (64 : Nat) a ||| BitVec.ofInt (64 : Nat) b)) : Int)) = Value.int IntKind.u64 u,
    (0 : Int) ≤ (4 : Int),
    Value.int IntKind.u64 (IntKind.wrap IntKind.u64 (l * (2 : Int) ^ (4 : Nat))) = Value.int IntKind.u64 n10,
    (0 : Int) ≤ (32 : Int),
    Value.int IntKind.u64 (Int.fdiv n10 ((2 : Int) ^ (32 : Nat))) = Value.int IntKind.u64 n1,
    Value.int IntKind.u64 (IntKind.wrap IntKind.u64 (↑(BitVec.toNat (BitVec.ofInt (64 : Nat) n10 &&& BitVec.ofInt (64 : Nat) (4294967295 : Int))) : Int)) = Value.int IntKind.u64 n0,
    (3725290298 : Int) ≠ (0 : Int),
    Value.int IntKind.u64 (IntKind.wrap IntKind.u64 (Int.tdiv u (3725290298 : Int))) = Value.int IntKind.u64 q,
    Value.int IntKind.u64 (IntKind.wrap IntKind.u64 (q * (3725290298 : Int))) = Value.int IntKind.u64 m,
    Value.int IntKind.u64 (IntKind.wrap IntKind.u64 (u - m)) = Value.int IntKind.u64 r,
    evLoop (runD lD1) (clD lD1) 1000 { ts := [Value.int IntKind.u64 h, Value.int IntKind.u64 l, Value.int IntKind.u64 16000000000000000000, undef, undef, undef, Value.int IntKind.u64 0, Value.int IntKind.u64 0, Value.int IntKind.u64 4, Value.int IntKind.u64 3725290298, Value.int IntKind.u64 1983905792, Value.int IntKind.u64 u, Value.int IntKind.u64 n10, Value.int IntKind.u64 n1, Value.int IntKind.u64 n0, Value.int IntKind.u64 q, Value.int IntKind.u64 r, undef, undef, Value.int IntKind.u64 1000000000000000000, Value.bool false, undef, Value.int IntKind.u64 1000000000000000000, Value.int IntKind.u64 h, Value.bool false, undef, Value.int IntKind.u64 h, Value.bool false, undef, undef, undef, undef, undef, undef, Value.int IntKind.u64 1000000000000000000, Value.int IntKind.i64 4, Value.int IntKind.u64 4, Value.int IntKind.u64 1000000000000000000, Value.int IntKind.u64 4, Value.int IntKind.u64 16000000000000000000, Value.int IntKind.u64 16000000000000000000, Value.int IntKind.u64 3725290298, Value.int IntKind.u64 16000000000000000000, Value.int IntKind.u64 1983905792, Value.int IntKind.u64 h, Value.int IntKind.u64 4, Value.int IntKind.u64 a, Value.int IntKind.u64 l, Value.int IntKind.u64 4, Value.int IntKind.u64 60, Value.int IntKind.u64 b, Value.int IntKind.u64 u, Value.int IntKind.u64 l, Value.int IntKind.u64 4, Value.int IntKind.u64 n10, Value.int IntKind.u64 n10, Value.int IntKind.u64 n1, Value.int IntKind.u64 n10, Value.int IntKind.u64 n0, Value.int IntKind.u64 u, Value.int IntKind.u64 3725290298, Value.int IntKind.u64 q, Value.int IntKind.u64 u, Value.int IntKind.u64 q, Value.int IntKind.u64 3725290298, Value.int IntKind.u64 m, Value.int IntKind.u64 r, undef, undef, undef, undef, undef, undef, undef, undef, undef, undef, undef, undef, undef, undef, undef, undef, undef, undef, undef, undef, undef, undef, undef, undef, undef, undef, undef, undef, undef, undef, undef, undef, undef, undef, undef, undef, undef, undef, undef, undef, undef, undef, undef, undef, undef, undef, undef, undef, undef, undef, undef, undef, undef, undef, undef, undef, undef, undef, undef, undef, undef, undef, undef, undef, undef, undef, undef, undef], H := { n := 0, objs := [] }, log := [] } = some (Ex.exit 0, ED1 h l u n10 n1 n0 q' r' t0 t1 t2 t3 t4 t5 t6 t7 t8 t9 t10 t11 t12 t13 t14 t15 t16 t17 t18),
    Value.int IntKind.u64 (IntKind.wrap IntKind.u64 (u * (4294967296 : Int))) = Value.int IntKind.u64 k1,
    Value.int IntKind.u64 (IntKind.wrap IntKind.u64 (k1 + n1)) = Value.int IntKind.u64 k2,
    Value.int IntKind.u64 (IntKind.wrap IntKind.u64 (q' * (16000000000000000000 : Int))) = Value.int IntKind.u64 k3,
    Value.int IntKind.u64 (IntKind.wrap IntKind.u64 (k2 - k3)) = Value.int IntKind.u64 w,
    (3725290298 : Int) ≠ (0 : Int),
    Value.int IntKind.u64 (IntKind.wrap IntKind.u64 (Int.tdiv w (3725290298 : Int))) = Value.int IntKind.u64 q2,
    Value.int IntKind.u64 (IntKind.wrap IntKind.u64 (q2 * (3725290298 : Int))) = Value.int IntKind.u64 m2,
    Value.int IntKind.u64 (IntKind.wrap IntKind.u64 (w - m2)) = Value.int IntKind.u64 r2,
    evLoop (runD lD2) (clD lD2) 1000 { ts := [Value.int IntKind.u64 h, Value.int IntKind.u64 l, Value.int IntKind.u64 16000000000000000000, undef, undef, undef, Value.int IntKind.u64 0, Value.int IntKind.u64 0, Value.int IntKind.u64 4, Value.int IntKind.u64 3725290298, Value.int IntKind.u64 1983905792, Value.int IntKind.u64 u, Value.int IntKind.u64 n10, Value.int IntKind.u64 n1, Value.int IntKind.u64 n0, Value.int IntKind.u64 q', Value.int IntKind.u64 r2, Value.int IntKind.u64 w, Value.int IntKind.u64 q2, junk, junk, junk, junk, junk, junk, junk, junk, junk, junk, junk, junk, junk, junk, junk, junk, junk, junk, junk, junk, junk, junk, junk, junk, junk, junk, junk, junk, junk, junk, junk, junk, junk, junk, junk, junk, junk, junk, junk, junk, junk, junk, junk, junk, junk, junk, junk, junk, t0, t1, t2, t3, t4, t5, t6, t7, t8, t9, t10, t11, t12, t13, t14, t15, t16, t17, t18, Value.int IntKind.u64 u, Value.int IntKind.u64 k1, Value.int IntKind.u64 n1, Value.int IntKind.u64 k2, Value.int IntKind.u64 q', Value.int IntKind.u64 16000000000000000000, Value.int IntKind.u64 k3, Value.int IntKind.u64 w, Value.int IntKind.u64 w, Value.int IntKind.u64 3725290298, Value.int IntKind.u64 q2, Value.int IntKind.u64 w, Value.int IntKind.u64 q2, Value.int IntKind.u64 3725290298, Value.int IntKind.u64 m2, Value.int IntKind.u64 r2, junk, junk, junk, junk, junk, junk, junk, junk, junk, junk, junk, junk, junk, junk, junk, junk, junk, junk, junk, junk, junk, junk, junk, junk, junk, junk, junk, junk, junk, junk, junk, junk, junk], H := { n := 0, objs := [] }, log := [] } = some (Ex.exit 2, ED2 h l u n10 n1 n0 q' r2' w q2' c0 c1 c2 c3 c4 c5 c6 c7 c8 c9 c10 c11 c12 c13 c14 c15 c16 c17 c18),
    Value.int IntKind.u64 (IntKind.wrap IntKind.u64 (q' * (4294967296 : Int))) = Value.int IntKind.u64 k4,
    Value.int IntKind.u64 (IntKind.wrap IntKind.u64 (k4 + q2')) = Value.int IntKind.u64 Q,
    Value.int IntKind.u64 (IntKind.wrap IntKind.u64 (w * (4294967296 : Int))) = Value.int IntKind.u64 k5,
    Value.int IntKind.u64 (IntKind.wrap IntKind.u64 (k5 + n0)) = Value.int IntKind.u64 k6,
    Value.int IntKind.u64 (IntKind.wrap IntKind.u64 (q2' * (16000000000000000000 : Int))) = Value.int IntKind.u64 k7,
    Value.int IntKind.u64 (IntKind.wrap IntKind.u64 (k6 - k7)) = Value.int IntKind.u64 R16,
    (0 : Int) ≤ (4 : Int),
    Value.int IntKind.u64 (Int.fdiv R16 ((2 : Int) ^ (4 : Nat))) = Value.int IntKind.u64 R] (by kernel_rfl)
    ⟨Dg.vfalse (by omega), Dg.vfalse (by omega), by omega, wu (by unfold U64 at hl; omega), by omega, fdv (by omega), sh_or (by omega) (by unfold U64 at hl; omega) (by omega) (by unfold U64 at hl; omega) ea, by omega, wu (by unfold U64 at hl; omega), by omega, fdv (by omega), sh_and (by unfold U64 at *; omega) e0, by omega, tdv2 (by unfold U64 at hl; omega) eq (by unfold U64 at hl; omega), wu (by unfold U64 at hl; omega), wu (by unfold U64 at hl; omega), hL1 _ (by kernel_rfl), wu (by unfold U64 at hl; omega), wu (by unfold U64 at hl; omega), wu (by unfold U64 at hl; omega), wu (by unfold U64 at hl; omega), by omega, tdv2 hw eq2 (by omega), wu (by unfold U64 at hl; omega), wu (by unfold U64 at hl; omega), hL2 _ (by kernel_rfl), wu (by unfold U64 at hl; omega), wu (by unfold U64 at hl; omega), wu (by unfold U64 at hl; omega), wu (by unfold U64 at hl; omega), wu (by unfold U64 at hl; omega), wu (by unfold U64 at hl; omega), by omega, fdv (by omega), trivial⟩
--> dvt
end Go.Proofs.YtflgpkkbifkpoaaGreatDoor.num
