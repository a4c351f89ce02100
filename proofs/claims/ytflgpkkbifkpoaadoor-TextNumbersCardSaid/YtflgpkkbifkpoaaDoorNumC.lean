/- The reference's functions on numbers of 20 pieces: what they come to. -/
import Derived.Test.YtflgpkkbifkpoaaDoorRows
import Derived.Test.YtflgpkkbifkpoaaDoorNumM
import Derived.Test.YtflgpkkbifkpoaaDoorDgApp
namespace Go.Proofs.YtflgpkkbifkpoaaDoor.num
open Go.Dg (junk St Ex Ev Hint evCall evCallS evCode evCodeK innerKp evCodeS evLoop cleanSt ue bodied noOver sbOf headOf tailOf bodyOf rAssign rBody lBody Flats flatOver Heap AObj SCall Law ofLaw Fix)
set_option linter.unusedVariables false
set_option linter.unusedSimpArgs false

/-- A number's cells: its sign, its pieces. -/
def kpN (b : Bool) (f : Nat → Int) : List Value := .bool b :: (List.range 20).map fun t => Value.int .u64 (f t)
noncomputable def sbs : List Nat := (((Tryd.prog.funcs.toList.map sbOf).set 28 6).set 29 6).set 11 5
theorem mixed : Tryd.prog.follows .mixedOrders = true := by kernel_rfl
theorem kpN_len (b : Bool) (f : Nat → Int) : (kpN b f).length = 21 := rfl
theorem kpN_get (b : Bool) (f : Nat → Int) {t o : Nat} (h : t < 20) (ho : o = t + 1) : (kpN b f)[o]? = some (.int .u64 (f t)) := by
  subst ho
  simp [kpN, h]
theorem kpN_getv {b : Bool} {f : Nat → Int} {t o : Nat} {v : Int} (h : t < 20) (ho : o = t + 1) (hv : f t = v) : (kpN b f)[o]? = some (.int .u64 v) := by rw [kpN_get b f h ho, hv]
theorem kpN_congr {b : Bool} {f g : Nat → Int} (h : ∀ t, t < 20 → f t = g t) : kpN b f = kpN b g := by
  unfold kpN
  congr 1
  exact List.map_congr_left fun t ht => by rw [h t (List.mem_range.1 ht)]
theorem kpN_flat (b : Bool) (f : Nat → Int) : Dg.flatL (kpN b f) = true := Dg.flatL_all fun v hv => by
  rcases List.mem_cons.1 hv with rfl | hv
  · rfl
  · obtain ⟨t, _, rfl⟩ := List.mem_map.1 hv; rfl
theorem kpN_splice {b : Bool} {f g : Nat → Int} {t : Nat} {v : Int} (ht : t < 20) (h : ∀ s, s < 20 → g s = if s = t then v else f s) : Dg.splice (kpN b f) (t + 1) [.int .u64 v] = kpN b g := by
  apply List.ext_getElem?
  intro i
  have hl : (kpN b f).length = 21 := rfl
  have e : Dg.splice (kpN b f) (t + 1) [.int .u64 v] = (kpN b f).set (t + 1) (.int .u64 v) := by
    unfold Dg.splice
    rw [List.set_eq_take_append_cons_drop, if_pos (by rw [hl]; omega)]
    rfl
  rw [e, List.getElem?_set]
  cases i with
  | zero => simp [kpN]
  | succ i =>
    by_cases hi : i < 20
    · rw [kpN_get b g hi rfl, h i hi]
      by_cases hit : t = i
      · subst hit; simp [hl, ht]
      · rw [if_neg (by omega), kpN_get b f hi rfl, if_neg (by omega)]
    · rw [if_neg (by omega), List.getElem?_eq_none (by rw [hl]; omega), List.getElem?_eq_none (by rw [show (kpN b g).length = 21 from rfl]; omega)]
/-- A number's object. -/
def oN (b : Bool) (f : Nat → Int) : AObj := .cells (kpN b f) 34 4 1
abbrev nv (b : Bool) (f : Nat → Int) : Value := .agg ⟨kpN b f⟩
/-- The pieces of a number. -/
def lim (m : Nat) : Nat → Int := fun t => ((limb m t : Nat) : Int)
abbrev num (b : Bool) (m : Nat) : Value := nv b (lim m)
theorem lim_b (m t : Nat) : 0 ≤ lim m t ∧ lim m t < 65536 := by
  have : limb m t < 65536 := limb_lt m t
  unfold lim
  omega
theorem wrN {H : Heap} {k off t : Nat} {b : Bool} {f g : Nat → Int} {v : Int} (hk : H.get k = oN b f) (ht : t < 20) (ho : off = t + 1) (h : ∀ s, s < 20 → g s = if s = t then v else f s) : H.write k off [.int .u64 v] = some (H.set k (oN b g)) := by
  subst ho
  unfold Dg.Heap.write
  rw [hk]
  simp only [oN]
  have e1 : Dg.keepMd 4 (false || Dg.flatL [Value.int .u64 v]) = 4 := by simp [Dg.keepMd, Dg.flatL, Dg.flat]
  rw [if_pos (by simp [kpN_len, Value.oneCell']; omega), e1, kpN_splice ht h]
theorem tm_nat (a : Nat) : Value.int .u64 (Int.tmod (a : Int) 65536) = .int .u64 ((a % 65536 : Nat) : Int) := by
  rw [Int.tmod_eq_emod_of_nonneg (by omega)]; rfl
theorem td_nat (a : Nat) (h : a < 18446744073709551616) : Value.int .u64 (IntKind.wrap .u64 (Int.tdiv (a : Int) 65536)) = .int .u64 ((a / 65536 : Nat) : Int) := by
  rw [Int.tdiv_eq_ediv_of_nonneg (by omega), Dg.w_u64]
  congr 1
  omega
theorem tm_limb (m r : Nat) : Value.int .u64 (Int.tmod ((m / B ^ r : Nat) : Int) 65536) = .int .u64 ((limb m r : Nat) : Int) := tm_nat _
theorem td_limb {m : Nat} (r : Nat) (h : m < 18446744073709551616) : Value.int .u64 (IntKind.wrap .u64 (Int.tdiv ((m / B ^ r : Nat) : Int) 65536)) = .int .u64 ((m / B ^ (r + 1) : Nat) : Int) := by
  rw [td_nat _ (Nat.lt_of_le_of_lt (Nat.div_le_self _ _) h), Nat.div_div_eq_div_mul, ← Nat.pow_succ]
theorem td_lit {m d e : Nat} (h : m < 18446744073709551616) (he : d * 65536 = e) : Value.int .u64 (IntKind.wrap .u64 (Int.tdiv ((m / d : Nat) : Int) 65536)) = .int .u64 ((m / e : Nat) : Int) := by
  rw [td_nat _ (Nat.lt_of_le_of_lt (Nat.div_le_self _ _) h), Nat.div_div_eq_div_mul, he]
theorem tm_lit {m d r : Nat} (h : B ^ r = d) : Value.int .u64 (Int.tmod ((m / d : Nat) : Int) 65536) = .int .u64 ((limb m r : Nat) : Int) := by
  subst h; exact tm_limb m r
theorem u64_cast {x : Int} {m : Nat} (h : x % 18446744073709551616 = (m : Int)) : Value.int .u64 (IntKind.wrap .u64 x) = .int .u64 ((m / B ^ 0 : Nat) : Int) := by rw [Dg.w_u64, h]; simp
theorem limb_out {m t : Nat} (h : m < B ^ t) : limb m t = 0 := by simp [limb, Nat.div_eq_of_lt h]
theorem num_small {b : Bool} {m : Nat} (h : m < 18446744073709551616) : num b m = .agg #[.bool b, .int .u64 ((limb m 0 : Nat) : Int), .int .u64 ((limb m 1 : Nat) : Int), .int .u64 ((limb m 2 : Nat) : Int), .int .u64 ((limb m 3 : Nat) : Int), .int .u64 0, .int .u64 0, .int .u64 0, .int .u64 0, .int .u64 0, .int .u64 0, .int .u64 0, .int .u64 0, .int .u64 0, .int .u64 0, .int .u64 0, .int .u64 0, .int .u64 0, .int .u64 0, .int .u64 0, .int .u64 0] := by
  have e : ∀ t, 4 ≤ t → limb m t = 0 := fun t ht => limb_out (Nat.lt_of_lt_of_le h (by
    have := Nat.pow_le_pow_right (n := B) (by decide) ht
    exact this))
  have : kpN b (lim m) = kpN b fun t => if t < 4 then lim m t else 0 := kpN_congr fun t ht => by
    by_cases h4 : t < 4
    · simp [h4]
    · simp [h4, lim, e t (by omega)]
  show Value.agg ⟨kpN b (lim m)⟩ = _
  rw [this]
  rfl
def js (n : Nat) : List Value := List.replicate n junk
--< of_pos0
theorem of_pos0 (m : Nat) (hm : m < 9223372036854775808) :
    evCall Tryd.prog 0 (bodied Tryd.prog) noOver sbs 1000 20 12 [Value.int IntKind.i64 (↑m : Int)] { n := 0, objs := [] } = some (Value.agg #[Value.bool false, Value.int IntKind.u64 (↑(limb m 0) : Int), Value.int IntKind.u64 (↑(limb m 1) : Int), Value.int IntKind.u64 (↑(limb m 2) : Int), Value.int IntKind.u64 (↑(limb m 3) : Int), Value.int IntKind.u64 0, Value.int IntKind.u64 0, Value.int IntKind.u64 0, Value.int IntKind.u64 0, Value.int IntKind.u64 0, Value.int IntKind.u64 0, Value.int IntKind.u64 0, Value.int IntKind.u64 0, Value.int IntKind.u64 0, Value.int IntKind.u64 0, Value.int IntKind.u64 0, Value.int IntKind.u64 0, Value.int IntKind.u64 0, Value.int IntKind.u64 0, Value.int IntKind.u64 0, Value.int IntKind.u64 0], { n := 0, objs := [] }, []) :=
  Dg.evCall_hint (hs' := []) (hs := [Hint.val 12 7 (Value.bool false),
    Hint.val 12 10 (Value.int IntKind.u64 (↑(m / B ^ 0) : Int)),
    Hint.val 12 12 (Value.bool false),
    Hint.soft 12 21 (Value.int IntKind.u64 (↑(limb m 0) : Int)),
    Hint.soft 12 25 (Value.int IntKind.u64 (↑(m / B ^ 1) : Int)),
    Hint.soft 12 21 (Value.int IntKind.u64 (↑(limb m 1) : Int)),
    Hint.soft 12 25 (Value.int IntKind.u64 (↑(m / B ^ 2) : Int)),
    Hint.soft 12 21 (Value.int IntKind.u64 (↑(limb m 2) : Int)),
    Hint.soft 12 25 (Value.int IntKind.u64 (↑(m / B ^ 3) : Int)),
    Hint.soft 12 21 (Value.int IntKind.u64 (↑(limb m 3) : Int)),
    Hint.soft 12 25 (Value.int IntKind.u64 (↑(m / B ^ 4) : Int))])
    [Value.bool false = Value.bool false,
    Value.int IntKind.u64 (IntKind.wrap IntKind.u64 (↑m : Int)) = Value.int IntKind.u64 (↑(m / B ^ (0 : Nat)) : Int),
    Value.bool false = Value.bool false,
    (65536 : Int) ≠ (0 : Int),
    Value.int IntKind.u64 (Int.tmod (↑(m / (1 : Nat)) : Int) (65536 : Int)) = Value.int IntKind.u64 (↑(limb m (0 : Nat)) : Int),
    (65536 : Int) ≠ (0 : Int),
    Value.int IntKind.u64 (IntKind.wrap IntKind.u64 (Int.tdiv (↑(m / (1 : Nat)) : Int) (65536 : Int))) = Value.int IntKind.u64 (↑(m / (65536 : Nat)) : Int),
    (65536 : Int) ≠ (0 : Int),
    Value.int IntKind.u64 (Int.tmod (↑(m / (65536 : Nat)) : Int) (65536 : Int)) = Value.int IntKind.u64 (↑(limb m (1 : Nat)) : Int),
    (65536 : Int) ≠ (0 : Int),
    Value.int IntKind.u64 (IntKind.wrap IntKind.u64 (Int.tdiv (↑(m / (65536 : Nat)) : Int) (65536 : Int))) = Value.int IntKind.u64 (↑(m / (4294967296 : Nat)) : Int),
    (65536 : Int) ≠ (0 : Int),
    Value.int IntKind.u64 (Int.tmod (↑(m / (4294967296 : Nat)) : Int) (65536 : Int)) = Value.int IntKind.u64 (↑(limb m (2 : Nat)) : Int),
    (65536 : Int) ≠ (0 : Int),
    Value.int IntKind.u64 (IntKind.wrap IntKind.u64 (Int.tdiv (↑(m / (4294967296 : Nat)) : Int) (65536 : Int))) = Value.int IntKind.u64 (↑(m / (281474976710656 : Nat)) : Int),
    (65536 : Int) ≠ (0 : Int),
    Value.int IntKind.u64 (Int.tmod (↑(m / (281474976710656 : Nat)) : Int) (65536 : Int)) = Value.int IntKind.u64 (↑(limb m (3 : Nat)) : Int),
    (65536 : Int) ≠ (0 : Int),
    Value.int IntKind.u64 (IntKind.wrap IntKind.u64 (Int.tdiv (↑(m / (281474976710656 : Nat)) : Int) (65536 : Int))) = Value.int IntKind.u64 (↑(m / (18446744073709551616 : Nat)) : Int)] (by kernel_rfl)
    ⟨rfl, u64_cast (by omega), rfl, by omega, tm_lit rfl, by omega, td_lit (by omega) rfl, by omega, tm_lit rfl, by omega, td_lit (by omega) rfl, by omega, tm_lit rfl, by omega, td_lit (by omega) rfl, by omega, tm_lit rfl, by omega, td_lit (by omega) rfl, trivial⟩
--> of_pos0
--< of_neg0
theorem of_neg0 (m : Nat) (h0 : 0 < m) (hm : m ≤ 9223372036854775808) :
    evCall Tryd.prog 0 (bodied Tryd.prog) noOver sbs 1000 20 12 [Value.int IntKind.i64 (-(↑m : Int))] { n := 0, objs := [] } = some (Value.agg #[Value.bool true, Value.int IntKind.u64 (↑(limb m 0) : Int), Value.int IntKind.u64 (↑(limb m 1) : Int), Value.int IntKind.u64 (↑(limb m 2) : Int), Value.int IntKind.u64 (↑(limb m 3) : Int), Value.int IntKind.u64 0, Value.int IntKind.u64 0, Value.int IntKind.u64 0, Value.int IntKind.u64 0, Value.int IntKind.u64 0, Value.int IntKind.u64 0, Value.int IntKind.u64 0, Value.int IntKind.u64 0, Value.int IntKind.u64 0, Value.int IntKind.u64 0, Value.int IntKind.u64 0, Value.int IntKind.u64 0, Value.int IntKind.u64 0, Value.int IntKind.u64 0, Value.int IntKind.u64 0, Value.int IntKind.u64 0], { n := 0, objs := [] }, []) :=
  Dg.evCall_hint (hs' := []) (hs := [Hint.val 12 7 (Value.bool true),
    Hint.val 12 10 (Value.int IntKind.u64 (18446744073709551616 - (↑m : Int))),
    Hint.val 12 12 (Value.bool true),
    Hint.val 12 14 (Value.int IntKind.u64 (↑(m / B ^ 0) : Int)),
    Hint.soft 12 21 (Value.int IntKind.u64 (↑(limb m 0) : Int)),
    Hint.soft 12 25 (Value.int IntKind.u64 (↑(m / B ^ 1) : Int)),
    Hint.soft 12 21 (Value.int IntKind.u64 (↑(limb m 1) : Int)),
    Hint.soft 12 25 (Value.int IntKind.u64 (↑(m / B ^ 2) : Int)),
    Hint.soft 12 21 (Value.int IntKind.u64 (↑(limb m 2) : Int)),
    Hint.soft 12 25 (Value.int IntKind.u64 (↑(m / B ^ 3) : Int)),
    Hint.soft 12 21 (Value.int IntKind.u64 (↑(limb m 3) : Int)),
    Hint.soft 12 25 (Value.int IntKind.u64 (↑(m / B ^ 4) : Int))])
    [Value.bool (decide (-(↑m : Int) < (0 : Int))) = Value.bool true,
    Value.int IntKind.u64 (IntKind.wrap IntKind.u64 (-(↑m : Int))) = Value.int IntKind.u64 ((18446744073709551616 : Int) - (↑m : Int)),
    Value.bool (decide (-(↑m : Int) < (0 : Int))) = Value.bool true,
    Value.int IntKind.u64 (IntKind.wrap IntKind.u64 ((0 : Int) - ((18446744073709551616 : Int) - (↑m : Int)))) = Value.int IntKind.u64 (↑(m / B ^ (0 : Nat)) : Int),
    (65536 : Int) ≠ (0 : Int),
    Value.int IntKind.u64 (Int.tmod (↑(m / (1 : Nat)) : Int) (65536 : Int)) = Value.int IntKind.u64 (↑(limb m (0 : Nat)) : Int),
    (65536 : Int) ≠ (0 : Int),
    Value.int IntKind.u64 (IntKind.wrap IntKind.u64 (Int.tdiv (↑(m / (1 : Nat)) : Int) (65536 : Int))) = Value.int IntKind.u64 (↑(m / (65536 : Nat)) : Int),
    (65536 : Int) ≠ (0 : Int),
    Value.int IntKind.u64 (Int.tmod (↑(m / (65536 : Nat)) : Int) (65536 : Int)) = Value.int IntKind.u64 (↑(limb m (1 : Nat)) : Int),
    (65536 : Int) ≠ (0 : Int),
    Value.int IntKind.u64 (IntKind.wrap IntKind.u64 (Int.tdiv (↑(m / (65536 : Nat)) : Int) (65536 : Int))) = Value.int IntKind.u64 (↑(m / (4294967296 : Nat)) : Int),
    (65536 : Int) ≠ (0 : Int),
    Value.int IntKind.u64 (Int.tmod (↑(m / (4294967296 : Nat)) : Int) (65536 : Int)) = Value.int IntKind.u64 (↑(limb m (2 : Nat)) : Int),
    (65536 : Int) ≠ (0 : Int),
    Value.int IntKind.u64 (IntKind.wrap IntKind.u64 (Int.tdiv (↑(m / (4294967296 : Nat)) : Int) (65536 : Int))) = Value.int IntKind.u64 (↑(m / (281474976710656 : Nat)) : Int),
    (65536 : Int) ≠ (0 : Int),
    Value.int IntKind.u64 (Int.tmod (↑(m / (281474976710656 : Nat)) : Int) (65536 : Int)) = Value.int IntKind.u64 (↑(limb m (3 : Nat)) : Int),
    (65536 : Int) ≠ (0 : Int),
    Value.int IntKind.u64 (IntKind.wrap IntKind.u64 (Int.tdiv (↑(m / (281474976710656 : Nat)) : Int) (65536 : Int))) = Value.int IntKind.u64 (↑(m / (18446744073709551616 : Nat)) : Int)] (by kernel_rfl)
    ⟨Dg.vtrue (by omega), (by rw [Dg.w_u64]; congr 1; omega), Dg.vtrue (by omega), u64_cast (by omega), by omega, tm_lit rfl, by omega, td_lit (by omega) rfl, by omega, tm_lit rfl, by omega, td_lit (by omega) rfl, by omega, tm_lit rfl, by omega, td_lit (by omega) rfl, by omega, tm_lit rfl, by omega, td_lit (by omega) rfl, trivial⟩
--> of_neg0
--< n64_0
theorem n64_0 (m : Nat) (hm : m < 18446744073709551616) :
    evCall Tryd.prog 0 (bodied Tryd.prog) noOver sbs 1000 20 14 [Value.int IntKind.u64 (↑(m / B ^ 0) : Int)] { n := 0, objs := [] } = some (Value.agg #[Value.bool false, Value.int IntKind.u64 (↑(limb m 0) : Int), Value.int IntKind.u64 (↑(limb m 1) : Int), Value.int IntKind.u64 (↑(limb m 2) : Int), Value.int IntKind.u64 (↑(limb m 3) : Int), Value.int IntKind.u64 0, Value.int IntKind.u64 0, Value.int IntKind.u64 0, Value.int IntKind.u64 0, Value.int IntKind.u64 0, Value.int IntKind.u64 0, Value.int IntKind.u64 0, Value.int IntKind.u64 0, Value.int IntKind.u64 0, Value.int IntKind.u64 0, Value.int IntKind.u64 0, Value.int IntKind.u64 0, Value.int IntKind.u64 0, Value.int IntKind.u64 0, Value.int IntKind.u64 0, Value.int IntKind.u64 0], { n := 0, objs := [] }, []) :=
  Dg.evCall_hint (hs' := []) (hs := [Hint.soft 14 12 (Value.int IntKind.u64 (↑(limb m 0) : Int)),
    Hint.soft 14 16 (Value.int IntKind.u64 (↑(m / B ^ 1) : Int)),
    Hint.soft 14 12 (Value.int IntKind.u64 (↑(limb m 1) : Int)),
    Hint.soft 14 16 (Value.int IntKind.u64 (↑(m / B ^ 2) : Int)),
    Hint.soft 14 12 (Value.int IntKind.u64 (↑(limb m 2) : Int)),
    Hint.soft 14 16 (Value.int IntKind.u64 (↑(m / B ^ 3) : Int)),
    Hint.soft 14 12 (Value.int IntKind.u64 (↑(limb m 3) : Int)),
    Hint.soft 14 16 (Value.int IntKind.u64 (↑(m / B ^ 4) : Int))])
    [(65536 : Int) ≠ (0 : Int),
    Value.int IntKind.u64 (Int.tmod (↑(m / (1 : Nat)) : Int) (65536 : Int)) = Value.int IntKind.u64 (↑(limb m (0 : Nat)) : Int),
    (65536 : Int) ≠ (0 : Int),
    Value.int IntKind.u64 (IntKind.wrap IntKind.u64 (Int.tdiv (↑(m / (1 : Nat)) : Int) (65536 : Int))) = Value.int IntKind.u64 (↑(m / (65536 : Nat)) : Int),
    (65536 : Int) ≠ (0 : Int),
    Value.int IntKind.u64 (Int.tmod (↑(m / (65536 : Nat)) : Int) (65536 : Int)) = Value.int IntKind.u64 (↑(limb m (1 : Nat)) : Int),
    (65536 : Int) ≠ (0 : Int),
    Value.int IntKind.u64 (IntKind.wrap IntKind.u64 (Int.tdiv (↑(m / (65536 : Nat)) : Int) (65536 : Int))) = Value.int IntKind.u64 (↑(m / (4294967296 : Nat)) : Int),
    (65536 : Int) ≠ (0 : Int),
    Value.int IntKind.u64 (Int.tmod (↑(m / (4294967296 : Nat)) : Int) (65536 : Int)) = Value.int IntKind.u64 (↑(limb m (2 : Nat)) : Int),
    (65536 : Int) ≠ (0 : Int),
    Value.int IntKind.u64 (IntKind.wrap IntKind.u64 (Int.tdiv (↑(m / (4294967296 : Nat)) : Int) (65536 : Int))) = Value.int IntKind.u64 (↑(m / (281474976710656 : Nat)) : Int),
    (65536 : Int) ≠ (0 : Int),
    Value.int IntKind.u64 (Int.tmod (↑(m / (281474976710656 : Nat)) : Int) (65536 : Int)) = Value.int IntKind.u64 (↑(limb m (3 : Nat)) : Int),
    (65536 : Int) ≠ (0 : Int),
    Value.int IntKind.u64 (IntKind.wrap IntKind.u64 (Int.tdiv (↑(m / (281474976710656 : Nat)) : Int) (65536 : Int))) = Value.int IntKind.u64 (↑(m / (18446744073709551616 : Nat)) : Int)] (by kernel_rfl)
    ⟨by omega, tm_lit rfl, by omega, td_lit (by omega) rfl, by omega, tm_lit rfl, by omega, td_lit (by omega) rfl, by omega, tm_lit rfl, by omega, td_lit (by omega) rfl, by omega, tm_lit rfl, by omega, td_lit (by omega) rfl, trivial⟩
--> n64_0
noncomputable def lZ : Code := lBody ((Tryd.f25.body).getD .skip)
noncomputable abbrev runZ : St → Option (Ex × St) := evCodeK Tryd.prog 0 (bodied Tryd.prog) (evCall Tryd.prog 0 (bodied Tryd.prog) noOver sbs 1000 19) 0 4 1000 lZ (innerKp lZ [])
noncomputable abbrev clZ : St → St := cleanSt 0 4 (ue lZ [] []).1
def SZ (b : Bool) (f : Nat → Int) (i : Nat) : St := ⟨[nv b f, .pointer (some ⟨0, 0, none⟩), .bool false, .int .i64 i] ++ js 9, ⟨1, [oN b f]⟩, []⟩
--< zr
theorem zr (b : Bool) (f : Nat → Int) (i : Nat) (hi : i < 20) (h : f i = 0) :
    ∃ s', runZ (SZ b f i) = some (Ex.normal, s') ∧ clZ s' = SZ b f (i + 1) :=
  Dg.code_round (f := 25) clZ (hs := [Hint.val 25 5 (Value.bool true),
    Hint.soft 25 10 (Value.pointer (some { block := 0, off := i + 1 })),
    Hint.soft 25 11 (Value.int IntKind.u64 0),
    Hint.val 25 7 (Value.int IntKind.i64 ((↑i : Int) + 1))])
    [Value.bool (decide ((↑i : Int) < (20 : Int))) = Value.bool true,
    (0 : Int) ≤ (↑i : Int) ∧ (↑i : Int) < (↑(20 : Nat) : Int),
    Value.pointer (some { block := (0 : Nat), off := (1 : Nat) + Int.toNat (↑i : Int) * (1 : Nat) }) = Value.pointer (some { block := (0 : Nat), off := i + (1 : Nat) }),
    (kpN b f)[i + (1 : Nat)]? = some (Value.int IntKind.u64 (0 : Int)),
    Value.int IntKind.i64 (IntKind.wrap IntKind.i64 ((↑i : Int) + (1 : Int))) = Value.int IntKind.i64 ((↑i : Int) + (1 : Int))] (by kernel_rfl)
    ⟨Dg.vtrue (by omega), by omega, Dg.ptr_eq (by omega), kpN_getv hi rfl h, Dg.i64_eq rfl (by omega) (by omega), trivial⟩
--> zr
--< zx
theorem zx (b : Bool) (f : Nat → Int) (i : Nat) (hi : i < 20) (h : 0 < f i) :
    runZ (SZ b f i) = some (Ex.ret, ({ ts := [Value.agg { toList := kpN b f }, Value.pointer (some { block := 0, off := 0 }), Value.bool false, Value.int IntKind.i64 (↑i : Int), Value.int IntKind.i64 (↑i : Int), Value.bool true, junk, junk, Value.int IntKind.i64 (↑i : Int), Value.pointer (some { block := 0, off := 1 }), Value.pointer (some { block := 0, off := i + 1 }), Value.int IntKind.u64 (f i), Value.bool true], H := { n := 1, objs := [AObj.cells (kpN b f) 34 4 1] }, log := [] } : St)) :=
  Dg.evCode_hint (f := 25) (hs' := []) (hs := [Hint.val 25 5 (Value.bool true),
    Hint.soft 25 10 (Value.pointer (some { block := 0, off := i + 1 })),
    Hint.soft 25 11 (Value.int IntKind.u64 (f i)),
    Hint.val 25 12 (Value.bool true)])
    [Value.bool (decide ((↑i : Int) < (20 : Int))) = Value.bool true,
    (0 : Int) ≤ (↑i : Int) ∧ (↑i : Int) < (↑(20 : Nat) : Int),
    Value.pointer (some { block := (0 : Nat), off := (1 : Nat) + Int.toNat (↑i : Int) * (1 : Nat) }) = Value.pointer (some { block := (0 : Nat), off := i + (1 : Nat) }),
    (kpN b f)[i + (1 : Nat)]? = some (Value.int IntKind.u64 (f i)),
    Value.bool (decide (f i > (0 : Int))) = Value.bool true] (by kernel_rfl)
    ⟨Dg.vtrue (by omega), by omega, Dg.ptr_eq (by omega), kpN_getv hi rfl rfl, Dg.vtrue (by omega), trivial⟩
--> zx
--< ze
theorem ze (b : Bool) (f : Nat → Int) :
    runZ (SZ b f 20) = some (Ex.exit 0, ({ ts := [Value.agg { toList := kpN b f }, Value.pointer (some { block := 0, off := 0 }), Value.bool false, Value.int IntKind.i64 20, Value.int IntKind.i64 20, Value.bool false, junk, junk, junk, junk, junk, junk, junk], H := { n := 1, objs := [AObj.cells (kpN b f) 34 4 1] }, log := [] } : St)) :=
  Dg.evCode_hint (f := 25) (hs' := []) (hs := [])
    [] (by kernel_rfl)
    trivial
--> ze
--< zcall_x
theorem zcall_x (b : Bool) (f : Nat → Int) (rest : List Value) (hz : ∀ (s0 : St), clZ s0 = SZ b f 0 → evLoop runZ clZ 1000 s0 = some (Ex.ret, { ts := nv b f :: Value.pointer (some { block := 0, off := 0 }) :: Value.bool false :: rest, H := { n := 1, objs := [oN b f] }, log := [] })) :
    evCall Tryd.prog 0 (bodied Tryd.prog) noOver sbs 1000 20 25 [nv b f] { n := 0, objs := [] } = some (Value.bool false, { n := 0, objs := [] }, []) :=
  Dg.evCall_hint (hs' := []) (hs := [Hint.loop 25 Ex.ret { ts := nv b f :: Value.pointer (some { block := 0, off := 0 }) :: Value.bool false :: rest, H := { n := 1, objs := [oN b f] }, log := [] }])
    [evLoop runZ clZ 1000 { ts := [Value.agg { toList := kpN b f }, Value.pointer (some { block := 0, off := 0 }), Value.bool false, Value.int IntKind.i64 0, undef, undef, undef, undef, undef, undef, undef, undef, undef], H := { n := 1, objs := [AObj.cells [Value.bool b, Value.int IntKind.u64 (f 0), Value.int IntKind.u64 (f 1), Value.int IntKind.u64 (f 2), Value.int IntKind.u64 (f 3), Value.int IntKind.u64 (f 4), Value.int IntKind.u64 (f 5), Value.int IntKind.u64 (f 6), Value.int IntKind.u64 (f 7), Value.int IntKind.u64 (f 8), Value.int IntKind.u64 (f 9), Value.int IntKind.u64 (f 10), Value.int IntKind.u64 (f 11), Value.int IntKind.u64 (f 12), Value.int IntKind.u64 (f 13), Value.int IntKind.u64 (f 14), Value.int IntKind.u64 (f 15), Value.int IntKind.u64 (f 16), Value.int IntKind.u64 (f 17), Value.int IntKind.u64 (f 18), Value.int IntKind.u64 (f 19)] 34 0 1] }, log := [] } = some (Ex.ret, { ts := nv b f :: Value.pointer (some { block := 0, off := 0 }) :: Value.bool false :: rest, H := { n := 1, objs := [oN b f] }, log := [] })] (by kernel_rfl)
    ⟨hz _ (by kernel_rfl), trivial⟩
--> zcall_x
--< zcall_e
theorem zcall_e (b : Bool) (f : Nat → Int) (rest : List Value) (hz : ∀ (s0 : St), clZ s0 = SZ b f 0 → evLoop runZ clZ 1000 s0 = some (Ex.exit 0, { ts := nv b f :: Value.pointer (some { block := 0, off := 0 }) :: Value.bool false :: rest, H := { n := 1, objs := [oN b f] }, log := [] })) :
    evCall Tryd.prog 0 (bodied Tryd.prog) noOver sbs 1000 20 25 [nv b f] { n := 0, objs := [] } = some (Value.bool true, { n := 0, objs := [] }, []) :=
  Dg.evCall_hint (hs' := []) (hs := [Hint.loop 25 (Ex.exit 0) { ts := nv b f :: Value.pointer (some { block := 0, off := 0 }) :: Value.bool false :: rest, H := { n := 1, objs := [oN b f] }, log := [] }])
    [evLoop runZ clZ 1000 { ts := [Value.agg { toList := kpN b f }, Value.pointer (some { block := 0, off := 0 }), Value.bool false, Value.int IntKind.i64 0, undef, undef, undef, undef, undef, undef, undef, undef, undef], H := { n := 1, objs := [AObj.cells [Value.bool b, Value.int IntKind.u64 (f 0), Value.int IntKind.u64 (f 1), Value.int IntKind.u64 (f 2), Value.int IntKind.u64 (f 3), Value.int IntKind.u64 (f 4), Value.int IntKind.u64 (f 5), Value.int IntKind.u64 (f 6), Value.int IntKind.u64 (f 7), Value.int IntKind.u64 (f 8), Value.int IntKind.u64 (f 9), Value.int IntKind.u64 (f 10), Value.int IntKind.u64 (f 11), Value.int IntKind.u64 (f 12), Value.int IntKind.u64 (f 13), Value.int IntKind.u64 (f 14), Value.int IntKind.u64 (f 15), Value.int IntKind.u64 (f 16), Value.int IntKind.u64 (f 17), Value.int IntKind.u64 (f 18), Value.int IntKind.u64 (f 19)] 34 0 1] }, log := [] } = some (Ex.exit 0, { ts := nv b f :: Value.pointer (some { block := 0, off := 0 }) :: Value.bool false :: rest, H := { n := 1, objs := [oN b f] }, log := [] })] (by kernel_rfl)
    ⟨hz _ (by kernel_rfl), trivial⟩
--> zcall_e
noncomputable def lS : Code := lBody ((Tryd.f30.body).getD .skip)
noncomputable abbrev runS : St → Option (Ex × St) := evCodeK Tryd.prog 0 (bodied Tryd.prog) (evCall Tryd.prog 0 (bodied Tryd.prog) noOver sbs 1000 19) 0 6 1000 lS (innerKp lS [])
noncomputable abbrev clS : St → St := cleanSt 0 6 (ue lS [] []).1
def SS (b : Bool) (f : Nat → Int) (c : Bool) (g : Nat → Int) (x : Int) : St := ⟨[nv b f, nv c g, .pointer (some ⟨0, 0, none⟩), .pointer (some ⟨1, 0, none⟩), .int .i64 0, .int .i64 x] ++ js 22, ⟨2, [oN c g, oN b f]⟩, []⟩
--< sr
theorem sr (b : Bool) (f : Nat → Int) (c : Bool) (g : Nat → Int) (i : Nat) (hi : i < 20) (x : Int) (hx : x = (↑i : Int) - 1) (h : f i = g i) :
    ∃ s', runS (SS b f c g (↑i : Int)) = some (Ex.normal, s') ∧ clS s' = SS b f c g x :=
  Dg.code_round (f := 30) clS (hs := [Hint.soft 30 12 (Value.pointer (some { block := 0, off := i + 1 })),
    Hint.soft 30 13 (Value.int IntKind.u64 (f i)),
    Hint.soft 30 16 (Value.pointer (some { block := 1, off := i + 1 })),
    Hint.soft 30 17 (Value.int IntKind.u64 (g i)),
    Hint.val 30 18 (Value.bool false),
    Hint.soft 30 21 (Value.pointer (some { block := 0, off := i + 1 })),
    Hint.soft 30 22 (Value.int IntKind.u64 (f i)),
    Hint.soft 30 25 (Value.pointer (some { block := 1, off := i + 1 })),
    Hint.soft 30 26 (Value.int IntKind.u64 (g i)),
    Hint.val 30 27 (Value.bool false),
    Hint.val 30 9 (Value.int IntKind.i64 x)])
    [(0 : Int) ≤ (↑i : Int) ∧ (↑i : Int) < (↑(20 : Nat) : Int),
    Value.pointer (some { block := (0 : Nat), off := (1 : Nat) + Int.toNat (↑i : Int) * (1 : Nat) }) = Value.pointer (some { block := (0 : Nat), off := i + (1 : Nat) }),
    (kpN b f)[i + (1 : Nat)]? = some (Value.int IntKind.u64 (f i)),
    (0 : Int) ≤ (↑i : Int) ∧ (↑i : Int) < (↑(20 : Nat) : Int),
    Value.pointer (some { block := (1 : Nat), off := (1 : Nat) + Int.toNat (↑i : Int) * (1 : Nat) }) = Value.pointer (some { block := (1 : Nat), off := i + (1 : Nat) }),
    (kpN c g)[i + (1 : Nat)]? = some (Value.int IntKind.u64 (g i)),
    Value.bool (decide (f i < g i)) = Value.bool false,
    (0 : Int) ≤ (↑i : Int) ∧ (↑i : Int) < (↑(20 : Nat) : Int),
    Value.pointer (some { block := (0 : Nat), off := (1 : Nat) + Int.toNat (↑i : Int) * (1 : Nat) }) = Value.pointer (some { block := (0 : Nat), off := i + (1 : Nat) }),
    (kpN b f)[i + (1 : Nat)]? = some (Value.int IntKind.u64 (f i)),
    (0 : Int) ≤ (↑i : Int) ∧ (↑i : Int) < (↑(20 : Nat) : Int),
    Value.pointer (some { block := (1 : Nat), off := (1 : Nat) + Int.toNat (↑i : Int) * (1 : Nat) }) = Value.pointer (some { block := (1 : Nat), off := i + (1 : Nat) }),
    (kpN c g)[i + (1 : Nat)]? = some (Value.int IntKind.u64 (g i)),
    Value.bool (decide (f i > g i)) = Value.bool false,
    Value.int IntKind.i64 (IntKind.wrap IntKind.i64 ((↑i : Int) - (1 : Int))) = Value.int IntKind.i64 x] (by kernel_rfl)
    ⟨by omega, Dg.ptr_eq (by omega), kpN_getv hi rfl rfl, by omega, Dg.ptr_eq (by omega), kpN_getv hi rfl rfl, Dg.vfalse (by omega), by omega, Dg.ptr_eq (by omega), kpN_getv hi rfl rfl, by omega, Dg.ptr_eq (by omega), kpN_getv hi rfl rfl, Dg.vfalse (by omega), Dg.i64_eq (by omega) (by omega) (by omega), trivial⟩
--> sr
--< sl
theorem sl (b : Bool) (f : Nat → Int) (c : Bool) (g : Nat → Int) (i : Nat) (hi : i < 20) (h : f i < g i) :
    runS (SS b f c g (↑i : Int)) = some (Ex.ret, ({ ts := [Value.agg { toList := kpN b f }, Value.agg { toList := kpN c g }, Value.pointer (some { block := 0, off := 0 }), Value.pointer (some { block := 1, off := 0 }), Value.int IntKind.i64 (-1), Value.int IntKind.i64 (↑i : Int), Value.int IntKind.i64 (↑i : Int), Value.bool true, junk, junk, Value.int IntKind.i64 (↑i : Int), Value.pointer (some { block := 0, off := 1 }), Value.pointer (some { block := 0, off := i + 1 }), Value.int IntKind.u64 (f i), Value.int IntKind.i64 (↑i : Int), Value.pointer (some { block := 1, off := 1 }), Value.pointer (some { block := 1, off := i + 1 }), Value.int IntKind.u64 (g i), Value.bool true, junk, junk, junk, junk, junk, junk, junk, junk, junk], H := { n := 2, objs := [AObj.cells (kpN c g) 34 4 1, AObj.cells (kpN b f) 34 4 1] }, log := [] } : St)) :=
  Dg.evCode_hint (f := 30) (hs' := []) (hs := [Hint.soft 30 12 (Value.pointer (some { block := 0, off := i + 1 })),
    Hint.soft 30 13 (Value.int IntKind.u64 (f i)),
    Hint.soft 30 16 (Value.pointer (some { block := 1, off := i + 1 })),
    Hint.soft 30 17 (Value.int IntKind.u64 (g i)),
    Hint.val 30 18 (Value.bool true)])
    [(0 : Int) ≤ (↑i : Int) ∧ (↑i : Int) < (↑(20 : Nat) : Int),
    Value.pointer (some { block := (0 : Nat), off := (1 : Nat) + Int.toNat (↑i : Int) * (1 : Nat) }) = Value.pointer (some { block := (0 : Nat), off := i + (1 : Nat) }),
    (kpN b f)[i + (1 : Nat)]? = some (Value.int IntKind.u64 (f i)),
    (0 : Int) ≤ (↑i : Int) ∧ (↑i : Int) < (↑(20 : Nat) : Int),
    Value.pointer (some { block := (1 : Nat), off := (1 : Nat) + Int.toNat (↑i : Int) * (1 : Nat) }) = Value.pointer (some { block := (1 : Nat), off := i + (1 : Nat) }),
    (kpN c g)[i + (1 : Nat)]? = some (Value.int IntKind.u64 (g i)),
    Value.bool (decide (f i < g i)) = Value.bool true] (by kernel_rfl)
    ⟨by omega, Dg.ptr_eq (by omega), kpN_getv hi rfl rfl, by omega, Dg.ptr_eq (by omega), kpN_getv hi rfl rfl, Dg.vtrue (by omega), trivial⟩
--> sl
--< sg
theorem sg (b : Bool) (f : Nat → Int) (c : Bool) (g : Nat → Int) (i : Nat) (hi : i < 20) (h : g i < f i) :
    runS (SS b f c g (↑i : Int)) = some (Ex.ret, ({ ts := [Value.agg { toList := kpN b f }, Value.agg { toList := kpN c g }, Value.pointer (some { block := 0, off := 0 }), Value.pointer (some { block := 1, off := 0 }), Value.int IntKind.i64 1, Value.int IntKind.i64 (↑i : Int), Value.int IntKind.i64 (↑i : Int), Value.bool true, junk, junk, Value.int IntKind.i64 (↑i : Int), Value.pointer (some { block := 0, off := 1 }), Value.pointer (some { block := 0, off := i + 1 }), Value.int IntKind.u64 (f i), Value.int IntKind.i64 (↑i : Int), Value.pointer (some { block := 1, off := 1 }), Value.pointer (some { block := 1, off := i + 1 }), Value.int IntKind.u64 (g i), Value.bool false, Value.int IntKind.i64 (↑i : Int), Value.pointer (some { block := 0, off := 1 }), Value.pointer (some { block := 0, off := i + 1 }), Value.int IntKind.u64 (f i), Value.int IntKind.i64 (↑i : Int), Value.pointer (some { block := 1, off := 1 }), Value.pointer (some { block := 1, off := i + 1 }), Value.int IntKind.u64 (g i), Value.bool true], H := { n := 2, objs := [AObj.cells (kpN c g) 34 4 1, AObj.cells (kpN b f) 34 4 1] }, log := [] } : St)) :=
  Dg.evCode_hint (f := 30) (hs' := []) (hs := [Hint.soft 30 12 (Value.pointer (some { block := 0, off := i + 1 })),
    Hint.soft 30 13 (Value.int IntKind.u64 (f i)),
    Hint.soft 30 16 (Value.pointer (some { block := 1, off := i + 1 })),
    Hint.soft 30 17 (Value.int IntKind.u64 (g i)),
    Hint.val 30 18 (Value.bool false),
    Hint.soft 30 21 (Value.pointer (some { block := 0, off := i + 1 })),
    Hint.soft 30 22 (Value.int IntKind.u64 (f i)),
    Hint.soft 30 25 (Value.pointer (some { block := 1, off := i + 1 })),
    Hint.soft 30 26 (Value.int IntKind.u64 (g i)),
    Hint.val 30 27 (Value.bool true)])
    [(0 : Int) ≤ (↑i : Int) ∧ (↑i : Int) < (↑(20 : Nat) : Int),
    Value.pointer (some { block := (0 : Nat), off := (1 : Nat) + Int.toNat (↑i : Int) * (1 : Nat) }) = Value.pointer (some { block := (0 : Nat), off := i + (1 : Nat) }),
    (kpN b f)[i + (1 : Nat)]? = some (Value.int IntKind.u64 (f i)),
    (0 : Int) ≤ (↑i : Int) ∧ (↑i : Int) < (↑(20 : Nat) : Int),
    Value.pointer (some { block := (1 : Nat), off := (1 : Nat) + Int.toNat (↑i : Int) * (1 : Nat) }) = Value.pointer (some { block := (1 : Nat), off := i + (1 : Nat) }),
    (kpN c g)[i + (1 : Nat)]? = some (Value.int IntKind.u64 (g i)),
    Value.bool (decide (f i < g i)) = Value.bool false,
    (0 : Int) ≤ (↑i : Int) ∧ (↑i : Int) < (↑(20 : Nat) : Int),
    Value.pointer (some { block := (0 : Nat), off := (1 : Nat) + Int.toNat (↑i : Int) * (1 : Nat) }) = Value.pointer (some { block := (0 : Nat), off := i + (1 : Nat) }),
    (kpN b f)[i + (1 : Nat)]? = some (Value.int IntKind.u64 (f i)),
    (0 : Int) ≤ (↑i : Int) ∧ (↑i : Int) < (↑(20 : Nat) : Int),
    Value.pointer (some { block := (1 : Nat), off := (1 : Nat) + Int.toNat (↑i : Int) * (1 : Nat) }) = Value.pointer (some { block := (1 : Nat), off := i + (1 : Nat) }),
    (kpN c g)[i + (1 : Nat)]? = some (Value.int IntKind.u64 (g i)),
    Value.bool (decide (f i > g i)) = Value.bool true] (by kernel_rfl)
    ⟨by omega, Dg.ptr_eq (by omega), kpN_getv hi rfl rfl, by omega, Dg.ptr_eq (by omega), kpN_getv hi rfl rfl, Dg.vfalse (by omega), by omega, Dg.ptr_eq (by omega), kpN_getv hi rfl rfl, by omega, Dg.ptr_eq (by omega), kpN_getv hi rfl rfl, Dg.vtrue (by omega), trivial⟩
--> sg
--< se
theorem se (b : Bool) (f : Nat → Int) (c : Bool) (g : Nat → Int) :
    runS (SS b f c g (-1)) = some (Ex.exit 0, ({ ts := [Value.agg { toList := kpN b f }, Value.agg { toList := kpN c g }, Value.pointer (some { block := 0, off := 0 }), Value.pointer (some { block := 1, off := 0 }), Value.int IntKind.i64 0, Value.int IntKind.i64 (-1), Value.int IntKind.i64 (-1), Value.bool false, junk, junk, junk, junk, junk, junk, junk, junk, junk, junk, junk, junk, junk, junk, junk, junk, junk, junk, junk, junk], H := { n := 2, objs := [AObj.cells (kpN c g) 34 4 1, AObj.cells (kpN b f) 34 4 1] }, log := [] } : St)) :=
  Dg.evCode_hint (f := 30) (hs' := []) (hs := [])
    [] (by kernel_rfl)
    trivial
--> se
--< scall_l
theorem scall_l (b : Bool) (f : Nat → Int) (c : Bool) (g : Nat → Int) (rest : List Value) (hz : ∀ (s0 : St), clS s0 = SS b f c g 19 → evLoop runS clS 1000 s0 = some (Ex.ret, { ts := nv b f :: nv c g :: Value.pointer (some { block := 0, off := 0 }) :: Value.pointer (some { block := 1, off := 0 }) :: Value.int IntKind.i64 (-1) :: rest, H := { n := 2, objs := [oN c g, oN b f] }, log := [] })) :
    evCall Tryd.prog 0 (bodied Tryd.prog) noOver sbs 1000 20 30 [nv b f, nv c g] { n := 0, objs := [] } = some (Value.int IntKind.i64 (-1), { n := 0, objs := [] }, []) :=
  Dg.evCall_hint (hs' := []) (hs := [Hint.loop 30 Ex.ret { ts := nv b f :: nv c g :: Value.pointer (some { block := 0, off := 0 }) :: Value.pointer (some { block := 1, off := 0 }) :: Value.int IntKind.i64 (-1) :: rest, H := { n := 2, objs := [oN c g, oN b f] }, log := [] }])
    [evLoop runS clS 1000 { ts := [Value.agg { toList := kpN b f }, Value.agg { toList := kpN c g }, Value.pointer (some { block := 0, off := 0 }), Value.pointer (some { block := 1, off := 0 }), Value.int IntKind.i64 0, Value.int IntKind.i64 19, undef, undef, undef, undef, undef, undef, undef, undef, undef, undef, undef, undef, undef, undef, undef, undef, undef, undef, undef, undef, undef, undef], H := { n := 2, objs := [AObj.cells [Value.bool c, Value.int IntKind.u64 (g 0), Value.int IntKind.u64 (g 1), Value.int IntKind.u64 (g 2), Value.int IntKind.u64 (g 3), Value.int IntKind.u64 (g 4), Value.int IntKind.u64 (g 5), Value.int IntKind.u64 (g 6), Value.int IntKind.u64 (g 7), Value.int IntKind.u64 (g 8), Value.int IntKind.u64 (g 9), Value.int IntKind.u64 (g 10), Value.int IntKind.u64 (g 11), Value.int IntKind.u64 (g 12), Value.int IntKind.u64 (g 13), Value.int IntKind.u64 (g 14), Value.int IntKind.u64 (g 15), Value.int IntKind.u64 (g 16), Value.int IntKind.u64 (g 17), Value.int IntKind.u64 (g 18), Value.int IntKind.u64 (g 19)] 34 0 1, AObj.cells [Value.bool b, Value.int IntKind.u64 (f 0), Value.int IntKind.u64 (f 1), Value.int IntKind.u64 (f 2), Value.int IntKind.u64 (f 3), Value.int IntKind.u64 (f 4), Value.int IntKind.u64 (f 5), Value.int IntKind.u64 (f 6), Value.int IntKind.u64 (f 7), Value.int IntKind.u64 (f 8), Value.int IntKind.u64 (f 9), Value.int IntKind.u64 (f 10), Value.int IntKind.u64 (f 11), Value.int IntKind.u64 (f 12), Value.int IntKind.u64 (f 13), Value.int IntKind.u64 (f 14), Value.int IntKind.u64 (f 15), Value.int IntKind.u64 (f 16), Value.int IntKind.u64 (f 17), Value.int IntKind.u64 (f 18), Value.int IntKind.u64 (f 19)] 34 0 1] }, log := [] } = some (Ex.ret, { ts := nv b f :: nv c g :: Value.pointer (some { block := 0, off := 0 }) :: Value.pointer (some { block := 1, off := 0 }) :: Value.int IntKind.i64 (-1) :: rest, H := { n := 2, objs := [oN c g, oN b f] }, log := [] })] (by kernel_rfl)
    ⟨hz _ (by kernel_rfl), trivial⟩
--> scall_l
--< scall_g
theorem scall_g (b : Bool) (f : Nat → Int) (c : Bool) (g : Nat → Int) (rest : List Value) (hz : ∀ (s0 : St), clS s0 = SS b f c g 19 → evLoop runS clS 1000 s0 = some (Ex.ret, { ts := nv b f :: nv c g :: Value.pointer (some { block := 0, off := 0 }) :: Value.pointer (some { block := 1, off := 0 }) :: Value.int IntKind.i64 1 :: rest, H := { n := 2, objs := [oN c g, oN b f] }, log := [] })) :
    evCall Tryd.prog 0 (bodied Tryd.prog) noOver sbs 1000 20 30 [nv b f, nv c g] { n := 0, objs := [] } = some (Value.int IntKind.i64 1, { n := 0, objs := [] }, []) :=
  Dg.evCall_hint (hs' := []) (hs := [Hint.loop 30 Ex.ret { ts := nv b f :: nv c g :: Value.pointer (some { block := 0, off := 0 }) :: Value.pointer (some { block := 1, off := 0 }) :: Value.int IntKind.i64 1 :: rest, H := { n := 2, objs := [oN c g, oN b f] }, log := [] }])
    [evLoop runS clS 1000 { ts := [Value.agg { toList := kpN b f }, Value.agg { toList := kpN c g }, Value.pointer (some { block := 0, off := 0 }), Value.pointer (some { block := 1, off := 0 }), Value.int IntKind.i64 0, Value.int IntKind.i64 19, undef, undef, undef, undef, undef, undef, undef, undef, undef, undef, undef, undef, undef, undef, undef, undef, undef, undef, undef, undef, undef, undef], H := { n := 2, objs := [AObj.cells [Value.bool c, Value.int IntKind.u64 (g 0), Value.int IntKind.u64 (g 1), Value.int IntKind.u64 (g 2), Value.int IntKind.u64 (g 3), Value.int IntKind.u64 (g 4), Value.int IntKind.u64 (g 5), Value.int IntKind.u64 (g 6), Value.int IntKind.u64 (g 7), Value.int IntKind.u64 (g 8), Value.int IntKind.u64 (g 9), Value.int IntKind.u64 (g 10), Value.int IntKind.u64 (g 11), Value.int IntKind.u64 (g 12), Value.int IntKind.u64 (g 13), Value.int IntKind.u64 (g 14), Value.int IntKind.u64 (g 15), Value.int IntKind.u64 (g 16), Value.int IntKind.u64 (g 17), Value.int IntKind.u64 (g 18), Value.int IntKind.u64 (g 19)] 34 0 1, AObj.cells [Value.bool b, Value.int IntKind.u64 (f 0), Value.int IntKind.u64 (f 1), Value.int IntKind.u64 (f 2), Value.int IntKind.u64 (f 3), Value.int IntKind.u64 (f 4), Value.int IntKind.u64 (f 5), Value.int IntKind.u64 (f 6), Value.int IntKind.u64 (f 7), Value.int IntKind.u64 (f 8), Value.int IntKind.u64 (f 9), Value.int IntKind.u64 (f 10), Value.int IntKind.u64 (f 11), Value.int IntKind.u64 (f 12), Value.int IntKind.u64 (f 13), Value.int IntKind.u64 (f 14), Value.int IntKind.u64 (f 15), Value.int IntKind.u64 (f 16), Value.int IntKind.u64 (f 17), Value.int IntKind.u64 (f 18), Value.int IntKind.u64 (f 19)] 34 0 1] }, log := [] } = some (Ex.ret, { ts := nv b f :: nv c g :: Value.pointer (some { block := 0, off := 0 }) :: Value.pointer (some { block := 1, off := 0 }) :: Value.int IntKind.i64 1 :: rest, H := { n := 2, objs := [oN c g, oN b f] }, log := [] })] (by kernel_rfl)
    ⟨hz _ (by kernel_rfl), trivial⟩
--> scall_g
--< scall_e
theorem scall_e (b : Bool) (f : Nat → Int) (c : Bool) (g : Nat → Int) (rest : List Value) (hz : ∀ (s0 : St), clS s0 = SS b f c g 19 → evLoop runS clS 1000 s0 = some (Ex.exit 0, { ts := nv b f :: nv c g :: Value.pointer (some { block := 0, off := 0 }) :: Value.pointer (some { block := 1, off := 0 }) :: Value.int IntKind.i64 0 :: rest, H := { n := 2, objs := [oN c g, oN b f] }, log := [] })) :
    evCall Tryd.prog 0 (bodied Tryd.prog) noOver sbs 1000 20 30 [nv b f, nv c g] { n := 0, objs := [] } = some (Value.int IntKind.i64 0, { n := 0, objs := [] }, []) :=
  Dg.evCall_hint (hs' := []) (hs := [Hint.loop 30 (Ex.exit 0) { ts := nv b f :: nv c g :: Value.pointer (some { block := 0, off := 0 }) :: Value.pointer (some { block := 1, off := 0 }) :: Value.int IntKind.i64 0 :: rest, H := { n := 2, objs := [oN c g, oN b f] }, log := [] }])
    [evLoop runS clS 1000 { ts := [Value.agg { toList := kpN b f }, Value.agg { toList := kpN c g }, Value.pointer (some { block := 0, off := 0 }), Value.pointer (some { block := 1, off := 0 }), Value.int IntKind.i64 0, Value.int IntKind.i64 19, undef, undef, undef, undef, undef, undef, undef, undef, undef, undef, undef, undef, undef, undef, undef, undef, undef, undef, undef, undef, undef, undef], H := { n := 2, objs := [AObj.cells [Value.bool c, Value.int IntKind.u64 (g 0), Value.int IntKind.u64 (g 1), Value.int IntKind.u64 (g 2), Value.int IntKind.u64 (g 3), Value.int IntKind.u64 (g 4), Value.int IntKind.u64 (g 5), Value.int IntKind.u64 (g 6), Value.int IntKind.u64 (g 7), Value.int IntKind.u64 (g 8), Value.int IntKind.u64 (g 9), Value.int IntKind.u64 (g 10), Value.int IntKind.u64 (g 11), Value.int IntKind.u64 (g 12), Value.int IntKind.u64 (g 13), Value.int IntKind.u64 (g 14), Value.int IntKind.u64 (g 15), Value.int IntKind.u64 (g 16), Value.int IntKind.u64 (g 17), Value.int IntKind.u64 (g 18), Value.int IntKind.u64 (g 19)] 34 0 1, AObj.cells [Value.bool b, Value.int IntKind.u64 (f 0), Value.int IntKind.u64 (f 1), Value.int IntKind.u64 (f 2), Value.int IntKind.u64 (f 3), Value.int IntKind.u64 (f 4), Value.int IntKind.u64 (f 5), Value.int IntKind.u64 (f 6), Value.int IntKind.u64 (f 7), Value.int IntKind.u64 (f 8), Value.int IntKind.u64 (f 9), Value.int IntKind.u64 (f 10), Value.int IntKind.u64 (f 11), Value.int IntKind.u64 (f 12), Value.int IntKind.u64 (f 13), Value.int IntKind.u64 (f 14), Value.int IntKind.u64 (f 15), Value.int IntKind.u64 (f 16), Value.int IntKind.u64 (f 17), Value.int IntKind.u64 (f 18), Value.int IntKind.u64 (f 19)] 34 0 1] }, log := [] } = some (Ex.exit 0, { ts := nv b f :: nv c g :: Value.pointer (some { block := 0, off := 0 }) :: Value.pointer (some { block := 1, off := 0 }) :: Value.int IntKind.i64 0 :: rest, H := { n := 2, objs := [oN c g, oN b f] }, log := [] })] (by kernel_rfl)
    ⟨hz _ (by kernel_rfl), trivial⟩
--> scall_e
end Go.Proofs.YtflgpkkbifkpoaaDoor.num
