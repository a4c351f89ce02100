/- The reference's numbers of wide numbers, and back. The reference's numbers of wide numbers, their ends, and back: what they come to. -/
import Derived.Test.YtflgpkkbifkpoaaGreatDoorRows
import Derived.Test.YtflgpkkbifkpoaaGreatDoorNumCc
import Derived.Test.YtflgpkkbifkpoaaGreatDoorWideAa
import Derived.Test.YtflgpkkbifkpoaaGreatDoorDgLay
namespace Go.Proofs.YtflgpkkbifkpoaaGreatDoor.num
open Go.Dg (junk St Ex Ev Hint evCall evCallS evCode evCodeK innerKp evCodeS evLoop cleanSt ue bodied noOver sbOf headOf tailOf bodyOf rAssign rBody lBody Flats flatOver Heap AObj SCall Law ofLaw Fix lay noO)
set_option linter.unusedVariables false
set_option linter.unusedSimpArgs false


def u64s (l : List Nat) : List Value := l.map fun n => Value.int .u64 ((n : Nat) : Int)
def kpT (b : Bool) (l : List Nat) : List Value := .bool b :: u64s l
/-- 2^64; the ends of wide numbers. -/
def topV : Value := .agg #[.bool false, .int .u64 0, .int .u64 0, .int .u64 0, .int .u64 0, .int .u64 1, .int .u64 0, .int .u64 0, .int .u64 0, .int .u64 0, .int .u64 0, .int .u64 0, .int .u64 0, .int .u64 0, .int .u64 0, .int .u64 0, .int .u64 0, .int .u64 0, .int .u64 0, .int .u64 0, .int .u64 0]
def mostV : Value := .agg #[.bool false, .int .u64 65535, .int .u64 65535, .int .u64 65535, .int .u64 65535, .int .u64 65535, .int .u64 65535, .int .u64 65535, .int .u64 32767, .int .u64 0, .int .u64 0, .int .u64 0, .int .u64 0, .int .u64 0, .int .u64 0, .int .u64 0, .int .u64 0, .int .u64 0, .int .u64 0, .int .u64 0, .int .u64 0]
def leastV : Value := .agg #[.bool true, .int .u64 0, .int .u64 0, .int .u64 0, .int .u64 0, .int .u64 0, .int .u64 0, .int .u64 0, .int .u64 32768, .int .u64 0, .int .u64 0, .int .u64 0, .int .u64 0, .int .u64 0, .int .u64 0, .int .u64 0, .int .u64 0, .int .u64 0, .int .u64 0, .int .u64 0, .int .u64 0]
theorem topV_is : topV = num false 18446744073709551616 := by kernel_rfl
theorem mostV_is : mostV = num false 170141183460469231731687303715884105727 := by kernel_rfl
theorem leastV_is : leastV = num true 170141183460469231731687303715884105728 := by kernel_rfl
--< from_r
theorem from_r (h : Int) (l : Int) (b : Bool) (c : Bool) (m : Nat) (m2 : Nat) (x : Nat) (k : Nat) (h1 : o4 30 [Value.int IntKind.i64 h] = some (num b m)) (h2 : o4 29 [num b m, topV] = some (num b m2)) (h3 : o4 31 [Value.int IntKind.u64 l] = some (num false x)) (h4 : o4 28 [num b m2, num false x] = some (num c k)) :
    evCall Tryz.prog 0 (bodied Tryz.prog) ov4 sbs 1000 20 8 [wd h l] { n := 0, objs := [] } = some (Value.agg #[Value.bool c, Value.int IntKind.u64 (lim k 0), Value.int IntKind.u64 (lim k 1), Value.int IntKind.u64 (lim k 2), Value.int IntKind.u64 (lim k 3), Value.int IntKind.u64 (lim k 4), Value.int IntKind.u64 (lim k 5), Value.int IntKind.u64 (lim k 6), Value.int IntKind.u64 (lim k 7), Value.int IntKind.u64 (lim k 8), Value.int IntKind.u64 (lim k 9), Value.int IntKind.u64 (lim k 10), Value.int IntKind.u64 (lim k 11), Value.int IntKind.u64 (lim k 12), Value.int IntKind.u64 (lim k 13), Value.int IntKind.u64 (lim k 14), Value.int IntKind.u64 (lim k 15), Value.int IntKind.u64 (lim k 16), Value.int IntKind.u64 (lim k 17), Value.int IntKind.u64 (lim k 18), Value.int IntKind.u64 (lim k 19)], { n := 0, objs := [] }, []) :=
  Dg.evCall_hint (hs' := []) (hs := [Hint.call 30 (Value.agg { toList := kpN b (lim m) }) { n := 0, objs := [] } [],
    Hint.call 29 (Value.agg { toList := kpN b (lim m2) }) { n := 0, objs := [] } [],
    Hint.call 31 (Value.agg { toList := kpN false (lim x) }) { n := 0, objs := [] } [],
    Hint.call 28 (Value.agg { toList := kpN c (lim k) }) { n := 0, objs := [] } []])
    [evCall Tryz.prog 0 (bodied Tryz.prog) ov4 sbs 1000 19 30 [Value.int IntKind.i64 h] { n := 0, objs := [] } = some (Value.agg { toList := kpN b (lim m) }, { n := 0, objs := [] }, []),
    evCall Tryz.prog 0 (bodied Tryz.prog) ov4 sbs 1000 19 29 [Value.agg { toList := kpN b (lim m) }, Value.agg #[Value.bool false, Value.int IntKind.u64 0, Value.int IntKind.u64 0, Value.int IntKind.u64 0, Value.int IntKind.u64 0, Value.int IntKind.u64 1, Value.int IntKind.u64 0, Value.int IntKind.u64 0, Value.int IntKind.u64 0, Value.int IntKind.u64 0, Value.int IntKind.u64 0, Value.int IntKind.u64 0, Value.int IntKind.u64 0, Value.int IntKind.u64 0, Value.int IntKind.u64 0, Value.int IntKind.u64 0, Value.int IntKind.u64 0, Value.int IntKind.u64 0, Value.int IntKind.u64 0, Value.int IntKind.u64 0, Value.int IntKind.u64 0]] { n := 0, objs := [] } = some (Value.agg { toList := kpN b (lim m2) }, { n := 0, objs := [] }, []),
    evCall Tryz.prog 0 (bodied Tryz.prog) ov4 sbs 1000 19 31 [Value.int IntKind.u64 l] { n := 0, objs := [] } = some (Value.agg { toList := kpN false (lim x) }, { n := 0, objs := [] }, []),
    evCall Tryz.prog 0 (bodied Tryz.prog) ov4 sbs 1000 19 28 [Value.agg { toList := kpN b (lim m2) }, Value.agg { toList := kpN false (lim x) }] { n := 0, objs := [] } = some (Value.agg { toList := kpN c (lim k) }, { n := 0, objs := [] }, [])] (by kernel_rfl)
    ⟨Dg.evCall_told h1, Dg.evCall_told h2, Dg.evCall_told h3, Dg.evCall_told h4, trivial⟩
--> from_r
--< wide_f
theorem wide_f (m : Nat) (q1 : Int) (q2 : Int) (h1 : o4 35 [num false m, mostV] = some (Value.int IntKind.i64 q1)) (hq1 : q1 ≤ 0) (h2c : o4 35 [num false m, leastV] = some (Value.int IntKind.i64 q2)) (hq2 : 0 ≤ q2) (r0 : 0 ≤ lim m 0 ∧ lim m 0 < 65536) (r1 : 0 ≤ lim m 1 ∧ lim m 1 < 65536) (r2 : 0 ≤ lim m 2 ∧ lim m 2 < 65536) (r3 : 0 ≤ lim m 3 ∧ lim m 3 < 65536) (r4 : 0 ≤ lim m 4 ∧ lim m 4 < 65536) (r5 : 0 ≤ lim m 5 ∧ lim m 5 < 65536) (r6 : 0 ≤ lim m 6 ∧ lim m 6 < 65536) (r7 : 0 ≤ lim m 7 ∧ lim m 7 < 65536) (a1 : Int) (h2 : Int) (a2 : Int) (h3 : Int) (a3 : Int) (h4 : Int) (c1 : Int) (l2 : Int) (c2 : Int) (l3 : Int) (c3 : Int) (l4 : Int) (e1 : 65536 * lim m 7 = a1) (e2 : a1 + lim m 6 = h2) (e3 : 65536 * h2 = a2) (e4 : a2 + lim m 5 = h3) (e5 : 65536 * h3 = a3) (e6 : a3 + lim m 4 = h4) (f1 : 65536 * lim m 3 = c1) (f2 : c1 + lim m 2 = l2) (f3 : 65536 * l2 = c2) (f4 : c2 + lim m 1 = l3) (f5 : 65536 * l3 = c3) (f6 : c3 + lim m 0 = l4) (x : Int) (ex : (h4 + 9223372036854775808) % 18446744073709551616 - 9223372036854775808 = x) :
    evCall Tryz.prog 0 (bodied Tryz.prog) ov4 sbs 1000 20 12 [num false m] { n := 0, objs := [] } = some (Value.agg #[Value.int IntKind.i64 x, Value.int IntKind.u64 l4], { n := 0, objs := [] }, []) :=
  Dg.evCall_hint (hs' := []) (hs := [Hint.call 35 (Value.int IntKind.i64 q1) { n := 0, objs := [] } [],
    Hint.val 12 25 (Value.bool false),
    Hint.call 35 (Value.int IntKind.i64 q2) { n := 0, objs := [] } [],
    Hint.val 12 30 (Value.bool false),
    Hint.val 12 37 (Value.int IntKind.u64 0),
    Hint.val 12 42 (Value.int IntKind.u64 (lim m 7)),
    Hint.val 12 43 (Value.int IntKind.u64 (lim m 7)),
    Hint.val 12 45 (Value.int IntKind.u64 0),
    Hint.val 12 49 (Value.int IntKind.u64 (lim m 3)),
    Hint.val 12 50 (Value.int IntKind.u64 (lim m 3)),
    Hint.val 12 37 (Value.int IntKind.u64 a1),
    Hint.val 12 42 (Value.int IntKind.u64 (lim m 6)),
    Hint.val 12 43 (Value.int IntKind.u64 h2),
    Hint.val 12 45 (Value.int IntKind.u64 c1),
    Hint.val 12 49 (Value.int IntKind.u64 (lim m 2)),
    Hint.val 12 50 (Value.int IntKind.u64 l2),
    Hint.val 12 37 (Value.int IntKind.u64 a2),
    Hint.val 12 42 (Value.int IntKind.u64 (lim m 5)),
    Hint.val 12 43 (Value.int IntKind.u64 h3),
    Hint.val 12 45 (Value.int IntKind.u64 c2),
    Hint.val 12 49 (Value.int IntKind.u64 (lim m 1)),
    Hint.val 12 50 (Value.int IntKind.u64 l3),
    Hint.val 12 37 (Value.int IntKind.u64 a3),
    Hint.val 12 42 (Value.int IntKind.u64 (lim m 4)),
    Hint.val 12 43 (Value.int IntKind.u64 h4),
    Hint.val 12 45 (Value.int IntKind.u64 c3),
    Hint.val 12 49 (Value.int IntKind.u64 (lim m 0)),
    Hint.val 12 50 (Value.int IntKind.u64 l4),
    Hint.val 12 62 (Value.int IntKind.i64 x)])
    [evCall Tryz.prog 0 (bodied Tryz.prog) ov4 sbs 1000 19 35 [Value.agg #[Value.bool false, Value.int IntKind.u64 (lim m 0), Value.int IntKind.u64 (lim m 1), Value.int IntKind.u64 (lim m 2), Value.int IntKind.u64 (lim m 3), Value.int IntKind.u64 (lim m 4), Value.int IntKind.u64 (lim m 5), Value.int IntKind.u64 (lim m 6), Value.int IntKind.u64 (lim m 7), Value.int IntKind.u64 (lim m 8), Value.int IntKind.u64 (lim m 9), Value.int IntKind.u64 (lim m 10), Value.int IntKind.u64 (lim m 11), Value.int IntKind.u64 (lim m 12), Value.int IntKind.u64 (lim m 13), Value.int IntKind.u64 (lim m 14), Value.int IntKind.u64 (lim m 15), Value.int IntKind.u64 (lim m 16), Value.int IntKind.u64 (lim m 17), Value.int IntKind.u64 (lim m 18), Value.int IntKind.u64 (lim m 19)], Value.agg #[Value.bool false, Value.int IntKind.u64 65535, Value.int IntKind.u64 65535, Value.int IntKind.u64 65535, Value.int IntKind.u64 65535, Value.int IntKind.u64 65535, Value.int IntKind.u64 65535, Value.int IntKind.u64 65535, Value.int IntKind.u64 32767, Value.int IntKind.u64 0, Value.int IntKind.u64 0, Value.int IntKind.u64 0, Value.int IntKind.u64 0, Value.int IntKind.u64 0, Value.int IntKind.u64 0, Value.int IntKind.u64 0, Value.int IntKind.u64 0, Value.int IntKind.u64 0, Value.int IntKind.u64 0, Value.int IntKind.u64 0, Value.int IntKind.u64 0]] { n := 0, objs := [] } = some (Value.int IntKind.i64 q1, { n := 0, objs := [] }, []),
    Value.bool (decide (q1 > (0 : Int))) = Value.bool false,
    evCall Tryz.prog 0 (bodied Tryz.prog) ov4 sbs 1000 19 35 [Value.agg #[Value.bool false, Value.int IntKind.u64 (lim m 0), Value.int IntKind.u64 (lim m 1), Value.int IntKind.u64 (lim m 2), Value.int IntKind.u64 (lim m 3), Value.int IntKind.u64 (lim m 4), Value.int IntKind.u64 (lim m 5), Value.int IntKind.u64 (lim m 6), Value.int IntKind.u64 (lim m 7), Value.int IntKind.u64 (lim m 8), Value.int IntKind.u64 (lim m 9), Value.int IntKind.u64 (lim m 10), Value.int IntKind.u64 (lim m 11), Value.int IntKind.u64 (lim m 12), Value.int IntKind.u64 (lim m 13), Value.int IntKind.u64 (lim m 14), Value.int IntKind.u64 (lim m 15), Value.int IntKind.u64 (lim m 16), Value.int IntKind.u64 (lim m 17), Value.int IntKind.u64 (lim m 18), Value.int IntKind.u64 (lim m 19)], Value.agg #[Value.bool true, Value.int IntKind.u64 0, Value.int IntKind.u64 0, Value.int IntKind.u64 0, Value.int IntKind.u64 0, Value.int IntKind.u64 0, Value.int IntKind.u64 0, Value.int IntKind.u64 0, Value.int IntKind.u64 32768, Value.int IntKind.u64 0, Value.int IntKind.u64 0, Value.int IntKind.u64 0, Value.int IntKind.u64 0, Value.int IntKind.u64 0, Value.int IntKind.u64 0, Value.int IntKind.u64 0, Value.int IntKind.u64 0, Value.int IntKind.u64 0, Value.int IntKind.u64 0, Value.int IntKind.u64 0, Value.int IntKind.u64 0]] { n := 0, objs := [] } = some (Value.int IntKind.i64 q2, { n := 0, objs := [] }, []),
    Value.bool (decide (q2 < (0 : Int))) = Value.bool false,
    Value.int IntKind.u64 (0 : Int) = Value.int IntKind.u64 (0 : Int),
    Value.int IntKind.u64 (lim m (nat_lit 7)) = Value.int IntKind.u64 (lim m (7 : Nat)),
    Value.int IntKind.u64 (IntKind.wrap IntKind.u64 ((0 : Int) + lim m (7 : Nat))) = Value.int IntKind.u64 (lim m (7 : Nat)),
    Value.int IntKind.u64 (0 : Int) = Value.int IntKind.u64 (0 : Int),
    Value.int IntKind.u64 (lim m (nat_lit 3)) = Value.int IntKind.u64 (lim m (3 : Nat)),
    Value.int IntKind.u64 (IntKind.wrap IntKind.u64 ((0 : Int) + lim m (3 : Nat))) = Value.int IntKind.u64 (lim m (3 : Nat)),
    Value.int IntKind.u64 (IntKind.wrap IntKind.u64 ((65536 : Int) * lim m (7 : Nat))) = Value.int IntKind.u64 a1,
    Value.int IntKind.u64 (lim m (nat_lit 6)) = Value.int IntKind.u64 (lim m (6 : Nat)),
    Value.int IntKind.u64 (IntKind.wrap IntKind.u64 (a1 + lim m (6 : Nat))) = Value.int IntKind.u64 h2,
    Value.int IntKind.u64 (IntKind.wrap IntKind.u64 ((65536 : Int) * lim m (3 : Nat))) = Value.int IntKind.u64 c1,
    Value.int IntKind.u64 (lim m (nat_lit 2)) = Value.int IntKind.u64 (lim m (2 : Nat)),
    Value.int IntKind.u64 (IntKind.wrap IntKind.u64 (c1 + lim m (2 : Nat))) = Value.int IntKind.u64 l2,
    Value.int IntKind.u64 (IntKind.wrap IntKind.u64 ((65536 : Int) * h2)) = Value.int IntKind.u64 a2,
    Value.int IntKind.u64 (lim m (nat_lit 5)) = Value.int IntKind.u64 (lim m (5 : Nat)),
    Value.int IntKind.u64 (IntKind.wrap IntKind.u64 (a2 + lim m (5 : Nat))) = Value.int IntKind.u64 h3,
    Value.int IntKind.u64 (IntKind.wrap IntKind.u64 ((65536 : Int) * l2)) = Value.int IntKind.u64 c2,
    Value.int IntKind.u64 (lim m (nat_lit 1)) = Value.int IntKind.u64 (lim m (1 : Nat)),
    Value.int IntKind.u64 (IntKind.wrap IntKind.u64 (c2 + lim m (1 : Nat))) = Value.int IntKind.u64 l3,
    Value.int IntKind.u64 (IntKind.wrap IntKind.u64 ((65536 : Int) * h3)) = Value.int IntKind.u64 a3,
    Value.int IntKind.u64 (lim m (nat_lit 4)) = Value.int IntKind.u64 (lim m (4 : Nat)),
    Value.int IntKind.u64 (IntKind.wrap IntKind.u64 (a3 + lim m (4 : Nat))) = Value.int IntKind.u64 h4,
    Value.int IntKind.u64 (IntKind.wrap IntKind.u64 ((65536 : Int) * l3)) = Value.int IntKind.u64 c3,
    Value.int IntKind.u64 (lim m (nat_lit 0)) = Value.int IntKind.u64 (lim m (0 : Nat)),
    Value.int IntKind.u64 (IntKind.wrap IntKind.u64 (c3 + lim m (0 : Nat))) = Value.int IntKind.u64 l4,
    Value.int IntKind.i64 (IntKind.wrap IntKind.i64 h4) = Value.int IntKind.i64 x] (by kernel_rfl)
    ⟨Dg.evCall_told h1, by first | exact Dg.vtrue (by omega) | exact Dg.vfalse (by omega), Dg.evCall_told h2c, by first | exact Dg.vtrue (by omega) | exact Dg.vfalse (by omega), rfl, rfl, wu (by omega), rfl, rfl, wu (by omega), wu (by omega), rfl, wu (by omega), wu (by omega), rfl, wu (by omega), wu (by omega), rfl, wu (by omega), wu (by omega), rfl, wu (by omega), wu (by omega), rfl, wu (by omega), wu (by omega), rfl, wu (by omega), wi ex, trivial⟩
--> wide_f
--< wide_t0
theorem wide_t0 (m : Nat) (q1 : Int) (q2 : Int) (h1 : o4 35 [num true m, mostV] = some (Value.int IntKind.i64 q1)) (hq1 : q1 ≤ 0) (h2c : o4 35 [num true m, leastV] = some (Value.int IntKind.i64 q2)) (hq2 : 0 ≤ q2) (r0 : 0 ≤ lim m 0 ∧ lim m 0 < 65536) (r1 : 0 ≤ lim m 1 ∧ lim m 1 < 65536) (r2 : 0 ≤ lim m 2 ∧ lim m 2 < 65536) (r3 : 0 ≤ lim m 3 ∧ lim m 3 < 65536) (r4 : 0 ≤ lim m 4 ∧ lim m 4 < 65536) (r5 : 0 ≤ lim m 5 ∧ lim m 5 < 65536) (r6 : 0 ≤ lim m 6 ∧ lim m 6 < 65536) (r7 : 0 ≤ lim m 7 ∧ lim m 7 < 65536) (a1 : Int) (h2 : Int) (a2 : Int) (h3 : Int) (a3 : Int) (h4 : Int) (c1 : Int) (l2 : Int) (c2 : Int) (l3 : Int) (c3 : Int) (l4 : Int) (e1 : 65536 * lim m 7 = a1) (e2 : a1 + lim m 6 = h2) (e3 : 65536 * h2 = a2) (e4 : a2 + lim m 5 = h3) (e5 : 65536 * h3 = a3) (e6 : a3 + lim m 4 = h4) (f1 : 65536 * lim m 3 = c1) (f2 : c1 + lim m 2 = l2) (f3 : 65536 * l2 = c2) (f4 : c2 + lim m 1 = l3) (f5 : 65536 * l3 = c3) (f6 : c3 + lim m 0 = l4) (y : Int) (z : Int) (ey : (0 - h4) % 18446744073709551616 = y) (hl : l4 = 0) (ez : (0 - l4) % 18446744073709551616 = z) (x : Int) (ex : (y + 9223372036854775808) % 18446744073709551616 - 9223372036854775808 = x) :
    evCall Tryz.prog 0 (bodied Tryz.prog) ov4 sbs 1000 20 12 [num true m] { n := 0, objs := [] } = some (Value.agg #[Value.int IntKind.i64 x, Value.int IntKind.u64 z], { n := 0, objs := [] }, []) :=
  Dg.evCall_hint (hs' := []) (hs := [Hint.call 35 (Value.int IntKind.i64 q1) { n := 0, objs := [] } [],
    Hint.val 12 25 (Value.bool false),
    Hint.call 35 (Value.int IntKind.i64 q2) { n := 0, objs := [] } [],
    Hint.val 12 30 (Value.bool false),
    Hint.val 12 37 (Value.int IntKind.u64 0),
    Hint.val 12 42 (Value.int IntKind.u64 (lim m 7)),
    Hint.val 12 43 (Value.int IntKind.u64 (lim m 7)),
    Hint.val 12 45 (Value.int IntKind.u64 0),
    Hint.val 12 49 (Value.int IntKind.u64 (lim m 3)),
    Hint.val 12 50 (Value.int IntKind.u64 (lim m 3)),
    Hint.val 12 37 (Value.int IntKind.u64 a1),
    Hint.val 12 42 (Value.int IntKind.u64 (lim m 6)),
    Hint.val 12 43 (Value.int IntKind.u64 h2),
    Hint.val 12 45 (Value.int IntKind.u64 c1),
    Hint.val 12 49 (Value.int IntKind.u64 (lim m 2)),
    Hint.val 12 50 (Value.int IntKind.u64 l2),
    Hint.val 12 37 (Value.int IntKind.u64 a2),
    Hint.val 12 42 (Value.int IntKind.u64 (lim m 5)),
    Hint.val 12 43 (Value.int IntKind.u64 h3),
    Hint.val 12 45 (Value.int IntKind.u64 c2),
    Hint.val 12 49 (Value.int IntKind.u64 (lim m 1)),
    Hint.val 12 50 (Value.int IntKind.u64 l3),
    Hint.val 12 37 (Value.int IntKind.u64 a3),
    Hint.val 12 42 (Value.int IntKind.u64 (lim m 4)),
    Hint.val 12 43 (Value.int IntKind.u64 h4),
    Hint.val 12 45 (Value.int IntKind.u64 c3),
    Hint.val 12 49 (Value.int IntKind.u64 (lim m 0)),
    Hint.val 12 50 (Value.int IntKind.u64 l4),
    Hint.val 12 54 (Value.int IntKind.u64 y),
    Hint.val 12 56 (Value.bool false),
    Hint.val 12 60 (Value.int IntKind.u64 z),
    Hint.val 12 62 (Value.int IntKind.i64 x)])
    [evCall Tryz.prog 0 (bodied Tryz.prog) ov4 sbs 1000 19 35 [Value.agg #[Value.bool true, Value.int IntKind.u64 (lim m 0), Value.int IntKind.u64 (lim m 1), Value.int IntKind.u64 (lim m 2), Value.int IntKind.u64 (lim m 3), Value.int IntKind.u64 (lim m 4), Value.int IntKind.u64 (lim m 5), Value.int IntKind.u64 (lim m 6), Value.int IntKind.u64 (lim m 7), Value.int IntKind.u64 (lim m 8), Value.int IntKind.u64 (lim m 9), Value.int IntKind.u64 (lim m 10), Value.int IntKind.u64 (lim m 11), Value.int IntKind.u64 (lim m 12), Value.int IntKind.u64 (lim m 13), Value.int IntKind.u64 (lim m 14), Value.int IntKind.u64 (lim m 15), Value.int IntKind.u64 (lim m 16), Value.int IntKind.u64 (lim m 17), Value.int IntKind.u64 (lim m 18), Value.int IntKind.u64 (lim m 19)], Value.agg #[Value.bool false, Value.int IntKind.u64 65535, Value.int IntKind.u64 65535, Value.int IntKind.u64 65535, Value.int IntKind.u64 65535, Value.int IntKind.u64 65535, Value.int IntKind.u64 65535, Value.int IntKind.u64 65535, Value.int IntKind.u64 32767, Value.int IntKind.u64 0, Value.int IntKind.u64 0, Value.int IntKind.u64 0, Value.int IntKind.u64 0, Value.int IntKind.u64 0, Value.int IntKind.u64 0, Value.int IntKind.u64 0, Value.int IntKind.u64 0, Value.int IntKind.u64 0, Value.int IntKind.u64 0, Value.int IntKind.u64 0, Value.int IntKind.u64 0]] { n := 0, objs := [] } = some (Value.int IntKind.i64 q1, { n := 0, objs := [] }, []),
    Value.bool (decide (q1 > (0 : Int))) = Value.bool false,
    evCall Tryz.prog 0 (bodied Tryz.prog) ov4 sbs 1000 19 35 [Value.agg #[Value.bool true, Value.int IntKind.u64 (lim m 0), Value.int IntKind.u64 (lim m 1), Value.int IntKind.u64 (lim m 2), Value.int IntKind.u64 (lim m 3), Value.int IntKind.u64 (lim m 4), Value.int IntKind.u64 (lim m 5), Value.int IntKind.u64 (lim m 6), Value.int IntKind.u64 (lim m 7), Value.int IntKind.u64 (lim m 8), Value.int IntKind.u64 (lim m 9), Value.int IntKind.u64 (lim m 10), Value.int IntKind.u64 (lim m 11), Value.int IntKind.u64 (lim m 12), Value.int IntKind.u64 (lim m 13), Value.int IntKind.u64 (lim m 14), Value.int IntKind.u64 (lim m 15), Value.int IntKind.u64 (lim m 16), Value.int IntKind.u64 (lim m 17), Value.int IntKind.u64 (lim m 18), Value.int IntKind.u64 (lim m 19)], Value.agg #[Value.bool true, Value.int IntKind.u64 0, Value.int IntKind.u64 0, Value.int IntKind.u64 0, Value.int IntKind.u64 0, Value.int IntKind.u64 0, Value.int IntKind.u64 0, Value.int IntKind.u64 0, Value.int IntKind.u64 32768, Value.int IntKind.u64 0, Value.int IntKind.u64 0, Value.int IntKind.u64 0, Value.int IntKind.u64 0, Value.int IntKind.u64 0, Value.int IntKind.u64 0, Value.int IntKind.u64 0, Value.int IntKind.u64 0, Value.int IntKind.u64 0, Value.int IntKind.u64 0, Value.int IntKind.u64 0, Value.int IntKind.u64 0]] { n := 0, objs := [] } = some (Value.int IntKind.i64 q2, { n := 0, objs := [] }, []),
    Value.bool (decide (q2 < (0 : Int))) = Value.bool false,
    Value.int IntKind.u64 (0 : Int) = Value.int IntKind.u64 (0 : Int),
    Value.int IntKind.u64 (lim m (nat_lit 7)) = Value.int IntKind.u64 (lim m (7 : Nat)),
    Value.int IntKind.u64 (IntKind.wrap IntKind.u64 ((0 : Int) + lim m (7 : Nat))) = Value.int IntKind.u64 (lim m (7 : Nat)),
    Value.int IntKind.u64 (0 : Int) = Value.int IntKind.u64 (0 : Int),
    Value.int IntKind.u64 (lim m (nat_lit 3)) = Value.int IntKind.u64 (lim m (3 : Nat)),
    Value.int IntKind.u64 (IntKind.wrap IntKind.u64 ((0 : Int) + lim m (3 : Nat))) = Value.int IntKind.u64 (lim m (3 : Nat)),
    Value.int IntKind.u64 (IntKind.wrap IntKind.u64 ((65536 : Int) * lim m (7 : Nat))) = Value.int IntKind.u64 a1,
    Value.int IntKind.u64 (lim m (nat_lit 6)) = Value.int IntKind.u64 (lim m (6 : Nat)),
    Value.int IntKind.u64 (IntKind.wrap IntKind.u64 (a1 + lim m (6 : Nat))) = Value.int IntKind.u64 h2,
    Value.int IntKind.u64 (IntKind.wrap IntKind.u64 ((65536 : Int) * lim m (3 : Nat))) = Value.int IntKind.u64 c1,
    Value.int IntKind.u64 (lim m (nat_lit 2)) = Value.int IntKind.u64 (lim m (2 : Nat)),
    Value.int IntKind.u64 (IntKind.wrap IntKind.u64 (c1 + lim m (2 : Nat))) = Value.int IntKind.u64 l2,
    Value.int IntKind.u64 (IntKind.wrap IntKind.u64 ((65536 : Int) * h2)) = Value.int IntKind.u64 a2,
    Value.int IntKind.u64 (lim m (nat_lit 5)) = Value.int IntKind.u64 (lim m (5 : Nat)),
    Value.int IntKind.u64 (IntKind.wrap IntKind.u64 (a2 + lim m (5 : Nat))) = Value.int IntKind.u64 h3,
    Value.int IntKind.u64 (IntKind.wrap IntKind.u64 ((65536 : Int) * l2)) = Value.int IntKind.u64 c2,
    Value.int IntKind.u64 (lim m (nat_lit 1)) = Value.int IntKind.u64 (lim m (1 : Nat)),
    Value.int IntKind.u64 (IntKind.wrap IntKind.u64 (c2 + lim m (1 : Nat))) = Value.int IntKind.u64 l3,
    Value.int IntKind.u64 (IntKind.wrap IntKind.u64 ((65536 : Int) * h3)) = Value.int IntKind.u64 a3,
    Value.int IntKind.u64 (lim m (nat_lit 4)) = Value.int IntKind.u64 (lim m (4 : Nat)),
    Value.int IntKind.u64 (IntKind.wrap IntKind.u64 (a3 + lim m (4 : Nat))) = Value.int IntKind.u64 h4,
    Value.int IntKind.u64 (IntKind.wrap IntKind.u64 ((65536 : Int) * l3)) = Value.int IntKind.u64 c3,
    Value.int IntKind.u64 (lim m (nat_lit 0)) = Value.int IntKind.u64 (lim m (0 : Nat)),
    Value.int IntKind.u64 (IntKind.wrap IntKind.u64 (c3 + lim m (0 : Nat))) = Value.int IntKind.u64 l4,
    Value.int IntKind.u64 (IntKind.wrap IntKind.u64 ((0 : Int) - h4)) = Value.int IntKind.u64 y,
    Value.bool (decide (l4 > (0 : Int))) = Value.bool false,
    Value.int IntKind.u64 (IntKind.wrap IntKind.u64 ((0 : Int) - l4)) = Value.int IntKind.u64 z,
    Value.int IntKind.i64 (IntKind.wrap IntKind.i64 y) = Value.int IntKind.i64 x] (by kernel_rfl)
    ⟨Dg.evCall_told h1, by first | exact Dg.vtrue (by omega) | exact Dg.vfalse (by omega), Dg.evCall_told h2c, by first | exact Dg.vtrue (by omega) | exact Dg.vfalse (by omega), rfl, rfl, wu (by omega), rfl, rfl, wu (by omega), wu (by omega), rfl, wu (by omega), wu (by omega), rfl, wu (by omega), wu (by omega), rfl, wu (by omega), wu (by omega), rfl, wu (by omega), wu (by omega), rfl, wu (by omega), wu (by omega), rfl, wu (by omega), wu (by omega), by first | exact Dg.vtrue (by omega) | exact Dg.vfalse (by omega), wu (by omega), wi ex, trivial⟩
--> wide_t0
--< wide_t1
theorem wide_t1 (m : Nat) (q1 : Int) (q2 : Int) (h1 : o4 35 [num true m, mostV] = some (Value.int IntKind.i64 q1)) (hq1 : q1 ≤ 0) (h2c : o4 35 [num true m, leastV] = some (Value.int IntKind.i64 q2)) (hq2 : 0 ≤ q2) (r0 : 0 ≤ lim m 0 ∧ lim m 0 < 65536) (r1 : 0 ≤ lim m 1 ∧ lim m 1 < 65536) (r2 : 0 ≤ lim m 2 ∧ lim m 2 < 65536) (r3 : 0 ≤ lim m 3 ∧ lim m 3 < 65536) (r4 : 0 ≤ lim m 4 ∧ lim m 4 < 65536) (r5 : 0 ≤ lim m 5 ∧ lim m 5 < 65536) (r6 : 0 ≤ lim m 6 ∧ lim m 6 < 65536) (r7 : 0 ≤ lim m 7 ∧ lim m 7 < 65536) (a1 : Int) (h2 : Int) (a2 : Int) (h3 : Int) (a3 : Int) (h4 : Int) (c1 : Int) (l2 : Int) (c2 : Int) (l3 : Int) (c3 : Int) (l4 : Int) (e1 : 65536 * lim m 7 = a1) (e2 : a1 + lim m 6 = h2) (e3 : 65536 * h2 = a2) (e4 : a2 + lim m 5 = h3) (e5 : 65536 * h3 = a3) (e6 : a3 + lim m 4 = h4) (f1 : 65536 * lim m 3 = c1) (f2 : c1 + lim m 2 = l2) (f3 : 65536 * l2 = c2) (f4 : c2 + lim m 1 = l3) (f5 : 65536 * l3 = c3) (f6 : c3 + lim m 0 = l4) (y : Int) (z : Int) (ey : (0 - h4) % 18446744073709551616 = y) (hl : 0 < l4) (y2 : Int) (ey2 : (y - 1) % 18446744073709551616 = y2) (ez : (0 - l4) % 18446744073709551616 = z) (x : Int) (ex : (y2 + 9223372036854775808) % 18446744073709551616 - 9223372036854775808 = x) :
    evCall Tryz.prog 0 (bodied Tryz.prog) ov4 sbs 1000 20 12 [num true m] { n := 0, objs := [] } = some (Value.agg #[Value.int IntKind.i64 x, Value.int IntKind.u64 z], { n := 0, objs := [] }, []) :=
  Dg.evCall_hint (hs' := []) (hs := [Hint.call 35 (Value.int IntKind.i64 q1) { n := 0, objs := [] } [],
    Hint.val 12 25 (Value.bool false),
    Hint.call 35 (Value.int IntKind.i64 q2) { n := 0, objs := [] } [],
    Hint.val 12 30 (Value.bool false),
    Hint.val 12 37 (Value.int IntKind.u64 0),
    Hint.val 12 42 (Value.int IntKind.u64 (lim m 7)),
    Hint.val 12 43 (Value.int IntKind.u64 (lim m 7)),
    Hint.val 12 45 (Value.int IntKind.u64 0),
    Hint.val 12 49 (Value.int IntKind.u64 (lim m 3)),
    Hint.val 12 50 (Value.int IntKind.u64 (lim m 3)),
    Hint.val 12 37 (Value.int IntKind.u64 a1),
    Hint.val 12 42 (Value.int IntKind.u64 (lim m 6)),
    Hint.val 12 43 (Value.int IntKind.u64 h2),
    Hint.val 12 45 (Value.int IntKind.u64 c1),
    Hint.val 12 49 (Value.int IntKind.u64 (lim m 2)),
    Hint.val 12 50 (Value.int IntKind.u64 l2),
    Hint.val 12 37 (Value.int IntKind.u64 a2),
    Hint.val 12 42 (Value.int IntKind.u64 (lim m 5)),
    Hint.val 12 43 (Value.int IntKind.u64 h3),
    Hint.val 12 45 (Value.int IntKind.u64 c2),
    Hint.val 12 49 (Value.int IntKind.u64 (lim m 1)),
    Hint.val 12 50 (Value.int IntKind.u64 l3),
    Hint.val 12 37 (Value.int IntKind.u64 a3),
    Hint.val 12 42 (Value.int IntKind.u64 (lim m 4)),
    Hint.val 12 43 (Value.int IntKind.u64 h4),
    Hint.val 12 45 (Value.int IntKind.u64 c3),
    Hint.val 12 49 (Value.int IntKind.u64 (lim m 0)),
    Hint.val 12 50 (Value.int IntKind.u64 l4),
    Hint.val 12 54 (Value.int IntKind.u64 y),
    Hint.val 12 56 (Value.bool true),
    Hint.val 12 58 (Value.int IntKind.u64 y2),
    Hint.val 12 60 (Value.int IntKind.u64 z),
    Hint.val 12 62 (Value.int IntKind.i64 x)])
    [evCall Tryz.prog 0 (bodied Tryz.prog) ov4 sbs 1000 19 35 [Value.agg #[Value.bool true, Value.int IntKind.u64 (lim m 0), Value.int IntKind.u64 (lim m 1), Value.int IntKind.u64 (lim m 2), Value.int IntKind.u64 (lim m 3), Value.int IntKind.u64 (lim m 4), Value.int IntKind.u64 (lim m 5), Value.int IntKind.u64 (lim m 6), Value.int IntKind.u64 (lim m 7), Value.int IntKind.u64 (lim m 8), Value.int IntKind.u64 (lim m 9), Value.int IntKind.u64 (lim m 10), Value.int IntKind.u64 (lim m 11), Value.int IntKind.u64 (lim m 12), Value.int IntKind.u64 (lim m 13), Value.int IntKind.u64 (lim m 14), Value.int IntKind.u64 (lim m 15), Value.int IntKind.u64 (lim m 16), Value.int IntKind.u64 (lim m 17), Value.int IntKind.u64 (lim m 18), Value.int IntKind.u64 (lim m 19)], Value.agg #[Value.bool false, Value.int IntKind.u64 65535, Value.int IntKind.u64 65535, Value.int IntKind.u64 65535, Value.int IntKind.u64 65535, Value.int IntKind.u64 65535, Value.int IntKind.u64 65535, Value.int IntKind.u64 65535, Value.int IntKind.u64 32767, Value.int IntKind.u64 0, Value.int IntKind.u64 0, Value.int IntKind.u64 0, Value.int IntKind.u64 0, Value.int IntKind.u64 0, Value.int IntKind.u64 0, Value.int IntKind.u64 0, Value.int IntKind.u64 0, Value.int IntKind.u64 0, Value.int IntKind.u64 0, Value.int IntKind.u64 0, Value.int IntKind.u64 0]] { n := 0, objs := [] } = some (Value.int IntKind.i64 q1, { n := 0, objs := [] }, []),
    Value.bool (decide (q1 > (0 : Int))) = Value.bool false,
    evCall Tryz.prog 0 (bodied Tryz.prog) ov4 sbs 1000 19 35 [Value.agg #[Value.bool true, Value.int IntKind.u64 (lim m 0), Value.int IntKind.u64 (lim m 1), Value.int IntKind.u64 (lim m 2), Value.int IntKind.u64 (lim m 3), Value.int IntKind.u64 (lim m 4), Value.int IntKind.u64 (lim m 5), Value.int IntKind.u64 (lim m 6), Value.int IntKind.u64 (lim m 7), Value.int IntKind.u64 (lim m 8), Value.int IntKind.u64 (lim m 9), Value.int IntKind.u64 (lim m 10), Value.int IntKind.u64 (lim m 11), Value.int IntKind.u64 (lim m 12), Value.int IntKind.u64 (lim m 13), Value.int IntKind.u64 (lim m 14), Value.int IntKind.u64 (lim m 15), Value.int IntKind.u64 (lim m 16), Value.int IntKind.u64 (lim m 17), Value.int IntKind.u64 (lim m 18), Value.int IntKind.u64 (lim m 19)], Value.agg #[Value.bool true, Value.int IntKind.u64 0, Value.int IntKind.u64 0, Value.int IntKind.u64 0, Value.int IntKind.u64 0, Value.int IntKind.u64 0, Value.int IntKind.u64 0, Value.int IntKind.u64 0, Value.int IntKind.u64 32768, Value.int IntKind.u64 0, Value.int IntKind.u64 0, Value.int IntKind.u64 0, Value.int IntKind.u64 0, Value.int IntKind.u64 0, Value.int IntKind.u64 0, Value.int IntKind.u64 0, Value.int IntKind.u64 0, Value.int IntKind.u64 0, Value.int IntKind.u64 0, Value.int IntKind.u64 0, Value.int IntKind.u64 0]] { n := 0, objs := [] } = some (Value.int IntKind.i64 q2, { n := 0, objs := [] }, []),
    Value.bool (decide (q2 < (0 : Int))) = Value.bool false,
    Value.int IntKind.u64 (0 : Int) = Value.int IntKind.u64 (0 : Int),
    Value.int IntKind.u64 (lim m (nat_lit 7)) = Value.int IntKind.u64 (lim m (7 : Nat)),
    Value.int IntKind.u64 (IntKind.wrap IntKind.u64 ((0 : Int) + lim m (7 : Nat))) = Value.int IntKind.u64 (lim m (7 : Nat)),
    Value.int IntKind.u64 (0 : Int) = Value.int IntKind.u64 (0 : Int),
    Value.int IntKind.u64 (lim m (nat_lit 3)) = Value.int IntKind.u64 (lim m (3 : Nat)),
    Value.int IntKind.u64 (IntKind.wrap IntKind.u64 ((0 : Int) + lim m (3 : Nat))) = Value.int IntKind.u64 (lim m (3 : Nat)),
    Value.int IntKind.u64 (IntKind.wrap IntKind.u64 ((65536 : Int) * lim m (7 : Nat))) = Value.int IntKind.u64 a1,
    Value.int IntKind.u64 (lim m (nat_lit 6)) = Value.int IntKind.u64 (lim m (6 : Nat)),
    Value.int IntKind.u64 (IntKind.wrap IntKind.u64 (a1 + lim m (6 : Nat))) = Value.int IntKind.u64 h2,
    Value.int IntKind.u64 (IntKind.wrap IntKind.u64 ((65536 : Int) * lim m (3 : Nat))) = Value.int IntKind.u64 c1,
    Value.int IntKind.u64 (lim m (nat_lit 2)) = Value.int IntKind.u64 (lim m (2 : Nat)),
    Value.int IntKind.u64 (IntKind.wrap IntKind.u64 (c1 + lim m (2 : Nat))) = Value.int IntKind.u64 l2,
    Value.int IntKind.u64 (IntKind.wrap IntKind.u64 ((65536 : Int) * h2)) = Value.int IntKind.u64 a2,
    Value.int IntKind.u64 (lim m (nat_lit 5)) = Value.int IntKind.u64 (lim m (5 : Nat)),
    Value.int IntKind.u64 (IntKind.wrap IntKind.u64 (a2 + lim m (5 : Nat))) = Value.int IntKind.u64 h3,
    Value.int IntKind.u64 (IntKind.wrap IntKind.u64 ((65536 : Int) * l2)) = Value.int IntKind.u64 c2,
    Value.int IntKind.u64 (lim m (nat_lit 1)) = Value.int IntKind.u64 (lim m (1 : Nat)),
    Value.int IntKind.u64 (IntKind.wrap IntKind.u64 (c2 + lim m (1 : Nat))) = Value.int IntKind.u64 l3,
    Value.int IntKind.u64 (IntKind.wrap IntKind.u64 ((65536 : Int) * h3)) = Value.int IntKind.u64 a3,
    Value.int IntKind.u64 (lim m (nat_lit 4)) = Value.int IntKind.u64 (lim m (4 : Nat)),
    Value.int IntKind.u64 (IntKind.wrap IntKind.u64 (a3 + lim m (4 : Nat))) = Value.int IntKind.u64 h4,
    Value.int IntKind.u64 (IntKind.wrap IntKind.u64 ((65536 : Int) * l3)) = Value.int IntKind.u64 c3,
    Value.int IntKind.u64 (lim m (nat_lit 0)) = Value.int IntKind.u64 (lim m (0 : Nat)),
    Value.int IntKind.u64 (IntKind.wrap IntKind.u64 (c3 + lim m (0 : Nat))) = Value.int IntKind.u64 l4,
    Value.int IntKind.u64 (IntKind.wrap IntKind.u64 ((0 : Int) - h4)) = Value.int IntKind.u64 y,
    Value.bool (decide (l4 > (0 : Int))) = Value.bool true,
    Value.int IntKind.u64 (IntKind.wrap IntKind.u64 (y - (1 : Int))) = Value.int IntKind.u64 y2,
    Value.int IntKind.u64 (IntKind.wrap IntKind.u64 ((0 : Int) - l4)) = Value.int IntKind.u64 z,
    Value.int IntKind.i64 (IntKind.wrap IntKind.i64 y2) = Value.int IntKind.i64 x] (by kernel_rfl)
    ⟨Dg.evCall_told h1, by first | exact Dg.vtrue (by omega) | exact Dg.vfalse (by omega), Dg.evCall_told h2c, by first | exact Dg.vtrue (by omega) | exact Dg.vfalse (by omega), rfl, rfl, wu (by omega), rfl, rfl, wu (by omega), wu (by omega), rfl, wu (by omega), wu (by omega), rfl, wu (by omega), wu (by omega), rfl, wu (by omega), wu (by omega), rfl, wu (by omega), wu (by omega), rfl, wu (by omega), wu (by omega), rfl, wu (by omega), wu (by omega), by first | exact Dg.vtrue (by omega) | exact Dg.vfalse (by omega), wu (by omega), wu (by omega), wi ex, trivial⟩
--> wide_t1
end Go.Proofs.YtflgpkkbifkpoaaGreatDoor.num

namespace Go.Proofs.YtflgpkkbifkpoaaGreatDoor.num
open Go.Dg (junk St Ex Ev Hint evCall evLoop bodied noOver Flats flatOver Heap AObj lay noO)
set_option linter.unusedVariables false

theorem num_open (c : Bool) (k : Nat) : num c k = .agg #[.bool c, .int .u64 (lim k 0), .int .u64 (lim k 1), .int .u64 (lim k 2), .int .u64 (lim k 3), .int .u64 (lim k 4), .int .u64 (lim k 5), .int .u64 (lim k 6), .int .u64 (lim k 7), .int .u64 (lim k 8), .int .u64 (lim k 9), .int .u64 (lim k 10), .int .u64 (lim k 11), .int .u64 (lim k 12), .int .u64 (lim k 13), .int .u64 (lim k 14), .int .u64 (lim k 15), .int .u64 (lim k 16), .int .u64 (lim k 17), .int .u64 (lim k 18), .int .u64 (lim k 19)] := by kernel_rfl
def L5 : List FuncId := [8, 12]
noncomputable def o5 : FuncId → List Value → Option Value := lay Tryz.prog (bodied Tryz.prog) ov4 sbs 1000 20 L5 o4
noncomputable abbrev ov5 : Ev := flatOver o5
theorem o5_flats : ∀ f args v, o5 f args = some v → Flats Tryz.prog f args v := Dg.lay_flats mixed okB (Dg.flatOver_ok o4_flats) (by kernel_rfl) o4_flats
theorem under5 {f : FuncId} {args : List Value} {v : Value} (h : o4 f args = some v) (hf : L5.contains f = false := by rfl) : o5 f args = some v := Dg.lay_under hf h
def L6 : List FuncId := [9]
noncomputable def o6 : FuncId → List Value → Option Value := lay Tryz.prog (bodied Tryz.prog) ov5 sbs 1000 20 L6 o5
noncomputable abbrev ov6 : Ev := flatOver o6
theorem o6_flats : ∀ f args v, o6 f args = some v → Flats Tryz.prog f args v := Dg.lay_flats mixed okB (Dg.flatOver_ok o5_flats) (by kernel_rfl) o5_flats
theorem under6 {f : FuncId} {args : List Value} {v : Value} (h : o5 f args = some v) (hf : L6.contains f = false := by rfl) : o6 f args = some v := Dg.lay_under hf h
theorem b19 {m : Nat} (h : m ≤ 340282366920938463463374607431768211456) : m < B ^ 19 := Nat.lt_of_le_of_lt h (by decide)
theorem b20 {m : Nat} (h : m ≤ 340282366920938463463374607431768211456) : m < B ^ 20 := Nat.lt_of_le_of_lt h (by decide)
theorem wv_flat (v : Int) : Dg.flatL [wv v] = true := rfl
theorem from_w {v : Int} (hv : InW v) : o5 8 [wv v] = some (num (decide (v < 0)) v.natAbs) := by
  obtain ⟨h, l, e1, e2, e3, e4⟩ := wv_parts hv
  unfold I64 at e4
  rw [e1]
  obtain ⟨x, rfl⟩ := Int.eq_ofNat_of_zero_le e3.1
  have h1 := under4 (under3 (under2 (of_told h (by omega))))
  have h3 := under4 (under3 (under2 (n64_told x (by omega))))
  have h2 := under4 (under3 (mul_told (decide (h < 0)) false (m := h.natAbs) (n := 18446744073709551616) (b20 (by omega)) (b19 (by omega))))
  rw [← topV_is, show (decide (h < 0) != false) = decide (h < 0) by cases decide (h < 0) <;> rfl] at h2
  have fin : o4 28 [num (decide (h < 0)) (h.natAbs * 18446744073709551616), num false x] = some (num (decide (v < 0)) v.natAbs) := by
    rcases Int.lt_or_le h 0 with h0 | h0
    · have := under4 (under3 (add_ge true (m := h.natAbs * 18446744073709551616) (n := x) (b20 (by omega)) (b20 (by omega)) (by omega)))
      rw [decide_eq_true h0, decide_eq_true (by omega : v < 0)]
      rw [show h.natAbs * 18446744073709551616 - x = v.natAbs by omega] at this
      exact this
    · have := under4 (under3 (add_same false (m := h.natAbs * 18446744073709551616) (n := x) (b19 (by omega)) (b19 (by omega)) (b19 (by omega))))
      rw [decide_eq_false (by omega), decide_eq_false (by omega : ¬ v < 0)]
      rw [show h.natAbs * 18446744073709551616 + x = v.natAbs by omega] at this
      exact this
  have r := from_r h (x : Int) (decide (h < 0)) (decide (v < 0)) h.natAbs (h.natAbs * 18446744073709551616) x v.natAbs h1 h2 h3 fin
  rw [← num_open] at r
  exact Dg.lay_told rfl r rfl (num_flat _ _)
theorem ends_r (m n : Nat) (h1 : o5 8 [wd (-9223372036854775808) 0] = some (num true m)) (h2 : o5 8 [wd 9223372036854775807 18446744073709551615] = some (num false n)) :
    evCall Tryz.prog 0 (bodied Tryz.prog) ov5 sbs 1000 20 9 [] ⟨0, []⟩ = some (.tuple #[num true m, num false n], ⟨0, []⟩, []) :=
  Dg.evCall_hint (hs' := []) (hs := [Hint.call 8 (num true m) ⟨0, []⟩ [], Hint.call 8 (num false n) ⟨0, []⟩ []])
    [evCall Tryz.prog 0 (bodied Tryz.prog) ov5 sbs 1000 19 8 [wd (-9223372036854775808) 0] ⟨0, []⟩ = some (num true m, ⟨0, []⟩, []), evCall Tryz.prog 0 (bodied Tryz.prog) ov5 sbs 1000 19 8 [wd 9223372036854775807 18446744073709551615] ⟨0, []⟩ = some (num false n, ⟨0, []⟩, [])] (by kernel_rfl) ⟨Dg.evCall_told h1, Dg.evCall_told h2, trivial⟩
theorem ends_w : o6 9 [] = some (.tuple #[num true 170141183460469231731687303715884105728, num false 170141183460469231731687303715884105727]) := by
  have h1 : o5 8 [wv (-170141183460469231731687303715884105728)] = some (num true 170141183460469231731687303715884105728) := from_w (by unfold InW; omega)
  have h2 : o5 8 [wv 170141183460469231731687303715884105727] = some (num false 170141183460469231731687303715884105727) := from_w (by unfold InW; omega)
  rw [wv_eq (h := -9223372036854775808) (l := 0) (by omega) (by omega)] at h1
  rw [wv_eq (h := 9223372036854775807) (l := 18446744073709551615) (by omega) (by omega)] at h2
  exact Dg.lay_told rfl (ends_r _ _ h1 h2) rfl (by kernel_rfl)
theorem limb_up (m i : Nat) : limb m (i + 4) = limb (m / B ^ 4) i := by
  unfold limb
  rw [Nat.div_div_eq_div_mul, ← Nat.pow_add, Nat.add_comm 4 i]
theorem four (m : Nat) : lim m 0 + 65536 * (lim m 1 + 65536 * (lim m 2 + 65536 * lim m 3)) = ((m % 18446744073709551616 : Nat) : Int) := by
  have h := qs_limb m 4
  have e : B ^ 4 = 18446744073709551616 := by decide
  rw [e] at h
  rw [← h]
  unfold lim
  have hB : B = 65536 := rfl
  simp only [qs]
  have e0 : B ^ 0 = 1 := rfl
  have e1 : B ^ 1 = 65536 := rfl
  have e2 : B ^ 2 = 4294967296 := by decide
  have e3 : B ^ 3 = 281474976710656 := by decide
  rw [e0, e1, e2, e3]
  omega
theorem fourhi (m : Nat) (h : m < 340282366920938463463374607431768211456) : lim m 4 + 65536 * (lim m 5 + 65536 * (lim m 6 + 65536 * lim m 7)) = ((m / 18446744073709551616 : Nat) : Int) := by
  have h4 := four (m / B ^ 4)
  have e : B ^ 4 = 18446744073709551616 := by decide
  have u : ∀ i, lim m (i + 4) = lim (m / B ^ 4) i := fun i => by unfold lim; rw [limb_up]
  have u0 := u 0; have u1 := u 1; have u2 := u 2; have u3 := u 3
  simp only [Nat.zero_add] at u0
  rw [u0, u1, u2, u3, h4, e]
  congr 1
  omega
theorem wide_w {v : Int} (hv : InW v) : o5 12 [num (decide (v < 0)) v.natAbs] = some (wv v) := by
  have hv' := hv
  unfold InW at hv
  have hm : v.natAbs < 340282366920938463463374607431768211456 := by omega
  have c1 := under4 (under3 (cmp_told (decide (v < 0)) false (m := v.natAbs) (n := 170141183460469231731687303715884105727) (b20 (by omega)) (b20 (by omega))))
  have c2 := under4 (under3 (cmp_told (decide (v < 0)) true (m := v.natAbs) (n := 170141183460469231731687303715884105728) (b20 (by omega)) (b20 (by omega))))
  rw [sval_int, ← mostV_is] at c1
  rw [sval_int, ← leastV_is] at c2
  have q1 : scmp v (sval false 170141183460469231731687303715884105727) ≤ 0 := scmp_hi.2 (by unfold sval; rw [if_neg (by decide)]; omega)
  have q2 : 0 ≤ scmp v (sval true 170141183460469231731687303715884105728) := scmp_lo.2 (by unfold sval; rw [if_pos rfl]; omega)
  have f4 := four v.natAbs
  have g4 := fourhi v.natAbs hm
  have b0 := lim_b v.natAbs 0; have b1 := lim_b v.natAbs 1; have b2 := lim_b v.natAbs 2; have b3 := lim_b v.natAbs 3
  have b4 := lim_b v.natAbs 4; have b5 := lim_b v.natAbs 5; have b6 := lim_b v.natAbs 6; have b7 := lim_b v.natAbs 7
  generalize hL : v.natAbs % 18446744073709551616 = lo at f4
  generalize hH : v.natAbs / 18446744073709551616 = hi at g4
  have hsum : v.natAbs = hi * 18446744073709551616 + lo := by omega
  rcases Int.lt_or_le v 0 with h0 | h0
  · rw [decide_eq_true h0] at c1 c2 ⊢
    rcases Nat.eq_zero_or_pos lo with hl | hl
    · have r := wide_t0 v.natAbs _ _ c1 q1 c2 q2 b0 b1 b2 b3 b4 b5 b6 b7 _ _ _ _ _ (hi : Int) _ _ _ _ _ (lo : Int) rfl rfl rfl rfl rfl (by omega) rfl rfl rfl rfl rfl (by omega) ((0 - (hi : Int)) % 18446744073709551616) 0 rfl (by omega) (by omega) (-(hi : Int)) (by omega)
      rw [wv_eq (v := v) (h := -(hi : Int)) (l := 0) (by omega) (by omega)]
      exact Dg.lay_told rfl r (flat1 _ _) rfl
    · have r := wide_t1 v.natAbs _ _ c1 q1 c2 q2 b0 b1 b2 b3 b4 b5 b6 b7 _ _ _ _ _ (hi : Int) _ _ _ _ _ (lo : Int) rfl rfl rfl rfl rfl (by omega) rfl rfl rfl rfl rfl (by omega) ((0 - (hi : Int)) % 18446744073709551616) (18446744073709551616 - (lo : Int)) rfl (by omega) _ rfl (by omega) (-(hi : Int) - 1) (by omega)
      rw [wv_eq (v := v) (h := -(hi : Int) - 1) (l := 18446744073709551616 - (lo : Int)) (by omega) (by omega)]
      exact Dg.lay_told rfl r (flat1 _ _) rfl
  · rw [decide_eq_false (by omega)] at c1 c2 ⊢
    have r := wide_f v.natAbs _ _ c1 q1 c2 q2 b0 b1 b2 b3 b4 b5 b6 b7 _ _ _ _ _ (hi : Int) _ _ _ _ _ (lo : Int) rfl rfl rfl rfl rfl (by omega) rfl rfl rfl rfl rfl (by omega) (hi : Int) (by omega)
    rw [wv_eq (v := v) (h := (hi : Int)) (l := (lo : Int)) (by omega) (by omega)]
    exact Dg.lay_told rfl r (flat1 _ _) rfl
end Go.Proofs.YtflgpkkbifkpoaaGreatDoor.num
