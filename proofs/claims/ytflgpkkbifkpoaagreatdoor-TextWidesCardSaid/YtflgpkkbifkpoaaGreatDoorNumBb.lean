/- Comparisons, sums and products of the reference's numbers. What comparisons, sums and products of the reference's numbers come to. The decimal text of the reference's numbers. The decimal text of the reference's numbers, as a law. -/
import Derived.Test.YtflgpkkbifkpoaaGreatDoorRows
import Derived.Test.YtflgpkkbifkpoaaGreatDoorNumAa
import Derived.Laws.Strings
namespace Go.Proofs.YtflgpkkbifkpoaaGreatDoor.num
open Go.Dg (junk St Ex Ev Hint evCall evCallS evCode evCodeK innerKp evCodeS evLoop cleanSt ue bodied noOver sbOf headOf tailOf bodyOf rAssign rBody lBody Flats flatOver Heap AObj SCall Law ofLaw Fix)
set_option linter.unusedVariables false
set_option linter.unusedSimpArgs false

/-- A natural number's cell. -/
theorem u64_nat {x : Int} {a : Nat} (h : x = (a : Int)) (hb : a < 18446744073709551616) : Value.int .u64 (IntKind.wrap .u64 x) = .int .u64 (a : Int) := Dg.u64_eq h (by omega) (by omega)
theorem inc64 {i : Nat} (h : i < 100000) : Value.int .i64 (IntKind.wrap .i64 ((i : Int) + 1)) = .int .i64 ((i + 1 : Nat) : Int) := Dg.i64_eq (by omega) (by omega) (by omega)
theorem add64 {i j : Nat} (h : i + j < 100000) : Value.int .i64 (IntKind.wrap .i64 ((i : Int) + (j : Int))) = .int .i64 ((i + j : Nat) : Int) := Dg.i64_eq (by omega) (by omega) (by omega)
theorem add64x {i j k : Nat} (h : i + j = k) (hk : k < 100000) : Value.int .i64 (IntKind.wrap .i64 ((i : Int) + (j : Int))) = .int .i64 ((k : Nat) : Int) := Dg.i64_eq (by omega) (by omega) (by omega)
noncomputable def lP : Code := lBody ((Tryz.f28.body).getD .skip)
/-- The loops of a code that stand in no other one. -/
def loopsOf : Code → List Code
  | .seq a b => loopsOf a ++ loopsOf b
  | .cond _ a b => loopsOf a ++ loopsOf b
  | .block _ b => loopsOf b
  | .loop b => [b]
  | .scope b => loopsOf b
  | _ => []
--< cmp_pp
theorem cmp_pp (m : Nat) (n : Nat) (hm : m < B ^ 20) (hn : n < B ^ 20) :
    evCall Tryz.prog 0 (bodied Tryz.prog) ov1 sbs 1000 20 35 [num false m, num false n] { n := 0, objs := [] } = some (Value.int IntKind.i64 (sgn m n), { n := 0, objs := [] }, []) :=
  Dg.evCall_hint (hs' := []) (hs := [Hint.call 60 (Value.int IntKind.i64 (sgn m n)) { n := 0, objs := [] } []])
    [evCall Tryz.prog 0 (bodied Tryz.prog) ov1 sbs 1000 19 60 [Value.agg #[Value.bool false, Value.int IntKind.u64 (lim m 0), Value.int IntKind.u64 (lim m 1), Value.int IntKind.u64 (lim m 2), Value.int IntKind.u64 (lim m 3), Value.int IntKind.u64 (lim m 4), Value.int IntKind.u64 (lim m 5), Value.int IntKind.u64 (lim m 6), Value.int IntKind.u64 (lim m 7), Value.int IntKind.u64 (lim m 8), Value.int IntKind.u64 (lim m 9), Value.int IntKind.u64 (lim m 10), Value.int IntKind.u64 (lim m 11), Value.int IntKind.u64 (lim m 12), Value.int IntKind.u64 (lim m 13), Value.int IntKind.u64 (lim m 14), Value.int IntKind.u64 (lim m 15), Value.int IntKind.u64 (lim m 16), Value.int IntKind.u64 (lim m 17), Value.int IntKind.u64 (lim m 18), Value.int IntKind.u64 (lim m 19)], Value.agg #[Value.bool false, Value.int IntKind.u64 (lim n 0), Value.int IntKind.u64 (lim n 1), Value.int IntKind.u64 (lim n 2), Value.int IntKind.u64 (lim n 3), Value.int IntKind.u64 (lim n 4), Value.int IntKind.u64 (lim n 5), Value.int IntKind.u64 (lim n 6), Value.int IntKind.u64 (lim n 7), Value.int IntKind.u64 (lim n 8), Value.int IntKind.u64 (lim n 9), Value.int IntKind.u64 (lim n 10), Value.int IntKind.u64 (lim n 11), Value.int IntKind.u64 (lim n 12), Value.int IntKind.u64 (lim n 13), Value.int IntKind.u64 (lim n 14), Value.int IntKind.u64 (lim n 15), Value.int IntKind.u64 (lim n 16), Value.int IntKind.u64 (lim n 17), Value.int IntKind.u64 (lim n 18), Value.int IntKind.u64 (lim n 19)]] { n := 0, objs := [] } = some (Value.int IntKind.i64 (sgn m n), { n := 0, objs := [] }, [])] (by kernel_rfl)
    ⟨Dg.evCall_told (size_told _ _ hm hn), trivial⟩
--> cmp_pp
--< cmp_mp
theorem cmp_mp (m : Nat) (n : Nat) (hm : m < B ^ 20) (hn : n < B ^ 20) (h0 : 0 < m) :
    evCall Tryz.prog 0 (bodied Tryz.prog) ov1 sbs 1000 20 35 [num true m, num false n] { n := 0, objs := [] } = some (Value.int IntKind.i64 (-1), { n := 0, objs := [] }, []) :=
  Dg.evCall_hint (hs' := []) (hs := [Hint.call 27 (Value.bool false) { n := 0, objs := [] } []])
    [evCall Tryz.prog 0 (bodied Tryz.prog) ov1 sbs 1000 19 27 [Value.agg #[Value.bool true, Value.int IntKind.u64 (lim m 0), Value.int IntKind.u64 (lim m 1), Value.int IntKind.u64 (lim m 2), Value.int IntKind.u64 (lim m 3), Value.int IntKind.u64 (lim m 4), Value.int IntKind.u64 (lim m 5), Value.int IntKind.u64 (lim m 6), Value.int IntKind.u64 (lim m 7), Value.int IntKind.u64 (lim m 8), Value.int IntKind.u64 (lim m 9), Value.int IntKind.u64 (lim m 10), Value.int IntKind.u64 (lim m 11), Value.int IntKind.u64 (lim m 12), Value.int IntKind.u64 (lim m 13), Value.int IntKind.u64 (lim m 14), Value.int IntKind.u64 (lim m 15), Value.int IntKind.u64 (lim m 16), Value.int IntKind.u64 (lim m 17), Value.int IntKind.u64 (lim m 18), Value.int IntKind.u64 (lim m 19)]] { n := 0, objs := [] } = some (Value.bool false, { n := 0, objs := [] }, [])] (by kernel_rfl)
    ⟨Dg.evCall_told (zero_no _ hm h0), trivial⟩
--> cmp_mp
--< cmp_0p
theorem cmp_0p (m : Nat) (n : Nat) (hm : m < B ^ 20) (hn : n < B ^ 20) (h0 : m = 0) :
    evCall Tryz.prog 0 (bodied Tryz.prog) ov1 sbs 1000 20 35 [num true m, num false n] { n := 0, objs := [] } = some (Value.int IntKind.i64 (sgn m n), { n := 0, objs := [] }, []) :=
  Dg.evCall_hint (hs' := []) (hs := [Hint.call 27 (Value.bool true) { n := 0, objs := [] } [],
    Hint.call 60 (Value.int IntKind.i64 (sgn m n)) { n := 0, objs := [] } []])
    [evCall Tryz.prog 0 (bodied Tryz.prog) ov1 sbs 1000 19 27 [Value.agg #[Value.bool true, Value.int IntKind.u64 (lim m 0), Value.int IntKind.u64 (lim m 1), Value.int IntKind.u64 (lim m 2), Value.int IntKind.u64 (lim m 3), Value.int IntKind.u64 (lim m 4), Value.int IntKind.u64 (lim m 5), Value.int IntKind.u64 (lim m 6), Value.int IntKind.u64 (lim m 7), Value.int IntKind.u64 (lim m 8), Value.int IntKind.u64 (lim m 9), Value.int IntKind.u64 (lim m 10), Value.int IntKind.u64 (lim m 11), Value.int IntKind.u64 (lim m 12), Value.int IntKind.u64 (lim m 13), Value.int IntKind.u64 (lim m 14), Value.int IntKind.u64 (lim m 15), Value.int IntKind.u64 (lim m 16), Value.int IntKind.u64 (lim m 17), Value.int IntKind.u64 (lim m 18), Value.int IntKind.u64 (lim m 19)]] { n := 0, objs := [] } = some (Value.bool true, { n := 0, objs := [] }, []),
    evCall Tryz.prog 0 (bodied Tryz.prog) ov1 sbs 1000 19 60 [Value.agg #[Value.bool false, Value.int IntKind.u64 (lim m 0), Value.int IntKind.u64 (lim m 1), Value.int IntKind.u64 (lim m 2), Value.int IntKind.u64 (lim m 3), Value.int IntKind.u64 (lim m 4), Value.int IntKind.u64 (lim m 5), Value.int IntKind.u64 (lim m 6), Value.int IntKind.u64 (lim m 7), Value.int IntKind.u64 (lim m 8), Value.int IntKind.u64 (lim m 9), Value.int IntKind.u64 (lim m 10), Value.int IntKind.u64 (lim m 11), Value.int IntKind.u64 (lim m 12), Value.int IntKind.u64 (lim m 13), Value.int IntKind.u64 (lim m 14), Value.int IntKind.u64 (lim m 15), Value.int IntKind.u64 (lim m 16), Value.int IntKind.u64 (lim m 17), Value.int IntKind.u64 (lim m 18), Value.int IntKind.u64 (lim m 19)], Value.agg #[Value.bool false, Value.int IntKind.u64 (lim n 0), Value.int IntKind.u64 (lim n 1), Value.int IntKind.u64 (lim n 2), Value.int IntKind.u64 (lim n 3), Value.int IntKind.u64 (lim n 4), Value.int IntKind.u64 (lim n 5), Value.int IntKind.u64 (lim n 6), Value.int IntKind.u64 (lim n 7), Value.int IntKind.u64 (lim n 8), Value.int IntKind.u64 (lim n 9), Value.int IntKind.u64 (lim n 10), Value.int IntKind.u64 (lim n 11), Value.int IntKind.u64 (lim n 12), Value.int IntKind.u64 (lim n 13), Value.int IntKind.u64 (lim n 14), Value.int IntKind.u64 (lim n 15), Value.int IntKind.u64 (lim n 16), Value.int IntKind.u64 (lim n 17), Value.int IntKind.u64 (lim n 18), Value.int IntKind.u64 (lim n 19)]] { n := 0, objs := [] } = some (Value.int IntKind.i64 (sgn m n), { n := 0, objs := [] }, [])] (by kernel_rfl)
    ⟨Dg.evCall_told (zero_yes _ h0), Dg.evCall_told (size_told _ _ hm hn), trivial⟩
--> cmp_0p
--< cmp_pm
theorem cmp_pm (m : Nat) (n : Nat) (hm : m < B ^ 20) (hn : n < B ^ 20) (h0 : 0 < n) :
    evCall Tryz.prog 0 (bodied Tryz.prog) ov1 sbs 1000 20 35 [num false m, num true n] { n := 0, objs := [] } = some (Value.int IntKind.i64 1, { n := 0, objs := [] }, []) :=
  Dg.evCall_hint (hs' := []) (hs := [Hint.call 27 (Value.bool false) { n := 0, objs := [] } []])
    [evCall Tryz.prog 0 (bodied Tryz.prog) ov1 sbs 1000 19 27 [Value.agg #[Value.bool true, Value.int IntKind.u64 (lim n 0), Value.int IntKind.u64 (lim n 1), Value.int IntKind.u64 (lim n 2), Value.int IntKind.u64 (lim n 3), Value.int IntKind.u64 (lim n 4), Value.int IntKind.u64 (lim n 5), Value.int IntKind.u64 (lim n 6), Value.int IntKind.u64 (lim n 7), Value.int IntKind.u64 (lim n 8), Value.int IntKind.u64 (lim n 9), Value.int IntKind.u64 (lim n 10), Value.int IntKind.u64 (lim n 11), Value.int IntKind.u64 (lim n 12), Value.int IntKind.u64 (lim n 13), Value.int IntKind.u64 (lim n 14), Value.int IntKind.u64 (lim n 15), Value.int IntKind.u64 (lim n 16), Value.int IntKind.u64 (lim n 17), Value.int IntKind.u64 (lim n 18), Value.int IntKind.u64 (lim n 19)]] { n := 0, objs := [] } = some (Value.bool false, { n := 0, objs := [] }, [])] (by kernel_rfl)
    ⟨Dg.evCall_told (zero_no _ hn h0), trivial⟩
--> cmp_pm
--< cmp_p0
theorem cmp_p0 (m : Nat) (n : Nat) (hm : m < B ^ 20) (hn : n < B ^ 20) (h0 : n = 0) :
    evCall Tryz.prog 0 (bodied Tryz.prog) ov1 sbs 1000 20 35 [num false m, num true n] { n := 0, objs := [] } = some (Value.int IntKind.i64 (sgn m n), { n := 0, objs := [] }, []) :=
  Dg.evCall_hint (hs' := []) (hs := [Hint.call 27 (Value.bool true) { n := 0, objs := [] } [],
    Hint.call 60 (Value.int IntKind.i64 (sgn m n)) { n := 0, objs := [] } []])
    [evCall Tryz.prog 0 (bodied Tryz.prog) ov1 sbs 1000 19 27 [Value.agg #[Value.bool true, Value.int IntKind.u64 (lim n 0), Value.int IntKind.u64 (lim n 1), Value.int IntKind.u64 (lim n 2), Value.int IntKind.u64 (lim n 3), Value.int IntKind.u64 (lim n 4), Value.int IntKind.u64 (lim n 5), Value.int IntKind.u64 (lim n 6), Value.int IntKind.u64 (lim n 7), Value.int IntKind.u64 (lim n 8), Value.int IntKind.u64 (lim n 9), Value.int IntKind.u64 (lim n 10), Value.int IntKind.u64 (lim n 11), Value.int IntKind.u64 (lim n 12), Value.int IntKind.u64 (lim n 13), Value.int IntKind.u64 (lim n 14), Value.int IntKind.u64 (lim n 15), Value.int IntKind.u64 (lim n 16), Value.int IntKind.u64 (lim n 17), Value.int IntKind.u64 (lim n 18), Value.int IntKind.u64 (lim n 19)]] { n := 0, objs := [] } = some (Value.bool true, { n := 0, objs := [] }, []),
    evCall Tryz.prog 0 (bodied Tryz.prog) ov1 sbs 1000 19 60 [Value.agg #[Value.bool false, Value.int IntKind.u64 (lim m 0), Value.int IntKind.u64 (lim m 1), Value.int IntKind.u64 (lim m 2), Value.int IntKind.u64 (lim m 3), Value.int IntKind.u64 (lim m 4), Value.int IntKind.u64 (lim m 5), Value.int IntKind.u64 (lim m 6), Value.int IntKind.u64 (lim m 7), Value.int IntKind.u64 (lim m 8), Value.int IntKind.u64 (lim m 9), Value.int IntKind.u64 (lim m 10), Value.int IntKind.u64 (lim m 11), Value.int IntKind.u64 (lim m 12), Value.int IntKind.u64 (lim m 13), Value.int IntKind.u64 (lim m 14), Value.int IntKind.u64 (lim m 15), Value.int IntKind.u64 (lim m 16), Value.int IntKind.u64 (lim m 17), Value.int IntKind.u64 (lim m 18), Value.int IntKind.u64 (lim m 19)], Value.agg #[Value.bool false, Value.int IntKind.u64 (lim n 0), Value.int IntKind.u64 (lim n 1), Value.int IntKind.u64 (lim n 2), Value.int IntKind.u64 (lim n 3), Value.int IntKind.u64 (lim n 4), Value.int IntKind.u64 (lim n 5), Value.int IntKind.u64 (lim n 6), Value.int IntKind.u64 (lim n 7), Value.int IntKind.u64 (lim n 8), Value.int IntKind.u64 (lim n 9), Value.int IntKind.u64 (lim n 10), Value.int IntKind.u64 (lim n 11), Value.int IntKind.u64 (lim n 12), Value.int IntKind.u64 (lim n 13), Value.int IntKind.u64 (lim n 14), Value.int IntKind.u64 (lim n 15), Value.int IntKind.u64 (lim n 16), Value.int IntKind.u64 (lim n 17), Value.int IntKind.u64 (lim n 18), Value.int IntKind.u64 (lim n 19)]] { n := 0, objs := [] } = some (Value.int IntKind.i64 (sgn m n), { n := 0, objs := [] }, [])] (by kernel_rfl)
    ⟨Dg.evCall_told (zero_yes _ h0), Dg.evCall_told (size_told _ _ hm hn), trivial⟩
--> cmp_p0
--< cmp_mm
theorem cmp_mm (m : Nat) (n : Nat) (hm : m < B ^ 20) (hn : n < B ^ 20) (h0 : 0 < m) (h1 : 0 < n) :
    evCall Tryz.prog 0 (bodied Tryz.prog) ov1 sbs 1000 20 35 [num true m, num true n] { n := 0, objs := [] } = some (Value.int IntKind.i64 (sgn n m), { n := 0, objs := [] }, []) :=
  Dg.evCall_hint (hs' := []) (hs := [Hint.call 27 (Value.bool false) { n := 0, objs := [] } [],
    Hint.call 27 (Value.bool false) { n := 0, objs := [] } [],
    Hint.call 60 (Value.int IntKind.i64 (sgn n m)) { n := 0, objs := [] } []])
    [evCall Tryz.prog 0 (bodied Tryz.prog) ov1 sbs 1000 19 27 [Value.agg #[Value.bool true, Value.int IntKind.u64 (lim m 0), Value.int IntKind.u64 (lim m 1), Value.int IntKind.u64 (lim m 2), Value.int IntKind.u64 (lim m 3), Value.int IntKind.u64 (lim m 4), Value.int IntKind.u64 (lim m 5), Value.int IntKind.u64 (lim m 6), Value.int IntKind.u64 (lim m 7), Value.int IntKind.u64 (lim m 8), Value.int IntKind.u64 (lim m 9), Value.int IntKind.u64 (lim m 10), Value.int IntKind.u64 (lim m 11), Value.int IntKind.u64 (lim m 12), Value.int IntKind.u64 (lim m 13), Value.int IntKind.u64 (lim m 14), Value.int IntKind.u64 (lim m 15), Value.int IntKind.u64 (lim m 16), Value.int IntKind.u64 (lim m 17), Value.int IntKind.u64 (lim m 18), Value.int IntKind.u64 (lim m 19)]] { n := 0, objs := [] } = some (Value.bool false, { n := 0, objs := [] }, []),
    evCall Tryz.prog 0 (bodied Tryz.prog) ov1 sbs 1000 19 27 [Value.agg #[Value.bool true, Value.int IntKind.u64 (lim n 0), Value.int IntKind.u64 (lim n 1), Value.int IntKind.u64 (lim n 2), Value.int IntKind.u64 (lim n 3), Value.int IntKind.u64 (lim n 4), Value.int IntKind.u64 (lim n 5), Value.int IntKind.u64 (lim n 6), Value.int IntKind.u64 (lim n 7), Value.int IntKind.u64 (lim n 8), Value.int IntKind.u64 (lim n 9), Value.int IntKind.u64 (lim n 10), Value.int IntKind.u64 (lim n 11), Value.int IntKind.u64 (lim n 12), Value.int IntKind.u64 (lim n 13), Value.int IntKind.u64 (lim n 14), Value.int IntKind.u64 (lim n 15), Value.int IntKind.u64 (lim n 16), Value.int IntKind.u64 (lim n 17), Value.int IntKind.u64 (lim n 18), Value.int IntKind.u64 (lim n 19)]] { n := 0, objs := [] } = some (Value.bool false, { n := 0, objs := [] }, []),
    evCall Tryz.prog 0 (bodied Tryz.prog) ov1 sbs 1000 19 60 [Value.agg #[Value.bool true, Value.int IntKind.u64 (lim n 0), Value.int IntKind.u64 (lim n 1), Value.int IntKind.u64 (lim n 2), Value.int IntKind.u64 (lim n 3), Value.int IntKind.u64 (lim n 4), Value.int IntKind.u64 (lim n 5), Value.int IntKind.u64 (lim n 6), Value.int IntKind.u64 (lim n 7), Value.int IntKind.u64 (lim n 8), Value.int IntKind.u64 (lim n 9), Value.int IntKind.u64 (lim n 10), Value.int IntKind.u64 (lim n 11), Value.int IntKind.u64 (lim n 12), Value.int IntKind.u64 (lim n 13), Value.int IntKind.u64 (lim n 14), Value.int IntKind.u64 (lim n 15), Value.int IntKind.u64 (lim n 16), Value.int IntKind.u64 (lim n 17), Value.int IntKind.u64 (lim n 18), Value.int IntKind.u64 (lim n 19)], Value.agg #[Value.bool true, Value.int IntKind.u64 (lim m 0), Value.int IntKind.u64 (lim m 1), Value.int IntKind.u64 (lim m 2), Value.int IntKind.u64 (lim m 3), Value.int IntKind.u64 (lim m 4), Value.int IntKind.u64 (lim m 5), Value.int IntKind.u64 (lim m 6), Value.int IntKind.u64 (lim m 7), Value.int IntKind.u64 (lim m 8), Value.int IntKind.u64 (lim m 9), Value.int IntKind.u64 (lim m 10), Value.int IntKind.u64 (lim m 11), Value.int IntKind.u64 (lim m 12), Value.int IntKind.u64 (lim m 13), Value.int IntKind.u64 (lim m 14), Value.int IntKind.u64 (lim m 15), Value.int IntKind.u64 (lim m 16), Value.int IntKind.u64 (lim m 17), Value.int IntKind.u64 (lim m 18), Value.int IntKind.u64 (lim m 19)]] { n := 0, objs := [] } = some (Value.int IntKind.i64 (sgn n m), { n := 0, objs := [] }, [])] (by kernel_rfl)
    ⟨Dg.evCall_told (zero_no _ hm h0), Dg.evCall_told (zero_no _ hn h1), Dg.evCall_told (size_told _ _ hn hm), trivial⟩
--> cmp_mm
--< cmp_m0
theorem cmp_m0 (m : Nat) (n : Nat) (hm : m < B ^ 20) (hn : n < B ^ 20) (h0 : 0 < m) (h1 : n = 0) :
    evCall Tryz.prog 0 (bodied Tryz.prog) ov1 sbs 1000 20 35 [num true m, num true n] { n := 0, objs := [] } = some (Value.int IntKind.i64 (-1), { n := 0, objs := [] }, []) :=
  Dg.evCall_hint (hs' := []) (hs := [Hint.call 27 (Value.bool false) { n := 0, objs := [] } [],
    Hint.call 27 (Value.bool true) { n := 0, objs := [] } []])
    [evCall Tryz.prog 0 (bodied Tryz.prog) ov1 sbs 1000 19 27 [Value.agg #[Value.bool true, Value.int IntKind.u64 (lim m 0), Value.int IntKind.u64 (lim m 1), Value.int IntKind.u64 (lim m 2), Value.int IntKind.u64 (lim m 3), Value.int IntKind.u64 (lim m 4), Value.int IntKind.u64 (lim m 5), Value.int IntKind.u64 (lim m 6), Value.int IntKind.u64 (lim m 7), Value.int IntKind.u64 (lim m 8), Value.int IntKind.u64 (lim m 9), Value.int IntKind.u64 (lim m 10), Value.int IntKind.u64 (lim m 11), Value.int IntKind.u64 (lim m 12), Value.int IntKind.u64 (lim m 13), Value.int IntKind.u64 (lim m 14), Value.int IntKind.u64 (lim m 15), Value.int IntKind.u64 (lim m 16), Value.int IntKind.u64 (lim m 17), Value.int IntKind.u64 (lim m 18), Value.int IntKind.u64 (lim m 19)]] { n := 0, objs := [] } = some (Value.bool false, { n := 0, objs := [] }, []),
    evCall Tryz.prog 0 (bodied Tryz.prog) ov1 sbs 1000 19 27 [Value.agg #[Value.bool true, Value.int IntKind.u64 (lim n 0), Value.int IntKind.u64 (lim n 1), Value.int IntKind.u64 (lim n 2), Value.int IntKind.u64 (lim n 3), Value.int IntKind.u64 (lim n 4), Value.int IntKind.u64 (lim n 5), Value.int IntKind.u64 (lim n 6), Value.int IntKind.u64 (lim n 7), Value.int IntKind.u64 (lim n 8), Value.int IntKind.u64 (lim n 9), Value.int IntKind.u64 (lim n 10), Value.int IntKind.u64 (lim n 11), Value.int IntKind.u64 (lim n 12), Value.int IntKind.u64 (lim n 13), Value.int IntKind.u64 (lim n 14), Value.int IntKind.u64 (lim n 15), Value.int IntKind.u64 (lim n 16), Value.int IntKind.u64 (lim n 17), Value.int IntKind.u64 (lim n 18), Value.int IntKind.u64 (lim n 19)]] { n := 0, objs := [] } = some (Value.bool true, { n := 0, objs := [] }, [])] (by kernel_rfl)
    ⟨Dg.evCall_told (zero_no _ hm h0), Dg.evCall_told (zero_yes _ h1), trivial⟩
--> cmp_m0
--< cmp_0m
theorem cmp_0m (m : Nat) (n : Nat) (hm : m < B ^ 20) (hn : n < B ^ 20) (h0 : m = 0) (h1 : 0 < n) :
    evCall Tryz.prog 0 (bodied Tryz.prog) ov1 sbs 1000 20 35 [num true m, num true n] { n := 0, objs := [] } = some (Value.int IntKind.i64 1, { n := 0, objs := [] }, []) :=
  Dg.evCall_hint (hs' := []) (hs := [Hint.call 27 (Value.bool true) { n := 0, objs := [] } [],
    Hint.call 27 (Value.bool false) { n := 0, objs := [] } []])
    [evCall Tryz.prog 0 (bodied Tryz.prog) ov1 sbs 1000 19 27 [Value.agg #[Value.bool true, Value.int IntKind.u64 (lim m 0), Value.int IntKind.u64 (lim m 1), Value.int IntKind.u64 (lim m 2), Value.int IntKind.u64 (lim m 3), Value.int IntKind.u64 (lim m 4), Value.int IntKind.u64 (lim m 5), Value.int IntKind.u64 (lim m 6), Value.int IntKind.u64 (lim m 7), Value.int IntKind.u64 (lim m 8), Value.int IntKind.u64 (lim m 9), Value.int IntKind.u64 (lim m 10), Value.int IntKind.u64 (lim m 11), Value.int IntKind.u64 (lim m 12), Value.int IntKind.u64 (lim m 13), Value.int IntKind.u64 (lim m 14), Value.int IntKind.u64 (lim m 15), Value.int IntKind.u64 (lim m 16), Value.int IntKind.u64 (lim m 17), Value.int IntKind.u64 (lim m 18), Value.int IntKind.u64 (lim m 19)]] { n := 0, objs := [] } = some (Value.bool true, { n := 0, objs := [] }, []),
    evCall Tryz.prog 0 (bodied Tryz.prog) ov1 sbs 1000 19 27 [Value.agg #[Value.bool true, Value.int IntKind.u64 (lim n 0), Value.int IntKind.u64 (lim n 1), Value.int IntKind.u64 (lim n 2), Value.int IntKind.u64 (lim n 3), Value.int IntKind.u64 (lim n 4), Value.int IntKind.u64 (lim n 5), Value.int IntKind.u64 (lim n 6), Value.int IntKind.u64 (lim n 7), Value.int IntKind.u64 (lim n 8), Value.int IntKind.u64 (lim n 9), Value.int IntKind.u64 (lim n 10), Value.int IntKind.u64 (lim n 11), Value.int IntKind.u64 (lim n 12), Value.int IntKind.u64 (lim n 13), Value.int IntKind.u64 (lim n 14), Value.int IntKind.u64 (lim n 15), Value.int IntKind.u64 (lim n 16), Value.int IntKind.u64 (lim n 17), Value.int IntKind.u64 (lim n 18), Value.int IntKind.u64 (lim n 19)]] { n := 0, objs := [] } = some (Value.bool false, { n := 0, objs := [] }, [])] (by kernel_rfl)
    ⟨Dg.evCall_told (zero_yes _ h0), Dg.evCall_told (zero_no _ hn h1), trivial⟩
--> cmp_0m
--< cmp_00
theorem cmp_00 (m : Nat) (n : Nat) (hm : m < B ^ 20) (hn : n < B ^ 20) (h0 : m = 0) (h1 : n = 0) :
    evCall Tryz.prog 0 (bodied Tryz.prog) ov1 sbs 1000 20 35 [num true m, num true n] { n := 0, objs := [] } = some (Value.int IntKind.i64 (sgn m n), { n := 0, objs := [] }, []) :=
  Dg.evCall_hint (hs' := []) (hs := [Hint.call 27 (Value.bool true) { n := 0, objs := [] } [],
    Hint.call 27 (Value.bool true) { n := 0, objs := [] } [],
    Hint.call 60 (Value.int IntKind.i64 (sgn m n)) { n := 0, objs := [] } []])
    [evCall Tryz.prog 0 (bodied Tryz.prog) ov1 sbs 1000 19 27 [Value.agg #[Value.bool true, Value.int IntKind.u64 (lim m 0), Value.int IntKind.u64 (lim m 1), Value.int IntKind.u64 (lim m 2), Value.int IntKind.u64 (lim m 3), Value.int IntKind.u64 (lim m 4), Value.int IntKind.u64 (lim m 5), Value.int IntKind.u64 (lim m 6), Value.int IntKind.u64 (lim m 7), Value.int IntKind.u64 (lim m 8), Value.int IntKind.u64 (lim m 9), Value.int IntKind.u64 (lim m 10), Value.int IntKind.u64 (lim m 11), Value.int IntKind.u64 (lim m 12), Value.int IntKind.u64 (lim m 13), Value.int IntKind.u64 (lim m 14), Value.int IntKind.u64 (lim m 15), Value.int IntKind.u64 (lim m 16), Value.int IntKind.u64 (lim m 17), Value.int IntKind.u64 (lim m 18), Value.int IntKind.u64 (lim m 19)]] { n := 0, objs := [] } = some (Value.bool true, { n := 0, objs := [] }, []),
    evCall Tryz.prog 0 (bodied Tryz.prog) ov1 sbs 1000 19 27 [Value.agg #[Value.bool true, Value.int IntKind.u64 (lim n 0), Value.int IntKind.u64 (lim n 1), Value.int IntKind.u64 (lim n 2), Value.int IntKind.u64 (lim n 3), Value.int IntKind.u64 (lim n 4), Value.int IntKind.u64 (lim n 5), Value.int IntKind.u64 (lim n 6), Value.int IntKind.u64 (lim n 7), Value.int IntKind.u64 (lim n 8), Value.int IntKind.u64 (lim n 9), Value.int IntKind.u64 (lim n 10), Value.int IntKind.u64 (lim n 11), Value.int IntKind.u64 (lim n 12), Value.int IntKind.u64 (lim n 13), Value.int IntKind.u64 (lim n 14), Value.int IntKind.u64 (lim n 15), Value.int IntKind.u64 (lim n 16), Value.int IntKind.u64 (lim n 17), Value.int IntKind.u64 (lim n 18), Value.int IntKind.u64 (lim n 19)]] { n := 0, objs := [] } = some (Value.bool true, { n := 0, objs := [] }, []),
    evCall Tryz.prog 0 (bodied Tryz.prog) ov1 sbs 1000 19 60 [Value.agg #[Value.bool false, Value.int IntKind.u64 (lim m 0), Value.int IntKind.u64 (lim m 1), Value.int IntKind.u64 (lim m 2), Value.int IntKind.u64 (lim m 3), Value.int IntKind.u64 (lim m 4), Value.int IntKind.u64 (lim m 5), Value.int IntKind.u64 (lim m 6), Value.int IntKind.u64 (lim m 7), Value.int IntKind.u64 (lim m 8), Value.int IntKind.u64 (lim m 9), Value.int IntKind.u64 (lim m 10), Value.int IntKind.u64 (lim m 11), Value.int IntKind.u64 (lim m 12), Value.int IntKind.u64 (lim m 13), Value.int IntKind.u64 (lim m 14), Value.int IntKind.u64 (lim m 15), Value.int IntKind.u64 (lim m 16), Value.int IntKind.u64 (lim m 17), Value.int IntKind.u64 (lim m 18), Value.int IntKind.u64 (lim m 19)], Value.agg #[Value.bool false, Value.int IntKind.u64 (lim n 0), Value.int IntKind.u64 (lim n 1), Value.int IntKind.u64 (lim n 2), Value.int IntKind.u64 (lim n 3), Value.int IntKind.u64 (lim n 4), Value.int IntKind.u64 (lim n 5), Value.int IntKind.u64 (lim n 6), Value.int IntKind.u64 (lim n 7), Value.int IntKind.u64 (lim n 8), Value.int IntKind.u64 (lim n 9), Value.int IntKind.u64 (lim n 10), Value.int IntKind.u64 (lim n 11), Value.int IntKind.u64 (lim n 12), Value.int IntKind.u64 (lim n 13), Value.int IntKind.u64 (lim n 14), Value.int IntKind.u64 (lim n 15), Value.int IntKind.u64 (lim n 16), Value.int IntKind.u64 (lim n 17), Value.int IntKind.u64 (lim n 18), Value.int IntKind.u64 (lim n 19)]] { n := 0, objs := [] } = some (Value.int IntKind.i64 (sgn m n), { n := 0, objs := [] }, [])] (by kernel_rfl)
    ⟨Dg.evCall_told (zero_yes _ h0), Dg.evCall_told (zero_yes _ h1), Dg.evCall_told (size_told _ _ hm hn), trivial⟩
--> cmp_00
noncomputable abbrev runP : St → Option (Ex × St) := evCodeK Tryz.prog 0 (bodied Tryz.prog) (evCall Tryz.prog 0 (bodied Tryz.prog) ov1 sbs 1000 19) 0 6 1000 lP (innerKp lP [])
noncomputable abbrev clP : St → St := cleanSt 0 6 (ue lP [] []).1
def ptr (k : Nat) : Value := .pointer (some ⟨k, 0, none⟩)
def SP0 (b c : Bool) (m n : Nat) : St := ⟨[num b m, num c n, ptr 0, ptr 1, ptr 2, .int .i64 0] ++ js 79, ⟨3, [oN false (fun _ => 0), oN c (lim n), oN b (lim m)]⟩, []⟩
def SP (b c : Bool) (m n i : Nat) : St := ⟨[num b m, num c n, ptr 0, ptr 1, ptr 2, .int .i64 i] ++ js 79, ⟨3, [oN false (fun _ => 0), oN c (lim n), oN b (limN (adP m n i))]⟩, []⟩
theorem sp_start (b c : Bool) (m n : Nat) {s0 : St} (h : clP s0 = SP0 b c m n) : clP s0 = SP b c m n 0 := by
  rw [h]
  unfold SP
  rw [adP_start]
  rfl
--< pr
theorem pr (b : Bool) (c : Bool) (m : Nat) (n : Nat) (i : Nat) (hm : m < B ^ 20) (hn : n < B ^ 20) (hi : i < 19) :
    ∃ s', runP (SP b c m n i) = some (Ex.normal, s') ∧ clP s' = SP b c m n (i + 1) :=
  Dg.code_round (f := 28) clP (hs := [Hint.val 28 15 (Value.bool true),
    Hint.soft 28 21 (Value.pointer (some { block := 0, off := i + 1 })),
    Hint.soft 28 22 (Value.int IntKind.u64 (↑(limb m i + car (adF m n) i) : Int)),
    Hint.soft 28 25 (Value.pointer (some { block := 1, off := i + 1 })),
    Hint.soft 28 26 (Value.int IntKind.u64 (↑(limb n i) : Int)),
    Hint.val 28 27 (Value.int IntKind.u64 (↑(limb m i + limb n i + car (adF m n) i) : Int)),
    Hint.soft 28 29 (Value.pointer (some { block := 0, off := i + 1 })),
    Hint.softH 28 0 (undef) { n := 3, objs := [AObj.cells (kpN false fun x => 0) 30 4 1, AObj.cells (kpN c (lim n)) 30 4 1, AObj.cells (kpN b (limN (ad1 m n i))) 30 4 1] } [0],
    Hint.val 28 31 (Value.int IntKind.i64 (↑(i + 1) : Int)),
    Hint.val 28 33 (Value.int IntKind.i64 (↑(i + 1) : Int)),
    Hint.soft 28 35 (Value.pointer (some { block := 0, off := i + 2 })),
    Hint.soft 28 36 (Value.int IntKind.u64 (↑(limb m (i + 1)) : Int)),
    Hint.soft 28 39 (Value.pointer (some { block := 0, off := i + 1 })),
    Hint.soft 28 40 (Value.int IntKind.u64 (↑(limb m i + limb n i + car (adF m n) i) : Int)),
    Hint.soft 28 41 (Value.int IntKind.u64 (↑(car (adF m n) (i + 1)) : Int)),
    Hint.val 28 42 (Value.int IntKind.u64 (↑(limb m (i + 1) + car (adF m n) (i + 1)) : Int)),
    Hint.soft 28 44 (Value.pointer (some { block := 0, off := i + 2 })),
    Hint.softH 28 0 (undef) { n := 3, objs := [AObj.cells (kpN false fun x => 0) 30 4 1, AObj.cells (kpN c (lim n)) 30 4 1, AObj.cells (kpN b (limN (ad2 m n i))) 30 4 1] } [0],
    Hint.soft 28 48 (Value.pointer (some { block := 0, off := i + 1 })),
    Hint.soft 28 49 (Value.int IntKind.u64 (↑(limb m i + limb n i + car (adF m n) i) : Int)),
    Hint.soft 28 50 (Value.int IntKind.u64 (↑(limb (m + n) i) : Int)),
    Hint.soft 28 52 (Value.pointer (some { block := 0, off := i + 1 })),
    Hint.softH 28 0 (undef) { n := 3, objs := [AObj.cells (kpN false fun x => 0) 30 4 1, AObj.cells (kpN c (lim n)) 30 4 1, AObj.cells (kpN b (limN (adP m n (i + 1)))) 30 4 1] } [0],
    Hint.val 28 17 (Value.int IntKind.i64 (↑(i + 1) : Int))])
    [Value.bool (decide ((↑i : Int) < (19 : Int))) = Value.bool true,
    (0 : Int) ≤ (↑i : Int) ∧ (↑i : Int) < (↑(20 : Nat) : Int),
    Value.pointer (some { block := (0 : Nat), off := (1 : Nat) + Int.toNat (↑i : Int) * (1 : Nat) }) = Value.pointer (some { block := (0 : Nat), off := i + (1 : Nat) }),
    (kpN b (limN (adP m n i)))[i + (1 : Nat)]? = some (Value.int IntKind.u64 (↑(limb m i + car (adF m n) i) : Int)),
    (0 : Int) ≤ (↑i : Int) ∧ (↑i : Int) < (↑(20 : Nat) : Int),
    Value.pointer (some { block := (1 : Nat), off := (1 : Nat) + Int.toNat (↑i : Int) * (1 : Nat) }) = Value.pointer (some { block := (1 : Nat), off := i + (1 : Nat) }),
    (kpN c (lim n))[i + (1 : Nat)]? = some (Value.int IntKind.u64 (↑(limb n i) : Int)),
    Value.int IntKind.u64 (IntKind.wrap IntKind.u64 ((↑(limb m i + car (adF m n) i) : Int) + (↑(limb n i) : Int))) = Value.int IntKind.u64 (↑(limb m i + limb n i + car (adF m n) i) : Int),
    (0 : Int) ≤ (↑i : Int) ∧ (↑i : Int) < (↑(20 : Nat) : Int),
    Value.pointer (some { block := (0 : Nat), off := (1 : Nat) + Int.toNat (↑i : Int) * (1 : Nat) }) = Value.pointer (some { block := (0 : Nat), off := i + (1 : Nat) }),
    Heap.write { n := (3 : Nat), objs := [AObj.cells (kpN false fun x => (0 : Int)) (30 : Nat) (4 : Nat) (1 : Nat), AObj.cells (kpN c (lim n)) (30 : Nat) (4 : Nat) (1 : Nat), AObj.cells (kpN b (limN (adP m n i))) (30 : Nat) (4 : Nat) (1 : Nat)] } (0 : Nat) (i + (1 : Nat)) [Value.int IntKind.u64 (↑(limb m i + limb n i + car (adF m n) i) : Int)] = some { n := (3 : Nat), objs := [AObj.cells (kpN false fun x => (0 : Int)) (30 : Nat) (4 : Nat) (1 : Nat), AObj.cells (kpN c (lim n)) (30 : Nat) (4 : Nat) (1 : Nat), AObj.cells (kpN b (limN (ad1 m n i))) (30 : Nat) (4 : Nat) (1 : Nat)] },
    undef = undef,
    ([(0 : Nat)] : List Nat) = [(0 : Nat)],
    Value.int IntKind.i64 (IntKind.wrap IntKind.i64 ((↑i : Int) + (1 : Int))) = Value.int IntKind.i64 (↑(i + (1 : Nat)) : Int),
    Value.int IntKind.i64 (IntKind.wrap IntKind.i64 ((↑i : Int) + (1 : Int))) = Value.int IntKind.i64 (↑(i + (1 : Nat)) : Int),
    (0 : Int) ≤ (↑(i + (1 : Nat)) : Int) ∧ (↑(i + (1 : Nat)) : Int) < (↑(20 : Nat) : Int),
    Value.pointer (some { block := (0 : Nat), off := (1 : Nat) + Int.toNat (↑(i + (1 : Nat)) : Int) * (1 : Nat) }) = Value.pointer (some { block := (0 : Nat), off := i + (2 : Nat) }),
    (kpN b (limN (ad1 m n i)))[i + (2 : Nat)]? = some (Value.int IntKind.u64 (↑(limb m (i + (1 : Nat))) : Int)),
    (0 : Int) ≤ (↑i : Int) ∧ (↑i : Int) < (↑(20 : Nat) : Int),
    Value.pointer (some { block := (0 : Nat), off := (1 : Nat) + Int.toNat (↑i : Int) * (1 : Nat) }) = Value.pointer (some { block := (0 : Nat), off := i + (1 : Nat) }),
    (kpN b (limN (ad1 m n i)))[i + (1 : Nat)]? = some (Value.int IntKind.u64 (↑(limb m i + limb n i + car (adF m n) i) : Int)),
    (65536 : Int) ≠ (0 : Int),
    Value.int IntKind.u64 (IntKind.wrap IntKind.u64 (Int.tdiv (↑(limb m i + limb n i + car (adF m n) i) : Int) (65536 : Int))) = Value.int IntKind.u64 (↑(car (adF m n) (i + (1 : Nat))) : Int),
    Value.int IntKind.u64 (IntKind.wrap IntKind.u64 ((↑(limb m (i + (1 : Nat))) : Int) + (↑(car (adF m n) (i + (1 : Nat))) : Int))) = Value.int IntKind.u64 (↑(limb m (i + (1 : Nat)) + car (adF m n) (i + (1 : Nat))) : Int),
    (0 : Int) ≤ (↑(i + (1 : Nat)) : Int) ∧ (↑(i + (1 : Nat)) : Int) < (↑(20 : Nat) : Int),
    Value.pointer (some { block := (0 : Nat), off := (1 : Nat) + Int.toNat (↑(i + (1 : Nat)) : Int) * (1 : Nat) }) = Value.pointer (some { block := (0 : Nat), off := i + (2 : Nat) }),
    Heap.write { n := (3 : Nat), objs := [AObj.cells (kpN false fun x => (0 : Int)) (30 : Nat) (4 : Nat) (1 : Nat), AObj.cells (kpN c (lim n)) (30 : Nat) (4 : Nat) (1 : Nat), AObj.cells (kpN b (limN (ad1 m n i))) (30 : Nat) (4 : Nat) (1 : Nat)] } (0 : Nat) (i + (2 : Nat)) [Value.int IntKind.u64 (↑(limb m (i + (1 : Nat)) + car (adF m n) (i + (1 : Nat))) : Int)] = some { n := (3 : Nat), objs := [AObj.cells (kpN false fun x => (0 : Int)) (30 : Nat) (4 : Nat) (1 : Nat), AObj.cells (kpN c (lim n)) (30 : Nat) (4 : Nat) (1 : Nat), AObj.cells (kpN b (limN (ad2 m n i))) (30 : Nat) (4 : Nat) (1 : Nat)] },
    undef = undef,
    ([(0 : Nat)] : List Nat) = [(0 : Nat)],
    (0 : Int) ≤ (↑i : Int) ∧ (↑i : Int) < (↑(20 : Nat) : Int),
    Value.pointer (some { block := (0 : Nat), off := (1 : Nat) + Int.toNat (↑i : Int) * (1 : Nat) }) = Value.pointer (some { block := (0 : Nat), off := i + (1 : Nat) }),
    (kpN b (limN (ad2 m n i)))[i + (1 : Nat)]? = some (Value.int IntKind.u64 (↑(limb m i + limb n i + car (adF m n) i) : Int)),
    (65536 : Int) ≠ (0 : Int),
    Value.int IntKind.u64 (Int.tmod (↑(limb m i + limb n i + car (adF m n) i) : Int) (65536 : Int)) = Value.int IntKind.u64 (↑(limb (m + n) i) : Int),
    (0 : Int) ≤ (↑i : Int) ∧ (↑i : Int) < (↑(20 : Nat) : Int),
    Value.pointer (some { block := (0 : Nat), off := (1 : Nat) + Int.toNat (↑i : Int) * (1 : Nat) }) = Value.pointer (some { block := (0 : Nat), off := i + (1 : Nat) }),
    Heap.write { n := (3 : Nat), objs := [AObj.cells (kpN false fun x => (0 : Int)) (30 : Nat) (4 : Nat) (1 : Nat), AObj.cells (kpN c (lim n)) (30 : Nat) (4 : Nat) (1 : Nat), AObj.cells (kpN b (limN (ad2 m n i))) (30 : Nat) (4 : Nat) (1 : Nat)] } (0 : Nat) (i + (1 : Nat)) [Value.int IntKind.u64 (↑(limb (m + n) i) : Int)] = some { n := (3 : Nat), objs := [AObj.cells (kpN false fun x => (0 : Int)) (30 : Nat) (4 : Nat) (1 : Nat), AObj.cells (kpN c (lim n)) (30 : Nat) (4 : Nat) (1 : Nat), AObj.cells (kpN b (limN (adP m n (i + (1 : Nat))))) (30 : Nat) (4 : Nat) (1 : Nat)] },
    undef = undef,
    ([(0 : Nat)] : List Nat) = [(0 : Nat)],
    Value.int IntKind.i64 (IntKind.wrap IntKind.i64 ((↑i : Int) + (1 : Int))) = Value.int IntKind.i64 (↑(i + (1 : Nat)) : Int)] (by kernel_rfl)
    ⟨Dg.vtrue (by omega), by omega, Dg.ptr_eq (by omega), kpN_getv (by omega) rfl (adP_at m n i), by omega, Dg.ptr_eq (by omega), kpN_getv (by omega) rfl rfl, u64_nat (by omega) (ad_b1 m n i), by omega, Dg.ptr_eq (by omega), by first | exact wrN rfl (by omega) rfl (ad1_is m n i) | rfl, by first | exact wrN rfl (by omega) rfl (ad1_is m n i) | rfl, by first | exact wrN rfl (by omega) rfl (ad1_is m n i) | rfl, inc64 (by omega), inc64 (by omega), by omega, Dg.ptr_eq (by omega), kpN_getv (by omega) rfl (ad1_nx m n i), by omega, Dg.ptr_eq (by omega), kpN_getv (by omega) rfl (ad1_at m n i), by omega, ad_q m n i, u64_nat (by omega) (ad_b2 m n i), by omega, Dg.ptr_eq (by omega), by first | exact wrN rfl (by omega) rfl (ad2_is m n i) | rfl, by first | exact wrN rfl (by omega) rfl (ad2_is m n i) | rfl, by first | exact wrN rfl (by omega) rfl (ad2_is m n i) | rfl, by omega, Dg.ptr_eq (by omega), kpN_getv (by omega) rfl (ad2_at m n i), by omega, ad_r hm hn (by omega), by omega, Dg.ptr_eq (by omega), by first | exact wrN rfl (by omega) rfl (ad3_is m n i) | rfl, by first | exact wrN rfl (by omega) rfl (ad3_is m n i) | rfl, by first | exact wrN rfl (by omega) rfl (ad3_is m n i) | rfl, inc64 (by omega), trivial⟩
--> pr
--< pe
theorem pe (b : Bool) (c : Bool) (m : Nat) (n : Nat) :
    runP (SP b c m n 19) = some (Ex.exit 0, ({ ts := [Value.agg { toList := kpN b (lim m) }, Value.agg { toList := kpN c (lim n) }, Value.pointer (some { block := 0, off := 0 }), Value.pointer (some { block := 1, off := 0 }), Value.pointer (some { block := 2, off := 0 }), Value.int IntKind.i64 19, junk, junk, junk, junk, junk, junk, junk, junk, Value.int IntKind.i64 19, Value.bool false, junk, junk, junk, junk, junk, junk, junk, junk, junk, junk, junk, junk, junk, junk, junk, junk, junk, junk, junk, junk, junk, junk, junk, junk, junk, junk, junk, junk, junk, junk, junk, junk, junk, junk, junk, junk, junk, junk, junk, junk, junk, junk, junk, junk, junk, junk, junk, junk, junk, junk, junk, junk, junk, junk, junk, junk, junk, junk, junk, junk, junk, junk, junk, junk, junk, junk, junk, junk, junk], H := { n := 3, objs := [AObj.cells (kpN false fun x => 0) 30 4 1, AObj.cells (kpN c (lim n)) 30 4 1, AObj.cells (kpN b (limN (adP m n 19))) 30 4 1] }, log := [] } : St)) :=
  Dg.evCode_hint (f := 28) (hs' := []) (hs := [])
    [] (by kernel_rfl)
    trivial
--> pe
noncomputable def lQ : Code := (loopsOf ((Tryz.f28.body).getD .skip)).getD 1 .skip
noncomputable abbrev runQ : St → Option (Ex × St) := evCodeK Tryz.prog 0 (bodied Tryz.prog) (evCall Tryz.prog 0 (bodied Tryz.prog) ov1 sbs 1000 19) 0 6 1000 lQ (innerKp lQ [])
noncomputable abbrev clQ : St → St := cleanSt 0 6 (ue lQ [] []).1
def SQ (b0 c0 : Bool) (m n : Nat) (b c : Bool) (r : Nat) (F G : Nat → Int) (i : Nat) : St := ⟨[num b0 m, num c0 n, ptr 0, ptr 1, ptr 2, undef, .int .u64 (r : Int), .int .i64 i] ++ js 77, ⟨3, [oN false (fun _ => 0), oN c G, oN b F]⟩, []⟩
theorem tmv {x d : Nat} (h : d = x % 65536) : Value.int .u64 (Int.tmod (x : Int) 65536) = .int .u64 (d : Int) := by rw [tm_cast, h]
theorem tdv {x d : Nat} (h : d = x / 65536) (hx : x < 18446744073709551616) : Value.int .u64 (IntKind.wrap .u64 (Int.tdiv (x : Int) 65536)) = .int .u64 (d : Int) := by rw [td_cast _ hx, h]
--< qr
theorem qr (b0 : Bool) (c0 : Bool) (m : Nat) (n : Nat) (b : Bool) (c : Bool) (F : Nat → Int) (G : Nat → Int) (F' : Nat → Int) (i : Nat) (a : Nat) (d : Nat) (e : Nat) (k : Nat) (r : Nat) (q : Nat) (t : Nat) (x : Nat) (y : Nat) (hi : i < 20) (ha : F i = (↑a : Int)) (hd : G i = (↑d : Int)) (a1 : a < 65536) (d1 : d < 65536) (r1 : r ≤ 1) (ht : t = a + 65536) (hk : k + d = t) (hx : x + r = k) (hy : y = x % 65536) (hq : q = x / 65536) (he : e + q = 1) (hF : ∀ (s : Nat), s < 20 → F' s = if s = i then (↑y : Int) else F s) :
    ∃ s', runQ (SQ b0 c0 m n b c r F G i) = some (Ex.normal, s') ∧ clQ s' = SQ b0 c0 m n b c e F' G (i + 1) :=
  Dg.code_round (f := 28) clQ (hs := [Hint.val 28 61 (Value.bool true),
    Hint.soft 28 66 (Value.pointer (some { block := 0, off := i + 1 })),
    Hint.soft 28 67 (Value.int IntKind.u64 (↑a : Int)),
    Hint.val 28 68 (Value.int IntKind.u64 (↑t : Int)),
    Hint.soft 28 71 (Value.pointer (some { block := 1, off := i + 1 })),
    Hint.soft 28 72 (Value.int IntKind.u64 (↑d : Int)),
    Hint.val 28 73 (Value.int IntKind.u64 (↑k : Int)),
    Hint.val 28 75 (Value.int IntKind.u64 (↑x : Int)),
    Hint.soft 28 78 (Value.int IntKind.u64 (↑y : Int)),
    Hint.soft 28 80 (Value.pointer (some { block := 0, off := i + 1 })),
    Hint.softH 28 0 (undef) { n := 3, objs := [AObj.cells (kpN false fun x => 0) 30 4 1, AObj.cells (kpN c G) 30 4 1, AObj.cells (kpN b F') 30 4 1] } [0],
    Hint.soft 28 82 (Value.int IntKind.u64 (↑q : Int)),
    Hint.val 28 83 (Value.int IntKind.u64 (↑e : Int)),
    Hint.val 28 63 (Value.int IntKind.i64 (↑(i + 1) : Int))])
    [Value.bool (decide ((↑i : Int) < (20 : Int))) = Value.bool true,
    (0 : Int) ≤ (↑i : Int) ∧ (↑i : Int) < (↑(20 : Nat) : Int),
    Value.pointer (some { block := (0 : Nat), off := (1 : Nat) + Int.toNat (↑i : Int) * (1 : Nat) }) = Value.pointer (some { block := (0 : Nat), off := i + (1 : Nat) }),
    (kpN b F)[i + (1 : Nat)]? = some (Value.int IntKind.u64 (↑a : Int)),
    Value.int IntKind.u64 (IntKind.wrap IntKind.u64 ((↑a : Int) + (65536 : Int))) = Value.int IntKind.u64 (↑t : Int),
    (0 : Int) ≤ (↑i : Int) ∧ (↑i : Int) < (↑(20 : Nat) : Int),
    Value.pointer (some { block := (1 : Nat), off := (1 : Nat) + Int.toNat (↑i : Int) * (1 : Nat) }) = Value.pointer (some { block := (1 : Nat), off := i + (1 : Nat) }),
    (kpN c G)[i + (1 : Nat)]? = some (Value.int IntKind.u64 (↑d : Int)),
    Value.int IntKind.u64 (IntKind.wrap IntKind.u64 ((↑t : Int) - (↑d : Int))) = Value.int IntKind.u64 (↑k : Int),
    Value.int IntKind.u64 (IntKind.wrap IntKind.u64 ((↑k : Int) - (↑r : Int))) = Value.int IntKind.u64 (↑x : Int),
    (65536 : Int) ≠ (0 : Int),
    Value.int IntKind.u64 (Int.tmod (↑x : Int) (65536 : Int)) = Value.int IntKind.u64 (↑y : Int),
    (0 : Int) ≤ (↑i : Int) ∧ (↑i : Int) < (↑(20 : Nat) : Int),
    Value.pointer (some { block := (0 : Nat), off := (1 : Nat) + Int.toNat (↑i : Int) * (1 : Nat) }) = Value.pointer (some { block := (0 : Nat), off := i + (1 : Nat) }),
    Heap.write { n := (3 : Nat), objs := [AObj.cells (kpN false fun x => (0 : Int)) (30 : Nat) (4 : Nat) (1 : Nat), AObj.cells (kpN c G) (30 : Nat) (4 : Nat) (1 : Nat), AObj.cells (kpN b F) (30 : Nat) (4 : Nat) (1 : Nat)] } (0 : Nat) (i + (1 : Nat)) [Value.int IntKind.u64 (↑y : Int)] = some { n := (3 : Nat), objs := [AObj.cells (kpN false fun x => (0 : Int)) (30 : Nat) (4 : Nat) (1 : Nat), AObj.cells (kpN c G) (30 : Nat) (4 : Nat) (1 : Nat), AObj.cells (kpN b F') (30 : Nat) (4 : Nat) (1 : Nat)] },
    undef = undef,
    ([(0 : Nat)] : List Nat) = [(0 : Nat)],
    (65536 : Int) ≠ (0 : Int),
    Value.int IntKind.u64 (IntKind.wrap IntKind.u64 (Int.tdiv (↑x : Int) (65536 : Int))) = Value.int IntKind.u64 (↑q : Int),
    Value.int IntKind.u64 (IntKind.wrap IntKind.u64 ((1 : Int) - (↑q : Int))) = Value.int IntKind.u64 (↑e : Int),
    Value.int IntKind.i64 (IntKind.wrap IntKind.i64 ((↑i : Int) + (1 : Int))) = Value.int IntKind.i64 (↑(i + (1 : Nat)) : Int)] (by kernel_rfl)
    ⟨Dg.vtrue (by omega), by omega, Dg.ptr_eq (by omega), kpN_getv hi rfl ha, u64_nat (by omega) (by omega), by omega, Dg.ptr_eq (by omega), kpN_getv hi rfl hd, u64_nat (by omega) (by omega), u64_nat (by omega) (by omega), by decide, tmv hy, by omega, Dg.ptr_eq (by omega), by first | exact wrN rfl hi rfl hF | rfl, by first | exact wrN rfl hi rfl hF | rfl, by first | exact wrN rfl hi rfl hF | rfl, by decide, tdv hq (by omega), u64_nat (by omega) (by omega), inc64 (by omega), trivial⟩
--> qr
--< qe
theorem qe (b0 : Bool) (c0 : Bool) (m : Nat) (n : Nat) (b : Bool) (c : Bool) (F : Nat → Int) (G : Nat → Int) (r : Nat) :
    runQ (SQ b0 c0 m n b c r F G 20) = some (Ex.exit 2, ({ ts := [Value.agg { toList := kpN b0 (lim m) }, Value.agg { toList := kpN c0 (lim n) }, Value.pointer (some { block := 0, off := 0 }), Value.pointer (some { block := 1, off := 0 }), Value.pointer (some { block := 2, off := 0 }), undef, Value.int IntKind.u64 (↑r : Int), Value.int IntKind.i64 20, junk, junk, junk, junk, junk, junk, junk, junk, junk, junk, junk, junk, junk, junk, junk, junk, junk, junk, junk, junk, junk, junk, junk, junk, junk, junk, junk, junk, junk, junk, junk, junk, junk, junk, junk, junk, junk, junk, junk, junk, junk, junk, junk, junk, junk, junk, junk, junk, junk, junk, junk, junk, Value.int IntKind.i64 20, Value.bool false, junk, junk, junk, junk, junk, junk, junk, junk, junk, junk, junk, junk, junk, junk, junk, junk, junk, junk, junk, junk, junk, junk, junk], H := { n := 3, objs := [AObj.cells (kpN false fun x => 0) 30 4 1, AObj.cells (kpN c G) 30 4 1, AObj.cells (kpN b F) 30 4 1] }, log := [] } : St)) :=
  Dg.evCode_hint (f := 28) (hs' := []) (hs := [])
    [] (by kernel_rfl)
    trivial
--> qe
noncomputable def lM : Code := lBody ((Tryz.f29.body).getD .skip)
noncomputable def lJ : Code := lBody lM
noncomputable def lK : Code := (loopsOf lM).getD 1 .skip
noncomputable def kM : List Nat := innerKp lM []
noncomputable abbrev runM (l : Code) (kp : List Nat) : St → Option (Ex × St) := evCodeK Tryz.prog 0 (bodied Tryz.prog) (evCall Tryz.prog 0 (bodied Tryz.prog) ov1 sbs 1000 19) 0 6 1000 l (innerKp l kp)
noncomputable abbrev clM (l : Code) (kp : List Nat) : St → St := cleanSt 0 6 (ue l kp []).1
def HM (s b c : Bool) (A D F : Nat → Int) : Heap := ⟨4, [oN s F, oN false (fun _ => 0), oN c D, oN b A]⟩
def TMx (b c : Bool) (A D : Nat → Int) (i : Nat) (r : List Value) : List Value := [nv b A, nv c D, ptr 0, ptr 1, ptr 2, ptr 3, .int .i64 i] ++ r
def SM (s b c : Bool) (A D F : Nat → Int) (i : Nat) : St := ⟨TMx b c A D i (js 67), HM s b c A D F, []⟩
def SJ (s b c : Bool) (A D F : Nat → Int) (i j : Nat) : St := ⟨TMx b c A D i (.int .i64 j :: js 66), HM s b c A D F, []⟩
def EJ (s b c : Bool) (A D F : Nat → Int) (i : Nat) : St := ⟨TMx b c A D i ([.int .i64 ((20 - i : Nat) : Int)] ++ (js 11 ++ ([.int .i64 i, .int .i64 ((20 - i : Nat) : Int), .int .i64 20, .bool false] ++ js 51))), HM s b c A D F, []⟩
def SK (s b c : Bool) (A D F : Nat → Int) (i k : Nat) : St := ⟨TMx b c A D i ([junk, .int .i64 k] ++ js 65), HM s b c A D F, []⟩
def EK (s b c : Bool) (A D F : Nat → Int) (i : Nat) : St := ⟨TMx b c A D i ([junk, .int .i64 19] ++ (js 37 ++ ([.int .i64 19, .bool false] ++ js 26))), HM s b c A D F, []⟩
--< jr
theorem jr (s : Bool) (b : Bool) (c : Bool) (A : Nat → Int) (D : Nat → Int) (F : Nat → Int) (F' : Nat → Int) (i : Nat) (j : Nat) (k : Nat) (p : Nat) (a : Nat) (d : Nat) (t : Nat) (z : Nat) (hi : i < 20) (hj : i + j < 20) (hk : k = i + j) (hp : F k = (↑p : Int)) (ha : A i = (↑a : Int)) (hd : D j = (↑d : Int)) (ht : t = a * d) (tb : t < 18446744073709551616) (hz : z = p + t) (zb : z < 18446744073709551616) (hF : ∀ (s : Nat), s < 20 → F' s = if s = k then (↑z : Int) else F s) :
    ∃ s', runM lJ kM (SJ s b c A D F i j) = some (Ex.normal, s') ∧ (clM lJ kM) s' = SJ s b c A D F' i (j + 1) :=
  Dg.code_round (f := 29) (clM lJ kM) (hs := [Hint.val 29 21 (Value.int IntKind.i64 (↑k : Int)),
    Hint.val 29 22 (Value.bool true),
    Hint.val 29 27 (Value.int IntKind.i64 (↑k : Int)),
    Hint.val 29 30 (Value.int IntKind.i64 (↑k : Int)),
    Hint.soft 29 32 (Value.pointer (some { block := 3, off := k + 1 })),
    Hint.soft 29 33 (Value.int IntKind.u64 (↑p : Int)),
    Hint.soft 29 36 (Value.pointer (some { block := 0, off := i + 1 })),
    Hint.soft 29 37 (Value.int IntKind.u64 (↑a : Int)),
    Hint.soft 29 40 (Value.pointer (some { block := 1, off := j + 1 })),
    Hint.soft 29 41 (Value.int IntKind.u64 (↑d : Int)),
    Hint.val 29 42 (Value.int IntKind.u64 (↑t : Int)),
    Hint.val 29 43 (Value.int IntKind.u64 (↑z : Int)),
    Hint.soft 29 45 (Value.pointer (some { block := 3, off := k + 1 })),
    Hint.softH 29 0 (undef) { n := 4, objs := [AObj.cells (kpN s F') 30 4 1, AObj.cells (kpN false fun x => 0) 30 4 1, AObj.cells (kpN c D) 30 4 1, AObj.cells (kpN b A) 30 4 1] } [3],
    Hint.val 29 24 (Value.int IntKind.i64 (↑(j + 1) : Int))])
    [Value.int IntKind.i64 (IntKind.wrap IntKind.i64 ((↑i : Int) + (↑j : Int))) = Value.int IntKind.i64 (↑k : Int),
    Value.bool (decide ((↑k : Int) < (20 : Int))) = Value.bool true,
    Value.int IntKind.i64 (IntKind.wrap IntKind.i64 ((↑i : Int) + (↑j : Int))) = Value.int IntKind.i64 (↑k : Int),
    Value.int IntKind.i64 (IntKind.wrap IntKind.i64 ((↑i : Int) + (↑j : Int))) = Value.int IntKind.i64 (↑k : Int),
    (0 : Int) ≤ (↑k : Int) ∧ (↑k : Int) < (↑(20 : Nat) : Int),
    Value.pointer (some { block := (3 : Nat), off := (1 : Nat) + Int.toNat (↑k : Int) * (1 : Nat) }) = Value.pointer (some { block := (3 : Nat), off := k + (1 : Nat) }),
    (kpN s F)[k + (1 : Nat)]? = some (Value.int IntKind.u64 (↑p : Int)),
    (0 : Int) ≤ (↑i : Int) ∧ (↑i : Int) < (↑(20 : Nat) : Int),
    Value.pointer (some { block := (0 : Nat), off := (1 : Nat) + Int.toNat (↑i : Int) * (1 : Nat) }) = Value.pointer (some { block := (0 : Nat), off := i + (1 : Nat) }),
    (kpN b A)[i + (1 : Nat)]? = some (Value.int IntKind.u64 (↑a : Int)),
    (0 : Int) ≤ (↑j : Int) ∧ (↑j : Int) < (↑(20 : Nat) : Int),
    Value.pointer (some { block := (1 : Nat), off := (1 : Nat) + Int.toNat (↑j : Int) * (1 : Nat) }) = Value.pointer (some { block := (1 : Nat), off := j + (1 : Nat) }),
    (kpN c D)[j + (1 : Nat)]? = some (Value.int IntKind.u64 (↑d : Int)),
    Value.int IntKind.u64 (IntKind.wrap IntKind.u64 ((↑a : Int) * (↑d : Int))) = Value.int IntKind.u64 (↑t : Int),
    Value.int IntKind.u64 (IntKind.wrap IntKind.u64 ((↑p : Int) + (↑t : Int))) = Value.int IntKind.u64 (↑z : Int),
    (0 : Int) ≤ (↑k : Int) ∧ (↑k : Int) < (↑(20 : Nat) : Int),
    Value.pointer (some { block := (3 : Nat), off := (1 : Nat) + Int.toNat (↑k : Int) * (1 : Nat) }) = Value.pointer (some { block := (3 : Nat), off := k + (1 : Nat) }),
    Heap.write { n := (4 : Nat), objs := [AObj.cells (kpN s F) (30 : Nat) (4 : Nat) (1 : Nat), AObj.cells (kpN false fun x => (0 : Int)) (30 : Nat) (4 : Nat) (1 : Nat), AObj.cells (kpN c D) (30 : Nat) (4 : Nat) (1 : Nat), AObj.cells (kpN b A) (30 : Nat) (4 : Nat) (1 : Nat)] } (3 : Nat) (k + (1 : Nat)) [Value.int IntKind.u64 (↑z : Int)] = some { n := (4 : Nat), objs := [AObj.cells (kpN s F') (30 : Nat) (4 : Nat) (1 : Nat), AObj.cells (kpN false fun x => (0 : Int)) (30 : Nat) (4 : Nat) (1 : Nat), AObj.cells (kpN c D) (30 : Nat) (4 : Nat) (1 : Nat), AObj.cells (kpN b A) (30 : Nat) (4 : Nat) (1 : Nat)] },
    undef = undef,
    ([(3 : Nat)] : List Nat) = [(3 : Nat)],
    Value.int IntKind.i64 (IntKind.wrap IntKind.i64 ((↑j : Int) + (1 : Int))) = Value.int IntKind.i64 (↑(j + (1 : Nat)) : Int)] (by kernel_rfl)
    ⟨add64x hk.symm (by omega), Dg.vtrue (by omega), add64x hk.symm (by omega), add64x hk.symm (by omega), by omega, Dg.ptr_eq (by omega), kpN_getv (by omega) rfl hp, by omega, Dg.ptr_eq (by omega), kpN_getv hi rfl ha, by omega, Dg.ptr_eq (by omega), kpN_getv (by omega) rfl hd, u64_nat (by rw [ht]; simp) tb, u64_nat (by omega) zb, by omega, Dg.ptr_eq (by omega), by first | exact wrN rfl (by omega) rfl hF | rfl, by first | exact wrN rfl (by omega) rfl hF | rfl, by first | exact wrN rfl (by omega) rfl hF | rfl, inc64 (by omega), trivial⟩
--> jr
--< je
theorem je (s : Bool) (b : Bool) (c : Bool) (A : Nat → Int) (D : Nat → Int) (F : Nat → Int) (i : Nat) (hi : i < 20) :
    runM lJ kM (SJ s b c A D F i (20 - i)) = some (Ex.exit 2, ({ ts := [Value.agg { toList := kpN b A }, Value.agg { toList := kpN c D }, Value.pointer (some { block := 0, off := 0 }), Value.pointer (some { block := 1, off := 0 }), Value.pointer (some { block := 2, off := 0 }), Value.pointer (some { block := 3, off := 0 }), Value.int IntKind.i64 (↑i : Int), Value.int IntKind.i64 (↑(20 - i) : Int), junk, junk, junk, junk, junk, junk, junk, junk, junk, junk, junk, Value.int IntKind.i64 (↑i : Int), Value.int IntKind.i64 (↑(20 - i) : Int), Value.int IntKind.i64 20, Value.bool false, junk, junk, junk, junk, junk, junk, junk, junk, junk, junk, junk, junk, junk, junk, junk, junk, junk, junk, junk, junk, junk, junk, junk, junk, junk, junk, junk, junk, junk, junk, junk, junk, junk, junk, junk, junk, junk, junk, junk, junk, junk, junk, junk, junk, junk, junk, junk, junk, junk, junk, junk], H := { n := 4, objs := [AObj.cells (kpN s F) 30 4 1, AObj.cells (kpN false fun x => 0) 30 4 1, AObj.cells (kpN c D) 30 4 1, AObj.cells (kpN b A) 30 4 1] }, log := [] } : St)) :=
  Dg.evCode_hint (f := 29) (hs' := []) (hs := [Hint.val 29 21 (Value.int IntKind.i64 20)])
    [Value.int IntKind.i64 (IntKind.wrap IntKind.i64 ((↑i : Int) + (↑((20 : Nat) - i) : Int))) = Value.int IntKind.i64 (20 : Int)] (by kernel_rfl)
    ⟨Dg.i64_eq (by omega) (by omega) (by omega), trivial⟩
--> je
--< kr
theorem kr (s : Bool) (b : Bool) (c : Bool) (A : Nat → Int) (D : Nat → Int) (F : Nat → Int) (F1 : Nat → Int) (F2 : Nat → Int) (i : Nat) (k : Nat) (k1 : Nat) (p : Nat) (p1 : Nat) (q : Nat) (z : Nat) (d : Nat) (hk : k < 19) (hk1 : k1 = k + 1) (hp : F k = (↑p : Int)) (hp1 : F k1 = (↑p1 : Int)) (hq : q = p / 65536) (pb : p < 18446744073709551616) (hz : z = p1 + q) (zb : z < 18446744073709551616) (hd : d = p % 65536) (h1 : ∀ (s : Nat), s < 20 → F1 s = if s = k1 then (↑z : Int) else F s) (h2 : ∀ (s : Nat), s < 20 → F2 s = if s = k then (↑d : Int) else F1 s) (hp2 : F1 k = (↑p : Int)) :
    ∃ s', runM lK kM (SK s b c A D F i k) = some (Ex.normal, s') ∧ (clM lK kM) s' = SK s b c A D F2 i k1 :=
  Dg.code_round (f := 29) (clM lK kM) (hs := [Hint.val 29 47 (Value.bool true),
    Hint.val 29 51 (Value.int IntKind.i64 (↑k1 : Int)),
    Hint.val 29 53 (Value.int IntKind.i64 (↑k1 : Int)),
    Hint.soft 29 55 (Value.pointer (some { block := 3, off := k1 + 1 })),
    Hint.soft 29 56 (Value.int IntKind.u64 (↑p1 : Int)),
    Hint.soft 29 59 (Value.pointer (some { block := 3, off := k + 1 })),
    Hint.soft 29 60 (Value.int IntKind.u64 (↑p : Int)),
    Hint.soft 29 61 (Value.int IntKind.u64 (↑q : Int)),
    Hint.val 29 62 (Value.int IntKind.u64 (↑z : Int)),
    Hint.soft 29 64 (Value.pointer (some { block := 3, off := k1 + 1 })),
    Hint.softH 29 0 (undef) { n := 4, objs := [AObj.cells (kpN s F1) 30 4 1, AObj.cells (kpN false fun x => 0) 30 4 1, AObj.cells (kpN c D) 30 4 1, AObj.cells (kpN b A) 30 4 1] } [3],
    Hint.soft 29 68 (Value.pointer (some { block := 3, off := k + 1 })),
    Hint.soft 29 69 (Value.int IntKind.u64 (↑p : Int)),
    Hint.soft 29 70 (Value.int IntKind.u64 (↑d : Int)),
    Hint.soft 29 72 (Value.pointer (some { block := 3, off := k + 1 })),
    Hint.softH 29 0 (undef) { n := 4, objs := [AObj.cells (kpN s F2) 30 4 1, AObj.cells (kpN false fun x => 0) 30 4 1, AObj.cells (kpN c D) 30 4 1, AObj.cells (kpN b A) 30 4 1] } [3],
    Hint.val 29 49 (Value.int IntKind.i64 (↑k1 : Int))])
    [Value.bool (decide ((↑k : Int) < (19 : Int))) = Value.bool true,
    Value.int IntKind.i64 (IntKind.wrap IntKind.i64 ((↑k : Int) + (1 : Int))) = Value.int IntKind.i64 (↑k1 : Int),
    Value.int IntKind.i64 (IntKind.wrap IntKind.i64 ((↑k : Int) + (1 : Int))) = Value.int IntKind.i64 (↑k1 : Int),
    (0 : Int) ≤ (↑k1 : Int) ∧ (↑k1 : Int) < (↑(20 : Nat) : Int),
    Value.pointer (some { block := (3 : Nat), off := (1 : Nat) + Int.toNat (↑k1 : Int) * (1 : Nat) }) = Value.pointer (some { block := (3 : Nat), off := k1 + (1 : Nat) }),
    (kpN s F)[k1 + (1 : Nat)]? = some (Value.int IntKind.u64 (↑p1 : Int)),
    (0 : Int) ≤ (↑k : Int) ∧ (↑k : Int) < (↑(20 : Nat) : Int),
    Value.pointer (some { block := (3 : Nat), off := (1 : Nat) + Int.toNat (↑k : Int) * (1 : Nat) }) = Value.pointer (some { block := (3 : Nat), off := k + (1 : Nat) }),
    (kpN s F)[k + (1 : Nat)]? = some (Value.int IntKind.u64 (↑p : Int)),
    (65536 : Int) ≠ (0 : Int),
    Value.int IntKind.u64 (IntKind.wrap IntKind.u64 (Int.tdiv (↑p : Int) (65536 : Int))) = Value.int IntKind.u64 (↑q : Int),
    Value.int IntKind.u64 (IntKind.wrap IntKind.u64 ((↑p1 : Int) + (↑q : Int))) = Value.int IntKind.u64 (↑z : Int),
    (0 : Int) ≤ (↑k1 : Int) ∧ (↑k1 : Int) < (↑(20 : Nat) : Int),
    Value.pointer (some { block := (3 : Nat), off := (1 : Nat) + Int.toNat (↑k1 : Int) * (1 : Nat) }) = Value.pointer (some { block := (3 : Nat), off := k1 + (1 : Nat) }),
    Heap.write { n := (4 : Nat), objs := [AObj.cells (kpN s F) (30 : Nat) (4 : Nat) (1 : Nat), AObj.cells (kpN false fun x => (0 : Int)) (30 : Nat) (4 : Nat) (1 : Nat), AObj.cells (kpN c D) (30 : Nat) (4 : Nat) (1 : Nat), AObj.cells (kpN b A) (30 : Nat) (4 : Nat) (1 : Nat)] } (3 : Nat) (k1 + (1 : Nat)) [Value.int IntKind.u64 (↑z : Int)] = some { n := (4 : Nat), objs := [AObj.cells (kpN s F1) (30 : Nat) (4 : Nat) (1 : Nat), AObj.cells (kpN false fun x => (0 : Int)) (30 : Nat) (4 : Nat) (1 : Nat), AObj.cells (kpN c D) (30 : Nat) (4 : Nat) (1 : Nat), AObj.cells (kpN b A) (30 : Nat) (4 : Nat) (1 : Nat)] },
    undef = undef,
    ([(3 : Nat)] : List Nat) = [(3 : Nat)],
    (0 : Int) ≤ (↑k : Int) ∧ (↑k : Int) < (↑(20 : Nat) : Int),
    Value.pointer (some { block := (3 : Nat), off := (1 : Nat) + Int.toNat (↑k : Int) * (1 : Nat) }) = Value.pointer (some { block := (3 : Nat), off := k + (1 : Nat) }),
    (kpN s F1)[k + (1 : Nat)]? = some (Value.int IntKind.u64 (↑p : Int)),
    (65536 : Int) ≠ (0 : Int),
    Value.int IntKind.u64 (Int.tmod (↑p : Int) (65536 : Int)) = Value.int IntKind.u64 (↑d : Int),
    (0 : Int) ≤ (↑k : Int) ∧ (↑k : Int) < (↑(20 : Nat) : Int),
    Value.pointer (some { block := (3 : Nat), off := (1 : Nat) + Int.toNat (↑k : Int) * (1 : Nat) }) = Value.pointer (some { block := (3 : Nat), off := k + (1 : Nat) }),
    Heap.write { n := (4 : Nat), objs := [AObj.cells (kpN s F1) (30 : Nat) (4 : Nat) (1 : Nat), AObj.cells (kpN false fun x => (0 : Int)) (30 : Nat) (4 : Nat) (1 : Nat), AObj.cells (kpN c D) (30 : Nat) (4 : Nat) (1 : Nat), AObj.cells (kpN b A) (30 : Nat) (4 : Nat) (1 : Nat)] } (3 : Nat) (k + (1 : Nat)) [Value.int IntKind.u64 (↑d : Int)] = some { n := (4 : Nat), objs := [AObj.cells (kpN s F2) (30 : Nat) (4 : Nat) (1 : Nat), AObj.cells (kpN false fun x => (0 : Int)) (30 : Nat) (4 : Nat) (1 : Nat), AObj.cells (kpN c D) (30 : Nat) (4 : Nat) (1 : Nat), AObj.cells (kpN b A) (30 : Nat) (4 : Nat) (1 : Nat)] },
    undef = undef,
    ([(3 : Nat)] : List Nat) = [(3 : Nat)],
    Value.int IntKind.i64 (IntKind.wrap IntKind.i64 ((↑k : Int) + (1 : Int))) = Value.int IntKind.i64 (↑k1 : Int)] (by kernel_rfl)
    ⟨Dg.vtrue (by omega), Dg.i64_eq (by omega) (by omega) (by omega), Dg.i64_eq (by omega) (by omega) (by omega), by omega, Dg.ptr_eq (by omega), kpN_getv (by omega) rfl hp1, by omega, Dg.ptr_eq (by omega), kpN_getv (by omega) rfl hp, by decide, tdv hq pb, u64_nat (by omega) zb, by omega, Dg.ptr_eq (by omega), by first | exact wrN rfl (by omega) rfl h1 | rfl, by first | exact wrN rfl (by omega) rfl h1 | rfl, by first | exact wrN rfl (by omega) rfl h1 | rfl, by omega, Dg.ptr_eq (by omega), kpN_getv (by omega) rfl hp2, by decide, tmv hd, by omega, Dg.ptr_eq (by omega), by first | exact wrN rfl (by omega) rfl h2 | rfl, by first | exact wrN rfl (by omega) rfl h2 | rfl, by first | exact wrN rfl (by omega) rfl h2 | rfl, Dg.i64_eq (by omega) (by omega) (by omega), trivial⟩
--> kr
--< ke
theorem ke (s : Bool) (b : Bool) (c : Bool) (A : Nat → Int) (D : Nat → Int) (F : Nat → Int) (i : Nat) :
    runM lK kM (SK s b c A D F i 19) = some (Ex.exit 4, ({ ts := [Value.agg { toList := kpN b A }, Value.agg { toList := kpN c D }, Value.pointer (some { block := 0, off := 0 }), Value.pointer (some { block := 1, off := 0 }), Value.pointer (some { block := 2, off := 0 }), Value.pointer (some { block := 3, off := 0 }), Value.int IntKind.i64 (↑i : Int), junk, Value.int IntKind.i64 19, junk, junk, junk, junk, junk, junk, junk, junk, junk, junk, junk, junk, junk, junk, junk, junk, junk, junk, junk, junk, junk, junk, junk, junk, junk, junk, junk, junk, junk, junk, junk, junk, junk, junk, junk, junk, junk, Value.int IntKind.i64 19, Value.bool false, junk, junk, junk, junk, junk, junk, junk, junk, junk, junk, junk, junk, junk, junk, junk, junk, junk, junk, junk, junk, junk, junk, junk, junk, junk, junk], H := { n := 4, objs := [AObj.cells (kpN s F) 30 4 1, AObj.cells (kpN false fun x => 0) 30 4 1, AObj.cells (kpN c D) 30 4 1, AObj.cells (kpN b A) 30 4 1] }, log := [] } : St)) :=
  Dg.evCode_hint (f := 29) (hs' := []) (hs := [])
    [] (by kernel_rfl)
    trivial
--> ke
theorem oN_congr {b : Bool} {f g : Nat → Int} (h : ∀ t, t < 20 → f t = g t) : oN b f = oN b g := by
  unfold oN
  rw [kpN_congr h]
theorem limN_congr {f g : Nat → Nat} (h : ∀ t, t < 20 → f t = g t) : ∀ t, t < 20 → limN f t = limN g t := fun t ht => by unfold limN; rw [h t ht]
theorem loopJ (s b c : Bool) (m n i : Nat) (hi : i < 20) {s0 : St} (h0 : clM lJ kM s0 = SJ s b c (lim m) (lim n) (limN (mulJ m n i 0)) i 0) : evLoop (runM lJ kM) (clM lJ kM) 1000 s0 = some (.exit 2, EJ s b c (lim m) (lim n) (limN (crP (mulF m n i) 0)) i) := by
  have e : evLoop (runM lJ kM) (clM lJ kM) 1000 s0 = some (.exit 2, EJ s b c (lim m) (lim n) (limN (mulJ m n i (20 - i))) i) :=
    (Dg.loop_run (S := fun j => SJ s b c (lim m) (lim n) (limN (mulJ m n i j)) i j) (n := 20 - i) (by simp) (fun j hj => jr s b c (lim m) (lim n) (limN (mulJ m n i j)) (limN (mulJ m n i (j + 1))) i j (i + j) _ _ _ _ _ hi (by omega) rfl (mj_at m n i j) rfl rfl rfl (by have := mul_le m n i j; omega) rfl (mj_b m n i j _) (mj_is m n i j)) (je s b c (lim m) (lim n) _ i hi) (by omega) h0).trans (by kernel_rfl)
  rw [e]
  unfold EJ HM
  rw [crP_start, oN_congr (limN_congr (mulJ_end m n i))]
theorem loopK (s b c : Bool) (m n i : Nat) (hi : i < 20) (hmn : m * n < B ^ 19) {s0 : St} (h0 : clM lK kM s0 = SK s b c (lim m) (lim n) (limN (crP (mulF m n i) 0)) i 0) : evLoop (runM lK kM) (clM lK kM) 1000 s0 = some (.exit 4, EK s b c (lim m) (lim n) (limN (mulJ m n (i + 1) 0)) i) := by
  have hb := mulF_le m n i
  have e0 : evLoop (runM lK kM) (clM lK kM) 1000 s0 = some (.exit 4, EK s b c (lim m) (lim n) (limN (crP (mulF m n i) 19)) i) :=
    (Dg.loop_run (S := fun k => SK s b c (lim m) (lim n) (limN (crP (mulF m n i) k)) i k) (n := 19) (by simp) (fun k hk => kr s b c (lim m) (lim n) (limN (crP (mulF m n i) k)) (limN (cr1 (mulF m n i) k)) (limN (crP (mulF m n i) (k + 1))) i k (k + 1) _ _ _ _ _ hk rfl (cr_at _ k) (cr_nx _ k) (car_succ (mulF m n i) k) (cr_b hb k) rfl (cr_b hb (k + 1)) (limb_car (mulF m n i) (i := k) (n := 20) (by omega)) (cr1_is _ k) (cr2_is _ k) (cr1_at _ k)) (ke s b c (lim m) (lim n) _ i) (by omega) h0).trans (by kernel_rfl)
  have e : ∀ t, t < 20 → crP (mulF m n i) 19 t = mulJ m n (i + 1) 0 t := fun t ht => by
    have e1 := qs_mul hi hmn
    rw [crP_end (by rw [e1]; exact Nat.lt_of_le_of_lt mul_part hmn) t ht, e1, mulJ_start]
  rw [e0]
  unfold EK HM
  rw [oN_congr (limN_congr e)]
--< mr
theorem mr (s : Bool) (b : Bool) (c : Bool) (A : Nat → Int) (D : Nat → Int) (F : Nat → Int) (G : Nat → Int) (F' : Nat → Int) (i : Nat) (hi : i < 20) (hJ : ∀ (s0 : St), clM lJ kM s0 = SJ s b c A D F i 0 → evLoop (runM lJ kM) (clM lJ kM) 1000 s0 = some (Ex.exit 2, EJ s b c A D G i)) (hK : ∀ (s0 : St), clM lK kM s0 = SK s b c A D G i 0 → evLoop (runM lK kM) (clM lK kM) 1000 s0 = some (Ex.exit 4, EK s b c A D F' i)) :
    ∃ s', runM lM [] (SM s b c A D F i) = some (Ex.normal, s') ∧ (clM lM []) s' = SM s b c A D F' (i + 1) :=
  Dg.code_round (f := 29) (clM lM []) (hs := [Hint.val 29 16 (Value.bool true),
    Hint.loop 29 (Ex.exit 2) (EJ s b c A D G i),
    Hint.loop 29 (Ex.exit 4) (EK s b c A D F' i),
    Hint.val 29 18 (Value.int IntKind.i64 (↑(i + 1) : Int))])
    [Value.bool (decide ((↑i : Int) < (20 : Int))) = Value.bool true,
    evLoop (runM lJ kM) (clM lJ kM) 1000 { ts := [Value.agg { toList := kpN b A }, Value.agg { toList := kpN c D }, Value.pointer (some { block := 0, off := 0 }), Value.pointer (some { block := 1, off := 0 }), Value.pointer (some { block := 2, off := 0 }), Value.pointer (some { block := 3, off := 0 }), Value.int IntKind.i64 (↑i : Int), Value.int IntKind.i64 0, junk, junk, junk, junk, junk, junk, junk, Value.int IntKind.i64 (↑i : Int), Value.bool true, junk, junk, junk, junk, junk, junk, junk, junk, junk, junk, junk, junk, junk, junk, junk, junk, junk, junk, junk, junk, junk, junk, junk, junk, junk, junk, junk, junk, junk, junk, junk, junk, junk, junk, junk, junk, junk, junk, junk, junk, junk, junk, junk, junk, junk, junk, junk, junk, junk, junk, junk, junk, junk, junk, junk, junk, junk], H := { n := 4, objs := [AObj.cells (kpN s F) 30 4 1, AObj.cells (kpN false fun x => 0) 30 4 1, AObj.cells (kpN c D) 30 4 1, AObj.cells (kpN b A) 30 4 1] }, log := [] } = some (Ex.exit 2, EJ s b c A D G i),
    evLoop (runM lK kM) (clM lK kM) 1000 { ts := [Value.agg { toList := kpN b A }, Value.agg { toList := kpN c D }, Value.pointer (some { block := 0, off := 0 }), Value.pointer (some { block := 1, off := 0 }), Value.pointer (some { block := 2, off := 0 }), Value.pointer (some { block := 3, off := 0 }), Value.int IntKind.i64 (↑i : Int), Value.int IntKind.i64 (↑(20 - i) : Int), Value.int IntKind.i64 0, junk, junk, junk, junk, junk, junk, junk, junk, junk, junk, Value.int IntKind.i64 (↑i : Int), Value.int IntKind.i64 (↑(20 - i) : Int), Value.int IntKind.i64 20, Value.bool false, junk, junk, junk, junk, junk, junk, junk, junk, junk, junk, junk, junk, junk, junk, junk, junk, junk, junk, junk, junk, junk, junk, junk, junk, junk, junk, junk, junk, junk, junk, junk, junk, junk, junk, junk, junk, junk, junk, junk, junk, junk, junk, junk, junk, junk, junk, junk, junk, junk, junk, junk], H := { n := 4, objs := [AObj.cells (kpN s G) 30 4 1, AObj.cells (kpN false fun x => 0) 30 4 1, AObj.cells (kpN c D) 30 4 1, AObj.cells (kpN b A) 30 4 1] }, log := [] } = some (Ex.exit 4, EK s b c A D F' i),
    Value.int IntKind.i64 (IntKind.wrap IntKind.i64 ((↑i : Int) + (1 : Int))) = Value.int IntKind.i64 (↑(i + (1 : Nat)) : Int)] (by kernel_rfl)
    ⟨Dg.vtrue (by omega), hJ _ (by kernel_rfl), hK _ (by kernel_rfl), inc64 (by omega), trivial⟩
--> mr
--< me
theorem me (s : Bool) (b : Bool) (c : Bool) (A : Nat → Int) (D : Nat → Int) (F : Nat → Int) :
    runM lM [] (SM s b c A D F 20) = some (Ex.exit 0, ({ ts := [Value.agg { toList := kpN b A }, Value.agg { toList := kpN c D }, Value.pointer (some { block := 0, off := 0 }), Value.pointer (some { block := 1, off := 0 }), Value.pointer (some { block := 2, off := 0 }), Value.pointer (some { block := 3, off := 0 }), Value.int IntKind.i64 20, junk, junk, junk, junk, junk, junk, junk, junk, Value.int IntKind.i64 20, Value.bool false, junk, junk, junk, junk, junk, junk, junk, junk, junk, junk, junk, junk, junk, junk, junk, junk, junk, junk, junk, junk, junk, junk, junk, junk, junk, junk, junk, junk, junk, junk, junk, junk, junk, junk, junk, junk, junk, junk, junk, junk, junk, junk, junk, junk, junk, junk, junk, junk, junk, junk, junk, junk, junk, junk, junk, junk, junk], H := { n := 4, objs := [AObj.cells (kpN s F) 30 4 1, AObj.cells (kpN false fun x => 0) 30 4 1, AObj.cells (kpN c D) 30 4 1, AObj.cells (kpN b A) 30 4 1] }, log := [] } : St)) :=
  Dg.evCode_hint (f := 29) (hs' := []) (hs := [])
    [] (by kernel_rfl)
    trivial
--> me
def RP (b c : Bool) (m n : Nat) (F : Nat → Int) : St := ⟨[num b m, num c n, ptr 0, ptr 1, ptr 2, .int .i64 19] ++ (js 8 ++ ([.int .i64 19, .bool false] ++ js 69)), ⟨3, [oN false (fun _ => 0), oN c (lim n), oN b F]⟩, []⟩
def RQ (b0 c0 : Bool) (m n : Nat) (b c : Bool) (r : Nat) (F G : Nat → Int) : St := ⟨[num b0 m, num c0 n, ptr 0, ptr 1, ptr 2, undef, .int .u64 (r : Int), .int .i64 20] ++ (js 52 ++ ([.int .i64 20, .bool false] ++ js 23)), ⟨3, [oN false (fun _ => 0), oN c G, oN b F]⟩, []⟩
def RM (s b c : Bool) (A D F : Nat → Int) : St := ⟨[nv b A, nv c D, ptr 0, ptr 1, ptr 2, ptr 3, .int .i64 20] ++ (js 8 ++ ([.int .i64 20, .bool false] ++ js 57)), HM s b c A D F, []⟩
--< add_eq
theorem add_eq (b : Bool) (m : Nat) (n : Nat) (F : Nat → Int) (hz : ∀ (s0 : St), clP s0 = SP b b m n 0 → evLoop runP clP 1000 s0 = some (Ex.exit 0, RP b b m n F)) :
    evCall Tryz.prog 0 (bodied Tryz.prog) ov1 sbs 1000 20 28 [num b m, num b n] { n := 0, objs := [] } = some (Value.agg #[Value.bool b, Value.int IntKind.u64 (F 0), Value.int IntKind.u64 (F 1), Value.int IntKind.u64 (F 2), Value.int IntKind.u64 (F 3), Value.int IntKind.u64 (F 4), Value.int IntKind.u64 (F 5), Value.int IntKind.u64 (F 6), Value.int IntKind.u64 (F 7), Value.int IntKind.u64 (F 8), Value.int IntKind.u64 (F 9), Value.int IntKind.u64 (F 10), Value.int IntKind.u64 (F 11), Value.int IntKind.u64 (F 12), Value.int IntKind.u64 (F 13), Value.int IntKind.u64 (F 14), Value.int IntKind.u64 (F 15), Value.int IntKind.u64 (F 16), Value.int IntKind.u64 (F 17), Value.int IntKind.u64 (F 18), Value.int IntKind.u64 (F 19)], { n := 0, objs := [] }, []) :=
  Dg.evCall_hint (hs' := []) (hs := [Hint.val 28 13 (Value.bool true),
    Hint.loop 28 (Ex.exit 0) (RP b b m n F)])
    [Value.bool (b == b) = Value.bool true,
    evLoop runP clP 1000 { ts := [Value.agg { toList := kpN b (lim m) }, Value.agg { toList := kpN b (lim n) }, Value.pointer (some { block := 0, off := 0 }), Value.pointer (some { block := 1, off := 0 }), Value.pointer (some { block := 2, off := 0 }), Value.int IntKind.i64 0, undef, undef, undef, Value.pointer (some { block := 0, off := 0 }), Value.bool b, Value.pointer (some { block := 1, off := 0 }), Value.bool b, Value.bool true, undef, undef, undef, undef, undef, undef, undef, undef, undef, undef, undef, undef, undef, undef, undef, undef, undef, undef, undef, undef, undef, undef, undef, undef, undef, undef, undef, undef, undef, undef, undef, undef, undef, undef, undef, undef, undef, undef, undef, undef, undef, undef, undef, undef, undef, undef, undef, undef, undef, undef, undef, undef, undef, undef, undef, undef, undef, undef, undef, undef, undef, undef, undef, undef, undef, undef, undef, undef, undef, undef, undef], H := { n := 3, objs := [AObj.cells [Value.bool false, Value.int IntKind.u64 0, Value.int IntKind.u64 0, Value.int IntKind.u64 0, Value.int IntKind.u64 0, Value.int IntKind.u64 0, Value.int IntKind.u64 0, Value.int IntKind.u64 0, Value.int IntKind.u64 0, Value.int IntKind.u64 0, Value.int IntKind.u64 0, Value.int IntKind.u64 0, Value.int IntKind.u64 0, Value.int IntKind.u64 0, Value.int IntKind.u64 0, Value.int IntKind.u64 0, Value.int IntKind.u64 0, Value.int IntKind.u64 0, Value.int IntKind.u64 0, Value.int IntKind.u64 0, Value.int IntKind.u64 0] 30 0 1, AObj.cells [Value.bool b, Value.int IntKind.u64 (lim n 0), Value.int IntKind.u64 (lim n 1), Value.int IntKind.u64 (lim n 2), Value.int IntKind.u64 (lim n 3), Value.int IntKind.u64 (lim n 4), Value.int IntKind.u64 (lim n 5), Value.int IntKind.u64 (lim n 6), Value.int IntKind.u64 (lim n 7), Value.int IntKind.u64 (lim n 8), Value.int IntKind.u64 (lim n 9), Value.int IntKind.u64 (lim n 10), Value.int IntKind.u64 (lim n 11), Value.int IntKind.u64 (lim n 12), Value.int IntKind.u64 (lim n 13), Value.int IntKind.u64 (lim n 14), Value.int IntKind.u64 (lim n 15), Value.int IntKind.u64 (lim n 16), Value.int IntKind.u64 (lim n 17), Value.int IntKind.u64 (lim n 18), Value.int IntKind.u64 (lim n 19)] 30 0 1, AObj.cells [Value.bool b, Value.int IntKind.u64 (lim m 0), Value.int IntKind.u64 (lim m 1), Value.int IntKind.u64 (lim m 2), Value.int IntKind.u64 (lim m 3), Value.int IntKind.u64 (lim m 4), Value.int IntKind.u64 (lim m 5), Value.int IntKind.u64 (lim m 6), Value.int IntKind.u64 (lim m 7), Value.int IntKind.u64 (lim m 8), Value.int IntKind.u64 (lim m 9), Value.int IntKind.u64 (lim m 10), Value.int IntKind.u64 (lim m 11), Value.int IntKind.u64 (lim m 12), Value.int IntKind.u64 (lim m 13), Value.int IntKind.u64 (lim m 14), Value.int IntKind.u64 (lim m 15), Value.int IntKind.u64 (lim m 16), Value.int IntKind.u64 (lim m 17), Value.int IntKind.u64 (lim m 18), Value.int IntKind.u64 (lim m 19)] 30 0 1] }, log := [] } = some (Ex.exit 0, RP b b m n F)] (by kernel_rfl)
    ⟨by cases b <;> rfl, hz _ (sp_start b b m n (by kernel_rfl)), trivial⟩
--> add_eq
--< add_ge_f
theorem add_ge_f (m : Nat) (n : Nat) (hm : m < B ^ 20) (hn : n < B ^ 20) (h : n ≤ m) (F : Nat → Int) (r : Nat) (hz : ∀ (s0 : St), clQ s0 = SQ false true m n false true 0 (lim m) (lim n) 0 → evLoop runQ clQ 1000 s0 = some (Ex.exit 2, RQ false true m n false true r F (lim n))) :
    evCall Tryz.prog 0 (bodied Tryz.prog) ov1 sbs 1000 20 28 [num false m, num true n] { n := 0, objs := [] } = some (Value.agg #[Value.bool false, Value.int IntKind.u64 (F 0), Value.int IntKind.u64 (F 1), Value.int IntKind.u64 (F 2), Value.int IntKind.u64 (F 3), Value.int IntKind.u64 (F 4), Value.int IntKind.u64 (F 5), Value.int IntKind.u64 (F 6), Value.int IntKind.u64 (F 7), Value.int IntKind.u64 (F 8), Value.int IntKind.u64 (F 9), Value.int IntKind.u64 (F 10), Value.int IntKind.u64 (F 11), Value.int IntKind.u64 (F 12), Value.int IntKind.u64 (F 13), Value.int IntKind.u64 (F 14), Value.int IntKind.u64 (F 15), Value.int IntKind.u64 (F 16), Value.int IntKind.u64 (F 17), Value.int IntKind.u64 (F 18), Value.int IntKind.u64 (F 19)], { n := 0, objs := [] }, []) :=
  Dg.evCall_hint (hs' := []) (hs := [Hint.call 60 (Value.int IntKind.i64 (sgn m n)) { n := 0, objs := [] } [],
    Hint.val 28 57 (Value.bool false),
    Hint.loop 28 (Ex.exit 2) (RQ false true m n false true r F (lim n))])
    [evCall Tryz.prog 0 (bodied Tryz.prog) ov1 sbs 1000 19 60 [Value.agg #[Value.bool false, Value.int IntKind.u64 (lim m 0), Value.int IntKind.u64 (lim m 1), Value.int IntKind.u64 (lim m 2), Value.int IntKind.u64 (lim m 3), Value.int IntKind.u64 (lim m 4), Value.int IntKind.u64 (lim m 5), Value.int IntKind.u64 (lim m 6), Value.int IntKind.u64 (lim m 7), Value.int IntKind.u64 (lim m 8), Value.int IntKind.u64 (lim m 9), Value.int IntKind.u64 (lim m 10), Value.int IntKind.u64 (lim m 11), Value.int IntKind.u64 (lim m 12), Value.int IntKind.u64 (lim m 13), Value.int IntKind.u64 (lim m 14), Value.int IntKind.u64 (lim m 15), Value.int IntKind.u64 (lim m 16), Value.int IntKind.u64 (lim m 17), Value.int IntKind.u64 (lim m 18), Value.int IntKind.u64 (lim m 19)], Value.agg #[Value.bool true, Value.int IntKind.u64 (lim n 0), Value.int IntKind.u64 (lim n 1), Value.int IntKind.u64 (lim n 2), Value.int IntKind.u64 (lim n 3), Value.int IntKind.u64 (lim n 4), Value.int IntKind.u64 (lim n 5), Value.int IntKind.u64 (lim n 6), Value.int IntKind.u64 (lim n 7), Value.int IntKind.u64 (lim n 8), Value.int IntKind.u64 (lim n 9), Value.int IntKind.u64 (lim n 10), Value.int IntKind.u64 (lim n 11), Value.int IntKind.u64 (lim n 12), Value.int IntKind.u64 (lim n 13), Value.int IntKind.u64 (lim n 14), Value.int IntKind.u64 (lim n 15), Value.int IntKind.u64 (lim n 16), Value.int IntKind.u64 (lim n 17), Value.int IntKind.u64 (lim n 18), Value.int IntKind.u64 (lim n 19)]] { n := 0, objs := [] } = some (Value.int IntKind.i64 (sgn m n), { n := 0, objs := [] }, []),
    Value.bool (decide (sgn m n < (0 : Int))) = Value.bool false,
    evLoop runQ clQ 1000 { ts := [Value.agg { toList := kpN false (lim m) }, Value.agg { toList := kpN true (lim n) }, Value.pointer (some { block := 0, off := 0 }), Value.pointer (some { block := 1, off := 0 }), Value.pointer (some { block := 2, off := 0 }), undef, Value.int IntKind.u64 0, Value.int IntKind.i64 0, undef, Value.pointer (some { block := 0, off := 0 }), Value.bool false, Value.pointer (some { block := 1, off := 0 }), Value.bool true, Value.bool false, undef, undef, undef, undef, undef, undef, undef, undef, undef, undef, undef, undef, undef, undef, undef, undef, undef, undef, undef, undef, undef, undef, undef, undef, undef, undef, undef, undef, undef, undef, undef, undef, undef, undef, undef, undef, undef, undef, undef, undef, Value.agg #[Value.bool false, Value.int IntKind.u64 (lim m 0), Value.int IntKind.u64 (lim m 1), Value.int IntKind.u64 (lim m 2), Value.int IntKind.u64 (lim m 3), Value.int IntKind.u64 (lim m 4), Value.int IntKind.u64 (lim m 5), Value.int IntKind.u64 (lim m 6), Value.int IntKind.u64 (lim m 7), Value.int IntKind.u64 (lim m 8), Value.int IntKind.u64 (lim m 9), Value.int IntKind.u64 (lim m 10), Value.int IntKind.u64 (lim m 11), Value.int IntKind.u64 (lim m 12), Value.int IntKind.u64 (lim m 13), Value.int IntKind.u64 (lim m 14), Value.int IntKind.u64 (lim m 15), Value.int IntKind.u64 (lim m 16), Value.int IntKind.u64 (lim m 17), Value.int IntKind.u64 (lim m 18), Value.int IntKind.u64 (lim m 19)], Value.agg #[Value.bool true, Value.int IntKind.u64 (lim n 0), Value.int IntKind.u64 (lim n 1), Value.int IntKind.u64 (lim n 2), Value.int IntKind.u64 (lim n 3), Value.int IntKind.u64 (lim n 4), Value.int IntKind.u64 (lim n 5), Value.int IntKind.u64 (lim n 6), Value.int IntKind.u64 (lim n 7), Value.int IntKind.u64 (lim n 8), Value.int IntKind.u64 (lim n 9), Value.int IntKind.u64 (lim n 10), Value.int IntKind.u64 (lim n 11), Value.int IntKind.u64 (lim n 12), Value.int IntKind.u64 (lim n 13), Value.int IntKind.u64 (lim n 14), Value.int IntKind.u64 (lim n 15), Value.int IntKind.u64 (lim n 16), Value.int IntKind.u64 (lim n 17), Value.int IntKind.u64 (lim n 18), Value.int IntKind.u64 (lim n 19)], Value.int IntKind.i64 (sgn m n), Value.bool false, undef, undef, undef, undef, undef, undef, undef, undef, undef, undef, undef, undef, undef, undef, undef, undef, undef, undef, undef, undef, undef, undef, undef, undef, undef, undef, undef], H := { n := 3, objs := [AObj.cells [Value.bool false, Value.int IntKind.u64 0, Value.int IntKind.u64 0, Value.int IntKind.u64 0, Value.int IntKind.u64 0, Value.int IntKind.u64 0, Value.int IntKind.u64 0, Value.int IntKind.u64 0, Value.int IntKind.u64 0, Value.int IntKind.u64 0, Value.int IntKind.u64 0, Value.int IntKind.u64 0, Value.int IntKind.u64 0, Value.int IntKind.u64 0, Value.int IntKind.u64 0, Value.int IntKind.u64 0, Value.int IntKind.u64 0, Value.int IntKind.u64 0, Value.int IntKind.u64 0, Value.int IntKind.u64 0, Value.int IntKind.u64 0] 30 0 1, AObj.cells [Value.bool true, Value.int IntKind.u64 (lim n 0), Value.int IntKind.u64 (lim n 1), Value.int IntKind.u64 (lim n 2), Value.int IntKind.u64 (lim n 3), Value.int IntKind.u64 (lim n 4), Value.int IntKind.u64 (lim n 5), Value.int IntKind.u64 (lim n 6), Value.int IntKind.u64 (lim n 7), Value.int IntKind.u64 (lim n 8), Value.int IntKind.u64 (lim n 9), Value.int IntKind.u64 (lim n 10), Value.int IntKind.u64 (lim n 11), Value.int IntKind.u64 (lim n 12), Value.int IntKind.u64 (lim n 13), Value.int IntKind.u64 (lim n 14), Value.int IntKind.u64 (lim n 15), Value.int IntKind.u64 (lim n 16), Value.int IntKind.u64 (lim n 17), Value.int IntKind.u64 (lim n 18), Value.int IntKind.u64 (lim n 19)] 30 0 1, AObj.cells [Value.bool false, Value.int IntKind.u64 (lim m 0), Value.int IntKind.u64 (lim m 1), Value.int IntKind.u64 (lim m 2), Value.int IntKind.u64 (lim m 3), Value.int IntKind.u64 (lim m 4), Value.int IntKind.u64 (lim m 5), Value.int IntKind.u64 (lim m 6), Value.int IntKind.u64 (lim m 7), Value.int IntKind.u64 (lim m 8), Value.int IntKind.u64 (lim m 9), Value.int IntKind.u64 (lim m 10), Value.int IntKind.u64 (lim m 11), Value.int IntKind.u64 (lim m 12), Value.int IntKind.u64 (lim m 13), Value.int IntKind.u64 (lim m 14), Value.int IntKind.u64 (lim m 15), Value.int IntKind.u64 (lim m 16), Value.int IntKind.u64 (lim m 17), Value.int IntKind.u64 (lim m 18), Value.int IntKind.u64 (lim m 19)] 30 0 1] }, log := [] } = some (Ex.exit 2, RQ false true m n false true r F (lim n))] (by kernel_rfl)
    ⟨Dg.evCall_told (size_told _ _ hm hn), Dg.vfalse (by unfold sgn; repeat' split <;> omega), hz _ (by kernel_rfl), trivial⟩
--> add_ge_f
--< add_lt_f
theorem add_lt_f (m : Nat) (n : Nat) (hm : m < B ^ 20) (hn : n < B ^ 20) (h : m < n) (F : Nat → Int) (r : Nat) (hz : ∀ (s0 : St), clQ s0 = SQ false true m n true false 0 (lim n) (lim m) 0 → evLoop runQ clQ 1000 s0 = some (Ex.exit 2, RQ false true m n true false r F (lim m))) :
    evCall Tryz.prog 0 (bodied Tryz.prog) ov1 sbs 1000 20 28 [num false m, num true n] { n := 0, objs := [] } = some (Value.agg #[Value.bool true, Value.int IntKind.u64 (F 0), Value.int IntKind.u64 (F 1), Value.int IntKind.u64 (F 2), Value.int IntKind.u64 (F 3), Value.int IntKind.u64 (F 4), Value.int IntKind.u64 (F 5), Value.int IntKind.u64 (F 6), Value.int IntKind.u64 (F 7), Value.int IntKind.u64 (F 8), Value.int IntKind.u64 (F 9), Value.int IntKind.u64 (F 10), Value.int IntKind.u64 (F 11), Value.int IntKind.u64 (F 12), Value.int IntKind.u64 (F 13), Value.int IntKind.u64 (F 14), Value.int IntKind.u64 (F 15), Value.int IntKind.u64 (F 16), Value.int IntKind.u64 (F 17), Value.int IntKind.u64 (F 18), Value.int IntKind.u64 (F 19)], { n := 0, objs := [] }, []) :=
  Dg.evCall_hint (hs' := []) (hs := [Hint.call 60 (Value.int IntKind.i64 (sgn m n)) { n := 0, objs := [] } [],
    Hint.val 28 57 (Value.bool true),
    Hint.loop 28 (Ex.exit 2) (RQ false true m n true false r F (lim m))])
    [evCall Tryz.prog 0 (bodied Tryz.prog) ov1 sbs 1000 19 60 [Value.agg #[Value.bool false, Value.int IntKind.u64 (lim m 0), Value.int IntKind.u64 (lim m 1), Value.int IntKind.u64 (lim m 2), Value.int IntKind.u64 (lim m 3), Value.int IntKind.u64 (lim m 4), Value.int IntKind.u64 (lim m 5), Value.int IntKind.u64 (lim m 6), Value.int IntKind.u64 (lim m 7), Value.int IntKind.u64 (lim m 8), Value.int IntKind.u64 (lim m 9), Value.int IntKind.u64 (lim m 10), Value.int IntKind.u64 (lim m 11), Value.int IntKind.u64 (lim m 12), Value.int IntKind.u64 (lim m 13), Value.int IntKind.u64 (lim m 14), Value.int IntKind.u64 (lim m 15), Value.int IntKind.u64 (lim m 16), Value.int IntKind.u64 (lim m 17), Value.int IntKind.u64 (lim m 18), Value.int IntKind.u64 (lim m 19)], Value.agg #[Value.bool true, Value.int IntKind.u64 (lim n 0), Value.int IntKind.u64 (lim n 1), Value.int IntKind.u64 (lim n 2), Value.int IntKind.u64 (lim n 3), Value.int IntKind.u64 (lim n 4), Value.int IntKind.u64 (lim n 5), Value.int IntKind.u64 (lim n 6), Value.int IntKind.u64 (lim n 7), Value.int IntKind.u64 (lim n 8), Value.int IntKind.u64 (lim n 9), Value.int IntKind.u64 (lim n 10), Value.int IntKind.u64 (lim n 11), Value.int IntKind.u64 (lim n 12), Value.int IntKind.u64 (lim n 13), Value.int IntKind.u64 (lim n 14), Value.int IntKind.u64 (lim n 15), Value.int IntKind.u64 (lim n 16), Value.int IntKind.u64 (lim n 17), Value.int IntKind.u64 (lim n 18), Value.int IntKind.u64 (lim n 19)]] { n := 0, objs := [] } = some (Value.int IntKind.i64 (sgn m n), { n := 0, objs := [] }, []),
    Value.bool (decide (sgn m n < (0 : Int))) = Value.bool true,
    evLoop runQ clQ 1000 { ts := [Value.agg { toList := kpN false (lim m) }, Value.agg { toList := kpN true (lim n) }, Value.pointer (some { block := 0, off := 0 }), Value.pointer (some { block := 1, off := 0 }), Value.pointer (some { block := 2, off := 0 }), undef, Value.int IntKind.u64 0, Value.int IntKind.i64 0, undef, Value.pointer (some { block := 0, off := 0 }), Value.bool false, Value.pointer (some { block := 1, off := 0 }), Value.bool true, Value.bool false, undef, undef, undef, undef, undef, undef, undef, undef, undef, undef, undef, undef, undef, undef, undef, undef, undef, undef, undef, undef, undef, undef, undef, undef, undef, undef, undef, undef, undef, undef, undef, undef, undef, undef, undef, undef, undef, undef, undef, undef, Value.agg #[Value.bool false, Value.int IntKind.u64 (lim m 0), Value.int IntKind.u64 (lim m 1), Value.int IntKind.u64 (lim m 2), Value.int IntKind.u64 (lim m 3), Value.int IntKind.u64 (lim m 4), Value.int IntKind.u64 (lim m 5), Value.int IntKind.u64 (lim m 6), Value.int IntKind.u64 (lim m 7), Value.int IntKind.u64 (lim m 8), Value.int IntKind.u64 (lim m 9), Value.int IntKind.u64 (lim m 10), Value.int IntKind.u64 (lim m 11), Value.int IntKind.u64 (lim m 12), Value.int IntKind.u64 (lim m 13), Value.int IntKind.u64 (lim m 14), Value.int IntKind.u64 (lim m 15), Value.int IntKind.u64 (lim m 16), Value.int IntKind.u64 (lim m 17), Value.int IntKind.u64 (lim m 18), Value.int IntKind.u64 (lim m 19)], Value.agg #[Value.bool true, Value.int IntKind.u64 (lim n 0), Value.int IntKind.u64 (lim n 1), Value.int IntKind.u64 (lim n 2), Value.int IntKind.u64 (lim n 3), Value.int IntKind.u64 (lim n 4), Value.int IntKind.u64 (lim n 5), Value.int IntKind.u64 (lim n 6), Value.int IntKind.u64 (lim n 7), Value.int IntKind.u64 (lim n 8), Value.int IntKind.u64 (lim n 9), Value.int IntKind.u64 (lim n 10), Value.int IntKind.u64 (lim n 11), Value.int IntKind.u64 (lim n 12), Value.int IntKind.u64 (lim n 13), Value.int IntKind.u64 (lim n 14), Value.int IntKind.u64 (lim n 15), Value.int IntKind.u64 (lim n 16), Value.int IntKind.u64 (lim n 17), Value.int IntKind.u64 (lim n 18), Value.int IntKind.u64 (lim n 19)], Value.int IntKind.i64 (sgn m n), Value.bool true, Value.agg #[Value.bool true, Value.int IntKind.u64 (lim n 0), Value.int IntKind.u64 (lim n 1), Value.int IntKind.u64 (lim n 2), Value.int IntKind.u64 (lim n 3), Value.int IntKind.u64 (lim n 4), Value.int IntKind.u64 (lim n 5), Value.int IntKind.u64 (lim n 6), Value.int IntKind.u64 (lim n 7), Value.int IntKind.u64 (lim n 8), Value.int IntKind.u64 (lim n 9), Value.int IntKind.u64 (lim n 10), Value.int IntKind.u64 (lim n 11), Value.int IntKind.u64 (lim n 12), Value.int IntKind.u64 (lim n 13), Value.int IntKind.u64 (lim n 14), Value.int IntKind.u64 (lim n 15), Value.int IntKind.u64 (lim n 16), Value.int IntKind.u64 (lim n 17), Value.int IntKind.u64 (lim n 18), Value.int IntKind.u64 (lim n 19)], Value.agg #[Value.bool false, Value.int IntKind.u64 (lim m 0), Value.int IntKind.u64 (lim m 1), Value.int IntKind.u64 (lim m 2), Value.int IntKind.u64 (lim m 3), Value.int IntKind.u64 (lim m 4), Value.int IntKind.u64 (lim m 5), Value.int IntKind.u64 (lim m 6), Value.int IntKind.u64 (lim m 7), Value.int IntKind.u64 (lim m 8), Value.int IntKind.u64 (lim m 9), Value.int IntKind.u64 (lim m 10), Value.int IntKind.u64 (lim m 11), Value.int IntKind.u64 (lim m 12), Value.int IntKind.u64 (lim m 13), Value.int IntKind.u64 (lim m 14), Value.int IntKind.u64 (lim m 15), Value.int IntKind.u64 (lim m 16), Value.int IntKind.u64 (lim m 17), Value.int IntKind.u64 (lim m 18), Value.int IntKind.u64 (lim m 19)], undef, undef, undef, undef, undef, undef, undef, undef, undef, undef, undef, undef, undef, undef, undef, undef, undef, undef, undef, undef, undef, undef, undef, undef, undef], H := { n := 3, objs := [AObj.cells [Value.bool false, Value.int IntKind.u64 0, Value.int IntKind.u64 0, Value.int IntKind.u64 0, Value.int IntKind.u64 0, Value.int IntKind.u64 0, Value.int IntKind.u64 0, Value.int IntKind.u64 0, Value.int IntKind.u64 0, Value.int IntKind.u64 0, Value.int IntKind.u64 0, Value.int IntKind.u64 0, Value.int IntKind.u64 0, Value.int IntKind.u64 0, Value.int IntKind.u64 0, Value.int IntKind.u64 0, Value.int IntKind.u64 0, Value.int IntKind.u64 0, Value.int IntKind.u64 0, Value.int IntKind.u64 0, Value.int IntKind.u64 0] 30 0 1, AObj.cells [Value.bool false, Value.int IntKind.u64 (lim m 0), Value.int IntKind.u64 (lim m 1), Value.int IntKind.u64 (lim m 2), Value.int IntKind.u64 (lim m 3), Value.int IntKind.u64 (lim m 4), Value.int IntKind.u64 (lim m 5), Value.int IntKind.u64 (lim m 6), Value.int IntKind.u64 (lim m 7), Value.int IntKind.u64 (lim m 8), Value.int IntKind.u64 (lim m 9), Value.int IntKind.u64 (lim m 10), Value.int IntKind.u64 (lim m 11), Value.int IntKind.u64 (lim m 12), Value.int IntKind.u64 (lim m 13), Value.int IntKind.u64 (lim m 14), Value.int IntKind.u64 (lim m 15), Value.int IntKind.u64 (lim m 16), Value.int IntKind.u64 (lim m 17), Value.int IntKind.u64 (lim m 18), Value.int IntKind.u64 (lim m 19)] 30 0 1, AObj.cells [Value.bool true, Value.int IntKind.u64 (lim n 0), Value.int IntKind.u64 (lim n 1), Value.int IntKind.u64 (lim n 2), Value.int IntKind.u64 (lim n 3), Value.int IntKind.u64 (lim n 4), Value.int IntKind.u64 (lim n 5), Value.int IntKind.u64 (lim n 6), Value.int IntKind.u64 (lim n 7), Value.int IntKind.u64 (lim n 8), Value.int IntKind.u64 (lim n 9), Value.int IntKind.u64 (lim n 10), Value.int IntKind.u64 (lim n 11), Value.int IntKind.u64 (lim n 12), Value.int IntKind.u64 (lim n 13), Value.int IntKind.u64 (lim n 14), Value.int IntKind.u64 (lim n 15), Value.int IntKind.u64 (lim n 16), Value.int IntKind.u64 (lim n 17), Value.int IntKind.u64 (lim n 18), Value.int IntKind.u64 (lim n 19)] 30 0 1] }, log := [] } = some (Ex.exit 2, RQ false true m n true false r F (lim m))] (by kernel_rfl)
    ⟨Dg.evCall_told (size_told _ _ hm hn), Dg.vtrue (by unfold sgn; repeat' split <;> omega), hz _ (by kernel_rfl), trivial⟩
--> add_lt_f
--< add_ge_t
theorem add_ge_t (m : Nat) (n : Nat) (hm : m < B ^ 20) (hn : n < B ^ 20) (h : n ≤ m) (F : Nat → Int) (r : Nat) (hz : ∀ (s0 : St), clQ s0 = SQ true false m n true false 0 (lim m) (lim n) 0 → evLoop runQ clQ 1000 s0 = some (Ex.exit 2, RQ true false m n true false r F (lim n))) :
    evCall Tryz.prog 0 (bodied Tryz.prog) ov1 sbs 1000 20 28 [num true m, num false n] { n := 0, objs := [] } = some (Value.agg #[Value.bool true, Value.int IntKind.u64 (F 0), Value.int IntKind.u64 (F 1), Value.int IntKind.u64 (F 2), Value.int IntKind.u64 (F 3), Value.int IntKind.u64 (F 4), Value.int IntKind.u64 (F 5), Value.int IntKind.u64 (F 6), Value.int IntKind.u64 (F 7), Value.int IntKind.u64 (F 8), Value.int IntKind.u64 (F 9), Value.int IntKind.u64 (F 10), Value.int IntKind.u64 (F 11), Value.int IntKind.u64 (F 12), Value.int IntKind.u64 (F 13), Value.int IntKind.u64 (F 14), Value.int IntKind.u64 (F 15), Value.int IntKind.u64 (F 16), Value.int IntKind.u64 (F 17), Value.int IntKind.u64 (F 18), Value.int IntKind.u64 (F 19)], { n := 0, objs := [] }, []) :=
  Dg.evCall_hint (hs' := []) (hs := [Hint.call 60 (Value.int IntKind.i64 (sgn m n)) { n := 0, objs := [] } [],
    Hint.val 28 57 (Value.bool false),
    Hint.loop 28 (Ex.exit 2) (RQ true false m n true false r F (lim n))])
    [evCall Tryz.prog 0 (bodied Tryz.prog) ov1 sbs 1000 19 60 [Value.agg #[Value.bool true, Value.int IntKind.u64 (lim m 0), Value.int IntKind.u64 (lim m 1), Value.int IntKind.u64 (lim m 2), Value.int IntKind.u64 (lim m 3), Value.int IntKind.u64 (lim m 4), Value.int IntKind.u64 (lim m 5), Value.int IntKind.u64 (lim m 6), Value.int IntKind.u64 (lim m 7), Value.int IntKind.u64 (lim m 8), Value.int IntKind.u64 (lim m 9), Value.int IntKind.u64 (lim m 10), Value.int IntKind.u64 (lim m 11), Value.int IntKind.u64 (lim m 12), Value.int IntKind.u64 (lim m 13), Value.int IntKind.u64 (lim m 14), Value.int IntKind.u64 (lim m 15), Value.int IntKind.u64 (lim m 16), Value.int IntKind.u64 (lim m 17), Value.int IntKind.u64 (lim m 18), Value.int IntKind.u64 (lim m 19)], Value.agg #[Value.bool false, Value.int IntKind.u64 (lim n 0), Value.int IntKind.u64 (lim n 1), Value.int IntKind.u64 (lim n 2), Value.int IntKind.u64 (lim n 3), Value.int IntKind.u64 (lim n 4), Value.int IntKind.u64 (lim n 5), Value.int IntKind.u64 (lim n 6), Value.int IntKind.u64 (lim n 7), Value.int IntKind.u64 (lim n 8), Value.int IntKind.u64 (lim n 9), Value.int IntKind.u64 (lim n 10), Value.int IntKind.u64 (lim n 11), Value.int IntKind.u64 (lim n 12), Value.int IntKind.u64 (lim n 13), Value.int IntKind.u64 (lim n 14), Value.int IntKind.u64 (lim n 15), Value.int IntKind.u64 (lim n 16), Value.int IntKind.u64 (lim n 17), Value.int IntKind.u64 (lim n 18), Value.int IntKind.u64 (lim n 19)]] { n := 0, objs := [] } = some (Value.int IntKind.i64 (sgn m n), { n := 0, objs := [] }, []),
    Value.bool (decide (sgn m n < (0 : Int))) = Value.bool false,
    evLoop runQ clQ 1000 { ts := [Value.agg { toList := kpN true (lim m) }, Value.agg { toList := kpN false (lim n) }, Value.pointer (some { block := 0, off := 0 }), Value.pointer (some { block := 1, off := 0 }), Value.pointer (some { block := 2, off := 0 }), undef, Value.int IntKind.u64 0, Value.int IntKind.i64 0, undef, Value.pointer (some { block := 0, off := 0 }), Value.bool true, Value.pointer (some { block := 1, off := 0 }), Value.bool false, Value.bool false, undef, undef, undef, undef, undef, undef, undef, undef, undef, undef, undef, undef, undef, undef, undef, undef, undef, undef, undef, undef, undef, undef, undef, undef, undef, undef, undef, undef, undef, undef, undef, undef, undef, undef, undef, undef, undef, undef, undef, undef, Value.agg #[Value.bool true, Value.int IntKind.u64 (lim m 0), Value.int IntKind.u64 (lim m 1), Value.int IntKind.u64 (lim m 2), Value.int IntKind.u64 (lim m 3), Value.int IntKind.u64 (lim m 4), Value.int IntKind.u64 (lim m 5), Value.int IntKind.u64 (lim m 6), Value.int IntKind.u64 (lim m 7), Value.int IntKind.u64 (lim m 8), Value.int IntKind.u64 (lim m 9), Value.int IntKind.u64 (lim m 10), Value.int IntKind.u64 (lim m 11), Value.int IntKind.u64 (lim m 12), Value.int IntKind.u64 (lim m 13), Value.int IntKind.u64 (lim m 14), Value.int IntKind.u64 (lim m 15), Value.int IntKind.u64 (lim m 16), Value.int IntKind.u64 (lim m 17), Value.int IntKind.u64 (lim m 18), Value.int IntKind.u64 (lim m 19)], Value.agg #[Value.bool false, Value.int IntKind.u64 (lim n 0), Value.int IntKind.u64 (lim n 1), Value.int IntKind.u64 (lim n 2), Value.int IntKind.u64 (lim n 3), Value.int IntKind.u64 (lim n 4), Value.int IntKind.u64 (lim n 5), Value.int IntKind.u64 (lim n 6), Value.int IntKind.u64 (lim n 7), Value.int IntKind.u64 (lim n 8), Value.int IntKind.u64 (lim n 9), Value.int IntKind.u64 (lim n 10), Value.int IntKind.u64 (lim n 11), Value.int IntKind.u64 (lim n 12), Value.int IntKind.u64 (lim n 13), Value.int IntKind.u64 (lim n 14), Value.int IntKind.u64 (lim n 15), Value.int IntKind.u64 (lim n 16), Value.int IntKind.u64 (lim n 17), Value.int IntKind.u64 (lim n 18), Value.int IntKind.u64 (lim n 19)], Value.int IntKind.i64 (sgn m n), Value.bool false, undef, undef, undef, undef, undef, undef, undef, undef, undef, undef, undef, undef, undef, undef, undef, undef, undef, undef, undef, undef, undef, undef, undef, undef, undef, undef, undef], H := { n := 3, objs := [AObj.cells [Value.bool false, Value.int IntKind.u64 0, Value.int IntKind.u64 0, Value.int IntKind.u64 0, Value.int IntKind.u64 0, Value.int IntKind.u64 0, Value.int IntKind.u64 0, Value.int IntKind.u64 0, Value.int IntKind.u64 0, Value.int IntKind.u64 0, Value.int IntKind.u64 0, Value.int IntKind.u64 0, Value.int IntKind.u64 0, Value.int IntKind.u64 0, Value.int IntKind.u64 0, Value.int IntKind.u64 0, Value.int IntKind.u64 0, Value.int IntKind.u64 0, Value.int IntKind.u64 0, Value.int IntKind.u64 0, Value.int IntKind.u64 0] 30 0 1, AObj.cells [Value.bool false, Value.int IntKind.u64 (lim n 0), Value.int IntKind.u64 (lim n 1), Value.int IntKind.u64 (lim n 2), Value.int IntKind.u64 (lim n 3), Value.int IntKind.u64 (lim n 4), Value.int IntKind.u64 (lim n 5), Value.int IntKind.u64 (lim n 6), Value.int IntKind.u64 (lim n 7), Value.int IntKind.u64 (lim n 8), Value.int IntKind.u64 (lim n 9), Value.int IntKind.u64 (lim n 10), Value.int IntKind.u64 (lim n 11), Value.int IntKind.u64 (lim n 12), Value.int IntKind.u64 (lim n 13), Value.int IntKind.u64 (lim n 14), Value.int IntKind.u64 (lim n 15), Value.int IntKind.u64 (lim n 16), Value.int IntKind.u64 (lim n 17), Value.int IntKind.u64 (lim n 18), Value.int IntKind.u64 (lim n 19)] 30 0 1, AObj.cells [Value.bool true, Value.int IntKind.u64 (lim m 0), Value.int IntKind.u64 (lim m 1), Value.int IntKind.u64 (lim m 2), Value.int IntKind.u64 (lim m 3), Value.int IntKind.u64 (lim m 4), Value.int IntKind.u64 (lim m 5), Value.int IntKind.u64 (lim m 6), Value.int IntKind.u64 (lim m 7), Value.int IntKind.u64 (lim m 8), Value.int IntKind.u64 (lim m 9), Value.int IntKind.u64 (lim m 10), Value.int IntKind.u64 (lim m 11), Value.int IntKind.u64 (lim m 12), Value.int IntKind.u64 (lim m 13), Value.int IntKind.u64 (lim m 14), Value.int IntKind.u64 (lim m 15), Value.int IntKind.u64 (lim m 16), Value.int IntKind.u64 (lim m 17), Value.int IntKind.u64 (lim m 18), Value.int IntKind.u64 (lim m 19)] 30 0 1] }, log := [] } = some (Ex.exit 2, RQ true false m n true false r F (lim n))] (by kernel_rfl)
    ⟨Dg.evCall_told (size_told _ _ hm hn), Dg.vfalse (by unfold sgn; repeat' split <;> omega), hz _ (by kernel_rfl), trivial⟩
--> add_ge_t
--< add_lt_t
theorem add_lt_t (m : Nat) (n : Nat) (hm : m < B ^ 20) (hn : n < B ^ 20) (h : m < n) (F : Nat → Int) (r : Nat) (hz : ∀ (s0 : St), clQ s0 = SQ true false m n false true 0 (lim n) (lim m) 0 → evLoop runQ clQ 1000 s0 = some (Ex.exit 2, RQ true false m n false true r F (lim m))) :
    evCall Tryz.prog 0 (bodied Tryz.prog) ov1 sbs 1000 20 28 [num true m, num false n] { n := 0, objs := [] } = some (Value.agg #[Value.bool false, Value.int IntKind.u64 (F 0), Value.int IntKind.u64 (F 1), Value.int IntKind.u64 (F 2), Value.int IntKind.u64 (F 3), Value.int IntKind.u64 (F 4), Value.int IntKind.u64 (F 5), Value.int IntKind.u64 (F 6), Value.int IntKind.u64 (F 7), Value.int IntKind.u64 (F 8), Value.int IntKind.u64 (F 9), Value.int IntKind.u64 (F 10), Value.int IntKind.u64 (F 11), Value.int IntKind.u64 (F 12), Value.int IntKind.u64 (F 13), Value.int IntKind.u64 (F 14), Value.int IntKind.u64 (F 15), Value.int IntKind.u64 (F 16), Value.int IntKind.u64 (F 17), Value.int IntKind.u64 (F 18), Value.int IntKind.u64 (F 19)], { n := 0, objs := [] }, []) :=
  Dg.evCall_hint (hs' := []) (hs := [Hint.call 60 (Value.int IntKind.i64 (sgn m n)) { n := 0, objs := [] } [],
    Hint.val 28 57 (Value.bool true),
    Hint.loop 28 (Ex.exit 2) (RQ true false m n false true r F (lim m))])
    [evCall Tryz.prog 0 (bodied Tryz.prog) ov1 sbs 1000 19 60 [Value.agg #[Value.bool true, Value.int IntKind.u64 (lim m 0), Value.int IntKind.u64 (lim m 1), Value.int IntKind.u64 (lim m 2), Value.int IntKind.u64 (lim m 3), Value.int IntKind.u64 (lim m 4), Value.int IntKind.u64 (lim m 5), Value.int IntKind.u64 (lim m 6), Value.int IntKind.u64 (lim m 7), Value.int IntKind.u64 (lim m 8), Value.int IntKind.u64 (lim m 9), Value.int IntKind.u64 (lim m 10), Value.int IntKind.u64 (lim m 11), Value.int IntKind.u64 (lim m 12), Value.int IntKind.u64 (lim m 13), Value.int IntKind.u64 (lim m 14), Value.int IntKind.u64 (lim m 15), Value.int IntKind.u64 (lim m 16), Value.int IntKind.u64 (lim m 17), Value.int IntKind.u64 (lim m 18), Value.int IntKind.u64 (lim m 19)], Value.agg #[Value.bool false, Value.int IntKind.u64 (lim n 0), Value.int IntKind.u64 (lim n 1), Value.int IntKind.u64 (lim n 2), Value.int IntKind.u64 (lim n 3), Value.int IntKind.u64 (lim n 4), Value.int IntKind.u64 (lim n 5), Value.int IntKind.u64 (lim n 6), Value.int IntKind.u64 (lim n 7), Value.int IntKind.u64 (lim n 8), Value.int IntKind.u64 (lim n 9), Value.int IntKind.u64 (lim n 10), Value.int IntKind.u64 (lim n 11), Value.int IntKind.u64 (lim n 12), Value.int IntKind.u64 (lim n 13), Value.int IntKind.u64 (lim n 14), Value.int IntKind.u64 (lim n 15), Value.int IntKind.u64 (lim n 16), Value.int IntKind.u64 (lim n 17), Value.int IntKind.u64 (lim n 18), Value.int IntKind.u64 (lim n 19)]] { n := 0, objs := [] } = some (Value.int IntKind.i64 (sgn m n), { n := 0, objs := [] }, []),
    Value.bool (decide (sgn m n < (0 : Int))) = Value.bool true,
    evLoop runQ clQ 1000 { ts := [Value.agg { toList := kpN true (lim m) }, Value.agg { toList := kpN false (lim n) }, Value.pointer (some { block := 0, off := 0 }), Value.pointer (some { block := 1, off := 0 }), Value.pointer (some { block := 2, off := 0 }), undef, Value.int IntKind.u64 0, Value.int IntKind.i64 0, undef, Value.pointer (some { block := 0, off := 0 }), Value.bool true, Value.pointer (some { block := 1, off := 0 }), Value.bool false, Value.bool false, undef, undef, undef, undef, undef, undef, undef, undef, undef, undef, undef, undef, undef, undef, undef, undef, undef, undef, undef, undef, undef, undef, undef, undef, undef, undef, undef, undef, undef, undef, undef, undef, undef, undef, undef, undef, undef, undef, undef, undef, Value.agg #[Value.bool true, Value.int IntKind.u64 (lim m 0), Value.int IntKind.u64 (lim m 1), Value.int IntKind.u64 (lim m 2), Value.int IntKind.u64 (lim m 3), Value.int IntKind.u64 (lim m 4), Value.int IntKind.u64 (lim m 5), Value.int IntKind.u64 (lim m 6), Value.int IntKind.u64 (lim m 7), Value.int IntKind.u64 (lim m 8), Value.int IntKind.u64 (lim m 9), Value.int IntKind.u64 (lim m 10), Value.int IntKind.u64 (lim m 11), Value.int IntKind.u64 (lim m 12), Value.int IntKind.u64 (lim m 13), Value.int IntKind.u64 (lim m 14), Value.int IntKind.u64 (lim m 15), Value.int IntKind.u64 (lim m 16), Value.int IntKind.u64 (lim m 17), Value.int IntKind.u64 (lim m 18), Value.int IntKind.u64 (lim m 19)], Value.agg #[Value.bool false, Value.int IntKind.u64 (lim n 0), Value.int IntKind.u64 (lim n 1), Value.int IntKind.u64 (lim n 2), Value.int IntKind.u64 (lim n 3), Value.int IntKind.u64 (lim n 4), Value.int IntKind.u64 (lim n 5), Value.int IntKind.u64 (lim n 6), Value.int IntKind.u64 (lim n 7), Value.int IntKind.u64 (lim n 8), Value.int IntKind.u64 (lim n 9), Value.int IntKind.u64 (lim n 10), Value.int IntKind.u64 (lim n 11), Value.int IntKind.u64 (lim n 12), Value.int IntKind.u64 (lim n 13), Value.int IntKind.u64 (lim n 14), Value.int IntKind.u64 (lim n 15), Value.int IntKind.u64 (lim n 16), Value.int IntKind.u64 (lim n 17), Value.int IntKind.u64 (lim n 18), Value.int IntKind.u64 (lim n 19)], Value.int IntKind.i64 (sgn m n), Value.bool true, Value.agg #[Value.bool false, Value.int IntKind.u64 (lim n 0), Value.int IntKind.u64 (lim n 1), Value.int IntKind.u64 (lim n 2), Value.int IntKind.u64 (lim n 3), Value.int IntKind.u64 (lim n 4), Value.int IntKind.u64 (lim n 5), Value.int IntKind.u64 (lim n 6), Value.int IntKind.u64 (lim n 7), Value.int IntKind.u64 (lim n 8), Value.int IntKind.u64 (lim n 9), Value.int IntKind.u64 (lim n 10), Value.int IntKind.u64 (lim n 11), Value.int IntKind.u64 (lim n 12), Value.int IntKind.u64 (lim n 13), Value.int IntKind.u64 (lim n 14), Value.int IntKind.u64 (lim n 15), Value.int IntKind.u64 (lim n 16), Value.int IntKind.u64 (lim n 17), Value.int IntKind.u64 (lim n 18), Value.int IntKind.u64 (lim n 19)], Value.agg #[Value.bool true, Value.int IntKind.u64 (lim m 0), Value.int IntKind.u64 (lim m 1), Value.int IntKind.u64 (lim m 2), Value.int IntKind.u64 (lim m 3), Value.int IntKind.u64 (lim m 4), Value.int IntKind.u64 (lim m 5), Value.int IntKind.u64 (lim m 6), Value.int IntKind.u64 (lim m 7), Value.int IntKind.u64 (lim m 8), Value.int IntKind.u64 (lim m 9), Value.int IntKind.u64 (lim m 10), Value.int IntKind.u64 (lim m 11), Value.int IntKind.u64 (lim m 12), Value.int IntKind.u64 (lim m 13), Value.int IntKind.u64 (lim m 14), Value.int IntKind.u64 (lim m 15), Value.int IntKind.u64 (lim m 16), Value.int IntKind.u64 (lim m 17), Value.int IntKind.u64 (lim m 18), Value.int IntKind.u64 (lim m 19)], undef, undef, undef, undef, undef, undef, undef, undef, undef, undef, undef, undef, undef, undef, undef, undef, undef, undef, undef, undef, undef, undef, undef, undef, undef], H := { n := 3, objs := [AObj.cells [Value.bool false, Value.int IntKind.u64 0, Value.int IntKind.u64 0, Value.int IntKind.u64 0, Value.int IntKind.u64 0, Value.int IntKind.u64 0, Value.int IntKind.u64 0, Value.int IntKind.u64 0, Value.int IntKind.u64 0, Value.int IntKind.u64 0, Value.int IntKind.u64 0, Value.int IntKind.u64 0, Value.int IntKind.u64 0, Value.int IntKind.u64 0, Value.int IntKind.u64 0, Value.int IntKind.u64 0, Value.int IntKind.u64 0, Value.int IntKind.u64 0, Value.int IntKind.u64 0, Value.int IntKind.u64 0, Value.int IntKind.u64 0] 30 0 1, AObj.cells [Value.bool true, Value.int IntKind.u64 (lim m 0), Value.int IntKind.u64 (lim m 1), Value.int IntKind.u64 (lim m 2), Value.int IntKind.u64 (lim m 3), Value.int IntKind.u64 (lim m 4), Value.int IntKind.u64 (lim m 5), Value.int IntKind.u64 (lim m 6), Value.int IntKind.u64 (lim m 7), Value.int IntKind.u64 (lim m 8), Value.int IntKind.u64 (lim m 9), Value.int IntKind.u64 (lim m 10), Value.int IntKind.u64 (lim m 11), Value.int IntKind.u64 (lim m 12), Value.int IntKind.u64 (lim m 13), Value.int IntKind.u64 (lim m 14), Value.int IntKind.u64 (lim m 15), Value.int IntKind.u64 (lim m 16), Value.int IntKind.u64 (lim m 17), Value.int IntKind.u64 (lim m 18), Value.int IntKind.u64 (lim m 19)] 30 0 1, AObj.cells [Value.bool false, Value.int IntKind.u64 (lim n 0), Value.int IntKind.u64 (lim n 1), Value.int IntKind.u64 (lim n 2), Value.int IntKind.u64 (lim n 3), Value.int IntKind.u64 (lim n 4), Value.int IntKind.u64 (lim n 5), Value.int IntKind.u64 (lim n 6), Value.int IntKind.u64 (lim n 7), Value.int IntKind.u64 (lim n 8), Value.int IntKind.u64 (lim n 9), Value.int IntKind.u64 (lim n 10), Value.int IntKind.u64 (lim n 11), Value.int IntKind.u64 (lim n 12), Value.int IntKind.u64 (lim n 13), Value.int IntKind.u64 (lim n 14), Value.int IntKind.u64 (lim n 15), Value.int IntKind.u64 (lim n 16), Value.int IntKind.u64 (lim n 17), Value.int IntKind.u64 (lim n 18), Value.int IntKind.u64 (lim n 19)] 30 0 1] }, log := [] } = some (Ex.exit 2, RQ true false m n false true r F (lim m))] (by kernel_rfl)
    ⟨Dg.evCall_told (size_told _ _ hm hn), Dg.vtrue (by unfold sgn; repeat' split <;> omega), hz _ (by kernel_rfl), trivial⟩
--> add_lt_t
--< mul_ff
theorem mul_ff (m : Nat) (n : Nat) (F : Nat → Int) (hz : ∀ (s0 : St), clM lM [] s0 = SM false false false (lim m) (lim n) (fun x => 0) 0 → evLoop (runM lM []) (clM lM []) 1000 s0 = some (Ex.exit 0, RM false false false (lim m) (lim n) F)) :
    evCall Tryz.prog 0 (bodied Tryz.prog) ov1 sbs 1000 20 29 [num false m, num false n] { n := 0, objs := [] } = some (Value.agg #[Value.bool false, Value.int IntKind.u64 (F 0), Value.int IntKind.u64 (F 1), Value.int IntKind.u64 (F 2), Value.int IntKind.u64 (F 3), Value.int IntKind.u64 (F 4), Value.int IntKind.u64 (F 5), Value.int IntKind.u64 (F 6), Value.int IntKind.u64 (F 7), Value.int IntKind.u64 (F 8), Value.int IntKind.u64 (F 9), Value.int IntKind.u64 (F 10), Value.int IntKind.u64 (F 11), Value.int IntKind.u64 (F 12), Value.int IntKind.u64 (F 13), Value.int IntKind.u64 (F 14), Value.int IntKind.u64 (F 15), Value.int IntKind.u64 (F 16), Value.int IntKind.u64 (F 17), Value.int IntKind.u64 (F 18), Value.int IntKind.u64 (F 19)], { n := 0, objs := [] }, []) :=
  Dg.evCall_hint (hs' := []) (hs := [Hint.loop 29 (Ex.exit 0) (RM false false false (lim m) (lim n) F)])
    [evLoop (runM lM []) (clM lM []) 1000 { ts := [Value.agg { toList := kpN false (lim m) }, Value.agg { toList := kpN false (lim n) }, Value.pointer (some { block := 0, off := 0 }), Value.pointer (some { block := 1, off := 0 }), Value.pointer (some { block := 2, off := 0 }), Value.pointer (some { block := 3, off := 0 }), Value.int IntKind.i64 0, undef, undef, Value.pointer (some { block := 0, off := 0 }), Value.bool false, Value.pointer (some { block := 1, off := 0 }), Value.bool false, Value.bool false, Value.agg #[Value.bool false, Value.int IntKind.u64 0, Value.int IntKind.u64 0, Value.int IntKind.u64 0, Value.int IntKind.u64 0, Value.int IntKind.u64 0, Value.int IntKind.u64 0, Value.int IntKind.u64 0, Value.int IntKind.u64 0, Value.int IntKind.u64 0, Value.int IntKind.u64 0, Value.int IntKind.u64 0, Value.int IntKind.u64 0, Value.int IntKind.u64 0, Value.int IntKind.u64 0, Value.int IntKind.u64 0, Value.int IntKind.u64 0, Value.int IntKind.u64 0, Value.int IntKind.u64 0, Value.int IntKind.u64 0, Value.int IntKind.u64 0], undef, undef, undef, undef, undef, undef, undef, undef, undef, undef, undef, undef, undef, undef, undef, undef, undef, undef, undef, undef, undef, undef, undef, undef, undef, undef, undef, undef, undef, undef, undef, undef, undef, undef, undef, undef, undef, undef, undef, undef, undef, undef, undef, undef, undef, undef, undef, undef, undef, undef, undef, undef, undef, undef, undef, undef, undef, undef, undef], H := { n := 4, objs := [AObj.cells [Value.bool false, Value.int IntKind.u64 0, Value.int IntKind.u64 0, Value.int IntKind.u64 0, Value.int IntKind.u64 0, Value.int IntKind.u64 0, Value.int IntKind.u64 0, Value.int IntKind.u64 0, Value.int IntKind.u64 0, Value.int IntKind.u64 0, Value.int IntKind.u64 0, Value.int IntKind.u64 0, Value.int IntKind.u64 0, Value.int IntKind.u64 0, Value.int IntKind.u64 0, Value.int IntKind.u64 0, Value.int IntKind.u64 0, Value.int IntKind.u64 0, Value.int IntKind.u64 0, Value.int IntKind.u64 0, Value.int IntKind.u64 0] 30 0 1, AObj.cells [Value.bool false, Value.int IntKind.u64 0, Value.int IntKind.u64 0, Value.int IntKind.u64 0, Value.int IntKind.u64 0, Value.int IntKind.u64 0, Value.int IntKind.u64 0, Value.int IntKind.u64 0, Value.int IntKind.u64 0, Value.int IntKind.u64 0, Value.int IntKind.u64 0, Value.int IntKind.u64 0, Value.int IntKind.u64 0, Value.int IntKind.u64 0, Value.int IntKind.u64 0, Value.int IntKind.u64 0, Value.int IntKind.u64 0, Value.int IntKind.u64 0, Value.int IntKind.u64 0, Value.int IntKind.u64 0, Value.int IntKind.u64 0] 30 0 1, AObj.cells [Value.bool false, Value.int IntKind.u64 (lim n 0), Value.int IntKind.u64 (lim n 1), Value.int IntKind.u64 (lim n 2), Value.int IntKind.u64 (lim n 3), Value.int IntKind.u64 (lim n 4), Value.int IntKind.u64 (lim n 5), Value.int IntKind.u64 (lim n 6), Value.int IntKind.u64 (lim n 7), Value.int IntKind.u64 (lim n 8), Value.int IntKind.u64 (lim n 9), Value.int IntKind.u64 (lim n 10), Value.int IntKind.u64 (lim n 11), Value.int IntKind.u64 (lim n 12), Value.int IntKind.u64 (lim n 13), Value.int IntKind.u64 (lim n 14), Value.int IntKind.u64 (lim n 15), Value.int IntKind.u64 (lim n 16), Value.int IntKind.u64 (lim n 17), Value.int IntKind.u64 (lim n 18), Value.int IntKind.u64 (lim n 19)] 30 0 1, AObj.cells [Value.bool false, Value.int IntKind.u64 (lim m 0), Value.int IntKind.u64 (lim m 1), Value.int IntKind.u64 (lim m 2), Value.int IntKind.u64 (lim m 3), Value.int IntKind.u64 (lim m 4), Value.int IntKind.u64 (lim m 5), Value.int IntKind.u64 (lim m 6), Value.int IntKind.u64 (lim m 7), Value.int IntKind.u64 (lim m 8), Value.int IntKind.u64 (lim m 9), Value.int IntKind.u64 (lim m 10), Value.int IntKind.u64 (lim m 11), Value.int IntKind.u64 (lim m 12), Value.int IntKind.u64 (lim m 13), Value.int IntKind.u64 (lim m 14), Value.int IntKind.u64 (lim m 15), Value.int IntKind.u64 (lim m 16), Value.int IntKind.u64 (lim m 17), Value.int IntKind.u64 (lim m 18), Value.int IntKind.u64 (lim m 19)] 30 0 1] }, log := [] } = some (Ex.exit 0, RM false false false (lim m) (lim n) F)] (by kernel_rfl)
    ⟨hz _ (by kernel_rfl), trivial⟩
--> mul_ff
--< mul_ft
theorem mul_ft (m : Nat) (n : Nat) (F : Nat → Int) (hz : ∀ (s0 : St), clM lM [] s0 = SM true false true (lim m) (lim n) (fun x => 0) 0 → evLoop (runM lM []) (clM lM []) 1000 s0 = some (Ex.exit 0, RM true false true (lim m) (lim n) F)) :
    evCall Tryz.prog 0 (bodied Tryz.prog) ov1 sbs 1000 20 29 [num false m, num true n] { n := 0, objs := [] } = some (Value.agg #[Value.bool true, Value.int IntKind.u64 (F 0), Value.int IntKind.u64 (F 1), Value.int IntKind.u64 (F 2), Value.int IntKind.u64 (F 3), Value.int IntKind.u64 (F 4), Value.int IntKind.u64 (F 5), Value.int IntKind.u64 (F 6), Value.int IntKind.u64 (F 7), Value.int IntKind.u64 (F 8), Value.int IntKind.u64 (F 9), Value.int IntKind.u64 (F 10), Value.int IntKind.u64 (F 11), Value.int IntKind.u64 (F 12), Value.int IntKind.u64 (F 13), Value.int IntKind.u64 (F 14), Value.int IntKind.u64 (F 15), Value.int IntKind.u64 (F 16), Value.int IntKind.u64 (F 17), Value.int IntKind.u64 (F 18), Value.int IntKind.u64 (F 19)], { n := 0, objs := [] }, []) :=
  Dg.evCall_hint (hs' := []) (hs := [Hint.loop 29 (Ex.exit 0) (RM true false true (lim m) (lim n) F)])
    [evLoop (runM lM []) (clM lM []) 1000 { ts := [Value.agg { toList := kpN false (lim m) }, Value.agg { toList := kpN true (lim n) }, Value.pointer (some { block := 0, off := 0 }), Value.pointer (some { block := 1, off := 0 }), Value.pointer (some { block := 2, off := 0 }), Value.pointer (some { block := 3, off := 0 }), Value.int IntKind.i64 0, undef, undef, Value.pointer (some { block := 0, off := 0 }), Value.bool false, Value.pointer (some { block := 1, off := 0 }), Value.bool true, Value.bool true, Value.agg #[Value.bool true, Value.int IntKind.u64 0, Value.int IntKind.u64 0, Value.int IntKind.u64 0, Value.int IntKind.u64 0, Value.int IntKind.u64 0, Value.int IntKind.u64 0, Value.int IntKind.u64 0, Value.int IntKind.u64 0, Value.int IntKind.u64 0, Value.int IntKind.u64 0, Value.int IntKind.u64 0, Value.int IntKind.u64 0, Value.int IntKind.u64 0, Value.int IntKind.u64 0, Value.int IntKind.u64 0, Value.int IntKind.u64 0, Value.int IntKind.u64 0, Value.int IntKind.u64 0, Value.int IntKind.u64 0, Value.int IntKind.u64 0], undef, undef, undef, undef, undef, undef, undef, undef, undef, undef, undef, undef, undef, undef, undef, undef, undef, undef, undef, undef, undef, undef, undef, undef, undef, undef, undef, undef, undef, undef, undef, undef, undef, undef, undef, undef, undef, undef, undef, undef, undef, undef, undef, undef, undef, undef, undef, undef, undef, undef, undef, undef, undef, undef, undef, undef, undef, undef, undef], H := { n := 4, objs := [AObj.cells [Value.bool true, Value.int IntKind.u64 0, Value.int IntKind.u64 0, Value.int IntKind.u64 0, Value.int IntKind.u64 0, Value.int IntKind.u64 0, Value.int IntKind.u64 0, Value.int IntKind.u64 0, Value.int IntKind.u64 0, Value.int IntKind.u64 0, Value.int IntKind.u64 0, Value.int IntKind.u64 0, Value.int IntKind.u64 0, Value.int IntKind.u64 0, Value.int IntKind.u64 0, Value.int IntKind.u64 0, Value.int IntKind.u64 0, Value.int IntKind.u64 0, Value.int IntKind.u64 0, Value.int IntKind.u64 0, Value.int IntKind.u64 0] 30 0 1, AObj.cells [Value.bool false, Value.int IntKind.u64 0, Value.int IntKind.u64 0, Value.int IntKind.u64 0, Value.int IntKind.u64 0, Value.int IntKind.u64 0, Value.int IntKind.u64 0, Value.int IntKind.u64 0, Value.int IntKind.u64 0, Value.int IntKind.u64 0, Value.int IntKind.u64 0, Value.int IntKind.u64 0, Value.int IntKind.u64 0, Value.int IntKind.u64 0, Value.int IntKind.u64 0, Value.int IntKind.u64 0, Value.int IntKind.u64 0, Value.int IntKind.u64 0, Value.int IntKind.u64 0, Value.int IntKind.u64 0, Value.int IntKind.u64 0] 30 0 1, AObj.cells [Value.bool true, Value.int IntKind.u64 (lim n 0), Value.int IntKind.u64 (lim n 1), Value.int IntKind.u64 (lim n 2), Value.int IntKind.u64 (lim n 3), Value.int IntKind.u64 (lim n 4), Value.int IntKind.u64 (lim n 5), Value.int IntKind.u64 (lim n 6), Value.int IntKind.u64 (lim n 7), Value.int IntKind.u64 (lim n 8), Value.int IntKind.u64 (lim n 9), Value.int IntKind.u64 (lim n 10), Value.int IntKind.u64 (lim n 11), Value.int IntKind.u64 (lim n 12), Value.int IntKind.u64 (lim n 13), Value.int IntKind.u64 (lim n 14), Value.int IntKind.u64 (lim n 15), Value.int IntKind.u64 (lim n 16), Value.int IntKind.u64 (lim n 17), Value.int IntKind.u64 (lim n 18), Value.int IntKind.u64 (lim n 19)] 30 0 1, AObj.cells [Value.bool false, Value.int IntKind.u64 (lim m 0), Value.int IntKind.u64 (lim m 1), Value.int IntKind.u64 (lim m 2), Value.int IntKind.u64 (lim m 3), Value.int IntKind.u64 (lim m 4), Value.int IntKind.u64 (lim m 5), Value.int IntKind.u64 (lim m 6), Value.int IntKind.u64 (lim m 7), Value.int IntKind.u64 (lim m 8), Value.int IntKind.u64 (lim m 9), Value.int IntKind.u64 (lim m 10), Value.int IntKind.u64 (lim m 11), Value.int IntKind.u64 (lim m 12), Value.int IntKind.u64 (lim m 13), Value.int IntKind.u64 (lim m 14), Value.int IntKind.u64 (lim m 15), Value.int IntKind.u64 (lim m 16), Value.int IntKind.u64 (lim m 17), Value.int IntKind.u64 (lim m 18), Value.int IntKind.u64 (lim m 19)] 30 0 1] }, log := [] } = some (Ex.exit 0, RM true false true (lim m) (lim n) F)] (by kernel_rfl)
    ⟨hz _ (by kernel_rfl), trivial⟩
--> mul_ft
--< mul_tf
theorem mul_tf (m : Nat) (n : Nat) (F : Nat → Int) (hz : ∀ (s0 : St), clM lM [] s0 = SM true true false (lim m) (lim n) (fun x => 0) 0 → evLoop (runM lM []) (clM lM []) 1000 s0 = some (Ex.exit 0, RM true true false (lim m) (lim n) F)) :
    evCall Tryz.prog 0 (bodied Tryz.prog) ov1 sbs 1000 20 29 [num true m, num false n] { n := 0, objs := [] } = some (Value.agg #[Value.bool true, Value.int IntKind.u64 (F 0), Value.int IntKind.u64 (F 1), Value.int IntKind.u64 (F 2), Value.int IntKind.u64 (F 3), Value.int IntKind.u64 (F 4), Value.int IntKind.u64 (F 5), Value.int IntKind.u64 (F 6), Value.int IntKind.u64 (F 7), Value.int IntKind.u64 (F 8), Value.int IntKind.u64 (F 9), Value.int IntKind.u64 (F 10), Value.int IntKind.u64 (F 11), Value.int IntKind.u64 (F 12), Value.int IntKind.u64 (F 13), Value.int IntKind.u64 (F 14), Value.int IntKind.u64 (F 15), Value.int IntKind.u64 (F 16), Value.int IntKind.u64 (F 17), Value.int IntKind.u64 (F 18), Value.int IntKind.u64 (F 19)], { n := 0, objs := [] }, []) :=
  Dg.evCall_hint (hs' := []) (hs := [Hint.loop 29 (Ex.exit 0) (RM true true false (lim m) (lim n) F)])
    [evLoop (runM lM []) (clM lM []) 1000 { ts := [Value.agg { toList := kpN true (lim m) }, Value.agg { toList := kpN false (lim n) }, Value.pointer (some { block := 0, off := 0 }), Value.pointer (some { block := 1, off := 0 }), Value.pointer (some { block := 2, off := 0 }), Value.pointer (some { block := 3, off := 0 }), Value.int IntKind.i64 0, undef, undef, Value.pointer (some { block := 0, off := 0 }), Value.bool true, Value.pointer (some { block := 1, off := 0 }), Value.bool false, Value.bool true, Value.agg #[Value.bool true, Value.int IntKind.u64 0, Value.int IntKind.u64 0, Value.int IntKind.u64 0, Value.int IntKind.u64 0, Value.int IntKind.u64 0, Value.int IntKind.u64 0, Value.int IntKind.u64 0, Value.int IntKind.u64 0, Value.int IntKind.u64 0, Value.int IntKind.u64 0, Value.int IntKind.u64 0, Value.int IntKind.u64 0, Value.int IntKind.u64 0, Value.int IntKind.u64 0, Value.int IntKind.u64 0, Value.int IntKind.u64 0, Value.int IntKind.u64 0, Value.int IntKind.u64 0, Value.int IntKind.u64 0, Value.int IntKind.u64 0], undef, undef, undef, undef, undef, undef, undef, undef, undef, undef, undef, undef, undef, undef, undef, undef, undef, undef, undef, undef, undef, undef, undef, undef, undef, undef, undef, undef, undef, undef, undef, undef, undef, undef, undef, undef, undef, undef, undef, undef, undef, undef, undef, undef, undef, undef, undef, undef, undef, undef, undef, undef, undef, undef, undef, undef, undef, undef, undef], H := { n := 4, objs := [AObj.cells [Value.bool true, Value.int IntKind.u64 0, Value.int IntKind.u64 0, Value.int IntKind.u64 0, Value.int IntKind.u64 0, Value.int IntKind.u64 0, Value.int IntKind.u64 0, Value.int IntKind.u64 0, Value.int IntKind.u64 0, Value.int IntKind.u64 0, Value.int IntKind.u64 0, Value.int IntKind.u64 0, Value.int IntKind.u64 0, Value.int IntKind.u64 0, Value.int IntKind.u64 0, Value.int IntKind.u64 0, Value.int IntKind.u64 0, Value.int IntKind.u64 0, Value.int IntKind.u64 0, Value.int IntKind.u64 0, Value.int IntKind.u64 0] 30 0 1, AObj.cells [Value.bool false, Value.int IntKind.u64 0, Value.int IntKind.u64 0, Value.int IntKind.u64 0, Value.int IntKind.u64 0, Value.int IntKind.u64 0, Value.int IntKind.u64 0, Value.int IntKind.u64 0, Value.int IntKind.u64 0, Value.int IntKind.u64 0, Value.int IntKind.u64 0, Value.int IntKind.u64 0, Value.int IntKind.u64 0, Value.int IntKind.u64 0, Value.int IntKind.u64 0, Value.int IntKind.u64 0, Value.int IntKind.u64 0, Value.int IntKind.u64 0, Value.int IntKind.u64 0, Value.int IntKind.u64 0, Value.int IntKind.u64 0] 30 0 1, AObj.cells [Value.bool false, Value.int IntKind.u64 (lim n 0), Value.int IntKind.u64 (lim n 1), Value.int IntKind.u64 (lim n 2), Value.int IntKind.u64 (lim n 3), Value.int IntKind.u64 (lim n 4), Value.int IntKind.u64 (lim n 5), Value.int IntKind.u64 (lim n 6), Value.int IntKind.u64 (lim n 7), Value.int IntKind.u64 (lim n 8), Value.int IntKind.u64 (lim n 9), Value.int IntKind.u64 (lim n 10), Value.int IntKind.u64 (lim n 11), Value.int IntKind.u64 (lim n 12), Value.int IntKind.u64 (lim n 13), Value.int IntKind.u64 (lim n 14), Value.int IntKind.u64 (lim n 15), Value.int IntKind.u64 (lim n 16), Value.int IntKind.u64 (lim n 17), Value.int IntKind.u64 (lim n 18), Value.int IntKind.u64 (lim n 19)] 30 0 1, AObj.cells [Value.bool true, Value.int IntKind.u64 (lim m 0), Value.int IntKind.u64 (lim m 1), Value.int IntKind.u64 (lim m 2), Value.int IntKind.u64 (lim m 3), Value.int IntKind.u64 (lim m 4), Value.int IntKind.u64 (lim m 5), Value.int IntKind.u64 (lim m 6), Value.int IntKind.u64 (lim m 7), Value.int IntKind.u64 (lim m 8), Value.int IntKind.u64 (lim m 9), Value.int IntKind.u64 (lim m 10), Value.int IntKind.u64 (lim m 11), Value.int IntKind.u64 (lim m 12), Value.int IntKind.u64 (lim m 13), Value.int IntKind.u64 (lim m 14), Value.int IntKind.u64 (lim m 15), Value.int IntKind.u64 (lim m 16), Value.int IntKind.u64 (lim m 17), Value.int IntKind.u64 (lim m 18), Value.int IntKind.u64 (lim m 19)] 30 0 1] }, log := [] } = some (Ex.exit 0, RM true true false (lim m) (lim n) F)] (by kernel_rfl)
    ⟨hz _ (by kernel_rfl), trivial⟩
--> mul_tf
--< mul_tt
theorem mul_tt (m : Nat) (n : Nat) (F : Nat → Int) (hz : ∀ (s0 : St), clM lM [] s0 = SM false true true (lim m) (lim n) (fun x => 0) 0 → evLoop (runM lM []) (clM lM []) 1000 s0 = some (Ex.exit 0, RM false true true (lim m) (lim n) F)) :
    evCall Tryz.prog 0 (bodied Tryz.prog) ov1 sbs 1000 20 29 [num true m, num true n] { n := 0, objs := [] } = some (Value.agg #[Value.bool false, Value.int IntKind.u64 (F 0), Value.int IntKind.u64 (F 1), Value.int IntKind.u64 (F 2), Value.int IntKind.u64 (F 3), Value.int IntKind.u64 (F 4), Value.int IntKind.u64 (F 5), Value.int IntKind.u64 (F 6), Value.int IntKind.u64 (F 7), Value.int IntKind.u64 (F 8), Value.int IntKind.u64 (F 9), Value.int IntKind.u64 (F 10), Value.int IntKind.u64 (F 11), Value.int IntKind.u64 (F 12), Value.int IntKind.u64 (F 13), Value.int IntKind.u64 (F 14), Value.int IntKind.u64 (F 15), Value.int IntKind.u64 (F 16), Value.int IntKind.u64 (F 17), Value.int IntKind.u64 (F 18), Value.int IntKind.u64 (F 19)], { n := 0, objs := [] }, []) :=
  Dg.evCall_hint (hs' := []) (hs := [Hint.loop 29 (Ex.exit 0) (RM false true true (lim m) (lim n) F)])
    [evLoop (runM lM []) (clM lM []) 1000 { ts := [Value.agg { toList := kpN true (lim m) }, Value.agg { toList := kpN true (lim n) }, Value.pointer (some { block := 0, off := 0 }), Value.pointer (some { block := 1, off := 0 }), Value.pointer (some { block := 2, off := 0 }), Value.pointer (some { block := 3, off := 0 }), Value.int IntKind.i64 0, undef, undef, Value.pointer (some { block := 0, off := 0 }), Value.bool true, Value.pointer (some { block := 1, off := 0 }), Value.bool true, Value.bool false, Value.agg #[Value.bool false, Value.int IntKind.u64 0, Value.int IntKind.u64 0, Value.int IntKind.u64 0, Value.int IntKind.u64 0, Value.int IntKind.u64 0, Value.int IntKind.u64 0, Value.int IntKind.u64 0, Value.int IntKind.u64 0, Value.int IntKind.u64 0, Value.int IntKind.u64 0, Value.int IntKind.u64 0, Value.int IntKind.u64 0, Value.int IntKind.u64 0, Value.int IntKind.u64 0, Value.int IntKind.u64 0, Value.int IntKind.u64 0, Value.int IntKind.u64 0, Value.int IntKind.u64 0, Value.int IntKind.u64 0, Value.int IntKind.u64 0], undef, undef, undef, undef, undef, undef, undef, undef, undef, undef, undef, undef, undef, undef, undef, undef, undef, undef, undef, undef, undef, undef, undef, undef, undef, undef, undef, undef, undef, undef, undef, undef, undef, undef, undef, undef, undef, undef, undef, undef, undef, undef, undef, undef, undef, undef, undef, undef, undef, undef, undef, undef, undef, undef, undef, undef, undef, undef, undef], H := { n := 4, objs := [AObj.cells [Value.bool false, Value.int IntKind.u64 0, Value.int IntKind.u64 0, Value.int IntKind.u64 0, Value.int IntKind.u64 0, Value.int IntKind.u64 0, Value.int IntKind.u64 0, Value.int IntKind.u64 0, Value.int IntKind.u64 0, Value.int IntKind.u64 0, Value.int IntKind.u64 0, Value.int IntKind.u64 0, Value.int IntKind.u64 0, Value.int IntKind.u64 0, Value.int IntKind.u64 0, Value.int IntKind.u64 0, Value.int IntKind.u64 0, Value.int IntKind.u64 0, Value.int IntKind.u64 0, Value.int IntKind.u64 0, Value.int IntKind.u64 0] 30 0 1, AObj.cells [Value.bool false, Value.int IntKind.u64 0, Value.int IntKind.u64 0, Value.int IntKind.u64 0, Value.int IntKind.u64 0, Value.int IntKind.u64 0, Value.int IntKind.u64 0, Value.int IntKind.u64 0, Value.int IntKind.u64 0, Value.int IntKind.u64 0, Value.int IntKind.u64 0, Value.int IntKind.u64 0, Value.int IntKind.u64 0, Value.int IntKind.u64 0, Value.int IntKind.u64 0, Value.int IntKind.u64 0, Value.int IntKind.u64 0, Value.int IntKind.u64 0, Value.int IntKind.u64 0, Value.int IntKind.u64 0, Value.int IntKind.u64 0] 30 0 1, AObj.cells [Value.bool true, Value.int IntKind.u64 (lim n 0), Value.int IntKind.u64 (lim n 1), Value.int IntKind.u64 (lim n 2), Value.int IntKind.u64 (lim n 3), Value.int IntKind.u64 (lim n 4), Value.int IntKind.u64 (lim n 5), Value.int IntKind.u64 (lim n 6), Value.int IntKind.u64 (lim n 7), Value.int IntKind.u64 (lim n 8), Value.int IntKind.u64 (lim n 9), Value.int IntKind.u64 (lim n 10), Value.int IntKind.u64 (lim n 11), Value.int IntKind.u64 (lim n 12), Value.int IntKind.u64 (lim n 13), Value.int IntKind.u64 (lim n 14), Value.int IntKind.u64 (lim n 15), Value.int IntKind.u64 (lim n 16), Value.int IntKind.u64 (lim n 17), Value.int IntKind.u64 (lim n 18), Value.int IntKind.u64 (lim n 19)] 30 0 1, AObj.cells [Value.bool true, Value.int IntKind.u64 (lim m 0), Value.int IntKind.u64 (lim m 1), Value.int IntKind.u64 (lim m 2), Value.int IntKind.u64 (lim m 3), Value.int IntKind.u64 (lim m 4), Value.int IntKind.u64 (lim m 5), Value.int IntKind.u64 (lim m 6), Value.int IntKind.u64 (lim m 7), Value.int IntKind.u64 (lim m 8), Value.int IntKind.u64 (lim m 9), Value.int IntKind.u64 (lim m 10), Value.int IntKind.u64 (lim m 11), Value.int IntKind.u64 (lim m 12), Value.int IntKind.u64 (lim m 13), Value.int IntKind.u64 (lim m 14), Value.int IntKind.u64 (lim m 15), Value.int IntKind.u64 (lim m 16), Value.int IntKind.u64 (lim m 17), Value.int IntKind.u64 (lim m 18), Value.int IntKind.u64 (lim m 19)] 30 0 1] }, log := [] } = some (Ex.exit 0, RM false true true (lim m) (lim n) F)] (by kernel_rfl)
    ⟨hz _ (by kernel_rfl), trivial⟩
--> mul_tt
end Go.Proofs.YtflgpkkbifkpoaaGreatDoor.num

namespace Go.Proofs.YtflgpkkbifkpoaaGreatDoor.num
open Go.Dg (junk St Ex Ev Hint evCall evLoop bodied noOver Flats flatOver Heap AObj lay noO)
set_option linter.unusedVariables false

/-- The functions of the second layer. -/
def L2 : List FuncId := [35, 28, 29]
noncomputable def o2 : FuncId → List Value → Option Value := lay Tryz.prog (bodied Tryz.prog) ov1 sbs 1000 20 L2 o1
noncomputable abbrev ov2 : Ev := flatOver o2
theorem o2_flats : ∀ f args v, o2 f args = some v → Flats Tryz.prog f args v := Dg.lay_flats mixed okB (Dg.flatOver_ok o1_flats) (by kernel_rfl) o1_flats
theorem under2 {f : FuncId} {args : List Value} {v : Value} (h : o1 f args = some v) (hf : L2.contains f = false := by rfl) : o2 f args = some v := Dg.lay_under hf h

/-! ### Sums -/
theorem loopP (b c : Bool) {m n : Nat} (hm : m < B ^ 19) (hn : n < B ^ 19) (h : m + n < B ^ 19) {s0 : St} (h0 : clP s0 = SP b c m n 0) : evLoop runP clP 1000 s0 = some (.exit 0, RP b c m n (lim (m + n))) := by
  have e : evLoop runP clP 1000 s0 = some (.exit 0, RP b c m n (limN (adP m n 19))) := (Dg.loop_run (S := SP b c m n) (n := 19) (by simp) (fun j hj => pr b c m n j (pow19 hm) (pow19 hn) hj) (pe b c m n) (by omega) h0).trans (by kernel_rfl)
  rw [e]
  unfold RP
  rw [oN_congr (limN_congr (adP_end (pow19 hm) hn (pow19 h)))]
  rfl
theorem add_same (b : Bool) {m n : Nat} (hm : m < B ^ 19) (hn : n < B ^ 19) (h : m + n < B ^ 19) : o2 28 [num b m, num b n] = some (num b (m + n)) :=
  Dg.lay_told rfl (add_eq b m n (lim (m + n)) fun s0 h0 => loopP b b hm hn h h0) (flat2 _ _ _ _) (num_flat b (m + n))
theorem loopQ (b0 c0 : Bool) (m n : Nat) (b c : Bool) {M N : Nat} (h : N ≤ M) {s0 : St} (h0 : clQ s0 = SQ b0 c0 m n b c 0 (lim M) (lim N) 0) : evLoop runQ clQ 1000 s0 = some (.exit 2, RQ b0 c0 m n b c (bor M N 20) (lim (M - N)) (lim N)) := by
  have h1 : clQ s0 = SQ b0 c0 m n b c (bor M N 0) (limN (sbP M N 0)) (lim N) 0 := by
    rw [h0, bor_zero, sbP_start]
    rfl
  have e : evLoop runQ clQ 1000 s0 = some (.exit 2, RQ b0 c0 m n b c (bor M N 20) (limN (sbP M N 20)) (lim N)) :=
    (Dg.loop_run (S := fun i => SQ b0 c0 m n b c (bor M N i) (limN (sbP M N i)) (lim N) i) (n := 20) (by simp) (fun i hi => by
      have l1 : limb M i < 65536 := limb_lt M i
      have l2 : limb N i < 65536 := limb_lt N i
      have l3 := bor_le M N i
      have l4 := bor_succ M N i
      refine qr b0 c0 m n b c (limN (sbP M N i)) (lim N) (limN (sbP M N (i + 1))) i (limb M i) (limb N i) (bor M N (i + 1)) (limb M i + 65536 - limb N i) (bor M N i) (sbx M N i / 65536) (limb M i + 65536) (sbx M N i) (limb (M - N) i) hi (sb_at M N i) rfl l1 l2 l3 rfl (by omega) (by unfold sbx; omega) (sub_limb h i) rfl ?_ (sb_is M N i)
      have := sbx_lt M N i
      unfold sbx at this ⊢
      omega) (qe b0 c0 m n b c _ (lim N) _) (by omega) h1).trans (by kernel_rfl)
  rw [e]
  unfold RQ
  rw [oN_congr (limN_congr (sbP_end M N))]
  rfl
theorem add_ge (b : Bool) {m n : Nat} (hm : m < B ^ 20) (hn : n < B ^ 20) (h : n ≤ m) : o2 28 [num b m, num (!b) n] = some (num b (m - n)) := by
  cases b with
  | false => exact Dg.lay_told rfl (add_ge_f m n hm hn h (lim (m - n)) _ fun s0 h0 => loopQ false true m n false true h h0) (flat2 _ _ _ _) (num_flat _ (m - n))
  | true => exact Dg.lay_told rfl (add_ge_t m n hm hn h (lim (m - n)) _ fun s0 h0 => loopQ true false m n true false h h0) (flat2 _ _ _ _) (num_flat _ (m - n))
theorem add_lt (b : Bool) {m n : Nat} (hm : m < B ^ 20) (hn : n < B ^ 20) (h : m < n) : o2 28 [num b m, num (!b) n] = some (num (!b) (n - m)) := by
  cases b with
  | false => exact Dg.lay_told rfl (add_lt_f m n hm hn h (lim (n - m)) _ fun s0 h0 => loopQ false true m n true false (Nat.le_of_lt h) h0) (flat2 _ _ _ _) (num_flat _ (n - m))
  | true => exact Dg.lay_told rfl (add_lt_t m n hm hn h (lim (n - m)) _ fun s0 h0 => loopQ true false m n false true (Nat.le_of_lt h) h0) (flat2 _ _ _ _) (num_flat _ (n - m))

/-! ### Products -/
theorem loopM (s b c : Bool) {m n : Nat} (hm : m < B ^ 20) (h : m * n < B ^ 19) {s0 : St} (h0 : clM lM [] s0 = SM s b c (lim m) (lim n) (fun _ => 0) 0) : evLoop (runM lM []) (clM lM []) 1000 s0 = some (.exit 0, RM s b c (lim m) (lim n) (lim (m * n))) := by
  have e0 : limN (mulJ m n 0 0) = fun _ => 0 := by
    funext t
    simp [limN, mulJ_start, Nat.mod_one, limb_zero]
  have h1 : clM lM [] s0 = SM s b c (lim m) (lim n) (limN (mulJ m n 0 0)) 0 := by rw [h0, e0]
  have e : evLoop (runM lM []) (clM lM []) 1000 s0 = some (.exit 0, RM s b c (lim m) (lim n) (limN (mulJ m n 20 0))) :=
    (Dg.loop_run (S := fun i => SM s b c (lim m) (lim n) (limN (mulJ m n i 0)) i) (n := 20) (by simp) (fun i hi =>
      mr s b c (lim m) (lim n) (limN (mulJ m n i 0)) (limN (crP (mulF m n i) 0)) (limN (mulJ m n (i + 1) 0)) i hi (fun s0 h0 => loopJ s b c m n i hi h0) (fun s0 h0 => loopK s b c m n i hi h h0)) (me s b c (lim m) (lim n) _) (by omega) h1).trans (by kernel_rfl)
  rw [e]
  unfold RM HM
  have e2 : limN (mulJ m n 20 0) = lim (m * n) := by rw [mulJ_start, Nat.mod_eq_of_lt hm]; rfl
  rw [e2]
theorem mul_told (b c : Bool) {m n : Nat} (hm : m < B ^ 20) (h : m * n < B ^ 19) : o2 29 [num b m, num c n] = some (num (b != c) (m * n)) := by
  cases b <;> cases c
  · exact Dg.lay_told rfl (mul_ff m n (lim (m * n)) fun s0 h0 => loopM _ _ _ hm h h0) (flat2 _ _ _ _) (num_flat false (m * n))
  · exact Dg.lay_told rfl (mul_ft m n (lim (m * n)) fun s0 h0 => loopM _ _ _ hm h h0) (flat2 _ _ _ _) (num_flat true (m * n))
  · exact Dg.lay_told rfl (mul_tf m n (lim (m * n)) fun s0 h0 => loopM _ _ _ hm h h0) (flat2 _ _ _ _) (num_flat true (m * n))
  · exact Dg.lay_told rfl (mul_tt m n (lim (m * n)) fun s0 h0 => loopM _ _ _ hm h h0) (flat2 _ _ _ _) (num_flat false (m * n))

/-! ### Comparisons -/
/-- What a number stands for. -/
def sval (b : Bool) (m : Nat) : Int := if b then -(m : Int) else (m : Int)
def scmp (x y : Int) : Int := if x < y then -1 else if y < x then 1 else 0
theorem cmp_told (b c : Bool) {m n : Nat} (hm : m < B ^ 20) (hn : n < B ^ 20) : o2 35 [num b m, num c n] = some (.int .i64 (scmp (sval b m) (sval c n))) := by
  have one : ∀ {v : Int}, evCall Tryz.prog 0 (bodied Tryz.prog) ov1 sbs 1000 20 35 [num b m, num c n] ⟨0, []⟩ = some (.int .i64 v, ⟨0, []⟩, []) → v = scmp (sval b m) (sval c n) → o2 35 [num b m, num c n] = some (.int .i64 (scmp (sval b m) (sval c n))) := by
    intro v h e
    rw [← e]
    exact Dg.lay_told rfl h (flat2 _ _ _ _) rfl
  have sg : ∀ x y : Nat, sgn x y = scmp (x : Int) (y : Int) := fun x y => by
    unfold sgn scmp
    repeat' split
    all_goals omega
  cases b <;> cases c
  · exact one (cmp_pp m n hm hn) (by simp [sval, sg])
  · rcases Nat.eq_zero_or_pos n with h | h
    · exact one (cmp_p0 m n hm hn h) (by simp [sval, sg, h])
    · exact one (cmp_pm m n hm hn h) (by simp only [sval, scmp]; repeat' split <;> simp_all <;> omega)
  · rcases Nat.eq_zero_or_pos m with h | h
    · exact one (cmp_0p m n hm hn h) (by simp [sval, sg, h])
    · exact one (cmp_mp m n hm hn h) (by simp only [sval, scmp]; repeat' split <;> simp_all <;> omega)
  · rcases Nat.eq_zero_or_pos m with h | h <;> rcases Nat.eq_zero_or_pos n with k | k
    · exact one (cmp_00 m n hm hn h k) (by simp [sval, sg, h, k])
    · exact one (cmp_0m m n hm hn h k) (by simp only [sval, scmp]; repeat' split <;> simp_all <;> omega)
    · exact one (cmp_m0 m n hm hn h k) (by simp only [sval, scmp]; repeat' split <;> simp_all <;> omega)
    · exact one (cmp_mm m n hm hn h k) (by rw [sg]; simp only [sval, scmp]; repeat' split <;> simp_all <;> omega)
end Go.Proofs.YtflgpkkbifkpoaaGreatDoor.num

namespace Go.Proofs.YtflgpkkbifkpoaaGreatDoor.num
open Go.Dg (junk St Ex Ev Hint evCall evCallS evCode evCodeK innerKp evCodeS evLoop cleanSt ue bodied noOver sbOf headOf tailOf bodyOf rAssign rBody lBody Flats flatOver Heap AObj SCall Law ofLaw Fix)
set_option linter.unusedVariables false
set_option linter.unusedSimpArgs false

/-- A text of bytes. -/
def txt (zs : List Int) : ByteArray := ⟨(zs.map fun n => UInt8.ofNat n.toNat).toArray⟩
theorem txt_app (a b : List Int) : txt a ++ txt b = txt (a ++ b) := by
  apply ByteArray.ext
  simp [txt, ByteArray.data_append]
theorem txt_size (zs : List Int) : (txt zs).size = zs.length := by simp [txt, ByteArray.size]
theorem txt_list (zs : List Int) : (txt zs).toList = zs.map fun n => UInt8.ofNat n.toNat := by rw [ByteArray.toList_eq]; simp [txt]
theorem siz_one {z : Int} {zs : List Int} (h : zs.length ≤ 1000) : (txt [z]).size + (txt zs).size ≤ 9223372036854775807 := by
  rw [txt_size, txt_size]
  simp only [List.length_cons, List.length_nil]
  omega
theorem str_emp {zs : List Int} (h : zs = []) : Value.bool (ByteArray.toList (txt zs) == ByteArray.toList { data := #[] }) = .bool true := by subst h; rw [txt_list, ByteArray.toList_eq]; rfl
theorem str_nem {zs : List Int} (h : zs ≠ []) : Value.bool (ByteArray.toList (txt zs) == ByteArray.toList { data := #[] }) = .bool false := by
  rw [txt_list, ByteArray.toList_eq]
  cases zs with
  | nil => exact absurd rfl h
  | cons z r => rfl
theorem str_one (z : Int) : Dg.strOf [Value.int .u8 z] 0 1 = some (txt [z]) := Dg.strOf_ints [z] 0 1 (by simp)
theorem cat_one (z : Int) (zs : List Int) : Value.string (txt [z] ++ txt zs) = .string (txt (z :: zs)) := by rw [txt_app]; rfl
/-- The pieces amid a division by ten. -/
def dvK (m k : Nat) : Nat → Nat := fun t => if k ≤ t then limb (m / 10) t else limb m t
theorem dvK_start (m : Nat) : ∀ t, t < 20 → dvK m 20 t = limb m t := fun t ht => by unfold dvK; rw [if_neg (by omega)]
theorem dvK_end (m : Nat) : ∀ t, t < 20 → dvK m 0 t = limb (m / 10) t := fun t ht => by unfold dvK; rw [if_pos (by omega)]
theorem dv_at (m i : Nat) : limN (dvK m (i + 1)) i = ((limb m i : Nat) : Int) := by
  have : ¬ i + 1 ≤ i := by omega
  simp [limN, dvK, this]
theorem dv_is (m i : Nat) : ∀ s, s < 20 → limN (dvK m i) s = if s = i then ((limb (m / 10) i : Nat) : Int) else limN (dvK m (i + 1)) s := limN_if fun s _ => by
  unfold dvK
  by_cases h : s = i
  · subst h; rw [if_pos (Nat.le_refl _), if_pos rfl]
  · rw [if_neg h]
    by_cases h1 : i ≤ s
    · rw [if_pos h1, if_pos (by omega)]
    · rw [if_neg h1, if_neg (by omega)]
def dvx (m i : Nat) : Nat := 65536 * (m / B ^ (i + 1) % 10) + limb m i
theorem dvx_lt (m i : Nat) : dvx m i < 655360 := by
  have : limb m i < 65536 := limb_lt m i
  unfold dvx
  omega
theorem dvx_eq (m i : Nat) : dvx m i = B * (m / B ^ i / B % 10) + m / B ^ i % B := by
  unfold dvx
  rw [Nat.pow_succ, Nat.div_div_eq_div_mul]
  rfl
theorem tmv10 {x d : Nat} (h : d = x % 10) : Value.int .u64 (Int.tmod (x : Int) 10) = .int .u64 (d : Int) := by
  rw [h, Int.tmod_eq_emod_of_nonneg (by omega)]; rfl
theorem tdv10 {x d : Nat} (h : d = x / 10) (hx : x < 18446744073709551616) : Value.int .u64 (IntKind.wrap .u64 (Int.tdiv (x : Int) 10)) = .int .u64 (d : Int) := by
  rw [h, Int.tdiv_eq_ediv_of_nonneg (by omega), Dg.w_u64]
  congr 1
  omega
theorem u8_nat {x : Int} {a : Nat} (h : x = (a : Int)) (hb : a < 256) : Value.int .u8 (IntKind.wrap .u8 x) = .int .u8 (a : Int) := by
  rw [h, Dg.w_u8]; congr 1; omega
theorem dv_q (m i : Nat) : limb (m / 10) i = dvx m i / 10 := by rw [limb_div, ← ten_div, ← dvx_eq]
theorem dv_r (m i : Nat) : m / B ^ i % 10 = dvx m i % 10 := by rw [← ten_mod, ← dvx_eq]
noncomputable def lN : Code := lBody ((Tryz.f7.body).getD .skip)
noncomputable def lD : Code := lBody lN
noncomputable def kN : List Nat := innerKp lN []
noncomputable abbrev runN (d : Nat) (l : Code) (kp : List Nat) : St → Option (Ex × St) := evCodeK Tryz.prog 0 (bodied Tryz.prog) (evCall Tryz.prog 0 (bodied Tryz.prog) ov2 sbs 1000 d) 0 5 1000 l (innerKp l kp)
noncomputable abbrev clN (l : Code) (kp : List Nat) : St → St := cleanSt 0 5 (ue l kp []).1
def TN (b : Bool) (M : Nat) (zs : List Int) (r : List Value) : List Value := [num b M, ptr 0, .string ⟨#[]⟩, .string (txt zs)] ++ r
def oM (b : Bool) (F : Nat → Int) : Heap := ⟨1, [oN b F]⟩
def SD (b : Bool) (M : Nat) (zs : List Int) (F : Nat → Int) (w : Nat) (x : Int) : St := ⟨TN b M zs ([.int .u64 (w : Int), .int .i64 x] ++ js 45), oM b F, []⟩
def ED (b : Bool) (M : Nat) (zs : List Int) (F : Nat → Int) (w : Nat) : St := ⟨TN b M zs ([.int .u64 (w : Int), .int .i64 (-1)] ++ (js 19 ++ ([.int .i64 (-1), .bool false] ++ js 24))), oM b F, []⟩
def SN (b : Bool) (M : Nat) (zs : List Int) (F : Nat → Int) (x4 : Option Nat) : St := ⟨TN b M zs ((match x4 with | none => undef | some w => .int .u64 (w : Int)) :: js 46), oM b F, []⟩
--< dr19
theorem dr19 (b : Bool) (M : Nat) (zs : List Int) (F : Nat → Int) (F' : Nat → Int) (i : Nat) (p : Nat) (q : Nat) (w : Nat) (w' : Nat) (r : Nat) (t : Nat) (x : Int) (hi : i < 20) (hx : x = (↑i : Int) - 1) (hp : F i = (↑p : Int)) (p1 : p < 65536) (w1 : w < 10) (hr : r = 65536 * w) (ht : t = r + p) (hq : q = t / 10) (hw : w' = t % 10) (hF : ∀ (s : Nat), s < 20 → F' s = if s = i then (↑q : Int) else F s) :
    ∃ s', runN 19 lD kN (SD b M zs F w (↑i : Int)) = some (Ex.normal, s') ∧ (clN lD kN) s' = SD b M zs F' w' x :=
  Dg.code_round (f := 7) (clN lD kN) (hs := [Hint.val 7 30 (Value.int IntKind.u64 (↑r : Int)),
    Hint.soft 7 33 (Value.pointer (some { block := 0, off := i + 1 })),
    Hint.soft 7 34 (Value.int IntKind.u64 (↑p : Int)),
    Hint.val 7 35 (Value.int IntKind.u64 (↑t : Int)),
    Hint.soft 7 38 (Value.int IntKind.u64 (↑q : Int)),
    Hint.soft 7 40 (Value.pointer (some { block := 0, off := i + 1 })),
    Hint.softH 7 0 (undef) { n := 1, objs := [AObj.cells (kpN b F') 30 4 1] } [0],
    Hint.soft 7 42 (Value.int IntKind.u64 (↑w' : Int)),
    Hint.val 7 28 (Value.int IntKind.i64 x)])
    [Value.int IntKind.u64 (IntKind.wrap IntKind.u64 ((65536 : Int) * (↑w : Int))) = Value.int IntKind.u64 (↑r : Int),
    (0 : Int) ≤ (↑i : Int) ∧ (↑i : Int) < (↑(20 : Nat) : Int),
    Value.pointer (some { block := (0 : Nat), off := (1 : Nat) + Int.toNat (↑i : Int) * (1 : Nat) }) = Value.pointer (some { block := (0 : Nat), off := i + (1 : Nat) }),
    (kpN b F)[i + (1 : Nat)]? = some (Value.int IntKind.u64 (↑p : Int)),
    Value.int IntKind.u64 (IntKind.wrap IntKind.u64 ((↑r : Int) + (↑p : Int))) = Value.int IntKind.u64 (↑t : Int),
    (10 : Int) ≠ (0 : Int),
    Value.int IntKind.u64 (IntKind.wrap IntKind.u64 (Int.tdiv (↑t : Int) (10 : Int))) = Value.int IntKind.u64 (↑q : Int),
    (0 : Int) ≤ (↑i : Int) ∧ (↑i : Int) < (↑(20 : Nat) : Int),
    Value.pointer (some { block := (0 : Nat), off := (1 : Nat) + Int.toNat (↑i : Int) * (1 : Nat) }) = Value.pointer (some { block := (0 : Nat), off := i + (1 : Nat) }),
    Heap.write { n := (1 : Nat), objs := [AObj.cells (kpN b F) (30 : Nat) (4 : Nat) (1 : Nat)] } (0 : Nat) (i + (1 : Nat)) [Value.int IntKind.u64 (↑q : Int)] = some { n := (1 : Nat), objs := [AObj.cells (kpN b F') (30 : Nat) (4 : Nat) (1 : Nat)] },
    undef = undef,
    ([(0 : Nat)] : List Nat) = [(0 : Nat)],
    (10 : Int) ≠ (0 : Int),
    Value.int IntKind.u64 (Int.tmod (↑t : Int) (10 : Int)) = Value.int IntKind.u64 (↑w' : Int),
    Value.int IntKind.i64 (IntKind.wrap IntKind.i64 ((↑i : Int) - (1 : Int))) = Value.int IntKind.i64 x] (by kernel_rfl)
    ⟨u64_nat (by omega) (by omega), by omega, Dg.ptr_eq (by omega), kpN_getv hi rfl hp, u64_nat (by omega) (by omega), by decide, tdv10 hq (by omega), by omega, Dg.ptr_eq (by omega), by first | exact wrN rfl hi rfl hF | rfl, by first | exact wrN rfl hi rfl hF | rfl, by first | exact wrN rfl hi rfl hF | rfl, by decide, tmv10 hw, Dg.i64_eq (by omega) (by omega) (by omega), trivial⟩
--> dr19
--< de19
theorem de19 (b : Bool) (M : Nat) (zs : List Int) (F : Nat → Int) (w : Nat) :
    runN 19 lD kN (SD b M zs F w (-1)) = some (Ex.exit 2, ({ ts := [Value.agg { toList := kpN b (lim M) }, Value.pointer (some { block := 0, off := 0 }), Value.string { data := #[] }, Value.string (txt zs), Value.int IntKind.u64 (↑w : Int), Value.int IntKind.i64 (-1), junk, junk, junk, junk, junk, junk, junk, junk, junk, junk, junk, junk, junk, junk, junk, junk, junk, junk, junk, Value.int IntKind.i64 (-1), Value.bool false, junk, junk, junk, junk, junk, junk, junk, junk, junk, junk, junk, junk, junk, junk, junk, junk, junk, junk, junk, junk, junk, junk, junk, junk], H := { n := 1, objs := [AObj.cells (kpN b F) 30 4 1] }, log := [] } : St)) :=
  Dg.evCode_hint (f := 7) (hs' := []) (hs := [])
    [] (by kernel_rfl)
    trivial
--> de19
/-- The loop over the pieces. -/
theorem loopD19 (b : Bool) (M : Nat) (zs : List Int) (m : Nat) (hm : m < B ^ 20) {s0 : St} (h0 : clN lD kN s0 = SD b M zs (lim m) 0 19) : evLoop (runN 19 lD kN) (clN lD kN) 1000 s0 = some (.exit 2, ED b M zs (lim (m / 10)) (m % 10)) := by
  have h1 : clN lD kN s0 = SD b M zs (limN (dvK m 20)) (m / B ^ 20 % 10) ((19 : Int) - ((0 : Nat) : Int)) := by
    rw [h0, Nat.div_eq_of_lt hm]
    unfold SD oM
    rw [oN_congr (b := b) (f := limN (dvK m 20)) (g := lim m) fun t ht => by simp only [limN, lim, dvK_start m t ht]]
    rfl
  have e : evLoop (runN 19 lD kN) (clN lD kN) 1000 s0 = some (.exit 2, ED b M zs (limN (dvK m 0)) (m / B ^ 0 % 10)) :=
    (Dg.loop_run (S := fun j => SD b M zs (limN (dvK m (20 - j))) (m / B ^ (20 - j) % 10) ((19 : Int) - (j : Int))) (n := 20) (by simp) (fun j hj => by
      have h := dr19 b M zs (limN (dvK m (19 - j + 1))) (limN (dvK m (19 - j))) (19 - j) (limb m (19 - j)) (limb (m / 10) (19 - j)) (m / B ^ (19 - j + 1) % 10) (m / B ^ (19 - j) % 10) (65536 * (m / B ^ (19 - j + 1) % 10)) (dvx m (19 - j)) ((19 : Int) - ((j + 1 : Nat) : Int)) (by omega) (by omega) (dv_at m _) (limb_lt m _) (Nat.mod_lt _ (by decide)) rfl rfl (dv_q m _) (dv_r m _) (dv_is m _)
      rw [show 20 - j = 19 - j + 1 by omega, show (19 : Int) - (j : Int) = ((19 - j : Nat) : Int) by omega, show 20 - (j + 1) = 19 - j by omega]
      exact h) (de19 b M zs _ _) (by omega) h1).trans (by kernel_rfl)
  rw [e]
  unfold ED oM
  rw [oN_congr (b := b) (f := limN (dvK m 0)) (g := lim (m / 10)) fun t ht => by simp only [limN, lim, dvK_end m t ht]]
  simp
theorem loopDx19 (b : Bool) (M : Nat) (zs : List Int) {m m' r : Nat} (hm : m < B ^ 20) (hm' : m' = m / 10) (hr : r = m % 10) {s0 : St} (h0 : clN lD kN s0 = SD b M zs (lim m) 0 19) : evLoop (runN 19 lD kN) (clN lD kN) 1000 s0 = some (.exit 2, ED b M zs (lim m') r) := by
  subst hm' hr
  exact loopD19 b M zs m hm h0
--< dr18
theorem dr18 (b : Bool) (M : Nat) (zs : List Int) (F : Nat → Int) (F' : Nat → Int) (i : Nat) (p : Nat) (q : Nat) (w : Nat) (w' : Nat) (r : Nat) (t : Nat) (x : Int) (hi : i < 20) (hx : x = (↑i : Int) - 1) (hp : F i = (↑p : Int)) (p1 : p < 65536) (w1 : w < 10) (hr : r = 65536 * w) (ht : t = r + p) (hq : q = t / 10) (hw : w' = t % 10) (hF : ∀ (s : Nat), s < 20 → F' s = if s = i then (↑q : Int) else F s) :
    ∃ s', runN 18 lD kN (SD b M zs F w (↑i : Int)) = some (Ex.normal, s') ∧ (clN lD kN) s' = SD b M zs F' w' x :=
  Dg.code_round (f := 7) (clN lD kN) (hs := [Hint.val 7 30 (Value.int IntKind.u64 (↑r : Int)),
    Hint.soft 7 33 (Value.pointer (some { block := 0, off := i + 1 })),
    Hint.soft 7 34 (Value.int IntKind.u64 (↑p : Int)),
    Hint.val 7 35 (Value.int IntKind.u64 (↑t : Int)),
    Hint.soft 7 38 (Value.int IntKind.u64 (↑q : Int)),
    Hint.soft 7 40 (Value.pointer (some { block := 0, off := i + 1 })),
    Hint.softH 7 0 (undef) { n := 1, objs := [AObj.cells (kpN b F') 30 4 1] } [0],
    Hint.soft 7 42 (Value.int IntKind.u64 (↑w' : Int)),
    Hint.val 7 28 (Value.int IntKind.i64 x)])
    [Value.int IntKind.u64 (IntKind.wrap IntKind.u64 ((65536 : Int) * (↑w : Int))) = Value.int IntKind.u64 (↑r : Int),
    (0 : Int) ≤ (↑i : Int) ∧ (↑i : Int) < (↑(20 : Nat) : Int),
    Value.pointer (some { block := (0 : Nat), off := (1 : Nat) + Int.toNat (↑i : Int) * (1 : Nat) }) = Value.pointer (some { block := (0 : Nat), off := i + (1 : Nat) }),
    (kpN b F)[i + (1 : Nat)]? = some (Value.int IntKind.u64 (↑p : Int)),
    Value.int IntKind.u64 (IntKind.wrap IntKind.u64 ((↑r : Int) + (↑p : Int))) = Value.int IntKind.u64 (↑t : Int),
    (10 : Int) ≠ (0 : Int),
    Value.int IntKind.u64 (IntKind.wrap IntKind.u64 (Int.tdiv (↑t : Int) (10 : Int))) = Value.int IntKind.u64 (↑q : Int),
    (0 : Int) ≤ (↑i : Int) ∧ (↑i : Int) < (↑(20 : Nat) : Int),
    Value.pointer (some { block := (0 : Nat), off := (1 : Nat) + Int.toNat (↑i : Int) * (1 : Nat) }) = Value.pointer (some { block := (0 : Nat), off := i + (1 : Nat) }),
    Heap.write { n := (1 : Nat), objs := [AObj.cells (kpN b F) (30 : Nat) (4 : Nat) (1 : Nat)] } (0 : Nat) (i + (1 : Nat)) [Value.int IntKind.u64 (↑q : Int)] = some { n := (1 : Nat), objs := [AObj.cells (kpN b F') (30 : Nat) (4 : Nat) (1 : Nat)] },
    undef = undef,
    ([(0 : Nat)] : List Nat) = [(0 : Nat)],
    (10 : Int) ≠ (0 : Int),
    Value.int IntKind.u64 (Int.tmod (↑t : Int) (10 : Int)) = Value.int IntKind.u64 (↑w' : Int),
    Value.int IntKind.i64 (IntKind.wrap IntKind.i64 ((↑i : Int) - (1 : Int))) = Value.int IntKind.i64 x] (by kernel_rfl)
    ⟨u64_nat (by omega) (by omega), by omega, Dg.ptr_eq (by omega), kpN_getv hi rfl hp, u64_nat (by omega) (by omega), by decide, tdv10 hq (by omega), by omega, Dg.ptr_eq (by omega), by first | exact wrN rfl hi rfl hF | rfl, by first | exact wrN rfl hi rfl hF | rfl, by first | exact wrN rfl hi rfl hF | rfl, by decide, tmv10 hw, Dg.i64_eq (by omega) (by omega) (by omega), trivial⟩
--> dr18
--< de18
theorem de18 (b : Bool) (M : Nat) (zs : List Int) (F : Nat → Int) (w : Nat) :
    runN 18 lD kN (SD b M zs F w (-1)) = some (Ex.exit 2, ({ ts := [Value.agg { toList := kpN b (lim M) }, Value.pointer (some { block := 0, off := 0 }), Value.string { data := #[] }, Value.string (txt zs), Value.int IntKind.u64 (↑w : Int), Value.int IntKind.i64 (-1), junk, junk, junk, junk, junk, junk, junk, junk, junk, junk, junk, junk, junk, junk, junk, junk, junk, junk, junk, Value.int IntKind.i64 (-1), Value.bool false, junk, junk, junk, junk, junk, junk, junk, junk, junk, junk, junk, junk, junk, junk, junk, junk, junk, junk, junk, junk, junk, junk, junk, junk], H := { n := 1, objs := [AObj.cells (kpN b F) 30 4 1] }, log := [] } : St)) :=
  Dg.evCode_hint (f := 7) (hs' := []) (hs := [])
    [] (by kernel_rfl)
    trivial
--> de18
/-- The loop over the pieces. -/
theorem loopD18 (b : Bool) (M : Nat) (zs : List Int) (m : Nat) (hm : m < B ^ 20) {s0 : St} (h0 : clN lD kN s0 = SD b M zs (lim m) 0 19) : evLoop (runN 18 lD kN) (clN lD kN) 1000 s0 = some (.exit 2, ED b M zs (lim (m / 10)) (m % 10)) := by
  have h1 : clN lD kN s0 = SD b M zs (limN (dvK m 20)) (m / B ^ 20 % 10) ((19 : Int) - ((0 : Nat) : Int)) := by
    rw [h0, Nat.div_eq_of_lt hm]
    unfold SD oM
    rw [oN_congr (b := b) (f := limN (dvK m 20)) (g := lim m) fun t ht => by simp only [limN, lim, dvK_start m t ht]]
    rfl
  have e : evLoop (runN 18 lD kN) (clN lD kN) 1000 s0 = some (.exit 2, ED b M zs (limN (dvK m 0)) (m / B ^ 0 % 10)) :=
    (Dg.loop_run (S := fun j => SD b M zs (limN (dvK m (20 - j))) (m / B ^ (20 - j) % 10) ((19 : Int) - (j : Int))) (n := 20) (by simp) (fun j hj => by
      have h := dr18 b M zs (limN (dvK m (19 - j + 1))) (limN (dvK m (19 - j))) (19 - j) (limb m (19 - j)) (limb (m / 10) (19 - j)) (m / B ^ (19 - j + 1) % 10) (m / B ^ (19 - j) % 10) (65536 * (m / B ^ (19 - j + 1) % 10)) (dvx m (19 - j)) ((19 : Int) - ((j + 1 : Nat) : Int)) (by omega) (by omega) (dv_at m _) (limb_lt m _) (Nat.mod_lt _ (by decide)) rfl rfl (dv_q m _) (dv_r m _) (dv_is m _)
      rw [show 20 - j = 19 - j + 1 by omega, show (19 : Int) - (j : Int) = ((19 - j : Nat) : Int) by omega, show 20 - (j + 1) = 19 - j by omega]
      exact h) (de18 b M zs _ _) (by omega) h1).trans (by kernel_rfl)
  rw [e]
  unfold ED oM
  rw [oN_congr (b := b) (f := limN (dvK m 0)) (g := lim (m / 10)) fun t ht => by simp only [limN, lim, dvK_end m t ht]]
  simp
theorem loopDx18 (b : Bool) (M : Nat) (zs : List Int) {m m' r : Nat} (hm : m < B ^ 20) (hm' : m' = m / 10) (hr : r = m % 10) {s0 : St} (h0 : clN lD kN s0 = SD b M zs (lim m) 0 19) : evLoop (runN 18 lD kN) (clN lD kN) 1000 s0 = some (.exit 2, ED b M zs (lim m') r) := by
  subst hm' hr
  exact loopD18 b M zs m hm h0
--< nr0_19
theorem nr0_19 (b : Bool) (M : Nat) (zs : List Int) (m : Nat) (m' : Nat) (r : Nat) (hz : zs = []) (hl : List.length zs ≤ 1000) (hm : m < B ^ 20) (hm' : m' = m / 10) (hr : r = m % 10) :
    ∃ s', runN 19 lN [] (SN b M zs (lim m) none) = some (Ex.normal, s') ∧ (clN lN []) s' = SN b M ((↑(48 + r) : Int) :: zs) (lim m') (some r) :=
  Dg.code_round (f := 7) (clN lN []) (hs := [Hint.val 7 19 (Value.bool true),
    Hint.loop 7 (Ex.exit 2) (ED b M zs (lim m') r),
    Hint.val 7 44 (Value.int IntKind.u64 (↑(48 + r) : Int)),
    Hint.val 7 45 (Value.int IntKind.u8 (↑(48 + r) : Int)),
    Hint.soft 7 47 (Value.string (txt [(↑(48 + r) : Int)])),
    Hint.soft 7 49 (Value.string (txt ((↑(48 + r) : Int) :: zs)))])
    [Value.bool (ByteArray.toList (txt zs) == ByteArray.toList { data := #[] }) = Value.bool true,
    evLoop (runN 19 lD kN) (clN lD kN) 1000 { ts := [Value.agg { toList := kpN b (lim M) }, Value.pointer (some { block := 0, off := 0 }), Value.string { data := #[] }, Value.string (txt zs), Value.int IntKind.u64 0, Value.int IntKind.i64 19, junk, junk, junk, junk, junk, junk, junk, junk, junk, junk, junk, junk, Value.string (txt zs), Value.bool true, Value.bool true, undef, undef, undef, Value.bool true, junk, junk, junk, junk, junk, junk, junk, junk, junk, junk, junk, junk, junk, junk, junk, junk, junk, junk, junk, junk, junk, junk, junk, junk, junk, junk], H := { n := 1, objs := [AObj.cells (kpN b (lim m)) 30 4 1] }, log := [] } = some (Ex.exit 2, ED b M zs (lim m') r),
    Value.int IntKind.u64 (IntKind.wrap IntKind.u64 ((48 : Int) + (↑r : Int))) = Value.int IntKind.u64 (↑((48 : Nat) + r) : Int),
    Value.int IntKind.u8 (IntKind.wrap IntKind.u8 (↑((48 : Nat) + r) : Int)) = Value.int IntKind.u8 (↑((48 : Nat) + r) : Int),
    Dg.strOf [Value.int IntKind.u8 (↑((48 : Nat) + r) : Int)] (0 : Nat) (1 : Nat) = some (txt [(↑((48 : Nat) + r) : Int)]),
    ByteArray.size (txt [(↑((48 : Nat) + r) : Int)]) + ByteArray.size (txt zs) ≤ (9223372036854775807 : Nat),
    Value.string (txt [(↑((48 : Nat) + r) : Int)] ++ txt zs) = Value.string (txt ((↑((48 : Nat) + r) : Int) :: zs))] (by kernel_rfl)
    ⟨str_emp hz, loopDx19 b M zs hm hm' hr (by kernel_rfl), u64_nat (by omega) (by omega), u8_nat (by omega) (by omega), str_one _, siz_one hl, rfl, trivial⟩
--> nr0_19
--< nr1_19
theorem nr1_19 (b : Bool) (M : Nat) (zs : List Int) (m : Nat) (m' : Nat) (r : Nat) (w : Nat) (hz : zs ≠ []) (h0 : 0 < m) (hl : List.length zs ≤ 1000) (hm : m < B ^ 20) (hm' : m' = m / 10) (hr : r = m % 10) :
    ∃ s', runN 19 lN [] (SN b M zs (lim m) (some w)) = some (Ex.normal, s') ∧ (clN lN []) s' = SN b M ((↑(48 + r) : Int) :: zs) (lim m') (some r) :=
  Dg.code_round (f := 7) (clN lN []) (hs := [Hint.val 7 19 (Value.bool false),
    Hint.call 27 (Value.bool false) { n := 0, objs := [] } [],
    Hint.loop 7 (Ex.exit 2) (ED b M zs (lim m') r),
    Hint.val 7 44 (Value.int IntKind.u64 (↑(48 + r) : Int)),
    Hint.val 7 45 (Value.int IntKind.u8 (↑(48 + r) : Int)),
    Hint.soft 7 47 (Value.string (txt [(↑(48 + r) : Int)])),
    Hint.soft 7 49 (Value.string (txt ((↑(48 + r) : Int) :: zs)))])
    [Value.bool (ByteArray.toList (txt zs) == ByteArray.toList { data := #[] }) = Value.bool false,
    evCall Tryz.prog 0 (bodied Tryz.prog) ov2 sbs 1000 19 27 [Value.agg #[Value.bool b, Value.int IntKind.u64 (lim m 0), Value.int IntKind.u64 (lim m 1), Value.int IntKind.u64 (lim m 2), Value.int IntKind.u64 (lim m 3), Value.int IntKind.u64 (lim m 4), Value.int IntKind.u64 (lim m 5), Value.int IntKind.u64 (lim m 6), Value.int IntKind.u64 (lim m 7), Value.int IntKind.u64 (lim m 8), Value.int IntKind.u64 (lim m 9), Value.int IntKind.u64 (lim m 10), Value.int IntKind.u64 (lim m 11), Value.int IntKind.u64 (lim m 12), Value.int IntKind.u64 (lim m 13), Value.int IntKind.u64 (lim m 14), Value.int IntKind.u64 (lim m 15), Value.int IntKind.u64 (lim m 16), Value.int IntKind.u64 (lim m 17), Value.int IntKind.u64 (lim m 18), Value.int IntKind.u64 (lim m 19)]] { n := 0, objs := [] } = some (Value.bool false, { n := 0, objs := [] }, []),
    evLoop (runN 19 lD kN) (clN lD kN) 1000 { ts := [Value.agg { toList := kpN b (lim M) }, Value.pointer (some { block := 0, off := 0 }), Value.string { data := #[] }, Value.string (txt zs), Value.int IntKind.u64 0, Value.int IntKind.i64 19, junk, junk, junk, junk, junk, junk, junk, junk, junk, junk, junk, junk, Value.string (txt zs), Value.bool false, Value.bool false, Value.agg #[Value.bool b, Value.int IntKind.u64 (lim m 0), Value.int IntKind.u64 (lim m 1), Value.int IntKind.u64 (lim m 2), Value.int IntKind.u64 (lim m 3), Value.int IntKind.u64 (lim m 4), Value.int IntKind.u64 (lim m 5), Value.int IntKind.u64 (lim m 6), Value.int IntKind.u64 (lim m 7), Value.int IntKind.u64 (lim m 8), Value.int IntKind.u64 (lim m 9), Value.int IntKind.u64 (lim m 10), Value.int IntKind.u64 (lim m 11), Value.int IntKind.u64 (lim m 12), Value.int IntKind.u64 (lim m 13), Value.int IntKind.u64 (lim m 14), Value.int IntKind.u64 (lim m 15), Value.int IntKind.u64 (lim m 16), Value.int IntKind.u64 (lim m 17), Value.int IntKind.u64 (lim m 18), Value.int IntKind.u64 (lim m 19)], Value.bool false, Value.bool true, Value.bool true, junk, junk, junk, junk, junk, junk, junk, junk, junk, junk, junk, junk, junk, junk, junk, junk, junk, junk, junk, junk, junk, junk, junk, junk, junk, junk], H := { n := 1, objs := [AObj.cells (kpN b (lim m)) 30 4 1] }, log := [] } = some (Ex.exit 2, ED b M zs (lim m') r),
    Value.int IntKind.u64 (IntKind.wrap IntKind.u64 ((48 : Int) + (↑r : Int))) = Value.int IntKind.u64 (↑((48 : Nat) + r) : Int),
    Value.int IntKind.u8 (IntKind.wrap IntKind.u8 (↑((48 : Nat) + r) : Int)) = Value.int IntKind.u8 (↑((48 : Nat) + r) : Int),
    Dg.strOf [Value.int IntKind.u8 (↑((48 : Nat) + r) : Int)] (0 : Nat) (1 : Nat) = some (txt [(↑((48 : Nat) + r) : Int)]),
    ByteArray.size (txt [(↑((48 : Nat) + r) : Int)]) + ByteArray.size (txt zs) ≤ (9223372036854775807 : Nat),
    Value.string (txt [(↑((48 : Nat) + r) : Int)] ++ txt zs) = Value.string (txt ((↑((48 : Nat) + r) : Int) :: zs))] (by kernel_rfl)
    ⟨str_nem hz, Dg.evCall_told (under2 (zero_no _ hm h0)), loopDx19 b M zs hm hm' hr (by kernel_rfl), u64_nat (by omega) (by omega), u8_nat (by omega) (by omega), str_one _, siz_one hl, rfl, trivial⟩
--> nr1_19
--< ne_19
theorem ne_19 (b : Bool) (M : Nat) (zs : List Int) (w : Nat) (m : Nat) (hz : zs ≠ []) (h0 : m = 0) :
    runN 19 lN [] (SN b M zs (lim m) (some w)) = some (Ex.exit 0, ({ ts := [Value.agg { toList := kpN b (lim M) }, Value.pointer (some { block := 0, off := 0 }), Value.string { data := #[] }, Value.string (txt zs), Value.int IntKind.u64 (↑w : Int), junk, junk, junk, junk, junk, junk, junk, junk, junk, junk, junk, junk, junk, Value.string (txt zs), Value.bool false, Value.bool false, Value.agg #[Value.bool b, Value.int IntKind.u64 (lim m 0), Value.int IntKind.u64 (lim m 1), Value.int IntKind.u64 (lim m 2), Value.int IntKind.u64 (lim m 3), Value.int IntKind.u64 (lim m 4), Value.int IntKind.u64 (lim m 5), Value.int IntKind.u64 (lim m 6), Value.int IntKind.u64 (lim m 7), Value.int IntKind.u64 (lim m 8), Value.int IntKind.u64 (lim m 9), Value.int IntKind.u64 (lim m 10), Value.int IntKind.u64 (lim m 11), Value.int IntKind.u64 (lim m 12), Value.int IntKind.u64 (lim m 13), Value.int IntKind.u64 (lim m 14), Value.int IntKind.u64 (lim m 15), Value.int IntKind.u64 (lim m 16), Value.int IntKind.u64 (lim m 17), Value.int IntKind.u64 (lim m 18), Value.int IntKind.u64 (lim m 19)], Value.bool true, Value.bool false, Value.bool false, junk, junk, junk, junk, junk, junk, junk, junk, junk, junk, junk, junk, junk, junk, junk, junk, junk, junk, junk, junk, junk, junk, junk, junk, junk, junk], H := { n := 1, objs := [AObj.cells (kpN b (lim m)) 30 4 1] }, log := [] } : St)) :=
  Dg.evCode_hint (f := 7) (hs' := []) (hs := [Hint.val 7 19 (Value.bool false),
    Hint.call 27 (Value.bool true) { n := 0, objs := [] } []])
    [Value.bool (ByteArray.toList (txt zs) == ByteArray.toList { data := #[] }) = Value.bool false,
    evCall Tryz.prog 0 (bodied Tryz.prog) ov2 sbs 1000 19 27 [Value.agg #[Value.bool b, Value.int IntKind.u64 (lim m 0), Value.int IntKind.u64 (lim m 1), Value.int IntKind.u64 (lim m 2), Value.int IntKind.u64 (lim m 3), Value.int IntKind.u64 (lim m 4), Value.int IntKind.u64 (lim m 5), Value.int IntKind.u64 (lim m 6), Value.int IntKind.u64 (lim m 7), Value.int IntKind.u64 (lim m 8), Value.int IntKind.u64 (lim m 9), Value.int IntKind.u64 (lim m 10), Value.int IntKind.u64 (lim m 11), Value.int IntKind.u64 (lim m 12), Value.int IntKind.u64 (lim m 13), Value.int IntKind.u64 (lim m 14), Value.int IntKind.u64 (lim m 15), Value.int IntKind.u64 (lim m 16), Value.int IntKind.u64 (lim m 17), Value.int IntKind.u64 (lim m 18), Value.int IntKind.u64 (lim m 19)]] { n := 0, objs := [] } = some (Value.bool true, { n := 0, objs := [] }, [])] (by kernel_rfl)
    ⟨str_nem hz, Dg.evCall_told (under2 (zero_yes _ h0)), trivial⟩
--> ne_19
--< nr0_18
theorem nr0_18 (b : Bool) (M : Nat) (zs : List Int) (m : Nat) (m' : Nat) (r : Nat) (hz : zs = []) (hl : List.length zs ≤ 1000) (hm : m < B ^ 20) (hm' : m' = m / 10) (hr : r = m % 10) :
    ∃ s', runN 18 lN [] (SN b M zs (lim m) none) = some (Ex.normal, s') ∧ (clN lN []) s' = SN b M ((↑(48 + r) : Int) :: zs) (lim m') (some r) :=
  Dg.code_round (f := 7) (clN lN []) (hs := [Hint.val 7 19 (Value.bool true),
    Hint.loop 7 (Ex.exit 2) (ED b M zs (lim m') r),
    Hint.val 7 44 (Value.int IntKind.u64 (↑(48 + r) : Int)),
    Hint.val 7 45 (Value.int IntKind.u8 (↑(48 + r) : Int)),
    Hint.soft 7 47 (Value.string (txt [(↑(48 + r) : Int)])),
    Hint.soft 7 49 (Value.string (txt ((↑(48 + r) : Int) :: zs)))])
    [Value.bool (ByteArray.toList (txt zs) == ByteArray.toList { data := #[] }) = Value.bool true,
    evLoop (runN 18 lD kN) (clN lD kN) 1000 { ts := [Value.agg { toList := kpN b (lim M) }, Value.pointer (some { block := 0, off := 0 }), Value.string { data := #[] }, Value.string (txt zs), Value.int IntKind.u64 0, Value.int IntKind.i64 19, junk, junk, junk, junk, junk, junk, junk, junk, junk, junk, junk, junk, Value.string (txt zs), Value.bool true, Value.bool true, undef, undef, undef, Value.bool true, junk, junk, junk, junk, junk, junk, junk, junk, junk, junk, junk, junk, junk, junk, junk, junk, junk, junk, junk, junk, junk, junk, junk, junk, junk, junk], H := { n := 1, objs := [AObj.cells (kpN b (lim m)) 30 4 1] }, log := [] } = some (Ex.exit 2, ED b M zs (lim m') r),
    Value.int IntKind.u64 (IntKind.wrap IntKind.u64 ((48 : Int) + (↑r : Int))) = Value.int IntKind.u64 (↑((48 : Nat) + r) : Int),
    Value.int IntKind.u8 (IntKind.wrap IntKind.u8 (↑((48 : Nat) + r) : Int)) = Value.int IntKind.u8 (↑((48 : Nat) + r) : Int),
    Dg.strOf [Value.int IntKind.u8 (↑((48 : Nat) + r) : Int)] (0 : Nat) (1 : Nat) = some (txt [(↑((48 : Nat) + r) : Int)]),
    ByteArray.size (txt [(↑((48 : Nat) + r) : Int)]) + ByteArray.size (txt zs) ≤ (9223372036854775807 : Nat),
    Value.string (txt [(↑((48 : Nat) + r) : Int)] ++ txt zs) = Value.string (txt ((↑((48 : Nat) + r) : Int) :: zs))] (by kernel_rfl)
    ⟨str_emp hz, loopDx18 b M zs hm hm' hr (by kernel_rfl), u64_nat (by omega) (by omega), u8_nat (by omega) (by omega), str_one _, siz_one hl, rfl, trivial⟩
--> nr0_18
--< nr1_18
theorem nr1_18 (b : Bool) (M : Nat) (zs : List Int) (m : Nat) (m' : Nat) (r : Nat) (w : Nat) (hz : zs ≠ []) (h0 : 0 < m) (hl : List.length zs ≤ 1000) (hm : m < B ^ 20) (hm' : m' = m / 10) (hr : r = m % 10) :
    ∃ s', runN 18 lN [] (SN b M zs (lim m) (some w)) = some (Ex.normal, s') ∧ (clN lN []) s' = SN b M ((↑(48 + r) : Int) :: zs) (lim m') (some r) :=
  Dg.code_round (f := 7) (clN lN []) (hs := [Hint.val 7 19 (Value.bool false),
    Hint.call 27 (Value.bool false) { n := 0, objs := [] } [],
    Hint.loop 7 (Ex.exit 2) (ED b M zs (lim m') r),
    Hint.val 7 44 (Value.int IntKind.u64 (↑(48 + r) : Int)),
    Hint.val 7 45 (Value.int IntKind.u8 (↑(48 + r) : Int)),
    Hint.soft 7 47 (Value.string (txt [(↑(48 + r) : Int)])),
    Hint.soft 7 49 (Value.string (txt ((↑(48 + r) : Int) :: zs)))])
    [Value.bool (ByteArray.toList (txt zs) == ByteArray.toList { data := #[] }) = Value.bool false,
    evCall Tryz.prog 0 (bodied Tryz.prog) ov2 sbs 1000 18 27 [Value.agg #[Value.bool b, Value.int IntKind.u64 (lim m 0), Value.int IntKind.u64 (lim m 1), Value.int IntKind.u64 (lim m 2), Value.int IntKind.u64 (lim m 3), Value.int IntKind.u64 (lim m 4), Value.int IntKind.u64 (lim m 5), Value.int IntKind.u64 (lim m 6), Value.int IntKind.u64 (lim m 7), Value.int IntKind.u64 (lim m 8), Value.int IntKind.u64 (lim m 9), Value.int IntKind.u64 (lim m 10), Value.int IntKind.u64 (lim m 11), Value.int IntKind.u64 (lim m 12), Value.int IntKind.u64 (lim m 13), Value.int IntKind.u64 (lim m 14), Value.int IntKind.u64 (lim m 15), Value.int IntKind.u64 (lim m 16), Value.int IntKind.u64 (lim m 17), Value.int IntKind.u64 (lim m 18), Value.int IntKind.u64 (lim m 19)]] { n := 0, objs := [] } = some (Value.bool false, { n := 0, objs := [] }, []),
    evLoop (runN 18 lD kN) (clN lD kN) 1000 { ts := [Value.agg { toList := kpN b (lim M) }, Value.pointer (some { block := 0, off := 0 }), Value.string { data := #[] }, Value.string (txt zs), Value.int IntKind.u64 0, Value.int IntKind.i64 19, junk, junk, junk, junk, junk, junk, junk, junk, junk, junk, junk, junk, Value.string (txt zs), Value.bool false, Value.bool false, Value.agg #[Value.bool b, Value.int IntKind.u64 (lim m 0), Value.int IntKind.u64 (lim m 1), Value.int IntKind.u64 (lim m 2), Value.int IntKind.u64 (lim m 3), Value.int IntKind.u64 (lim m 4), Value.int IntKind.u64 (lim m 5), Value.int IntKind.u64 (lim m 6), Value.int IntKind.u64 (lim m 7), Value.int IntKind.u64 (lim m 8), Value.int IntKind.u64 (lim m 9), Value.int IntKind.u64 (lim m 10), Value.int IntKind.u64 (lim m 11), Value.int IntKind.u64 (lim m 12), Value.int IntKind.u64 (lim m 13), Value.int IntKind.u64 (lim m 14), Value.int IntKind.u64 (lim m 15), Value.int IntKind.u64 (lim m 16), Value.int IntKind.u64 (lim m 17), Value.int IntKind.u64 (lim m 18), Value.int IntKind.u64 (lim m 19)], Value.bool false, Value.bool true, Value.bool true, junk, junk, junk, junk, junk, junk, junk, junk, junk, junk, junk, junk, junk, junk, junk, junk, junk, junk, junk, junk, junk, junk, junk, junk, junk, junk], H := { n := 1, objs := [AObj.cells (kpN b (lim m)) 30 4 1] }, log := [] } = some (Ex.exit 2, ED b M zs (lim m') r),
    Value.int IntKind.u64 (IntKind.wrap IntKind.u64 ((48 : Int) + (↑r : Int))) = Value.int IntKind.u64 (↑((48 : Nat) + r) : Int),
    Value.int IntKind.u8 (IntKind.wrap IntKind.u8 (↑((48 : Nat) + r) : Int)) = Value.int IntKind.u8 (↑((48 : Nat) + r) : Int),
    Dg.strOf [Value.int IntKind.u8 (↑((48 : Nat) + r) : Int)] (0 : Nat) (1 : Nat) = some (txt [(↑((48 : Nat) + r) : Int)]),
    ByteArray.size (txt [(↑((48 : Nat) + r) : Int)]) + ByteArray.size (txt zs) ≤ (9223372036854775807 : Nat),
    Value.string (txt [(↑((48 : Nat) + r) : Int)] ++ txt zs) = Value.string (txt ((↑((48 : Nat) + r) : Int) :: zs))] (by kernel_rfl)
    ⟨str_nem hz, Dg.evCall_told (under2 (zero_no _ hm h0)), loopDx18 b M zs hm hm' hr (by kernel_rfl), u64_nat (by omega) (by omega), u8_nat (by omega) (by omega), str_one _, siz_one hl, rfl, trivial⟩
--> nr1_18
--< ne_18
theorem ne_18 (b : Bool) (M : Nat) (zs : List Int) (w : Nat) (m : Nat) (hz : zs ≠ []) (h0 : m = 0) :
    runN 18 lN [] (SN b M zs (lim m) (some w)) = some (Ex.exit 0, ({ ts := [Value.agg { toList := kpN b (lim M) }, Value.pointer (some { block := 0, off := 0 }), Value.string { data := #[] }, Value.string (txt zs), Value.int IntKind.u64 (↑w : Int), junk, junk, junk, junk, junk, junk, junk, junk, junk, junk, junk, junk, junk, Value.string (txt zs), Value.bool false, Value.bool false, Value.agg #[Value.bool b, Value.int IntKind.u64 (lim m 0), Value.int IntKind.u64 (lim m 1), Value.int IntKind.u64 (lim m 2), Value.int IntKind.u64 (lim m 3), Value.int IntKind.u64 (lim m 4), Value.int IntKind.u64 (lim m 5), Value.int IntKind.u64 (lim m 6), Value.int IntKind.u64 (lim m 7), Value.int IntKind.u64 (lim m 8), Value.int IntKind.u64 (lim m 9), Value.int IntKind.u64 (lim m 10), Value.int IntKind.u64 (lim m 11), Value.int IntKind.u64 (lim m 12), Value.int IntKind.u64 (lim m 13), Value.int IntKind.u64 (lim m 14), Value.int IntKind.u64 (lim m 15), Value.int IntKind.u64 (lim m 16), Value.int IntKind.u64 (lim m 17), Value.int IntKind.u64 (lim m 18), Value.int IntKind.u64 (lim m 19)], Value.bool true, Value.bool false, Value.bool false, junk, junk, junk, junk, junk, junk, junk, junk, junk, junk, junk, junk, junk, junk, junk, junk, junk, junk, junk, junk, junk, junk, junk, junk, junk, junk], H := { n := 1, objs := [AObj.cells (kpN b (lim m)) 30 4 1] }, log := [] } : St)) :=
  Dg.evCode_hint (f := 7) (hs' := []) (hs := [Hint.val 7 19 (Value.bool false),
    Hint.call 27 (Value.bool true) { n := 0, objs := [] } []])
    [Value.bool (ByteArray.toList (txt zs) == ByteArray.toList { data := #[] }) = Value.bool false,
    evCall Tryz.prog 0 (bodied Tryz.prog) ov2 sbs 1000 18 27 [Value.agg #[Value.bool b, Value.int IntKind.u64 (lim m 0), Value.int IntKind.u64 (lim m 1), Value.int IntKind.u64 (lim m 2), Value.int IntKind.u64 (lim m 3), Value.int IntKind.u64 (lim m 4), Value.int IntKind.u64 (lim m 5), Value.int IntKind.u64 (lim m 6), Value.int IntKind.u64 (lim m 7), Value.int IntKind.u64 (lim m 8), Value.int IntKind.u64 (lim m 9), Value.int IntKind.u64 (lim m 10), Value.int IntKind.u64 (lim m 11), Value.int IntKind.u64 (lim m 12), Value.int IntKind.u64 (lim m 13), Value.int IntKind.u64 (lim m 14), Value.int IntKind.u64 (lim m 15), Value.int IntKind.u64 (lim m 16), Value.int IntKind.u64 (lim m 17), Value.int IntKind.u64 (lim m 18), Value.int IntKind.u64 (lim m 19)]] { n := 0, objs := [] } = some (Value.bool true, { n := 0, objs := [] }, [])] (by kernel_rfl)
    ⟨str_nem hz, Dg.evCall_told (under2 (zero_yes _ h0)), trivial⟩
--> ne_18
def EN (b : Bool) (M : Nat) (zs : List Int) (F : Nat → Int) (w : Nat) : St := ⟨TN b M zs ([.int .u64 (w : Int)] ++ (js 13 ++ ([.string (txt zs), .bool false, .bool false, nv b F, .bool true, .bool false, .bool false] ++ js 26))), oM b F, []⟩
/-- The last r digits. -/
def dz (m : Nat) : Nat → List Int
  | 0 => []
  | j + 1 => ((48 + m / 10 ^ j % 10 : Nat) : Int) :: dz m j
theorem dz_sfx (m : Nat) : ∀ j, dz m j = sfx m j
  | 0 => rfl
  | j + 1 => by rw [dz, sfx, dz_sfx m j]; congr 1
theorem dz_len (m : Nat) : ∀ j, (dz m j).length = j
  | 0 => rfl
  | j + 1 => by rw [dz, List.length_cons, dz_len m j]
theorem dz_all (m : Nat) : dz m (Lib.nDigits m) = decZ m := by rw [dz_sfx, sfx_all]
theorem nd_le {m : Nat} (hm : m < B ^ 20) : Lib.nDigits m ≤ 100 := nDigits_le (k := 99) (Nat.lt_of_lt_of_le hm (by decide))
theorem numloop19 (b : Bool) (M m : Nat) (hm : m < B ^ 20) {s0 : St} (h0 : clN lN [] s0 = SN b M [] (lim m) none) : evLoop (runN 19 lN []) (clN lN []) 1000 s0 = some (.exit 0, EN b M (decZ m) (lim 0) (m / 10 ^ (Lib.nDigits m - 1) % 10)) := by
  obtain ⟨n, hn⟩ : ∃ n, Lib.nDigits m = n + 1 := ⟨Lib.nDigits m - 1, by have := Lib.nDigits_pos m; omega⟩
  have hle := nd_le hm
  have hd : ∀ r, m / 10 ^ (r + 1) = m / 10 ^ r / 10 := fun r => by rw [Nat.div_div_eq_div_mul, Nat.pow_succ]
  have hlt : ∀ r, m / 10 ^ r < B ^ 20 := fun r => Nat.lt_of_le_of_lt (Nat.div_le_self _ _) hm
  have h1 : clN lN [] s0 = SN b M (dz m 0) (lim (m / 10 ^ 0)) none := by
    rw [h0, Nat.pow_zero, Nat.div_one]
    rfl
  have e := Dg.loop_run (body := runN 19 lN []) (clean := clN lN []) (fuel := 1000) (s0 := s0) (S := fun r => SN b M (dz m r) (lim (m / 10 ^ r)) (match r with | 0 => none | r' + 1 => some (m / 10 ^ r' % 10))) (n := n + 1) (by simp) (fun r hr => by
    cases r with
    | zero => exact nr0_19 b M (dz m 0) (m / 10 ^ 0) (m / 10 ^ 1) (m / 10 ^ 0 % 10) rfl (by rw [dz_len]; omega) (hlt 0) (hd 0) rfl
    | succ r => exact nr1_19 b M (dz m (r + 1)) (m / 10 ^ (r + 1)) (m / 10 ^ (r + 2)) (m / 10 ^ (r + 1) % 10) (m / 10 ^ r % 10) (by simp [dz]) (pos_nDigits (by omega) (by omega)) (by rw [dz_len]; omega) (hlt _) (hd (r + 1)) rfl)
    (ne_19 b M (dz m (n + 1)) (m / 10 ^ n % 10) (m / 10 ^ (n + 1)) (by simp [dz]) (by rw [← hn]; exact div_nDigits m)) (by omega) h1
  have e2 : evLoop (runN 19 lN []) (clN lN []) 1000 s0 = some (.exit 0, EN b M (dz m (n + 1)) (lim (m / 10 ^ (n + 1))) (m / 10 ^ n % 10)) := e.trans (by kernel_rfl)
  have e3 : m / 10 ^ (n + 1) = 0 := by rw [← hn]; exact div_nDigits m
  rw [e2, e3, ← hn, dz_all, hn]
  rfl
theorem numloop18 (b : Bool) (M m : Nat) (hm : m < B ^ 20) {s0 : St} (h0 : clN lN [] s0 = SN b M [] (lim m) none) : evLoop (runN 18 lN []) (clN lN []) 1000 s0 = some (.exit 0, EN b M (decZ m) (lim 0) (m / 10 ^ (Lib.nDigits m - 1) % 10)) := by
  obtain ⟨n, hn⟩ : ∃ n, Lib.nDigits m = n + 1 := ⟨Lib.nDigits m - 1, by have := Lib.nDigits_pos m; omega⟩
  have hle := nd_le hm
  have hd : ∀ r, m / 10 ^ (r + 1) = m / 10 ^ r / 10 := fun r => by rw [Nat.div_div_eq_div_mul, Nat.pow_succ]
  have hlt : ∀ r, m / 10 ^ r < B ^ 20 := fun r => Nat.lt_of_le_of_lt (Nat.div_le_self _ _) hm
  have h1 : clN lN [] s0 = SN b M (dz m 0) (lim (m / 10 ^ 0)) none := by
    rw [h0, Nat.pow_zero, Nat.div_one]
    rfl
  have e := Dg.loop_run (body := runN 18 lN []) (clean := clN lN []) (fuel := 1000) (s0 := s0) (S := fun r => SN b M (dz m r) (lim (m / 10 ^ r)) (match r with | 0 => none | r' + 1 => some (m / 10 ^ r' % 10))) (n := n + 1) (by simp) (fun r hr => by
    cases r with
    | zero => exact nr0_18 b M (dz m 0) (m / 10 ^ 0) (m / 10 ^ 1) (m / 10 ^ 0 % 10) rfl (by rw [dz_len]; omega) (hlt 0) (hd 0) rfl
    | succ r => exact nr1_18 b M (dz m (r + 1)) (m / 10 ^ (r + 1)) (m / 10 ^ (r + 2)) (m / 10 ^ (r + 1) % 10) (m / 10 ^ r % 10) (by simp [dz]) (pos_nDigits (by omega) (by omega)) (by rw [dz_len]; omega) (hlt _) (hd (r + 1)) rfl)
    (ne_18 b M (dz m (n + 1)) (m / 10 ^ n % 10) (m / 10 ^ (n + 1)) (by simp [dz]) (by rw [← hn]; exact div_nDigits m)) (by omega) h1
  have e2 : evLoop (runN 18 lN []) (clN lN []) 1000 s0 = some (.exit 0, EN b M (dz m (n + 1)) (lim (m / 10 ^ (n + 1))) (m / 10 ^ n % 10)) := e.trans (by kernel_rfl)
  have e3 : m / 10 ^ (n + 1) = 0 := by rw [← hn]; exact div_nDigits m
  rw [e2, e3, ← hn, dz_all, hn]
  rfl
--< np20
theorem np20 (m : Nat) (zs : List Int) (F : Nat → Int) (w : Nat) (hz : ∀ (s0 : St), clN lN [] s0 = SN false m [] (lim m) none → evLoop (runN 19 lN []) (clN lN []) 1000 s0 = some (Ex.exit 0, EN false m zs F w)) :
    evCall Tryz.prog 0 (bodied Tryz.prog) ov2 sbs 1000 20 7 [num false m] { n := 0, objs := [] } = some (Value.string (txt zs), { n := 0, objs := [] }, []) :=
  Dg.evCall_hint (hs' := []) (hs := [Hint.loop 7 (Ex.exit 0) (EN false m zs F w)])
    [evLoop (runN 19 lN []) (clN lN []) 1000 { ts := [Value.agg { toList := kpN false (lim m) }, Value.pointer (some { block := 0, off := 0 }), Value.string { data := #[] }, Value.string { data := #[] }, undef, undef, undef, Value.pointer (some { block := 0, off := 0 }), Value.bool false, Value.bool false, undef, undef, undef, Value.bool false, undef, undef, undef, undef, undef, undef, undef, undef, undef, undef, undef, undef, undef, undef, undef, undef, undef, undef, undef, undef, undef, undef, undef, undef, undef, undef, undef, undef, undef, undef, undef, undef, undef, undef, undef, undef, undef], H := { n := 1, objs := [AObj.cells [Value.bool false, Value.int IntKind.u64 (lim m 0), Value.int IntKind.u64 (lim m 1), Value.int IntKind.u64 (lim m 2), Value.int IntKind.u64 (lim m 3), Value.int IntKind.u64 (lim m 4), Value.int IntKind.u64 (lim m 5), Value.int IntKind.u64 (lim m 6), Value.int IntKind.u64 (lim m 7), Value.int IntKind.u64 (lim m 8), Value.int IntKind.u64 (lim m 9), Value.int IntKind.u64 (lim m 10), Value.int IntKind.u64 (lim m 11), Value.int IntKind.u64 (lim m 12), Value.int IntKind.u64 (lim m 13), Value.int IntKind.u64 (lim m 14), Value.int IntKind.u64 (lim m 15), Value.int IntKind.u64 (lim m 16), Value.int IntKind.u64 (lim m 17), Value.int IntKind.u64 (lim m 18), Value.int IntKind.u64 (lim m 19)] 30 0 1] }, log := [] } = some (Ex.exit 0, EN false m zs F w)] (by kernel_rfl)
    ⟨hz _ (by kernel_rfl), trivial⟩
--> np20
--< np19
theorem np19 (m : Nat) (zs : List Int) (F : Nat → Int) (w : Nat) (hz : ∀ (s0 : St), clN lN [] s0 = SN false m [] (lim m) none → evLoop (runN 18 lN []) (clN lN []) 1000 s0 = some (Ex.exit 0, EN false m zs F w)) :
    evCall Tryz.prog 0 (bodied Tryz.prog) ov2 sbs 1000 19 7 [num false m] { n := 0, objs := [] } = some (Value.string (txt zs), { n := 0, objs := [] }, []) :=
  Dg.evCall_hint (hs' := []) (hs := [Hint.loop 7 (Ex.exit 0) (EN false m zs F w)])
    [evLoop (runN 18 lN []) (clN lN []) 1000 { ts := [Value.agg { toList := kpN false (lim m) }, Value.pointer (some { block := 0, off := 0 }), Value.string { data := #[] }, Value.string { data := #[] }, undef, undef, undef, Value.pointer (some { block := 0, off := 0 }), Value.bool false, Value.bool false, undef, undef, undef, Value.bool false, undef, undef, undef, undef, undef, undef, undef, undef, undef, undef, undef, undef, undef, undef, undef, undef, undef, undef, undef, undef, undef, undef, undef, undef, undef, undef, undef, undef, undef, undef, undef, undef, undef, undef, undef, undef, undef], H := { n := 1, objs := [AObj.cells [Value.bool false, Value.int IntKind.u64 (lim m 0), Value.int IntKind.u64 (lim m 1), Value.int IntKind.u64 (lim m 2), Value.int IntKind.u64 (lim m 3), Value.int IntKind.u64 (lim m 4), Value.int IntKind.u64 (lim m 5), Value.int IntKind.u64 (lim m 6), Value.int IntKind.u64 (lim m 7), Value.int IntKind.u64 (lim m 8), Value.int IntKind.u64 (lim m 9), Value.int IntKind.u64 (lim m 10), Value.int IntKind.u64 (lim m 11), Value.int IntKind.u64 (lim m 12), Value.int IntKind.u64 (lim m 13), Value.int IntKind.u64 (lim m 14), Value.int IntKind.u64 (lim m 15), Value.int IntKind.u64 (lim m 16), Value.int IntKind.u64 (lim m 17), Value.int IntKind.u64 (lim m 18), Value.int IntKind.u64 (lim m 19)] 30 0 1] }, log := [] } = some (Ex.exit 0, EN false m zs F w)] (by kernel_rfl)
    ⟨hz _ (by kernel_rfl), trivial⟩
--> np19
--< np0
theorem np0 (m : Nat) (zs : List Int) (F : Nat → Int) (w : Nat) (h0 : m = 0) (hz : ∀ (s0 : St), clN lN [] s0 = SN true m [] (lim m) none → evLoop (runN 19 lN []) (clN lN []) 1000 s0 = some (Ex.exit 0, EN true m zs F w)) :
    evCall Tryz.prog 0 (bodied Tryz.prog) ov2 sbs 1000 20 7 [num true m] { n := 0, objs := [] } = some (Value.string (txt zs), { n := 0, objs := [] }, []) :=
  Dg.evCall_hint (hs' := []) (hs := [Hint.call 27 (Value.bool true) { n := 0, objs := [] } [],
    Hint.loop 7 (Ex.exit 0) (EN true m zs F w)])
    [evCall Tryz.prog 0 (bodied Tryz.prog) ov2 sbs 1000 19 27 [Value.agg #[Value.bool true, Value.int IntKind.u64 (lim m 0), Value.int IntKind.u64 (lim m 1), Value.int IntKind.u64 (lim m 2), Value.int IntKind.u64 (lim m 3), Value.int IntKind.u64 (lim m 4), Value.int IntKind.u64 (lim m 5), Value.int IntKind.u64 (lim m 6), Value.int IntKind.u64 (lim m 7), Value.int IntKind.u64 (lim m 8), Value.int IntKind.u64 (lim m 9), Value.int IntKind.u64 (lim m 10), Value.int IntKind.u64 (lim m 11), Value.int IntKind.u64 (lim m 12), Value.int IntKind.u64 (lim m 13), Value.int IntKind.u64 (lim m 14), Value.int IntKind.u64 (lim m 15), Value.int IntKind.u64 (lim m 16), Value.int IntKind.u64 (lim m 17), Value.int IntKind.u64 (lim m 18), Value.int IntKind.u64 (lim m 19)]] { n := 0, objs := [] } = some (Value.bool true, { n := 0, objs := [] }, []),
    evLoop (runN 19 lN []) (clN lN []) 1000 { ts := [Value.agg { toList := kpN true (lim m) }, Value.pointer (some { block := 0, off := 0 }), Value.string { data := #[] }, Value.string { data := #[] }, undef, undef, undef, Value.pointer (some { block := 0, off := 0 }), Value.bool true, Value.bool true, Value.agg #[Value.bool true, Value.int IntKind.u64 (lim m 0), Value.int IntKind.u64 (lim m 1), Value.int IntKind.u64 (lim m 2), Value.int IntKind.u64 (lim m 3), Value.int IntKind.u64 (lim m 4), Value.int IntKind.u64 (lim m 5), Value.int IntKind.u64 (lim m 6), Value.int IntKind.u64 (lim m 7), Value.int IntKind.u64 (lim m 8), Value.int IntKind.u64 (lim m 9), Value.int IntKind.u64 (lim m 10), Value.int IntKind.u64 (lim m 11), Value.int IntKind.u64 (lim m 12), Value.int IntKind.u64 (lim m 13), Value.int IntKind.u64 (lim m 14), Value.int IntKind.u64 (lim m 15), Value.int IntKind.u64 (lim m 16), Value.int IntKind.u64 (lim m 17), Value.int IntKind.u64 (lim m 18), Value.int IntKind.u64 (lim m 19)], Value.bool true, Value.bool false, Value.bool false, undef, undef, undef, undef, undef, undef, undef, undef, undef, undef, undef, undef, undef, undef, undef, undef, undef, undef, undef, undef, undef, undef, undef, undef, undef, undef, undef, undef, undef, undef, undef, undef, undef, undef, undef, undef, undef], H := { n := 1, objs := [AObj.cells [Value.bool true, Value.int IntKind.u64 (lim m 0), Value.int IntKind.u64 (lim m 1), Value.int IntKind.u64 (lim m 2), Value.int IntKind.u64 (lim m 3), Value.int IntKind.u64 (lim m 4), Value.int IntKind.u64 (lim m 5), Value.int IntKind.u64 (lim m 6), Value.int IntKind.u64 (lim m 7), Value.int IntKind.u64 (lim m 8), Value.int IntKind.u64 (lim m 9), Value.int IntKind.u64 (lim m 10), Value.int IntKind.u64 (lim m 11), Value.int IntKind.u64 (lim m 12), Value.int IntKind.u64 (lim m 13), Value.int IntKind.u64 (lim m 14), Value.int IntKind.u64 (lim m 15), Value.int IntKind.u64 (lim m 16), Value.int IntKind.u64 (lim m 17), Value.int IntKind.u64 (lim m 18), Value.int IntKind.u64 (lim m 19)] 30 0 1] }, log := [] } = some (Ex.exit 0, EN true m zs F w)] (by kernel_rfl)
    ⟨Dg.evCall_told (under2 (zero_yes _ h0)), hz _ (by kernel_rfl), trivial⟩
--> np0
--< nneg
theorem nneg (m : Nat) (zs : List Int) (hm : m < B ^ 20) (h0 : 0 < m) (hl : List.length zs ≤ 1000) (hr : evCall Tryz.prog 0 (bodied Tryz.prog) ov2 sbs 1000 19 7 [num false m] { n := 0, objs := [] } = some (Value.string (txt zs), { n := 0, objs := [] }, [])) :
    evCall Tryz.prog 0 (bodied Tryz.prog) ov2 sbs 1000 20 7 [num true m] { n := 0, objs := [] } = some (Value.string (txt (45 :: zs)), { n := 0, objs := [] }, []) :=
  Dg.evCall_hint (hs' := []) (hs := [Hint.call 27 (Value.bool false) { n := 0, objs := [] } [],
    Hint.call 7 (Value.string (txt zs)) { n := 0, objs := [] } [],
    Hint.soft 7 17 (Value.string (txt (45 :: zs)))])
    [evCall Tryz.prog 0 (bodied Tryz.prog) ov2 sbs 1000 19 27 [Value.agg #[Value.bool true, Value.int IntKind.u64 (lim m 0), Value.int IntKind.u64 (lim m 1), Value.int IntKind.u64 (lim m 2), Value.int IntKind.u64 (lim m 3), Value.int IntKind.u64 (lim m 4), Value.int IntKind.u64 (lim m 5), Value.int IntKind.u64 (lim m 6), Value.int IntKind.u64 (lim m 7), Value.int IntKind.u64 (lim m 8), Value.int IntKind.u64 (lim m 9), Value.int IntKind.u64 (lim m 10), Value.int IntKind.u64 (lim m 11), Value.int IntKind.u64 (lim m 12), Value.int IntKind.u64 (lim m 13), Value.int IntKind.u64 (lim m 14), Value.int IntKind.u64 (lim m 15), Value.int IntKind.u64 (lim m 16), Value.int IntKind.u64 (lim m 17), Value.int IntKind.u64 (lim m 18), Value.int IntKind.u64 (lim m 19)]] { n := 0, objs := [] } = some (Value.bool false, { n := 0, objs := [] }, []),
    evCall Tryz.prog 0 (bodied Tryz.prog) ov2 sbs 1000 19 7 [Value.agg #[Value.bool false, Value.int IntKind.u64 (lim m 0), Value.int IntKind.u64 (lim m 1), Value.int IntKind.u64 (lim m 2), Value.int IntKind.u64 (lim m 3), Value.int IntKind.u64 (lim m 4), Value.int IntKind.u64 (lim m 5), Value.int IntKind.u64 (lim m 6), Value.int IntKind.u64 (lim m 7), Value.int IntKind.u64 (lim m 8), Value.int IntKind.u64 (lim m 9), Value.int IntKind.u64 (lim m 10), Value.int IntKind.u64 (lim m 11), Value.int IntKind.u64 (lim m 12), Value.int IntKind.u64 (lim m 13), Value.int IntKind.u64 (lim m 14), Value.int IntKind.u64 (lim m 15), Value.int IntKind.u64 (lim m 16), Value.int IntKind.u64 (lim m 17), Value.int IntKind.u64 (lim m 18), Value.int IntKind.u64 (lim m 19)]] { n := 0, objs := [] } = some (Value.string (txt zs), { n := 0, objs := [] }, []),
    ByteArray.size { data := #[(45 : UInt8)] } + ByteArray.size (txt zs) ≤ (9223372036854775807 : Nat),
    Value.string ({ data := #[(45 : UInt8)] } ++ txt zs) = Value.string (txt ((45 : Int) :: zs))] (by kernel_rfl)
    ⟨Dg.evCall_told (under2 (zero_no _ hm h0)), hr, siz_one (z := 45) hl, cat_one 45 zs, trivial⟩
--> nneg
end Go.Proofs.YtflgpkkbifkpoaaGreatDoor.num

namespace Go.Proofs.YtflgpkkbifkpoaaGreatDoor.num
open Go.Dg (junk St Ex Ev Hint evCall evLoop bodied noOver Flats flatOver Heap AObj lay noO)
set_option linter.unusedVariables false

/-- The text of a number. -/
def decS (b : Bool) (m : Nat) : List Int := if b = true ∧ 0 < m then 45 :: decZ m else decZ m
def L3 : List FuncId := [7]
noncomputable def o3 : FuncId → List Value → Option Value := lay Tryz.prog (bodied Tryz.prog) ov2 sbs 1000 20 L3 o2
noncomputable abbrev ov3 : Ev := flatOver o3
theorem o3_flats : ∀ f args v, o3 f args = some v → Flats Tryz.prog f args v := Dg.lay_flats mixed okB (Dg.flatOver_ok o2_flats) (by kernel_rfl) o2_flats
theorem under3 {f : FuncId} {args : List Value} {v : Value} (h : o2 f args = some v) (hf : L3.contains f = false := by rfl) : o3 f args = some v := Dg.lay_under hf h
theorem decZ_le {m : Nat} (hm : m < B ^ 20) : (decZ m).length ≤ 100 := by rw [decZ_len]; exact nd_le hm
theorem num_told (b : Bool) {m : Nat} (hm : m < B ^ 20) : o3 7 [num b m] = some (.string (txt (decS b m))) := by
  have pos : o3 7 [num false m] = some (.string (txt (decZ m))) := by
    exact Dg.lay_told rfl (np20 m (decZ m) _ _ fun s0 h0 => numloop19 false m m hm h0) (flat1 _ _) rfl
  cases b with
  | false =>
    rw [pos]
    simp [decS]
  | true =>
    rcases Nat.eq_zero_or_pos m with h | h
    · rw [show decS true m = decZ m by simp [decS, h]]
      exact Dg.lay_told rfl (np0 m (decZ m) _ _ h fun s0 h0 => numloop19 true m m hm h0) (flat1 _ _) rfl
    · rw [show decS true m = 45 :: decZ m by simp [decS, h]]
      exact Dg.lay_told rfl (nneg m (decZ m) hm h (by have := decZ_le hm; omega) (np19 m (decZ m) _ _ fun s0 h0 => numloop18 false m m hm h0)) (flat1 _ _) rfl
end Go.Proofs.YtflgpkkbifkpoaaGreatDoor.num
