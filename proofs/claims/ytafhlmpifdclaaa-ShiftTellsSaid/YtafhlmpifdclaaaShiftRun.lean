/- What 'ShiftTells' comes to, at every case of its arguments. -/
import Derived.Test.YtafhlmpifdclaaaRows
import Derived.Test.YtafhlmpifdclaaaShiftPs
namespace Go.Proofs.Ytafhlmpifdclaaa.shift
open Go.Dg (junk St Ex Ev Hint evCall evCallS evCode evCodeS evLoop cleanSt ue bodied noOver sbOf headOf tailOf bodyOf Flats flatOver Heap AObj SCall Law ofLaw)
set_option linter.unusedVariables false
set_option linter.unusedSimpArgs false

noncomputable abbrev ev3 : List Value → Heap → Option (Value × Heap × List Nat) := evCall Try.prog 0 (bodied Try.prog) over3 sbs3 1000 20 3
theorem call8 (H : Heap) : over3 8 [] H = some (.bool true, H, []) := Dg.ofLaw_is u8 ⟨rfl, rfl⟩
section
variable (w lx cx ly cy n e1 e2 : Nat) (b at' : Int) (xs ys : List Int)
def E3 (H : Heap) : St := ⟨[.int .i64 w, .int .i64 b, aX lx cx, aY ly cy, .int .i64 at', undef, undef, undef, undef, undef, .bool false, .int .i64 n, .pointer (some ⟨2, 0, none⟩), .int .i64 0] ++ (js 42 ++ ([.int .i64 n, .int .i64 n, .bool false] ++ js 98)), H, []⟩
def B3 : St := ⟨[.int .i64 w, .int .i64 b, aX lx cx, aY ly cy, .int .i64 at', undef, undef, undef, undef, undef, .bool false, .int .i64 n, .pointer (some ⟨2, 0, none⟩), .int .i64 0] ++ (List.replicate 7 undef ++ ([aX lx cx, .int .i64 lx, aY ly cy, .int .i64 ly, .int .i64 n, .int .i64 n, .bool false, undef, .tuple #[.pointer (some ⟨2, 0, none⟩), .int .i64 0], .int .i64 w, .int .i64 b, .tuple #[.pointer (some ⟨2, 0, none⟩), .int .i64 0], .pointer (some ⟨2, 0, none⟩), .int .i64 0, .int .i64 w, .bool false, .bool false, .int .i64 w, .bool false, .bool false, .bool false, .int .i64 b, .bool false, .bool false] ++ (List.replicate 9 undef ++ ([.int .i64 0, .bool false, .int .i64 n, .int .i64 0] ++ List.replicate 99 undef)))), ⟨3, [D w b (.slice none 0 0) 0, oY ys e2, oX xs e1]⟩, []⟩
theorem stop3 (H : Heap) : run3 ⟨S3 w b at' lx cx ly cy n n 2, H, []⟩ = some (.exit 0, E3 w lx cx ly cy n b at' H) :=
  Dg.evCode_hint (f := 3) (hs := [.val 3 58 (.bool false)]) (hs' := []) [Value.bool (decide ((n : Int) < (n : Int))) = .bool false] (by kernel_rfl) ⟨Dg.vfalse (by omega), trivial⟩
theorem Hd_is (i : Nat) : ∃ H, Hd w lx cx ly cy n e1 e2 b at' xs ys i = ⟨S3 w b at' lx cx ly cy n i 2, H, []⟩ := by cases i <;> exact ⟨_, rfl⟩
def HE : Heap := (Hd w lx cx ly cy n e1 e2 b at' xs ys n).H
theorem loop3 (hw : 0 < w) (hw1 : w ≤ 64) (hb : 0 ≤ b ∧ b < 9223372036854775808) (hn : n ≤ 200) (hlx : n ≤ lx) (hly : n ≤ ly) (hcx : lx ≤ cx) (hcy : ly ≤ cy) (hxl : xs.length = cx) (hyl : ys.length = cy) (hx : ∀ x ∈ xs, In x) :
    evLoop run3 cl3 1000 (B3 w lx cx ly cy n e1 e2 b at' xs ys) = some (.exit 0, E3 w lx cx ly cy n b at' (HE w lx cx ly cy n e1 e2 b at' xs ys)) := by
  refine Dg.loop_run (S := Hd w lx cx ly cy n e1 e2 b at' xs ys) (n := n) (by simp) (fun j hj => round3 w lx cx ly cy n e1 e2 b at' xs ys hw hw1 hb hn hlx hly hcx hcy hxl hyl hx j hj) ?_ (by omega) (by kernel_rfl)
  obtain ⟨H, hH⟩ := Hd_is w lx cx ly cy n e1 e2 b at' xs ys n
  have : HE w lx cx ly cy n e1 e2 b at' xs ys = H := by unfold HE; rw [hH]
  rw [hH, this]
  exact stop3 w lx cx ly cy n b at' H
end
theorem run_XY_many (lx cx ly cy n e1 e2 : Nat) (xs ys : List Int) (hm : n = min lx ly) (w b at' : Int) (hn : 200 < n) :
    ev3 [.int .i64 w, .int .i64 b, aX lx cx, aY ly cy, .int .i64 at'] ⟨2, [oY ys e2, oX xs e1]⟩ = some (.bool true, ⟨2, [oY ys e2, oX xs e1]⟩, []) :=
  Dg.evCall_hint (hs := [.val 3 25 (.int .i64 n), .val 3 27 (.bool true), .call 8 (.bool true) ⟨0, []⟩ []]) (hs' := [])
    [Value.int .i64 (if (ly : Int) < (lx : Int) then (ly : Int) else (lx : Int)) = .int .i64 n,
     Value.bool (decide (n > (200 : Int))) = .bool true,
     evCall Try.prog 0 (bodied Try.prog) over3 sbs3 1000 19 8 [] ⟨0, []⟩ = some (.bool true, ⟨0, []⟩, [])] (by kernel_rfl)
    ⟨by rw [Value.int.injEq]; refine ⟨rfl, ?_⟩; split <;> omega, Dg.vtrue (by omega), Dg.evCall_over (call8 _), trivial⟩
theorem run_XY_low (lx cx ly cy n e1 e2 : Nat) (xs ys : List Int) (hm : n = min lx ly) (w b at' : Int) (hn : n ≤ 200) (hw : w < 1) :
    ev3 [.int .i64 w, .int .i64 b, aX lx cx, aY ly cy, .int .i64 at'] ⟨2, [oY ys e2, oX xs e1]⟩ = some (.bool true, ⟨2, [oY ys e2, oX xs e1]⟩, []) :=
  Dg.evCall_hint (hs := [.val 3 25 (.int .i64 n), .val 3 27 (.bool false), .val 9 7 (.bool true), .val 3 36 (.bool true), .call 8 (.bool true) ⟨0, []⟩ []]) (hs' := [])
    [Value.int .i64 (if (ly : Int) < (lx : Int) then (ly : Int) else (lx : Int)) = .int .i64 n,
     Value.bool (decide ((n : Int) > 200)) = .bool false,
     Value.bool (decide (w < 1)) = .bool true,
     Value.bool (decide (w < 1)) = .bool true,
     evCall Try.prog 0 (bodied Try.prog) over3 sbs3 1000 19 8 [] ⟨0, []⟩ = some (.bool true, ⟨0, []⟩, [])] (by kernel_rfl)
    ⟨by rw [Value.int.injEq]; refine ⟨rfl, ?_⟩; split <;> omega, Dg.vfalse (by omega), Dg.vtrue (by omega), Dg.vtrue (by omega), Dg.evCall_over (call8 _), trivial⟩
theorem run_XY_high (lx cx ly cy n e1 e2 : Nat) (xs ys : List Int) (hm : n = min lx ly) (w b at' : Int) (hn : n ≤ 200) (hw : 64 < w) :
    ev3 [.int .i64 w, .int .i64 b, aX lx cx, aY ly cy, .int .i64 at'] ⟨2, [oY ys e2, oX xs e1]⟩ = some (.bool true, ⟨2, [oY ys e2, oX xs e1]⟩, []) :=
  Dg.evCall_hint (hs := [.val 3 25 (.int .i64 n), .val 3 27 (.bool false), .val 9 7 (.bool false), .val 9 10 (.bool true), .val 3 36 (.bool false), .val 3 39 (.bool true), .call 8 (.bool true) ⟨0, []⟩ []]) (hs' := [])
    [Value.int .i64 (if (ly : Int) < (lx : Int) then (ly : Int) else (lx : Int)) = .int .i64 n,
     Value.bool (decide ((n : Int) > 200)) = .bool false,
     Value.bool (decide (w < 1)) = .bool false,
     Value.bool (decide (w > 64)) = .bool true,
     Value.bool (decide (w < 1)) = .bool false,
     Value.bool (decide (w > 64)) = .bool true,
     evCall Try.prog 0 (bodied Try.prog) over3 sbs3 1000 19 8 [] ⟨0, []⟩ = some (.bool true, ⟨0, []⟩, [])] (by kernel_rfl)
    ⟨by rw [Value.int.injEq]; refine ⟨rfl, ?_⟩; split <;> omega, Dg.vfalse (by omega), Dg.vfalse (by omega), Dg.vtrue (by omega), Dg.vfalse (by omega), Dg.vtrue (by omega), Dg.evCall_over (call8 _), trivial⟩
theorem run_XY_neg (lx cx ly cy n e1 e2 : Nat) (xs ys : List Int) (hm : n = min lx ly) (w b at' : Int) (hn : n ≤ 200) (hw : 1 ≤ w) (hw1 : w ≤ 64) (hb : b < 0) :
    ev3 [.int .i64 w, .int .i64 b, aX lx cx, aY ly cy, .int .i64 at'] ⟨2, [oY ys e2, oX xs e1]⟩ = some (.bool true, ⟨2, [oY ys e2, oX xs e1]⟩, []) :=
  Dg.evCall_hint (hs := [.val 3 25 (.int .i64 n), .val 3 27 (.bool false), .val 9 7 (.bool false), .val 9 10 (.bool false), .val 9 14 (.bool true), .val 3 36 (.bool false), .val 3 39 (.bool false), .val 3 43 (.bool true), .call 8 (.bool true) ⟨0, []⟩ []]) (hs' := [])
    [Value.int .i64 (if (ly : Int) < (lx : Int) then (ly : Int) else (lx : Int)) = .int .i64 n,
     Value.bool (decide ((n : Int) > 200)) = .bool false,
     Value.bool (decide (w < 1)) = .bool false,
     Value.bool (decide (w > 64)) = .bool false,
     Value.bool (decide (b < 0)) = .bool true,
     Value.bool (decide (w < 1)) = .bool false,
     Value.bool (decide (w > 64)) = .bool false,
     Value.bool (decide (b < 0)) = .bool true,
     evCall Try.prog 0 (bodied Try.prog) over3 sbs3 1000 19 8 [] ⟨0, []⟩ = some (.bool true, ⟨0, []⟩, [])] (by kernel_rfl)
    ⟨by rw [Value.int.injEq]; refine ⟨rfl, ?_⟩; split <;> omega, Dg.vfalse (by omega), Dg.vfalse (by omega), Dg.vfalse (by omega), Dg.vtrue (by omega), Dg.vfalse (by omega), Dg.vfalse (by omega), Dg.vtrue (by omega), Dg.evCall_over (call8 _), trivial⟩
theorem run_XY_ok_zero (lx cx ly cy e1 e2 : Nat) (xs ys : List Int) (hm : 0 = min lx ly) (w : Nat) (b at' : Int) (hn : 0 ≤ 200) (hw : 0 < w) (hw1 : w ≤ 64) (hb : 0 ≤ b ∧ b < 9223372036854775808) (hcx : lx ≤ cx) (hcy : ly ≤ cy) (hxl : xs.length = cx) (hyl : ys.length = cy) (hx : ∀ x ∈ xs, In x) :
    ev3 [.int .i64 (w : Int), .int .i64 b, aX lx cx, aY ly cy, .int .i64 at'] ⟨2, [oY ys e2, oX xs e1]⟩ = some (.bool true, ⟨2, [oY ys e2, oX xs e1]⟩, []) :=
  Dg.evCall_hint (hs := [.val 3 25 (.int .i64 0), .val 3 27 (.bool false), .val 9 7 (.bool false), .val 9 10 (.bool false), .val 9 14 (.bool false), .val 3 36 (.bool false), .val 3 39 (.bool false), .val 3 43 (.bool false), .loop 3 (.exit 0) (E3 w lx cx ly cy 0 b at' (HE w lx cx ly cy 0 e1 e2 b at' xs ys)), .call 8 (.bool true) ⟨0, []⟩ []]) (hs' := [])
    [Value.int .i64 (if (ly : Int) < (lx : Int) then (ly : Int) else (lx : Int)) = .int .i64 0,
     Value.bool (decide (((0 : Nat) : Int) > 200)) = .bool false,
     Value.bool (decide ((w : Int) < 1)) = .bool false,
     Value.bool (decide ((w : Int) > 64)) = .bool false,
     Value.bool (decide (b < 0)) = .bool false,
     Value.bool (decide ((w : Int) < 1)) = .bool false,
     Value.bool (decide ((w : Int) > 64)) = .bool false,
     Value.bool (decide (b < 0)) = .bool false,
     evLoop run3 cl3 1000 (B3 w lx cx ly cy 0 e1 e2 b at' xs ys) = some (.exit 0, E3 w lx cx ly cy 0 b at' (HE w lx cx ly cy 0 e1 e2 b at' xs ys)),
     evCall Try.prog 0 (bodied Try.prog) over3 sbs3 1000 19 8 [] ⟨0, []⟩ = some (.bool true, ⟨0, []⟩, [])] (by kernel_rfl)
    ⟨by rw [Value.int.injEq]; refine ⟨rfl, ?_⟩; split <;> omega, Dg.vfalse (by omega), Dg.vfalse (by omega), Dg.vfalse (by omega), Dg.vfalse (by omega), Dg.vfalse (by omega), Dg.vfalse (by omega), Dg.vfalse (by omega), loop3 w lx cx ly cy 0 e1 e2 b at' xs ys hw hw1 hb hn (by omega) (by omega) hcx hcy hxl hyl hx, Dg.evCall_over (call8 _), trivial⟩
theorem run_XY_ok_more (lx cx ly cy m e1 e2 : Nat) (xs ys : List Int) (hm : (m + 1) = min lx ly) (w : Nat) (b at' : Int) (hn : (m + 1) ≤ 200) (hw : 0 < w) (hw1 : w ≤ 64) (hb : 0 ≤ b ∧ b < 9223372036854775808) (hcx : lx ≤ cx) (hcy : ly ≤ cy) (hxl : xs.length = cx) (hyl : ys.length = cy) (hx : ∀ x ∈ xs, In x) :
    ev3 [.int .i64 (w : Int), .int .i64 b, aX lx cx, aY ly cy, .int .i64 at'] ⟨2, [oY ys e2, oX xs e1]⟩ = some (.bool true, ⟨2, [oY ys e2, oX xs e1]⟩, []) :=
  Dg.evCall_hint (hs := [.val 3 25 (.int .i64 (m + 1)), .val 3 27 (.bool false), .val 9 7 (.bool false), .val 9 10 (.bool false), .val 9 14 (.bool false), .val 3 36 (.bool false), .val 3 39 (.bool false), .val 3 43 (.bool false), .loop 3 (.exit 0) (E3 w lx cx ly cy (m + 1) b at' (HE w lx cx ly cy (m + 1) e1 e2 b at' xs ys)), .call 8 (.bool true) ⟨0, []⟩ []]) (hs' := [])
    [Value.int .i64 (if (ly : Int) < (lx : Int) then (ly : Int) else (lx : Int)) = .int .i64 (m + 1),
     Value.bool (decide ((((m + 1) : Nat) : Int) > 200)) = .bool false,
     Value.bool (decide ((w : Int) < 1)) = .bool false,
     Value.bool (decide ((w : Int) > 64)) = .bool false,
     Value.bool (decide (b < 0)) = .bool false,
     Value.bool (decide ((w : Int) < 1)) = .bool false,
     Value.bool (decide ((w : Int) > 64)) = .bool false,
     Value.bool (decide (b < 0)) = .bool false,
     evLoop run3 cl3 1000 (B3 w lx cx ly cy (m + 1) e1 e2 b at' xs ys) = some (.exit 0, E3 w lx cx ly cy (m + 1) b at' (HE w lx cx ly cy (m + 1) e1 e2 b at' xs ys)),
     evCall Try.prog 0 (bodied Try.prog) over3 sbs3 1000 19 8 [] ⟨0, []⟩ = some (.bool true, ⟨0, []⟩, [])] (by kernel_rfl)
    ⟨by rw [Value.int.injEq]; refine ⟨rfl, ?_⟩; split <;> omega, Dg.vfalse (by omega), Dg.vfalse (by omega), Dg.vfalse (by omega), Dg.vfalse (by omega), Dg.vfalse (by omega), Dg.vfalse (by omega), Dg.vfalse (by omega), loop3 w lx cx ly cy (m + 1) e1 e2 b at' xs ys hw hw1 hb hn (by omega) (by omega) hcx hcy hxl hyl hx, Dg.evCall_over (call8 _), trivial⟩
theorem run_NY_low (ly cy e2 : Nat) (ys : List Int) (w b at' : Int) (hw : w < 1) :
    ev3 [.int .i64 w, .int .i64 b, .slice none 0 0, aX ly cy, .int .i64 at'] ⟨1, [oX ys e2]⟩ = some (.bool true, ⟨1, [oX ys e2]⟩, []) :=
  Dg.evCall_hint (hs := [.val 3 25 (.int .i64 0), .val 9 7 (.bool true), .val 3 36 (.bool true), .call 8 (.bool true) ⟨0, []⟩ []]) (hs' := [])
    [Value.int .i64 (if (ly : Int) < (0 : Int) then (ly : Int) else (0 : Int)) = .int .i64 0,
     Value.bool (decide (w < 1)) = .bool true,
     Value.bool (decide (w < 1)) = .bool true,
     evCall Try.prog 0 (bodied Try.prog) over3 sbs3 1000 19 8 [] ⟨0, []⟩ = some (.bool true, ⟨0, []⟩, [])] (by kernel_rfl)
    ⟨by rw [Value.int.injEq]; refine ⟨rfl, ?_⟩; split <;> omega, Dg.vtrue (by omega), Dg.vtrue (by omega), Dg.evCall_over (call8 _), trivial⟩
theorem run_NY_high (ly cy e2 : Nat) (ys : List Int) (w b at' : Int) (hw : 64 < w) :
    ev3 [.int .i64 w, .int .i64 b, .slice none 0 0, aX ly cy, .int .i64 at'] ⟨1, [oX ys e2]⟩ = some (.bool true, ⟨1, [oX ys e2]⟩, []) :=
  Dg.evCall_hint (hs := [.val 3 25 (.int .i64 0), .val 9 7 (.bool false), .val 9 10 (.bool true), .val 3 36 (.bool false), .val 3 39 (.bool true), .call 8 (.bool true) ⟨0, []⟩ []]) (hs' := [])
    [Value.int .i64 (if (ly : Int) < (0 : Int) then (ly : Int) else (0 : Int)) = .int .i64 0,
     Value.bool (decide (w < 1)) = .bool false,
     Value.bool (decide (w > 64)) = .bool true,
     Value.bool (decide (w < 1)) = .bool false,
     Value.bool (decide (w > 64)) = .bool true,
     evCall Try.prog 0 (bodied Try.prog) over3 sbs3 1000 19 8 [] ⟨0, []⟩ = some (.bool true, ⟨0, []⟩, [])] (by kernel_rfl)
    ⟨by rw [Value.int.injEq]; refine ⟨rfl, ?_⟩; split <;> omega, Dg.vfalse (by omega), Dg.vtrue (by omega), Dg.vfalse (by omega), Dg.vtrue (by omega), Dg.evCall_over (call8 _), trivial⟩
theorem run_NY_neg (ly cy e2 : Nat) (ys : List Int) (w b at' : Int) (hw : 1 ≤ w) (hw1 : w ≤ 64) (hb : b < 0) :
    ev3 [.int .i64 w, .int .i64 b, .slice none 0 0, aX ly cy, .int .i64 at'] ⟨1, [oX ys e2]⟩ = some (.bool true, ⟨1, [oX ys e2]⟩, []) :=
  Dg.evCall_hint (hs := [.val 3 25 (.int .i64 0), .val 9 7 (.bool false), .val 9 10 (.bool false), .val 9 14 (.bool true), .val 3 36 (.bool false), .val 3 39 (.bool false), .val 3 43 (.bool true), .call 8 (.bool true) ⟨0, []⟩ []]) (hs' := [])
    [Value.int .i64 (if (ly : Int) < (0 : Int) then (ly : Int) else (0 : Int)) = .int .i64 0,
     Value.bool (decide (w < 1)) = .bool false,
     Value.bool (decide (w > 64)) = .bool false,
     Value.bool (decide (b < 0)) = .bool true,
     Value.bool (decide (w < 1)) = .bool false,
     Value.bool (decide (w > 64)) = .bool false,
     Value.bool (decide (b < 0)) = .bool true,
     evCall Try.prog 0 (bodied Try.prog) over3 sbs3 1000 19 8 [] ⟨0, []⟩ = some (.bool true, ⟨0, []⟩, [])] (by kernel_rfl)
    ⟨by rw [Value.int.injEq]; refine ⟨rfl, ?_⟩; split <;> omega, Dg.vfalse (by omega), Dg.vfalse (by omega), Dg.vtrue (by omega), Dg.vfalse (by omega), Dg.vfalse (by omega), Dg.vtrue (by omega), Dg.evCall_over (call8 _), trivial⟩
theorem run_NY_ok (ly cy e2 : Nat) (ys : List Int) (w : Nat) (b at' : Int) (hw : 0 < w) (hw1 : w ≤ 64) (hb : 0 ≤ b ∧ b < 9223372036854775808) :
    ev3 [.int .i64 (w : Int), .int .i64 b, .slice none 0 0, aX ly cy, .int .i64 at'] ⟨1, [oX ys e2]⟩ = some (.bool true, ⟨1, [oX ys e2]⟩, []) :=
  Dg.evCall_hint (hs := [.val 3 25 (.int .i64 0), .val 9 7 (.bool false), .val 9 10 (.bool false), .val 9 14 (.bool false), .val 3 36 (.bool false), .val 3 39 (.bool false), .val 3 43 (.bool false), .call 8 (.bool true) ⟨0, []⟩ []]) (hs' := [])
    [Value.int .i64 (if (ly : Int) < (0 : Int) then (ly : Int) else (0 : Int)) = .int .i64 0,
     Value.bool (decide ((w : Int) < 1)) = .bool false,
     Value.bool (decide ((w : Int) > 64)) = .bool false,
     Value.bool (decide (b < 0)) = .bool false,
     Value.bool (decide ((w : Int) < 1)) = .bool false,
     Value.bool (decide ((w : Int) > 64)) = .bool false,
     Value.bool (decide (b < 0)) = .bool false,
     evCall Try.prog 0 (bodied Try.prog) over3 sbs3 1000 19 8 [] ⟨0, []⟩ = some (.bool true, ⟨0, []⟩, [])] (by kernel_rfl)
    ⟨by rw [Value.int.injEq]; refine ⟨rfl, ?_⟩; split <;> omega, Dg.vfalse (by omega), Dg.vfalse (by omega), Dg.vfalse (by omega), Dg.vfalse (by omega), Dg.vfalse (by omega), Dg.vfalse (by omega), Dg.evCall_over (call8 _), trivial⟩
theorem run_XN_low (lx cx e1 : Nat) (xs : List Int) (w b at' : Int) (hw : w < 1) :
    ev3 [.int .i64 w, .int .i64 b, aX lx cx, .slice none 0 0, .int .i64 at'] ⟨1, [oX xs e1]⟩ = some (.bool true, ⟨1, [oX xs e1]⟩, []) :=
  Dg.evCall_hint (hs := [.val 3 25 (.int .i64 0), .val 9 7 (.bool true), .val 3 36 (.bool true), .call 8 (.bool true) ⟨0, []⟩ []]) (hs' := [])
    [Value.int .i64 (if (0 : Int) < (lx : Int) then (0 : Int) else (lx : Int)) = .int .i64 0,
     Value.bool (decide (w < 1)) = .bool true,
     Value.bool (decide (w < 1)) = .bool true,
     evCall Try.prog 0 (bodied Try.prog) over3 sbs3 1000 19 8 [] ⟨0, []⟩ = some (.bool true, ⟨0, []⟩, [])] (by kernel_rfl)
    ⟨by rw [Value.int.injEq]; refine ⟨rfl, ?_⟩; split <;> omega, Dg.vtrue (by omega), Dg.vtrue (by omega), Dg.evCall_over (call8 _), trivial⟩
theorem run_XN_high (lx cx e1 : Nat) (xs : List Int) (w b at' : Int) (hw : 64 < w) :
    ev3 [.int .i64 w, .int .i64 b, aX lx cx, .slice none 0 0, .int .i64 at'] ⟨1, [oX xs e1]⟩ = some (.bool true, ⟨1, [oX xs e1]⟩, []) :=
  Dg.evCall_hint (hs := [.val 3 25 (.int .i64 0), .val 9 7 (.bool false), .val 9 10 (.bool true), .val 3 36 (.bool false), .val 3 39 (.bool true), .call 8 (.bool true) ⟨0, []⟩ []]) (hs' := [])
    [Value.int .i64 (if (0 : Int) < (lx : Int) then (0 : Int) else (lx : Int)) = .int .i64 0,
     Value.bool (decide (w < 1)) = .bool false,
     Value.bool (decide (w > 64)) = .bool true,
     Value.bool (decide (w < 1)) = .bool false,
     Value.bool (decide (w > 64)) = .bool true,
     evCall Try.prog 0 (bodied Try.prog) over3 sbs3 1000 19 8 [] ⟨0, []⟩ = some (.bool true, ⟨0, []⟩, [])] (by kernel_rfl)
    ⟨by rw [Value.int.injEq]; refine ⟨rfl, ?_⟩; split <;> omega, Dg.vfalse (by omega), Dg.vtrue (by omega), Dg.vfalse (by omega), Dg.vtrue (by omega), Dg.evCall_over (call8 _), trivial⟩
theorem run_XN_neg (lx cx e1 : Nat) (xs : List Int) (w b at' : Int) (hw : 1 ≤ w) (hw1 : w ≤ 64) (hb : b < 0) :
    ev3 [.int .i64 w, .int .i64 b, aX lx cx, .slice none 0 0, .int .i64 at'] ⟨1, [oX xs e1]⟩ = some (.bool true, ⟨1, [oX xs e1]⟩, []) :=
  Dg.evCall_hint (hs := [.val 3 25 (.int .i64 0), .val 9 7 (.bool false), .val 9 10 (.bool false), .val 9 14 (.bool true), .val 3 36 (.bool false), .val 3 39 (.bool false), .val 3 43 (.bool true), .call 8 (.bool true) ⟨0, []⟩ []]) (hs' := [])
    [Value.int .i64 (if (0 : Int) < (lx : Int) then (0 : Int) else (lx : Int)) = .int .i64 0,
     Value.bool (decide (w < 1)) = .bool false,
     Value.bool (decide (w > 64)) = .bool false,
     Value.bool (decide (b < 0)) = .bool true,
     Value.bool (decide (w < 1)) = .bool false,
     Value.bool (decide (w > 64)) = .bool false,
     Value.bool (decide (b < 0)) = .bool true,
     evCall Try.prog 0 (bodied Try.prog) over3 sbs3 1000 19 8 [] ⟨0, []⟩ = some (.bool true, ⟨0, []⟩, [])] (by kernel_rfl)
    ⟨by rw [Value.int.injEq]; refine ⟨rfl, ?_⟩; split <;> omega, Dg.vfalse (by omega), Dg.vfalse (by omega), Dg.vtrue (by omega), Dg.vfalse (by omega), Dg.vfalse (by omega), Dg.vtrue (by omega), Dg.evCall_over (call8 _), trivial⟩
theorem run_XN_ok (lx cx e1 : Nat) (xs : List Int) (w : Nat) (b at' : Int) (hw : 0 < w) (hw1 : w ≤ 64) (hb : 0 ≤ b ∧ b < 9223372036854775808) :
    ev3 [.int .i64 (w : Int), .int .i64 b, aX lx cx, .slice none 0 0, .int .i64 at'] ⟨1, [oX xs e1]⟩ = some (.bool true, ⟨1, [oX xs e1]⟩, []) :=
  Dg.evCall_hint (hs := [.val 3 25 (.int .i64 0), .val 9 7 (.bool false), .val 9 10 (.bool false), .val 9 14 (.bool false), .val 3 36 (.bool false), .val 3 39 (.bool false), .val 3 43 (.bool false), .call 8 (.bool true) ⟨0, []⟩ []]) (hs' := [])
    [Value.int .i64 (if (0 : Int) < (lx : Int) then (0 : Int) else (lx : Int)) = .int .i64 0,
     Value.bool (decide ((w : Int) < 1)) = .bool false,
     Value.bool (decide ((w : Int) > 64)) = .bool false,
     Value.bool (decide (b < 0)) = .bool false,
     Value.bool (decide ((w : Int) < 1)) = .bool false,
     Value.bool (decide ((w : Int) > 64)) = .bool false,
     Value.bool (decide (b < 0)) = .bool false,
     evCall Try.prog 0 (bodied Try.prog) over3 sbs3 1000 19 8 [] ⟨0, []⟩ = some (.bool true, ⟨0, []⟩, [])] (by kernel_rfl)
    ⟨by rw [Value.int.injEq]; refine ⟨rfl, ?_⟩; split <;> omega, Dg.vfalse (by omega), Dg.vfalse (by omega), Dg.vfalse (by omega), Dg.vfalse (by omega), Dg.vfalse (by omega), Dg.vfalse (by omega), Dg.evCall_over (call8 _), trivial⟩
theorem run_NN_low  (w b at' : Int) (hw : w < 1) :
    ev3 [.int .i64 w, .int .i64 b, .slice none 0 0, .slice none 0 0, .int .i64 at'] ⟨0, []⟩ = some (.bool true, ⟨0, []⟩, []) :=
  Dg.evCall_hint (hs := [.val 3 25 (.int .i64 0), .val 9 7 (.bool true), .val 3 36 (.bool true), .call 8 (.bool true) ⟨0, []⟩ []]) (hs' := [])
    [Value.int .i64 (if (0 : Int) < (0 : Int) then (0 : Int) else (0 : Int)) = .int .i64 0,
     Value.bool (decide (w < 1)) = .bool true,
     Value.bool (decide (w < 1)) = .bool true,
     evCall Try.prog 0 (bodied Try.prog) over3 sbs3 1000 19 8 [] ⟨0, []⟩ = some (.bool true, ⟨0, []⟩, [])] (by kernel_rfl)
    ⟨rfl, Dg.vtrue (by omega), Dg.vtrue (by omega), Dg.evCall_over (call8 _), trivial⟩
theorem run_NN_high  (w b at' : Int) (hw : 64 < w) :
    ev3 [.int .i64 w, .int .i64 b, .slice none 0 0, .slice none 0 0, .int .i64 at'] ⟨0, []⟩ = some (.bool true, ⟨0, []⟩, []) :=
  Dg.evCall_hint (hs := [.val 3 25 (.int .i64 0), .val 9 7 (.bool false), .val 9 10 (.bool true), .val 3 36 (.bool false), .val 3 39 (.bool true), .call 8 (.bool true) ⟨0, []⟩ []]) (hs' := [])
    [Value.int .i64 (if (0 : Int) < (0 : Int) then (0 : Int) else (0 : Int)) = .int .i64 0,
     Value.bool (decide (w < 1)) = .bool false,
     Value.bool (decide (w > 64)) = .bool true,
     Value.bool (decide (w < 1)) = .bool false,
     Value.bool (decide (w > 64)) = .bool true,
     evCall Try.prog 0 (bodied Try.prog) over3 sbs3 1000 19 8 [] ⟨0, []⟩ = some (.bool true, ⟨0, []⟩, [])] (by kernel_rfl)
    ⟨rfl, Dg.vfalse (by omega), Dg.vtrue (by omega), Dg.vfalse (by omega), Dg.vtrue (by omega), Dg.evCall_over (call8 _), trivial⟩
theorem run_NN_neg  (w b at' : Int) (hw : 1 ≤ w) (hw1 : w ≤ 64) (hb : b < 0) :
    ev3 [.int .i64 w, .int .i64 b, .slice none 0 0, .slice none 0 0, .int .i64 at'] ⟨0, []⟩ = some (.bool true, ⟨0, []⟩, []) :=
  Dg.evCall_hint (hs := [.val 3 25 (.int .i64 0), .val 9 7 (.bool false), .val 9 10 (.bool false), .val 9 14 (.bool true), .val 3 36 (.bool false), .val 3 39 (.bool false), .val 3 43 (.bool true), .call 8 (.bool true) ⟨0, []⟩ []]) (hs' := [])
    [Value.int .i64 (if (0 : Int) < (0 : Int) then (0 : Int) else (0 : Int)) = .int .i64 0,
     Value.bool (decide (w < 1)) = .bool false,
     Value.bool (decide (w > 64)) = .bool false,
     Value.bool (decide (b < 0)) = .bool true,
     Value.bool (decide (w < 1)) = .bool false,
     Value.bool (decide (w > 64)) = .bool false,
     Value.bool (decide (b < 0)) = .bool true,
     evCall Try.prog 0 (bodied Try.prog) over3 sbs3 1000 19 8 [] ⟨0, []⟩ = some (.bool true, ⟨0, []⟩, [])] (by kernel_rfl)
    ⟨rfl, Dg.vfalse (by omega), Dg.vfalse (by omega), Dg.vtrue (by omega), Dg.vfalse (by omega), Dg.vfalse (by omega), Dg.vtrue (by omega), Dg.evCall_over (call8 _), trivial⟩
theorem run_NN_ok  (w : Nat) (b at' : Int) (hw : 0 < w) (hw1 : w ≤ 64) (hb : 0 ≤ b ∧ b < 9223372036854775808) :
    ev3 [.int .i64 (w : Int), .int .i64 b, .slice none 0 0, .slice none 0 0, .int .i64 at'] ⟨0, []⟩ = some (.bool true, ⟨0, []⟩, []) :=
  Dg.evCall_hint (hs := [.val 3 25 (.int .i64 0), .val 9 7 (.bool false), .val 9 10 (.bool false), .val 9 14 (.bool false), .val 3 36 (.bool false), .val 3 39 (.bool false), .val 3 43 (.bool false), .call 8 (.bool true) ⟨0, []⟩ []]) (hs' := [])
    [Value.int .i64 (if (0 : Int) < (0 : Int) then (0 : Int) else (0 : Int)) = .int .i64 0,
     Value.bool (decide ((w : Int) < 1)) = .bool false,
     Value.bool (decide ((w : Int) > 64)) = .bool false,
     Value.bool (decide (b < 0)) = .bool false,
     Value.bool (decide ((w : Int) < 1)) = .bool false,
     Value.bool (decide ((w : Int) > 64)) = .bool false,
     Value.bool (decide (b < 0)) = .bool false,
     evCall Try.prog 0 (bodied Try.prog) over3 sbs3 1000 19 8 [] ⟨0, []⟩ = some (.bool true, ⟨0, []⟩, [])] (by kernel_rfl)
    ⟨rfl, Dg.vfalse (by omega), Dg.vfalse (by omega), Dg.vfalse (by omega), Dg.vfalse (by omega), Dg.vfalse (by omega), Dg.vfalse (by omega), Dg.evCall_over (call8 _), trivial⟩
end Go.Proofs.Ytafhlmpifdclaaa.shift
