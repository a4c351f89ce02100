/- Are words more than are gone through? (under the oracle of FaultBuilds) -/
import Derived.Test.YtpgddboigegplaaGreatDoorRows
import Derived.Test.YtpgddboigegplaaGreatDoorFHeavy
import Derived.Test.YtpgddboigegplaaGreatDoorFO
namespace Go.Proofs.YtpgddboigegplaaGreatDoor.hvb
open Go.Proofs.YtpgddboigegplaaGreatDoor.base (sbs mixed okB js ovB evB aW oW WsOk ws_get sumW)
open Go.Dg (junk St Ex Ev Hint evCall evCallS evCode evCodeK innerKp evCodeS evLoop cleanSt ue bodied noOver sbOf headOf tailOf bodyOf rAssign rBody lBody Flats flatOver Heap AObj SCall Law ofLaw Fix)
set_option linter.unusedVariables false
set_option linter.unusedSimpArgs false

noncomputable def lH : Code := lBody ((Tryz.f8.body).getD .skip)
noncomputable abbrev runH (lf : Nat) : St → Option (Ex × St) := evCode Tryz.prog 15 (bodied Tryz.prog) (evCall Tryz.prog 15 (bodied Tryz.prog) ovB sbs lf 18) 18 6 lf lH
noncomputable abbrev clH : St → St := cleanSt 18 6 (ue lH [] []).1
def TH (l cap : Nat) (n : Int) (w : Value) (i : Nat) : List Value := [aW l cap, undef, .bool false, .int .i64 n, undef, w, aW l cap, .int .i64 l, .int .i64 i] ++ js 15
def Ha (r0 : List AObj) (ys : List Value) (e l cap : Nat) : St := ⟨TH l cap 0 undef 0, (⟨18, oW ys e :: r0⟩ : Heap), []⟩
def Hb (r0 : List AObj) (ys : List Value) (e l cap : Nat) (n : Int) (w : ByteArray) (i : Nat) : St := ⟨TH l cap n (.string w) i, (⟨18, oW ys e :: r0⟩ : Heap), []⟩
--< haA
theorem haA (lf : Nat) (r0 : List AObj) (ys : List Value) (e : Nat) (l : Nat) (cap : Nat) (w : ByteArray) (hw : ys[0]? = some (Value.string w)) (hi : 0 < l) (hl : l ≤ 9223372036854775807) :
    ∃ s', (runH lf) (Ha r0 ys e l cap) = some (Ex.normal, s') ∧ clH s' = Hb r0 ys e l cap (IntKind.wrap IntKind.i64 (0 + (↑(ByteArray.size w) : Int))) w 1 :=
  Dg.code_round (f := 8) clH (hs := [Hint.val 8 9 (Value.bool true),
    Hint.soft 8 10 (Value.pointer (some { block := 17, off := 0 })),
    Hint.soft 8 11 (Value.string w),
    Hint.val 8 15 (Value.int IntKind.i64 (IntKind.wrap IntKind.i64 (0 + (↑(ByteArray.size w) : Int))))])
    [Value.bool (decide ((↑(0 : Nat) : Int) < (↑l : Int))) = Value.bool true,
    (0 : Int) ≤ (↑(0 : Nat) : Int) ∧ (↑(0 : Nat) : Int) < (↑l : Int),
    Value.pointer (some { block := (17 : Nat), off := (0 : Nat) }) = Value.pointer (some { block := (17 : Nat), off := (0 : Nat) }),
    ys[(0 : Nat)]? = some (Value.string w),
    Value.int IntKind.i64 (IntKind.wrap IntKind.i64 ((0 : Int) + (↑(ByteArray.size w) : Int))) = Value.int IntKind.i64 (IntKind.wrap IntKind.i64 ((0 : Int) + (↑(ByteArray.size w) : Int)))] (by kernel_rfl)
    ⟨Dg.vtrue (by omega), by omega, rfl, hw, rfl, trivial⟩
--> haA
--< hbA
theorem hbA (lf : Nat) (r0 : List AObj) (ys : List Value) (e : Nat) (l : Nat) (cap : Nat) (n : Int) (v : ByteArray) (i : Nat) (w : ByteArray) (hw : ys[i + 1]? = some (Value.string w)) (hi : i + 1 < l) (hl : l ≤ 9223372036854775807) :
    ∃ s', (runH lf) (Hb r0 ys e l cap n v (i + 1)) = some (Ex.normal, s') ∧ clH s' = Hb r0 ys e l cap (IntKind.wrap IntKind.i64 (n + (↑(ByteArray.size w) : Int))) w (i + 1 + 1) :=
  Dg.code_round (f := 8) clH (hs := [Hint.val 8 9 (Value.bool true),
    Hint.soft 8 10 (Value.pointer (some { block := 17, off := i + 1 })),
    Hint.soft 8 11 (Value.string w),
    Hint.val 8 15 (Value.int IntKind.i64 (IntKind.wrap IntKind.i64 (n + (↑(ByteArray.size w) : Int)))),
    Hint.val 8 16 (Value.int IntKind.i64 ((↑(i + 1) : Int) + 1))])
    [Value.bool (decide ((↑(i + (1 : Nat)) : Int) < (↑l : Int))) = Value.bool true,
    (0 : Int) ≤ (↑(i + (1 : Nat)) : Int) ∧ (↑(i + (1 : Nat)) : Int) < (↑l : Int),
    Value.pointer (some { block := (17 : Nat), off := (0 : Nat) + Int.toNat (↑(i + (1 : Nat)) : Int) * (1 : Nat) }) = Value.pointer (some { block := (17 : Nat), off := i + (1 : Nat) }),
    ys[i + (1 : Nat)]? = some (Value.string w),
    Value.int IntKind.i64 (IntKind.wrap IntKind.i64 (n + (↑(ByteArray.size w) : Int))) = Value.int IntKind.i64 (IntKind.wrap IntKind.i64 (n + (↑(ByteArray.size w) : Int))),
    Value.int IntKind.i64 (IntKind.wrap IntKind.i64 ((↑(i + (1 : Nat)) : Int) + (1 : Int))) = Value.int IntKind.i64 ((↑(i + (1 : Nat)) : Int) + (1 : Int))] (by kernel_rfl)
    ⟨Dg.vtrue (by omega), by omega, Dg.ptr_eq (by omega), hw, rfl, Dg.i64_eq rfl (by omega) (by omega), trivial⟩
--> hbA
--< haC
theorem haC (lf : Nat) (r0 : List AObj) (ys : List Value) (e : Nat) (l : Nat) (cap : Nat) (h0 : l = 0) :
    (runH lf) (Ha r0 ys e l cap) = some (Ex.exit 0, ({ ts := [Value.slice (some { block := 17, off := 0 }) l cap, undef, Value.bool false, Value.int IntKind.i64 0, undef, undef, Value.slice (some { block := 17, off := 0 }) l cap, Value.int IntKind.i64 (↑l : Int), Value.int IntKind.i64 0, Value.bool false, junk, junk, junk, junk, junk, junk, junk, junk, junk, junk, junk, junk, junk, junk], H := { n := 18, objs := AObj.cells ys e 6 1 :: r0 }, log := [] } : St)) :=
  Dg.evCode_hint (f := 8) (hs' := []) (hs := [Hint.val 8 9 (Value.bool false)])
    [Value.bool (decide ((↑(0 : Nat) : Int) < (↑l : Int))) = Value.bool false] (by kernel_rfl)
    ⟨Dg.vfalse (by omega), trivial⟩
--> haC
--< hbC
theorem hbC (lf : Nat) (r0 : List AObj) (ys : List Value) (e : Nat) (l : Nat) (cap : Nat) (n : Int) (v : ByteArray) (i : Nat) (h0 : l = i) :
    (runH lf) (Hb r0 ys e l cap n v i) = some (Ex.exit 0, ({ ts := [Value.slice (some { block := 17, off := 0 }) l cap, undef, Value.bool false, Value.int IntKind.i64 n, undef, Value.string v, Value.slice (some { block := 17, off := 0 }) l cap, Value.int IntKind.i64 (↑l : Int), Value.int IntKind.i64 (↑i : Int), Value.bool false, junk, junk, junk, junk, junk, junk, junk, junk, junk, junk, junk, junk, junk, junk], H := { n := 18, objs := AObj.cells ys e 6 1 :: r0 }, log := [] } : St)) :=
  Dg.evCode_hint (f := 8) (hs' := []) (hs := [Hint.val 8 9 (Value.bool false)])
    [Value.bool (decide ((↑i : Int) < (↑l : Int))) = Value.bool false] (by kernel_rfl)
    ⟨Dg.vfalse (by omega), trivial⟩
--> hbC
def EH (r0 : List AObj) (ys : List Value) (e l cap : Nat) (n : Int) (w : Value) (i : Nat) : St := ⟨[aW l cap, undef, .bool false, .int .i64 n, undef, w, aW l cap, .int .i64 l, .int .i64 i, .bool false] ++ js 14, (⟨18, oW ys e :: r0⟩ : Heap), []⟩
def HdH (r0 : List AObj) (ys : List Value) (e l cap : Nat) (ws : List ByteArray) : Nat → St
  | 0 => Ha r0 ys e l cap
  | i + 1 => Hb r0 ys e l cap (sumW ws (i + 1)) (ws.getD i ⟨#[]⟩) (i + 1)
theorem loopH (lf : Nat) (r0 : List AObj) (ys : List Value) (e cap : Nat) (ws : List ByteArray) (hys : WsOk ws ys) (hl : ws.length ≤ 9223372036854775807) (hf : ws.length < lf) :
    ∃ w, ∀ s0, clH s0 = Ha r0 ys e ws.length cap → evLoop (runH lf) clH lf s0 = some (.exit 0, EH r0 ys e ws.length cap (sumW ws ws.length) w ws.length) := by
  rcases Nat.eq_zero_or_pos ws.length with h0 | h0
  · refine ⟨undef, fun s0 h => ?_⟩
    obtain ⟨m, rfl⟩ : ∃ m, lf = m + 1 := ⟨lf - 1, by omega⟩
    have : evLoop (runH (m + 1)) clH (m + 1) s0 = some (Ex.exit 0, _) := Dg.evLoop_stop h (haC (m + 1) r0 ys e ws.length cap h0) (by simp)
    rw [this, h0]
    rfl
  · refine ⟨.string (ws.getD (ws.length - 1) ⟨#[]⟩), fun s0 h => ?_⟩
    refine Dg.loop_run (S := HdH r0 ys e ws.length cap ws) (n := ws.length) (by simp) (fun j hj => ?_) ?_ hf h
    · cases j with
      | zero => exact haA lf r0 ys e ws.length cap _ (ws_get hys hj) hj hl
      | succ j => exact hbA lf r0 ys e ws.length cap _ _ j _ (ws_get hys hj) hj hl
    · have e1 : HdH r0 ys e ws.length cap ws ws.length = Hb r0 ys e ws.length cap (sumW ws ws.length) (ws.getD (ws.length - 1) ⟨#[]⟩) ws.length := by
        have key : ∀ L l', 0 < L → HdH r0 ys e l' cap ws L = Hb r0 ys e l' cap (sumW ws L) (ws.getD (L - 1) ⟨#[]⟩) L := by
          intro L l' hL
          cases L with
          | zero => omega
          | succ L => rfl
        exact key _ _ h0
      rw [e1]
      exact hbC lf r0 ys e ws.length cap _ _ ws.length rfl
def HN (r0 : List AObj) (x : AObj) : St := ⟨[.slice none 0 0, undef, .bool false, .int .i64 0, undef, undef, .slice none 0 0, .int .i64 0, .int .i64 0] ++ js 15, ⟨18, x :: r0⟩, []⟩
def EN (r0 : List AObj) (x : AObj) : St := ⟨[.slice none 0 0, undef, .bool false, .int .i64 0, undef, undef, .slice none 0 0, .int .i64 0, .int .i64 0, .bool false] ++ js 14, ⟨18, x :: r0⟩, []⟩
--< hnC
theorem hnC (lf : Nat) (r0 : List AObj) (x : AObj) :
    (runH lf) (HN r0 x) = some (Ex.exit 0, ({ ts := [Value.slice none 0 0, undef, Value.bool false, Value.int IntKind.i64 0, undef, undef, Value.slice none 0 0, Value.int IntKind.i64 0, Value.int IntKind.i64 0, Value.bool false, junk, junk, junk, junk, junk, junk, junk, junk, junk, junk, junk, junk, junk, junk], H := { n := 18, objs := x :: r0 }, log := [] } : St)) :=
  Dg.evCode_hint (f := 8) (hs' := []) (hs := [])
    [] (by kernel_rfl)
    trivial
--> hnC
theorem loopN (lf : Nat) (hf : 0 < lf) (r0 : List AObj) (x : AObj) (s0 : St) (h : clH s0 = HN r0 x) : evLoop (runH lf) clH lf s0 = some (.exit 0, EN r0 x) := by
  obtain ⟨m, rfl⟩ : ∃ m, lf = m + 1 := ⟨lf - 1, by omega⟩
  exact Dg.evLoop_stop h (hnC (m + 1) r0 x) (by simp)
--< heN
theorem heN (lf : Nat) (hf : 0 < lf) (r0 : List AObj) (x : AObj) :
    evCall Tryz.prog 15 (bodied Tryz.prog) ovB sbs lf 19 8 [Value.slice none 0 0] { n := 18, objs := x :: r0 } = some (Value.bool false, { n := 18, objs := x :: r0 }, []) :=
  Dg.evCall_hint (hs' := []) (hs := [Hint.loop 8 (Ex.exit 0) (EN r0 x)])
    [evLoop (runH lf) clH lf { ts := [Value.slice none 0 0, undef, Value.bool false, Value.int IntKind.i64 0, undef, undef, Value.slice none 0 0, Value.int IntKind.i64 0, Value.int IntKind.i64 0, undef, undef, undef, undef, undef, undef, undef, undef, undef, undef, undef, undef, undef, undef, undef], H := { n := 18, objs := x :: r0 }, log := [] } = some (Ex.exit 0, EN r0 x)] (by kernel_rfl)
    ⟨loopN lf hf r0 x _ (by kernel_rfl), trivial⟩
--> heN
--< heT
theorem heT (lf : Nat) (r0 : List AObj) (ys : List Value) (e : Nat) (l : Nat) (cap : Nat) (n : Int) (w : Value) (hl : ∀ (s0 : St), clH s0 = Ha r0 ys e l cap → evLoop (runH lf) clH lf s0 = some (Ex.exit 0, EH r0 ys e l cap n w l)) (b : Bool) (h20 : l ≤ 20) (hb : Value.bool (decide (n > 1000)) = Value.bool b) :
    evCall Tryz.prog 15 (bodied Tryz.prog) ovB sbs lf 19 8 [aW l cap] { n := 18, objs := oW ys e :: r0 } = some (Value.bool b, { n := 18, objs := AObj.cells ys e 6 1 :: r0 }, []) :=
  Dg.evCall_hint (hs' := []) (hs := [Hint.loop 8 (Ex.exit 0) (EH r0 ys e l cap n w l),
    Hint.val 8 19 (Value.bool false),
    Hint.val 8 22 (Value.bool b)])
    [evLoop (runH lf) clH lf { ts := [Value.slice (some { block := 17, off := 0 }) l cap, undef, Value.bool false, Value.int IntKind.i64 0, undef, undef, Value.slice (some { block := 17, off := 0 }) l cap, Value.int IntKind.i64 (↑l : Int), Value.int IntKind.i64 0, undef, undef, undef, undef, undef, undef, undef, undef, undef, undef, undef, undef, undef, undef, undef], H := { n := 18, objs := AObj.cells ys e 6 1 :: r0 }, log := [] } = some (Ex.exit 0, EH r0 ys e l cap n w l),
    Value.bool (decide ((↑l : Int) > (20 : Int))) = Value.bool false,
    Value.bool (decide (n > (1000 : Int))) = Value.bool b] (by kernel_rfl)
    ⟨hl _ (by kernel_rfl), Dg.vfalse (by omega), hb, trivial⟩
--> heT
--< heL
theorem heL (lf : Nat) (r0 : List AObj) (ys : List Value) (e : Nat) (l : Nat) (cap : Nat) (n : Int) (w : Value) (hl : ∀ (s0 : St), clH s0 = Ha r0 ys e l cap → evLoop (runH lf) clH lf s0 = some (Ex.exit 0, EH r0 ys e l cap n w l)) (h20 : 20 < l) :
    evCall Tryz.prog 15 (bodied Tryz.prog) ovB sbs lf 19 8 [aW l cap] { n := 18, objs := oW ys e :: r0 } = some (Value.bool true, { n := 18, objs := AObj.cells ys e 6 1 :: r0 }, []) :=
  Dg.evCall_hint (hs' := []) (hs := [Hint.loop 8 (Ex.exit 0) (EH r0 ys e l cap n w l),
    Hint.val 8 19 (Value.bool true)])
    [evLoop (runH lf) clH lf { ts := [Value.slice (some { block := 17, off := 0 }) l cap, undef, Value.bool false, Value.int IntKind.i64 0, undef, undef, Value.slice (some { block := 17, off := 0 }) l cap, Value.int IntKind.i64 (↑l : Int), Value.int IntKind.i64 0, undef, undef, undef, undef, undef, undef, undef, undef, undef, undef, undef, undef, undef, undef, undef], H := { n := 18, objs := AObj.cells ys e 6 1 :: r0 }, log := [] } = some (Ex.exit 0, EH r0 ys e l cap n w l),
    Value.bool (decide ((↑l : Int) > (20 : Int))) = Value.bool true] (by kernel_rfl)
    ⟨hl _ (by kernel_rfl), Dg.vtrue (by omega), trivial⟩
--> heL
/-- 'heavy', whatever the words. -/
theorem heavy_runB (lf : Nat) (r0 : List AObj) (ys : List Value) (e cap : Nat) (ws : List ByteArray) (hys : WsOk ws ys) (hl : ws.length ≤ 9223372036854775807) (hf : ws.length < lf) :
    ∃ b, evB lf 19 8 [aW ws.length cap] ((⟨18, oW ys e :: r0⟩ : Heap)) = some (.bool b, (⟨18, oW ys e :: r0⟩ : Heap), []) ∧ (b = false → ws.length ≤ 20) := by
  obtain ⟨w, h⟩ := loopH lf r0 ys e cap ws hys hl hf
  by_cases h20 : ws.length ≤ 20
  · exact ⟨decide (sumW ws ws.length > 1000), heT lf r0 ys e ws.length cap _ w h _ h20 rfl, fun _ => h20⟩
  · exact ⟨true, heL lf r0 ys e ws.length cap _ w h (by omega), fun h => by cases h⟩
end Go.Proofs.YtpgddboigegplaaGreatDoor.hvb
