/- text.UndecWide: its rounds, its ends; text.DecWide as a law. text.UndecWide: the wide number that a text is. -/
import Derived.Test.YtflgpkkbifkpoaaGreatDoorRows
import Derived.Test.YtflgpkkbifkpoaaGreatDoorWideCc
import Derived.Test.YtflgpkkbifkpoaaGreatDoorNumA
namespace Go.Proofs.YtflgpkkbifkpoaaGreatDoor.num
open Go.Dg (junk St Ex Ev Hint evCall evCallS evCode evCodeK innerKp evCodeS evLoop cleanSt ue bodied noOver sbOf headOf tailOf bodyOf rAssign rBody lBody Flats flatOver Heap AObj SCall Law ofLaw Fix lay noO)
set_option linter.unusedVariables false
set_option linter.unusedSimpArgs false

def CDecW : Law := fun args H r => ∃ v : Int, args = [wv v] ∧ InW v ∧ TabOk H ∧ r = (.string (decV v), H, [])
theorem CDecW_uniq : ∀ args H r r', CDecW args H r → CDecW args H r' → r = r' := by
  rintro args H r r' ⟨n, h, _, _, rfl⟩ ⟨m, h', _, _, rfl⟩
  rw [h] at h'
  injection h' with h1
  rw [wv_inj h1]
/-- strings.TrimPrefix beside the flat functions. -/
noncomputable def p5 : FuncId → List Value → Option Value := fun f args => if f = 32 then (match args with | [.string s, .string p] => some (.string ⟨(Lib.trimPrefix s.data.toList p.data.toList).toArray⟩) | _ => none) else p4 f args
theorem p5_flats : ∀ f args v, p5 f args = some v → Flats Tryz.prog f args v := by
  intro f args v h
  unfold p5 at h
  split at h
  · rename_i hf
    subst hf
    split at h
    · cases h
      refine ⟨rfl, rfl, fun w => ?_⟩
      exact (Tryz.strings_TrimPrefix _ _ w).mono fun e w' ⟨he, hw⟩ => ⟨he, hw ▸ RowKit.Below.refl _ _⟩
    · cases h
  · exact p4_flats f args v h
theorem up5 {f : FuncId} {args : List Value} {v : Value} (h : p4 f args = some v) (hf : ¬ f = 32 := by decide) : p5 f args = some v := by unfold p5; rw [if_neg hf, h]
noncomputable def ovU : Ev := fun f args H => match f with
  | 6 => ofLaw CDecW args H
  | f => flatOver p5 f args H
section
variable {G : Nat} {ok : List Bool} {sb : List Nat} {lf m : Nat} {H : Heap} {args : List Value} {v : Value}
theorem uScale (h : p5 34 args = some v) : evCall Tryz.prog G ok ovU sb lf (m + 1) 34 args H = some (v, H, []) := Dg.evCall_over (show flatOver p5 34 args H = _ from told h)
theorem uAdd (h : p5 24 args = some v) : evCall Tryz.prog G ok ovU sb lf (m + 1) 24 args H = some (v, H, []) := Dg.evCall_over (show flatOver p5 24 args H = _ from told h)
theorem uOf (h : p5 25 args = some v) : evCall Tryz.prog G ok ovU sb lf (m + 1) 25 args H = some (v, H, []) := Dg.evCall_over (show flatOver p5 25 args H = _ from told h)
theorem uTrim (h : p5 32 args = some v) : evCall Tryz.prog G ok ovU sb lf (m + 1) 32 args H = some (v, H, []) := Dg.evCall_over (show flatOver p5 32 args H = _ from told h)
theorem uDecW {n h l : Int} {s : ByteArray} (hn : InW n) (hw : wv n = wd h l) (hs : s = decV n) (ht : ∃ e, H.get 5 = .cells kpPow e 6 1) : evCall Tryz.prog G ok ovU sb lf (m + 1) 6 [wd h l] H = some (.string s, H, []) :=
  Dg.evCall_over (Dg.ofLaw_is CDecW_uniq ⟨n, by rw [hw], hn, ht, by rw [hs]⟩)
end
noncomputable def sbU : List Nat := sbs.set 10 6
noncomputable def lUw : Code := lBody ((Tryz.f10.body).getD .skip)
noncomputable abbrev runUw : St → Option (Ex × St) := evCodeK Tryz.prog 10 (bodied Tryz.prog) (evCall Tryz.prog 10 (bodied Tryz.prog) ovU sbU 1000 19) 10 6 1000 lUw (innerKp lUw [])
noncomputable abbrev clUw : St → St := cleanSt 10 6 (ue lUw [] []).1
def oW4 (h l : Int) : AObj := .cells [.int .i64 h, .int .u64 l] 24 4 1
def HUw (e : TypeId) (zs : List Int) (wh wl : Int) (pos : Nat) : Heap := Hx e [.iter (txt zs) pos, oW4 wh wl, oW4 0 0]
def SUw (e : TypeId) (s : ByteArray) (zs : List Int) (wh wl : Int) (pos : Nat) : St := ⟨[.string s, undef, ptr 10, .bool false, ptr 11, .string (txt zs)] ++ (js 7 ++ ([ptr 12] ++ js 39)), HUw e zs wh wl pos, []⟩
def EUw (e : TypeId) (s : ByteArray) (zs : List Int) (wh wl : Int) (pos : Nat) : St := ⟨[.string s, undef, ptr 10, .bool false, ptr 11, .string (txt zs)] ++ (js 7 ++ ([ptr 12, .tuple #[.bool false], .bool false] ++ js 37)), HUw e zs wh wl pos, []⟩
def ZUw (e : TypeId) (s : ByteArray) (r : List Value) (zs : List Int) (wh wl : Int) (pos : Nat) : St := ⟨.string s :: undef :: ptr 10 :: .bool false :: r, HUw e zs wh wl pos, []⟩
--< uw_t
theorem uw_t (e : TypeId) (s : ByteArray) (zs : List Int) (wh : Int) (wl : Int) (xh : Int) (xl : Int) (dh : Int) (dl : Int) (yh : Int) (yl : Int) (d : Int) (pos : Nat) (hi : pos < List.length zs) (h0 : 48 ≤ List.getD zs pos 0 ∧ List.getD zs pos 0 ≤ 57) (hl : List.length zs ≤ 40) (hs : List.length zs < ByteArray.size s) (hd : -(List.getD zs pos 0 - 48) = d) (h1 : p5 34 [wd wh wl, Value.int IntKind.u32 10] = some (wd xh xl)) (h2 : p5 25 [Value.int IntKind.i64 d] = some (wd dh dl)) (h3 : p5 24 [wd xh xl, wd dh dl] = some (wd yh yl)) :
    ∃ s', runUw (SUw e s zs wh wl pos) = some (Ex.normal, s') ∧ clUw s' = SUw e s zs yh yl (pos + 1) :=
  Dg.code_round (f := 10) clUw (hs := [Hint.softH 10 14 (Value.tuple #[Value.bool true, Value.int IntKind.i64 (↑pos : Int), Value.int IntKind.i32 (List.getD zs pos 0)]) { n := 13, objs := [AObj.iter (txt zs) (pos + 1), AObj.cells [Value.int IntKind.i64 wh, Value.int IntKind.u64 wl] 24 4 1, AObj.cells [Value.int IntKind.i64 0, Value.int IntKind.u64 0] 24 4 1, AObj.dead, AObj.dead, AObj.dead, AObj.dead, AObj.cells kpPow e 6 1, AObj.dead, AObj.dead, AObj.dead, AObj.dead, AObj.dead] } [12],
    Hint.val 33 6 (Value.int IntKind.i32 (List.getD zs pos 0 - 48)),
    Hint.val 33 7 (Value.int IntKind.i64 (List.getD zs pos 0 - 48)),
    Hint.val 33 10 (Value.bool false),
    Hint.val 33 17 (Value.bool true),
    Hint.val 33 20 (Value.bool true),
    Hint.val 10 26 (Value.bool false),
    Hint.val 10 31 (Value.bool false),
    Hint.call 34 (Value.agg #[Value.int IntKind.i64 xh, Value.int IntKind.u64 xl]) { n := 13, objs := [AObj.iter (txt zs) (pos + 1), AObj.cells [Value.int IntKind.i64 wh, Value.int IntKind.u64 wl] 24 4 1, AObj.cells [Value.int IntKind.i64 0, Value.int IntKind.u64 0] 24 4 1, AObj.dead, AObj.dead, AObj.dead, AObj.dead, AObj.cells kpPow e 6 1, AObj.dead, AObj.dead, AObj.dead, AObj.dead, AObj.dead] } [],
    Hint.val 10 40 (Value.bool true),
    Hint.val 10 42 (Value.int IntKind.i64 d),
    Hint.call 25 (Value.agg #[Value.int IntKind.i64 dh, Value.int IntKind.u64 dl]) { n := 10, objs := [AObj.dead, AObj.dead, AObj.dead, AObj.dead, AObj.dead, AObj.dead, AObj.dead, AObj.dead, AObj.dead, AObj.dead] } [],
    Hint.call 24 (Value.agg #[Value.int IntKind.i64 yh, Value.int IntKind.u64 yl]) { n := 13, objs := [AObj.iter (txt zs) (pos + 1), AObj.cells [Value.int IntKind.i64 xh, Value.int IntKind.u64 xl] 24 4 1, AObj.cells [Value.int IntKind.i64 0, Value.int IntKind.u64 0] 24 4 1, AObj.dead, AObj.dead, AObj.dead, AObj.dead, AObj.cells kpPow e 6 1, AObj.dead, AObj.dead, AObj.dead, AObj.dead, AObj.dead] } []])
    [Dg.nextAt { n := (13 : Nat), objs := [AObj.iter (txt zs) pos, AObj.cells [Value.int IntKind.i64 wh, Value.int IntKind.u64 wl] (24 : Nat) (4 : Nat) (1 : Nat), AObj.cells [Value.int IntKind.i64 (0 : Int), Value.int IntKind.u64 (0 : Int)] (24 : Nat) (4 : Nat) (1 : Nat), AObj.dead, AObj.dead, AObj.dead, AObj.dead, AObj.cells kpPow e (6 : Nat) (1 : Nat), AObj.dead, AObj.dead, AObj.dead, AObj.dead, AObj.dead] } (12 : Nat) = some (Value.tuple #[Value.bool true, Value.int IntKind.i64 (↑pos : Int), Value.int IntKind.i32 (List.getD zs pos (0 : Int))], { n := (13 : Nat), objs := [AObj.iter (txt zs) (pos + (1 : Nat)), AObj.cells [Value.int IntKind.i64 wh, Value.int IntKind.u64 wl] (24 : Nat) (4 : Nat) (1 : Nat), AObj.cells [Value.int IntKind.i64 (0 : Int), Value.int IntKind.u64 (0 : Int)] (24 : Nat) (4 : Nat) (1 : Nat), AObj.dead, AObj.dead, AObj.dead, AObj.dead, AObj.cells kpPow e (6 : Nat) (1 : Nat), AObj.dead, AObj.dead, AObj.dead, AObj.dead, AObj.dead] }, [(12 : Nat)]),
    Value.int IntKind.i32 (IntKind.wrap IntKind.i32 (List.getD zs pos (0 : Int) - (48 : Int))) = Value.int IntKind.i32 (List.getD zs pos (0 : Int) - (48 : Int)),
    Value.int IntKind.i64 (IntKind.wrap IntKind.i64 (List.getD zs pos (0 : Int) - (48 : Int))) = Value.int IntKind.i64 (List.getD zs pos (0 : Int) - (48 : Int)),
    Value.bool (decide (List.getD zs pos (0 : Int) ≥ (97 : Int))) = Value.bool false,
    Value.bool (decide (List.getD zs pos (0 : Int) ≥ (48 : Int))) = Value.bool true,
    Value.bool (decide (List.getD zs pos (0 : Int) ≤ (57 : Int))) = Value.bool true,
    Value.bool (decide (List.getD zs pos (0 : Int) - (48 : Int) > (9 : Int))) = Value.bool false,
    Value.bool (decide ((↑(ByteArray.size (txt zs)) : Int) > (40 : Int))) = Value.bool false,
    evCall Tryz.prog 10 (bodied Tryz.prog) ovU sbU 1000 19 34 [Value.agg #[Value.int IntKind.i64 wh, Value.int IntKind.u64 wl], Value.int IntKind.u32 10] { n := 13, objs := [AObj.iter (txt zs) (pos + 1), AObj.cells [Value.int IntKind.i64 wh, Value.int IntKind.u64 wl] 24 4 1, AObj.cells [Value.int IntKind.i64 0, Value.int IntKind.u64 0] 24 4 1, AObj.dead, AObj.dead, AObj.dead, AObj.dead, AObj.cells kpPow e 6 1, AObj.dead, AObj.dead, AObj.dead, AObj.dead, AObj.dead] } = some (Value.agg #[Value.int IntKind.i64 xh, Value.int IntKind.u64 xl], { n := 13, objs := [AObj.iter (txt zs) (pos + 1), AObj.cells [Value.int IntKind.i64 wh, Value.int IntKind.u64 wl] 24 4 1, AObj.cells [Value.int IntKind.i64 0, Value.int IntKind.u64 0] 24 4 1, AObj.dead, AObj.dead, AObj.dead, AObj.dead, AObj.cells kpPow e 6 1, AObj.dead, AObj.dead, AObj.dead, AObj.dead, AObj.dead] }, []),
    Value.bool (decide ((↑(ByteArray.size (txt zs)) : Int) < (↑(ByteArray.size s) : Int))) = Value.bool true,
    Value.int IntKind.i64 (IntKind.wrap IntKind.i64 ((0 : Int) - (List.getD zs pos (0 : Int) - (48 : Int)))) = Value.int IntKind.i64 d,
    evCall Tryz.prog 10 (bodied Tryz.prog) ovU sbU 1000 19 25 [Value.int IntKind.i64 d] { n := 10, objs := [AObj.dead, AObj.dead, AObj.dead, AObj.dead, AObj.dead, AObj.dead, AObj.dead, AObj.dead, AObj.dead, AObj.dead] } = some (Value.agg #[Value.int IntKind.i64 dh, Value.int IntKind.u64 dl], { n := 10, objs := [AObj.dead, AObj.dead, AObj.dead, AObj.dead, AObj.dead, AObj.dead, AObj.dead, AObj.dead, AObj.dead, AObj.dead] }, []),
    evCall Tryz.prog 10 (bodied Tryz.prog) ovU sbU 1000 19 24 [Value.agg #[Value.int IntKind.i64 xh, Value.int IntKind.u64 xl], Value.agg #[Value.int IntKind.i64 dh, Value.int IntKind.u64 dl]] { n := 13, objs := [AObj.iter (txt zs) (pos + 1), AObj.cells [Value.int IntKind.i64 xh, Value.int IntKind.u64 xl] 24 4 1, AObj.cells [Value.int IntKind.i64 0, Value.int IntKind.u64 0] 24 4 1, AObj.dead, AObj.dead, AObj.dead, AObj.dead, AObj.cells kpPow e 6 1, AObj.dead, AObj.dead, AObj.dead, AObj.dead, AObj.dead] } = some (Value.agg #[Value.int IntKind.i64 yh, Value.int IntKind.u64 yl], { n := 13, objs := [AObj.iter (txt zs) (pos + 1), AObj.cells [Value.int IntKind.i64 xh, Value.int IntKind.u64 xl] 24 4 1, AObj.cells [Value.int IntKind.i64 0, Value.int IntKind.u64 0] 24 4 1, AObj.dead, AObj.dead, AObj.dead, AObj.dead, AObj.cells kpPow e 6 1, AObj.dead, AObj.dead, AObj.dead, AObj.dead, AObj.dead] }, [])] (by kernel_rfl)
    ⟨next_lo (pos := pos) rfl (by omega) (by omega), by simp only [Dg.w_u8, Dg.w_u16, Dg.w_u32, Dg.w_i8, Dg.w_i32, Value.int.injEq, true_and]; omega, Dg.i64_eq rfl (by omega) (by omega), Dg.vfalse (by omega), Dg.vtrue (by omega), Dg.vtrue (by omega), Dg.vfalse (by omega), Dg.vfalse (by rw [txt_size]; omega), uScale h1, Dg.vtrue (by rw [txt_size]; omega), Dg.i64_eq (by omega) (by omega) (by omega), uOf h2, uAdd h3, trivial⟩
--> uw_t
--< uw_f
theorem uw_f (e : TypeId) (s : ByteArray) (zs : List Int) (wh : Int) (wl : Int) (xh : Int) (xl : Int) (dh : Int) (dl : Int) (yh : Int) (yl : Int) (d : Int) (pos : Nat) (hi : pos < List.length zs) (h0 : 48 ≤ List.getD zs pos 0 ∧ List.getD zs pos 0 ≤ 57) (hl : List.length zs ≤ 40) (hs : List.length zs = ByteArray.size s) (hd : List.getD zs pos 0 - 48 = d) (h1 : p5 34 [wd wh wl, Value.int IntKind.u32 10] = some (wd xh xl)) (h2 : p5 25 [Value.int IntKind.i64 (List.getD zs pos 0 - 48)] = some (wd dh dl)) (h3 : p5 24 [wd xh xl, wd dh dl] = some (wd yh yl)) :
    ∃ s', runUw (SUw e s zs wh wl pos) = some (Ex.normal, s') ∧ clUw s' = SUw e s zs yh yl (pos + 1) :=
  Dg.code_round (f := 10) clUw (hs := [Hint.softH 10 14 (Value.tuple #[Value.bool true, Value.int IntKind.i64 (↑pos : Int), Value.int IntKind.i32 (List.getD zs pos 0)]) { n := 13, objs := [AObj.iter (txt zs) (pos + 1), AObj.cells [Value.int IntKind.i64 wh, Value.int IntKind.u64 wl] 24 4 1, AObj.cells [Value.int IntKind.i64 0, Value.int IntKind.u64 0] 24 4 1, AObj.dead, AObj.dead, AObj.dead, AObj.dead, AObj.cells kpPow e 6 1, AObj.dead, AObj.dead, AObj.dead, AObj.dead, AObj.dead] } [12],
    Hint.val 33 6 (Value.int IntKind.i32 (List.getD zs pos 0 - 48)),
    Hint.val 33 7 (Value.int IntKind.i64 (List.getD zs pos 0 - 48)),
    Hint.val 33 10 (Value.bool false),
    Hint.val 33 17 (Value.bool true),
    Hint.val 33 20 (Value.bool true),
    Hint.val 10 26 (Value.bool false),
    Hint.val 10 31 (Value.bool false),
    Hint.call 34 (Value.agg #[Value.int IntKind.i64 xh, Value.int IntKind.u64 xl]) { n := 13, objs := [AObj.iter (txt zs) (pos + 1), AObj.cells [Value.int IntKind.i64 wh, Value.int IntKind.u64 wl] 24 4 1, AObj.cells [Value.int IntKind.i64 0, Value.int IntKind.u64 0] 24 4 1, AObj.dead, AObj.dead, AObj.dead, AObj.dead, AObj.cells kpPow e 6 1, AObj.dead, AObj.dead, AObj.dead, AObj.dead, AObj.dead] } [],
    Hint.val 10 40 (Value.bool false),
    Hint.call 25 (Value.agg #[Value.int IntKind.i64 dh, Value.int IntKind.u64 dl]) { n := 10, objs := [AObj.dead, AObj.dead, AObj.dead, AObj.dead, AObj.dead, AObj.dead, AObj.dead, AObj.dead, AObj.dead, AObj.dead] } [],
    Hint.call 24 (Value.agg #[Value.int IntKind.i64 yh, Value.int IntKind.u64 yl]) { n := 13, objs := [AObj.iter (txt zs) (pos + 1), AObj.cells [Value.int IntKind.i64 xh, Value.int IntKind.u64 xl] 24 4 1, AObj.cells [Value.int IntKind.i64 0, Value.int IntKind.u64 0] 24 4 1, AObj.dead, AObj.dead, AObj.dead, AObj.dead, AObj.cells kpPow e 6 1, AObj.dead, AObj.dead, AObj.dead, AObj.dead, AObj.dead] } []])
    [Dg.nextAt { n := (13 : Nat), objs := [AObj.iter (txt zs) pos, AObj.cells [Value.int IntKind.i64 wh, Value.int IntKind.u64 wl] (24 : Nat) (4 : Nat) (1 : Nat), AObj.cells [Value.int IntKind.i64 (0 : Int), Value.int IntKind.u64 (0 : Int)] (24 : Nat) (4 : Nat) (1 : Nat), AObj.dead, AObj.dead, AObj.dead, AObj.dead, AObj.cells kpPow e (6 : Nat) (1 : Nat), AObj.dead, AObj.dead, AObj.dead, AObj.dead, AObj.dead] } (12 : Nat) = some (Value.tuple #[Value.bool true, Value.int IntKind.i64 (↑pos : Int), Value.int IntKind.i32 (List.getD zs pos (0 : Int))], { n := (13 : Nat), objs := [AObj.iter (txt zs) (pos + (1 : Nat)), AObj.cells [Value.int IntKind.i64 wh, Value.int IntKind.u64 wl] (24 : Nat) (4 : Nat) (1 : Nat), AObj.cells [Value.int IntKind.i64 (0 : Int), Value.int IntKind.u64 (0 : Int)] (24 : Nat) (4 : Nat) (1 : Nat), AObj.dead, AObj.dead, AObj.dead, AObj.dead, AObj.cells kpPow e (6 : Nat) (1 : Nat), AObj.dead, AObj.dead, AObj.dead, AObj.dead, AObj.dead] }, [(12 : Nat)]),
    Value.int IntKind.i32 (IntKind.wrap IntKind.i32 (List.getD zs pos (0 : Int) - (48 : Int))) = Value.int IntKind.i32 (List.getD zs pos (0 : Int) - (48 : Int)),
    Value.int IntKind.i64 (IntKind.wrap IntKind.i64 (List.getD zs pos (0 : Int) - (48 : Int))) = Value.int IntKind.i64 (List.getD zs pos (0 : Int) - (48 : Int)),
    Value.bool (decide (List.getD zs pos (0 : Int) ≥ (97 : Int))) = Value.bool false,
    Value.bool (decide (List.getD zs pos (0 : Int) ≥ (48 : Int))) = Value.bool true,
    Value.bool (decide (List.getD zs pos (0 : Int) ≤ (57 : Int))) = Value.bool true,
    Value.bool (decide (List.getD zs pos (0 : Int) - (48 : Int) > (9 : Int))) = Value.bool false,
    Value.bool (decide ((↑(ByteArray.size (txt zs)) : Int) > (40 : Int))) = Value.bool false,
    evCall Tryz.prog 10 (bodied Tryz.prog) ovU sbU 1000 19 34 [Value.agg #[Value.int IntKind.i64 wh, Value.int IntKind.u64 wl], Value.int IntKind.u32 10] { n := 13, objs := [AObj.iter (txt zs) (pos + 1), AObj.cells [Value.int IntKind.i64 wh, Value.int IntKind.u64 wl] 24 4 1, AObj.cells [Value.int IntKind.i64 0, Value.int IntKind.u64 0] 24 4 1, AObj.dead, AObj.dead, AObj.dead, AObj.dead, AObj.cells kpPow e 6 1, AObj.dead, AObj.dead, AObj.dead, AObj.dead, AObj.dead] } = some (Value.agg #[Value.int IntKind.i64 xh, Value.int IntKind.u64 xl], { n := 13, objs := [AObj.iter (txt zs) (pos + 1), AObj.cells [Value.int IntKind.i64 wh, Value.int IntKind.u64 wl] 24 4 1, AObj.cells [Value.int IntKind.i64 0, Value.int IntKind.u64 0] 24 4 1, AObj.dead, AObj.dead, AObj.dead, AObj.dead, AObj.cells kpPow e 6 1, AObj.dead, AObj.dead, AObj.dead, AObj.dead, AObj.dead] }, []),
    Value.bool (decide ((↑(ByteArray.size (txt zs)) : Int) < (↑(ByteArray.size s) : Int))) = Value.bool false,
    evCall Tryz.prog 10 (bodied Tryz.prog) ovU sbU 1000 19 25 [Value.int IntKind.i64 (List.getD zs pos 0 - 48)] { n := 10, objs := [AObj.dead, AObj.dead, AObj.dead, AObj.dead, AObj.dead, AObj.dead, AObj.dead, AObj.dead, AObj.dead, AObj.dead] } = some (Value.agg #[Value.int IntKind.i64 dh, Value.int IntKind.u64 dl], { n := 10, objs := [AObj.dead, AObj.dead, AObj.dead, AObj.dead, AObj.dead, AObj.dead, AObj.dead, AObj.dead, AObj.dead, AObj.dead] }, []),
    evCall Tryz.prog 10 (bodied Tryz.prog) ovU sbU 1000 19 24 [Value.agg #[Value.int IntKind.i64 xh, Value.int IntKind.u64 xl], Value.agg #[Value.int IntKind.i64 dh, Value.int IntKind.u64 dl]] { n := 13, objs := [AObj.iter (txt zs) (pos + 1), AObj.cells [Value.int IntKind.i64 xh, Value.int IntKind.u64 xl] 24 4 1, AObj.cells [Value.int IntKind.i64 0, Value.int IntKind.u64 0] 24 4 1, AObj.dead, AObj.dead, AObj.dead, AObj.dead, AObj.cells kpPow e 6 1, AObj.dead, AObj.dead, AObj.dead, AObj.dead, AObj.dead] } = some (Value.agg #[Value.int IntKind.i64 yh, Value.int IntKind.u64 yl], { n := 13, objs := [AObj.iter (txt zs) (pos + 1), AObj.cells [Value.int IntKind.i64 xh, Value.int IntKind.u64 xl] 24 4 1, AObj.cells [Value.int IntKind.i64 0, Value.int IntKind.u64 0] 24 4 1, AObj.dead, AObj.dead, AObj.dead, AObj.dead, AObj.cells kpPow e 6 1, AObj.dead, AObj.dead, AObj.dead, AObj.dead, AObj.dead] }, [])] (by kernel_rfl)
    ⟨next_lo (pos := pos) rfl (by omega) (by omega), by simp only [Dg.w_u8, Dg.w_u16, Dg.w_u32, Dg.w_i8, Dg.w_i32, Value.int.injEq, true_and]; omega, Dg.i64_eq rfl (by omega) (by omega), Dg.vfalse (by omega), Dg.vtrue (by omega), Dg.vtrue (by omega), Dg.vfalse (by omega), Dg.vfalse (by rw [txt_size]; omega), uScale h1, Dg.vfalse (by rw [txt_size]; omega), uOf h2, uAdd h3, trivial⟩
--> uw_f
--< uz_l
theorem uz_l (e : TypeId) (s : ByteArray) (zs : List Int) (wh : Int) (wl : Int) (pos : Nat) (r : Nat) (x : Nat) (hi : pos < List.length zs) (hd : Utf8.decode (txt zs) pos = (r, x)) (h0 : r < 48) :
    runUw (SUw e s zs wh wl pos) = some (Ex.ret, ({ ts := [Value.string s, undef, Value.pointer (some { block := 10, off := 0 }), Value.bool false, Value.pointer (some { block := 11, off := 0 }), Value.string (txt zs), junk, Value.int IntKind.i32 (↑r : Int), Value.int IntKind.i64 0, Value.bool false, junk, junk, junk, Value.pointer (some { block := 12, off := 0 }), Value.tuple #[Value.bool true, Value.int IntKind.i64 (↑pos : Int), Value.int IntKind.i32 (↑r : Int)], Value.bool true, Value.int IntKind.i32 (↑r : Int), Value.tuple #[Value.int IntKind.i64 0, Value.bool false], Value.int IntKind.i32 (↑r : Int), Value.tuple #[Value.int IntKind.i64 0, Value.bool false], Value.int IntKind.i64 0, Value.bool false, Value.bool false, Value.bool true, Value.bool true, undef, undef, Value.bool true, Value.bool true, undef, undef, undef, Value.bool true, Value.agg #[Value.int IntKind.i64 0, Value.int IntKind.u64 0], junk, junk, junk, junk, junk, junk, junk, junk, junk, junk, junk, junk, junk, junk, junk, junk, junk, junk, junk], H := { n := 13, objs := [AObj.iter (txt zs) (pos + x), AObj.cells [Value.int IntKind.i64 wh, Value.int IntKind.u64 wl] 24 4 1, AObj.cells [Value.int IntKind.i64 0, Value.int IntKind.u64 0] 24 4 1, AObj.dead, AObj.dead, AObj.dead, AObj.dead, AObj.cells kpPow e 6 1, AObj.dead, AObj.dead, AObj.dead, AObj.dead, AObj.dead] }, log := [] } : St)) :=
  Dg.evCode_hint (f := 10) (hs' := []) (hs := [Hint.softH 10 14 (Value.tuple #[Value.bool true, Value.int IntKind.i64 (↑pos : Int), Value.int IntKind.i32 (↑r : Int)]) { n := 13, objs := [AObj.iter (txt zs) (pos + x), AObj.cells [Value.int IntKind.i64 wh, Value.int IntKind.u64 wl] 24 4 1, AObj.cells [Value.int IntKind.i64 0, Value.int IntKind.u64 0] 24 4 1, AObj.dead, AObj.dead, AObj.dead, AObj.dead, AObj.cells kpPow e 6 1, AObj.dead, AObj.dead, AObj.dead, AObj.dead, AObj.dead] } [12],
    Hint.val 33 6 (Value.int IntKind.i32 ((↑r : Int) - 48)),
    Hint.val 33 7 (Value.int IntKind.i64 ((↑r : Int) - 48)),
    Hint.val 33 10 (Value.bool false),
    Hint.val 33 17 (Value.bool false)])
    [Dg.nextAt { n := (13 : Nat), objs := [AObj.iter (txt zs) pos, AObj.cells [Value.int IntKind.i64 wh, Value.int IntKind.u64 wl] (24 : Nat) (4 : Nat) (1 : Nat), AObj.cells [Value.int IntKind.i64 (0 : Int), Value.int IntKind.u64 (0 : Int)] (24 : Nat) (4 : Nat) (1 : Nat), AObj.dead, AObj.dead, AObj.dead, AObj.dead, AObj.cells kpPow e (6 : Nat) (1 : Nat), AObj.dead, AObj.dead, AObj.dead, AObj.dead, AObj.dead] } (12 : Nat) = some (Value.tuple #[Value.bool true, Value.int IntKind.i64 (↑pos : Int), Value.int IntKind.i32 (↑r : Int)], { n := (13 : Nat), objs := [AObj.iter (txt zs) (pos + x), AObj.cells [Value.int IntKind.i64 wh, Value.int IntKind.u64 wl] (24 : Nat) (4 : Nat) (1 : Nat), AObj.cells [Value.int IntKind.i64 (0 : Int), Value.int IntKind.u64 (0 : Int)] (24 : Nat) (4 : Nat) (1 : Nat), AObj.dead, AObj.dead, AObj.dead, AObj.dead, AObj.cells kpPow e (6 : Nat) (1 : Nat), AObj.dead, AObj.dead, AObj.dead, AObj.dead, AObj.dead] }, [(12 : Nat)]),
    Value.int IntKind.i32 (IntKind.wrap IntKind.i32 ((↑r : Int) - (48 : Int))) = Value.int IntKind.i32 ((↑r : Int) - (48 : Int)),
    Value.int IntKind.i64 (IntKind.wrap IntKind.i64 ((↑r : Int) - (48 : Int))) = Value.int IntKind.i64 ((↑r : Int) - (48 : Int)),
    Value.bool (decide ((↑r : Int) ≥ (97 : Int))) = Value.bool false,
    Value.bool (decide ((↑r : Int) ≥ (48 : Int))) = Value.bool false] (by kernel_rfl)
    ⟨next_dec (pos := pos) rfl (by omega) hd, by simp only [Dg.w_u8, Dg.w_u16, Dg.w_u32, Dg.w_i8, Dg.w_i32, Value.int.injEq, true_and]; omega, Dg.i64_eq rfl (by omega) (by omega), Dg.vfalse (by omega), Dg.vfalse (by omega), trivial⟩
--> uz_l
--< uz_m
theorem uz_m (e : TypeId) (s : ByteArray) (zs : List Int) (wh : Int) (wl : Int) (pos : Nat) (r : Nat) (x : Nat) (hi : pos < List.length zs) (hd : Utf8.decode (txt zs) pos = (r, x)) (h0 : 57 < r) (h1 : r < 97) :
    runUw (SUw e s zs wh wl pos) = some (Ex.ret, ({ ts := [Value.string s, undef, Value.pointer (some { block := 10, off := 0 }), Value.bool false, Value.pointer (some { block := 11, off := 0 }), Value.string (txt zs), junk, Value.int IntKind.i32 (↑r : Int), Value.int IntKind.i64 0, Value.bool false, junk, junk, junk, Value.pointer (some { block := 12, off := 0 }), Value.tuple #[Value.bool true, Value.int IntKind.i64 (↑pos : Int), Value.int IntKind.i32 (↑r : Int)], Value.bool true, Value.int IntKind.i32 (↑r : Int), Value.tuple #[Value.int IntKind.i64 0, Value.bool false], Value.int IntKind.i32 (↑r : Int), Value.tuple #[Value.int IntKind.i64 0, Value.bool false], Value.int IntKind.i64 0, Value.bool false, Value.bool false, Value.bool true, Value.bool true, undef, undef, Value.bool true, Value.bool true, undef, undef, undef, Value.bool true, Value.agg #[Value.int IntKind.i64 0, Value.int IntKind.u64 0], junk, junk, junk, junk, junk, junk, junk, junk, junk, junk, junk, junk, junk, junk, junk, junk, junk, junk, junk], H := { n := 13, objs := [AObj.iter (txt zs) (pos + x), AObj.cells [Value.int IntKind.i64 wh, Value.int IntKind.u64 wl] 24 4 1, AObj.cells [Value.int IntKind.i64 0, Value.int IntKind.u64 0] 24 4 1, AObj.dead, AObj.dead, AObj.dead, AObj.dead, AObj.cells kpPow e 6 1, AObj.dead, AObj.dead, AObj.dead, AObj.dead, AObj.dead] }, log := [] } : St)) :=
  Dg.evCode_hint (f := 10) (hs' := []) (hs := [Hint.softH 10 14 (Value.tuple #[Value.bool true, Value.int IntKind.i64 (↑pos : Int), Value.int IntKind.i32 (↑r : Int)]) { n := 13, objs := [AObj.iter (txt zs) (pos + x), AObj.cells [Value.int IntKind.i64 wh, Value.int IntKind.u64 wl] 24 4 1, AObj.cells [Value.int IntKind.i64 0, Value.int IntKind.u64 0] 24 4 1, AObj.dead, AObj.dead, AObj.dead, AObj.dead, AObj.cells kpPow e 6 1, AObj.dead, AObj.dead, AObj.dead, AObj.dead, AObj.dead] } [12],
    Hint.val 33 6 (Value.int IntKind.i32 ((↑r : Int) - 48)),
    Hint.val 33 7 (Value.int IntKind.i64 ((↑r : Int) - 48)),
    Hint.val 33 10 (Value.bool false),
    Hint.val 33 17 (Value.bool true),
    Hint.val 33 20 (Value.bool false)])
    [Dg.nextAt { n := (13 : Nat), objs := [AObj.iter (txt zs) pos, AObj.cells [Value.int IntKind.i64 wh, Value.int IntKind.u64 wl] (24 : Nat) (4 : Nat) (1 : Nat), AObj.cells [Value.int IntKind.i64 (0 : Int), Value.int IntKind.u64 (0 : Int)] (24 : Nat) (4 : Nat) (1 : Nat), AObj.dead, AObj.dead, AObj.dead, AObj.dead, AObj.cells kpPow e (6 : Nat) (1 : Nat), AObj.dead, AObj.dead, AObj.dead, AObj.dead, AObj.dead] } (12 : Nat) = some (Value.tuple #[Value.bool true, Value.int IntKind.i64 (↑pos : Int), Value.int IntKind.i32 (↑r : Int)], { n := (13 : Nat), objs := [AObj.iter (txt zs) (pos + x), AObj.cells [Value.int IntKind.i64 wh, Value.int IntKind.u64 wl] (24 : Nat) (4 : Nat) (1 : Nat), AObj.cells [Value.int IntKind.i64 (0 : Int), Value.int IntKind.u64 (0 : Int)] (24 : Nat) (4 : Nat) (1 : Nat), AObj.dead, AObj.dead, AObj.dead, AObj.dead, AObj.cells kpPow e (6 : Nat) (1 : Nat), AObj.dead, AObj.dead, AObj.dead, AObj.dead, AObj.dead] }, [(12 : Nat)]),
    Value.int IntKind.i32 (IntKind.wrap IntKind.i32 ((↑r : Int) - (48 : Int))) = Value.int IntKind.i32 ((↑r : Int) - (48 : Int)),
    Value.int IntKind.i64 (IntKind.wrap IntKind.i64 ((↑r : Int) - (48 : Int))) = Value.int IntKind.i64 ((↑r : Int) - (48 : Int)),
    Value.bool (decide ((↑r : Int) ≥ (97 : Int))) = Value.bool false,
    Value.bool (decide ((↑r : Int) ≥ (48 : Int))) = Value.bool true,
    Value.bool (decide ((↑r : Int) ≤ (57 : Int))) = Value.bool false] (by kernel_rfl)
    ⟨next_dec (pos := pos) rfl (by omega) hd, by simp only [Dg.w_u8, Dg.w_u16, Dg.w_u32, Dg.w_i8, Dg.w_i32, Value.int.injEq, true_and]; omega, Dg.i64_eq rfl (by omega) (by omega), Dg.vfalse (by omega), Dg.vtrue (by omega), Dg.vfalse (by omega), trivial⟩
--> uz_m
--< uz_a
theorem uz_a (e : TypeId) (s : ByteArray) (zs : List Int) (wh : Int) (wl : Int) (pos : Nat) (r : Nat) (x : Nat) (hi : pos < List.length zs) (hd : Utf8.decode (txt zs) pos = (r, x)) (h0 : 97 ≤ r) (h1 : r ≤ 102) :
    runUw (SUw e s zs wh wl pos) = some (Ex.ret, ({ ts := [Value.string s, undef, Value.pointer (some { block := 10, off := 0 }), Value.bool false, Value.pointer (some { block := 11, off := 0 }), Value.string (txt zs), junk, Value.int IntKind.i32 (↑r : Int), Value.int IntKind.i64 ((↑r : Int) - 97 + 10), Value.bool true, junk, junk, junk, Value.pointer (some { block := 12, off := 0 }), Value.tuple #[Value.bool true, Value.int IntKind.i64 (↑pos : Int), Value.int IntKind.i32 (↑r : Int)], Value.bool true, Value.int IntKind.i32 (↑r : Int), Value.tuple #[Value.int IntKind.i64 ((↑r : Int) - 97 + 10), Value.bool true], Value.int IntKind.i32 (↑r : Int), Value.tuple #[Value.int IntKind.i64 ((↑r : Int) - 97 + 10), Value.bool true], Value.int IntKind.i64 ((↑r : Int) - 97 + 10), Value.bool true, Value.bool true, Value.bool false, Value.bool false, Value.int IntKind.i64 ((↑r : Int) - 97 + 10), Value.bool true, Value.bool true, Value.bool true, undef, undef, undef, Value.bool true, Value.agg #[Value.int IntKind.i64 0, Value.int IntKind.u64 0], junk, junk, junk, junk, junk, junk, junk, junk, junk, junk, junk, junk, junk, junk, junk, junk, junk, junk, junk], H := { n := 13, objs := [AObj.iter (txt zs) (pos + x), AObj.cells [Value.int IntKind.i64 wh, Value.int IntKind.u64 wl] 24 4 1, AObj.cells [Value.int IntKind.i64 0, Value.int IntKind.u64 0] 24 4 1, AObj.dead, AObj.dead, AObj.dead, AObj.dead, AObj.cells kpPow e 6 1, AObj.dead, AObj.dead, AObj.dead, AObj.dead, AObj.dead] }, log := [] } : St)) :=
  Dg.evCode_hint (f := 10) (hs' := []) (hs := [Hint.softH 10 14 (Value.tuple #[Value.bool true, Value.int IntKind.i64 (↑pos : Int), Value.int IntKind.i32 (↑r : Int)]) { n := 13, objs := [AObj.iter (txt zs) (pos + x), AObj.cells [Value.int IntKind.i64 wh, Value.int IntKind.u64 wl] 24 4 1, AObj.cells [Value.int IntKind.i64 0, Value.int IntKind.u64 0] 24 4 1, AObj.dead, AObj.dead, AObj.dead, AObj.dead, AObj.cells kpPow e 6 1, AObj.dead, AObj.dead, AObj.dead, AObj.dead, AObj.dead] } [12],
    Hint.val 33 6 (Value.int IntKind.i32 ((↑r : Int) - 48)),
    Hint.val 33 7 (Value.int IntKind.i64 ((↑r : Int) - 48)),
    Hint.val 33 10 (Value.bool true),
    Hint.val 33 13 (Value.bool true),
    Hint.val 33 23 (Value.int IntKind.i32 ((↑r : Int) - 97)),
    Hint.val 33 24 (Value.int IntKind.i64 ((↑r : Int) - 97)),
    Hint.val 33 25 (Value.int IntKind.i64 ((↑r : Int) - 97 + 10)),
    Hint.val 10 26 (Value.bool true)])
    [Dg.nextAt { n := (13 : Nat), objs := [AObj.iter (txt zs) pos, AObj.cells [Value.int IntKind.i64 wh, Value.int IntKind.u64 wl] (24 : Nat) (4 : Nat) (1 : Nat), AObj.cells [Value.int IntKind.i64 (0 : Int), Value.int IntKind.u64 (0 : Int)] (24 : Nat) (4 : Nat) (1 : Nat), AObj.dead, AObj.dead, AObj.dead, AObj.dead, AObj.cells kpPow e (6 : Nat) (1 : Nat), AObj.dead, AObj.dead, AObj.dead, AObj.dead, AObj.dead] } (12 : Nat) = some (Value.tuple #[Value.bool true, Value.int IntKind.i64 (↑pos : Int), Value.int IntKind.i32 (↑r : Int)], { n := (13 : Nat), objs := [AObj.iter (txt zs) (pos + x), AObj.cells [Value.int IntKind.i64 wh, Value.int IntKind.u64 wl] (24 : Nat) (4 : Nat) (1 : Nat), AObj.cells [Value.int IntKind.i64 (0 : Int), Value.int IntKind.u64 (0 : Int)] (24 : Nat) (4 : Nat) (1 : Nat), AObj.dead, AObj.dead, AObj.dead, AObj.dead, AObj.cells kpPow e (6 : Nat) (1 : Nat), AObj.dead, AObj.dead, AObj.dead, AObj.dead, AObj.dead] }, [(12 : Nat)]),
    Value.int IntKind.i32 (IntKind.wrap IntKind.i32 ((↑r : Int) - (48 : Int))) = Value.int IntKind.i32 ((↑r : Int) - (48 : Int)),
    Value.int IntKind.i64 (IntKind.wrap IntKind.i64 ((↑r : Int) - (48 : Int))) = Value.int IntKind.i64 ((↑r : Int) - (48 : Int)),
    Value.bool (decide ((↑r : Int) ≥ (97 : Int))) = Value.bool true,
    Value.bool (decide ((↑r : Int) ≤ (102 : Int))) = Value.bool true,
    Value.int IntKind.i32 (IntKind.wrap IntKind.i32 ((↑r : Int) - (97 : Int))) = Value.int IntKind.i32 ((↑r : Int) - (97 : Int)),
    Value.int IntKind.i64 (IntKind.wrap IntKind.i64 ((↑r : Int) - (97 : Int))) = Value.int IntKind.i64 ((↑r : Int) - (97 : Int)),
    Value.int IntKind.i64 (IntKind.wrap IntKind.i64 ((↑r : Int) - (97 : Int) + (10 : Int))) = Value.int IntKind.i64 ((↑r : Int) - (97 : Int) + (10 : Int)),
    Value.bool (decide ((↑r : Int) - (97 : Int) + (10 : Int) > (9 : Int))) = Value.bool true] (by kernel_rfl)
    ⟨next_dec (pos := pos) rfl (by omega) hd, by simp only [Dg.w_u8, Dg.w_u16, Dg.w_u32, Dg.w_i8, Dg.w_i32, Value.int.injEq, true_and]; omega, Dg.i64_eq rfl (by omega) (by omega), Dg.vtrue (by omega), Dg.vtrue (by omega), by simp only [Dg.w_u8, Dg.w_u16, Dg.w_u32, Dg.w_i8, Dg.w_i32, Value.int.injEq, true_and]; omega, Dg.i64_eq rfl (by omega) (by omega), Dg.i64_eq rfl (by omega) (by omega), Dg.vtrue (by omega), trivial⟩
--> uz_a
--< uz_h
theorem uz_h (e : TypeId) (s : ByteArray) (zs : List Int) (wh : Int) (wl : Int) (pos : Nat) (r : Nat) (x : Nat) (hi : pos < List.length zs) (hd : Utf8.decode (txt zs) pos = (r, x)) (h0 : 102 < r) (h1 : r ≤ 1114111) :
    runUw (SUw e s zs wh wl pos) = some (Ex.ret, ({ ts := [Value.string s, undef, Value.pointer (some { block := 10, off := 0 }), Value.bool false, Value.pointer (some { block := 11, off := 0 }), Value.string (txt zs), junk, Value.int IntKind.i32 (↑r : Int), Value.int IntKind.i64 0, Value.bool false, junk, junk, junk, Value.pointer (some { block := 12, off := 0 }), Value.tuple #[Value.bool true, Value.int IntKind.i64 (↑pos : Int), Value.int IntKind.i32 (↑r : Int)], Value.bool true, Value.int IntKind.i32 (↑r : Int), Value.tuple #[Value.int IntKind.i64 0, Value.bool false], Value.int IntKind.i32 (↑r : Int), Value.tuple #[Value.int IntKind.i64 0, Value.bool false], Value.int IntKind.i64 0, Value.bool false, Value.bool false, Value.bool true, Value.bool true, undef, undef, Value.bool true, Value.bool true, undef, undef, undef, Value.bool true, Value.agg #[Value.int IntKind.i64 0, Value.int IntKind.u64 0], junk, junk, junk, junk, junk, junk, junk, junk, junk, junk, junk, junk, junk, junk, junk, junk, junk, junk, junk], H := { n := 13, objs := [AObj.iter (txt zs) (pos + x), AObj.cells [Value.int IntKind.i64 wh, Value.int IntKind.u64 wl] 24 4 1, AObj.cells [Value.int IntKind.i64 0, Value.int IntKind.u64 0] 24 4 1, AObj.dead, AObj.dead, AObj.dead, AObj.dead, AObj.cells kpPow e 6 1, AObj.dead, AObj.dead, AObj.dead, AObj.dead, AObj.dead] }, log := [] } : St)) :=
  Dg.evCode_hint (f := 10) (hs' := []) (hs := [Hint.softH 10 14 (Value.tuple #[Value.bool true, Value.int IntKind.i64 (↑pos : Int), Value.int IntKind.i32 (↑r : Int)]) { n := 13, objs := [AObj.iter (txt zs) (pos + x), AObj.cells [Value.int IntKind.i64 wh, Value.int IntKind.u64 wl] 24 4 1, AObj.cells [Value.int IntKind.i64 0, Value.int IntKind.u64 0] 24 4 1, AObj.dead, AObj.dead, AObj.dead, AObj.dead, AObj.cells kpPow e 6 1, AObj.dead, AObj.dead, AObj.dead, AObj.dead, AObj.dead] } [12],
    Hint.val 33 6 (Value.int IntKind.i32 ((↑r : Int) - 48)),
    Hint.val 33 7 (Value.int IntKind.i64 ((↑r : Int) - 48)),
    Hint.val 33 10 (Value.bool true),
    Hint.val 33 13 (Value.bool false),
    Hint.val 33 17 (Value.bool true),
    Hint.val 33 20 (Value.bool false)])
    [Dg.nextAt { n := (13 : Nat), objs := [AObj.iter (txt zs) pos, AObj.cells [Value.int IntKind.i64 wh, Value.int IntKind.u64 wl] (24 : Nat) (4 : Nat) (1 : Nat), AObj.cells [Value.int IntKind.i64 (0 : Int), Value.int IntKind.u64 (0 : Int)] (24 : Nat) (4 : Nat) (1 : Nat), AObj.dead, AObj.dead, AObj.dead, AObj.dead, AObj.cells kpPow e (6 : Nat) (1 : Nat), AObj.dead, AObj.dead, AObj.dead, AObj.dead, AObj.dead] } (12 : Nat) = some (Value.tuple #[Value.bool true, Value.int IntKind.i64 (↑pos : Int), Value.int IntKind.i32 (↑r : Int)], { n := (13 : Nat), objs := [AObj.iter (txt zs) (pos + x), AObj.cells [Value.int IntKind.i64 wh, Value.int IntKind.u64 wl] (24 : Nat) (4 : Nat) (1 : Nat), AObj.cells [Value.int IntKind.i64 (0 : Int), Value.int IntKind.u64 (0 : Int)] (24 : Nat) (4 : Nat) (1 : Nat), AObj.dead, AObj.dead, AObj.dead, AObj.dead, AObj.cells kpPow e (6 : Nat) (1 : Nat), AObj.dead, AObj.dead, AObj.dead, AObj.dead, AObj.dead] }, [(12 : Nat)]),
    Value.int IntKind.i32 (IntKind.wrap IntKind.i32 ((↑r : Int) - (48 : Int))) = Value.int IntKind.i32 ((↑r : Int) - (48 : Int)),
    Value.int IntKind.i64 (IntKind.wrap IntKind.i64 ((↑r : Int) - (48 : Int))) = Value.int IntKind.i64 ((↑r : Int) - (48 : Int)),
    Value.bool (decide ((↑r : Int) ≥ (97 : Int))) = Value.bool true,
    Value.bool (decide ((↑r : Int) ≤ (102 : Int))) = Value.bool false,
    Value.bool (decide ((↑r : Int) ≥ (48 : Int))) = Value.bool true,
    Value.bool (decide ((↑r : Int) ≤ (57 : Int))) = Value.bool false] (by kernel_rfl)
    ⟨next_dec (pos := pos) rfl (by omega) hd, by simp only [Dg.w_u8, Dg.w_u16, Dg.w_u32, Dg.w_i8, Dg.w_i32, Value.int.injEq, true_and]; omega, Dg.i64_eq rfl (by omega) (by omega), Dg.vtrue (by omega), Dg.vfalse (by omega), Dg.vtrue (by omega), Dg.vfalse (by omega), trivial⟩
--> uz_h
--< uz_w
theorem uz_w (e : TypeId) (s : ByteArray) (zs : List Int) (wh : Int) (wl : Int) (pos : Nat) (hi : pos < List.length zs) (h0 : 48 ≤ List.getD zs pos 0 ∧ List.getD zs pos 0 ≤ 57) (hl : 40 < List.length zs) :
    runUw (SUw e s zs wh wl pos) = some (Ex.ret, ({ ts := [Value.string s, undef, Value.pointer (some { block := 10, off := 0 }), Value.bool false, Value.pointer (some { block := 11, off := 0 }), Value.string (txt zs), junk, Value.int IntKind.i32 (List.getD zs pos 0), Value.int IntKind.i64 (List.getD zs pos 0 - 48), Value.bool true, junk, junk, junk, Value.pointer (some { block := 12, off := 0 }), Value.tuple #[Value.bool true, Value.int IntKind.i64 (↑pos : Int), Value.int IntKind.i32 (List.getD zs pos 0)], Value.bool true, Value.int IntKind.i32 (List.getD zs pos 0), Value.tuple #[Value.int IntKind.i64 (List.getD zs pos 0 - 48), Value.bool true], Value.int IntKind.i32 (List.getD zs pos 0), Value.tuple #[Value.int IntKind.i64 (List.getD zs pos 0 - 48), Value.bool true], Value.int IntKind.i64 (List.getD zs pos 0 - 48), Value.bool true, Value.bool true, Value.bool false, Value.bool false, Value.int IntKind.i64 (List.getD zs pos 0 - 48), Value.bool false, Value.bool false, Value.bool false, Value.string (txt zs), Value.int IntKind.i64 (↑(ByteArray.size (txt zs)) : Int), Value.bool true, Value.bool true, Value.agg #[Value.int IntKind.i64 0, Value.int IntKind.u64 0], junk, junk, junk, junk, junk, junk, junk, junk, junk, junk, junk, junk, junk, junk, junk, junk, junk, junk, junk], H := { n := 13, objs := [AObj.iter (txt zs) (pos + 1), AObj.cells [Value.int IntKind.i64 wh, Value.int IntKind.u64 wl] 24 4 1, AObj.cells [Value.int IntKind.i64 0, Value.int IntKind.u64 0] 24 4 1, AObj.dead, AObj.dead, AObj.dead, AObj.dead, AObj.cells kpPow e 6 1, AObj.dead, AObj.dead, AObj.dead, AObj.dead, AObj.dead] }, log := [] } : St)) :=
  Dg.evCode_hint (f := 10) (hs' := []) (hs := [Hint.softH 10 14 (Value.tuple #[Value.bool true, Value.int IntKind.i64 (↑pos : Int), Value.int IntKind.i32 (List.getD zs pos 0)]) { n := 13, objs := [AObj.iter (txt zs) (pos + 1), AObj.cells [Value.int IntKind.i64 wh, Value.int IntKind.u64 wl] 24 4 1, AObj.cells [Value.int IntKind.i64 0, Value.int IntKind.u64 0] 24 4 1, AObj.dead, AObj.dead, AObj.dead, AObj.dead, AObj.cells kpPow e 6 1, AObj.dead, AObj.dead, AObj.dead, AObj.dead, AObj.dead] } [12],
    Hint.val 33 6 (Value.int IntKind.i32 (List.getD zs pos 0 - 48)),
    Hint.val 33 7 (Value.int IntKind.i64 (List.getD zs pos 0 - 48)),
    Hint.val 33 10 (Value.bool false),
    Hint.val 33 17 (Value.bool true),
    Hint.val 33 20 (Value.bool true),
    Hint.val 10 26 (Value.bool false),
    Hint.val 10 31 (Value.bool true)])
    [Dg.nextAt { n := (13 : Nat), objs := [AObj.iter (txt zs) pos, AObj.cells [Value.int IntKind.i64 wh, Value.int IntKind.u64 wl] (24 : Nat) (4 : Nat) (1 : Nat), AObj.cells [Value.int IntKind.i64 (0 : Int), Value.int IntKind.u64 (0 : Int)] (24 : Nat) (4 : Nat) (1 : Nat), AObj.dead, AObj.dead, AObj.dead, AObj.dead, AObj.cells kpPow e (6 : Nat) (1 : Nat), AObj.dead, AObj.dead, AObj.dead, AObj.dead, AObj.dead] } (12 : Nat) = some (Value.tuple #[Value.bool true, Value.int IntKind.i64 (↑pos : Int), Value.int IntKind.i32 (List.getD zs pos (0 : Int))], { n := (13 : Nat), objs := [AObj.iter (txt zs) (pos + (1 : Nat)), AObj.cells [Value.int IntKind.i64 wh, Value.int IntKind.u64 wl] (24 : Nat) (4 : Nat) (1 : Nat), AObj.cells [Value.int IntKind.i64 (0 : Int), Value.int IntKind.u64 (0 : Int)] (24 : Nat) (4 : Nat) (1 : Nat), AObj.dead, AObj.dead, AObj.dead, AObj.dead, AObj.cells kpPow e (6 : Nat) (1 : Nat), AObj.dead, AObj.dead, AObj.dead, AObj.dead, AObj.dead] }, [(12 : Nat)]),
    Value.int IntKind.i32 (IntKind.wrap IntKind.i32 (List.getD zs pos (0 : Int) - (48 : Int))) = Value.int IntKind.i32 (List.getD zs pos (0 : Int) - (48 : Int)),
    Value.int IntKind.i64 (IntKind.wrap IntKind.i64 (List.getD zs pos (0 : Int) - (48 : Int))) = Value.int IntKind.i64 (List.getD zs pos (0 : Int) - (48 : Int)),
    Value.bool (decide (List.getD zs pos (0 : Int) ≥ (97 : Int))) = Value.bool false,
    Value.bool (decide (List.getD zs pos (0 : Int) ≥ (48 : Int))) = Value.bool true,
    Value.bool (decide (List.getD zs pos (0 : Int) ≤ (57 : Int))) = Value.bool true,
    Value.bool (decide (List.getD zs pos (0 : Int) - (48 : Int) > (9 : Int))) = Value.bool false,
    Value.bool (decide ((↑(ByteArray.size (txt zs)) : Int) > (40 : Int))) = Value.bool true] (by kernel_rfl)
    ⟨next_lo (pos := pos) rfl (by omega) (by omega), by simp only [Dg.w_u8, Dg.w_u16, Dg.w_u32, Dg.w_i8, Dg.w_i32, Value.int.injEq, true_and]; omega, Dg.i64_eq rfl (by omega) (by omega), Dg.vfalse (by omega), Dg.vtrue (by omega), Dg.vtrue (by omega), Dg.vfalse (by omega), Dg.vtrue (by rw [txt_size]; omega), trivial⟩
--> uz_w
--< ue_w
theorem ue_w (e : TypeId) (s : ByteArray) (zs : List Int) (wh : Int) (wl : Int) (pos : Nat) (hi : List.length zs = pos) :
    runUw (SUw e s zs wh wl pos) = some (Ex.exit 0, ({ ts := [Value.string s, undef, Value.pointer (some { block := 10, off := 0 }), Value.bool false, Value.pointer (some { block := 11, off := 0 }), Value.string (txt zs), junk, junk, junk, junk, junk, junk, junk, Value.pointer (some { block := 12, off := 0 }), Value.tuple #[Value.bool false], Value.bool false, junk, junk, junk, junk, junk, junk, junk, junk, junk, junk, junk, junk, junk, junk, junk, junk, junk, junk, junk, junk, junk, junk, junk, junk, junk, junk, junk, junk, junk, junk, junk, junk, junk, junk, junk, junk, junk], H := { n := 13, objs := [AObj.iter (txt zs) pos, AObj.cells [Value.int IntKind.i64 wh, Value.int IntKind.u64 wl] 24 4 1, AObj.cells [Value.int IntKind.i64 0, Value.int IntKind.u64 0] 24 4 1, AObj.dead, AObj.dead, AObj.dead, AObj.dead, AObj.cells kpPow e 6 1, AObj.dead, AObj.dead, AObj.dead, AObj.dead, AObj.dead] }, log := [] } : St)) :=
  Dg.evCode_hint (f := 10) (hs' := []) (hs := [Hint.softH 10 14 (Value.tuple #[Value.bool false]) { n := 13, objs := [AObj.iter (txt zs) pos, AObj.cells [Value.int IntKind.i64 wh, Value.int IntKind.u64 wl] 24 4 1, AObj.cells [Value.int IntKind.i64 0, Value.int IntKind.u64 0] 24 4 1, AObj.dead, AObj.dead, AObj.dead, AObj.dead, AObj.cells kpPow e 6 1, AObj.dead, AObj.dead, AObj.dead, AObj.dead, AObj.dead] } []])
    [Dg.nextAt { n := (13 : Nat), objs := [AObj.iter (txt zs) pos, AObj.cells [Value.int IntKind.i64 wh, Value.int IntKind.u64 wl] (24 : Nat) (4 : Nat) (1 : Nat), AObj.cells [Value.int IntKind.i64 (0 : Int), Value.int IntKind.u64 (0 : Int)] (24 : Nat) (4 : Nat) (1 : Nat), AObj.dead, AObj.dead, AObj.dead, AObj.dead, AObj.cells kpPow e (6 : Nat) (1 : Nat), AObj.dead, AObj.dead, AObj.dead, AObj.dead, AObj.dead] } (12 : Nat) = some (Value.tuple #[Value.bool false], { n := (13 : Nat), objs := [AObj.iter (txt zs) pos, AObj.cells [Value.int IntKind.i64 wh, Value.int IntKind.u64 wl] (24 : Nat) (4 : Nat) (1 : Nat), AObj.cells [Value.int IntKind.i64 (0 : Int), Value.int IntKind.u64 (0 : Int)] (24 : Nat) (4 : Nat) (1 : Nat), AObj.dead, AObj.dead, AObj.dead, AObj.dead, AObj.cells kpPow e (6 : Nat) (1 : Nat), AObj.dead, AObj.dead, AObj.dead, AObj.dead, AObj.dead] }, [])] (by kernel_rfl)
    ⟨next_end (pos := pos) rfl (by omega), trivial⟩
--> ue_w
--< uc_bad
theorem uc_bad (e : TypeId) (s : ByteArray) (zs : List Int) (wh : Int) (wl : Int) (pos : Nat) (r : List Value) (ht : p5 32 [Value.string s, Value.string { data := #[45] }] = some (Value.string (txt zs))) (hL : ∀ (s0 : St), clUw s0 = SUw e s zs 0 0 0 → evLoop runUw clUw 1000 s0 = some (Ex.ret, ZUw e s r zs wh wl pos)) :
    evCall Tryz.prog 10 (bodied Tryz.prog) ovU sbU 1000 20 10 [Value.string s] (Hx e []) = some (Value.tuple { toList := [Value.agg #[Value.int IntKind.i64 0, Value.int IntKind.u64 0], Value.bool false] }, { n := 10, objs := [AObj.dead, AObj.dead, AObj.dead, AObj.dead, AObj.cells kpPow e 6 1, AObj.dead, AObj.dead, AObj.dead, AObj.dead, AObj.dead] }, []) :=
  Dg.evCall_hint (hs' := []) (hs := [Hint.call 32 (Value.string (txt zs)) { n := 10, objs := [AObj.dead, AObj.dead, AObj.dead, AObj.dead, AObj.dead, AObj.dead, AObj.dead, AObj.dead, AObj.dead, AObj.dead] } [],
    Hint.loop 10 Ex.ret (ZUw e s r zs wh wl pos)])
    [evCall Tryz.prog 10 (bodied Tryz.prog) ovU sbU 1000 19 32 [Value.string s, Value.string { data := #[45] }] { n := 10, objs := [AObj.dead, AObj.dead, AObj.dead, AObj.dead, AObj.dead, AObj.dead, AObj.dead, AObj.dead, AObj.dead, AObj.dead] } = some (Value.string (txt zs), { n := 10, objs := [AObj.dead, AObj.dead, AObj.dead, AObj.dead, AObj.dead, AObj.dead, AObj.dead, AObj.dead, AObj.dead, AObj.dead] }, []),
    evLoop runUw clUw 1000 { ts := [Value.string s, undef, Value.pointer (some { block := 10, off := 0 }), Value.bool false, Value.pointer (some { block := 11, off := 0 }), Value.string (txt zs), undef, undef, undef, undef, Value.string s, Value.string (txt zs), Value.string (txt zs), Value.pointer (some { block := 12, off := 0 }), undef, undef, undef, undef, undef, undef, undef, undef, undef, undef, undef, undef, undef, undef, undef, undef, undef, undef, undef, undef, undef, undef, undef, undef, undef, undef, undef, undef, undef, undef, undef, undef, undef, undef, undef, undef, undef, undef, undef], H := { n := 13, objs := [AObj.iter (txt zs) 0, AObj.cells [Value.int IntKind.i64 0, Value.int IntKind.u64 0] 24 0 1, AObj.cells [Value.int IntKind.i64 0, Value.int IntKind.u64 0] 24 0 1, AObj.dead, AObj.dead, AObj.dead, AObj.dead, AObj.cells kpPow e 6 1, AObj.dead, AObj.dead, AObj.dead, AObj.dead, AObj.dead] }, log := [] } = some (Ex.ret, ZUw e s r zs wh wl pos)] (by kernel_rfl)
    ⟨uTrim ht, hL _ (by kernel_rfl), trivial⟩
--> uc_bad
--< uc_eq
theorem uc_eq (e : TypeId) (s : ByteArray) (t : ByteArray) (zs : List Int) (n : Int) (wh : Int) (wl : Int) (pos : Nat) (ht : p5 32 [Value.string s, Value.string { data := #[45] }] = some (Value.string (txt zs))) (hn : InW n) (hw : wv n = wd wh wl) (hs : t = decV n) (he : t = s) (hL : ∀ (s0 : St), clUw s0 = SUw e s zs 0 0 0 → evLoop runUw clUw 1000 s0 = some (Ex.exit 0, EUw e s zs wh wl pos)) :
    evCall Tryz.prog 10 (bodied Tryz.prog) ovU sbU 1000 20 10 [Value.string s] (Hx e []) = some (Value.tuple { toList := [Value.agg #[Value.int IntKind.i64 wh, Value.int IntKind.u64 wl], Value.bool true] }, { n := 10, objs := [AObj.dead, AObj.dead, AObj.dead, AObj.dead, AObj.cells kpPow e 6 1, AObj.dead, AObj.dead, AObj.dead, AObj.dead, AObj.dead] }, []) :=
  Dg.evCall_hint (hs' := []) (hs := [Hint.call 32 (Value.string (txt zs)) { n := 10, objs := [AObj.dead, AObj.dead, AObj.dead, AObj.dead, AObj.dead, AObj.dead, AObj.dead, AObj.dead, AObj.dead, AObj.dead] } [],
    Hint.loop 10 (Ex.exit 0) (EUw e s zs wh wl pos),
    Hint.call 6 (Value.string t) { n := 13, objs := [AObj.iter (txt zs) pos, AObj.cells [Value.int IntKind.i64 wh, Value.int IntKind.u64 wl] 24 4 1, AObj.cells [Value.int IntKind.i64 0, Value.int IntKind.u64 0] 24 4 1, AObj.dead, AObj.dead, AObj.dead, AObj.dead, AObj.cells kpPow e 6 1, AObj.dead, AObj.dead, AObj.dead, AObj.dead, AObj.dead] } [],
    Hint.val 10 50 (Value.bool false)])
    [evCall Tryz.prog 10 (bodied Tryz.prog) ovU sbU 1000 19 32 [Value.string s, Value.string { data := #[45] }] { n := 10, objs := [AObj.dead, AObj.dead, AObj.dead, AObj.dead, AObj.dead, AObj.dead, AObj.dead, AObj.dead, AObj.dead, AObj.dead] } = some (Value.string (txt zs), { n := 10, objs := [AObj.dead, AObj.dead, AObj.dead, AObj.dead, AObj.dead, AObj.dead, AObj.dead, AObj.dead, AObj.dead, AObj.dead] }, []),
    evLoop runUw clUw 1000 { ts := [Value.string s, undef, Value.pointer (some { block := 10, off := 0 }), Value.bool false, Value.pointer (some { block := 11, off := 0 }), Value.string (txt zs), undef, undef, undef, undef, Value.string s, Value.string (txt zs), Value.string (txt zs), Value.pointer (some { block := 12, off := 0 }), undef, undef, undef, undef, undef, undef, undef, undef, undef, undef, undef, undef, undef, undef, undef, undef, undef, undef, undef, undef, undef, undef, undef, undef, undef, undef, undef, undef, undef, undef, undef, undef, undef, undef, undef, undef, undef, undef, undef], H := { n := 13, objs := [AObj.iter (txt zs) 0, AObj.cells [Value.int IntKind.i64 0, Value.int IntKind.u64 0] 24 0 1, AObj.cells [Value.int IntKind.i64 0, Value.int IntKind.u64 0] 24 0 1, AObj.dead, AObj.dead, AObj.dead, AObj.dead, AObj.cells kpPow e 6 1, AObj.dead, AObj.dead, AObj.dead, AObj.dead, AObj.dead] }, log := [] } = some (Ex.exit 0, EUw e s zs wh wl pos),
    evCall Tryz.prog 10 (bodied Tryz.prog) ovU sbU 1000 19 6 [Value.agg #[Value.int IntKind.i64 wh, Value.int IntKind.u64 wl]] { n := 13, objs := [AObj.iter (txt zs) pos, AObj.cells [Value.int IntKind.i64 wh, Value.int IntKind.u64 wl] 24 4 1, AObj.cells [Value.int IntKind.i64 0, Value.int IntKind.u64 0] 24 4 1, AObj.dead, AObj.dead, AObj.dead, AObj.dead, AObj.cells kpPow e 6 1, AObj.dead, AObj.dead, AObj.dead, AObj.dead, AObj.dead] } = some (Value.string t, { n := 13, objs := [AObj.iter (txt zs) pos, AObj.cells [Value.int IntKind.i64 wh, Value.int IntKind.u64 wl] 24 4 1, AObj.cells [Value.int IntKind.i64 0, Value.int IntKind.u64 0] 24 4 1, AObj.dead, AObj.dead, AObj.dead, AObj.dead, AObj.cells kpPow e 6 1, AObj.dead, AObj.dead, AObj.dead, AObj.dead, AObj.dead] }, []),
    (Value.bool !ByteArray.toList t == ByteArray.toList s) = Value.bool false] (by kernel_rfl)
    ⟨uTrim ht, hL _ (by kernel_rfl), uDecW hn hw hs ⟨_, rfl⟩, Dg.bool_eq (by rw [he]; simp), trivial⟩
--> uc_eq
--< uc_ne
theorem uc_ne (e : TypeId) (s : ByteArray) (t : ByteArray) (zs : List Int) (n : Int) (wh : Int) (wl : Int) (pos : Nat) (ht : p5 32 [Value.string s, Value.string { data := #[45] }] = some (Value.string (txt zs))) (hn : InW n) (hw : wv n = wd wh wl) (hs : t = decV n) (he : t ≠ s) (hL : ∀ (s0 : St), clUw s0 = SUw e s zs 0 0 0 → evLoop runUw clUw 1000 s0 = some (Ex.exit 0, EUw e s zs wh wl pos)) :
    evCall Tryz.prog 10 (bodied Tryz.prog) ovU sbU 1000 20 10 [Value.string s] (Hx e []) = some (Value.tuple { toList := [Value.agg #[Value.int IntKind.i64 0, Value.int IntKind.u64 0], Value.bool false] }, { n := 10, objs := [AObj.dead, AObj.dead, AObj.dead, AObj.dead, AObj.cells kpPow e 6 1, AObj.dead, AObj.dead, AObj.dead, AObj.dead, AObj.dead] }, []) :=
  Dg.evCall_hint (hs' := []) (hs := [Hint.call 32 (Value.string (txt zs)) { n := 10, objs := [AObj.dead, AObj.dead, AObj.dead, AObj.dead, AObj.dead, AObj.dead, AObj.dead, AObj.dead, AObj.dead, AObj.dead] } [],
    Hint.loop 10 (Ex.exit 0) (EUw e s zs wh wl pos),
    Hint.call 6 (Value.string t) { n := 13, objs := [AObj.iter (txt zs) pos, AObj.cells [Value.int IntKind.i64 wh, Value.int IntKind.u64 wl] 24 4 1, AObj.cells [Value.int IntKind.i64 0, Value.int IntKind.u64 0] 24 4 1, AObj.dead, AObj.dead, AObj.dead, AObj.dead, AObj.cells kpPow e 6 1, AObj.dead, AObj.dead, AObj.dead, AObj.dead, AObj.dead] } [],
    Hint.val 10 50 (Value.bool true)])
    [evCall Tryz.prog 10 (bodied Tryz.prog) ovU sbU 1000 19 32 [Value.string s, Value.string { data := #[45] }] { n := 10, objs := [AObj.dead, AObj.dead, AObj.dead, AObj.dead, AObj.dead, AObj.dead, AObj.dead, AObj.dead, AObj.dead, AObj.dead] } = some (Value.string (txt zs), { n := 10, objs := [AObj.dead, AObj.dead, AObj.dead, AObj.dead, AObj.dead, AObj.dead, AObj.dead, AObj.dead, AObj.dead, AObj.dead] }, []),
    evLoop runUw clUw 1000 { ts := [Value.string s, undef, Value.pointer (some { block := 10, off := 0 }), Value.bool false, Value.pointer (some { block := 11, off := 0 }), Value.string (txt zs), undef, undef, undef, undef, Value.string s, Value.string (txt zs), Value.string (txt zs), Value.pointer (some { block := 12, off := 0 }), undef, undef, undef, undef, undef, undef, undef, undef, undef, undef, undef, undef, undef, undef, undef, undef, undef, undef, undef, undef, undef, undef, undef, undef, undef, undef, undef, undef, undef, undef, undef, undef, undef, undef, undef, undef, undef, undef, undef], H := { n := 13, objs := [AObj.iter (txt zs) 0, AObj.cells [Value.int IntKind.i64 0, Value.int IntKind.u64 0] 24 0 1, AObj.cells [Value.int IntKind.i64 0, Value.int IntKind.u64 0] 24 0 1, AObj.dead, AObj.dead, AObj.dead, AObj.dead, AObj.cells kpPow e 6 1, AObj.dead, AObj.dead, AObj.dead, AObj.dead, AObj.dead] }, log := [] } = some (Ex.exit 0, EUw e s zs wh wl pos),
    evCall Tryz.prog 10 (bodied Tryz.prog) ovU sbU 1000 19 6 [Value.agg #[Value.int IntKind.i64 wh, Value.int IntKind.u64 wl]] { n := 13, objs := [AObj.iter (txt zs) pos, AObj.cells [Value.int IntKind.i64 wh, Value.int IntKind.u64 wl] 24 4 1, AObj.cells [Value.int IntKind.i64 0, Value.int IntKind.u64 0] 24 4 1, AObj.dead, AObj.dead, AObj.dead, AObj.dead, AObj.cells kpPow e 6 1, AObj.dead, AObj.dead, AObj.dead, AObj.dead, AObj.dead] } = some (Value.string t, { n := 13, objs := [AObj.iter (txt zs) pos, AObj.cells [Value.int IntKind.i64 wh, Value.int IntKind.u64 wl] 24 4 1, AObj.cells [Value.int IntKind.i64 0, Value.int IntKind.u64 0] 24 4 1, AObj.dead, AObj.dead, AObj.dead, AObj.dead, AObj.cells kpPow e 6 1, AObj.dead, AObj.dead, AObj.dead, AObj.dead, AObj.dead] }, []),
    (Value.bool !ByteArray.toList t == ByteArray.toList s) = Value.bool true] (by kernel_rfl)
    ⟨uTrim ht, hL _ (by kernel_rfl), uDecW hn hw hs ⟨_, rfl⟩, Dg.bool_eq (by simpa using ba_ne he), trivial⟩
--> uc_ne
end Go.Proofs.YtflgpkkbifkpoaaGreatDoor.num

namespace Go.Proofs.YtflgpkkbifkpoaaGreatDoor.num
open Go.Dg (junk St Ex Ev Hint evCall evLoop bodied noOver Flats flatOver Heap AObj lay noO)
set_option linter.unusedVariables false

theorem trim_is (l : List UInt8) : Lib.trimPrefix l [45] = restB l := by
  unfold Lib.trimPrefix restB negB Lib.hasPrefix
  cases l with
  | nil => rfl
  | cons c r =>
    by_cases h : c = 45
    · subst h; simp
    · simp [h, show ¬ ((45 : UInt8) = c) from fun e => h e.symm]
theorem txt_ints (l : List UInt8) : txt (ints l) = ⟨l.toArray⟩ := by
  have := bs_ints l
  unfold bs at this
  simp [txt, this]
theorem uw_trim (s : ByteArray) : p5 32 [.string s, .string ⟨#[45]⟩] = some (.string (txt (ints (restB s.data.toList)))) := by
  unfold p5
  rw [if_pos rfl, txt_ints, ← trim_is]
theorem first_orU {p : Nat → Prop} [DecidablePred p] : ∀ n, (∃ j, j < n ∧ p j ∧ ∀ i, i < j → ¬ p i) ∨ ∀ i, i < n → ¬ p i := by
  intro n
  induction n with
  | zero => exact .inr fun i hi => by omega
  | succ n ih =>
    rcases ih with ⟨j, h1, h2, h3⟩ | h
    · exact .inl ⟨j, by omega, h2, h3⟩
    · by_cases hn : p n
      · exact .inl ⟨n, by omega, hn, h⟩
      · refine .inr fun i hi => ?_
        rcases Nat.lt_or_ge i n with h0 | h0
        · exact h i h0
        · obtain rfl : i = n := by omega
          exact hn
def wAt (neg : Bool) (l : List UInt8) (pos : Nat) : Int := wval neg 0 (l.take pos)
theorem wAt_in (neg : Bool) (l : List UInt8) (pos : Nat) : InW (wAt neg l pos) := wval_in _ _ _ (by unfold InW; omega)
theorem wAt_next (neg : Bool) (l : List UInt8) (pos : Nat) (h : pos < l.length) : wAt neg l (pos + 1) = clampW (clampW (wAt neg l pos * 10) + sgd neg ((l[pos]).toNat - 48)) := by
  unfold wAt wval
  rw [List.take_succ_eq_append_getElem h, List.foldl_append]
  rfl
/-- The state at the head of a round. -/
noncomputable def HS (e : TypeId) (s : ByteArray) (neg : Bool) (l : List UInt8) (pos : Nat) : St := SUw e s (ints l) (wAt neg l pos / 18446744073709551616) (wAt neg l pos % 18446744073709551616) pos
theorem round_uw (e : TypeId) (s : ByteArray) (neg : Bool) (l : List UInt8) (hs : (neg = true ∧ l.length < s.size) ∨ (neg = false ∧ l.length = s.size)) (hl : l.length ≤ 40) (pos : Nat) (hp : pos < l.length) (hd : DigB (l[pos])) :
    ∃ s', runUw (HS e s neg l pos) = some (.normal, s') ∧ clUw s' = HS e s neg l (pos + 1) := by
  unfold DigB at hd
  have hz : (ints l).getD pos 0 = ((l[pos]).toNat : Int) := ints_get hp
  have h1 := up5 (up4 (scale_w (wAt_in neg l pos)))
  have hlen : (ints l).length = l.length := ints_len l
  have hb : ∀ d : Int, d = sgd neg ((l[pos]).toNat - 48) → p5 25 [.int .i64 d] = some (wv d) ∧ p5 24 [wv (clampW (wAt neg l pos * 10)), wv d] = some (wv (wAt neg l (pos + 1))) := by
    intro d hd'
    have hr : -10 < d ∧ d < 10 := by
      unfold sgd at hd'
      split at hd' <;> omega
    refine ⟨up5 (up4 (up3 (up2 (of_w (by unfold I64; omega))))), ?_⟩
    rw [wAt_next neg l pos hp, ← hd']
    exact up5 (up4 (up3 (up2 (add_w (clamp_in _) (by unfold InW; omega)))))
  unfold HS
  rcases hs with ⟨rfl, hs⟩ | ⟨rfl, hs⟩
  · obtain ⟨h2, h3⟩ := hb (-((ints l).getD pos 0 - 48)) (by rw [hz]; unfold sgd; rw [if_pos rfl]; omega)
    exact uw_t e s (ints l) _ _ _ _ _ _ _ _ _ pos (by omega) (by omega) (by omega) (by omega) rfl h1 h2 h3
  · obtain ⟨h2, h3⟩ := hb ((ints l).getD pos 0 - 48) (by rw [hz]; unfold sgd; rw [if_neg (by decide)]; omega)
    exact uw_f e s (ints l) _ _ _ _ _ _ _ _ _ pos (by omega) (by omega) (by omega) (by omega) rfl h1 h2 h3
/-- A sign that is no digit ends it. -/
theorem bad_uw (e : TypeId) (s : ByteArray) (l : List UInt8) (wh wl : Int) (pos : Nat) (hp : pos < l.length) (hd : ¬ DigB (l[pos])) : ∃ r p, runUw (SUw e s (ints l) wh wl pos) = some (.ret, ZUw e s r (ints l) wh wl p) := by
  obtain ⟨r, x, hx⟩ : ∃ r x, Utf8.decode (txt (ints l)) pos = (r, x) := ⟨_, _, rfl⟩
  have hz : (ints l).getD pos 0 = ((l[pos]).toNat : Int) := ints_get hp
  have hlen : (ints l).length = l.length := ints_len l
  have hb := (l[pos]).toNat_lt
  have hr : r < 48 ∨ (57 < r ∧ r < 97) ∨ (97 ≤ r ∧ r ≤ 102) ∨ (102 < r ∧ r ≤ 1114111) := by
    have hle := dec_le (ints l) pos
    rw [hx] at hle
    unfold DigB at hd
    rcases Int.lt_or_le ((ints l).getD pos 0) 128 with h1 | h1
    · have := dec_lo (ints l) pos (by omega) ⟨by omega, h1⟩
      rw [hx] at this
      have h2 : r = ((ints l).getD pos 0).toNat := congrArg Prod.fst this
      omega
    · have := dec_hi (ints l) pos (by omega) ⟨h1, by omega⟩
      rw [hx] at this
      have h2 : 128 ≤ r := this
      have h3 : r ≤ 1114111 := hle
      omega
  rcases hr with h | ⟨h, h'⟩ | ⟨h, h'⟩ | ⟨h, h'⟩
  · exact ⟨_, _, uz_l e s (ints l) wh wl pos r x (by omega) hx h⟩
  · exact ⟨_, _, uz_m e s (ints l) wh wl pos r x (by omega) hx h h'⟩
  · exact ⟨_, _, uz_a e s (ints l) wh wl pos r x (by omega) hx h h'⟩
  · exact ⟨_, _, uz_h e s (ints l) wh wl pos r x (by omega) hx h h'⟩
instance (c : UInt8) : Decidable (DigB c) := by unfold DigB; infer_instance
theorem wv0 : wv 0 = wd 0 0 := wv_eq (by omega) (by omega)
theorem und_all (e : TypeId) (s : ByteArray) : evCall Tryz.prog 10 (bodied Tryz.prog) ovU sbU 1000 20 10 [.string s] (Hx e []) = some (.tuple #[wv (undecWV s.data.toList).1, .bool (undecWV s.data.toList).2], Hx e [], []) := by
  have ht := uw_trim s
  have hsz : s.size = s.data.toList.length := by rw [Array.length_toList]; rfl
  have hneg := restB_len s.data.toList
  generalize hl : restB s.data.toList = l at ht hneg
  have hs' : (negB s.data.toList = true ∧ l.length < s.size) ∨ (negB s.data.toList = false ∧ l.length = s.size) := by
    rcases hneg with ⟨h1, h2⟩ | ⟨h1, h2⟩
    · exact .inl ⟨h1, by omega⟩
    · exact .inr ⟨h1, by rw [hsz, h2]⟩
  have hlen : (ints l).length = l.length := ints_len l
  have h00 : ∀ neg, HS e s neg l 0 = SUw e s (ints l) 0 0 0 := fun neg => by
    unfold HS wAt wval
    rw [List.take_zero, List.foldl_nil]
    rfl
  have none_of : (restB s.data.toList).length > 40 ∨ (∃ c ∈ restB s.data.toList, ¬ DigB c) → ∀ r wh wl p, (∀ s0, clUw s0 = SUw e s (ints l) 0 0 0 → evLoop runUw clUw 1000 s0 = some (.ret, ZUw e s r (ints l) wh wl p)) → evCall Tryz.prog 10 (bodied Tryz.prog) ovU sbU 1000 20 10 [.string s] (Hx e []) = some (.tuple #[wv (undecWV s.data.toList).1, .bool (undecWV s.data.toList).2], Hx e [], []) := by
    intro hb r wh wl p hL
    rw [undecW_bad _ hb, wv0]
    exact uc_bad e s (ints l) wh wl p r ht hL
  rcases Nat.lt_or_ge 40 l.length with h40 | h40
  · by_cases hd : DigB (l[0]'(by omega))
    · have hz : (ints l).getD 0 0 = ((l[0]'(by omega)).toNat : Int) := ints_get (by omega)
      unfold DigB at hd
      exact none_of (.inl (by rw [hl]; exact h40)) _ 0 0 1 fun s0 h0 => Dg.evLoop_stop h0 (uz_w e s (ints l) 0 0 0 (by omega) (by omega) (by omega)) (by simp)
    · obtain ⟨r, p, hr⟩ := bad_uw e s l 0 0 0 (by omega) hd
      exact none_of (.inl (by rw [hl]; exact h40)) r 0 0 p fun s0 h0 => Dg.evLoop_stop h0 hr (by simp)
  · rcases first_orU (p := fun j => ∃ h : j < l.length, ¬ DigB (l[j])) l.length with ⟨j, hj, ⟨hj', hjd⟩, hjn⟩ | hall
    · obtain ⟨r, p, hr⟩ := bad_uw e s l (wAt (negB s.data.toList) l j / 18446744073709551616) (wAt (negB s.data.toList) l j % 18446744073709551616) j hj hjd
      refine none_of (.inr ⟨l[j], by rw [hl]; exact List.getElem_mem hj, hjd⟩) r (wAt (negB s.data.toList) l j / 18446744073709551616) (wAt (negB s.data.toList) l j % 18446744073709551616) p fun s0 h0 => ?_
      exact Dg.loop_run (S := HS e s (negB s.data.toList) l) (n := j) (by simp) (fun i hi => round_uw e s _ l hs' h40 i (by omega) (Decidable.not_not.1 fun hn => hjn i hi ⟨by omega, hn⟩)) hr (by omega) (by rw [h00]; exact h0)
    · have hdig : ∀ c ∈ restB s.data.toList, DigB c := fun c hc => by
        rw [hl] at hc
        obtain ⟨i, hi, rfl⟩ := List.getElem_of_mem hc
        exact Decidable.not_not.1 fun hn => hall i hi ⟨hi, hn⟩
      have hL : ∀ s0, clUw s0 = SUw e s (ints l) 0 0 0 → evLoop runUw clUw 1000 s0 = some (.exit 0, EUw e s (ints l) (wAt (negB s.data.toList) l l.length / 18446744073709551616) (wAt (negB s.data.toList) l l.length % 18446744073709551616) l.length) := fun s0 h0 =>
        Dg.loop_run (S := HS e s (negB s.data.toList) l) (n := l.length) (by simp) (fun i hi => round_uw e s _ l hs' h40 i hi (Decidable.not_not.1 fun hn => hall i hi ⟨hi, hn⟩)) (ue_w e s (ints l) _ _ l.length hlen) (by omega) (by rw [h00]; exact h0)
      have hw : wAt (negB s.data.toList) l l.length = wval (negB s.data.toList) 0 (restB s.data.toList) := by
        unfold wAt
        rw [List.take_length, hl]
      have hin := wAt_in (negB s.data.toList) l l.length
      rw [undecW_fold _ hdig, ← hw]
      by_cases he : Lib.itoa (wAt (negB s.data.toList) l l.length) = s.data.toList
      · rw [if_pos he]
        exact uc_eq e s (decV _) (ints l) _ _ _ l.length ht hin rfl rfl (by unfold decV; rw [he]) hL
      · rw [if_neg he]
        show _ = some (Value.tuple #[wv 0, .bool false], Hx e [], [])
        rw [wv0]
        refine uc_ne e s (decV _) (ints l) _ _ _ l.length ht hin rfl rfl (fun hh => he ?_) hL
        have := congrArg (fun b : ByteArray => b.data.toList) hh
        exact this
end Go.Proofs.YtflgpkkbifkpoaaGreatDoor.num
