/- The reference's number of a text: its rounds and its ends. The reference's number of a text, as a law. Decimal texts: what is told is read as it was. Plain Lean, beside what the reference comes to. The reference's number of a text: of which texts there is one. -/
import Derived.Test.YtflgpkkbifkpoaaGreatDoorRows
import Derived.Test.YtflgpkkbifkpoaaGreatDoorNumBb
import Derived.Lib.ParseIntB
namespace Go.Proofs.YtflgpkkbifkpoaaGreatDoor.num
open Go.Dg (junk St Ex Ev Hint evCall evCallS evCode evCodeK innerKp evCodeS evLoop cleanSt ue bodied noOver sbOf headOf tailOf bodyOf rAssign rBody lBody Flats flatOver Heap AObj SCall Law ofLaw Fix)
set_option linter.unusedVariables false
set_option linter.unusedSimpArgs false

theorem txt_get (zs : List Int) (pos : Nat) (h : pos < (txt zs).size) (hz : 0 ≤ zs.getD pos 0 ∧ zs.getD pos 0 < 256) : (((txt zs)[pos]'h).toNat : Int) = zs.getD pos 0 := by
  have h2 : pos < zs.length := by rw [txt_size] at h; exact h
  have e : (txt zs)[pos]'h = UInt8.ofNat (zs.getD pos 0).toNat := by
    simp [txt, ByteArray.getElem_eq_getElem_data, List.getD_eq_getElem?_getD, h2]
  rw [e, UInt8.toNat_ofNat']
  omega
theorem strAt_txt {zs : List Int} {i : Nat} {z : Int} (h : i < zs.length) (he : zs.getD i 0 = z) (hz : 0 ≤ z ∧ z < 256) : Dg.strAt (txt zs) (i : Int) = some z := by
  subst he
  unfold Dg.strAt
  have hs : i < (txt zs).size := by rw [txt_size]; exact h
  rw [if_pos (by omega), Int.toNat_natCast, getElem?_pos (txt zs) i hs]
  exact congrArg some (txt_get zs i hs hz)
theorem of10 {t : Nat} (ht : t = 10) : o3 30 [.int .i64 10] = some (num false t) := by
  subst ht
  exact under3 (under2 (of_told 10 (by omega)))
theorem ofd {d : Nat} (h : d < 10) : o3 30 [.int .i64 (d : Int)] = some (num false d) := by
  have := of_told (d : Int) (by omega)
  rw [decide_eq_false (by omega), Int.natAbs_natCast] at this
  exact under3 (under2 this)
theorem mul10 {v p t : Nat} (ht : t = 10) (hp : p = v * 10) (hb : p < B ^ 19) : o3 29 [num false v, num false t] = some (num false p) := by
  subst ht hp
  exact under3 (mul_told false false (by have : v ≤ v * 10 := by omega
                                         exact Nat.lt_of_le_of_lt this (pow19 hb)) hb)
theorem addd {p d v' : Nat} (hv : v' = p + d) (hd : d < 10) (hb : v' < B ^ 19) : o3 28 [num false p, num false d] = some (num false v') := by
  subst hv
  exact under3 (add_same false (by omega) (Nat.lt_of_lt_of_le hd (by decide)) hb)
noncomputable def lU : Code := lBody ((Tryz.f11.body).getD .skip)
noncomputable abbrev runU : St → Option (Ex × St) := evCodeK Tryz.prog 0 (bodied Tryz.prog) (evCall Tryz.prog 0 (bodied Tryz.prog) ov3 sbs 1000 19) 0 11 1000 lU (innerKp lU [])
noncomputable abbrev clU : St → St := cleanSt 0 11 (ue lU [] []).1
def TU (zs : List Int) (lb : Bool) (lm : Nat) (hb : Bool) (hm : Nat) (fr i : Nat) (r : List Value) : List Value := [.string (txt zs), num lb lm, num hb hm, undef, ptr 0, ptr 1, ptr 2, .bool false, ptr 3, .int .i64 fr, .int .i64 i] ++ r
def HU (lb : Bool) (lm : Nat) (hb : Bool) (hm : Nat) (v : Nat) : Heap := ⟨4, [oN false (lim v), oN false (fun _ => 0), oN hb (lim hm), oN lb (lim lm)]⟩
theorem lim0 : lim 0 = fun _ => 0 := by funext t; simp [lim, limb_zero]
def SU (zs : List Int) (lb : Bool) (lm : Nat) (hb : Bool) (hm : Nat) (fr i v : Nat) : St := ⟨TU zs lb lm hb hm fr i (js 67), HU lb lm hb hm v, []⟩
def SU0 (zs : List Int) (lb : Bool) (lm : Nat) (hb : Bool) (hm : Nat) (fr : Nat) : St := ⟨TU zs lb lm hb hm fr fr (js 67), ⟨4, [oN false (fun _ => 0), oN false (fun _ => 0), oN hb (lim hm), oN lb (lim lm)]⟩, []⟩
theorem su_start {zs : List Int} {lb : Bool} {lm : Nat} {hb : Bool} {hm fr : Nat} {s0 : St} (h : clU s0 = SU0 zs lb lm hb hm fr) : clU s0 = SU zs lb lm hb hm fr fr 0 := by
  rw [h]
  unfold SU HU
  rw [lim0]
  rfl
--< ur
theorem ur (zs : List Int) (lb : Bool) (lm : Nat) (hb : Bool) (hm : Nat) (fr : Nat) (i : Nat) (v : Nat) (p : Nat) (v' : Nat) (d : Nat) (t : Nat) (ht : t = 10) (z : Int) (hi : i < List.length zs) (hl : List.length zs ≤ 60) (he : List.getD zs i 0 = z) (hz : 0 ≤ z ∧ z < 256) (h1 : 48 ≤ z) (h2 : z ≤ 57) (hd : z = 48 + (↑d : Int)) (hp : p = v * 10) (hv : v' = p + d) (hb' : v' < B ^ 19) (hpb : p < B ^ 19) :
    ∃ s', runU (SU zs lb lm hb hm fr i v) = some (Ex.normal, s') ∧ clU s' = SU zs lb lm hb hm fr (i + 1) v' :=
  Dg.code_round (f := 11) clU (hs := [Hint.val 11 34 (Value.bool true),
    Hint.soft 11 39 (Value.int IntKind.u8 z),
    Hint.val 11 40 (Value.bool false),
    Hint.soft 11 44 (Value.int IntKind.u8 z),
    Hint.val 11 45 (Value.bool false),
    Hint.call 30 (Value.agg { toList := kpN false (lim t) }) { n := 0, objs := [] } [],
    Hint.call 29 (Value.agg { toList := kpN false (lim p) }) { n := 0, objs := [] } [],
    Hint.soft 11 53 (Value.int IntKind.u8 z),
    Hint.val 11 54 (Value.int IntKind.i64 z),
    Hint.val 11 55 (Value.int IntKind.i64 (↑d : Int)),
    Hint.call 30 (Value.agg { toList := kpN false (lim d) }) { n := 0, objs := [] } [],
    Hint.call 28 (Value.agg { toList := kpN false (lim v') }) { n := 0, objs := [] } [],
    Hint.val 11 36 (Value.int IntKind.i64 (↑(i + 1) : Int))])
    [Value.bool (decide ((↑i : Int) < (↑(ByteArray.size (txt zs)) : Int))) = Value.bool true,
    Dg.strAt (txt zs) (↑i : Int) = some z,
    Value.bool (decide (z < (48 : Int))) = Value.bool false,
    Dg.strAt (txt zs) (↑i : Int) = some z,
    Value.bool (decide (z > (57 : Int))) = Value.bool false,
    evCall Tryz.prog 0 (bodied Tryz.prog) ov3 sbs 1000 19 30 [Value.int IntKind.i64 10] { n := 0, objs := [] } = some (Value.agg { toList := kpN false (lim t) }, { n := 0, objs := [] }, []),
    evCall Tryz.prog 0 (bodied Tryz.prog) ov3 sbs 1000 19 29 [Value.agg #[Value.bool false, Value.int IntKind.u64 (lim v 0), Value.int IntKind.u64 (lim v 1), Value.int IntKind.u64 (lim v 2), Value.int IntKind.u64 (lim v 3), Value.int IntKind.u64 (lim v 4), Value.int IntKind.u64 (lim v 5), Value.int IntKind.u64 (lim v 6), Value.int IntKind.u64 (lim v 7), Value.int IntKind.u64 (lim v 8), Value.int IntKind.u64 (lim v 9), Value.int IntKind.u64 (lim v 10), Value.int IntKind.u64 (lim v 11), Value.int IntKind.u64 (lim v 12), Value.int IntKind.u64 (lim v 13), Value.int IntKind.u64 (lim v 14), Value.int IntKind.u64 (lim v 15), Value.int IntKind.u64 (lim v 16), Value.int IntKind.u64 (lim v 17), Value.int IntKind.u64 (lim v 18), Value.int IntKind.u64 (lim v 19)], Value.agg { toList := kpN false (lim t) }] { n := 0, objs := [] } = some (Value.agg { toList := kpN false (lim p) }, { n := 0, objs := [] }, []),
    Dg.strAt (txt zs) (↑i : Int) = some z,
    Value.int IntKind.i64 (IntKind.wrap IntKind.i64 z) = Value.int IntKind.i64 z,
    Value.int IntKind.i64 (IntKind.wrap IntKind.i64 (z - (48 : Int))) = Value.int IntKind.i64 (↑d : Int),
    evCall Tryz.prog 0 (bodied Tryz.prog) ov3 sbs 1000 19 30 [Value.int IntKind.i64 (↑d : Int)] { n := 0, objs := [] } = some (Value.agg { toList := kpN false (lim d) }, { n := 0, objs := [] }, []),
    evCall Tryz.prog 0 (bodied Tryz.prog) ov3 sbs 1000 19 28 [Value.agg { toList := kpN false (lim p) }, Value.agg { toList := kpN false (lim d) }] { n := 0, objs := [] } = some (Value.agg { toList := kpN false (lim v') }, { n := 0, objs := [] }, []),
    Value.int IntKind.i64 (IntKind.wrap IntKind.i64 ((↑i : Int) + (1 : Int))) = Value.int IntKind.i64 (↑(i + (1 : Nat)) : Int)] (by kernel_rfl)
    ⟨Dg.vtrue (by rw [txt_size]; omega), strAt_txt hi he hz, Dg.vfalse (by omega), strAt_txt hi he hz, Dg.vfalse (by omega), Dg.evCall_told (of10 ht), Dg.evCall_told (mul10 ht hp hpb), strAt_txt hi he hz, Dg.i64_eq rfl (by omega) (by omega), Dg.i64_eq (by omega) (by omega) (by omega), Dg.evCall_told (ofd (by omega)), Dg.evCall_told (addd hv (by omega) hb'), inc64 (by omega), trivial⟩
--> ur
--< ux
theorem ux (zs : List Int) (lb : Bool) (lm : Nat) (hb : Bool) (hm : Nat) (fr : Nat) (i : Nat) (v : Nat) (z : Int) (hi : i < List.length zs) (hl : List.length zs ≤ 60) (he : List.getD zs i 0 = z) (hz : 0 ≤ z ∧ z < 256) (h1 : z < 48) :
    runU (SU zs lb lm hb hm fr i v) = some (Ex.ret, ({ ts := [Value.string (txt zs), Value.agg { toList := kpN lb (lim lm) }, Value.agg { toList := kpN hb (lim hm) }, undef, Value.pointer (some { block := 0, off := 0 }), Value.pointer (some { block := 1, off := 0 }), Value.pointer (some { block := 2, off := 0 }), Value.bool false, Value.pointer (some { block := 3, off := 0 }), Value.int IntKind.i64 (↑fr : Int), Value.int IntKind.i64 (↑i : Int), junk, junk, junk, junk, junk, junk, junk, junk, junk, junk, junk, junk, junk, junk, junk, junk, junk, junk, junk, junk, Value.int IntKind.i64 (↑i : Int), Value.string (txt zs), Value.int IntKind.i64 (↑(ByteArray.size (txt zs)) : Int), Value.bool true, junk, junk, Value.string (txt zs), Value.int IntKind.i64 (↑i : Int), Value.int IntKind.u8 z, Value.bool true, Value.bool true, undef, undef, undef, undef, Value.bool true, Value.agg #[Value.bool false, Value.int IntKind.u64 (lim v 0), Value.int IntKind.u64 (lim v 1), Value.int IntKind.u64 (lim v 2), Value.int IntKind.u64 (lim v 3), Value.int IntKind.u64 (lim v 4), Value.int IntKind.u64 (lim v 5), Value.int IntKind.u64 (lim v 6), Value.int IntKind.u64 (lim v 7), Value.int IntKind.u64 (lim v 8), Value.int IntKind.u64 (lim v 9), Value.int IntKind.u64 (lim v 10), Value.int IntKind.u64 (lim v 11), Value.int IntKind.u64 (lim v 12), Value.int IntKind.u64 (lim v 13), Value.int IntKind.u64 (lim v 14), Value.int IntKind.u64 (lim v 15), Value.int IntKind.u64 (lim v 16), Value.int IntKind.u64 (lim v 17), Value.int IntKind.u64 (lim v 18), Value.int IntKind.u64 (lim v 19)], junk, junk, junk, junk, junk, junk, junk, junk, junk, junk, junk, junk, junk, junk, junk, junk, junk, junk, junk, junk, junk, junk, junk, junk, junk, junk, junk, junk, junk, junk], H := { n := 4, objs := [AObj.cells (kpN false (lim v)) 30 4 1, AObj.cells [Value.bool false, Value.int IntKind.u64 (lim v 0), Value.int IntKind.u64 (lim v 1), Value.int IntKind.u64 (lim v 2), Value.int IntKind.u64 (lim v 3), Value.int IntKind.u64 (lim v 4), Value.int IntKind.u64 (lim v 5), Value.int IntKind.u64 (lim v 6), Value.int IntKind.u64 (lim v 7), Value.int IntKind.u64 (lim v 8), Value.int IntKind.u64 (lim v 9), Value.int IntKind.u64 (lim v 10), Value.int IntKind.u64 (lim v 11), Value.int IntKind.u64 (lim v 12), Value.int IntKind.u64 (lim v 13), Value.int IntKind.u64 (lim v 14), Value.int IntKind.u64 (lim v 15), Value.int IntKind.u64 (lim v 16), Value.int IntKind.u64 (lim v 17), Value.int IntKind.u64 (lim v 18), Value.int IntKind.u64 (lim v 19)] 30 4 1, AObj.cells (kpN hb (lim hm)) 30 4 1, AObj.cells (kpN lb (lim lm)) 30 4 1] }, log := [] } : St)) :=
  Dg.evCode_hint (f := 11) (hs' := []) (hs := [Hint.val 11 34 (Value.bool true),
    Hint.soft 11 39 (Value.int IntKind.u8 z),
    Hint.val 11 40 (Value.bool true)])
    [Value.bool (decide ((↑i : Int) < (↑(ByteArray.size (txt zs)) : Int))) = Value.bool true,
    Dg.strAt (txt zs) (↑i : Int) = some z,
    Value.bool (decide (z < (48 : Int))) = Value.bool true] (by kernel_rfl)
    ⟨Dg.vtrue (by rw [txt_size]; omega), strAt_txt hi he hz, Dg.vtrue (by omega), trivial⟩
--> ux
--< uy
theorem uy (zs : List Int) (lb : Bool) (lm : Nat) (hb : Bool) (hm : Nat) (fr : Nat) (i : Nat) (v : Nat) (z : Int) (hi : i < List.length zs) (hl : List.length zs ≤ 60) (he : List.getD zs i 0 = z) (hz : 0 ≤ z ∧ z < 256) (h1 : 57 < z) :
    runU (SU zs lb lm hb hm fr i v) = some (Ex.ret, ({ ts := [Value.string (txt zs), Value.agg { toList := kpN lb (lim lm) }, Value.agg { toList := kpN hb (lim hm) }, undef, Value.pointer (some { block := 0, off := 0 }), Value.pointer (some { block := 1, off := 0 }), Value.pointer (some { block := 2, off := 0 }), Value.bool false, Value.pointer (some { block := 3, off := 0 }), Value.int IntKind.i64 (↑fr : Int), Value.int IntKind.i64 (↑i : Int), junk, junk, junk, junk, junk, junk, junk, junk, junk, junk, junk, junk, junk, junk, junk, junk, junk, junk, junk, junk, Value.int IntKind.i64 (↑i : Int), Value.string (txt zs), Value.int IntKind.i64 (↑(ByteArray.size (txt zs)) : Int), Value.bool true, junk, junk, Value.string (txt zs), Value.int IntKind.i64 (↑i : Int), Value.int IntKind.u8 z, Value.bool false, Value.bool false, Value.string (txt zs), Value.int IntKind.i64 (↑i : Int), Value.int IntKind.u8 z, Value.bool true, Value.bool true, Value.agg #[Value.bool false, Value.int IntKind.u64 (lim v 0), Value.int IntKind.u64 (lim v 1), Value.int IntKind.u64 (lim v 2), Value.int IntKind.u64 (lim v 3), Value.int IntKind.u64 (lim v 4), Value.int IntKind.u64 (lim v 5), Value.int IntKind.u64 (lim v 6), Value.int IntKind.u64 (lim v 7), Value.int IntKind.u64 (lim v 8), Value.int IntKind.u64 (lim v 9), Value.int IntKind.u64 (lim v 10), Value.int IntKind.u64 (lim v 11), Value.int IntKind.u64 (lim v 12), Value.int IntKind.u64 (lim v 13), Value.int IntKind.u64 (lim v 14), Value.int IntKind.u64 (lim v 15), Value.int IntKind.u64 (lim v 16), Value.int IntKind.u64 (lim v 17), Value.int IntKind.u64 (lim v 18), Value.int IntKind.u64 (lim v 19)], junk, junk, junk, junk, junk, junk, junk, junk, junk, junk, junk, junk, junk, junk, junk, junk, junk, junk, junk, junk, junk, junk, junk, junk, junk, junk, junk, junk, junk, junk], H := { n := 4, objs := [AObj.cells (kpN false (lim v)) 30 4 1, AObj.cells [Value.bool false, Value.int IntKind.u64 (lim v 0), Value.int IntKind.u64 (lim v 1), Value.int IntKind.u64 (lim v 2), Value.int IntKind.u64 (lim v 3), Value.int IntKind.u64 (lim v 4), Value.int IntKind.u64 (lim v 5), Value.int IntKind.u64 (lim v 6), Value.int IntKind.u64 (lim v 7), Value.int IntKind.u64 (lim v 8), Value.int IntKind.u64 (lim v 9), Value.int IntKind.u64 (lim v 10), Value.int IntKind.u64 (lim v 11), Value.int IntKind.u64 (lim v 12), Value.int IntKind.u64 (lim v 13), Value.int IntKind.u64 (lim v 14), Value.int IntKind.u64 (lim v 15), Value.int IntKind.u64 (lim v 16), Value.int IntKind.u64 (lim v 17), Value.int IntKind.u64 (lim v 18), Value.int IntKind.u64 (lim v 19)] 30 4 1, AObj.cells (kpN hb (lim hm)) 30 4 1, AObj.cells (kpN lb (lim lm)) 30 4 1] }, log := [] } : St)) :=
  Dg.evCode_hint (f := 11) (hs' := []) (hs := [Hint.val 11 34 (Value.bool true),
    Hint.soft 11 39 (Value.int IntKind.u8 z),
    Hint.val 11 40 (Value.bool false),
    Hint.soft 11 44 (Value.int IntKind.u8 z),
    Hint.val 11 45 (Value.bool true)])
    [Value.bool (decide ((↑i : Int) < (↑(ByteArray.size (txt zs)) : Int))) = Value.bool true,
    Dg.strAt (txt zs) (↑i : Int) = some z,
    Value.bool (decide (z < (48 : Int))) = Value.bool false,
    Dg.strAt (txt zs) (↑i : Int) = some z,
    Value.bool (decide (z > (57 : Int))) = Value.bool true] (by kernel_rfl)
    ⟨Dg.vtrue (by rw [txt_size]; omega), strAt_txt hi he hz, Dg.vfalse (by omega), strAt_txt hi he hz, Dg.vtrue (by omega), trivial⟩
--> uy
--< ue_
theorem ue_ (zs : List Int) (lb : Bool) (lm : Nat) (hb : Bool) (hm : Nat) (fr : Nat) (i : Nat) (v : Nat) (hi : i = List.length zs) (hl : List.length zs ≤ 60) :
    runU (SU zs lb lm hb hm fr i v) = some (Ex.exit 0, ({ ts := [Value.string (txt zs), Value.agg { toList := kpN lb (lim lm) }, Value.agg { toList := kpN hb (lim hm) }, undef, Value.pointer (some { block := 0, off := 0 }), Value.pointer (some { block := 1, off := 0 }), Value.pointer (some { block := 2, off := 0 }), Value.bool false, Value.pointer (some { block := 3, off := 0 }), Value.int IntKind.i64 (↑fr : Int), Value.int IntKind.i64 (↑i : Int), junk, junk, junk, junk, junk, junk, junk, junk, junk, junk, junk, junk, junk, junk, junk, junk, junk, junk, junk, junk, Value.int IntKind.i64 (↑i : Int), Value.string (txt zs), Value.int IntKind.i64 (↑(ByteArray.size (txt zs)) : Int), Value.bool false, junk, junk, junk, junk, junk, junk, junk, junk, junk, junk, junk, junk, junk, junk, junk, junk, junk, junk, junk, junk, junk, junk, junk, junk, junk, junk, junk, junk, junk, junk, junk, junk, junk, junk, junk, junk, junk, junk, junk, junk, junk, junk, junk], H := { n := 4, objs := [AObj.cells (kpN false (lim v)) 30 4 1, AObj.cells (kpN false fun x => 0) 30 4 1, AObj.cells (kpN hb (lim hm)) 30 4 1, AObj.cells (kpN lb (lim lm)) 30 4 1] }, log := [] } : St)) :=
  Dg.evCode_hint (f := 11) (hs' := []) (hs := [Hint.val 11 34 (Value.bool false)])
    [Value.bool (decide ((↑i : Int) < (↑(ByteArray.size (txt zs)) : Int))) = Value.bool false] (by kernel_rfl)
    ⟨Dg.vfalse (by rw [txt_size]; omega), trivial⟩
--> ue_
def XU (zs : List Int) (lb : Bool) (lm : Nat) (hb : Bool) (hm : Nat) (fr i v : Nat) (rest : List Value) : St := ⟨TU zs lb lm hb hm fr i rest, ⟨4, [oN false (lim v), oN false (lim v), oN hb (lim hm), oN lb (lim lm)]⟩, []⟩
def EU (zs : List Int) (lb : Bool) (lm : Nat) (hb : Bool) (hm : Nat) (fr i v : Nat) : St := ⟨TU zs lb lm hb hm fr i (js 20 ++ ([.int .i64 i, .string (txt zs), .int .i64 ((txt zs).size : Int), .bool false] ++ js 43)), HU lb lm hb hm v, []⟩
theorem eqT {a b : List Int} {e : Bool} (h : ((a.map fun n => UInt8.ofNat n.toNat) == (b.map fun n => UInt8.ofNat n.toNat)) = e) : Value.bool (ByteArray.toList (txt a) == ByteArray.toList (txt b)) = .bool e := by rw [txt_list, txt_list, h]
--< uretA
theorem uretA (zs : List Int) (lb : Bool) (lm : Nat) (hb : Bool) (hm : Nat) (z : Int) (he : List.getD zs 0 0 = z) (hz : 0 ≤ z ∧ z < 256) (h45 : z ≠ 45) (h0 : 0 < List.length zs) (hl : List.length zs ≤ 60) (i : Nat) (v : Nat) (rest : List Value) (hL : ∀ (s0 : St), clU s0 = SU zs lb lm hb hm 0 0 0 → evLoop runU clU 1000 s0 = some (Ex.ret, XU zs lb lm hb hm 0 i v rest)) :
    evCall Tryz.prog 0 (bodied Tryz.prog) ov3 sbs 1000 20 11 [Value.string (txt zs), num lb lm, num hb hm] { n := 0, objs := [] } = some (Value.tuple { toList := [Value.agg #[Value.bool false, Value.int IntKind.u64 (lim v 0), Value.int IntKind.u64 (lim v 1), Value.int IntKind.u64 (lim v 2), Value.int IntKind.u64 (lim v 3), Value.int IntKind.u64 (lim v 4), Value.int IntKind.u64 (lim v 5), Value.int IntKind.u64 (lim v 6), Value.int IntKind.u64 (lim v 7), Value.int IntKind.u64 (lim v 8), Value.int IntKind.u64 (lim v 9), Value.int IntKind.u64 (lim v 10), Value.int IntKind.u64 (lim v 11), Value.int IntKind.u64 (lim v 12), Value.int IntKind.u64 (lim v 13), Value.int IntKind.u64 (lim v 14), Value.int IntKind.u64 (lim v 15), Value.int IntKind.u64 (lim v 16), Value.int IntKind.u64 (lim v 17), Value.int IntKind.u64 (lim v 18), Value.int IntKind.u64 (lim v 19)], Value.bool false] }, { n := 0, objs := [] }, []) :=
  Dg.evCall_hint (hs' := []) (hs := [Hint.val 11 14 (Value.bool true),
    Hint.soft 11 17 (Value.int IntKind.u8 z),
    Hint.val 11 18 (Value.bool false),
    Hint.val 11 23 (Value.bool false),
    Hint.val 11 27 (Value.bool false),
    Hint.loop 11 Ex.ret (XU zs lb lm hb hm 0 i v rest)])
    [Value.bool (decide ((↑(ByteArray.size (txt zs)) : Int) > (0 : Int))) = Value.bool true,
    Dg.strAt (txt zs) (0 : Int) = some z,
    Value.bool (z == (45 : Int)) = Value.bool false,
    Value.bool ((↑(ByteArray.size (txt zs)) : Int) == (0 : Int)) = Value.bool false,
    Value.bool (decide ((↑(ByteArray.size (txt zs)) : Int) > (60 : Int))) = Value.bool false,
    evLoop runU clU 1000 { ts := [Value.string (txt zs), Value.agg { toList := kpN lb (lim lm) }, Value.agg { toList := kpN hb (lim hm) }, undef, Value.pointer (some { block := 0, off := 0 }), Value.pointer (some { block := 1, off := 0 }), Value.pointer (some { block := 2, off := 0 }), Value.bool false, Value.pointer (some { block := 3, off := 0 }), Value.int IntKind.i64 0, Value.int IntKind.i64 0, Value.agg #[Value.bool false, Value.int IntKind.u64 0, Value.int IntKind.u64 0, Value.int IntKind.u64 0, Value.int IntKind.u64 0, Value.int IntKind.u64 0, Value.int IntKind.u64 0, Value.int IntKind.u64 0, Value.int IntKind.u64 0, Value.int IntKind.u64 0, Value.int IntKind.u64 0, Value.int IntKind.u64 0, Value.int IntKind.u64 0, Value.int IntKind.u64 0, Value.int IntKind.u64 0, Value.int IntKind.u64 0, Value.int IntKind.u64 0, Value.int IntKind.u64 0, Value.int IntKind.u64 0, Value.int IntKind.u64 0, Value.int IntKind.u64 0], Value.string (txt zs), Value.int IntKind.i64 (↑(ByteArray.size (txt zs)) : Int), Value.bool true, Value.bool true, Value.string (txt zs), Value.int IntKind.u8 z, Value.bool false, Value.bool false, Value.string (txt zs), Value.int IntKind.i64 (↑(ByteArray.size (txt zs)) : Int), Value.int IntKind.i64 0, Value.bool false, Value.bool false, Value.string (txt zs), Value.int IntKind.i64 (↑(ByteArray.size (txt zs)) : Int), Value.bool false, Value.bool false, undef, Value.int IntKind.i64 0, undef, undef, undef, undef, undef, undef, undef, undef, undef, undef, undef, undef, undef, undef, undef, undef, undef, undef, undef, undef, undef, undef, undef, undef, undef, undef, undef, undef, undef, undef, undef, undef, undef, undef, undef, undef, undef, undef, undef, undef, undef, undef, undef, undef, undef, undef, undef], H := { n := 4, objs := [AObj.cells [Value.bool false, Value.int IntKind.u64 0, Value.int IntKind.u64 0, Value.int IntKind.u64 0, Value.int IntKind.u64 0, Value.int IntKind.u64 0, Value.int IntKind.u64 0, Value.int IntKind.u64 0, Value.int IntKind.u64 0, Value.int IntKind.u64 0, Value.int IntKind.u64 0, Value.int IntKind.u64 0, Value.int IntKind.u64 0, Value.int IntKind.u64 0, Value.int IntKind.u64 0, Value.int IntKind.u64 0, Value.int IntKind.u64 0, Value.int IntKind.u64 0, Value.int IntKind.u64 0, Value.int IntKind.u64 0, Value.int IntKind.u64 0] 30 0 1, AObj.cells [Value.bool false, Value.int IntKind.u64 0, Value.int IntKind.u64 0, Value.int IntKind.u64 0, Value.int IntKind.u64 0, Value.int IntKind.u64 0, Value.int IntKind.u64 0, Value.int IntKind.u64 0, Value.int IntKind.u64 0, Value.int IntKind.u64 0, Value.int IntKind.u64 0, Value.int IntKind.u64 0, Value.int IntKind.u64 0, Value.int IntKind.u64 0, Value.int IntKind.u64 0, Value.int IntKind.u64 0, Value.int IntKind.u64 0, Value.int IntKind.u64 0, Value.int IntKind.u64 0, Value.int IntKind.u64 0, Value.int IntKind.u64 0] 30 0 1, AObj.cells [Value.bool hb, Value.int IntKind.u64 (lim hm 0), Value.int IntKind.u64 (lim hm 1), Value.int IntKind.u64 (lim hm 2), Value.int IntKind.u64 (lim hm 3), Value.int IntKind.u64 (lim hm 4), Value.int IntKind.u64 (lim hm 5), Value.int IntKind.u64 (lim hm 6), Value.int IntKind.u64 (lim hm 7), Value.int IntKind.u64 (lim hm 8), Value.int IntKind.u64 (lim hm 9), Value.int IntKind.u64 (lim hm 10), Value.int IntKind.u64 (lim hm 11), Value.int IntKind.u64 (lim hm 12), Value.int IntKind.u64 (lim hm 13), Value.int IntKind.u64 (lim hm 14), Value.int IntKind.u64 (lim hm 15), Value.int IntKind.u64 (lim hm 16), Value.int IntKind.u64 (lim hm 17), Value.int IntKind.u64 (lim hm 18), Value.int IntKind.u64 (lim hm 19)] 30 0 1, AObj.cells [Value.bool lb, Value.int IntKind.u64 (lim lm 0), Value.int IntKind.u64 (lim lm 1), Value.int IntKind.u64 (lim lm 2), Value.int IntKind.u64 (lim lm 3), Value.int IntKind.u64 (lim lm 4), Value.int IntKind.u64 (lim lm 5), Value.int IntKind.u64 (lim lm 6), Value.int IntKind.u64 (lim lm 7), Value.int IntKind.u64 (lim lm 8), Value.int IntKind.u64 (lim lm 9), Value.int IntKind.u64 (lim lm 10), Value.int IntKind.u64 (lim lm 11), Value.int IntKind.u64 (lim lm 12), Value.int IntKind.u64 (lim lm 13), Value.int IntKind.u64 (lim lm 14), Value.int IntKind.u64 (lim lm 15), Value.int IntKind.u64 (lim lm 16), Value.int IntKind.u64 (lim lm 17), Value.int IntKind.u64 (lim lm 18), Value.int IntKind.u64 (lim lm 19)] 30 0 1] }, log := [] } = some (Ex.ret, XU zs lb lm hb hm 0 i v rest)] (by kernel_rfl)
    ⟨Dg.vtrue (by rw [txt_size]; omega), strAt_txt (i := 0) (by omega) he hz, Dg.vfalse (by omega), Dg.vfalse (by rw [txt_size]; omega), Dg.vfalse (by rw [txt_size]; omega), hL _ (su_start (by kernel_rfl)), trivial⟩
--> uretA
--< uqfA
theorem uqfA (zs : List Int) (lb : Bool) (lm : Nat) (hb : Bool) (hm : Nat) (z : Int) (he : List.getD zs 0 0 = z) (hz : 0 ≤ z ∧ z < 256) (h45 : z ≠ 45) (h0 : 0 < List.length zs) (hl : List.length zs ≤ 60) (i : Nat) (v : Nat) (hL : ∀ (s0 : St), clU s0 = SU zs lb lm hb hm 0 0 0 → evLoop runU clU 1000 s0 = some (Ex.exit 0, EU zs lb lm hb hm 0 i v)) (ds : List Int) (hN : o3 7 [num false v] = some (Value.string (txt ds))) (hq : (List.map (fun n => UInt8.ofNat (Int.toNat n)) ds == List.map (fun n => UInt8.ofNat (Int.toNat n)) zs) = false) :
    evCall Tryz.prog 0 (bodied Tryz.prog) ov3 sbs 1000 20 11 [Value.string (txt zs), num lb lm, num hb hm] { n := 0, objs := [] } = some (Value.tuple { toList := [Value.agg #[Value.bool false, Value.int IntKind.u64 (lim v 0), Value.int IntKind.u64 (lim v 1), Value.int IntKind.u64 (lim v 2), Value.int IntKind.u64 (lim v 3), Value.int IntKind.u64 (lim v 4), Value.int IntKind.u64 (lim v 5), Value.int IntKind.u64 (lim v 6), Value.int IntKind.u64 (lim v 7), Value.int IntKind.u64 (lim v 8), Value.int IntKind.u64 (lim v 9), Value.int IntKind.u64 (lim v 10), Value.int IntKind.u64 (lim v 11), Value.int IntKind.u64 (lim v 12), Value.int IntKind.u64 (lim v 13), Value.int IntKind.u64 (lim v 14), Value.int IntKind.u64 (lim v 15), Value.int IntKind.u64 (lim v 16), Value.int IntKind.u64 (lim v 17), Value.int IntKind.u64 (lim v 18), Value.int IntKind.u64 (lim v 19)], Value.bool false] }, { n := 0, objs := [] }, []) :=
  Dg.evCall_hint (hs' := []) (hs := [Hint.val 11 14 (Value.bool true),
    Hint.soft 11 17 (Value.int IntKind.u8 z),
    Hint.val 11 18 (Value.bool false),
    Hint.val 11 23 (Value.bool false),
    Hint.val 11 27 (Value.bool false),
    Hint.loop 11 (Ex.exit 0) (EU zs lb lm hb hm 0 i v),
    Hint.call 7 (Value.string (txt ds)) { n := 0, objs := [] } [],
    Hint.val 11 65 (Value.bool false)])
    [Value.bool (decide ((↑(ByteArray.size (txt zs)) : Int) > (0 : Int))) = Value.bool true,
    Dg.strAt (txt zs) (0 : Int) = some z,
    Value.bool (z == (45 : Int)) = Value.bool false,
    Value.bool ((↑(ByteArray.size (txt zs)) : Int) == (0 : Int)) = Value.bool false,
    Value.bool (decide ((↑(ByteArray.size (txt zs)) : Int) > (60 : Int))) = Value.bool false,
    evLoop runU clU 1000 { ts := [Value.string (txt zs), Value.agg { toList := kpN lb (lim lm) }, Value.agg { toList := kpN hb (lim hm) }, undef, Value.pointer (some { block := 0, off := 0 }), Value.pointer (some { block := 1, off := 0 }), Value.pointer (some { block := 2, off := 0 }), Value.bool false, Value.pointer (some { block := 3, off := 0 }), Value.int IntKind.i64 0, Value.int IntKind.i64 0, Value.agg #[Value.bool false, Value.int IntKind.u64 0, Value.int IntKind.u64 0, Value.int IntKind.u64 0, Value.int IntKind.u64 0, Value.int IntKind.u64 0, Value.int IntKind.u64 0, Value.int IntKind.u64 0, Value.int IntKind.u64 0, Value.int IntKind.u64 0, Value.int IntKind.u64 0, Value.int IntKind.u64 0, Value.int IntKind.u64 0, Value.int IntKind.u64 0, Value.int IntKind.u64 0, Value.int IntKind.u64 0, Value.int IntKind.u64 0, Value.int IntKind.u64 0, Value.int IntKind.u64 0, Value.int IntKind.u64 0, Value.int IntKind.u64 0], Value.string (txt zs), Value.int IntKind.i64 (↑(ByteArray.size (txt zs)) : Int), Value.bool true, Value.bool true, Value.string (txt zs), Value.int IntKind.u8 z, Value.bool false, Value.bool false, Value.string (txt zs), Value.int IntKind.i64 (↑(ByteArray.size (txt zs)) : Int), Value.int IntKind.i64 0, Value.bool false, Value.bool false, Value.string (txt zs), Value.int IntKind.i64 (↑(ByteArray.size (txt zs)) : Int), Value.bool false, Value.bool false, undef, Value.int IntKind.i64 0, undef, undef, undef, undef, undef, undef, undef, undef, undef, undef, undef, undef, undef, undef, undef, undef, undef, undef, undef, undef, undef, undef, undef, undef, undef, undef, undef, undef, undef, undef, undef, undef, undef, undef, undef, undef, undef, undef, undef, undef, undef, undef, undef, undef, undef, undef, undef], H := { n := 4, objs := [AObj.cells [Value.bool false, Value.int IntKind.u64 0, Value.int IntKind.u64 0, Value.int IntKind.u64 0, Value.int IntKind.u64 0, Value.int IntKind.u64 0, Value.int IntKind.u64 0, Value.int IntKind.u64 0, Value.int IntKind.u64 0, Value.int IntKind.u64 0, Value.int IntKind.u64 0, Value.int IntKind.u64 0, Value.int IntKind.u64 0, Value.int IntKind.u64 0, Value.int IntKind.u64 0, Value.int IntKind.u64 0, Value.int IntKind.u64 0, Value.int IntKind.u64 0, Value.int IntKind.u64 0, Value.int IntKind.u64 0, Value.int IntKind.u64 0] 30 0 1, AObj.cells [Value.bool false, Value.int IntKind.u64 0, Value.int IntKind.u64 0, Value.int IntKind.u64 0, Value.int IntKind.u64 0, Value.int IntKind.u64 0, Value.int IntKind.u64 0, Value.int IntKind.u64 0, Value.int IntKind.u64 0, Value.int IntKind.u64 0, Value.int IntKind.u64 0, Value.int IntKind.u64 0, Value.int IntKind.u64 0, Value.int IntKind.u64 0, Value.int IntKind.u64 0, Value.int IntKind.u64 0, Value.int IntKind.u64 0, Value.int IntKind.u64 0, Value.int IntKind.u64 0, Value.int IntKind.u64 0, Value.int IntKind.u64 0] 30 0 1, AObj.cells [Value.bool hb, Value.int IntKind.u64 (lim hm 0), Value.int IntKind.u64 (lim hm 1), Value.int IntKind.u64 (lim hm 2), Value.int IntKind.u64 (lim hm 3), Value.int IntKind.u64 (lim hm 4), Value.int IntKind.u64 (lim hm 5), Value.int IntKind.u64 (lim hm 6), Value.int IntKind.u64 (lim hm 7), Value.int IntKind.u64 (lim hm 8), Value.int IntKind.u64 (lim hm 9), Value.int IntKind.u64 (lim hm 10), Value.int IntKind.u64 (lim hm 11), Value.int IntKind.u64 (lim hm 12), Value.int IntKind.u64 (lim hm 13), Value.int IntKind.u64 (lim hm 14), Value.int IntKind.u64 (lim hm 15), Value.int IntKind.u64 (lim hm 16), Value.int IntKind.u64 (lim hm 17), Value.int IntKind.u64 (lim hm 18), Value.int IntKind.u64 (lim hm 19)] 30 0 1, AObj.cells [Value.bool lb, Value.int IntKind.u64 (lim lm 0), Value.int IntKind.u64 (lim lm 1), Value.int IntKind.u64 (lim lm 2), Value.int IntKind.u64 (lim lm 3), Value.int IntKind.u64 (lim lm 4), Value.int IntKind.u64 (lim lm 5), Value.int IntKind.u64 (lim lm 6), Value.int IntKind.u64 (lim lm 7), Value.int IntKind.u64 (lim lm 8), Value.int IntKind.u64 (lim lm 9), Value.int IntKind.u64 (lim lm 10), Value.int IntKind.u64 (lim lm 11), Value.int IntKind.u64 (lim lm 12), Value.int IntKind.u64 (lim lm 13), Value.int IntKind.u64 (lim lm 14), Value.int IntKind.u64 (lim lm 15), Value.int IntKind.u64 (lim lm 16), Value.int IntKind.u64 (lim lm 17), Value.int IntKind.u64 (lim lm 18), Value.int IntKind.u64 (lim lm 19)] 30 0 1] }, log := [] } = some (Ex.exit 0, EU zs lb lm hb hm 0 i v),
    evCall Tryz.prog 0 (bodied Tryz.prog) ov3 sbs 1000 19 7 [Value.agg #[Value.bool false, Value.int IntKind.u64 (lim v 0), Value.int IntKind.u64 (lim v 1), Value.int IntKind.u64 (lim v 2), Value.int IntKind.u64 (lim v 3), Value.int IntKind.u64 (lim v 4), Value.int IntKind.u64 (lim v 5), Value.int IntKind.u64 (lim v 6), Value.int IntKind.u64 (lim v 7), Value.int IntKind.u64 (lim v 8), Value.int IntKind.u64 (lim v 9), Value.int IntKind.u64 (lim v 10), Value.int IntKind.u64 (lim v 11), Value.int IntKind.u64 (lim v 12), Value.int IntKind.u64 (lim v 13), Value.int IntKind.u64 (lim v 14), Value.int IntKind.u64 (lim v 15), Value.int IntKind.u64 (lim v 16), Value.int IntKind.u64 (lim v 17), Value.int IntKind.u64 (lim v 18), Value.int IntKind.u64 (lim v 19)]] { n := 0, objs := [] } = some (Value.string (txt ds), { n := 0, objs := [] }, []),
    Value.bool (ByteArray.toList (txt ds) == ByteArray.toList (txt zs)) = Value.bool false] (by kernel_rfl)
    ⟨Dg.vtrue (by rw [txt_size]; omega), strAt_txt (i := 0) (by omega) he hz, Dg.vfalse (by omega), Dg.vfalse (by rw [txt_size]; omega), Dg.vfalse (by rw [txt_size]; omega), hL _ (su_start (by kernel_rfl)), Dg.evCall_told hN, eqT hq, trivial⟩
--> uqfA
--< uqlA
theorem uqlA (zs : List Int) (lb : Bool) (lm : Nat) (hb : Bool) (hm : Nat) (z : Int) (he : List.getD zs 0 0 = z) (hz : 0 ≤ z ∧ z < 256) (h45 : z ≠ 45) (h0 : 0 < List.length zs) (hl : List.length zs ≤ 60) (i : Nat) (v : Nat) (hL : ∀ (s0 : St), clU s0 = SU zs lb lm hb hm 0 0 0 → evLoop runU clU 1000 s0 = some (Ex.exit 0, EU zs lb lm hb hm 0 i v)) (ds : List Int) (hN : o3 7 [num false v] = some (Value.string (txt ds))) (hq : (List.map (fun n => UInt8.ofNat (Int.toNat n)) ds == List.map (fun n => UInt8.ofNat (Int.toNat n)) zs) = true) (c1 : Int) (hc1 : o3 35 [num false v, num lb lm] = some (Value.int IntKind.i64 c1)) (hc : c1 < 0) :
    evCall Tryz.prog 0 (bodied Tryz.prog) ov3 sbs 1000 20 11 [Value.string (txt zs), num lb lm, num hb hm] { n := 0, objs := [] } = some (Value.tuple { toList := [Value.agg #[Value.bool false, Value.int IntKind.u64 (lim v 0), Value.int IntKind.u64 (lim v 1), Value.int IntKind.u64 (lim v 2), Value.int IntKind.u64 (lim v 3), Value.int IntKind.u64 (lim v 4), Value.int IntKind.u64 (lim v 5), Value.int IntKind.u64 (lim v 6), Value.int IntKind.u64 (lim v 7), Value.int IntKind.u64 (lim v 8), Value.int IntKind.u64 (lim v 9), Value.int IntKind.u64 (lim v 10), Value.int IntKind.u64 (lim v 11), Value.int IntKind.u64 (lim v 12), Value.int IntKind.u64 (lim v 13), Value.int IntKind.u64 (lim v 14), Value.int IntKind.u64 (lim v 15), Value.int IntKind.u64 (lim v 16), Value.int IntKind.u64 (lim v 17), Value.int IntKind.u64 (lim v 18), Value.int IntKind.u64 (lim v 19)], Value.bool false] }, { n := 0, objs := [] }, []) :=
  Dg.evCall_hint (hs' := []) (hs := [Hint.val 11 14 (Value.bool true),
    Hint.soft 11 17 (Value.int IntKind.u8 z),
    Hint.val 11 18 (Value.bool false),
    Hint.val 11 23 (Value.bool false),
    Hint.val 11 27 (Value.bool false),
    Hint.loop 11 (Ex.exit 0) (EU zs lb lm hb hm 0 i v),
    Hint.call 7 (Value.string (txt ds)) { n := 0, objs := [] } [],
    Hint.val 11 65 (Value.bool true),
    Hint.call 35 (Value.int IntKind.i64 c1) { n := 0, objs := [] } [],
    Hint.val 11 70 (Value.bool false)])
    [Value.bool (decide ((↑(ByteArray.size (txt zs)) : Int) > (0 : Int))) = Value.bool true,
    Dg.strAt (txt zs) (0 : Int) = some z,
    Value.bool (z == (45 : Int)) = Value.bool false,
    Value.bool ((↑(ByteArray.size (txt zs)) : Int) == (0 : Int)) = Value.bool false,
    Value.bool (decide ((↑(ByteArray.size (txt zs)) : Int) > (60 : Int))) = Value.bool false,
    evLoop runU clU 1000 { ts := [Value.string (txt zs), Value.agg { toList := kpN lb (lim lm) }, Value.agg { toList := kpN hb (lim hm) }, undef, Value.pointer (some { block := 0, off := 0 }), Value.pointer (some { block := 1, off := 0 }), Value.pointer (some { block := 2, off := 0 }), Value.bool false, Value.pointer (some { block := 3, off := 0 }), Value.int IntKind.i64 0, Value.int IntKind.i64 0, Value.agg #[Value.bool false, Value.int IntKind.u64 0, Value.int IntKind.u64 0, Value.int IntKind.u64 0, Value.int IntKind.u64 0, Value.int IntKind.u64 0, Value.int IntKind.u64 0, Value.int IntKind.u64 0, Value.int IntKind.u64 0, Value.int IntKind.u64 0, Value.int IntKind.u64 0, Value.int IntKind.u64 0, Value.int IntKind.u64 0, Value.int IntKind.u64 0, Value.int IntKind.u64 0, Value.int IntKind.u64 0, Value.int IntKind.u64 0, Value.int IntKind.u64 0, Value.int IntKind.u64 0, Value.int IntKind.u64 0, Value.int IntKind.u64 0], Value.string (txt zs), Value.int IntKind.i64 (↑(ByteArray.size (txt zs)) : Int), Value.bool true, Value.bool true, Value.string (txt zs), Value.int IntKind.u8 z, Value.bool false, Value.bool false, Value.string (txt zs), Value.int IntKind.i64 (↑(ByteArray.size (txt zs)) : Int), Value.int IntKind.i64 0, Value.bool false, Value.bool false, Value.string (txt zs), Value.int IntKind.i64 (↑(ByteArray.size (txt zs)) : Int), Value.bool false, Value.bool false, undef, Value.int IntKind.i64 0, undef, undef, undef, undef, undef, undef, undef, undef, undef, undef, undef, undef, undef, undef, undef, undef, undef, undef, undef, undef, undef, undef, undef, undef, undef, undef, undef, undef, undef, undef, undef, undef, undef, undef, undef, undef, undef, undef, undef, undef, undef, undef, undef, undef, undef, undef, undef], H := { n := 4, objs := [AObj.cells [Value.bool false, Value.int IntKind.u64 0, Value.int IntKind.u64 0, Value.int IntKind.u64 0, Value.int IntKind.u64 0, Value.int IntKind.u64 0, Value.int IntKind.u64 0, Value.int IntKind.u64 0, Value.int IntKind.u64 0, Value.int IntKind.u64 0, Value.int IntKind.u64 0, Value.int IntKind.u64 0, Value.int IntKind.u64 0, Value.int IntKind.u64 0, Value.int IntKind.u64 0, Value.int IntKind.u64 0, Value.int IntKind.u64 0, Value.int IntKind.u64 0, Value.int IntKind.u64 0, Value.int IntKind.u64 0, Value.int IntKind.u64 0] 30 0 1, AObj.cells [Value.bool false, Value.int IntKind.u64 0, Value.int IntKind.u64 0, Value.int IntKind.u64 0, Value.int IntKind.u64 0, Value.int IntKind.u64 0, Value.int IntKind.u64 0, Value.int IntKind.u64 0, Value.int IntKind.u64 0, Value.int IntKind.u64 0, Value.int IntKind.u64 0, Value.int IntKind.u64 0, Value.int IntKind.u64 0, Value.int IntKind.u64 0, Value.int IntKind.u64 0, Value.int IntKind.u64 0, Value.int IntKind.u64 0, Value.int IntKind.u64 0, Value.int IntKind.u64 0, Value.int IntKind.u64 0, Value.int IntKind.u64 0] 30 0 1, AObj.cells [Value.bool hb, Value.int IntKind.u64 (lim hm 0), Value.int IntKind.u64 (lim hm 1), Value.int IntKind.u64 (lim hm 2), Value.int IntKind.u64 (lim hm 3), Value.int IntKind.u64 (lim hm 4), Value.int IntKind.u64 (lim hm 5), Value.int IntKind.u64 (lim hm 6), Value.int IntKind.u64 (lim hm 7), Value.int IntKind.u64 (lim hm 8), Value.int IntKind.u64 (lim hm 9), Value.int IntKind.u64 (lim hm 10), Value.int IntKind.u64 (lim hm 11), Value.int IntKind.u64 (lim hm 12), Value.int IntKind.u64 (lim hm 13), Value.int IntKind.u64 (lim hm 14), Value.int IntKind.u64 (lim hm 15), Value.int IntKind.u64 (lim hm 16), Value.int IntKind.u64 (lim hm 17), Value.int IntKind.u64 (lim hm 18), Value.int IntKind.u64 (lim hm 19)] 30 0 1, AObj.cells [Value.bool lb, Value.int IntKind.u64 (lim lm 0), Value.int IntKind.u64 (lim lm 1), Value.int IntKind.u64 (lim lm 2), Value.int IntKind.u64 (lim lm 3), Value.int IntKind.u64 (lim lm 4), Value.int IntKind.u64 (lim lm 5), Value.int IntKind.u64 (lim lm 6), Value.int IntKind.u64 (lim lm 7), Value.int IntKind.u64 (lim lm 8), Value.int IntKind.u64 (lim lm 9), Value.int IntKind.u64 (lim lm 10), Value.int IntKind.u64 (lim lm 11), Value.int IntKind.u64 (lim lm 12), Value.int IntKind.u64 (lim lm 13), Value.int IntKind.u64 (lim lm 14), Value.int IntKind.u64 (lim lm 15), Value.int IntKind.u64 (lim lm 16), Value.int IntKind.u64 (lim lm 17), Value.int IntKind.u64 (lim lm 18), Value.int IntKind.u64 (lim lm 19)] 30 0 1] }, log := [] } = some (Ex.exit 0, EU zs lb lm hb hm 0 i v),
    evCall Tryz.prog 0 (bodied Tryz.prog) ov3 sbs 1000 19 7 [Value.agg #[Value.bool false, Value.int IntKind.u64 (lim v 0), Value.int IntKind.u64 (lim v 1), Value.int IntKind.u64 (lim v 2), Value.int IntKind.u64 (lim v 3), Value.int IntKind.u64 (lim v 4), Value.int IntKind.u64 (lim v 5), Value.int IntKind.u64 (lim v 6), Value.int IntKind.u64 (lim v 7), Value.int IntKind.u64 (lim v 8), Value.int IntKind.u64 (lim v 9), Value.int IntKind.u64 (lim v 10), Value.int IntKind.u64 (lim v 11), Value.int IntKind.u64 (lim v 12), Value.int IntKind.u64 (lim v 13), Value.int IntKind.u64 (lim v 14), Value.int IntKind.u64 (lim v 15), Value.int IntKind.u64 (lim v 16), Value.int IntKind.u64 (lim v 17), Value.int IntKind.u64 (lim v 18), Value.int IntKind.u64 (lim v 19)]] { n := 0, objs := [] } = some (Value.string (txt ds), { n := 0, objs := [] }, []),
    Value.bool (ByteArray.toList (txt ds) == ByteArray.toList (txt zs)) = Value.bool true,
    evCall Tryz.prog 0 (bodied Tryz.prog) ov3 sbs 1000 19 35 [Value.agg #[Value.bool false, Value.int IntKind.u64 (lim v 0), Value.int IntKind.u64 (lim v 1), Value.int IntKind.u64 (lim v 2), Value.int IntKind.u64 (lim v 3), Value.int IntKind.u64 (lim v 4), Value.int IntKind.u64 (lim v 5), Value.int IntKind.u64 (lim v 6), Value.int IntKind.u64 (lim v 7), Value.int IntKind.u64 (lim v 8), Value.int IntKind.u64 (lim v 9), Value.int IntKind.u64 (lim v 10), Value.int IntKind.u64 (lim v 11), Value.int IntKind.u64 (lim v 12), Value.int IntKind.u64 (lim v 13), Value.int IntKind.u64 (lim v 14), Value.int IntKind.u64 (lim v 15), Value.int IntKind.u64 (lim v 16), Value.int IntKind.u64 (lim v 17), Value.int IntKind.u64 (lim v 18), Value.int IntKind.u64 (lim v 19)], Value.agg #[Value.bool lb, Value.int IntKind.u64 (lim lm 0), Value.int IntKind.u64 (lim lm 1), Value.int IntKind.u64 (lim lm 2), Value.int IntKind.u64 (lim lm 3), Value.int IntKind.u64 (lim lm 4), Value.int IntKind.u64 (lim lm 5), Value.int IntKind.u64 (lim lm 6), Value.int IntKind.u64 (lim lm 7), Value.int IntKind.u64 (lim lm 8), Value.int IntKind.u64 (lim lm 9), Value.int IntKind.u64 (lim lm 10), Value.int IntKind.u64 (lim lm 11), Value.int IntKind.u64 (lim lm 12), Value.int IntKind.u64 (lim lm 13), Value.int IntKind.u64 (lim lm 14), Value.int IntKind.u64 (lim lm 15), Value.int IntKind.u64 (lim lm 16), Value.int IntKind.u64 (lim lm 17), Value.int IntKind.u64 (lim lm 18), Value.int IntKind.u64 (lim lm 19)]] { n := 0, objs := [] } = some (Value.int IntKind.i64 c1, { n := 0, objs := [] }, []),
    Value.bool (decide (c1 ≥ (0 : Int))) = Value.bool false] (by kernel_rfl)
    ⟨Dg.vtrue (by rw [txt_size]; omega), strAt_txt (i := 0) (by omega) he hz, Dg.vfalse (by omega), Dg.vfalse (by rw [txt_size]; omega), Dg.vfalse (by rw [txt_size]; omega), hL _ (su_start (by kernel_rfl)), Dg.evCall_told hN, eqT hq, Dg.evCall_told hc1, Dg.vfalse (by omega), trivial⟩
--> uqlA
--< uqtA
theorem uqtA (zs : List Int) (lb : Bool) (lm : Nat) (hb : Bool) (hm : Nat) (z : Int) (he : List.getD zs 0 0 = z) (hz : 0 ≤ z ∧ z < 256) (h45 : z ≠ 45) (h0 : 0 < List.length zs) (hl : List.length zs ≤ 60) (i : Nat) (v : Nat) (hL : ∀ (s0 : St), clU s0 = SU zs lb lm hb hm 0 0 0 → evLoop runU clU 1000 s0 = some (Ex.exit 0, EU zs lb lm hb hm 0 i v)) (ds : List Int) (hN : o3 7 [num false v] = some (Value.string (txt ds))) (hq : (List.map (fun n => UInt8.ofNat (Int.toNat n)) ds == List.map (fun n => UInt8.ofNat (Int.toNat n)) zs) = true) (c1 : Int) (c2 : Int) (hc1 : o3 35 [num false v, num lb lm] = some (Value.int IntKind.i64 c1)) (hc : 0 ≤ c1) (hc2 : o3 35 [num false v, num hb hm] = some (Value.int IntKind.i64 c2)) (g : Bool) (hg : decide (c2 ≤ 0) = g) :
    evCall Tryz.prog 0 (bodied Tryz.prog) ov3 sbs 1000 20 11 [Value.string (txt zs), num lb lm, num hb hm] { n := 0, objs := [] } = some (Value.tuple { toList := [Value.agg #[Value.bool false, Value.int IntKind.u64 (lim v 0), Value.int IntKind.u64 (lim v 1), Value.int IntKind.u64 (lim v 2), Value.int IntKind.u64 (lim v 3), Value.int IntKind.u64 (lim v 4), Value.int IntKind.u64 (lim v 5), Value.int IntKind.u64 (lim v 6), Value.int IntKind.u64 (lim v 7), Value.int IntKind.u64 (lim v 8), Value.int IntKind.u64 (lim v 9), Value.int IntKind.u64 (lim v 10), Value.int IntKind.u64 (lim v 11), Value.int IntKind.u64 (lim v 12), Value.int IntKind.u64 (lim v 13), Value.int IntKind.u64 (lim v 14), Value.int IntKind.u64 (lim v 15), Value.int IntKind.u64 (lim v 16), Value.int IntKind.u64 (lim v 17), Value.int IntKind.u64 (lim v 18), Value.int IntKind.u64 (lim v 19)], Value.bool g] }, { n := 0, objs := [] }, []) :=
  Dg.evCall_hint (hs' := []) (hs := [Hint.val 11 14 (Value.bool true),
    Hint.soft 11 17 (Value.int IntKind.u8 z),
    Hint.val 11 18 (Value.bool false),
    Hint.val 11 23 (Value.bool false),
    Hint.val 11 27 (Value.bool false),
    Hint.loop 11 (Ex.exit 0) (EU zs lb lm hb hm 0 i v),
    Hint.call 7 (Value.string (txt ds)) { n := 0, objs := [] } [],
    Hint.val 11 65 (Value.bool true),
    Hint.call 35 (Value.int IntKind.i64 c1) { n := 0, objs := [] } [],
    Hint.val 11 70 (Value.bool true),
    Hint.call 35 (Value.int IntKind.i64 c2) { n := 0, objs := [] } [],
    Hint.val 11 76 (Value.bool g)])
    [Value.bool (decide ((↑(ByteArray.size (txt zs)) : Int) > (0 : Int))) = Value.bool true,
    Dg.strAt (txt zs) (0 : Int) = some z,
    Value.bool (z == (45 : Int)) = Value.bool false,
    Value.bool ((↑(ByteArray.size (txt zs)) : Int) == (0 : Int)) = Value.bool false,
    Value.bool (decide ((↑(ByteArray.size (txt zs)) : Int) > (60 : Int))) = Value.bool false,
    evLoop runU clU 1000 { ts := [Value.string (txt zs), Value.agg { toList := kpN lb (lim lm) }, Value.agg { toList := kpN hb (lim hm) }, undef, Value.pointer (some { block := 0, off := 0 }), Value.pointer (some { block := 1, off := 0 }), Value.pointer (some { block := 2, off := 0 }), Value.bool false, Value.pointer (some { block := 3, off := 0 }), Value.int IntKind.i64 0, Value.int IntKind.i64 0, Value.agg #[Value.bool false, Value.int IntKind.u64 0, Value.int IntKind.u64 0, Value.int IntKind.u64 0, Value.int IntKind.u64 0, Value.int IntKind.u64 0, Value.int IntKind.u64 0, Value.int IntKind.u64 0, Value.int IntKind.u64 0, Value.int IntKind.u64 0, Value.int IntKind.u64 0, Value.int IntKind.u64 0, Value.int IntKind.u64 0, Value.int IntKind.u64 0, Value.int IntKind.u64 0, Value.int IntKind.u64 0, Value.int IntKind.u64 0, Value.int IntKind.u64 0, Value.int IntKind.u64 0, Value.int IntKind.u64 0, Value.int IntKind.u64 0], Value.string (txt zs), Value.int IntKind.i64 (↑(ByteArray.size (txt zs)) : Int), Value.bool true, Value.bool true, Value.string (txt zs), Value.int IntKind.u8 z, Value.bool false, Value.bool false, Value.string (txt zs), Value.int IntKind.i64 (↑(ByteArray.size (txt zs)) : Int), Value.int IntKind.i64 0, Value.bool false, Value.bool false, Value.string (txt zs), Value.int IntKind.i64 (↑(ByteArray.size (txt zs)) : Int), Value.bool false, Value.bool false, undef, Value.int IntKind.i64 0, undef, undef, undef, undef, undef, undef, undef, undef, undef, undef, undef, undef, undef, undef, undef, undef, undef, undef, undef, undef, undef, undef, undef, undef, undef, undef, undef, undef, undef, undef, undef, undef, undef, undef, undef, undef, undef, undef, undef, undef, undef, undef, undef, undef, undef, undef, undef], H := { n := 4, objs := [AObj.cells [Value.bool false, Value.int IntKind.u64 0, Value.int IntKind.u64 0, Value.int IntKind.u64 0, Value.int IntKind.u64 0, Value.int IntKind.u64 0, Value.int IntKind.u64 0, Value.int IntKind.u64 0, Value.int IntKind.u64 0, Value.int IntKind.u64 0, Value.int IntKind.u64 0, Value.int IntKind.u64 0, Value.int IntKind.u64 0, Value.int IntKind.u64 0, Value.int IntKind.u64 0, Value.int IntKind.u64 0, Value.int IntKind.u64 0, Value.int IntKind.u64 0, Value.int IntKind.u64 0, Value.int IntKind.u64 0, Value.int IntKind.u64 0] 30 0 1, AObj.cells [Value.bool false, Value.int IntKind.u64 0, Value.int IntKind.u64 0, Value.int IntKind.u64 0, Value.int IntKind.u64 0, Value.int IntKind.u64 0, Value.int IntKind.u64 0, Value.int IntKind.u64 0, Value.int IntKind.u64 0, Value.int IntKind.u64 0, Value.int IntKind.u64 0, Value.int IntKind.u64 0, Value.int IntKind.u64 0, Value.int IntKind.u64 0, Value.int IntKind.u64 0, Value.int IntKind.u64 0, Value.int IntKind.u64 0, Value.int IntKind.u64 0, Value.int IntKind.u64 0, Value.int IntKind.u64 0, Value.int IntKind.u64 0] 30 0 1, AObj.cells [Value.bool hb, Value.int IntKind.u64 (lim hm 0), Value.int IntKind.u64 (lim hm 1), Value.int IntKind.u64 (lim hm 2), Value.int IntKind.u64 (lim hm 3), Value.int IntKind.u64 (lim hm 4), Value.int IntKind.u64 (lim hm 5), Value.int IntKind.u64 (lim hm 6), Value.int IntKind.u64 (lim hm 7), Value.int IntKind.u64 (lim hm 8), Value.int IntKind.u64 (lim hm 9), Value.int IntKind.u64 (lim hm 10), Value.int IntKind.u64 (lim hm 11), Value.int IntKind.u64 (lim hm 12), Value.int IntKind.u64 (lim hm 13), Value.int IntKind.u64 (lim hm 14), Value.int IntKind.u64 (lim hm 15), Value.int IntKind.u64 (lim hm 16), Value.int IntKind.u64 (lim hm 17), Value.int IntKind.u64 (lim hm 18), Value.int IntKind.u64 (lim hm 19)] 30 0 1, AObj.cells [Value.bool lb, Value.int IntKind.u64 (lim lm 0), Value.int IntKind.u64 (lim lm 1), Value.int IntKind.u64 (lim lm 2), Value.int IntKind.u64 (lim lm 3), Value.int IntKind.u64 (lim lm 4), Value.int IntKind.u64 (lim lm 5), Value.int IntKind.u64 (lim lm 6), Value.int IntKind.u64 (lim lm 7), Value.int IntKind.u64 (lim lm 8), Value.int IntKind.u64 (lim lm 9), Value.int IntKind.u64 (lim lm 10), Value.int IntKind.u64 (lim lm 11), Value.int IntKind.u64 (lim lm 12), Value.int IntKind.u64 (lim lm 13), Value.int IntKind.u64 (lim lm 14), Value.int IntKind.u64 (lim lm 15), Value.int IntKind.u64 (lim lm 16), Value.int IntKind.u64 (lim lm 17), Value.int IntKind.u64 (lim lm 18), Value.int IntKind.u64 (lim lm 19)] 30 0 1] }, log := [] } = some (Ex.exit 0, EU zs lb lm hb hm 0 i v),
    evCall Tryz.prog 0 (bodied Tryz.prog) ov3 sbs 1000 19 7 [Value.agg #[Value.bool false, Value.int IntKind.u64 (lim v 0), Value.int IntKind.u64 (lim v 1), Value.int IntKind.u64 (lim v 2), Value.int IntKind.u64 (lim v 3), Value.int IntKind.u64 (lim v 4), Value.int IntKind.u64 (lim v 5), Value.int IntKind.u64 (lim v 6), Value.int IntKind.u64 (lim v 7), Value.int IntKind.u64 (lim v 8), Value.int IntKind.u64 (lim v 9), Value.int IntKind.u64 (lim v 10), Value.int IntKind.u64 (lim v 11), Value.int IntKind.u64 (lim v 12), Value.int IntKind.u64 (lim v 13), Value.int IntKind.u64 (lim v 14), Value.int IntKind.u64 (lim v 15), Value.int IntKind.u64 (lim v 16), Value.int IntKind.u64 (lim v 17), Value.int IntKind.u64 (lim v 18), Value.int IntKind.u64 (lim v 19)]] { n := 0, objs := [] } = some (Value.string (txt ds), { n := 0, objs := [] }, []),
    Value.bool (ByteArray.toList (txt ds) == ByteArray.toList (txt zs)) = Value.bool true,
    evCall Tryz.prog 0 (bodied Tryz.prog) ov3 sbs 1000 19 35 [Value.agg #[Value.bool false, Value.int IntKind.u64 (lim v 0), Value.int IntKind.u64 (lim v 1), Value.int IntKind.u64 (lim v 2), Value.int IntKind.u64 (lim v 3), Value.int IntKind.u64 (lim v 4), Value.int IntKind.u64 (lim v 5), Value.int IntKind.u64 (lim v 6), Value.int IntKind.u64 (lim v 7), Value.int IntKind.u64 (lim v 8), Value.int IntKind.u64 (lim v 9), Value.int IntKind.u64 (lim v 10), Value.int IntKind.u64 (lim v 11), Value.int IntKind.u64 (lim v 12), Value.int IntKind.u64 (lim v 13), Value.int IntKind.u64 (lim v 14), Value.int IntKind.u64 (lim v 15), Value.int IntKind.u64 (lim v 16), Value.int IntKind.u64 (lim v 17), Value.int IntKind.u64 (lim v 18), Value.int IntKind.u64 (lim v 19)], Value.agg #[Value.bool lb, Value.int IntKind.u64 (lim lm 0), Value.int IntKind.u64 (lim lm 1), Value.int IntKind.u64 (lim lm 2), Value.int IntKind.u64 (lim lm 3), Value.int IntKind.u64 (lim lm 4), Value.int IntKind.u64 (lim lm 5), Value.int IntKind.u64 (lim lm 6), Value.int IntKind.u64 (lim lm 7), Value.int IntKind.u64 (lim lm 8), Value.int IntKind.u64 (lim lm 9), Value.int IntKind.u64 (lim lm 10), Value.int IntKind.u64 (lim lm 11), Value.int IntKind.u64 (lim lm 12), Value.int IntKind.u64 (lim lm 13), Value.int IntKind.u64 (lim lm 14), Value.int IntKind.u64 (lim lm 15), Value.int IntKind.u64 (lim lm 16), Value.int IntKind.u64 (lim lm 17), Value.int IntKind.u64 (lim lm 18), Value.int IntKind.u64 (lim lm 19)]] { n := 0, objs := [] } = some (Value.int IntKind.i64 c1, { n := 0, objs := [] }, []),
    Value.bool (decide (c1 ≥ (0 : Int))) = Value.bool true,
    evCall Tryz.prog 0 (bodied Tryz.prog) ov3 sbs 1000 19 35 [Value.agg #[Value.bool false, Value.int IntKind.u64 (lim v 0), Value.int IntKind.u64 (lim v 1), Value.int IntKind.u64 (lim v 2), Value.int IntKind.u64 (lim v 3), Value.int IntKind.u64 (lim v 4), Value.int IntKind.u64 (lim v 5), Value.int IntKind.u64 (lim v 6), Value.int IntKind.u64 (lim v 7), Value.int IntKind.u64 (lim v 8), Value.int IntKind.u64 (lim v 9), Value.int IntKind.u64 (lim v 10), Value.int IntKind.u64 (lim v 11), Value.int IntKind.u64 (lim v 12), Value.int IntKind.u64 (lim v 13), Value.int IntKind.u64 (lim v 14), Value.int IntKind.u64 (lim v 15), Value.int IntKind.u64 (lim v 16), Value.int IntKind.u64 (lim v 17), Value.int IntKind.u64 (lim v 18), Value.int IntKind.u64 (lim v 19)], Value.agg #[Value.bool hb, Value.int IntKind.u64 (lim hm 0), Value.int IntKind.u64 (lim hm 1), Value.int IntKind.u64 (lim hm 2), Value.int IntKind.u64 (lim hm 3), Value.int IntKind.u64 (lim hm 4), Value.int IntKind.u64 (lim hm 5), Value.int IntKind.u64 (lim hm 6), Value.int IntKind.u64 (lim hm 7), Value.int IntKind.u64 (lim hm 8), Value.int IntKind.u64 (lim hm 9), Value.int IntKind.u64 (lim hm 10), Value.int IntKind.u64 (lim hm 11), Value.int IntKind.u64 (lim hm 12), Value.int IntKind.u64 (lim hm 13), Value.int IntKind.u64 (lim hm 14), Value.int IntKind.u64 (lim hm 15), Value.int IntKind.u64 (lim hm 16), Value.int IntKind.u64 (lim hm 17), Value.int IntKind.u64 (lim hm 18), Value.int IntKind.u64 (lim hm 19)]] { n := 0, objs := [] } = some (Value.int IntKind.i64 c2, { n := 0, objs := [] }, []),
    Value.bool (decide (c2 ≤ (0 : Int))) = Value.bool g] (by kernel_rfl)
    ⟨Dg.vtrue (by rw [txt_size]; omega), strAt_txt (i := 0) (by omega) he hz, Dg.vfalse (by omega), Dg.vfalse (by rw [txt_size]; omega), Dg.vfalse (by rw [txt_size]; omega), hL _ (su_start (by kernel_rfl)), Dg.evCall_told hN, eqT hq, Dg.evCall_told hc1, Dg.vtrue (by omega), Dg.evCall_told hc2, Dg.bool_eq hg, trivial⟩
--> uqtA
--< ulongA
theorem ulongA (zs : List Int) (lb : Bool) (lm : Nat) (hb : Bool) (hm : Nat) (z : Int) (he : List.getD zs 0 0 = z) (hz : 0 ≤ z ∧ z < 256) (h45 : z ≠ 45) (hl : 60 < List.length zs) :
    evCall Tryz.prog 0 (bodied Tryz.prog) ov3 sbs 1000 20 11 [Value.string (txt zs), num lb lm, num hb hm] { n := 0, objs := [] } = some (Value.tuple { toList := [Value.agg #[Value.bool false, Value.int IntKind.u64 0, Value.int IntKind.u64 0, Value.int IntKind.u64 0, Value.int IntKind.u64 0, Value.int IntKind.u64 0, Value.int IntKind.u64 0, Value.int IntKind.u64 0, Value.int IntKind.u64 0, Value.int IntKind.u64 0, Value.int IntKind.u64 0, Value.int IntKind.u64 0, Value.int IntKind.u64 0, Value.int IntKind.u64 0, Value.int IntKind.u64 0, Value.int IntKind.u64 0, Value.int IntKind.u64 0, Value.int IntKind.u64 0, Value.int IntKind.u64 0, Value.int IntKind.u64 0, Value.int IntKind.u64 0], Value.bool false] }, { n := 0, objs := [] }, []) :=
  Dg.evCall_hint (hs' := []) (hs := [Hint.val 11 14 (Value.bool true),
    Hint.soft 11 17 (Value.int IntKind.u8 z),
    Hint.val 11 18 (Value.bool false),
    Hint.val 11 23 (Value.bool false),
    Hint.val 11 27 (Value.bool true)])
    [Value.bool (decide ((↑(ByteArray.size (txt zs)) : Int) > (0 : Int))) = Value.bool true,
    Dg.strAt (txt zs) (0 : Int) = some z,
    Value.bool (z == (45 : Int)) = Value.bool false,
    Value.bool ((↑(ByteArray.size (txt zs)) : Int) == (0 : Int)) = Value.bool false,
    Value.bool (decide ((↑(ByteArray.size (txt zs)) : Int) > (60 : Int))) = Value.bool true] (by kernel_rfl)
    ⟨Dg.vtrue (by rw [txt_size]; omega), strAt_txt (i := 0) (by omega) he hz, Dg.vfalse (by omega), Dg.vfalse (by rw [txt_size]; omega), Dg.vtrue (by rw [txt_size]; omega), trivial⟩
--> ulongA
--< uretB
theorem uretB (zs : List Int) (lb : Bool) (lm : Nat) (hb : Bool) (hm : Nat) (z : Int) (he : List.getD zs 0 0 = z) (hz : 0 ≤ z ∧ z < 256) (h45 : z = 45) (h0 : 1 < List.length zs) (hl : List.length zs ≤ 60) (i : Nat) (v : Nat) (rest : List Value) (hL : ∀ (s0 : St), clU s0 = SU zs lb lm hb hm 1 1 0 → evLoop runU clU 1000 s0 = some (Ex.ret, XU zs lb lm hb hm 1 i v rest)) :
    evCall Tryz.prog 0 (bodied Tryz.prog) ov3 sbs 1000 20 11 [Value.string (txt zs), num lb lm, num hb hm] { n := 0, objs := [] } = some (Value.tuple { toList := [Value.agg #[Value.bool false, Value.int IntKind.u64 (lim v 0), Value.int IntKind.u64 (lim v 1), Value.int IntKind.u64 (lim v 2), Value.int IntKind.u64 (lim v 3), Value.int IntKind.u64 (lim v 4), Value.int IntKind.u64 (lim v 5), Value.int IntKind.u64 (lim v 6), Value.int IntKind.u64 (lim v 7), Value.int IntKind.u64 (lim v 8), Value.int IntKind.u64 (lim v 9), Value.int IntKind.u64 (lim v 10), Value.int IntKind.u64 (lim v 11), Value.int IntKind.u64 (lim v 12), Value.int IntKind.u64 (lim v 13), Value.int IntKind.u64 (lim v 14), Value.int IntKind.u64 (lim v 15), Value.int IntKind.u64 (lim v 16), Value.int IntKind.u64 (lim v 17), Value.int IntKind.u64 (lim v 18), Value.int IntKind.u64 (lim v 19)], Value.bool false] }, { n := 0, objs := [] }, []) :=
  Dg.evCall_hint (hs' := []) (hs := [Hint.val 11 14 (Value.bool true),
    Hint.soft 11 17 (Value.int IntKind.u8 z),
    Hint.val 11 18 (Value.bool true),
    Hint.val 11 23 (Value.bool false),
    Hint.val 11 27 (Value.bool false),
    Hint.loop 11 Ex.ret (XU zs lb lm hb hm 1 i v rest)])
    [Value.bool (decide ((↑(ByteArray.size (txt zs)) : Int) > (0 : Int))) = Value.bool true,
    Dg.strAt (txt zs) (0 : Int) = some z,
    Value.bool (z == (45 : Int)) = Value.bool true,
    Value.bool ((↑(ByteArray.size (txt zs)) : Int) == (1 : Int)) = Value.bool false,
    Value.bool (decide ((↑(ByteArray.size (txt zs)) : Int) > (60 : Int))) = Value.bool false,
    evLoop runU clU 1000 { ts := [Value.string (txt zs), Value.agg { toList := kpN lb (lim lm) }, Value.agg { toList := kpN hb (lim hm) }, undef, Value.pointer (some { block := 0, off := 0 }), Value.pointer (some { block := 1, off := 0 }), Value.pointer (some { block := 2, off := 0 }), Value.bool false, Value.pointer (some { block := 3, off := 0 }), Value.int IntKind.i64 1, Value.int IntKind.i64 1, Value.agg #[Value.bool false, Value.int IntKind.u64 0, Value.int IntKind.u64 0, Value.int IntKind.u64 0, Value.int IntKind.u64 0, Value.int IntKind.u64 0, Value.int IntKind.u64 0, Value.int IntKind.u64 0, Value.int IntKind.u64 0, Value.int IntKind.u64 0, Value.int IntKind.u64 0, Value.int IntKind.u64 0, Value.int IntKind.u64 0, Value.int IntKind.u64 0, Value.int IntKind.u64 0, Value.int IntKind.u64 0, Value.int IntKind.u64 0, Value.int IntKind.u64 0, Value.int IntKind.u64 0, Value.int IntKind.u64 0, Value.int IntKind.u64 0], Value.string (txt zs), Value.int IntKind.i64 (↑(ByteArray.size (txt zs)) : Int), Value.bool true, Value.bool true, Value.string (txt zs), Value.int IntKind.u8 z, Value.bool true, Value.bool true, Value.string (txt zs), Value.int IntKind.i64 (↑(ByteArray.size (txt zs)) : Int), Value.int IntKind.i64 1, Value.bool false, Value.bool false, Value.string (txt zs), Value.int IntKind.i64 (↑(ByteArray.size (txt zs)) : Int), Value.bool false, Value.bool false, undef, Value.int IntKind.i64 1, undef, undef, undef, undef, undef, undef, undef, undef, undef, undef, undef, undef, undef, undef, undef, undef, undef, undef, undef, undef, undef, undef, undef, undef, undef, undef, undef, undef, undef, undef, undef, undef, undef, undef, undef, undef, undef, undef, undef, undef, undef, undef, undef, undef, undef, undef, undef], H := { n := 4, objs := [AObj.cells [Value.bool false, Value.int IntKind.u64 0, Value.int IntKind.u64 0, Value.int IntKind.u64 0, Value.int IntKind.u64 0, Value.int IntKind.u64 0, Value.int IntKind.u64 0, Value.int IntKind.u64 0, Value.int IntKind.u64 0, Value.int IntKind.u64 0, Value.int IntKind.u64 0, Value.int IntKind.u64 0, Value.int IntKind.u64 0, Value.int IntKind.u64 0, Value.int IntKind.u64 0, Value.int IntKind.u64 0, Value.int IntKind.u64 0, Value.int IntKind.u64 0, Value.int IntKind.u64 0, Value.int IntKind.u64 0, Value.int IntKind.u64 0] 30 0 1, AObj.cells [Value.bool false, Value.int IntKind.u64 0, Value.int IntKind.u64 0, Value.int IntKind.u64 0, Value.int IntKind.u64 0, Value.int IntKind.u64 0, Value.int IntKind.u64 0, Value.int IntKind.u64 0, Value.int IntKind.u64 0, Value.int IntKind.u64 0, Value.int IntKind.u64 0, Value.int IntKind.u64 0, Value.int IntKind.u64 0, Value.int IntKind.u64 0, Value.int IntKind.u64 0, Value.int IntKind.u64 0, Value.int IntKind.u64 0, Value.int IntKind.u64 0, Value.int IntKind.u64 0, Value.int IntKind.u64 0, Value.int IntKind.u64 0] 30 0 1, AObj.cells [Value.bool hb, Value.int IntKind.u64 (lim hm 0), Value.int IntKind.u64 (lim hm 1), Value.int IntKind.u64 (lim hm 2), Value.int IntKind.u64 (lim hm 3), Value.int IntKind.u64 (lim hm 4), Value.int IntKind.u64 (lim hm 5), Value.int IntKind.u64 (lim hm 6), Value.int IntKind.u64 (lim hm 7), Value.int IntKind.u64 (lim hm 8), Value.int IntKind.u64 (lim hm 9), Value.int IntKind.u64 (lim hm 10), Value.int IntKind.u64 (lim hm 11), Value.int IntKind.u64 (lim hm 12), Value.int IntKind.u64 (lim hm 13), Value.int IntKind.u64 (lim hm 14), Value.int IntKind.u64 (lim hm 15), Value.int IntKind.u64 (lim hm 16), Value.int IntKind.u64 (lim hm 17), Value.int IntKind.u64 (lim hm 18), Value.int IntKind.u64 (lim hm 19)] 30 0 1, AObj.cells [Value.bool lb, Value.int IntKind.u64 (lim lm 0), Value.int IntKind.u64 (lim lm 1), Value.int IntKind.u64 (lim lm 2), Value.int IntKind.u64 (lim lm 3), Value.int IntKind.u64 (lim lm 4), Value.int IntKind.u64 (lim lm 5), Value.int IntKind.u64 (lim lm 6), Value.int IntKind.u64 (lim lm 7), Value.int IntKind.u64 (lim lm 8), Value.int IntKind.u64 (lim lm 9), Value.int IntKind.u64 (lim lm 10), Value.int IntKind.u64 (lim lm 11), Value.int IntKind.u64 (lim lm 12), Value.int IntKind.u64 (lim lm 13), Value.int IntKind.u64 (lim lm 14), Value.int IntKind.u64 (lim lm 15), Value.int IntKind.u64 (lim lm 16), Value.int IntKind.u64 (lim lm 17), Value.int IntKind.u64 (lim lm 18), Value.int IntKind.u64 (lim lm 19)] 30 0 1] }, log := [] } = some (Ex.ret, XU zs lb lm hb hm 1 i v rest)] (by kernel_rfl)
    ⟨Dg.vtrue (by rw [txt_size]; omega), strAt_txt (i := 0) (by omega) he hz, Dg.vtrue (by omega), Dg.vfalse (by rw [txt_size]; omega), Dg.vfalse (by rw [txt_size]; omega), hL _ (su_start (by kernel_rfl)), trivial⟩
--> uretB
--< uqfB
theorem uqfB (zs : List Int) (lb : Bool) (lm : Nat) (hb : Bool) (hm : Nat) (z : Int) (he : List.getD zs 0 0 = z) (hz : 0 ≤ z ∧ z < 256) (h45 : z = 45) (h0 : 1 < List.length zs) (hl : List.length zs ≤ 60) (i : Nat) (v : Nat) (hL : ∀ (s0 : St), clU s0 = SU zs lb lm hb hm 1 1 0 → evLoop runU clU 1000 s0 = some (Ex.exit 0, EU zs lb lm hb hm 1 i v)) (ds : List Int) (hN : o3 7 [num true v] = some (Value.string (txt ds))) (hq : (List.map (fun n => UInt8.ofNat (Int.toNat n)) ds == List.map (fun n => UInt8.ofNat (Int.toNat n)) zs) = false) :
    evCall Tryz.prog 0 (bodied Tryz.prog) ov3 sbs 1000 20 11 [Value.string (txt zs), num lb lm, num hb hm] { n := 0, objs := [] } = some (Value.tuple { toList := [Value.agg #[Value.bool true, Value.int IntKind.u64 (lim v 0), Value.int IntKind.u64 (lim v 1), Value.int IntKind.u64 (lim v 2), Value.int IntKind.u64 (lim v 3), Value.int IntKind.u64 (lim v 4), Value.int IntKind.u64 (lim v 5), Value.int IntKind.u64 (lim v 6), Value.int IntKind.u64 (lim v 7), Value.int IntKind.u64 (lim v 8), Value.int IntKind.u64 (lim v 9), Value.int IntKind.u64 (lim v 10), Value.int IntKind.u64 (lim v 11), Value.int IntKind.u64 (lim v 12), Value.int IntKind.u64 (lim v 13), Value.int IntKind.u64 (lim v 14), Value.int IntKind.u64 (lim v 15), Value.int IntKind.u64 (lim v 16), Value.int IntKind.u64 (lim v 17), Value.int IntKind.u64 (lim v 18), Value.int IntKind.u64 (lim v 19)], Value.bool false] }, { n := 0, objs := [] }, []) :=
  Dg.evCall_hint (hs' := []) (hs := [Hint.val 11 14 (Value.bool true),
    Hint.soft 11 17 (Value.int IntKind.u8 z),
    Hint.val 11 18 (Value.bool true),
    Hint.val 11 23 (Value.bool false),
    Hint.val 11 27 (Value.bool false),
    Hint.loop 11 (Ex.exit 0) (EU zs lb lm hb hm 1 i v),
    Hint.call 7 (Value.string (txt ds)) { n := 0, objs := [] } [],
    Hint.val 11 65 (Value.bool false)])
    [Value.bool (decide ((↑(ByteArray.size (txt zs)) : Int) > (0 : Int))) = Value.bool true,
    Dg.strAt (txt zs) (0 : Int) = some z,
    Value.bool (z == (45 : Int)) = Value.bool true,
    Value.bool ((↑(ByteArray.size (txt zs)) : Int) == (1 : Int)) = Value.bool false,
    Value.bool (decide ((↑(ByteArray.size (txt zs)) : Int) > (60 : Int))) = Value.bool false,
    evLoop runU clU 1000 { ts := [Value.string (txt zs), Value.agg { toList := kpN lb (lim lm) }, Value.agg { toList := kpN hb (lim hm) }, undef, Value.pointer (some { block := 0, off := 0 }), Value.pointer (some { block := 1, off := 0 }), Value.pointer (some { block := 2, off := 0 }), Value.bool false, Value.pointer (some { block := 3, off := 0 }), Value.int IntKind.i64 1, Value.int IntKind.i64 1, Value.agg #[Value.bool false, Value.int IntKind.u64 0, Value.int IntKind.u64 0, Value.int IntKind.u64 0, Value.int IntKind.u64 0, Value.int IntKind.u64 0, Value.int IntKind.u64 0, Value.int IntKind.u64 0, Value.int IntKind.u64 0, Value.int IntKind.u64 0, Value.int IntKind.u64 0, Value.int IntKind.u64 0, Value.int IntKind.u64 0, Value.int IntKind.u64 0, Value.int IntKind.u64 0, Value.int IntKind.u64 0, Value.int IntKind.u64 0, Value.int IntKind.u64 0, Value.int IntKind.u64 0, Value.int IntKind.u64 0, Value.int IntKind.u64 0], Value.string (txt zs), Value.int IntKind.i64 (↑(ByteArray.size (txt zs)) : Int), Value.bool true, Value.bool true, Value.string (txt zs), Value.int IntKind.u8 z, Value.bool true, Value.bool true, Value.string (txt zs), Value.int IntKind.i64 (↑(ByteArray.size (txt zs)) : Int), Value.int IntKind.i64 1, Value.bool false, Value.bool false, Value.string (txt zs), Value.int IntKind.i64 (↑(ByteArray.size (txt zs)) : Int), Value.bool false, Value.bool false, undef, Value.int IntKind.i64 1, undef, undef, undef, undef, undef, undef, undef, undef, undef, undef, undef, undef, undef, undef, undef, undef, undef, undef, undef, undef, undef, undef, undef, undef, undef, undef, undef, undef, undef, undef, undef, undef, undef, undef, undef, undef, undef, undef, undef, undef, undef, undef, undef, undef, undef, undef, undef], H := { n := 4, objs := [AObj.cells [Value.bool false, Value.int IntKind.u64 0, Value.int IntKind.u64 0, Value.int IntKind.u64 0, Value.int IntKind.u64 0, Value.int IntKind.u64 0, Value.int IntKind.u64 0, Value.int IntKind.u64 0, Value.int IntKind.u64 0, Value.int IntKind.u64 0, Value.int IntKind.u64 0, Value.int IntKind.u64 0, Value.int IntKind.u64 0, Value.int IntKind.u64 0, Value.int IntKind.u64 0, Value.int IntKind.u64 0, Value.int IntKind.u64 0, Value.int IntKind.u64 0, Value.int IntKind.u64 0, Value.int IntKind.u64 0, Value.int IntKind.u64 0] 30 0 1, AObj.cells [Value.bool false, Value.int IntKind.u64 0, Value.int IntKind.u64 0, Value.int IntKind.u64 0, Value.int IntKind.u64 0, Value.int IntKind.u64 0, Value.int IntKind.u64 0, Value.int IntKind.u64 0, Value.int IntKind.u64 0, Value.int IntKind.u64 0, Value.int IntKind.u64 0, Value.int IntKind.u64 0, Value.int IntKind.u64 0, Value.int IntKind.u64 0, Value.int IntKind.u64 0, Value.int IntKind.u64 0, Value.int IntKind.u64 0, Value.int IntKind.u64 0, Value.int IntKind.u64 0, Value.int IntKind.u64 0, Value.int IntKind.u64 0] 30 0 1, AObj.cells [Value.bool hb, Value.int IntKind.u64 (lim hm 0), Value.int IntKind.u64 (lim hm 1), Value.int IntKind.u64 (lim hm 2), Value.int IntKind.u64 (lim hm 3), Value.int IntKind.u64 (lim hm 4), Value.int IntKind.u64 (lim hm 5), Value.int IntKind.u64 (lim hm 6), Value.int IntKind.u64 (lim hm 7), Value.int IntKind.u64 (lim hm 8), Value.int IntKind.u64 (lim hm 9), Value.int IntKind.u64 (lim hm 10), Value.int IntKind.u64 (lim hm 11), Value.int IntKind.u64 (lim hm 12), Value.int IntKind.u64 (lim hm 13), Value.int IntKind.u64 (lim hm 14), Value.int IntKind.u64 (lim hm 15), Value.int IntKind.u64 (lim hm 16), Value.int IntKind.u64 (lim hm 17), Value.int IntKind.u64 (lim hm 18), Value.int IntKind.u64 (lim hm 19)] 30 0 1, AObj.cells [Value.bool lb, Value.int IntKind.u64 (lim lm 0), Value.int IntKind.u64 (lim lm 1), Value.int IntKind.u64 (lim lm 2), Value.int IntKind.u64 (lim lm 3), Value.int IntKind.u64 (lim lm 4), Value.int IntKind.u64 (lim lm 5), Value.int IntKind.u64 (lim lm 6), Value.int IntKind.u64 (lim lm 7), Value.int IntKind.u64 (lim lm 8), Value.int IntKind.u64 (lim lm 9), Value.int IntKind.u64 (lim lm 10), Value.int IntKind.u64 (lim lm 11), Value.int IntKind.u64 (lim lm 12), Value.int IntKind.u64 (lim lm 13), Value.int IntKind.u64 (lim lm 14), Value.int IntKind.u64 (lim lm 15), Value.int IntKind.u64 (lim lm 16), Value.int IntKind.u64 (lim lm 17), Value.int IntKind.u64 (lim lm 18), Value.int IntKind.u64 (lim lm 19)] 30 0 1] }, log := [] } = some (Ex.exit 0, EU zs lb lm hb hm 1 i v),
    evCall Tryz.prog 0 (bodied Tryz.prog) ov3 sbs 1000 19 7 [Value.agg #[Value.bool true, Value.int IntKind.u64 (lim v 0), Value.int IntKind.u64 (lim v 1), Value.int IntKind.u64 (lim v 2), Value.int IntKind.u64 (lim v 3), Value.int IntKind.u64 (lim v 4), Value.int IntKind.u64 (lim v 5), Value.int IntKind.u64 (lim v 6), Value.int IntKind.u64 (lim v 7), Value.int IntKind.u64 (lim v 8), Value.int IntKind.u64 (lim v 9), Value.int IntKind.u64 (lim v 10), Value.int IntKind.u64 (lim v 11), Value.int IntKind.u64 (lim v 12), Value.int IntKind.u64 (lim v 13), Value.int IntKind.u64 (lim v 14), Value.int IntKind.u64 (lim v 15), Value.int IntKind.u64 (lim v 16), Value.int IntKind.u64 (lim v 17), Value.int IntKind.u64 (lim v 18), Value.int IntKind.u64 (lim v 19)]] { n := 0, objs := [] } = some (Value.string (txt ds), { n := 0, objs := [] }, []),
    Value.bool (ByteArray.toList (txt ds) == ByteArray.toList (txt zs)) = Value.bool false] (by kernel_rfl)
    ⟨Dg.vtrue (by rw [txt_size]; omega), strAt_txt (i := 0) (by omega) he hz, Dg.vtrue (by omega), Dg.vfalse (by rw [txt_size]; omega), Dg.vfalse (by rw [txt_size]; omega), hL _ (su_start (by kernel_rfl)), Dg.evCall_told hN, eqT hq, trivial⟩
--> uqfB
--< uqlB
theorem uqlB (zs : List Int) (lb : Bool) (lm : Nat) (hb : Bool) (hm : Nat) (z : Int) (he : List.getD zs 0 0 = z) (hz : 0 ≤ z ∧ z < 256) (h45 : z = 45) (h0 : 1 < List.length zs) (hl : List.length zs ≤ 60) (i : Nat) (v : Nat) (hL : ∀ (s0 : St), clU s0 = SU zs lb lm hb hm 1 1 0 → evLoop runU clU 1000 s0 = some (Ex.exit 0, EU zs lb lm hb hm 1 i v)) (ds : List Int) (hN : o3 7 [num true v] = some (Value.string (txt ds))) (hq : (List.map (fun n => UInt8.ofNat (Int.toNat n)) ds == List.map (fun n => UInt8.ofNat (Int.toNat n)) zs) = true) (c1 : Int) (hc1 : o3 35 [num true v, num lb lm] = some (Value.int IntKind.i64 c1)) (hc : c1 < 0) :
    evCall Tryz.prog 0 (bodied Tryz.prog) ov3 sbs 1000 20 11 [Value.string (txt zs), num lb lm, num hb hm] { n := 0, objs := [] } = some (Value.tuple { toList := [Value.agg #[Value.bool true, Value.int IntKind.u64 (lim v 0), Value.int IntKind.u64 (lim v 1), Value.int IntKind.u64 (lim v 2), Value.int IntKind.u64 (lim v 3), Value.int IntKind.u64 (lim v 4), Value.int IntKind.u64 (lim v 5), Value.int IntKind.u64 (lim v 6), Value.int IntKind.u64 (lim v 7), Value.int IntKind.u64 (lim v 8), Value.int IntKind.u64 (lim v 9), Value.int IntKind.u64 (lim v 10), Value.int IntKind.u64 (lim v 11), Value.int IntKind.u64 (lim v 12), Value.int IntKind.u64 (lim v 13), Value.int IntKind.u64 (lim v 14), Value.int IntKind.u64 (lim v 15), Value.int IntKind.u64 (lim v 16), Value.int IntKind.u64 (lim v 17), Value.int IntKind.u64 (lim v 18), Value.int IntKind.u64 (lim v 19)], Value.bool false] }, { n := 0, objs := [] }, []) :=
  Dg.evCall_hint (hs' := []) (hs := [Hint.val 11 14 (Value.bool true),
    Hint.soft 11 17 (Value.int IntKind.u8 z),
    Hint.val 11 18 (Value.bool true),
    Hint.val 11 23 (Value.bool false),
    Hint.val 11 27 (Value.bool false),
    Hint.loop 11 (Ex.exit 0) (EU zs lb lm hb hm 1 i v),
    Hint.call 7 (Value.string (txt ds)) { n := 0, objs := [] } [],
    Hint.val 11 65 (Value.bool true),
    Hint.call 35 (Value.int IntKind.i64 c1) { n := 0, objs := [] } [],
    Hint.val 11 70 (Value.bool false)])
    [Value.bool (decide ((↑(ByteArray.size (txt zs)) : Int) > (0 : Int))) = Value.bool true,
    Dg.strAt (txt zs) (0 : Int) = some z,
    Value.bool (z == (45 : Int)) = Value.bool true,
    Value.bool ((↑(ByteArray.size (txt zs)) : Int) == (1 : Int)) = Value.bool false,
    Value.bool (decide ((↑(ByteArray.size (txt zs)) : Int) > (60 : Int))) = Value.bool false,
    evLoop runU clU 1000 { ts := [Value.string (txt zs), Value.agg { toList := kpN lb (lim lm) }, Value.agg { toList := kpN hb (lim hm) }, undef, Value.pointer (some { block := 0, off := 0 }), Value.pointer (some { block := 1, off := 0 }), Value.pointer (some { block := 2, off := 0 }), Value.bool false, Value.pointer (some { block := 3, off := 0 }), Value.int IntKind.i64 1, Value.int IntKind.i64 1, Value.agg #[Value.bool false, Value.int IntKind.u64 0, Value.int IntKind.u64 0, Value.int IntKind.u64 0, Value.int IntKind.u64 0, Value.int IntKind.u64 0, Value.int IntKind.u64 0, Value.int IntKind.u64 0, Value.int IntKind.u64 0, Value.int IntKind.u64 0, Value.int IntKind.u64 0, Value.int IntKind.u64 0, Value.int IntKind.u64 0, Value.int IntKind.u64 0, Value.int IntKind.u64 0, Value.int IntKind.u64 0, Value.int IntKind.u64 0, Value.int IntKind.u64 0, Value.int IntKind.u64 0, Value.int IntKind.u64 0, Value.int IntKind.u64 0], Value.string (txt zs), Value.int IntKind.i64 (↑(ByteArray.size (txt zs)) : Int), Value.bool true, Value.bool true, Value.string (txt zs), Value.int IntKind.u8 z, Value.bool true, Value.bool true, Value.string (txt zs), Value.int IntKind.i64 (↑(ByteArray.size (txt zs)) : Int), Value.int IntKind.i64 1, Value.bool false, Value.bool false, Value.string (txt zs), Value.int IntKind.i64 (↑(ByteArray.size (txt zs)) : Int), Value.bool false, Value.bool false, undef, Value.int IntKind.i64 1, undef, undef, undef, undef, undef, undef, undef, undef, undef, undef, undef, undef, undef, undef, undef, undef, undef, undef, undef, undef, undef, undef, undef, undef, undef, undef, undef, undef, undef, undef, undef, undef, undef, undef, undef, undef, undef, undef, undef, undef, undef, undef, undef, undef, undef, undef, undef], H := { n := 4, objs := [AObj.cells [Value.bool false, Value.int IntKind.u64 0, Value.int IntKind.u64 0, Value.int IntKind.u64 0, Value.int IntKind.u64 0, Value.int IntKind.u64 0, Value.int IntKind.u64 0, Value.int IntKind.u64 0, Value.int IntKind.u64 0, Value.int IntKind.u64 0, Value.int IntKind.u64 0, Value.int IntKind.u64 0, Value.int IntKind.u64 0, Value.int IntKind.u64 0, Value.int IntKind.u64 0, Value.int IntKind.u64 0, Value.int IntKind.u64 0, Value.int IntKind.u64 0, Value.int IntKind.u64 0, Value.int IntKind.u64 0, Value.int IntKind.u64 0] 30 0 1, AObj.cells [Value.bool false, Value.int IntKind.u64 0, Value.int IntKind.u64 0, Value.int IntKind.u64 0, Value.int IntKind.u64 0, Value.int IntKind.u64 0, Value.int IntKind.u64 0, Value.int IntKind.u64 0, Value.int IntKind.u64 0, Value.int IntKind.u64 0, Value.int IntKind.u64 0, Value.int IntKind.u64 0, Value.int IntKind.u64 0, Value.int IntKind.u64 0, Value.int IntKind.u64 0, Value.int IntKind.u64 0, Value.int IntKind.u64 0, Value.int IntKind.u64 0, Value.int IntKind.u64 0, Value.int IntKind.u64 0, Value.int IntKind.u64 0] 30 0 1, AObj.cells [Value.bool hb, Value.int IntKind.u64 (lim hm 0), Value.int IntKind.u64 (lim hm 1), Value.int IntKind.u64 (lim hm 2), Value.int IntKind.u64 (lim hm 3), Value.int IntKind.u64 (lim hm 4), Value.int IntKind.u64 (lim hm 5), Value.int IntKind.u64 (lim hm 6), Value.int IntKind.u64 (lim hm 7), Value.int IntKind.u64 (lim hm 8), Value.int IntKind.u64 (lim hm 9), Value.int IntKind.u64 (lim hm 10), Value.int IntKind.u64 (lim hm 11), Value.int IntKind.u64 (lim hm 12), Value.int IntKind.u64 (lim hm 13), Value.int IntKind.u64 (lim hm 14), Value.int IntKind.u64 (lim hm 15), Value.int IntKind.u64 (lim hm 16), Value.int IntKind.u64 (lim hm 17), Value.int IntKind.u64 (lim hm 18), Value.int IntKind.u64 (lim hm 19)] 30 0 1, AObj.cells [Value.bool lb, Value.int IntKind.u64 (lim lm 0), Value.int IntKind.u64 (lim lm 1), Value.int IntKind.u64 (lim lm 2), Value.int IntKind.u64 (lim lm 3), Value.int IntKind.u64 (lim lm 4), Value.int IntKind.u64 (lim lm 5), Value.int IntKind.u64 (lim lm 6), Value.int IntKind.u64 (lim lm 7), Value.int IntKind.u64 (lim lm 8), Value.int IntKind.u64 (lim lm 9), Value.int IntKind.u64 (lim lm 10), Value.int IntKind.u64 (lim lm 11), Value.int IntKind.u64 (lim lm 12), Value.int IntKind.u64 (lim lm 13), Value.int IntKind.u64 (lim lm 14), Value.int IntKind.u64 (lim lm 15), Value.int IntKind.u64 (lim lm 16), Value.int IntKind.u64 (lim lm 17), Value.int IntKind.u64 (lim lm 18), Value.int IntKind.u64 (lim lm 19)] 30 0 1] }, log := [] } = some (Ex.exit 0, EU zs lb lm hb hm 1 i v),
    evCall Tryz.prog 0 (bodied Tryz.prog) ov3 sbs 1000 19 7 [Value.agg #[Value.bool true, Value.int IntKind.u64 (lim v 0), Value.int IntKind.u64 (lim v 1), Value.int IntKind.u64 (lim v 2), Value.int IntKind.u64 (lim v 3), Value.int IntKind.u64 (lim v 4), Value.int IntKind.u64 (lim v 5), Value.int IntKind.u64 (lim v 6), Value.int IntKind.u64 (lim v 7), Value.int IntKind.u64 (lim v 8), Value.int IntKind.u64 (lim v 9), Value.int IntKind.u64 (lim v 10), Value.int IntKind.u64 (lim v 11), Value.int IntKind.u64 (lim v 12), Value.int IntKind.u64 (lim v 13), Value.int IntKind.u64 (lim v 14), Value.int IntKind.u64 (lim v 15), Value.int IntKind.u64 (lim v 16), Value.int IntKind.u64 (lim v 17), Value.int IntKind.u64 (lim v 18), Value.int IntKind.u64 (lim v 19)]] { n := 0, objs := [] } = some (Value.string (txt ds), { n := 0, objs := [] }, []),
    Value.bool (ByteArray.toList (txt ds) == ByteArray.toList (txt zs)) = Value.bool true,
    evCall Tryz.prog 0 (bodied Tryz.prog) ov3 sbs 1000 19 35 [Value.agg #[Value.bool true, Value.int IntKind.u64 (lim v 0), Value.int IntKind.u64 (lim v 1), Value.int IntKind.u64 (lim v 2), Value.int IntKind.u64 (lim v 3), Value.int IntKind.u64 (lim v 4), Value.int IntKind.u64 (lim v 5), Value.int IntKind.u64 (lim v 6), Value.int IntKind.u64 (lim v 7), Value.int IntKind.u64 (lim v 8), Value.int IntKind.u64 (lim v 9), Value.int IntKind.u64 (lim v 10), Value.int IntKind.u64 (lim v 11), Value.int IntKind.u64 (lim v 12), Value.int IntKind.u64 (lim v 13), Value.int IntKind.u64 (lim v 14), Value.int IntKind.u64 (lim v 15), Value.int IntKind.u64 (lim v 16), Value.int IntKind.u64 (lim v 17), Value.int IntKind.u64 (lim v 18), Value.int IntKind.u64 (lim v 19)], Value.agg #[Value.bool lb, Value.int IntKind.u64 (lim lm 0), Value.int IntKind.u64 (lim lm 1), Value.int IntKind.u64 (lim lm 2), Value.int IntKind.u64 (lim lm 3), Value.int IntKind.u64 (lim lm 4), Value.int IntKind.u64 (lim lm 5), Value.int IntKind.u64 (lim lm 6), Value.int IntKind.u64 (lim lm 7), Value.int IntKind.u64 (lim lm 8), Value.int IntKind.u64 (lim lm 9), Value.int IntKind.u64 (lim lm 10), Value.int IntKind.u64 (lim lm 11), Value.int IntKind.u64 (lim lm 12), Value.int IntKind.u64 (lim lm 13), Value.int IntKind.u64 (lim lm 14), Value.int IntKind.u64 (lim lm 15), Value.int IntKind.u64 (lim lm 16), Value.int IntKind.u64 (lim lm 17), Value.int IntKind.u64 (lim lm 18), Value.int IntKind.u64 (lim lm 19)]] { n := 0, objs := [] } = some (Value.int IntKind.i64 c1, { n := 0, objs := [] }, []),
    Value.bool (decide (c1 ≥ (0 : Int))) = Value.bool false] (by kernel_rfl)
    ⟨Dg.vtrue (by rw [txt_size]; omega), strAt_txt (i := 0) (by omega) he hz, Dg.vtrue (by omega), Dg.vfalse (by rw [txt_size]; omega), Dg.vfalse (by rw [txt_size]; omega), hL _ (su_start (by kernel_rfl)), Dg.evCall_told hN, eqT hq, Dg.evCall_told hc1, Dg.vfalse (by omega), trivial⟩
--> uqlB
--< uqtB
theorem uqtB (zs : List Int) (lb : Bool) (lm : Nat) (hb : Bool) (hm : Nat) (z : Int) (he : List.getD zs 0 0 = z) (hz : 0 ≤ z ∧ z < 256) (h45 : z = 45) (h0 : 1 < List.length zs) (hl : List.length zs ≤ 60) (i : Nat) (v : Nat) (hL : ∀ (s0 : St), clU s0 = SU zs lb lm hb hm 1 1 0 → evLoop runU clU 1000 s0 = some (Ex.exit 0, EU zs lb lm hb hm 1 i v)) (ds : List Int) (hN : o3 7 [num true v] = some (Value.string (txt ds))) (hq : (List.map (fun n => UInt8.ofNat (Int.toNat n)) ds == List.map (fun n => UInt8.ofNat (Int.toNat n)) zs) = true) (c1 : Int) (c2 : Int) (hc1 : o3 35 [num true v, num lb lm] = some (Value.int IntKind.i64 c1)) (hc : 0 ≤ c1) (hc2 : o3 35 [num true v, num hb hm] = some (Value.int IntKind.i64 c2)) (g : Bool) (hg : decide (c2 ≤ 0) = g) :
    evCall Tryz.prog 0 (bodied Tryz.prog) ov3 sbs 1000 20 11 [Value.string (txt zs), num lb lm, num hb hm] { n := 0, objs := [] } = some (Value.tuple { toList := [Value.agg #[Value.bool true, Value.int IntKind.u64 (lim v 0), Value.int IntKind.u64 (lim v 1), Value.int IntKind.u64 (lim v 2), Value.int IntKind.u64 (lim v 3), Value.int IntKind.u64 (lim v 4), Value.int IntKind.u64 (lim v 5), Value.int IntKind.u64 (lim v 6), Value.int IntKind.u64 (lim v 7), Value.int IntKind.u64 (lim v 8), Value.int IntKind.u64 (lim v 9), Value.int IntKind.u64 (lim v 10), Value.int IntKind.u64 (lim v 11), Value.int IntKind.u64 (lim v 12), Value.int IntKind.u64 (lim v 13), Value.int IntKind.u64 (lim v 14), Value.int IntKind.u64 (lim v 15), Value.int IntKind.u64 (lim v 16), Value.int IntKind.u64 (lim v 17), Value.int IntKind.u64 (lim v 18), Value.int IntKind.u64 (lim v 19)], Value.bool g] }, { n := 0, objs := [] }, []) :=
  Dg.evCall_hint (hs' := []) (hs := [Hint.val 11 14 (Value.bool true),
    Hint.soft 11 17 (Value.int IntKind.u8 z),
    Hint.val 11 18 (Value.bool true),
    Hint.val 11 23 (Value.bool false),
    Hint.val 11 27 (Value.bool false),
    Hint.loop 11 (Ex.exit 0) (EU zs lb lm hb hm 1 i v),
    Hint.call 7 (Value.string (txt ds)) { n := 0, objs := [] } [],
    Hint.val 11 65 (Value.bool true),
    Hint.call 35 (Value.int IntKind.i64 c1) { n := 0, objs := [] } [],
    Hint.val 11 70 (Value.bool true),
    Hint.call 35 (Value.int IntKind.i64 c2) { n := 0, objs := [] } [],
    Hint.val 11 76 (Value.bool g)])
    [Value.bool (decide ((↑(ByteArray.size (txt zs)) : Int) > (0 : Int))) = Value.bool true,
    Dg.strAt (txt zs) (0 : Int) = some z,
    Value.bool (z == (45 : Int)) = Value.bool true,
    Value.bool ((↑(ByteArray.size (txt zs)) : Int) == (1 : Int)) = Value.bool false,
    Value.bool (decide ((↑(ByteArray.size (txt zs)) : Int) > (60 : Int))) = Value.bool false,
    evLoop runU clU 1000 { ts := [Value.string (txt zs), Value.agg { toList := kpN lb (lim lm) }, Value.agg { toList := kpN hb (lim hm) }, undef, Value.pointer (some { block := 0, off := 0 }), Value.pointer (some { block := 1, off := 0 }), Value.pointer (some { block := 2, off := 0 }), Value.bool false, Value.pointer (some { block := 3, off := 0 }), Value.int IntKind.i64 1, Value.int IntKind.i64 1, Value.agg #[Value.bool false, Value.int IntKind.u64 0, Value.int IntKind.u64 0, Value.int IntKind.u64 0, Value.int IntKind.u64 0, Value.int IntKind.u64 0, Value.int IntKind.u64 0, Value.int IntKind.u64 0, Value.int IntKind.u64 0, Value.int IntKind.u64 0, Value.int IntKind.u64 0, Value.int IntKind.u64 0, Value.int IntKind.u64 0, Value.int IntKind.u64 0, Value.int IntKind.u64 0, Value.int IntKind.u64 0, Value.int IntKind.u64 0, Value.int IntKind.u64 0, Value.int IntKind.u64 0, Value.int IntKind.u64 0, Value.int IntKind.u64 0], Value.string (txt zs), Value.int IntKind.i64 (↑(ByteArray.size (txt zs)) : Int), Value.bool true, Value.bool true, Value.string (txt zs), Value.int IntKind.u8 z, Value.bool true, Value.bool true, Value.string (txt zs), Value.int IntKind.i64 (↑(ByteArray.size (txt zs)) : Int), Value.int IntKind.i64 1, Value.bool false, Value.bool false, Value.string (txt zs), Value.int IntKind.i64 (↑(ByteArray.size (txt zs)) : Int), Value.bool false, Value.bool false, undef, Value.int IntKind.i64 1, undef, undef, undef, undef, undef, undef, undef, undef, undef, undef, undef, undef, undef, undef, undef, undef, undef, undef, undef, undef, undef, undef, undef, undef, undef, undef, undef, undef, undef, undef, undef, undef, undef, undef, undef, undef, undef, undef, undef, undef, undef, undef, undef, undef, undef, undef, undef], H := { n := 4, objs := [AObj.cells [Value.bool false, Value.int IntKind.u64 0, Value.int IntKind.u64 0, Value.int IntKind.u64 0, Value.int IntKind.u64 0, Value.int IntKind.u64 0, Value.int IntKind.u64 0, Value.int IntKind.u64 0, Value.int IntKind.u64 0, Value.int IntKind.u64 0, Value.int IntKind.u64 0, Value.int IntKind.u64 0, Value.int IntKind.u64 0, Value.int IntKind.u64 0, Value.int IntKind.u64 0, Value.int IntKind.u64 0, Value.int IntKind.u64 0, Value.int IntKind.u64 0, Value.int IntKind.u64 0, Value.int IntKind.u64 0, Value.int IntKind.u64 0] 30 0 1, AObj.cells [Value.bool false, Value.int IntKind.u64 0, Value.int IntKind.u64 0, Value.int IntKind.u64 0, Value.int IntKind.u64 0, Value.int IntKind.u64 0, Value.int IntKind.u64 0, Value.int IntKind.u64 0, Value.int IntKind.u64 0, Value.int IntKind.u64 0, Value.int IntKind.u64 0, Value.int IntKind.u64 0, Value.int IntKind.u64 0, Value.int IntKind.u64 0, Value.int IntKind.u64 0, Value.int IntKind.u64 0, Value.int IntKind.u64 0, Value.int IntKind.u64 0, Value.int IntKind.u64 0, Value.int IntKind.u64 0, Value.int IntKind.u64 0] 30 0 1, AObj.cells [Value.bool hb, Value.int IntKind.u64 (lim hm 0), Value.int IntKind.u64 (lim hm 1), Value.int IntKind.u64 (lim hm 2), Value.int IntKind.u64 (lim hm 3), Value.int IntKind.u64 (lim hm 4), Value.int IntKind.u64 (lim hm 5), Value.int IntKind.u64 (lim hm 6), Value.int IntKind.u64 (lim hm 7), Value.int IntKind.u64 (lim hm 8), Value.int IntKind.u64 (lim hm 9), Value.int IntKind.u64 (lim hm 10), Value.int IntKind.u64 (lim hm 11), Value.int IntKind.u64 (lim hm 12), Value.int IntKind.u64 (lim hm 13), Value.int IntKind.u64 (lim hm 14), Value.int IntKind.u64 (lim hm 15), Value.int IntKind.u64 (lim hm 16), Value.int IntKind.u64 (lim hm 17), Value.int IntKind.u64 (lim hm 18), Value.int IntKind.u64 (lim hm 19)] 30 0 1, AObj.cells [Value.bool lb, Value.int IntKind.u64 (lim lm 0), Value.int IntKind.u64 (lim lm 1), Value.int IntKind.u64 (lim lm 2), Value.int IntKind.u64 (lim lm 3), Value.int IntKind.u64 (lim lm 4), Value.int IntKind.u64 (lim lm 5), Value.int IntKind.u64 (lim lm 6), Value.int IntKind.u64 (lim lm 7), Value.int IntKind.u64 (lim lm 8), Value.int IntKind.u64 (lim lm 9), Value.int IntKind.u64 (lim lm 10), Value.int IntKind.u64 (lim lm 11), Value.int IntKind.u64 (lim lm 12), Value.int IntKind.u64 (lim lm 13), Value.int IntKind.u64 (lim lm 14), Value.int IntKind.u64 (lim lm 15), Value.int IntKind.u64 (lim lm 16), Value.int IntKind.u64 (lim lm 17), Value.int IntKind.u64 (lim lm 18), Value.int IntKind.u64 (lim lm 19)] 30 0 1] }, log := [] } = some (Ex.exit 0, EU zs lb lm hb hm 1 i v),
    evCall Tryz.prog 0 (bodied Tryz.prog) ov3 sbs 1000 19 7 [Value.agg #[Value.bool true, Value.int IntKind.u64 (lim v 0), Value.int IntKind.u64 (lim v 1), Value.int IntKind.u64 (lim v 2), Value.int IntKind.u64 (lim v 3), Value.int IntKind.u64 (lim v 4), Value.int IntKind.u64 (lim v 5), Value.int IntKind.u64 (lim v 6), Value.int IntKind.u64 (lim v 7), Value.int IntKind.u64 (lim v 8), Value.int IntKind.u64 (lim v 9), Value.int IntKind.u64 (lim v 10), Value.int IntKind.u64 (lim v 11), Value.int IntKind.u64 (lim v 12), Value.int IntKind.u64 (lim v 13), Value.int IntKind.u64 (lim v 14), Value.int IntKind.u64 (lim v 15), Value.int IntKind.u64 (lim v 16), Value.int IntKind.u64 (lim v 17), Value.int IntKind.u64 (lim v 18), Value.int IntKind.u64 (lim v 19)]] { n := 0, objs := [] } = some (Value.string (txt ds), { n := 0, objs := [] }, []),
    Value.bool (ByteArray.toList (txt ds) == ByteArray.toList (txt zs)) = Value.bool true,
    evCall Tryz.prog 0 (bodied Tryz.prog) ov3 sbs 1000 19 35 [Value.agg #[Value.bool true, Value.int IntKind.u64 (lim v 0), Value.int IntKind.u64 (lim v 1), Value.int IntKind.u64 (lim v 2), Value.int IntKind.u64 (lim v 3), Value.int IntKind.u64 (lim v 4), Value.int IntKind.u64 (lim v 5), Value.int IntKind.u64 (lim v 6), Value.int IntKind.u64 (lim v 7), Value.int IntKind.u64 (lim v 8), Value.int IntKind.u64 (lim v 9), Value.int IntKind.u64 (lim v 10), Value.int IntKind.u64 (lim v 11), Value.int IntKind.u64 (lim v 12), Value.int IntKind.u64 (lim v 13), Value.int IntKind.u64 (lim v 14), Value.int IntKind.u64 (lim v 15), Value.int IntKind.u64 (lim v 16), Value.int IntKind.u64 (lim v 17), Value.int IntKind.u64 (lim v 18), Value.int IntKind.u64 (lim v 19)], Value.agg #[Value.bool lb, Value.int IntKind.u64 (lim lm 0), Value.int IntKind.u64 (lim lm 1), Value.int IntKind.u64 (lim lm 2), Value.int IntKind.u64 (lim lm 3), Value.int IntKind.u64 (lim lm 4), Value.int IntKind.u64 (lim lm 5), Value.int IntKind.u64 (lim lm 6), Value.int IntKind.u64 (lim lm 7), Value.int IntKind.u64 (lim lm 8), Value.int IntKind.u64 (lim lm 9), Value.int IntKind.u64 (lim lm 10), Value.int IntKind.u64 (lim lm 11), Value.int IntKind.u64 (lim lm 12), Value.int IntKind.u64 (lim lm 13), Value.int IntKind.u64 (lim lm 14), Value.int IntKind.u64 (lim lm 15), Value.int IntKind.u64 (lim lm 16), Value.int IntKind.u64 (lim lm 17), Value.int IntKind.u64 (lim lm 18), Value.int IntKind.u64 (lim lm 19)]] { n := 0, objs := [] } = some (Value.int IntKind.i64 c1, { n := 0, objs := [] }, []),
    Value.bool (decide (c1 ≥ (0 : Int))) = Value.bool true,
    evCall Tryz.prog 0 (bodied Tryz.prog) ov3 sbs 1000 19 35 [Value.agg #[Value.bool true, Value.int IntKind.u64 (lim v 0), Value.int IntKind.u64 (lim v 1), Value.int IntKind.u64 (lim v 2), Value.int IntKind.u64 (lim v 3), Value.int IntKind.u64 (lim v 4), Value.int IntKind.u64 (lim v 5), Value.int IntKind.u64 (lim v 6), Value.int IntKind.u64 (lim v 7), Value.int IntKind.u64 (lim v 8), Value.int IntKind.u64 (lim v 9), Value.int IntKind.u64 (lim v 10), Value.int IntKind.u64 (lim v 11), Value.int IntKind.u64 (lim v 12), Value.int IntKind.u64 (lim v 13), Value.int IntKind.u64 (lim v 14), Value.int IntKind.u64 (lim v 15), Value.int IntKind.u64 (lim v 16), Value.int IntKind.u64 (lim v 17), Value.int IntKind.u64 (lim v 18), Value.int IntKind.u64 (lim v 19)], Value.agg #[Value.bool hb, Value.int IntKind.u64 (lim hm 0), Value.int IntKind.u64 (lim hm 1), Value.int IntKind.u64 (lim hm 2), Value.int IntKind.u64 (lim hm 3), Value.int IntKind.u64 (lim hm 4), Value.int IntKind.u64 (lim hm 5), Value.int IntKind.u64 (lim hm 6), Value.int IntKind.u64 (lim hm 7), Value.int IntKind.u64 (lim hm 8), Value.int IntKind.u64 (lim hm 9), Value.int IntKind.u64 (lim hm 10), Value.int IntKind.u64 (lim hm 11), Value.int IntKind.u64 (lim hm 12), Value.int IntKind.u64 (lim hm 13), Value.int IntKind.u64 (lim hm 14), Value.int IntKind.u64 (lim hm 15), Value.int IntKind.u64 (lim hm 16), Value.int IntKind.u64 (lim hm 17), Value.int IntKind.u64 (lim hm 18), Value.int IntKind.u64 (lim hm 19)]] { n := 0, objs := [] } = some (Value.int IntKind.i64 c2, { n := 0, objs := [] }, []),
    Value.bool (decide (c2 ≤ (0 : Int))) = Value.bool g] (by kernel_rfl)
    ⟨Dg.vtrue (by rw [txt_size]; omega), strAt_txt (i := 0) (by omega) he hz, Dg.vtrue (by omega), Dg.vfalse (by rw [txt_size]; omega), Dg.vfalse (by rw [txt_size]; omega), hL _ (su_start (by kernel_rfl)), Dg.evCall_told hN, eqT hq, Dg.evCall_told hc1, Dg.vtrue (by omega), Dg.evCall_told hc2, Dg.bool_eq hg, trivial⟩
--> uqtB
--< ulongB
theorem ulongB (zs : List Int) (lb : Bool) (lm : Nat) (hb : Bool) (hm : Nat) (z : Int) (he : List.getD zs 0 0 = z) (hz : 0 ≤ z ∧ z < 256) (h45 : z = 45) (hl : 60 < List.length zs) :
    evCall Tryz.prog 0 (bodied Tryz.prog) ov3 sbs 1000 20 11 [Value.string (txt zs), num lb lm, num hb hm] { n := 0, objs := [] } = some (Value.tuple { toList := [Value.agg #[Value.bool false, Value.int IntKind.u64 0, Value.int IntKind.u64 0, Value.int IntKind.u64 0, Value.int IntKind.u64 0, Value.int IntKind.u64 0, Value.int IntKind.u64 0, Value.int IntKind.u64 0, Value.int IntKind.u64 0, Value.int IntKind.u64 0, Value.int IntKind.u64 0, Value.int IntKind.u64 0, Value.int IntKind.u64 0, Value.int IntKind.u64 0, Value.int IntKind.u64 0, Value.int IntKind.u64 0, Value.int IntKind.u64 0, Value.int IntKind.u64 0, Value.int IntKind.u64 0, Value.int IntKind.u64 0, Value.int IntKind.u64 0], Value.bool false] }, { n := 0, objs := [] }, []) :=
  Dg.evCall_hint (hs' := []) (hs := [Hint.val 11 14 (Value.bool true),
    Hint.soft 11 17 (Value.int IntKind.u8 z),
    Hint.val 11 18 (Value.bool true),
    Hint.val 11 23 (Value.bool false),
    Hint.val 11 27 (Value.bool true)])
    [Value.bool (decide ((↑(ByteArray.size (txt zs)) : Int) > (0 : Int))) = Value.bool true,
    Dg.strAt (txt zs) (0 : Int) = some z,
    Value.bool (z == (45 : Int)) = Value.bool true,
    Value.bool ((↑(ByteArray.size (txt zs)) : Int) == (1 : Int)) = Value.bool false,
    Value.bool (decide ((↑(ByteArray.size (txt zs)) : Int) > (60 : Int))) = Value.bool true] (by kernel_rfl)
    ⟨Dg.vtrue (by rw [txt_size]; omega), strAt_txt (i := 0) (by omega) he hz, Dg.vtrue (by omega), Dg.vfalse (by rw [txt_size]; omega), Dg.vtrue (by rw [txt_size]; omega), trivial⟩
--> ulongB
--< udash
theorem udash (zs : List Int) (lb : Bool) (lm : Nat) (hb : Bool) (hm : Nat) (z : Int) (he : List.getD zs 0 0 = z) (hz : 0 ≤ z ∧ z < 256) (h45 : z = 45) (hl : List.length zs = 1) :
    evCall Tryz.prog 0 (bodied Tryz.prog) ov3 sbs 1000 20 11 [Value.string (txt zs), num lb lm, num hb hm] { n := 0, objs := [] } = some (Value.tuple { toList := [Value.agg #[Value.bool false, Value.int IntKind.u64 0, Value.int IntKind.u64 0, Value.int IntKind.u64 0, Value.int IntKind.u64 0, Value.int IntKind.u64 0, Value.int IntKind.u64 0, Value.int IntKind.u64 0, Value.int IntKind.u64 0, Value.int IntKind.u64 0, Value.int IntKind.u64 0, Value.int IntKind.u64 0, Value.int IntKind.u64 0, Value.int IntKind.u64 0, Value.int IntKind.u64 0, Value.int IntKind.u64 0, Value.int IntKind.u64 0, Value.int IntKind.u64 0, Value.int IntKind.u64 0, Value.int IntKind.u64 0, Value.int IntKind.u64 0], Value.bool false] }, { n := 0, objs := [] }, []) :=
  Dg.evCall_hint (hs' := []) (hs := [Hint.val 11 14 (Value.bool true),
    Hint.soft 11 17 (Value.int IntKind.u8 z),
    Hint.val 11 18 (Value.bool true),
    Hint.val 11 23 (Value.bool true)])
    [Value.bool (decide ((↑(ByteArray.size (txt zs)) : Int) > (0 : Int))) = Value.bool true,
    Dg.strAt (txt zs) (0 : Int) = some z,
    Value.bool (z == (45 : Int)) = Value.bool true,
    Value.bool ((↑(ByteArray.size (txt zs)) : Int) == (1 : Int)) = Value.bool true] (by kernel_rfl)
    ⟨Dg.vtrue (by rw [txt_size]; omega), strAt_txt (i := 0) (by omega) he hz, Dg.vtrue (by omega), Dg.vtrue (by rw [txt_size]; omega), trivial⟩
--> udash
--< unone
theorem unone (zs : List Int) (lb : Bool) (lm : Nat) (hb : Bool) (hm : Nat) (hl : List.length zs = 0) :
    evCall Tryz.prog 0 (bodied Tryz.prog) ov3 sbs 1000 20 11 [Value.string (txt zs), num lb lm, num hb hm] { n := 0, objs := [] } = some (Value.tuple { toList := [Value.agg #[Value.bool false, Value.int IntKind.u64 0, Value.int IntKind.u64 0, Value.int IntKind.u64 0, Value.int IntKind.u64 0, Value.int IntKind.u64 0, Value.int IntKind.u64 0, Value.int IntKind.u64 0, Value.int IntKind.u64 0, Value.int IntKind.u64 0, Value.int IntKind.u64 0, Value.int IntKind.u64 0, Value.int IntKind.u64 0, Value.int IntKind.u64 0, Value.int IntKind.u64 0, Value.int IntKind.u64 0, Value.int IntKind.u64 0, Value.int IntKind.u64 0, Value.int IntKind.u64 0, Value.int IntKind.u64 0, Value.int IntKind.u64 0], Value.bool false] }, { n := 0, objs := [] }, []) :=
  Dg.evCall_hint (hs' := []) (hs := [Hint.val 11 14 (Value.bool false),
    Hint.val 11 23 (Value.bool true)])
    [Value.bool (decide ((↑(ByteArray.size (txt zs)) : Int) > (0 : Int))) = Value.bool false,
    Value.bool ((↑(ByteArray.size (txt zs)) : Int) == (0 : Int)) = Value.bool true] (by kernel_rfl)
    ⟨Dg.vfalse (by rw [txt_size]; omega), Dg.vtrue (by rw [txt_size]; omega), trivial⟩
--> unone
end Go.Proofs.YtflgpkkbifkpoaaGreatDoor.num

namespace Go.Proofs.YtflgpkkbifkpoaaGreatDoor.num
open Go.Dg (junk St Ex Ev Hint evCall evLoop bodied noOver Flats flatOver Heap AObj lay noO)
set_option linter.unusedVariables false

def L4 : List FuncId := [11]
noncomputable def o4 : FuncId → List Value → Option Value := lay Tryz.prog (bodied Tryz.prog) ov3 sbs 1000 20 L4 o3
noncomputable abbrev ov4 : Ev := flatOver o4
theorem o4_flats : ∀ f args v, o4 f args = some v → Flats Tryz.prog f args v := Dg.lay_flats mixed okB (Dg.flatOver_ok o3_flats) (by kernel_rfl) o3_flats
theorem under4 {f : FuncId} {args : List Value} {v : Value} (h : o3 f args = some v) (hf : L4.contains f = false := by rfl) : o4 f args = some v := Dg.lay_under hf h

/-- What the first j signs behind the place fr spell. -/
def pv (zs : List Int) (fr : Nat) : Nat → Nat
  | 0 => 0
  | j + 1 => pv zs fr j * 10 + (zs.getD (fr + j) 0 - 48).toNat
def Dig (z : Int) : Prop := 48 ≤ z ∧ z ≤ 57
def Byts (zs : List Int) : Prop := ∀ j, 0 ≤ zs.getD j 0 ∧ zs.getD j 0 < 256
theorem pv_lt {zs : List Int} {fr : Nat} : ∀ j, (∀ i, i < j → Dig (zs.getD (fr + i) 0)) → pv zs fr j < 10 ^ j
  | 0, _ => by rw [pv]; decide
  | j + 1, h => by
    have h1 := pv_lt j fun i hi => h i (by omega)
    have h2 := h j (by omega)
    unfold Dig at h2
    rw [pv, Nat.pow_succ]
    omega
theorem ten60 {j : Nat} (h : j ≤ 60) : 10 ^ j ≤ 10 ^ 60 := Nat.pow_le_pow_right (by decide) h
theorem big60 : 10 ^ 60 * 10 + 10 < B ^ 19 := by decide
section
variable (zs : List Int) (lb : Bool) (lm : Nat) (hb : Bool) (hm : Nat) (fr : Nat)
theorem u_round (hz : Byts zs) (hl : zs.length ≤ 60) (j : Nat) (hj : fr + j < zs.length) (h : ∀ i, i ≤ j → Dig (zs.getD (fr + i) 0)) :
    ∃ s', runU (SU zs lb lm hb hm fr (fr + j) (pv zs fr j)) = some (.normal, s') ∧ clU s' = SU zs lb lm hb hm fr (fr + (j + 1)) (pv zs fr (j + 1)) := by
  have h1 := pv_lt (zs := zs) (fr := fr) j fun i hi => h i (by omega)
  have h2 := ten60 (j := j) (by omega)
  have h3 := big60
  have h4 := h j (Nat.le_refl _)
  unfold Dig at h4
  exact ur zs lb lm hb hm fr (fr + j) (pv zs fr j) (pv zs fr j * 10) (pv zs fr (j + 1)) (zs.getD (fr + j) 0 - 48).toNat 10 rfl (zs.getD (fr + j) 0) hj hl rfl (hz _) h4.1 h4.2 (by omega) rfl rfl (by rw [pv]; omega) (by omega)
theorem u_digits (hz : Byts zs) (hl : zs.length ≤ 60) (hf : fr ≤ zs.length) (h : ∀ i, i < zs.length - fr → Dig (zs.getD (fr + i) 0)) {s0 : St} (h0 : clU s0 = SU zs lb lm hb hm fr fr 0) :
    evLoop runU clU 1000 s0 = some (.exit 0, EU zs lb lm hb hm fr zs.length (pv zs fr (zs.length - fr))) := by
  have e := Dg.loop_run (S := fun j => SU zs lb lm hb hm fr (fr + j) (pv zs fr j)) (n := zs.length - fr) (ex := .exit 0) (by simp) (fun j hj => u_round zs lb lm hb hm fr hz hl j (by omega) fun i hi => h i (by omega)) (ue_ zs lb lm hb hm fr (fr + (zs.length - fr)) (pv zs fr (zs.length - fr)) (by omega) hl) (fuel := 1000) (by omega) h0
  have e2 : evLoop runU clU 1000 s0 = some (.exit 0, EU zs lb lm hb hm fr (fr + (zs.length - fr)) (pv zs fr (zs.length - fr))) := e.trans (by kernel_rfl)
  rwa [show fr + (zs.length - fr) = zs.length by omega] at e2
theorem u_bad (hz : Byts zs) (hl : zs.length ≤ 60) (k : Nat) (hk : fr + k < zs.length) (h : ∀ i, i < k → Dig (zs.getD (fr + i) 0)) (hx : ¬ Dig (zs.getD (fr + k) 0)) :
    ∃ rest, ∀ s0, clU s0 = SU zs lb lm hb hm fr fr 0 → evLoop runU clU 1000 s0 = some (.ret, XU zs lb lm hb hm fr (fr + k) (pv zs fr k) rest) := by
  have run : ∀ E : St, runU (SU zs lb lm hb hm fr (fr + k) (pv zs fr k)) = some (.ret, E) → ∀ s0, clU s0 = SU zs lb lm hb hm fr fr 0 → evLoop runU clU 1000 s0 = some (.ret, E) := fun E hs s0 h0 =>
    Dg.loop_run (S := fun j => SU zs lb lm hb hm fr (fr + j) (pv zs fr j)) (n := k) (by simp) (fun j hj => u_round zs lb lm hb hm fr hz hl j (by omega) fun i hi => h i (by omega)) hs (by omega) h0
  unfold Dig at hx
  rcases Int.lt_or_le (zs.getD (fr + k) 0) 48 with h1 | h1
  · exact ⟨_, run _ (ux zs lb lm hb hm fr (fr + k) (pv zs fr k) _ hk hl rfl (hz _) h1)⟩
  · exact ⟨_, run _ (uy zs lb lm hb hm fr (fr + k) (pv zs fr k) _ hk hl rfl (hz _) (by omega))⟩
end
/-- The first place, from one on, at which something fails. -/
theorem first_not {p : Nat → Prop} (n : Nat) : (∀ i, i < n → p i) ∨ ∃ k, k < n ∧ (∀ i, i < k → p i) ∧ ¬ p k := by
  induction n with
  | zero => exact .inl fun i hi => by omega
  | succ n ih =>
    rcases ih with h | ⟨k, h1, h2, h3⟩
    · rcases Classical.em (p n) with hp | hp
      · refine .inl fun i hi => ?_
        rcases Nat.lt_or_ge i n with h0 | h0
        · exact h i h0
        · obtain rfl : i = n := by omega
          exact hp
      · exact .inr ⟨n, by omega, h, hp⟩
    · exact .inr ⟨k, by omega, h2, h3⟩
theorem flat3 (zs : List Int) (b c : Bool) (m n : Nat) : Dg.flatL [.string (txt zs), num b m, num c n] = true := by
  show (Dg.flat (.string (txt zs)) && Dg.flatL [num b m, num c n]) = true
  rw [flat2]
  rfl
theorem flatR (b : Bool) (m : Nat) (g : Bool) : Dg.flat (.tuple #[num b m, .bool g]) = true := by
  show (Dg.flat (num b m) && Dg.flatL [.bool g]) = true
  rw [num_flat]
  rfl
/-- Is a text that of a number, as the document asks? -/
def fromB (zs : List Int) : Bool := decide (0 < zs.length ∧ zs.getD 0 0 = 45)
def frN (zs : List Int) : Nat := if fromB zs = true then 1 else 0
def okU (zs : List Int) (lb : Bool) (lm : Nat) (hb : Bool) (hm : Nat) (v : Nat) : Bool :=
  ((decS (fromB zs) v).map fun n => UInt8.ofNat n.toNat) == (zs.map fun n => UInt8.ofNat n.toNat) && (decide (0 ≤ scmp (sval (fromB zs) v) (sval lb lm)) && decide (scmp (sval (fromB zs) v) (sval hb hm) ≤ 0))
/-- Digits all through. -/
theorem unnum_dig {zs : List Int} (hz : Byts zs) (lb : Bool) (lm : Nat) (hb : Bool) (hm : Nat) (hlm : lm < B ^ 20) (hhm : hm < B ^ 20) (h0 : frN zs < zs.length) (hl : zs.length ≤ 60) (h : ∀ i, i < zs.length - frN zs → Dig (zs.getD (frN zs + i) 0)) :
    o4 11 [.string (txt zs), num lb lm, num hb hm] = some (.tuple #[num (fromB zs) (pv zs (frN zs) (zs.length - frN zs)), .bool (okU zs lb lm hb hm (pv zs (frN zs) (zs.length - frN zs)))]) := by
  have hv : pv zs (frN zs) (zs.length - frN zs) < B ^ 20 := by
    have h1 := pv_lt (zs := zs) (fr := frN zs) _ h
    have h2 := ten60 (j := zs.length - frN zs) (by omega)
    have h3 := big60
    exact pow19 (by omega)
  have hloop := fun {s0 : St} (hs : clU s0 = SU zs lb lm hb hm (frN zs) (frN zs) 0) => u_digits zs lb lm hb hm (frN zs) hz hl (by omega) h hs
  generalize pv zs (frN zs) (zs.length - frN zs) = v at *
  have hN := num_told (fromB zs) hv
  have hc1 := under3 (cmp_told (fromB zs) lb hv hlm)
  have hc2 := under3 (cmp_told (fromB zs) hb hv hhm)
  unfold okU
  by_cases hB : fromB zs = true
  · have hfr : frN zs = 1 := by unfold frN; rw [if_pos hB]
    have h45 : zs.getD 0 0 = 45 := (of_decide_eq_true hB).2
    rw [hfr] at hloop h0
    rw [hB] at hN hc1 hc2 ⊢
    cases hq : ((decS true v).map fun n => UInt8.ofNat n.toNat) == (zs.map fun n => UInt8.ofNat n.toNat) with
    | false => exact Dg.lay_told rfl (uqfB zs lb lm hb hm _ rfl (hz 0) h45 h0 hl _ v (fun s0 hs => hloop hs) _ hN hq) (flat3 _ _ _ _ _) (flatR true v _)
    | true =>
      rcases Int.lt_or_le (scmp (sval true v) (sval lb lm)) 0 with hc | hc
      · rw [decide_eq_false (by omega)]
        exact Dg.lay_told rfl (uqlB zs lb lm hb hm _ rfl (hz 0) h45 h0 hl _ v (fun s0 hs => hloop hs) _ hN hq _ hc1 hc) (flat3 _ _ _ _ _) (flatR true v _)
      · rw [decide_eq_true hc]
        exact Dg.lay_told rfl (uqtB zs lb lm hb hm _ rfl (hz 0) h45 h0 hl _ v (fun s0 hs => hloop hs) _ hN hq _ _ hc1 hc hc2 _ rfl) (flat3 _ _ _ _ _) (flatR true v _)
  · have hB' : fromB zs = false := by simpa using hB
    have hfr : frN zs = 0 := by unfold frN; rw [if_neg hB]
    rw [hfr] at hloop h0
    have h45 : zs.getD 0 0 ≠ 45 := fun e => hB (decide_eq_true ⟨h0, e⟩)
    rw [hB'] at hN hc1 hc2 ⊢
    cases hq : ((decS false v).map fun n => UInt8.ofNat n.toNat) == (zs.map fun n => UInt8.ofNat n.toNat) with
    | false => exact Dg.lay_told rfl (uqfA zs lb lm hb hm _ rfl (hz 0) h45 h0 hl _ v (fun s0 hs => hloop hs) _ hN hq) (flat3 _ _ _ _ _) (flatR false v _)
    | true =>
      rcases Int.lt_or_le (scmp (sval false v) (sval lb lm)) 0 with hc | hc
      · rw [decide_eq_false (by omega)]
        exact Dg.lay_told rfl (uqlA zs lb lm hb hm _ rfl (hz 0) h45 h0 hl _ v (fun s0 hs => hloop hs) _ hN hq _ hc1 hc) (flat3 _ _ _ _ _) (flatR false v _)
      · rw [decide_eq_true hc]
        exact Dg.lay_told rfl (uqtA zs lb lm hb hm _ rfl (hz 0) h45 h0 hl _ v (fun s0 hs => hloop hs) _ hN hq _ _ hc1 hc hc2 _ rfl) (flat3 _ _ _ _ _) (flatR false v _)
/-- All else. -/
theorem unnum_not {zs : List Int} (hz : Byts zs) (lb : Bool) (lm : Nat) (hb : Bool) (hm : Nat) (h : ¬ (frN zs < zs.length ∧ zs.length ≤ 60 ∧ ∀ i, i < zs.length - frN zs → Dig (zs.getD (frN zs + i) 0))) :
    ∃ w, o4 11 [.string (txt zs), num lb lm, num hb hm] = some (.tuple #[num false w, .bool false]) := by
  by_cases he : zs.length = 0
  · exact ⟨0, Dg.lay_told rfl (by have := unone zs lb lm hb hm he; exact this) (flat3 _ _ _ _ _) (flatR false 0 _)⟩
  by_cases hB : fromB zs = true
  · have hfr : frN zs = 1 := by unfold frN; rw [if_pos hB]
    have h45 : zs.getD 0 0 = 45 := (of_decide_eq_true hB).2
    rw [hfr] at h
    by_cases h1 : zs.length = 1
    · exact ⟨0, Dg.lay_told rfl (by have := udash zs lb lm hb hm _ rfl (hz 0) h45 h1; exact this) (flat3 _ _ _ _ _) (flatR false 0 _)⟩
    by_cases hl : zs.length ≤ 60
    · rcases first_not (p := fun i => Dig (zs.getD (1 + i) 0)) (zs.length - 1) with h2 | ⟨k, h2, h3, h4⟩
      · exact absurd ⟨by omega, hl, h2⟩ h
      · obtain ⟨rest, hr⟩ := u_bad zs lb lm hb hm 1 hz hl k (by omega) h3 h4
        exact ⟨_, Dg.lay_told rfl (uretB zs lb lm hb hm _ rfl (hz 0) h45 (by omega) hl _ _ rest hr) (flat3 _ _ _ _ _) (flatR false _ _)⟩
    · exact ⟨0, Dg.lay_told rfl (by have := ulongB zs lb lm hb hm _ rfl (hz 0) h45 (by omega); exact this) (flat3 _ _ _ _ _) (flatR false 0 _)⟩
  · have hfr : frN zs = 0 := by unfold frN; rw [if_neg hB]
    have h45 : zs.getD 0 0 ≠ 45 := fun e => hB (decide_eq_true ⟨by omega, e⟩)
    rw [hfr] at h
    by_cases hl : zs.length ≤ 60
    · rcases first_not (p := fun i => Dig (zs.getD (0 + i) 0)) (zs.length - 0) with h2 | ⟨k, h2, h3, h4⟩
      · exact absurd ⟨by omega, hl, h2⟩ h
      · obtain ⟨rest, hr⟩ := u_bad zs lb lm hb hm 0 hz hl k (by omega) h3 h4
        exact ⟨_, Dg.lay_told rfl (uretA zs lb lm hb hm _ rfl (hz 0) h45 (by omega) hl _ _ rest hr) (flat3 _ _ _ _ _) (flatR false _ _)⟩
    · exact ⟨0, Dg.lay_told rfl (by have := ulongA zs lb lm hb hm _ rfl (hz 0) h45 (by omega); exact this) (flat3 _ _ _ _ _) (flatR false 0 _)⟩
end Go.Proofs.YtflgpkkbifkpoaaGreatDoor.num

namespace Go.Proofs.YtflgpkkbifkpoaaGreatDoor.num
set_option linter.unusedVariables false

def bs (zs : List Int) : List UInt8 := zs.map fun n => UInt8.ofNat n.toNat
def ints (l : List UInt8) : List Int := l.map fun c => (c.toNat : Int)
theorem bs_ints (l : List UInt8) : bs (ints l) = l := by
  simp [bs, ints, List.map_map, Function.comp_def]
theorem bs_decZ (m : Nat) : bs (decZ m) = Lib.decDigits m := bs_ints _
theorem bs_decS (b : Bool) (m : Nat) : bs (decS b m) = Lib.itoa (sval b m) := by
  unfold decS
  cases b with
  | false =>
    rw [if_neg (by simp), bs_decZ]
    simp [sval, Lib.itoa]
  | true =>
    rcases Nat.eq_zero_or_pos m with h | h
    · subst h
      rw [if_neg (by omega), bs_decZ]
      simp [sval, Lib.itoa]
    · rw [if_pos ⟨rfl, h⟩]
      show UInt8.ofNat (45 : Int).toNat :: bs (decZ m) = _
      rw [bs_decZ]
      simp only [sval, Lib.itoa, if_true]
      rw [if_pos (by omega), Int.natAbs_neg, Int.natAbs_natCast]
      rfl
/-- What digits spell. -/
def stepB (a : Nat) (c : UInt8) : Nat := a * 10 + (c.toNat - 48)
def valB (acc : Nat) (l : List UInt8) : Nat := l.foldl stepB acc
theorem valB_nil (acc : Nat) : valB acc [] = acc := List.foldl_nil
theorem valB_cons (acc : Nat) (c : UInt8) (r : List UInt8) : valB acc (c :: r) = valB (stepB acc c) r := List.foldl_cons ..
def DigB (c : UInt8) : Prop := 48 ≤ c.toNat ∧ c.toNat ≤ 57
theorem valB_app (c : UInt8) (l : List UInt8) (acc : Nat) : valB acc (l ++ [c]) = stepB (valB acc l) c := by
  unfold valB
  rw [List.foldl_append, List.foldl_cons, List.foldl_nil]
theorem valB_le : ∀ (l : List UInt8) (acc : Nat), acc ≤ valB acc l := by
  intro l
  induction l with
  | nil => intro acc; rw [valB_nil]; exact Nat.le_refl _
  | cons d r ih =>
    intro acc
    rw [valB_cons]
    refine Nat.le_trans ?_ (ih _)
    unfold stepB
    omega
theorem dec_val (m : Nat) : valB 0 (Lib.decDigits m) = m ∧ (∀ c ∈ Lib.decDigits m, DigB c) ∧ Lib.decDigits m ≠ [] := by
  induction m using Nat.strongRecOn with
  | _ m ih =>
    rw [Lib.decDigits]
    split
    · rename_i h
      have e : (UInt8.ofNat (48 + m)).toNat = 48 + m := by rw [UInt8.toNat_ofNat']; omega
      refine ⟨by rw [valB_cons, valB_nil]; unfold stepB; rw [e]; omega, fun c hc => ?_, by simp⟩
      rw [List.mem_singleton] at hc
      subst hc
      unfold DigB
      omega
    · rename_i h
      obtain ⟨h1, h2, h3⟩ := ih (m / 10) (by omega)
      have e : (UInt8.ofNat (48 + m % 10)).toNat = 48 + m % 10 := by rw [UInt8.toNat_ofNat']; omega
      refine ⟨by rw [valB_app, h1]; unfold stepB; rw [e]; omega, fun c hc => ?_, by simp⟩
      rcases List.mem_append.1 hc with hc | hc
      · exact h2 c hc
      · rw [List.mem_singleton] at hc
        subst hc
        unfold DigB
        omega
theorem parseM {M : Nat} (hM : M = 18446744073709551615) : ∀ (l : List UInt8) (acc : Nat), (∀ c ∈ l, DigB c) → valB acc l ≤ M → Lib.parseUintM M acc l = .ok (valB acc l) := by
  intro l
  induction l with
  | nil => intro acc _ _; rw [valB_nil, Lib.parseUintM]
  | cons c r ih =>
    intro acc h hv
    have h1 := h c (List.mem_cons_self ..)
    unfold DigB at h1
    have h2 := valB_le r (stepB acc c)
    rw [valB_cons] at hv
    have h3 : stepB acc c = acc * 10 + (c.toNat - 48) := rfl
    rw [Lib.parseUintM, valB_cons, if_pos h1, if_neg (by omega), if_neg (by omega), ← h3]
    exact ih _ (fun d hd => h d (List.mem_cons_of_mem _ hd)) hv
theorem two64 : (2 : Nat) ^ 64 - 1 = 18446744073709551615 := by decide
theorem parseU_dec {u : Nat} (h : u ≤ 18446744073709551615) : Lib.parseUintB 64 (Lib.decDigits u) = .ok u := by
  obtain ⟨h1, h2, h3⟩ := dec_val u
  unfold Lib.parseUintB
  rw [if_neg h3, parseM two64 _ _ h2 (by rw [h1, two64]; exact h), h1]
theorem two63 : (2 : Nat) ^ (64 - 1) = 9223372036854775808 := by decide
theorem parseI_itoa {n : Int} (h0 : -9223372036854775808 ≤ n) (h1 : n ≤ 9223372036854775807) : Lib.parseIntB 64 (Lib.itoa n) = .ok n := by
  unfold Lib.itoa
  by_cases hn : n < 0
  · rw [if_pos hn]
    have e : Lib.parseUintB 64 (Lib.decDigits n.natAbs) = .ok n.natAbs := parseU_dec (by omega)
    simp only [Lib.parseIntB]
    rw [if_pos (.inr rfl), e]
    simp only [two63]
    rw [if_neg (by simp), if_neg (by simp; omega)]
    simp
    omega
  · rw [if_neg hn]
    obtain ⟨m, rfl⟩ : ∃ m : Nat, n = (m : Int) := ⟨n.toNat, by omega⟩
    rw [Int.toNat_natCast]
    obtain ⟨h2, h3, h4⟩ := dec_val m
    have e : Lib.parseUintB 64 (Lib.decDigits m) = .ok m := parseU_dec (by omega)
    cases hd : Lib.decDigits m with
    | nil => exact absurd hd h4
    | cons c r =>
      rw [hd] at h3 e
      have hc := h3 c (List.mem_cons_self ..)
      unfold DigB at hc
      simp only [Lib.parseIntB]
      rw [if_neg (by omega), e]
      simp only [two63]
      rw [if_neg (by omega), if_neg (by omega), if_neg (by omega)]
/-- The number of 64 bits that a text is; without a sign. -/
def undec (l : List UInt8) : Option Int := match Lib.parseIntB 64 l with
  | .ok v => if Lib.itoa v = l then some v else none
  | _ => none
def ununs (l : List UInt8) : Option Nat := match Lib.parseUintB 64 l with
  | .ok v => if Lib.decDigits v = l then some v else none
  | _ => none
theorem parseI_range {l : List UInt8} {v : Int} (h : Lib.parseIntB 64 l = .ok v) : -9223372036854775808 ≤ v ∧ v ≤ 9223372036854775807 := by
  cases l with
  | nil => cases h
  | cons c r =>
    simp only [Lib.parseIntB, two63] at h
    split at h
    · cases h
    · cases h
    · split at h
      · cases h
      · split at h
        · cases h
        · cases h
          rename_i h1 h2
          by_cases hc : c.toNat = 45
          · rw [if_pos hc]; simp [hc] at h2; omega
          · rw [if_neg hc]; simp [hc] at h1; omega
theorem parseM_le {M : Nat} : ∀ (l : List UInt8) (acc v : Nat), acc ≤ M → Lib.parseUintM M acc l = .ok v → v ≤ M
  | [], acc, v, h0, h => by simp only [Lib.parseUintM] at h; cases h; exact h0
  | c :: r, acc, v, h0, h => by
    simp only [Lib.parseUintM] at h
    split at h
    · split at h
      · cases h
      · split at h
        · cases h
        · rename_i h1
          exact parseM_le r _ v (by omega) h
    · cases h
theorem undec_some {l : List UInt8} {v : Int} : undec l = some v ↔ (-9223372036854775808 ≤ v ∧ v ≤ 9223372036854775807 ∧ Lib.itoa v = l) := by
  unfold undec
  constructor
  · intro h
    split at h
    · rename_i u hu
      split at h
      · cases h; exact ⟨(parseI_range hu).1, (parseI_range hu).2, by assumption⟩
      · cases h
    · cases h
  · rintro ⟨h0, h1, h2⟩
    rw [← h2, parseI_itoa h0 h1]
    simp
theorem ununs_some {l : List UInt8} {v : Nat} : ununs l = some v ↔ (v ≤ 18446744073709551615 ∧ Lib.decDigits v = l) := by
  unfold ununs
  constructor
  · intro h
    split at h
    · rename_i u hu
      split at h
      · cases h
        rename_i h2
        refine ⟨?_, h2⟩
        unfold Lib.parseUintB at hu
        split at hu
        · cases hu
        · have := parseM_le _ _ _ (by omega) hu
          rw [two64] at this
          exact this
      · cases h
    · cases h
  · rintro ⟨h1, h2⟩
    rw [← h2, parseU_dec h1]
    simp
theorem dec_inj {m n : Nat} (h : Lib.decDigits m = Lib.decDigits n) : m = n := by
  rw [← (dec_val m).1, h, (dec_val n).1]
theorem itoa_inj {m n : Int} (h : Lib.itoa m = Lib.itoa n) : m = n := by
  have hd : ∀ k : Nat, ∀ r, Lib.decDigits k ≠ 45 :: r := fun k r e => by
    have := (dec_val k).2.1 45 (by rw [e]; exact List.mem_cons_self ..)
    revert this
    unfold DigB
    decide
  unfold Lib.itoa at h
  split at h <;> split at h
  · have := dec_inj (List.cons.inj h).2
    omega
  · exact absurd h.symm (hd _ _)
  · exact absurd h (hd _ _)
  · have := dec_inj h
    omega
end Go.Proofs.YtflgpkkbifkpoaaGreatDoor.num

namespace Go.Proofs.YtflgpkkbifkpoaaGreatDoor.num
set_option linter.unusedVariables false

theorem ints_len (l : List UInt8) : (ints l).length = l.length := by simp [ints]
theorem ints_get {l : List UInt8} {i : Nat} (h : i < l.length) : (ints l).getD i 0 = ((l[i]).toNat : Int) := by
  simp [ints, List.getD_eq_getElem?_getD, h]
theorem ints_byts (l : List UInt8) : Byts (ints l) := fun j => by
  by_cases h : j < l.length
  · rw [ints_get h]
    have := (l[j]).toNat_lt
    omega
  · rw [List.getD_eq_getElem?_getD, List.getElem?_eq_none (by rw [ints_len]; omega)]
    simp
theorem pv_ints (l : List UInt8) (fr : Nat) : ∀ j, fr + j ≤ l.length → pv (ints l) fr j = valB 0 ((l.drop fr).take j) := by
  intro j
  induction j with
  | zero => intro _; rw [List.take_zero, valB_nil, pv]
  | succ j ih =>
    intro h
    have hj : j < (l.drop fr).length := by rw [List.length_drop]; omega
    rw [pv, ih (by omega), List.take_succ_eq_append_getElem hj, valB_app, ints_get (by omega), List.getElem_drop]
    unfold stepB
    have := (l[fr + j]).toNat_lt
    omega
theorem scmp_lo {x y : Int} : 0 ≤ scmp x y ↔ y ≤ x := by
  unfold scmp
  constructor
  · intro h
    split at h
    · omega
    · omega
  · intro h
    rw [if_neg (by omega)]
    split <;> omega
theorem scmp_hi {x y : Int} : scmp x y ≤ 0 ↔ x ≤ y := by
  unfold scmp
  constructor
  · intro h
    split at h
    · omega
    · split at h <;> omega
  · intro h
    split
    · omega
    · rw [if_neg (by omega)]; omega
/-- What okU asks. -/
theorem okU_is (l : List UInt8) (lb : Bool) (lm : Nat) (hb : Bool) (hm v : Nat) : okU (ints l) lb lm hb hm v = true ↔ (Lib.itoa (sval (fromB (ints l)) v) = l ∧ sval lb lm ≤ sval (fromB (ints l)) v ∧ sval (fromB (ints l)) v ≤ sval hb hm) := by
  have e1 : ((decS (fromB (ints l)) v).map fun n => UInt8.ofNat n.toNat) = Lib.itoa (sval (fromB (ints l)) v) := bs_decS _ _
  have e2 : ((ints l).map fun n => UInt8.ofNat n.toNat) = l := bs_ints l
  unfold okU
  rw [e1, e2]
  simp only [Bool.and_eq_true, beq_iff_eq, decide_eq_true_eq, scmp_lo, scmp_hi]
theorem sval_int (n : Int) : sval (decide (n < 0)) n.natAbs = n := by
  unfold sval
  by_cases h : n < 0
  · rw [decide_eq_true h, if_pos rfl]; omega
  · rw [decide_eq_false h, if_neg (by decide)]; omega
/-- What a number's own text is, sign by sign. -/
theorem own_text {n : Int} (hn : n.natAbs < 10 ^ 50) : fromB (ints (Lib.itoa n)) = decide (n < 0) ∧ frN (ints (Lib.itoa n)) < (ints (Lib.itoa n)).length ∧ (ints (Lib.itoa n)).length ≤ 60 ∧
    (∀ i, i < (ints (Lib.itoa n)).length - frN (ints (Lib.itoa n)) → Dig ((ints (Lib.itoa n)).getD (frN (ints (Lib.itoa n)) + i) 0)) ∧ pv (ints (Lib.itoa n)) (frN (ints (Lib.itoa n))) ((ints (Lib.itoa n)).length - frN (ints (Lib.itoa n))) = n.natAbs := by
  have hd := nDigits_le (m := n.natAbs) (k := 49) hn
  have hp := Lib.nDigits_pos n.natAbs
  have hlen : (Lib.decDigits n.natAbs).length = Lib.nDigits n.natAbs := Lib.decDigits_length _
  obtain ⟨v1, v2, v3⟩ := dec_val n.natAbs
  by_cases h : n < 0
  · have hl : Lib.itoa n = 45 :: Lib.decDigits n.natAbs := by unfold Lib.itoa; rw [if_pos h]
    have hf : fromB (ints (Lib.itoa n)) = true := by
      unfold fromB
      rw [hl, decide_eq_true_eq]
      exact ⟨by rw [ints_len]; simp, rfl⟩
    have hfr : frN (ints (Lib.itoa n)) = 1 := by unfold frN; rw [if_pos hf]
    have hL : (ints (Lib.itoa n)).length = Lib.nDigits n.natAbs + 1 := by rw [ints_len, hl, List.length_cons, hlen]
    refine ⟨by rw [hf, decide_eq_true h], by omega, by omega, fun i hi => ?_, ?_⟩
    · rw [hfr, ints_get (by rw [← ints_len]; omega)]
      have hm : (Lib.itoa n)[1 + i]'(by rw [← ints_len]; omega) ∈ Lib.decDigits n.natAbs := by
        have hi2 : i < (Lib.decDigits n.natAbs).length := by omega
        have : (Lib.itoa n)[1 + i]'(by rw [← ints_len]; omega) = (Lib.decDigits n.natAbs)[i] := by
          simp only [hl, Nat.add_comm 1 i, List.getElem_cons_succ]
        rw [this]
        exact List.getElem_mem hi2
      have := v2 _ hm
      unfold DigB at this
      unfold Dig
      omega
    · rw [hfr, hL, pv_ints _ _ _ (by rw [hl, List.length_cons, hlen]; omega), hl, List.drop_one, List.tail_cons, List.take_of_length_le (by omega), v1]
  · have hl : Lib.itoa n = Lib.decDigits n.natAbs := by
      unfold Lib.itoa
      rw [if_neg h]
      congr 1
      omega
    have h0 : 0 < (Lib.itoa n).length := by rw [hl, hlen]; omega
    have hmem : ∀ c ∈ Lib.itoa n, DigB c := fun c hc => v2 c (by rw [← hl]; exact hc)
    have hg : ∀ i (hi : i < (Lib.itoa n).length), DigB ((Lib.itoa n)[i]) := fun i hi => hmem _ (List.getElem_mem hi)
    have hf : fromB (ints (Lib.itoa n)) = false := by
      unfold fromB
      rw [decide_eq_false_iff_not]
      rintro ⟨_, he⟩
      rw [ints_get h0] at he
      have := hg 0 h0
      unfold DigB at this
      omega
    have hfr : frN (ints (Lib.itoa n)) = 0 := by unfold frN; rw [hf]; rfl
    have hL : (ints (Lib.itoa n)).length = Lib.nDigits n.natAbs := by rw [ints_len, hl, hlen]
    refine ⟨by rw [hf, decide_eq_false h], by omega, by omega, fun i hi => ?_, ?_⟩
    · rw [hfr, Nat.zero_add, ints_get (by rw [← ints_len]; omega)]
      have := hg i (by rw [← ints_len]; omega)
      unfold DigB at this
      unfold Dig
      omega
    · rw [hfr, hL, pv_ints _ _ _ (by rw [hl, hlen]; omega), hl, List.drop_zero, Nat.sub_zero, List.take_of_length_le (by omega), v1]
/-- A text that is a number's own. -/
theorem unnum_yes {n : Int} (hn : n.natAbs < 10 ^ 50) {lb : Bool} {lm : Nat} {hb : Bool} {hm : Nat} (hlm : lm < B ^ 20) (hhm : hm < B ^ 20) (h1 : sval lb lm ≤ n) (h2 : n ≤ sval hb hm) :
    o4 11 [.string (txt (ints (Lib.itoa n))), num lb lm, num hb hm] = some (.tuple #[num (decide (n < 0)) n.natAbs, .bool true]) := by
  obtain ⟨a1, a2, a3, a4, a5⟩ := own_text hn
  have h := unnum_dig (ints_byts (Lib.itoa n)) lb lm hb hm hlm hhm a2 a3 a4
  rw [a5] at h
  have hok : okU (ints (Lib.itoa n)) lb lm hb hm n.natAbs = true := by
    rw [okU_is, a1, sval_int]
    exact ⟨rfl, h1, h2⟩
  rw [hok, a1] at h
  exact h
/-- All texts. -/
theorem unnum_all (l : List UInt8) {lb : Bool} {lm : Nat} {hb : Bool} {hm : Nat} (hlm : lm < B ^ 20) (hhm : hm < B ^ 20) (hr : ∀ n, sval lb lm ≤ n → n ≤ sval hb hm → n.natAbs < 10 ^ 50) :
    (∃ n, sval lb lm ≤ n ∧ n ≤ sval hb hm ∧ Lib.itoa n = l ∧ o4 11 [.string (txt (ints l)), num lb lm, num hb hm] = some (.tuple #[num (decide (n < 0)) n.natAbs, .bool true])) ∨
    ((∀ n, sval lb lm ≤ n → n ≤ sval hb hm → Lib.itoa n ≠ l) ∧ ∃ b w, o4 11 [.string (txt (ints l)), num lb lm, num hb hm] = some (.tuple #[num b w, .bool false])) := by
  by_cases hx : ∃ n, sval lb lm ≤ n ∧ n ≤ sval hb hm ∧ Lib.itoa n = l
  · obtain ⟨n, h1, h2, h3⟩ := hx
    subst h3
    exact .inl ⟨n, h1, h2, rfl, unnum_yes (hr n h1 h2) hlm hhm h1 h2⟩
  · refine .inr ⟨fun n h1 h2 h3 => hx ⟨n, h1, h2, h3⟩, ?_⟩
    by_cases hd : frN (ints l) < (ints l).length ∧ (ints l).length ≤ 60 ∧ ∀ i, i < (ints l).length - frN (ints l) → Dig ((ints l).getD (frN (ints l) + i) 0)
    · have h := unnum_dig (ints_byts l) lb lm hb hm hlm hhm hd.1 hd.2.1 hd.2.2
      generalize pv (ints l) (frN (ints l)) ((ints l).length - frN (ints l)) = v at h
      cases hok : okU (ints l) lb lm hb hm v with
      | false => rw [hok] at h; exact ⟨_, _, h⟩
      | true =>
        obtain ⟨k1, k2, k3⟩ := (okU_is l lb lm hb hm v).1 hok
        exact absurd ⟨_, k2, k3, k1⟩ hx
    · obtain ⟨w, h⟩ := unnum_not (ints_byts l) lb lm hb hm hd
      exact ⟨false, w, h⟩
end Go.Proofs.YtflgpkkbifkpoaaGreatDoor.num
