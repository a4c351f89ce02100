/- text.DecWide, by one step of its recursion; text.Dec and text.Unsigned as laws. text.DecWide tells a wide number's decimal text. The signs of a text of bytes, as they are gone over; texts that are not the same. -/
import Derived.Test.YtflgpkkbifkpoaaGreatDoorRows
import Derived.Test.YtflgpkkbifkpoaaGreatDoorTextBase
import Derived.Test.YtflgpkkbifkpoaaGreatDoorWideBb
import Derived.Test.YtflgpkkbifkpoaaGreatDoorNumK
import Derived.Laws.RangeString
namespace Go.Proofs.YtflgpkkbifkpoaaGreatDoor.num
open Go.Dg (junk St Ex Ev Hint evCall evCallS evCode evCodeK innerKp evCodeS evLoop cleanSt ue bodied noOver sbOf headOf tailOf bodyOf rAssign rBody lBody Flats flatOver Heap AObj SCall Law ofLaw Fix lay noO)
open Go.Proofs.YtflgpkkbifkpoaaGreatDoor.text (ui pow10L)
set_option linter.unusedVariables false
set_option linter.unusedSimpArgs false

def L4W : List FuncId := [26]
noncomputable def p4 : FuncId → List Value → Option Value := lay Tryz.prog (bodied Tryz.prog) noOver sbs 1000 20 L4W p3
theorem p4_flats : ∀ f args v, p4 f args = some v → Flats Tryz.prog f args v := Dg.lay_flats mixed okB Dg.noOver_ok (by kernel_rfl) p3_flats
theorem up4 {f : FuncId} {args : List Value} {v : Value} (h : p3 f args = some v) (hf : L4W.contains f = false := by rfl) : p4 f args = some v := Dg.lay_under hf h
theorem rep_w : ∀ k, k < 18 → p4 26 [.string ⟨#[48]⟩, .int .i64 ((k : Nat) : Int)] = some (.string ⟨(List.replicate k 48).toArray⟩)
  | 0, _ => by kernel_rfl
  | 1, _ => by kernel_rfl
  | 2, _ => by kernel_rfl
  | 3, _ => by kernel_rfl
  | 4, _ => by kernel_rfl
  | 5, _ => by kernel_rfl
  | 6, _ => by kernel_rfl
  | 7, _ => by kernel_rfl
  | 8, _ => by kernel_rfl
  | 9, _ => by kernel_rfl
  | 10, _ => by kernel_rfl
  | 11, _ => by kernel_rfl
  | 12, _ => by kernel_rfl
  | 13, _ => by kernel_rfl
  | 14, _ => by kernel_rfl
  | 15, _ => by kernel_rfl
  | 16, _ => by kernel_rfl
  | 17, _ => by kernel_rfl
  | k + 18, h => by omega
/-- The table of powers of ten lies where its variable is. -/
def TabOk (H : Heap) : Prop := ∃ e, H.get 5 = .cells (ui .u64 pow10L) e 6 1
def CDec : Law := fun args H r => ∃ n : Int, args = [.int .i64 n] ∧ -9223372036854775808 ≤ n ∧ n ≤ 9223372036854775807 ∧ TabOk H ∧ r = (.string ⟨(Lib.itoa n).toArray⟩, H, [])
def CUns : Law := fun args H r => ∃ n : Nat, args = [.int .u64 (n : Int)] ∧ n < 18446744073709551616 ∧ TabOk H ∧ r = (.string ⟨(Lib.decDigits n).toArray⟩, H, [])
theorem CDec_uniq : ∀ args H r r', CDec args H r → CDec args H r' → r = r' := by
  rintro args H r r' ⟨n, h, _, _, _, rfl⟩ ⟨m, h', _, _, _, rfl⟩
  rw [h] at h'
  injection h' with h1
  injection h1 with h2 h3
  rw [h3]
theorem CUns_uniq : ∀ args H r r', CUns args H r → CUns args H r' → r = r' := by
  rintro args H r r' ⟨n, h, _, _, rfl⟩ ⟨m, h', _, _, rfl⟩
  rw [h] at h'
  injection h' with h1
  injection h1 with h2 h3
  rw [Int.ofNat.inj h3]
noncomputable def ovD : Ev := fun f args H => match f with
  | 14 => ofLaw CDec args H
  | 16 => ofLaw CUns args H
  | f => flatOver p4 f args H
/-- The table, by its name. -/
def kpPow : List Value := ui .u64 pow10L
/-- A wide number's object. -/
def oW (h l : Int) : AObj := .cells [.int .i64 h, .int .u64 l] 24 0 1
def Hx (e : TypeId) (r : List AObj) : Heap := ⟨10 + r.length, r ++ [.dead, .dead, .dead, .dead, .cells kpPow e 6 1, .dead, .dead, .dead, .dead, .dead]⟩
theorem told {f : FuncId} {args : List Value} {v : Value} {H : Heap} {o : FuncId → List Value → Option Value} (h : o f args = some v) : flatOver o f args H = some (v, H, []) := by
  show (o f args).map _ = _
  rw [h]
  rfl
section
variable {G : Nat} {ok : List Bool} {sb : List Nat} {lf m : Nat} {H : Heap} {args : List Value} {v : Value}
theorem dDiv (h : p4 23 args = some v) : evCall Tryz.prog G ok ovD sb lf (m + 1) 23 args H = some (v, H, []) := Dg.evCall_over (show flatOver p4 23 args H = _ from told h)
theorem dAdd (h : p4 24 args = some v) : evCall Tryz.prog G ok ovD sb lf (m + 1) 24 args H = some (v, H, []) := Dg.evCall_over (show flatOver p4 24 args H = _ from told h)
theorem dOf (h : p4 25 args = some v) : evCall Tryz.prog G ok ovD sb lf (m + 1) 25 args H = some (v, H, []) := Dg.evCall_over (show flatOver p4 25 args H = _ from told h)
theorem dRep (h : p4 26 args = some v) : evCall Tryz.prog G ok ovD sb lf (m + 1) 26 args H = some (v, H, []) := Dg.evCall_over (show flatOver p4 26 args H = _ from told h)
theorem dDec {n : Int} {s : ByteArray} (h0 : -9223372036854775808 ≤ n ∧ n ≤ 9223372036854775807) (hs : s = ⟨(Lib.itoa n).toArray⟩) (ht : ∃ e, H.get 5 = .cells kpPow e 6 1) : evCall Tryz.prog G ok ovD sb lf (m + 1) 14 [.int .i64 n] H = some (.string s, H, []) :=
  Dg.evCall_over (Dg.ofLaw_is CDec_uniq ⟨n, rfl, h0.1, h0.2, ht, by rw [hs]⟩)
theorem dUns {n : Nat} {s : ByteArray} (h0 : n < 18446744073709551616) (hs : s = ⟨(Lib.decDigits n).toArray⟩) (ht : ∃ e, H.get 5 = .cells kpPow e 6 1) : evCall Tryz.prog G ok ovD sb lf (m + 1) 16 [.int .u64 (n : Int)] H = some (.string s, H, []) :=
  Dg.evCall_over (Dg.ofLaw_is CUns_uniq ⟨n, rfl, h0, ht, by rw [hs]⟩)
end
--< dw_u20
theorem dw_u20 (e : TypeId) (l : Nat) (s : ByteArray) (hl : l < 18446744073709551616) (hs : s = { data := List.toArray (Lib.decDigits l) }) :
    evCall Tryz.prog 10 (bodied Tryz.prog) ovD sbs 1000 20 6 [wd 0 (↑l : Int)] (Hx e []) = some (Value.string s, { n := 10, objs := [AObj.dead, AObj.dead, AObj.dead, AObj.dead, AObj.cells kpPow e 6 1, AObj.dead, AObj.dead, AObj.dead, AObj.dead, AObj.dead] }, []) :=
  Dg.evCall_hint (hs' := []) (hs := [Hint.call 16 (Value.string s) { n := 11, objs := [AObj.cells [Value.int IntKind.i64 0, Value.int IntKind.u64 (↑l : Int)] 24 0 1, AObj.dead, AObj.dead, AObj.dead, AObj.dead, AObj.cells kpPow e 6 1, AObj.dead, AObj.dead, AObj.dead, AObj.dead, AObj.dead] } []])
    [evCall Tryz.prog 10 (bodied Tryz.prog) ovD sbs 1000 19 16 [Value.int IntKind.u64 (↑l : Int)] { n := 11, objs := [AObj.cells [Value.int IntKind.i64 0, Value.int IntKind.u64 (↑l : Int)] 24 0 1, AObj.dead, AObj.dead, AObj.dead, AObj.dead, AObj.cells kpPow e 6 1, AObj.dead, AObj.dead, AObj.dead, AObj.dead, AObj.dead] } = some (Value.string s, { n := 11, objs := [AObj.cells [Value.int IntKind.i64 0, Value.int IntKind.u64 (↑l : Int)] 24 0 1, AObj.dead, AObj.dead, AObj.dead, AObj.dead, AObj.cells kpPow e 6 1, AObj.dead, AObj.dead, AObj.dead, AObj.dead, AObj.dead] }, [])] (by kernel_rfl)
    ⟨dUns hl hs ⟨_, rfl⟩, trivial⟩
--> dw_u20
--< dw_i20
theorem dw_i20 (e : TypeId) (l : Int) (x : Int) (s : ByteArray) (hl : 9223372036854775808 ≤ l ∧ l < 18446744073709551616) (hx : l - 18446744073709551616 = x) (hs : s = { data := List.toArray (Lib.itoa x) }) :
    evCall Tryz.prog 10 (bodied Tryz.prog) ovD sbs 1000 20 6 [wd (-1) l] (Hx e []) = some (Value.string s, { n := 10, objs := [AObj.dead, AObj.dead, AObj.dead, AObj.dead, AObj.cells kpPow e 6 1, AObj.dead, AObj.dead, AObj.dead, AObj.dead, AObj.dead] }, []) :=
  Dg.evCall_hint (hs' := []) (hs := [Hint.val 6 22 (Value.bool true),
    Hint.val 6 33 (Value.int IntKind.i64 x),
    Hint.call 14 (Value.string s) { n := 11, objs := [AObj.cells [Value.int IntKind.i64 (-1), Value.int IntKind.u64 l] 24 0 1, AObj.dead, AObj.dead, AObj.dead, AObj.dead, AObj.cells kpPow e 6 1, AObj.dead, AObj.dead, AObj.dead, AObj.dead, AObj.dead] } []])
    [Value.bool (decide (l ≥ (9223372036854775808 : Int))) = Value.bool true,
    Value.int IntKind.i64 (IntKind.wrap IntKind.i64 l) = Value.int IntKind.i64 x,
    evCall Tryz.prog 10 (bodied Tryz.prog) ovD sbs 1000 19 14 [Value.int IntKind.i64 x] { n := 11, objs := [AObj.cells [Value.int IntKind.i64 (-1), Value.int IntKind.u64 l] 24 0 1, AObj.dead, AObj.dead, AObj.dead, AObj.dead, AObj.cells kpPow e 6 1, AObj.dead, AObj.dead, AObj.dead, AObj.dead, AObj.dead] } = some (Value.string s, { n := 11, objs := [AObj.cells [Value.int IntKind.i64 (-1), Value.int IntKind.u64 l] 24 0 1, AObj.dead, AObj.dead, AObj.dead, AObj.dead, AObj.cells kpPow e 6 1, AObj.dead, AObj.dead, AObj.dead, AObj.dead, AObj.dead] }, [])] (by kernel_rfl)
    ⟨Dg.vtrue (by omega), wi (by omega), dDec (by omega) hs ⟨_, rfl⟩, trivial⟩
--> dw_i20
--< dw_u19
theorem dw_u19 (e : TypeId) (a1 : Int) (a2 : Int) (b1 : Int) (b2 : Int) (l : Nat) (s : ByteArray) (hl : l < 18446744073709551616) (hs : s = { data := List.toArray (Lib.decDigits l) }) :
    evCall Tryz.prog 10 (bodied Tryz.prog) ovD sbs 1000 19 6 [wd 0 (↑l : Int)] (Hx e [oW a1 a2, oW b1 b2]) = some (Value.string s, { n := 12, objs := [AObj.cells [Value.int IntKind.i64 a1, Value.int IntKind.u64 a2] 24 0 1, AObj.cells [Value.int IntKind.i64 b1, Value.int IntKind.u64 b2] 24 0 1, AObj.dead, AObj.dead, AObj.dead, AObj.dead, AObj.cells kpPow e 6 1, AObj.dead, AObj.dead, AObj.dead, AObj.dead, AObj.dead] }, []) :=
  Dg.evCall_hint (hs' := []) (hs := [Hint.call 16 (Value.string s) { n := 13, objs := [AObj.cells [Value.int IntKind.i64 0, Value.int IntKind.u64 (↑l : Int)] 24 0 1, AObj.cells [Value.int IntKind.i64 a1, Value.int IntKind.u64 a2] 24 0 1, AObj.cells [Value.int IntKind.i64 b1, Value.int IntKind.u64 b2] 24 0 1, AObj.dead, AObj.dead, AObj.dead, AObj.dead, AObj.cells kpPow e 6 1, AObj.dead, AObj.dead, AObj.dead, AObj.dead, AObj.dead] } []])
    [evCall Tryz.prog 10 (bodied Tryz.prog) ovD sbs 1000 18 16 [Value.int IntKind.u64 (↑l : Int)] { n := 13, objs := [AObj.cells [Value.int IntKind.i64 0, Value.int IntKind.u64 (↑l : Int)] 24 0 1, AObj.cells [Value.int IntKind.i64 a1, Value.int IntKind.u64 a2] 24 0 1, AObj.cells [Value.int IntKind.i64 b1, Value.int IntKind.u64 b2] 24 0 1, AObj.dead, AObj.dead, AObj.dead, AObj.dead, AObj.cells kpPow e 6 1, AObj.dead, AObj.dead, AObj.dead, AObj.dead, AObj.dead] } = some (Value.string s, { n := 13, objs := [AObj.cells [Value.int IntKind.i64 0, Value.int IntKind.u64 (↑l : Int)] 24 0 1, AObj.cells [Value.int IntKind.i64 a1, Value.int IntKind.u64 a2] 24 0 1, AObj.cells [Value.int IntKind.i64 b1, Value.int IntKind.u64 b2] 24 0 1, AObj.dead, AObj.dead, AObj.dead, AObj.dead, AObj.cells kpPow e 6 1, AObj.dead, AObj.dead, AObj.dead, AObj.dead, AObj.dead] }, [])] (by kernel_rfl)
    ⟨dUns hl hs ⟨_, rfl⟩, trivial⟩
--> dw_u19
--< dw_i19
theorem dw_i19 (e : TypeId) (a1 : Int) (a2 : Int) (b1 : Int) (b2 : Int) (l : Int) (x : Int) (s : ByteArray) (hl : 9223372036854775808 ≤ l ∧ l < 18446744073709551616) (hx : l - 18446744073709551616 = x) (hs : s = { data := List.toArray (Lib.itoa x) }) :
    evCall Tryz.prog 10 (bodied Tryz.prog) ovD sbs 1000 19 6 [wd (-1) l] (Hx e [oW a1 a2, oW b1 b2]) = some (Value.string s, { n := 12, objs := [AObj.cells [Value.int IntKind.i64 a1, Value.int IntKind.u64 a2] 24 0 1, AObj.cells [Value.int IntKind.i64 b1, Value.int IntKind.u64 b2] 24 0 1, AObj.dead, AObj.dead, AObj.dead, AObj.dead, AObj.cells kpPow e 6 1, AObj.dead, AObj.dead, AObj.dead, AObj.dead, AObj.dead] }, []) :=
  Dg.evCall_hint (hs' := []) (hs := [Hint.val 6 22 (Value.bool true),
    Hint.val 6 33 (Value.int IntKind.i64 x),
    Hint.call 14 (Value.string s) { n := 13, objs := [AObj.cells [Value.int IntKind.i64 (-1), Value.int IntKind.u64 l] 24 0 1, AObj.cells [Value.int IntKind.i64 a1, Value.int IntKind.u64 a2] 24 0 1, AObj.cells [Value.int IntKind.i64 b1, Value.int IntKind.u64 b2] 24 0 1, AObj.dead, AObj.dead, AObj.dead, AObj.dead, AObj.cells kpPow e 6 1, AObj.dead, AObj.dead, AObj.dead, AObj.dead, AObj.dead] } []])
    [Value.bool (decide (l ≥ (9223372036854775808 : Int))) = Value.bool true,
    Value.int IntKind.i64 (IntKind.wrap IntKind.i64 l) = Value.int IntKind.i64 x,
    evCall Tryz.prog 10 (bodied Tryz.prog) ovD sbs 1000 18 14 [Value.int IntKind.i64 x] { n := 13, objs := [AObj.cells [Value.int IntKind.i64 (-1), Value.int IntKind.u64 l] 24 0 1, AObj.cells [Value.int IntKind.i64 a1, Value.int IntKind.u64 a2] 24 0 1, AObj.cells [Value.int IntKind.i64 b1, Value.int IntKind.u64 b2] 24 0 1, AObj.dead, AObj.dead, AObj.dead, AObj.dead, AObj.cells kpPow e 6 1, AObj.dead, AObj.dead, AObj.dead, AObj.dead, AObj.dead] } = some (Value.string s, { n := 13, objs := [AObj.cells [Value.int IntKind.i64 (-1), Value.int IntKind.u64 l] 24 0 1, AObj.cells [Value.int IntKind.i64 a1, Value.int IntKind.u64 a2] 24 0 1, AObj.cells [Value.int IntKind.i64 b1, Value.int IntKind.u64 b2] 24 0 1, AObj.dead, AObj.dead, AObj.dead, AObj.dead, AObj.cells kpPow e 6 1, AObj.dead, AObj.dead, AObj.dead, AObj.dead, AObj.dead] }, [])] (by kernel_rfl)
    ⟨Dg.vtrue (by omega), wi (by omega), dDec (by omega) hs ⟨_, rfl⟩, trivial⟩
--> dw_i19
--< dw_u18
theorem dw_u18 (e : TypeId) (a1 : Int) (a2 : Int) (b1 : Int) (b2 : Int) (g1 : Int) (g2 : Int) (d1 : Int) (d2 : Int) (l : Nat) (s : ByteArray) (hl : l < 18446744073709551616) (hs : s = { data := List.toArray (Lib.decDigits l) }) :
    evCall Tryz.prog 10 (bodied Tryz.prog) ovD sbs 1000 18 6 [wd 0 (↑l : Int)] (Hx e [oW a1 a2, oW b1 b2, oW g1 g2, oW d1 d2]) = some (Value.string s, { n := 14, objs := [AObj.cells [Value.int IntKind.i64 a1, Value.int IntKind.u64 a2] 24 0 1, AObj.cells [Value.int IntKind.i64 b1, Value.int IntKind.u64 b2] 24 0 1, AObj.cells [Value.int IntKind.i64 g1, Value.int IntKind.u64 g2] 24 0 1, AObj.cells [Value.int IntKind.i64 d1, Value.int IntKind.u64 d2] 24 0 1, AObj.dead, AObj.dead, AObj.dead, AObj.dead, AObj.cells kpPow e 6 1, AObj.dead, AObj.dead, AObj.dead, AObj.dead, AObj.dead] }, []) :=
  Dg.evCall_hint (hs' := []) (hs := [Hint.call 16 (Value.string s) { n := 15, objs := [AObj.cells [Value.int IntKind.i64 0, Value.int IntKind.u64 (↑l : Int)] 24 0 1, AObj.cells [Value.int IntKind.i64 a1, Value.int IntKind.u64 a2] 24 0 1, AObj.cells [Value.int IntKind.i64 b1, Value.int IntKind.u64 b2] 24 0 1, AObj.cells [Value.int IntKind.i64 g1, Value.int IntKind.u64 g2] 24 0 1, AObj.cells [Value.int IntKind.i64 d1, Value.int IntKind.u64 d2] 24 0 1, AObj.dead, AObj.dead, AObj.dead, AObj.dead, AObj.cells kpPow e 6 1, AObj.dead, AObj.dead, AObj.dead, AObj.dead, AObj.dead] } []])
    [evCall Tryz.prog 10 (bodied Tryz.prog) ovD sbs 1000 17 16 [Value.int IntKind.u64 (↑l : Int)] { n := 15, objs := [AObj.cells [Value.int IntKind.i64 0, Value.int IntKind.u64 (↑l : Int)] 24 0 1, AObj.cells [Value.int IntKind.i64 a1, Value.int IntKind.u64 a2] 24 0 1, AObj.cells [Value.int IntKind.i64 b1, Value.int IntKind.u64 b2] 24 0 1, AObj.cells [Value.int IntKind.i64 g1, Value.int IntKind.u64 g2] 24 0 1, AObj.cells [Value.int IntKind.i64 d1, Value.int IntKind.u64 d2] 24 0 1, AObj.dead, AObj.dead, AObj.dead, AObj.dead, AObj.cells kpPow e 6 1, AObj.dead, AObj.dead, AObj.dead, AObj.dead, AObj.dead] } = some (Value.string s, { n := 15, objs := [AObj.cells [Value.int IntKind.i64 0, Value.int IntKind.u64 (↑l : Int)] 24 0 1, AObj.cells [Value.int IntKind.i64 a1, Value.int IntKind.u64 a2] 24 0 1, AObj.cells [Value.int IntKind.i64 b1, Value.int IntKind.u64 b2] 24 0 1, AObj.cells [Value.int IntKind.i64 g1, Value.int IntKind.u64 g2] 24 0 1, AObj.cells [Value.int IntKind.i64 d1, Value.int IntKind.u64 d2] 24 0 1, AObj.dead, AObj.dead, AObj.dead, AObj.dead, AObj.cells kpPow e 6 1, AObj.dead, AObj.dead, AObj.dead, AObj.dead, AObj.dead] }, [])] (by kernel_rfl)
    ⟨dUns hl hs ⟨_, rfl⟩, trivial⟩
--> dw_u18
--< dw_i18
theorem dw_i18 (e : TypeId) (a1 : Int) (a2 : Int) (b1 : Int) (b2 : Int) (g1 : Int) (g2 : Int) (d1 : Int) (d2 : Int) (l : Int) (x : Int) (s : ByteArray) (hl : 9223372036854775808 ≤ l ∧ l < 18446744073709551616) (hx : l - 18446744073709551616 = x) (hs : s = { data := List.toArray (Lib.itoa x) }) :
    evCall Tryz.prog 10 (bodied Tryz.prog) ovD sbs 1000 18 6 [wd (-1) l] (Hx e [oW a1 a2, oW b1 b2, oW g1 g2, oW d1 d2]) = some (Value.string s, { n := 14, objs := [AObj.cells [Value.int IntKind.i64 a1, Value.int IntKind.u64 a2] 24 0 1, AObj.cells [Value.int IntKind.i64 b1, Value.int IntKind.u64 b2] 24 0 1, AObj.cells [Value.int IntKind.i64 g1, Value.int IntKind.u64 g2] 24 0 1, AObj.cells [Value.int IntKind.i64 d1, Value.int IntKind.u64 d2] 24 0 1, AObj.dead, AObj.dead, AObj.dead, AObj.dead, AObj.cells kpPow e 6 1, AObj.dead, AObj.dead, AObj.dead, AObj.dead, AObj.dead] }, []) :=
  Dg.evCall_hint (hs' := []) (hs := [Hint.val 6 22 (Value.bool true),
    Hint.val 6 33 (Value.int IntKind.i64 x),
    Hint.call 14 (Value.string s) { n := 15, objs := [AObj.cells [Value.int IntKind.i64 (-1), Value.int IntKind.u64 l] 24 0 1, AObj.cells [Value.int IntKind.i64 a1, Value.int IntKind.u64 a2] 24 0 1, AObj.cells [Value.int IntKind.i64 b1, Value.int IntKind.u64 b2] 24 0 1, AObj.cells [Value.int IntKind.i64 g1, Value.int IntKind.u64 g2] 24 0 1, AObj.cells [Value.int IntKind.i64 d1, Value.int IntKind.u64 d2] 24 0 1, AObj.dead, AObj.dead, AObj.dead, AObj.dead, AObj.cells kpPow e 6 1, AObj.dead, AObj.dead, AObj.dead, AObj.dead, AObj.dead] } []])
    [Value.bool (decide (l ≥ (9223372036854775808 : Int))) = Value.bool true,
    Value.int IntKind.i64 (IntKind.wrap IntKind.i64 l) = Value.int IntKind.i64 x,
    evCall Tryz.prog 10 (bodied Tryz.prog) ovD sbs 1000 17 14 [Value.int IntKind.i64 x] { n := 15, objs := [AObj.cells [Value.int IntKind.i64 (-1), Value.int IntKind.u64 l] 24 0 1, AObj.cells [Value.int IntKind.i64 a1, Value.int IntKind.u64 a2] 24 0 1, AObj.cells [Value.int IntKind.i64 b1, Value.int IntKind.u64 b2] 24 0 1, AObj.cells [Value.int IntKind.i64 g1, Value.int IntKind.u64 g2] 24 0 1, AObj.cells [Value.int IntKind.i64 d1, Value.int IntKind.u64 d2] 24 0 1, AObj.dead, AObj.dead, AObj.dead, AObj.dead, AObj.cells kpPow e 6 1, AObj.dead, AObj.dead, AObj.dead, AObj.dead, AObj.dead] } = some (Value.string s, { n := 15, objs := [AObj.cells [Value.int IntKind.i64 (-1), Value.int IntKind.u64 l] 24 0 1, AObj.cells [Value.int IntKind.i64 a1, Value.int IntKind.u64 a2] 24 0 1, AObj.cells [Value.int IntKind.i64 b1, Value.int IntKind.u64 b2] 24 0 1, AObj.cells [Value.int IntKind.i64 g1, Value.int IntKind.u64 g2] 24 0 1, AObj.cells [Value.int IntKind.i64 d1, Value.int IntKind.u64 d2] 24 0 1, AObj.dead, AObj.dead, AObj.dead, AObj.dead, AObj.cells kpPow e 6 1, AObj.dead, AObj.dead, AObj.dead, AObj.dead, AObj.dead] }, [])] (by kernel_rfl)
    ⟨Dg.vtrue (by omega), wi (by omega), dDec (by omega) hs ⟨_, rfl⟩, trivial⟩
--> dw_i18
--< dw_px20
theorem dw_px20 (e : TypeId) (l : Int) (qh : Int) (ql : Int) (r : Nat) (h : Int) (hh : 1 ≤ h) (hl : 0 ≤ l) (h1 : p4 23 [wd h l, Value.int IntKind.u64 1000000000000000000] = some (Value.tuple #[wd qh ql, Value.int IntKind.u64 (↑r : Int), Value.bool true])) (hr : r < 18446744073709551616) (t : ByteArray) (lo : ByteArray) (z : ByteArray) (c1 : ByteArray) (c2 : ByteArray) (k : Nat) (hlo : lo = { data := List.toArray (Lib.decDigits r) }) (hk : ByteArray.size lo + k = 18) (ht : evCall Tryz.prog 10 (bodied Tryz.prog) ovD sbs 1000 19 6 [wd qh ql] (Hx e [oW qh ql, oW h l]) = some (Value.string t, Hx e [oW qh ql, oW h l], [])) (hz : p4 26 [Value.string { data := #[48] }, Value.int IntKind.i64 (↑k : Int)] = some (Value.string z)) (e1 : t ++ z = c1) (e2 : c1 ++ lo = c2) (sz1 : ByteArray.size t + ByteArray.size z ≤ 9223372036854775807) (sz2 : ByteArray.size c1 + ByteArray.size lo ≤ 9223372036854775807) :
    evCall Tryz.prog 10 (bodied Tryz.prog) ovD sbs 1000 20 6 [wd h l] (Hx e []) = some (Value.string c2, { n := 10, objs := [AObj.dead, AObj.dead, AObj.dead, AObj.dead, AObj.cells kpPow e 6 1, AObj.dead, AObj.dead, AObj.dead, AObj.dead, AObj.dead] }, []) :=
  Dg.evCall_hint (hs' := []) (hs := [Hint.val 6 9 (Value.bool true),
    Hint.val 6 13 (Value.bool false),
    Hint.val 6 18 (Value.bool false),
    Hint.call 23 (Value.tuple { toList := [Value.agg #[Value.int IntKind.i64 qh, Value.int IntKind.u64 ql], Value.int IntKind.u64 (↑r : Int), Value.bool true] }) { n := 11, objs := [AObj.cells [Value.int IntKind.i64 h, Value.int IntKind.u64 l] 24 0 1, AObj.dead, AObj.dead, AObj.dead, AObj.dead, AObj.cells kpPow e 6 1, AObj.dead, AObj.dead, AObj.dead, AObj.dead, AObj.dead] } [],
    Hint.val 6 43 (Value.bool false),
    Hint.call 16 (Value.string lo) { n := 12, objs := [AObj.cells [Value.int IntKind.i64 qh, Value.int IntKind.u64 ql] 24 0 1, AObj.cells [Value.int IntKind.i64 h, Value.int IntKind.u64 l] 24 0 1, AObj.dead, AObj.dead, AObj.dead, AObj.dead, AObj.cells kpPow e 6 1, AObj.dead, AObj.dead, AObj.dead, AObj.dead, AObj.dead] } [],
    Hint.call 6 (Value.string t) { n := 12, objs := [AObj.cells [Value.int IntKind.i64 qh, Value.int IntKind.u64 ql] 24 0 1, AObj.cells [Value.int IntKind.i64 h, Value.int IntKind.u64 l] 24 0 1, AObj.dead, AObj.dead, AObj.dead, AObj.dead, AObj.cells kpPow e 6 1, AObj.dead, AObj.dead, AObj.dead, AObj.dead, AObj.dead] } [],
    Hint.val 6 59 (Value.int IntKind.i64 (↑k : Int)),
    Hint.call 26 (Value.string z) { n := 12, objs := [AObj.cells [Value.int IntKind.i64 qh, Value.int IntKind.u64 ql] 24 0 1, AObj.cells [Value.int IntKind.i64 h, Value.int IntKind.u64 l] 24 0 1, AObj.dead, AObj.dead, AObj.dead, AObj.dead, AObj.cells kpPow e 6 1, AObj.dead, AObj.dead, AObj.dead, AObj.dead, AObj.dead] } [],
    Hint.soft 6 61 (Value.string c1),
    Hint.soft 6 63 (Value.string c2)])
    [Value.bool (decide (h ≥ (0 : Int))) = Value.bool true,
    Value.bool (decide (h < (1 : Int))) = Value.bool false,
    Value.bool (h == (-1 : Int)) = Value.bool false,
    evCall Tryz.prog 10 (bodied Tryz.prog) ovD sbs 1000 19 23 [Value.agg #[Value.int IntKind.i64 h, Value.int IntKind.u64 l], Value.int IntKind.u64 1000000000000000000] { n := 11, objs := [AObj.cells [Value.int IntKind.i64 h, Value.int IntKind.u64 l] 24 0 1, AObj.dead, AObj.dead, AObj.dead, AObj.dead, AObj.cells kpPow e 6 1, AObj.dead, AObj.dead, AObj.dead, AObj.dead, AObj.dead] } = some (Value.tuple { toList := [Value.agg #[Value.int IntKind.i64 qh, Value.int IntKind.u64 ql], Value.int IntKind.u64 (↑r : Int), Value.bool true] }, { n := 11, objs := [AObj.cells [Value.int IntKind.i64 h, Value.int IntKind.u64 l] 24 0 1, AObj.dead, AObj.dead, AObj.dead, AObj.dead, AObj.cells kpPow e 6 1, AObj.dead, AObj.dead, AObj.dead, AObj.dead, AObj.dead] }, []),
    Value.bool (decide (h < (0 : Int))) = Value.bool false,
    evCall Tryz.prog 10 (bodied Tryz.prog) ovD sbs 1000 19 16 [Value.int IntKind.u64 (↑r : Int)] { n := 12, objs := [AObj.cells [Value.int IntKind.i64 qh, Value.int IntKind.u64 ql] 24 0 1, AObj.cells [Value.int IntKind.i64 h, Value.int IntKind.u64 l] 24 0 1, AObj.dead, AObj.dead, AObj.dead, AObj.dead, AObj.cells kpPow e 6 1, AObj.dead, AObj.dead, AObj.dead, AObj.dead, AObj.dead] } = some (Value.string lo, { n := 12, objs := [AObj.cells [Value.int IntKind.i64 qh, Value.int IntKind.u64 ql] 24 0 1, AObj.cells [Value.int IntKind.i64 h, Value.int IntKind.u64 l] 24 0 1, AObj.dead, AObj.dead, AObj.dead, AObj.dead, AObj.cells kpPow e 6 1, AObj.dead, AObj.dead, AObj.dead, AObj.dead, AObj.dead] }, []),
    evCall Tryz.prog 10 (bodied Tryz.prog) ovD sbs 1000 19 6 [Value.agg #[Value.int IntKind.i64 qh, Value.int IntKind.u64 ql]] { n := 12, objs := [AObj.cells [Value.int IntKind.i64 qh, Value.int IntKind.u64 ql] 24 0 1, AObj.cells [Value.int IntKind.i64 h, Value.int IntKind.u64 l] 24 0 1, AObj.dead, AObj.dead, AObj.dead, AObj.dead, AObj.cells kpPow e 6 1, AObj.dead, AObj.dead, AObj.dead, AObj.dead, AObj.dead] } = some (Value.string t, { n := 12, objs := [AObj.cells [Value.int IntKind.i64 qh, Value.int IntKind.u64 ql] 24 0 1, AObj.cells [Value.int IntKind.i64 h, Value.int IntKind.u64 l] 24 0 1, AObj.dead, AObj.dead, AObj.dead, AObj.dead, AObj.cells kpPow e 6 1, AObj.dead, AObj.dead, AObj.dead, AObj.dead, AObj.dead] }, []),
    Value.int IntKind.i64 (IntKind.wrap IntKind.i64 ((18 : Int) - (↑(ByteArray.size lo) : Int))) = Value.int IntKind.i64 (↑k : Int),
    evCall Tryz.prog 10 (bodied Tryz.prog) ovD sbs 1000 19 26 [Value.string { data := #[48] }, Value.int IntKind.i64 (↑k : Int)] { n := 12, objs := [AObj.cells [Value.int IntKind.i64 qh, Value.int IntKind.u64 ql] 24 0 1, AObj.cells [Value.int IntKind.i64 h, Value.int IntKind.u64 l] 24 0 1, AObj.dead, AObj.dead, AObj.dead, AObj.dead, AObj.cells kpPow e 6 1, AObj.dead, AObj.dead, AObj.dead, AObj.dead, AObj.dead] } = some (Value.string z, { n := 12, objs := [AObj.cells [Value.int IntKind.i64 qh, Value.int IntKind.u64 ql] 24 0 1, AObj.cells [Value.int IntKind.i64 h, Value.int IntKind.u64 l] 24 0 1, AObj.dead, AObj.dead, AObj.dead, AObj.dead, AObj.cells kpPow e 6 1, AObj.dead, AObj.dead, AObj.dead, AObj.dead, AObj.dead] }, []),
    ByteArray.size t + ByteArray.size z ≤ (9223372036854775807 : Nat),
    Value.string (t ++ z) = Value.string c1,
    ByteArray.size c1 + ByteArray.size lo ≤ (9223372036854775807 : Nat),
    Value.string (c1 ++ lo) = Value.string c2] (by kernel_rfl)
    ⟨by first | exact Dg.vtrue (by omega) | exact Dg.vfalse (by omega), by first | exact Dg.vtrue (by omega) | exact Dg.vfalse (by omega), Dg.vfalse (by omega), dDiv h1, by first | exact Dg.vtrue (by omega) | exact Dg.vfalse (by omega), dUns (by omega) hlo ⟨_, rfl⟩, ht, wi (by omega), dRep hz, sz1, by rw [e1], sz2, by rw [e2], trivial⟩
--> dw_px20
--< dw_m020
theorem dw_m020 (e : TypeId) (l : Int) (qh : Int) (ql : Int) (r : Nat) (hl : 0 ≤ l ∧ l < 9223372036854775808) (h1 : p4 23 [wd (-1) l, Value.int IntKind.u64 1000000000000000000] = some (Value.tuple #[wd qh ql, Value.int IntKind.u64 (↑r : Int), Value.bool true])) (hr : r = 0) (t : ByteArray) (lo : ByteArray) (z : ByteArray) (c1 : ByteArray) (c2 : ByteArray) (k : Nat) (hlo : lo = { data := List.toArray (Lib.decDigits r) }) (hk : ByteArray.size lo + k = 18) (ht : evCall Tryz.prog 10 (bodied Tryz.prog) ovD sbs 1000 19 6 [wd qh ql] (Hx e [oW qh ql, oW (-1) l]) = some (Value.string t, Hx e [oW qh ql, oW (-1) l], [])) (hz : p4 26 [Value.string { data := #[48] }, Value.int IntKind.i64 (↑k : Int)] = some (Value.string z)) (e1 : t ++ z = c1) (e2 : c1 ++ lo = c2) (sz1 : ByteArray.size t + ByteArray.size z ≤ 9223372036854775807) (sz2 : ByteArray.size c1 + ByteArray.size lo ≤ 9223372036854775807) :
    evCall Tryz.prog 10 (bodied Tryz.prog) ovD sbs 1000 20 6 [wd (-1) l] (Hx e []) = some (Value.string c2, { n := 10, objs := [AObj.dead, AObj.dead, AObj.dead, AObj.dead, AObj.cells kpPow e 6 1, AObj.dead, AObj.dead, AObj.dead, AObj.dead, AObj.dead] }, []) :=
  Dg.evCall_hint (hs' := []) (hs := [Hint.val 6 22 (Value.bool false),
    Hint.call 23 (Value.tuple { toList := [Value.agg #[Value.int IntKind.i64 qh, Value.int IntKind.u64 ql], Value.int IntKind.u64 (↑r : Int), Value.bool true] }) { n := 11, objs := [AObj.cells [Value.int IntKind.i64 (-1), Value.int IntKind.u64 l] 24 0 1, AObj.dead, AObj.dead, AObj.dead, AObj.dead, AObj.cells kpPow e 6 1, AObj.dead, AObj.dead, AObj.dead, AObj.dead, AObj.dead] } [],
    Hint.val 6 46 (Value.bool false),
    Hint.call 16 (Value.string lo) { n := 12, objs := [AObj.cells [Value.int IntKind.i64 qh, Value.int IntKind.u64 ql] 24 0 1, AObj.cells [Value.int IntKind.i64 (-1), Value.int IntKind.u64 l] 24 0 1, AObj.dead, AObj.dead, AObj.dead, AObj.dead, AObj.cells kpPow e 6 1, AObj.dead, AObj.dead, AObj.dead, AObj.dead, AObj.dead] } [],
    Hint.call 6 (Value.string t) { n := 12, objs := [AObj.cells [Value.int IntKind.i64 qh, Value.int IntKind.u64 ql] 24 0 1, AObj.cells [Value.int IntKind.i64 (-1), Value.int IntKind.u64 l] 24 0 1, AObj.dead, AObj.dead, AObj.dead, AObj.dead, AObj.cells kpPow e 6 1, AObj.dead, AObj.dead, AObj.dead, AObj.dead, AObj.dead] } [],
    Hint.val 6 59 (Value.int IntKind.i64 (↑k : Int)),
    Hint.call 26 (Value.string z) { n := 12, objs := [AObj.cells [Value.int IntKind.i64 qh, Value.int IntKind.u64 ql] 24 0 1, AObj.cells [Value.int IntKind.i64 (-1), Value.int IntKind.u64 l] 24 0 1, AObj.dead, AObj.dead, AObj.dead, AObj.dead, AObj.cells kpPow e 6 1, AObj.dead, AObj.dead, AObj.dead, AObj.dead, AObj.dead] } [],
    Hint.soft 6 61 (Value.string c1),
    Hint.soft 6 63 (Value.string c2)])
    [Value.bool (decide (l ≥ (9223372036854775808 : Int))) = Value.bool false,
    evCall Tryz.prog 10 (bodied Tryz.prog) ovD sbs 1000 19 23 [Value.agg #[Value.int IntKind.i64 (-1), Value.int IntKind.u64 l], Value.int IntKind.u64 1000000000000000000] { n := 11, objs := [AObj.cells [Value.int IntKind.i64 (-1), Value.int IntKind.u64 l] 24 0 1, AObj.dead, AObj.dead, AObj.dead, AObj.dead, AObj.cells kpPow e 6 1, AObj.dead, AObj.dead, AObj.dead, AObj.dead, AObj.dead] } = some (Value.tuple { toList := [Value.agg #[Value.int IntKind.i64 qh, Value.int IntKind.u64 ql], Value.int IntKind.u64 (↑r : Int), Value.bool true] }, { n := 11, objs := [AObj.cells [Value.int IntKind.i64 (-1), Value.int IntKind.u64 l] 24 0 1, AObj.dead, AObj.dead, AObj.dead, AObj.dead, AObj.cells kpPow e 6 1, AObj.dead, AObj.dead, AObj.dead, AObj.dead, AObj.dead] }, []),
    Value.bool (decide ((↑r : Int) > (0 : Int))) = Value.bool false,
    evCall Tryz.prog 10 (bodied Tryz.prog) ovD sbs 1000 19 16 [Value.int IntKind.u64 (↑r : Int)] { n := 12, objs := [AObj.cells [Value.int IntKind.i64 qh, Value.int IntKind.u64 ql] 24 0 1, AObj.cells [Value.int IntKind.i64 (-1), Value.int IntKind.u64 l] 24 0 1, AObj.dead, AObj.dead, AObj.dead, AObj.dead, AObj.cells kpPow e 6 1, AObj.dead, AObj.dead, AObj.dead, AObj.dead, AObj.dead] } = some (Value.string lo, { n := 12, objs := [AObj.cells [Value.int IntKind.i64 qh, Value.int IntKind.u64 ql] 24 0 1, AObj.cells [Value.int IntKind.i64 (-1), Value.int IntKind.u64 l] 24 0 1, AObj.dead, AObj.dead, AObj.dead, AObj.dead, AObj.cells kpPow e 6 1, AObj.dead, AObj.dead, AObj.dead, AObj.dead, AObj.dead] }, []),
    evCall Tryz.prog 10 (bodied Tryz.prog) ovD sbs 1000 19 6 [Value.agg #[Value.int IntKind.i64 qh, Value.int IntKind.u64 ql]] { n := 12, objs := [AObj.cells [Value.int IntKind.i64 qh, Value.int IntKind.u64 ql] 24 0 1, AObj.cells [Value.int IntKind.i64 (-1), Value.int IntKind.u64 l] 24 0 1, AObj.dead, AObj.dead, AObj.dead, AObj.dead, AObj.cells kpPow e 6 1, AObj.dead, AObj.dead, AObj.dead, AObj.dead, AObj.dead] } = some (Value.string t, { n := 12, objs := [AObj.cells [Value.int IntKind.i64 qh, Value.int IntKind.u64 ql] 24 0 1, AObj.cells [Value.int IntKind.i64 (-1), Value.int IntKind.u64 l] 24 0 1, AObj.dead, AObj.dead, AObj.dead, AObj.dead, AObj.cells kpPow e 6 1, AObj.dead, AObj.dead, AObj.dead, AObj.dead, AObj.dead] }, []),
    Value.int IntKind.i64 (IntKind.wrap IntKind.i64 ((18 : Int) - (↑(ByteArray.size lo) : Int))) = Value.int IntKind.i64 (↑k : Int),
    evCall Tryz.prog 10 (bodied Tryz.prog) ovD sbs 1000 19 26 [Value.string { data := #[48] }, Value.int IntKind.i64 (↑k : Int)] { n := 12, objs := [AObj.cells [Value.int IntKind.i64 qh, Value.int IntKind.u64 ql] 24 0 1, AObj.cells [Value.int IntKind.i64 (-1), Value.int IntKind.u64 l] 24 0 1, AObj.dead, AObj.dead, AObj.dead, AObj.dead, AObj.cells kpPow e 6 1, AObj.dead, AObj.dead, AObj.dead, AObj.dead, AObj.dead] } = some (Value.string z, { n := 12, objs := [AObj.cells [Value.int IntKind.i64 qh, Value.int IntKind.u64 ql] 24 0 1, AObj.cells [Value.int IntKind.i64 (-1), Value.int IntKind.u64 l] 24 0 1, AObj.dead, AObj.dead, AObj.dead, AObj.dead, AObj.cells kpPow e 6 1, AObj.dead, AObj.dead, AObj.dead, AObj.dead, AObj.dead] }, []),
    ByteArray.size t + ByteArray.size z ≤ (9223372036854775807 : Nat),
    Value.string (t ++ z) = Value.string c1,
    ByteArray.size c1 + ByteArray.size lo ≤ (9223372036854775807 : Nat),
    Value.string (c1 ++ lo) = Value.string c2] (by kernel_rfl)
    ⟨by first | exact Dg.vtrue (by omega) | exact Dg.vfalse (by omega), dDiv h1, by first | exact Dg.vtrue (by omega) | exact Dg.vfalse (by omega), dUns (by omega) hlo ⟨_, rfl⟩, ht, wi (by omega), dRep hz, sz1, by rw [e1], sz2, by rw [e2], trivial⟩
--> dw_m020
--< dw_m120
theorem dw_m120 (e : TypeId) (l : Int) (qh : Int) (ql : Int) (r : Nat) (hl : 0 ≤ l ∧ l < 9223372036854775808) (h1 : p4 23 [wd (-1) l, Value.int IntKind.u64 1000000000000000000] = some (Value.tuple #[wd qh ql, Value.int IntKind.u64 (↑r : Int), Value.bool true])) (hr : 0 < r ∧ r < 1000000000000000000) (xh : Int) (xl : Int) (s : Nat) (es : 1000000000000000000 - (↑r : Int) = (↑s : Int)) (h5 : p4 25 [Value.int IntKind.i64 1] = some (wd 0 1)) (h6 : p4 24 [wd qh ql, wd 0 1] = some (wd xh xl)) (t : ByteArray) (lo : ByteArray) (z : ByteArray) (c1 : ByteArray) (c2 : ByteArray) (k : Nat) (hlo : lo = { data := List.toArray (Lib.decDigits s) }) (hk : ByteArray.size lo + k = 18) (ht : evCall Tryz.prog 10 (bodied Tryz.prog) ovD sbs 1000 19 6 [wd xh xl] (Hx e [oW xh xl, oW (-1) l]) = some (Value.string t, Hx e [oW xh xl, oW (-1) l], [])) (hz : p4 26 [Value.string { data := #[48] }, Value.int IntKind.i64 (↑k : Int)] = some (Value.string z)) (e1 : t ++ z = c1) (e2 : c1 ++ lo = c2) (sz1 : ByteArray.size t + ByteArray.size z ≤ 9223372036854775807) (sz2 : ByteArray.size c1 + ByteArray.size lo ≤ 9223372036854775807) :
    evCall Tryz.prog 10 (bodied Tryz.prog) ovD sbs 1000 20 6 [wd (-1) l] (Hx e []) = some (Value.string c2, { n := 10, objs := [AObj.dead, AObj.dead, AObj.dead, AObj.dead, AObj.cells kpPow e 6 1, AObj.dead, AObj.dead, AObj.dead, AObj.dead, AObj.dead] }, []) :=
  Dg.evCall_hint (hs' := []) (hs := [Hint.val 6 22 (Value.bool false),
    Hint.call 23 (Value.tuple { toList := [Value.agg #[Value.int IntKind.i64 qh, Value.int IntKind.u64 ql], Value.int IntKind.u64 (↑r : Int), Value.bool true] }) { n := 11, objs := [AObj.cells [Value.int IntKind.i64 (-1), Value.int IntKind.u64 l] 24 0 1, AObj.dead, AObj.dead, AObj.dead, AObj.dead, AObj.cells kpPow e 6 1, AObj.dead, AObj.dead, AObj.dead, AObj.dead, AObj.dead] } [],
    Hint.val 6 46 (Value.bool true),
    Hint.call 25 (Value.agg #[Value.int IntKind.i64 0, Value.int IntKind.u64 1]) { n := 10, objs := [AObj.dead, AObj.dead, AObj.dead, AObj.dead, AObj.dead, AObj.dead, AObj.dead, AObj.dead, AObj.dead, AObj.dead] } [],
    Hint.call 24 (Value.agg #[Value.int IntKind.i64 xh, Value.int IntKind.u64 xl]) { n := 12, objs := [AObj.cells [Value.int IntKind.i64 qh, Value.int IntKind.u64 ql] 24 0 1, AObj.cells [Value.int IntKind.i64 (-1), Value.int IntKind.u64 l] 24 0 1, AObj.dead, AObj.dead, AObj.dead, AObj.dead, AObj.cells kpPow e 6 1, AObj.dead, AObj.dead, AObj.dead, AObj.dead, AObj.dead] } [],
    Hint.val 6 52 (Value.int IntKind.u64 (↑s : Int)),
    Hint.call 16 (Value.string lo) { n := 12, objs := [AObj.cells [Value.int IntKind.i64 xh, Value.int IntKind.u64 xl] 24 0 1, AObj.cells [Value.int IntKind.i64 (-1), Value.int IntKind.u64 l] 24 0 1, AObj.dead, AObj.dead, AObj.dead, AObj.dead, AObj.cells kpPow e 6 1, AObj.dead, AObj.dead, AObj.dead, AObj.dead, AObj.dead] } [],
    Hint.call 6 (Value.string t) { n := 12, objs := [AObj.cells [Value.int IntKind.i64 xh, Value.int IntKind.u64 xl] 24 0 1, AObj.cells [Value.int IntKind.i64 (-1), Value.int IntKind.u64 l] 24 0 1, AObj.dead, AObj.dead, AObj.dead, AObj.dead, AObj.cells kpPow e 6 1, AObj.dead, AObj.dead, AObj.dead, AObj.dead, AObj.dead] } [],
    Hint.val 6 59 (Value.int IntKind.i64 (↑k : Int)),
    Hint.call 26 (Value.string z) { n := 12, objs := [AObj.cells [Value.int IntKind.i64 xh, Value.int IntKind.u64 xl] 24 0 1, AObj.cells [Value.int IntKind.i64 (-1), Value.int IntKind.u64 l] 24 0 1, AObj.dead, AObj.dead, AObj.dead, AObj.dead, AObj.cells kpPow e 6 1, AObj.dead, AObj.dead, AObj.dead, AObj.dead, AObj.dead] } [],
    Hint.soft 6 61 (Value.string c1),
    Hint.soft 6 63 (Value.string c2)])
    [Value.bool (decide (l ≥ (9223372036854775808 : Int))) = Value.bool false,
    evCall Tryz.prog 10 (bodied Tryz.prog) ovD sbs 1000 19 23 [Value.agg #[Value.int IntKind.i64 (-1), Value.int IntKind.u64 l], Value.int IntKind.u64 1000000000000000000] { n := 11, objs := [AObj.cells [Value.int IntKind.i64 (-1), Value.int IntKind.u64 l] 24 0 1, AObj.dead, AObj.dead, AObj.dead, AObj.dead, AObj.cells kpPow e 6 1, AObj.dead, AObj.dead, AObj.dead, AObj.dead, AObj.dead] } = some (Value.tuple { toList := [Value.agg #[Value.int IntKind.i64 qh, Value.int IntKind.u64 ql], Value.int IntKind.u64 (↑r : Int), Value.bool true] }, { n := 11, objs := [AObj.cells [Value.int IntKind.i64 (-1), Value.int IntKind.u64 l] 24 0 1, AObj.dead, AObj.dead, AObj.dead, AObj.dead, AObj.cells kpPow e 6 1, AObj.dead, AObj.dead, AObj.dead, AObj.dead, AObj.dead] }, []),
    Value.bool (decide ((↑r : Int) > (0 : Int))) = Value.bool true,
    evCall Tryz.prog 10 (bodied Tryz.prog) ovD sbs 1000 19 25 [Value.int IntKind.i64 1] { n := 10, objs := [AObj.dead, AObj.dead, AObj.dead, AObj.dead, AObj.dead, AObj.dead, AObj.dead, AObj.dead, AObj.dead, AObj.dead] } = some (Value.agg #[Value.int IntKind.i64 0, Value.int IntKind.u64 1], { n := 10, objs := [AObj.dead, AObj.dead, AObj.dead, AObj.dead, AObj.dead, AObj.dead, AObj.dead, AObj.dead, AObj.dead, AObj.dead] }, []),
    evCall Tryz.prog 10 (bodied Tryz.prog) ovD sbs 1000 19 24 [Value.agg #[Value.int IntKind.i64 qh, Value.int IntKind.u64 ql], Value.agg #[Value.int IntKind.i64 0, Value.int IntKind.u64 1]] { n := 12, objs := [AObj.cells [Value.int IntKind.i64 qh, Value.int IntKind.u64 ql] 24 0 1, AObj.cells [Value.int IntKind.i64 (-1), Value.int IntKind.u64 l] 24 0 1, AObj.dead, AObj.dead, AObj.dead, AObj.dead, AObj.cells kpPow e 6 1, AObj.dead, AObj.dead, AObj.dead, AObj.dead, AObj.dead] } = some (Value.agg #[Value.int IntKind.i64 xh, Value.int IntKind.u64 xl], { n := 12, objs := [AObj.cells [Value.int IntKind.i64 qh, Value.int IntKind.u64 ql] 24 0 1, AObj.cells [Value.int IntKind.i64 (-1), Value.int IntKind.u64 l] 24 0 1, AObj.dead, AObj.dead, AObj.dead, AObj.dead, AObj.cells kpPow e 6 1, AObj.dead, AObj.dead, AObj.dead, AObj.dead, AObj.dead] }, []),
    Value.int IntKind.u64 (IntKind.wrap IntKind.u64 ((1000000000000000000 : Int) - (↑r : Int))) = Value.int IntKind.u64 (↑s : Int),
    evCall Tryz.prog 10 (bodied Tryz.prog) ovD sbs 1000 19 16 [Value.int IntKind.u64 (↑s : Int)] { n := 12, objs := [AObj.cells [Value.int IntKind.i64 xh, Value.int IntKind.u64 xl] 24 0 1, AObj.cells [Value.int IntKind.i64 (-1), Value.int IntKind.u64 l] 24 0 1, AObj.dead, AObj.dead, AObj.dead, AObj.dead, AObj.cells kpPow e 6 1, AObj.dead, AObj.dead, AObj.dead, AObj.dead, AObj.dead] } = some (Value.string lo, { n := 12, objs := [AObj.cells [Value.int IntKind.i64 xh, Value.int IntKind.u64 xl] 24 0 1, AObj.cells [Value.int IntKind.i64 (-1), Value.int IntKind.u64 l] 24 0 1, AObj.dead, AObj.dead, AObj.dead, AObj.dead, AObj.cells kpPow e 6 1, AObj.dead, AObj.dead, AObj.dead, AObj.dead, AObj.dead] }, []),
    evCall Tryz.prog 10 (bodied Tryz.prog) ovD sbs 1000 19 6 [Value.agg #[Value.int IntKind.i64 xh, Value.int IntKind.u64 xl]] { n := 12, objs := [AObj.cells [Value.int IntKind.i64 xh, Value.int IntKind.u64 xl] 24 0 1, AObj.cells [Value.int IntKind.i64 (-1), Value.int IntKind.u64 l] 24 0 1, AObj.dead, AObj.dead, AObj.dead, AObj.dead, AObj.cells kpPow e 6 1, AObj.dead, AObj.dead, AObj.dead, AObj.dead, AObj.dead] } = some (Value.string t, { n := 12, objs := [AObj.cells [Value.int IntKind.i64 xh, Value.int IntKind.u64 xl] 24 0 1, AObj.cells [Value.int IntKind.i64 (-1), Value.int IntKind.u64 l] 24 0 1, AObj.dead, AObj.dead, AObj.dead, AObj.dead, AObj.cells kpPow e 6 1, AObj.dead, AObj.dead, AObj.dead, AObj.dead, AObj.dead] }, []),
    Value.int IntKind.i64 (IntKind.wrap IntKind.i64 ((18 : Int) - (↑(ByteArray.size lo) : Int))) = Value.int IntKind.i64 (↑k : Int),
    evCall Tryz.prog 10 (bodied Tryz.prog) ovD sbs 1000 19 26 [Value.string { data := #[48] }, Value.int IntKind.i64 (↑k : Int)] { n := 12, objs := [AObj.cells [Value.int IntKind.i64 xh, Value.int IntKind.u64 xl] 24 0 1, AObj.cells [Value.int IntKind.i64 (-1), Value.int IntKind.u64 l] 24 0 1, AObj.dead, AObj.dead, AObj.dead, AObj.dead, AObj.cells kpPow e 6 1, AObj.dead, AObj.dead, AObj.dead, AObj.dead, AObj.dead] } = some (Value.string z, { n := 12, objs := [AObj.cells [Value.int IntKind.i64 xh, Value.int IntKind.u64 xl] 24 0 1, AObj.cells [Value.int IntKind.i64 (-1), Value.int IntKind.u64 l] 24 0 1, AObj.dead, AObj.dead, AObj.dead, AObj.dead, AObj.cells kpPow e 6 1, AObj.dead, AObj.dead, AObj.dead, AObj.dead, AObj.dead] }, []),
    ByteArray.size t + ByteArray.size z ≤ (9223372036854775807 : Nat),
    Value.string (t ++ z) = Value.string c1,
    ByteArray.size c1 + ByteArray.size lo ≤ (9223372036854775807 : Nat),
    Value.string (c1 ++ lo) = Value.string c2] (by kernel_rfl)
    ⟨by first | exact Dg.vtrue (by omega) | exact Dg.vfalse (by omega), dDiv h1, by first | exact Dg.vtrue (by omega) | exact Dg.vfalse (by omega), dOf h5, dAdd h6, wu (by omega), dUns (by omega) hlo ⟨_, rfl⟩, ht, wi (by omega), dRep hz, sz1, by rw [e1], sz2, by rw [e2], trivial⟩
--> dw_m120
--< dw_n020
theorem dw_n020 (e : TypeId) (l : Int) (qh : Int) (ql : Int) (r : Nat) (h : Int) (hh : h ≤ -2) (hl : 0 ≤ l) (h1 : p4 23 [wd h l, Value.int IntKind.u64 1000000000000000000] = some (Value.tuple #[wd qh ql, Value.int IntKind.u64 (↑r : Int), Value.bool true])) (hr : r = 0) (t : ByteArray) (lo : ByteArray) (z : ByteArray) (c1 : ByteArray) (c2 : ByteArray) (k : Nat) (hlo : lo = { data := List.toArray (Lib.decDigits r) }) (hk : ByteArray.size lo + k = 18) (ht : evCall Tryz.prog 10 (bodied Tryz.prog) ovD sbs 1000 19 6 [wd qh ql] (Hx e [oW qh ql, oW h l]) = some (Value.string t, Hx e [oW qh ql, oW h l], [])) (hz : p4 26 [Value.string { data := #[48] }, Value.int IntKind.i64 (↑k : Int)] = some (Value.string z)) (e1 : t ++ z = c1) (e2 : c1 ++ lo = c2) (sz1 : ByteArray.size t + ByteArray.size z ≤ 9223372036854775807) (sz2 : ByteArray.size c1 + ByteArray.size lo ≤ 9223372036854775807) :
    evCall Tryz.prog 10 (bodied Tryz.prog) ovD sbs 1000 20 6 [wd h l] (Hx e []) = some (Value.string c2, { n := 10, objs := [AObj.dead, AObj.dead, AObj.dead, AObj.dead, AObj.cells kpPow e 6 1, AObj.dead, AObj.dead, AObj.dead, AObj.dead, AObj.dead] }, []) :=
  Dg.evCall_hint (hs' := []) (hs := [Hint.val 6 9 (Value.bool false),
    Hint.val 6 18 (Value.bool false),
    Hint.call 23 (Value.tuple { toList := [Value.agg #[Value.int IntKind.i64 qh, Value.int IntKind.u64 ql], Value.int IntKind.u64 (↑r : Int), Value.bool true] }) { n := 11, objs := [AObj.cells [Value.int IntKind.i64 h, Value.int IntKind.u64 l] 24 0 1, AObj.dead, AObj.dead, AObj.dead, AObj.dead, AObj.cells kpPow e 6 1, AObj.dead, AObj.dead, AObj.dead, AObj.dead, AObj.dead] } [],
    Hint.val 6 43 (Value.bool true),
    Hint.val 6 46 (Value.bool false),
    Hint.call 16 (Value.string lo) { n := 12, objs := [AObj.cells [Value.int IntKind.i64 qh, Value.int IntKind.u64 ql] 24 0 1, AObj.cells [Value.int IntKind.i64 h, Value.int IntKind.u64 l] 24 0 1, AObj.dead, AObj.dead, AObj.dead, AObj.dead, AObj.cells kpPow e 6 1, AObj.dead, AObj.dead, AObj.dead, AObj.dead, AObj.dead] } [],
    Hint.call 6 (Value.string t) { n := 12, objs := [AObj.cells [Value.int IntKind.i64 qh, Value.int IntKind.u64 ql] 24 0 1, AObj.cells [Value.int IntKind.i64 h, Value.int IntKind.u64 l] 24 0 1, AObj.dead, AObj.dead, AObj.dead, AObj.dead, AObj.cells kpPow e 6 1, AObj.dead, AObj.dead, AObj.dead, AObj.dead, AObj.dead] } [],
    Hint.val 6 59 (Value.int IntKind.i64 (↑k : Int)),
    Hint.call 26 (Value.string z) { n := 12, objs := [AObj.cells [Value.int IntKind.i64 qh, Value.int IntKind.u64 ql] 24 0 1, AObj.cells [Value.int IntKind.i64 h, Value.int IntKind.u64 l] 24 0 1, AObj.dead, AObj.dead, AObj.dead, AObj.dead, AObj.cells kpPow e 6 1, AObj.dead, AObj.dead, AObj.dead, AObj.dead, AObj.dead] } [],
    Hint.soft 6 61 (Value.string c1),
    Hint.soft 6 63 (Value.string c2)])
    [Value.bool (decide (h ≥ (0 : Int))) = Value.bool false,
    Value.bool (h == (-1 : Int)) = Value.bool false,
    evCall Tryz.prog 10 (bodied Tryz.prog) ovD sbs 1000 19 23 [Value.agg #[Value.int IntKind.i64 h, Value.int IntKind.u64 l], Value.int IntKind.u64 1000000000000000000] { n := 11, objs := [AObj.cells [Value.int IntKind.i64 h, Value.int IntKind.u64 l] 24 0 1, AObj.dead, AObj.dead, AObj.dead, AObj.dead, AObj.cells kpPow e 6 1, AObj.dead, AObj.dead, AObj.dead, AObj.dead, AObj.dead] } = some (Value.tuple { toList := [Value.agg #[Value.int IntKind.i64 qh, Value.int IntKind.u64 ql], Value.int IntKind.u64 (↑r : Int), Value.bool true] }, { n := 11, objs := [AObj.cells [Value.int IntKind.i64 h, Value.int IntKind.u64 l] 24 0 1, AObj.dead, AObj.dead, AObj.dead, AObj.dead, AObj.cells kpPow e 6 1, AObj.dead, AObj.dead, AObj.dead, AObj.dead, AObj.dead] }, []),
    Value.bool (decide (h < (0 : Int))) = Value.bool true,
    Value.bool (decide ((↑r : Int) > (0 : Int))) = Value.bool false,
    evCall Tryz.prog 10 (bodied Tryz.prog) ovD sbs 1000 19 16 [Value.int IntKind.u64 (↑r : Int)] { n := 12, objs := [AObj.cells [Value.int IntKind.i64 qh, Value.int IntKind.u64 ql] 24 0 1, AObj.cells [Value.int IntKind.i64 h, Value.int IntKind.u64 l] 24 0 1, AObj.dead, AObj.dead, AObj.dead, AObj.dead, AObj.cells kpPow e 6 1, AObj.dead, AObj.dead, AObj.dead, AObj.dead, AObj.dead] } = some (Value.string lo, { n := 12, objs := [AObj.cells [Value.int IntKind.i64 qh, Value.int IntKind.u64 ql] 24 0 1, AObj.cells [Value.int IntKind.i64 h, Value.int IntKind.u64 l] 24 0 1, AObj.dead, AObj.dead, AObj.dead, AObj.dead, AObj.cells kpPow e 6 1, AObj.dead, AObj.dead, AObj.dead, AObj.dead, AObj.dead] }, []),
    evCall Tryz.prog 10 (bodied Tryz.prog) ovD sbs 1000 19 6 [Value.agg #[Value.int IntKind.i64 qh, Value.int IntKind.u64 ql]] { n := 12, objs := [AObj.cells [Value.int IntKind.i64 qh, Value.int IntKind.u64 ql] 24 0 1, AObj.cells [Value.int IntKind.i64 h, Value.int IntKind.u64 l] 24 0 1, AObj.dead, AObj.dead, AObj.dead, AObj.dead, AObj.cells kpPow e 6 1, AObj.dead, AObj.dead, AObj.dead, AObj.dead, AObj.dead] } = some (Value.string t, { n := 12, objs := [AObj.cells [Value.int IntKind.i64 qh, Value.int IntKind.u64 ql] 24 0 1, AObj.cells [Value.int IntKind.i64 h, Value.int IntKind.u64 l] 24 0 1, AObj.dead, AObj.dead, AObj.dead, AObj.dead, AObj.cells kpPow e 6 1, AObj.dead, AObj.dead, AObj.dead, AObj.dead, AObj.dead] }, []),
    Value.int IntKind.i64 (IntKind.wrap IntKind.i64 ((18 : Int) - (↑(ByteArray.size lo) : Int))) = Value.int IntKind.i64 (↑k : Int),
    evCall Tryz.prog 10 (bodied Tryz.prog) ovD sbs 1000 19 26 [Value.string { data := #[48] }, Value.int IntKind.i64 (↑k : Int)] { n := 12, objs := [AObj.cells [Value.int IntKind.i64 qh, Value.int IntKind.u64 ql] 24 0 1, AObj.cells [Value.int IntKind.i64 h, Value.int IntKind.u64 l] 24 0 1, AObj.dead, AObj.dead, AObj.dead, AObj.dead, AObj.cells kpPow e 6 1, AObj.dead, AObj.dead, AObj.dead, AObj.dead, AObj.dead] } = some (Value.string z, { n := 12, objs := [AObj.cells [Value.int IntKind.i64 qh, Value.int IntKind.u64 ql] 24 0 1, AObj.cells [Value.int IntKind.i64 h, Value.int IntKind.u64 l] 24 0 1, AObj.dead, AObj.dead, AObj.dead, AObj.dead, AObj.cells kpPow e 6 1, AObj.dead, AObj.dead, AObj.dead, AObj.dead, AObj.dead] }, []),
    ByteArray.size t + ByteArray.size z ≤ (9223372036854775807 : Nat),
    Value.string (t ++ z) = Value.string c1,
    ByteArray.size c1 + ByteArray.size lo ≤ (9223372036854775807 : Nat),
    Value.string (c1 ++ lo) = Value.string c2] (by kernel_rfl)
    ⟨by first | exact Dg.vtrue (by omega) | exact Dg.vfalse (by omega), Dg.vfalse (by omega), dDiv h1, by first | exact Dg.vtrue (by omega) | exact Dg.vfalse (by omega), by first | exact Dg.vtrue (by omega) | exact Dg.vfalse (by omega), dUns (by omega) hlo ⟨_, rfl⟩, ht, wi (by omega), dRep hz, sz1, by rw [e1], sz2, by rw [e2], trivial⟩
--> dw_n020
--< dw_n120
theorem dw_n120 (e : TypeId) (l : Int) (qh : Int) (ql : Int) (r : Nat) (h : Int) (hh : h ≤ -2) (hl : 0 ≤ l) (h1 : p4 23 [wd h l, Value.int IntKind.u64 1000000000000000000] = some (Value.tuple #[wd qh ql, Value.int IntKind.u64 (↑r : Int), Value.bool true])) (hr : 0 < r ∧ r < 1000000000000000000) (xh : Int) (xl : Int) (s : Nat) (es : 1000000000000000000 - (↑r : Int) = (↑s : Int)) (h5 : p4 25 [Value.int IntKind.i64 1] = some (wd 0 1)) (h6 : p4 24 [wd qh ql, wd 0 1] = some (wd xh xl)) (t : ByteArray) (lo : ByteArray) (z : ByteArray) (c1 : ByteArray) (c2 : ByteArray) (k : Nat) (hlo : lo = { data := List.toArray (Lib.decDigits s) }) (hk : ByteArray.size lo + k = 18) (ht : evCall Tryz.prog 10 (bodied Tryz.prog) ovD sbs 1000 19 6 [wd xh xl] (Hx e [oW xh xl, oW h l]) = some (Value.string t, Hx e [oW xh xl, oW h l], [])) (hz : p4 26 [Value.string { data := #[48] }, Value.int IntKind.i64 (↑k : Int)] = some (Value.string z)) (e1 : t ++ z = c1) (e2 : c1 ++ lo = c2) (sz1 : ByteArray.size t + ByteArray.size z ≤ 9223372036854775807) (sz2 : ByteArray.size c1 + ByteArray.size lo ≤ 9223372036854775807) :
    evCall Tryz.prog 10 (bodied Tryz.prog) ovD sbs 1000 20 6 [wd h l] (Hx e []) = some (Value.string c2, { n := 10, objs := [AObj.dead, AObj.dead, AObj.dead, AObj.dead, AObj.cells kpPow e 6 1, AObj.dead, AObj.dead, AObj.dead, AObj.dead, AObj.dead] }, []) :=
  Dg.evCall_hint (hs' := []) (hs := [Hint.val 6 9 (Value.bool false),
    Hint.val 6 18 (Value.bool false),
    Hint.call 23 (Value.tuple { toList := [Value.agg #[Value.int IntKind.i64 qh, Value.int IntKind.u64 ql], Value.int IntKind.u64 (↑r : Int), Value.bool true] }) { n := 11, objs := [AObj.cells [Value.int IntKind.i64 h, Value.int IntKind.u64 l] 24 0 1, AObj.dead, AObj.dead, AObj.dead, AObj.dead, AObj.cells kpPow e 6 1, AObj.dead, AObj.dead, AObj.dead, AObj.dead, AObj.dead] } [],
    Hint.val 6 43 (Value.bool true),
    Hint.val 6 46 (Value.bool true),
    Hint.call 25 (Value.agg #[Value.int IntKind.i64 0, Value.int IntKind.u64 1]) { n := 10, objs := [AObj.dead, AObj.dead, AObj.dead, AObj.dead, AObj.dead, AObj.dead, AObj.dead, AObj.dead, AObj.dead, AObj.dead] } [],
    Hint.call 24 (Value.agg #[Value.int IntKind.i64 xh, Value.int IntKind.u64 xl]) { n := 12, objs := [AObj.cells [Value.int IntKind.i64 qh, Value.int IntKind.u64 ql] 24 0 1, AObj.cells [Value.int IntKind.i64 h, Value.int IntKind.u64 l] 24 0 1, AObj.dead, AObj.dead, AObj.dead, AObj.dead, AObj.cells kpPow e 6 1, AObj.dead, AObj.dead, AObj.dead, AObj.dead, AObj.dead] } [],
    Hint.val 6 52 (Value.int IntKind.u64 (↑s : Int)),
    Hint.call 16 (Value.string lo) { n := 12, objs := [AObj.cells [Value.int IntKind.i64 xh, Value.int IntKind.u64 xl] 24 0 1, AObj.cells [Value.int IntKind.i64 h, Value.int IntKind.u64 l] 24 0 1, AObj.dead, AObj.dead, AObj.dead, AObj.dead, AObj.cells kpPow e 6 1, AObj.dead, AObj.dead, AObj.dead, AObj.dead, AObj.dead] } [],
    Hint.call 6 (Value.string t) { n := 12, objs := [AObj.cells [Value.int IntKind.i64 xh, Value.int IntKind.u64 xl] 24 0 1, AObj.cells [Value.int IntKind.i64 h, Value.int IntKind.u64 l] 24 0 1, AObj.dead, AObj.dead, AObj.dead, AObj.dead, AObj.cells kpPow e 6 1, AObj.dead, AObj.dead, AObj.dead, AObj.dead, AObj.dead] } [],
    Hint.val 6 59 (Value.int IntKind.i64 (↑k : Int)),
    Hint.call 26 (Value.string z) { n := 12, objs := [AObj.cells [Value.int IntKind.i64 xh, Value.int IntKind.u64 xl] 24 0 1, AObj.cells [Value.int IntKind.i64 h, Value.int IntKind.u64 l] 24 0 1, AObj.dead, AObj.dead, AObj.dead, AObj.dead, AObj.cells kpPow e 6 1, AObj.dead, AObj.dead, AObj.dead, AObj.dead, AObj.dead] } [],
    Hint.soft 6 61 (Value.string c1),
    Hint.soft 6 63 (Value.string c2)])
    [Value.bool (decide (h ≥ (0 : Int))) = Value.bool false,
    Value.bool (h == (-1 : Int)) = Value.bool false,
    evCall Tryz.prog 10 (bodied Tryz.prog) ovD sbs 1000 19 23 [Value.agg #[Value.int IntKind.i64 h, Value.int IntKind.u64 l], Value.int IntKind.u64 1000000000000000000] { n := 11, objs := [AObj.cells [Value.int IntKind.i64 h, Value.int IntKind.u64 l] 24 0 1, AObj.dead, AObj.dead, AObj.dead, AObj.dead, AObj.cells kpPow e 6 1, AObj.dead, AObj.dead, AObj.dead, AObj.dead, AObj.dead] } = some (Value.tuple { toList := [Value.agg #[Value.int IntKind.i64 qh, Value.int IntKind.u64 ql], Value.int IntKind.u64 (↑r : Int), Value.bool true] }, { n := 11, objs := [AObj.cells [Value.int IntKind.i64 h, Value.int IntKind.u64 l] 24 0 1, AObj.dead, AObj.dead, AObj.dead, AObj.dead, AObj.cells kpPow e 6 1, AObj.dead, AObj.dead, AObj.dead, AObj.dead, AObj.dead] }, []),
    Value.bool (decide (h < (0 : Int))) = Value.bool true,
    Value.bool (decide ((↑r : Int) > (0 : Int))) = Value.bool true,
    evCall Tryz.prog 10 (bodied Tryz.prog) ovD sbs 1000 19 25 [Value.int IntKind.i64 1] { n := 10, objs := [AObj.dead, AObj.dead, AObj.dead, AObj.dead, AObj.dead, AObj.dead, AObj.dead, AObj.dead, AObj.dead, AObj.dead] } = some (Value.agg #[Value.int IntKind.i64 0, Value.int IntKind.u64 1], { n := 10, objs := [AObj.dead, AObj.dead, AObj.dead, AObj.dead, AObj.dead, AObj.dead, AObj.dead, AObj.dead, AObj.dead, AObj.dead] }, []),
    evCall Tryz.prog 10 (bodied Tryz.prog) ovD sbs 1000 19 24 [Value.agg #[Value.int IntKind.i64 qh, Value.int IntKind.u64 ql], Value.agg #[Value.int IntKind.i64 0, Value.int IntKind.u64 1]] { n := 12, objs := [AObj.cells [Value.int IntKind.i64 qh, Value.int IntKind.u64 ql] 24 0 1, AObj.cells [Value.int IntKind.i64 h, Value.int IntKind.u64 l] 24 0 1, AObj.dead, AObj.dead, AObj.dead, AObj.dead, AObj.cells kpPow e 6 1, AObj.dead, AObj.dead, AObj.dead, AObj.dead, AObj.dead] } = some (Value.agg #[Value.int IntKind.i64 xh, Value.int IntKind.u64 xl], { n := 12, objs := [AObj.cells [Value.int IntKind.i64 qh, Value.int IntKind.u64 ql] 24 0 1, AObj.cells [Value.int IntKind.i64 h, Value.int IntKind.u64 l] 24 0 1, AObj.dead, AObj.dead, AObj.dead, AObj.dead, AObj.cells kpPow e 6 1, AObj.dead, AObj.dead, AObj.dead, AObj.dead, AObj.dead] }, []),
    Value.int IntKind.u64 (IntKind.wrap IntKind.u64 ((1000000000000000000 : Int) - (↑r : Int))) = Value.int IntKind.u64 (↑s : Int),
    evCall Tryz.prog 10 (bodied Tryz.prog) ovD sbs 1000 19 16 [Value.int IntKind.u64 (↑s : Int)] { n := 12, objs := [AObj.cells [Value.int IntKind.i64 xh, Value.int IntKind.u64 xl] 24 0 1, AObj.cells [Value.int IntKind.i64 h, Value.int IntKind.u64 l] 24 0 1, AObj.dead, AObj.dead, AObj.dead, AObj.dead, AObj.cells kpPow e 6 1, AObj.dead, AObj.dead, AObj.dead, AObj.dead, AObj.dead] } = some (Value.string lo, { n := 12, objs := [AObj.cells [Value.int IntKind.i64 xh, Value.int IntKind.u64 xl] 24 0 1, AObj.cells [Value.int IntKind.i64 h, Value.int IntKind.u64 l] 24 0 1, AObj.dead, AObj.dead, AObj.dead, AObj.dead, AObj.cells kpPow e 6 1, AObj.dead, AObj.dead, AObj.dead, AObj.dead, AObj.dead] }, []),
    evCall Tryz.prog 10 (bodied Tryz.prog) ovD sbs 1000 19 6 [Value.agg #[Value.int IntKind.i64 xh, Value.int IntKind.u64 xl]] { n := 12, objs := [AObj.cells [Value.int IntKind.i64 xh, Value.int IntKind.u64 xl] 24 0 1, AObj.cells [Value.int IntKind.i64 h, Value.int IntKind.u64 l] 24 0 1, AObj.dead, AObj.dead, AObj.dead, AObj.dead, AObj.cells kpPow e 6 1, AObj.dead, AObj.dead, AObj.dead, AObj.dead, AObj.dead] } = some (Value.string t, { n := 12, objs := [AObj.cells [Value.int IntKind.i64 xh, Value.int IntKind.u64 xl] 24 0 1, AObj.cells [Value.int IntKind.i64 h, Value.int IntKind.u64 l] 24 0 1, AObj.dead, AObj.dead, AObj.dead, AObj.dead, AObj.cells kpPow e 6 1, AObj.dead, AObj.dead, AObj.dead, AObj.dead, AObj.dead] }, []),
    Value.int IntKind.i64 (IntKind.wrap IntKind.i64 ((18 : Int) - (↑(ByteArray.size lo) : Int))) = Value.int IntKind.i64 (↑k : Int),
    evCall Tryz.prog 10 (bodied Tryz.prog) ovD sbs 1000 19 26 [Value.string { data := #[48] }, Value.int IntKind.i64 (↑k : Int)] { n := 12, objs := [AObj.cells [Value.int IntKind.i64 xh, Value.int IntKind.u64 xl] 24 0 1, AObj.cells [Value.int IntKind.i64 h, Value.int IntKind.u64 l] 24 0 1, AObj.dead, AObj.dead, AObj.dead, AObj.dead, AObj.cells kpPow e 6 1, AObj.dead, AObj.dead, AObj.dead, AObj.dead, AObj.dead] } = some (Value.string z, { n := 12, objs := [AObj.cells [Value.int IntKind.i64 xh, Value.int IntKind.u64 xl] 24 0 1, AObj.cells [Value.int IntKind.i64 h, Value.int IntKind.u64 l] 24 0 1, AObj.dead, AObj.dead, AObj.dead, AObj.dead, AObj.cells kpPow e 6 1, AObj.dead, AObj.dead, AObj.dead, AObj.dead, AObj.dead] }, []),
    ByteArray.size t + ByteArray.size z ≤ (9223372036854775807 : Nat),
    Value.string (t ++ z) = Value.string c1,
    ByteArray.size c1 + ByteArray.size lo ≤ (9223372036854775807 : Nat),
    Value.string (c1 ++ lo) = Value.string c2] (by kernel_rfl)
    ⟨by first | exact Dg.vtrue (by omega) | exact Dg.vfalse (by omega), Dg.vfalse (by omega), dDiv h1, by first | exact Dg.vtrue (by omega) | exact Dg.vfalse (by omega), by first | exact Dg.vtrue (by omega) | exact Dg.vfalse (by omega), dOf h5, dAdd h6, wu (by omega), dUns (by omega) hlo ⟨_, rfl⟩, ht, wi (by omega), dRep hz, sz1, by rw [e1], sz2, by rw [e2], trivial⟩
--> dw_n120
--< dw_px19
theorem dw_px19 (e : TypeId) (a1 : Int) (a2 : Int) (b1 : Int) (b2 : Int) (l : Int) (qh : Int) (ql : Int) (r : Nat) (h : Int) (hh : 1 ≤ h) (hl : 0 ≤ l) (h1 : p4 23 [wd h l, Value.int IntKind.u64 1000000000000000000] = some (Value.tuple #[wd qh ql, Value.int IntKind.u64 (↑r : Int), Value.bool true])) (hr : r < 18446744073709551616) (t : ByteArray) (lo : ByteArray) (z : ByteArray) (c1 : ByteArray) (c2 : ByteArray) (k : Nat) (hlo : lo = { data := List.toArray (Lib.decDigits r) }) (hk : ByteArray.size lo + k = 18) (ht : evCall Tryz.prog 10 (bodied Tryz.prog) ovD sbs 1000 18 6 [wd qh ql] (Hx e [oW qh ql, oW h l, oW a1 a2, oW b1 b2]) = some (Value.string t, Hx e [oW qh ql, oW h l, oW a1 a2, oW b1 b2], [])) (hz : p4 26 [Value.string { data := #[48] }, Value.int IntKind.i64 (↑k : Int)] = some (Value.string z)) (e1 : t ++ z = c1) (e2 : c1 ++ lo = c2) (sz1 : ByteArray.size t + ByteArray.size z ≤ 9223372036854775807) (sz2 : ByteArray.size c1 + ByteArray.size lo ≤ 9223372036854775807) :
    evCall Tryz.prog 10 (bodied Tryz.prog) ovD sbs 1000 19 6 [wd h l] (Hx e [oW a1 a2, oW b1 b2]) = some (Value.string c2, { n := 12, objs := [AObj.cells [Value.int IntKind.i64 a1, Value.int IntKind.u64 a2] 24 0 1, AObj.cells [Value.int IntKind.i64 b1, Value.int IntKind.u64 b2] 24 0 1, AObj.dead, AObj.dead, AObj.dead, AObj.dead, AObj.cells kpPow e 6 1, AObj.dead, AObj.dead, AObj.dead, AObj.dead, AObj.dead] }, []) :=
  Dg.evCall_hint (hs' := []) (hs := [Hint.val 6 9 (Value.bool true),
    Hint.val 6 13 (Value.bool false),
    Hint.val 6 18 (Value.bool false),
    Hint.call 23 (Value.tuple { toList := [Value.agg #[Value.int IntKind.i64 qh, Value.int IntKind.u64 ql], Value.int IntKind.u64 (↑r : Int), Value.bool true] }) { n := 13, objs := [AObj.cells [Value.int IntKind.i64 h, Value.int IntKind.u64 l] 24 0 1, AObj.cells [Value.int IntKind.i64 a1, Value.int IntKind.u64 a2] 24 0 1, AObj.cells [Value.int IntKind.i64 b1, Value.int IntKind.u64 b2] 24 0 1, AObj.dead, AObj.dead, AObj.dead, AObj.dead, AObj.cells kpPow e 6 1, AObj.dead, AObj.dead, AObj.dead, AObj.dead, AObj.dead] } [],
    Hint.val 6 43 (Value.bool false),
    Hint.call 16 (Value.string lo) { n := 14, objs := [AObj.cells [Value.int IntKind.i64 qh, Value.int IntKind.u64 ql] 24 0 1, AObj.cells [Value.int IntKind.i64 h, Value.int IntKind.u64 l] 24 0 1, AObj.cells [Value.int IntKind.i64 a1, Value.int IntKind.u64 a2] 24 0 1, AObj.cells [Value.int IntKind.i64 b1, Value.int IntKind.u64 b2] 24 0 1, AObj.dead, AObj.dead, AObj.dead, AObj.dead, AObj.cells kpPow e 6 1, AObj.dead, AObj.dead, AObj.dead, AObj.dead, AObj.dead] } [],
    Hint.call 6 (Value.string t) { n := 14, objs := [AObj.cells [Value.int IntKind.i64 qh, Value.int IntKind.u64 ql] 24 0 1, AObj.cells [Value.int IntKind.i64 h, Value.int IntKind.u64 l] 24 0 1, AObj.cells [Value.int IntKind.i64 a1, Value.int IntKind.u64 a2] 24 0 1, AObj.cells [Value.int IntKind.i64 b1, Value.int IntKind.u64 b2] 24 0 1, AObj.dead, AObj.dead, AObj.dead, AObj.dead, AObj.cells kpPow e 6 1, AObj.dead, AObj.dead, AObj.dead, AObj.dead, AObj.dead] } [],
    Hint.val 6 59 (Value.int IntKind.i64 (↑k : Int)),
    Hint.call 26 (Value.string z) { n := 14, objs := [AObj.cells [Value.int IntKind.i64 qh, Value.int IntKind.u64 ql] 24 0 1, AObj.cells [Value.int IntKind.i64 h, Value.int IntKind.u64 l] 24 0 1, AObj.cells [Value.int IntKind.i64 a1, Value.int IntKind.u64 a2] 24 0 1, AObj.cells [Value.int IntKind.i64 b1, Value.int IntKind.u64 b2] 24 0 1, AObj.dead, AObj.dead, AObj.dead, AObj.dead, AObj.cells kpPow e 6 1, AObj.dead, AObj.dead, AObj.dead, AObj.dead, AObj.dead] } [],
    Hint.soft 6 61 (Value.string c1),
    Hint.soft 6 63 (Value.string c2)])
    [Value.bool (decide (h ≥ (0 : Int))) = Value.bool true,
    Value.bool (decide (h < (1 : Int))) = Value.bool false,
    Value.bool (h == (-1 : Int)) = Value.bool false,
    evCall Tryz.prog 10 (bodied Tryz.prog) ovD sbs 1000 18 23 [Value.agg #[Value.int IntKind.i64 h, Value.int IntKind.u64 l], Value.int IntKind.u64 1000000000000000000] { n := 13, objs := [AObj.cells [Value.int IntKind.i64 h, Value.int IntKind.u64 l] 24 0 1, AObj.cells [Value.int IntKind.i64 a1, Value.int IntKind.u64 a2] 24 0 1, AObj.cells [Value.int IntKind.i64 b1, Value.int IntKind.u64 b2] 24 0 1, AObj.dead, AObj.dead, AObj.dead, AObj.dead, AObj.cells kpPow e 6 1, AObj.dead, AObj.dead, AObj.dead, AObj.dead, AObj.dead] } = some (Value.tuple { toList := [Value.agg #[Value.int IntKind.i64 qh, Value.int IntKind.u64 ql], Value.int IntKind.u64 (↑r : Int), Value.bool true] }, { n := 13, objs := [AObj.cells [Value.int IntKind.i64 h, Value.int IntKind.u64 l] 24 0 1, AObj.cells [Value.int IntKind.i64 a1, Value.int IntKind.u64 a2] 24 0 1, AObj.cells [Value.int IntKind.i64 b1, Value.int IntKind.u64 b2] 24 0 1, AObj.dead, AObj.dead, AObj.dead, AObj.dead, AObj.cells kpPow e 6 1, AObj.dead, AObj.dead, AObj.dead, AObj.dead, AObj.dead] }, []),
    Value.bool (decide (h < (0 : Int))) = Value.bool false,
    evCall Tryz.prog 10 (bodied Tryz.prog) ovD sbs 1000 18 16 [Value.int IntKind.u64 (↑r : Int)] { n := 14, objs := [AObj.cells [Value.int IntKind.i64 qh, Value.int IntKind.u64 ql] 24 0 1, AObj.cells [Value.int IntKind.i64 h, Value.int IntKind.u64 l] 24 0 1, AObj.cells [Value.int IntKind.i64 a1, Value.int IntKind.u64 a2] 24 0 1, AObj.cells [Value.int IntKind.i64 b1, Value.int IntKind.u64 b2] 24 0 1, AObj.dead, AObj.dead, AObj.dead, AObj.dead, AObj.cells kpPow e 6 1, AObj.dead, AObj.dead, AObj.dead, AObj.dead, AObj.dead] } = some (Value.string lo, { n := 14, objs := [AObj.cells [Value.int IntKind.i64 qh, Value.int IntKind.u64 ql] 24 0 1, AObj.cells [Value.int IntKind.i64 h, Value.int IntKind.u64 l] 24 0 1, AObj.cells [Value.int IntKind.i64 a1, Value.int IntKind.u64 a2] 24 0 1, AObj.cells [Value.int IntKind.i64 b1, Value.int IntKind.u64 b2] 24 0 1, AObj.dead, AObj.dead, AObj.dead, AObj.dead, AObj.cells kpPow e 6 1, AObj.dead, AObj.dead, AObj.dead, AObj.dead, AObj.dead] }, []),
    evCall Tryz.prog 10 (bodied Tryz.prog) ovD sbs 1000 18 6 [Value.agg #[Value.int IntKind.i64 qh, Value.int IntKind.u64 ql]] { n := 14, objs := [AObj.cells [Value.int IntKind.i64 qh, Value.int IntKind.u64 ql] 24 0 1, AObj.cells [Value.int IntKind.i64 h, Value.int IntKind.u64 l] 24 0 1, AObj.cells [Value.int IntKind.i64 a1, Value.int IntKind.u64 a2] 24 0 1, AObj.cells [Value.int IntKind.i64 b1, Value.int IntKind.u64 b2] 24 0 1, AObj.dead, AObj.dead, AObj.dead, AObj.dead, AObj.cells kpPow e 6 1, AObj.dead, AObj.dead, AObj.dead, AObj.dead, AObj.dead] } = some (Value.string t, { n := 14, objs := [AObj.cells [Value.int IntKind.i64 qh, Value.int IntKind.u64 ql] 24 0 1, AObj.cells [Value.int IntKind.i64 h, Value.int IntKind.u64 l] 24 0 1, AObj.cells [Value.int IntKind.i64 a1, Value.int IntKind.u64 a2] 24 0 1, AObj.cells [Value.int IntKind.i64 b1, Value.int IntKind.u64 b2] 24 0 1, AObj.dead, AObj.dead, AObj.dead, AObj.dead, AObj.cells kpPow e 6 1, AObj.dead, AObj.dead, AObj.dead, AObj.dead, AObj.dead] }, []),
    Value.int IntKind.i64 (IntKind.wrap IntKind.i64 ((18 : Int) - (↑(ByteArray.size lo) : Int))) = Value.int IntKind.i64 (↑k : Int),
    evCall Tryz.prog 10 (bodied Tryz.prog) ovD sbs 1000 18 26 [Value.string { data := #[48] }, Value.int IntKind.i64 (↑k : Int)] { n := 14, objs := [AObj.cells [Value.int IntKind.i64 qh, Value.int IntKind.u64 ql] 24 0 1, AObj.cells [Value.int IntKind.i64 h, Value.int IntKind.u64 l] 24 0 1, AObj.cells [Value.int IntKind.i64 a1, Value.int IntKind.u64 a2] 24 0 1, AObj.cells [Value.int IntKind.i64 b1, Value.int IntKind.u64 b2] 24 0 1, AObj.dead, AObj.dead, AObj.dead, AObj.dead, AObj.cells kpPow e 6 1, AObj.dead, AObj.dead, AObj.dead, AObj.dead, AObj.dead] } = some (Value.string z, { n := 14, objs := [AObj.cells [Value.int IntKind.i64 qh, Value.int IntKind.u64 ql] 24 0 1, AObj.cells [Value.int IntKind.i64 h, Value.int IntKind.u64 l] 24 0 1, AObj.cells [Value.int IntKind.i64 a1, Value.int IntKind.u64 a2] 24 0 1, AObj.cells [Value.int IntKind.i64 b1, Value.int IntKind.u64 b2] 24 0 1, AObj.dead, AObj.dead, AObj.dead, AObj.dead, AObj.cells kpPow e 6 1, AObj.dead, AObj.dead, AObj.dead, AObj.dead, AObj.dead] }, []),
    ByteArray.size t + ByteArray.size z ≤ (9223372036854775807 : Nat),
    Value.string (t ++ z) = Value.string c1,
    ByteArray.size c1 + ByteArray.size lo ≤ (9223372036854775807 : Nat),
    Value.string (c1 ++ lo) = Value.string c2] (by kernel_rfl)
    ⟨by first | exact Dg.vtrue (by omega) | exact Dg.vfalse (by omega), by first | exact Dg.vtrue (by omega) | exact Dg.vfalse (by omega), Dg.vfalse (by omega), dDiv h1, by first | exact Dg.vtrue (by omega) | exact Dg.vfalse (by omega), dUns (by omega) hlo ⟨_, rfl⟩, ht, wi (by omega), dRep hz, sz1, by rw [e1], sz2, by rw [e2], trivial⟩
--> dw_px19
--< dw_m019
theorem dw_m019 (e : TypeId) (a1 : Int) (a2 : Int) (b1 : Int) (b2 : Int) (l : Int) (qh : Int) (ql : Int) (r : Nat) (hl : 0 ≤ l ∧ l < 9223372036854775808) (h1 : p4 23 [wd (-1) l, Value.int IntKind.u64 1000000000000000000] = some (Value.tuple #[wd qh ql, Value.int IntKind.u64 (↑r : Int), Value.bool true])) (hr : r = 0) (t : ByteArray) (lo : ByteArray) (z : ByteArray) (c1 : ByteArray) (c2 : ByteArray) (k : Nat) (hlo : lo = { data := List.toArray (Lib.decDigits r) }) (hk : ByteArray.size lo + k = 18) (ht : evCall Tryz.prog 10 (bodied Tryz.prog) ovD sbs 1000 18 6 [wd qh ql] (Hx e [oW qh ql, oW (-1) l, oW a1 a2, oW b1 b2]) = some (Value.string t, Hx e [oW qh ql, oW (-1) l, oW a1 a2, oW b1 b2], [])) (hz : p4 26 [Value.string { data := #[48] }, Value.int IntKind.i64 (↑k : Int)] = some (Value.string z)) (e1 : t ++ z = c1) (e2 : c1 ++ lo = c2) (sz1 : ByteArray.size t + ByteArray.size z ≤ 9223372036854775807) (sz2 : ByteArray.size c1 + ByteArray.size lo ≤ 9223372036854775807) :
    evCall Tryz.prog 10 (bodied Tryz.prog) ovD sbs 1000 19 6 [wd (-1) l] (Hx e [oW a1 a2, oW b1 b2]) = some (Value.string c2, { n := 12, objs := [AObj.cells [Value.int IntKind.i64 a1, Value.int IntKind.u64 a2] 24 0 1, AObj.cells [Value.int IntKind.i64 b1, Value.int IntKind.u64 b2] 24 0 1, AObj.dead, AObj.dead, AObj.dead, AObj.dead, AObj.cells kpPow e 6 1, AObj.dead, AObj.dead, AObj.dead, AObj.dead, AObj.dead] }, []) :=
  Dg.evCall_hint (hs' := []) (hs := [Hint.val 6 22 (Value.bool false),
    Hint.call 23 (Value.tuple { toList := [Value.agg #[Value.int IntKind.i64 qh, Value.int IntKind.u64 ql], Value.int IntKind.u64 (↑r : Int), Value.bool true] }) { n := 13, objs := [AObj.cells [Value.int IntKind.i64 (-1), Value.int IntKind.u64 l] 24 0 1, AObj.cells [Value.int IntKind.i64 a1, Value.int IntKind.u64 a2] 24 0 1, AObj.cells [Value.int IntKind.i64 b1, Value.int IntKind.u64 b2] 24 0 1, AObj.dead, AObj.dead, AObj.dead, AObj.dead, AObj.cells kpPow e 6 1, AObj.dead, AObj.dead, AObj.dead, AObj.dead, AObj.dead] } [],
    Hint.val 6 46 (Value.bool false),
    Hint.call 16 (Value.string lo) { n := 14, objs := [AObj.cells [Value.int IntKind.i64 qh, Value.int IntKind.u64 ql] 24 0 1, AObj.cells [Value.int IntKind.i64 (-1), Value.int IntKind.u64 l] 24 0 1, AObj.cells [Value.int IntKind.i64 a1, Value.int IntKind.u64 a2] 24 0 1, AObj.cells [Value.int IntKind.i64 b1, Value.int IntKind.u64 b2] 24 0 1, AObj.dead, AObj.dead, AObj.dead, AObj.dead, AObj.cells kpPow e 6 1, AObj.dead, AObj.dead, AObj.dead, AObj.dead, AObj.dead] } [],
    Hint.call 6 (Value.string t) { n := 14, objs := [AObj.cells [Value.int IntKind.i64 qh, Value.int IntKind.u64 ql] 24 0 1, AObj.cells [Value.int IntKind.i64 (-1), Value.int IntKind.u64 l] 24 0 1, AObj.cells [Value.int IntKind.i64 a1, Value.int IntKind.u64 a2] 24 0 1, AObj.cells [Value.int IntKind.i64 b1, Value.int IntKind.u64 b2] 24 0 1, AObj.dead, AObj.dead, AObj.dead, AObj.dead, AObj.cells kpPow e 6 1, AObj.dead, AObj.dead, AObj.dead, AObj.dead, AObj.dead] } [],
    Hint.val 6 59 (Value.int IntKind.i64 (↑k : Int)),
    Hint.call 26 (Value.string z) { n := 14, objs := [AObj.cells [Value.int IntKind.i64 qh, Value.int IntKind.u64 ql] 24 0 1, AObj.cells [Value.int IntKind.i64 (-1), Value.int IntKind.u64 l] 24 0 1, AObj.cells [Value.int IntKind.i64 a1, Value.int IntKind.u64 a2] 24 0 1, AObj.cells [Value.int IntKind.i64 b1, Value.int IntKind.u64 b2] 24 0 1, AObj.dead, AObj.dead, AObj.dead, AObj.dead, AObj.cells kpPow e 6 1, AObj.dead, AObj.dead, AObj.dead, AObj.dead, AObj.dead] } [],
    Hint.soft 6 61 (Value.string c1),
    Hint.soft 6 63 (Value.string c2)])
    [Value.bool (decide (l ≥ (9223372036854775808 : Int))) = Value.bool false,
    evCall Tryz.prog 10 (bodied Tryz.prog) ovD sbs 1000 18 23 [Value.agg #[Value.int IntKind.i64 (-1), Value.int IntKind.u64 l], Value.int IntKind.u64 1000000000000000000] { n := 13, objs := [AObj.cells [Value.int IntKind.i64 (-1), Value.int IntKind.u64 l] 24 0 1, AObj.cells [Value.int IntKind.i64 a1, Value.int IntKind.u64 a2] 24 0 1, AObj.cells [Value.int IntKind.i64 b1, Value.int IntKind.u64 b2] 24 0 1, AObj.dead, AObj.dead, AObj.dead, AObj.dead, AObj.cells kpPow e 6 1, AObj.dead, AObj.dead, AObj.dead, AObj.dead, AObj.dead] } = some (Value.tuple { toList := [Value.agg #[Value.int IntKind.i64 qh, Value.int IntKind.u64 ql], Value.int IntKind.u64 (↑r : Int), Value.bool true] }, { n := 13, objs := [AObj.cells [Value.int IntKind.i64 (-1), Value.int IntKind.u64 l] 24 0 1, AObj.cells [Value.int IntKind.i64 a1, Value.int IntKind.u64 a2] 24 0 1, AObj.cells [Value.int IntKind.i64 b1, Value.int IntKind.u64 b2] 24 0 1, AObj.dead, AObj.dead, AObj.dead, AObj.dead, AObj.cells kpPow e 6 1, AObj.dead, AObj.dead, AObj.dead, AObj.dead, AObj.dead] }, []),
    Value.bool (decide ((↑r : Int) > (0 : Int))) = Value.bool false,
    evCall Tryz.prog 10 (bodied Tryz.prog) ovD sbs 1000 18 16 [Value.int IntKind.u64 (↑r : Int)] { n := 14, objs := [AObj.cells [Value.int IntKind.i64 qh, Value.int IntKind.u64 ql] 24 0 1, AObj.cells [Value.int IntKind.i64 (-1), Value.int IntKind.u64 l] 24 0 1, AObj.cells [Value.int IntKind.i64 a1, Value.int IntKind.u64 a2] 24 0 1, AObj.cells [Value.int IntKind.i64 b1, Value.int IntKind.u64 b2] 24 0 1, AObj.dead, AObj.dead, AObj.dead, AObj.dead, AObj.cells kpPow e 6 1, AObj.dead, AObj.dead, AObj.dead, AObj.dead, AObj.dead] } = some (Value.string lo, { n := 14, objs := [AObj.cells [Value.int IntKind.i64 qh, Value.int IntKind.u64 ql] 24 0 1, AObj.cells [Value.int IntKind.i64 (-1), Value.int IntKind.u64 l] 24 0 1, AObj.cells [Value.int IntKind.i64 a1, Value.int IntKind.u64 a2] 24 0 1, AObj.cells [Value.int IntKind.i64 b1, Value.int IntKind.u64 b2] 24 0 1, AObj.dead, AObj.dead, AObj.dead, AObj.dead, AObj.cells kpPow e 6 1, AObj.dead, AObj.dead, AObj.dead, AObj.dead, AObj.dead] }, []),
    evCall Tryz.prog 10 (bodied Tryz.prog) ovD sbs 1000 18 6 [Value.agg #[Value.int IntKind.i64 qh, Value.int IntKind.u64 ql]] { n := 14, objs := [AObj.cells [Value.int IntKind.i64 qh, Value.int IntKind.u64 ql] 24 0 1, AObj.cells [Value.int IntKind.i64 (-1), Value.int IntKind.u64 l] 24 0 1, AObj.cells [Value.int IntKind.i64 a1, Value.int IntKind.u64 a2] 24 0 1, AObj.cells [Value.int IntKind.i64 b1, Value.int IntKind.u64 b2] 24 0 1, AObj.dead, AObj.dead, AObj.dead, AObj.dead, AObj.cells kpPow e 6 1, AObj.dead, AObj.dead, AObj.dead, AObj.dead, AObj.dead] } = some (Value.string t, { n := 14, objs := [AObj.cells [Value.int IntKind.i64 qh, Value.int IntKind.u64 ql] 24 0 1, AObj.cells [Value.int IntKind.i64 (-1), Value.int IntKind.u64 l] 24 0 1, AObj.cells [Value.int IntKind.i64 a1, Value.int IntKind.u64 a2] 24 0 1, AObj.cells [Value.int IntKind.i64 b1, Value.int IntKind.u64 b2] 24 0 1, AObj.dead, AObj.dead, AObj.dead, AObj.dead, AObj.cells kpPow e 6 1, AObj.dead, AObj.dead, AObj.dead, AObj.dead, AObj.dead] }, []),
    Value.int IntKind.i64 (IntKind.wrap IntKind.i64 ((18 : Int) - (↑(ByteArray.size lo) : Int))) = Value.int IntKind.i64 (↑k : Int),
    evCall Tryz.prog 10 (bodied Tryz.prog) ovD sbs 1000 18 26 [Value.string { data := #[48] }, Value.int IntKind.i64 (↑k : Int)] { n := 14, objs := [AObj.cells [Value.int IntKind.i64 qh, Value.int IntKind.u64 ql] 24 0 1, AObj.cells [Value.int IntKind.i64 (-1), Value.int IntKind.u64 l] 24 0 1, AObj.cells [Value.int IntKind.i64 a1, Value.int IntKind.u64 a2] 24 0 1, AObj.cells [Value.int IntKind.i64 b1, Value.int IntKind.u64 b2] 24 0 1, AObj.dead, AObj.dead, AObj.dead, AObj.dead, AObj.cells kpPow e 6 1, AObj.dead, AObj.dead, AObj.dead, AObj.dead, AObj.dead] } = some (Value.string z, { n := 14, objs := [AObj.cells [Value.int IntKind.i64 qh, Value.int IntKind.u64 ql] 24 0 1, AObj.cells [Value.int IntKind.i64 (-1), Value.int IntKind.u64 l] 24 0 1, AObj.cells [Value.int IntKind.i64 a1, Value.int IntKind.u64 a2] 24 0 1, AObj.cells [Value.int IntKind.i64 b1, Value.int IntKind.u64 b2] 24 0 1, AObj.dead, AObj.dead, AObj.dead, AObj.dead, AObj.cells kpPow e 6 1, AObj.dead, AObj.dead, AObj.dead, AObj.dead, AObj.dead] }, []),
    ByteArray.size t + ByteArray.size z ≤ (9223372036854775807 : Nat),
    Value.string (t ++ z) = Value.string c1,
    ByteArray.size c1 + ByteArray.size lo ≤ (9223372036854775807 : Nat),
    Value.string (c1 ++ lo) = Value.string c2] (by kernel_rfl)
    ⟨by first | exact Dg.vtrue (by omega) | exact Dg.vfalse (by omega), dDiv h1, by first | exact Dg.vtrue (by omega) | exact Dg.vfalse (by omega), dUns (by omega) hlo ⟨_, rfl⟩, ht, wi (by omega), dRep hz, sz1, by rw [e1], sz2, by rw [e2], trivial⟩
--> dw_m019
--< dw_m119
theorem dw_m119 (e : TypeId) (a1 : Int) (a2 : Int) (b1 : Int) (b2 : Int) (l : Int) (qh : Int) (ql : Int) (r : Nat) (hl : 0 ≤ l ∧ l < 9223372036854775808) (h1 : p4 23 [wd (-1) l, Value.int IntKind.u64 1000000000000000000] = some (Value.tuple #[wd qh ql, Value.int IntKind.u64 (↑r : Int), Value.bool true])) (hr : 0 < r ∧ r < 1000000000000000000) (xh : Int) (xl : Int) (s : Nat) (es : 1000000000000000000 - (↑r : Int) = (↑s : Int)) (h5 : p4 25 [Value.int IntKind.i64 1] = some (wd 0 1)) (h6 : p4 24 [wd qh ql, wd 0 1] = some (wd xh xl)) (t : ByteArray) (lo : ByteArray) (z : ByteArray) (c1 : ByteArray) (c2 : ByteArray) (k : Nat) (hlo : lo = { data := List.toArray (Lib.decDigits s) }) (hk : ByteArray.size lo + k = 18) (ht : evCall Tryz.prog 10 (bodied Tryz.prog) ovD sbs 1000 18 6 [wd xh xl] (Hx e [oW xh xl, oW (-1) l, oW a1 a2, oW b1 b2]) = some (Value.string t, Hx e [oW xh xl, oW (-1) l, oW a1 a2, oW b1 b2], [])) (hz : p4 26 [Value.string { data := #[48] }, Value.int IntKind.i64 (↑k : Int)] = some (Value.string z)) (e1 : t ++ z = c1) (e2 : c1 ++ lo = c2) (sz1 : ByteArray.size t + ByteArray.size z ≤ 9223372036854775807) (sz2 : ByteArray.size c1 + ByteArray.size lo ≤ 9223372036854775807) :
    evCall Tryz.prog 10 (bodied Tryz.prog) ovD sbs 1000 19 6 [wd (-1) l] (Hx e [oW a1 a2, oW b1 b2]) = some (Value.string c2, { n := 12, objs := [AObj.cells [Value.int IntKind.i64 a1, Value.int IntKind.u64 a2] 24 0 1, AObj.cells [Value.int IntKind.i64 b1, Value.int IntKind.u64 b2] 24 0 1, AObj.dead, AObj.dead, AObj.dead, AObj.dead, AObj.cells kpPow e 6 1, AObj.dead, AObj.dead, AObj.dead, AObj.dead, AObj.dead] }, []) :=
  Dg.evCall_hint (hs' := []) (hs := [Hint.val 6 22 (Value.bool false),
    Hint.call 23 (Value.tuple { toList := [Value.agg #[Value.int IntKind.i64 qh, Value.int IntKind.u64 ql], Value.int IntKind.u64 (↑r : Int), Value.bool true] }) { n := 13, objs := [AObj.cells [Value.int IntKind.i64 (-1), Value.int IntKind.u64 l] 24 0 1, AObj.cells [Value.int IntKind.i64 a1, Value.int IntKind.u64 a2] 24 0 1, AObj.cells [Value.int IntKind.i64 b1, Value.int IntKind.u64 b2] 24 0 1, AObj.dead, AObj.dead, AObj.dead, AObj.dead, AObj.cells kpPow e 6 1, AObj.dead, AObj.dead, AObj.dead, AObj.dead, AObj.dead] } [],
    Hint.val 6 46 (Value.bool true),
    Hint.call 25 (Value.agg #[Value.int IntKind.i64 0, Value.int IntKind.u64 1]) { n := 10, objs := [AObj.dead, AObj.dead, AObj.dead, AObj.dead, AObj.dead, AObj.dead, AObj.dead, AObj.dead, AObj.dead, AObj.dead] } [],
    Hint.call 24 (Value.agg #[Value.int IntKind.i64 xh, Value.int IntKind.u64 xl]) { n := 14, objs := [AObj.cells [Value.int IntKind.i64 qh, Value.int IntKind.u64 ql] 24 0 1, AObj.cells [Value.int IntKind.i64 (-1), Value.int IntKind.u64 l] 24 0 1, AObj.cells [Value.int IntKind.i64 a1, Value.int IntKind.u64 a2] 24 0 1, AObj.cells [Value.int IntKind.i64 b1, Value.int IntKind.u64 b2] 24 0 1, AObj.dead, AObj.dead, AObj.dead, AObj.dead, AObj.cells kpPow e 6 1, AObj.dead, AObj.dead, AObj.dead, AObj.dead, AObj.dead] } [],
    Hint.val 6 52 (Value.int IntKind.u64 (↑s : Int)),
    Hint.call 16 (Value.string lo) { n := 14, objs := [AObj.cells [Value.int IntKind.i64 xh, Value.int IntKind.u64 xl] 24 0 1, AObj.cells [Value.int IntKind.i64 (-1), Value.int IntKind.u64 l] 24 0 1, AObj.cells [Value.int IntKind.i64 a1, Value.int IntKind.u64 a2] 24 0 1, AObj.cells [Value.int IntKind.i64 b1, Value.int IntKind.u64 b2] 24 0 1, AObj.dead, AObj.dead, AObj.dead, AObj.dead, AObj.cells kpPow e 6 1, AObj.dead, AObj.dead, AObj.dead, AObj.dead, AObj.dead] } [],
    Hint.call 6 (Value.string t) { n := 14, objs := [AObj.cells [Value.int IntKind.i64 xh, Value.int IntKind.u64 xl] 24 0 1, AObj.cells [Value.int IntKind.i64 (-1), Value.int IntKind.u64 l] 24 0 1, AObj.cells [Value.int IntKind.i64 a1, Value.int IntKind.u64 a2] 24 0 1, AObj.cells [Value.int IntKind.i64 b1, Value.int IntKind.u64 b2] 24 0 1, AObj.dead, AObj.dead, AObj.dead, AObj.dead, AObj.cells kpPow e 6 1, AObj.dead, AObj.dead, AObj.dead, AObj.dead, AObj.dead] } [],
    Hint.val 6 59 (Value.int IntKind.i64 (↑k : Int)),
    Hint.call 26 (Value.string z) { n := 14, objs := [AObj.cells [Value.int IntKind.i64 xh, Value.int IntKind.u64 xl] 24 0 1, AObj.cells [Value.int IntKind.i64 (-1), Value.int IntKind.u64 l] 24 0 1, AObj.cells [Value.int IntKind.i64 a1, Value.int IntKind.u64 a2] 24 0 1, AObj.cells [Value.int IntKind.i64 b1, Value.int IntKind.u64 b2] 24 0 1, AObj.dead, AObj.dead, AObj.dead, AObj.dead, AObj.cells kpPow e 6 1, AObj.dead, AObj.dead, AObj.dead, AObj.dead, AObj.dead] } [],
    Hint.soft 6 61 (Value.string c1),
    Hint.soft 6 63 (Value.string c2)])
    [Value.bool (decide (l ≥ (9223372036854775808 : Int))) = Value.bool false,
    evCall Tryz.prog 10 (bodied Tryz.prog) ovD sbs 1000 18 23 [Value.agg #[Value.int IntKind.i64 (-1), Value.int IntKind.u64 l], Value.int IntKind.u64 1000000000000000000] { n := 13, objs := [AObj.cells [Value.int IntKind.i64 (-1), Value.int IntKind.u64 l] 24 0 1, AObj.cells [Value.int IntKind.i64 a1, Value.int IntKind.u64 a2] 24 0 1, AObj.cells [Value.int IntKind.i64 b1, Value.int IntKind.u64 b2] 24 0 1, AObj.dead, AObj.dead, AObj.dead, AObj.dead, AObj.cells kpPow e 6 1, AObj.dead, AObj.dead, AObj.dead, AObj.dead, AObj.dead] } = some (Value.tuple { toList := [Value.agg #[Value.int IntKind.i64 qh, Value.int IntKind.u64 ql], Value.int IntKind.u64 (↑r : Int), Value.bool true] }, { n := 13, objs := [AObj.cells [Value.int IntKind.i64 (-1), Value.int IntKind.u64 l] 24 0 1, AObj.cells [Value.int IntKind.i64 a1, Value.int IntKind.u64 a2] 24 0 1, AObj.cells [Value.int IntKind.i64 b1, Value.int IntKind.u64 b2] 24 0 1, AObj.dead, AObj.dead, AObj.dead, AObj.dead, AObj.cells kpPow e 6 1, AObj.dead, AObj.dead, AObj.dead, AObj.dead, AObj.dead] }, []),
    Value.bool (decide ((↑r : Int) > (0 : Int))) = Value.bool true,
    evCall Tryz.prog 10 (bodied Tryz.prog) ovD sbs 1000 18 25 [Value.int IntKind.i64 1] { n := 10, objs := [AObj.dead, AObj.dead, AObj.dead, AObj.dead, AObj.dead, AObj.dead, AObj.dead, AObj.dead, AObj.dead, AObj.dead] } = some (Value.agg #[Value.int IntKind.i64 0, Value.int IntKind.u64 1], { n := 10, objs := [AObj.dead, AObj.dead, AObj.dead, AObj.dead, AObj.dead, AObj.dead, AObj.dead, AObj.dead, AObj.dead, AObj.dead] }, []),
    evCall Tryz.prog 10 (bodied Tryz.prog) ovD sbs 1000 18 24 [Value.agg #[Value.int IntKind.i64 qh, Value.int IntKind.u64 ql], Value.agg #[Value.int IntKind.i64 0, Value.int IntKind.u64 1]] { n := 14, objs := [AObj.cells [Value.int IntKind.i64 qh, Value.int IntKind.u64 ql] 24 0 1, AObj.cells [Value.int IntKind.i64 (-1), Value.int IntKind.u64 l] 24 0 1, AObj.cells [Value.int IntKind.i64 a1, Value.int IntKind.u64 a2] 24 0 1, AObj.cells [Value.int IntKind.i64 b1, Value.int IntKind.u64 b2] 24 0 1, AObj.dead, AObj.dead, AObj.dead, AObj.dead, AObj.cells kpPow e 6 1, AObj.dead, AObj.dead, AObj.dead, AObj.dead, AObj.dead] } = some (Value.agg #[Value.int IntKind.i64 xh, Value.int IntKind.u64 xl], { n := 14, objs := [AObj.cells [Value.int IntKind.i64 qh, Value.int IntKind.u64 ql] 24 0 1, AObj.cells [Value.int IntKind.i64 (-1), Value.int IntKind.u64 l] 24 0 1, AObj.cells [Value.int IntKind.i64 a1, Value.int IntKind.u64 a2] 24 0 1, AObj.cells [Value.int IntKind.i64 b1, Value.int IntKind.u64 b2] 24 0 1, AObj.dead, AObj.dead, AObj.dead, AObj.dead, AObj.cells kpPow e 6 1, AObj.dead, AObj.dead, AObj.dead, AObj.dead, AObj.dead] }, []),
    Value.int IntKind.u64 (IntKind.wrap IntKind.u64 ((1000000000000000000 : Int) - (↑r : Int))) = Value.int IntKind.u64 (↑s : Int),
    evCall Tryz.prog 10 (bodied Tryz.prog) ovD sbs 1000 18 16 [Value.int IntKind.u64 (↑s : Int)] { n := 14, objs := [AObj.cells [Value.int IntKind.i64 xh, Value.int IntKind.u64 xl] 24 0 1, AObj.cells [Value.int IntKind.i64 (-1), Value.int IntKind.u64 l] 24 0 1, AObj.cells [Value.int IntKind.i64 a1, Value.int IntKind.u64 a2] 24 0 1, AObj.cells [Value.int IntKind.i64 b1, Value.int IntKind.u64 b2] 24 0 1, AObj.dead, AObj.dead, AObj.dead, AObj.dead, AObj.cells kpPow e 6 1, AObj.dead, AObj.dead, AObj.dead, AObj.dead, AObj.dead] } = some (Value.string lo, { n := 14, objs := [AObj.cells [Value.int IntKind.i64 xh, Value.int IntKind.u64 xl] 24 0 1, AObj.cells [Value.int IntKind.i64 (-1), Value.int IntKind.u64 l] 24 0 1, AObj.cells [Value.int IntKind.i64 a1, Value.int IntKind.u64 a2] 24 0 1, AObj.cells [Value.int IntKind.i64 b1, Value.int IntKind.u64 b2] 24 0 1, AObj.dead, AObj.dead, AObj.dead, AObj.dead, AObj.cells kpPow e 6 1, AObj.dead, AObj.dead, AObj.dead, AObj.dead, AObj.dead] }, []),
    evCall Tryz.prog 10 (bodied Tryz.prog) ovD sbs 1000 18 6 [Value.agg #[Value.int IntKind.i64 xh, Value.int IntKind.u64 xl]] { n := 14, objs := [AObj.cells [Value.int IntKind.i64 xh, Value.int IntKind.u64 xl] 24 0 1, AObj.cells [Value.int IntKind.i64 (-1), Value.int IntKind.u64 l] 24 0 1, AObj.cells [Value.int IntKind.i64 a1, Value.int IntKind.u64 a2] 24 0 1, AObj.cells [Value.int IntKind.i64 b1, Value.int IntKind.u64 b2] 24 0 1, AObj.dead, AObj.dead, AObj.dead, AObj.dead, AObj.cells kpPow e 6 1, AObj.dead, AObj.dead, AObj.dead, AObj.dead, AObj.dead] } = some (Value.string t, { n := 14, objs := [AObj.cells [Value.int IntKind.i64 xh, Value.int IntKind.u64 xl] 24 0 1, AObj.cells [Value.int IntKind.i64 (-1), Value.int IntKind.u64 l] 24 0 1, AObj.cells [Value.int IntKind.i64 a1, Value.int IntKind.u64 a2] 24 0 1, AObj.cells [Value.int IntKind.i64 b1, Value.int IntKind.u64 b2] 24 0 1, AObj.dead, AObj.dead, AObj.dead, AObj.dead, AObj.cells kpPow e 6 1, AObj.dead, AObj.dead, AObj.dead, AObj.dead, AObj.dead] }, []),
    Value.int IntKind.i64 (IntKind.wrap IntKind.i64 ((18 : Int) - (↑(ByteArray.size lo) : Int))) = Value.int IntKind.i64 (↑k : Int),
    evCall Tryz.prog 10 (bodied Tryz.prog) ovD sbs 1000 18 26 [Value.string { data := #[48] }, Value.int IntKind.i64 (↑k : Int)] { n := 14, objs := [AObj.cells [Value.int IntKind.i64 xh, Value.int IntKind.u64 xl] 24 0 1, AObj.cells [Value.int IntKind.i64 (-1), Value.int IntKind.u64 l] 24 0 1, AObj.cells [Value.int IntKind.i64 a1, Value.int IntKind.u64 a2] 24 0 1, AObj.cells [Value.int IntKind.i64 b1, Value.int IntKind.u64 b2] 24 0 1, AObj.dead, AObj.dead, AObj.dead, AObj.dead, AObj.cells kpPow e 6 1, AObj.dead, AObj.dead, AObj.dead, AObj.dead, AObj.dead] } = some (Value.string z, { n := 14, objs := [AObj.cells [Value.int IntKind.i64 xh, Value.int IntKind.u64 xl] 24 0 1, AObj.cells [Value.int IntKind.i64 (-1), Value.int IntKind.u64 l] 24 0 1, AObj.cells [Value.int IntKind.i64 a1, Value.int IntKind.u64 a2] 24 0 1, AObj.cells [Value.int IntKind.i64 b1, Value.int IntKind.u64 b2] 24 0 1, AObj.dead, AObj.dead, AObj.dead, AObj.dead, AObj.cells kpPow e 6 1, AObj.dead, AObj.dead, AObj.dead, AObj.dead, AObj.dead] }, []),
    ByteArray.size t + ByteArray.size z ≤ (9223372036854775807 : Nat),
    Value.string (t ++ z) = Value.string c1,
    ByteArray.size c1 + ByteArray.size lo ≤ (9223372036854775807 : Nat),
    Value.string (c1 ++ lo) = Value.string c2] (by kernel_rfl)
    ⟨by first | exact Dg.vtrue (by omega) | exact Dg.vfalse (by omega), dDiv h1, by first | exact Dg.vtrue (by omega) | exact Dg.vfalse (by omega), dOf h5, dAdd h6, wu (by omega), dUns (by omega) hlo ⟨_, rfl⟩, ht, wi (by omega), dRep hz, sz1, by rw [e1], sz2, by rw [e2], trivial⟩
--> dw_m119
--< dw_n019
theorem dw_n019 (e : TypeId) (a1 : Int) (a2 : Int) (b1 : Int) (b2 : Int) (l : Int) (qh : Int) (ql : Int) (r : Nat) (h : Int) (hh : h ≤ -2) (hl : 0 ≤ l) (h1 : p4 23 [wd h l, Value.int IntKind.u64 1000000000000000000] = some (Value.tuple #[wd qh ql, Value.int IntKind.u64 (↑r : Int), Value.bool true])) (hr : r = 0) (t : ByteArray) (lo : ByteArray) (z : ByteArray) (c1 : ByteArray) (c2 : ByteArray) (k : Nat) (hlo : lo = { data := List.toArray (Lib.decDigits r) }) (hk : ByteArray.size lo + k = 18) (ht : evCall Tryz.prog 10 (bodied Tryz.prog) ovD sbs 1000 18 6 [wd qh ql] (Hx e [oW qh ql, oW h l, oW a1 a2, oW b1 b2]) = some (Value.string t, Hx e [oW qh ql, oW h l, oW a1 a2, oW b1 b2], [])) (hz : p4 26 [Value.string { data := #[48] }, Value.int IntKind.i64 (↑k : Int)] = some (Value.string z)) (e1 : t ++ z = c1) (e2 : c1 ++ lo = c2) (sz1 : ByteArray.size t + ByteArray.size z ≤ 9223372036854775807) (sz2 : ByteArray.size c1 + ByteArray.size lo ≤ 9223372036854775807) :
    evCall Tryz.prog 10 (bodied Tryz.prog) ovD sbs 1000 19 6 [wd h l] (Hx e [oW a1 a2, oW b1 b2]) = some (Value.string c2, { n := 12, objs := [AObj.cells [Value.int IntKind.i64 a1, Value.int IntKind.u64 a2] 24 0 1, AObj.cells [Value.int IntKind.i64 b1, Value.int IntKind.u64 b2] 24 0 1, AObj.dead, AObj.dead, AObj.dead, AObj.dead, AObj.cells kpPow e 6 1, AObj.dead, AObj.dead, AObj.dead, AObj.dead, AObj.dead] }, []) :=
  Dg.evCall_hint (hs' := []) (hs := [Hint.val 6 9 (Value.bool false),
    Hint.val 6 18 (Value.bool false),
    Hint.call 23 (Value.tuple { toList := [Value.agg #[Value.int IntKind.i64 qh, Value.int IntKind.u64 ql], Value.int IntKind.u64 (↑r : Int), Value.bool true] }) { n := 13, objs := [AObj.cells [Value.int IntKind.i64 h, Value.int IntKind.u64 l] 24 0 1, AObj.cells [Value.int IntKind.i64 a1, Value.int IntKind.u64 a2] 24 0 1, AObj.cells [Value.int IntKind.i64 b1, Value.int IntKind.u64 b2] 24 0 1, AObj.dead, AObj.dead, AObj.dead, AObj.dead, AObj.cells kpPow e 6 1, AObj.dead, AObj.dead, AObj.dead, AObj.dead, AObj.dead] } [],
    Hint.val 6 43 (Value.bool true),
    Hint.val 6 46 (Value.bool false),
    Hint.call 16 (Value.string lo) { n := 14, objs := [AObj.cells [Value.int IntKind.i64 qh, Value.int IntKind.u64 ql] 24 0 1, AObj.cells [Value.int IntKind.i64 h, Value.int IntKind.u64 l] 24 0 1, AObj.cells [Value.int IntKind.i64 a1, Value.int IntKind.u64 a2] 24 0 1, AObj.cells [Value.int IntKind.i64 b1, Value.int IntKind.u64 b2] 24 0 1, AObj.dead, AObj.dead, AObj.dead, AObj.dead, AObj.cells kpPow e 6 1, AObj.dead, AObj.dead, AObj.dead, AObj.dead, AObj.dead] } [],
    Hint.call 6 (Value.string t) { n := 14, objs := [AObj.cells [Value.int IntKind.i64 qh, Value.int IntKind.u64 ql] 24 0 1, AObj.cells [Value.int IntKind.i64 h, Value.int IntKind.u64 l] 24 0 1, AObj.cells [Value.int IntKind.i64 a1, Value.int IntKind.u64 a2] 24 0 1, AObj.cells [Value.int IntKind.i64 b1, Value.int IntKind.u64 b2] 24 0 1, AObj.dead, AObj.dead, AObj.dead, AObj.dead, AObj.cells kpPow e 6 1, AObj.dead, AObj.dead, AObj.dead, AObj.dead, AObj.dead] } [],
    Hint.val 6 59 (Value.int IntKind.i64 (↑k : Int)),
    Hint.call 26 (Value.string z) { n := 14, objs := [AObj.cells [Value.int IntKind.i64 qh, Value.int IntKind.u64 ql] 24 0 1, AObj.cells [Value.int IntKind.i64 h, Value.int IntKind.u64 l] 24 0 1, AObj.cells [Value.int IntKind.i64 a1, Value.int IntKind.u64 a2] 24 0 1, AObj.cells [Value.int IntKind.i64 b1, Value.int IntKind.u64 b2] 24 0 1, AObj.dead, AObj.dead, AObj.dead, AObj.dead, AObj.cells kpPow e 6 1, AObj.dead, AObj.dead, AObj.dead, AObj.dead, AObj.dead] } [],
    Hint.soft 6 61 (Value.string c1),
    Hint.soft 6 63 (Value.string c2)])
    [Value.bool (decide (h ≥ (0 : Int))) = Value.bool false,
    Value.bool (h == (-1 : Int)) = Value.bool false,
    evCall Tryz.prog 10 (bodied Tryz.prog) ovD sbs 1000 18 23 [Value.agg #[Value.int IntKind.i64 h, Value.int IntKind.u64 l], Value.int IntKind.u64 1000000000000000000] { n := 13, objs := [AObj.cells [Value.int IntKind.i64 h, Value.int IntKind.u64 l] 24 0 1, AObj.cells [Value.int IntKind.i64 a1, Value.int IntKind.u64 a2] 24 0 1, AObj.cells [Value.int IntKind.i64 b1, Value.int IntKind.u64 b2] 24 0 1, AObj.dead, AObj.dead, AObj.dead, AObj.dead, AObj.cells kpPow e 6 1, AObj.dead, AObj.dead, AObj.dead, AObj.dead, AObj.dead] } = some (Value.tuple { toList := [Value.agg #[Value.int IntKind.i64 qh, Value.int IntKind.u64 ql], Value.int IntKind.u64 (↑r : Int), Value.bool true] }, { n := 13, objs := [AObj.cells [Value.int IntKind.i64 h, Value.int IntKind.u64 l] 24 0 1, AObj.cells [Value.int IntKind.i64 a1, Value.int IntKind.u64 a2] 24 0 1, AObj.cells [Value.int IntKind.i64 b1, Value.int IntKind.u64 b2] 24 0 1, AObj.dead, AObj.dead, AObj.dead, AObj.dead, AObj.cells kpPow e 6 1, AObj.dead, AObj.dead, AObj.dead, AObj.dead, AObj.dead] }, []),
    Value.bool (decide (h < (0 : Int))) = Value.bool true,
    Value.bool (decide ((↑r : Int) > (0 : Int))) = Value.bool false,
    evCall Tryz.prog 10 (bodied Tryz.prog) ovD sbs 1000 18 16 [Value.int IntKind.u64 (↑r : Int)] { n := 14, objs := [AObj.cells [Value.int IntKind.i64 qh, Value.int IntKind.u64 ql] 24 0 1, AObj.cells [Value.int IntKind.i64 h, Value.int IntKind.u64 l] 24 0 1, AObj.cells [Value.int IntKind.i64 a1, Value.int IntKind.u64 a2] 24 0 1, AObj.cells [Value.int IntKind.i64 b1, Value.int IntKind.u64 b2] 24 0 1, AObj.dead, AObj.dead, AObj.dead, AObj.dead, AObj.cells kpPow e 6 1, AObj.dead, AObj.dead, AObj.dead, AObj.dead, AObj.dead] } = some (Value.string lo, { n := 14, objs := [AObj.cells [Value.int IntKind.i64 qh, Value.int IntKind.u64 ql] 24 0 1, AObj.cells [Value.int IntKind.i64 h, Value.int IntKind.u64 l] 24 0 1, AObj.cells [Value.int IntKind.i64 a1, Value.int IntKind.u64 a2] 24 0 1, AObj.cells [Value.int IntKind.i64 b1, Value.int IntKind.u64 b2] 24 0 1, AObj.dead, AObj.dead, AObj.dead, AObj.dead, AObj.cells kpPow e 6 1, AObj.dead, AObj.dead, AObj.dead, AObj.dead, AObj.dead] }, []),
    evCall Tryz.prog 10 (bodied Tryz.prog) ovD sbs 1000 18 6 [Value.agg #[Value.int IntKind.i64 qh, Value.int IntKind.u64 ql]] { n := 14, objs := [AObj.cells [Value.int IntKind.i64 qh, Value.int IntKind.u64 ql] 24 0 1, AObj.cells [Value.int IntKind.i64 h, Value.int IntKind.u64 l] 24 0 1, AObj.cells [Value.int IntKind.i64 a1, Value.int IntKind.u64 a2] 24 0 1, AObj.cells [Value.int IntKind.i64 b1, Value.int IntKind.u64 b2] 24 0 1, AObj.dead, AObj.dead, AObj.dead, AObj.dead, AObj.cells kpPow e 6 1, AObj.dead, AObj.dead, AObj.dead, AObj.dead, AObj.dead] } = some (Value.string t, { n := 14, objs := [AObj.cells [Value.int IntKind.i64 qh, Value.int IntKind.u64 ql] 24 0 1, AObj.cells [Value.int IntKind.i64 h, Value.int IntKind.u64 l] 24 0 1, AObj.cells [Value.int IntKind.i64 a1, Value.int IntKind.u64 a2] 24 0 1, AObj.cells [Value.int IntKind.i64 b1, Value.int IntKind.u64 b2] 24 0 1, AObj.dead, AObj.dead, AObj.dead, AObj.dead, AObj.cells kpPow e 6 1, AObj.dead, AObj.dead, AObj.dead, AObj.dead, AObj.dead] }, []),
    Value.int IntKind.i64 (IntKind.wrap IntKind.i64 ((18 : Int) - (↑(ByteArray.size lo) : Int))) = Value.int IntKind.i64 (↑k : Int),
    evCall Tryz.prog 10 (bodied Tryz.prog) ovD sbs 1000 18 26 [Value.string { data := #[48] }, Value.int IntKind.i64 (↑k : Int)] { n := 14, objs := [AObj.cells [Value.int IntKind.i64 qh, Value.int IntKind.u64 ql] 24 0 1, AObj.cells [Value.int IntKind.i64 h, Value.int IntKind.u64 l] 24 0 1, AObj.cells [Value.int IntKind.i64 a1, Value.int IntKind.u64 a2] 24 0 1, AObj.cells [Value.int IntKind.i64 b1, Value.int IntKind.u64 b2] 24 0 1, AObj.dead, AObj.dead, AObj.dead, AObj.dead, AObj.cells kpPow e 6 1, AObj.dead, AObj.dead, AObj.dead, AObj.dead, AObj.dead] } = some (Value.string z, { n := 14, objs := [AObj.cells [Value.int IntKind.i64 qh, Value.int IntKind.u64 ql] 24 0 1, AObj.cells [Value.int IntKind.i64 h, Value.int IntKind.u64 l] 24 0 1, AObj.cells [Value.int IntKind.i64 a1, Value.int IntKind.u64 a2] 24 0 1, AObj.cells [Value.int IntKind.i64 b1, Value.int IntKind.u64 b2] 24 0 1, AObj.dead, AObj.dead, AObj.dead, AObj.dead, AObj.cells kpPow e 6 1, AObj.dead, AObj.dead, AObj.dead, AObj.dead, AObj.dead] }, []),
    ByteArray.size t + ByteArray.size z ≤ (9223372036854775807 : Nat),
    Value.string (t ++ z) = Value.string c1,
    ByteArray.size c1 + ByteArray.size lo ≤ (9223372036854775807 : Nat),
    Value.string (c1 ++ lo) = Value.string c2] (by kernel_rfl)
    ⟨by first | exact Dg.vtrue (by omega) | exact Dg.vfalse (by omega), Dg.vfalse (by omega), dDiv h1, by first | exact Dg.vtrue (by omega) | exact Dg.vfalse (by omega), by first | exact Dg.vtrue (by omega) | exact Dg.vfalse (by omega), dUns (by omega) hlo ⟨_, rfl⟩, ht, wi (by omega), dRep hz, sz1, by rw [e1], sz2, by rw [e2], trivial⟩
--> dw_n019
--< dw_n119
theorem dw_n119 (e : TypeId) (a1 : Int) (a2 : Int) (b1 : Int) (b2 : Int) (l : Int) (qh : Int) (ql : Int) (r : Nat) (h : Int) (hh : h ≤ -2) (hl : 0 ≤ l) (h1 : p4 23 [wd h l, Value.int IntKind.u64 1000000000000000000] = some (Value.tuple #[wd qh ql, Value.int IntKind.u64 (↑r : Int), Value.bool true])) (hr : 0 < r ∧ r < 1000000000000000000) (xh : Int) (xl : Int) (s : Nat) (es : 1000000000000000000 - (↑r : Int) = (↑s : Int)) (h5 : p4 25 [Value.int IntKind.i64 1] = some (wd 0 1)) (h6 : p4 24 [wd qh ql, wd 0 1] = some (wd xh xl)) (t : ByteArray) (lo : ByteArray) (z : ByteArray) (c1 : ByteArray) (c2 : ByteArray) (k : Nat) (hlo : lo = { data := List.toArray (Lib.decDigits s) }) (hk : ByteArray.size lo + k = 18) (ht : evCall Tryz.prog 10 (bodied Tryz.prog) ovD sbs 1000 18 6 [wd xh xl] (Hx e [oW xh xl, oW h l, oW a1 a2, oW b1 b2]) = some (Value.string t, Hx e [oW xh xl, oW h l, oW a1 a2, oW b1 b2], [])) (hz : p4 26 [Value.string { data := #[48] }, Value.int IntKind.i64 (↑k : Int)] = some (Value.string z)) (e1 : t ++ z = c1) (e2 : c1 ++ lo = c2) (sz1 : ByteArray.size t + ByteArray.size z ≤ 9223372036854775807) (sz2 : ByteArray.size c1 + ByteArray.size lo ≤ 9223372036854775807) :
    evCall Tryz.prog 10 (bodied Tryz.prog) ovD sbs 1000 19 6 [wd h l] (Hx e [oW a1 a2, oW b1 b2]) = some (Value.string c2, { n := 12, objs := [AObj.cells [Value.int IntKind.i64 a1, Value.int IntKind.u64 a2] 24 0 1, AObj.cells [Value.int IntKind.i64 b1, Value.int IntKind.u64 b2] 24 0 1, AObj.dead, AObj.dead, AObj.dead, AObj.dead, AObj.cells kpPow e 6 1, AObj.dead, AObj.dead, AObj.dead, AObj.dead, AObj.dead] }, []) :=
  Dg.evCall_hint (hs' := []) (hs := [Hint.val 6 9 (Value.bool false),
    Hint.val 6 18 (Value.bool false),
    Hint.call 23 (Value.tuple { toList := [Value.agg #[Value.int IntKind.i64 qh, Value.int IntKind.u64 ql], Value.int IntKind.u64 (↑r : Int), Value.bool true] }) { n := 13, objs := [AObj.cells [Value.int IntKind.i64 h, Value.int IntKind.u64 l] 24 0 1, AObj.cells [Value.int IntKind.i64 a1, Value.int IntKind.u64 a2] 24 0 1, AObj.cells [Value.int IntKind.i64 b1, Value.int IntKind.u64 b2] 24 0 1, AObj.dead, AObj.dead, AObj.dead, AObj.dead, AObj.cells kpPow e 6 1, AObj.dead, AObj.dead, AObj.dead, AObj.dead, AObj.dead] } [],
    Hint.val 6 43 (Value.bool true),
    Hint.val 6 46 (Value.bool true),
    Hint.call 25 (Value.agg #[Value.int IntKind.i64 0, Value.int IntKind.u64 1]) { n := 10, objs := [AObj.dead, AObj.dead, AObj.dead, AObj.dead, AObj.dead, AObj.dead, AObj.dead, AObj.dead, AObj.dead, AObj.dead] } [],
    Hint.call 24 (Value.agg #[Value.int IntKind.i64 xh, Value.int IntKind.u64 xl]) { n := 14, objs := [AObj.cells [Value.int IntKind.i64 qh, Value.int IntKind.u64 ql] 24 0 1, AObj.cells [Value.int IntKind.i64 h, Value.int IntKind.u64 l] 24 0 1, AObj.cells [Value.int IntKind.i64 a1, Value.int IntKind.u64 a2] 24 0 1, AObj.cells [Value.int IntKind.i64 b1, Value.int IntKind.u64 b2] 24 0 1, AObj.dead, AObj.dead, AObj.dead, AObj.dead, AObj.cells kpPow e 6 1, AObj.dead, AObj.dead, AObj.dead, AObj.dead, AObj.dead] } [],
    Hint.val 6 52 (Value.int IntKind.u64 (↑s : Int)),
    Hint.call 16 (Value.string lo) { n := 14, objs := [AObj.cells [Value.int IntKind.i64 xh, Value.int IntKind.u64 xl] 24 0 1, AObj.cells [Value.int IntKind.i64 h, Value.int IntKind.u64 l] 24 0 1, AObj.cells [Value.int IntKind.i64 a1, Value.int IntKind.u64 a2] 24 0 1, AObj.cells [Value.int IntKind.i64 b1, Value.int IntKind.u64 b2] 24 0 1, AObj.dead, AObj.dead, AObj.dead, AObj.dead, AObj.cells kpPow e 6 1, AObj.dead, AObj.dead, AObj.dead, AObj.dead, AObj.dead] } [],
    Hint.call 6 (Value.string t) { n := 14, objs := [AObj.cells [Value.int IntKind.i64 xh, Value.int IntKind.u64 xl] 24 0 1, AObj.cells [Value.int IntKind.i64 h, Value.int IntKind.u64 l] 24 0 1, AObj.cells [Value.int IntKind.i64 a1, Value.int IntKind.u64 a2] 24 0 1, AObj.cells [Value.int IntKind.i64 b1, Value.int IntKind.u64 b2] 24 0 1, AObj.dead, AObj.dead, AObj.dead, AObj.dead, AObj.cells kpPow e 6 1, AObj.dead, AObj.dead, AObj.dead, AObj.dead, AObj.dead] } [],
    Hint.val 6 59 (Value.int IntKind.i64 (↑k : Int)),
    Hint.call 26 (Value.string z) { n := 14, objs := [AObj.cells [Value.int IntKind.i64 xh, Value.int IntKind.u64 xl] 24 0 1, AObj.cells [Value.int IntKind.i64 h, Value.int IntKind.u64 l] 24 0 1, AObj.cells [Value.int IntKind.i64 a1, Value.int IntKind.u64 a2] 24 0 1, AObj.cells [Value.int IntKind.i64 b1, Value.int IntKind.u64 b2] 24 0 1, AObj.dead, AObj.dead, AObj.dead, AObj.dead, AObj.cells kpPow e 6 1, AObj.dead, AObj.dead, AObj.dead, AObj.dead, AObj.dead] } [],
    Hint.soft 6 61 (Value.string c1),
    Hint.soft 6 63 (Value.string c2)])
    [Value.bool (decide (h ≥ (0 : Int))) = Value.bool false,
    Value.bool (h == (-1 : Int)) = Value.bool false,
    evCall Tryz.prog 10 (bodied Tryz.prog) ovD sbs 1000 18 23 [Value.agg #[Value.int IntKind.i64 h, Value.int IntKind.u64 l], Value.int IntKind.u64 1000000000000000000] { n := 13, objs := [AObj.cells [Value.int IntKind.i64 h, Value.int IntKind.u64 l] 24 0 1, AObj.cells [Value.int IntKind.i64 a1, Value.int IntKind.u64 a2] 24 0 1, AObj.cells [Value.int IntKind.i64 b1, Value.int IntKind.u64 b2] 24 0 1, AObj.dead, AObj.dead, AObj.dead, AObj.dead, AObj.cells kpPow e 6 1, AObj.dead, AObj.dead, AObj.dead, AObj.dead, AObj.dead] } = some (Value.tuple { toList := [Value.agg #[Value.int IntKind.i64 qh, Value.int IntKind.u64 ql], Value.int IntKind.u64 (↑r : Int), Value.bool true] }, { n := 13, objs := [AObj.cells [Value.int IntKind.i64 h, Value.int IntKind.u64 l] 24 0 1, AObj.cells [Value.int IntKind.i64 a1, Value.int IntKind.u64 a2] 24 0 1, AObj.cells [Value.int IntKind.i64 b1, Value.int IntKind.u64 b2] 24 0 1, AObj.dead, AObj.dead, AObj.dead, AObj.dead, AObj.cells kpPow e 6 1, AObj.dead, AObj.dead, AObj.dead, AObj.dead, AObj.dead] }, []),
    Value.bool (decide (h < (0 : Int))) = Value.bool true,
    Value.bool (decide ((↑r : Int) > (0 : Int))) = Value.bool true,
    evCall Tryz.prog 10 (bodied Tryz.prog) ovD sbs 1000 18 25 [Value.int IntKind.i64 1] { n := 10, objs := [AObj.dead, AObj.dead, AObj.dead, AObj.dead, AObj.dead, AObj.dead, AObj.dead, AObj.dead, AObj.dead, AObj.dead] } = some (Value.agg #[Value.int IntKind.i64 0, Value.int IntKind.u64 1], { n := 10, objs := [AObj.dead, AObj.dead, AObj.dead, AObj.dead, AObj.dead, AObj.dead, AObj.dead, AObj.dead, AObj.dead, AObj.dead] }, []),
    evCall Tryz.prog 10 (bodied Tryz.prog) ovD sbs 1000 18 24 [Value.agg #[Value.int IntKind.i64 qh, Value.int IntKind.u64 ql], Value.agg #[Value.int IntKind.i64 0, Value.int IntKind.u64 1]] { n := 14, objs := [AObj.cells [Value.int IntKind.i64 qh, Value.int IntKind.u64 ql] 24 0 1, AObj.cells [Value.int IntKind.i64 h, Value.int IntKind.u64 l] 24 0 1, AObj.cells [Value.int IntKind.i64 a1, Value.int IntKind.u64 a2] 24 0 1, AObj.cells [Value.int IntKind.i64 b1, Value.int IntKind.u64 b2] 24 0 1, AObj.dead, AObj.dead, AObj.dead, AObj.dead, AObj.cells kpPow e 6 1, AObj.dead, AObj.dead, AObj.dead, AObj.dead, AObj.dead] } = some (Value.agg #[Value.int IntKind.i64 xh, Value.int IntKind.u64 xl], { n := 14, objs := [AObj.cells [Value.int IntKind.i64 qh, Value.int IntKind.u64 ql] 24 0 1, AObj.cells [Value.int IntKind.i64 h, Value.int IntKind.u64 l] 24 0 1, AObj.cells [Value.int IntKind.i64 a1, Value.int IntKind.u64 a2] 24 0 1, AObj.cells [Value.int IntKind.i64 b1, Value.int IntKind.u64 b2] 24 0 1, AObj.dead, AObj.dead, AObj.dead, AObj.dead, AObj.cells kpPow e 6 1, AObj.dead, AObj.dead, AObj.dead, AObj.dead, AObj.dead] }, []),
    Value.int IntKind.u64 (IntKind.wrap IntKind.u64 ((1000000000000000000 : Int) - (↑r : Int))) = Value.int IntKind.u64 (↑s : Int),
    evCall Tryz.prog 10 (bodied Tryz.prog) ovD sbs 1000 18 16 [Value.int IntKind.u64 (↑s : Int)] { n := 14, objs := [AObj.cells [Value.int IntKind.i64 xh, Value.int IntKind.u64 xl] 24 0 1, AObj.cells [Value.int IntKind.i64 h, Value.int IntKind.u64 l] 24 0 1, AObj.cells [Value.int IntKind.i64 a1, Value.int IntKind.u64 a2] 24 0 1, AObj.cells [Value.int IntKind.i64 b1, Value.int IntKind.u64 b2] 24 0 1, AObj.dead, AObj.dead, AObj.dead, AObj.dead, AObj.cells kpPow e 6 1, AObj.dead, AObj.dead, AObj.dead, AObj.dead, AObj.dead] } = some (Value.string lo, { n := 14, objs := [AObj.cells [Value.int IntKind.i64 xh, Value.int IntKind.u64 xl] 24 0 1, AObj.cells [Value.int IntKind.i64 h, Value.int IntKind.u64 l] 24 0 1, AObj.cells [Value.int IntKind.i64 a1, Value.int IntKind.u64 a2] 24 0 1, AObj.cells [Value.int IntKind.i64 b1, Value.int IntKind.u64 b2] 24 0 1, AObj.dead, AObj.dead, AObj.dead, AObj.dead, AObj.cells kpPow e 6 1, AObj.dead, AObj.dead, AObj.dead, AObj.dead, AObj.dead] }, []),
    evCall Tryz.prog 10 (bodied Tryz.prog) ovD sbs 1000 18 6 [Value.agg #[Value.int IntKind.i64 xh, Value.int IntKind.u64 xl]] { n := 14, objs := [AObj.cells [Value.int IntKind.i64 xh, Value.int IntKind.u64 xl] 24 0 1, AObj.cells [Value.int IntKind.i64 h, Value.int IntKind.u64 l] 24 0 1, AObj.cells [Value.int IntKind.i64 a1, Value.int IntKind.u64 a2] 24 0 1, AObj.cells [Value.int IntKind.i64 b1, Value.int IntKind.u64 b2] 24 0 1, AObj.dead, AObj.dead, AObj.dead, AObj.dead, AObj.cells kpPow e 6 1, AObj.dead, AObj.dead, AObj.dead, AObj.dead, AObj.dead] } = some (Value.string t, { n := 14, objs := [AObj.cells [Value.int IntKind.i64 xh, Value.int IntKind.u64 xl] 24 0 1, AObj.cells [Value.int IntKind.i64 h, Value.int IntKind.u64 l] 24 0 1, AObj.cells [Value.int IntKind.i64 a1, Value.int IntKind.u64 a2] 24 0 1, AObj.cells [Value.int IntKind.i64 b1, Value.int IntKind.u64 b2] 24 0 1, AObj.dead, AObj.dead, AObj.dead, AObj.dead, AObj.cells kpPow e 6 1, AObj.dead, AObj.dead, AObj.dead, AObj.dead, AObj.dead] }, []),
    Value.int IntKind.i64 (IntKind.wrap IntKind.i64 ((18 : Int) - (↑(ByteArray.size lo) : Int))) = Value.int IntKind.i64 (↑k : Int),
    evCall Tryz.prog 10 (bodied Tryz.prog) ovD sbs 1000 18 26 [Value.string { data := #[48] }, Value.int IntKind.i64 (↑k : Int)] { n := 14, objs := [AObj.cells [Value.int IntKind.i64 xh, Value.int IntKind.u64 xl] 24 0 1, AObj.cells [Value.int IntKind.i64 h, Value.int IntKind.u64 l] 24 0 1, AObj.cells [Value.int IntKind.i64 a1, Value.int IntKind.u64 a2] 24 0 1, AObj.cells [Value.int IntKind.i64 b1, Value.int IntKind.u64 b2] 24 0 1, AObj.dead, AObj.dead, AObj.dead, AObj.dead, AObj.cells kpPow e 6 1, AObj.dead, AObj.dead, AObj.dead, AObj.dead, AObj.dead] } = some (Value.string z, { n := 14, objs := [AObj.cells [Value.int IntKind.i64 xh, Value.int IntKind.u64 xl] 24 0 1, AObj.cells [Value.int IntKind.i64 h, Value.int IntKind.u64 l] 24 0 1, AObj.cells [Value.int IntKind.i64 a1, Value.int IntKind.u64 a2] 24 0 1, AObj.cells [Value.int IntKind.i64 b1, Value.int IntKind.u64 b2] 24 0 1, AObj.dead, AObj.dead, AObj.dead, AObj.dead, AObj.cells kpPow e 6 1, AObj.dead, AObj.dead, AObj.dead, AObj.dead, AObj.dead] }, []),
    ByteArray.size t + ByteArray.size z ≤ (9223372036854775807 : Nat),
    Value.string (t ++ z) = Value.string c1,
    ByteArray.size c1 + ByteArray.size lo ≤ (9223372036854775807 : Nat),
    Value.string (c1 ++ lo) = Value.string c2] (by kernel_rfl)
    ⟨by first | exact Dg.vtrue (by omega) | exact Dg.vfalse (by omega), Dg.vfalse (by omega), dDiv h1, by first | exact Dg.vtrue (by omega) | exact Dg.vfalse (by omega), by first | exact Dg.vtrue (by omega) | exact Dg.vfalse (by omega), dOf h5, dAdd h6, wu (by omega), dUns (by omega) hlo ⟨_, rfl⟩, ht, wi (by omega), dRep hz, sz1, by rw [e1], sz2, by rw [e2], trivial⟩
--> dw_n119
end Go.Proofs.YtflgpkkbifkpoaaGreatDoor.num

namespace Go.Proofs.YtflgpkkbifkpoaaGreatDoor.num
open Go.Dg (junk St Ex Ev Hint evCall evLoop bodied noOver Flats flatOver Heap AObj lay noO)
set_option linter.unusedVariables false

def decV (v : Int) : ByteArray := ⟨(Lib.itoa v).toArray⟩
theorem ba_app (a b : List UInt8) : (⟨a.toArray⟩ : ByteArray) ++ ⟨b.toArray⟩ = ⟨(a ++ b).toArray⟩ := by
  apply ByteArray.ext
  simp
theorem ba_size (a : List UInt8) : (⟨a.toArray⟩ : ByteArray).size = a.length := by simp [ByteArray.size]
theorem decV_len {v : Int} (h : InW v) : (Lib.itoa v).length ≤ 40 := by
  obtain ⟨d1, d2, d3, _, _⟩ := own_wide h
  have hn := nDigits_le (m := v.natAbs) (k := 38) (natAbs_in h)
  rcases restB_len (Lib.itoa v) with ⟨_, h2⟩ | ⟨_, h2⟩
  · rw [d2, Lib.decDigits_length] at h2; omega
  · rw [← h2, d2, Lib.decDigits_length]; omega
theorem low_size {r : Nat} (h : r < 1000000000000000000) : ∃ k, k < 18 ∧ (⟨(Lib.decDigits r).toArray⟩ : ByteArray).size + k = 18 ∧ k = 18 - Lib.nDigits r := by
  have h1 := nDigits_le (m := r) (k := 17) h
  have h2 := Lib.nDigits_pos r
  refine ⟨18 - Lib.nDigits r, by omega, ?_, rfl⟩
  rw [ba_size, Lib.decDigits_length]
  omega
theorem div_p4 {v : Int} (h : InW v) : p4 23 [wv v, .int .u64 1000000000000000000] = some (.tuple #[wv (v / 1000000000000000000), .int .u64 (v % 1000000000000000000), .bool true]) := up4 (div_w h)
theorem of_one : p4 25 [.int .i64 1] = some (wd 0 1) := by
  have := up4 (up3 (up2 (of_w (n := 1) (by unfold I64; omega))))
  rwa [wv_eq (v := 1) (h := 0) (l := 1) (by omega) (by omega)] at this
theorem dw_one20 (e : TypeId) {v : Int} (hv : -9223372036854775808 ≤ v ∧ v < 18446744073709551616) : evCall Tryz.prog 10 (bodied Tryz.prog) ovD sbs 1000 20 6 [wv v] (Hx e []) = some (.string (decV v), Hx e [], []) := by
  rcases Int.lt_or_le v 0 with h | h
  · rw [wv_eq (v := v) (h := -1) (l := v + 18446744073709551616) (by omega) (by omega)]
    exact dw_i20 e (v + 18446744073709551616) v (decV v) (by omega) (by omega) rfl
  · obtain ⟨m, rfl⟩ := Int.eq_ofNat_of_zero_le h
    rw [wv_eq (v := (m : Int)) (h := 0) (l := (m : Int)) (by omega) (by omega)]
    exact dw_u20 e m (decV m) (by omega) (by unfold decV; rw [itoa_natN])
theorem dw_one19 (e : TypeId) (a1 a2 b1 b2 : Int) {v : Int} (hv : -9223372036854775808 ≤ v ∧ v < 18446744073709551616) : evCall Tryz.prog 10 (bodied Tryz.prog) ovD sbs 1000 19 6 [wv v] (Hx e [oW a1 a2, oW b1 b2]) = some (.string (decV v), Hx e [oW a1 a2, oW b1 b2], []) := by
  rcases Int.lt_or_le v 0 with h | h
  · rw [wv_eq (v := v) (h := -1) (l := v + 18446744073709551616) (by omega) (by omega)]
    exact dw_i19 e a1 a2 b1 b2 (v + 18446744073709551616) v (decV v) (by omega) (by omega) rfl
  · obtain ⟨m, rfl⟩ := Int.eq_ofNat_of_zero_le h
    rw [wv_eq (v := (m : Int)) (h := 0) (l := (m : Int)) (by omega) (by omega)]
    exact dw_u19 e a1 a2 b1 b2 m (decV m) (by omega) (by unfold decV; rw [itoa_natN])
theorem dw_one18 (e : TypeId) (a1 a2 b1 b2 g1 g2 d1 d2 : Int) {v : Int} (hv : -9223372036854775808 ≤ v ∧ v < 18446744073709551616) : evCall Tryz.prog 10 (bodied Tryz.prog) ovD sbs 1000 18 6 [wv v] (Hx e [oW a1 a2, oW b1 b2, oW g1 g2, oW d1 d2]) = some (.string (decV v), Hx e [oW a1 a2, oW b1 b2, oW g1 g2, oW d1 d2], []) := by
  rcases Int.lt_or_le v 0 with h | h
  · rw [wv_eq (v := v) (h := -1) (l := v + 18446744073709551616) (by omega) (by omega)]
    exact dw_i18 e a1 a2 b1 b2 g1 g2 d1 d2 (v + 18446744073709551616) v (decV v) (by omega) (by omega) rfl
  · obtain ⟨m, rfl⟩ := Int.eq_ofNat_of_zero_le h
    rw [wv_eq (v := (m : Int)) (h := 0) (l := (m : Int)) (by omega) (by omega)]
    exact dw_u18 e a1 a2 b1 b2 g1 g2 d1 d2 m (decV m) (by omega) (by unfold decV; rw [itoa_natN])
theorem dw_step20 (e : TypeId) {v : Int} (hv : InW v) (hb : v < -9223372036854775808 ∨ 18446744073709551616 ≤ v) (ih : ∀ q : Int, q.natAbs ≤ v.natAbs / 1000000000000000000 → ∀ c1 c2 : Int, evCall Tryz.prog 10 (bodied Tryz.prog) ovD sbs 1000 19 6 [wv q] (Hx e [oW c1 c2, oW (v / 18446744073709551616) (v % 18446744073709551616)]) = some (.string (decV q), Hx e [oW c1 c2, oW (v / 18446744073709551616) (v % 18446744073709551616)], [])) :
    evCall Tryz.prog 10 (bodied Tryz.prog) ovD sbs 1000 20 6 [wv v] (Hx e []) = some (.string (decV v), Hx e [], []) := by
  have hd := div_p4 hv
  have hv' := hv
  unfold InW at hv
  obtain ⟨r, hr⟩ := Int.eq_ofNat_of_zero_le (show 0 ≤ v % 1000000000000000000 by omega)
  rw [hr] at hd
  have fin : ∀ (q : Int) (s : Nat), s < 1000000000000000000 → q ≠ 0 → q.natAbs ≤ v.natAbs → v = q * 1000000000000000000 + (if 0 < q then (s : Int) else -(s : Int)) → ∀ k, k = 18 - Lib.nDigits s → k < 18 →
      (decV q ++ (⟨(List.replicate k 48).toArray⟩ : ByteArray)) ++ (⟨(Lib.decDigits s).toArray⟩ : ByteArray) = decV v ∧ (decV q).size + (⟨(List.replicate k 48).toArray⟩ : ByteArray).size ≤ 9223372036854775807 ∧
      (decV q ++ (⟨(List.replicate k 48).toArray⟩ : ByteArray)).size + (⟨(Lib.decDigits s).toArray⟩ : ByteArray).size ≤ 9223372036854775807 := by
    intro q s hs hq hqv he k hk hk18
    have hlen := decV_len hv'
    have e1 := itoa_split hs hq he
    rw [← hk] at e1
    have e2 := congrArg List.length e1
    rw [List.length_append, List.length_append, List.length_replicate] at e2
    refine ⟨?_, ?_, ?_⟩
    · unfold decV; rw [ba_app, ba_app, e1]
    · unfold decV; rw [ba_size, ba_size, List.length_replicate]; omega
    · unfold decV; rw [ba_app, ba_size, ba_size, List.length_append, List.length_replicate]; omega
  rcases hb with hb | hb
  · rcases Nat.eq_zero_or_pos r with h0 | h0
    · subst h0
      obtain ⟨k, hk1, hk2, hk3⟩ := low_size (r := 0) (by omega)
      obtain ⟨f1, f2, f3⟩ := fin (v / 1000000000000000000) 0 (by omega) (by omega) (by omega) (by rw [if_neg (by omega)]; omega) k hk3 hk1
      have hi := ih (v / 1000000000000000000) (by omega)
      rcases (show v / 18446744073709551616 = -1 ∨ v / 18446744073709551616 ≤ -2 by omega) with hm | hm
      · have hi := hi (v / 1000000000000000000 / 18446744073709551616) (v / 1000000000000000000 % 18446744073709551616)
        unfold wv at hd ⊢
        rw [hm] at hd hi ⊢
        exact dw_m020 e (v % 18446744073709551616) _ _ 0 (by omega) hd rfl _ _ _ _ _ k rfl hk2 hi (rep_w k hk1) rfl f1 f2 f3
      · exact dw_n020 e (v % 18446744073709551616) _ _ 0 (v / 18446744073709551616) hm (by omega) hd rfl _ _ _ _ _ k rfl hk2 (hi _ _) (rep_w k hk1) rfl f1 f2 f3
    · obtain ⟨k, hk1, hk2, hk3⟩ := low_size (r := 1000000000000000000 - r) (by omega)
      obtain ⟨f1, f2, f3⟩ := fin (v / 1000000000000000000 + 1) (1000000000000000000 - r) (by omega) (by omega) (by omega) (by rw [if_neg (by omega)]; omega) k hk3 hk1
      have hi := ih (v / 1000000000000000000 + 1) (by omega)
      have ha : p4 24 [wv (v / 1000000000000000000), wd 0 1] = some (wv (v / 1000000000000000000 + 1)) := by
        have := up4 (up3 (up2 (add_w (a := v / 1000000000000000000) (b := 1) (by unfold InW; omega) (by unfold InW; omega))))
        rwa [wv_eq (v := 1) (h := 0) (l := 1) (by omega) (by omega), clamp_id (by unfold InW; omega)] at this
      rcases (show v / 18446744073709551616 = -1 ∨ v / 18446744073709551616 ≤ -2 by omega) with hm | hm
      · have hi := hi ((v / 1000000000000000000 + 1) / 18446744073709551616) ((v / 1000000000000000000 + 1) % 18446744073709551616)
        unfold wv at hd ⊢
        rw [hm] at hd hi ⊢
        exact dw_m120 e (v % 18446744073709551616) _ _ r (by omega) hd ⟨h0, by omega⟩ _ _ (1000000000000000000 - r) (by omega) of_one ha _ _ _ _ _ k rfl hk2 hi (rep_w k hk1) rfl f1 f2 f3
      · exact dw_n120 e (v % 18446744073709551616) _ _ r (v / 18446744073709551616) hm (by omega) hd ⟨h0, by omega⟩ _ _ (1000000000000000000 - r) (by omega) of_one ha _ _ _ _ _ k rfl hk2 (hi _ _) (rep_w k hk1) rfl f1 f2 f3
  · obtain ⟨k, hk1, hk2, hk3⟩ := low_size (r := r) (by omega)
    obtain ⟨f1, f2, f3⟩ := fin (v / 1000000000000000000) r (by omega) (by omega) (by omega) (by rw [if_pos (by omega)]; omega) k hk3 hk1
    exact dw_px20 e (v % 18446744073709551616) _ _ r (v / 18446744073709551616) (by omega) (by omega) hd (by omega) _ _ _ _ _ k rfl hk2 (ih (v / 1000000000000000000) (by omega) _ _) (rep_w k hk1) rfl f1 f2 f3
theorem dw_step19 (e : TypeId) (a1 a2 b1 b2 : Int) {v : Int} (hv : InW v) (hb : v < -9223372036854775808 ∨ 18446744073709551616 ≤ v) (ih : ∀ q : Int, q.natAbs ≤ v.natAbs / 1000000000000000000 → ∀ c1 c2 : Int, evCall Tryz.prog 10 (bodied Tryz.prog) ovD sbs 1000 18 6 [wv q] (Hx e [oW c1 c2, oW (v / 18446744073709551616) (v % 18446744073709551616), oW a1 a2, oW b1 b2]) = some (.string (decV q), Hx e [oW c1 c2, oW (v / 18446744073709551616) (v % 18446744073709551616), oW a1 a2, oW b1 b2], [])) :
    evCall Tryz.prog 10 (bodied Tryz.prog) ovD sbs 1000 19 6 [wv v] (Hx e [oW a1 a2, oW b1 b2]) = some (.string (decV v), Hx e [oW a1 a2, oW b1 b2], []) := by
  have hd := div_p4 hv
  have hv' := hv
  unfold InW at hv
  obtain ⟨r, hr⟩ := Int.eq_ofNat_of_zero_le (show 0 ≤ v % 1000000000000000000 by omega)
  rw [hr] at hd
  have fin : ∀ (q : Int) (s : Nat), s < 1000000000000000000 → q ≠ 0 → q.natAbs ≤ v.natAbs → v = q * 1000000000000000000 + (if 0 < q then (s : Int) else -(s : Int)) → ∀ k, k = 18 - Lib.nDigits s → k < 18 →
      (decV q ++ (⟨(List.replicate k 48).toArray⟩ : ByteArray)) ++ (⟨(Lib.decDigits s).toArray⟩ : ByteArray) = decV v ∧ (decV q).size + (⟨(List.replicate k 48).toArray⟩ : ByteArray).size ≤ 9223372036854775807 ∧
      (decV q ++ (⟨(List.replicate k 48).toArray⟩ : ByteArray)).size + (⟨(Lib.decDigits s).toArray⟩ : ByteArray).size ≤ 9223372036854775807 := by
    intro q s hs hq hqv he k hk hk18
    have hlen := decV_len hv'
    have e1 := itoa_split hs hq he
    rw [← hk] at e1
    have e2 := congrArg List.length e1
    rw [List.length_append, List.length_append, List.length_replicate] at e2
    refine ⟨?_, ?_, ?_⟩
    · unfold decV; rw [ba_app, ba_app, e1]
    · unfold decV; rw [ba_size, ba_size, List.length_replicate]; omega
    · unfold decV; rw [ba_app, ba_size, ba_size, List.length_append, List.length_replicate]; omega
  rcases hb with hb | hb
  · rcases Nat.eq_zero_or_pos r with h0 | h0
    · subst h0
      obtain ⟨k, hk1, hk2, hk3⟩ := low_size (r := 0) (by omega)
      obtain ⟨f1, f2, f3⟩ := fin (v / 1000000000000000000) 0 (by omega) (by omega) (by omega) (by rw [if_neg (by omega)]; omega) k hk3 hk1
      have hi := ih (v / 1000000000000000000) (by omega)
      rcases (show v / 18446744073709551616 = -1 ∨ v / 18446744073709551616 ≤ -2 by omega) with hm | hm
      · have hi := hi (v / 1000000000000000000 / 18446744073709551616) (v / 1000000000000000000 % 18446744073709551616)
        unfold wv at hd ⊢
        rw [hm] at hd hi ⊢
        exact dw_m019 e a1 a2 b1 b2 (v % 18446744073709551616) _ _ 0 (by omega) hd rfl _ _ _ _ _ k rfl hk2 hi (rep_w k hk1) rfl f1 f2 f3
      · exact dw_n019 e a1 a2 b1 b2 (v % 18446744073709551616) _ _ 0 (v / 18446744073709551616) hm (by omega) hd rfl _ _ _ _ _ k rfl hk2 (hi _ _) (rep_w k hk1) rfl f1 f2 f3
    · obtain ⟨k, hk1, hk2, hk3⟩ := low_size (r := 1000000000000000000 - r) (by omega)
      obtain ⟨f1, f2, f3⟩ := fin (v / 1000000000000000000 + 1) (1000000000000000000 - r) (by omega) (by omega) (by omega) (by rw [if_neg (by omega)]; omega) k hk3 hk1
      have hi := ih (v / 1000000000000000000 + 1) (by omega)
      have ha : p4 24 [wv (v / 1000000000000000000), wd 0 1] = some (wv (v / 1000000000000000000 + 1)) := by
        have := up4 (up3 (up2 (add_w (a := v / 1000000000000000000) (b := 1) (by unfold InW; omega) (by unfold InW; omega))))
        rwa [wv_eq (v := 1) (h := 0) (l := 1) (by omega) (by omega), clamp_id (by unfold InW; omega)] at this
      rcases (show v / 18446744073709551616 = -1 ∨ v / 18446744073709551616 ≤ -2 by omega) with hm | hm
      · have hi := hi ((v / 1000000000000000000 + 1) / 18446744073709551616) ((v / 1000000000000000000 + 1) % 18446744073709551616)
        unfold wv at hd ⊢
        rw [hm] at hd hi ⊢
        exact dw_m119 e a1 a2 b1 b2 (v % 18446744073709551616) _ _ r (by omega) hd ⟨h0, by omega⟩ _ _ (1000000000000000000 - r) (by omega) of_one ha _ _ _ _ _ k rfl hk2 hi (rep_w k hk1) rfl f1 f2 f3
      · exact dw_n119 e a1 a2 b1 b2 (v % 18446744073709551616) _ _ r (v / 18446744073709551616) hm (by omega) hd ⟨h0, by omega⟩ _ _ (1000000000000000000 - r) (by omega) of_one ha _ _ _ _ _ k rfl hk2 (hi _ _) (rep_w k hk1) rfl f1 f2 f3
  · obtain ⟨k, hk1, hk2, hk3⟩ := low_size (r := r) (by omega)
    obtain ⟨f1, f2, f3⟩ := fin (v / 1000000000000000000) r (by omega) (by omega) (by omega) (by rw [if_pos (by omega)]; omega) k hk3 hk1
    exact dw_px19 e a1 a2 b1 b2 (v % 18446744073709551616) _ _ r (v / 18446744073709551616) (by omega) (by omega) hd (by omega) _ _ _ _ _ k rfl hk2 (ih (v / 1000000000000000000) (by omega) _ _) (rep_w k hk1) rfl f1 f2 f3
/-- Whatever wide number. -/
theorem dw_all (e : TypeId) {v : Int} (hv : InW v) : evCall Tryz.prog 10 (bodied Tryz.prog) ovD sbs 1000 20 6 [wv v] (Hx e []) = some (.string (decV v), Hx e [], []) := by
  have hv' := hv
  unfold InW at hv'
  by_cases h : -9223372036854775808 ≤ v ∧ v < 18446744073709551616
  · exact dw_one20 e h
  · refine dw_step20 e hv (by omega) fun q hq c1 c2 => ?_
    have hq' : InW q := by unfold InW; omega
    by_cases h2 : -9223372036854775808 ≤ q ∧ q < 18446744073709551616
    · exact dw_one19 e _ _ _ _ h2
    · exact dw_step19 e _ _ _ _ hq' (by omega) fun q2 hq2 c3 c4 => dw_one18 e _ _ _ _ _ _ _ _ (by omega)
end Go.Proofs.YtflgpkkbifkpoaaGreatDoor.num

namespace Go.Proofs.YtflgpkkbifkpoaaGreatDoor.num
open Go.Dg (Heap AObj)
set_option linter.unusedVariables false
set_option linter.unusedSimpArgs false

theorem txt_of (x : ByteArray) : txt (ints x.data.toList) = x := by
  apply ByteArray.ext
  have := bs_ints x.data.toList
  unfold bs at this
  simp [txt, this]
theorem ba_ne {a b : ByteArray} (h : a ≠ b) : a.toList ≠ b.toList := by
  rw [ByteArray.toList_eq, ByteArray.toList_eq]
  intro e
  apply h
  apply ByteArray.ext
  exact Array.ext' e
theorem txt_get' (zs : List Int) (pos : Nat) (h : pos < (txt zs).size) (hz : 0 ≤ zs.getD pos 0 ∧ zs.getD pos 0 < 256) : (((txt zs)[pos]'h).toNat : Int) = zs.getD pos 0 := by
  have h2 : pos < zs.length := by rw [txt_size] at h; exact h
  have e : (txt zs)[pos]'h = UInt8.ofNat (zs.getD pos 0).toNat := by
    simp [txt, ByteArray.getElem_eq_getElem_data, List.getD_eq_getElem?_getD, h2]
  rw [e]
  simp only [UInt8.toNat_ofNat']
  omega
theorem dec_lo (zs : List Int) (pos : Nat) (h : pos < zs.length) (hz : 0 ≤ zs.getD pos 0 ∧ zs.getD pos 0 < 128) : Utf8.decode (txt zs) pos = ((zs.getD pos 0).toNat, 1) := by
  have hs : pos < (txt zs).size := by rw [txt_size]; exact h
  have hg := txt_get' zs pos hs ⟨hz.1, by omega⟩
  rw [decode_ascii (txt zs) pos hs (by omega)]
  congr 1
  omega
theorem dec_hi (zs : List Int) (pos : Nat) (h : pos < zs.length) (hz : 128 ≤ zs.getD pos 0 ∧ zs.getD pos 0 < 256) : 128 ≤ (Utf8.decode (txt zs) pos).1 := by
  have hs : pos < (txt zs).size := by rw [txt_size]; exact h
  have hg := txt_get' zs pos hs ⟨by omega, hz.2⟩
  have hb : ((txt zs).get! (pos + 0)).toNat = ((txt zs)[pos]'hs).toNat := by
    simp [ByteArray.get!, ByteArray.getElem_eq_getElem_data, hs]
  have hr : Utf8.runeError = 65533 := rfl
  unfold Utf8.decode
  simp only [hb]
  rw [if_neg (by omega)]
  repeat' split
  all_goals first
    | (rename_i hc; simp only [Bool.and_eq_true, decide_eq_true_eq, ge_iff_le] at hc; simp only; omega)
    | (simp only [hr]; omega)
    | (simp only; omega)
/-- The next sign: one below 128. -/
theorem next_lo {H : Heap} {k : Nat} {zs : List Int} {pos : Nat} (hk : H.get k = .iter (txt zs) pos) (h : pos < zs.length) (hz : 0 ≤ zs.getD pos 0 ∧ zs.getD pos 0 < 128) :
    Dg.nextAt H k = some (.tuple #[.bool true, .int .i64 pos, .int .i32 (zs.getD pos 0)], H.set k (.iter (txt zs) (pos + 1)), [k]) := by
  unfold Dg.nextAt
  rw [hk]
  simp only [txt_size, if_pos h, dec_lo zs pos h hz]
  have : (((zs.getD pos 0).toNat : Nat) : Int) = zs.getD pos 0 := by omega
  rw [this]
  rfl
/-- No sign is left. -/
theorem next_end {H : Heap} {k : Nat} {zs : List Int} {pos : Nat} (hk : H.get k = .iter (txt zs) pos) (h : pos = zs.length) : Dg.nextAt H k = some (.tuple #[.bool false], H, []) := by
  unfold Dg.nextAt
  rw [hk]
  simp only [txt_size, h, Nat.lt_irrefl, if_false]
theorem next_dec {H : Heap} {k : Nat} {zs : List Int} {pos r x : Nat} (hk : H.get k = .iter (txt zs) pos) (h : pos < zs.length) (hd : Utf8.decode (txt zs) pos = (r, x)) :
    Dg.nextAt H k = some (.tuple #[.bool true, .int .i64 pos, .int .i32 r], H.set k (.iter (txt zs) (pos + x)), [k]) := by
  unfold Dg.nextAt
  rw [hk]
  simp only [txt_size, if_pos h, hd]
  rfl
theorem dec_le (zs : List Int) (pos : Nat) : (Utf8.decode (txt zs) pos).1 ≤ 1114111 := by
  generalize txt zs = s
  have hb : ∀ k, (s.get! (pos + k)).toNat < 256 := fun k => (s.get! (pos + k)).toNat_lt
  have h0 := hb 0; have h1 := hb 1; have h2 := hb 2; have h3 := hb 3
  simp only [Utf8.decode]
  repeat' split
  all_goals simp_all [Utf8.runeError, Utf8.valid]
  all_goals omega
end Go.Proofs.YtflgpkkbifkpoaaGreatDoor.num
