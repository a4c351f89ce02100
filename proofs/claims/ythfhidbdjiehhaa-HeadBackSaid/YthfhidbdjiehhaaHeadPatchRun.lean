/- PROVED: 'horologelaw20.HeadPatches' returns true at every slice of bytes and every header, in whatever memory, and leaves what was there as it was. Conditions: none. -/
import Derived.Test.YthfhidbdjiehhaaRows
import Derived.Test.YthfhidbdjiehhaaHeadTake
import Derived.WalkKit
import Derived.ProofKit
import Derived.OpenShut
namespace Go.Proofs.Ythfhidbdjiehhaa.headPatches
open Go.ChangeShapes Go.WideShapes Go.ChangeAt Go.RowKit
open Go.Dg (junk St Ex Ev Hint evCall evCallS evCode evLoop cleanSt ue bodied noOver sbOf headOf tailOf bodyOf Flats flatOver Heap AObj)
open Go.Proofs.Ythfhidbdjiehhaa.headPut (sbs mixed works_is headL u8s str mays intsA)
open Go.Proofs.Ythfhidbdjiehhaa.headTake
set_option linter.unusedVariables false

/-! ### 'append([]byte{}, b...)'. -/
theorem append_own (H : Heap) (k k2 off2 len cap : Nat) (zs : List Int) (e' : TypeId) (md esz : Nat) (hk1 : H.get k = .cells [] 5 0 1) (hk : H.get k2 = .cells (u8s zs) e' md esz) (hl : off2 + len ≤ zs.length) (h0 : 0 < len) (h1 : len ≤ 1000) :
    Dg.evAppend Try.prog H 28 28 (.slice (some ⟨k, 0, none⟩) 0 0) (.slice (some ⟨k2, off2, none⟩) len cap) = some (.slice (some ⟨H.n, 0, some 0⟩) len len, H.push (.cells (u8s ((zs.drop off2).take len)) 5 1 1), []) := by
  have e1 : Dg.someSlice (Try.prog.underlying 28) = some 5 := by kernel_rfl
  have e2 : Dg.srcType (Try.prog.underlying 28) = true := by kernel_rfl
  obtain ⟨i, hi, hz, hs, hb⟩ : ∃ i, Try.prog.info? 5 = some i ∧ i.zero = some (.int .u8 0) ∧ i.size = 1 ∧ i.bytes = 1 := ⟨_, rfl, by kernel_rfl, by kernel_rfl, by kernel_rfl⟩
  have hr : H.read k2 off2 len = some (u8s ((zs.drop off2).take len)) := by
    unfold Heap.read
    rw [hk]
    simp only
    rw [if_pos (by simpa [u8s] using hl)]
    simp [u8s, List.map_drop, List.map_take]
  have ho : (u8s ((zs.drop off2).take len)).all (·.oneCell') = true := by
    rw [List.all_eq_true]
    intro v hv
    obtain ⟨n, _, rfl⟩ := List.mem_map.1 hv
    rfl
  have hlen : (u8s ((zs.drop off2).take len)).length = len := by simp [u8s]; omega
  have hc : (Value.int IntKind.u8 0).cells.size = 1 := rfl
  unfold Dg.evAppend
  simp only [e1, e2, hi, hz, hs, hb, Dg.srcCells, Nat.mul_one, hr, Option.map_some, ho, hlen, hc, Nat.zero_add, Bool.not_true, Bool.false_eq_true, if_false, beq_self_eq_true, Bool.and_self]
  rw [if_neg (by omega)]
  simp [Heap.read, hk1, show len ≤ 1099511627776 by omega]

/-! ### 'Put' over any heap of so many objects. -/
def iA (l : List Int) : List Int := intsA (l.getD 0 0) (l.getD 1 0) (l.getD 2 0) (l.getD 3 0) (l.getD 4 0) (l.getD 5 0) (l.getD 6 0) (l.getD 7 0) (l.getD 8 0) (l.getD 9 0) (l.getD 10 0) (l.getD 11 0) (l.getD 12 0) (l.getD 13 0) (l.getD 14 0) (l.getD 15 0)
def mayOb (l : List Int) : List Prop := [Value.bool (decide (l.getD 0 0 < 4)) = .bool true, Value.bool (decide (l.getD 1 0 < 8)) = .bool true, Value.bool (decide (l.getD 2 0 < 8)) = .bool true]
section
variable (l : List Int) (objs : List AObj)
theorem put_run5 : evCallS Try.prog 0 (bodied Try.prog) (flatOver known) sbs 1000 18 9 [.agg (hd l).toArray] ⟨5, objs⟩ (mays 18)
    = some (.tuple #[.slice (some ⟨5, 0, some 0⟩) 48 48, .int .i64 0], ⟨6, .cells (u8s (iA l)) 5 1 1 :: objs⟩, [], [], mayOb l) := by kernel_rfl

variable (z : Nat → Int) (zr : List Int) (m : Nat) (x y : AObj)
def own (zr : List Int) : AObj := .cells (u8s (rowOf z zr)) 5 1 1
def argOwn (m : Nat) : Value := .slice (some ⟨3, 0, some 0⟩) (m + 48) (m + 48)
def takeOb (m : Nat) : List Prop := [Value.bool (decide (((m + 48 : Nat) : Int) < 48)) = .bool false, (0 : Int) ≤ 12, 12 ≤ m + 48 ∧ m + 48 ≤ m + 48 ∧ m + 48 ≤ m + 48,
      (some 0 : Option Nat).isSome = true → ¬ (12 = m + 48 ∧ 12 ≠ 0), Value.slice (some ⟨3, if m + 48 = 12 then 0 else 0 + 12 * 1, some 0⟩) (m + 48 - 12) (m + 48 - 12) = .slice (some ⟨3, 12, some 0⟩) (m + 36) (m + 36)]
theorem takeOb_is (m : Nat) : Dg.AllP (takeOb m) := ⟨Dg.vfalse (by omega), by omega, by omega, fun _ => by omega, by rw [if_neg (by omega)]; simp, trivial⟩
theorem take_run6 : evCallS Try.prog 0 (bodied Try.prog) (flatOver known) sbs 1000 18 15 [argOwn m] ⟨6, x :: y :: own z zr :: objs⟩ [.val 15 9 (.bool false), .soft 15 50 (.slice (some ⟨3, 12, some 0⟩) (m + 36) (m + 36))]
    = some (.tuple #[.agg (hd (la z)).toArray, .int .i64 0], ⟨6, x :: y :: own z zr :: objs⟩, [], [], takeOb m) := by kernel_rfl
theorem take_run4 : evCallS Try.prog 0 (bodied Try.prog) (flatOver known) sbs 1000 19 15 [argOwn m] ⟨4, own z zr :: objs⟩ [.val 15 9 (.bool false), .soft 15 50 (.slice (some ⟨3, 12, some 0⟩) (m + 36) (m + 36))]
    = some (.tuple #[.agg (hd (la z)).toArray, .int .i64 0], ⟨4, own z zr :: objs⟩, [], [], takeOb m) := by kernel_rfl

/-! ### The runs of the law at 48 bytes and more. -/
def E : AObj := .cells [] 5 0 1
def hB (l : List Int) : AObj := .cells (hd l) 27 0 1
def bO (z : Nat → Int) (zr : List Int) (e' : TypeId) : AObj := .cells (u8s (rowOf z zr)) e' 2 1
def HH (z : Nat → Int) (zr : List Int) (e' : TypeId) : Heap := ⟨1, [bO z zr e']⟩
def xO (l : List Int) : AObj := .cells (u8s (iA l)) 5 1 1
def putV : Value := .tuple #[.slice (some ⟨5, 0, some 0⟩) 48 48, .int .i64 0]
def takeV (l : List Int) : Value := .tuple #[.agg (hd l).toArray, .int .i64 0]
variable (e' : TypeId) (zq : List Int) (st : ByteArray)
def tailHints (m zl : Nat) (st : ByteArray) : List Hint :=
  [.soft 8 69 (.slice (some ⟨3, 48, some 0⟩) m m), .soft 8 70 (.string st), .soft 8 72 (.slice (some ⟨0, 48, none⟩) m zl), .soft 8 73 (.string st), .val 8 74 (.bool true), .val 8 81 (.bool true)]
def tailOb (zo z : Nat → Int) (zr zq : List Int) (m : Nat) (st : ByteArray) : List Prop :=
  [(0 : Int) ≤ 48, 48 ≤ m + 48 ∧ m + 48 ≤ m + 48 ∧ m + 48 ≤ m + 48, (some 0 : Option Nat).isSome = true → ¬ (48 = m + 48 ∧ 48 ≠ 0), Value.slice (some ⟨3, if m + 48 = 48 then 0 else 0 + 48 * 1, some 0⟩) (m + 48 - 48) (m + 48 - 48) = .slice (some ⟨3, 48, some 0⟩) m m,
   Dg.strOf (u8s (rowOf zo zq)) 48 m = some st,
   (0 : Int) ≤ 48, 48 ≤ m + 48 ∧ m + 48 ≤ zr.length + 48 ∧ zr.length + 48 ≤ zr.length + 48, (none : Option Nat).isSome = true → ¬ (48 = zr.length + 48 ∧ 48 ≠ 0), Value.slice (some ⟨0, if zr.length + 48 = 48 then 0 else 0 + 48 * 1, none⟩) (m + 48 - 48) (zr.length + 48 - 48) = .slice (some ⟨0, 48, none⟩) m zr.length,
   Dg.strOf (u8s (rowOf z zr)) 48 m = some st, Value.bool (st.toList == st.toList) = .bool true, Value.bool (((m + 48 : Nat) : Int) == ((m + 48 : Nat) : Int)) = .bool true]
def headHints (z : Nat → Int) (zr zq l : List Int) (e' : TypeId) (m : Nat) (same : Bool) : List Hint :=
  [.val 8 11 (.bool false), .softH 8 15 (argOwn m) ⟨4, [own z zq, E, hB l, bO z zr e']⟩ [], .call 9 putV ⟨6, [xO l, hB l, own z zq, E, hB l, bO z zr e']⟩ [], .val 17 21 (.bool false),
   .call 15 (takeV (la z)) ⟨6, [xO l, hB l, own z zq, E, hB l, bO z zr e']⟩ [], .val 17 29 (.bool same)]
noncomputable abbrev ev (n : Nat) := evCall Try.prog 0 (bodied Try.prog) (flatOver known) sbs 1000 n
def headOb (z : Nat → Int) (zr zq l : List Int) (e' : TypeId) (m : Nat) (same : Bool) : List Prop :=
  [Value.bool (decide (1000 < ((m + 48 : Nat) : Int))) = .bool false, Dg.evAppend Try.prog ⟨3, [E, hB l, bO z zr e']⟩ 28 28 (.slice (some ⟨2, 0, none⟩) 0 0) (arg zr m) = some (argOwn m, ⟨4, [own z zq, E, hB l, bO z zr e']⟩, []),
   ev 18 9 [.agg (hd l).toArray] ⟨5, [hB l, own z zq, E, hB l, bO z zr e']⟩ = some (putV, ⟨6, [xO l, hB l, own z zq, E, hB l, bO z zr e']⟩, []), Value.bool (decide (((m + 48 : Nat) : Int) < 48)) = .bool false,
   ev 18 15 [argOwn m] ⟨6, [xO l, hB l, own z zq, E, hB l, bO z zr e']⟩ = some (takeV (la z), ⟨6, [xO l, hB l, own z zq, E, hB l, bO z zr e']⟩, []), Value.bool (eqH (la z) l) = .bool same]
theorem same_run : evCallS Try.prog 0 (bodied Try.prog) (flatOver known) sbs 1000 20 8 [arg zr m, .agg (hd l).toArray] (HH z zr e')
      (headHints z zr zq l e' m true ++ (mays 10 ++ ([.val 8 38 (.bool false), .call 15 (takeV (la z)) ⟨4, [own z zq, E, hB l, bO z zr e']⟩ [], .val 8 65 (.bool true)] ++ tailHints m zr.length st)))
    = some (.bool true, HH z zr e', [], [], headOb z zr zq l e' m true ++ ([Value.bool (decide (l.getD 0 0 ≤ 3)) = .bool true, Value.bool (decide (l.getD 1 0 ≤ 7)) = .bool true, Value.bool (decide (l.getD 2 0 ≤ 7)) = .bool true,
        Value.bool (decide (((m + 48 : Nat) : Int) < 48)) = .bool false, ev 19 15 [argOwn m] ⟨4, [own z zq, E, hB l, bO z zr e']⟩ = some (takeV (la z), ⟨4, [own z zq, E, hB l, bO z zr e']⟩, []), Value.bool (eqH (la z) l) = .bool true] ++ tailOb z z zr zq m st)) := by kernel_rfl

def zP (l : List Int) : Nat → Int := fun i => (iA l).getD i 0
theorem copy_run : evCallS Try.prog 0 (bodied Try.prog) (flatOver known) sbs 1000 20 8 [arg zr m, .agg (hd l).toArray] (HH z zr e')
      (headHints z zr zq l e' m false ++ ([.gc 17 [.int .i64 0] ⟨4, [own (zP l) zq, E, hB l, bO z zr e']⟩] ++ (mays 10 ++ ([.val 8 38 (.bool false), .call 15 (takeV (la (zP l))) ⟨4, [own (zP l) zq, E, hB l, bO z zr e']⟩ [], .val 8 65 (.bool true)] ++ tailHints m zr.length st))))
    = some (.bool true, HH z zr e', [], [], headOb z zr zq l e' m false ++ ([Dg.gcAt 4 [.int .i64 0] [3] ⟨7, [hB (la z), xO l, hB l, own (zP l) zq, E, hB l, bO z zr e']⟩ = ([.int .i64 0], ⟨4, [own (zP l) zq, E, hB l, bO z zr e']⟩),
        Value.bool (decide (l.getD 0 0 ≤ 3)) = .bool true, Value.bool (decide (l.getD 1 0 ≤ 7)) = .bool true, Value.bool (decide (l.getD 2 0 ≤ 7)) = .bool true,
        Value.bool (decide (((m + 48 : Nat) : Int) < 48)) = .bool false, ev 19 15 [argOwn m] ⟨4, [own (zP l) zq, E, hB l, bO z zr e']⟩ = some (takeV (la (zP l)), ⟨4, [own (zP l) zq, E, hB l, bO z zr e']⟩, []), Value.bool (eqH (la (zP l)) l) = .bool true] ++ tailOb (zP l) z zr zq m st)) := by kernel_rfl
end
theorem flat_u8s (l : List Int) : Dg.flatL (u8s l) = true := by
  induction l with
  | nil => rfl
  | cons a r ih => simp only [u8s, List.map_cons, Dg.flatL, Dg.flat, Bool.true_and]; exact ih
theorem gc_is (z : Nat → Int) (zq : List Int) (u x y a b c : AObj) : Dg.gcAt 4 [.int .i64 0] [3] ⟨7, [u, x, y, own z zq, a, b, c]⟩ = ([.int .i64 0], ⟨4, [own z zq, a, b, c]⟩) := by
  have hf := flat_u8s (rowOf z zq)
  have hids : (own z zq).ids = [] := by unfold own; simp [AObj.ids, hf]
  have hren : ∀ f, (own z zq).ren f = own z zq := by intro f; unfold own; simp [AObj.ren, hf]
  have hg : (⟨7, [u, x, y, own z zq, a, b, c]⟩ : Heap).get 3 = own z zq := rfl
  unfold Dg.gcAt
  simp only [List.flatMap_cons, List.flatMap_nil, hg, hids, Dg.idsOfL, Dg.idsOf, List.append_nil]
  have hcol : Dg.collect 4 (⟨7, [u, x, y, own z zq, a, b, c]⟩ : Heap) 100000 [] [] = some [] := rfl
  simp only [hcol, List.foldl_cons, List.foldl_nil]
  rw [hg, hren]
  rfl

/-! ### At 48 bytes and more. -/
theorem put_is (l : List Int) (objs : List AObj) (h : Dg.AllP (mayOb l)) : ev 18 9 [.agg (hd l).toArray] ⟨5, objs⟩ = some (putV, ⟨6, .cells (u8s (iA l)) 5 1 1 :: objs⟩, []) := Dg.evCall_hint _ _ (put_run5 l objs) h
theorem take6_is (z : Nat → Int) (zr : List Int) (m : Nat) (x y : AObj) (objs : List AObj) : ev 18 15 [argOwn m] ⟨6, x :: y :: own z zr :: objs⟩ = some (takeV (la z), ⟨6, x :: y :: own z zr :: objs⟩, []) := Dg.evCall_hint _ _ (take_run6 objs z zr m x y) (takeOb_is m)
theorem take4_is (z : Nat → Int) (zr : List Int) (m : Nat) (objs : List AObj) : ev 19 15 [argOwn m] ⟨4, own z zr :: objs⟩ = some (takeV (la z), ⟨4, own z zr :: objs⟩, []) := Dg.evCall_hint _ _ (take_run4 objs z zr m) (takeOb_is m)
theorem rowOf_take (z : Nat → Int) (zr : List Int) (m : Nat) : (rowOf z zr).take (m + 48) = rowOf z (zr.take m) := by
  unfold rowOf
  rw [List.take_append, List.take_of_length_le (by simp)]
  simp
theorem rowOf_length (z : Nat → Int) (zr : List Int) : (rowOf z zr).length = zr.length + 48 := by unfold rowOf; simp; omega
theorem rowOf_drop (z : Nat → Int) (zr : List Int) : (rowOf z zr).drop 48 = zr := by
  unfold rowOf
  rw [List.drop_append]
  simp
end Go.Proofs.Ythfhidbdjiehhaa.headPatches
