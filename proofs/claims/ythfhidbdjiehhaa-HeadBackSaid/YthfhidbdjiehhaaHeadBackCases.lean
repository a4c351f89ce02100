/- The cases of the law 'HeadBack' of layer 20. -/
import Derived.Test.YthfhidbdjiehhaaRows
import Derived.Test.YthfhidbdjiehhaaHeadBackRun
import Derived.WalkKit
import Derived.ProofKit
import Derived.OpenShut
namespace Go.Proofs.Ythfhidbdjiehhaa.headBack
open Go.ChangeShapes Go.WideShapes Go.ChangeAt Go.RowKit
open Go.Dg (junk St Ex Ev Hint evCall evCallS evCode evLoop cleanSt ue bodied noOver sbOf headOf tailOf bodyOf Flats flatOver Heap AObj)
open Go.Proofs.Ythfhidbdjiehhaa.headPut (sbs mixed works_is headL u8s str mays intsA open_head)
open Go.Proofs.Ythfhidbdjiehhaa.headTake
open Go.Proofs.Ythfhidbdjiehhaa.headPatches (iA mayOb own takeV E hB bO xO zP ev append_own)
set_option linter.unusedVariables false

def bC (zs : List Int) (e' : TypeId) : AObj := .cells (u8s zs) e' 2 1
theorem tt {r : Option (Value × Heap × List Nat)} {H' : Heap} {log : List Nat} (h : r = some (.bool true, H', log)) : r.map (·.1) = some (.bool true) := by rw [h]; rfl
theorem own_is (g q : List Int) : own (zP g) q = .cells (u8s (iA g) ++ u8s q) 5 1 1 := by
  have e : (List.range 48).map (zP g) = iA g := by kernel_rfl
  unfold own rowOf
  rw [e]
  simp [u8s]
/-- To the copy of a header's bytes others are appended. -/
theorem append_cells (H : Heap) (g zs : List Int) (len : Nat) (e' : TypeId) (hk1 : H.get 6 = xO g) (hk : H.get 0 = .cells (u8s zs) e' 2 1) (hl : len ≤ zs.length) (h0 : 0 < len) (h1 : len ≤ 1000) :
    Dg.evAppend Try.prog H 28 28 (.slice (some ⟨6, 0, some 0⟩) 48 48) (.slice (some ⟨0, 0, none⟩) len zs.length) = some (.slice (some ⟨H.n, 0, some 0⟩) (len + 48) (len + 48), (H.set 6 .dead).push (own (zP g) (zs.take len)), [6]) := by
  have e1 : Dg.someSlice (Try.prog.underlying 28) = some 5 := by kernel_rfl
  have e2 : Dg.srcType (Try.prog.underlying 28) = true := by kernel_rfl
  obtain ⟨i, hi, hz, hs, hb⟩ : ∃ i, Try.prog.info? 5 = some i ∧ i.zero = some (.int .u8 0) ∧ i.size = 1 ∧ i.bytes = 1 := ⟨_, rfl, by kernel_rfl, by kernel_rfl, by kernel_rfl⟩
  have hr : H.read 0 0 len = some (u8s (zs.take len)) := by
    unfold Heap.read
    rw [hk]
    simp only
    rw [if_pos (by simpa [u8s] using hl)]
    simp [u8s, List.map_take]
  have hg : (iA g).length = 48 := by kernel_rfl
  have hr2 : H.read 6 0 48 = some (u8s (iA g)) := by
    unfold Heap.read
    rw [hk1]
    unfold xO
    simp only
    rw [if_pos (by simp [u8s, hg])]
    simp only [List.drop_zero, Option.some.injEq]
    exact List.take_of_length_le (by simp [u8s, hg])
  have ho : ∀ l : List Int, (u8s l).all (·.oneCell') = true := by
    intro l
    rw [List.all_eq_true]
    intro v hv
    obtain ⟨n, _, rfl⟩ := List.mem_map.1 hv
    rfl
  have hlen : (u8s (zs.take len)).length = len := by simp [u8s]; omega
  have hlen2 : (u8s (iA g)).length = 48 := by simp [u8s, hg]
  have hc : (Value.int IntKind.u8 0).cells.size = 1 := rfl
  have hx : xO g = .cells (u8s (iA g)) 5 1 1 := rfl
  unfold Dg.evAppend
  simp only [e1, e2, hi, hz, hs, hb, Dg.srcCells, Nat.mul_one, hr, hr2, hk1, hx, Option.map_some, ho, hlen, hlen2, hc, Nat.zero_add, Bool.not_true, Bool.false_eq_true, if_false, beq_self_eq_true, Bool.and_self, decide_true, own_is]
  rw [if_neg (by omega)]
  simp [show 48 + len ≤ 1099511627776 by omega, Nat.add_comm len 48]
theorem append_some (g h zs : List Int) (e' : TypeId) (len : Nat) (hl : len ≤ zs.length) (h0 : 0 < len) (h1 : len ≤ 1000) :
    Dg.evAppend Try.prog ⟨7, [xO g, E, xO h, xO g, hB h, hB g, bC zs e']⟩ 28 28 (.slice (some ⟨6, 0, some 0⟩) 48 48) (.slice (some ⟨0, 0, none⟩) len zs.length) =
      some (.slice (some ⟨7, 0, some 0⟩) (len + 48) (len + 48), ⟨8, [own (zP g) (zs.take len), .dead, E, xO h, xO g, hB h, hB g, bC zs e']⟩, [6]) :=
  append_cells ⟨7, [xO g, E, xO h, xO g, hB h, hB g, bC zs e']⟩ g zs len e' rfl rfl hl h0 h1
theorem append_more (g h zr : List Int) (z : Nat → Int) (e' : TypeId) (m : Nat) (hm : m ≤ zr.length) (h1 : m + 48 ≤ 1000) :
    Dg.evAppend Try.prog ⟨7, [xO g, E, xO h, xO g, hB h, hB g, bO z zr e']⟩ 28 28 (.slice (some ⟨6, 0, some 0⟩) 48 48) (arg zr m) =
      some (.slice (some ⟨7, 0, some 0⟩) (m + 48 + 48) (m + 48 + 48), ⟨8, [own (zP g) ((rowOf z zr).take (m + 48)), .dead, E, xO h, xO g, hB h, hB g, bO z zr e']⟩, [6]) := by
  have := append_cells ⟨7, [xO g, E, xO h, xO g, hB h, hB g, bO z zr e']⟩ g (rowOf z zr) (m + 48) e' rfl rfl (by rw [Go.Proofs.Ythfhidbdjiehhaa.headPatches.rowOf_length]; omega) (by omega) h1
  rw [Go.Proofs.Ythfhidbdjiehhaa.headPatches.rowOf_length] at this
  exact this
theorem append_zero (g h zs : List Int) (e' : TypeId) :
    Dg.evAppend Try.prog ⟨7, [xO g, E, xO h, xO g, hB h, hB g, bC zs e']⟩ 28 28 (.slice (some ⟨6, 0, some 0⟩) 48 48) (.slice (some ⟨0, 0, none⟩) 0 zs.length) =
      some (.slice (some ⟨6, 0, some 0⟩) 48 48, ⟨7, [own (zP g) [], E, xO h, xO g, hB h, hB g, bC zs e']⟩, []) := by
  have e1 : Dg.someSlice (Try.prog.underlying 28) = some 5 := by kernel_rfl
  have e2 : Dg.srcType (Try.prog.underlying 28) = true := by kernel_rfl
  obtain ⟨i, hi, hz, hs, hb⟩ : ∃ i, Try.prog.info? 5 = some i ∧ i.zero = some (.int .u8 0) ∧ i.size = 1 ∧ i.bytes = 1 := ⟨_, rfl, by kernel_rfl, by kernel_rfl, by kernel_rfl⟩
  have hg : (⟨7, [xO g, E, xO h, xO g, hB h, hB g, bC zs e']⟩ : Heap).get 0 = bC zs e' := rfl
  have hr : (⟨7, [xO g, E, xO h, xO g, hB h, hB g, bC zs e']⟩ : Heap).read 0 0 0 = some [] := by
    unfold Heap.read
    rw [hg]
    unfold bC
    simp only
    rw [if_pos (by omega)]
    rfl
  have hc : (Value.int IntKind.u8 0).cells.size = 1 := rfl
  have hx : xO g = own (zP g) [] := by rw [own_is]; simp [u8s, xO]
  unfold Dg.evAppend
  simp only [e1, e2, hi, hz, hs, hb, Dg.srcCells, Nat.mul_one, hr, Option.map_some, List.all_nil, List.length_nil, hc, Nat.zero_add, Bool.not_true, Bool.false_eq_true, if_false, beq_self_eq_true, Bool.and_self]
  simp [hx]

theorem nilF (g h : List Int) (mg : ev 19 10 [.agg (hd g).toArray] ⟨0, []⟩ = some (.bool false, ⟨0, []⟩, [])) : (ev 20 6 [.agg (hd g).toArray, .agg (hd h).toArray, .slice none 0 0] ⟨0, []⟩).map (·.1) = some (.bool true) :=
  tt (Dg.evCall_hint (hs := [.call 10 (.bool false) ⟨0, []⟩ []]) (hs' := []) (v := .bool true) (H' := ⟨0, []⟩) (log := []) [ev 19 10 [.agg (hd g).toArray] ⟨0, []⟩ = some (.bool false, ⟨0, []⟩, [])] (by kernel_rfl) ⟨mg, trivial⟩)

theorem fewF (g h zs : List Int) (e' : TypeId) (len : Nat) (hl : len ≤ zs.length) (h48 : len < 48) (mg : ev 19 10 [.agg (hd g).toArray] ⟨0, []⟩ = some (.bool false, ⟨0, []⟩, [])) : (ev 20 6 [.agg (hd g).toArray, .agg (hd h).toArray, .slice (some ⟨0, 0, none⟩) len zs.length] ⟨1, [bC zs e']⟩).map (·.1) = some (.bool true) :=
  tt (Dg.evCall_hint (hs := [.val 6 19 (.bool false),
    .call 10 (.bool false) ⟨0, []⟩ [],
    .val 6 79 (.bool false)]) (hs' := []) (v := .bool true) (H' := ⟨1, [bC zs e']⟩) (log := []) [Value.bool (decide (1000 < (len : Int))) = .bool false,
    ev 19 10 [.agg (hd g).toArray] ⟨0, []⟩ = some (.bool false, ⟨0, []⟩, []),
    Value.bool (decide (48 ≤ (len : Int))) = .bool false] (by kernel_rfl) ⟨Dg.vfalse (by omega), mg, Dg.vfalse (by omega), trivial⟩)

theorem moreF (g h zr : List Int) (z : Nat → Int) (e' : TypeId) (m : Nat) (hm : m ≤ zr.length) (hk : m + 48 ≤ 1000) (st : ByteArray) (hs : Dg.strOf (u8s (rowOf z zr)) 0 48 = some st) (hst : (str (iA (la z))).toList = st.toList) (hz : Dg.AllP (mayOb (la z))) (mg : ev 19 10 [.agg (hd g).toArray] ⟨0, []⟩ = some (.bool false, ⟨0, []⟩, [])) : (ev 20 6 [.agg (hd g).toArray, .agg (hd h).toArray, arg zr m] ⟨1, [bO z zr e']⟩).map (·.1) = some (.bool true) :=
  tt (Dg.evCall_hint (hs := [.val 6 19 (.bool false),
    .call 10 (.bool false) ⟨0, []⟩ [],
    .val 6 79 (.bool true),
    .call 15 (takeV (la z)) ⟨3, [hB h, hB g, bO z zr e']⟩ [],
    .call 9 (pV 4) ⟨5, [xO (la z), hB (la z), hB h, hB g, bO z zr e']⟩ [],
    .soft 6 100 (.slice (some ⟨0, 0, none⟩) 48 (zr.length + 48)),
    .soft 6 101 (.string st),
    .val 6 102 (.bool false)]) (hs' := []) (v := .bool true) (H' := ⟨1, [bO z zr e']⟩) (log := []) [Value.bool (decide (1000 < ((m + 48 : Nat) : Int))) = .bool false,
    ev 19 10 [.agg (hd g).toArray] ⟨0, []⟩ = some (.bool false, ⟨0, []⟩, []),
    Value.bool (decide (48 ≤ ((m + 48 : Nat) : Int))) = .bool true,
    ev 19 15 [arg zr m] ⟨3, [hB h, hB g, bO z zr e']⟩ = some (takeV (la z), ⟨3, [hB h, hB g, bO z zr e']⟩, []),
    ev 19 9 [.agg (hd (la z)).toArray] ⟨4, [hB (la z), hB h, hB g, bO z zr e']⟩ = some (pV 4, ⟨5, [xO (la z), hB (la z), hB h, hB g, bO z zr e']⟩, []),
    (0 : Int) ≤ 48,
    0 ≤ 48 ∧ 48 ≤ zr.length + 48 ∧ zr.length + 48 ≤ zr.length + 48,
    (none : Option Nat).isSome = true → ¬ (0 = zr.length + 48 ∧ 0 ≠ 0),
    Value.slice (some ⟨0, if zr.length + 48 = 0 then 0 else 0 + 0 * 1, none⟩) (48 - 0) (zr.length + 48 - 0) = .slice (some ⟨0, 0, none⟩) 48 (zr.length + 48),
    Dg.strOf (u8s (rowOf z zr)) 0 48 = some st,
    Value.bool (!((str (iA (la z))).toList == st.toList)) = .bool false] (by kernel_rfl) ⟨Dg.vfalse (by omega), mg, Dg.vtrue (by omega), Dg.evCall_hint _ _ (takeB3 z zr m e' _ _) (takeObB_is zr m hm), Dg.evCall_hint _ _ (put4 (la z) _) hz, by omega, by omega, by simp, by simp, hs, by rw [hst]; simp, trivial⟩)

theorem nilTF (g h : List Int) (mg : ev 19 10 [.agg (hd g).toArray] ⟨0, []⟩ = some (.bool true, ⟨0, []⟩, [])) (mh : ev 19 10 [.agg (hd h).toArray] ⟨0, []⟩ = some (.bool false, ⟨0, []⟩, [])) : (ev 20 6 [.agg (hd g).toArray, .agg (hd h).toArray, .slice none 0 0] ⟨0, []⟩).map (·.1) = some (.bool true) :=
  tt (Dg.evCall_hint (hs := [.call 10 (.bool true) ⟨0, []⟩ [],
    .call 10 (.bool false) ⟨0, []⟩ []]) (hs' := []) (v := .bool true) (H' := ⟨0, []⟩) (log := []) [ev 19 10 [.agg (hd g).toArray] ⟨0, []⟩ = some (.bool true, ⟨0, []⟩, []),
    ev 19 10 [.agg (hd h).toArray] ⟨0, []⟩ = some (.bool false, ⟨0, []⟩, [])] (by kernel_rfl) ⟨mg, mh, trivial⟩)

theorem fewTF (g h zs : List Int) (e' : TypeId) (len : Nat) (hl : len ≤ zs.length) (h48 : len < 48) (mg : ev 19 10 [.agg (hd g).toArray] ⟨0, []⟩ = some (.bool true, ⟨0, []⟩, [])) (mh : ev 19 10 [.agg (hd h).toArray] ⟨0, []⟩ = some (.bool false, ⟨0, []⟩, [])) : (ev 20 6 [.agg (hd g).toArray, .agg (hd h).toArray, .slice (some ⟨0, 0, none⟩) len zs.length] ⟨1, [bC zs e']⟩).map (·.1) = some (.bool true) :=
  tt (Dg.evCall_hint (hs := [.val 6 19 (.bool false),
    .call 10 (.bool true) ⟨0, []⟩ [],
    .call 10 (.bool false) ⟨0, []⟩ [],
    .val 6 79 (.bool false)]) (hs' := []) (v := .bool true) (H' := ⟨1, [bC zs e']⟩) (log := []) [Value.bool (decide (1000 < (len : Int))) = .bool false,
    ev 19 10 [.agg (hd g).toArray] ⟨0, []⟩ = some (.bool true, ⟨0, []⟩, []),
    ev 19 10 [.agg (hd h).toArray] ⟨0, []⟩ = some (.bool false, ⟨0, []⟩, []),
    Value.bool (decide (48 ≤ (len : Int))) = .bool false] (by kernel_rfl) ⟨Dg.vfalse (by omega), mg, mh, Dg.vfalse (by omega), trivial⟩)

theorem moreTF (g h zr : List Int) (z : Nat → Int) (e' : TypeId) (m : Nat) (hm : m ≤ zr.length) (hk : m + 48 ≤ 1000) (st : ByteArray) (hs : Dg.strOf (u8s (rowOf z zr)) 0 48 = some st) (hst : (str (iA (la z))).toList = st.toList) (hz : Dg.AllP (mayOb (la z))) (mg : ev 19 10 [.agg (hd g).toArray] ⟨0, []⟩ = some (.bool true, ⟨0, []⟩, [])) (mh : ev 19 10 [.agg (hd h).toArray] ⟨0, []⟩ = some (.bool false, ⟨0, []⟩, [])) : (ev 20 6 [.agg (hd g).toArray, .agg (hd h).toArray, arg zr m] ⟨1, [bO z zr e']⟩).map (·.1) = some (.bool true) :=
  tt (Dg.evCall_hint (hs := [.val 6 19 (.bool false),
    .call 10 (.bool true) ⟨0, []⟩ [],
    .call 10 (.bool false) ⟨0, []⟩ [],
    .val 6 79 (.bool true),
    .call 15 (takeV (la z)) ⟨3, [hB h, hB g, bO z zr e']⟩ [],
    .call 9 (pV 4) ⟨5, [xO (la z), hB (la z), hB h, hB g, bO z zr e']⟩ [],
    .soft 6 100 (.slice (some ⟨0, 0, none⟩) 48 (zr.length + 48)),
    .soft 6 101 (.string st),
    .val 6 102 (.bool false)]) (hs' := []) (v := .bool true) (H' := ⟨1, [bO z zr e']⟩) (log := []) [Value.bool (decide (1000 < ((m + 48 : Nat) : Int))) = .bool false,
    ev 19 10 [.agg (hd g).toArray] ⟨0, []⟩ = some (.bool true, ⟨0, []⟩, []),
    ev 19 10 [.agg (hd h).toArray] ⟨0, []⟩ = some (.bool false, ⟨0, []⟩, []),
    Value.bool (decide (48 ≤ ((m + 48 : Nat) : Int))) = .bool true,
    ev 19 15 [arg zr m] ⟨3, [hB h, hB g, bO z zr e']⟩ = some (takeV (la z), ⟨3, [hB h, hB g, bO z zr e']⟩, []),
    ev 19 9 [.agg (hd (la z)).toArray] ⟨4, [hB (la z), hB h, hB g, bO z zr e']⟩ = some (pV 4, ⟨5, [xO (la z), hB (la z), hB h, hB g, bO z zr e']⟩, []),
    (0 : Int) ≤ 48,
    0 ≤ 48 ∧ 48 ≤ zr.length + 48 ∧ zr.length + 48 ≤ zr.length + 48,
    (none : Option Nat).isSome = true → ¬ (0 = zr.length + 48 ∧ 0 ≠ 0),
    Value.slice (some ⟨0, if zr.length + 48 = 0 then 0 else 0 + 0 * 1, none⟩) (48 - 0) (zr.length + 48 - 0) = .slice (some ⟨0, 0, none⟩) 48 (zr.length + 48),
    Dg.strOf (u8s (rowOf z zr)) 0 48 = some st,
    Value.bool (!((str (iA (la z))).toList == st.toList)) = .bool false] (by kernel_rfl) ⟨Dg.vfalse (by omega), mg, mh, Dg.vtrue (by omega), Dg.evCall_hint _ _ (takeB3 z zr m e' _ _) (takeObB_is zr m hm), Dg.evCall_hint _ _ (put4 (la z) _) hz, by omega, by omega, by simp, by simp, hs, by rw [hst]; simp, trivial⟩)

theorem nilTT (g h : List Int) (sb : Bool) (hsb : ((str (iA g)).toList == (str (iA h)).toList) = sb) (heq : eqH g h = sb) (hg : la (zP g) = g) (og : Dg.AllP (mayOb g)) (oh : Dg.AllP (mayOb h)) (mg : ev 19 10 [.agg (hd g).toArray] ⟨0, []⟩ = some (.bool true, ⟨0, []⟩, [])) (mh : ev 19 10 [.agg (hd h).toArray] ⟨0, []⟩ = some (.bool true, ⟨0, []⟩, [])) : (ev 20 6 [.agg (hd g).toArray, .agg (hd h).toArray, .slice none 0 0] ⟨0, []⟩).map (·.1) = some (.bool true) :=
  tt (Dg.evCall_hint (hs := [.call 10 (.bool true) ⟨0, []⟩ [],
    .call 10 (.bool true) ⟨0, []⟩ [],
    .call 9 (pV 2) ⟨3, [xO g, hB h, hB g]⟩ [],
    .call 9 (pV 3) ⟨4, [xO h, xO g, hB h, hB g]⟩ [],
    .call 15 (takeV (la (zP g))) ⟨6, [own (zP g) [], E, xO h, xO g, hB h, hB g]⟩ [],
    .val 6 59 (.bool false),
    .val 6 66 (.bool sb),
    .val 6 69 (.bool sb),
    .val 6 70 (.bool false)]) (hs' := []) (v := .bool true) (H' := ⟨0, []⟩) (log := []) [ev 19 10 [.agg (hd g).toArray] ⟨0, []⟩ = some (.bool true, ⟨0, []⟩, []),
    ev 19 10 [.agg (hd h).toArray] ⟨0, []⟩ = some (.bool true, ⟨0, []⟩, []),
    ev 19 9 [.agg (hd g).toArray] ⟨2, [hB h, hB g]⟩ = some (pV 2, ⟨3, [xO g, hB h, hB g]⟩, []),
    ev 19 9 [.agg (hd h).toArray] ⟨3, [xO g, hB h, hB g]⟩ = some (pV 3, ⟨4, [xO h, xO g, hB h, hB g]⟩, []),
    ev 19 15 [.slice (some ⟨5, 0, some 0⟩) 48 48] ⟨6, [own (zP g) [], E, xO h, xO g, hB h, hB g]⟩ = some (takeV (la (zP g)), ⟨6, [own (zP g) [], E, xO h, xO g, hB h, hB g]⟩, []),
    Value.bool (!(eqH (la (zP g)) g)) = .bool false,
    Value.bool ((str (iA g)).toList == (str (iA h)).toList) = .bool sb,
    Value.bool (eqH g h) = .bool sb,
    Value.bool (!(sb == sb)) = .bool false] (by kernel_rfl) ⟨mg, mh, Dg.evCall_hint _ _ (put2 g _) og, Dg.evCall_hint _ _ (put3 h _) oh, Dg.evCall_hint _ _ (take5 _ (zP g)) (trivial), by rw [hg, eqH_refl]; rfl, by rw [hsb], by rw [heq], by simp, trivial⟩)

theorem zeroTT (g h zs : List Int) (e' : TypeId) (sb : Bool) (hsb : ((str (iA g)).toList == (str (iA h)).toList) = sb) (heq : eqH g h = sb) (hg : la (zP g) = g) (og : Dg.AllP (mayOb g)) (oh : Dg.AllP (mayOb h)) (mg : ev 19 10 [.agg (hd g).toArray] ⟨0, []⟩ = some (.bool true, ⟨0, []⟩, [])) (mh : ev 19 10 [.agg (hd h).toArray] ⟨0, []⟩ = some (.bool true, ⟨0, []⟩, [])) : (ev 20 6 [.agg (hd g).toArray, .agg (hd h).toArray, .slice (some ⟨0, 0, none⟩) 0 zs.length] ⟨1, [bC zs e']⟩).map (·.1) = some (.bool true) :=
  tt (Dg.evCall_hint (hs := [.call 10 (.bool true) ⟨0, []⟩ [],
    .call 10 (.bool true) ⟨0, []⟩ [],
    .call 9 (pV 3) ⟨4, [xO g, hB h, hB g, bC zs e']⟩ [],
    .call 9 (pV 4) ⟨5, [xO h, xO g, hB h, hB g, bC zs e']⟩ [],
    .softH 6 42 (.slice (some ⟨6, 0, some 0⟩) 48 48) ⟨7, [own (zP g) [], E, xO h, xO g, hB h, hB g, bC zs e']⟩ [],
    .call 15 (takeV (la (zP g))) ⟨7, [own (zP g) [], E, xO h, xO g, hB h, hB g, bC zs e']⟩ [],
    .val 6 59 (.bool false),
    .val 6 66 (.bool sb),
    .val 6 69 (.bool sb),
    .val 6 70 (.bool false)]) (hs' := []) (v := .bool true) (H' := ⟨1, [bC zs e']⟩) (log := []) [ev 19 10 [.agg (hd g).toArray] ⟨0, []⟩ = some (.bool true, ⟨0, []⟩, []),
    ev 19 10 [.agg (hd h).toArray] ⟨0, []⟩ = some (.bool true, ⟨0, []⟩, []),
    ev 19 9 [.agg (hd g).toArray] ⟨3, [hB h, hB g, bC zs e']⟩ = some (pV 3, ⟨4, [xO g, hB h, hB g, bC zs e']⟩, []),
    ev 19 9 [.agg (hd h).toArray] ⟨4, [xO g, hB h, hB g, bC zs e']⟩ = some (pV 4, ⟨5, [xO h, xO g, hB h, hB g, bC zs e']⟩, []),
    Dg.evAppend Try.prog ⟨7, [xO g, E, xO h, xO g, hB h, hB g, bC zs e']⟩ 28 28 (.slice (some ⟨6, 0, some 0⟩) 48 48) (.slice (some ⟨0, 0, none⟩) 0 zs.length) = some (.slice (some ⟨6, 0, some 0⟩) 48 48, ⟨7, [own (zP g) [], E, xO h, xO g, hB h, hB g, bC zs e']⟩, []),
    ev 19 15 [.slice (some ⟨6, 0, some 0⟩) 48 48] ⟨7, [own (zP g) [], E, xO h, xO g, hB h, hB g, bC zs e']⟩ = some (takeV (la (zP g)), ⟨7, [own (zP g) [], E, xO h, xO g, hB h, hB g, bC zs e']⟩, []),
    Value.bool (!(eqH (la (zP g)) g)) = .bool false,
    Value.bool ((str (iA g)).toList == (str (iA h)).toList) = .bool sb,
    Value.bool (eqH g h) = .bool sb,
    Value.bool (!(sb == sb)) = .bool false] (by kernel_rfl) ⟨mg, mh, Dg.evCall_hint _ _ (put3 g _) og, Dg.evCall_hint _ _ (put4 h _) oh, append_zero g h zs e', Dg.evCall_hint _ _ (take6 _ (zP g)) (trivial), by rw [hg, eqH_refl]; rfl, by rw [hsb], by rw [heq], by simp, trivial⟩)

theorem fewTT (g h zs : List Int) (e' : TypeId) (len : Nat) (hl : len ≤ zs.length) (h48 : len < 48) (hpos : 0 < len) (sb : Bool) (hsb : ((str (iA g)).toList == (str (iA h)).toList) = sb) (heq : eqH g h = sb) (hg : la (zP g) = g) (og : Dg.AllP (mayOb g)) (oh : Dg.AllP (mayOb h)) (mg : ev 19 10 [.agg (hd g).toArray] ⟨0, []⟩ = some (.bool true, ⟨0, []⟩, [])) (mh : ev 19 10 [.agg (hd h).toArray] ⟨0, []⟩ = some (.bool true, ⟨0, []⟩, [])) : (ev 20 6 [.agg (hd g).toArray, .agg (hd h).toArray, .slice (some ⟨0, 0, none⟩) len zs.length] ⟨1, [bC zs e']⟩).map (·.1) = some (.bool true) :=
  tt (Dg.evCall_hint (hs := [.val 6 19 (.bool false),
    .call 10 (.bool true) ⟨0, []⟩ [],
    .call 10 (.bool true) ⟨0, []⟩ [],
    .call 9 (pV 3) ⟨4, [xO g, hB h, hB g, bC zs e']⟩ [],
    .call 9 (pV 4) ⟨5, [xO h, xO g, hB h, hB g, bC zs e']⟩ [],
    .softH 6 42 (.slice (some ⟨7, 0, some 0⟩) (len + 48) (len + 48)) ⟨8, [own (zP g) (zs.take len), .dead, E, xO h, xO g, hB h, hB g, bC zs e']⟩ [6],
    .call 15 (takeV (la (zP g))) ⟨8, [own (zP g) (zs.take len), .dead, E, xO h, xO g, hB h, hB g, bC zs e']⟩ [],
    .val 6 59 (.bool false),
    .val 6 66 (.bool sb),
    .val 6 69 (.bool sb),
    .val 6 70 (.bool false),
    .val 6 79 (.bool false)]) (hs' := []) (v := .bool true) (H' := ⟨1, [bC zs e']⟩) (log := []) [Value.bool (decide (1000 < (len : Int))) = .bool false,
    ev 19 10 [.agg (hd g).toArray] ⟨0, []⟩ = some (.bool true, ⟨0, []⟩, []),
    ev 19 10 [.agg (hd h).toArray] ⟨0, []⟩ = some (.bool true, ⟨0, []⟩, []),
    ev 19 9 [.agg (hd g).toArray] ⟨3, [hB h, hB g, bC zs e']⟩ = some (pV 3, ⟨4, [xO g, hB h, hB g, bC zs e']⟩, []),
    ev 19 9 [.agg (hd h).toArray] ⟨4, [xO g, hB h, hB g, bC zs e']⟩ = some (pV 4, ⟨5, [xO h, xO g, hB h, hB g, bC zs e']⟩, []),
    Dg.evAppend Try.prog ⟨7, [xO g, E, xO h, xO g, hB h, hB g, bC zs e']⟩ 28 28 (.slice (some ⟨6, 0, some 0⟩) 48 48) (.slice (some ⟨0, 0, none⟩) len zs.length) = some (.slice (some ⟨7, 0, some 0⟩) (len + 48) (len + 48), ⟨8, [own (zP g) (zs.take len), .dead, E, xO h, xO g, hB h, hB g, bC zs e']⟩, [6]),
    ev 19 15 [.slice (some ⟨7, 0, some 0⟩) (len + 48) (len + 48)] ⟨8, [own (zP g) (zs.take len), .dead, E, xO h, xO g, hB h, hB g, bC zs e']⟩ = some (takeV (la (zP g)), ⟨8, [own (zP g) (zs.take len), .dead, E, xO h, xO g, hB h, hB g, bC zs e']⟩, []),
    Value.bool (!(eqH (la (zP g)) g)) = .bool false,
    Value.bool ((str (iA g)).toList == (str (iA h)).toList) = .bool sb,
    Value.bool (eqH g h) = .bool sb,
    Value.bool (!(sb == sb)) = .bool false,
    Value.bool (decide (48 ≤ (len : Int))) = .bool false] (by kernel_rfl) ⟨Dg.vfalse (by omega), mg, mh, Dg.evCall_hint _ _ (put3 g _) og, Dg.evCall_hint _ _ (put4 h _) oh, append_some g h zs e' len hl hpos (by omega), Dg.evCall_hint _ _ (take7 _ (zP g) _ _) (takeOb7_is _), by rw [hg, eqH_refl]; rfl, by rw [hsb], by rw [heq], by simp, Dg.vfalse (by omega), trivial⟩)

theorem moreTT (g h zr : List Int) (z : Nat → Int) (e' : TypeId) (m : Nat) (hm : m ≤ zr.length) (hk : m + 48 ≤ 1000) (st : ByteArray) (hs : Dg.strOf (u8s (rowOf z zr)) 0 48 = some st) (hst : (str (iA (la z))).toList = st.toList) (hz : Dg.AllP (mayOb (la z))) (sb : Bool) (hsb : ((str (iA g)).toList == (str (iA h)).toList) = sb) (heq : eqH g h = sb) (hg : la (zP g) = g) (og : Dg.AllP (mayOb g)) (oh : Dg.AllP (mayOb h)) (mg : ev 19 10 [.agg (hd g).toArray] ⟨0, []⟩ = some (.bool true, ⟨0, []⟩, [])) (mh : ev 19 10 [.agg (hd h).toArray] ⟨0, []⟩ = some (.bool true, ⟨0, []⟩, [])) : (ev 20 6 [.agg (hd g).toArray, .agg (hd h).toArray, arg zr m] ⟨1, [bO z zr e']⟩).map (·.1) = some (.bool true) :=
  tt (Dg.evCall_hint (hs := [.val 6 19 (.bool false),
    .call 10 (.bool true) ⟨0, []⟩ [],
    .call 10 (.bool true) ⟨0, []⟩ [],
    .call 9 (pV 3) ⟨4, [xO g, hB h, hB g, bO z zr e']⟩ [],
    .call 9 (pV 4) ⟨5, [xO h, xO g, hB h, hB g, bO z zr e']⟩ [],
    .softH 6 42 (.slice (some ⟨7, 0, some 0⟩) (m + 48 + 48) (m + 48 + 48)) ⟨8, [own (zP g) ((rowOf z zr).take (m + 48)), .dead, E, xO h, xO g, hB h, hB g, bO z zr e']⟩ [6],
    .call 15 (takeV (la (zP g))) ⟨8, [own (zP g) ((rowOf z zr).take (m + 48)), .dead, E, xO h, xO g, hB h, hB g, bO z zr e']⟩ [],
    .val 6 59 (.bool false),
    .val 6 66 (.bool sb),
    .val 6 69 (.bool sb),
    .val 6 70 (.bool false),
    .val 6 79 (.bool true),
    .call 15 (takeV (la z)) ⟨9, [hB (la (zP g)), own (zP g) ((rowOf z zr).take (m + 48)), .dead, E, xO h, xO g, hB h, hB g, bO z zr e']⟩ [],
    .call 9 (pV 10) ⟨11, [xO (la z), hB (la z), hB (la (zP g)), own (zP g) ((rowOf z zr).take (m + 48)), .dead, E, xO h, xO g, hB h, hB g, bO z zr e']⟩ [],
    .soft 6 100 (.slice (some ⟨0, 0, none⟩) 48 (zr.length + 48)),
    .soft 6 101 (.string st),
    .val 6 102 (.bool false)]) (hs' := []) (v := .bool true) (H' := ⟨1, [bO z zr e']⟩) (log := []) [Value.bool (decide (1000 < ((m + 48 : Nat) : Int))) = .bool false,
    ev 19 10 [.agg (hd g).toArray] ⟨0, []⟩ = some (.bool true, ⟨0, []⟩, []),
    ev 19 10 [.agg (hd h).toArray] ⟨0, []⟩ = some (.bool true, ⟨0, []⟩, []),
    ev 19 9 [.agg (hd g).toArray] ⟨3, [hB h, hB g, bO z zr e']⟩ = some (pV 3, ⟨4, [xO g, hB h, hB g, bO z zr e']⟩, []),
    ev 19 9 [.agg (hd h).toArray] ⟨4, [xO g, hB h, hB g, bO z zr e']⟩ = some (pV 4, ⟨5, [xO h, xO g, hB h, hB g, bO z zr e']⟩, []),
    Dg.evAppend Try.prog ⟨7, [xO g, E, xO h, xO g, hB h, hB g, bO z zr e']⟩ 28 28 (.slice (some ⟨6, 0, some 0⟩) 48 48) (arg zr m) = some (.slice (some ⟨7, 0, some 0⟩) (m + 48 + 48) (m + 48 + 48), ⟨8, [own (zP g) ((rowOf z zr).take (m + 48)), .dead, E, xO h, xO g, hB h, hB g, bO z zr e']⟩, [6]),
    ev 19 15 [.slice (some ⟨7, 0, some 0⟩) (m + 48 + 48) (m + 48 + 48)] ⟨8, [own (zP g) ((rowOf z zr).take (m + 48)), .dead, E, xO h, xO g, hB h, hB g, bO z zr e']⟩ = some (takeV (la (zP g)), ⟨8, [own (zP g) ((rowOf z zr).take (m + 48)), .dead, E, xO h, xO g, hB h, hB g, bO z zr e']⟩, []),
    Value.bool (!(eqH (la (zP g)) g)) = .bool false,
    Value.bool ((str (iA g)).toList == (str (iA h)).toList) = .bool sb,
    Value.bool (eqH g h) = .bool sb,
    Value.bool (!(sb == sb)) = .bool false,
    Value.bool (decide (48 ≤ ((m + 48 : Nat) : Int))) = .bool true,
    ev 19 15 [arg zr m] ⟨9, [hB (la (zP g)), own (zP g) ((rowOf z zr).take (m + 48)), .dead, E, xO h, xO g, hB h, hB g, bO z zr e']⟩ = some (takeV (la z), ⟨9, [hB (la (zP g)), own (zP g) ((rowOf z zr).take (m + 48)), .dead, E, xO h, xO g, hB h, hB g, bO z zr e']⟩, []),
    ev 19 9 [.agg (hd (la z)).toArray] ⟨10, [hB (la z), hB (la (zP g)), own (zP g) ((rowOf z zr).take (m + 48)), .dead, E, xO h, xO g, hB h, hB g, bO z zr e']⟩ = some (pV 10, ⟨11, [xO (la z), hB (la z), hB (la (zP g)), own (zP g) ((rowOf z zr).take (m + 48)), .dead, E, xO h, xO g, hB h, hB g, bO z zr e']⟩, []),
    (0 : Int) ≤ 48,
    0 ≤ 48 ∧ 48 ≤ zr.length + 48 ∧ zr.length + 48 ≤ zr.length + 48,
    (none : Option Nat).isSome = true → ¬ (0 = zr.length + 48 ∧ 0 ≠ 0),
    Value.slice (some ⟨0, if zr.length + 48 = 0 then 0 else 0 + 0 * 1, none⟩) (48 - 0) (zr.length + 48 - 0) = .slice (some ⟨0, 0, none⟩) 48 (zr.length + 48),
    Dg.strOf (u8s (rowOf z zr)) 0 48 = some st,
    Value.bool (!((str (iA (la z))).toList == st.toList)) = .bool false] (by kernel_rfl) ⟨Dg.vfalse (by omega), mg, mh, Dg.evCall_hint _ _ (put3 g _) og, Dg.evCall_hint _ _ (put4 h _) oh, append_more g h zr z e' m hm hk, Dg.evCall_hint _ _ (take7 _ (zP g) _ _) (takeOb7_is _), by rw [hg, eqH_refl]; rfl, by rw [hsb], by rw [heq], by simp, Dg.vtrue (by omega), Dg.evCall_hint _ _ (takeB9 z zr m e' _ _ _ _ _ _ _ _) (takeObB_is zr m hm), Dg.evCall_hint _ _ (put10 (la z) _) hz, by omega, by omega, by simp, by simp, hs, by rw [hst]; simp, trivial⟩)

theorem long (g h zs : List Int) (e' : TypeId) (len : Nat) (hl : 1000 < len) : (ev 20 6 [.agg (hd g).toArray, .agg (hd h).toArray, .slice (some ⟨0, 0, none⟩) len zs.length] ⟨1, [bC zs e']⟩).map (·.1) = some (.bool true) :=
  tt (Dg.evCall_hint (hs := [.val 6 19 (.bool true)]) (hs' := []) (v := .bool true) (H' := ⟨1, [bC zs e']⟩) (log := []) [Value.bool (decide (1000 < (len : Int))) = .bool true] (by kernel_rfl) ⟨Dg.vtrue (by omega), trivial⟩)
end Go.Proofs.Ythfhidbdjiehhaa.headBack
