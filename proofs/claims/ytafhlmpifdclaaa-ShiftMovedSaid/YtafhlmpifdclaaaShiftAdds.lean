/- What 'Add' comes to: for the laws of layer 34. -/
import Derived.Test.YtafhlmpifdclaaaRows
import Derived.Test.YtafhlmpifdclaaaShiftAdd
namespace Go.Proofs.Ytafhlmpifdclaaa.shift
open Go.Dg (junk St Ex Ev Hint evCall evCallS evCode evCodeS evLoop cleanSt ue bodied noOver sbOf headOf tailOf bodyOf Flats flatOver Heap AObj SCall Law ofLaw)
set_option linter.unusedVariables false
set_option linter.unusedSimpArgs false

theorem pc_inj : ∀ (a b : List (Int × Int)), pc a = pc b → a = b := by
  intro a
  induction a with
  | nil => intro b h; cases b with
    | nil => rfl
    | cons y s => simp [pc] at h
  | cons x r ih =>
    intro b h
    cases b with
    | nil => simp [pc] at h
    | cons y s =>
      simp only [pc, List.flatMap_cons, List.cons_append, List.nil_append, List.cons.injEq, Value.int.injEq, true_and] at h
      obtain ⟨h1, h2, h3⟩ := h
      rw [ih s h3, Prod.ext h1 h2]
/-! ### What the calls of 'Add' come to, as laws -/
def C17 : Law := fun args H r => ∃ k o len cap md esz s ps, args = [.slice (some ⟨k, 2 * o, s⟩) len cap] ∧ H.get k = .cells (pc ps) 54 (md + 4) esz ∧ o + len ≤ ps.length ∧ 0 < len ∧ len ≤ 900 ∧
  r = (.slice (some ⟨H.n, 0, some 0⟩) len len, H.push (.cells (pc ((ps.drop o).take len)) 54 5 2), [])
def C18 : Law := fun args H r => ∃ k o m c md esz s ps, args = [.slice (some ⟨k, 2 * o, s⟩) (m + 1) (c + 1)] ∧ H.get k = .cells (pc ps) 54 (md + 4) esz ∧ m ≤ 900 ∧ m ≤ c ∧ o + m < ps.length ∧ (s = none ∨ s = some 0) ∧ r = (.int .i64 (bst (q18 ps o) m).1, H, [])
def C19 : Law := fun args H r => ∃ a b t, args = [.int .i64 a, .int .i64 b, .int .i64 t] ∧ In a ∧ In b ∧ (0 ≤ t ∧ t < 9223372036854775808) ∧ r = (.bool (apartB a b t), H, [])
theorem u17 (args : List Value) (H : Heap) (r r' : Value × Heap × List Nat) (h : C17 args H r) (h' : C17 args H r') : r = r' := by
  obtain ⟨k, o, len, cap, md, esz, s, ps, rfl, hk, _, _, _, rfl⟩ := h
  obtain ⟨k', o', len', cap', md', esz', s', ps', ha, hk', _, _, _, rfl⟩ := h'
  simp only [List.cons.injEq, Value.slice.injEq, Option.some.injEq, Addr.mk.injEq, and_true] at ha
  obtain ⟨⟨rfl, h2, rfl⟩, rfl, rfl⟩ := ha
  rw [hk] at hk'
  simp only [AObj.cells.injEq, true_and] at hk'
  obtain rfl := pc_inj _ _ hk'.1
  obtain rfl : o = o' := by omega
  rfl
theorem u18 (args : List Value) (H : Heap) (r r' : Value × Heap × List Nat) (h : C18 args H r) (h' : C18 args H r') : r = r' := by
  obtain ⟨k, o, m, c, md, esz, s, ps, rfl, hk, _, _, _, _, rfl⟩ := h
  obtain ⟨k', o', m', c', md', esz', s', ps', ha, hk', _, _, _, _, rfl⟩ := h'
  simp only [List.cons.injEq, Value.slice.injEq, Option.some.injEq, Addr.mk.injEq, and_true] at ha
  obtain ⟨⟨rfl, h2, rfl⟩, h3, h4⟩ := ha
  rw [hk] at hk'
  simp only [AObj.cells.injEq, true_and] at hk'
  obtain rfl := pc_inj _ _ hk'.1
  obtain rfl : o = o' := by omega
  obtain rfl : m = m' := by omega
  rfl
theorem u19 (args : List Value) (H : Heap) (r r' : Value × Heap × List Nat) (h : C19 args H r) (h' : C19 args H r') : r = r' := by
  obtain ⟨a, b, t, rfl, _, _, _, rfl⟩ := h
  obtain ⟨a', b', t', ha, _, _, _, rfl⟩ := h'
  simp only [List.cons.injEq, Value.int.injEq, true_and, and_true] at ha
  obtain ⟨rfl, rfl, rfl⟩ := ha
  rfl
noncomputable def over1 : Ev := fun f args H => match f with
  | 17 => ofLaw C17 args H
  | 18 => ofLaw C18 args H
  | 19 => ofLaw C19 args H
  | _ => none
theorem over1_ok : Dg.CallOk Try.prog 0 over1 ∧ Dg.CallLog over1 := Dg.over_ok (by
  intro f args H v H' log h
  unfold over1 at h
  split at h
  · obtain ⟨k, o, len, cap, md, esz, s, ps, rfl, hk, h1, h2, h3, hr⟩ := Dg.ofLaw_inv h
    simp only [Prod.mk.injEq] at hr
    obtain ⟨rfl, rfl, rfl⟩ := hr
    exact clone_is hk h1 h2 h3
  · obtain ⟨k, o, m, c, md, esz, s, ps, rfl, hk, h1, h2, h3, h4, hr⟩ := Dg.ofLaw_inv h
    simp only [Prod.mk.injEq] at hr
    obtain ⟨rfl, rfl, rfl⟩ := hr
    exact best_is hk h1 h2 h3 h4
  · obtain ⟨a, b, t, rfl, h1, h2, h3, hr⟩ := Dg.ofLaw_inv h
    simp only [Prod.mk.injEq] at hr
    obtain ⟨rfl, rfl, rfl⟩ := hr
    exact SCall.of_flats (apart_is a b t h1 h2 h3) _
  · cases h)

/-! ### The detector -/
def D (w : Nat) (b : Int) (l : Value) (c : Int) : AObj := .cells [.int .i64 w, .int .i64 b, l, .int .u64 c] 51 (match l with | .slice none _ _ => 4 | _ => 0) 1
def Z31 : AObj := .cells [.int .u64 0, .int .i64 0, .int .i64 0] 31 0 1
def XY (x y : Int) : AObj := .cells [.int .i64 x, .int .i64 y] 54 0 1
def A2 (ps : List (Int × Int)) (x y : Int) : AObj := .cells (pc (ps ++ [(x, y)])) 54 5 2
def A3 (ps : List (Int × Int)) (x y : Int) : AObj := .cells (pc ((ps ++ [(x, y)]).drop 1)) 54 5 2
def zeroR : Value := .tuple #[.agg #[.int .u64 0, .int .i64 0, .int .i64 0], .bool false]
theorem append_add (w : Nat) (b x y c : Int) (ps : List (Int × Int)) (l : Nat) (hl : ps.length = l) (h1 : l ≤ 900) :
    Dg.evAppend Try.prog ⟨4, [XY x y, Z31, A18 ps 1 2, D w b (.slice (some ⟨1, 0, some 0⟩) l l) c]⟩ 49 49 (.slice (some ⟨1, 0, some 0⟩) l l) (.slice (some ⟨3, 0, none⟩) 1 1) =
      some (.slice (some ⟨4, 0, some 0⟩) (l + 1) (l + 1), ⟨5, [A2 ps x y, XY x y, Z31, .dead, D w b (.slice (some ⟨1, 0, some 0⟩) l l) c]⟩, [1]) := by
  have e1 : Dg.someSlice (Try.prog.underlying 49) = some 54 := by kernel_rfl
  have e2 : Dg.srcType (Try.prog.underlying 49) = true := by kernel_rfl
  obtain ⟨i, hi, hz, hs, hb⟩ := info54
  let H : Heap := ⟨4, [XY x y, Z31, A18 ps 1 2, D w b (.slice (some ⟨1, 0, some 0⟩) l l) c]⟩
  have hk : H.get 1 = .cells (pc ps) 54 5 2 := rfl
  have hr : H.read 1 (2 * 0) (l * 2) = some (pc ((ps.drop 0).take l)) := pc_read hk (by omega)
  have hr2 : H.read 3 0 (1 * 2) = some [.int .i64 x, .int .i64 y] := rfl
  have hps : (ps.drop 0).take l = ps := by rw [List.drop_zero, ← hl, List.take_length]
  rw [hps] at hr
  have hc : (Value.agg #[.int .i64 0, .int .i64 0]).cells.size = 2 := rfl
  have ho : ([.int .i64 x, .int .i64 y] : List Value).all (·.oneCell') = true := rfl
  have hp : pc (ps ++ [(x, y)]) = pc ps ++ [.int .i64 x, .int .i64 y] := by rw [pc_app]; rfl
  show Dg.evAppend Try.prog H 49 49 _ _ = _
  unfold Dg.evAppend
  simp only [e1, e2, hi, hz, hs, hb, Dg.srcCells, hr2, Option.map_some, ho, hc, List.length_cons, List.length_nil, Bool.not_true, Bool.false_eq_true, if_false]
  rw [if_neg (by simp), if_neg (by omega), if_neg (by simp; omega)]
  have hr' : H.read 1 0 (l * 2) = some (pc ps) := hr
  simp only [hr', pc_one, Bool.not_true, Bool.false_eq_true, if_false, hk]
  rw [if_pos (by simp [pc_length, hl]; omega)]
  simp [A2, hp, H, Heap.push, Heap.set, Dg.keepMd, Dg.flatL, Dg.flat]
theorem call17 (w : Nat) (b x y c : Int) (ps : List (Int × Int)) (hl : ps.length = 2 * w) (hw : 0 < w) (hw1 : w ≤ 64) :
    over1 17 [.slice (some ⟨4, 2, some 0⟩) (2 * w) (2 * w)] ⟨5, [A2 ps x y, XY x y, Z31, .dead, D w b (.slice (some ⟨4, 0, some 0⟩) (2 * w + 1) (2 * w + 1)) (c + 1)]⟩ =
      some (.slice (some ⟨5, 0, some 0⟩) (2 * w) (2 * w), ⟨6, [A3 ps x y, A2 ps x y, XY x y, Z31, .dead, D w b (.slice (some ⟨4, 0, some 0⟩) (2 * w + 1) (2 * w + 1)) (c + 1)]⟩, []) := by
  refine Dg.ofLaw_is u17 ⟨4, 1, 2 * w, 2 * w, 1, 2, some 0, ps ++ [(x, y)], rfl, rfl, by simp; omega, by omega, by omega, ?_⟩
  have : ((ps ++ [(x, y)]).drop 1).take (2 * w) = (ps ++ [(x, y)]).drop 1 := List.take_of_length_le (by simp; omega)
  rw [this]
  rfl
theorem call18 {H : Heap} {k o w cap md esz a : Nat} {ps : List (Int × Int)} (hk : H.get k = .cells (pc ps) 54 (md + 4) esz) (hl : o + w ≤ ps.length) (hw : 0 < w) (hc : w ≤ cap) (hw1 : w ≤ 64) (ha : a = 2 * o) :
    over1 18 [.slice (some ⟨k, a, some 0⟩) w cap] H = some (.int .i64 (bst (q18 ps o) (w - 1)).1, H, []) := by
  subst ha
  refine Dg.ofLaw_is u18 ⟨k, o, w - 1, cap - 1, md, esz, some 0, ps, ?_, hk, by omega, by omega, by omega, .inr rfl, rfl⟩
  rw [show w - 1 + 1 = w by omega, show cap - 1 + 1 = cap by omega]
theorem call19 {H : Heap} {a b t : Int} {r : Bool} (ha : In a) (hb : In b) (ht : 0 ≤ t ∧ t < 9223372036854775808) (h : apartB a b t = r) : over1 19 [.int .i64 a, .int .i64 b, .int .i64 t] H = some (.bool r, H, []) :=
  Dg.ofLaw_is u19 ⟨a, b, t, rfl, ha, hb, ht, by rw [h]⟩

/-! ### What is left -/
theorem gc_few (w : Nat) (b x y c : Int) (ps : List (Int × Int)) (n : Nat) (v : List Value) (hv : Dg.idsOfL v = [] := by rfl) (hv2 : Dg.renL (Dg.renK 2 [4]) v = v := by rfl) :
    Dg.gcAt 2 v [0, 1] ⟨5, [A2 ps x y, XY x y, Z31, .dead, D w b (.slice (some ⟨4, 0, some 0⟩) n n) c]⟩ = (v, ⟨3, [A2 ps x y, .dead, D w b (.slice (some ⟨2, 0, some 0⟩) n n) c]⟩) := by
  let H : Heap := ⟨5, [A2 ps x y, XY x y, Z31, .dead, D w b (.slice (some ⟨4, 0, some 0⟩) n n) c]⟩
  have hids : (H.get 4).ids = [] := Dg.ids_flat (pc_flat _)
  have hren : (H.get 4).ren (Dg.renK 2 [4]) = A2 ps x y := Dg.ren_mark
  have hcol : Dg.collect 2 H 100000 (Dg.idsOfL v ++ [0, 1].flatMap fun k => (H.get k).ids) [] = some [4] := by
    rw [hv, show ([] ++ [0, 1].flatMap fun k => (H.get k).ids) = [4] from by kernel_rfl, Dg.collect_take (l := []) (by omega) (by simp) hids]; exact Dg.collect_nil
  refine (Dg.gc_is [4] [D w b (.slice (some ⟨2, 0, some 0⟩) n n) c, .dead] [A2 ps x y] hcol (by show 2 ≤ 5; omega) (by kernel_rfl) (by simp only [List.map_cons, List.map_nil, hren])).trans ?_
  rw [hv2]
  rfl
theorem gc_4 (w : Nat) (b x y c : Int) (ps : List (Int × Int)) (n : Nat) (v : List Value) (z z' : AObj) (hz : z.ids = [] := by rfl) (hv : Dg.idsOfL v = [] := by rfl) (hv2 : Dg.renL (Dg.renK 2 [4]) v = v := by rfl) :
    Dg.gcAt 2 v [0, 1] ⟨6, [z', A2 ps x y, XY x y, z, .dead, D w b (.slice (some ⟨4, 0, some 0⟩) n n) c]⟩ = (v, ⟨3, [A2 ps x y, .dead, D w b (.slice (some ⟨2, 0, some 0⟩) n n) c]⟩) := by
  let H : Heap := ⟨6, [z', A2 ps x y, XY x y, z, .dead, D w b (.slice (some ⟨4, 0, some 0⟩) n n) c]⟩
  have hids : (H.get 4).ids = [] := Dg.ids_flat (pc_flat _)
  have hren : (H.get 4).ren (Dg.renK 2 [4]) = A2 ps x y := Dg.ren_mark
  have hcol : Dg.collect 2 H 100000 (Dg.idsOfL v ++ [0, 1].flatMap fun k => (H.get k).ids) [] = some [4] := by
    rw [hv, show ([] ++ [0, 1].flatMap fun k => (H.get k).ids) = [4] from by kernel_rfl, Dg.collect_take (l := []) (by omega) (by simp) hids]; exact Dg.collect_nil
  refine (Dg.gc_is [4] [D w b (.slice (some ⟨2, 0, some 0⟩) n n) c, .dead] [A2 ps x y] hcol (by show 2 ≤ 6; omega) (by kernel_rfl) (by simp only [List.map_cons, List.map_nil, hren])).trans ?_
  rw [hv2]
  rfl
theorem gc_5 (w : Nat) (b x y c : Int) (ps : List (Int × Int)) (n : Nat) (v : List Value) (z z' a : AObj) (hz : z.ids = [] := by rfl) (hv : Dg.idsOfL v = [] := by rfl) (hv2 : Dg.renL (Dg.renK 2 [5]) v = v := by rfl) :
    Dg.gcAt 2 v [0, 1] ⟨7, [z', A3 ps x y, a, XY x y, z, .dead, D w b (.slice (some ⟨5, 0, some 0⟩) n n) c]⟩ = (v, ⟨3, [A3 ps x y, .dead, D w b (.slice (some ⟨2, 0, some 0⟩) n n) c]⟩) := by
  let H : Heap := ⟨7, [z', A3 ps x y, a, XY x y, z, .dead, D w b (.slice (some ⟨5, 0, some 0⟩) n n) c]⟩
  have hids : (H.get 5).ids = [] := Dg.ids_flat (pc_flat _)
  have hren : (H.get 5).ren (Dg.renK 2 [5]) = A3 ps x y := Dg.ren_mark
  have hcol : Dg.collect 2 H 100000 (Dg.idsOfL v ++ [0, 1].flatMap fun k => (H.get k).ids) [] = some [5] := by
    rw [hv, show ([] ++ [0, 1].flatMap fun k => (H.get k).ids) = [5] from by kernel_rfl, Dg.collect_take (l := []) (by omega) (by simp) hids]; exact Dg.collect_nil
  refine (Dg.gc_is [5] [D w b (.slice (some ⟨2, 0, some 0⟩) n n) c, .dead] [A3 ps x y] hcol (by show 2 ≤ 7; omega) (by kernel_rfl) (by simp only [List.map_cons, List.map_nil, hren])).trans ?_
  rw [hv2]
  rfl

/-! ### 'Add' -/
theorem add_nil (w : Nat) (b x y c : Int) (hw : 0 < w) (hw1 : w ≤ 64) (hc : 0 ≤ c) (hc1 : c < 9223372036854775807) : evCall Try.prog 0 (bodied Try.prog) over1 sbs 1000 20 11 [.pointer (some ⟨0, 0, none⟩), .int .i64 x, .int .i64 y] ⟨1, [D w b (.slice none 0 0) c]⟩ = some (zeroR, ⟨2, [.cells (pc [(x, y)]) 54 5 2, D w b (.slice (some ⟨1, 0, some 0⟩) 1 1) (c + 1)]⟩, [0]) :=
  Dg.evCall_hint (hs := [.val 11 17 (.bool false),
    .val 11 36 (.int .u64 (c + 1)),
    .val 11 48 (.int .i64 (2 * (w : Int))),
    .val 11 49 (.int .i64 (1 - 2 * (w : Int))),
    .val 11 51 (.bool false),
    .val 11 71 (.int .i64 (2 * (w : Int))),
    .val 11 72 (.bool true)]) (hs' := []) [Value.bool (decide ((w : Int) < 1)) = .bool false,
    Value.int .u64 (IntKind.u64.wrap (c + 1)) = .int .u64 (c + 1),
    Value.int .i64 (IntKind.i64.wrap (2 * (w : Int))) = .int .i64 (2 * (w : Int)),
    Value.int .i64 (IntKind.i64.wrap (1 - 2 * (w : Int))) = .int .i64 (1 - 2 * (w : Int)),
    Value.bool (decide ((0 : Int) < 1 - 2 * (w : Int))) = .bool false,
    Value.int .i64 (IntKind.i64.wrap (2 * (w : Int))) = .int .i64 (2 * (w : Int)),
    Value.bool (decide ((1 : Int) < 2 * (w : Int))) = .bool true] (by kernel_rfl)
    ⟨Dg.vfalse (by omega), Dg.u64_eq (by omega) (by omega) (by omega), Dg.i64_eq (by omega) (by omega) (by omega), Dg.i64_eq (by omega) (by omega) (by omega), Dg.vfalse (by omega), Dg.i64_eq (by omega) (by omega) (by omega), Dg.vtrue (by omega), trivial⟩

theorem add_few (w : Nat) (b x y c : Int) (ps : List (Int × Int)) (l : Nat) (hl : ps.length = l) (hl1 : l + 1 < 2 * w) (hw : 0 < w) (hw1 : w ≤ 64) (hc : 0 ≤ c) (hc1 : c < 9223372036854775807) : evCall Try.prog 0 (bodied Try.prog) over1 sbs 1000 20 11 [.pointer (some ⟨0, 0, none⟩), .int .i64 x, .int .i64 y] ⟨2, [A18 ps 1 2, D w b (.slice (some ⟨1, 0, some 0⟩) (l) (l)) c]⟩ = some (zeroR, ⟨3, [A2 ps x y, .dead, D w b (.slice (some ⟨2, 0, some 0⟩) (l + 1) (l + 1)) (c + 1)]⟩, [0, 1]) :=
  Dg.evCall_hint (hs := [.val 11 17 (.bool false),
    .softH 11 29 (.slice (some ⟨4, 0, some 0⟩) (l + 1) (l + 1)) ⟨5, [A2 ps x y, XY x y, Z31, .dead, D w b (.slice (some ⟨1, 0, some 0⟩) (l) (l)) c]⟩ [1],
    .val 11 36 (.int .u64 (c + 1)),
    .val 11 48 (.int .i64 (2 * (w : Int))),
    .val 11 49 (.int .i64 ((l : Int) + 1 - 2 * (w : Int))),
    .val 11 51 (.bool false),
    .val 11 71 (.int .i64 (2 * (w : Int))),
    .val 11 72 (.bool true),
    .gc 11 [.agg #[.int .u64 0, .int .i64 0, .int .i64 0], .bool false] ⟨3, [A2 ps x y, .dead, D w b (.slice (some ⟨2, 0, some 0⟩) (l + 1) (l + 1)) (c + 1)]⟩]) (hs' := []) [Value.bool (decide ((w : Int) < 1)) = .bool false,
    Dg.evAppend Try.prog ⟨4, [XY x y, Z31, A18 ps 1 2, D w b (.slice (some ⟨1, 0, some 0⟩) (l) (l)) c]⟩ 49 49 (.slice (some ⟨1, 0, some 0⟩) (l) (l)) (.slice (some ⟨3, 0, none⟩) 1 1) = some (.slice (some ⟨4, 0, some 0⟩) (l + 1) (l + 1), ⟨5, [A2 ps x y, XY x y, Z31, .dead, D w b (.slice (some ⟨1, 0, some 0⟩) (l) (l)) c]⟩, [1]),
    Value.int .u64 (IntKind.u64.wrap (c + 1)) = .int .u64 (c + 1),
    Value.int .i64 (IntKind.i64.wrap (2 * (w : Int))) = .int .i64 (2 * (w : Int)),
    Value.int .i64 (IntKind.i64.wrap (((l + 1 : Nat) : Int) - 2 * (w : Int))) = .int .i64 ((l : Int) + 1 - 2 * (w : Int)),
    Value.bool (decide ((0 : Int) < (l : Int) + 1 - 2 * (w : Int))) = .bool false,
    Value.int .i64 (IntKind.i64.wrap (2 * (w : Int))) = .int .i64 (2 * (w : Int)),
    Value.bool (decide (((l + 1 : Nat) : Int) < 2 * (w : Int))) = .bool true,
    Dg.gcAt 2 [.agg #[.int .u64 0, .int .i64 0, .int .i64 0], .bool false] [0, 1] ⟨5, [A2 ps x y, XY x y, Z31, .dead, D w b (.slice (some ⟨4, 0, some 0⟩) (l + 1) (l + 1)) (c + 1)]⟩ = ([.agg #[.int .u64 0, .int .i64 0, .int .i64 0], .bool false], ⟨3, [A2 ps x y, .dead, D w b (.slice (some ⟨2, 0, some 0⟩) (l + 1) (l + 1)) (c + 1)]⟩)] (by kernel_rfl)
    ⟨Dg.vfalse (by omega), append_add w b x y c ps _ hl (by omega), Dg.u64_eq (by omega) (by omega) (by omega), Dg.i64_eq (by omega) (by omega) (by omega), Dg.i64_eq (by omega) (by omega) (by omega), Dg.vfalse (by omega), Dg.i64_eq (by omega) (by omega) (by omega), Dg.vtrue (by omega), gc_few _ _ _ _ _ _ _ _, trivial⟩

theorem add_full_true (w : Nat) (b x y c : Int) (ps : List (Int × Int)) (l : Nat) (hl : ps.length = l) (hl1 : l + 1 = 2 * w) (hw : 0 < w) (hw1 : w ≤ 64) (hc : 0 ≤ c) (hc1 : c < 9223372036854775807) (hcw : (w : Int) ≤ c + 1) (hb : 0 ≤ b ∧ b < 9223372036854775808) (hr1 : In (bst (q18 ((ps ++ [(x, y)])) 0) (w - 1)).1) (hr2 : In (bst (q18 ((ps ++ [(x, y)])) w) (w - 1)).1) (hap : apartB (bst (q18 ((ps ++ [(x, y)])) 0) (w - 1)).1 (bst (q18 ((ps ++ [(x, y)])) w) (w - 1)).1 b = true) : evCall Try.prog 0 (bodied Try.prog) over1 sbs 1000 20 11 [.pointer (some ⟨0, 0, none⟩), .int .i64 x, .int .i64 y] ⟨2, [A18 ps 1 2, D w b (.slice (some ⟨1, 0, some 0⟩) (l) (l)) c]⟩ = some (.tuple #[.agg #[.int .u64 (c + 1 - (w : Int)), .int .i64 (bst (q18 ((ps ++ [(x, y)])) 0) (w - 1)).1, .int .i64 (bst (q18 ((ps ++ [(x, y)])) w) (w - 1)).1], .bool true], ⟨3, [A2 ps x y, .dead, D w b (.slice (some ⟨2, 0, some 0⟩) (l + 1) (l + 1)) (c + 1)]⟩, [0, 1]) :=
  Dg.evCall_hint (hs := [.val 11 17 (.bool false),
    .softH 11 29 (.slice (some ⟨4, 0, some 0⟩) (l + 1) (l + 1)) ⟨5, [A2 ps x y, XY x y, Z31, .dead, D w b (.slice (some ⟨1, 0, some 0⟩) (l) (l)) c]⟩ [1],
    .val 11 36 (.int .u64 (c + 1)),
    .val 11 48 (.int .i64 (2 * (w : Int))),
    .val 11 49 (.int .i64 (0)),
    .val 11 71 (.int .i64 (2 * (w : Int))),
    .val 11 72 (.bool false),
    .val 11 82 (.int .u64 ((w : Int))),
    .val 11 83 (.int .u64 (c + 1 - (w : Int))),
    .soft 11 92 (.slice (some ⟨4, 0, some 0⟩) w (l + 1)),
    .call 18 (.int .i64 (bst (q18 ((ps ++ [(x, y)])) 0) (w - 1)).1) ⟨5, [A2 ps x y, XY x y, Z31, .dead, D w b (.slice (some ⟨4, 0, some 0⟩) (l + 1) (l + 1)) (c + 1)]⟩ [],
    .soft 11 102 (.slice (some ⟨4, 2 * w, some 0⟩) w w),
    .call 18 (.int .i64 (bst (q18 ((ps ++ [(x, y)])) w) (w - 1)).1) ⟨5, [A2 ps x y, XY x y, Z31, .dead, D w b (.slice (some ⟨4, 0, some 0⟩) (l + 1) (l + 1)) (c + 1)]⟩ [],
    .call 19 (.bool true) ⟨0, []⟩ [],
    .gc 11 [.agg #[.int .u64 (c + 1 - (w : Int)), .int .i64 (bst (q18 ((ps ++ [(x, y)])) 0) (w - 1)).1, .int .i64 (bst (q18 ((ps ++ [(x, y)])) w) (w - 1)).1], .bool true] ⟨3, [A2 ps x y, .dead, D w b (.slice (some ⟨2, 0, some 0⟩) (l + 1) (l + 1)) (c + 1)]⟩]) (hs' := []) [Value.bool (decide ((w : Int) < 1)) = .bool false,
    Dg.evAppend Try.prog ⟨4, [XY x y, Z31, A18 ps 1 2, D w b (.slice (some ⟨1, 0, some 0⟩) (l) (l)) c]⟩ 49 49 (.slice (some ⟨1, 0, some 0⟩) (l) (l)) (.slice (some ⟨3, 0, none⟩) 1 1) = some (.slice (some ⟨4, 0, some 0⟩) (l + 1) (l + 1), ⟨5, [A2 ps x y, XY x y, Z31, .dead, D w b (.slice (some ⟨1, 0, some 0⟩) (l) (l)) c]⟩, [1]),
    Value.int .u64 (IntKind.u64.wrap (c + 1)) = .int .u64 (c + 1),
    Value.int .i64 (IntKind.i64.wrap (2 * (w : Int))) = .int .i64 (2 * (w : Int)),
    Value.int .i64 (IntKind.i64.wrap (((l + 1 : Nat) : Int) - 2 * (w : Int))) = .int .i64 (0),
    Value.int .i64 (IntKind.i64.wrap (2 * (w : Int))) = .int .i64 (2 * (w : Int)),
    Value.bool (decide (((l + 1 : Nat) : Int) < 2 * (w : Int))) = .bool false,
    Value.int .u64 (IntKind.u64.wrap ((w : Int))) = .int .u64 ((w : Int)),
    Value.int .u64 (IntKind.u64.wrap (c + 1 - (w : Int))) = .int .u64 (c + 1 - (w : Int)),
    (0 : Int) ≤ w,
    0 ≤ w ∧ w ≤ l + 1 ∧ l + 1 ≤ l + 1,
    (some 0 : Option Nat).isSome = true → ¬ (0 = l + 1 ∧ 0 ≠ 0),
    Value.slice (some ⟨4, if l + 1 = 0 then 0 else 0 + 0 * 2, some 0⟩) (w - 0) (l + 1 - 0) = .slice (some ⟨4, 0, some 0⟩) w (l + 1),
    evCall Try.prog 0 (bodied Try.prog) over1 sbs 1000 19 18 [.slice (some ⟨4, 0, some 0⟩) w (l + 1)] ⟨5, [A2 ps x y, XY x y, Z31, .dead, D w b (.slice (some ⟨4, 0, some 0⟩) (l + 1) (l + 1)) (c + 1)]⟩ = some (.int .i64 (bst (q18 ((ps ++ [(x, y)])) 0) (w - 1)).1, ⟨5, [A2 ps x y, XY x y, Z31, .dead, D w b (.slice (some ⟨4, 0, some 0⟩) (l + 1) (l + 1)) (c + 1)]⟩, []),
    (0 : Int) ≤ w,
    w ≤ l + 1 ∧ l + 1 ≤ l + 1 ∧ l + 1 ≤ l + 1,
    (some 0 : Option Nat).isSome = true → ¬ (w = l + 1 ∧ w ≠ 0),
    Value.slice (some ⟨4, if l + 1 = w then 0 else 0 + w * 2, some 0⟩) (l + 1 - w) (l + 1 - w) = .slice (some ⟨4, 2 * w, some 0⟩) w w,
    evCall Try.prog 0 (bodied Try.prog) over1 sbs 1000 19 18 [.slice (some ⟨4, 2 * w, some 0⟩) w w] ⟨5, [A2 ps x y, XY x y, Z31, .dead, D w b (.slice (some ⟨4, 0, some 0⟩) (l + 1) (l + 1)) (c + 1)]⟩ = some (.int .i64 (bst (q18 ((ps ++ [(x, y)])) w) (w - 1)).1, ⟨5, [A2 ps x y, XY x y, Z31, .dead, D w b (.slice (some ⟨4, 0, some 0⟩) (l + 1) (l + 1)) (c + 1)]⟩, []),
    evCall Try.prog 0 (bodied Try.prog) over1 sbs 1000 19 19 [.int .i64 (bst (q18 ((ps ++ [(x, y)])) 0) (w - 1)).1, .int .i64 (bst (q18 ((ps ++ [(x, y)])) w) (w - 1)).1, .int .i64 b] ⟨0, []⟩ = some (.bool true, ⟨0, []⟩, []),
    Dg.gcAt 2 [.agg #[.int .u64 (c + 1 - (w : Int)), .int .i64 (bst (q18 ((ps ++ [(x, y)])) 0) (w - 1)).1, .int .i64 (bst (q18 ((ps ++ [(x, y)])) w) (w - 1)).1], .bool true] [0, 1] ⟨6, [.cells [.int .u64 (c + 1 - (w : Int)), .int .i64 (bst (q18 ((ps ++ [(x, y)])) 0) (w - 1)).1, .int .i64 (bst (q18 ((ps ++ [(x, y)])) w) (w - 1)).1] 31 0 1, A2 ps x y, XY x y, .cells [.int .u64 (c + 1 - (w : Int)), .int .i64 (bst (q18 ((ps ++ [(x, y)])) 0) (w - 1)).1, .int .i64 (bst (q18 ((ps ++ [(x, y)])) w) (w - 1)).1] 31 0 1, .dead, D w b (.slice (some ⟨4, 0, some 0⟩) (l + 1) (l + 1)) (c + 1)]⟩ = ([.agg #[.int .u64 (c + 1 - (w : Int)), .int .i64 (bst (q18 ((ps ++ [(x, y)])) 0) (w - 1)).1, .int .i64 (bst (q18 ((ps ++ [(x, y)])) w) (w - 1)).1], .bool true], ⟨3, [A2 ps x y, .dead, D w b (.slice (some ⟨2, 0, some 0⟩) (l + 1) (l + 1)) (c + 1)]⟩)] (by kernel_rfl)
    ⟨Dg.vfalse (by omega), append_add w b x y c ps _ hl (by omega), Dg.u64_eq (by omega) (by omega) (by omega), Dg.i64_eq (by omega) (by omega) (by omega), Dg.i64_eq (by omega) (by omega) (by omega), Dg.i64_eq (by omega) (by omega) (by omega), Dg.vfalse (by omega), Dg.u64_eq (by omega) (by omega) (by omega), Dg.u64_eq (by omega) (by omega) (by omega), by omega, by omega, by simp, by simp, Dg.evCall_over (call18 (o := 0) (md := 1) (esz := 2) (by rfl) (by simp; omega) hw (by omega) hw1 rfl), by omega, by omega, fun _ => by omega, by rw [if_neg (by omega)]; exact Dg.sl_eq (by omega) (by omega) (by omega), Dg.evCall_over (call18 (o := w) (md := 1) (esz := 2) (by rfl) (by simp; omega) hw (by omega) hw1 rfl), Dg.evCall_over (call19 hr1 hr2 hb hap), gc_4 _ _ _ _ _ _ _ _ _ _, trivial⟩

theorem add_full_false (w : Nat) (b x y c : Int) (ps : List (Int × Int)) (l : Nat) (hl : ps.length = l) (hl1 : l + 1 = 2 * w) (hw : 0 < w) (hw1 : w ≤ 64) (hc : 0 ≤ c) (hc1 : c < 9223372036854775807) (hcw : (w : Int) ≤ c + 1) (hb : 0 ≤ b ∧ b < 9223372036854775808) (hr1 : In (bst (q18 ((ps ++ [(x, y)])) 0) (w - 1)).1) (hr2 : In (bst (q18 ((ps ++ [(x, y)])) w) (w - 1)).1) (hap : apartB (bst (q18 ((ps ++ [(x, y)])) 0) (w - 1)).1 (bst (q18 ((ps ++ [(x, y)])) w) (w - 1)).1 b = false) : evCall Try.prog 0 (bodied Try.prog) over1 sbs 1000 20 11 [.pointer (some ⟨0, 0, none⟩), .int .i64 x, .int .i64 y] ⟨2, [A18 ps 1 2, D w b (.slice (some ⟨1, 0, some 0⟩) (l) (l)) c]⟩ = some (.tuple #[.agg #[.int .u64 0, .int .i64 0, .int .i64 0], .bool false], ⟨3, [A2 ps x y, .dead, D w b (.slice (some ⟨2, 0, some 0⟩) (l + 1) (l + 1)) (c + 1)]⟩, [0, 1]) :=
  Dg.evCall_hint (hs := [.val 11 17 (.bool false),
    .softH 11 29 (.slice (some ⟨4, 0, some 0⟩) (l + 1) (l + 1)) ⟨5, [A2 ps x y, XY x y, Z31, .dead, D w b (.slice (some ⟨1, 0, some 0⟩) (l) (l)) c]⟩ [1],
    .val 11 36 (.int .u64 (c + 1)),
    .val 11 48 (.int .i64 (2 * (w : Int))),
    .val 11 49 (.int .i64 (0)),
    .val 11 71 (.int .i64 (2 * (w : Int))),
    .val 11 72 (.bool false),
    .val 11 82 (.int .u64 ((w : Int))),
    .val 11 83 (.int .u64 (c + 1 - (w : Int))),
    .soft 11 92 (.slice (some ⟨4, 0, some 0⟩) w (l + 1)),
    .call 18 (.int .i64 (bst (q18 ((ps ++ [(x, y)])) 0) (w - 1)).1) ⟨5, [A2 ps x y, XY x y, Z31, .dead, D w b (.slice (some ⟨4, 0, some 0⟩) (l + 1) (l + 1)) (c + 1)]⟩ [],
    .soft 11 102 (.slice (some ⟨4, 2 * w, some 0⟩) w w),
    .call 18 (.int .i64 (bst (q18 ((ps ++ [(x, y)])) w) (w - 1)).1) ⟨5, [A2 ps x y, XY x y, Z31, .dead, D w b (.slice (some ⟨4, 0, some 0⟩) (l + 1) (l + 1)) (c + 1)]⟩ [],
    .call 19 (.bool false) ⟨0, []⟩ [],
    .gc 11 [.agg #[.int .u64 0, .int .i64 0, .int .i64 0], .bool false] ⟨3, [A2 ps x y, .dead, D w b (.slice (some ⟨2, 0, some 0⟩) (l + 1) (l + 1)) (c + 1)]⟩]) (hs' := []) [Value.bool (decide ((w : Int) < 1)) = .bool false,
    Dg.evAppend Try.prog ⟨4, [XY x y, Z31, A18 ps 1 2, D w b (.slice (some ⟨1, 0, some 0⟩) (l) (l)) c]⟩ 49 49 (.slice (some ⟨1, 0, some 0⟩) (l) (l)) (.slice (some ⟨3, 0, none⟩) 1 1) = some (.slice (some ⟨4, 0, some 0⟩) (l + 1) (l + 1), ⟨5, [A2 ps x y, XY x y, Z31, .dead, D w b (.slice (some ⟨1, 0, some 0⟩) (l) (l)) c]⟩, [1]),
    Value.int .u64 (IntKind.u64.wrap (c + 1)) = .int .u64 (c + 1),
    Value.int .i64 (IntKind.i64.wrap (2 * (w : Int))) = .int .i64 (2 * (w : Int)),
    Value.int .i64 (IntKind.i64.wrap (((l + 1 : Nat) : Int) - 2 * (w : Int))) = .int .i64 (0),
    Value.int .i64 (IntKind.i64.wrap (2 * (w : Int))) = .int .i64 (2 * (w : Int)),
    Value.bool (decide (((l + 1 : Nat) : Int) < 2 * (w : Int))) = .bool false,
    Value.int .u64 (IntKind.u64.wrap ((w : Int))) = .int .u64 ((w : Int)),
    Value.int .u64 (IntKind.u64.wrap (c + 1 - (w : Int))) = .int .u64 (c + 1 - (w : Int)),
    (0 : Int) ≤ w,
    0 ≤ w ∧ w ≤ l + 1 ∧ l + 1 ≤ l + 1,
    (some 0 : Option Nat).isSome = true → ¬ (0 = l + 1 ∧ 0 ≠ 0),
    Value.slice (some ⟨4, if l + 1 = 0 then 0 else 0 + 0 * 2, some 0⟩) (w - 0) (l + 1 - 0) = .slice (some ⟨4, 0, some 0⟩) w (l + 1),
    evCall Try.prog 0 (bodied Try.prog) over1 sbs 1000 19 18 [.slice (some ⟨4, 0, some 0⟩) w (l + 1)] ⟨5, [A2 ps x y, XY x y, Z31, .dead, D w b (.slice (some ⟨4, 0, some 0⟩) (l + 1) (l + 1)) (c + 1)]⟩ = some (.int .i64 (bst (q18 ((ps ++ [(x, y)])) 0) (w - 1)).1, ⟨5, [A2 ps x y, XY x y, Z31, .dead, D w b (.slice (some ⟨4, 0, some 0⟩) (l + 1) (l + 1)) (c + 1)]⟩, []),
    (0 : Int) ≤ w,
    w ≤ l + 1 ∧ l + 1 ≤ l + 1 ∧ l + 1 ≤ l + 1,
    (some 0 : Option Nat).isSome = true → ¬ (w = l + 1 ∧ w ≠ 0),
    Value.slice (some ⟨4, if l + 1 = w then 0 else 0 + w * 2, some 0⟩) (l + 1 - w) (l + 1 - w) = .slice (some ⟨4, 2 * w, some 0⟩) w w,
    evCall Try.prog 0 (bodied Try.prog) over1 sbs 1000 19 18 [.slice (some ⟨4, 2 * w, some 0⟩) w w] ⟨5, [A2 ps x y, XY x y, Z31, .dead, D w b (.slice (some ⟨4, 0, some 0⟩) (l + 1) (l + 1)) (c + 1)]⟩ = some (.int .i64 (bst (q18 ((ps ++ [(x, y)])) w) (w - 1)).1, ⟨5, [A2 ps x y, XY x y, Z31, .dead, D w b (.slice (some ⟨4, 0, some 0⟩) (l + 1) (l + 1)) (c + 1)]⟩, []),
    evCall Try.prog 0 (bodied Try.prog) over1 sbs 1000 19 19 [.int .i64 (bst (q18 ((ps ++ [(x, y)])) 0) (w - 1)).1, .int .i64 (bst (q18 ((ps ++ [(x, y)])) w) (w - 1)).1, .int .i64 b] ⟨0, []⟩ = some (.bool false, ⟨0, []⟩, []),
    Dg.gcAt 2 [.agg #[.int .u64 0, .int .i64 0, .int .i64 0], .bool false] [0, 1] ⟨6, [.cells [.int .u64 (c + 1 - (w : Int)), .int .i64 (bst (q18 ((ps ++ [(x, y)])) 0) (w - 1)).1, .int .i64 (bst (q18 ((ps ++ [(x, y)])) w) (w - 1)).1] 31 0 1, A2 ps x y, XY x y, Z31, .dead, D w b (.slice (some ⟨4, 0, some 0⟩) (l + 1) (l + 1)) (c + 1)]⟩ = ([.agg #[.int .u64 0, .int .i64 0, .int .i64 0], .bool false], ⟨3, [A2 ps x y, .dead, D w b (.slice (some ⟨2, 0, some 0⟩) (l + 1) (l + 1)) (c + 1)]⟩)] (by kernel_rfl)
    ⟨Dg.vfalse (by omega), append_add w b x y c ps _ hl (by omega), Dg.u64_eq (by omega) (by omega) (by omega), Dg.i64_eq (by omega) (by omega) (by omega), Dg.i64_eq (by omega) (by omega) (by omega), Dg.i64_eq (by omega) (by omega) (by omega), Dg.vfalse (by omega), Dg.u64_eq (by omega) (by omega) (by omega), Dg.u64_eq (by omega) (by omega) (by omega), by omega, by omega, by simp, by simp, Dg.evCall_over (call18 (o := 0) (md := 1) (esz := 2) (by rfl) (by simp; omega) hw (by omega) hw1 rfl), by omega, by omega, fun _ => by omega, by rw [if_neg (by omega)]; exact Dg.sl_eq (by omega) (by omega) (by omega), Dg.evCall_over (call18 (o := w) (md := 1) (esz := 2) (by rfl) (by simp; omega) hw (by omega) hw1 rfl), Dg.evCall_over (call19 hr1 hr2 hb hap), gc_4 _ _ _ _ _ _ _ _ _ _, trivial⟩

theorem add_more_true (w : Nat) (b x y c : Int) (ps : List (Int × Int)) (hl : ps.length = 2 * w) (hw : 0 < w) (hw1 : w ≤ 64) (hc : 0 ≤ c) (hc1 : c < 9223372036854775807) (hcw : (w : Int) ≤ c + 1) (hb : 0 ≤ b ∧ b < 9223372036854775808) (hr1 : In (bst (q18 ((ps ++ [(x, y)]).drop 1) 0) (w - 1)).1) (hr2 : In (bst (q18 ((ps ++ [(x, y)]).drop 1) w) (w - 1)).1) (hap : apartB (bst (q18 ((ps ++ [(x, y)]).drop 1) 0) (w - 1)).1 (bst (q18 ((ps ++ [(x, y)]).drop 1) w) (w - 1)).1 b = true) : evCall Try.prog 0 (bodied Try.prog) over1 sbs 1000 20 11 [.pointer (some ⟨0, 0, none⟩), .int .i64 x, .int .i64 y] ⟨2, [A18 ps 1 2, D w b (.slice (some ⟨1, 0, some 0⟩) (2 * w) (2 * w)) c]⟩ = some (.tuple #[.agg #[.int .u64 (c + 1 - (w : Int)), .int .i64 (bst (q18 ((ps ++ [(x, y)]).drop 1) 0) (w - 1)).1, .int .i64 (bst (q18 ((ps ++ [(x, y)]).drop 1) w) (w - 1)).1], .bool true], ⟨3, [A3 ps x y, .dead, D w b (.slice (some ⟨2, 0, some 0⟩) (2 * w) (2 * w)) (c + 1)]⟩, [0, 1]) :=
  Dg.evCall_hint (hs := [.val 11 17 (.bool false),
    .softH 11 29 (.slice (some ⟨4, 0, some 0⟩) (2 * w + 1) (2 * w + 1)) ⟨5, [A2 ps x y, XY x y, Z31, .dead, D w b (.slice (some ⟨1, 0, some 0⟩) (2 * w) (2 * w)) c]⟩ [1],
    .val 11 36 (.int .u64 (c + 1)),
    .val 11 48 (.int .i64 (2 * (w : Int))),
    .val 11 49 (.int .i64 (1)),
    .soft 11 58 (.slice (some ⟨4, 2, some 0⟩) (2 * w) (2 * w)),
    .call 17 (.slice (some ⟨5, 0, some 0⟩) (2 * w) (2 * w)) ⟨6, [A3 ps x y, A2 ps x y, XY x y, Z31, .dead, D w b (.slice (some ⟨4, 0, some 0⟩) (2 * w + 1) (2 * w + 1)) (c + 1)]⟩ [],
    .val 11 71 (.int .i64 (2 * (w : Int))),
    .val 11 72 (.bool false),
    .val 11 82 (.int .u64 ((w : Int))),
    .val 11 83 (.int .u64 (c + 1 - (w : Int))),
    .soft 11 92 (.slice (some ⟨5, 0, some 0⟩) w (2 * w)),
    .call 18 (.int .i64 (bst (q18 ((ps ++ [(x, y)]).drop 1) 0) (w - 1)).1) ⟨6, [A3 ps x y, A2 ps x y, XY x y, Z31, .dead, D w b (.slice (some ⟨5, 0, some 0⟩) (2 * w) (2 * w)) (c + 1)]⟩ [],
    .soft 11 102 (.slice (some ⟨5, 2 * w, some 0⟩) w w),
    .call 18 (.int .i64 (bst (q18 ((ps ++ [(x, y)]).drop 1) w) (w - 1)).1) ⟨6, [A3 ps x y, A2 ps x y, XY x y, Z31, .dead, D w b (.slice (some ⟨5, 0, some 0⟩) (2 * w) (2 * w)) (c + 1)]⟩ [],
    .call 19 (.bool true) ⟨0, []⟩ [],
    .gc 11 [.agg #[.int .u64 (c + 1 - (w : Int)), .int .i64 (bst (q18 ((ps ++ [(x, y)]).drop 1) 0) (w - 1)).1, .int .i64 (bst (q18 ((ps ++ [(x, y)]).drop 1) w) (w - 1)).1], .bool true] ⟨3, [A3 ps x y, .dead, D w b (.slice (some ⟨2, 0, some 0⟩) (2 * w) (2 * w)) (c + 1)]⟩]) (hs' := []) [Value.bool (decide ((w : Int) < 1)) = .bool false,
    Dg.evAppend Try.prog ⟨4, [XY x y, Z31, A18 ps 1 2, D w b (.slice (some ⟨1, 0, some 0⟩) (2 * w) (2 * w)) c]⟩ 49 49 (.slice (some ⟨1, 0, some 0⟩) (2 * w) (2 * w)) (.slice (some ⟨3, 0, none⟩) 1 1) = some (.slice (some ⟨4, 0, some 0⟩) (2 * w + 1) (2 * w + 1), ⟨5, [A2 ps x y, XY x y, Z31, .dead, D w b (.slice (some ⟨1, 0, some 0⟩) (2 * w) (2 * w)) c]⟩, [1]),
    Value.int .u64 (IntKind.u64.wrap (c + 1)) = .int .u64 (c + 1),
    Value.int .i64 (IntKind.i64.wrap (2 * (w : Int))) = .int .i64 (2 * (w : Int)),
    Value.int .i64 (IntKind.i64.wrap (((2 * w + 1 : Nat) : Int) - 2 * (w : Int))) = .int .i64 (1),
    (0 : Int) ≤ 1,
    1 ≤ 2 * w + 1 ∧ 2 * w + 1 ≤ 2 * w + 1 ∧ 2 * w + 1 ≤ 2 * w + 1,
    (some 0 : Option Nat).isSome = true → ¬ (1 = 2 * w + 1 ∧ 1 ≠ 0),
    Value.slice (some ⟨4, if 2 * w + 1 = 1 then 0 else 0 + 1 * 2, some 0⟩) (2 * w + 1 - 1) (2 * w + 1 - 1) = .slice (some ⟨4, 2, some 0⟩) (2 * w) (2 * w),
    evCall Try.prog 0 (bodied Try.prog) over1 sbs 1000 19 17 [.slice (some ⟨4, 2, some 0⟩) (2 * w) (2 * w)] ⟨5, [A2 ps x y, XY x y, Z31, .dead, D w b (.slice (some ⟨4, 0, some 0⟩) (2 * w + 1) (2 * w + 1)) (c + 1)]⟩ = some (.slice (some ⟨5, 0, some 0⟩) (2 * w) (2 * w), ⟨6, [A3 ps x y, A2 ps x y, XY x y, Z31, .dead, D w b (.slice (some ⟨4, 0, some 0⟩) (2 * w + 1) (2 * w + 1)) (c + 1)]⟩, []),
    Value.int .i64 (IntKind.i64.wrap (2 * (w : Int))) = .int .i64 (2 * (w : Int)),
    Value.bool (decide (((2 * w : Nat) : Int) < 2 * (w : Int))) = .bool false,
    Value.int .u64 (IntKind.u64.wrap ((w : Int))) = .int .u64 ((w : Int)),
    Value.int .u64 (IntKind.u64.wrap (c + 1 - (w : Int))) = .int .u64 (c + 1 - (w : Int)),
    (0 : Int) ≤ w,
    0 ≤ w ∧ w ≤ 2 * w ∧ 2 * w ≤ 2 * w,
    (some 0 : Option Nat).isSome = true → ¬ (0 = 2 * w ∧ 0 ≠ 0),
    Value.slice (some ⟨5, if 2 * w = 0 then 0 else 0 + 0 * 2, some 0⟩) (w - 0) (2 * w - 0) = .slice (some ⟨5, 0, some 0⟩) w (2 * w),
    evCall Try.prog 0 (bodied Try.prog) over1 sbs 1000 19 18 [.slice (some ⟨5, 0, some 0⟩) w (2 * w)] ⟨6, [A3 ps x y, A2 ps x y, XY x y, Z31, .dead, D w b (.slice (some ⟨5, 0, some 0⟩) (2 * w) (2 * w)) (c + 1)]⟩ = some (.int .i64 (bst (q18 ((ps ++ [(x, y)]).drop 1) 0) (w - 1)).1, ⟨6, [A3 ps x y, A2 ps x y, XY x y, Z31, .dead, D w b (.slice (some ⟨5, 0, some 0⟩) (2 * w) (2 * w)) (c + 1)]⟩, []),
    (0 : Int) ≤ w,
    w ≤ 2 * w ∧ 2 * w ≤ 2 * w ∧ 2 * w ≤ 2 * w,
    (some 0 : Option Nat).isSome = true → ¬ (w = 2 * w ∧ w ≠ 0),
    Value.slice (some ⟨5, if 2 * w = w then 0 else 0 + w * 2, some 0⟩) (2 * w - w) (2 * w - w) = .slice (some ⟨5, 2 * w, some 0⟩) w w,
    evCall Try.prog 0 (bodied Try.prog) over1 sbs 1000 19 18 [.slice (some ⟨5, 2 * w, some 0⟩) w w] ⟨6, [A3 ps x y, A2 ps x y, XY x y, Z31, .dead, D w b (.slice (some ⟨5, 0, some 0⟩) (2 * w) (2 * w)) (c + 1)]⟩ = some (.int .i64 (bst (q18 ((ps ++ [(x, y)]).drop 1) w) (w - 1)).1, ⟨6, [A3 ps x y, A2 ps x y, XY x y, Z31, .dead, D w b (.slice (some ⟨5, 0, some 0⟩) (2 * w) (2 * w)) (c + 1)]⟩, []),
    evCall Try.prog 0 (bodied Try.prog) over1 sbs 1000 19 19 [.int .i64 (bst (q18 ((ps ++ [(x, y)]).drop 1) 0) (w - 1)).1, .int .i64 (bst (q18 ((ps ++ [(x, y)]).drop 1) w) (w - 1)).1, .int .i64 b] ⟨0, []⟩ = some (.bool true, ⟨0, []⟩, []),
    Dg.gcAt 2 [.agg #[.int .u64 (c + 1 - (w : Int)), .int .i64 (bst (q18 ((ps ++ [(x, y)]).drop 1) 0) (w - 1)).1, .int .i64 (bst (q18 ((ps ++ [(x, y)]).drop 1) w) (w - 1)).1], .bool true] [0, 1] ⟨7, [.cells [.int .u64 (c + 1 - (w : Int)), .int .i64 (bst (q18 ((ps ++ [(x, y)]).drop 1) 0) (w - 1)).1, .int .i64 (bst (q18 ((ps ++ [(x, y)]).drop 1) w) (w - 1)).1] 31 0 1, A3 ps x y, A2 ps x y, XY x y, .cells [.int .u64 (c + 1 - (w : Int)), .int .i64 (bst (q18 ((ps ++ [(x, y)]).drop 1) 0) (w - 1)).1, .int .i64 (bst (q18 ((ps ++ [(x, y)]).drop 1) w) (w - 1)).1] 31 0 1, .dead, D w b (.slice (some ⟨5, 0, some 0⟩) (2 * w) (2 * w)) (c + 1)]⟩ = ([.agg #[.int .u64 (c + 1 - (w : Int)), .int .i64 (bst (q18 ((ps ++ [(x, y)]).drop 1) 0) (w - 1)).1, .int .i64 (bst (q18 ((ps ++ [(x, y)]).drop 1) w) (w - 1)).1], .bool true], ⟨3, [A3 ps x y, .dead, D w b (.slice (some ⟨2, 0, some 0⟩) (2 * w) (2 * w)) (c + 1)]⟩)] (by kernel_rfl)
    ⟨Dg.vfalse (by omega), append_add w b x y c ps _ hl (by omega), Dg.u64_eq (by omega) (by omega) (by omega), Dg.i64_eq (by omega) (by omega) (by omega), Dg.i64_eq (by omega) (by omega) (by omega), by omega, by omega, fun _ => by omega, by rw [if_neg (by omega)]; simp, Dg.evCall_over (call17 w b x y c ps hl hw hw1), Dg.i64_eq (by omega) (by omega) (by omega), Dg.vfalse (by omega), Dg.u64_eq (by omega) (by omega) (by omega), Dg.u64_eq (by omega) (by omega) (by omega), by omega, by omega, by simp, by simp, Dg.evCall_over (call18 (o := 0) (md := 1) (esz := 2) (by rfl) (by simp; omega) hw (by omega) hw1 rfl), by omega, by omega, fun _ => by omega, by rw [if_neg (by omega)]; exact Dg.sl_eq (by omega) (by omega) (by omega), Dg.evCall_over (call18 (o := w) (md := 1) (esz := 2) (by rfl) (by simp; omega) hw (by omega) hw1 rfl), Dg.evCall_over (call19 hr1 hr2 hb hap), gc_5 _ _ _ _ _ _ _ _ _ _ _, trivial⟩

theorem add_more_false (w : Nat) (b x y c : Int) (ps : List (Int × Int)) (hl : ps.length = 2 * w) (hw : 0 < w) (hw1 : w ≤ 64) (hc : 0 ≤ c) (hc1 : c < 9223372036854775807) (hcw : (w : Int) ≤ c + 1) (hb : 0 ≤ b ∧ b < 9223372036854775808) (hr1 : In (bst (q18 ((ps ++ [(x, y)]).drop 1) 0) (w - 1)).1) (hr2 : In (bst (q18 ((ps ++ [(x, y)]).drop 1) w) (w - 1)).1) (hap : apartB (bst (q18 ((ps ++ [(x, y)]).drop 1) 0) (w - 1)).1 (bst (q18 ((ps ++ [(x, y)]).drop 1) w) (w - 1)).1 b = false) : evCall Try.prog 0 (bodied Try.prog) over1 sbs 1000 20 11 [.pointer (some ⟨0, 0, none⟩), .int .i64 x, .int .i64 y] ⟨2, [A18 ps 1 2, D w b (.slice (some ⟨1, 0, some 0⟩) (2 * w) (2 * w)) c]⟩ = some (.tuple #[.agg #[.int .u64 0, .int .i64 0, .int .i64 0], .bool false], ⟨3, [A3 ps x y, .dead, D w b (.slice (some ⟨2, 0, some 0⟩) (2 * w) (2 * w)) (c + 1)]⟩, [0, 1]) :=
  Dg.evCall_hint (hs := [.val 11 17 (.bool false),
    .softH 11 29 (.slice (some ⟨4, 0, some 0⟩) (2 * w + 1) (2 * w + 1)) ⟨5, [A2 ps x y, XY x y, Z31, .dead, D w b (.slice (some ⟨1, 0, some 0⟩) (2 * w) (2 * w)) c]⟩ [1],
    .val 11 36 (.int .u64 (c + 1)),
    .val 11 48 (.int .i64 (2 * (w : Int))),
    .val 11 49 (.int .i64 (1)),
    .soft 11 58 (.slice (some ⟨4, 2, some 0⟩) (2 * w) (2 * w)),
    .call 17 (.slice (some ⟨5, 0, some 0⟩) (2 * w) (2 * w)) ⟨6, [A3 ps x y, A2 ps x y, XY x y, Z31, .dead, D w b (.slice (some ⟨4, 0, some 0⟩) (2 * w + 1) (2 * w + 1)) (c + 1)]⟩ [],
    .val 11 71 (.int .i64 (2 * (w : Int))),
    .val 11 72 (.bool false),
    .val 11 82 (.int .u64 ((w : Int))),
    .val 11 83 (.int .u64 (c + 1 - (w : Int))),
    .soft 11 92 (.slice (some ⟨5, 0, some 0⟩) w (2 * w)),
    .call 18 (.int .i64 (bst (q18 ((ps ++ [(x, y)]).drop 1) 0) (w - 1)).1) ⟨6, [A3 ps x y, A2 ps x y, XY x y, Z31, .dead, D w b (.slice (some ⟨5, 0, some 0⟩) (2 * w) (2 * w)) (c + 1)]⟩ [],
    .soft 11 102 (.slice (some ⟨5, 2 * w, some 0⟩) w w),
    .call 18 (.int .i64 (bst (q18 ((ps ++ [(x, y)]).drop 1) w) (w - 1)).1) ⟨6, [A3 ps x y, A2 ps x y, XY x y, Z31, .dead, D w b (.slice (some ⟨5, 0, some 0⟩) (2 * w) (2 * w)) (c + 1)]⟩ [],
    .call 19 (.bool false) ⟨0, []⟩ [],
    .gc 11 [.agg #[.int .u64 0, .int .i64 0, .int .i64 0], .bool false] ⟨3, [A3 ps x y, .dead, D w b (.slice (some ⟨2, 0, some 0⟩) (2 * w) (2 * w)) (c + 1)]⟩]) (hs' := []) [Value.bool (decide ((w : Int) < 1)) = .bool false,
    Dg.evAppend Try.prog ⟨4, [XY x y, Z31, A18 ps 1 2, D w b (.slice (some ⟨1, 0, some 0⟩) (2 * w) (2 * w)) c]⟩ 49 49 (.slice (some ⟨1, 0, some 0⟩) (2 * w) (2 * w)) (.slice (some ⟨3, 0, none⟩) 1 1) = some (.slice (some ⟨4, 0, some 0⟩) (2 * w + 1) (2 * w + 1), ⟨5, [A2 ps x y, XY x y, Z31, .dead, D w b (.slice (some ⟨1, 0, some 0⟩) (2 * w) (2 * w)) c]⟩, [1]),
    Value.int .u64 (IntKind.u64.wrap (c + 1)) = .int .u64 (c + 1),
    Value.int .i64 (IntKind.i64.wrap (2 * (w : Int))) = .int .i64 (2 * (w : Int)),
    Value.int .i64 (IntKind.i64.wrap (((2 * w + 1 : Nat) : Int) - 2 * (w : Int))) = .int .i64 (1),
    (0 : Int) ≤ 1,
    1 ≤ 2 * w + 1 ∧ 2 * w + 1 ≤ 2 * w + 1 ∧ 2 * w + 1 ≤ 2 * w + 1,
    (some 0 : Option Nat).isSome = true → ¬ (1 = 2 * w + 1 ∧ 1 ≠ 0),
    Value.slice (some ⟨4, if 2 * w + 1 = 1 then 0 else 0 + 1 * 2, some 0⟩) (2 * w + 1 - 1) (2 * w + 1 - 1) = .slice (some ⟨4, 2, some 0⟩) (2 * w) (2 * w),
    evCall Try.prog 0 (bodied Try.prog) over1 sbs 1000 19 17 [.slice (some ⟨4, 2, some 0⟩) (2 * w) (2 * w)] ⟨5, [A2 ps x y, XY x y, Z31, .dead, D w b (.slice (some ⟨4, 0, some 0⟩) (2 * w + 1) (2 * w + 1)) (c + 1)]⟩ = some (.slice (some ⟨5, 0, some 0⟩) (2 * w) (2 * w), ⟨6, [A3 ps x y, A2 ps x y, XY x y, Z31, .dead, D w b (.slice (some ⟨4, 0, some 0⟩) (2 * w + 1) (2 * w + 1)) (c + 1)]⟩, []),
    Value.int .i64 (IntKind.i64.wrap (2 * (w : Int))) = .int .i64 (2 * (w : Int)),
    Value.bool (decide (((2 * w : Nat) : Int) < 2 * (w : Int))) = .bool false,
    Value.int .u64 (IntKind.u64.wrap ((w : Int))) = .int .u64 ((w : Int)),
    Value.int .u64 (IntKind.u64.wrap (c + 1 - (w : Int))) = .int .u64 (c + 1 - (w : Int)),
    (0 : Int) ≤ w,
    0 ≤ w ∧ w ≤ 2 * w ∧ 2 * w ≤ 2 * w,
    (some 0 : Option Nat).isSome = true → ¬ (0 = 2 * w ∧ 0 ≠ 0),
    Value.slice (some ⟨5, if 2 * w = 0 then 0 else 0 + 0 * 2, some 0⟩) (w - 0) (2 * w - 0) = .slice (some ⟨5, 0, some 0⟩) w (2 * w),
    evCall Try.prog 0 (bodied Try.prog) over1 sbs 1000 19 18 [.slice (some ⟨5, 0, some 0⟩) w (2 * w)] ⟨6, [A3 ps x y, A2 ps x y, XY x y, Z31, .dead, D w b (.slice (some ⟨5, 0, some 0⟩) (2 * w) (2 * w)) (c + 1)]⟩ = some (.int .i64 (bst (q18 ((ps ++ [(x, y)]).drop 1) 0) (w - 1)).1, ⟨6, [A3 ps x y, A2 ps x y, XY x y, Z31, .dead, D w b (.slice (some ⟨5, 0, some 0⟩) (2 * w) (2 * w)) (c + 1)]⟩, []),
    (0 : Int) ≤ w,
    w ≤ 2 * w ∧ 2 * w ≤ 2 * w ∧ 2 * w ≤ 2 * w,
    (some 0 : Option Nat).isSome = true → ¬ (w = 2 * w ∧ w ≠ 0),
    Value.slice (some ⟨5, if 2 * w = w then 0 else 0 + w * 2, some 0⟩) (2 * w - w) (2 * w - w) = .slice (some ⟨5, 2 * w, some 0⟩) w w,
    evCall Try.prog 0 (bodied Try.prog) over1 sbs 1000 19 18 [.slice (some ⟨5, 2 * w, some 0⟩) w w] ⟨6, [A3 ps x y, A2 ps x y, XY x y, Z31, .dead, D w b (.slice (some ⟨5, 0, some 0⟩) (2 * w) (2 * w)) (c + 1)]⟩ = some (.int .i64 (bst (q18 ((ps ++ [(x, y)]).drop 1) w) (w - 1)).1, ⟨6, [A3 ps x y, A2 ps x y, XY x y, Z31, .dead, D w b (.slice (some ⟨5, 0, some 0⟩) (2 * w) (2 * w)) (c + 1)]⟩, []),
    evCall Try.prog 0 (bodied Try.prog) over1 sbs 1000 19 19 [.int .i64 (bst (q18 ((ps ++ [(x, y)]).drop 1) 0) (w - 1)).1, .int .i64 (bst (q18 ((ps ++ [(x, y)]).drop 1) w) (w - 1)).1, .int .i64 b] ⟨0, []⟩ = some (.bool false, ⟨0, []⟩, []),
    Dg.gcAt 2 [.agg #[.int .u64 0, .int .i64 0, .int .i64 0], .bool false] [0, 1] ⟨7, [.cells [.int .u64 (c + 1 - (w : Int)), .int .i64 (bst (q18 ((ps ++ [(x, y)]).drop 1) 0) (w - 1)).1, .int .i64 (bst (q18 ((ps ++ [(x, y)]).drop 1) w) (w - 1)).1] 31 0 1, A3 ps x y, A2 ps x y, XY x y, Z31, .dead, D w b (.slice (some ⟨5, 0, some 0⟩) (2 * w) (2 * w)) (c + 1)]⟩ = ([.agg #[.int .u64 0, .int .i64 0, .int .i64 0], .bool false], ⟨3, [A3 ps x y, .dead, D w b (.slice (some ⟨2, 0, some 0⟩) (2 * w) (2 * w)) (c + 1)]⟩)] (by kernel_rfl)
    ⟨Dg.vfalse (by omega), append_add w b x y c ps _ hl (by omega), Dg.u64_eq (by omega) (by omega) (by omega), Dg.i64_eq (by omega) (by omega) (by omega), Dg.i64_eq (by omega) (by omega) (by omega), by omega, by omega, fun _ => by omega, by rw [if_neg (by omega)]; simp, Dg.evCall_over (call17 w b x y c ps hl hw hw1), Dg.i64_eq (by omega) (by omega) (by omega), Dg.vfalse (by omega), Dg.u64_eq (by omega) (by omega) (by omega), Dg.u64_eq (by omega) (by omega) (by omega), by omega, by omega, by simp, by simp, Dg.evCall_over (call18 (o := 0) (md := 1) (esz := 2) (by rfl) (by simp; omega) hw (by omega) hw1 rfl), by omega, by omega, fun _ => by omega, by rw [if_neg (by omega)]; exact Dg.sl_eq (by omega) (by omega) (by omega), Dg.evCall_over (call18 (o := w) (md := 1) (esz := 2) (by rfl) (by simp; omega) hw (by omega) hw1 rfl), Dg.evCall_over (call19 hr1 hr2 hb hap), gc_5 _ _ _ _ _ _ _ _ _ _ _, trivial⟩

end Go.Proofs.Ytafhlmpifdclaaa.shift

