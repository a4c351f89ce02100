/- What 'apart', 'slices.Clone', 'Add' and 'Copy' come to: for the laws of layer 34. -/
import Derived.Test.YtafhlmpifdclaaaRows
import Derived.Test.YtafhlmpifdclaaaShiftRef
namespace Go.Proofs.Ytafhlmpifdclaaa.shift
open Go.Dg (junk St Ex Ev Hint evCall evCallS evCode evCodeS evLoop cleanSt ue bodied noOver sbOf headOf tailOf bodyOf Flats flatOver Heap AObj SCall)
set_option linter.unusedVariables false
set_option linter.unusedSimpArgs false

/-! ### apart -/
def In (a : Int) : Prop := -9223372036854775808 ≤ a ∧ a < 9223372036854775808
def apartB (a b t : Int) : Bool := decide (t < (if a < b then b - a else a - b))
theorem apart_is (a b t : Int) (ha : In a) (hb : In b) (ht : 0 ≤ t ∧ t < 9223372036854775808) : Flats Try.prog 19 [.int .i64 a, .int .i64 b, .int .i64 t] (.bool (apartB a b t)) := by
  unfold In at ha hb
  refine Dg.closed_call mixed (Dg.bodied_ok _) Dg.noOver_ok (sb := sbs) (lf := 1000) (n := 20) ?_ rfl rfl
  rw [Dg.evCall_hint (hs := []) (hs' := []) (v := .bool (decide (IntKind.u64.wrap t < IntKind.u64.wrap (IntKind.u64.wrap (if a < b then b else a) - IntKind.u64.wrap (if b < a then b else a))))) (H' := ⟨0, []⟩) (log := []) [] (by kernel_rfl) trivial]
  simp only [Option.map_some, Option.some.injEq]
  refine Dg.bool_eq ?_
  unfold apartB
  rw [decide_eq_decide, Dg.w_u64, Dg.w_u64, Dg.w_u64, Dg.w_u64]
  split <;> split <;> omega
theorem apartR_le (n : Nat) (a b t : Int) (ha : In a) (hb : In b) (ht : 0 ≤ t ∧ t < 9223372036854775808) (h : ¬ b < a) : evCall Try.prog 0 (bodied Try.prog) noOver sbs 1000 (n + 2) 21 [.int .i64 a, .int .i64 b, .int .i64 t] ⟨0, []⟩ = some (.bool (apartB a b t), ⟨0, []⟩, []) := by
  unfold In at ha hb
  by_cases h1 : a < 0
  · by_cases h2 : 0 ≤ b
    · by_cases h3 : 9223372036854775807 + a < b
      · have e : apartB a b t = true := by
          unfold apartB; rw [decide_eq_true_eq]; split <;> omega
        rw [e]
        exact Dg.evCall_hint (hs := [.val 21 9 (.bool false), .val 21 15 (.bool true), .val 21 18 (.bool true), .val 21 23 (.int .i64 (9223372036854775807 + a)), .val 21 24 (.bool true)]) (hs' := [])
          [Value.bool (decide (b < a)) = .bool false, Value.bool (decide (a < 0)) = .bool true, Value.bool (decide (0 ≤ b)) = .bool true, Value.int .i64 (IntKind.i64.wrap (9223372036854775807 + a)) = .int .i64 (9223372036854775807 + a), Value.bool (decide (9223372036854775807 + a < b)) = .bool true]
          (by kernel_rfl) ⟨Dg.vfalse h, Dg.vtrue h1, Dg.vtrue h2, Dg.i64_eq rfl (by omega) (by omega), Dg.vtrue h3, trivial⟩
      · have e : apartB a b t = decide (t < b - a) := by
          unfold apartB; rw [decide_eq_decide]; split <;> omega
        rw [e]
        exact Dg.evCall_hint (hs := [.val 21 9 (.bool false), .val 21 15 (.bool true), .val 21 18 (.bool true), .val 21 23 (.int .i64 (9223372036854775807 + a)), .val 21 24 (.bool false), .val 21 28 (.int .i64 (b - a))]) (hs' := [])
          [Value.bool (decide (b < a)) = .bool false, Value.bool (decide (a < 0)) = .bool true, Value.bool (decide (0 ≤ b)) = .bool true, Value.int .i64 (IntKind.i64.wrap (9223372036854775807 + a)) = .int .i64 (9223372036854775807 + a), Value.bool (decide (9223372036854775807 + a < b)) = .bool false, Value.int .i64 (IntKind.i64.wrap (b - a)) = .int .i64 (b - a)]
          (by kernel_rfl) ⟨Dg.vfalse h, Dg.vtrue h1, Dg.vtrue h2, Dg.i64_eq rfl (by omega) (by omega), Dg.vfalse h3, Dg.i64_eq rfl (by omega) (by omega), trivial⟩
    · have e : apartB a b t = decide (t < b - a) := by
        unfold apartB; rw [decide_eq_decide]; split <;> omega
      rw [e]
      exact Dg.evCall_hint (hs := [.val 21 9 (.bool false), .val 21 15 (.bool true), .val 21 18 (.bool false), .val 21 28 (.int .i64 (b - a))]) (hs' := [])
        [Value.bool (decide (b < a)) = .bool false, Value.bool (decide (a < 0)) = .bool true, Value.bool (decide (0 ≤ b)) = .bool false, Value.int .i64 (IntKind.i64.wrap (b - a)) = .int .i64 (b - a)]
        (by kernel_rfl) ⟨Dg.vfalse h, Dg.vtrue h1, Dg.vfalse h2, Dg.i64_eq rfl (by omega) (by omega), trivial⟩
  · have e : apartB a b t = decide (t < b - a) := by
      unfold apartB; rw [decide_eq_decide]; split <;> omega
    rw [e]
    exact Dg.evCall_hint (hs := [.val 21 9 (.bool false), .val 21 15 (.bool false), .val 21 28 (.int .i64 (b - a))]) (hs' := [])
      [Value.bool (decide (b < a)) = .bool false, Value.bool (decide (a < 0)) = .bool false, Value.int .i64 (IntKind.i64.wrap (b - a)) = .int .i64 (b - a)]
      (by kernel_rfl) ⟨Dg.vfalse h, Dg.vfalse h1, Dg.i64_eq rfl (by omega) (by omega), trivial⟩
theorem apartR_is (a b t : Int) (ha : In a) (hb : In b) (ht : 0 ≤ t ∧ t < 9223372036854775808) : Flats Try.prog 21 [.int .i64 a, .int .i64 b, .int .i64 t] (.bool (apartB a b t)) := by
  refine Dg.closed_call mixed (Dg.bodied_ok _) Dg.noOver_ok (sb := sbs) (lf := 1000) (n := 20) ?_ rfl rfl
  by_cases h : b < a
  · have e : apartB a b t = apartB b a t := by
      unfold apartB; rw [decide_eq_decide, if_neg (show ¬ a < b by omega), if_pos h]
    rw [e, Dg.evCall_hint (hs := [.val 21 9 (.bool true), .call 21 (.bool (apartB b a t)) ⟨0, []⟩ []]) (hs' := []) (v := .bool (apartB b a t)) (H' := ⟨0, []⟩) (log := [])
      [Value.bool (decide (b < a)) = .bool true, evCall Try.prog 0 (bodied Try.prog) noOver sbs 1000 19 21 [.int .i64 b, .int .i64 a, .int .i64 t] ⟨0, []⟩ = some (.bool (apartB b a t), ⟨0, []⟩, [])]
      (by kernel_rfl) ⟨Dg.vtrue h, apartR_le 17 b a t hb ha ht (by omega), trivial⟩]
    rfl
  · rw [apartR_le 18 a b t ha hb ht h]; rfl

/-! ### slices.Clone -/
def E49 : AObj := .cells [] 54 0 1
theorem info54 : ∃ i, Try.prog.info? 54 = some i ∧ i.zero = some (.agg #[.int .i64 0, .int .i64 0]) ∧ i.size = 2 ∧ i.bytes = 16 := ⟨_, rfl, by kernel_rfl, by kernel_rfl, by kernel_rfl⟩
theorem pc_one (ps : List (Int × Int)) : (pc ps).all (·.oneCell') = true := by
  rw [List.all_eq_true]
  intro v hv
  obtain ⟨p, _, hp⟩ := List.mem_flatMap.1 hv
  simp only [List.mem_cons, List.not_mem_nil, or_false] at hp
  rcases hp with rfl | rfl <;> rfl
theorem pc_read {H : Heap} {k o len e md esz : Nat} {ps : List (Int × Int)} (hk : H.get k = .cells (pc ps) e md esz) (h : o + len ≤ ps.length) : H.read k (2 * o) (len * 2) = some (pc ((ps.drop o).take len)) := by
  unfold Heap.read
  rw [hk]
  simp only
  rw [if_pos (by rw [pc_length]; omega), pc_drop, show len * 2 = 2 * len by omega, pc_take]
theorem append_clone {H : Heap} {k k2 o len cap e md esz : Nat} {s : Option Nat} {ps : List (Int × Int)} (hk : H.get k2 = .cells (pc ps) e (md + 4) esz) (hk1 : H.get k = E49) (h : o + len ≤ ps.length) (h0 : 0 < len) (h1 : len ≤ 900) :
    Dg.evAppend Try.prog H 49 49 (.slice (some ⟨k, 0, none⟩) 0 0) (.slice (some ⟨k2, 2 * o, s⟩) len cap) = some (.slice (some ⟨H.n, 0, some 0⟩) len len, H.push (.cells (pc ((ps.drop o).take len)) 54 5 2), []) := by
  have e1 : Dg.someSlice (Try.prog.underlying 49) = some 54 := by kernel_rfl
  have e2 : Dg.srcType (Try.prog.underlying 49) = true := by kernel_rfl
  obtain ⟨i, hi, hz, hs, hb⟩ := info54
  have hr := pc_read hk h
  have hlen : (pc ((ps.drop o).take len)).length = len * 2 := by rw [pc_length]; simp; omega
  have hc : (Value.agg #[.int .i64 0, .int .i64 0]).cells.size = 2 := rfl
  unfold Dg.evAppend
  simp only [e1, e2, hi, hz, hs, hb, Dg.srcCells, hr, Option.map_some, pc_one, hlen, hc, Nat.zero_add, Bool.not_true, Bool.false_eq_true, if_false, beq_self_eq_true, Bool.and_self]
  rw [if_neg (by omega)]
  have hr0 : H.read k 0 (0 * 2) = some [] := by unfold Heap.read; rw [hk1]; rfl
  have hsf : Dg.srcFlag H (Value.slice (some { block := k2, off := 2 * o, spot := s }) len cap) = true := by simp only [Dg.srcFlag, Dg.flagAt, hk]; exact Nat.ble_eq_true_of_le (Nat.le_add_left _ _)
  simp [hr0, show len ≤ 1099511627776 by omega, show len * 16 ≤ 1099511627776 by omega, hsf, Dg.flatL]
def H3c (x a : AObj) : Heap := ⟨3, [x, E49, a]⟩
theorem gc_clone (qs ps : List (Int × Int)) (len md esz : Nat) : Dg.gcAt 1 [.slice (some ⟨2, 0, some 0⟩) len len] [] (H3c (.cells (pc qs) 54 5 2) (A18 ps md esz)) = ([.slice (some ⟨1, 0, some 0⟩) len len], ⟨2, [.cells (pc qs) 54 5 2, A18 ps md esz]⟩) := by
  have hids : ((H3c (.cells (pc qs) 54 5 2) (A18 ps md esz)).get 2).ids = [] := Dg.ids_flat (pc_flat qs)
  have hren : ((H3c (.cells (pc qs) 54 5 2) (A18 ps md esz)).get 2).ren (Dg.renK 1 [2]) = .cells (pc qs) 54 5 2 := Dg.ren_mark
  have hcol : Dg.collect 1 (H3c (.cells (pc qs) 54 5 2) (A18 ps md esz)) 100000 [2] [] = some [2] := by
    rw [Dg.collect_take (l := []) (by omega) (by simp) hids]; exact Dg.collect_nil
  exact (Dg.gc_is [2] [] [.cells (pc qs) 54 5 2] hcol (by show 1 ≤ 3; omega) rfl (by simp only [List.map_cons, List.map_nil, hren])).trans (by kernel_rfl)
theorem clone_run (ps : List (Int × Int)) (o len cap md esz : Nat) (s : Option Nat) (h : o + len ≤ ps.length) (h0 : 0 < len) (h1 : len ≤ 900) :
    evCall Try.prog 0 (bodied Try.prog) noOver sbs 1000 20 17 [.slice (some ⟨0, 2 * o, s⟩) len cap] ⟨1, [A18 ps md esz]⟩ = some (.slice (some ⟨1, 0, some 0⟩) len len, ⟨2, [.cells (pc ((ps.drop o).take len)) 54 5 2, A18 ps md esz]⟩, []) :=
  Dg.evCall_hint (hs := [.softH 17 7 (.slice (some ⟨2, 0, some 0⟩) len len) ⟨3, [.cells (pc ((ps.drop o).take len)) 54 5 2, E49, A18 ps md esz]⟩ [], .gc 17 [.slice (some ⟨1, 0, some 0⟩) len len] ⟨2, [.cells (pc ((ps.drop o).take len)) 54 5 2, A18 ps md esz]⟩]) (hs' := [])
    [Dg.evAppend Try.prog ⟨2, [E49, A18 ps md esz]⟩ 49 49 (.slice (some ⟨1, 0, none⟩) 0 0) (.slice (some ⟨0, 2 * o, s⟩) len cap) = some (.slice (some ⟨2, 0, some 0⟩) len len, ⟨3, [.cells (pc ((ps.drop o).take len)) 54 5 2, E49, A18 ps md esz]⟩, []),
     Dg.gcAt 1 [.slice (some ⟨2, 0, some 0⟩) len len] [] ⟨3, [.cells (pc ((ps.drop o).take len)) 54 5 2, E49, A18 ps md esz]⟩ = ([.slice (some ⟨1, 0, some 0⟩) len len], ⟨2, [.cells (pc ((ps.drop o).take len)) 54 5 2, A18 ps md esz]⟩)] (by kernel_rfl)
    ⟨append_clone (H := ⟨2, [E49, A18 ps md esz]⟩) (k := 1) (k2 := 0) rfl rfl h h0 h1,
     gc_clone _ _ _ _ _, trivial⟩
theorem clone_is {H : Heap} {k o len cap md esz : Nat} {s : Option Nat} {ps : List (Int × Int)} (hk : H.get k = .cells (pc ps) 54 (md + 4) esz) (h : o + len ≤ ps.length) (h0 : 0 < len) (h1 : len ≤ 900) :
    SCall Try.prog 17 [.slice (some ⟨k, 2 * o, s⟩) len cap] H (.slice (some ⟨H.n, 0, some 0⟩) len len) (H.push (.cells (pc ((ps.drop o).take len)) 54 5 2)) [] := by
  have hlive : (H.get k).live = true := by rw [hk]; rfl
  have hkn := Dg.Heap.lt_of_live hlive
  have hsm : SCall Try.prog 17 [.slice (some ⟨0, 2 * o, s⟩) len cap] ⟨1, [A18 ps md esz]⟩ (.slice (some ⟨1, 0, some 0⟩) len len) ⟨2, [.cells (pc ((ps.drop o).take len)) 54 5 2, A18 ps md esz]⟩ [] :=
    SCall.of_ev mixed (Dg.bodied_ok _) Dg.noOver_ok (sb := sbs) (lf := 1000) (n := 20) (clone_run ps o len cap md esz s h h0 h1)
  refine hsm.frame [k] (by simp) rfl rfl (by simp; exact hkn) ?_ ?_ (by simp [Dg.idsOfL, Dg.idsOf]) (fun h => by simp [Heap.push, h]) rfl (fun j hj _ => Dg.Heap.get_push_old _ _ _ hj) ?_ ?_ rfl (fun j hj _ => Dg.Heap.get_push_old _ _ _ hj)
  · intro i j hj
    match i, hj with
    | 0, hj =>
      cases hj
      exact ⟨hlive, by rw [hk, Dg.ids_flat (pc_flat ps)]; simp, by rw [hk, Dg.ren_mark]; rfl⟩
  · simp [Dg.renL, Dg.renV, Dg.renK]
  · intro i j hj
    match i, hj with
    | 0, hj =>
      cases hj
      show (H.push _).get k = (A18 ps md esz).ren _
      rw [Dg.Heap.get_push_old _ _ _ hkn, hk]
      unfold A18
      rw [Dg.ren_mark]
  · intro i hi
    have hi0 : i = 0 := by
      have : i < 1 := hi
      omega
    subst hi0
    show (H.push _).get (H.n + 0) = (AObj.cells (pc ((ps.drop o).take len)) 54 5 2).ren _ ∧ _
    rw [Nat.add_zero, Dg.Heap.get_push_new, Dg.ren_mark]
    exact ⟨rfl, fun _ => rfl⟩
end Go.Proofs.Ytafhlmpifdclaaa.shift
