/- What the best of some samples comes to: for the laws of layer 34. -/
import Derived.Test.YtafhlmpifdclaaaRows
import Derived.Test.YtafhlmpifdclaaaDgLoop
import Derived.WalkKit
import Derived.ProofKit
import Derived.OpenShut
namespace Go.Proofs.Ytafhlmpifdclaaa.shift
open Go.Dg (junk St Ex Ev Hint evCall evCallS evCode evCodeS evLoop cleanSt ue bodied noOver sbOf headOf tailOf bodyOf Flats flatOver Heap AObj SCall)
set_option linter.unusedVariables false
set_option linter.unusedSimpArgs false

noncomputable def sbs : List Nat := (Try.prog.funcs.toList.map sbOf).set 18 4
theorem mixed : Try.prog.follows .mixedOrders = true := by kernel_rfl
def js (n : Nat) : List Value := List.replicate n junk
/-- Samples in memory. -/
def pc (ps : List (Int × Int)) : List Value := ps.flatMap fun p => [.int .i64 p.1, .int .i64 p.2]
theorem pc_length (ps : List (Int × Int)) : (pc ps).length = 2 * ps.length := by
  induction ps with
  | nil => rfl
  | cons p r ih => simp only [pc, List.flatMap_cons, List.length_append, List.length_cons, List.length_nil] at ih ⊢; omega
theorem pc_drop : ∀ (ps : List (Int × Int)) (i : Nat), (pc ps).drop (2 * i) = pc (ps.drop i) := by
  intro ps
  induction ps with
  | nil => intro i; simp [pc]
  | cons p r ih =>
    intro i
    cases i with
    | zero => rfl
    | succ i =>
      have : (pc (p :: r)).drop (2 * (i + 1)) = (pc r).drop (2 * i) := by
        have : 2 * (i + 1) = 2 * i + 2 := by omega
        rw [this]; rfl
      rw [this, ih i]; rfl
theorem pc_take : ∀ (ps : List (Int × Int)) (i : Nat), (pc ps).take (2 * i) = pc (ps.take i) := by
  intro ps
  induction ps with
  | nil => intro i; simp [pc]
  | cons p r ih =>
    intro i
    cases i with
    | zero => rfl
    | succ i =>
      have : (pc (p :: r)).take (2 * (i + 1)) = .int .i64 p.1 :: .int .i64 p.2 :: (pc r).take (2 * i) := by
        have : 2 * (i + 1) = 2 * i + 2 := by omega
        rw [this]; rfl
      rw [this, ih i]; rfl
theorem pc_app (a b : List (Int × Int)) : pc (a ++ b) = pc a ++ pc b := by simp [pc]
theorem pc_load (ps : List (Int × Int)) (i : Nat) (h : i < ps.length) : 2 * i + 2 ≤ (pc ps).length ∧ ((pc ps).drop (2 * i)).take 2 = [.int .i64 (ps.getD i (0, 0)).1, .int .i64 (ps.getD i (0, 0)).2] := by
  refine ⟨by rw [pc_length]; omega, ?_⟩
  rw [pc_drop, List.drop_eq_getElem_cons h]
  simp only [pc, List.flatMap_cons, List.getD_eq_getElem?_getD, List.getElem?_eq_getElem h, Option.getD_some]
  rfl
theorem pc_flat (ps : List (Int × Int)) : Dg.flatL (pc ps) = true := Dg.flatL_all fun v hv => by
  obtain ⟨p, _, hp⟩ := List.mem_flatMap.1 hv
  simp only [List.mem_cons, List.not_mem_nil, or_false] at hp
  rcases hp with rfl | rfl <;> rfl

/-- The first of least delay. -/
def bst (q : Nat → Int × Int) : Nat → Int × Int
  | 0 => q 0
  | j + 1 => if (q (j + 1)).2 < (bst q j).2 then q (j + 1) else bst q j

/-! ### 'best' -/
noncomputable def c18 : Code := (Try.f18.body).getD .skip
noncomputable def lb18 : Code := bodyOf (bodyOf (tailOf (headOf (tailOf (tailOf c18)))))
section
variable (ps : List (Int × Int)) (o t m c md esz : Nat) (s : Option Nat)
def A18 (ps : List (Int × Int)) (md esz : Nat) : AObj := .cells (pc ps) 54 (md + 4) esz
def a18 (o m c : Nat) (s : Option Nat) : Value := .slice (some ⟨0, 2 * o, s⟩) (m + 1) (c + 1)
def q18 (ps : List (Int × Int)) (o : Nat) (i : Nat) : Int × Int := ps.getD (o + i) (0, 0)
def S18 (ps : List (Int × Int)) (o t m c md esz : Nat) (s : Option Nat) (x : Int × Int) (j : Nat) : St :=
  ⟨[a18 o m c s, undef, .int .i64 0, .pointer (some ⟨1, 0, none⟩)] ++ (js 6 ++ ([.slice (some ⟨0, t, s⟩) m c, .int .i64 m, .int .i64 j] ++ js 12)), ⟨2, [.cells [.int .i64 x.1, .int .i64 x.2] 54 4 1, A18 ps md esz]⟩, []⟩
noncomputable abbrev run18 : St → Option (Ex × St) := evCode Try.prog 0 (bodied Try.prog) (evCall Try.prog 0 (bodied Try.prog) noOver sbs 1000 19) 1 4 1000 lb18
noncomputable abbrev cl18 : St → St := cleanSt 1 4 (ue lb18 [] []).1
theorem ld18 (i : Nat) (hi : o + i < ps.length) : 2 * (o + i) + 2 ≤ (pc ps).length ∧ ((pc ps).drop (2 * (o + i))).take 2 = [.int .i64 (q18 ps o i).1, .int .i64 (q18 ps o i).2] := pc_load ps (o + i) hi
theorem step18 (x : Int × Int) (j : Nat) (hj : j < m) (hm : m ≤ 1000) (ht : t = 2 * o + 2) (hl : o + m < ps.length) : ∃ s', run18 (S18 ps o t m c md esz s x j) = some (.normal, s') ∧ cl18 s' = S18 ps o t m c md esz s (if (q18 ps o (j + 1)).2 < x.2 then q18 ps o (j + 1) else x) (j + 1) := by
  have hld := ld18 ps o (j + 1) (by omega)
  by_cases h : (q18 ps o (j + 1)).2 < x.2
  · rw [if_pos h]
    exact Dg.code_round (f := 18) cl18 [.val 18 13 (.bool true), .soft 18 14 (.pointer (some ⟨0, 2 * (o + (j + 1)), none⟩)), .soft 18 15 (.agg #[.int .i64 (q18 ps o (j + 1)).1, .int .i64 (q18 ps o (j + 1)).2]), .val 18 20 (.bool true), .val 18 22 (.int .i64 ((j + 1 : Nat) : Int))]
      [Value.bool (decide ((j : Int) < (m : Int))) = .bool true, (0 : Int) ≤ j ∧ (j : Int) < m, Value.pointer (some ⟨0, t + j * 2, none⟩) = .pointer (some ⟨0, 2 * (o + (j + 1)), none⟩),
        2 * (o + (j + 1)) + 2 ≤ (pc ps).length, ((pc ps).drop (2 * (o + (j + 1)))).take 2 = [.int .i64 (q18 ps o (j + 1)).1, .int .i64 (q18 ps o (j + 1)).2], Value.bool (decide ((q18 ps o (j + 1)).2 < x.2)) = .bool true,
        Value.int .i64 (IntKind.i64.wrap ((j : Int) + 1)) = .int .i64 ((j + 1 : Nat) : Int)] (by kernel_rfl) ⟨Dg.vtrue (by omega), by omega, Dg.ptr_eq (by omega), hld.1, hld.2, Dg.vtrue h, Dg.i64_eq (by omega) (by omega) (by omega), trivial⟩
  · rw [if_neg h]
    exact Dg.code_round (f := 18) cl18 [.val 18 13 (.bool true), .soft 18 14 (.pointer (some ⟨0, 2 * (o + (j + 1)), none⟩)), .soft 18 15 (.agg #[.int .i64 (q18 ps o (j + 1)).1, .int .i64 (q18 ps o (j + 1)).2]), .val 18 20 (.bool false), .val 18 22 (.int .i64 ((j + 1 : Nat) : Int))]
      [Value.bool (decide ((j : Int) < (m : Int))) = .bool true, (0 : Int) ≤ j ∧ (j : Int) < m, Value.pointer (some ⟨0, t + j * 2, none⟩) = .pointer (some ⟨0, 2 * (o + (j + 1)), none⟩),
        2 * (o + (j + 1)) + 2 ≤ (pc ps).length, ((pc ps).drop (2 * (o + (j + 1)))).take 2 = [.int .i64 (q18 ps o (j + 1)).1, .int .i64 (q18 ps o (j + 1)).2], Value.bool (decide ((q18 ps o (j + 1)).2 < x.2)) = .bool false,
        Value.int .i64 (IntKind.i64.wrap ((j : Int) + 1)) = .int .i64 ((j + 1 : Nat) : Int)] (by kernel_rfl) ⟨Dg.vtrue (by omega), by omega, Dg.ptr_eq (by omega), hld.1, hld.2, Dg.vfalse h, Dg.i64_eq (by omega) (by omega) (by omega), trivial⟩
def E18 (ps : List (Int × Int)) (o t m c md esz : Nat) (s : Option Nat) (x : Int × Int) : St :=
  ⟨[a18 o m c s, undef, .int .i64 0, .pointer (some ⟨1, 0, none⟩)] ++ (js 6 ++ ([.slice (some ⟨0, t, s⟩) m c, .int .i64 m, .int .i64 m, .bool false] ++ js 11)), ⟨2, [.cells [.int .i64 x.1, .int .i64 x.2] 54 4 1, A18 ps md esz]⟩, []⟩
theorem stop18 (x : Int × Int) : run18 (S18 ps o t m c md esz s x m) = some (.exit 0, E18 ps o t m c md esz s x) :=
  Dg.evCode_hint (f := 18) (hs := [.val 18 13 (.bool false)]) (hs' := []) [Value.bool (decide ((m : Int) < (m : Int))) = .bool false] (by kernel_rfl) ⟨Dg.vfalse (by omega), trivial⟩
theorem loop18 (hm : m ≤ 900) (ht : 0 < m → t = 2 * o + 2) (hl : o + m < ps.length) (s0 : St) (h0 : cl18 s0 = S18 ps o t m c md esz s (q18 ps o 0) 0) : evLoop run18 cl18 1000 s0 = some (.exit 0, E18 ps o t m c md esz s (bst (q18 ps o) m)) :=
  Dg.loop_run (S := fun j => S18 ps o t m c md esz s (bst (q18 ps o) j) j) (by simp) (fun j hj => step18 ps o t m c md esz s _ j hj (by omega) (ht (by omega)) hl) (stop18 ps o t m c md esz s _) (by omega) h0
def B18 (ps : List (Int × Int)) (o t m c md esz : Nat) (s : Option Nat) (x : Int × Int) : St :=
  ⟨[a18 o m c s, undef, .int .i64 0, .pointer (some ⟨1, 0, none⟩), undef, undef, a18 o m c s, .pointer (some ⟨0, 2 * o, none⟩), .agg #[.int .i64 x.1, .int .i64 x.2], a18 o m c s, .slice (some ⟨0, t, s⟩) m c, .int .i64 m, .int .i64 0] ++ List.replicate 12 undef,
    ⟨2, [.cells [.int .i64 x.1, .int .i64 x.2] 54 0 1, A18 ps md esz]⟩, []⟩
theorem best_run (hm : m ≤ 900) (hmc : m ≤ c) (hl : o + m < ps.length) (hs : s = none ∨ 0 < c) :
    evCall Try.prog 0 (bodied Try.prog) noOver sbs 1000 20 18 [a18 o m c s] ⟨1, [A18 ps md esz]⟩ = some (.int .i64 (bst (q18 ps o) m).1, ⟨1, [A18 ps md esz]⟩, []) := by
  have hld := ld18 ps o 0 (by omega)
  refine Dg.evCall_hint (hs := [.soft 18 7 (.pointer (some ⟨0, 2 * o, none⟩)), .soft 18 8 (.agg #[.int .i64 (q18 ps o 0).1, .int .i64 (q18 ps o 0).2]), .soft 18 10 (.slice (some ⟨0, if c + 1 = 1 then 2 * o else 2 * o + 1 * 2, s⟩) m c), .loop 18 (.exit 0) (E18 ps o (if c + 1 = 1 then 2 * o else 2 * o + 1 * 2) m c md esz s (bst (q18 ps o) m))]) (hs' := [])
    [(0 : Int) ≤ 0 ∧ (0 : Int) < ((m + 1 : Nat) : Int), Value.pointer (some ⟨0, 2 * o + 0 * 2, none⟩) = .pointer (some ⟨0, 2 * o, none⟩), 2 * o + 2 ≤ (pc ps).length, ((pc ps).drop (2 * o)).take 2 = [.int .i64 (q18 ps o 0).1, .int .i64 (q18 ps o 0).2],
     (0 : Int) ≤ 1, 1 ≤ m + 1 ∧ m + 1 ≤ c + 1 ∧ c + 1 ≤ c + 1, s.isSome = true → ¬ (1 = c + 1 ∧ 1 ≠ 0), Value.slice (some ⟨0, if c + 1 = 1 then 2 * o else 2 * o + 1 * 2, s⟩) (m + 1 - 1) (c + 1 - 1) = .slice (some ⟨0, if c + 1 = 1 then 2 * o else 2 * o + 1 * 2, s⟩) m c,
     evLoop run18 cl18 1000 (B18 ps o (if c + 1 = 1 then 2 * o else 2 * o + 1 * 2) m c md esz s (q18 ps o 0)) = some (.exit 0, E18 ps o (if c + 1 = 1 then 2 * o else 2 * o + 1 * 2) m c md esz s (bst (q18 ps o) m))] (by kernel_rfl)
    ⟨by omega, Dg.ptr_eq (by omega), hld.1, hld.2, by omega, by omega, ?_, Dg.sl_eq rfl (by omega) (by omega), loop18 ps o _ m c md esz s hm (fun h => by rw [if_neg (by omega)]) hl _ (by kernel_rfl), trivial⟩
  intro hsome
  rcases hs with rfl | h0
  · cases hsome
  · omega
/-- One sample, at the end of an array of unknown room. -/
theorem best_one (hl : o < ps.length) :
    evCall Try.prog 0 (bodied Try.prog) noOver sbs 1000 20 18 [a18 o 0 0 (some 0)] ⟨1, [A18 ps md esz]⟩ = some (.int .i64 (bst (q18 ps o) 0).1, ⟨1, [A18 ps md esz]⟩, []) := by
  have hld := ld18 ps o 0 (by omega)
  exact Dg.evCall_hint (hs := [.soft 18 7 (.pointer (some ⟨0, 2 * o, none⟩)), .soft 18 8 (.agg #[.int .i64 (q18 ps o 0).1, .int .i64 (q18 ps o 0).2])]) (hs' := [])
    [(0 : Int) ≤ 0 ∧ (0 : Int) < ((0 + 1 : Nat) : Int), Value.pointer (some ⟨0, 2 * o + 0 * 2, none⟩) = .pointer (some ⟨0, 2 * o, none⟩), 2 * o + 2 ≤ (pc ps).length, ((pc ps).drop (2 * o)).take 2 = [.int .i64 (q18 ps o 0).1, .int .i64 (q18 ps o 0).2]] (by kernel_rfl)
    ⟨by omega, Dg.ptr_eq (by omega), hld.1, hld.2, trivial⟩
theorem best_small (hm : m ≤ 900) (hmc : m ≤ c) (hl : o + m < ps.length) (hs : s = none ∨ s = some 0) :
    SCall Try.prog 18 [a18 o m c s] ⟨1, [A18 ps md esz]⟩ (.int .i64 (bst (q18 ps o) m).1) ⟨1, [A18 ps md esz]⟩ [] := by
  refine SCall.of_ev mixed (Dg.bodied_ok _) Dg.noOver_ok (sb := sbs) (lf := 1000) (n := 20) ?_
  by_cases h : s = none ∨ 0 < c
  · exact best_run ps o m c md esz s hm hmc hl h
  · obtain rfl : s = some 0 := by rcases hs with h1 | h1; exact absurd (.inl h1) h; exact h1
    obtain rfl : c = 0 := by rcases Nat.eq_zero_or_pos c with h1 | h1; exact h1; exact absurd (.inr h1) h
    obtain rfl : m = 0 := by omega
    exact best_one ps o md esz (by omega)
end
/-- 'best' of a row of samples, over whatever heap. -/
theorem best_is {H : Heap} {k o m c md esz : Nat} {s : Option Nat} {ps : List (Int × Int)} (hk : H.get k = .cells (pc ps) 54 (md + 4) esz) (hm : m ≤ 900) (hmc : m ≤ c) (hl : o + m < ps.length) (hs : s = none ∨ s = some 0) :
    SCall Try.prog 18 [.slice (some ⟨k, 2 * o, s⟩) (m + 1) (c + 1)] H (.int .i64 (bst (q18 ps o) m).1) H [] := by
  have hlive : (H.get k).live = true := by rw [hk]; rfl
  refine (best_small ps o m c md esz s hm hmc hl hs).frame [k] (by simp) rfl rfl (by simp; exact Dg.Heap.lt_of_live hlive) ?_ ?_ (by simp [Dg.idsOfL, Dg.idsOf]) (fun h => h) rfl (fun _ _ _ => rfl) ?_ (fun i hi => by simp at hi) rfl (fun _ _ _ => rfl)
  · intro i j hj
    cases i with
    | zero =>
      cases hj
      refine ⟨hlive, by rw [hk, Dg.ids_flat (pc_flat ps)]; simp, ?_⟩
      rw [hk, Dg.ren_mark]; rfl
    | succ i => simp at hj
  · simp [Dg.renL, Dg.renV, Dg.renK, a18]
  · intro i j hj
    cases i with
    | zero =>
      cases hj
      rw [hk]
      show _ = (A18 ps md esz).ren _
      unfold A18
      rw [Dg.ren_mark]
    | succ i => simp at hj
end Go.Proofs.Ytafhlmpifdclaaa.shift
