/- Wide numbers held against each other: the program's Cmp. Wide numbers as the program reckons them: Of, Add, Sub, Half, Clip. Sums and differences of wide numbers as the program reckons them. How far two moments are apart: era.gap. Small functions of package cross over wide numbers: Fold, way, less. Offset and delay of four moments: fix.Offset. The delay of four moments: fix.Delay. -/
import Derived.Test.YtmnoegfehgoalaaGreatDoorRows
import Derived.Test.YtmnoegfehgoalaaGreatDoorChecked
import Derived.BigCall
import Derived.BigGuard
import Derived.BigQuiet
import Derived.Deep.CutBlock
import Derived.Deep.CutRange
import Derived.Deep.DeepCutAuto
import Derived.Deep.LoopGhost
import Derived.Deep.QuietTactic
import Derived.Deep.RegionHeld3
import Derived.Handy
import Derived.Lib.Hide
import Derived.Lib.Walk
import Derived.OwnWalk
import Derived.RowKitTokens
import Derived.WalkKit
import Derived.ProofKit
import Derived.Stop.Joined
import Derived.SevenTiedAt
import Derived.Laws.OwnMore
import Derived.Laws.Externs
import Derived.Shelf.Spec.BitsCarry
namespace Go.Proofs.YtmnoegfehgoalaaGreatDoor.cx
open Go.RowKit Go.Extern.Stop Go.Stop Go.Extern
set_option linter.unusedVariables false
/-- Which of two numbers is greater: -1, 0, 1. -/
def cv (x y : Int) : Int := if x < y then -1 else if y < x then 1 else 0
theorem alloc_size (W : World) (o : Obj) : (W.alloc o).heap.size = W.heap.size + 1 := by
  unfold World.alloc
  exact Array.size_push ..
theorem two_cells (W : World) (a b : Value) (t : TypeId) : (W.alloc (.cells #[a, b] t)).cell? ⟨W.heap.size, 0, none⟩ = some a ∧ (W.alloc (.cells #[a, b] t)).cell? ⟨W.heap.size, 1, none⟩ = some b := by
  have hn := heap_alloc_new W (.cells #[a, b] t)
  constructor <;> (unfold World.cell?; simp only [hn]; rfl)
theorem lt_of_cell {w : World} {a : Addr} {v : Value} (h : w.cell? a = some v) : a.block < w.heap.size := by
  rcases Nat.lt_or_ge a.block w.heap.size with h' | h'
  · exact h'
  · unfold World.cell? at h
    rw [Array.getElem?_eq_none (by omega)] at h
    cases h
theorem cell_up {w w' : World} {b i : Nat} {v : Value} (hb : Below w.heap.size w w') (h : w.cell? ⟨b, i, none⟩ = some v) : w'.cell? ⟨b, i, none⟩ = some v := by
  rw [← h]
  exact hb.cell (lt_of_cell h)
set_option maxRecDepth 1000000 in
theorem nan_i64 (W : World) (x : Int) : Calls Tryz.prog 121 #[.int .i64 x] W fun e w' => e = .returned (.bool false) ∧ Below W.heap.size W w' := by
  have hx : (x != x) = false := by simp
  go_enter Tryz.func121, Tryz.ntmps121
  go_wp2_with fail
  go_ret
  refine ⟨?_, Below.refl _ _⟩
  simp
set_option maxRecDepth 1000000 in
theorem nan_u64 (W : World) (x : Int) : Calls Tryz.prog 122 #[.int .u64 x] W fun e w' => e = .returned (.bool false) ∧ Below W.heap.size W w' := by
  have hx : (x != x) = false := by simp
  go_enter Tryz.func122, Tryz.ntmps122
  go_wp2_with fail
  go_ret
  refine ⟨?_, Below.refl _ _⟩
  simp
set_option maxRecDepth 1000000 in
theorem cmp_i64 (W : World) (x y : Int) : Calls Tryz.prog 99 #[.int .i64 x, .int .i64 y] W fun e w' => e = .returned (.int .i64 (cv x y)) ∧ Below W.heap.size W w' := by
  unfold cv
  by_cases h1 : x < y
  · have d1 : decide (x < y) = true := by simpa using h1
    rw [if_pos h1]
    have hb := Below.refl W.heap.size W
    go_enter Tryz.func99, Tryz.ntmps99
    go_wp2_with (go_at_call 121; refine (nan_i64 _ _).mono ?_; rintro e w1 ⟨rfl, hb'⟩; have hb := hb.trans (hb'.mono hb.size); clear hb')
    go_ret
    exact ⟨rfl, hb⟩
  · have d1 : decide (x < y) = false := by simpa using h1
    rw [if_neg h1]
    by_cases h2 : y < x
    · have d2 : decide (y < x) = true := by simpa using h2
      rw [if_pos h2]
      have hb := Below.refl W.heap.size W
      go_enter Tryz.func99, Tryz.ntmps99
      go_wp2_with (go_at_call 121; refine (nan_i64 _ _).mono ?_; rintro e w1 ⟨rfl, hb'⟩; have hb := hb.trans (hb'.mono hb.size); clear hb')
      go_ret
      exact ⟨rfl, hb⟩
    · have d2 : decide (y < x) = false := by simpa using h2
      rw [if_neg h2]
      have hb := Below.refl W.heap.size W
      go_enter Tryz.func99, Tryz.ntmps99
      go_wp2_with (go_at_call 121; refine (nan_i64 _ _).mono ?_; rintro e w1 ⟨rfl, hb'⟩; have hb := hb.trans (hb'.mono hb.size); clear hb')
      go_ret
      exact ⟨rfl, hb⟩
set_option maxRecDepth 1000000 in
theorem cmp_u64 (W : World) (x y : Int) : Calls Tryz.prog 100 #[.int .u64 x, .int .u64 y] W fun e w' => e = .returned (.int .i64 (cv x y)) ∧ Below W.heap.size W w' := by
  unfold cv
  by_cases h1 : x < y
  · have d1 : decide (x < y) = true := by simpa using h1
    rw [if_pos h1]
    have hb := Below.refl W.heap.size W
    go_enter Tryz.func100, Tryz.ntmps100
    go_wp2_with (go_at_call 122; refine (nan_u64 _ _).mono ?_; rintro e w1 ⟨rfl, hb'⟩; have hb := hb.trans (hb'.mono hb.size); clear hb')
    go_ret
    exact ⟨rfl, hb⟩
  · have d1 : decide (x < y) = false := by simpa using h1
    rw [if_neg h1]
    by_cases h2 : y < x
    · have d2 : decide (y < x) = true := by simpa using h2
      rw [if_pos h2]
      have hb := Below.refl W.heap.size W
      go_enter Tryz.func100, Tryz.ntmps100
      go_wp2_with (go_at_call 122; refine (nan_u64 _ _).mono ?_; rintro e w1 ⟨rfl, hb'⟩; have hb := hb.trans (hb'.mono hb.size); clear hb')
      go_ret
      exact ⟨rfl, hb⟩
    · have d2 : decide (y < x) = false := by simpa using h2
      rw [if_neg h2]
      have hb := Below.refl W.heap.size W
      go_enter Tryz.func100, Tryz.ntmps100
      go_wp2_with (go_at_call 122; refine (nan_u64 _ _).mono ?_; rintro e w1 ⟨rfl, hb'⟩; have hb := hb.trans (hb'.mono hb.size); clear hb')
      go_ret
      exact ⟨rfl, hb⟩
/-- The first that is not 0. -/
def ov (a b : Int) : Int := if a = 0 then b else a
set_option maxRecDepth 1000000 in
theorem or_two (W : World) (a b : Int) (g c : Nat) (h0 : W.cell? ⟨g, 0, none⟩ = some (.int .i64 a)) (h1 : W.cell? ⟨g, 1, none⟩ = some (.int .i64 b)) : Calls Tryz.prog 98 #[.slice (some ⟨g, 0, none⟩) 2 c] W fun e w' => e = .returned (.int .i64 (ov a b)) ∧ Below W.heap.size W w' := by
  unfold ov
  by_cases ha : a = 0
  · subst ha
    rw [if_pos rfl]
    by_cases hb : b = 0
    · subst hb
      go_enter Tryz.func98, Tryz.ntmps98
      go_wp2_with fail
      refine wp_loop_rounds 3 ?_
      rw [rounds_succ]
      go_wp2_with fail
      rw [rounds_succ]
      go_wp2_with fail
      rw [rounds_succ]
      go_wp2_with fail
      go_ret
      exact ⟨rfl, Below.refl _ _⟩
    · have hd : (b != 0) = true := by simpa using hb
      go_enter Tryz.func98, Tryz.ntmps98
      go_wp2_with fail
      refine wp_loop_rounds 2 ?_
      rw [rounds_succ]
      go_wp2_with fail
      rw [rounds_succ]
      go_wp2_with fail
      go_ret
      exact ⟨rfl, Below.refl _ _⟩
  · have hd : (a != 0) = true := by simpa using ha
    rw [if_neg ha]
    go_enter Tryz.func98, Tryz.ntmps98
    go_wp2_with fail
    refine wp_loop_rounds 1 ?_
    rw [rounds_succ]
    go_wp2_with fail
    go_ret
    exact ⟨rfl, Below.refl _ _⟩
theorem s4_up {W w w1 : World} {g B : Nat} {a b c d : Value} (hX : w.cell? ⟨g, 0, none⟩ = some a ∧ w.cell? ⟨g, 1, none⟩ = some b ∧ w.cell? ⟨B, 0, none⟩ = some c ∧ w.cell? ⟨B, 1, none⟩ = some d ∧ Below W.heap.size W w) (hb1 : Below w.heap.size w w1) : w1.cell? ⟨g, 0, none⟩ = some a ∧ w1.cell? ⟨g, 1, none⟩ = some b ∧ w1.cell? ⟨B, 0, none⟩ = some c ∧ w1.cell? ⟨B, 1, none⟩ = some d ∧ Below W.heap.size W w1 :=
  ⟨cell_up hb1 hX.1, cell_up hb1 hX.2.1, cell_up hb1 hX.2.2.1, cell_up hb1 hX.2.2.2.1, hX.2.2.2.2.trans (hb1.mono hX.2.2.2.2.size)⟩
theorem s4_alloc {W w : World} {g B : Nat} {a b c d : Value} (o : Obj) (hX : w.cell? ⟨g, 0, none⟩ = some a ∧ w.cell? ⟨g, 1, none⟩ = some b ∧ w.cell? ⟨B, 0, none⟩ = some c ∧ w.cell? ⟨B, 1, none⟩ = some d ∧ Below W.heap.size W w) : (w.alloc o).cell? ⟨g, 0, none⟩ = some a ∧ (w.alloc o).cell? ⟨g, 1, none⟩ = some b ∧ (w.alloc o).cell? ⟨B, 0, none⟩ = some c ∧ (w.alloc o).cell? ⟨B, 1, none⟩ = some d ∧ Below W.heap.size W (w.alloc o) := s4_up hX ((Below.refl _ _).alloc (Nat.le_refl _) o)
set_option maxRecDepth 1000000 in
theorem wcmp (W : World) (a1 a0 b1 b0 : Int) : Calls Tryz.prog 72 #[.agg #[.int .i64 a1, .int .u64 a0], .agg #[.int .i64 b1, .int .u64 b0]] W fun e w' => e = .returned (.int .i64 (ov (cv a1 b1) (cv a0 b0))) ∧ Below W.heap.size W w' := by
  go_enter Tryz.func72, Tryz.ntmps72
  go_wp2_with fail
  obtain ⟨a1', a0'⟩ := two_cells W (.int .i64 a1) (.int .u64 a0) 45
  have hb1 := (Below.refl W.heap.size W).alloc (Nat.le_refl _) (.cells #[.int .i64 a1, .int .u64 a0] 45)
  obtain ⟨b1', b0'⟩ := two_cells (W.alloc (.cells #[.int .i64 a1, .int .u64 a0] 45)) (.int .i64 b1) (.int .u64 b0) 45
  have hb2 := (Below.refl (W.alloc (.cells #[.int .i64 a1, .int .u64 a0] 45)).heap.size (W.alloc (.cells #[.int .i64 a1, .int .u64 a0] 45))).alloc (Nat.le_refl _) (.cells #[.int .i64 b1, .int .u64 b0] 45)
  have a1' := cell_up hb2 a1'
  have a0' := cell_up hb2 a0'
  have hb := hb1.trans (hb2.mono hb1.size)
  have hz := alloc_size W (.cells #[.int .i64 a1, .int .u64 a0] 45)
  rw [hz] at b1' b0'
  generalize hB : W.heap.size + 1 = B at b1' b0' ⊢
  generalize (W.alloc (.cells #[.int .i64 a1, .int .u64 a0] 45)).alloc (.cells #[.int .i64 b1, .int .u64 b0] 45) = w0 at *
  clear hb1 hb2 hz
  have hS := And.intro a1' (And.intro a0' (And.intro b1' (And.intro b0' hb)))
  clear a1' a0' b1' b0' hb
  go_region_held3 (fun w' => w'.cell? ⟨W.heap.size, 0, none⟩ = some (.int .i64 a1) ∧ w'.cell? ⟨W.heap.size, 1, none⟩ = some (.int .u64 a0) ∧ w'.cell? ⟨B, 0, none⟩ = some (.int .i64 b1) ∧ w'.cell? ⟨B, 1, none⟩ = some (.int .u64 b0) ∧ Below W.heap.size W w')
    (first
      | assumption
      | exact s4_alloc _ ‹_ ∧ _ ∧ _ ∧ _ ∧ Below W.heap.size W _›
      | exact s4_up ‹_ ∧ _ ∧ _ ∧ _ ∧ Below W.heap.size W _› (by assumption)
      | exact s4_up ‹_ ∧ _ ∧ _ ∧ _ ∧ Below W.heap.size W _› ((Below.refl _ _).drew))
    (first
      | (go_at_call 99; refine (cmp_i64 _ _ _).mono ?_; rintro e w1 ⟨rfl, hb1⟩)
      | (go_at_call 100; refine (cmp_u64 _ _ _).mono ?_; rintro e w1 ⟨rfl, hb1⟩)
      | (go_at_call 98; refine (or_two _ _ _ _ _ (two_cells _ _ _ _).1 (two_cells _ _ _ _).2).mono ?_; rintro e w1 ⟨rfl, hb1⟩))
  all_goals go_wp2_with fail
  all_goals (go_ret; exact ⟨rfl, (‹_ ∧ _ ∧ _ ∧ _ ∧ Below W.heap.size W _›).2.2.2.2⟩)
end Go.Proofs.YtmnoegfehgoalaaGreatDoor.cx
namespace Go.Proofs.YtmnoegfehgoalaaGreatDoor.cx
open Go.RowKit Go.Extern.Stop Go.Stop Go.Extern
set_option linter.unusedVariables false
theorem add64 (x y c : Int) (hx : 0 ≤ x) (hy : 0 ≤ y) (hc0 : 0 ≤ c) (hc : c ≤ 1) (w : World) : (callFunc 84 #[.int .u64 x, .int .u64 y, .int .u64 c]).run Tryz.prog w = .ok (.value (.tuple #[.int .u64 ((x + y + c) % 18446744073709551616), .int .u64 ((x + y + c) / 18446744073709551616)])) w := by
  rw [run_callFunc_extern (fn := Tryz.f84) (by kernel_rfl) (by kernel_rfl) (by kernel_rfl) (by kernel_rfl) (e := add64Entry) (by kernel_rfl), run_add64 x y c hx hy hc0 hc]
  rfl
theorem w_u64 (n : Int) : IntKind.wrap .u64 n = n % 18446744073709551616 := by unfold IntKind.wrap; rfl
abbrev wd (h l : Int) : Value := .agg #[.int .i64 h, .int .u64 l]
set_option maxRecDepth 1000000 in
theorem of_w (W : World) (n : Int) : Calls Tryz.prog 49 #[.int .i64 n] W fun e w' => e = .returned (wd (n / 9223372036854775808) (n % 18446744073709551616)) ∧ Below W.heap.size W w' := by
  go_enter Tryz.func49, Tryz.ntmps49
  go_wp2_with fail
  refine bodyPost_ret (results_cell_row rfl _ _ W.heap.size 45 _ _ _ rfl (heap_alloc_new _ _) Tryz.underlying45 rfl rfl) rfl ?_
  exact ⟨by rw [w_u64], (Below.refl _ _).alloc (Nat.le_refl _) _⟩
theorem s2_up {W w w1 : World} {g : Nat} {a b : Value} (hX : w.cell? ⟨g, 0, none⟩ = some a ∧ w.cell? ⟨g, 1, none⟩ = some b ∧ Below W.heap.size W w) (hb1 : Below w.heap.size w w1) : w1.cell? ⟨g, 0, none⟩ = some a ∧ w1.cell? ⟨g, 1, none⟩ = some b ∧ Below W.heap.size W w1 :=
  ⟨cell_up hb1 hX.1, cell_up hb1 hX.2.1, hX.2.2.trans (hb1.mono hX.2.2.size)⟩
open Go in
/-- Half a number, its lower half. -/
def halfL (h l : Int) : Int := bits .or .u64 (IntKind.wrap .u64 (IntKind.wrap .u64 h * 9223372036854775808)) (l / 2)
set_option maxRecDepth 1000000 in
theorem half_w (W : World) (h l : Int) : Calls Tryz.prog 73 #[wd h l] W fun e w' => e = .returned (wd (h / 2) (halfL h l)) ∧ Below W.heap.size W w' := by
  unfold halfL
  go_enter Tryz.func73, Tryz.ntmps73
  go_wp2_with fail
  refine bodyPost_ret (results_cell_row rfl _ _ (W.heap.size + 1) 45 _ _ _ rfl (heap_alloc2_new _ _ _) Tryz.underlying45 rfl rfl) rfl ?_
  exact ⟨rfl, ((Below.refl W.heap.size W).alloc (Nat.le_refl _) _).alloc (by rw [alloc_size]; omega) _⟩
/-- A wide number as one of 64 bits, clipped. -/
def clipV (h l : Int) : Int := if (h == wrap64 l / 9223372036854775808) = true ∧ (l == wrap64 l % 18446744073709551616) = true then wrap64 l else if h < 0 then -9223372036854775808 else 9223372036854775807
set_option maxRecDepth 1000000 in
theorem clip_w (W : World) (h l : Int) : Calls Tryz.prog 47 #[wd h l] W fun e w' => e = .returned (.int .i64 (clipV h l)) ∧ Below W.heap.size W w' := by
  unfold clipV
  generalize hn : wrap64 l = n
  cases e1 : (h == n / 9223372036854775808) with
  | true =>
    cases e2 : (l == n % 18446744073709551616) with
    | true =>
      rw [if_pos ⟨rfl, rfl⟩]
      go_enter Tryz.func47, Tryz.ntmps47
      go_wp2_with fail
      obtain ⟨a1', a0'⟩ := two_cells W (.int .i64 h) (.int .u64 l) 45
      have hb1 := (Below.refl W.heap.size W).alloc (Nat.le_refl _) (.cells #[.int .i64 h, .int .u64 l] 45)
      generalize W.alloc (.cells #[.int .i64 h, .int .u64 l] 45) = w0 at *
      have hS := And.intro a1' (And.intro a0' hb1)
      clear a1' a0' hb1
      go_region_held3 (fun w' => w'.cell? ⟨W.heap.size, 0, none⟩ = some (.int .i64 h) ∧ w'.cell? ⟨W.heap.size, 1, none⟩ = some (.int .u64 l) ∧ Below W.heap.size W w')
        (first
          | assumption
          | exact s2_up ‹_ ∧ _ ∧ Below W.heap.size W _› (by assumption)
          | exact s2_up ‹_ ∧ _ ∧ Below W.heap.size W _› ((Below.refl _ _).drew))
        (first
          | (go_at_call 49; refine (of_w _ _).mono ?_; rintro e w1 ⟨rfl, hb1⟩))
      all_goals go_wp2_with fail
      all_goals (go_ret; exact ⟨by rfl, (‹_ ∧ _ ∧ Below W.heap.size W _›).2.2⟩)
    | false =>
      rw [if_neg (by simp)]
      by_cases h0 : h < 0
      · rw [if_pos h0]
        have d0 : decide (h < 0) = true := by simpa using h0
        go_enter Tryz.func47, Tryz.ntmps47
        go_wp2_with fail
        obtain ⟨a1', a0'⟩ := two_cells W (.int .i64 h) (.int .u64 l) 45
        have hb1 := (Below.refl W.heap.size W).alloc (Nat.le_refl _) (.cells #[.int .i64 h, .int .u64 l] 45)
        generalize W.alloc (.cells #[.int .i64 h, .int .u64 l] 45) = w0 at *
        have hS := And.intro a1' (And.intro a0' hb1)
        clear a1' a0' hb1
        go_region_held3 (fun w' => w'.cell? ⟨W.heap.size, 0, none⟩ = some (.int .i64 h) ∧ w'.cell? ⟨W.heap.size, 1, none⟩ = some (.int .u64 l) ∧ Below W.heap.size W w')
          (first
            | assumption
            | exact s2_up ‹_ ∧ _ ∧ Below W.heap.size W _› (by assumption)
            | exact s2_up ‹_ ∧ _ ∧ Below W.heap.size W _› ((Below.refl _ _).drew))
          (first
            | (go_at_call 49; refine (of_w _ _).mono ?_; rintro e w1 ⟨rfl, hb1⟩))
        all_goals go_wp2_with fail
        all_goals (go_ret; exact ⟨by rfl, (‹_ ∧ _ ∧ Below W.heap.size W _›).2.2⟩)
      · rw [if_neg h0]
        have d0 : decide (h < 0) = false := by simpa using h0
        go_enter Tryz.func47, Tryz.ntmps47
        go_wp2_with fail
        obtain ⟨a1', a0'⟩ := two_cells W (.int .i64 h) (.int .u64 l) 45
        have hb1 := (Below.refl W.heap.size W).alloc (Nat.le_refl _) (.cells #[.int .i64 h, .int .u64 l] 45)
        generalize W.alloc (.cells #[.int .i64 h, .int .u64 l] 45) = w0 at *
        have hS := And.intro a1' (And.intro a0' hb1)
        clear a1' a0' hb1
        go_region_held3 (fun w' => w'.cell? ⟨W.heap.size, 0, none⟩ = some (.int .i64 h) ∧ w'.cell? ⟨W.heap.size, 1, none⟩ = some (.int .u64 l) ∧ Below W.heap.size W w')
          (first
            | assumption
            | exact s2_up ‹_ ∧ _ ∧ Below W.heap.size W _› (by assumption)
            | exact s2_up ‹_ ∧ _ ∧ Below W.heap.size W _› ((Below.refl _ _).drew))
          (first
            | (go_at_call 49; refine (of_w _ _).mono ?_; rintro e w1 ⟨rfl, hb1⟩))
        all_goals go_wp2_with fail
        all_goals (go_ret; exact ⟨by rfl, (‹_ ∧ _ ∧ Below W.heap.size W _›).2.2⟩)
  | false =>
    rw [if_neg (by simp)]
    by_cases h0 : h < 0
    · rw [if_pos h0]
      have d0 : decide (h < 0) = true := by simpa using h0
      go_enter Tryz.func47, Tryz.ntmps47
      go_wp2_with fail
      obtain ⟨a1', a0'⟩ := two_cells W (.int .i64 h) (.int .u64 l) 45
      have hb1 := (Below.refl W.heap.size W).alloc (Nat.le_refl _) (.cells #[.int .i64 h, .int .u64 l] 45)
      generalize W.alloc (.cells #[.int .i64 h, .int .u64 l] 45) = w0 at *
      have hS := And.intro a1' (And.intro a0' hb1)
      clear a1' a0' hb1
      go_region_held3 (fun w' => w'.cell? ⟨W.heap.size, 0, none⟩ = some (.int .i64 h) ∧ w'.cell? ⟨W.heap.size, 1, none⟩ = some (.int .u64 l) ∧ Below W.heap.size W w')
        (first
          | assumption
          | exact s2_up ‹_ ∧ _ ∧ Below W.heap.size W _› (by assumption)
          | exact s2_up ‹_ ∧ _ ∧ Below W.heap.size W _› ((Below.refl _ _).drew))
        (first
          | (go_at_call 49; refine (of_w _ _).mono ?_; rintro e w1 ⟨rfl, hb1⟩))
      all_goals go_wp2_with fail
      all_goals (go_ret; exact ⟨by rfl, (‹_ ∧ _ ∧ Below W.heap.size W _›).2.2⟩)
    · rw [if_neg h0]
      have d0 : decide (h < 0) = false := by simpa using h0
      go_enter Tryz.func47, Tryz.ntmps47
      go_wp2_with fail
      obtain ⟨a1', a0'⟩ := two_cells W (.int .i64 h) (.int .u64 l) 45
      have hb1 := (Below.refl W.heap.size W).alloc (Nat.le_refl _) (.cells #[.int .i64 h, .int .u64 l] 45)
      generalize W.alloc (.cells #[.int .i64 h, .int .u64 l] 45) = w0 at *
      have hS := And.intro a1' (And.intro a0' hb1)
      clear a1' a0' hb1
      go_region_held3 (fun w' => w'.cell? ⟨W.heap.size, 0, none⟩ = some (.int .i64 h) ∧ w'.cell? ⟨W.heap.size, 1, none⟩ = some (.int .u64 l) ∧ Below W.heap.size W w')
        (first
          | assumption
          | exact s2_up ‹_ ∧ _ ∧ Below W.heap.size W _› (by assumption)
          | exact s2_up ‹_ ∧ _ ∧ Below W.heap.size W _› ((Below.refl _ _).drew))
        (first
          | (go_at_call 49; refine (of_w _ _).mono ?_; rintro e w1 ⟨rfl, hb1⟩))
      all_goals go_wp2_with fail
      all_goals (go_ret; exact ⟨by rfl, (‹_ ∧ _ ∧ Below W.heap.size W _›).2.2⟩)
end Go.Proofs.YtmnoegfehgoalaaGreatDoor.cx
namespace Go.Proofs.YtmnoegfehgoalaaGreatDoor.cx
open Go.RowKit Go.Extern.Stop Go.Stop Go.Extern
set_option linter.unusedVariables false
set_option maxRecDepth 1000000 in
theorem least_w (W : World) : Calls Tryz.prog 101 #[] W fun e w' => e = .returned (wd (-9223372036854775808) 0) ∧ Below W.heap.size W w' := by
  go_enter Tryz.func101, Tryz.ntmps101
  go_wp2_with fail
  refine bodyPost_ret (results_cell_row rfl _ _ W.heap.size 45 _ _ _ rfl (heap_alloc_new _ _) Tryz.underlying45 rfl rfl) rfl ?_
  exact ⟨rfl, (Below.refl _ _).alloc (Nat.le_refl _) _⟩
set_option maxRecDepth 1000000 in
theorem most_w (W : World) : Calls Tryz.prog 102 #[] W fun e w' => e = .returned (wd 9223372036854775807 18446744073709551615) ∧ Below W.heap.size W w' := by
  go_enter Tryz.func102, Tryz.ntmps102
  go_wp2_with fail
  refine bodyPost_ret (results_cell_row rfl _ _ W.heap.size 45 _ _ _ rfl (heap_alloc_new _ _) Tryz.underlying45 rfl rfl) rfl ?_
  exact ⟨rfl, (Below.refl _ _).alloc (Nat.le_refl _) _⟩
theorem cell_of {w : World} {g i : Nat} {cs : Array Value} {t : TypeId} {fr : Nat × Nat} {v : Value} (hg : w.heap[g]? = some (.cells cs t fr)) (hv : cs[i]? = some v) : w.cell? ⟨g, i, none⟩ = some v := by
  unfold World.cell?; simp only [hg]; exact hv
theorem new_kept {W w1 : World} {o : Obj} (hb : Below (W.alloc o).heap.size (W.alloc o) w1) : w1.heap[W.heap.size]? = some o :=
  (hb.block W.heap.size (by rw [alloc_size]; omega)).trans (heap_alloc_new _ _)
theorem below_cell {W w : World} {n g i : Nat} {v : Value} (hb : Below n W w) (hg : n ≤ g) : Below n W (w.setCell ⟨g, i, none⟩ v) :=
  ⟨hb.os, hb.tape, hb.output, by have := hb.size; simp only [World.setCell, Array.size_modify]; exact this, fun k hk => (heap_setCell_other w _ k v (by show k ≠ g; omega)).trans (hb.block k hk)⟩
theorem below_set2 {W w1 : World} {o : Obj} {u v : Value} (hb : Below (W.alloc o).heap.size (W.alloc o) w1) : Below W.heap.size W ((w1.setCell ⟨W.heap.size, 0, none⟩ u).setCell ⟨W.heap.size, 1, none⟩ v) := by
  have h1 := (Below.refl W.heap.size W).alloc (Nat.le_refl _) o
  exact below_cell (below_cell (h1.trans (hb.mono h1.size)) (Nat.le_refl _)) (Nat.le_refl _)
def endV : Bool → Value
  | true => wd (-9223372036854775808) 0
  | false => wd 9223372036854775807 18446744073709551615
set_option maxRecDepth 1000000 in
theorem end_w (W : World) (b : Bool) : Calls Tryz.prog 76 #[.bool b] W fun e w' => e = .returned (endV b) ∧ Below W.heap.size W w' := by
  cases b with
  | true =>
    go_enter Tryz.func76, Tryz.ntmps76
    go_wp2_with (go_at_call 101; refine (least_w _).mono ?_; rintro e w1 ⟨rfl, hb1⟩; have hg := new_kept hb1; have c0 := cell_of (i := 0) hg rfl; have c1 := cell_of (i := 1) hg rfl; have f0 := frozen_of_row _ _ 0 _ _ hg; have f1 := frozen_of_row _ _ 1 _ _ hg)
    refine bodyPost_ret (results_cell_row rfl _ _ W.heap.size 45 _ _ _ rfl (heap_setCell_same _ _ 1 _ _ _ (heap_setCell_same _ _ 0 _ _ _ hg)) Tryz.underlying45 rfl rfl) rfl ?_
    exact ⟨rfl, below_set2 hb1⟩
  | false =>
    go_enter Tryz.func76, Tryz.ntmps76
    go_wp2_with (go_at_call 102; refine (most_w _).mono ?_; rintro e w1 ⟨rfl, hb1⟩; have hg := new_kept hb1; have c0 := cell_of (i := 0) hg rfl; have c1 := cell_of (i := 1) hg rfl; have f0 := frozen_of_row _ _ 0 _ _ hg; have f1 := frozen_of_row _ _ 1 _ _ hg)
    refine bodyPost_ret (results_cell_row rfl _ _ W.heap.size 45 _ _ _ rfl (heap_setCell_same _ _ 1 _ _ _ (heap_setCell_same _ _ 0 _ _ _ hg)) Tryz.underlying45 rfl rfl) rfl ?_
    exact ⟨rfl, below_set2 hb1⟩
theorem end_is (b : Bool) : ∃ x y, endV b = wd x y := by cases b <;> exact ⟨_, _, rfl⟩
theorem below_two (W : World) (A B C : Obj) : Below W.heap.size W (((W.alloc A).alloc B).alloc C) :=
  (((Below.refl W.heap.size W).alloc (Nat.le_refl _) A).alloc (by rw [alloc_size]; omega) B).alloc (by rw [alloc_size, alloc_size]; omega) C
theorem new_third (W : World) (A B C : Obj) : (((W.alloc A).alloc B).alloc C).heap[W.heap.size + 1 + 1]? = some C := by
  have := heap_alloc_new ((W.alloc A).alloc B) C
  rwa [alloc_size, alloc_size] at this
theorem below_set2' {W w0 w1 : World} {u v : Value} (h0 : Below W.heap.size W w0) (hb : Below w0.heap.size w0 w1) : Below W.heap.size W ((w1.setCell ⟨W.heap.size + 1 + 1, 0, none⟩ u).setCell ⟨W.heap.size + 1 + 1, 1, none⟩ v) :=
  below_cell (below_cell (h0.trans (hb.mono h0.size)) (by omega)) (by omega)
open Go in
/-- A sum, by halves. -/
def addV (a1 a0 b1 b0 : Int) : Value :=
  if bits .and .i64 (bits .xor .i64 a1 (wrap64 ((IntKind.wrap .u64 a1 + IntKind.wrap .u64 b1 + (a0 + b0) / 18446744073709551616) % 18446744073709551616))) (bits .xor .i64 b1 (wrap64 ((IntKind.wrap .u64 a1 + IntKind.wrap .u64 b1 + (a0 + b0) / 18446744073709551616) % 18446744073709551616))) < 0 then endV (decide (a1 < 0))
  else wd (wrap64 ((IntKind.wrap .u64 a1 + IntKind.wrap .u64 b1 + (a0 + b0) / 18446744073709551616) % 18446744073709551616)) ((a0 + b0) % 18446744073709551616)
set_option maxHeartbeats 1000000 in
set_option maxRecDepth 1000000 in
theorem add_w (W : World) (a1 a0 b1 b0 : Int) (h1 : 0 ≤ a0 ∧ a0 < 18446744073709551616) (h2 : 0 ≤ b0 ∧ b0 < 18446744073709551616) : Calls Tryz.prog 59 #[wd a1 a0, wd b1 b0] W fun e w' => e = .returned (addV a1 a0 b1 b0) ∧ Below W.heap.size W w' := by
  have hA := fun w => add64 a0 b0 0 h1.1 h2.1 (by decide) (by decide) w
  rw [Int.add_zero] at hA
  unfold addV
  have hc := And.intro (show 0 ≤ (a0 + b0) / 18446744073709551616 by omega) (show (a0 + b0) / 18446744073709551616 ≤ 1 by omega)
  generalize (a0 + b0) / 18446744073709551616 = c at hA hc ⊢
  generalize (a0 + b0) % 18446744073709551616 = lo at hA ⊢
  have hA2 := fun w => add64 (IntKind.wrap .u64 a1) (IntKind.wrap .u64 b1) c (by rw [w_u64]; omega) (by rw [w_u64]; omega) hc.1 hc.2 w
  generalize (IntKind.wrap .u64 a1 + IntKind.wrap .u64 b1 + c) % 18446744073709551616 = hu at hA2 ⊢
  generalize (IntKind.wrap .u64 a1 + IntKind.wrap .u64 b1 + c) / 18446744073709551616 = cu at hA2
  by_cases ho : bits .and .i64 (bits .xor .i64 a1 (wrap64 hu)) (bits .xor .i64 b1 (wrap64 hu)) < 0
  · rw [if_pos ho]
    have d0 := decide_eq_true ho
    obtain ⟨x, y, hE⟩ := end_is (decide (a1 < 0))
    rw [hE]
    go_enter Tryz.func59, Tryz.ntmps59
    go_wp2_with (go_at_call 76; refine (end_w _ _).mono ?_; rintro e w1 ⟨he, hb1⟩; rw [hE] at he; subst he; have hg := new_kept hb1; rw [alloc_size, alloc_size] at hg; have c0 := cell_of (i := 0) hg rfl; have c1 := cell_of (i := 1) hg rfl; have f0 := frozen_of_row _ _ 0 _ _ hg; have f1 := frozen_of_row _ _ 1 _ _ hg)
    refine bodyPost_ret (results_cell_row rfl _ _ (W.heap.size + 1 + 1) 45 _ _ _ rfl (heap_setCell_same _ _ 1 _ _ _ (heap_setCell_same _ _ 0 _ _ _ hg)) Tryz.underlying45 rfl rfl) rfl ?_
    exact ⟨rfl, below_set2' (below_two W _ _ _) hb1⟩
  · rw [if_neg ho]
    have d0 := decide_eq_false ho
    go_enter Tryz.func59, Tryz.ntmps59
    go_wp2_with fail
    refine bodyPost_ret (results_cell_row rfl _ _ (W.heap.size + 1 + 1) 45 _ _ _ rfl (new_third _ _ _ _) Tryz.underlying45 rfl rfl) rfl ?_
    exact ⟨rfl, below_two W _ _ _⟩
theorem sub64 (x y c : Int) (hx : 0 ≤ x) (hy : 0 ≤ y) (hy2 : y < 18446744073709551616) (hc0 : 0 ≤ c) (hc : c ≤ 1) (w : World) : (callFunc 75 #[.int .u64 x, .int .u64 y, .int .u64 c]).run Tryz.prog w = .ok (.value (.tuple #[.int .u64 ((x - y - c) % 18446744073709551616), .int .u64 (if x < y + c then 1 else 0)])) w := by
  obtain ⟨X, rfl⟩ := Int.eq_ofNat_of_zero_le hx
  obtain ⟨Y, rfl⟩ := Int.eq_ofNat_of_zero_le hy
  obtain ⟨C, rfl⟩ := Int.eq_ofNat_of_zero_le hc0
  rw [run_callFunc_extern (fn := Tryz.f75) (by kernel_rfl) (by kernel_rfl) (by kernel_rfl) (by kernel_rfl) (e := sub64Entry) (by kernel_rfl), run_sub64 X Y C (by omega)]
  simp only [Result.andThen]
  have e1 : (((X + 18446744073709551616 - Y - C) % 18446744073709551616 : Nat) : Int) = ((X : Int) - Y - C) % 18446744073709551616 := by omega
  have e2 : ((if X < Y + C then 1 else 0 : Nat) : Int) = if (X : Int) < Y + C then 1 else 0 := by split <;> split <;> omega
  rw [e1, e2]
open Go in
/-- A difference, by halves. -/
def subV (a1 a0 b1 b0 : Int) : Value :=
  if bits .and .i64 (bits .xor .i64 a1 b1) (bits .xor .i64 a1 (wrap64 ((IntKind.wrap .u64 a1 - IntKind.wrap .u64 b1 - (if a0 < b0 then 1 else 0)) % 18446744073709551616))) < 0 then endV (decide (a1 < 0))
  else wd (wrap64 ((IntKind.wrap .u64 a1 - IntKind.wrap .u64 b1 - (if a0 < b0 then 1 else 0)) % 18446744073709551616)) ((a0 - b0) % 18446744073709551616)
set_option maxHeartbeats 1000000 in
set_option maxRecDepth 1000000 in
theorem sub_w (W : World) (a1 a0 b1 b0 : Int) (h1 : 0 ≤ a0 ∧ a0 < 18446744073709551616) (h2 : 0 ≤ b0 ∧ b0 < 18446744073709551616) : Calls Tryz.prog 48 #[wd a1 a0, wd b1 b0] W fun e w' => e = .returned (subV a1 a0 b1 b0) ∧ Below W.heap.size W w' := by
  have hA := fun w => sub64 a0 b0 0 h1.1 h2.1 h2.2 (by decide) (by decide) w
  rw [Int.sub_zero, Int.add_zero] at hA
  unfold subV
  have hc : 0 ≤ (if a0 < b0 then (1 : Int) else 0) ∧ (if a0 < b0 then (1 : Int) else 0) ≤ 1 := by split <;> decide
  generalize (if a0 < b0 then (1 : Int) else 0) = c at hA hc ⊢
  generalize (a0 - b0) % 18446744073709551616 = lo at hA ⊢
  have hA2 := fun w => sub64 (IntKind.wrap .u64 a1) (IntKind.wrap .u64 b1) c (by rw [w_u64]; omega) (by rw [w_u64]; omega) (by rw [w_u64]; omega) hc.1 hc.2 w
  generalize (IntKind.wrap .u64 a1 - IntKind.wrap .u64 b1 - c) % 18446744073709551616 = hu at hA2 ⊢
  generalize (if IntKind.wrap .u64 a1 < IntKind.wrap .u64 b1 + c then (1 : Int) else 0) = cu at hA2
  by_cases ho : bits .and .i64 (bits .xor .i64 a1 b1) (bits .xor .i64 a1 (wrap64 hu)) < 0
  · rw [if_pos ho]
    have d0 := decide_eq_true ho
    obtain ⟨x, y, hE⟩ := end_is (decide (a1 < 0))
    rw [hE]
    go_enter Tryz.func48, Tryz.ntmps48
    go_wp2_with (go_at_call 76; refine (end_w _ _).mono ?_; rintro e w1 ⟨he, hb1⟩; rw [hE] at he; subst he; have hg := new_kept hb1; rw [alloc_size, alloc_size] at hg; have c0 := cell_of (i := 0) hg rfl; have c1 := cell_of (i := 1) hg rfl; have f0 := frozen_of_row _ _ 0 _ _ hg; have f1 := frozen_of_row _ _ 1 _ _ hg)
    refine bodyPost_ret (results_cell_row rfl _ _ (W.heap.size + 1 + 1) 45 _ _ _ rfl (heap_setCell_same _ _ 1 _ _ _ (heap_setCell_same _ _ 0 _ _ _ hg)) Tryz.underlying45 rfl rfl) rfl ?_
    exact ⟨rfl, below_set2' (below_two W _ _ _) hb1⟩
  · rw [if_neg ho]
    have d0 := decide_eq_false ho
    go_enter Tryz.func48, Tryz.ntmps48
    go_wp2_with fail
    refine bodyPost_ret (results_cell_row rfl _ _ (W.heap.size + 1 + 1) 45 _ _ _ rfl (new_third _ _ _ _) Tryz.underlying45 rfl rfl) rfl ?_
    exact ⟨rfl, below_two W _ _ _⟩
end Go.Proofs.YtmnoegfehgoalaaGreatDoor.cx
namespace Go.Proofs.YtmnoegfehgoalaaGreatDoor.cx
open Go.RowKit Go.Extern.Stop Go.Stop Go.Extern
set_option linter.unusedVariables false
theorem ite_is {c : Prop} [Decidable c] {b : Bool} {p q : Int} (h : 0 ≤ q ∧ q < 18446744073709551616) : ∃ x y : Int, (if c then endV b else wd p q) = wd x y ∧ 0 ≤ y ∧ y < 18446744073709551616 := by
  by_cases hc : c
  · rw [if_pos hc]
    cases b
    · exact ⟨9223372036854775807, 18446744073709551615, rfl, by decide, by decide⟩
    · exact ⟨-9223372036854775808, 0, rfl, by decide, by decide⟩
  · rw [if_neg hc]
    exact ⟨p, q, rfl, h⟩
theorem sub_is (a1 a0 b1 b0 : Int) : ∃ x y, subV a1 a0 b1 b0 = wd x y ∧ 0 ≤ y ∧ y < 18446744073709551616 := ite_is (by omega)
theorem add_is (a1 a0 b1 b0 : Int) : ∃ x y, addV a1 a0 b1 b0 = wd x y ∧ 0 ≤ y ∧ y < 18446744073709551616 := ite_is (by omega)
theorem heap3 {W w1 : World} {A B C : Obj} (hb : Below (((W.alloc A).alloc B).alloc C).heap.size (((W.alloc A).alloc B).alloc C) w1) : w1.heap[W.heap.size]? = some A ∧ w1.heap[W.heap.size + 1]? = some B ∧ w1.heap[W.heap.size + 1 + 1]? = some C ∧ Below W.heap.size W w1 := by
  have e : (((W.alloc A).alloc B).alloc C).heap.size = W.heap.size + 1 + 1 + 1 := by rw [alloc_size, alloc_size, alloc_size]
  have b1 := hb.block W.heap.size (by omega)
  have b2 := hb.block (W.heap.size + 1) (by omega)
  have b3 := hb.block (W.heap.size + 1 + 1) (by omega)
  have h0 := below_two W A B C
  refine ⟨b1.trans ?_, b2.trans ?_, b3.trans (new_third W A B C), h0.trans (hb.mono h0.size)⟩
  · rw [heap_alloc_old _ _ (by rw [alloc_size, alloc_size]; omega), heap_alloc_old _ _ (by rw [alloc_size]; omega)]
    exact heap_alloc_new _ _
  · rw [heap_alloc_old _ _ (by rw [alloc_size, alloc_size]; omega)]
    have := heap_alloc_new (W.alloc A) B
    rwa [alloc_size] at this
theorem lt_of_heap {w : World} {g : Nat} {o : Obj} (h : w.heap[g]? = some o) : g < w.heap.size := by
  rcases Nat.lt_or_ge g w.heap.size with h1 | h1
  · exact h1
  · rw [Array.getElem?_eq_none h1] at h; cases h
theorem size_cell (w : World) (a : Addr) (v : Value) : (w.setCell a v).heap.size = w.heap.size := by simp only [World.setCell, Array.size_modify]
theorem swap_kept {w1 w2 : World} {A B C : Nat} {o : Obj} {v0 v1 v2 v3 : Value} (hk : w1.heap[C]? = some o) (hA : C ≠ A) (hB : C ≠ B) (hb : Below ((((w1.setCell ⟨A, 0, none⟩ v0).setCell ⟨A, 1, none⟩ v1).setCell ⟨B, 0, none⟩ v2).setCell ⟨B, 1, none⟩ v3).heap.size ((((w1.setCell ⟨A, 0, none⟩ v0).setCell ⟨A, 1, none⟩ v1).setCell ⟨B, 0, none⟩ v2).setCell ⟨B, 1, none⟩ v3) w2) : w2.heap[C]? = some o := by
  rw [hb.block C (by rw [size_cell, size_cell, size_cell, size_cell]; exact lt_of_heap hk), heap_setCell_other _ _ _ _ (by exact hB), heap_setCell_other _ _ _ _ (by exact hB), heap_setCell_other _ _ _ _ (by exact hA), heap_setCell_other _ _ _ _ (by exact hA)]
  exact hk
theorem swap_below {W w1 w2 : World} {A B : Nat} {v0 v1 v2 v3 : Value} (h : Below W.heap.size W w1) (hA : W.heap.size ≤ A) (hB : W.heap.size ≤ B) (hb : Below ((((w1.setCell ⟨A, 0, none⟩ v0).setCell ⟨A, 1, none⟩ v1).setCell ⟨B, 0, none⟩ v2).setCell ⟨B, 1, none⟩ v3).heap.size ((((w1.setCell ⟨A, 0, none⟩ v0).setCell ⟨A, 1, none⟩ v1).setCell ⟨B, 0, none⟩ v2).setCell ⟨B, 1, none⟩ v3) w2) : Below W.heap.size W w2 := by
  have h4 : Below W.heap.size W ((((w1.setCell ⟨A, 0, none⟩ v0).setCell ⟨A, 1, none⟩ v1).setCell ⟨B, 0, none⟩ v2).setCell ⟨B, 1, none⟩ v3) := below_cell (below_cell (below_cell (below_cell h hA) hA) hB) hB
  exact h4.trans (hb.mono h4.size)
def gapV (a1 a0 b1 b0 : Int) : Value := if ov (cv a1 b1) (cv a0 b0) < 0 then subV b1 b0 a1 a0 else subV a1 a0 b1 b0
set_option maxHeartbeats 1000000 in
set_option maxRecDepth 1000000 in
theorem gap_w (W : World) (a1 a0 b1 b0 : Int) (h1 : 0 ≤ a0 ∧ a0 < 18446744073709551616) (h2 : 0 ≤ b0 ∧ b0 < 18446744073709551616) : Calls Tryz.prog 71 #[wd a1 a0, wd b1 b0] W fun e w' => e = .returned (gapV a1 a0 b1 b0) ∧ Below W.heap.size W w' := by
  unfold gapV
  by_cases ho : ov (cv a1 b1) (cv a0 b0) < 0
  · rw [if_pos ho]
    have d0 := decide_eq_true ho
    obtain ⟨x, y, hE, _⟩ := sub_is b1 b0 a1 a0
    rw [hE]
    have HR := Lib.hid (And.intro h1 h2)
    clear h1 h2
    go_enter Tryz.func71, Tryz.ntmps71
    go_wp2_with (first
      | (go_at_call 72; refine (wcmp _ _ _ _ _).mono ?_; rintro e w1 ⟨rfl, hb1⟩
         obtain ⟨g0, g1, g2, hb⟩ := heap3 hb1
         clear hb1
         have c00 := cell_of (i := 0) g0 rfl; have c01 := cell_of (i := 1) g0 rfl
         have c10 := cell_of (i := 0) g1 rfl; have c11 := cell_of (i := 1) g1 rfl
         have f00 := frozen_of_row _ _ 0 _ _ g0; have f01 := frozen_of_row _ _ 1 _ _ g0
         have f10 := frozen_of_row _ _ 0 _ _ g1; have f11 := frozen_of_row _ _ 1 _ _ g1)
      | (go_at_call 48; refine (sub_w _ _ _ _ _ HR.out.2 HR.out.1).mono ?_; rintro e w2 ⟨he, hb2⟩; rw [hE] at he; subst he
         have hg := swap_kept g2 (by omega) (by omega) hb2
         have hbb := swap_below hb (by omega) (by omega) hb2
         have c0 := cell_of (i := 0) hg rfl; have c1 := cell_of (i := 1) hg rfl
         have f0 := frozen_of_row _ _ 0 _ _ hg; have f1 := frozen_of_row _ _ 1 _ _ hg))
    refine bodyPost_ret (results_cell_row rfl _ _ (W.heap.size + 1 + 1) 45 _ _ _ rfl (heap_setCell_same _ _ 1 _ _ _ (heap_setCell_same _ _ 0 _ _ _ hg)) Tryz.underlying45 rfl rfl) rfl ?_
    exact ⟨rfl, below_cell (below_cell hbb (by omega)) (by omega)⟩
  · rw [if_neg ho]
    have d0 := decide_eq_false ho
    obtain ⟨x, y, hE, _⟩ := sub_is a1 a0 b1 b0
    rw [hE]
    have HR := Lib.hid (And.intro h1 h2)
    clear h1 h2
    go_enter Tryz.func71, Tryz.ntmps71
    go_wp2_with (first
      | (go_at_call 72; refine (wcmp _ _ _ _ _).mono ?_; rintro e w1 ⟨rfl, hb1⟩
         obtain ⟨g0, g1, g2, hb⟩ := heap3 hb1
         clear hb1
         have c00 := cell_of (i := 0) g0 rfl; have c01 := cell_of (i := 1) g0 rfl
         have c10 := cell_of (i := 0) g1 rfl; have c11 := cell_of (i := 1) g1 rfl)
      | (go_at_call 48; refine (sub_w _ _ _ _ _ HR.out.1 HR.out.2).mono ?_; rintro e w2 ⟨he, hb2⟩; rw [hE] at he; subst he
         have hg := (hb2.block (W.heap.size + 1 + 1) (lt_of_heap g2)).trans g2
         have c0 := cell_of (i := 0) hg rfl; have c1 := cell_of (i := 1) hg rfl
         have f0 := frozen_of_row _ _ 0 _ _ hg; have f1 := frozen_of_row _ _ 1 _ _ hg))
    refine bodyPost_ret (results_cell_row rfl _ _ (W.heap.size + 1 + 1) 45 _ _ _ rfl (heap_setCell_same _ _ 1 _ _ _ (heap_setCell_same _ _ 0 _ _ _ hg)) Tryz.underlying45 rfl rfl) rfl ?_
    exact ⟨rfl, below_set2' hb hb2⟩
end Go.Proofs.YtmnoegfehgoalaaGreatDoor.cx
namespace Go.Proofs.YtmnoegfehgoalaaGreatDoor.cx
open Go.RowKit Go.Extern.Stop Go.Stop Go.Extern
set_option linter.unusedVariables false
set_option maxRecDepth 1000000 in
theorem fold_w (W : World) (h l : Int) : Calls Tryz.prog 46 #[wd h l] W fun e w' => e = .returned (.int .u64 l) ∧ Below W.heap.size W w' := by
  go_enter Tryz.func46, Tryz.ntmps46
  go_wp2_with fail
  go_ret
  exact ⟨rfl, (Below.refl _ _).alloc (Nat.le_refl _) _⟩
/-- The way from a stamp to another one. -/
def wayV (l t : Int) : Int := wrap64 (IntKind.wrap .u64 (t - l))
set_option maxRecDepth 1000000 in
theorem way_w (W : World) (h l t : Int) : Calls Tryz.prog 27 #[wd h l, .int .u64 t] W fun e w' => e = .returned (.int .i64 (wayV l t)) ∧ Below W.heap.size W w' := by
  unfold wayV
  go_enter Tryz.func27, Tryz.ntmps27
  go_wp2_with (go_at_call 46; refine (fold_w _ _ _).mono ?_; rintro e w1 ⟨rfl, hb1⟩)
  go_ret
  have h1 := (Below.refl W.heap.size W).alloc (Nat.le_refl _) (.cells #[.int .i64 h, .int .u64 l] 45)
  exact ⟨rfl, h1.trans (hb1.mono h1.size)⟩
/-- A wide number's halves. -/
def hiV : Value → Int
  | .agg ⟨[.int _ n, _]⟩ => n
  | _ => 0
def loV : Value → Int
  | .agg ⟨[_, .int _ n]⟩ => n
  | _ => 0
/-- A number less another one, clipped. -/
def lessV (a b : Int) : Int := clipV (hiV (subV (a / 9223372036854775808) (a % 18446744073709551616) (b / 9223372036854775808) (b % 18446744073709551616))) (loV (subV (a / 9223372036854775808) (a % 18446744073709551616) (b / 9223372036854775808) (b % 18446744073709551616)))
set_option maxRecDepth 1000000 in
theorem less_w (W : World) (a b : Int) : Calls Tryz.prog 28 #[.int .i64 a, .int .i64 b] W fun e w' => e = .returned (.int .i64 (lessV a b)) ∧ Below W.heap.size W w' := by
  obtain ⟨x, y, hE, _⟩ := sub_is (a / 9223372036854775808) (a % 18446744073709551616) (b / 9223372036854775808) (b % 18446744073709551616)
  have hL : lessV a b = clipV x y := by unfold lessV; rw [hE]; rfl
  rw [hL]
  have hb := Below.refl W.heap.size W
  have ha := And.intro (show 0 ≤ a % 18446744073709551616 by omega) (show a % 18446744073709551616 < 18446744073709551616 by omega)
  have hbb := And.intro (show 0 ≤ b % 18446744073709551616 by omega) (show b % 18446744073709551616 < 18446744073709551616 by omega)
  go_enter Tryz.func28, Tryz.ntmps28
  go_wp2_with (first
    | (go_at_call 49; refine (of_w _ _).mono ?_; rintro e w1 ⟨rfl, hb'⟩; have hb := hb.trans (hb'.mono hb.size); clear hb')
    | (go_at_call 48; refine (sub_w _ _ _ _ _ ha hbb).mono ?_; rintro e w1 ⟨he, hb'⟩; rw [hE] at he; subst he; have hb := hb.trans (hb'.mono hb.size); clear hb')
    | (go_at_call 47; refine (clip_w _ _ _).mono ?_; rintro e w1 ⟨rfl, hb'⟩; have hb := hb.trans (hb'.mono hb.size); clear hb'))
  go_ret
  exact ⟨rfl, hb⟩
end Go.Proofs.YtmnoegfehgoalaaGreatDoor.cx
namespace Go.Proofs.YtmnoegfehgoalaaGreatDoor.cx
open Go.RowKit Go.Extern.Stop Go.Stop Go.Extern
set_option linter.unusedVariables false
theorem s8_up {W w w1 : World} {g0 g1 g2 g3 : Nat} {p1 p0 q1 q0 r1 r0 s1 s0 : Value} (hX : w.cell? ⟨g0, 0, none⟩ = some p1 ∧ w.cell? ⟨g0, 1, none⟩ = some p0 ∧ w.cell? ⟨g1, 0, none⟩ = some q1 ∧ w.cell? ⟨g1, 1, none⟩ = some q0 ∧ w.cell? ⟨g2, 0, none⟩ = some r1 ∧ w.cell? ⟨g2, 1, none⟩ = some r0 ∧ w.cell? ⟨g3, 0, none⟩ = some s1 ∧ w.cell? ⟨g3, 1, none⟩ = some s0 ∧ Below W.heap.size W w) (hb1 : Below w.heap.size w w1) : w1.cell? ⟨g0, 0, none⟩ = some p1 ∧ w1.cell? ⟨g0, 1, none⟩ = some p0 ∧ w1.cell? ⟨g1, 0, none⟩ = some q1 ∧ w1.cell? ⟨g1, 1, none⟩ = some q0 ∧ w1.cell? ⟨g2, 0, none⟩ = some r1 ∧ w1.cell? ⟨g2, 1, none⟩ = some r0 ∧ w1.cell? ⟨g3, 0, none⟩ = some s1 ∧ w1.cell? ⟨g3, 1, none⟩ = some s0 ∧ Below W.heap.size W w1 :=
  ⟨cell_up hb1 hX.1, cell_up hb1 hX.2.1, cell_up hb1 hX.2.2.1, cell_up hb1 hX.2.2.2.1, cell_up hb1 hX.2.2.2.2.1, cell_up hb1 hX.2.2.2.2.2.1, cell_up hb1 hX.2.2.2.2.2.2.1, cell_up hb1 hX.2.2.2.2.2.2.2.1, hX.2.2.2.2.2.2.2.2.trans (hb1.mono hX.2.2.2.2.2.2.2.2.size)⟩
/-- Four wide numbers in four new variables. -/
theorem box4 (W : World) (p1 p0 q1 q0 r1 r0 s1 s0 : Value) (t : TypeId) : ∃ w0, ((((W.alloc (.cells #[p1, p0] t)).alloc (.cells #[q1, q0] t)).alloc (.cells #[r1, r0] t)).alloc (.cells #[s1, s0] t)) = w0 ∧ (w0.cell? ⟨W.heap.size, 0, none⟩ = some p1 ∧ w0.cell? ⟨W.heap.size, 1, none⟩ = some p0 ∧ w0.cell? ⟨W.heap.size + 1, 0, none⟩ = some q1 ∧ w0.cell? ⟨W.heap.size + 1, 1, none⟩ = some q0 ∧ w0.cell? ⟨W.heap.size + 1 + 1, 0, none⟩ = some r1 ∧ w0.cell? ⟨W.heap.size + 1 + 1, 1, none⟩ = some r0 ∧ w0.cell? ⟨W.heap.size + 1 + 1 + 1, 0, none⟩ = some s1 ∧ w0.cell? ⟨W.heap.size + 1 + 1 + 1, 1, none⟩ = some s0 ∧ Below W.heap.size W w0) := by
  refine ⟨_, rfl, ?_⟩
  have u := fun (w : World) (o : Obj) => (Below.refl w.heap.size w).alloc (Nat.le_refl _) o
  have e1 := alloc_size W (.cells #[p1, p0] t)
  have e2 := alloc_size (W.alloc (.cells #[p1, p0] t)) (.cells #[q1, q0] t)
  have e3 := alloc_size ((W.alloc (.cells #[p1, p0] t)).alloc (.cells #[q1, q0] t)) (.cells #[r1, r0] t)
  have a := two_cells W p1 p0 t
  have b := two_cells (W.alloc (.cells #[p1, p0] t)) q1 q0 t
  have c := two_cells ((W.alloc (.cells #[p1, p0] t)).alloc (.cells #[q1, q0] t)) r1 r0 t
  have d := two_cells (((W.alloc (.cells #[p1, p0] t)).alloc (.cells #[q1, q0] t)).alloc (.cells #[r1, r0] t)) s1 s0 t
  rw [e1] at b
  rw [e2, e1] at c
  rw [e3, e2, e1] at d
  refine ⟨cell_up (u _ _) (cell_up (u _ _) (cell_up (u _ _) a.1)), cell_up (u _ _) (cell_up (u _ _) (cell_up (u _ _) a.2)), cell_up (u _ _) (cell_up (u _ _) b.1), cell_up (u _ _) (cell_up (u _ _) b.2), cell_up (u _ _) c.1, cell_up (u _ _) c.2, d.1, d.2, ?_⟩
  have k := below_two W (.cells #[p1, p0] t) (.cells #[q1, q0] t) (.cells #[r1, r0] t)
  exact k.alloc k.size _
/-- What the program takes for an offset. -/
def offV (p1 p0 q1 q0 r1 r0 s1 s0 : Int) : Int :=
  let a := subV q1 q0 p1 p0
  let b := subV r1 r0 s1 s0
  let c := addV (hiV a) (loV a) (hiV b) (loV b)
  clipV (hiV c / 2) (halfL (hiV c) (loV c))
set_option maxHeartbeats 2000000 in
set_option maxRecDepth 1000000 in
theorem offset_w (W : World) (p1 p0 q1 q0 r1 r0 s1 s0 : Int) (hp : 0 ≤ p0 ∧ p0 < 18446744073709551616) (hq : 0 ≤ q0 ∧ q0 < 18446744073709551616) (hr : 0 ≤ r0 ∧ r0 < 18446744073709551616) (hs : 0 ≤ s0 ∧ s0 < 18446744073709551616) : Calls Tryz.prog 44 #[wd p1 p0, wd q1 q0, wd r1 r0, wd s1 s0] W fun e w' => e = .returned (.int .i64 (offV p1 p0 q1 q0 r1 r0 s1 s0)) ∧ Below W.heap.size W w' := by
  obtain ⟨x1, y1, hE1, k1⟩ := sub_is q1 q0 p1 p0
  obtain ⟨x2, y2, hE2, k2⟩ := sub_is r1 r0 s1 s0
  obtain ⟨x3, y3, hE3, k3⟩ := add_is x1 y1 x2 y2
  have hO : offV p1 p0 q1 q0 r1 r0 s1 s0 = clipV (x3 / 2) (halfL x3 y3) := by
    unfold offV
    rw [hE1, hE2]
    show clipV (hiV (addV x1 y1 x2 y2) / 2) (halfL (hiV (addV x1 y1 x2 y2)) (loV (addV x1 y1 x2 y2))) = _
    rw [hE3]
    rfl
  rw [hO]
  obtain ⟨w0, hw, hS⟩ := box4 W (.int .i64 p1) (.int .u64 p0) (.int .i64 q1) (.int .u64 q0) (.int .i64 r1) (.int .u64 r0) (.int .i64 s1) (.int .u64 s0) 45
  go_enter Tryz.func44, Tryz.ntmps44
  go_wp2_with fail
  try rw [hw]
  clear hw
  generalize W.heap.size + 1 + 1 + 1 = b3 at hS ⊢
  generalize W.heap.size + 1 + 1 = b2 at hS ⊢
  generalize W.heap.size + 1 = b1 at hS ⊢
  go_region_held3 (fun w' => w'.cell? ⟨W.heap.size, 0, none⟩ = some (.int .i64 p1) ∧ w'.cell? ⟨W.heap.size, 1, none⟩ = some (.int .u64 p0) ∧ w'.cell? ⟨b1, 0, none⟩ = some (.int .i64 q1) ∧ w'.cell? ⟨b1, 1, none⟩ = some (.int .u64 q0) ∧ w'.cell? ⟨b2, 0, none⟩ = some (.int .i64 r1) ∧ w'.cell? ⟨b2, 1, none⟩ = some (.int .u64 r0) ∧ w'.cell? ⟨b3, 0, none⟩ = some (.int .i64 s1) ∧ w'.cell? ⟨b3, 1, none⟩ = some (.int .u64 s0) ∧ Below W.heap.size W w')
    (first
      | assumption
      | exact s8_up ‹_ ∧ _ ∧ _ ∧ _ ∧ _ ∧ _ ∧ _ ∧ _ ∧ Below W.heap.size W _› (by assumption)
      | exact s8_up ‹_ ∧ _ ∧ _ ∧ _ ∧ _ ∧ _ ∧ _ ∧ _ ∧ Below W.heap.size W _› ((Below.refl _ _).drew))
    (first
      | (go_at_call 48; refine (sub_w _ _ _ _ _ (by assumption) (by assumption)).mono ?_; rintro e w1 ⟨he, hb1⟩; (first | rw [hE1] at he | rw [hE2] at he); subst he)
      | (go_at_call 59; refine (add_w _ _ _ _ _ k1 k2).mono ?_; rintro e w1 ⟨he, hb1⟩; rw [hE3] at he; subst he)
      | (go_at_call 73; refine (half_w _ _ _).mono ?_; rintro e w1 ⟨rfl, hb1⟩)
      | (go_at_call 47; refine (clip_w _ _ _).mono ?_; rintro e w1 ⟨rfl, hb1⟩))
  all_goals go_wp2_with fail
  all_goals (go_ret; exact ⟨rfl, (‹_ ∧ _ ∧ _ ∧ _ ∧ _ ∧ _ ∧ _ ∧ _ ∧ Below W.heap.size W _›.2.2.2.2.2.2.2.2)⟩)
end Go.Proofs.YtmnoegfehgoalaaGreatDoor.cx
namespace Go.Proofs.YtmnoegfehgoalaaGreatDoor.cx
open Go.RowKit Go.Extern.Stop Go.Stop Go.Extern
set_option linter.unusedVariables false
set_option maxHeartbeats 1000000 in
set_option maxRecDepth 1000000 in
theorem gone_w (W : World) (a1 a0 b1 b0 : Int) (h1 : 0 ≤ a0 ∧ a0 < 18446744073709551616) (h2 : 0 ≤ b0 ∧ b0 < 18446744073709551616) : Calls Tryz.prog 74 #[wd a1 a0, wd b1 b0] W fun e w' => e = .returned (subV b1 b0 a1 a0) ∧ Below W.heap.size W w' := by
  obtain ⟨x, y, hE, _⟩ := sub_is b1 b0 a1 a0
  rw [hE]
  go_enter Tryz.func74, Tryz.ntmps74
  go_wp2_with (go_at_call 48; refine (sub_w _ _ _ _ _ h2 h1).mono ?_; rintro e w2 ⟨he, hb1⟩; rw [hE] at he; subst he; obtain ⟨g0, g1, hg, hb⟩ := heap3 hb1; have c0 := cell_of (i := 0) hg rfl; have c1 := cell_of (i := 1) hg rfl; have f0 := frozen_of_row _ _ 0 _ _ hg; have f1 := frozen_of_row _ _ 1 _ _ hg)
  refine bodyPost_ret (results_cell_row rfl _ _ (W.heap.size + 1 + 1) 45 _ _ _ rfl (heap_setCell_same _ _ 1 _ _ _ (heap_setCell_same _ _ 0 _ _ _ hg)) Tryz.underlying45 rfl rfl) rfl ?_
  exact ⟨rfl, below_cell (below_cell hb (by omega)) (by omega)⟩
/-- What the program takes for a delay. -/
def delV (p1 p0 q1 q0 r1 r0 s1 s0 : Int) : Int :=
  let a := subV s1 s0 p1 p0
  let b := subV r1 r0 q1 q0
  let c := subV (hiV a) (loV a) (hiV b) (loV b)
  clipV (hiV c) (loV c)
set_option maxHeartbeats 2000000 in
set_option maxRecDepth 1000000 in
theorem delay_w (W : World) (p1 p0 q1 q0 r1 r0 s1 s0 : Int) (hp : 0 ≤ p0 ∧ p0 < 18446744073709551616) (hq : 0 ≤ q0 ∧ q0 < 18446744073709551616) (hr : 0 ≤ r0 ∧ r0 < 18446744073709551616) (hs : 0 ≤ s0 ∧ s0 < 18446744073709551616) : Calls Tryz.prog 45 #[wd p1 p0, wd q1 q0, wd r1 r0, wd s1 s0] W fun e w' => e = .returned (.int .i64 (delV p1 p0 q1 q0 r1 r0 s1 s0)) ∧ Below W.heap.size W w' := by
  obtain ⟨x1, y1, hE1, k1⟩ := sub_is s1 s0 p1 p0
  obtain ⟨x2, y2, hE2, k2⟩ := sub_is r1 r0 q1 q0
  obtain ⟨x3, y3, hE3, k3⟩ := sub_is x1 y1 x2 y2
  have hO : delV p1 p0 q1 q0 r1 r0 s1 s0 = clipV x3 y3 := by
    unfold delV
    rw [hE1, hE2]
    show clipV (hiV (subV x1 y1 x2 y2)) (loV (subV x1 y1 x2 y2)) = _
    rw [hE3]
    rfl
  rw [hO]
  obtain ⟨w0, hw, hS⟩ := box4 W (.int .i64 p1) (.int .u64 p0) (.int .i64 q1) (.int .u64 q0) (.int .i64 r1) (.int .u64 r0) (.int .i64 s1) (.int .u64 s0) 45
  go_enter Tryz.func45, Tryz.ntmps45
  go_wp2_with fail
  try rw [hw]
  clear hw
  generalize W.heap.size + 1 + 1 + 1 = b3 at hS ⊢
  generalize W.heap.size + 1 + 1 = b2 at hS ⊢
  generalize W.heap.size + 1 = b1 at hS ⊢
  go_region_held3 (fun w' => w'.cell? ⟨W.heap.size, 0, none⟩ = some (.int .i64 p1) ∧ w'.cell? ⟨W.heap.size, 1, none⟩ = some (.int .u64 p0) ∧ w'.cell? ⟨b1, 0, none⟩ = some (.int .i64 q1) ∧ w'.cell? ⟨b1, 1, none⟩ = some (.int .u64 q0) ∧ w'.cell? ⟨b2, 0, none⟩ = some (.int .i64 r1) ∧ w'.cell? ⟨b2, 1, none⟩ = some (.int .u64 r0) ∧ w'.cell? ⟨b3, 0, none⟩ = some (.int .i64 s1) ∧ w'.cell? ⟨b3, 1, none⟩ = some (.int .u64 s0) ∧ Below W.heap.size W w')
    (first
      | assumption
      | exact s8_up ‹_ ∧ _ ∧ _ ∧ _ ∧ _ ∧ _ ∧ _ ∧ _ ∧ Below W.heap.size W _› (by assumption)
      | exact s8_up ‹_ ∧ _ ∧ _ ∧ _ ∧ _ ∧ _ ∧ _ ∧ _ ∧ Below W.heap.size W _› ((Below.refl _ _).drew))
    (first
      | (go_at_call 74; refine (gone_w _ _ _ _ _ (by assumption) (by assumption)).mono ?_; rintro e w1 ⟨he, hb1⟩; (first | rw [hE1] at he | rw [hE2] at he); subst he)
      | (go_at_call 48; refine (sub_w _ _ _ _ _ (by assumption) (by assumption)).mono ?_; rintro e w1 ⟨he, hb1⟩; rw [hE3] at he; subst he)
      | (go_at_call 47; refine (clip_w _ _ _).mono ?_; rintro e w1 ⟨rfl, hb1⟩))
  all_goals go_wp2_with fail
  all_goals (go_ret; exact ⟨rfl, (‹_ ∧ _ ∧ _ ∧ _ ∧ _ ∧ _ ∧ _ ∧ _ ∧ Below W.heap.size W _›.2.2.2.2.2.2.2.2)⟩)
end Go.Proofs.YtmnoegfehgoalaaGreatDoor.cx
