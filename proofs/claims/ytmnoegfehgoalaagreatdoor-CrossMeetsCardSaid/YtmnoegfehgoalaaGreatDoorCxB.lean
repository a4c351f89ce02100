/- Wide numbers held against each other: the program's Cmp. Wide numbers as the program reckons them: Of, Add, Sub, Half, Clip. -/
import Derived.Test.YtmnoegfehgoalaaGreatDoorRows
import Derived.Test.YtmnoegfehgoalaaGreatDoorChecked
import Derived.BigCall
import Derived.BigGuard
import Derived.BigQuiet
import Derived.Deep.CutBlock
import Derived.Deep.CutRange
import Derived.Deep.DeepCutAuto
import Derived.Deep.LoopGhost
import Derived.Deep.QuietTactic
import Derived.Deep.RegionHeld3
import Derived.Handy
import Derived.Lib.Hide
import Derived.Lib.Walk
import Derived.OwnWalk
import Derived.RowKitTokens
import Derived.WalkKit
import Derived.ProofKit
import Derived.Stop.Joined
import Derived.SevenTiedAt
import Derived.Laws.OwnMore
import Derived.Laws.Externs
import Derived.Shelf.Spec.BitsCarry
namespace Go.Proofs.YtmnoegfehgoalaaGreatDoor.cx
open Go.RowKit Go.Extern.Stop Go.Stop Go.Extern
set_option linter.unusedVariables false

/-- Which of two numbers is greater: -1, 0, 1. -/
def cv (x y : Int) : Int := if x < y then -1 else if y < x then 1 else 0
theorem alloc_size (W : World) (o : Obj) : (W.alloc o).heap.size = W.heap.size + 1 := by
  unfold World.alloc
  exact Array.size_push ..
theorem two_cells (W : World) (a b : Value) (t : TypeId) : (W.alloc (.cells #[a, b] t)).cell? ⟨W.heap.size, 0, none⟩ = some a ∧ (W.alloc (.cells #[a, b] t)).cell? ⟨W.heap.size, 1, none⟩ = some b := by
  have hn := heap_alloc_new W (.cells #[a, b] t)
  constructor <;> (unfold World.cell?; simp only [hn]; rfl)
theorem lt_of_cell {w : World} {a : Addr} {v : Value} (h : w.cell? a = some v) : a.block < w.heap.size := by
  rcases Nat.lt_or_ge a.block w.heap.size with h' | h'
  · exact h'
  · unfold World.cell? at h
    rw [Array.getElem?_eq_none (by omega)] at h
    cases h
theorem cell_up {w w' : World} {b i : Nat} {v : Value} (hb : Below w.heap.size w w') (h : w.cell? ⟨b, i, none⟩ = some v) : w'.cell? ⟨b, i, none⟩ = some v := by
  rw [← h]
  exact hb.cell (lt_of_cell h)
/-- A wide number's two cells. -/
def Wc (w : World) (g : Nat) (h l : Int) : Prop := w.cell? ⟨g, 0, none⟩ = some (.int .i64 h) ∧ w.cell? ⟨g, 1, none⟩ = some (.int .u64 l)
set_option maxRecDepth 1000000 in
theorem nan_i64 (W : World) (x : Int) : Calls Tryz.prog 121 #[.int .i64 x] W fun e w' => e = .returned (.bool false) ∧ Below W.heap.size W w' := by
  have hx : (x != x) = false := by simp
  go_enter Tryz.func121, Tryz.ntmps121
  go_wp2_with fail
  go_ret
  refine ⟨?_, Below.refl _ _⟩
  simp
set_option maxRecDepth 1000000 in
theorem nan_u64 (W : World) (x : Int) : Calls Tryz.prog 122 #[.int .u64 x] W fun e w' => e = .returned (.bool false) ∧ Below W.heap.size W w' := by
  have hx : (x != x) = false := by simp
  go_enter Tryz.func122, Tryz.ntmps122
  go_wp2_with fail
  go_ret
  refine ⟨?_, Below.refl _ _⟩
  simp
set_option maxRecDepth 1000000 in
theorem cmp_i64 (W : World) (x y : Int) : Calls Tryz.prog 99 #[.int .i64 x, .int .i64 y] W fun e w' => e = .returned (.int .i64 (cv x y)) ∧ Below W.heap.size W w' := by
  unfold cv
  by_cases h1 : x < y
  · have d1 : decide (x < y) = true := by simpa using h1
    rw [if_pos h1]
    have hb := Below.refl W.heap.size W
    go_enter Tryz.func99, Tryz.ntmps99
    go_wp2_with (go_at_call 121; refine (nan_i64 _ _).mono ?_; rintro e w1 ⟨rfl, hb'⟩; have hb := hb.trans (hb'.mono hb.size); clear hb')
    go_ret
    exact ⟨rfl, hb⟩
  · have d1 : decide (x < y) = false := by simpa using h1
    rw [if_neg h1]
    by_cases h2 : y < x
    · have d2 : decide (y < x) = true := by simpa using h2
      rw [if_pos h2]
      have hb := Below.refl W.heap.size W
      go_enter Tryz.func99, Tryz.ntmps99
      go_wp2_with (go_at_call 121; refine (nan_i64 _ _).mono ?_; rintro e w1 ⟨rfl, hb'⟩; have hb := hb.trans (hb'.mono hb.size); clear hb')
      go_ret
      exact ⟨rfl, hb⟩
    · have d2 : decide (y < x) = false := by simpa using h2
      rw [if_neg h2]
      have hb := Below.refl W.heap.size W
      go_enter Tryz.func99, Tryz.ntmps99
      go_wp2_with (go_at_call 121; refine (nan_i64 _ _).mono ?_; rintro e w1 ⟨rfl, hb'⟩; have hb := hb.trans (hb'.mono hb.size); clear hb')
      go_ret
      exact ⟨rfl, hb⟩
set_option maxRecDepth 1000000 in
theorem cmp_u64 (W : World) (x y : Int) : Calls Tryz.prog 100 #[.int .u64 x, .int .u64 y] W fun e w' => e = .returned (.int .i64 (cv x y)) ∧ Below W.heap.size W w' := by
  unfold cv
  by_cases h1 : x < y
  · have d1 : decide (x < y) = true := by simpa using h1
    rw [if_pos h1]
    have hb := Below.refl W.heap.size W
    go_enter Tryz.func100, Tryz.ntmps100
    go_wp2_with (go_at_call 122; refine (nan_u64 _ _).mono ?_; rintro e w1 ⟨rfl, hb'⟩; have hb := hb.trans (hb'.mono hb.size); clear hb')
    go_ret
    exact ⟨rfl, hb⟩
  · have d1 : decide (x < y) = false := by simpa using h1
    rw [if_neg h1]
    by_cases h2 : y < x
    · have d2 : decide (y < x) = true := by simpa using h2
      rw [if_pos h2]
      have hb := Below.refl W.heap.size W
      go_enter Tryz.func100, Tryz.ntmps100
      go_wp2_with (go_at_call 122; refine (nan_u64 _ _).mono ?_; rintro e w1 ⟨rfl, hb'⟩; have hb := hb.trans (hb'.mono hb.size); clear hb')
      go_ret
      exact ⟨rfl, hb⟩
    · have d2 : decide (y < x) = false := by simpa using h2
      rw [if_neg h2]
      have hb := Below.refl W.heap.size W
      go_enter Tryz.func100, Tryz.ntmps100
      go_wp2_with (go_at_call 122; refine (nan_u64 _ _).mono ?_; rintro e w1 ⟨rfl, hb'⟩; have hb := hb.trans (hb'.mono hb.size); clear hb')
      go_ret
      exact ⟨rfl, hb⟩
/-- The first that is not 0. -/
def ov (a b : Int) : Int := if a = 0 then b else a
set_option maxRecDepth 1000000 in
theorem or_two (W : World) (a b : Int) (g c : Nat) (h0 : W.cell? ⟨g, 0, none⟩ = some (.int .i64 a)) (h1 : W.cell? ⟨g, 1, none⟩ = some (.int .i64 b)) : Calls Tryz.prog 98 #[.slice (some ⟨g, 0, none⟩) 2 c] W fun e w' => e = .returned (.int .i64 (ov a b)) ∧ Below W.heap.size W w' := by
  unfold ov
  by_cases ha : a = 0
  · subst ha
    rw [if_pos rfl]
    by_cases hb : b = 0
    · subst hb
      go_enter Tryz.func98, Tryz.ntmps98
      go_wp2_with fail
      refine wp_loop_rounds 3 ?_
      rw [rounds_succ]
      go_wp2_with fail
      rw [rounds_succ]
      go_wp2_with fail
      rw [rounds_succ]
      go_wp2_with fail
      go_ret
      exact ⟨rfl, Below.refl _ _⟩
    · have hd : (b != 0) = true := by simpa using hb
      go_enter Tryz.func98, Tryz.ntmps98
      go_wp2_with fail
      refine wp_loop_rounds 2 ?_
      rw [rounds_succ]
      go_wp2_with fail
      rw [rounds_succ]
      go_wp2_with fail
      go_ret
      exact ⟨rfl, Below.refl _ _⟩
  · have hd : (a != 0) = true := by simpa using ha
    rw [if_neg ha]
    go_enter Tryz.func98, Tryz.ntmps98
    go_wp2_with fail
    refine wp_loop_rounds 1 ?_
    rw [rounds_succ]
    go_wp2_with fail
    go_ret
    exact ⟨rfl, Below.refl _ _⟩
theorem s4_up {W w w1 : World} {g B : Nat} {a b c d : Value} (hX : w.cell? ⟨g, 0, none⟩ = some a ∧ w.cell? ⟨g, 1, none⟩ = some b ∧ w.cell? ⟨B, 0, none⟩ = some c ∧ w.cell? ⟨B, 1, none⟩ = some d ∧ Below W.heap.size W w) (hb1 : Below w.heap.size w w1) : w1.cell? ⟨g, 0, none⟩ = some a ∧ w1.cell? ⟨g, 1, none⟩ = some b ∧ w1.cell? ⟨B, 0, none⟩ = some c ∧ w1.cell? ⟨B, 1, none⟩ = some d ∧ Below W.heap.size W w1 :=
  ⟨cell_up hb1 hX.1, cell_up hb1 hX.2.1, cell_up hb1 hX.2.2.1, cell_up hb1 hX.2.2.2.1, hX.2.2.2.2.trans (hb1.mono hX.2.2.2.2.size)⟩
theorem s4_alloc {W w : World} {g B : Nat} {a b c d : Value} (o : Obj) (hX : w.cell? ⟨g, 0, none⟩ = some a ∧ w.cell? ⟨g, 1, none⟩ = some b ∧ w.cell? ⟨B, 0, none⟩ = some c ∧ w.cell? ⟨B, 1, none⟩ = some d ∧ Below W.heap.size W w) : (w.alloc o).cell? ⟨g, 0, none⟩ = some a ∧ (w.alloc o).cell? ⟨g, 1, none⟩ = some b ∧ (w.alloc o).cell? ⟨B, 0, none⟩ = some c ∧ (w.alloc o).cell? ⟨B, 1, none⟩ = some d ∧ Below W.heap.size W (w.alloc o) := s4_up hX ((Below.refl _ _).alloc (Nat.le_refl _) o)
set_option maxRecDepth 1000000 in
theorem wcmp (W : World) (a1 a0 b1 b0 : Int) : Calls Tryz.prog 72 #[.agg #[.int .i64 a1, .int .u64 a0], .agg #[.int .i64 b1, .int .u64 b0]] W fun e w' => e = .returned (.int .i64 (ov (cv a1 b1) (cv a0 b0))) ∧ Below W.heap.size W w' := by
  go_enter Tryz.func72, Tryz.ntmps72
  go_wp2_with fail
  obtain ⟨a1', a0'⟩ := two_cells W (.int .i64 a1) (.int .u64 a0) 45
  have hb1 := (Below.refl W.heap.size W).alloc (Nat.le_refl _) (.cells #[.int .i64 a1, .int .u64 a0] 45)
  obtain ⟨b1', b0'⟩ := two_cells (W.alloc (.cells #[.int .i64 a1, .int .u64 a0] 45)) (.int .i64 b1) (.int .u64 b0) 45
  have hb2 := (Below.refl (W.alloc (.cells #[.int .i64 a1, .int .u64 a0] 45)).heap.size (W.alloc (.cells #[.int .i64 a1, .int .u64 a0] 45))).alloc (Nat.le_refl _) (.cells #[.int .i64 b1, .int .u64 b0] 45)
  have a1' := cell_up hb2 a1'
  have a0' := cell_up hb2 a0'
  have hb := hb1.trans (hb2.mono hb1.size)
  have hz := alloc_size W (.cells #[.int .i64 a1, .int .u64 a0] 45)
  rw [hz] at b1' b0'
  generalize hB : W.heap.size + 1 = B at b1' b0' ⊢
  generalize (W.alloc (.cells #[.int .i64 a1, .int .u64 a0] 45)).alloc (.cells #[.int .i64 b1, .int .u64 b0] 45) = w0 at *
  clear hb1 hb2 hz
  have hS := And.intro a1' (And.intro a0' (And.intro b1' (And.intro b0' hb)))
  clear a1' a0' b1' b0' hb
  go_region_held3 (fun w' => w'.cell? ⟨W.heap.size, 0, none⟩ = some (.int .i64 a1) ∧ w'.cell? ⟨W.heap.size, 1, none⟩ = some (.int .u64 a0) ∧ w'.cell? ⟨B, 0, none⟩ = some (.int .i64 b1) ∧ w'.cell? ⟨B, 1, none⟩ = some (.int .u64 b0) ∧ Below W.heap.size W w')
    (first
      | assumption
      | exact s4_alloc _ ‹_ ∧ _ ∧ _ ∧ _ ∧ Below W.heap.size W _›
      | exact s4_up ‹_ ∧ _ ∧ _ ∧ _ ∧ Below W.heap.size W _› (by assumption)
      | exact s4_up ‹_ ∧ _ ∧ _ ∧ _ ∧ Below W.heap.size W _› ((Below.refl _ _).drew))
    (first
      | (go_at_call 99; refine (cmp_i64 _ _ _).mono ?_; rintro e w1 ⟨rfl, hb1⟩)
      | (go_at_call 100; refine (cmp_u64 _ _ _).mono ?_; rintro e w1 ⟨rfl, hb1⟩)
      | (go_at_call 98; refine (or_two _ _ _ _ _ (two_cells _ _ _ _).1 (two_cells _ _ _ _).2).mono ?_; rintro e w1 ⟨rfl, hb1⟩))
  all_goals go_wp2_with fail
  all_goals (go_ret; exact ⟨rfl, (‹_ ∧ _ ∧ _ ∧ _ ∧ Below W.heap.size W _›).2.2.2.2⟩)
end Go.Proofs.YtmnoegfehgoalaaGreatDoor.cx

namespace Go.Proofs.YtmnoegfehgoalaaGreatDoor.cx
open Go.RowKit Go.Extern.Stop Go.Stop Go.Extern
set_option linter.unusedVariables false

theorem add64 (x y c : Int) (hx : 0 ≤ x) (hy : 0 ≤ y) (hc0 : 0 ≤ c) (hc : c ≤ 1) (w : World) : (callFunc 84 #[.int .u64 x, .int .u64 y, .int .u64 c]).run Tryz.prog w = .ok (.value (.tuple #[.int .u64 ((x + y + c) % 18446744073709551616), .int .u64 ((x + y + c) / 18446744073709551616)])) w := by
  rw [run_callFunc_extern (fn := Tryz.f84) (by kernel_rfl) (by kernel_rfl) (by kernel_rfl) (by kernel_rfl) (e := add64Entry) (by kernel_rfl), run_add64 x y c hx hy hc0 hc]
  rfl
theorem w_u64 (n : Int) : IntKind.wrap .u64 n = n % 18446744073709551616 := by unfold IntKind.wrap; rfl
abbrev wd (h l : Int) : Value := .agg #[.int .i64 h, .int .u64 l]
set_option maxRecDepth 1000000 in
theorem of_w (W : World) (n : Int) : Calls Tryz.prog 49 #[.int .i64 n] W fun e w' => e = .returned (wd (n / 9223372036854775808) (n % 18446744073709551616)) ∧ Below W.heap.size W w' := by
  go_enter Tryz.func49, Tryz.ntmps49
  go_wp2_with fail
  refine bodyPost_ret (results_cell_row rfl _ _ W.heap.size 45 _ _ _ rfl (heap_alloc_new _ _) Tryz.underlying45 rfl rfl) rfl ?_
  exact ⟨by rw [w_u64], (Below.refl _ _).alloc (Nat.le_refl _) _⟩
theorem s2_up {W w w1 : World} {g : Nat} {a b : Value} (hX : w.cell? ⟨g, 0, none⟩ = some a ∧ w.cell? ⟨g, 1, none⟩ = some b ∧ Below W.heap.size W w) (hb1 : Below w.heap.size w w1) : w1.cell? ⟨g, 0, none⟩ = some a ∧ w1.cell? ⟨g, 1, none⟩ = some b ∧ Below W.heap.size W w1 :=
  ⟨cell_up hb1 hX.1, cell_up hb1 hX.2.1, hX.2.2.trans (hb1.mono hX.2.2.size)⟩
open Go in
/-- Half a number, its lower half. -/
def halfL (h l : Int) : Int := bits .or .u64 (IntKind.wrap .u64 (IntKind.wrap .u64 h * 9223372036854775808)) (l / 2)
set_option maxRecDepth 1000000 in
theorem half_w (W : World) (h l : Int) : Calls Tryz.prog 73 #[wd h l] W fun e w' => e = .returned (wd (h / 2) (halfL h l)) ∧ Below W.heap.size W w' := by
  unfold halfL
  go_enter Tryz.func73, Tryz.ntmps73
  go_wp2_with fail
  refine bodyPost_ret (results_cell_row rfl _ _ (W.heap.size + 1) 45 _ _ _ rfl (heap_alloc2_new _ _ _) Tryz.underlying45 rfl rfl) rfl ?_
  exact ⟨rfl, ((Below.refl W.heap.size W).alloc (Nat.le_refl _) _).alloc (by rw [alloc_size]; omega) _⟩
/-- A wide number as one of 64 bits, clipped. -/
def clipV (h l : Int) : Int := if (h == wrap64 l / 9223372036854775808) = true ∧ (l == wrap64 l % 18446744073709551616) = true then wrap64 l else if h < 0 then -9223372036854775808 else 9223372036854775807
set_option maxRecDepth 1000000 in
theorem clip_w (W : World) (h l : Int) : Calls Tryz.prog 47 #[wd h l] W fun e w' => e = .returned (.int .i64 (clipV h l)) ∧ Below W.heap.size W w' := by
  unfold clipV
  generalize hn : wrap64 l = n
  cases e1 : (h == n / 9223372036854775808) with
  | true =>
    cases e2 : (l == n % 18446744073709551616) with
    | true =>
      rw [if_pos ⟨rfl, rfl⟩]
      go_enter Tryz.func47, Tryz.ntmps47
      go_wp2_with fail
      obtain ⟨a1', a0'⟩ := two_cells W (.int .i64 h) (.int .u64 l) 45
      have hb1 := (Below.refl W.heap.size W).alloc (Nat.le_refl _) (.cells #[.int .i64 h, .int .u64 l] 45)
      generalize W.alloc (.cells #[.int .i64 h, .int .u64 l] 45) = w0 at *
      have hS := And.intro a1' (And.intro a0' hb1)
      clear a1' a0' hb1
      go_region_held3 (fun w' => w'.cell? ⟨W.heap.size, 0, none⟩ = some (.int .i64 h) ∧ w'.cell? ⟨W.heap.size, 1, none⟩ = some (.int .u64 l) ∧ Below W.heap.size W w')
        (first
          | assumption
          | exact s2_up ‹_ ∧ _ ∧ Below W.heap.size W _› (by assumption)
          | exact s2_up ‹_ ∧ _ ∧ Below W.heap.size W _› ((Below.refl _ _).drew))
        (first
          | (go_at_call 49; refine (of_w _ _).mono ?_; rintro e w1 ⟨rfl, hb1⟩))
      all_goals go_wp2_with fail
      all_goals (go_ret; exact ⟨by rfl, (‹_ ∧ _ ∧ Below W.heap.size W _›).2.2⟩)
    | false =>
      rw [if_neg (by simp)]
      by_cases h0 : h < 0
      · rw [if_pos h0]
        have d0 : decide (h < 0) = true := by simpa using h0
        go_enter Tryz.func47, Tryz.ntmps47
        go_wp2_with fail
        obtain ⟨a1', a0'⟩ := two_cells W (.int .i64 h) (.int .u64 l) 45
        have hb1 := (Below.refl W.heap.size W).alloc (Nat.le_refl _) (.cells #[.int .i64 h, .int .u64 l] 45)
        generalize W.alloc (.cells #[.int .i64 h, .int .u64 l] 45) = w0 at *
        have hS := And.intro a1' (And.intro a0' hb1)
        clear a1' a0' hb1
        go_region_held3 (fun w' => w'.cell? ⟨W.heap.size, 0, none⟩ = some (.int .i64 h) ∧ w'.cell? ⟨W.heap.size, 1, none⟩ = some (.int .u64 l) ∧ Below W.heap.size W w')
          (first
            | assumption
            | exact s2_up ‹_ ∧ _ ∧ Below W.heap.size W _› (by assumption)
            | exact s2_up ‹_ ∧ _ ∧ Below W.heap.size W _› ((Below.refl _ _).drew))
          (first
            | (go_at_call 49; refine (of_w _ _).mono ?_; rintro e w1 ⟨rfl, hb1⟩))
        all_goals go_wp2_with fail
        all_goals (go_ret; exact ⟨by rfl, (‹_ ∧ _ ∧ Below W.heap.size W _›).2.2⟩)
      · rw [if_neg h0]
        have d0 : decide (h < 0) = false := by simpa using h0
        go_enter Tryz.func47, Tryz.ntmps47
        go_wp2_with fail
        obtain ⟨a1', a0'⟩ := two_cells W (.int .i64 h) (.int .u64 l) 45
        have hb1 := (Below.refl W.heap.size W).alloc (Nat.le_refl _) (.cells #[.int .i64 h, .int .u64 l] 45)
        generalize W.alloc (.cells #[.int .i64 h, .int .u64 l] 45) = w0 at *
        have hS := And.intro a1' (And.intro a0' hb1)
        clear a1' a0' hb1
        go_region_held3 (fun w' => w'.cell? ⟨W.heap.size, 0, none⟩ = some (.int .i64 h) ∧ w'.cell? ⟨W.heap.size, 1, none⟩ = some (.int .u64 l) ∧ Below W.heap.size W w')
          (first
            | assumption
            | exact s2_up ‹_ ∧ _ ∧ Below W.heap.size W _› (by assumption)
            | exact s2_up ‹_ ∧ _ ∧ Below W.heap.size W _› ((Below.refl _ _).drew))
          (first
            | (go_at_call 49; refine (of_w _ _).mono ?_; rintro e w1 ⟨rfl, hb1⟩))
        all_goals go_wp2_with fail
        all_goals (go_ret; exact ⟨by rfl, (‹_ ∧ _ ∧ Below W.heap.size W _›).2.2⟩)
  | false =>
    rw [if_neg (by simp)]
    by_cases h0 : h < 0
    · rw [if_pos h0]
      have d0 : decide (h < 0) = true := by simpa using h0
      go_enter Tryz.func47, Tryz.ntmps47
      go_wp2_with fail
      obtain ⟨a1', a0'⟩ := two_cells W (.int .i64 h) (.int .u64 l) 45
      have hb1 := (Below.refl W.heap.size W).alloc (Nat.le_refl _) (.cells #[.int .i64 h, .int .u64 l] 45)
      generalize W.alloc (.cells #[.int .i64 h, .int .u64 l] 45) = w0 at *
      have hS := And.intro a1' (And.intro a0' hb1)
      clear a1' a0' hb1
      go_region_held3 (fun w' => w'.cell? ⟨W.heap.size, 0, none⟩ = some (.int .i64 h) ∧ w'.cell? ⟨W.heap.size, 1, none⟩ = some (.int .u64 l) ∧ Below W.heap.size W w')
        (first
          | assumption
          | exact s2_up ‹_ ∧ _ ∧ Below W.heap.size W _› (by assumption)
          | exact s2_up ‹_ ∧ _ ∧ Below W.heap.size W _› ((Below.refl _ _).drew))
        (first
          | (go_at_call 49; refine (of_w _ _).mono ?_; rintro e w1 ⟨rfl, hb1⟩))
      all_goals go_wp2_with fail
      all_goals (go_ret; exact ⟨by rfl, (‹_ ∧ _ ∧ Below W.heap.size W _›).2.2⟩)
    · rw [if_neg h0]
      have d0 : decide (h < 0) = false := by simpa using h0
      go_enter Tryz.func47, Tryz.ntmps47
      go_wp2_with fail
      obtain ⟨a1', a0'⟩ := two_cells W (.int .i64 h) (.int .u64 l) 45
      have hb1 := (Below.refl W.heap.size W).alloc (Nat.le_refl _) (.cells #[.int .i64 h, .int .u64 l] 45)
      generalize W.alloc (.cells #[.int .i64 h, .int .u64 l] 45) = w0 at *
      have hS := And.intro a1' (And.intro a0' hb1)
      clear a1' a0' hb1
      go_region_held3 (fun w' => w'.cell? ⟨W.heap.size, 0, none⟩ = some (.int .i64 h) ∧ w'.cell? ⟨W.heap.size, 1, none⟩ = some (.int .u64 l) ∧ Below W.heap.size W w')
        (first
          | assumption
          | exact s2_up ‹_ ∧ _ ∧ Below W.heap.size W _› (by assumption)
          | exact s2_up ‹_ ∧ _ ∧ Below W.heap.size W _› ((Below.refl _ _).drew))
        (first
          | (go_at_call 49; refine (of_w _ _).mono ?_; rintro e w1 ⟨rfl, hb1⟩))
      all_goals go_wp2_with fail
      all_goals (go_ret; exact ⟨by rfl, (‹_ ∧ _ ∧ Below W.heap.size W _›).2.2⟩)
end Go.Proofs.YtmnoegfehgoalaaGreatDoor.cx
