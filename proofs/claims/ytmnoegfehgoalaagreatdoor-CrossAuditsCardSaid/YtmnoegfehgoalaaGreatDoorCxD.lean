/- The moment of a stamp that is nearest: era.Unfold and its closure. The moment of a stamp that is nearest: era.Unfold. -/
import Derived.Test.YtmnoegfehgoalaaGreatDoorCxB
import Derived.Laws.AppendOwn
import Derived.Maps.AppendAt
namespace Go.Proofs.YtmnoegfehgoalaaGreatDoor.cx
open Go.RowKit Go.Extern.Stop Go.Stop Go.Extern
set_option linter.unusedVariables false
theorem gap_is (a1 a0 b1 b0 : Int) : ∃ x y, gapV a1 a0 b1 b0 = wd x y ∧ 0 ≤ y ∧ y < 18446744073709551616 := by
  unfold gapV
  split
  · exact sub_is _ _ _ _
  · exact sub_is _ _ _ _
theorem keepA {w w1 : World} {o : Obj} (hb : Below (w.alloc o).heap.size (w.alloc o) w1) : w1.heap[w.heap.size]? = some o := (hb.block _ (by rw [alloc_size]; omega)).trans (heap_alloc_new _ _)
theorem keepAA {w w1 : World} {o o' : Obj} (hb : Below ((w.alloc o).alloc o').heap.size ((w.alloc o).alloc o') w1) : w1.heap[w.heap.size]? = some o := (hb.block _ (by rw [alloc_size, alloc_size]; omega)).trans (by rw [heap_alloc_old _ _ (by rw [alloc_size]; omega)]; exact heap_alloc_new _ _)
theorem keepAd {w w1 : World} {o : Obj} (hb : Below (w.alloc o).drew.heap.size (w.alloc o).drew w1) : w1.heap[w.heap.size]? = some o := (hb.block _ (show w.heap.size < (w.alloc o).heap.size by rw [alloc_size]; omega)).trans (heap_alloc_new w o)
theorem keepAAd {w w1 : World} {o o' : Obj} (hb : Below ((w.alloc o).alloc o').drew.heap.size ((w.alloc o).alloc o').drew w1) : w1.heap[w.heap.size]? = some o := (hb.block _ (show w.heap.size < ((w.alloc o).alloc o').heap.size by rw [alloc_size, alloc_size]; omega)).trans (show ((w.alloc o).alloc o').heap[w.heap.size]? = some o by rw [heap_alloc_old _ _ (by rw [alloc_size]; omega)]; exact heap_alloc_new _ _)
theorem bD {B : Nat} {w w1 : World} (h : Below B w w1) : Below B w w1.drew := h.trans ((Below.refl _ _).drew)
theorem keepB {w w1 : World} {g : Nat} {o : Obj} (hb : Below w.heap.size w w1) (h : w.heap[g]? = some o) : w1.heap[g]? = some o := (hb.block _ (lt_of_heap h)).trans h
theorem keepBA {w w1 : World} {g : Nat} {o o' : Obj} (hb : Below (w.alloc o').heap.size (w.alloc o') w1) (h : w.heap[g]? = some o) : w1.heap[g]? = some o := keepB hb (by rw [heap_alloc_old _ _ (lt_of_heap h)]; exact h)
theorem bA {w w1 : World} {o : Obj} (h : Below w.heap.size w w1) : Below w.heap.size w (w1.alloc o) := h.alloc h.size _
theorem bSS {B : Nat} {w w1 : World} {g i j : Nat} {u v : Value} (h : Below B w w1) (hg : B ≤ g) : Below B w ((w1.setCell ⟨g, i, none⟩ u).setCell ⟨g, j, none⟩ v) := below_cell (below_cell h hg) hg
theorem bAA {w w1 : World} {o o' : Obj} (h : Below w.heap.size w w1) : Below w.heap.size w ((w1.alloc o).alloc o') := bA (bA h)
theorem old_facts {w : World} {g : Nat} {x y : Value} {t : TypeId} (h : w.heap[g]? = some (.cells #[x, y] t)) : (∀ o, (w.alloc o).cell? ⟨g, 0, none⟩ = some x) ∧ (∀ o, (w.alloc o).cell? ⟨g, 1, none⟩ = some y) ∧ (∀ o, (w.alloc o).frozen? ⟨g, 0, none⟩ = false) ∧ (∀ o, (w.alloc o).frozen? ⟨g, 1, none⟩ = false) ∧ g ≠ w.heap.size ∧ w.heap.size ≠ g := by
  have hl := lt_of_heap h
  have hA : ∀ o, (w.alloc o).heap[g]? = some (.cells #[x, y] t) := fun o => by rw [heap_alloc_old _ _ hl]; exact h
  exact ⟨fun o => cell_of (i := 0) (hA o) rfl, fun o => cell_of (i := 1) (hA o) rfl, fun o => frozen_of_row _ _ 0 _ _ (hA o), fun o => frozen_of_row _ _ 1 _ _ (hA o), by omega, by omega⟩
theorem two_ne {w : World} {g : Nat} {x : Obj} (h : w.heap[g]? = some x) : g ≠ w.heap.size ∧ w.heap.size ≠ g := by
  have hl := lt_of_heap h
  exact ⟨by omega, by omega⟩
theorem grown_of {W w : World} (h : Below W.heap.size W w) (r : Option Nat) : W.grownBy w r := ⟨h.os, h.tape, h.output, h.size, fun k hk _ => h.block k hk⟩
theorem grown_set {W w : World} {g i : Nat} {v : Value} (h : W.grownBy w (some g)) : W.grownBy (w.setCell ⟨g, i, none⟩ v) (some g) :=
  ⟨h.os, h.tape, h.output, by rw [size_cell]; exact h.size, fun k hk hn => by rw [heap_setCell_other _ _ _ _ (by intro e; exact hn (by rw [e]))]; exact h.block k hk hn⟩
/-- Does a try take? -/
def tryC (era s h l bh bl : Int) : Bool :=
  let f := gapV era s h l
  let o := gapV bh bl h l
  let c := ov (cv (hiV f) (hiV o)) (cv (loV f) (loV o))
  decide (c < 0) || (c == 0 && decide (ov (cv era bh) (cv s bl) < 0))
/-- What is best behind a try. -/
def tryH (era s h l bh bl : Int) : Int := if tryC era s h l bh bl then era else bh
def tryL (era s h l bh bl : Int) : Int := if tryC era s h l bh bl then s else bl
set_option maxHeartbeats 2000000 in
set_option maxRecDepth 1000000 in
theorem try_w (W : World) (gs gn gb : Nat) (era s h l bh bl : Int) (ks : 0 ≤ s ∧ s < 18446744073709551616) (kl : 0 ≤ l ∧ l < 18446744073709551616) (kb : 0 ≤ bl ∧ bl < 18446744073709551616) (cs : W.cell? ⟨gs, 0, none⟩ = some (.int .u64 s)) (cn0 : W.cell? ⟨gn, 0, none⟩ = some (.int .i64 h)) (cn1 : W.cell? ⟨gn, 1, none⟩ = some (.int .u64 l))
    (hb : W.heap[gb]? = some (.cells #[.int .i64 bh, .int .u64 bl] 45)) : Calls Tryz.prog 70 #[.int .i64 era, .pointer (some ⟨gs, 0, none⟩), .pointer (some ⟨gn, 0, none⟩), .pointer (some ⟨gb, 0, none⟩)] W fun e w' => e = .returned (.tuple #[]) ∧ w'.heap[gb]? = some (.cells #[.int .i64 (tryH era s h l bh bl), .int .u64 (tryL era s h l bh bl)] 45) ∧ W.grownBy w' (some gb) := by
  obtain ⟨x1, y1, hE1, k1⟩ := gap_is era s h l
  obtain ⟨x2, y2, hE2, k2⟩ := gap_is bh bl h l
  have hC : tryC era s h l bh bl = (decide (ov (cv x1 x2) (cv y1 y2) < 0) || (ov (cv x1 x2) (cv y1 y2) == 0 && decide (ov (cv era bh) (cv s bl) < 0))) := by
    unfold tryC
    rw [hE1, hE2]
    rfl
  unfold tryH tryL
  rw [hC]
  clear hC
  generalize hz : (decide (ov (cv x1 x2) (cv y1 y2) < 0) || (ov (cv x1 x2) (cv y1 y2) == 0 && decide (ov (cv era bh) (cv s bl) < 0))) = z
  have HZ := Lib.hid hz
  clear hz
  have hB := (Below.refl W.heap.size W).alloc (Nat.le_refl _) (.cells #[.int .i64 era, .int .u64 s] 45)
  have hc5 := two_cells W (.int .i64 era) (.int .u64 s) 45
  have hRR := Below.refl (W.alloc (.cells #[.int .i64 era, .int .u64 s] 45)).heap.size (W.alloc (.cells #[.int .i64 era, .int .u64 s] 45))
  have cb0 := cell_up hB (cell_of (i := 0) hb (v := .int .i64 bh) rfl)
  have cb1 := cell_up hB (cell_of (i := 1) hb (v := .int .u64 bl) rfl)
  have hK := fun (w' : World) (hb : Below (W.alloc (.cells #[.int .i64 era, .int .u64 s] 45)).heap.size (W.alloc (.cells #[.int .i64 era, .int .u64 s] 45)) w') => And.intro (cell_up hb hc5.1) (And.intro (cell_up hb hc5.2) (And.intro (cell_up hb (cell_up hB cn0)) (And.intro (cell_up hb (cell_up hB cn1)) (And.intro (cell_up hb cb0) (And.intro (cell_up hb cb1) hb)))))
  have HK := Lib.hid hK
  clear hc5 hRR cb0 cb1 hK
  have HB := Lib.hid hB
  have Hb := Lib.hid hb
  clear hB hb
  go_enter Tryz.func70, Tryz.ntmps70
  go_wp2_with fail
  generalize W.alloc (.cells #[.int .i64 era, .int .u64 s] 45) = w5 at HK HB ⊢
  clear cs cn0 cn1
  have hle0 : w5.heap.size ≤ w5.drew.heap.size := Nat.le_refl _
  refine Code.wp_mono (Q := fun e a w' => e = .normal ∧ ∃ g6 g7 : Nat, a = ⟨#[.int .i64 era, .pointer (some ⟨gs, 0, none⟩), .pointer (some ⟨gn, 0, none⟩), .pointer (some ⟨gb, 0, none⟩), undef, .pointer (some ⟨W.heap.size, 0, none⟩), .pointer (some ⟨g6, 0, none⟩), .pointer (some ⟨g7, 0, none⟩), undef, .int .i64 era, .int .u64 s, wd era s, wd era s, wd h l, wd x1 y1, wd bh bl, wd h l, wd x2 y2, undef, undef, undef, undef, undef, undef, undef, undef, undef, undef, undef, undef, undef, undef, undef, undef], []⟩ ∧ (w'.cell? ⟨W.heap.size, 0, none⟩ = some (.int .i64 era) ∧ w'.cell? ⟨W.heap.size, 1, none⟩ = some (.int .u64 s) ∧ w'.cell? ⟨gn, 0, none⟩ = some (.int .i64 h) ∧ w'.cell? ⟨gn, 1, none⟩ = some (.int .u64 l) ∧ w'.cell? ⟨gb, 0, none⟩ = some (.int .i64 bh) ∧ w'.cell? ⟨gb, 1, none⟩ = some (.int .u64 bl) ∧ Below w5.heap.size w5 w') ∧ w'.cell? ⟨g6, 0, none⟩ = some (.int .i64 x1) ∧ w'.cell? ⟨g6, 1, none⟩ = some (.int .u64 y1) ∧ w'.cell? ⟨g7, 0, none⟩ = some (.int .i64 x2) ∧ w'.cell? ⟨g7, 1, none⟩ = some (.int .u64 y2)) ?_ ?_
  rotate_left
  · go_region_held3 (fun w' => w'.cell? ⟨W.heap.size, 0, none⟩ = some (.int .i64 era) ∧ w'.cell? ⟨W.heap.size, 1, none⟩ = some (.int .u64 s) ∧ w'.cell? ⟨gn, 0, none⟩ = some (.int .i64 h) ∧ w'.cell? ⟨gn, 1, none⟩ = some (.int .u64 l) ∧ w'.cell? ⟨gb, 0, none⟩ = some (.int .i64 bh) ∧ w'.cell? ⟨gb, 1, none⟩ = some (.int .u64 bl) ∧ Below w5.heap.size w5 w')
      (first
        | with_reducible assumption
        | (refine HK.out _ ?_; repeat' (first | with_reducible assumption | with_reducible refine bSS ?_ ?_ | with_reducible refine bA ?_ | with_reducible refine bD ?_ | with_reducible exact Below.refl _ _ | exact (Below.refl _ _).drew | omega | (simp only [alloc_size]; omega))))
      (first
        | (go_at_call 71; refine (gap_w _ _ _ _ _ (by assumption) (by assumption)).mono ?_; rintro e w1 ⟨he, hb1⟩; (first | rw [hE1] at he | rw [hE2] at he); subst he; have hq := (‹_ ∧ _ ∧ _ ∧ _ ∧ _ ∧ _ ∧ Below w5.heap.size w5 _›.2.2.2.2.2.2); have hq := hq.trans (hb1.mono hq.size); have hle := hq.size; (try have r1 := keepB hb1 q1); (try have r2 := keepB hb1 q2); (try have r1 := keepBA hb1 q1); (try have n1 := two_ne q1); (try obtain ⟨n11, n12⟩ := n1); (try have q1 := keepA hb1); (try rw [alloc_size] at q1); (try have q2 := keepAA hb1); (try have q1 := keepAd hb1); (try rw [alloc_size] at q1); (try have q2 := keepAAd hb1); (try have aq1 := cell_of (i := 0) q1 rfl); (try have bq1 := cell_of (i := 1) q1 rfl); (try have cq1 := frozen_of_row _ _ 0 _ _ q1); (try have dq1 := frozen_of_row _ _ 1 _ _ q1); (try have aq2 := cell_of (i := 0) q2 rfl); (try have bq2 := cell_of (i := 1) q2 rfl); (try have cq2 := frozen_of_row _ _ 0 _ _ q2); (try have dq2 := frozen_of_row _ _ 1 _ _ q2); (try have ar1 := cell_of (i := 0) r1 rfl); (try have br1 := cell_of (i := 1) r1 rfl); (try have cr1 := frozen_of_row _ _ 0 _ _ r1); (try have dr1 := frozen_of_row _ _ 1 _ _ r1); (try have ar2 := cell_of (i := 0) r2 rfl); (try have br2 := cell_of (i := 1) r2 rfl); (try have cr2 := frozen_of_row _ _ 0 _ _ r2); (try have dr2 := frozen_of_row _ _ 1 _ _ r2); (try have eq1 := old_facts q1); (try obtain ⟨eq11, eq12, eq13, eq14, eq15, eq16⟩ := eq1); (try have eq2 := old_facts q2); (try obtain ⟨eq21, eq22, eq23, eq24, eq25, eq26⟩ := eq2); (try have er1 := old_facts r1); (try obtain ⟨er11, er12, er13, er14, er15, er16⟩ := er1); (try have er2 := old_facts r2); (try obtain ⟨er21, er22, er23, er24, er25, er26⟩ := er2); clear hb1))
    all_goals refine ⟨rfl, _, _, rfl, by assumption, ?_, ?_, ?_, ?_⟩
    all_goals first | (simp [*]; done) | (go_simp; done) | (simp [*, World.cell?_alloc_some, World.cell?_setCell_far]; done)
  rintro e a w2 ⟨rfl, g6, g7, rfl, hS, c60, c61, c70, c71⟩
  have hS2 := hS.2.2.2.2.2.2
  have hq0 := hS2
  have hz := HZ.out
  clear hS
  have c50 := (HK.out _ hS2).1
  cases hc0 : decide (ov (cv x1 x2) (cv y1 y2) < 0) with
  | true =>
    rw [hc0] at hz
    have hz : z = true := by rw [← hz]; rfl
    subst hz
    go_wp2_with (go_at_call 72; refine (wcmp _ _ _ _ _).mono ?_; rintro e w3 ⟨rfl, hb3⟩; have hq0 := hq0.trans (hb3.mono hq0.size); clear hb3; obtain ⟨d1, d2, d3, d4, d5, d6, _⟩ := HK.out _ hq0; have hG := keepB hq0 (keepB HB.out Hb.out); have d7 := frozen_of_row _ _ 0 _ _ hG; have d8 := frozen_of_row _ _ 1 _ _ hG)
    refine bodyPost_end (results_none rfl _ _ _) rfl ?_; exact ⟨rfl, heap_setCell_same _ _ 1 _ _ _ (heap_setCell_same _ _ 0 _ _ _ hG), grown_set (grown_set (grown_of (HB.out.trans (hq0.mono HB.out.size)) _))⟩
  | false =>
    rw [hc0] at hz
    cases hc1 : (ov (cv x1 x2) (cv y1 y2) == 0) with
    | false =>
      rw [hc1] at hz
      have hz : z = false := by rw [← hz]; rfl
      subst hz
      go_wp2_with (go_at_call 72; refine (wcmp _ _ _ _ _).mono ?_; rintro e w3 ⟨rfl, hb3⟩; have hq0 := hq0.trans (hb3.mono hq0.size); clear hb3; obtain ⟨d1, d2, d3, d4, d5, d6, _⟩ := HK.out _ hq0; have hG := keepB hq0 (keepB HB.out Hb.out); have d7 := frozen_of_row _ _ 0 _ _ hG; have d8 := frozen_of_row _ _ 1 _ _ hG)
      refine bodyPost_end (results_none rfl _ _ _) rfl ?_; exact ⟨rfl, hG, grown_of (HB.out.trans (hq0.mono HB.out.size)) _⟩
    | true =>
      rw [hc1] at hz
      cases hc2 : decide (ov (cv era bh) (cv s bl) < 0) with
      | true =>
        rw [hc2] at hz
        have hz : z = true := by rw [← hz]; rfl
        subst hz
        go_wp2_with (go_at_call 72; refine (wcmp _ _ _ _ _).mono ?_; rintro e w3 ⟨rfl, hb3⟩; have hq0 := hq0.trans (hb3.mono hq0.size); clear hb3; obtain ⟨d1, d2, d3, d4, d5, d6, _⟩ := HK.out _ hq0; have hG := keepB hq0 (keepB HB.out Hb.out); have d7 := frozen_of_row _ _ 0 _ _ hG; have d8 := frozen_of_row _ _ 1 _ _ hG)
        refine bodyPost_end (results_none rfl _ _ _) rfl ?_; exact ⟨rfl, heap_setCell_same _ _ 1 _ _ _ (heap_setCell_same _ _ 0 _ _ _ hG), grown_set (grown_set (grown_of (HB.out.trans (hq0.mono HB.out.size)) _))⟩
      | false =>
        rw [hc2] at hz
        have hz : z = false := by rw [← hz]; rfl
        subst hz
        go_wp2_with (go_at_call 72; refine (wcmp _ _ _ _ _).mono ?_; rintro e w3 ⟨rfl, hb3⟩; have hq0 := hq0.trans (hb3.mono hq0.size); clear hb3; obtain ⟨d1, d2, d3, d4, d5, d6, _⟩ := HK.out _ hq0; have hG := keepB hq0 (keepB HB.out Hb.out); have d7 := frozen_of_row _ _ 0 _ _ hG; have d8 := frozen_of_row _ _ 1 _ _ hG)
        refine bodyPost_end (results_none rfl _ _ _) rfl ?_; exact ⟨rfl, hG, grown_of (HB.out.trans (hq0.mono HB.out.size)) _⟩
end Go.Proofs.YtmnoegfehgoalaaGreatDoor.cx
namespace Go.Proofs.YtmnoegfehgoalaaGreatDoor.cx
open Go.RowKit Go.Extern.Stop Go.Stop Go.Extern
set_option linter.unusedVariables false
theorem grown_kept {w w1 : World} {g k : Nat} {o : Obj} (hg : w.grownBy w1 (some g)) (h : w.heap[k]? = some o) (hne : k ≠ g) : w1.heap[k]? = some o :=
  (hg.block k (lt_of_heap h) (by intro e; injection e with e; exact hne e)).trans h
theorem below_grown {W w w1 : World} {g : Nat} (hb : Below W.heap.size W w) (hg : w.grownBy w1 (some g)) (h : W.heap.size ≤ g) : Below W.heap.size W w1 :=
  ⟨hg.os.trans hb.os, hg.tape.trans hb.tape, hg.output.trans hb.output, Nat.le_trans hb.size hg.size, fun k hk => (hg.block k (Nat.lt_of_lt_of_le hk hb.size) (by intro e; injection e with e; omega)).trans (hb.block k hk)⟩
theorem heap4 (W : World) (A B C D : Obj) : ((((W.alloc A).alloc B).alloc C).alloc D).heap[W.heap.size]? = some A ∧ ((((W.alloc A).alloc B).alloc C).alloc D).heap[W.heap.size + 1]? = some B ∧ ((((W.alloc A).alloc B).alloc C).alloc D).heap[W.heap.size + 1 + 1]? = some C ∧ ((((W.alloc A).alloc B).alloc C).alloc D).heap[W.heap.size + 1 + 1 + 1]? = some D ∧ Below W.heap.size W ((((W.alloc A).alloc B).alloc C).alloc D) := by
  have hb := (Below.refl (((W.alloc A).alloc B).alloc C).heap.size (((W.alloc A).alloc B).alloc C)).alloc (Nat.le_refl _) D
  obtain ⟨h1, h2, h3, h4⟩ := heap3 hb
  have hn := heap_alloc_new (((W.alloc A).alloc B).alloc C) D
  rw [alloc_size, alloc_size, alloc_size] at hn
  exact ⟨h1, h2, h3, hn, h4⟩
def unf1 (s h l : Int) : Int := if h < 9223372036854775807 then tryH (h + 1) s h l h s else h
/-- The era that is nearest. -/
def unfH (s h l : Int) : Int := if -9223372036854775808 < h then tryH (h - 1) s h l (unf1 s h l) s else unf1 s h l
theorem tryL_same (era s h l bh : Int) : tryL era s h l bh s = s := by unfold tryL; exact ite_self _
set_option maxHeartbeats 2000000 in
set_option maxRecDepth 1000000 in
theorem unf_w (W : World) (s h l : Int) (ks : 0 ≤ s ∧ s < 18446744073709551616) (kl : 0 ≤ l ∧ l < 18446744073709551616) (kh : -9223372036854775808 ≤ h ∧ h < 9223372036854775808) : Calls Tryz.prog 43 #[.int .u64 s, wd h l] W fun e w' => e = .returned (wd (unfH s h l) s) ∧ Below W.heap.size W w' := by
  unfold unfH unf1
  obtain ⟨q0, q1, q2, q3, hb⟩ := heap4 W (.cells #[.int .u64 s] 43) (.cells #[.int .i64 h, .int .u64 l] 45) (.cells #[.int .i64 0, .int .u64 0] 45) (.cells #[.int .i64 h, .int .u64 s] 45)
  by_cases h1 : h < 9223372036854775807
  · have d1 := decide_eq_true h1
    rw [if_pos h1]
    by_cases h2 : -9223372036854775808 < h
    · have d2 := decide_eq_true h2
      rw [if_pos h2]
      go_enter Tryz.func43, Tryz.ntmps43
      go_wp2_with (go_at_call 70; refine (try_w _ _ _ _ _ s h l _ s ks kl ks (cell_of (i := 0) q0 rfl) (cell_of (i := 0) q1 rfl) (cell_of (i := 1) q1 rfl) q3).mono ?_; rintro e w2 ⟨rfl, hB, hg⟩; rw [tryL_same] at hB; have q0 := grown_kept hg q0 (by omega); have q1 := grown_kept hg q1 (by omega); have q2 := grown_kept hg q2 (by omega); have hb := below_grown hb hg (by omega); have q3 := hB; clear hB hg; have a1 := cell_of (i := 0) q1 rfl; have a2 := cell_of (i := 0) q2 rfl; have a3 := cell_of (i := 1) q2 rfl; have a4 := frozen_of_row _ _ 0 _ _ q2; have a5 := frozen_of_row _ _ 1 _ _ q2; have a6 := cell_of (i := 0) q3 rfl; have a7 := cell_of (i := 1) q3 rfl)
      refine bodyPost_ret (results_cell_row rfl _ _ (W.heap.size + 1 + 1) 45 _ _ _ rfl (heap_setCell_same _ _ 1 _ _ _ (heap_setCell_same _ _ 0 _ _ _ q2)) Tryz.underlying45 rfl rfl) rfl ?_
      exact ⟨rfl, below_cell (below_cell hb (by omega)) (by omega)⟩
    · have d2 := decide_eq_false h2
      rw [if_neg h2]
      go_enter Tryz.func43, Tryz.ntmps43
      go_wp2_with (go_at_call 70; refine (try_w _ _ _ _ _ s h l _ s ks kl ks (cell_of (i := 0) q0 rfl) (cell_of (i := 0) q1 rfl) (cell_of (i := 1) q1 rfl) q3).mono ?_; rintro e w2 ⟨rfl, hB, hg⟩; rw [tryL_same] at hB; have q0 := grown_kept hg q0 (by omega); have q1 := grown_kept hg q1 (by omega); have q2 := grown_kept hg q2 (by omega); have hb := below_grown hb hg (by omega); have q3 := hB; clear hB hg; have a1 := cell_of (i := 0) q1 rfl; have a2 := cell_of (i := 0) q2 rfl; have a3 := cell_of (i := 1) q2 rfl; have a4 := frozen_of_row _ _ 0 _ _ q2; have a5 := frozen_of_row _ _ 1 _ _ q2; have a6 := cell_of (i := 0) q3 rfl; have a7 := cell_of (i := 1) q3 rfl)
      refine bodyPost_ret (results_cell_row rfl _ _ (W.heap.size + 1 + 1) 45 _ _ _ rfl (heap_setCell_same _ _ 1 _ _ _ (heap_setCell_same _ _ 0 _ _ _ q2)) Tryz.underlying45 rfl rfl) rfl ?_
      exact ⟨rfl, below_cell (below_cell hb (by omega)) (by omega)⟩
  · have d1 := decide_eq_false h1
    rw [if_neg h1]
    have h2 : -9223372036854775808 < h := by omega
    have d2 := decide_eq_true h2
    rw [if_pos h2]
    go_enter Tryz.func43, Tryz.ntmps43
    go_wp2_with (go_at_call 70; refine (try_w _ _ _ _ _ s h l _ s ks kl ks (cell_of (i := 0) q0 rfl) (cell_of (i := 0) q1 rfl) (cell_of (i := 1) q1 rfl) q3).mono ?_; rintro e w2 ⟨rfl, hB, hg⟩; rw [tryL_same] at hB; have q0 := grown_kept hg q0 (by omega); have q1 := grown_kept hg q1 (by omega); have q2 := grown_kept hg q2 (by omega); have hb := below_grown hb hg (by omega); have q3 := hB; clear hB hg; have a1 := cell_of (i := 0) q1 rfl; have a2 := cell_of (i := 0) q2 rfl; have a3 := cell_of (i := 1) q2 rfl; have a4 := frozen_of_row _ _ 0 _ _ q2; have a5 := frozen_of_row _ _ 1 _ _ q2; have a6 := cell_of (i := 0) q3 rfl; have a7 := cell_of (i := 1) q3 rfl)
    refine bodyPost_ret (results_cell_row rfl _ _ (W.heap.size + 1 + 1) 45 _ _ _ rfl (heap_setCell_same _ _ 1 _ _ _ (heap_setCell_same _ _ 0 _ _ _ q2)) Tryz.underlying45 rfl rfl) rfl ?_
    exact ⟨rfl, below_cell (below_cell hb (by omega)) (by omega)⟩
end Go.Proofs.YtmnoegfehgoalaaGreatDoor.cx
