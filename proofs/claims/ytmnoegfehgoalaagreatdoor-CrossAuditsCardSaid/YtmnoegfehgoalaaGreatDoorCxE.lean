/- What a line measures: raw.Measure. Addresses held against each other: '==' on seventeen cells. The rows of lines and samples: their cells, by kinds; whether a line tells a sample. Whether a line tells a sample: cross.tells. -/
import Derived.Test.YtmnoegfehgoalaaGreatDoorCxD
import Derived.Test.YtmnoegfehgoalaaGreatDoorCxA
import Derived.DeepKeys
namespace Go.Proofs.YtmnoegfehgoalaaGreatDoor.cx
open Go.RowKit Go.Extern.Stop Go.Stop Go.Extern
set_option linter.unusedVariables false
/-- A line's cells that are read: when, and its four stamps. -/
structure LineAt (cs : List Value) (h l t0 t1 t2 t3 : Int) : Prop where
  len : cs.length = 53
  c0 : cs[0]? = some (.int .i64 h)
  c1 : cs[1]? = some (.int .u64 l)
  s0 : cs[36]? = some (.int .u64 t0)
  s1 : cs[37]? = some (.int .u64 t1)
  s2 : cs[38]? = some (.int .u64 t2)
  s3 : cs[39]? = some (.int .u64 t3)
  kh : -9223372036854775808 ≤ h ∧ h < 9223372036854775808
  kl : 0 ≤ l ∧ l < 18446744073709551616
  k0 : 0 ≤ t0 ∧ t0 < 18446744073709551616
  k1 : 0 ≤ t1 ∧ t1 < 18446744073709551616
  k2 : 0 ≤ t2 ∧ t2 < 18446744073709551616
  k3 : 0 ≤ t3 ∧ t3 < 18446744073709551616
theorem arr_get {cs : List Value} {i : Nat} {v : Value} (h : cs[i]? = some v) : cs.toArray[i]? = some v := by simpa using h
theorem set_two {w : World} {g i j : Nat} {cs : Array Value} {t : TypeId} {u v : Value} (hg : w.heap[g]? = some (.cells cs t)) : ((w.setCell ⟨g, i, none⟩ u).setCell ⟨g, j, none⟩ v).heap[g]? = some (.cells ((cs.setIfInBounds i u).setIfInBounds j v) t) := heap_setCell_same _ _ j _ _ _ (heap_setCell_same _ _ i _ _ _ hg)
theorem set_far {w : World} {g k i j : Nat} {o : Obj} {u v : Value} (hg : w.heap[k]? = some o) (hne : k ≠ g) : ((w.setCell ⟨g, i, none⟩ u).setCell ⟨g, j, none⟩ v).heap[k]? = some o := by
  rw [heap_setCell_other _ _ _ _ (by exact hne), heap_setCell_other _ _ _ _ (by exact hne)]
  exact hg
set_option maxHeartbeats 4000000 in
set_option maxRecDepth 1000000 in
theorem meas_w (W : World) (cs : List Value) (h l t0 t1 t2 t3 : Int) (L : LineAt cs h l t0 t1 t2 t3) : Calls Tryz.prog 26 #[.agg cs.toArray] W fun e w' => e = .returned (.tuple #[.int .i64 (offV (unfH t0 h l) t0 (unfH t1 h l) t1 (unfH t2 h l) t2 (unfH t3 h l) t3), .int .i64 (delV (unfH t0 h l) t0 (unfH t1 h l) t1 (unfH t2 h l) t2 (unfH t3 h l) t3)]) ∧ Below W.heap.size W w' := by
  have HL := Lib.hid L
  have e0 := arr_get L.c0
  have e1 := arr_get L.c1
  have e2 := arr_get L.s0
  have e3 := arr_get L.s1
  have e4 := arr_get L.s2
  have e5 := arr_get L.s3
  have l0 := L.c0
  have l1 := L.c1
  have l2 := L.s0
  have l3 := L.s1
  have l4 := L.s2
  have l5 := L.s3
  clear L
  have i0 : ∀ w : World, (Instr.index 48 (.agg #[.int .u64 t0, .int .u64 t1, .int .u64 t2, .int .u64 t3]) (.int .i64 0)).run Tryz.prog w = .ok (.int .u64 t0) w := fun _ => by kernel_rfl
  have i1 : ∀ w : World, (Instr.index 48 (.agg #[.int .u64 t0, .int .u64 t1, .int .u64 t2, .int .u64 t3]) (.int .i64 1)).run Tryz.prog w = .ok (.int .u64 t1) w := fun _ => by kernel_rfl
  have i2 : ∀ w : World, (Instr.index 48 (.agg #[.int .u64 t0, .int .u64 t1, .int .u64 t2, .int .u64 t3]) (.int .i64 2)).run Tryz.prog w = .ok (.int .u64 t2) w := fun _ => by kernel_rfl
  have i3 : ∀ w : World, (Instr.index 48 (.agg #[.int .u64 t0, .int .u64 t1, .int .u64 t2, .int .u64 t3]) (.int .i64 3)).run Tryz.prog w = .ok (.int .u64 t3) w := fun _ => by kernel_rfl
  have q0 := heap_alloc_new W (.cells cs.toArray 52)
  have hb := (Below.refl W.heap.size W).alloc (Nat.le_refl _) (.cells cs.toArray 52)
  have q1 := heap_alloc_new (W.alloc (.cells cs.toArray 52)) (.cells #[.int .i64 0, .int .u64 0, .int .i64 0, .int .u64 0, .int .i64 0, .int .u64 0, .int .i64 0, .int .u64 0] 112)
  have hb' := (Below.refl (W.alloc (.cells cs.toArray 52)).heap.size (W.alloc (.cells cs.toArray 52))).alloc (Nat.le_refl _) (.cells #[.int .i64 0, .int .u64 0, .int .i64 0, .int .u64 0, .int .i64 0, .int .u64 0, .int .i64 0, .int .u64 0] 112)
  have q0 := keepB hb' q0
  have hb := hb.trans (hb'.mono hb.size)
  clear hb'
  rw [alloc_size] at q1
  generalize hB : W.heap.size + 1 = B at q1
  go_enter Tryz.func26, Tryz.ntmps26
  go_wp2_with fail
  try rw [hB]
  generalize (W.alloc (.cells cs.toArray 52)).alloc (.cells #[.int .i64 0, .int .u64 0, .int .i64 0, .int .u64 0, .int .i64 0, .int .u64 0, .int .i64 0, .int .u64 0] 112) = X at q0 q1 hb ⊢
  have hWB : W.heap.size < B := by omega
  have a0 := cell_of (i := 0) q0 e0
  have a1 := cell_of (i := 1) q0 e1
  refine wp_loop_rounds 5 ?_
  rw [rounds_succ]
  go_wp2_with (go_at_call 43; refine (unf_w _ t0 h l HL.out.k0 HL.out.kl HL.out.kh).mono ?_; rintro e w2 ⟨rfl, hb2⟩; have q0 := keepB hb2 q0; have q1 := keepB hb2 q1; have hb := hb.trans (hb2.mono hb.size); clear hb2; have b0 := cell_of (i := 0) (v := .int .i64 0) q1 rfl; have b1 := cell_of (i := 1) (v := .int .u64 0) q1 rfl; have b2 := frozen_of_row _ _ 0 _ _ q1; have b3 := frozen_of_row _ _ 1 _ _ q1)
  have q0 := set_far (g := B) (i := 0) (j := 1) (u := .int .i64 (unfH t0 h l)) (v := .int .u64 t0) q0 (by omega)
  have q1 : (((w2.setCell ⟨B, 0, none⟩ (.int .i64 (unfH t0 h l))).setCell ⟨B, 1, none⟩ (.int .u64 t0)).heap[B]?) = some (.cells #[.int .i64 (unfH t0 h l), .int .u64 t0, .int .i64 0, .int .u64 0, .int .i64 0, .int .u64 0, .int .i64 0, .int .u64 0] 112) := set_two q1
  have hb := below_cell (i := 1) (v := .int .u64 t0) (below_cell (i := 0) (v := .int .i64 (unfH t0 h l)) hb (show W.heap.size ≤ B by omega)) (show W.heap.size ≤ B by omega)
  generalize ((w2.setCell ⟨B, 0, none⟩ (.int .i64 (unfH t0 h l))).setCell ⟨B, 1, none⟩ (.int .u64 t0)) = X0 at q0 q1 hb ⊢
  clear a0 a1 b0 b1 b2 b3
  have a0 := cell_of (i := 0) q0 e0
  have a1 := cell_of (i := 1) q0 e1
  rw [rounds_succ]
  go_wp2_with (go_at_call 43; refine (unf_w _ t1 h l HL.out.k1 HL.out.kl HL.out.kh).mono ?_; rintro e w2 ⟨rfl, hb2⟩; have q0 := keepB hb2 q0; have q1 := keepB hb2 q1; have hb := hb.trans (hb2.mono hb.size); clear hb2; have b0 := cell_of (i := 2) (v := .int .i64 0) q1 rfl; have b1 := cell_of (i := 3) (v := .int .u64 0) q1 rfl; have b2 := frozen_of_row _ _ 2 _ _ q1; have b3 := frozen_of_row _ _ 3 _ _ q1)
  have q0 := set_far (g := B) (i := 2) (j := 3) (u := .int .i64 (unfH t1 h l)) (v := .int .u64 t1) q0 (by omega)
  have q1 : (((w2.setCell ⟨B, 2, none⟩ (.int .i64 (unfH t1 h l))).setCell ⟨B, 3, none⟩ (.int .u64 t1)).heap[B]?) = some (.cells #[.int .i64 (unfH t0 h l), .int .u64 t0, .int .i64 (unfH t1 h l), .int .u64 t1, .int .i64 0, .int .u64 0, .int .i64 0, .int .u64 0] 112) := set_two q1
  have hb := below_cell (i := 3) (v := .int .u64 t1) (below_cell (i := 2) (v := .int .i64 (unfH t1 h l)) hb (show W.heap.size ≤ B by omega)) (show W.heap.size ≤ B by omega)
  generalize ((w2.setCell ⟨B, 2, none⟩ (.int .i64 (unfH t1 h l))).setCell ⟨B, 3, none⟩ (.int .u64 t1)) = X1 at q0 q1 hb ⊢
  clear a0 a1 b0 b1 b2 b3
  have a0 := cell_of (i := 0) q0 e0
  have a1 := cell_of (i := 1) q0 e1
  rw [rounds_succ]
  go_wp2_with (go_at_call 43; refine (unf_w _ t2 h l HL.out.k2 HL.out.kl HL.out.kh).mono ?_; rintro e w2 ⟨rfl, hb2⟩; have q0 := keepB hb2 q0; have q1 := keepB hb2 q1; have hb := hb.trans (hb2.mono hb.size); clear hb2; have b0 := cell_of (i := 4) (v := .int .i64 0) q1 rfl; have b1 := cell_of (i := 5) (v := .int .u64 0) q1 rfl; have b2 := frozen_of_row _ _ 4 _ _ q1; have b3 := frozen_of_row _ _ 5 _ _ q1)
  have q0 := set_far (g := B) (i := 4) (j := 5) (u := .int .i64 (unfH t2 h l)) (v := .int .u64 t2) q0 (by omega)
  have q1 : (((w2.setCell ⟨B, 4, none⟩ (.int .i64 (unfH t2 h l))).setCell ⟨B, 5, none⟩ (.int .u64 t2)).heap[B]?) = some (.cells #[.int .i64 (unfH t0 h l), .int .u64 t0, .int .i64 (unfH t1 h l), .int .u64 t1, .int .i64 (unfH t2 h l), .int .u64 t2, .int .i64 0, .int .u64 0] 112) := set_two q1
  have hb := below_cell (i := 5) (v := .int .u64 t2) (below_cell (i := 4) (v := .int .i64 (unfH t2 h l)) hb (show W.heap.size ≤ B by omega)) (show W.heap.size ≤ B by omega)
  generalize ((w2.setCell ⟨B, 4, none⟩ (.int .i64 (unfH t2 h l))).setCell ⟨B, 5, none⟩ (.int .u64 t2)) = X2 at q0 q1 hb ⊢
  clear a0 a1 b0 b1 b2 b3
  have a0 := cell_of (i := 0) q0 e0
  have a1 := cell_of (i := 1) q0 e1
  rw [rounds_succ]
  go_wp2_with (go_at_call 43; refine (unf_w _ t3 h l HL.out.k3 HL.out.kl HL.out.kh).mono ?_; rintro e w2 ⟨rfl, hb2⟩; have q0 := keepB hb2 q0; have q1 := keepB hb2 q1; have hb := hb.trans (hb2.mono hb.size); clear hb2; have b0 := cell_of (i := 6) (v := .int .i64 0) q1 rfl; have b1 := cell_of (i := 7) (v := .int .u64 0) q1 rfl; have b2 := frozen_of_row _ _ 6 _ _ q1; have b3 := frozen_of_row _ _ 7 _ _ q1)
  have q0 := set_far (g := B) (i := 6) (j := 7) (u := .int .i64 (unfH t3 h l)) (v := .int .u64 t3) q0 (by omega)
  have q1 : (((w2.setCell ⟨B, 6, none⟩ (.int .i64 (unfH t3 h l))).setCell ⟨B, 7, none⟩ (.int .u64 t3)).heap[B]?) = some (.cells #[.int .i64 (unfH t0 h l), .int .u64 t0, .int .i64 (unfH t1 h l), .int .u64 t1, .int .i64 (unfH t2 h l), .int .u64 t2, .int .i64 (unfH t3 h l), .int .u64 t3] 112) := set_two q1
  have hb := below_cell (i := 7) (v := .int .u64 t3) (below_cell (i := 6) (v := .int .i64 (unfH t3 h l)) hb (show W.heap.size ≤ B by omega)) (show W.heap.size ≤ B by omega)
  generalize ((w2.setCell ⟨B, 6, none⟩ (.int .i64 (unfH t3 h l))).setCell ⟨B, 7, none⟩ (.int .u64 t3)) = X3 at q0 q1 hb ⊢
  clear a0 a1 b0 b1 b2 b3
  have a0 := cell_of (i := 0) q0 e0
  have a1 := cell_of (i := 1) q0 e1
  rw [rounds_succ]
  go_wp2_with fail
  have hK : ∀ w' : World, Below X3.heap.size X3 w' → (w'.cell? ⟨B, 0, none⟩ = some (.int .i64 (unfH t0 h l)) ∧ w'.cell? ⟨B, 1, none⟩ = some (.int .u64 t0) ∧ w'.cell? ⟨B, 2, none⟩ = some (.int .i64 (unfH t1 h l)) ∧ w'.cell? ⟨B, 3, none⟩ = some (.int .u64 t1) ∧ w'.cell? ⟨B, 4, none⟩ = some (.int .i64 (unfH t2 h l)) ∧ w'.cell? ⟨B, 5, none⟩ = some (.int .u64 t2) ∧ w'.cell? ⟨B, 6, none⟩ = some (.int .i64 (unfH t3 h l)) ∧ w'.cell? ⟨B, 7, none⟩ = some (.int .u64 t3) ∧ Below X3.heap.size X3 w') := fun w' hb' => by
    have q := keepB hb' q1
    exact ⟨cell_of (i := 0) (v := .int .i64 (unfH t0 h l)) q rfl, cell_of (i := 1) (v := .int .u64 t0) q rfl, cell_of (i := 2) (v := .int .i64 (unfH t1 h l)) q rfl, cell_of (i := 3) (v := .int .u64 t1) q rfl, cell_of (i := 4) (v := .int .i64 (unfH t2 h l)) q rfl, cell_of (i := 5) (v := .int .u64 t2) q rfl, cell_of (i := 6) (v := .int .i64 (unfH t3 h l)) q rfl, cell_of (i := 7) (v := .int .u64 t3) q rfl, hb'⟩
  have HK := Lib.hid hK
  have hT : ∀ w' w'' : World, Below X3.heap.size X3 w' → Below w'.heap.size w' w'' → Below X3.heap.size X3 w'' := fun w' w'' h1 h2 => h1.trans (h2.mono h1.size)
  have HT := Lib.hid hT
  have HB := Lib.hid hb
  clear hK hT q0 q1 hb a0 a1 i0 i1 i2 i3 l0 l1 l2 l3 l4 l5 e0 e1 e2 e3 e4 e5
  go_region_held3 (fun w' => w'.cell? ⟨B, 0, none⟩ = some (.int .i64 (unfH t0 h l)) ∧ w'.cell? ⟨B, 1, none⟩ = some (.int .u64 t0) ∧ w'.cell? ⟨B, 2, none⟩ = some (.int .i64 (unfH t1 h l)) ∧ w'.cell? ⟨B, 3, none⟩ = some (.int .u64 t1) ∧ w'.cell? ⟨B, 4, none⟩ = some (.int .i64 (unfH t2 h l)) ∧ w'.cell? ⟨B, 5, none⟩ = some (.int .u64 t2) ∧ w'.cell? ⟨B, 6, none⟩ = some (.int .i64 (unfH t3 h l)) ∧ w'.cell? ⟨B, 7, none⟩ = some (.int .u64 t3) ∧ Below X3.heap.size X3 w')
    (first
      | with_reducible assumption
      | exact HK.out _ ((Below.refl _ _).drew)
      | exact HK.out _ (HT.out _ _ (‹_ ∧ _ ∧ _ ∧ _ ∧ _ ∧ _ ∧ _ ∧ _ ∧ Below X3.heap.size X3 _›.2.2.2.2.2.2.2.2) (by assumption)))
    (first
      | (go_at_call 44; refine (offset_w _ _ _ _ _ _ _ _ _ HL.out.k0 HL.out.k1 HL.out.k2 HL.out.k3).mono ?_; rintro e w1 ⟨rfl, hb1⟩)
      | (go_at_call 45; refine (delay_w _ _ _ _ _ _ _ _ _ HL.out.k0 HL.out.k1 HL.out.k2 HL.out.k3).mono ?_; rintro e w1 ⟨rfl, hb1⟩))
  all_goals go_wp2_with fail
  all_goals (go_ret2; have hz := (‹_ ∧ _ ∧ _ ∧ _ ∧ _ ∧ _ ∧ _ ∧ _ ∧ Below X3.heap.size X3 _›.2.2.2.2.2.2.2.2); exact ⟨rfl, HB.out.trans (hz.mono HB.out.size)⟩)
end Go.Proofs.YtmnoegfehgoalaaGreatDoor.cx
namespace Go.Proofs.YtmnoegfehgoalaaGreatDoor.cx
open Go.RowKit Go.Extern.Stop Go.Stop Go.Extern Go.Cx
set_option linter.unusedVariables false
def addrK : List PK := [.bool, .int .u8, .int .u8, .int .u8, .int .u8, .int .u8, .int .u8, .int .u8, .int .u8, .int .u8, .int .u8, .int .u8, .int .u8, .int .u8, .int .u8, .int .u8, .int .u8]
def cellEq : Value → Value → Bool
  | .bool a, .bool b => a == b
  | .int _ a, .int _ b => a == b
  | _, _ => false
/-- Are two addresses the same? -/
def addrEq (A B : List Value) : Bool := (A.zip B).all fun p => cellEq p.1 p.2
set_option maxRecDepth 1000000 in
theorem lits (b : Bool) (n0 n1 n2 n3 n4 n5 n6 n7 n8 n9 n10 n11 n12 n13 n14 n15 : Int) (h0 : (Lit.int .u8 n0).wf = true) (h1 : (Lit.int .u8 n1).wf = true) (h2 : (Lit.int .u8 n2).wf = true) (h3 : (Lit.int .u8 n3).wf = true) (h4 : (Lit.int .u8 n4).wf = true) (h5 : (Lit.int .u8 n5).wf = true) (h6 : (Lit.int .u8 n6).wf = true) (h7 : (Lit.int .u8 n7).wf = true) (h8 : (Lit.int .u8 n8).wf = true) (h9 : (Lit.int .u8 n9).wf = true) (h10 : (Lit.int .u8 n10).wf = true) (h11 : (Lit.int .u8 n11).wf = true) (h12 : (Lit.int .u8 n12).wf = true) (h13 : (Lit.int .u8 n13).wf = true) (h14 : (Lit.int .u8 n14).wf = true) (h15 : (Lit.int .u8 n15).wf = true) : Tryz.prog.keyLits 4 37 [.bool b, .int .u8 n0, .int .u8 n1, .int .u8 n2, .int .u8 n3, .int .u8 n4, .int .u8 n5, .int .u8 n6, .int .u8 n7, .int .u8 n8, .int .u8 n9, .int .u8 n10, .int .u8 n11, .int .u8 n12, .int .u8 n13, .int .u8 n14, .int .u8 n15] = some [.bool b, .int .u8 n0, .int .u8 n1, .int .u8 n2, .int .u8 n3, .int .u8 n4, .int .u8 n5, .int .u8 n6, .int .u8 n7, .int .u8 n8, .int .u8 n9, .int .u8 n10, .int .u8 n11, .int .u8 n12, .int .u8 n13, .int .u8 n14, .int .u8 n15] := by
  have e0 : Tryz.prog.cellsOf 37 = 17 := by kernel_rfl
  have e1 : Tryz.prog.cellsOf 35 = 16 := by kernel_rfl
  have e2 : Tryz.prog.cellsOf 5 = 1 := by kernel_rfl
  have e3 : Tryz.prog.cellsOf 4 = 1 := by kernel_rfl
  simp [Program.keyLits, Tryz.underlying37, Tryz.underlying35, Tryz.underlying5, Tryz.underlying4, List.range_succ, e0, e1, e2, e3, h0, h1, h2, h3, h4, h5, h6, h7, h8, h9, h10, h11, h12, h13, h14, h15]
theorem addr_form (A : List Value) (h : RowOk addrK A) : ∃ (b : Bool) (n0 n1 n2 n3 n4 n5 n6 n7 n8 n9 n10 n11 n12 n13 n14 n15 : Int), A = [Value.bool b, Value.int .u8 n0, Value.int .u8 n1, Value.int .u8 n2, Value.int .u8 n3, Value.int .u8 n4, Value.int .u8 n5, Value.int .u8 n6, Value.int .u8 n7, Value.int .u8 n8, Value.int .u8 n9, Value.int .u8 n10, Value.int .u8 n11, Value.int .u8 n12, Value.int .u8 n13, Value.int .u8 n14, Value.int .u8 n15] ∧ (Lit.int .u8 n0).wf = true ∧ (Lit.int .u8 n1).wf = true ∧ (Lit.int .u8 n2).wf = true ∧ (Lit.int .u8 n3).wf = true ∧ (Lit.int .u8 n4).wf = true ∧ (Lit.int .u8 n5).wf = true ∧ (Lit.int .u8 n6).wf = true ∧ (Lit.int .u8 n7).wf = true ∧ (Lit.int .u8 n8).wf = true ∧ (Lit.int .u8 n9).wf = true ∧ (Lit.int .u8 n10).wf = true ∧ (Lit.int .u8 n11).wf = true ∧ (Lit.int .u8 n12).wf = true ∧ (Lit.int .u8 n13).wf = true ∧ (Lit.int .u8 n14).wf = true ∧ (Lit.int .u8 n15).wf = true := by
  unfold addrK at h
  cases A with
  | nil => exact False.elim h
  | cons a A =>
    obtain ⟨⟨b, rfl⟩, h⟩ := h
    cases A with
    | nil => exact False.elim h
    | cons a A =>
    obtain ⟨⟨n0, rfl, h0⟩, h⟩ := h
    cases A with
    | nil => exact False.elim h
    | cons a A =>
    obtain ⟨⟨n1, rfl, h1⟩, h⟩ := h
    cases A with
    | nil => exact False.elim h
    | cons a A =>
    obtain ⟨⟨n2, rfl, h2⟩, h⟩ := h
    cases A with
    | nil => exact False.elim h
    | cons a A =>
    obtain ⟨⟨n3, rfl, h3⟩, h⟩ := h
    cases A with
    | nil => exact False.elim h
    | cons a A =>
    obtain ⟨⟨n4, rfl, h4⟩, h⟩ := h
    cases A with
    | nil => exact False.elim h
    | cons a A =>
    obtain ⟨⟨n5, rfl, h5⟩, h⟩ := h
    cases A with
    | nil => exact False.elim h
    | cons a A =>
    obtain ⟨⟨n6, rfl, h6⟩, h⟩ := h
    cases A with
    | nil => exact False.elim h
    | cons a A =>
    obtain ⟨⟨n7, rfl, h7⟩, h⟩ := h
    cases A with
    | nil => exact False.elim h
    | cons a A =>
    obtain ⟨⟨n8, rfl, h8⟩, h⟩ := h
    cases A with
    | nil => exact False.elim h
    | cons a A =>
    obtain ⟨⟨n9, rfl, h9⟩, h⟩ := h
    cases A with
    | nil => exact False.elim h
    | cons a A =>
    obtain ⟨⟨n10, rfl, h10⟩, h⟩ := h
    cases A with
    | nil => exact False.elim h
    | cons a A =>
    obtain ⟨⟨n11, rfl, h11⟩, h⟩ := h
    cases A with
    | nil => exact False.elim h
    | cons a A =>
    obtain ⟨⟨n12, rfl, h12⟩, h⟩ := h
    cases A with
    | nil => exact False.elim h
    | cons a A =>
    obtain ⟨⟨n13, rfl, h13⟩, h⟩ := h
    cases A with
    | nil => exact False.elim h
    | cons a A =>
    obtain ⟨⟨n14, rfl, h14⟩, h⟩ := h
    cases A with
    | nil => exact False.elim h
    | cons a A =>
    obtain ⟨⟨n15, rfl, h15⟩, h⟩ := h
    cases A with
    | cons a A => exact False.elim h
    | nil =>
    exact ⟨b, n0, n1, n2, n3, n4, n5, n6, n7, n8, n9, n10, n11, n12, n13, n14, n15, rfl, h0, h1, h2, h3, h4, h5, h6, h7, h8, h9, h10, h11, h12, h13, h14, h15⟩
set_option maxRecDepth 1000000 in
theorem addr_run (A B : List Value) (hA : RowOk addrK A) (hB : RowOk addrK B) (w : World) : (Op.equal 37 (.agg A.toArray) (.agg B.toArray)).run Tryz.prog w = .ok (addrEq A B) w := by
  obtain ⟨b, n0, n1, n2, n3, n4, n5, n6, n7, n8, n9, n10, n11, n12, n13, n14, n15, rfl, h0, h1, h2, h3, h4, h5, h6, h7, h8, h9, h10, h11, h12, h13, h14, h15⟩ := addr_form A hA
  obtain ⟨c, m0, m1, m2, m3, m4, m5, m6, m7, m8, m9, m10, m11, m12, m13, m14, m15, rfl, g0, g1, g2, g3, g4, g5, g6, g7, g8, g9, g10, g11, g12, g13, g14, g15⟩ := addr_form B hB
  have l1 := lits b n0 n1 n2 n3 n4 n5 n6 n7 n8 n9 n10 n11 n12 n13 n14 n15 h0 h1 h2 h3 h4 h5 h6 h7 h8 h9 h10 h11 h12 h13 h14 h15
  have l2 := lits c m0 m1 m2 m3 m4 m5 m6 m7 m8 m9 m10 m11 m12 m13 m14 m15 g0 g1 g2 g3 g4 g5 g6 g7 g8 g9 g10 g11 g12 g13 g14 g15
  obtain ⟨r, hr, hiff⟩ := run_equalIn_deep (P := Tryz.prog) 9996 4 37 (by kernel_rfl) w 4 4 (.agg #[.bool b, .int .u8 n0, .int .u8 n1, .int .u8 n2, .int .u8 n3, .int .u8 n4, .int .u8 n5, .int .u8 n6, .int .u8 n7, .int .u8 n8, .int .u8 n9, .int .u8 n10, .int .u8 n11, .int .u8 n12, .int .u8 n13, .int .u8 n14, .int .u8 n15]) (.agg #[.bool c, .int .u8 m0, .int .u8 m1, .int .u8 m2, .int .u8 m3, .int .u8 m4, .int .u8 m5, .int .u8 m6, .int .u8 m7, .int .u8 m8, .int .u8 m9, .int .u8 m10, .int .u8 m11, .int .u8 m12, .int .u8 m13, .int .u8 m14, .int .u8 m15]) _ _ (by kernel_rfl) (by kernel_rfl) l1 l2
  have hrr : r = addrEq [Value.bool b, Value.int .u8 n0, Value.int .u8 n1, Value.int .u8 n2, Value.int .u8 n3, Value.int .u8 n4, Value.int .u8 n5, Value.int .u8 n6, Value.int .u8 n7, Value.int .u8 n8, Value.int .u8 n9, Value.int .u8 n10, Value.int .u8 n11, Value.int .u8 n12, Value.int .u8 n13, Value.int .u8 n14, Value.int .u8 n15] [Value.bool c, Value.int .u8 m0, Value.int .u8 m1, Value.int .u8 m2, Value.int .u8 m3, Value.int .u8 m4, Value.int .u8 m5, Value.int .u8 m6, Value.int .u8 m7, Value.int .u8 m8, Value.int .u8 m9, Value.int .u8 m10, Value.int .u8 m11, Value.int .u8 m12, Value.int .u8 m13, Value.int .u8 m14, Value.int .u8 m15] := by
    rw [Bool.eq_iff_iff, hiff]
    simp [addrEq, cellEq]
  rw [hrr] at hr
  exact hr
end Go.Proofs.YtmnoegfehgoalaaGreatDoor.cx
namespace Go.Proofs.YtmnoegfehgoalaaGreatDoor.cx
open Go.RowKit Go.Extern.Stop Go.Stop Go.Extern Go.Cx
set_option linter.unusedVariables false
def lineK : List PK := [.int .i64, .int .u64] ++ (addrK ++ (addrK ++ [.int .u64, .int .u64, .int .u64, .int .u64, .bool, .int .u8, .int .u8, .int .u8, .int .u8, .int .i8, .int .i8, .int .i64, .int .i64, .int .u8, .int .u8, .int .u8, .int .u8]))
def sampK : List PK := addrK ++ (.int .u16 :: (addrK ++ [.int .u16, .int .i64, .int .u64, .int .i64, .int .u64, .int .i64, .int .u64, .int .i64, .int .u64, .int .i64, .int .i64, .int .i64, .int .u8]))
theorem line_kinds : kinds Tryz.prog 6 52 = some lineK := by kernel_rfl
theorem samp_kinds : kinds Tryz.prog 6 47 = some sampK := by kernel_rfl
/-- The number in a cell. -/
def num (cs : List Value) (i : Nat) : Int := match cs[i]? with
  | some (.int _ n) => n
  | _ => 0
theorem get_num {ks : List PK} {cs : List Value} {i : Nat} {k : IntKind} (h : RowOk ks cs) (hk : ks[i]? = some (.int k)) : cs[i]? = some (.int k (num cs i)) ∧ (Lit.int k (num cs i)).wf = true := by
  obtain ⟨v, hv, n, rfl, hw⟩ := h.get i _ hk
  have : num cs i = n := by unfold num; rw [hv]
  rw [this]
  exact ⟨hv, hw⟩
theorem row_part : ∀ {ks : List PK} {cs : List Value} (i n : Nat), RowOk ks cs → RowOk ((ks.drop i).take n) ((cs.drop i).take n) := by
  intro ks
  induction ks with
  | nil =>
    intro cs i n h
    cases cs with
    | nil => simp [RowOk]
    | cons c cs => exact False.elim h
  | cons k ks ih =>
    intro cs i n h
    cases cs with
    | nil => exact False.elim h
    | cons c cs =>
      cases i with
      | succ i => exact ih i n h.2
      | zero =>
        cases n with
        | zero => simp [RowOk]
        | succ n =>
          have := ih 0 n h.2
          rw [List.drop_zero, List.drop_zero] at this
          exact ⟨h.1, this⟩
theorem wf_u64 {n : Int} (h : (Lit.int .u64 n).wf = true) : 0 ≤ n ∧ n < 18446744073709551616 := by
  have h2 : (decide ((0 : Int) ≤ n) && decide (n ≤ 18446744073709551615)) = true := h
  simp at h2
  omega
theorem wf_i64 {n : Int} (h : (Lit.int .i64 n).wf = true) : -9223372036854775808 ≤ n ∧ n < 9223372036854775808 := by
  have h2 : (decide ((-9223372036854775808 : Int) ≤ n) && decide (n ≤ 9223372036854775807)) = true := h
  simp at h2
  omega
theorem line_at {l : List Value} (h : RowOk lineK l) : LineAt l (num l 0) (num l 1) (num l 36) (num l 37) (num l 38) (num l 39) :=
  ⟨h.length, (get_num h rfl).1, (get_num h rfl).1, (get_num h rfl).1, (get_num h rfl).1, (get_num h rfl).1, (get_num h rfl).1, wf_i64 (get_num (i := 0) (k := .i64) h rfl).2, wf_u64 (get_num (i := 1) (k := .u64) h rfl).2, wf_u64 (get_num (i := 36) (k := .u64) h rfl).2, wf_u64 (get_num (i := 37) (k := .u64) h rfl).2, wf_u64 (get_num (i := 38) (k := .u64) h rfl).2, wf_u64 (get_num (i := 39) (k := .u64) h rfl).2⟩
def part (cs : List Value) (i n : Nat) : List Value := (cs.drop i).take n
def inW (d : Int) : Bool := !(decide (d < -8) || decide (8 < d))
/-- Does a line tell a sample? -/
def tellsV (l s : List Value) : Bool := addrEq (part l 2 17) (part s 18 17) && (addrEq (part l 19 17) (part s 0 17) && (inW (wayV (num s 37) (num l 36)) && (inW (wayV (num s 39) (num l 37)) && inW (wayV (num s 41) (num l 38)))))
end Go.Proofs.YtmnoegfehgoalaaGreatDoor.cx
namespace Go.Proofs.YtmnoegfehgoalaaGreatDoor.cx
open Go.RowKit Go.Extern.Stop Go.Stop Go.Extern Go.Cx
set_option linter.unusedVariables false
theorem wpList_ld {P : Program} {ops : Array Oper} {rest : List Oper} {a : Act} {w : World} {Q : Exit → Act → World → Prop} {ty t : TypeId} {x : Operand} {p : String} {e : Array Edge} {g : Option (Nat × Bool)} (d : Nat)
    {b o : Nat} {cs : List Value} {td : TypeDesc} (hw : Region.wanted ⟨some d, .load ty x, t, p, e, g⟩ (yielded ops a.tmps) = true) (hx : a.eval x = .pointer (some ⟨b, o, none⟩)) (hd : td.isRow = true) (hc : w.rangeAt b o cs)
    (hu : P.underlying ty = some td) (hi : (P.info? ty).map (·.size) = some cs.length)
    (h : wpList P ops Q rest (a.put (some d) (.agg cs.toArray)) w) : wpList P ops Q (⟨some d, .load ty x, t, p, e, g⟩ :: rest) a w := by
  unfold wpList
  rw [if_pos hw]
  exact .inl (wp_load_mid ty x rfl b o hx cs td hc hu hd hi h)
theorem wpList_neq {P : Program} {ops : Array Oper} {rest : List Oper} {a : Act} {w : World} {Q : Exit → Act → World → Prop} {ty t u : TypeId} {x y : Operand} {p : String} {e : Array Edge} {g : Option (Nat × Bool)} (d : Nat) (A B : List Value) {r : Bool} (hw : Region.wanted ⟨some d, .binOp .neq ty x y u, t, p, e, g⟩ (yielded ops a.tmps) = true)
    (hx : a.eval x = .agg A.toArray) (hy : a.eval y = .agg B.toArray) (hg : (eqGuard .neq ty x y (.agg A.toArray) (.agg B.toArray)).run P w = .ok () w) (hr : (Op.equal ty (.agg A.toArray) (.agg B.toArray)).run P w = .ok r w)
    (h : wpList P ops Q rest (a.put (some d) (.bool (!r))) w) : wpList P ops Q (⟨some d, .binOp .neq ty x y u, t, p, e, g⟩ :: rest) a w := by
  unfold wpList
  rw [if_pos hw]
  refine .inl ?_
  unfold Oper.wp execOp
  simp only [hx, hy, Sem.run_bind, hg, Result.andThen_ok, binOp, hr, Sem.run_pure, Oper.upon]
  exact h
theorem bT {w w1 w2 : World} (h : Below w.heap.size w w1) (k : Below w1.heap.size w1 w2) : Below w.heap.size w w2 := h.trans (k.mono h.size)
theorem guard_addr (A B : List Value) (x y : Operand) (w : World) : (eqGuard .neq 37 x y (.agg A.toArray) (.agg B.toArray)).run Tryz.prog w = .ok () w := by
  have h1 : Tryz.prog.eqGuardType Tryz.prog.depth 37 = false := by kernel_rfl
  unfold eqGuard
  simp only [Bool.not_true, Bool.false_eq_true, if_false, Sem.run_bind, run_program, Result.andThen_ok, h1, Bool.not_false, if_true, Sem.run_pure]
set_option maxHeartbeats 4000000 in
set_option maxRecDepth 1000000 in
theorem tells_w (W : World) (l s : List Value) (hl : RowOk lineK l) (hs : RowOk sampK s) : Calls Tryz.prog 25 #[.agg l.toArray, .agg s.toArray] W fun e w' => e = .returned (.bool (tellsV l s)) ∧ Below W.heap.size W w' := by
  generalize hz : tellsV l s = z
  unfold tellsV at hz
  have HZ := Lib.hid hz
  clear hz
  have qA := addr_run (part l 2 17) (part s 18 17) (row_part 2 17 hl) (row_part 18 17 hs)
  have qB := addr_run (part l 19 17) (part s 0 17) (row_part 19 17 hl) (row_part 0 17 hs)
  have p1 : (part l 2 17).length = 17 := (row_part 2 17 hl).length
  have p2 : (part l 19 17).length = 17 := (row_part 19 17 hl).length
  have p3 : (part s 18 17).length = 17 := (row_part 18 17 hs).length
  have p4 : (part s 0 17).length = 17 := (row_part 0 17 hs).length
  have s0h := get_num (i := 36) (k := .i64) hs rfl
  have s0l := get_num (i := 37) (k := .u64) hs rfl
  have t0 := get_num (i := 36) (k := .u64) hl rfl
  have s1h := get_num (i := 38) (k := .i64) hs rfl
  have s1l := get_num (i := 39) (k := .u64) hs rfl
  have t1 := get_num (i := 37) (k := .u64) hl rfl
  have s2h := get_num (i := 40) (k := .i64) hs rfl
  have s2l := get_num (i := 41) (k := .u64) hs rfl
  have t2 := get_num (i := 38) (k := .u64) hl rfl
  have q0 := heap_alloc_new W (.cells l.toArray 52)
  have hb := (Below.refl W.heap.size W).alloc (Nat.le_refl _) (.cells l.toArray 52)
  have q1 := heap_alloc_new (W.alloc (.cells l.toArray 52)) (.cells s.toArray 47)
  have hb' := (Below.refl (W.alloc (.cells l.toArray 52)).heap.size (W.alloc (.cells l.toArray 52))).alloc (Nat.le_refl _) (.cells s.toArray 47)
  have q0 := keepB hb' q0
  have hb := hb.trans (hb'.mono hb.size)
  clear hb'
  rw [alloc_size] at q1
  have rg (b : Nat) (cs : List Value) (t : TypeId) (hq : ((W.alloc (.cells l.toArray 52)).alloc (.cells s.toArray 47)).heap[b]? = some (.cells cs.toArray t)) (i n : Nat) : ((W.alloc (.cells l.toArray 52)).alloc (.cells s.toArray 47)).rangeAt b i (part cs i n) := by
    have h0 : ((W.alloc (.cells l.toArray 52)).alloc (.cells s.toArray 47)).rangeAt b 0 cs := fun j v hj => by
      rw [Nat.zero_add]
      exact cell_of hq (by simpa using hj)
    have := range_part h0 i n
    rwa [Nat.zero_add] at this
  have uA := Tryz.underlying37
  have j1 : (Tryz.prog.info? 37).map (·.size) = some (part l 2 17).length := by rw [p1]; kernel_rfl
  have j2 : (Tryz.prog.info? 37).map (·.size) = some (part l 19 17).length := by rw [p2]; kernel_rfl
  have j3 : (Tryz.prog.info? 37).map (·.size) = some (part s 18 17).length := by rw [p3]; kernel_rfl
  have j4 : (Tryz.prog.info? 37).map (·.size) = some (part s 0 17).length := by rw [p4]; kernel_rfl
  have RG := Lib.hid (And.intro (And.intro (rg _ _ _ q0 2 17) (rg _ _ _ q0 19 17)) (And.intro (rg _ _ _ q1 18 17) (rg _ _ _ q1 0 17)))
  have J := Lib.hid (And.intro uA (And.intro (And.intro j1 j2) (And.intro j3 j4)))
  clear uA rg p1 p2 p3 p4 j1 j2 j3 j4
  have HS := Lib.hid hs
  have HL := Lib.hid hl
  clear hs hl
  have QA := Lib.hid qA
  have QB := Lib.hid qB
  clear qA qB
  cases hA : addrEq (part l 2 17) (part s 18 17) with
  | false =>
    have QA := Lib.hid (show ∀ w : World, (Op.equal 37 (.agg (part l 2 17).toArray) (.agg (part s 18 17).toArray)).run Tryz.prog w = .ok false w from by rw [← hA]; exact QA.out)
    have hz : z = false := by rw [← HZ.out]; simp [inW, hA]
    subst hz
    go_enter Tryz.func25, Tryz.ntmps25
    go_wp2_with (first
      | ((with_reducible refine wpList_ld 9 ?_ ?_ ?_ RG.out.1.1 J.out.1 J.out.2.1.1 ?_); rfl; rfl; rfl)
      | ((with_reducible refine wpList_ld 13 ?_ ?_ ?_ RG.out.2.1 J.out.1 J.out.2.2.1 ?_); rfl; rfl; rfl)
      | ((with_reducible refine wpList_neq 14 (part l 2 17) (part s 18 17) ?_ ?_ ?_ (guard_addr _ _ _ _ _) (QA.out _) ?_); rfl; rfl; rfl)
      | ((with_reducible refine wpList_ld 17 ?_ ?_ ?_ RG.out.1.2 J.out.1 J.out.2.1.2 ?_); rfl; rfl; rfl)
      | ((with_reducible refine wpList_ld 21 ?_ ?_ ?_ RG.out.2.2 J.out.1 J.out.2.2.2 ?_); rfl; rfl; rfl)
      | ((with_reducible refine wpList_neq 22 (part l 19 17) (part s 0 17) ?_ ?_ ?_ (guard_addr _ _ _ _ _) (QB.out _) ?_); rfl; rfl; rfl))
    go_ret
    exact ⟨rfl, hb⟩
  | true =>
    have QA := Lib.hid (show ∀ w : World, (Op.equal 37 (.agg (part l 2 17).toArray) (.agg (part s 18 17).toArray)).run Tryz.prog w = .ok true w from by rw [← hA]; exact QA.out)
    cases hB : addrEq (part l 19 17) (part s 0 17) with
    | false =>
      have QB := Lib.hid (show ∀ w : World, (Op.equal 37 (.agg (part l 19 17).toArray) (.agg (part s 0 17).toArray)).run Tryz.prog w = .ok false w from by rw [← hB]; exact QB.out)
      have hz : z = false := by rw [← HZ.out]; simp [inW, hA, hB]
      subst hz
      go_enter Tryz.func25, Tryz.ntmps25
      go_wp2_with (first
        | ((with_reducible refine wpList_ld 9 ?_ ?_ ?_ RG.out.1.1 J.out.1 J.out.2.1.1 ?_); rfl; rfl; rfl)
        | ((with_reducible refine wpList_ld 13 ?_ ?_ ?_ RG.out.2.1 J.out.1 J.out.2.2.1 ?_); rfl; rfl; rfl)
        | ((with_reducible refine wpList_neq 14 (part l 2 17) (part s 18 17) ?_ ?_ ?_ (guard_addr _ _ _ _ _) (QA.out _) ?_); rfl; rfl; rfl)
        | ((with_reducible refine wpList_ld 17 ?_ ?_ ?_ RG.out.1.2 J.out.1 J.out.2.1.2 ?_); rfl; rfl; rfl)
        | ((with_reducible refine wpList_ld 21 ?_ ?_ ?_ RG.out.2.2 J.out.1 J.out.2.2.2 ?_); rfl; rfl; rfl)
        | ((with_reducible refine wpList_neq 22 (part l 19 17) (part s 0 17) ?_ ?_ ?_ (guard_addr _ _ _ _ _) (QB.out _) ?_); rfl; rfl; rfl))
      go_ret
      exact ⟨rfl, hb⟩
    | true =>
      have QB := Lib.hid (show ∀ w : World, (Op.equal 37 (.agg (part l 19 17).toArray) (.agg (part s 0 17).toArray)).run Tryz.prog w = .ok true w from by rw [← hB]; exact QB.out)
      have a0 := cell_of (i := 36) q1 (arr_get s0h.1)
      have a1 := cell_of (i := 37) q1 (arr_get s0l.1)
      have a2 := cell_of (i := 38) q1 (arr_get s1h.1)
      have a3 := cell_of (i := 39) q1 (arr_get s1l.1)
      have a4 := cell_of (i := 40) q1 (arr_get s2h.1)
      have a5 := cell_of (i := 41) q1 (arr_get s2l.1)
      go_enter Tryz.func25, Tryz.ntmps25
      go_wp2_with (first
        | ((with_reducible refine wpList_ld 9 ?_ ?_ ?_ RG.out.1.1 J.out.1 J.out.2.1.1 ?_); rfl; rfl; rfl)
        | ((with_reducible refine wpList_ld 13 ?_ ?_ ?_ RG.out.2.1 J.out.1 J.out.2.2.1 ?_); rfl; rfl; rfl)
        | ((with_reducible refine wpList_neq 14 (part l 2 17) (part s 18 17) ?_ ?_ ?_ (guard_addr _ _ _ _ _) (QA.out _) ?_); rfl; rfl; rfl)
        | ((with_reducible refine wpList_ld 17 ?_ ?_ ?_ RG.out.1.2 J.out.1 J.out.2.1.2 ?_); rfl; rfl; rfl)
        | ((with_reducible refine wpList_ld 21 ?_ ?_ ?_ RG.out.2.2 J.out.1 J.out.2.2.2 ?_); rfl; rfl; rfl)
        | ((with_reducible refine wpList_neq 22 (part l 19 17) (part s 0 17) ?_ ?_ ?_ (guard_addr _ _ _ _ _) (QB.out _) ?_); rfl; rfl; rfl))
      have i0 : ∀ w : World, (Instr.index 111 (.agg #[.int .i64 (num s 36), .int .u64 (num s 37), .int .i64 (num s 38), .int .u64 (num s 39), .int .i64 (num s 40), .int .u64 (num s 41)]) (.int .i64 0)).run Tryz.prog w = .ok (wd (num s 36) (num s 37)) w := fun _ => by kernel_rfl
      have i1 : ∀ w : World, (Instr.index 111 (.agg #[.int .i64 (num s 36), .int .u64 (num s 37), .int .i64 (num s 38), .int .u64 (num s 39), .int .i64 (num s 40), .int .u64 (num s 41)]) (.int .i64 1)).run Tryz.prog w = .ok (wd (num s 38) (num s 39)) w := fun _ => by kernel_rfl
      have i2 : ∀ w : World, (Instr.index 111 (.agg #[.int .i64 (num s 36), .int .u64 (num s 37), .int .i64 (num s 38), .int .u64 (num s 39), .int .i64 (num s 40), .int .u64 (num s 41)]) (.int .i64 2)).run Tryz.prog w = .ok (wd (num s 40) (num s 41)) w := fun _ => by kernel_rfl
      clear RG J QA QB
      generalize (W.alloc (.cells l.toArray 52)).alloc (.cells s.toArray 47) = X at q0 hb ⊢
      refine wp_loop_rounds 4 ?_
      rw [rounds_succ]
      go_wp2_with fail
      have hA1 := (Below.refl X.heap.size X).alloc (Nat.le_refl _) (.cells #[.int .i64 (num s 36), .int .u64 (num s 37)] 45)
      have q0 := keepB hA1 q0
      have hb := hb.trans (hA1.mono hb.size)
      have y := two_cells X (.int .i64 (num s 36)) (.int .u64 (num s 37)) 45
      have c := cell_of (i := 36) q0 (arr_get t0.1)
      generalize X.alloc (.cells #[.int .i64 (num s 36), .int .u64 (num s 37)] 45) = Y0 at hA1 q0 hb y c ⊢
      have hK : ∀ w' : World, Below Y0.heap.size Y0 w' → (w'.cell? ⟨X.heap.size, 0, none⟩ = some (.int .i64 (num s 36)) ∧ w'.cell? ⟨X.heap.size, 1, none⟩ = some (.int .u64 (num s 37)) ∧ w'.cell? ⟨W.heap.size, 36, none⟩ = some (.int .u64 (num l 36)) ∧ Below Y0.heap.size Y0 w') := fun w' hb' => ⟨cell_up hb' y.1, cell_up hb' y.2, cell_up hb' c, hb'⟩
      have HK := Lib.hid hK
      clear hK hA1 y c
      cases hlo0 : decide (wayV (num s 37) (num l 36) < -8) with
      | true =>
        have hz : z = false := by rw [← HZ.out, hA, hB]; simp [inW, hlo0]
        subst hz
        go_region_held3 (fun w' => w'.cell? ⟨X.heap.size, 0, none⟩ = some (.int .i64 (num s 36)) ∧ w'.cell? ⟨X.heap.size, 1, none⟩ = some (.int .u64 (num s 37)) ∧ w'.cell? ⟨W.heap.size, 36, none⟩ = some (.int .u64 (num l 36)) ∧ Below Y0.heap.size Y0 w')
          (first
            | with_reducible assumption
            | exact HK.out _ ((Below.refl _ _).drew)
            | exact HK.out _ (bT (‹_ ∧ _ ∧ _ ∧ Below Y0.heap.size Y0 _›.2.2.2) (by assumption)))
          (first
            | (go_at_call 27; refine (way_w _ _ _ _).mono ?_; rintro e w1 ⟨rfl, hb1⟩))
        go_wp2_with fail
        go_ret
        exact ⟨rfl, hb.trans ((‹_ ∧ _ ∧ _ ∧ Below Y0.heap.size Y0 _›.2.2.2).mono hb.size)⟩
      | false =>
        cases hhi0 : decide (8 < wayV (num s 37) (num l 36)) with
        | true =>
          have hz : z = false := by rw [← HZ.out, hA, hB]; simp [inW, hlo0, hhi0]
          subst hz
          go_region_held3 (fun w' => w'.cell? ⟨X.heap.size, 0, none⟩ = some (.int .i64 (num s 36)) ∧ w'.cell? ⟨X.heap.size, 1, none⟩ = some (.int .u64 (num s 37)) ∧ w'.cell? ⟨W.heap.size, 36, none⟩ = some (.int .u64 (num l 36)) ∧ Below Y0.heap.size Y0 w')
            (first
              | with_reducible assumption
              | exact HK.out _ ((Below.refl _ _).drew)
              | exact HK.out _ (bT (‹_ ∧ _ ∧ _ ∧ Below Y0.heap.size Y0 _›.2.2.2) (by assumption)))
            (first
              | (go_at_call 27; refine (way_w _ _ _ _).mono ?_; rintro e w1 ⟨rfl, hb1⟩))
          go_wp2_with fail
          go_ret
          exact ⟨rfl, hb.trans ((‹_ ∧ _ ∧ _ ∧ Below Y0.heap.size Y0 _›.2.2.2).mono hb.size)⟩
        | false =>
          go_region_held3 (fun w' => w'.cell? ⟨X.heap.size, 0, none⟩ = some (.int .i64 (num s 36)) ∧ w'.cell? ⟨X.heap.size, 1, none⟩ = some (.int .u64 (num s 37)) ∧ w'.cell? ⟨W.heap.size, 36, none⟩ = some (.int .u64 (num l 36)) ∧ Below Y0.heap.size Y0 w')
            (first
              | with_reducible assumption
              | exact HK.out _ ((Below.refl _ _).drew)
              | exact HK.out _ (bT (‹_ ∧ _ ∧ _ ∧ Below Y0.heap.size Y0 _›.2.2.2) (by assumption)))
            (first
              | (go_at_call 27; refine (way_w _ _ _ _).mono ?_; rintro e w1 ⟨rfl, hb1⟩))
          go_wp2_with fail
          have hS := (‹_ ∧ _ ∧ _ ∧ Below Y0.heap.size Y0 _›.2.2.2)
          have q0 := keepB hS q0
          have hb := hb.trans (hS.mono hb.size)
          clear hS HK
          rw [rounds_succ]
          go_wp2_with fail
          have hA1 := (Below.refl w1.heap.size w1).alloc (Nat.le_refl _) (.cells #[.int .i64 (num s 38), .int .u64 (num s 39)] 45)
          have q0 := keepB hA1 q0
          have hb := hb.trans (hA1.mono hb.size)
          have y := two_cells w1 (.int .i64 (num s 38)) (.int .u64 (num s 39)) 45
          have c := cell_of (i := 37) q0 (arr_get t1.1)
          generalize w1.alloc (.cells #[.int .i64 (num s 38), .int .u64 (num s 39)] 45) = Y1 at hA1 q0 hb y c ⊢
          have hK : ∀ w' : World, Below Y1.heap.size Y1 w' → (w'.cell? ⟨w1.heap.size, 0, none⟩ = some (.int .i64 (num s 38)) ∧ w'.cell? ⟨w1.heap.size, 1, none⟩ = some (.int .u64 (num s 39)) ∧ w'.cell? ⟨W.heap.size, 37, none⟩ = some (.int .u64 (num l 37)) ∧ Below Y1.heap.size Y1 w') := fun w' hb' => ⟨cell_up hb' y.1, cell_up hb' y.2, cell_up hb' c, hb'⟩
          have HK := Lib.hid hK
          clear hK hA1 y c
          cases hlo1 : decide (wayV (num s 39) (num l 37) < -8) with
          | true =>
            have hz : z = false := by rw [← HZ.out, hA, hB]; simp [inW, hlo0, hhi0, hlo1]
            subst hz
            go_region_held3 (fun w' => w'.cell? ⟨w1.heap.size, 0, none⟩ = some (.int .i64 (num s 38)) ∧ w'.cell? ⟨w1.heap.size, 1, none⟩ = some (.int .u64 (num s 39)) ∧ w'.cell? ⟨W.heap.size, 37, none⟩ = some (.int .u64 (num l 37)) ∧ Below Y1.heap.size Y1 w')
              (first
                | with_reducible assumption
                | exact HK.out _ ((Below.refl _ _).drew)
                | exact HK.out _ (bT (‹_ ∧ _ ∧ _ ∧ Below Y1.heap.size Y1 _›.2.2.2) (by assumption)))
              (first
                | (go_at_call 27; refine (way_w _ _ _ _).mono ?_; rintro e w2 ⟨rfl, hb1⟩))
            go_wp2_with fail
            go_ret
            exact ⟨rfl, hb.trans ((‹_ ∧ _ ∧ _ ∧ Below Y1.heap.size Y1 _›.2.2.2).mono hb.size)⟩
          | false =>
            cases hhi1 : decide (8 < wayV (num s 39) (num l 37)) with
            | true =>
              have hz : z = false := by rw [← HZ.out, hA, hB]; simp [inW, hlo0, hhi0, hlo1, hhi1]
              subst hz
              go_region_held3 (fun w' => w'.cell? ⟨w1.heap.size, 0, none⟩ = some (.int .i64 (num s 38)) ∧ w'.cell? ⟨w1.heap.size, 1, none⟩ = some (.int .u64 (num s 39)) ∧ w'.cell? ⟨W.heap.size, 37, none⟩ = some (.int .u64 (num l 37)) ∧ Below Y1.heap.size Y1 w')
                (first
                  | with_reducible assumption
                  | exact HK.out _ ((Below.refl _ _).drew)
                  | exact HK.out _ (bT (‹_ ∧ _ ∧ _ ∧ Below Y1.heap.size Y1 _›.2.2.2) (by assumption)))
                (first
                  | (go_at_call 27; refine (way_w _ _ _ _).mono ?_; rintro e w2 ⟨rfl, hb1⟩))
              go_wp2_with fail
              go_ret
              exact ⟨rfl, hb.trans ((‹_ ∧ _ ∧ _ ∧ Below Y1.heap.size Y1 _›.2.2.2).mono hb.size)⟩
            | false =>
              go_region_held3 (fun w' => w'.cell? ⟨w1.heap.size, 0, none⟩ = some (.int .i64 (num s 38)) ∧ w'.cell? ⟨w1.heap.size, 1, none⟩ = some (.int .u64 (num s 39)) ∧ w'.cell? ⟨W.heap.size, 37, none⟩ = some (.int .u64 (num l 37)) ∧ Below Y1.heap.size Y1 w')
                (first
                  | with_reducible assumption
                  | exact HK.out _ ((Below.refl _ _).drew)
                  | exact HK.out _ (bT (‹_ ∧ _ ∧ _ ∧ Below Y1.heap.size Y1 _›.2.2.2) (by assumption)))
                (first
                  | (go_at_call 27; refine (way_w _ _ _ _).mono ?_; rintro e w2 ⟨rfl, hb1⟩))
              go_wp2_with fail
              have hS := (‹_ ∧ _ ∧ _ ∧ Below Y1.heap.size Y1 _›.2.2.2)
              have q0 := keepB hS q0
              have hb := hb.trans (hS.mono hb.size)
              clear hS HK
              rw [rounds_succ]
              go_wp2_with fail
              have hA1 := (Below.refl w2.heap.size w2).alloc (Nat.le_refl _) (.cells #[.int .i64 (num s 40), .int .u64 (num s 41)] 45)
              have q0 := keepB hA1 q0
              have hb := hb.trans (hA1.mono hb.size)
              have y := two_cells w2 (.int .i64 (num s 40)) (.int .u64 (num s 41)) 45
              have c := cell_of (i := 38) q0 (arr_get t2.1)
              generalize w2.alloc (.cells #[.int .i64 (num s 40), .int .u64 (num s 41)] 45) = Y2 at hA1 q0 hb y c ⊢
              have hK : ∀ w' : World, Below Y2.heap.size Y2 w' → (w'.cell? ⟨w2.heap.size, 0, none⟩ = some (.int .i64 (num s 40)) ∧ w'.cell? ⟨w2.heap.size, 1, none⟩ = some (.int .u64 (num s 41)) ∧ w'.cell? ⟨W.heap.size, 38, none⟩ = some (.int .u64 (num l 38)) ∧ Below Y2.heap.size Y2 w') := fun w' hb' => ⟨cell_up hb' y.1, cell_up hb' y.2, cell_up hb' c, hb'⟩
              have HK := Lib.hid hK
              clear hK hA1 y c
              cases hlo2 : decide (wayV (num s 41) (num l 38) < -8) with
              | true =>
                have hz : z = false := by rw [← HZ.out, hA, hB]; simp [inW, hlo0, hhi0, hlo1, hhi1, hlo2]
                subst hz
                go_region_held3 (fun w' => w'.cell? ⟨w2.heap.size, 0, none⟩ = some (.int .i64 (num s 40)) ∧ w'.cell? ⟨w2.heap.size, 1, none⟩ = some (.int .u64 (num s 41)) ∧ w'.cell? ⟨W.heap.size, 38, none⟩ = some (.int .u64 (num l 38)) ∧ Below Y2.heap.size Y2 w')
                  (first
                    | with_reducible assumption
                    | exact HK.out _ ((Below.refl _ _).drew)
                    | exact HK.out _ (bT (‹_ ∧ _ ∧ _ ∧ Below Y2.heap.size Y2 _›.2.2.2) (by assumption)))
                  (first
                    | (go_at_call 27; refine (way_w _ _ _ _).mono ?_; rintro e w3 ⟨rfl, hb1⟩))
                go_wp2_with fail
                go_ret
                exact ⟨rfl, hb.trans ((‹_ ∧ _ ∧ _ ∧ Below Y2.heap.size Y2 _›.2.2.2).mono hb.size)⟩
              | false =>
                cases hhi2 : decide (8 < wayV (num s 41) (num l 38)) with
                | true =>
                  have hz : z = false := by rw [← HZ.out, hA, hB]; simp [inW, hlo0, hhi0, hlo1, hhi1, hlo2, hhi2]
                  subst hz
                  go_region_held3 (fun w' => w'.cell? ⟨w2.heap.size, 0, none⟩ = some (.int .i64 (num s 40)) ∧ w'.cell? ⟨w2.heap.size, 1, none⟩ = some (.int .u64 (num s 41)) ∧ w'.cell? ⟨W.heap.size, 38, none⟩ = some (.int .u64 (num l 38)) ∧ Below Y2.heap.size Y2 w')
                    (first
                      | with_reducible assumption
                      | exact HK.out _ ((Below.refl _ _).drew)
                      | exact HK.out _ (bT (‹_ ∧ _ ∧ _ ∧ Below Y2.heap.size Y2 _›.2.2.2) (by assumption)))
                    (first
                      | (go_at_call 27; refine (way_w _ _ _ _).mono ?_; rintro e w3 ⟨rfl, hb1⟩))
                  go_wp2_with fail
                  go_ret
                  exact ⟨rfl, hb.trans ((‹_ ∧ _ ∧ _ ∧ Below Y2.heap.size Y2 _›.2.2.2).mono hb.size)⟩
                | false =>
                  have hz : z = true := by rw [← HZ.out, hA, hB]; simp [inW, hlo0, hhi0, hlo1, hhi1, hlo2, hhi2]
                  subst hz
                  go_region_held3 (fun w' => w'.cell? ⟨w2.heap.size, 0, none⟩ = some (.int .i64 (num s 40)) ∧ w'.cell? ⟨w2.heap.size, 1, none⟩ = some (.int .u64 (num s 41)) ∧ w'.cell? ⟨W.heap.size, 38, none⟩ = some (.int .u64 (num l 38)) ∧ Below Y2.heap.size Y2 w')
                    (first
                      | with_reducible assumption
                      | exact HK.out _ ((Below.refl _ _).drew)
                      | exact HK.out _ (bT (‹_ ∧ _ ∧ _ ∧ Below Y2.heap.size Y2 _›.2.2.2) (by assumption)))
                    (first
                      | (go_at_call 27; refine (way_w _ _ _ _).mono ?_; rintro e w3 ⟨rfl, hb1⟩))
                  go_wp2_with fail
                  rw [rounds_succ]
                  go_wp2_with fail
                  go_ret
                  exact ⟨rfl, hb.trans ((‹_ ∧ _ ∧ _ ∧ Below Y2.heap.size Y2 _›.2.2.2).mono hb.size)⟩
end Go.Proofs.YtmnoegfehgoalaaGreatDoor.cx
