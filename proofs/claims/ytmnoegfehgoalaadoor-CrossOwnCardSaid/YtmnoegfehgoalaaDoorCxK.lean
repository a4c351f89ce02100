/- What single operations of trips yield. Exchanges that are made, one behind the other: trips, what it comes to. -/
import Derived.Test.YtmnoegfehgoalaaDoorCxJ
import Derived.Test.YtmnoegfehgoalaaDoorCxG
import Derived.Great.BuildSlice
namespace Go.Proofs.YtmnoegfehgoalaaDoor.cx
open Go.RowKit Go.Extern.Stop Go.Stop Go.Extern Go.Cx
set_option linter.unusedVariables false

/-- A sample that is being made: its addresses' first bytes, its moments, what it measures. -/
def smpA (c s h1 l1 h2 l2 h3 l3 h4 l4 o d : Int) : Array Value := #[.bool false, .int .u8 c, .int .u8 0, .int .u8 0, .int .u8 0, .int .u8 0, .int .u8 0, .int .u8 0, .int .u8 0, .int .u8 0, .int .u8 0, .int .u8 0, .int .u8 0, .int .u8 0, .int .u8 0, .int .u8 0, .int .u8 0, .int .u16 0, .bool false, .int .u8 s, .int .u8 0, .int .u8 0, .int .u8 0, .int .u8 0, .int .u8 0, .int .u8 0, .int .u8 0, .int .u8 0, .int .u8 0, .int .u8 0, .int .u8 0, .int .u8 0, .int .u8 0, .int .u8 0, .int .u8 0, .int .u16 0, .int .i64 h1, .int .u64 l1, .int .i64 h2, .int .u64 l2, .int .i64 h3, .int .u64 l3, .int .i64 h4, .int .u64 l4, .int .i64 o, .int .i64 d, .int .i64 0, .int .u8 0]
theorem smpA_is (c h1 l1 h2 l2 h3 l3 h4 l4 o d : Int) : (smp c h1 l1 h2 l2 h3 l3 h4 l4 o d).toArray = smpA c 9 h1 l1 h2 l2 h3 l3 h4 l4 o d := rfl
theorem smpA_one (c s h1 l1 h2 l2 h3 l3 h4 l4 o d : Int) : (smpA c s h1 l1 h2 l2 h3 l3 h4 l4 o d).all (·.oneCell') = true := by unfold smpA; simp [Value.oneCell']
def tripA (g o h k c : Int) : Array Value := #[.int .u32 g, .int .u32 o, .int .u32 h, .int .u32 k, .int .u8 c]
theorem trip_form {r : List Value} (h : RowOk tripK r) : r = [.int .u32 (num r 0), .int .u32 (num r 1), .int .u32 (num r 2), .int .u32 (num r 3), .int .u8 (num r 4)] := by
  match r, h with
  | [a, b, c, d, e], h =>
    obtain ⟨⟨n0, rfl, _⟩, ⟨n1, rfl, _⟩, ⟨n2, rfl, _⟩, ⟨n3, rfl, _⟩, ⟨n4, rfl, _⟩, _⟩ := h
    rfl
theorem trip_arr {r : List Value} (h : RowOk tripK r) : r.toArray = tripA (num r 0) (num r 1) (num r 2) (num r 3) (num r 4) := by
  have := trip_form h
  unfold tripA
  rw [this]
  rfl
section
variable (ev : Operand → Value) (w : World) (d x y : Nat) (b o : Nat) (t : TypeId) (p : String) (e : Array Edge)
set_option maxRecDepth 1000000 in
theorem ld_u32 (v : Value) (h : w.cell? ⟨b, o, none⟩ = some v) : (Instr.loadAt 34 (.pointer (some ⟨b, o, none⟩))).run Tryd.prog w = .ok v w := by
  go_simp
set_option maxRecDepth 1000000 in
theorem ld_u8 (v : Value) (h : w.cell? ⟨b, o, none⟩ = some v) : (Instr.loadAt 5 (.pointer (some ⟨b, o, none⟩))).run Tryd.prog w = .ok v w := by
  go_simp
set_option maxRecDepth 1000000 in
theorem fa_t0 : (Instr.fieldAt 75 (.pointer (some ⟨b, o, none⟩)) 0).run Tryd.prog w = .ok (.pointer (some ⟨b, o, none⟩)) w := by
  go_simp
set_option maxRecDepth 1000000 in
theorem fa_t1 : (Instr.fieldAt 75 (.pointer (some ⟨b, o, none⟩)) 1).run Tryd.prog w = .ok (.pointer (some ⟨b, o + 1, none⟩)) w := by
  go_simp
set_option maxRecDepth 1000000 in
theorem fa_t2 : (Instr.fieldAt 75 (.pointer (some ⟨b, o, none⟩)) 2).run Tryd.prog w = .ok (.pointer (some ⟨b, o + 2, none⟩)) w := by
  go_simp
set_option maxRecDepth 1000000 in
theorem fa_t3 : (Instr.fieldAt 75 (.pointer (some ⟨b, o, none⟩)) 3).run Tryd.prog w = .ok (.pointer (some ⟨b, o + 3, none⟩)) w := by
  go_simp
set_option maxRecDepth 1000000 in
theorem fa_t4 : (Instr.fieldAt 75 (.pointer (some ⟨b, o, none⟩)) 4).run Tryd.prog w = .ok (.pointer (some ⟨b, o + 4, none⟩)) w := by
  go_simp
set_option maxRecDepth 1000000 in
theorem fa_s0 : (Instr.fieldAt 57 (.pointer (some ⟨b, 0, none⟩)) 0).run Tryd.prog w = .ok (.pointer (some ⟨b, 0, none⟩)) w := by
  go_simp
set_option maxRecDepth 1000000 in
theorem fa_s1 : (Instr.fieldAt 57 (.pointer (some ⟨b, 0, none⟩)) 1).run Tryd.prog w = .ok (.pointer (some ⟨b, 36, none⟩)) w := by
  go_simp
set_option maxRecDepth 1000000 in
theorem fa_s2 : (Instr.fieldAt 57 (.pointer (some ⟨b, 0, none⟩)) 2).run Tryd.prog w = .ok (.pointer (some ⟨b, 38, none⟩)) w := by
  go_simp
set_option maxRecDepth 1000000 in
theorem fa_s3 : (Instr.fieldAt 57 (.pointer (some ⟨b, 0, none⟩)) 3).run Tryd.prog w = .ok (.pointer (some ⟨b, 40, none⟩)) w := by
  go_simp
set_option maxRecDepth 1000000 in
theorem fa_f0 : (Instr.fieldAt 52 (.pointer (some ⟨b, 0, none⟩)) 0).run Tryd.prog w = .ok (.pointer (some ⟨b, 0, none⟩)) w := by
  go_simp
set_option maxRecDepth 1000000 in
theorem fa_f1 : (Instr.fieldAt 52 (.pointer (some ⟨b, 0, none⟩)) 1).run Tryd.prog w = .ok (.pointer (some ⟨b, 18, none⟩)) w := by
  go_simp
set_option maxRecDepth 1000000 in
theorem fa_e0 : (Instr.fieldAt 50 (.pointer (some ⟨b, o, none⟩)) 0).run Tryd.prog w = .ok (.pointer (some ⟨b, o, none⟩)) w := by
  go_simp
set_option maxRecDepth 1000000 in
theorem fa_a1 : (Instr.fieldAt 47 (.pointer (some ⟨b, o, none⟩)) 1).run Tryd.prog w = .ok (.pointer (some ⟨b, o + 1, none⟩)) w := by
  go_simp
set_option maxRecDepth 1000000 in
theorem ix_b0 : (Instr.indexAt 45 (.pointer (some ⟨b, o, none⟩)) (.int .i64 0)).run Tryd.prog w = .ok (.pointer (some ⟨b, o, none⟩)) w := by
  go_simp
set_option maxRecDepth 1000000 in
theorem st_wide {cs : Array Value} {T : TypeId} {h l : Int} (hx : ev (.tmp x) = .pointer (some ⟨b, o, none⟩)) (hy : ev (.tmp y) = .agg #[.int .i64 h, .int .u64 l]) (hg : w.heap[b]? = some (.cells cs T)) (h1 : o + 1 < cs.size) :
    (execOp ev ⟨none, .store 55 (.tmp x) (.tmp y), t, p, e, none⟩).run Tryd.prog w = .ok .skip ((w.setCell ⟨b, o, none⟩ (.int .i64 h)).setCell ⟨b, o + 1, none⟩ (.int .u64 l)) := by
  have c0 : w.cell? ⟨b, o, none⟩ = some cs[o] := cell_of hg (by simp)
  have c1 : w.cell? ⟨b, o + 1, none⟩ = some cs[o + 1] := cell_of hg (by simp)
  have f0 := frozen_of_row _ _ o _ _ hg
  have f1 := frozen_of_row _ _ (o + 1) _ _ hg
  go_simp
set_option maxRecDepth 1000000 in
theorem st_u8 {cs : Array Value} {T : TypeId} {y : Operand} {n : Int} (hx : ev (.tmp x) = .pointer (some ⟨b, o, none⟩)) (hy : ev y = .int .u8 n) (hg : w.heap[b]? = some (.cells cs T)) (h1 : o < cs.size) :
    (execOp ev ⟨none, .store 5 (.tmp x) y, t, p, e, none⟩).run Tryd.prog w = .ok .skip (w.setCell ⟨b, o, none⟩ (.int .u8 n)) := by
  have c0 : w.cell? ⟨b, o, none⟩ = some cs[o] := cell_of hg (by simp)
  have f0 := frozen_of_row _ _ o _ _ hg
  go_simp
set_option maxRecDepth 1000000 in
theorem st_i64 {cs : Array Value} {T : TypeId} {y : Operand} {n : Int} (hx : ev (.tmp x) = .pointer (some ⟨b, o, none⟩)) (hy : ev y = .int .i64 n) (hg : w.heap[b]? = some (.cells cs T)) (h1 : o < cs.size) :
    (execOp ev ⟨none, .store 2 (.tmp x) y, t, p, e, none⟩).run Tryd.prog w = .ok .skip (w.setCell ⟨b, o, none⟩ (.int .i64 n)) := by
  have c0 : w.cell? ⟨b, o, none⟩ = some cs[o] := cell_of hg (by simp)
  have f0 := frozen_of_row _ _ o _ _ hg
  go_simp
set_option maxRecDepth 1000000 in
theorem al_trip : (execOp ev ⟨some d, .alloc 75, t, p, e, none⟩).run Tryd.prog w = .ok (.value (.pointer (some ⟨w.heap.size, 0, none⟩))) (w.alloc (.cells (tripA 0 0 0 0 0) 75)) := by
  unfold tripA
  go_simp
def smpZ : Array Value := smpA 0 0 0 0 0 0 0 0 0 0 0 0
set_option maxRecDepth 1000000 in
theorem al_samp : (execOp ev ⟨some d, .alloc 57, t, p, e, none⟩).run Tryd.prog w = .ok (.value (.pointer (some ⟨w.heap.size, 0, none⟩))) (w.alloc (.cells smpZ 57)) := by
  unfold smpZ smpA
  go_simp
set_option maxRecDepth 1000000 in
theorem bd_samp {h l : Int} (hx : ev (.tmp x) = .agg #[.int .i64 h, .int .u64 l]) : (execOp ev ⟨some d, .build 57 #[(1, .tmp x)], t, p, e, none⟩).run Tryd.prog w = .ok (.value (.agg (smpA 0 0 h l 0 0 0 0 0 0 0 0))) w := by
  unfold smpA
  go_simp
end
theorem take_st {P : Program} {md : Region.Mode} {ops : Array Oper} {Q : Exit → Act → World → Prop} {S : World → Prop} (i : Nat) {o : Oper} {fuel : Nat} {listed : Array Bool} {a : Act} {w w2 : World}
    (hi : ops[i]? = some o) (hr : Region.ready md ops listed = [i]) (hw : Region.wanted o (yielded ops a.tmps) = true) (hx : (execOp a.eval o).run P w = .ok .skip w2) (hS : S w2)
    (h : wpAnyH P md ops Q S fuel (listed.setIfInBounds i true) (a.put o.dst undef) w2) : wpAnyH P md ops Q S (fuel + 1) listed a w := by
  refine wpAnyH_all hr (by simp) fun j hj => ?_
  obtain rfl : j = i := by simpa using hj
  refine wpOp_step hi (fun K' hK => ?_)
  rw [if_pos hw]
  unfold Oper.wp
  rw [hx, Oper.upon_skip]
  exact hK _ _ ⟨hS, h⟩
/-- What is so within a round of trips. -/
def TS (W : World) (B pA pT pX : Nat) (b : Int) (ls : List (List Value)) (k : Nat) (s l : Value) (v : Int) (ta x : Array Value) (w : World) : Prop :=
  w.ownsRow B 57 48 s k (samC b ls k) ∧ w.ownsRow B 62 53 l k (linC b ls k) ∧ w.heap[pA]? = some (.cells #[.int .i64 (v / 18446744073709551616), .int .u64 (v % 18446744073709551616)] 55) ∧
  w.heap[pT]? = some (.cells ta 75) ∧ w.heap[pX]? = some (.cells x 57) ∧ Below W.heap.size W w ∧ B ≤ w.heap.size
def TN (W : World) (B pA pT pX : Nat) (s l : Value) : Prop := W.heap.size ≤ pA ∧ pA < B ∧ B ≤ pT ∧ pT < pX ∧ (∀ q, s.ownBlock = some q → q < pT) ∧ (∀ q, l.ownBlock = some q → q < pT) ∧ (∀ q, s.ownBlock = some q → pA < q) ∧ (∀ q, l.ownBlock = some q → pA < q)
section
variable {W : World} {B pA pT pX : Nat} {b : Int} {ls : List (List Value)} {k : Nat} {s l : Value} {v : Int} {ta x : Array Value} {w w' : World}
theorem TS.up (h : TS W B pA pT pX b ls k s l v ta x w) (hb : Below w.heap.size w w') : TS W B pA pT pX b ls k s l v ta x w' :=
  ⟨own_up h.1 hb, own_up h.2.1 hb, keepB hb h.2.2.1, keepB hb h.2.2.2.1, keepB hb h.2.2.2.2.1, h.2.2.2.2.2.1.trans (hb.mono h.2.2.2.2.2.1.size), Nat.le_trans h.2.2.2.2.2.2 hb.size⟩
theorem own_apart {s : Value} {n : Nat} (h : ∀ q, s.ownBlock = some q → q < n) {m : Nat} (hm : n ≤ m) : s.ownBlock = none ∨ s.ownBlock ≠ some m := by
  cases hs : s.ownBlock with
  | none => exact .inl rfl
  | some q =>
    right
    intro e
    injection e with e
    have := h q hs
    omega
theorem own_apart' {s : Value} {n : Nat} (h : ∀ q, s.ownBlock = some q → n < q) : s.ownBlock = none ∨ s.ownBlock ≠ some n := by
  cases hs : s.ownBlock with
  | none => exact .inl rfl
  | some q =>
    right
    intro e
    injection e with e
    have := h q hs
    omega
theorem TS.on (hn : TN W B pA pT pX s l) (h : TS W B pA pT pX b ls k s l v ta x w) {v' : Int} (hG : w.grownBy w' (some pA)) (ha : w'.heap[pA]? = some (.cells #[.int .i64 (v' / 18446744073709551616), .int .u64 (v' % 18446744073709551616)] 55)) : TS W B pA pT pX b ls k s l v' ta x w' := by
  obtain ⟨n1, n2, n3, n4, n5, n6, n7, n8⟩ := hn
  obtain ⟨h1, h2, h3, h4, h5, h6, h7⟩ := h
  exact ⟨h1.kept hG (own_apart' n7), h2.kept hG (own_apart' n8), ha, grown_kept hG h4 (by omega), grown_kept hG h5 (by omega), below_grown h6 hG n1, Nat.le_trans h7 hG.size⟩
theorem grown_one {w : World} {g i : Nat} {u : Value} : w.grownBy (w.setCell ⟨g, i, none⟩ u) (some g) := grown_set (grown_of (Below.refl _ _) _)
theorem TS.set (hn : TN W B pA pT pX s l) (h : TS W B pA pT pX b ls k s l v ta x w) (i : Nat) (u : Value) : TS W B pA pT pX b ls k s l v ta (x.setIfInBounds i u) (w.setCell ⟨pX, i, none⟩ u) := by
  obtain ⟨n1, n2, n3, n4, n5, n6, n7, n8⟩ := hn
  obtain ⟨h1, h2, h3, h4, h5, h6, h7⟩ := h
  have hG : w.grownBy (w.setCell ⟨pX, i, none⟩ u) (some pX) := grown_one
  exact ⟨h1.kept hG (own_apart n5 (by omega)), h2.kept hG (own_apart n6 (by omega)), grown_kept hG h3 (by omega), grown_kept hG h4 (by omega), heap_setCell_same _ _ i _ _ _ h5, below_grown h6 hG (by omega), Nat.le_trans h7 hG.size⟩
end
section
variable (c s h1 l1 h2 l2 h3 l3 h4 l4 o d : Int)
theorem sx38 (h l : Int) : ((smpA c s h1 l1 h2 l2 h3 l3 h4 l4 o d).setIfInBounds 38 (.int .i64 h)).setIfInBounds (38 + 1) (.int .u64 l) = smpA c s h1 l1 h l h3 l3 h4 l4 o d := by kernel_rfl
theorem sx40 (h l : Int) : ((smpA c s h1 l1 h2 l2 h3 l3 h4 l4 o d).setIfInBounds 40 (.int .i64 h)).setIfInBounds (40 + 1) (.int .u64 l) = smpA c s h1 l1 h2 l2 h l h4 l4 o d := by kernel_rfl
theorem sx42 (h l : Int) : ((smpA c s h1 l1 h2 l2 h3 l3 h4 l4 o d).setIfInBounds 42 (.int .i64 h)).setIfInBounds (42 + 1) (.int .u64 l) = smpA c s h1 l1 h2 l2 h3 l3 h l o d := by kernel_rfl
theorem sx19 (n : Int) : (smpA c s h1 l1 h2 l2 h3 l3 h4 l4 o d).setIfInBounds (18 + 1) (.int .u8 n) = smpA c n h1 l1 h2 l2 h3 l3 h4 l4 o d := by kernel_rfl
theorem sx1 (n : Int) : (smpA c s h1 l1 h2 l2 h3 l3 h4 l4 o d).setIfInBounds (0 + 1) (.int .u8 n) = smpA n s h1 l1 h2 l2 h3 l3 h4 l4 o d := by kernel_rfl
theorem sx44 (n : Int) : (smpA c s h1 l1 h2 l2 h3 l3 h4 l4 o d).setIfInBounds (0 + 44) (.int .i64 n) = smpA c s h1 l1 h2 l2 h3 l3 h4 l4 n d := by kernel_rfl
theorem sx45 (n : Int) : (smpA c s h1 l1 h2 l2 h3 l3 h4 l4 o d).setIfInBounds (0 + 45) (.int .i64 n) = smpA c s h1 l1 h2 l2 h3 l3 h4 l4 o n := by kernel_rfl
end
theorem TS.as {W : World} {B pA pT pX : Nat} {b : Int} {ls : List (List Value)} {k : Nat} {s l : Value} {v : Int} {ta x y : Array Value} {w : World} (h : TS W B pA pT pX b ls k s l v ta x w) (e : x = y) : TS W B pA pT pX b ls k s l v ta y w := e ▸ h
/-- The cells of the moments. -/
def Mom (g : Nat) (h1 l1 h2 l2 h3 l3 h4 l4 : Int) (w : World) : Prop := w.cell? ⟨g, 36, none⟩ = some (.int .i64 h1) ∧ w.cell? ⟨g, 36 + 1, none⟩ = some (.int .u64 l1) ∧ w.cell? ⟨g, 38, none⟩ = some (.int .i64 h2) ∧ w.cell? ⟨g, 38 + 1, none⟩ = some (.int .u64 l2) ∧ w.cell? ⟨g, 40, none⟩ = some (.int .i64 h3) ∧ w.cell? ⟨g, 40 + 1, none⟩ = some (.int .u64 l3) ∧ w.cell? ⟨g, 0 + 42, none⟩ = some (.int .i64 h4) ∧ w.cell? ⟨g, 0 + 42 + 1, none⟩ = some (.int .u64 l4)
theorem mom_of {w : World} {g : Nat} {c s h1 l1 h2 l2 h3 l3 h4 l4 o d : Int} (h : w.heap[g]? = some (.cells (smpA c s h1 l1 h2 l2 h3 l3 h4 l4 o d) 57)) : Mom g h1 l1 h2 l2 h3 l3 h4 l4 w :=
  ⟨cell_of h rfl, cell_of h rfl, cell_of h rfl, cell_of h rfl, cell_of h rfl, cell_of h rfl, cell_of h rfl, cell_of h rfl⟩
theorem fill_samp (c s h1 l1 h2 l2 h3 l3 h4 l4 o dl : Int) : Instr.fill (fun i => some (i * 48, 48)) ((Array.range (1 * 48)).map ((Value.agg smpZ).cells[· % (Value.agg smpZ).cells.size]!)) [(0, .agg (smpA c s h1 l1 h2 l2 h3 l3 h4 l4 o dl))] = some (smpA c s h1 l1 h2 l2 h3 l3 h4 l4 o dl) := by kernel_rfl
theorem bs_samp (ev : Operand → Value) (w : World) (d x : Nat) (t : TypeId) (p : String) (e : Array Edge) (c s h1 l1 h2 l2 h3 l3 h4 l4 o dl : Int) (hx : ev (.tmp x) = .agg (smpA c s h1 l1 h2 l2 h3 l3 h4 l4 o dl)) :
    (execOp ev ⟨some d, .buildSlice 23 1 #[(0, .tmp x)], t, p, e, none⟩).run Tryd.prog w = .ok (.value (.slice (some ⟨w.heap.size, 0, none⟩) 1 1)) (w.alloc (.cells (smpA c s h1 l1 h2 l2 h3 l3 h4 l4 o dl) 57)) := by
  obtain ⟨ie, h1', h2', h3', h4'⟩ := info_parts (P := Tryd.prog) (e := 57) (z := .agg smpZ) (size := 48) (bytes := 136) (by kernel_rfl)
  have h5' := fill_samp c s h1 l1 h2 l2 h3 l3 h4 l4 o dl
  unfold execOp
  simp only [Sem.run_bind]
  rw [run_buildSlice (P := Tryd.prog) w 23 57 1 _ (smpA c s h1 l1 h2 l2 h3 l3 h4 l4 o dl) ie (.agg smpZ) Tryd.underlying23 h1' h2' (by rw [h3']; decide) (by rw [h3']; decide) (by rw [h3', show (Array.map (fun x => (x.1, ev x.2)) #[(0, Operand.tmp x)]).toList = [(0, ev (.tmp x))] by simp, hx]; exact h5')]
  rfl
theorem fill_line (c l1 l2 l3 h4 l4 : Int) : Instr.fill (fun i => some (i * 53, 53)) ((Array.range (1 * 53)).map ((Value.agg lineZ).cells[· % (Value.agg lineZ).cells.size]!)) [(0, .agg (lin c l1 l2 l3 h4 l4).toArray)] = some (lin c l1 l2 l3 h4 l4).toArray := by kernel_rfl
theorem bs_line (ev : Operand → Value) (w : World) (d x : Nat) (t : TypeId) (p : String) (e : Array Edge) (c l1 l2 l3 h4 l4 : Int) (hx : ev (.tmp x) = .agg (lin c l1 l2 l3 h4 l4).toArray) :
    (execOp ev ⟨some d, .buildSlice 22 1 #[(0, .tmp x)], t, p, e, none⟩).run Tryd.prog w = .ok (.value (.slice (some ⟨w.heap.size, 0, none⟩) 1 1)) (w.alloc (.cells (lin c l1 l2 l3 h4 l4).toArray 62)) := by
  obtain ⟨ie, h1', h2', h3', h4'⟩ := info_parts (P := Tryd.prog) (e := 62) (z := .agg lineZ) (size := 53) (bytes := 120) (by kernel_rfl)
  have h5' := fill_line c l1 l2 l3 h4 l4
  unfold execOp
  simp only [Sem.run_bind]
  rw [run_buildSlice (P := Tryd.prog) w 22 62 1 _ (lin c l1 l2 l3 h4 l4).toArray ie (.agg lineZ) Tryd.underlying22 h1' h2' (by rw [h3']; decide) (by rw [h3']; decide) (by rw [h3', show (Array.map (fun x => (x.1, ev x.2)) #[(0, Operand.tmp x)]).toList = [(0, ev (.tmp x))] by simp, hx]; exact h5')]
  rfl
theorem range_new {w : World} {g : Nat} {cs : List Value} {t : TypeId} (h : w.heap[g]? = some (.cells cs.toArray t)) : w.rangeAt g 0 cs := fun j v hv => by
  rw [Nat.zero_add]
  exact cell_of h (by simpa using hv)
/-- What is so at a round's end. -/
def US (W : World) (B pA pX pL : Nat) (b : Int) (ls : List (List Value)) (v : Int) (x y : Array Value) (ks kl : Nat) (s l : Value) (w : World) : Prop :=
  w.ownsRow B 57 48 s ks (samC b ls ks) ∧ w.ownsRow B 62 53 l kl (linC b ls kl) ∧ w.heap[pA]? = some (.cells #[.int .i64 (v / 18446744073709551616), .int .u64 (v % 18446744073709551616)] 55) ∧
  w.heap[pX]? = some (.cells x 57) ∧ w.heap[pL]? = some (.cells y 62) ∧ Below W.heap.size W w ∧ B ≤ w.heap.size
section
variable {W : World} {B pA pT pX pL : Nat} {b : Int} {ls : List (List Value)} {k kl ks : Nat} {s l s' l' : Value} {v : Int} {x y : Array Value} {w w' : World}
theorem US.up (h : US W B pA pX pL b ls v x y ks kl s l w) (hb : Below w.heap.size w w') : US W B pA pX pL b ls v x y ks kl s l w' :=
  ⟨own_up h.1 hb, own_up h.2.1 hb, keepB hb h.2.2.1, keepB hb h.2.2.2.1, keepB hb h.2.2.2.2.1, h.2.2.2.2.2.1.trans (hb.mono h.2.2.2.2.2.1.size), Nat.le_trans h.2.2.2.2.2.2 hb.size⟩
theorem kept_far {w w' : World} {r : Option Nat} {g : Nat} {o : Obj} (hG : w.grownBy w' r) (h : w.heap[g]? = some o) (hr : ∀ q, r = some q → q < g) : w'.heap[g]? = some o :=
  (hG.block g (lt_of_heap h) (by intro e; have := hr g e.symm; omega)).trans h
theorem kept_near {w w' : World} {r : Option Nat} {g : Nat} {o : Obj} (hG : w.grownBy w' r) (h : w.heap[g]? = some o) (hr : ∀ q, r = some q → g < q) : w'.heap[g]? = some o :=
  (hG.block g (lt_of_heap h) (by intro e; have := hr g e.symm; omega)).trans h
theorem US.app_s (h : US W B pA pX pL b ls v x y k kl s l w) (n1 : W.heap.size ≤ B) (n2 : pA < B) (n4 : pT < pX) (n5 : pT < pL) (n6 : ∀ q, s.ownBlock = some q → q < pT) (o1 : w'.ownsRow B 57 48 s' (k + 1) (samC b ls k ++ samR (atK b ls k) (ls.getD k []))) (hG : w.grownBy w' s.ownBlock) : US W B pA pX pL b ls v x y (k + 1) kl s' l w' := by
  obtain ⟨h1, h2, h3, h4, h5, h6, h7⟩ := h
  have t := fun q e => (h1.lt q e).1
  exact ⟨by rw [samC_succ]; exact o1, h2.kept hG (own_ne h2 h1 (by decide)), kept_near hG h3 (fun q e => by have := t q e; omega), kept_far hG h4 (fun q e => by have := n6 q e; omega), kept_far hG h5 (fun q e => by have := n6 q e; omega), below_row h6 hG (fun q e => by have := t q e; omega), Nat.le_trans h7 hG.size⟩
theorem US.app_l (h : US W B pA pX pL b ls v x y ks k s l w) (n1 : W.heap.size ≤ B) (n2 : pA < B) (n4 : pT < pX) (n5 : pT < pL) (n6 : ∀ q, l.ownBlock = some q → q < pT) (o1 : w'.ownsRow B 62 53 l' (k + 1) (linC b ls k ++ linR (atK b ls k) (ls.getD k []))) (hG : w.grownBy w' l.ownBlock) : US W B pA pX pL b ls v x y ks (k + 1) s l' w' := by
  obtain ⟨h1, h2, h3, h4, h5, h6, h7⟩ := h
  have t := fun q e => (h2.lt q e).1
  exact ⟨h1.kept hG (own_ne h1 h2 (by decide)), by rw [linC_succ]; exact o1, kept_near hG h3 (fun q e => by have := t q e; omega), kept_far hG h4 (fun q e => by have := n6 q e; omega), kept_far hG h5 (fun q e => by have := n6 q e; omega), below_row h6 hG (fun q e => by have := t q e; omega), Nat.le_trans h7 hG.size⟩
end
theorem TS.us {W : World} {B pA pT pX : Nat} {b : Int} {ls : List (List Value)} {k : Nat} {s l : Value} {v : Int} {ta x y : Array Value} {w w' : World} (h : TS W B pA pT pX b ls k s l v ta x w) (hb : Below w.heap.size w w') :
    US W B pA pX w'.heap.size b ls v x y k k s l (w'.alloc (.cells y 62)) := by
  have h2 := (h.up hb).up ((Below.refl w'.heap.size w').alloc (Nat.le_refl _) (.cells y 62))
  exact ⟨h2.1, h2.2.1, h2.2.2.1, h2.2.2.2.2.1, heap_alloc_new _ _, h2.2.2.2.2.2.1, h2.2.2.2.2.2.2⟩
theorem do_if {P : Program} {ops : Array Oper} {Q : Exit → Act → World → Prop} {o : Oper} {a : Act} {w w2 : World} {v : Value} {K' : Act → World → Prop} (hw : Region.wanted o (yielded ops a.tmps) = true) (hx : (execOp a.eval o).run P w = .ok (.value v) w2) (h : K' (a.put o.dst v) w2) :
    if Region.wanted o (yielded ops a.tmps) = true then Oper.wp P o a w K' Q else K' (a.put o.dst undef) w := by
  rw [if_pos hw]
  unfold Oper.wp
  rw [hx, Oper.upon_value]
  exact h
theorem app_if {P : Program} {ops : Array Oper} {Q : Exit → Act → World → Prop} {o : Oper} {a : Act} {w : World} {K' : Act → World → Prop} (s x : Operand) (t : TypeId)
    (hw : Region.wanted o (yielded ops a.tmps) = true) (ho : o.op = .call { callee := .builtin .append, args := #[s, x], argTypes := #[t, t] })
    (base : Nat) (e : TypeId) (ti : TypeInfo) (z : Value) (size bytes : Nat) (ht : P.underlying t = some (.slice e)) (hi : P.info? e = some ti) (hz : ti.zero = some z)
    (hsize : ti.size = size) (hby : ti.bytes = bytes) (hzs : z.cells.size = size) (hsz : 0 < size)
    (v : Value) (n : Nat) (xs : List Value) (hs : a.eval s = v) (hown : w.ownsRow base e size v n xs)
    (ad : Addr) (m c : Nat) (news : List Value) (hx : a.eval x = .slice (some ad) m c) (hl : news.length = m * size) (hnews : ∀ j u, news[j]? = some u → w.cell? (ad.add j) = some u) (h1 : ∀ u ∈ news, u.oneCell' = true)
    (h63 : n + m ≤ maxLen) (hbytes : (n + m) * bytes ≤ 140737488355328) (hbase : base ≤ w.heap.size)
    (h : ∀ v' w', w'.ownsRow base e size v' (n + m) (xs ++ news) → w.grownBy w' v.ownBlock → K' (a.put o.dst v') w') : if Region.wanted o (yielded ops a.tmps) = true then Oper.wp P o a w K' Q else K' (a.put o.dst undef) w := by
  rw [if_pos hw]
  exact wp_append_own w s x t ho base e ti z size bytes ht hi hz hsize hby hzs hsz v n xs hs hown ad m c news hx hl hnews h1 h63 hbytes hbase fun v' w' a b c => h v' w' a b
end Go.Proofs.YtmnoegfehgoalaaDoor.cx

namespace Go.Proofs.YtmnoegfehgoalaaDoor.cx
open Go.RowKit Go.Extern.Stop Go.Stop Go.Extern Go.Cx
set_option linter.unusedVariables false

/-- Where the loop over trips stands. -/
def PSt (W : World) (B pA : Nat) (b : Int) (ls : List (List Value)) (wl : World) (k : Nat) (s l : Value) : Prop :=
  wl.ownsRow B 57 48 s k (samC b ls k) ∧ wl.ownsRow B 62 53 l k (linC b ls k) ∧
  wl.heap[pA]? = some (.cells #[.int .i64 (atK b ls k / 18446744073709551616), .int .u64 (atK b ls k % 18446744073709551616)] 55) ∧ Below W.heap.size W wl ∧ B ≤ wl.heap.size
theorem grown_two {w : World} {g i j : Nat} {u v : Value} : w.grownBy ((w.setCell ⟨g, i, none⟩ u).setCell ⟨g, j, none⟩ v) (some g) := grown_set (grown_set (grown_of (Below.refl _ _) _))
theorem TS.start {W : World} {B pA : Nat} {b : Int} {ls : List (List Value)} {wr w2 w4 : World} {k : Nat} {s l c0 c1 : Value} {r x : Array Value} {v : Int} (hP : PSt W B pA b ls wr k s l) (n1 : W.heap.size ≤ pA) (n2 : pA < B) (hG : (wr.alloc (.cells r 75)).grownBy w2 (some pA)) (hb : Below w2.heap.size w2 w4)
    (qA : (w4.alloc (.cells x 57)).heap[pA]? = some (.cells #[c0, c1] 55)) :
    TS W B pA wr.heap.size w4.heap.size b ls k s l v r x (((w4.alloc (.cells x 57)).setCell ⟨pA, 0, none⟩ (.int .i64 (v / 18446744073709551616))).setCell ⟨pA, 1, none⟩ (.int .u64 (v % 18446744073709551616))) ∧ TN W B pA wr.heap.size w4.heap.size s l := by
  obtain ⟨h1, h2, h3, h4, h5⟩ := hP
  have t1 := fun q e => h1.lt q e
  have t2 := fun q e => h2.lt q e
  have hA := (Below.refl wr.heap.size wr).alloc (Nat.le_refl _) (.cells r 75)
  have hA5 := hb.trans ((bA (Below.refl w4.heap.size w4) : Below w4.heap.size w4 (w4.alloc (.cells x 57))).mono hb.size)
  have p1 : s.ownBlock = none ∨ s.ownBlock ≠ some pA := own_apart' (n := pA) fun q e => by have := (t1 q e).1; omega
  have p2 : l.ownBlock = none ∨ l.ownBlock ≠ some pA := own_apart' (n := pA) fun q e => by have := (t2 q e).1; omega
  have hs2 := hG.size
  rw [alloc_size] at hs2
  have hs4 := hb.size
  have qT : w2.heap[wr.heap.size]? = some (.cells r 75) := grown_kept hG (heap_alloc_new _ _) (by omega)
  have hG2 : (w4.alloc (.cells x 57)).grownBy (((w4.alloc (.cells x 57)).setCell ⟨pA, 0, none⟩ (.int .i64 (v / 18446744073709551616))).setCell ⟨pA, 1, none⟩ (.int .u64 (v % 18446744073709551616))) (some pA) := grown_two
  have b2 : Below W.heap.size W w2 := below_grown (h4.trans (hA.mono h4.size)) hG n1
  refine ⟨⟨(own_up ((own_up h1 hA).kept hG p1) hA5).kept hG2 p1, (own_up ((own_up h2 hA).kept hG p2) hA5).kept hG2 p2, set_two qA, grown_kept hG2 (keepB hA5 qT) (by omega), grown_kept hG2 (heap_alloc_new _ _) (by omega), below_grown (b2.trans (hA5.mono b2.size)) hG2 n1, ?_⟩, n1, n2, h5, by omega, fun q e => (t1 q e).2, fun q e => (t2 q e).2, fun q e => by have := (t1 q e).1; omega, fun q e => by have := (t2 q e).1; omega⟩
  have := hG2.size
  rw [alloc_size] at this
  omega
theorem results_t3 {fn : Func} {t u v : Tmp} (h : fn.results = #[.tmp t, .tmp u, .tmp v]) (tmps : Array Value) (P : Program) (w : World) :
    (results fn tmps).run P w = .ok (.tuple #[tmps.getD t undef, tmps.getD u undef, tmps.getD v undef]) w := by
  simp [results, h]
set_option maxHeartbeats 4000000 in
set_option maxRecDepth 1000000 in
theorem trips_w (W : World) (tv : Value) (ls : List (List Value)) (b : Int) (hb : 0 ≤ b ∧ b < 4294967296) (hl : ∀ r ∈ ls, RowOk tripK r) (htv : Sl W 5 tv ls) (hn : ls.length ≤ 40) :
    Calls Tryd.prog 7 #[tv, .int .u32 b] W fun e w' => ∃ sv lv, e = .returned (.tuple #[sv, lv, .bool true]) ∧ w'.ownsRow W.heap.size 57 48 sv ls.length (samC b ls ls.length) ∧ w'.ownsRow W.heap.size 62 53 lv ls.length (linC b ls ls.length) ∧ Below W.heap.size W w' := by
  obtain ⟨ta, tc, rfl, tcap, tmx, tnone⟩ := htv.form
  have hwb : IntKind.wrap .u64 b = b := by rw [Go.Cx.w_u64]; omega
  have HL := Lib.hid (And.intro hl (And.intro htv tnone))
  have HB := Lib.hid (And.intro hb hwb)
  have hu := unix_w W b (by omega)
  have h0 : (b + 2208988800) * 4294967296 = atK b ls 0 := rfl
  rw [h0] at hu
  unfold wv at hu
  have HU := Lib.hid hu
  clear hl htv tnone hb hwb hu h0
  go_enter Tryd.func7, Tryd.ntmps7
  go_wp2_with (go_at_call 17; rw [HB.out.2]; refine HU.out.mono ?_; rintro e w1 ⟨rfl, hb1⟩)
  have hbA : Below W.heap.size W (w1.alloc (.cells #[.int .i64 (atK b ls 0 / 18446744073709551616), .int .u64 (atK b ls 0 % 18446744073709551616)] 55)) := hb1.alloc hb1.size _
  have qA := heap_alloc_new w1 (.cells #[.int .i64 (atK b ls 0 / 18446744073709551616), .int .u64 (atK b ls 0 % 18446744073709551616)] 55)
  have hA1 := hb1.size
  have hA2 := lt_of_heap qA
  clear hb1
  generalize w1.alloc (.cells #[.int .i64 (atK b ls 0 / 18446744073709551616), .int .u64 (atK b ls 0 % 18446744073709551616)] 55) = X at *
  generalize w1.heap.size = pA at *
  have hP0 : PSt W X.heap.size pA b ls X 0 (.slice none 0 0) (.slice none 0 0) := ⟨World.ownsRow_nil _ _ _ _, World.ownsRow_nil _ _ _ _, qA, hbA, Nat.le_refl _⟩
  have HN := Lib.hid (And.intro hA1 hA2)
  clear hA1 hA2 qA hbA
  go_loopg [21, 8, 9] ls.length (fun g i s l wl => ∃ k : Nat, i = .int .i64 (k : Nat) ∧ k ≤ ls.length ∧ g = ls.length - k ∧ PSt W X.heap.size pA b ls wl k s l)
  case atStart => exact ⟨0, rfl, Nat.zero_le _, by omega, hP0⟩
  case round =>
    clear hP0
    obtain ⟨k, rfl, hk, hg, hP⟩ := hrel
    by_cases hkn : k = ls.length
    · have e1 : decide ((k : Int) < (ls.length : Int)) = false := by rw [hkn]; simp
      have HP := Lib.hid hP
      clear hP
      go_wp2_with fail
      refine bodyPost_ret (results_t3 rfl _ _ _) rfl ?_
      have hP := HP.out
      rw [hkn] at hP
      exact ⟨_, _, rfl, own_mono hP.1 (Nat.le_trans HN.out.1 (Nat.le_of_lt HN.out.2)), own_mono hP.2.1 (Nat.le_trans HN.out.1 (Nat.le_of_lt HN.out.2)), hP.2.2.2.1⟩
    · have hkl : k < ls.length := by omega
      have e1 : decide ((k : Int) < (ls.length : Int)) = true := by simp; omega
      have e2 : (0 : Int) ≤ (k : Int) := by omega
      have e3 : (k : Int) < (ls.length : Int) := by omega
      obtain ⟨bt, off, cap, hv, _, _, hget⟩ := HL.out.2.1.get (by omega)
      injection hv with hta hnn hcp
      clear hnn hcp
      subst hta
      obtain ⟨r, hr⟩ : ∃ r, ls[k]? = some r := ⟨ls[k], List.getElem?_eq_getElem hkl⟩
      have hro := HL.out.1 r (List.mem_of_getElem? hr)
      have hrd : ls.getD k [] = r := by rw [List.getD_eq_getElem?_getD, hr]; rfl
      have hrg := hget k r hr
      have hrg := range_up hrg hP.2.2.2.1 (range_lt hrg (by rw [hro.length]; decide))
      have hnum := trip_num hro
      have c0 := cell_of (i := 0) (heap_alloc_new wr (.cells r.toArray 75)) (arr_get (get_num (i := 0) (k := .u32) hro rfl).1)
      have hA := (Below.refl wr.heap.size wr).alloc (Nat.le_refl _) (.cells r.toArray 75)
      have qT := heap_alloc_new wr (.cells r.toArray 75)
      have hatk := at_in HB.out.1 HL.out.1 k hk
      have hon := on_w (wr.alloc (.cells r.toArray 75)) pA (atK b ls k) (num r 0) (by omega) hnum.1 (keepB hA hP.2.2.1)
      have RG := Lib.hid hrg
      have RU := Lib.hid (And.intro Tryd.underlying75 (And.intro (show (Tryd.prog.info? 75).map (·.size) = some r.length by rw [hro.length]; kernel_rfl) (And.intro (show (tripA 0 0 0 0 0).size = r.toArray.size from (show (tripA 0 0 0 0 0).size = 5 from rfl).trans (by rw [List.size_toArray]; exact hro.length.symm)) (And.intro (all_oneCell_toArray (row_one hro)) c0))))
      clear c0
      have iA : InW (tA (atK b ls k) r) := by unfold tA InW; omega
      have iB : InW (tB (atK b ls k) r) := by unfold tB tA InW; omega
      have iC : InW (tC (atK b ls k) r) := by unfold tC tB tA InW; omega
      have iD : InW (tD (atK b ls k) r) := by unfold tD tC tB tA InW; omega
      have HV2 := Lib.hid (And.intro (off_val iA iB iC iD) (del_val iA iB iC iD))
      have HV := Lib.hid (show (0 ≤ tA (atK b ls k) r ∧ tA (atK b ls k) r < 73786976294838206464) ∧ (0 ≤ tB (atK b ls k) r ∧ tB (atK b ls k) r < 73786976294838206464) ∧ (0 ≤ tC (atK b ls k) r ∧ tC (atK b ls k) r < 73786976294838206464) by unfold tC tB tA; omega)
      clear iA iB iC iD
      have F := Lib.hid (And.intro (arr_get (get_num (i := 1) (k := .u32) hro rfl).1) (And.intro (arr_get (get_num (i := 2) (k := .u32) hro rfl).1) (And.intro (arr_get (get_num (i := 3) (k := .u32) hro rfl).1) (arr_get (get_num (i := 4) (k := .u8) hro rfl).1))))
      have HC := Lib.hid (And.intro hro (And.intro hrd (And.intro hnum hatk)))
      have HO := Lib.hid (And.intro hon (And.intro hA (And.intro qT hP)))
      have c0 := RU.out.2.2.2.2
      have hadd := add_val (a := atK b ls k + num r 0) (b := 100) (by unfold InW; omega) (by unfold InW; omega)
      rw [clamp_id (by unfold InW; omega), show (100 : Int) / 18446744073709551616 = 0 by decide, show (100 : Int) % 18446744073709551616 = 100 by decide, show atK b ls k + num r 0 + 100 = tA (atK b ls k) r from rfl] at hadd
      unfold wv at hadd
      have hof : ∀ w, Calls Tryd.prog 20 #[.int .i64 100] w fun e w' => e = .returned (wd 0 100) ∧ Below w.heap.size w w' := fun w => by
        have h := of_w w 100
        rw [show (100 : Int) / 9223372036854775808 = 0 by decide, show (100 : Int) % 18446744073709551616 = 100 by decide] at h
        exact h
      have u48 : (Tryd.prog.info? 57).map (·.size) = some 48 := by kernel_rfl
      have HD := Lib.hid (And.intro hadd hof)
      clear hadd hof
      clear hget hrg hro hrd hnum hatk hon hA qT hP hr
      unfold wv at HO
      go_wp2_with (first
        | ((with_reducible refine wpList_ld 24 ?_ ?_ ?_ RG.out RU.out.1 RU.out.2.1 ?_); rfl; rfl; rfl)
        | ((with_reducible refine wpList_do 11 (.alloc 75) _ (al_trip _ _ _ _ _ _) ?_); (with_reducible refine wpList_st 75 11 24 ?_ ?_ (heap_alloc_new _ _) RU.out.2.2.1 ?_ RU.out.2.2.2.1 ?_); rfl; rfl; (rw [List.size_toArray]; exact RU.out.2.1); rw [set_alloc])
        | (go_at_call 18; refine HO.out.1.mono ?_; rintro e w2 ⟨rfl, hA2, hG2⟩; have HG := Lib.hid (And.intro hA2 hG2); clear hA2 hG2)
        | (go_at_call 20; refine (HD.out.2 _).mono ?_; rintro e w3 ⟨rfl, hb3⟩)
        | (go_at_call 19; refine (add_w _ _ _ _ _ (by omega) (by omega)).mono ?_; rintro e w4 ⟨he, hb4⟩; rw [HD.out.1] at he; subst he)
        | ((with_reducible refine wpList_do 32 (.build 57 _) _ (bd_samp _ _ _ _ _ _ _ rfl) ?_); (with_reducible refine wpList_do 13 (.alloc 57) _ (al_samp _ _ _ _ _ _) ?_); (with_reducible refine wpList_st (cells := smpA 0 0 (tA (atK b ls k) r / 18446744073709551616) (tA (atK b ls k) r % 18446744073709551616) 0 0 0 0 0 0 0 0) 57 13 32 ?_ ?_ (heap_alloc_new _ _) ?_ ?_ ?_ ?_); rfl; rfl; rfl; exact u48; exact smpA_one _ _ _ _ _ _ _ _ _ _ _ _; (rw [set_alloc]); have qX := heap_alloc_new w4 (.cells (smpA 0 0 (tA (atK b ls k) r / 18446744073709551616) (tA (atK b ls k) r % 18446744073709551616) 0 0 0 0 0 0 0 0) 57); have x0 := cell_of (i := 36) (v := .int .i64 (tA (atK b ls k) r / 18446744073709551616)) qX rfl; have x1 := cell_of (i := 37) (v := .int .u64 (tA (atK b ls k) r % 18446744073709551616)) qX rfl; have hb5 := (Below.refl w4.heap.size w4).alloc (Nat.le_refl _) (.cells (smpA 0 0 (tA (atK b ls k) r / 18446744073709551616) (tA (atK b ls k) r % 18446744073709551616) 0 0 0 0 0 0 0 0) 57); have qA := keepB (bT (bT hb3 hb4) hb5) HG.out.1; have a0 := cell_of (i := 0) qA rfl; have a1 := cell_of (i := 1) qA rfl; have f0 := frozen_of_row _ _ 0 _ _ qA; have f1 := frozen_of_row _ _ 1 _ _ qA; have HE := Lib.hid (And.intro hb3 (And.intro hb4 (And.intro hb5 (And.intro qX qA)))); clear hb3 hb4 hb5 qX qA))
      obtain ⟨hT, hN⟩ := TS.start (v := tA (atK b ls k) r) HO.out.2.2.2 HN.out.1 HN.out.2 HG.out.2 (bT HE.out.1 HE.out.2.1) HE.out.2.2.2.2
      clear x0 x1 a0 a1 f0 f1
      generalize (((w4.alloc (.cells (smpA 0 0 (tA (atK b ls k) r / 18446744073709551616) (tA (atK b ls k) r % 18446744073709551616) 0 0 0 0 0 0 0 0) 57)).setCell ⟨pA, 0, none⟩ (.int .i64 (tA (atK b ls k) r / 18446744073709551616))).setCell ⟨pA, 1, none⟩ (.int .u64 (tA (atK b ls k) r % 18446744073709551616))) = Y at *
      generalize wr.heap.size = pT at *
      generalize w4.heap.size = pX at *
      have HT := Lib.hid (And.intro hN hT)
      clear hN hT HO HE HG
      have HT1 := HT.out.2.up (Below.refl Y.heap.size Y).drew
      refine wp_region_held_drew (S := fun w' => w'.heap[pT]? = some (.cells r.toArray 75)) (by kernel_rfl) HT1.2.2.2.1 (fun hSd => ?_)
      refine take_val (i := 0) (oi := ⟨some 35, .move (.tmp 12), _, _, _, none⟩) (.func (.func 18) #[] #[.pointer (some ⟨pA, 0, none⟩)]) rfl (by kernel_rfl) (by kernel_rfl) (by kernel_rfl) (fun _ _ _ h => h) rfl (fun w hSw => rfl) hSd ?_
      simp only [Act.put, List.setIfInBounds_toArray, List.set_cons_zero, List.set_cons_succ]
      refine take_val (i := 1) (oi := ⟨some 36, .fieldAddr 75 (.tmp 11) 1, _, _, _, none⟩) (.pointer (some ⟨pT, 0 + 1, none⟩)) rfl (by kernel_rfl) (by kernel_rfl) (by kernel_rfl) (fun _ _ _ h => h) rfl (fun w hSw => ex_field rfl (fa_t1 _ _ _)) hSd ?_
      simp only [Act.put, List.setIfInBounds_toArray, List.set_cons_zero, List.set_cons_succ]
      refine take_val (i := 2) (oi := ⟨some 37, .load 34 (.tmp 36), _, _, _, none⟩) (.int .u32 (num r 1)) rfl (by kernel_rfl) (by kernel_rfl) (by kernel_rfl) (fun _ _ _ h => h) rfl (fun w hSw => ex_load rfl (ld_u32 _ _ _ _ (cell_of hSw F.out.1))) hSd ?_
      simp only [Act.put, List.setIfInBounds_toArray, List.set_cons_zero, List.set_cons_succ]
      refine take_val (i := 4) (oi := ⟨some 39, .move (.tmp 12), _, _, _, none⟩) (.func (.func 18) #[] #[.pointer (some ⟨pA, 0, none⟩)]) rfl (by kernel_rfl) (by kernel_rfl) (by kernel_rfl) (fun _ _ _ h => h) rfl (fun w hSw => rfl) hSd ?_
      simp only [Act.put, List.setIfInBounds_toArray, List.set_cons_zero, List.set_cons_succ]
      refine take_val (i := 5) (oi := ⟨some 40, .fieldAddr 75 (.tmp 11) 2, _, _, _, none⟩) (.pointer (some ⟨pT, 0 + 2, none⟩)) rfl (by kernel_rfl) (by kernel_rfl) (by kernel_rfl) (fun _ _ _ h => h) rfl (fun w hSw => ex_field rfl (fa_t2 _ _ _)) hSd ?_
      simp only [Act.put, List.setIfInBounds_toArray, List.set_cons_zero, List.set_cons_succ]
      refine take_val (i := 6) (oi := ⟨some 41, .load 34 (.tmp 40), _, _, _, none⟩) (.int .u32 (num r 2)) rfl (by kernel_rfl) (by kernel_rfl) (by kernel_rfl) (fun _ _ _ h => h) rfl (fun w hSw => ex_load rfl (ld_u32 _ _ _ _ (cell_of hSw F.out.2.1))) hSd ?_
      simp only [Act.put, List.setIfInBounds_toArray, List.set_cons_zero, List.set_cons_succ]
      refine take_val (i := 8) (oi := ⟨some 43, .move (.tmp 12), _, _, _, none⟩) (.func (.func 18) #[] #[.pointer (some ⟨pA, 0, none⟩)]) rfl (by kernel_rfl) (by kernel_rfl) (by kernel_rfl) (fun _ _ _ h => h) rfl (fun w hSw => rfl) hSd ?_
      simp only [Act.put, List.setIfInBounds_toArray, List.set_cons_zero, List.set_cons_succ]
      refine take_val (i := 9) (oi := ⟨some 44, .fieldAddr 75 (.tmp 11) 3, _, _, _, none⟩) (.pointer (some ⟨pT, 0 + 3, none⟩)) rfl (by kernel_rfl) (by kernel_rfl) (by kernel_rfl) (fun _ _ _ h => h) rfl (fun w hSw => ex_field rfl (fa_t3 _ _ _)) hSd ?_
      simp only [Act.put, List.setIfInBounds_toArray, List.set_cons_zero, List.set_cons_succ]
      refine take_val (i := 10) (oi := ⟨some 45, .load 34 (.tmp 44), _, _, _, none⟩) (.int .u32 (num r 3)) rfl (by kernel_rfl) (by kernel_rfl) (by kernel_rfl) (fun _ _ _ h => h) rfl (fun w hSw => ex_load rfl (ld_u32 _ _ _ _ (cell_of hSw F.out.2.2.1))) hSd ?_
      simp only [Act.put, List.setIfInBounds_toArray, List.set_cons_zero, List.set_cons_succ]
      refine take_call 3 (f := 18) (args := #[.int .u32 (num r 1), .pointer (some ⟨pA, 0, none⟩)]) rfl (by kernel_rfl) rfl (by kernel_rfl) (on_w _ pA (tA (atK b ls k) r) (num r 1) HV.out.1 HC.out.2.2.1.2.1 HT1.2.2.1) ?_
      rintro e v1 ⟨he, ha, hg⟩
      rw [show (tA (atK b ls k) r) + num r 1 = (tB (atK b ls k) r) from rfl] at he
      subst he
      have HT2 : TS W X.heap.size pA pT pX b ls k u8 u9 (tB (atK b ls k) r) r.toArray (smpA 0 0 (tA (atK b ls k) r / 18446744073709551616) (tA (atK b ls k) r % 18446744073709551616) 0 0 0 0 0 0 0 0) v1 := HT1.on HT.out.1 hg ha
      clear ha hg hSd
      refine ⟨_, rfl, HT2.2.2.2.1, ?_⟩
      have hSd := HT2.2.2.2.1
      simp only [Act.put, List.setIfInBounds_toArray, List.set_cons_zero, List.set_cons_succ]
      refine take_val (i := 12) (oi := ⟨some 47, .fieldAddr 57 (.tmp 13) 2, _, _, _, none⟩) (.pointer (some ⟨pX, 38, none⟩)) rfl (by kernel_rfl) (by kernel_rfl) (by kernel_rfl) (fun _ _ _ h => h) rfl (fun w hSw => ex_field rfl (fa_s2 _ _)) hSd ?_
      simp only [Act.put, List.setIfInBounds_toArray, List.set_cons_zero, List.set_cons_succ]
      refine take_call 7 (f := 18) (args := #[.int .u32 (num r 2), .pointer (some ⟨pA, 0, none⟩)]) rfl (by kernel_rfl) rfl (by kernel_rfl) (on_w _ pA (tB (atK b ls k) r) (num r 2) HV.out.2.1 HC.out.2.2.1.2.2.1 HT2.2.2.1) ?_
      rintro e v2 ⟨he, ha, hg⟩
      rw [show (tB (atK b ls k) r) + num r 2 = (tC (atK b ls k) r) from rfl] at he
      subst he
      have HT3 : TS W X.heap.size pA pT pX b ls k u8 u9 (tC (atK b ls k) r) r.toArray (smpA 0 0 (tA (atK b ls k) r / 18446744073709551616) (tA (atK b ls k) r % 18446744073709551616) 0 0 0 0 0 0 0 0) v2 := HT2.on HT.out.1 hg ha
      clear ha hg hSd
      refine ⟨_, rfl, HT3.2.2.2.1, ?_⟩
      have hSd := HT3.2.2.2.1
      simp only [Act.put, List.setIfInBounds_toArray, List.set_cons_zero, List.set_cons_succ]
      refine take_call 11 (f := 18) (args := #[.int .u32 (num r 3), .pointer (some ⟨pA, 0, none⟩)]) rfl (by kernel_rfl) rfl (by kernel_rfl) (on_w _ pA (tC (atK b ls k) r) (num r 3) HV.out.2.2 HC.out.2.2.1.2.2.2.1 HT3.2.2.1) ?_
      rintro e v3 ⟨he, ha, hg⟩
      rw [show (tC (atK b ls k) r) + num r 3 = (tD (atK b ls k) r) from rfl] at he
      subst he
      have HT4 : TS W X.heap.size pA pT pX b ls k u8 u9 (tD (atK b ls k) r) r.toArray (smpA 0 0 (tA (atK b ls k) r / 18446744073709551616) (tA (atK b ls k) r % 18446744073709551616) 0 0 0 0 0 0 0 0) v3 := HT3.on HT.out.1 hg ha
      clear ha hg hSd
      refine ⟨_, rfl, HT4.2.2.2.1, ?_⟩
      have hSd := HT4.2.2.2.1
      simp only [Act.put, List.setIfInBounds_toArray, List.set_cons_zero, List.set_cons_succ]
      have HT5 : TS W X.heap.size pA pT pX b ls k u8 u9 (tD (atK b ls k) r) r.toArray (smpA 0 0 (tA (atK b ls k) r / 18446744073709551616) (tA (atK b ls k) r % 18446744073709551616) (tB (atK b ls k) r / 18446744073709551616) (tB (atK b ls k) r % 18446744073709551616) 0 0 0 0 0 0) ((v3.setCell ⟨pX, 38, none⟩ (.int .i64 (tB (atK b ls k) r / 18446744073709551616))).setCell ⟨pX, 38 + 1, none⟩ (.int .u64 (tB (atK b ls k) r % 18446744073709551616))) := ((HT4.set HT.out.1 38 (.int .i64 (tB (atK b ls k) r / 18446744073709551616))).set HT.out.1 (38 + 1) (.int .u64 (tB (atK b ls k) r % 18446744073709551616))).as (sx38 _ _ _ _ _ _ _ _ _ _ _ _ _ _)
      refine take_st 13 rfl (by kernel_rfl) rfl (st_wide _ _ _ _ pX 38 _ _ _ rfl rfl HT4.2.2.2.2.1 (show 38 + 1 < 48 by decide)) HT5.2.2.2.1 ?_
      simp only [Act.put, List.setIfInBounds_toArray, List.set_cons_zero, List.set_cons_succ]
      clear HT4
      generalize ((v3.setCell ⟨pX, 38, none⟩ (.int .i64 (tB (atK b ls k) r / 18446744073709551616))).setCell ⟨pX, 38 + 1, none⟩ (.int .u64 (tB (atK b ls k) r % 18446744073709551616))) = z4 at *
      have hSd := HT5.2.2.2.1
      refine take_val (i := 14) (oi := ⟨some 48, .fieldAddr 57 (.tmp 13) 3, _, _, _, none⟩) (.pointer (some ⟨pX, 40, none⟩)) rfl (by kernel_rfl) (by kernel_rfl) (by kernel_rfl) (fun _ _ _ h => h) rfl (fun w hSw => ex_field rfl (fa_s3 _ _)) hSd ?_
      simp only [Act.put, List.setIfInBounds_toArray, List.set_cons_zero, List.set_cons_succ]
      have HT6 : TS W X.heap.size pA pT pX b ls k u8 u9 (tD (atK b ls k) r) r.toArray (smpA 0 0 (tA (atK b ls k) r / 18446744073709551616) (tA (atK b ls k) r % 18446744073709551616) (tB (atK b ls k) r / 18446744073709551616) (tB (atK b ls k) r % 18446744073709551616) (tC (atK b ls k) r / 18446744073709551616) (tC (atK b ls k) r % 18446744073709551616) 0 0 0 0) ((z4.setCell ⟨pX, 40, none⟩ (.int .i64 (tC (atK b ls k) r / 18446744073709551616))).setCell ⟨pX, 40 + 1, none⟩ (.int .u64 (tC (atK b ls k) r % 18446744073709551616))) := ((HT5.set HT.out.1 40 (.int .i64 (tC (atK b ls k) r / 18446744073709551616))).set HT.out.1 (40 + 1) (.int .u64 (tC (atK b ls k) r % 18446744073709551616))).as (sx40 _ _ _ _ _ _ _ _ _ _ _ _ _ _)
      refine take_st 15 rfl (by kernel_rfl) rfl (st_wide _ _ _ _ pX 40 _ _ _ rfl rfl HT5.2.2.2.2.1 (show 40 + 1 < 48 by decide)) HT6.2.2.2.1 ?_
      simp only [Act.put, List.setIfInBounds_toArray, List.set_cons_zero, List.set_cons_succ]
      clear HT5
      generalize ((z4.setCell ⟨pX, 40, none⟩ (.int .i64 (tC (atK b ls k) r / 18446744073709551616))).setCell ⟨pX, 40 + 1, none⟩ (.int .u64 (tC (atK b ls k) r % 18446744073709551616))) = z5 at *
      have hSd := HT6.2.2.2.1
      refine take_val (i := 16) (oi := ⟨some 49, .fieldAddr 57 (.tmp 13) 4, _, _, _, none⟩) (.pointer (some ⟨pX, 0 + 42, none⟩)) rfl (by kernel_rfl) (by kernel_rfl) (by kernel_rfl) (fun _ _ _ h => h) rfl (fun w hSw => ex_field rfl (fa_s4 _ _ _)) hSd ?_
      simp only [Act.put, List.setIfInBounds_toArray, List.set_cons_zero, List.set_cons_succ]
      have HT7 : TS W X.heap.size pA pT pX b ls k u8 u9 (tD (atK b ls k) r) r.toArray (smpA 0 0 (tA (atK b ls k) r / 18446744073709551616) (tA (atK b ls k) r % 18446744073709551616) (tB (atK b ls k) r / 18446744073709551616) (tB (atK b ls k) r % 18446744073709551616) (tC (atK b ls k) r / 18446744073709551616) (tC (atK b ls k) r % 18446744073709551616) (tD (atK b ls k) r / 18446744073709551616) (tD (atK b ls k) r % 18446744073709551616) 0 0) ((z5.setCell ⟨pX, 42, none⟩ (.int .i64 (tD (atK b ls k) r / 18446744073709551616))).setCell ⟨pX, 42 + 1, none⟩ (.int .u64 (tD (atK b ls k) r % 18446744073709551616))) := ((HT6.set HT.out.1 42 (.int .i64 (tD (atK b ls k) r / 18446744073709551616))).set HT.out.1 (42 + 1) (.int .u64 (tD (atK b ls k) r % 18446744073709551616))).as (sx42 _ _ _ _ _ _ _ _ _ _ _ _ _ _)
      refine take_st 17 rfl (by kernel_rfl) rfl (st_wide _ _ _ _ pX 42 _ _ _ rfl rfl HT6.2.2.2.2.1 (show 42 + 1 < 48 by decide)) HT7.2.2.2.1 ?_
      simp only [Act.put, List.setIfInBounds_toArray, List.set_cons_zero, List.set_cons_succ]
      clear HT6
      generalize ((z5.setCell ⟨pX, 42, none⟩ (.int .i64 (tD (atK b ls k) r / 18446744073709551616))).setCell ⟨pX, 42 + 1, none⟩ (.int .u64 (tD (atK b ls k) r % 18446744073709551616))) = z6 at *
      have hSd := HT7.2.2.2.1
      refine wpAnyH_done (by kernel_rfl) ?_ _
      clear hSd HT1 HT2 HT3
      have HS := Lib.hid HT7
      clear HT7
      go_wp2_with fail
      have HT1 := HS.out.up (Below.refl z6.heap.size z6).drew
      refine wp_region_held_drew (S := fun w' => w'.heap[pT]? = some (.cells r.toArray 75)) (by kernel_rfl) HT1.2.2.2.1 (fun hSd => ?_)
      refine take_val (i := 0) (oi := ⟨some 50, .fieldAddr 75 (.tmp 11) 4, _, _, _, none⟩) (.pointer (some ⟨pT, 0 + 4, none⟩)) rfl (by kernel_rfl) (by kernel_rfl) (by kernel_rfl) (fun _ _ _ h => h) rfl (fun w hSw => ex_field rfl (fa_t4 _ _ _)) hSd ?_
      simp only [Act.put, List.setIfInBounds_toArray, List.set_cons_zero, List.set_cons_succ]
      refine take_val (i := 1) (oi := ⟨some 51, .load 5 (.tmp 50), _, _, _, none⟩) (.int .u8 (num r 4)) rfl (by kernel_rfl) (by kernel_rfl) (by kernel_rfl) (fun _ _ _ h => h) rfl (fun w hSw => ex_load rfl (ld_u8 _ _ _ _ (cell_of hSw F.out.2.2.2))) hSd ?_
      simp only [Act.put, List.setIfInBounds_toArray, List.set_cons_zero, List.set_cons_succ]
      refine take_val (i := 2) (oi := ⟨some 52, .fieldAddr 57 (.tmp 13) 0, _, _, _, none⟩) (.pointer (some ⟨pX, 0, none⟩)) rfl (by kernel_rfl) (by kernel_rfl) (by kernel_rfl) (fun _ _ _ h => h) rfl (fun w hSw => ex_field rfl (fa_s0 _ _)) hSd ?_
      simp only [Act.put, List.setIfInBounds_toArray, List.set_cons_zero, List.set_cons_succ]
      refine take_val (i := 3) (oi := ⟨some 53, .fieldAddr 52 (.tmp 52) 1, _, _, _, none⟩) (.pointer (some ⟨pX, 18, none⟩)) rfl (by kernel_rfl) (by kernel_rfl) (by kernel_rfl) (fun _ _ _ h => h) rfl (fun w hSw => ex_field rfl (fa_f1 _ _)) hSd ?_
      simp only [Act.put, List.setIfInBounds_toArray, List.set_cons_zero, List.set_cons_succ]
      refine take_val (i := 4) (oi := ⟨some 54, .fieldAddr 50 (.tmp 53) 0, _, _, _, none⟩) (.pointer (some ⟨pX, 18, none⟩)) rfl (by kernel_rfl) (by kernel_rfl) (by kernel_rfl) (fun _ _ _ h => h) rfl (fun w hSw => ex_field rfl (fa_e0 _ _ _)) hSd ?_
      simp only [Act.put, List.setIfInBounds_toArray, List.set_cons_zero, List.set_cons_succ]
      refine take_val (i := 5) (oi := ⟨some 55, .fieldAddr 47 (.tmp 54) 1, _, _, _, none⟩) (.pointer (some ⟨pX, 18 + 1, none⟩)) rfl (by kernel_rfl) (by kernel_rfl) (by kernel_rfl) (fun _ _ _ h => h) rfl (fun w hSw => ex_field rfl (fa_a1 _ _ _)) hSd ?_
      simp only [Act.put, List.setIfInBounds_toArray, List.set_cons_zero, List.set_cons_succ]
      refine take_val (i := 6) (oi := ⟨some 56, .indexAddr 45 (.tmp 55) (.const (.int .i64 0)), _, _, _, none⟩) (.pointer (some ⟨pX, 18 + 1, none⟩)) rfl (by kernel_rfl) (by kernel_rfl) (by kernel_rfl) (fun _ _ _ h => h) rfl (fun w hSw => ex_index rfl rfl (ix_b0 _ _ _)) hSd ?_
      simp only [Act.put, List.setIfInBounds_toArray, List.set_cons_zero, List.set_cons_succ]
      refine take_val (i := 8) (oi := ⟨some 57, .fieldAddr 57 (.tmp 13) 0, _, _, _, none⟩) (.pointer (some ⟨pX, 0, none⟩)) rfl (by kernel_rfl) (by kernel_rfl) (by kernel_rfl) (fun _ _ _ h => h) rfl (fun w hSw => ex_field rfl (fa_s0 _ _)) hSd ?_
      simp only [Act.put, List.setIfInBounds_toArray, List.set_cons_zero, List.set_cons_succ]
      refine take_val (i := 9) (oi := ⟨some 58, .fieldAddr 52 (.tmp 57) 0, _, _, _, none⟩) (.pointer (some ⟨pX, 0, none⟩)) rfl (by kernel_rfl) (by kernel_rfl) (by kernel_rfl) (fun _ _ _ h => h) rfl (fun w hSw => ex_field rfl (fa_f0 _ _)) hSd ?_
      simp only [Act.put, List.setIfInBounds_toArray, List.set_cons_zero, List.set_cons_succ]
      refine take_val (i := 10) (oi := ⟨some 59, .fieldAddr 50 (.tmp 58) 0, _, _, _, none⟩) (.pointer (some ⟨pX, 0, none⟩)) rfl (by kernel_rfl) (by kernel_rfl) (by kernel_rfl) (fun _ _ _ h => h) rfl (fun w hSw => ex_field rfl (fa_e0 _ _ _)) hSd ?_
      simp only [Act.put, List.setIfInBounds_toArray, List.set_cons_zero, List.set_cons_succ]
      refine take_val (i := 11) (oi := ⟨some 60, .fieldAddr 47 (.tmp 59) 1, _, _, _, none⟩) (.pointer (some ⟨pX, 0 + 1, none⟩)) rfl (by kernel_rfl) (by kernel_rfl) (by kernel_rfl) (fun _ _ _ h => h) rfl (fun w hSw => ex_field rfl (fa_a1 _ _ _)) hSd ?_
      simp only [Act.put, List.setIfInBounds_toArray, List.set_cons_zero, List.set_cons_succ]
      have HT2 : TS W X.heap.size pA pT pX b ls k u8 u9 (tD (atK b ls k) r) r.toArray (smpA 0 9 (tA (atK b ls k) r / 18446744073709551616) (tA (atK b ls k) r % 18446744073709551616) (tB (atK b ls k) r / 18446744073709551616) (tB (atK b ls k) r % 18446744073709551616) (tC (atK b ls k) r / 18446744073709551616) (tC (atK b ls k) r % 18446744073709551616) (tD (atK b ls k) r / 18446744073709551616) (tD (atK b ls k) r % 18446744073709551616) 0 0) (z6.drew.setCell ⟨pX, 18 + 1, none⟩ (.int .u8 9)) := (HT1.set HT.out.1 (18 + 1) (.int .u8 9)).as (sx19 _ _ _ _ _ _ _ _ _ _ _ _ _)
      refine take_st 7 rfl (by kernel_rfl) rfl (st_u8 _ _ _ pX (18 + 1) _ _ _ rfl rfl HT1.2.2.2.2.1 (show 18 + 1 < 48 by decide)) HT2.2.2.2.1 ?_
      simp only [Act.put, List.setIfInBounds_toArray, List.set_cons_zero, List.set_cons_succ]
      clear HT1
      generalize (z6.drew.setCell ⟨pX, 18 + 1, none⟩ (.int .u8 9)) = y1 at *
      have hSd := HT2.2.2.2.1
      refine take_val (i := 12) (oi := ⟨some 61, .indexAddr 45 (.tmp 60) (.const (.int .i64 0)), _, _, _, none⟩) (.pointer (some ⟨pX, 0 + 1, none⟩)) rfl (by kernel_rfl) (by kernel_rfl) (by kernel_rfl) (fun _ _ _ h => h) rfl (fun w hSw => ex_index rfl rfl (ix_b0 _ _ _)) hSd ?_
      simp only [Act.put, List.setIfInBounds_toArray, List.set_cons_zero, List.set_cons_succ]
      have HT3 : TS W X.heap.size pA pT pX b ls k u8 u9 (tD (atK b ls k) r) r.toArray (smpA (num r 4) 9 (tA (atK b ls k) r / 18446744073709551616) (tA (atK b ls k) r % 18446744073709551616) (tB (atK b ls k) r / 18446744073709551616) (tB (atK b ls k) r % 18446744073709551616) (tC (atK b ls k) r / 18446744073709551616) (tC (atK b ls k) r % 18446744073709551616) (tD (atK b ls k) r / 18446744073709551616) (tD (atK b ls k) r % 18446744073709551616) 0 0) (y1.setCell ⟨pX, 0 + 1, none⟩ (.int .u8 (num r 4))) := (HT2.set HT.out.1 (0 + 1) (.int .u8 (num r 4))).as (sx1 _ _ _ _ _ _ _ _ _ _ _ _ _)
      refine take_st 13 rfl (by kernel_rfl) rfl (st_u8 _ _ _ pX (0 + 1) _ _ _ rfl rfl HT2.2.2.2.2.1 (show 0 + 1 < 48 by decide)) HT3.2.2.2.1 ?_
      simp only [Act.put, List.setIfInBounds_toArray, List.set_cons_zero, List.set_cons_succ]
      clear HT2
      generalize (y1.setCell ⟨pX, 0 + 1, none⟩ (.int .u8 (num r 4))) = y2 at *
      refine wpAnyH_done (by kernel_rfl) ?_ _
      have HS2 := Lib.hid HT3
      clear hSd HT3 HS
      go_wp2_with fail
      have HT1 := HS2.out.up (Below.refl y2.heap.size y2).drew
      refine wp_region_held_drew (S := fun w' => Mom pX (tA (atK b ls k) r / 18446744073709551616) (tA (atK b ls k) r % 18446744073709551616) (tB (atK b ls k) r / 18446744073709551616) (tB (atK b ls k) r % 18446744073709551616) (tC (atK b ls k) r / 18446744073709551616) (tC (atK b ls k) r % 18446744073709551616) (tD (atK b ls k) r / 18446744073709551616) (tD (atK b ls k) r % 18446744073709551616) w') (by kernel_rfl) (mom_of HT1.2.2.2.2.1) (fun hSd => ?_)
      refine take_val (i := 0) (oi := ⟨some 62, .fieldAddr 57 (.tmp 13) 1, _, _, _, none⟩) (.pointer (some ⟨pX, 36, none⟩)) rfl (by kernel_rfl) (by kernel_rfl) (by kernel_rfl) (fun _ _ _ h => h) rfl (fun w hSw => ex_field rfl (fa_s1 _ _)) hSd ?_
      simp only [Act.put, List.setIfInBounds_toArray, List.set_cons_zero, List.set_cons_succ]
      refine take_val (i := 1) (oi := ⟨some 63, .load 55 (.tmp 62), _, _, _, none⟩) (wd (tA (atK b ls k) r / 18446744073709551616) (tA (atK b ls k) r % 18446744073709551616)) rfl (by kernel_rfl) (by kernel_rfl) (by kernel_rfl) (fun _ _ _ h => h) rfl (fun w hSw => ex_load rfl (ld_wide _ _ _ _ _ hSw.1 hSw.2.1)) hSd ?_
      simp only [Act.put, List.setIfInBounds_toArray, List.set_cons_zero, List.set_cons_succ]
      refine take_val (i := 2) (oi := ⟨some 64, .fieldAddr 57 (.tmp 13) 2, _, _, _, none⟩) (.pointer (some ⟨pX, 38, none⟩)) rfl (by kernel_rfl) (by kernel_rfl) (by kernel_rfl) (fun _ _ _ h => h) rfl (fun w hSw => ex_field rfl (fa_s2 _ _)) hSd ?_
      simp only [Act.put, List.setIfInBounds_toArray, List.set_cons_zero, List.set_cons_succ]
      refine take_val (i := 3) (oi := ⟨some 65, .load 55 (.tmp 64), _, _, _, none⟩) (wd (tB (atK b ls k) r / 18446744073709551616) (tB (atK b ls k) r % 18446744073709551616)) rfl (by kernel_rfl) (by kernel_rfl) (by kernel_rfl) (fun _ _ _ h => h) rfl (fun w hSw => ex_load rfl (ld_wide _ _ _ _ _ hSw.2.2.1 hSw.2.2.2.1)) hSd ?_
      simp only [Act.put, List.setIfInBounds_toArray, List.set_cons_zero, List.set_cons_succ]
      refine take_val (i := 4) (oi := ⟨some 66, .fieldAddr 57 (.tmp 13) 3, _, _, _, none⟩) (.pointer (some ⟨pX, 40, none⟩)) rfl (by kernel_rfl) (by kernel_rfl) (by kernel_rfl) (fun _ _ _ h => h) rfl (fun w hSw => ex_field rfl (fa_s3 _ _)) hSd ?_
      simp only [Act.put, List.setIfInBounds_toArray, List.set_cons_zero, List.set_cons_succ]
      refine take_val (i := 5) (oi := ⟨some 67, .load 55 (.tmp 66), _, _, _, none⟩) (wd (tC (atK b ls k) r / 18446744073709551616) (tC (atK b ls k) r % 18446744073709551616)) rfl (by kernel_rfl) (by kernel_rfl) (by kernel_rfl) (fun _ _ _ h => h) rfl (fun w hSw => ex_load rfl (ld_wide _ _ _ _ _ hSw.2.2.2.2.1 hSw.2.2.2.2.2.1)) hSd ?_
      simp only [Act.put, List.setIfInBounds_toArray, List.set_cons_zero, List.set_cons_succ]
      refine take_val (i := 6) (oi := ⟨some 68, .fieldAddr 57 (.tmp 13) 4, _, _, _, none⟩) (.pointer (some ⟨pX, 0 + 42, none⟩)) rfl (by kernel_rfl) (by kernel_rfl) (by kernel_rfl) (fun _ _ _ h => h) rfl (fun w hSw => ex_field rfl (fa_s4 _ _ _)) hSd ?_
      simp only [Act.put, List.setIfInBounds_toArray, List.set_cons_zero, List.set_cons_succ]
      refine take_val (i := 7) (oi := ⟨some 69, .load 55 (.tmp 68), _, _, _, none⟩) (wd (tD (atK b ls k) r / 18446744073709551616) (tD (atK b ls k) r % 18446744073709551616)) rfl (by kernel_rfl) (by kernel_rfl) (by kernel_rfl) (fun _ _ _ h => h) rfl (fun w hSw => ex_load rfl (ld_wide _ _ _ _ _ hSw.2.2.2.2.2.2.1 hSw.2.2.2.2.2.2.2)) hSd ?_
      simp only [Act.put, List.setIfInBounds_toArray, List.set_cons_zero, List.set_cons_succ]
      refine take_val (i := 9) (oi := ⟨some 71, .fieldAddr 57 (.tmp 13) 1, _, _, _, none⟩) (.pointer (some ⟨pX, 36, none⟩)) rfl (by kernel_rfl) (by kernel_rfl) (by kernel_rfl) (fun _ _ _ h => h) rfl (fun w hSw => ex_field rfl (fa_s1 _ _)) hSd ?_
      simp only [Act.put, List.setIfInBounds_toArray, List.set_cons_zero, List.set_cons_succ]
      refine take_val (i := 10) (oi := ⟨some 72, .load 55 (.tmp 71), _, _, _, none⟩) (wd (tA (atK b ls k) r / 18446744073709551616) (tA (atK b ls k) r % 18446744073709551616)) rfl (by kernel_rfl) (by kernel_rfl) (by kernel_rfl) (fun _ _ _ h => h) rfl (fun w hSw => ex_load rfl (ld_wide _ _ _ _ _ hSw.1 hSw.2.1)) hSd ?_
      simp only [Act.put, List.setIfInBounds_toArray, List.set_cons_zero, List.set_cons_succ]
      refine take_val (i := 11) (oi := ⟨some 73, .fieldAddr 57 (.tmp 13) 2, _, _, _, none⟩) (.pointer (some ⟨pX, 38, none⟩)) rfl (by kernel_rfl) (by kernel_rfl) (by kernel_rfl) (fun _ _ _ h => h) rfl (fun w hSw => ex_field rfl (fa_s2 _ _)) hSd ?_
      simp only [Act.put, List.setIfInBounds_toArray, List.set_cons_zero, List.set_cons_succ]
      refine take_val (i := 12) (oi := ⟨some 74, .load 55 (.tmp 73), _, _, _, none⟩) (wd (tB (atK b ls k) r / 18446744073709551616) (tB (atK b ls k) r % 18446744073709551616)) rfl (by kernel_rfl) (by kernel_rfl) (by kernel_rfl) (fun _ _ _ h => h) rfl (fun w hSw => ex_load rfl (ld_wide _ _ _ _ _ hSw.2.2.1 hSw.2.2.2.1)) hSd ?_
      simp only [Act.put, List.setIfInBounds_toArray, List.set_cons_zero, List.set_cons_succ]
      refine take_val (i := 13) (oi := ⟨some 75, .fieldAddr 57 (.tmp 13) 3, _, _, _, none⟩) (.pointer (some ⟨pX, 40, none⟩)) rfl (by kernel_rfl) (by kernel_rfl) (by kernel_rfl) (fun _ _ _ h => h) rfl (fun w hSw => ex_field rfl (fa_s3 _ _)) hSd ?_
      simp only [Act.put, List.setIfInBounds_toArray, List.set_cons_zero, List.set_cons_succ]
      refine take_val (i := 14) (oi := ⟨some 76, .load 55 (.tmp 75), _, _, _, none⟩) (wd (tC (atK b ls k) r / 18446744073709551616) (tC (atK b ls k) r % 18446744073709551616)) rfl (by kernel_rfl) (by kernel_rfl) (by kernel_rfl) (fun _ _ _ h => h) rfl (fun w hSw => ex_load rfl (ld_wide _ _ _ _ _ hSw.2.2.2.2.1 hSw.2.2.2.2.2.1)) hSd ?_
      simp only [Act.put, List.setIfInBounds_toArray, List.set_cons_zero, List.set_cons_succ]
      refine take_val (i := 15) (oi := ⟨some 77, .fieldAddr 57 (.tmp 13) 4, _, _, _, none⟩) (.pointer (some ⟨pX, 0 + 42, none⟩)) rfl (by kernel_rfl) (by kernel_rfl) (by kernel_rfl) (fun _ _ _ h => h) rfl (fun w hSw => ex_field rfl (fa_s4 _ _ _)) hSd ?_
      simp only [Act.put, List.setIfInBounds_toArray, List.set_cons_zero, List.set_cons_succ]
      refine take_val (i := 16) (oi := ⟨some 78, .load 55 (.tmp 77), _, _, _, none⟩) (wd (tD (atK b ls k) r / 18446744073709551616) (tD (atK b ls k) r % 18446744073709551616)) rfl (by kernel_rfl) (by kernel_rfl) (by kernel_rfl) (fun _ _ _ h => h) rfl (fun w hSw => ex_load rfl (ld_wide _ _ _ _ _ hSw.2.2.2.2.2.2.1 hSw.2.2.2.2.2.2.2)) hSd ?_
      simp only [Act.put, List.setIfInBounds_toArray, List.set_cons_zero, List.set_cons_succ]
      refine take_call 8 (f := 21) (args := #[wd (tA (atK b ls k) r / 18446744073709551616) (tA (atK b ls k) r % 18446744073709551616), wd (tB (atK b ls k) r / 18446744073709551616) (tB (atK b ls k) r % 18446744073709551616), wd (tC (atK b ls k) r / 18446744073709551616) (tC (atK b ls k) r % 18446744073709551616), wd (tD (atK b ls k) r / 18446744073709551616) (tD (atK b ls k) r % 18446744073709551616)]) rfl (by kernel_rfl) rfl (by kernel_rfl) (offset_w _ _ _ _ _ _ _ _ _ (by omega) (by omega) (by omega) (by omega)) ?_
      rintro e v5 ⟨rfl, hb1⟩
      rw [HV2.out.1]
      have HT2 := HT1.up hb1
      clear hb1 hSd HT1
      refine ⟨_, rfl, mom_of HT2.2.2.2.2.1, ?_⟩
      have hSd := mom_of HT2.2.2.2.2.1
      simp only [Act.put, List.setIfInBounds_toArray, List.set_cons_zero, List.set_cons_succ]
      refine take_val (i := 18) (oi := ⟨some 80, .fieldAddr 57 (.tmp 13) 5, _, _, _, none⟩) (.pointer (some ⟨pX, 0 + 44, none⟩)) rfl (by kernel_rfl) (by kernel_rfl) (by kernel_rfl) (fun _ _ _ h => h) rfl (fun w hSw => ex_field rfl (fa_s5 _ _ _)) hSd ?_
      simp only [Act.put, List.setIfInBounds_toArray, List.set_cons_zero, List.set_cons_succ]
      refine take_call 17 (f := 22) (args := #[wd (tA (atK b ls k) r / 18446744073709551616) (tA (atK b ls k) r % 18446744073709551616), wd (tB (atK b ls k) r / 18446744073709551616) (tB (atK b ls k) r % 18446744073709551616), wd (tC (atK b ls k) r / 18446744073709551616) (tC (atK b ls k) r % 18446744073709551616), wd (tD (atK b ls k) r / 18446744073709551616) (tD (atK b ls k) r % 18446744073709551616)]) rfl (by kernel_rfl) rfl (by kernel_rfl) (delay_w _ _ _ _ _ _ _ _ _ (by omega) (by omega) (by omega) (by omega)) ?_
      rintro e v6 ⟨rfl, hb1⟩
      rw [HV2.out.2]
      have HT3 := HT2.up hb1
      clear hb1 hSd HT2
      refine ⟨_, rfl, mom_of HT3.2.2.2.2.1, ?_⟩
      simp only [Act.put, List.setIfInBounds_toArray, List.set_cons_zero, List.set_cons_succ]
      have HT4 : TS W X.heap.size pA pT pX b ls k u8 u9 (tD (atK b ls k) r) r.toArray (smpA (num r 4) 9 (tA (atK b ls k) r / 18446744073709551616) (tA (atK b ls k) r % 18446744073709551616) (tB (atK b ls k) r / 18446744073709551616) (tB (atK b ls k) r % 18446744073709551616) (tC (atK b ls k) r / 18446744073709551616) (tC (atK b ls k) r % 18446744073709551616) (tD (atK b ls k) r / 18446744073709551616) (tD (atK b ls k) r % 18446744073709551616) (offN (tA (atK b ls k) r) (tB (atK b ls k) r) (tC (atK b ls k) r) (tD (atK b ls k) r)) 0) (v6.setCell ⟨pX, 0 + 44, none⟩ (.int .i64 (offN (tA (atK b ls k) r) (tB (atK b ls k) r) (tC (atK b ls k) r) (tD (atK b ls k) r)))) := (HT3.set HT.out.1 (0 + 44) (.int .i64 (offN (tA (atK b ls k) r) (tB (atK b ls k) r) (tC (atK b ls k) r) (tD (atK b ls k) r)))).as (sx44 _ _ _ _ _ _ _ _ _ _ _ _ _)
      refine take_st 19 rfl (by kernel_rfl) rfl (st_i64 _ _ _ pX (0 + 44) _ _ _ rfl rfl HT3.2.2.2.2.1 (show 0 + 44 < 48 by decide)) (mom_of HT4.2.2.2.2.1) ?_
      simp only [Act.put, List.setIfInBounds_toArray, List.set_cons_zero, List.set_cons_succ]
      clear HT3
      generalize (v6.setCell ⟨pX, 0 + 44, none⟩ (.int .i64 (offN (tA (atK b ls k) r) (tB (atK b ls k) r) (tC (atK b ls k) r) (tD (atK b ls k) r)))) = y3 at *
      have hSd := mom_of HT4.2.2.2.2.1
      refine take_val (i := 20) (oi := ⟨some 81, .fieldAddr 57 (.tmp 13) 6, _, _, _, none⟩) (.pointer (some ⟨pX, 0 + 45, none⟩)) rfl (by kernel_rfl) (by kernel_rfl) (by kernel_rfl) (fun _ _ _ h => h) rfl (fun w hSw => ex_field rfl (fa_s6 _ _ _)) hSd ?_
      simp only [Act.put, List.setIfInBounds_toArray, List.set_cons_zero, List.set_cons_succ]
      have HT5 : TS W X.heap.size pA pT pX b ls k u8 u9 (tD (atK b ls k) r) r.toArray (smpA (num r 4) 9 (tA (atK b ls k) r / 18446744073709551616) (tA (atK b ls k) r % 18446744073709551616) (tB (atK b ls k) r / 18446744073709551616) (tB (atK b ls k) r % 18446744073709551616) (tC (atK b ls k) r / 18446744073709551616) (tC (atK b ls k) r % 18446744073709551616) (tD (atK b ls k) r / 18446744073709551616) (tD (atK b ls k) r % 18446744073709551616) (offN (tA (atK b ls k) r) (tB (atK b ls k) r) (tC (atK b ls k) r) (tD (atK b ls k) r)) (delN (tA (atK b ls k) r) (tB (atK b ls k) r) (tC (atK b ls k) r) (tD (atK b ls k) r))) (y3.setCell ⟨pX, 0 + 45, none⟩ (.int .i64 (delN (tA (atK b ls k) r) (tB (atK b ls k) r) (tC (atK b ls k) r) (tD (atK b ls k) r)))) := (HT4.set HT.out.1 (0 + 45) (.int .i64 (delN (tA (atK b ls k) r) (tB (atK b ls k) r) (tC (atK b ls k) r) (tD (atK b ls k) r)))).as (sx45 _ _ _ _ _ _ _ _ _ _ _ _ _)
      refine take_st 21 rfl (by kernel_rfl) rfl (st_i64 _ _ _ pX (0 + 45) _ _ _ rfl rfl HT4.2.2.2.2.1 (show 0 + 45 < 48 by decide)) (mom_of HT5.2.2.2.2.1) ?_
      simp only [Act.put, List.setIfInBounds_toArray, List.set_cons_zero, List.set_cons_succ]
      clear HT4
      generalize (y3.setCell ⟨pX, 0 + 45, none⟩ (.int .i64 (delN (tA (atK b ls k) r) (tB (atK b ls k) r) (tC (atK b ls k) r) (tD (atK b ls k) r)))) = y4 at *
      refine wpAnyH_done (by kernel_rfl) ?_ _
      have HS3 := Lib.hid HT5
      clear HT5 HS2
      have u53 : (Tryd.prog.info? 62).map (·.size) = some 53 := by kernel_rfl
      have hof := of_flats (num r 4) (tA (atK b ls k) r / 18446744073709551616) (tA (atK b ls k) r % 18446744073709551616) (tB (atK b ls k) r / 18446744073709551616) (tB (atK b ls k) r % 18446744073709551616) (tC (atK b ls k) r / 18446744073709551616) (tC (atK b ls k) r % 18446744073709551616) (tD (atK b ls k) r) (offN (tA (atK b ls k) r) (tB (atK b ls k) r) (tC (atK b ls k) r) (tD (atK b ls k) r)) (delN (tA (atK b ls k) r) (tB (atK b ls k) r) (tC (atK b ls k) r) (tD (atK b ls k) r)) (by have := HC.out.2.2.1; have := HC.out.2.2.2; unfold tD tC tB tA; omega)
      have HOF := Lib.hid hof.2.2
      have HLO := Lib.hid (all_oneCell_toArray (row_one (linR_ok (a := atK b ls k) (r := r) (by have := HC.out.2.2.2; omega) HC.out.2.2.1)))
      have hX : y4.heap[pX]? = some (.cells (samR (atK b ls k) r).toArray 57) := HS3.out.2.2.2.2.1
      have hRX := range_new hX
      have HX := Lib.hid (And.intro hRX (And.intro Tryd.underlying57 (And.intro (show (Tryd.prog.info? 57).map (·.size) = some (samR (atK b ls k) r).length from u48) (And.intro Tryd.underlying62 (show (Tryd.prog.info? 62).map (·.size) = some (linR (atK b ls k) r).length from u53)))))
      clear hof hX hRX
      go_wp2_with (first
        | ((with_reducible refine wpList_ld 83 ?_ ?_ ?_ HX.out.1 HX.out.2.1 HX.out.2.2.1 ?_); rfl; rfl; rfl)
        | (go_at_call 23; refine (HOF.out _).mono ?_; rintro e v7 ⟨rfl, hb7⟩)
        | ((with_reducible refine wpList_do 14 (.alloc 62) _ (al_line _ _ _ _ _ _) ?_); (with_reducible refine wpList_st (cells := (linR (atK b ls k) r).toArray) 62 14 86 ?_ ?_ (heap_alloc_new _ _) ?_ ?_ ?_ ?_); rfl; rfl; rfl; exact u53; exact HLO.out; (rw [set_alloc])))
      obtain ⟨is, js0, js1, js2, js3⟩ := info_parts (P := Tryd.prog) (e := 57) (z := .agg smpZ) (size := 48) (bytes := 136) (by kernel_rfl)
      obtain ⟨il, jl0, jl1, jl2, jl3⟩ := info_parts (P := Tryd.prog) (e := 62) (z := .agg lineZ) (size := 53) (bytes := 120) (by kernel_rfl)
      have HIs := Lib.hid (And.intro js0 (And.intro js1 (And.intro js2 js3)))
      have HIl := Lib.hid (And.intro jl0 (And.intro jl1 (And.intro jl2 jl3)))
      have HROW := Lib.hid (And.intro (row_one (samR_ok (a := atK b ls k) (r := r) (by have := HC.out.2.2.2; omega) HC.out.2.2.1)) (row_one (linR_ok (a := atK b ls k) (r := r) (by have := HC.out.2.2.2; omega) HC.out.2.2.1)))
      clear js0 js1 js2 js3 jl0 jl1 jl2 jl3
      have hU : US W X.heap.size pA pX v7.heap.size b ls (tD (atK b ls k) r) (samR (atK b ls k) r).toArray (linR (atK b ls k) r).toArray k k u8 u9 (v7.alloc (.cells (linR (atK b ls k) r).toArray 62)) := HS3.out.us hb7
      have hpl : pT < v7.heap.size := Nat.lt_trans HT.out.1.2.2.2.1 (lt_of_heap (HS3.out.up hb7).2.2.2.2.1)
      generalize v7.alloc (.cells (linR (atK b ls k) r).toArray 62) = Y7 at *
      generalize v7.heap.size = pL at *
      have hU := hU.up (Below.refl Y7.heap.size Y7).drew
      have hsl : (samR (atK b ls k) r).length = 1 * 48 := rfl
      have hll : (linR (atK b ls k) r).length = 1 * 53 := rfl
      have hNB : W.heap.size ≤ X.heap.size := Nat.le_trans HN.out.1 (Nat.le_of_lt HN.out.2)
      refine wp_region_held_drew (S := fun w' => w'.heap[pX]? = some (.cells (samR (atK b ls k) r).toArray 57) ∧ w'.heap[pL]? = some (.cells (linR (atK b ls k) r).toArray 62)) (by kernel_rfl) ⟨hU.2.2.2.1, hU.2.2.2.2.1⟩ (fun hSd => ?_)
      refine take_val (i := 0) (oi := ⟨some 90, .move (.tmp 8), _, _, _, none⟩) (u8) rfl (by kernel_rfl) (by kernel_rfl) (by kernel_rfl) (fun _ _ _ h => h) rfl (fun w hSw => rfl) hSd ?_
      simp only [Act.put, List.setIfInBounds_toArray, List.set_cons_zero, List.set_cons_succ]
      refine take_val (i := 1) (oi := ⟨some 91, .load 57 (.tmp 13), _, _, _, none⟩) (.agg (samR (atK b ls k) r).toArray) rfl (by kernel_rfl) (by kernel_rfl) (by kernel_rfl) (fun _ _ _ h => h) rfl (fun w hSw => ex_load rfl (run_loadAt_mid w pX 0 57 _ _ (range_new hSw.1) HX.out.2.1 rfl HX.out.2.2.1)) hSd ?_
      simp only [Act.put, List.setIfInBounds_toArray, List.set_cons_zero, List.set_cons_succ]
      refine take_val (i := 4) (oi := ⟨some 94, .move (.tmp 9), _, _, _, none⟩) (u9) rfl (by kernel_rfl) (by kernel_rfl) (by kernel_rfl) (fun _ _ _ h => h) rfl (fun w hSw => rfl) hSd ?_
      simp only [Act.put, List.setIfInBounds_toArray, List.set_cons_zero, List.set_cons_succ]
      refine take_val (i := 5) (oi := ⟨some 95, .load 62 (.tmp 14), _, _, _, none⟩) (.agg (linR (atK b ls k) r).toArray) rfl (by kernel_rfl) (by kernel_rfl) (by kernel_rfl) (fun _ _ _ h => h) rfl (fun w hSw => ex_load rfl (run_loadAt_mid w pL 0 62 _ _ (range_new hSw.2) HX.out.2.2.2.1 rfl HX.out.2.2.2.2)) hSd ?_
      simp only [Act.put, List.setIfInBounds_toArray, List.set_cons_zero, List.set_cons_succ]
      refine take_ready (rs := [2, 6]) (by kernel_rfl) (by simp) (fun i hi => ?_)
      have hi2 : i = 2 ∨ i = 6 := by simpa using hi
      rcases hi2 with rfl | rfl
      · clear hi
        refine ⟨⟨some 92, .buildSlice 23 1 #[(0, .tmp 91)], _, _, _, none⟩, rfl, fun K' hK' => ?_⟩
        refine do_if rfl (bs_samp _ _ _ _ _ _ _ _ _ _ _ _ _ _ _ _ _ _ _ rfl) ?_
        have hU1 := hU.up ((Below.refl Y7.drew.heap.size Y7.drew).alloc (Nat.le_refl _) (.cells (samR (atK b ls k) r).toArray 57))
        have qs : (Y7.drew.alloc (.cells (samR (atK b ls k) r).toArray 57)).heap[Y7.drew.heap.size]? = some (.cells (samR (atK b ls k) r).toArray 57) := heap_alloc_new _ _
        refine hK' _ _ ⟨⟨hU1.2.2.2.1, hU1.2.2.2.2.1⟩, ?_⟩
        simp only [Act.put, List.setIfInBounds_toArray, List.set_cons_zero, List.set_cons_succ]
        refine take_ready (rs := [3, 6]) (by kernel_rfl) (by simp) (fun i hi => ?_)
        have hi3 : i = 3 ∨ i = 6 := by simpa using hi
        rcases hi3 with rfl | rfl
        · clear hi
          refine ⟨⟨some 93, .call { callee := .builtin .append, args := #[.tmp 90, .tmp 92], argTypes := #[23, 23] }, _, _, _, none⟩, rfl, fun K' hK' => ?_⟩
          refine app_if (.tmp 90) (.tmp 92) 23 rfl rfl X.heap.size 57 is _ 48 136 Tryd.underlying23 HIs.out.1 HIs.out.2.1 HIs.out.2.2.1 HIs.out.2.2.2 rfl (by decide) _ _ _ rfl hU1.1 ⟨Y7.drew.heap.size, 0, none⟩ 1 1 (samR (atK b ls k) r) rfl hsl (World.news_of_block (cs := (samR (atK b ls k) r).toArray) qs) HROW.out.1 (by unfold maxLen; omega) (by omega) hU1.2.2.2.2.2.2 ?_
          intro vs w2 o1 hG
          have hU2 := hU1.app_s hNB HN.out.2 HT.out.1.2.2.2.1 hpl HT.out.1.2.2.2.2.1 (by rw [HC.out.2.1]; exact o1) hG
          refine hK' _ _ ⟨⟨hU2.2.2.2.1, hU2.2.2.2.2.1⟩, ?_⟩
          simp only [Act.put, List.setIfInBounds_toArray, List.set_cons_zero, List.set_cons_succ]
          refine take_ready (rs := [6]) (by kernel_rfl) (by simp) (fun i hi => ?_)
          obtain rfl : i = 6 := by simpa using hi
          refine ⟨⟨some 96, .buildSlice 22 1 #[(0, .tmp 95)], _, _, _, none⟩, rfl, fun K' hK' => ?_⟩
          refine do_if rfl (bs_line _ _ _ _ _ _ _ _ _ _ _ _ _ rfl) ?_
          have hU3 := hU2.up ((Below.refl w2.heap.size w2).alloc (Nat.le_refl _) (.cells (linR (atK b ls k) r).toArray 62))
          have ql : (w2.alloc (.cells (linR (atK b ls k) r).toArray 62)).heap[w2.heap.size]? = some (.cells (linR (atK b ls k) r).toArray 62) := heap_alloc_new _ _
          refine hK' _ _ ⟨⟨hU3.2.2.2.1, hU3.2.2.2.2.1⟩, ?_⟩
          simp only [Act.put, List.setIfInBounds_toArray, List.set_cons_zero, List.set_cons_succ]
          refine take_ready (rs := [7]) (by kernel_rfl) (by simp) (fun i hi => ?_)
          obtain rfl : i = 7 := by simpa using hi
          refine ⟨⟨some 97, .call { callee := .builtin .append, args := #[.tmp 94, .tmp 96], argTypes := #[22, 22] }, _, _, _, none⟩, rfl, fun K' hK' => ?_⟩
          refine app_if (.tmp 94) (.tmp 96) 22 rfl rfl X.heap.size 62 il _ 53 120 Tryd.underlying22 HIl.out.1 HIl.out.2.1 HIl.out.2.2.1 HIl.out.2.2.2 rfl (by decide) _ _ _ rfl hU3.2.1 ⟨w2.heap.size, 0, none⟩ 1 1 (linR (atK b ls k) r) rfl hll (World.news_of_block (cs := (linR (atK b ls k) r).toArray) ql) HROW.out.2 (by unfold maxLen; omega) (by omega) hU3.2.2.2.2.2.2 ?_
          intro vl w4 o1 hG
          have hU4 := hU3.app_l hNB HN.out.2 HT.out.1.2.2.2.1 hpl HT.out.1.2.2.2.2.2.1 (by rw [HC.out.2.1]; exact o1) hG
          refine hK' _ _ ⟨⟨hU4.2.2.2.1, hU4.2.2.2.2.1⟩, ?_⟩
          simp only [Act.put, List.setIfInBounds_toArray, List.set_cons_zero, List.set_cons_succ]
          have hSd : _ ∧ _ := ⟨hU4.2.2.2.1, hU4.2.2.2.2.1⟩
          refine take_val (i := 8) (oi := ⟨some 8, .assign (.tmp 93), _, _, _, none⟩) (vs) rfl (by kernel_rfl) (by kernel_rfl) (by kernel_rfl) (fun _ _ _ h => h) rfl (fun w hSw => rfl) hSd ?_
          simp only [Act.put, List.setIfInBounds_toArray, List.set_cons_zero, List.set_cons_succ]
          refine take_val (i := 9) (oi := ⟨some 9, .assign (.tmp 97), _, _, _, none⟩) (vl) rfl (by kernel_rfl) (by kernel_rfl) (by kernel_rfl) (fun _ _ _ h => h) rfl (fun w hSw => rfl) hSd ?_
          simp only [Act.put, List.setIfInBounds_toArray, List.set_cons_zero, List.set_cons_succ]
          refine wpAnyH_done (by kernel_rfl) ?_ _
          have HU := Lib.hid hU4
          clear hSd hU4
          go_wp2_with fail
          go_roundg (ls.length - (k + 1))
          case measure => omega
          case rel =>
            have hat : atK b ls (k + 1) = tD (atK b ls k) r := by rw [← HC.out.2.1]; rfl
            exact ⟨k + 1, by go_num, by omega, rfl, HU.out.1, HU.out.2.1, by rw [hat]; exact HU.out.2.2.1, HU.out.2.2.2.2.2.1, HU.out.2.2.2.2.2.2⟩
        · clear hi
          refine ⟨⟨some 96, .buildSlice 22 1 #[(0, .tmp 95)], _, _, _, none⟩, rfl, fun K' hK' => ?_⟩
          refine do_if rfl (bs_line _ _ _ _ _ _ _ _ _ _ _ _ _ rfl) ?_
          have hU2 := hU1.up ((Below.refl (Y7.drew.alloc (.cells (samR (atK b ls k) r).toArray 57)).heap.size (Y7.drew.alloc (.cells (samR (atK b ls k) r).toArray 57))).alloc (Nat.le_refl _) (.cells (linR (atK b ls k) r).toArray 62))
          have ql : ((Y7.drew.alloc (.cells (samR (atK b ls k) r).toArray 57)).alloc (.cells (linR (atK b ls k) r).toArray 62)).heap[(Y7.drew.alloc (.cells (samR (atK b ls k) r).toArray 57)).heap.size]? = some (.cells (linR (atK b ls k) r).toArray 62) := heap_alloc_new _ _
          refine hK' _ _ ⟨⟨hU2.2.2.2.1, hU2.2.2.2.2.1⟩, ?_⟩
          simp only [Act.put, List.setIfInBounds_toArray, List.set_cons_zero, List.set_cons_succ]
          have hz0 : Y7.drew.heap.size ≤ (Y7.drew.alloc (.cells (samR (atK b ls k) r).toArray 57)).heap.size := by rw [alloc_size]; omega
          have qs := keepB ((Below.refl _ (Y7.drew.alloc (.cells (samR (atK b ls k) r).toArray 57))).alloc (Nat.le_refl _) (.cells (linR (atK b ls k) r).toArray 62)) qs
          refine take_ready (rs := [3]) (by kernel_rfl) (by simp) (fun i hi => ?_)
          obtain rfl : i = 3 := by simpa using hi
          refine ⟨⟨some 93, .call { callee := .builtin .append, args := #[.tmp 90, .tmp 92], argTypes := #[23, 23] }, _, _, _, none⟩, rfl, fun K' hK' => ?_⟩
          refine app_if (.tmp 90) (.tmp 92) 23 rfl rfl X.heap.size 57 is _ 48 136 Tryd.underlying23 HIs.out.1 HIs.out.2.1 HIs.out.2.2.1 HIs.out.2.2.2 rfl (by decide) _ _ _ rfl hU2.1 ⟨Y7.drew.heap.size, 0, none⟩ 1 1 (samR (atK b ls k) r) rfl hsl (World.news_of_block (cs := (samR (atK b ls k) r).toArray) qs) HROW.out.1 (by unfold maxLen; omega) (by omega) hU2.2.2.2.2.2.2 ?_
          intro vs w3 o1 hG
          have hU3 := hU2.app_s hNB HN.out.2 HT.out.1.2.2.2.1 hpl HT.out.1.2.2.2.2.1 (by rw [HC.out.2.1]; exact o1) hG
          refine hK' _ _ ⟨⟨hU3.2.2.2.1, hU3.2.2.2.2.1⟩, ?_⟩
          simp only [Act.put, List.setIfInBounds_toArray, List.set_cons_zero, List.set_cons_succ]
          have ql := kept_far hG ql (fun q e => by have := (hU.1.lt q e).2; omega)
          refine take_ready (rs := [7]) (by kernel_rfl) (by simp) (fun i hi => ?_)
          obtain rfl : i = 7 := by simpa using hi
          refine ⟨⟨some 97, .call { callee := .builtin .append, args := #[.tmp 94, .tmp 96], argTypes := #[22, 22] }, _, _, _, none⟩, rfl, fun K' hK' => ?_⟩
          refine app_if (.tmp 94) (.tmp 96) 22 rfl rfl X.heap.size 62 il _ 53 120 Tryd.underlying22 HIl.out.1 HIl.out.2.1 HIl.out.2.2.1 HIl.out.2.2.2 rfl (by decide) _ _ _ rfl hU3.2.1 ⟨(Y7.drew.alloc (.cells (samR (atK b ls k) r).toArray 57)).heap.size, 0, none⟩ 1 1 (linR (atK b ls k) r) rfl hll (World.news_of_block (cs := (linR (atK b ls k) r).toArray) ql) HROW.out.2 (by unfold maxLen; omega) (by omega) hU3.2.2.2.2.2.2 ?_
          intro vl w4 o1 hG
          have hU4 := hU3.app_l hNB HN.out.2 HT.out.1.2.2.2.1 hpl HT.out.1.2.2.2.2.2.1 (by rw [HC.out.2.1]; exact o1) hG
          refine hK' _ _ ⟨⟨hU4.2.2.2.1, hU4.2.2.2.2.1⟩, ?_⟩
          simp only [Act.put, List.setIfInBounds_toArray, List.set_cons_zero, List.set_cons_succ]
          have hSd : _ ∧ _ := ⟨hU4.2.2.2.1, hU4.2.2.2.2.1⟩
          refine take_val (i := 8) (oi := ⟨some 8, .assign (.tmp 93), _, _, _, none⟩) (vs) rfl (by kernel_rfl) (by kernel_rfl) (by kernel_rfl) (fun _ _ _ h => h) rfl (fun w hSw => rfl) hSd ?_
          simp only [Act.put, List.setIfInBounds_toArray, List.set_cons_zero, List.set_cons_succ]
          refine take_val (i := 9) (oi := ⟨some 9, .assign (.tmp 97), _, _, _, none⟩) (vl) rfl (by kernel_rfl) (by kernel_rfl) (by kernel_rfl) (fun _ _ _ h => h) rfl (fun w hSw => rfl) hSd ?_
          simp only [Act.put, List.setIfInBounds_toArray, List.set_cons_zero, List.set_cons_succ]
          refine wpAnyH_done (by kernel_rfl) ?_ _
          have HU := Lib.hid hU4
          clear hSd hU4
          go_wp2_with fail
          go_roundg (ls.length - (k + 1))
          case measure => omega
          case rel =>
            have hat : atK b ls (k + 1) = tD (atK b ls k) r := by rw [← HC.out.2.1]; rfl
            exact ⟨k + 1, by go_num, by omega, rfl, HU.out.1, HU.out.2.1, by rw [hat]; exact HU.out.2.2.1, HU.out.2.2.2.2.2.1, HU.out.2.2.2.2.2.2⟩
      · clear hi
        refine ⟨⟨some 96, .buildSlice 22 1 #[(0, .tmp 95)], _, _, _, none⟩, rfl, fun K' hK' => ?_⟩
        refine do_if rfl (bs_line _ _ _ _ _ _ _ _ _ _ _ _ _ rfl) ?_
        have hU1 := hU.up ((Below.refl Y7.drew.heap.size Y7.drew).alloc (Nat.le_refl _) (.cells (linR (atK b ls k) r).toArray 62))
        have ql : (Y7.drew.alloc (.cells (linR (atK b ls k) r).toArray 62)).heap[Y7.drew.heap.size]? = some (.cells (linR (atK b ls k) r).toArray 62) := heap_alloc_new _ _
        refine hK' _ _ ⟨⟨hU1.2.2.2.1, hU1.2.2.2.2.1⟩, ?_⟩
        simp only [Act.put, List.setIfInBounds_toArray, List.set_cons_zero, List.set_cons_succ]
        refine take_ready (rs := [2]) (by kernel_rfl) (by simp) (fun i hi => ?_)
        obtain rfl : i = 2 := by simpa using hi
        refine ⟨⟨some 92, .buildSlice 23 1 #[(0, .tmp 91)], _, _, _, none⟩, rfl, fun K' hK' => ?_⟩
        refine do_if rfl (bs_samp _ _ _ _ _ _ _ _ _ _ _ _ _ _ _ _ _ _ _ rfl) ?_
        have hU2 := hU1.up ((Below.refl (Y7.drew.alloc (.cells (linR (atK b ls k) r).toArray 62)).heap.size (Y7.drew.alloc (.cells (linR (atK b ls k) r).toArray 62))).alloc (Nat.le_refl _) (.cells (samR (atK b ls k) r).toArray 57))
        have qs : ((Y7.drew.alloc (.cells (linR (atK b ls k) r).toArray 62)).alloc (.cells (samR (atK b ls k) r).toArray 57)).heap[(Y7.drew.alloc (.cells (linR (atK b ls k) r).toArray 62)).heap.size]? = some (.cells (samR (atK b ls k) r).toArray 57) := heap_alloc_new _ _
        refine hK' _ _ ⟨⟨hU2.2.2.2.1, hU2.2.2.2.2.1⟩, ?_⟩
        simp only [Act.put, List.setIfInBounds_toArray, List.set_cons_zero, List.set_cons_succ]
        have ql := keepB ((Below.refl _ (Y7.drew.alloc (.cells (linR (atK b ls k) r).toArray 62))).alloc (Nat.le_refl _) (.cells (samR (atK b ls k) r).toArray 57)) ql
        refine take_ready (rs := [3]) (by kernel_rfl) (by simp) (fun i hi => ?_)
        obtain rfl : i = 3 := by simpa using hi
        refine ⟨⟨some 93, .call { callee := .builtin .append, args := #[.tmp 90, .tmp 92], argTypes := #[23, 23] }, _, _, _, none⟩, rfl, fun K' hK' => ?_⟩
        refine app_if (.tmp 90) (.tmp 92) 23 rfl rfl X.heap.size 57 is _ 48 136 Tryd.underlying23 HIs.out.1 HIs.out.2.1 HIs.out.2.2.1 HIs.out.2.2.2 rfl (by decide) _ _ _ rfl hU2.1 ⟨(Y7.drew.alloc (.cells (linR (atK b ls k) r).toArray 62)).heap.size, 0, none⟩ 1 1 (samR (atK b ls k) r) rfl hsl (World.news_of_block (cs := (samR (atK b ls k) r).toArray) qs) HROW.out.1 (by unfold maxLen; omega) (by omega) hU2.2.2.2.2.2.2 ?_
        intro vs w3 o1 hG
        have hU3 := hU2.app_s hNB HN.out.2 HT.out.1.2.2.2.1 hpl HT.out.1.2.2.2.2.1 (by rw [HC.out.2.1]; exact o1) hG
        refine hK' _ _ ⟨⟨hU3.2.2.2.1, hU3.2.2.2.2.1⟩, ?_⟩
        simp only [Act.put, List.setIfInBounds_toArray, List.set_cons_zero, List.set_cons_succ]
        have ql := kept_far hG ql (fun q e => by have := (hU.1.lt q e).2; omega)
        refine take_ready (rs := [7]) (by kernel_rfl) (by simp) (fun i hi => ?_)
        obtain rfl : i = 7 := by simpa using hi
        refine ⟨⟨some 97, .call { callee := .builtin .append, args := #[.tmp 94, .tmp 96], argTypes := #[22, 22] }, _, _, _, none⟩, rfl, fun K' hK' => ?_⟩
        refine app_if (.tmp 94) (.tmp 96) 22 rfl rfl X.heap.size 62 il _ 53 120 Tryd.underlying22 HIl.out.1 HIl.out.2.1 HIl.out.2.2.1 HIl.out.2.2.2 rfl (by decide) _ _ _ rfl hU3.2.1 ⟨Y7.drew.heap.size, 0, none⟩ 1 1 (linR (atK b ls k) r) rfl hll (World.news_of_block (cs := (linR (atK b ls k) r).toArray) ql) HROW.out.2 (by unfold maxLen; omega) (by omega) hU3.2.2.2.2.2.2 ?_
        intro vl w4 o1 hG
        have hU4 := hU3.app_l hNB HN.out.2 HT.out.1.2.2.2.1 hpl HT.out.1.2.2.2.2.2.1 (by rw [HC.out.2.1]; exact o1) hG
        refine hK' _ _ ⟨⟨hU4.2.2.2.1, hU4.2.2.2.2.1⟩, ?_⟩
        simp only [Act.put, List.setIfInBounds_toArray, List.set_cons_zero, List.set_cons_succ]
        have hSd : _ ∧ _ := ⟨hU4.2.2.2.1, hU4.2.2.2.2.1⟩
        refine take_val (i := 8) (oi := ⟨some 8, .assign (.tmp 93), _, _, _, none⟩) (vs) rfl (by kernel_rfl) (by kernel_rfl) (by kernel_rfl) (fun _ _ _ h => h) rfl (fun w hSw => rfl) hSd ?_
        simp only [Act.put, List.setIfInBounds_toArray, List.set_cons_zero, List.set_cons_succ]
        refine take_val (i := 9) (oi := ⟨some 9, .assign (.tmp 97), _, _, _, none⟩) (vl) rfl (by kernel_rfl) (by kernel_rfl) (by kernel_rfl) (fun _ _ _ h => h) rfl (fun w hSw => rfl) hSd ?_
        simp only [Act.put, List.setIfInBounds_toArray, List.set_cons_zero, List.set_cons_succ]
        refine wpAnyH_done (by kernel_rfl) ?_ _
        have HU := Lib.hid hU4
        clear hSd hU4
        go_wp2_with fail
        go_roundg (ls.length - (k + 1))
        case measure => omega
        case rel =>
          have hat : atK b ls (k + 1) = tD (atK b ls k) r := by rw [← HC.out.2.1]; rfl
          exact ⟨k + 1, by go_num, by omega, rfl, HU.out.1, HU.out.2.1, by rw [hat]; exact HU.out.2.2.1, HU.out.2.2.2.2.2.1, HU.out.2.2.2.2.2.2⟩
end Go.Proofs.YtmnoegfehgoalaaDoor.cx
