/- The row 'CrossAll': the walk. -/
import Derived.Test.YtmnoegfehgoalaaDoorCxG
import Derived.BigQuiet
namespace Go.Proofs.YtmnoegfehgoalaaDoor.cx
open Go.RowKit Go.Extern.Stop Go.Stop Go.Extern Go.Cx
set_option linter.unusedVariables false

theorem cnt_step {α : Type} (M : List (Nat × Nat)) (f : Nat × Nat → Nat) (k x : Nat) (p : Nat × Nat) (hp : M[k]? = some p) : ((M.take (k + 1)).map f).count x = if x = f p then ((M.take k).map f).count x + 1 else ((M.take k).map f).count x := by
  rw [List.take_add_one, hp, List.map_append, List.count_append]
  by_cases h : x = f p
  · subst h
    simp
  · have h' : ¬ f p = x := fun e => h e.symm
    simp [h, h']
theorem set_at {w : World} {g i : Nat} {n : Nat} {f f' : Nat → Nat} {t : TypeId} {v : Int} (hg : w.heap[g]? = some (.cells (cntC n f) t)) (hi : i < n) (hv : v = ((f i : Nat) : Int) + 1) (hf : ∀ j, j < n → f' j = if j = i then f j + 1 else f j) : (w.setCell ⟨g, i, none⟩ (.int .i64 v)).heap[g]? = some (.cells (cntC n f') t) := by
  have h := heap_setCell_same w g i _ _ (.int .i64 v) hg
  rw [h, hv, show ((f i : Nat) : Int) + 1 = ((f i + 1 : Nat) : Int) by omega, cntC_set _ _ _ hi, cntC_congr fun j hj => (hf j hj).symm]
theorem far_at {w : World} {g i k : Nat} {o : Obj} {v : Value} (hk : w.heap[k]? = some o) (hne : k ≠ g) : (w.setCell ⟨g, i, none⟩ v).heap[k]? = some o := by
  rw [heap_setCell_other _ _ _ _ (by exact hne)]
  exact hk
theorem wpList_dog {P : Program} {ops : Array Oper} {rest : List Oper} {a : Act} {w w2 : World} {Q : Exit → Act → World → Prop} {t : TypeId} {p : String} {e : Array Edge} {g : Option (Nat × Bool)} (d : Nat) (op : Op) (v : Value) (hw : Region.wanted ⟨some d, op, t, p, e, g⟩ (yielded ops a.tmps) = true) (hx : (execOp a.eval ⟨some d, op, t, p, e, g⟩).run P w = .ok (.value v) w2)
    (h : wpList P ops Q rest (a.put (some d) v) w2) : wpList P ops Q (⟨some d, op, t, p, e, g⟩ :: rest) a w := by
  unfold wpList
  rw [if_pos hw]
  refine .inl ?_
  unfold Oper.wp
  rw [hx, Oper.upon_value]
  exact h
theorem cnt_step2 (L : List Nat) (c : Nat) (k j x : Nat) (hp : L[k]? = some x) : c + (L.take (k + 1)).count j = if j = x then c + (L.take k).count j + 1 else c + (L.take k).count j := by
  rw [List.take_add_one, hp, List.count_append]
  by_cases h : j = x
  · subst h
    simp
    omega
  · have h' : ¬ x = j := fun e => h e.symm
    simp [h, h']
theorem up_at {L : List Nat} (hup : L.Pairwise (· < ·)) {k x y : Nat} (h1 : L[k]? = some x) (h2 : L[k + 1]? = some y) : x < y := by
  obtain ⟨l1, e1⟩ := List.getElem?_eq_some_iff.1 h1
  obtain ⟨l2, e2⟩ := List.getElem?_eq_some_iff.1 h2
  have := List.pairwise_iff_getElem.1 hup k (k + 1) l1 l2 (by omega)
  rw [e1, e2] at this
  exact this
theorem cnt_le (L : List Nat) (k x b : Nat) (h : L.length ≤ b) : (L.take k).count x ≤ b := by
  have := List.count_le_length (a := x) (l := L.take k)
  rw [List.length_take] at this
  omega
set_option maxRecDepth 1000000 in
theorem ex_len1 (ev : Operand → Value) (w : World) (d x : Nat) (a : Option Addr) (n c : Nat) (t : TypeId) (p : String) {e : Array Edge} (h : ev (.tmp x) = .slice a n c) : (execOp ev ⟨some d, .call { callee := .builtin .len, args := #[.tmp x], argTypes := #[22] }, t, p, e, none⟩).run Tryd.prog w = .ok (.value (.int .i64 (n : Nat))) w := by
  go_simp
set_option maxRecDepth 1000000 in
theorem ex_len2 (ev : Operand → Value) (w : World) (d x : Nat) (a : Option Addr) (n c : Nat) (t : TypeId) (p : String) {e : Array Edge} (h : ev (.tmp x) = .slice a n c) : (execOp ev ⟨some d, .call { callee := .builtin .len, args := #[.tmp x], argTypes := #[23] }, t, p, e, none⟩).run Tryd.prog w = .ok (.value (.int .i64 (n : Nat))) w := by
  go_simp
set_option maxHeartbeats 8000000 in
set_option maxRecDepth 1000000 in
theorem row_all (W : World) (lv sv : Value) (ls ss : List (List Value)) (hl : ∀ r ∈ ls, RowOk lineK r) (hs : ∀ r ∈ ss, RowOk sampK r) (hlv : Sl W 53 lv ls) (hsv : Sl W 48 sv ss) (n1 : ls.length ≤ 60) (n2 : ss.length ≤ 60)
    (hK : ∀ w, Below W.heap.size W w → Calls Tryd.prog 5 #[] w fun e w' => e = .returned (.bool true) ∧ Below w.heap.size w w') :
    Calls Tryd.prog 3 #[lv, sv] W fun e w' => e = .returned (.bool true) ∧ Below W.heap.size W w' := by
  obtain ⟨la, lc, rfl, lcap, lmx, lnone⟩ := hlv.form
  obtain ⟨sa, sc, rfl, scap, smx, snone⟩ := hsv.form
  have hI := greed_inv ss.length (TT ls ss) ls.length
  have hbl := bare_len ss.length (TT ls ss) ls.length
  have hso := samples_once ss.length (TT ls ss) ls.length
  have hmeet := meet_w W (.slice la ls.length lc) (.slice sa ss.length sc) ls ss hl hs hlv hsv n1 n2
  have HI := Lib.hid (And.intro hI (And.intro hbl hso))
  clear hso
  obtain ⟨ii, ji0, ji1, ji2, ji3⟩ := info_parts (P := Tryd.prog) (e := 3) (z := .int .i64 0) (size := 1) (bytes := 8) (by kernel_rfl)
  have HT := Lib.hid (And.intro ji0 (And.intro ji1 (And.intro ji2 ji3)))
  clear ji0 ji1 ji2 ji3
  have HL := Lib.hid (And.intro hl (And.intro hs (And.intro hlv hsv)))
  have HM := Lib.hid hmeet
  have HK := Lib.hid hK
  have hlen := hI.len
  clear hl hs hlv hsv hmeet hK lnone snone hI
  generalize hG : greed ss.length (TT ls ss) ls.length = G at *
  generalize hnm : G.met.length = nm at *
  generalize hnl : G.lost.length = nl at *
  generalize hnb : (bare ss.length G).length = nb at *
  generalize hn : ls.length = n at *
  generalize hm : ss.length = m at *
  have d1 : decide ((60 : Int) < (n : Int)) = false := by simp; omega
  have d2 : decide ((60 : Int) < (m : Int)) = false := by simp; omega
  have s1 : (nm : Int) + (nl : Int) = (n : Int) := by omega
  have s2 : (nm : Int) + (nb : Int) = (m : Int) := by omega
  have s3 : ((nm : Int) + (nl : Int) != (n : Int)) = false := by rw [s1]; simp
  have s4 : ((nm : Int) + (nb : Int) != (m : Int)) = false := by rw [s2]; simp
  go_enter Tryd.func3, Tryd.ntmps3
  go_wp2_with (go_at_call 6; refine HM.out.mono ?_; rintro e w1 ⟨vm, vl, vb, rfl, o1, o2, o3, hb1⟩; (rw [hm, hn, hG, hnm] at o1); (rw [hm, hn, hG, hnl] at o2); (rw [hm, hn, hG, hnb] at o3); (obtain ⟨a5, c5, rfl, k51, k52, k53, k54⟩ := own_get o1); (obtain ⟨a6, c6, rfl, k61, k62, k63, k64⟩ := own_get o2); (obtain ⟨a7, c7, rfl, k71, k72, k73, k74⟩ := own_get o3); have HO := Lib.hid (And.intro (And.intro k53 k54) (And.intro (And.intro k63 k64) (And.intro (And.intro k73 k74) hb1))); clear o1 o2 o3 hb1 k53 k54 k63 k64 k73 k74)
  refine Code.wp_mono (Q := fun e a w' => e = .normal ∧ ∃ b1 b2 : Nat, a = ⟨#[Value.slice la n lc, Value.slice sa m sc, undef, undef, Value.bool false, Value.slice a5 nm c5, Value.slice a6 nl c6, Value.slice a7 nb c7, Value.int IntKind.i64 0, Value.slice (some ⟨b1, 0, none⟩) n n, Value.slice (some ⟨b2, 0, none⟩) m m, undef, undef, undef, undef, undef, undef, undef, undef, undef, undef, undef, undef, undef, undef, undef, undef, undef, undef, undef, undef, undef, undef, Value.slice la n lc, Value.int IntKind.i64 ↑n, Value.bool false, Value.bool false, Value.slice sa m sc, Value.int IntKind.i64 ↑m, Value.bool false, Value.bool false, undef, Value.tuple #[Value.slice a5 nm c5, Value.slice a6 nl c6, Value.slice a7 nb c7, Value.int IntKind.i64 0], Value.slice la n lc, Value.slice sa m sc, Value.tuple #[Value.slice a5 nm c5, Value.slice a6 nl c6, Value.slice a7 nb c7, Value.int IntKind.i64 0], Value.slice a5 nm c5, Value.slice a6 nl c6, Value.slice a7 nb c7, Value.int IntKind.i64 0, Value.int IntKind.i64 0, Value.bool false, Value.bool false, Value.slice a5 nm c5, Value.int IntKind.i64 ↑nm, Value.slice a6 nl c6, Value.int IntKind.i64 ↑nl, Value.int IntKind.i64 ↑n, Value.slice la n lc, Value.int IntKind.i64 ↑n, Value.bool false, Value.bool false, Value.bool false, Value.slice a5 nm c5, Value.int IntKind.i64 ↑nm, Value.slice a7 nb c7, Value.int IntKind.i64 ↑nb, Value.int IntKind.i64 ↑m, Value.slice sa m sc, Value.int IntKind.i64 ↑m, Value.bool false, Value.bool false, Value.slice la n lc, Value.int IntKind.i64 ↑n, Value.slice (some ⟨b1, 0, none⟩) n n, Value.slice sa m sc, Value.int IntKind.i64 ↑m, Value.slice (some ⟨b2, 0, none⟩) m m, undef, undef, undef, undef, undef, undef, undef, undef, undef, undef, undef, undef, undef, undef, undef, undef, undef, undef, undef, undef, undef, undef, undef, undef, undef, undef, undef, undef, undef, undef, undef, undef, undef, undef, undef, undef, undef, undef, undef, undef, undef, undef, undef, undef, undef, undef, undef, undef, undef, undef, undef, undef, undef, undef, undef, undef, undef, undef, undef, undef, undef, undef, undef, undef, undef, undef, undef, undef, undef, undef, undef, undef, undef, undef, undef, undef, undef, undef, undef, undef, undef, undef, undef, undef, undef, undef, undef, undef, undef, undef, undef, undef, undef, undef, undef, undef, undef, undef, undef, undef, undef, undef, undef, undef, undef, undef, undef, undef, undef, undef, undef, undef, undef, undef, undef, undef, undef, undef, undef, undef, undef, undef, undef, undef, undef, undef, undef, undef, undef, undef, undef, undef, undef, undef, undef, undef, undef, undef, undef, undef, undef, undef, undef, undef, undef, undef, undef, undef, undef, undef, undef, undef, undef, undef, undef, undef, undef, undef, undef, undef, undef, undef, undef, undef, undef, undef, undef, undef, undef, undef, undef, undef, undef, undef, undef, undef, undef, undef, undef, undef, undef, undef, undef, undef, undef, undef, undef, undef, undef, undef, undef, undef, undef, undef, undef, undef, undef, undef, undef, undef, undef, undef, undef, undef, undef, undef, undef, undef, undef, undef, undef, undef, undef, undef, undef, undef, undef, undef, undef, undef, undef, undef, undef, undef, undef, undef, undef, undef, undef, undef, undef, undef, undef, undef, undef, undef, undef, undef, undef], []⟩ ∧ w'.heap[b1]? = some (.cells (cntC n fun _ => 0) 3) ∧ w'.heap[b2]? = some (.cells (cntC m fun _ => 0) 3) ∧ b1 ≠ b2 ∧ w1.heap.size ≤ b1 ∧ w1.heap.size ≤ b2 ∧ Below w1.heap.size w1 w') ?_ ?_
  rotate_left
  · refine wp_region_held_drew (S := fun _ => True) (by kernel_rfl) trivial (fun hSd => ?_)
    refine take_val (i := 0) (oi := ⟨some 72, .move (.tmp 0), _, _, _, none⟩) (Value.slice la n lc) rfl (by kernel_rfl) (by kernel_rfl) (by kernel_rfl) (fun _ _ _ h => by cases h.1) rfl (fun w hSw => rfl) trivial ?_
    simp only [Act.put, List.setIfInBounds_toArray, List.set_cons_zero, List.set_cons_succ]
    refine take_val (i := 1) (oi := ⟨some 73, .call { callee := .builtin .len, args := #[.tmp 72], argTypes := #[22] }, _, _, _, none⟩) (Value.int .i64 (n : Nat)) rfl (by kernel_rfl) (by kernel_rfl) (by kernel_rfl) (fun _ _ _ h => by cases h.1) rfl (fun w hSw => ex_len1 _ _ _ _ _ _ _ _ _ rfl) trivial ?_
    simp only [Act.put, List.setIfInBounds_toArray, List.set_cons_zero, List.set_cons_succ]
    refine take_val (i := 3) (oi := ⟨some 75, .move (.tmp 1), _, _, _, none⟩) (Value.slice sa m sc) rfl (by kernel_rfl) (by kernel_rfl) (by kernel_rfl) (fun _ _ _ h => by cases h.1) rfl (fun w hSw => rfl) trivial ?_
    simp only [Act.put, List.setIfInBounds_toArray, List.set_cons_zero, List.set_cons_succ]
    refine take_val (i := 4) (oi := ⟨some 76, .call { callee := .builtin .len, args := #[.tmp 75], argTypes := #[23] }, _, _, _, none⟩) (Value.int .i64 (m : Nat)) rfl (by kernel_rfl) (by kernel_rfl) (by kernel_rfl) (fun _ _ _ h => by cases h.1) rfl (fun w hSw => ex_len2 _ _ _ _ _ _ _ _ _ rfl) trivial ?_
    simp only [Act.put, List.setIfInBounds_toArray, List.set_cons_zero, List.set_cons_succ]
    refine take_ready (rs := [2, 5]) (by kernel_rfl) (by simp) (fun i hi => ?_)
    have hi2 : i = 2 ∨ i = 5 := by simpa using hi
    rcases hi2 with rfl | rfl
    · refine ⟨_, rfl, fun K' hK' => ?_⟩
      refine take_make (S := fun _ => True) 2 (ops := _) (md := .any) (listed := #[]) (fuel := 0) (.tmp 73) 26 rfl rfl 0 3 ii _ 1 Tryd.underlying26 HT.out.1 HT.out.2.1 HT.out.2.2.1 n rfl (by rw [HT.out.2.2.2]; omega) (by unfold maxLen; omega) (Nat.zero_le _) ?_
      intro w2 po pg
      refine hK' _ _ ⟨trivial, ?_⟩
      simp only [Act.put, List.setIfInBounds_toArray, List.set_cons_zero, List.set_cons_succ]
      refine take_val (i := 6) (oi := ⟨some 9, .assign (.tmp 74), _, _, _, none⟩) (Value.slice (some ⟨w1.heap.size, 0, none⟩) n n) rfl (by kernel_rfl) (by kernel_rfl) (by kernel_rfl) (fun _ _ _ h => by cases h.1) rfl (fun w hSw => rfl) trivial ?_
      simp only [Act.put, List.setIfInBounds_toArray, List.set_cons_zero, List.set_cons_succ]
      refine take_ready (rs := [5]) (by kernel_rfl) (by simp) (fun i hi => ?_)
      obtain rfl : i = 5 := by simpa using hi
      refine ⟨_, rfl, fun K' hK' => ?_⟩
      refine take_make (S := fun _ => True) 5 (ops := _) (md := .any) (listed := #[]) (fuel := 0) (.tmp 76) 26 rfl rfl 0 3 ii _ 1 Tryd.underlying26 HT.out.1 HT.out.2.1 HT.out.2.2.1 m rfl (by rw [HT.out.2.2.2]; omega) (by unfold maxLen; omega) (Nat.zero_le _) ?_
      intro w3 qo qg
      refine hK' _ _ ⟨trivial, ?_⟩
      simp only [Act.put, List.setIfInBounds_toArray, List.set_cons_zero, List.set_cons_succ]
      refine take_val (i := 7) (oi := ⟨some 10, .assign (.tmp 77), _, _, _, none⟩) (Value.slice (some ⟨w2.heap.size, 0, none⟩) m m) rfl (by kernel_rfl) (by kernel_rfl) (by kernel_rfl) (fun _ _ _ h => by cases h.1) rfl (fun w hSw => rfl) trivial ?_
      simp only [Act.put, List.setIfInBounds_toArray, List.set_cons_zero, List.set_cons_succ]
      refine wpAnyH_done (by kernel_rfl) ?_ _
      refine ⟨rfl, _, _, rfl, ?_⟩
      have x1 : w2.heap[w1.heap.size]? = some (Obj.cells (cntC n fun _ => 0) 3) := by have x := own_block (cap := 0) po; rw [Nat.mul_one, show (Value.int IntKind.i64 0).cells = #[Value.int .i64 0] from rfl, made_ints] at x; exact x
      have x2 : w3.heap[w2.heap.size]? = some (Obj.cells (cntC m fun _ => 0) 3) := by have x := own_block (cap := 0) qo; rw [Nat.mul_one, show (Value.int IntKind.i64 0).cells = #[Value.int .i64 0] from rfl, made_ints] at x; exact x
      have y1 := grown_below pg
      have y2 := grown_below qg
      have z1 := lt_of_heap x1
      exact ⟨keepB y2 x1, x2, by omega, Nat.le_refl _, by have := y1.size; exact this, bT (bT ((Below.refl _ _).drew) y1) y2⟩
    · refine ⟨_, rfl, fun K' hK' => ?_⟩
      refine take_make (S := fun _ => True) 5 (ops := _) (md := .any) (listed := #[]) (fuel := 0) (.tmp 76) 26 rfl rfl 0 3 ii _ 1 Tryd.underlying26 HT.out.1 HT.out.2.1 HT.out.2.2.1 m rfl (by rw [HT.out.2.2.2]; omega) (by unfold maxLen; omega) (Nat.zero_le _) ?_
      intro w2 po pg
      refine hK' _ _ ⟨trivial, ?_⟩
      simp only [Act.put, List.setIfInBounds_toArray, List.set_cons_zero, List.set_cons_succ]
      refine take_ready (rs := [2]) (by kernel_rfl) (by simp) (fun i hi => ?_)
      obtain rfl : i = 2 := by simpa using hi
      refine ⟨_, rfl, fun K' hK' => ?_⟩
      refine take_make (S := fun _ => True) 2 (ops := _) (md := .any) (listed := #[]) (fuel := 0) (.tmp 73) 26 rfl rfl 0 3 ii _ 1 Tryd.underlying26 HT.out.1 HT.out.2.1 HT.out.2.2.1 n rfl (by rw [HT.out.2.2.2]; omega) (by unfold maxLen; omega) (Nat.zero_le _) ?_
      intro w3 qo qg
      refine hK' _ _ ⟨trivial, ?_⟩
      simp only [Act.put, List.setIfInBounds_toArray, List.set_cons_zero, List.set_cons_succ]
      refine take_val (i := 6) (oi := ⟨some 9, .assign (.tmp 74), _, _, _, none⟩) (Value.slice (some ⟨w2.heap.size, 0, none⟩) n n) rfl (by kernel_rfl) (by kernel_rfl) (by kernel_rfl) (fun _ _ _ h => by cases h.1) rfl (fun w hSw => rfl) trivial ?_
      simp only [Act.put, List.setIfInBounds_toArray, List.set_cons_zero, List.set_cons_succ]
      refine take_val (i := 7) (oi := ⟨some 10, .assign (.tmp 77), _, _, _, none⟩) (Value.slice (some ⟨w1.heap.size, 0, none⟩) m m) rfl (by kernel_rfl) (by kernel_rfl) (by kernel_rfl) (fun _ _ _ h => by cases h.1) rfl (fun w hSw => rfl) trivial ?_
      simp only [Act.put, List.setIfInBounds_toArray, List.set_cons_zero, List.set_cons_succ]
      refine wpAnyH_done (by kernel_rfl) ?_ _
      refine ⟨rfl, _, _, rfl, ?_⟩
      have x1 : w2.heap[w1.heap.size]? = some (Obj.cells (cntC m fun _ => 0) 3) := by have x := own_block (cap := 0) po; rw [Nat.mul_one, show (Value.int IntKind.i64 0).cells = #[Value.int .i64 0] from rfl, made_ints] at x; exact x
      have x2 : w3.heap[w2.heap.size]? = some (Obj.cells (cntC n fun _ => 0) 3) := by have x := own_block (cap := 0) qo; rw [Nat.mul_one, show (Value.int IntKind.i64 0).cells = #[Value.int .i64 0] from rfl, made_ints] at x; exact x
      have y1 := grown_below pg
      have y2 := grown_below qg
      have z1 := lt_of_heap x1
      exact ⟨x2, keepB y2 x1, by omega, by have := y1.size; exact this, Nat.le_refl _, bT (bT ((Below.refl _ _).drew) y1) y2⟩
  rintro e a w2 ⟨rfl, b1, b2, rfl, q1, q2, hbne, hb1l, hb2l, hb2⟩
  dsimp only
  have HB := Lib.hid (And.intro hbne (And.intro hb1l hb2l))
  have HQ := Lib.hid (And.intro q1 (And.intro q2 hb2))
  clear hbne hb1l hb2l q1 q2 hb2 s1 s2 s3 s4 d1 d2
  go_wp2_with fail
  go_loopg [80] nm (fun g i wl => ∃ k : Nat, i = .int .i64 (k : Nat) ∧ k ≤ nm ∧ g = nm - k ∧ Below w1.heap.size w1 wl ∧ wl.heap[b1]? = some (.cells (cntC n fun x => ((G.met.take k).map (·.1)).count x) 3) ∧ wl.heap[b2]? = some (.cells (cntC m fun x => ((G.met.take k).map (·.2)).count x) 3))
  case atStart => exact ⟨0, rfl, Nat.zero_le _, by omega, HQ.out.2.2, by simpa using HQ.out.1, by simpa using HQ.out.2.1⟩
  case round =>
    obtain ⟨k, rfl, hk, hg, hbw, q1, q2⟩ := hrel
    by_cases hkn : k = nm
    · have hkn := hkn.symm
      subst hkn
      have e1 : decide ((nm : Int) < (nm : Int)) = false := by simp
      rw [List.take_of_length_le (by omega)] at q1 q2
      have HNE := Lib.hid (And.intro HB.out.1 (fun h : b2 = b1 => HB.out.1 h.symm))
      have HS1 := Lib.hid (And.intro hbw (And.intro (show wr.heap[b1]? = some (.cells (cntC n fun x => (G.met.map (·.1)).count x + (G.lost.take 0).count x) 3) by simpa using q1) q2))
      clear q1 q2 hbw
      go_wp2_with fail
      go_loopg [193] nl (fun g i wl => ∃ k : Nat, i = .int .i64 (k : Nat) ∧ k ≤ nl ∧ g = nl - k ∧ Below w1.heap.size w1 wl ∧ wl.heap[b1]? = some (.cells (cntC n fun x => (G.met.map (·.1)).count x + (G.lost.take k).count x) 3) ∧ wl.heap[b2]? = some (.cells (cntC m fun x => (G.met.map (·.2)).count x) 3))
      case atStart => exact ⟨0, rfl, Nat.zero_le _, by omega, HS1.out.1, HS1.out.2.1, HS1.out.2.2⟩
      case round =>
        obtain ⟨k, rfl, hk, hg, hbw, q1, q2⟩ := hrel
        by_cases hkn : k = nl
        · have hkn := hkn.symm
          subst hkn
          have e1 : decide ((nl : Int) < (nl : Int)) = false := by simp
          rw [List.take_of_length_le (by omega)] at q1
          have HS2 := Lib.hid (And.intro hbw (And.intro q1 (show wr.heap[b2]? = some (.cells (cntC m fun x => (G.met.map (·.2)).count x + ((bare m G).take 0).count x) 3) by simpa using q2)))
          clear q1 q2 hbw
          go_wp2_with fail
          go_loopg [228] nb (fun g i wl => ∃ k : Nat, i = .int .i64 (k : Nat) ∧ k ≤ nb ∧ g = nb - k ∧ Below w1.heap.size w1 wl ∧ wl.heap[b1]? = some (.cells (cntC n fun x => (G.met.map (·.1)).count x + G.lost.count x) 3) ∧ wl.heap[b2]? = some (.cells (cntC m fun x => (G.met.map (·.2)).count x + ((bare m G).take k).count x) 3))
          case atStart => exact ⟨0, rfl, Nat.zero_le _, by omega, HS2.out.1, HS2.out.2.1, HS2.out.2.2⟩
          case round =>
            obtain ⟨k, rfl, hk, hg, hbw, q1, q2⟩ := hrel
            by_cases hkn : k = nb
            · have hkn := hkn.symm
              subst hkn
              have e1 : decide ((nb : Int) < (nb : Int)) = false := by simp
              rw [List.take_of_length_le (by omega)] at q2
              rw [cntC_congr (g := fun _ => 1) (fun x hx => by have := HI.out.1.lines x; rw [if_pos hx] at this; exact this)] at q1
              rw [cntC_congr (g := fun _ => 1) (fun x hx => HI.out.2.2 x hx)] at q2
              have HO1 := Lib.hid (And.intro hbw (And.intro q1 q2))
              clear q1 q2 hbw
              go_wp2_with fail
              go_loopg [263] n (fun g i wl => ∃ k : Nat, i = .int .i64 (k : Nat) ∧ k ≤ n ∧ g = n - k ∧ Below w1.heap.size w1 wl ∧ wl.heap[b1]? = some (.cells (cntC n fun _ => 1) 3) ∧ wl.heap[b2]? = some (.cells (cntC m fun _ => 1) 3))
              case atStart => exact ⟨0, rfl, Nat.zero_le _, by omega, HO1.out.1, HO1.out.2.1, HO1.out.2.2⟩
              case round =>
                obtain ⟨k, rfl, hk, hg, hbw, q1, q2⟩ := hrel
                by_cases hkn : k = n
                · have hkn := hkn.symm
                  subst hkn
                  have e1 : decide ((n : Int) < (n : Int)) = false := by simp
                  have HO2 := Lib.hid (And.intro hbw (And.intro q1 q2))
                  clear q1 q2 hbw
                  go_wp2_with fail
                  go_loopg [272] m (fun g i wl => ∃ k : Nat, i = .int .i64 (k : Nat) ∧ k ≤ m ∧ g = m - k ∧ Below w1.heap.size w1 wl ∧ wl.heap[b1]? = some (.cells (cntC n fun _ => 1) 3) ∧ wl.heap[b2]? = some (.cells (cntC m fun _ => 1) 3))
                  case atStart => exact ⟨0, rfl, Nat.zero_le _, by omega, HO2.out.1, HO2.out.2.1, HO2.out.2.2⟩
                  case round =>
                    obtain ⟨k, rfl, hk, hg, hbw, q1, q2⟩ := hrel
                    by_cases hkn : k = m
                    · have hkn := hkn.symm
                      subst hkn
                      have e1 : decide ((m : Int) < (m : Int)) = false := by simp
                      have HE5 := Lib.hid hbw
                      clear q1 q2 hbw
                      go_wp2_with fail
                      go_loopg [281] nl (fun g i wl => ∃ k : Nat, i = .int .i64 (k : Nat) ∧ k ≤ nl ∧ g = nl - k ∧ Below w1.heap.size w1 wl)
                      case atStart => exact ⟨0, rfl, Nat.zero_le _, by omega, HE5.out⟩
                      case round =>
                        obtain ⟨k, rfl, hk, hg, hbw⟩ := hrel
                        by_cases hkn : k = nl
                        · have hkn := hkn.symm
                          subst hkn
                          have e1 : decide ((nl : Int) < (nl : Int)) = false := by simp
                          have HE := Lib.hid (HO.out.2.2.2.trans (hbw.mono HO.out.2.2.2.size))
                          clear hbw
                          go_wp2_with (go_at_call 5; refine (HK.out _ HE.out).mono ?_; rintro e w9 ⟨rfl, hb9⟩)
                          go_ret
                          exact ⟨rfl, bT HE.out hb9⟩
                        · have hkl : k < nl := by omega
                          obtain ⟨x, hx⟩ : ∃ x, G.lost[k]? = some x := ⟨G.lost[k], List.getElem?_eq_getElem (by omega)⟩
                          have hxn := HI.out.1.lost_in x (List.mem_of_getElem? hx)
                          obtain ⟨gl, hal, hgl, hrl⟩ := HO.out.2.1.2 (by omega)
                          subst hal
                          have cx := range_cell hrl k _ (ints_get hx)
                          rw [Nat.zero_add] at cx
                          have cx := cell_up hbw cx
                          have e1 : decide ((k : Int) < (nl : Int)) = true := by simp; omega
                          have e2 : (0 : Int) ≤ (k : Int) := by omega
                          have e3 : (k : Int) < (nl : Int) := by omega
                          have HE6 := Lib.hid (And.intro (List.mem_of_getElem? hx) hbw)
                          clear hrl hbw hx
                          go_wp2_with fail
                          clear cx e1 e2 e3
                          rename World => wz
                          go_loopg [287] nb (fun g i wl => ∃ k2 : Nat, i = .int .i64 (k2 : Nat) ∧ k2 ≤ nb ∧ g = nb - k2 ∧ Below wz.heap.size wz wl)
                          case atStart => exact ⟨0, rfl, Nat.zero_le _, by omega, Below.refl _ _⟩
                          case round =>
                            obtain ⟨k2, rfl, hk2, hg2, hbw2⟩ := hrel
                            by_cases hkn2 : k2 = nb
                            · have hkn2 := hkn2.symm
                              subst hkn2
                              have e1 : decide ((nb : Int) < (nb : Int)) = false := by simp
                              have HE := Lib.hid (And.intro (HE6.out.2.trans (hbw2.mono HE6.out.2.size)) HE6.out.1)
                              clear hbw2
                              go_wp2_with fail
                              go_roundg (nl - (k + 1))
                              case measure => omega
                              case rel => exact ⟨k + 1, by go_num, by omega, rfl, HE.out.1⟩
                            · have hkl2 : k2 < nb := by omega
                              obtain ⟨y, hy⟩ : ∃ y, (bare m G)[k2]? = some y := ⟨(bare m G)[k2], List.getElem?_eq_getElem (by omega)⟩
                              obtain ⟨hyn, htk⟩ := bare_in.1 (List.mem_of_getElem? hy)
                              have hTf := HI.out.1.far x HE6.out.1 y hyn htk
                              obtain ⟨gb, hab, hgb, hrb⟩ := HO.out.2.2.1.2 (by omega)
                              subst hab
                              have cy := range_cell hrb k2 _ (ints_get hy)
                              rw [Nat.zero_add] at cy
                              have hbz := HE6.out.2.trans (hbw2.mono HE6.out.2.size)
                              have cy := cell_up hbz cy
                              obtain ⟨bl, ofl, capl, hvl, _, _, hgl2⟩ := HL.out.2.2.1.get (by omega)
                              injection hvl with hla hln hlcp
                              subst hla
                              obtain ⟨bs, ofs, caps, hvs, _, _, hgs⟩ := HL.out.2.2.2.get (by omega)
                              injection hvs with hsa hsn hscp
                              subst hsa
                              clear hln hlcp hsn hscp
                              obtain ⟨rl, hrll⟩ : ∃ r, ls[x]? = some r := ⟨ls[x], List.getElem?_eq_getElem (by omega)⟩
                              obtain ⟨rs, hrss⟩ : ∃ r, ss[y]? = some r := ⟨ss[y], List.getElem?_eq_getElem (by omega)⟩
                              have hol := HL.out.1 rl (List.mem_of_getElem? hrll)
                              have hos := HL.out.2.1 rs (List.mem_of_getElem? hrss)
                              have hrl := hgl2 x rl hrll
                              have hrs := hgs y rs hrss
                              have hlL := range_lt hrl (by rw [hol.length]; decide)
                              have hlS := range_lt hrs (by rw [hos.length]; decide)
                              have hTno := (tt_one ls ss rl rs x y hrll hrss).1.trans hTf
                              have hWr := HO.out.2.2.2.trans (hbz.mono HO.out.2.2.2.size)
                              have II := Lib.hid (And.intro (show wrap64 ((x : Int) + 1) = (x : Int) + 1 by unfold wrap64; omega) (show wrap64 ((y : Int) + 1) = (y : Int) + 1 by unfold wrap64; omega))
                              have HF := Lib.hid (And.intro hol (And.intro hos (And.intro hrl (And.intro hrs (And.intro hTno (And.intro hWr hbw2))))))
                              have e1 : decide ((k2 : Int) < (nb : Int)) = true := by simp; omega
                              have e2 : (0 : Int) ≤ (k2 : Int) := by omega
                              have e3 : (k2 : Int) < (nb : Int) := by omega
                              clear hgl2 hgs hrll hrss hol hos hrl hrs hTno hWr hbw2 hrb hy htk hTf hbz
                              go_wp2_with fail
                              obtain ⟨hol, hos, hrl, hrs, hTno, hWr, hbw2⟩ := HF.out
                              refine wp_region_held_drew (S := fun w' => True) (by kernel_rfl) trivial (fun hSd => ?_)
                              refine take_val (i := 0) (oi := ⟨some 292, .move (.tmp 0), _, _, _, none⟩) (.slice (some ⟨bl, ofl, none⟩) n lc) rfl (by kernel_rfl) (by kernel_rfl) (by kernel_rfl) (fun _ _ _ h => h) rfl (fun w hSw => rfl) trivial ?_
                              simp only [Act.put, List.setIfInBounds_toArray, List.set_cons_zero, List.set_cons_succ]
                              refine take_val (i := 1) (oi := ⟨some 293, .move (.tmp 26), _, _, _, none⟩) (.int .i64 (x : Nat)) rfl (by kernel_rfl) (by kernel_rfl) (by kernel_rfl) (fun _ _ _ h => h) rfl (fun w hSw => rfl) trivial ?_
                              simp only [Act.put, List.setIfInBounds_toArray, List.set_cons_zero, List.set_cons_succ]
                              refine take_val (i := 2) (oi := ⟨some 294, .move (.tmp 26), _, _, _, none⟩) (.int .i64 (x : Nat)) rfl (by kernel_rfl) (by kernel_rfl) (by kernel_rfl) (fun _ _ _ h => h) rfl (fun w hSw => rfl) trivial ?_
                              simp only [Act.put, List.setIfInBounds_toArray, List.set_cons_zero, List.set_cons_succ]
                              refine take_val (i := 3) (oi := ⟨some 295, .binOp .add 3 (.tmp 294) (.const (.int .i64 1)) 3, _, _, _, none⟩) (.int .i64 ((x : Int) + 1)) rfl (by kernel_rfl) (by kernel_rfl) (by kernel_rfl) (fun _ _ _ h => h) rfl (fun w hSw => ex_add rfl rfl II.out.1) trivial ?_
                              simp only [Act.put, List.setIfInBounds_toArray, List.set_cons_zero, List.set_cons_succ]
                              refine take_val (i := 4) (oi := ⟨some 296, .slice 22 (.tmp 292) (some (.tmp 293)) (some (.tmp 295)) none, _, _, _, none⟩) (.slice (some ⟨bl, ofl + x * 53, none⟩) 1 (lc - x)) rfl (by kernel_rfl) (by kernel_rfl) (by kernel_rfl) (fun _ _ _ h => h) rfl (fun w hSw => ex_slice rfl rfl rfl (slice_part Tryd.underlying22 (fun w => by kernel_rfl) bl ofl n lc x hxn lcap _)) trivial ?_
                              simp only [Act.put, List.setIfInBounds_toArray, List.set_cons_zero, List.set_cons_succ]
                              refine take_val (i := 5) (oi := ⟨some 297, .move (.tmp 1), _, _, _, none⟩) (.slice (some ⟨bs, ofs, none⟩) m sc) rfl (by kernel_rfl) (by kernel_rfl) (by kernel_rfl) (fun _ _ _ h => h) rfl (fun w hSw => rfl) trivial ?_
                              simp only [Act.put, List.setIfInBounds_toArray, List.set_cons_zero, List.set_cons_succ]
                              refine take_val (i := 6) (oi := ⟨some 298, .move (.tmp 28), _, _, _, none⟩) (.int .i64 (y : Nat)) rfl (by kernel_rfl) (by kernel_rfl) (by kernel_rfl) (fun _ _ _ h => h) rfl (fun w hSw => rfl) trivial ?_
                              simp only [Act.put, List.setIfInBounds_toArray, List.set_cons_zero, List.set_cons_succ]
                              refine take_val (i := 7) (oi := ⟨some 299, .move (.tmp 28), _, _, _, none⟩) (.int .i64 (y : Nat)) rfl (by kernel_rfl) (by kernel_rfl) (by kernel_rfl) (fun _ _ _ h => h) rfl (fun w hSw => rfl) trivial ?_
                              simp only [Act.put, List.setIfInBounds_toArray, List.set_cons_zero, List.set_cons_succ]
                              refine take_val (i := 8) (oi := ⟨some 300, .binOp .add 3 (.tmp 299) (.const (.int .i64 1)) 3, _, _, _, none⟩) (.int .i64 ((y : Int) + 1)) rfl (by kernel_rfl) (by kernel_rfl) (by kernel_rfl) (fun _ _ _ h => h) rfl (fun w hSw => ex_add rfl rfl II.out.2) trivial ?_
                              simp only [Act.put, List.setIfInBounds_toArray, List.set_cons_zero, List.set_cons_succ]
                              refine take_val (i := 9) (oi := ⟨some 301, .slice 23 (.tmp 297) (some (.tmp 298)) (some (.tmp 300)) none, _, _, _, none⟩) (.slice (some ⟨bs, ofs + y * 48, none⟩) 1 (sc - y)) rfl (by kernel_rfl) (by kernel_rfl) (by kernel_rfl) (fun _ _ _ h => h) rfl (fun w hSw => ex_slice rfl rfl rfl (slice_part Tryd.underlying23 (fun w => by kernel_rfl) bs ofs m sc y hyn scap _)) trivial ?_
                              simp only [Act.put, List.setIfInBounds_toArray, List.set_cons_zero, List.set_cons_succ]
                              have hq8 : ∀ r ∈ [rl], RowOk lineK r := fun r h => by rw [List.mem_singleton.1 h]; exact hol
                              have hq9 : ∀ r ∈ [rs], RowOk sampK r := fun r h => by rw [List.mem_singleton.1 h]; exact hos
                              have hD0 : Below W.heap.size W wr.drew := bT hWr ((Below.refl _ _).drew)
                              have hs8 : Sl wr.drew 53 (.slice (some ⟨bl, ofl + x * 53, none⟩) 1 (lc - x)) [rl] := Sl.one (range_up hrl hD0 hlL) (by omega) (by omega)
                              have hs9 : Sl wr.drew 48 (.slice (some ⟨bs, ofs + y * 48, none⟩) 1 (sc - y)) [rs] := Sl.one (range_up hrs hD0 hlS) (by omega) (by omega)
                              have hmc := meet_w wr.drew _ _ [rl] [rs] hq8 hq9 hs8 hs9 (show 1 ≤ 60 by decide) (show 1 ≤ 60 by decide)
                              clear hq8 hq9 hs8 hs9
                              refine take_call 10 (f := 6) (args := #[.slice (some ⟨bl, ofl + x * 53, none⟩) 1 (lc - x), .slice (some ⟨bs, ofs + y * 48, none⟩) 1 (sc - y)]) rfl (by kernel_rfl) rfl (by kernel_rfl) hmc ?_
                              intro e w4 hMe
                              obtain ⟨ax, capx, vlx, vbx, rfl, hb4⟩ := meet_no hMe hTno
                              have hb5 := bT ((Below.refl _ _).drew) hb4
                              clear hMe hb4 hmc
                              refine ⟨_, rfl, trivial, ?_⟩
                              simp only [Act.put, List.setIfInBounds_toArray, List.set_cons_zero, List.set_cons_succ]
                              refine take_val (i := 11) (oi := ⟨some 291, .move (.tmp 302), _, _, _, none⟩) (.tuple #[.slice ax 0 capx, vlx, vbx, .int .i64 0]) rfl (by kernel_rfl) (by kernel_rfl) (by kernel_rfl) (fun _ _ _ h => h) rfl (fun w hSw => rfl) trivial ?_
                              simp only [Act.put, List.setIfInBounds_toArray, List.set_cons_zero, List.set_cons_succ]
                              refine take_val (i := 12) (oi := ⟨some 303, .extract (.tmp 291) 0, _, _, _, none⟩) (.slice ax 0 capx) rfl (by kernel_rfl) (by kernel_rfl) (by kernel_rfl) (fun _ _ _ h => h) rfl (fun w hSw => rfl) trivial ?_
                              simp only [Act.put, List.setIfInBounds_toArray, List.set_cons_zero, List.set_cons_succ]
                              refine take_val (i := 13) (oi := ⟨some 304, .extract (.tmp 291) 1, _, _, _, none⟩) (vlx) rfl (by kernel_rfl) (by kernel_rfl) (by kernel_rfl) (fun _ _ _ h => h) rfl (fun w hSw => rfl) trivial ?_
                              simp only [Act.put, List.setIfInBounds_toArray, List.set_cons_zero, List.set_cons_succ]
                              refine take_val (i := 14) (oi := ⟨some 305, .extract (.tmp 291) 2, _, _, _, none⟩) (vbx) rfl (by kernel_rfl) (by kernel_rfl) (by kernel_rfl) (fun _ _ _ h => h) rfl (fun w hSw => rfl) trivial ?_
                              simp only [Act.put, List.setIfInBounds_toArray, List.set_cons_zero, List.set_cons_succ]
                              refine take_val (i := 15) (oi := ⟨some 306, .extract (.tmp 291) 3, _, _, _, none⟩) (.int .i64 0) rfl (by kernel_rfl) (by kernel_rfl) (by kernel_rfl) (fun _ _ _ h => h) rfl (fun w hSw => rfl) trivial ?_
                              simp only [Act.put, List.setIfInBounds_toArray, List.set_cons_zero, List.set_cons_succ]
                              refine take_val (i := 16) (oi := ⟨some 29, .assign (.tmp 303), _, _, _, none⟩) (.slice ax 0 capx) rfl (by kernel_rfl) (by kernel_rfl) (by kernel_rfl) (fun _ _ _ h => h) rfl (fun w hSw => rfl) trivial ?_
                              simp only [Act.put, List.setIfInBounds_toArray, List.set_cons_zero, List.set_cons_succ]
                              refine take_val (i := 17) (oi := ⟨some 30, .assign (.tmp 304), _, _, _, none⟩) (vlx) rfl (by kernel_rfl) (by kernel_rfl) (by kernel_rfl) (fun _ _ _ h => h) rfl (fun w hSw => rfl) trivial ?_
                              simp only [Act.put, List.setIfInBounds_toArray, List.set_cons_zero, List.set_cons_succ]
                              refine take_val (i := 18) (oi := ⟨some 31, .assign (.tmp 305), _, _, _, none⟩) (vbx) rfl (by kernel_rfl) (by kernel_rfl) (by kernel_rfl) (fun _ _ _ h => h) rfl (fun w hSw => rfl) trivial ?_
                              simp only [Act.put, List.setIfInBounds_toArray, List.set_cons_zero, List.set_cons_succ]
                              refine take_val (i := 19) (oi := ⟨some 32, .assign (.tmp 306), _, _, _, none⟩) (.int .i64 0) rfl (by kernel_rfl) (by kernel_rfl) (by kernel_rfl) (fun _ _ _ h => h) rfl (fun w hSw => rfl) trivial ?_
                              simp only [Act.put, List.setIfInBounds_toArray, List.set_cons_zero, List.set_cons_succ]
                              refine wpAnyH_done (by kernel_rfl) ?_ _
                              have HB5 := Lib.hid (bT hbw2 hb5)
                              clear hol hos hrl hrs hTno hWr hbw2 hb5 cy e1 e2 e3 II
                              go_wp2_with fail
                              go_roundg (nb - (k2 + 1))
                              case measure => omega
                              case rel => exact ⟨k2 + 1, by go_num, by omega, rfl, HB5.out⟩
                    · have hkl : k < m := by omega
                      have v0 := cell_of (i := k) (v := .int .i64 1) q2 (cntC_get _ hkl)
                      have e1 : decide ((k : Int) < (m : Int)) = true := by simp; omega
                      have e2 : (0 : Int) ≤ (k : Int) := by omega
                      have e3 : (k : Int) < (m : Int) := by omega
                      have HX := Lib.hid (And.intro q1 (And.intro q2 hbw))
                      clear q1 q2 hbw
                      go_wp2_with fail
                      go_roundg (m - (k + 1))
                      case measure => omega
                      case rel => exact ⟨k + 1, by go_num, by omega, rfl, HX.out.2.2, HX.out.1, HX.out.2.1⟩
                · have hkl : k < n := by omega
                  have v0 := cell_of (i := k) (v := .int .i64 1) q1 (cntC_get _ hkl)
                  have e1 : decide ((k : Int) < (n : Int)) = true := by simp; omega
                  have e2 : (0 : Int) ≤ (k : Int) := by omega
                  have e3 : (k : Int) < (n : Int) := by omega
                  have HX := Lib.hid (And.intro q1 (And.intro q2 hbw))
                  clear q1 q2 hbw
                  go_wp2_with fail
                  go_roundg (n - (k + 1))
                  case measure => omega
                  case rel => exact ⟨k + 1, by go_num, by omega, rfl, HX.out.2.2, HX.out.1, HX.out.2.1⟩
            · have hkl : k < nb := by omega
              obtain ⟨x, hx⟩ : ∃ x, (bare m G)[k]? = some x := ⟨(bare m G)[k], List.getElem?_eq_getElem (by omega)⟩
              have hxn := (bare_in.1 (List.mem_of_getElem? hx)).1
              obtain ⟨gl, hal, hgl, hrl⟩ := HO.out.2.2.1.2 (by omega)
              subst hal
              have HR := Lib.hid hrl
              have cx := range_cell hrl k _ (ints_get hx)
              rw [Nat.zero_add] at cx
              have cx := cell_up hbw cx
              have e1 : decide ((k : Int) < (nb : Int)) = true := by simp; omega
              have e2 : (0 : Int) ≤ (k : Int) := by omega
              have e3 : (k : Int) < (nb : Int) := by omega
              clear hrl
              cases k with
              | zero =>
                have v0 := cell_of (i := x) q2 (cntC_get _ hxn)
                have w0 := frozen_of_row _ _ x _ _ q2
                have hu1 : (G.met.map (·.2)).count x + ((bare m G).take 0).count x ≤ 200 := by
                  have h1 := List.count_le_length (a := x) (l := G.met.map (·.2))
                  rw [List.length_map] at h1
                  have h2 := cnt_le (bare m G) 0 x 100 (by omega)
                  omega
                generalize hd1 : (G.met.map (·.2)).count x + ((bare m G).take 0).count x = u1 at v0 hu1
                have HX := Lib.hid (And.intro q1 (And.intro q2 (And.intro hbw (And.intro hd1 hx))))
                clear q1 q2 hbw hd1 hx
                have f1 : decide ((x : Int) < 0) = false := by simp
                have f2 : decide ((m : Int) ≤ (x : Int)) = false := by simp; omega
                have r1 : (0 : Int) ≤ (x : Int) := by omega
                have r2 : (x : Int) < (m : Int) := by omega
                go_wp2_with fail
                go_roundg (nb - (0 + 1))
                case measure => omega
                case rel => exact ⟨0 + 1, by go_num, by omega, rfl, below_cell HX.out.2.2.1 HB.out.2.2, far_at HX.out.1 HNE.out.1, set_at HX.out.2.1 hxn (by rw [HX.out.2.2.2.1]) (fun j hj => cnt_step2 _ _ _ _ _ HX.out.2.2.2.2)⟩
              | succ k' =>
                obtain ⟨x', hx'⟩ : ∃ x, (bare m G)[k']? = some x := ⟨(bare m G)[k'], List.getElem?_eq_getElem (by omega)⟩
                have hlt' := up_at (bare_up m G) hx' hx
                have cp := range_cell HR.out k' _ (ints_get hx')
                rw [Nat.zero_add] at cp
                have cp := cell_up hbw cp
                have f5 : decide ((0 : Int) < (k' : Int) + 1) = true := decide_eq_true (by omega)
                have f6 : decide ((x : Int) ≤ (x' : Int)) = false := by simp; omega
                have p1 : ¬ m ≤ x := by omega
                have p2 : ¬ x ≤ x' := by omega
                have p3 : decide (m ≤ x) = false := decide_eq_false p1
                have p4 : decide (x ≤ x') = false := decide_eq_false p2
                have g1 : (0 : Int) ≤ (k' : Int) := by omega
                have g2 : (k' : Int) < (nb : Int) := by omega
                have e2 : (0 : Int) ≤ ((k' + 1 : Nat) : Int) := by omega
                have e3 : ((k' + 1 : Nat) : Int) < (nb : Int) := by omega
                have f7 := Lib.hid (show wrap64 (((k' + 1 : Nat) : Int) - 1) = (k' : Int) by unfold wrap64; omega)
                clear hx' hlt'
                have v0 := cell_of (i := x) q2 (cntC_get _ hxn)
                have w0 := frozen_of_row _ _ x _ _ q2
                have hu1 : (G.met.map (·.2)).count x + ((bare m G).take (k' + 1)).count x ≤ 200 := by
                  have h1 := List.count_le_length (a := x) (l := G.met.map (·.2))
                  rw [List.length_map] at h1
                  have h2 := cnt_le (bare m G) (k' + 1) x 100 (by omega)
                  omega
                generalize hd1 : (G.met.map (·.2)).count x + ((bare m G).take (k' + 1)).count x = u1 at v0 hu1
                have HX := Lib.hid (And.intro q1 (And.intro q2 (And.intro hbw (And.intro hd1 hx))))
                clear q1 q2 hbw hd1 hx
                have f1 : decide ((x : Int) < 0) = false := by simp
                have f2 : decide ((m : Int) ≤ (x : Int)) = false := by simp; omega
                have r1 : (0 : Int) ≤ (x : Int) := by omega
                have r2 : (x : Int) < (m : Int) := by omega
                go_wp2_with (first
                  | ((with_reducible refine wpList_dog 247 (.binOp .sub 3 (.tmp 246) (.const (.int .i64 1)) 3) (.int .i64 (k' : Nat)) ?_ (ex_sub rfl rfl f7.out) ?_); rfl))
                go_roundg (nb - ((k' + 1) + 1))
                case measure => omega
                case rel => exact ⟨(k' + 1) + 1, by go_num, by omega, rfl, below_cell HX.out.2.2.1 HB.out.2.2, far_at HX.out.1 HNE.out.1, set_at HX.out.2.1 hxn (by rw [HX.out.2.2.2.1]) (fun j hj => cnt_step2 _ _ _ _ _ HX.out.2.2.2.2)⟩
        · have hkl : k < nl := by omega
          obtain ⟨x, hx⟩ : ∃ x, G.lost[k]? = some x := ⟨G.lost[k], List.getElem?_eq_getElem (by omega)⟩
          have hxn := HI.out.1.lost_in x (List.mem_of_getElem? hx)
          obtain ⟨gl, hal, hgl, hrl⟩ := HO.out.2.1.2 (by omega)
          subst hal
          have HR := Lib.hid hrl
          have cx := range_cell hrl k _ (ints_get hx)
          rw [Nat.zero_add] at cx
          have cx := cell_up hbw cx
          have e1 : decide ((k : Int) < (nl : Int)) = true := by simp; omega
          have e2 : (0 : Int) ≤ (k : Int) := by omega
          have e3 : (k : Int) < (nl : Int) := by omega
          clear hrl
          cases k with
          | zero =>
            have v0 := cell_of (i := x) q1 (cntC_get _ hxn)
            have w0 := frozen_of_row _ _ x _ _ q1
            have hu1 : (G.met.map (·.1)).count x + (G.lost.take 0).count x ≤ 200 := by
              have h1 := List.count_le_length (a := x) (l := G.met.map (·.1))
              rw [List.length_map] at h1
              have h2 := cnt_le G.lost 0 x 100 (by omega)
              omega
            generalize hd1 : (G.met.map (·.1)).count x + (G.lost.take 0).count x = u1 at v0 hu1
            have HX := Lib.hid (And.intro q1 (And.intro q2 (And.intro hbw (And.intro hd1 hx))))
            clear q1 q2 hbw hd1 hx
            have f1 : decide ((x : Int) < 0) = false := by simp
            have f2 : decide ((n : Int) ≤ (x : Int)) = false := by simp; omega
            have r1 : (0 : Int) ≤ (x : Int) := by omega
            have r2 : (x : Int) < (n : Int) := by omega
            go_wp2_with fail
            go_roundg (nl - (0 + 1))
            case measure => omega
            case rel => exact ⟨0 + 1, by go_num, by omega, rfl, below_cell HX.out.2.2.1 HB.out.2.1, set_at HX.out.1 hxn (by rw [HX.out.2.2.2.1]) (fun j hj => cnt_step2 _ _ _ _ _ HX.out.2.2.2.2), far_at HX.out.2.1 HNE.out.2⟩
          | succ k' =>
            obtain ⟨x', hx'⟩ : ∃ x, G.lost[k']? = some x := ⟨G.lost[k'], List.getElem?_eq_getElem (by omega)⟩
            have hlt' := up_at HI.out.1.lost_up hx' hx
            have cp := range_cell HR.out k' _ (ints_get hx')
            rw [Nat.zero_add] at cp
            have cp := cell_up hbw cp
            have f5 : decide ((0 : Int) < (k' : Int) + 1) = true := decide_eq_true (by omega)
            have f6 : decide ((x : Int) ≤ (x' : Int)) = false := by simp; omega
            have p1 : ¬ n ≤ x := by omega
            have p2 : ¬ x ≤ x' := by omega
            have p3 : decide (n ≤ x) = false := decide_eq_false p1
            have p4 : decide (x ≤ x') = false := decide_eq_false p2
            have g1 : (0 : Int) ≤ (k' : Int) := by omega
            have g2 : (k' : Int) < (nl : Int) := by omega
            have e2 : (0 : Int) ≤ ((k' + 1 : Nat) : Int) := by omega
            have e3 : ((k' + 1 : Nat) : Int) < (nl : Int) := by omega
            have f7 := Lib.hid (show wrap64 (((k' + 1 : Nat) : Int) - 1) = (k' : Int) by unfold wrap64; omega)
            clear hx' hlt'
            have v0 := cell_of (i := x) q1 (cntC_get _ hxn)
            have w0 := frozen_of_row _ _ x _ _ q1
            have hu1 : (G.met.map (·.1)).count x + (G.lost.take (k' + 1)).count x ≤ 200 := by
              have h1 := List.count_le_length (a := x) (l := G.met.map (·.1))
              rw [List.length_map] at h1
              have h2 := cnt_le G.lost (k' + 1) x 100 (by omega)
              omega
            generalize hd1 : (G.met.map (·.1)).count x + (G.lost.take (k' + 1)).count x = u1 at v0 hu1
            have HX := Lib.hid (And.intro q1 (And.intro q2 (And.intro hbw (And.intro hd1 hx))))
            clear q1 q2 hbw hd1 hx
            have f1 : decide ((x : Int) < 0) = false := by simp
            have f2 : decide ((n : Int) ≤ (x : Int)) = false := by simp; omega
            have r1 : (0 : Int) ≤ (x : Int) := by omega
            have r2 : (x : Int) < (n : Int) := by omega
            go_wp2_with (first
              | ((with_reducible refine wpList_dog 212 (.binOp .sub 3 (.tmp 211) (.const (.int .i64 1)) 3) (.int .i64 (k' : Nat)) ?_ (ex_sub rfl rfl f7.out) ?_); rfl))
            go_roundg (nl - ((k' + 1) + 1))
            case measure => omega
            case rel => exact ⟨(k' + 1) + 1, by go_num, by omega, rfl, below_cell HX.out.2.2.1 HB.out.2.1, set_at HX.out.1 hxn (by rw [HX.out.2.2.2.1]) (fun j hj => cnt_step2 _ _ _ _ _ HX.out.2.2.2.2), far_at HX.out.2.1 HNE.out.2⟩
    · have hkl : k < nm := by omega
      have hrow : ∃ p : Nat × Nat, G.met[k]? = some p := ⟨G.met[k], List.getElem?_eq_getElem (by omega)⟩
      obtain ⟨⟨a, b⟩, hp⟩ := hrow
      have hpin := HI.out.1.met_in _ (List.mem_of_getElem? hp)
      obtain ⟨hpa, hpb, hpT⟩ := hpin
      obtain ⟨gm, ha5, hgm, hrg⟩ := HO.out.1.2 (by omega)
      subst ha5
      have hlt5 : gm < w1.heap.size := range_lt hrg (by rw [metC_len _ (mv_len ls ss)]; omega)
      have HR5 := Lib.hid hrg
      have hr5 := range_part hrg (k * 5) 5
      rw [metC_get _ (mv_len ls ss) _ _ _ hp] at hr5
      obtain ⟨x, y, z, hxyz⟩ : ∃ x y z : Int, MV ls ss a b = [.int .i64 x, .int .i64 y, .int .i64 z] := ⟨_, _, _, rfl⟩
      have hr5 : w1.rangeAt gm (0 + k * 5) [.int .i64 (a : Nat), .int .i64 (b : Nat), .int .i64 x, .int .i64 y, .int .i64 z] := by rw [← hxyz]; exact hr5
      have hr5 := range_up hr5 hbw hlt5
      rw [Nat.zero_add] at hr5
      have c0 := hr5 0 _ rfl
      have c1 := hr5 1 _ rfl
      have c2 := hr5 2 _ rfl
      have c3 := hr5 3 _ rfl
      have c4 := hr5 4 _ rfl
      rw [Nat.add_zero] at c0
      have hA := (Below.refl wr.heap.size wr).alloc (Nat.le_refl _) (.cells #[.int .i64 (a : Nat), .int .i64 (b : Nat), .int .i64 x, .int .i64 y, .int .i64 z] 31)
      have qX := heap_alloc_new wr (.cells #[.int .i64 (a : Nat), .int .i64 (b : Nat), .int .i64 x, .int .i64 y, .int .i64 z] 31)
      obtain ⟨bl, ofl, capl, hvl, _, _, hgl⟩ := HL.out.2.2.1.get (by omega)
      injection hvl with hla hln hlcp
      subst hla
      obtain ⟨bs, ofs, caps, hvs, _, _, hgs⟩ := HL.out.2.2.2.get (by omega)
      injection hvs with hsa hsn hscp
      subst hsa
      clear hln hlcp hsn hscp
      obtain ⟨rl, hrl⟩ : ∃ r, ls[a]? = some r := ⟨ls[a], List.getElem?_eq_getElem (by omega)⟩
      obtain ⟨rs, hrs⟩ : ∃ r, ss[b]? = some r := ⟨ss[b], List.getElem?_eq_getElem (by omega)⟩
      have hol := HL.out.1 rl (List.mem_of_getElem? hrl)
      have hos := HL.out.2.1 rs (List.mem_of_getElem? hrs)
      have hW1 := HO.out.2.2.2
      have hlL := range_lt (hgl a rl hrl) (by rw [hol.length]; decide)
      have hlS := range_lt (hgs b rs hrs) (by rw [hos.length]; decide)
      have HSL := Lib.hid (And.intro lcap (And.intro scap (And.intro hol (And.intro hos (And.intro (fun (w : World) (hb : Below w1.heap.size w1 w) => range_up (hgl a rl hrl) (hW1.trans (hb.mono hW1.size)) hlL) (And.intro (fun (w : World) (hb : Below w1.heap.size w1 w) => range_up (hgs b rs hrs) (hW1.trans (hb.mono hW1.size)) hlS) (And.intro (And.intro ((tt_one ls ss rl rs a b hrl hrs).1.trans hpT) (tt_one ls ss rl rs a b hrl hrs).2) (And.intro (fun (w : World) (hb : Below w1.heap.size w1 w) => Nat.lt_of_lt_of_le hlL (Nat.le_trans hW1.size hb.size)) (fun (w : World) (hb : Below w1.heap.size w1 w) => Nat.lt_of_lt_of_le hlS (Nat.le_trans hW1.size hb.size))))))))))
      clear hgl hgs hrl hrs hol hos hW1 hlL hlS lcap scap
      have HP := Lib.hid (And.intro hp (And.intro hpT (And.intro hxyz (And.intro hr5 (And.intro hbw (And.intro q1 (And.intro q2 hA)))))))
      have e1 : decide ((k : Int) < (nm : Int)) = true := by simp; omega
      have e2 : (0 : Int) ≤ (k : Int) := by omega
      have e3 : (k : Int) < (nm : Int) := by omega
      clear hp hpT hxyz hr5 hrg hbw q1 q2 hA qX
      cases k with
      | zero =>
        go_wp2_with fail
        have hwg : gm < wr.heap.size := by have := HP.out.2.2.2.2.1.size; omega
        have hX1 := keepB HP.out.2.2.2.2.2.2.2 HP.out.2.2.2.2.2.1
        have hX2 := keepB HP.out.2.2.2.2.2.2.2 HP.out.2.2.2.2.2.2.1
        have qX := heap_alloc_new wr (.cells #[.int .i64 (a : Nat), .int .i64 (b : Nat), .int .i64 x, .int .i64 y, .int .i64 z] 31)
        have hbX := HP.out.2.2.2.2.1.trans (HP.out.2.2.2.2.2.2.2.mono HP.out.2.2.2.2.1.size)
        have l1 := lt_of_heap HP.out.2.2.2.2.2.1
        have l2 := lt_of_heap HP.out.2.2.2.2.2.2.1
        have hD := (Below.refl (wr.alloc (.cells #[.int .i64 (a : Nat), .int .i64 (b : Nat), .int .i64 x, .int .i64 y, .int .i64 z] 31)).heap.size (wr.alloc (.cells #[.int .i64 (a : Nat), .int .i64 (b : Nat), .int .i64 x, .int .i64 y, .int .i64 z] 31))).drew
        generalize wr.alloc (.cells #[.int .i64 (a : Nat), .int .i64 (b : Nat), .int .i64 x, .int .i64 y, .int .i64 z] 31) = X at hX1 hX2 qX hbX hD  ⊢
        generalize wr.heap.size = bx at l1 l2 qX ⊢
        have qX := keepB hD qX
        have hX1 := keepB hD hX1
        have hX2 := keepB hD hX2
        have hbX := hbX.trans (hD.mono hbX.size)
        clear c0 c1 c2 c3 c4 hD
        have f1 : decide ((a : Int) < 0) = false := by simp
        have f2 : decide ((n : Int) ≤ (a : Int)) = false := by simp; omega
        have f3 : decide ((b : Int) < 0) = false := by simp
        have f4 : decide ((m : Int) ≤ (b : Int)) = false := by simp; omega
        refine wp_region_held_drew (S := fun w' => w'.cell? ⟨bx, 0, none⟩ = some (.int .i64 (a : Nat)) ∧ w'.cell? ⟨bx, 0 + 1, none⟩ = some (.int .i64 (b : Nat))) (by kernel_rfl) ⟨cell_of (i := 0) (v := .int .i64 (a : Nat)) qX rfl, cell_of (i := 1) (v := .int .i64 (b : Nat)) qX rfl⟩ (fun hSd => ?_)
        refine take_val (i := 0) (oi := ⟨some 85, .fieldAddr 31 (.tmp 12) 0, _, _, _, none⟩) (.pointer (some ⟨bx, 0, none⟩)) rfl (by kernel_rfl) (by kernel_rfl) (by kernel_rfl) (fun _ _ _ h => h) rfl (fun w hSw => ex_field rfl (fa_m0 _ _ _)) hSd ?_
        simp only [Act.put, List.setIfInBounds_toArray, List.set_cons_zero, List.set_cons_succ]
        refine take_val (i := 1) (oi := ⟨some 86, .load 3 (.tmp 85), _, _, _, none⟩) (.int .i64 (a : Nat)) rfl (by kernel_rfl) (by kernel_rfl) (by kernel_rfl) (fun _ _ _ h => h) rfl (fun w hSw => ex_load rfl (ld_int _ _ _ _ hSw.1)) hSd ?_
        simp only [Act.put, List.setIfInBounds_toArray, List.set_cons_zero, List.set_cons_succ]
        refine take_val (i := 2) (oi := ⟨some 87, .binOp .lss 3 (.tmp 86) (.const (.int .i64 0)) 3, _, _, _, none⟩) (.bool false) rfl (by kernel_rfl) (by kernel_rfl) (by kernel_rfl) (fun _ _ _ h => h) rfl (fun w hSw => ex_lss rfl rfl f1) hSd ?_
        simp only [Act.put, List.setIfInBounds_toArray, List.set_cons_zero, List.set_cons_succ]
        refine take_val (i := 3) (oi := ⟨some 88, .move (.tmp 87), _, _, _, none⟩) (.bool false) rfl (by kernel_rfl) (by kernel_rfl) (by kernel_rfl) (fun _ _ _ h => h) rfl (fun w hSw => rfl) hSd ?_
        simp only [Act.put, List.setIfInBounds_toArray, List.set_cons_zero, List.set_cons_succ]
        refine take_val (i := 4) (oi := ⟨some 89, .fieldAddr 31 (.tmp 12) 0, _, _, _, some (3, false)⟩) (.pointer (some ⟨bx, 0, none⟩)) rfl (by kernel_rfl) (by kernel_rfl) (by kernel_rfl) (fun _ _ _ h => h) rfl (fun w hSw => ex_field rfl (fa_m0 _ _ _)) hSd ?_
        simp only [Act.put, List.setIfInBounds_toArray, List.set_cons_zero, List.set_cons_succ]
        refine take_val (i := 5) (oi := ⟨some 90, .load 3 (.tmp 89), _, _, _, some (3, false)⟩) (.int .i64 (a : Nat)) rfl (by kernel_rfl) (by kernel_rfl) (by kernel_rfl) (fun _ _ _ h => h) rfl (fun w hSw => ex_load rfl (ld_int _ _ _ _ hSw.1)) hSd ?_
        simp only [Act.put, List.setIfInBounds_toArray, List.set_cons_zero, List.set_cons_succ]
        refine take_val (i := 6) (oi := ⟨some 91, .move (.tmp 0), _, _, _, some (3, false)⟩) (.slice (some ⟨bl, ofl, none⟩) n lc) rfl (by kernel_rfl) (by kernel_rfl) (by kernel_rfl) (fun _ _ _ h => h) rfl (fun w hSw => rfl) hSd ?_
        simp only [Act.put, List.setIfInBounds_toArray, List.set_cons_zero, List.set_cons_succ]
        refine take_val (i := 7) (oi := ⟨some 92, .call { callee := .builtin .len, args := #[.tmp 91], argTypes := #[22] }, _, _, _, some (3, false)⟩) (.int .i64 (n : Nat)) rfl (by kernel_rfl) (by kernel_rfl) (by kernel_rfl) (fun _ _ _ h => h) rfl (fun w hSw => ex_lenL rfl) hSd ?_
        simp only [Act.put, List.setIfInBounds_toArray, List.set_cons_zero, List.set_cons_succ]
        refine take_val (i := 8) (oi := ⟨some 93, .binOp .geq 3 (.tmp 90) (.tmp 92) 3, _, _, _, some (3, false)⟩) (.bool false) rfl (by kernel_rfl) (by kernel_rfl) (by kernel_rfl) (fun _ _ _ h => h) rfl (fun w hSw => ex_geq rfl rfl f2) hSd ?_
        simp only [Act.put, List.setIfInBounds_toArray, List.set_cons_zero, List.set_cons_succ]
        refine take_val (i := 9) (oi := ⟨some 94, .pick (.tmp 88) (.const (.bool true)) (.tmp 93), _, _, _, none⟩) (.bool false) rfl (by kernel_rfl) (by kernel_rfl) (by kernel_rfl) (fun _ _ _ h => h) rfl (fun w hSw => rfl) hSd ?_
        simp only [Act.put, List.setIfInBounds_toArray, List.set_cons_zero, List.set_cons_succ]
        refine take_val (i := 10) (oi := ⟨some 95, .move (.tmp 94), _, _, _, none⟩) (.bool false) rfl (by kernel_rfl) (by kernel_rfl) (by kernel_rfl) (fun _ _ _ h => h) rfl (fun w hSw => rfl) hSd ?_
        simp only [Act.put, List.setIfInBounds_toArray, List.set_cons_zero, List.set_cons_succ]
        refine take_val (i := 11) (oi := ⟨some 96, .fieldAddr 31 (.tmp 12) 1, _, _, _, some (10, false)⟩) (.pointer (some ⟨bx, 0 + 1, none⟩)) rfl (by kernel_rfl) (by kernel_rfl) (by kernel_rfl) (fun _ _ _ h => h) rfl (fun w hSw => ex_field rfl (fa_m1 _ _ _)) hSd ?_
        simp only [Act.put, List.setIfInBounds_toArray, List.set_cons_zero, List.set_cons_succ]
        refine take_val (i := 12) (oi := ⟨some 97, .load 3 (.tmp 96), _, _, _, some (10, false)⟩) (.int .i64 (b : Nat)) rfl (by kernel_rfl) (by kernel_rfl) (by kernel_rfl) (fun _ _ _ h => h) rfl (fun w hSw => ex_load rfl (ld_int _ _ _ _ hSw.2)) hSd ?_
        simp only [Act.put, List.setIfInBounds_toArray, List.set_cons_zero, List.set_cons_succ]
        refine take_val (i := 13) (oi := ⟨some 98, .binOp .lss 3 (.tmp 97) (.const (.int .i64 0)) 3, _, _, _, some (10, false)⟩) (.bool false) rfl (by kernel_rfl) (by kernel_rfl) (by kernel_rfl) (fun _ _ _ h => h) rfl (fun w hSw => ex_lss rfl rfl f3) hSd ?_
        simp only [Act.put, List.setIfInBounds_toArray, List.set_cons_zero, List.set_cons_succ]
        refine take_val (i := 14) (oi := ⟨some 99, .pick (.tmp 95) (.const (.bool true)) (.tmp 98), _, _, _, none⟩) (.bool false) rfl (by kernel_rfl) (by kernel_rfl) (by kernel_rfl) (fun _ _ _ h => h) rfl (fun w hSw => rfl) hSd ?_
        simp only [Act.put, List.setIfInBounds_toArray, List.set_cons_zero, List.set_cons_succ]
        refine take_val (i := 15) (oi := ⟨some 100, .move (.tmp 99), _, _, _, none⟩) (.bool false) rfl (by kernel_rfl) (by kernel_rfl) (by kernel_rfl) (fun _ _ _ h => h) rfl (fun w hSw => rfl) hSd ?_
        simp only [Act.put, List.setIfInBounds_toArray, List.set_cons_zero, List.set_cons_succ]
        refine take_val (i := 16) (oi := ⟨some 101, .fieldAddr 31 (.tmp 12) 1, _, _, _, some (15, false)⟩) (.pointer (some ⟨bx, 0 + 1, none⟩)) rfl (by kernel_rfl) (by kernel_rfl) (by kernel_rfl) (fun _ _ _ h => h) rfl (fun w hSw => ex_field rfl (fa_m1 _ _ _)) hSd ?_
        simp only [Act.put, List.setIfInBounds_toArray, List.set_cons_zero, List.set_cons_succ]
        refine take_val (i := 17) (oi := ⟨some 102, .load 3 (.tmp 101), _, _, _, some (15, false)⟩) (.int .i64 (b : Nat)) rfl (by kernel_rfl) (by kernel_rfl) (by kernel_rfl) (fun _ _ _ h => h) rfl (fun w hSw => ex_load rfl (ld_int _ _ _ _ hSw.2)) hSd ?_
        simp only [Act.put, List.setIfInBounds_toArray, List.set_cons_zero, List.set_cons_succ]
        refine take_val (i := 18) (oi := ⟨some 103, .move (.tmp 1), _, _, _, some (15, false)⟩) (.slice (some ⟨bs, ofs, none⟩) m sc) rfl (by kernel_rfl) (by kernel_rfl) (by kernel_rfl) (fun _ _ _ h => h) rfl (fun w hSw => rfl) hSd ?_
        simp only [Act.put, List.setIfInBounds_toArray, List.set_cons_zero, List.set_cons_succ]
        refine take_val (i := 19) (oi := ⟨some 104, .call { callee := .builtin .len, args := #[.tmp 103], argTypes := #[23] }, _, _, _, some (15, false)⟩) (.int .i64 (m : Nat)) rfl (by kernel_rfl) (by kernel_rfl) (by kernel_rfl) (fun _ _ _ h => h) rfl (fun w hSw => ex_lenS rfl) hSd ?_
        simp only [Act.put, List.setIfInBounds_toArray, List.set_cons_zero, List.set_cons_succ]
        refine take_val (i := 20) (oi := ⟨some 105, .binOp .geq 3 (.tmp 102) (.tmp 104) 3, _, _, _, some (15, false)⟩) (.bool false) rfl (by kernel_rfl) (by kernel_rfl) (by kernel_rfl) (fun _ _ _ h => h) rfl (fun w hSw => ex_geq rfl rfl f4) hSd ?_
        simp only [Act.put, List.setIfInBounds_toArray, List.set_cons_zero, List.set_cons_succ]
        refine take_val (i := 21) (oi := ⟨some 106, .pick (.tmp 100) (.const (.bool true)) (.tmp 105), _, _, _, none⟩) (.bool false) rfl (by kernel_rfl) (by kernel_rfl) (by kernel_rfl) (fun _ _ _ h => h) rfl (fun w hSw => rfl) hSd ?_
        simp only [Act.put, List.setIfInBounds_toArray, List.set_cons_zero, List.set_cons_succ]
        refine take_val (i := 22) (oi := ⟨some 107, .move (.tmp 106), _, _, _, none⟩) (.bool false) rfl (by kernel_rfl) (by kernel_rfl) (by kernel_rfl) (fun _ _ _ h => h) rfl (fun w hSw => rfl) hSd ?_
        simp only [Act.put, List.setIfInBounds_toArray, List.set_cons_zero, List.set_cons_succ]
        refine take_val (i := 23) (oi := ⟨some 108, .move (.tmp 11), _, _, _, some (22, false)⟩) (.int .i64 ((0 : Nat) : Int)) rfl (by kernel_rfl) (by kernel_rfl) (by kernel_rfl) (fun _ _ _ h => h) rfl (fun w hSw => rfl) hSd ?_
        simp only [Act.put, List.setIfInBounds_toArray, List.set_cons_zero, List.set_cons_succ]
        refine take_val (i := 24) (oi := ⟨some 109, .binOp .gtr 3 (.tmp 108) (.const (.int .i64 0)) 3, _, _, _, some (22, false)⟩) (.bool false) rfl (by kernel_rfl) (by kernel_rfl) (by kernel_rfl) (fun _ _ _ h => h) rfl (fun w hSw => ex_gtr rfl rfl rfl) hSd ?_
        simp only [Act.put, List.setIfInBounds_toArray, List.set_cons_zero, List.set_cons_succ]
        refine take_val (i := 25) (oi := ⟨some 110, .move (.tmp 109), _, _, _, some (22, false)⟩) (.bool false) rfl (by kernel_rfl) (by kernel_rfl) (by kernel_rfl) (fun _ _ _ h => h) rfl (fun w hSw => rfl) hSd ?_
        simp only [Act.put, List.setIfInBounds_toArray, List.set_cons_zero, List.set_cons_succ]
        refine take_off (i := 26) (oi := ⟨some 111, _, _, _, _, some (25, true)⟩) rfl (by kernel_rfl) (by kernel_rfl) (by kernel_rfl) (fun _ _ _ h => h) rfl hSd ?_
        simp only [Act.put, List.setIfInBounds_toArray, List.set_cons_zero, List.set_cons_succ]
        refine take_off (i := 27) (oi := ⟨some 112, _, _, _, _, some (25, true)⟩) rfl (by kernel_rfl) (by kernel_rfl) (by kernel_rfl) (fun _ _ _ h => h) rfl hSd ?_
        simp only [Act.put, List.setIfInBounds_toArray, List.set_cons_zero, List.set_cons_succ]
        refine take_off (i := 28) (oi := ⟨some 113, _, _, _, _, some (25, true)⟩) rfl (by kernel_rfl) (by kernel_rfl) (by kernel_rfl) (fun _ _ _ h => h) rfl hSd ?_
        simp only [Act.put, List.setIfInBounds_toArray, List.set_cons_zero, List.set_cons_succ]
        refine take_off (i := 29) (oi := ⟨some 114, _, _, _, _, some (25, true)⟩) rfl (by kernel_rfl) (by kernel_rfl) (by kernel_rfl) (fun _ _ _ h => h) rfl hSd ?_
        simp only [Act.put, List.setIfInBounds_toArray, List.set_cons_zero, List.set_cons_succ]
        refine take_off (i := 30) (oi := ⟨some 115, _, _, _, _, some (25, true)⟩) rfl (by kernel_rfl) (by kernel_rfl) (by kernel_rfl) (fun _ _ _ h => h) rfl hSd ?_
        simp only [Act.put, List.setIfInBounds_toArray, List.set_cons_zero, List.set_cons_succ]
        refine take_off (i := 31) (oi := ⟨some 116, _, _, _, _, some (25, true)⟩) rfl (by kernel_rfl) (by kernel_rfl) (by kernel_rfl) (fun _ _ _ h => h) rfl hSd ?_
        simp only [Act.put, List.setIfInBounds_toArray, List.set_cons_zero, List.set_cons_succ]
        refine take_off (i := 32) (oi := ⟨some 117, _, _, _, _, some (25, true)⟩) rfl (by kernel_rfl) (by kernel_rfl) (by kernel_rfl) (fun _ _ _ h => h) rfl hSd ?_
        simp only [Act.put, List.setIfInBounds_toArray, List.set_cons_zero, List.set_cons_succ]
        refine take_off (i := 33) (oi := ⟨some 118, _, _, _, _, some (25, true)⟩) rfl (by kernel_rfl) (by kernel_rfl) (by kernel_rfl) (fun _ _ _ h => h) rfl hSd ?_
        simp only [Act.put, List.setIfInBounds_toArray, List.set_cons_zero, List.set_cons_succ]
        refine take_off (i := 34) (oi := ⟨some 119, _, _, _, _, some (25, true)⟩) rfl (by kernel_rfl) (by kernel_rfl) (by kernel_rfl) (fun _ _ _ h => h) rfl hSd ?_
        simp only [Act.put, List.setIfInBounds_toArray, List.set_cons_zero, List.set_cons_succ]
        refine take_val (i := 35) (oi := ⟨some 120, .pick (.tmp 110) (.tmp 119) (.const (.bool false)), _, _, _, some (22, false)⟩) (.bool false) rfl (by kernel_rfl) (by kernel_rfl) (by kernel_rfl) (fun _ _ _ h => h) rfl (fun w hSw => rfl) hSd ?_
        simp only [Act.put, List.setIfInBounds_toArray, List.set_cons_zero, List.set_cons_succ]
        refine take_val (i := 36) (oi := ⟨some 121, .pick (.tmp 107) (.const (.bool true)) (.tmp 120), _, _, _, none⟩) (.bool false) rfl (by kernel_rfl) (by kernel_rfl) (by kernel_rfl) (fun _ _ _ h => h) rfl (fun w hSw => rfl) hSd ?_
        simp only [Act.put, List.setIfInBounds_toArray, List.set_cons_zero, List.set_cons_succ]
        refine wpAnyH_done (by kernel_rfl) ?_ _
        clear hSd f1 f2 f3 f4
        generalize X.drew = Z at qX hX1 hX2 hbX ⊢
        have m0 := cell_of (i := 0) (v := .int .i64 (a : Nat)) qX rfl
        have m1 := cell_of (i := 1) (v := .int .i64 (b : Nat)) qX rfl
        have v0 := cell_of (i := a) hX1 (cntC_get _ hpa)
        have v1 := cell_of (i := b) hX2 (cntC_get _ hpb)
        have g0 := frozen_of_row _ _ a _ _ hX1
        have g1 := frozen_of_row _ _ b _ _ hX2
        have hu1 : ((G.met.take 0).map (·.1)).count a ≤ 60 := by
          have := List.count_le_length (a := a) (l := (G.met.take 0).map (·.1))
          rw [List.length_map, List.length_take] at this
          omega
        have hu2 : ((G.met.take 0).map (·.2)).count b ≤ 60 := by
          have := List.count_le_length (a := b) (l := (G.met.take 0).map (·.2))
          rw [List.length_map, List.length_take] at this
          omega
        generalize hd1 : ((G.met.take 0).map (·.1)).count a = u1 at v0 hu1
        generalize hd2 : ((G.met.take 0).map (·.2)).count b = u2 at v1 hu2
        have HX := Lib.hid (And.intro hX1 (And.intro hX2 (And.intro qX (And.intro hbX (And.intro hd1 hd2)))))
        clear hX1 hX2 qX hbX hd1 hd2
        have r1 : (0 : Int) ≤ (a : Int) := by omega
        have r2 : (a : Int) < (n : Int) := by omega
        have r3 : (0 : Int) ≤ (b : Int) := by omega
        have r4 : (b : Int) < (m : Int) := by omega
        have t1 : b1 ≠ b2 := HB.out.1
        have t2 : b2 ≠ b1 := fun h => HB.out.1 h.symm
        have t3 : bx ≠ b1 := by omega
        have t4 : bx ≠ b2 := by omega
        have t5 : b1 ≠ bx := by omega
        have t6 : b2 ≠ bx := by omega
        go_wp2_with fail
        clear m0 m1 v0 v1 g0 g1 r1 r2 r3 r4
        have hZ1 : ((Z.setCell ⟨b1, a, none⟩ (.int .i64 ((u1 : Int) + 1))).setCell ⟨b2, b, none⟩ (.int .i64 ((u2 : Int) + 1))).heap[b1]? = some (.cells (cntC n fun j => ((G.met.take (0 + 1)).map (·.1)).count j) 3) := far_at (set_at HX.out.1 hpa (by rw [HX.out.2.2.2.2.1]) (fun j hj => cnt_step (α := Nat) _ _ _ _ _ HP.out.1)) t1
        have hZ2 : ((Z.setCell ⟨b1, a, none⟩ (.int .i64 ((u1 : Int) + 1))).setCell ⟨b2, b, none⟩ (.int .i64 ((u2 : Int) + 1))).heap[b2]? = some (.cells (cntC m fun j => ((G.met.take (0 + 1)).map (·.2)).count j) 3) := set_at (far_at HX.out.2.1 t2) hpb (by rw [HX.out.2.2.2.2.2]) (fun j hj => cnt_step (α := Nat) _ _ _ _ _ HP.out.1)
        have hZX := far_at (i := b) (v := .int .i64 ((u2 : Int) + 1)) (far_at (i := a) (v := .int .i64 ((u1 : Int) + 1)) HX.out.2.2.1 t3) t4
        have hbZ := below_cell (i := b) (v := .int .i64 ((u2 : Int) + 1)) (below_cell (i := a) (v := .int .i64 ((u1 : Int) + 1)) HX.out.2.2.2.1 HB.out.2.1) HB.out.2.2
        generalize ((Z.setCell ⟨b1, a, none⟩ (.int .i64 ((u1 : Int) + 1))).setCell ⟨b2, b, none⟩ (.int .i64 ((u2 : Int) + 1))) = Y at hZ1 hZ2 hZX hbZ ⊢
        have HK2 := Lib.hid (show ∀ w', Below Y.heap.size Y w' → (w'.cell? ⟨bx, 0, none⟩ = some (.int .i64 (a : Nat)) ∧ w'.cell? ⟨bx, 0 + 1, none⟩ = some (.int .i64 (b : Nat))) from fun w' hb' => ⟨cell_of (i := 0) (v := .int .i64 (a : Nat)) (keepB hb' hZX) rfl, cell_of (i := 1) (v := .int .i64 (b : Nat)) (keepB hb' hZX) rfl⟩)
        have i1 : wrap64 ((a : Int) + 1) = (a : Int) + 1 := by unfold wrap64; omega
        have i2 : wrap64 ((b : Int) + 1) = (b : Int) + 1 := by clear i1; unfold wrap64; omega
        have II := Lib.hid (And.intro i1 i2)
        clear i1 i2
        refine wp_region_held_drew (S := fun w' => w'.cell? ⟨bx, 0, none⟩ = some (.int .i64 (a : Nat)) ∧ w'.cell? ⟨bx, 0 + 1, none⟩ = some (.int .i64 (b : Nat))) (by kernel_rfl) (HK2.out _ ((Below.refl _ _).drew)) (fun hSd => ?_)
        refine take_val (i := 0) (oi := ⟨some 137, .move (.tmp 0), _, _, _, none⟩) (.slice (some ⟨bl, ofl, none⟩) n lc) rfl (by kernel_rfl) (by kernel_rfl) (by kernel_rfl) (fun _ _ _ h => h) rfl (fun w hSw => rfl) hSd ?_
        simp only [Act.put, List.setIfInBounds_toArray, List.set_cons_zero, List.set_cons_succ]
        refine take_val (i := 1) (oi := ⟨some 138, .fieldAddr 31 (.tmp 12) 0, _, _, _, none⟩) (.pointer (some ⟨bx, 0, none⟩)) rfl (by kernel_rfl) (by kernel_rfl) (by kernel_rfl) (fun _ _ _ h => h) rfl (fun w hSw => ex_field rfl (fa_m0 _ _ _)) hSd ?_
        simp only [Act.put, List.setIfInBounds_toArray, List.set_cons_zero, List.set_cons_succ]
        refine take_val (i := 2) (oi := ⟨some 139, .load 3 (.tmp 138), _, _, _, none⟩) (.int .i64 (a : Nat)) rfl (by kernel_rfl) (by kernel_rfl) (by kernel_rfl) (fun _ _ _ h => h) rfl (fun w hSw => ex_load rfl (ld_int _ _ _ _ hSw.1)) hSd ?_
        simp only [Act.put, List.setIfInBounds_toArray, List.set_cons_zero, List.set_cons_succ]
        refine take_val (i := 3) (oi := ⟨some 140, .fieldAddr 31 (.tmp 12) 0, _, _, _, none⟩) (.pointer (some ⟨bx, 0, none⟩)) rfl (by kernel_rfl) (by kernel_rfl) (by kernel_rfl) (fun _ _ _ h => h) rfl (fun w hSw => ex_field rfl (fa_m0 _ _ _)) hSd ?_
        simp only [Act.put, List.setIfInBounds_toArray, List.set_cons_zero, List.set_cons_succ]
        refine take_val (i := 4) (oi := ⟨some 141, .load 3 (.tmp 140), _, _, _, none⟩) (.int .i64 (a : Nat)) rfl (by kernel_rfl) (by kernel_rfl) (by kernel_rfl) (fun _ _ _ h => h) rfl (fun w hSw => ex_load rfl (ld_int _ _ _ _ hSw.1)) hSd ?_
        simp only [Act.put, List.setIfInBounds_toArray, List.set_cons_zero, List.set_cons_succ]
        refine take_val (i := 5) (oi := ⟨some 142, .binOp .add 3 (.tmp 141) (.const (.int .i64 1)) 3, _, _, _, none⟩) (.int .i64 ((a : Int) + 1)) rfl (by kernel_rfl) (by kernel_rfl) (by kernel_rfl) (fun _ _ _ h => h) rfl (fun w hSw => ex_add rfl rfl II.out.1) hSd ?_
        simp only [Act.put, List.setIfInBounds_toArray, List.set_cons_zero, List.set_cons_succ]
        refine take_val (i := 6) (oi := ⟨some 143, .slice 22 (.tmp 137) (some (.tmp 139)) (some (.tmp 142)) none, _, _, _, none⟩) (.slice (some ⟨bl, ofl + a * 53, none⟩) 1 (lc - a)) rfl (by kernel_rfl) (by kernel_rfl) (by kernel_rfl) (fun _ _ _ h => h) rfl (fun w hSw => ex_slice rfl rfl rfl (slice_part Tryd.underlying22 (fun w => by kernel_rfl) bl ofl n lc a hpa HSL.out.1 _)) hSd ?_
        simp only [Act.put, List.setIfInBounds_toArray, List.set_cons_zero, List.set_cons_succ]
        refine take_val (i := 7) (oi := ⟨some 144, .move (.tmp 1), _, _, _, none⟩) (.slice (some ⟨bs, ofs, none⟩) m sc) rfl (by kernel_rfl) (by kernel_rfl) (by kernel_rfl) (fun _ _ _ h => h) rfl (fun w hSw => rfl) hSd ?_
        simp only [Act.put, List.setIfInBounds_toArray, List.set_cons_zero, List.set_cons_succ]
        refine take_val (i := 8) (oi := ⟨some 145, .fieldAddr 31 (.tmp 12) 1, _, _, _, none⟩) (.pointer (some ⟨bx, 0 + 1, none⟩)) rfl (by kernel_rfl) (by kernel_rfl) (by kernel_rfl) (fun _ _ _ h => h) rfl (fun w hSw => ex_field rfl (fa_m1 _ _ _)) hSd ?_
        simp only [Act.put, List.setIfInBounds_toArray, List.set_cons_zero, List.set_cons_succ]
        refine take_val (i := 9) (oi := ⟨some 146, .load 3 (.tmp 145), _, _, _, none⟩) (.int .i64 (b : Nat)) rfl (by kernel_rfl) (by kernel_rfl) (by kernel_rfl) (fun _ _ _ h => h) rfl (fun w hSw => ex_load rfl (ld_int _ _ _ _ hSw.2)) hSd ?_
        simp only [Act.put, List.setIfInBounds_toArray, List.set_cons_zero, List.set_cons_succ]
        refine take_val (i := 10) (oi := ⟨some 147, .fieldAddr 31 (.tmp 12) 1, _, _, _, none⟩) (.pointer (some ⟨bx, 0 + 1, none⟩)) rfl (by kernel_rfl) (by kernel_rfl) (by kernel_rfl) (fun _ _ _ h => h) rfl (fun w hSw => ex_field rfl (fa_m1 _ _ _)) hSd ?_
        simp only [Act.put, List.setIfInBounds_toArray, List.set_cons_zero, List.set_cons_succ]
        refine take_val (i := 11) (oi := ⟨some 148, .load 3 (.tmp 147), _, _, _, none⟩) (.int .i64 (b : Nat)) rfl (by kernel_rfl) (by kernel_rfl) (by kernel_rfl) (fun _ _ _ h => h) rfl (fun w hSw => ex_load rfl (ld_int _ _ _ _ hSw.2)) hSd ?_
        simp only [Act.put, List.setIfInBounds_toArray, List.set_cons_zero, List.set_cons_succ]
        refine take_val (i := 12) (oi := ⟨some 149, .binOp .add 3 (.tmp 148) (.const (.int .i64 1)) 3, _, _, _, none⟩) (.int .i64 ((b : Int) + 1)) rfl (by kernel_rfl) (by kernel_rfl) (by kernel_rfl) (fun _ _ _ h => h) rfl (fun w hSw => ex_add rfl rfl II.out.2) hSd ?_
        simp only [Act.put, List.setIfInBounds_toArray, List.set_cons_zero, List.set_cons_succ]
        refine take_val (i := 13) (oi := ⟨some 150, .slice 23 (.tmp 144) (some (.tmp 146)) (some (.tmp 149)) none, _, _, _, none⟩) (.slice (some ⟨bs, ofs + b * 48, none⟩) 1 (sc - b)) rfl (by kernel_rfl) (by kernel_rfl) (by kernel_rfl) (fun _ _ _ h => h) rfl (fun w hSw => ex_slice rfl rfl rfl (slice_part Tryd.underlying23 (fun w => by kernel_rfl) bs ofs m sc b hpb HSL.out.2.1 _)) hSd ?_
        simp only [Act.put, List.setIfInBounds_toArray, List.set_cons_zero, List.set_cons_succ]
        have hq8 : ∀ r ∈ [rl], RowOk lineK r := fun r h => by rw [List.mem_singleton.1 h]; exact HSL.out.2.2.1
        have hq9 : ∀ r ∈ [rs], RowOk sampK r := fun r h => by rw [List.mem_singleton.1 h]; exact HSL.out.2.2.2.1
        have hD0 : Below Y.heap.size Y Y.drew := (Below.refl _ _).drew
        have hs8 : Sl Y.drew 53 (.slice (some ⟨bl, ofl + a * 53, none⟩) 1 (lc - a)) [rl] := Sl.one (range_up (HSL.out.2.2.2.2.1 _ hbZ) hD0 (HSL.out.2.2.2.2.2.2.2.1 _ hbZ)) (by have := HSL.out.1; omega) (by omega)
        have hs9 : Sl Y.drew 48 (.slice (some ⟨bs, ofs + b * 48, none⟩) 1 (sc - b)) [rs] := Sl.one (range_up (HSL.out.2.2.2.2.2.1 _ hbZ) hD0 (HSL.out.2.2.2.2.2.2.2.2 _ hbZ)) (by have := HSL.out.2.1; omega) (by omega)
        have hmc := meet_w Y.drew _ _ [rl] [rs] hq8 hq9 hs8 hs9 (show 1 ≤ 60 by decide) (show 1 ≤ 60 by decide)
        clear hq8 hq9 hs8 hs9
        refine take_call 14 (f := 6) (args := #[.slice (some ⟨bl, ofl + a * 53, none⟩) 1 (lc - a), .slice (some ⟨bs, ofs + b * 48, none⟩) 1 (sc - b)]) rfl (by kernel_rfl) rfl (by kernel_rfl) hmc ?_
        intro e w4 hMe
        obtain ⟨g1, cap1, vl1, vb1, rfl, hr1, hcap1, hb4⟩ := meet_yes hMe HSL.out.2.2.2.2.2.2.1.1
        rw [HSL.out.2.2.2.2.2.2.1.2, HP.out.2.2.1] at hr1
        have hb5 := bT ((Below.refl _ _).drew) hb4
        clear hSd hMe hb4
        have hSd := HK2.out _ hb5
        refine ⟨_, rfl, hSd, ?_⟩
        simp only [Act.put, List.setIfInBounds_toArray, List.set_cons_zero, List.set_cons_succ]
        refine take_val (i := 15) (oi := ⟨some 136, .move (.tmp 151), _, _, _, none⟩) (.tuple #[.slice (some ⟨g1, 0, none⟩) 1 cap1, vl1, vb1, .int .i64 0]) rfl (by kernel_rfl) (by kernel_rfl) (by kernel_rfl) (fun _ _ _ h => h) rfl (fun w hSw => rfl) hSd ?_
        simp only [Act.put, List.setIfInBounds_toArray, List.set_cons_zero, List.set_cons_succ]
        refine take_val (i := 16) (oi := ⟨some 152, .extract (.tmp 136) 0, _, _, _, none⟩) (.slice (some ⟨g1, 0, none⟩) 1 cap1) rfl (by kernel_rfl) (by kernel_rfl) (by kernel_rfl) (fun _ _ _ h => h) rfl (fun w hSw => rfl) hSd ?_
        simp only [Act.put, List.setIfInBounds_toArray, List.set_cons_zero, List.set_cons_succ]
        refine take_val (i := 17) (oi := ⟨some 153, .extract (.tmp 136) 1, _, _, _, none⟩) (vl1) rfl (by kernel_rfl) (by kernel_rfl) (by kernel_rfl) (fun _ _ _ h => h) rfl (fun w hSw => rfl) hSd ?_
        simp only [Act.put, List.setIfInBounds_toArray, List.set_cons_zero, List.set_cons_succ]
        refine take_val (i := 18) (oi := ⟨some 154, .extract (.tmp 136) 2, _, _, _, none⟩) (vb1) rfl (by kernel_rfl) (by kernel_rfl) (by kernel_rfl) (fun _ _ _ h => h) rfl (fun w hSw => rfl) hSd ?_
        simp only [Act.put, List.setIfInBounds_toArray, List.set_cons_zero, List.set_cons_succ]
        refine take_val (i := 19) (oi := ⟨some 155, .extract (.tmp 136) 3, _, _, _, none⟩) (.int .i64 0) rfl (by kernel_rfl) (by kernel_rfl) (by kernel_rfl) (fun _ _ _ h => h) rfl (fun w hSw => rfl) hSd ?_
        simp only [Act.put, List.setIfInBounds_toArray, List.set_cons_zero, List.set_cons_succ]
        refine take_val (i := 20) (oi := ⟨some 13, .assign (.tmp 152), _, _, _, none⟩) (.slice (some ⟨g1, 0, none⟩) 1 cap1) rfl (by kernel_rfl) (by kernel_rfl) (by kernel_rfl) (fun _ _ _ h => h) rfl (fun w hSw => rfl) hSd ?_
        simp only [Act.put, List.setIfInBounds_toArray, List.set_cons_zero, List.set_cons_succ]
        refine take_val (i := 21) (oi := ⟨some 14, .assign (.tmp 153), _, _, _, none⟩) (vl1) rfl (by kernel_rfl) (by kernel_rfl) (by kernel_rfl) (fun _ _ _ h => h) rfl (fun w hSw => rfl) hSd ?_
        simp only [Act.put, List.setIfInBounds_toArray, List.set_cons_zero, List.set_cons_succ]
        refine take_val (i := 22) (oi := ⟨some 15, .assign (.tmp 154), _, _, _, none⟩) (vb1) rfl (by kernel_rfl) (by kernel_rfl) (by kernel_rfl) (fun _ _ _ h => h) rfl (fun w hSw => rfl) hSd ?_
        simp only [Act.put, List.setIfInBounds_toArray, List.set_cons_zero, List.set_cons_succ]
        refine take_val (i := 23) (oi := ⟨some 16, .assign (.tmp 155), _, _, _, none⟩) (.int .i64 0) rfl (by kernel_rfl) (by kernel_rfl) (by kernel_rfl) (fun _ _ _ h => h) rfl (fun w hSw => rfl) hSd ?_
        simp only [Act.put, List.setIfInBounds_toArray, List.set_cons_zero, List.set_cons_succ]
        refine wpAnyH_done (by kernel_rfl) ?_ _
        have hb6 := hb5
        have hq1 := hr1 2 _ rfl
        have hq2 := hr1 3 _ rfl
        have hq3 := hr1 4 _ rfl
        have hg1 := range_lt hr1 (by simp)
        have HZ := Lib.hid (And.intro hZ1 (And.intro hZ2 (And.intro hZX (And.intro hbZ hb5))))
        have HR1 := Lib.hid hr1
        clear hSd hr1 hZ1 hZ2 hZX hbZ hb5 hb6 II
        go_wp2_with fail
        refine wp_region_held_drew (S := fun w' => w'.cell? ⟨g1, 0 + 0 * 5 + 2, none⟩ = some (.int .i64 x) ∧ w'.cell? ⟨g1, 0 + 0 * 5 + 3, none⟩ = some (.int .i64 y) ∧ w'.cell? ⟨g1, 0 + 0 * 5 + 4, none⟩ = some (.int .i64 z) ∧ w'.cell? ⟨bx, 0 + 2, none⟩ = some (.int .i64 x) ∧ w'.cell? ⟨bx, 0 + 3, none⟩ = some (.int .i64 y) ∧ w'.cell? ⟨bx, 0 + 4, none⟩ = some (.int .i64 z)) (by kernel_rfl) ⟨cell_up ((Below.refl _ _).drew) hq1, cell_up ((Below.refl _ _).drew) hq2, cell_up ((Below.refl _ _).drew) hq3, cell_of (i := 2) (v := .int .i64 x) (keepB (bT HZ.out.2.2.2.2 ((Below.refl _ _).drew)) HZ.out.2.2.1) rfl, cell_of (i := 3) (v := .int .i64 y) (keepB (bT HZ.out.2.2.2.2 ((Below.refl _ _).drew)) HZ.out.2.2.1) rfl, cell_of (i := 4) (v := .int .i64 z) (keepB (bT HZ.out.2.2.2.2 ((Below.refl _ _).drew)) HZ.out.2.2.1) rfl⟩ (fun hSd => ?_)
        refine take_val (i := 0) (oi := ⟨some 156, .move (.tmp 16), _, _, _, none⟩) (.int .i64 0) rfl (by kernel_rfl) (by kernel_rfl) (by kernel_rfl) (fun _ _ _ h => h) rfl (fun w hSw => rfl) hSd ?_
        simp only [Act.put, List.setIfInBounds_toArray, List.set_cons_zero, List.set_cons_succ]
        refine take_val (i := 1) (oi := ⟨some 157, .binOp .neq 27 (.tmp 156) (.const (.int .i64 0)) 27, _, _, _, none⟩) (.bool false) rfl (by kernel_rfl) (by kernel_rfl) (by kernel_rfl) (fun _ _ _ h => h) rfl (fun w hSw => ex_nei rfl rfl rfl) hSd ?_
        simp only [Act.put, List.setIfInBounds_toArray, List.set_cons_zero, List.set_cons_succ]
        refine take_val (i := 2) (oi := ⟨some 158, .move (.tmp 157), _, _, _, none⟩) (.bool false) rfl (by kernel_rfl) (by kernel_rfl) (by kernel_rfl) (fun _ _ _ h => h) rfl (fun w hSw => rfl) hSd ?_
        simp only [Act.put, List.setIfInBounds_toArray, List.set_cons_zero, List.set_cons_succ]
        refine take_val (i := 3) (oi := ⟨some 159, .move (.tmp 13), _, _, _, some (2, false)⟩) (.slice (some ⟨g1, 0, none⟩) 1 cap1) rfl (by kernel_rfl) (by kernel_rfl) (by kernel_rfl) (fun _ _ _ h => h) rfl (fun w hSw => rfl) hSd ?_
        simp only [Act.put, List.setIfInBounds_toArray, List.set_cons_zero, List.set_cons_succ]
        refine take_val (i := 4) (oi := ⟨some 160, .call { callee := .builtin .len, args := #[.tmp 159], argTypes := #[25] }, _, _, _, some (2, false)⟩) (.int .i64 ((1 : Nat) : Int)) rfl (by kernel_rfl) (by kernel_rfl) (by kernel_rfl) (fun _ _ _ h => h) rfl (fun w hSw => ex_lenM rfl) hSd ?_
        simp only [Act.put, List.setIfInBounds_toArray, List.set_cons_zero, List.set_cons_succ]
        refine take_val (i := 5) (oi := ⟨some 161, .binOp .neq 3 (.tmp 160) (.const (.int .i64 1)) 3, _, _, _, some (2, false)⟩) (.bool false) rfl (by kernel_rfl) (by kernel_rfl) (by kernel_rfl) (fun _ _ _ h => h) rfl (fun w hSw => ex_nei rfl rfl rfl) hSd ?_
        simp only [Act.put, List.setIfInBounds_toArray, List.set_cons_zero, List.set_cons_succ]
        refine take_val (i := 6) (oi := ⟨some 162, .pick (.tmp 158) (.const (.bool true)) (.tmp 161), _, _, _, none⟩) (.bool false) rfl (by kernel_rfl) (by kernel_rfl) (by kernel_rfl) (fun _ _ _ h => h) rfl (fun w hSw => rfl) hSd ?_
        simp only [Act.put, List.setIfInBounds_toArray, List.set_cons_zero, List.set_cons_succ]
        refine take_val (i := 7) (oi := ⟨some 163, .move (.tmp 162), _, _, _, none⟩) (.bool false) rfl (by kernel_rfl) (by kernel_rfl) (by kernel_rfl) (fun _ _ _ h => h) rfl (fun w hSw => rfl) hSd ?_
        simp only [Act.put, List.setIfInBounds_toArray, List.set_cons_zero, List.set_cons_succ]
        refine take_val (i := 8) (oi := ⟨some 164, .move (.tmp 13), _, _, _, some (7, false)⟩) (.slice (some ⟨g1, 0, none⟩) 1 cap1) rfl (by kernel_rfl) (by kernel_rfl) (by kernel_rfl) (fun _ _ _ h => h) rfl (fun w hSw => rfl) hSd ?_
        simp only [Act.put, List.setIfInBounds_toArray, List.set_cons_zero, List.set_cons_succ]
        refine take_val (i := 9) (oi := ⟨some 165, .indexAddr 25 (.tmp 164) (.const (.int .i64 0)), _, _, _, some (7, false)⟩) (.pointer (some ⟨g1, 0 + 0 * 5, none⟩)) rfl (by kernel_rfl) (by kernel_rfl) (by kernel_rfl) (fun _ _ _ h => h) rfl (fun w hSw => ex_index rfl rfl (ix_met _ _ _ _ 0 (by decide) _)) hSd ?_
        simp only [Act.put, List.setIfInBounds_toArray, List.set_cons_zero, List.set_cons_succ]
        refine take_val (i := 10) (oi := ⟨some 166, .fieldAddr 31 (.tmp 165) 2, _, _, _, some (7, false)⟩) (.pointer (some ⟨g1, 0 + 0 * 5 + 2, none⟩)) rfl (by kernel_rfl) (by kernel_rfl) (by kernel_rfl) (fun _ _ _ h => h) rfl (fun w hSw => ex_field rfl (fa_m2 _ _ _)) hSd ?_
        simp only [Act.put, List.setIfInBounds_toArray, List.set_cons_zero, List.set_cons_succ]
        refine take_val (i := 11) (oi := ⟨some 167, .load 2 (.tmp 166), _, _, _, some (7, false)⟩) (.int .i64 x) rfl (by kernel_rfl) (by kernel_rfl) (by kernel_rfl) (fun _ _ _ h => h) rfl (fun w hSw => ex_load rfl (ld_i64 _ _ _ _ hSw.1)) hSd ?_
        simp only [Act.put, List.setIfInBounds_toArray, List.set_cons_zero, List.set_cons_succ]
        refine take_val (i := 12) (oi := ⟨some 168, .fieldAddr 31 (.tmp 12) 2, _, _, _, some (7, false)⟩) (.pointer (some ⟨bx, 0 + 2, none⟩)) rfl (by kernel_rfl) (by kernel_rfl) (by kernel_rfl) (fun _ _ _ h => h) rfl (fun w hSw => ex_field rfl (fa_m2 _ _ _)) hSd ?_
        simp only [Act.put, List.setIfInBounds_toArray, List.set_cons_zero, List.set_cons_succ]
        refine take_val (i := 13) (oi := ⟨some 169, .load 2 (.tmp 168), _, _, _, some (7, false)⟩) (.int .i64 x) rfl (by kernel_rfl) (by kernel_rfl) (by kernel_rfl) (fun _ _ _ h => h) rfl (fun w hSw => ex_load rfl (ld_i64 _ _ _ _ hSw.2.2.2.1)) hSd ?_
        simp only [Act.put, List.setIfInBounds_toArray, List.set_cons_zero, List.set_cons_succ]
        refine take_val (i := 14) (oi := ⟨some 170, .binOp .neq 2 (.tmp 167) (.tmp 169) 2, _, _, _, some (7, false)⟩) (.bool false) rfl (by kernel_rfl) (by kernel_rfl) (by kernel_rfl) (fun _ _ _ h => h) rfl (fun w hSw => ex_nei rfl rfl (by simp)) hSd ?_
        simp only [Act.put, List.setIfInBounds_toArray, List.set_cons_zero, List.set_cons_succ]
        refine take_val (i := 15) (oi := ⟨some 171, .pick (.tmp 163) (.const (.bool true)) (.tmp 170), _, _, _, none⟩) (.bool false) rfl (by kernel_rfl) (by kernel_rfl) (by kernel_rfl) (fun _ _ _ h => h) rfl (fun w hSw => rfl) hSd ?_
        simp only [Act.put, List.setIfInBounds_toArray, List.set_cons_zero, List.set_cons_succ]
        refine take_val (i := 16) (oi := ⟨some 172, .move (.tmp 171), _, _, _, none⟩) (.bool false) rfl (by kernel_rfl) (by kernel_rfl) (by kernel_rfl) (fun _ _ _ h => h) rfl (fun w hSw => rfl) hSd ?_
        simp only [Act.put, List.setIfInBounds_toArray, List.set_cons_zero, List.set_cons_succ]
        refine take_val (i := 17) (oi := ⟨some 173, .move (.tmp 13), _, _, _, some (16, false)⟩) (.slice (some ⟨g1, 0, none⟩) 1 cap1) rfl (by kernel_rfl) (by kernel_rfl) (by kernel_rfl) (fun _ _ _ h => h) rfl (fun w hSw => rfl) hSd ?_
        simp only [Act.put, List.setIfInBounds_toArray, List.set_cons_zero, List.set_cons_succ]
        refine take_val (i := 18) (oi := ⟨some 174, .indexAddr 25 (.tmp 173) (.const (.int .i64 0)), _, _, _, some (16, false)⟩) (.pointer (some ⟨g1, 0 + 0 * 5, none⟩)) rfl (by kernel_rfl) (by kernel_rfl) (by kernel_rfl) (fun _ _ _ h => h) rfl (fun w hSw => ex_index rfl rfl (ix_met _ _ _ _ 0 (by decide) _)) hSd ?_
        simp only [Act.put, List.setIfInBounds_toArray, List.set_cons_zero, List.set_cons_succ]
        refine take_val (i := 19) (oi := ⟨some 175, .fieldAddr 31 (.tmp 174) 3, _, _, _, some (16, false)⟩) (.pointer (some ⟨g1, 0 + 0 * 5 + 3, none⟩)) rfl (by kernel_rfl) (by kernel_rfl) (by kernel_rfl) (fun _ _ _ h => h) rfl (fun w hSw => ex_field rfl (fa_m3 _ _ _)) hSd ?_
        simp only [Act.put, List.setIfInBounds_toArray, List.set_cons_zero, List.set_cons_succ]
        refine take_val (i := 20) (oi := ⟨some 176, .load 2 (.tmp 175), _, _, _, some (16, false)⟩) (.int .i64 y) rfl (by kernel_rfl) (by kernel_rfl) (by kernel_rfl) (fun _ _ _ h => h) rfl (fun w hSw => ex_load rfl (ld_i64 _ _ _ _ hSw.2.1)) hSd ?_
        simp only [Act.put, List.setIfInBounds_toArray, List.set_cons_zero, List.set_cons_succ]
        refine take_val (i := 21) (oi := ⟨some 177, .fieldAddr 31 (.tmp 12) 3, _, _, _, some (16, false)⟩) (.pointer (some ⟨bx, 0 + 3, none⟩)) rfl (by kernel_rfl) (by kernel_rfl) (by kernel_rfl) (fun _ _ _ h => h) rfl (fun w hSw => ex_field rfl (fa_m3 _ _ _)) hSd ?_
        simp only [Act.put, List.setIfInBounds_toArray, List.set_cons_zero, List.set_cons_succ]
        refine take_val (i := 22) (oi := ⟨some 178, .load 2 (.tmp 177), _, _, _, some (16, false)⟩) (.int .i64 y) rfl (by kernel_rfl) (by kernel_rfl) (by kernel_rfl) (fun _ _ _ h => h) rfl (fun w hSw => ex_load rfl (ld_i64 _ _ _ _ hSw.2.2.2.2.1)) hSd ?_
        simp only [Act.put, List.setIfInBounds_toArray, List.set_cons_zero, List.set_cons_succ]
        refine take_val (i := 23) (oi := ⟨some 179, .binOp .neq 2 (.tmp 176) (.tmp 178) 2, _, _, _, some (16, false)⟩) (.bool false) rfl (by kernel_rfl) (by kernel_rfl) (by kernel_rfl) (fun _ _ _ h => h) rfl (fun w hSw => ex_nei rfl rfl (by simp)) hSd ?_
        simp only [Act.put, List.setIfInBounds_toArray, List.set_cons_zero, List.set_cons_succ]
        refine take_val (i := 24) (oi := ⟨some 180, .pick (.tmp 172) (.const (.bool true)) (.tmp 179), _, _, _, none⟩) (.bool false) rfl (by kernel_rfl) (by kernel_rfl) (by kernel_rfl) (fun _ _ _ h => h) rfl (fun w hSw => rfl) hSd ?_
        simp only [Act.put, List.setIfInBounds_toArray, List.set_cons_zero, List.set_cons_succ]
        refine take_val (i := 25) (oi := ⟨some 181, .move (.tmp 180), _, _, _, none⟩) (.bool false) rfl (by kernel_rfl) (by kernel_rfl) (by kernel_rfl) (fun _ _ _ h => h) rfl (fun w hSw => rfl) hSd ?_
        simp only [Act.put, List.setIfInBounds_toArray, List.set_cons_zero, List.set_cons_succ]
        refine take_val (i := 26) (oi := ⟨some 182, .move (.tmp 13), _, _, _, some (25, false)⟩) (.slice (some ⟨g1, 0, none⟩) 1 cap1) rfl (by kernel_rfl) (by kernel_rfl) (by kernel_rfl) (fun _ _ _ h => h) rfl (fun w hSw => rfl) hSd ?_
        simp only [Act.put, List.setIfInBounds_toArray, List.set_cons_zero, List.set_cons_succ]
        refine take_val (i := 27) (oi := ⟨some 183, .indexAddr 25 (.tmp 182) (.const (.int .i64 0)), _, _, _, some (25, false)⟩) (.pointer (some ⟨g1, 0 + 0 * 5, none⟩)) rfl (by kernel_rfl) (by kernel_rfl) (by kernel_rfl) (fun _ _ _ h => h) rfl (fun w hSw => ex_index rfl rfl (ix_met _ _ _ _ 0 (by decide) _)) hSd ?_
        simp only [Act.put, List.setIfInBounds_toArray, List.set_cons_zero, List.set_cons_succ]
        refine take_val (i := 28) (oi := ⟨some 184, .fieldAddr 31 (.tmp 183) 4, _, _, _, some (25, false)⟩) (.pointer (some ⟨g1, 0 + 0 * 5 + 4, none⟩)) rfl (by kernel_rfl) (by kernel_rfl) (by kernel_rfl) (fun _ _ _ h => h) rfl (fun w hSw => ex_field rfl (fa_m4 _ _ _)) hSd ?_
        simp only [Act.put, List.setIfInBounds_toArray, List.set_cons_zero, List.set_cons_succ]
        refine take_val (i := 29) (oi := ⟨some 185, .load 2 (.tmp 184), _, _, _, some (25, false)⟩) (.int .i64 z) rfl (by kernel_rfl) (by kernel_rfl) (by kernel_rfl) (fun _ _ _ h => h) rfl (fun w hSw => ex_load rfl (ld_i64 _ _ _ _ hSw.2.2.1)) hSd ?_
        simp only [Act.put, List.setIfInBounds_toArray, List.set_cons_zero, List.set_cons_succ]
        refine take_val (i := 30) (oi := ⟨some 186, .fieldAddr 31 (.tmp 12) 4, _, _, _, some (25, false)⟩) (.pointer (some ⟨bx, 0 + 4, none⟩)) rfl (by kernel_rfl) (by kernel_rfl) (by kernel_rfl) (fun _ _ _ h => h) rfl (fun w hSw => ex_field rfl (fa_m4 _ _ _)) hSd ?_
        simp only [Act.put, List.setIfInBounds_toArray, List.set_cons_zero, List.set_cons_succ]
        refine take_val (i := 31) (oi := ⟨some 187, .load 2 (.tmp 186), _, _, _, some (25, false)⟩) (.int .i64 z) rfl (by kernel_rfl) (by kernel_rfl) (by kernel_rfl) (fun _ _ _ h => h) rfl (fun w hSw => ex_load rfl (ld_i64 _ _ _ _ hSw.2.2.2.2.2)) hSd ?_
        simp only [Act.put, List.setIfInBounds_toArray, List.set_cons_zero, List.set_cons_succ]
        refine take_val (i := 32) (oi := ⟨some 188, .binOp .neq 2 (.tmp 185) (.tmp 187) 2, _, _, _, some (25, false)⟩) (.bool false) rfl (by kernel_rfl) (by kernel_rfl) (by kernel_rfl) (fun _ _ _ h => h) rfl (fun w hSw => ex_nei rfl rfl (by simp)) hSd ?_
        simp only [Act.put, List.setIfInBounds_toArray, List.set_cons_zero, List.set_cons_succ]
        refine take_val (i := 33) (oi := ⟨some 189, .pick (.tmp 181) (.const (.bool true)) (.tmp 188), _, _, _, none⟩) (.bool false) rfl (by kernel_rfl) (by kernel_rfl) (by kernel_rfl) (fun _ _ _ h => h) rfl (fun w hSw => rfl) hSd ?_
        simp only [Act.put, List.setIfInBounds_toArray, List.set_cons_zero, List.set_cons_succ]
        refine wpAnyH_done (by kernel_rfl) ?_ _
        clear hSd hq1 hq2 hq3 t1 t2 t3 t4 t5 t6
        go_wp2_with fail
        go_roundg (nm - (0 + 1))
        case measure => omega
        case rel =>
          have hb7 := bT HZ.out.2.2.2.2 ((Below.refl _ _).drew)
          exact ⟨0 + 1, by go_num, by omega, rfl, HZ.out.2.2.2.1.trans (hb7.mono HZ.out.2.2.2.1.size), keepB hb7 HZ.out.1, keepB hb7 HZ.out.2.1⟩
      | succ k' =>
        obtain ⟨⟨a', b'⟩, hp'⟩ : ∃ p : Nat × Nat, G.met[k']? = some p := ⟨G.met[k'], List.getElem?_eq_getElem (by omega)⟩
        have hup := HI.out.1.met_up
        have hpc : w1.rangeAt gm (0 + k' * 5) (.int .i64 (a' : Nat) :: .int .i64 (b' : Nat) :: MV ls ss a' b') := by
          have := range_part HR5.out (k' * 5) 5
          rw [metC_get _ (mv_len ls ss) _ _ _ hp'] at this
          exact this
        have hpc := range_up hpc HP.out.2.2.2.2.1 hlt5
        have hlt' : a' < a := by
          have h1 : (G.met.map (·.1))[k']? = some a' := by rw [List.getElem?_map, hp']; rfl
          have h2 : (G.met.map (·.1))[k' + 1]? = some a := by rw [List.getElem?_map, HP.out.1]; rfl
          obtain ⟨l1, e1⟩ := List.getElem?_eq_some_iff.1 h1
          obtain ⟨l2, e2⟩ := List.getElem?_eq_some_iff.1 h2
          have := List.pairwise_iff_getElem.1 hup k' (k' + 1) l1 l2 (by omega)
          rw [e1, e2] at this
          exact this
        have HPV := Lib.hid (And.intro (hpc 0 _ rfl) hlt')
        clear hp' hup hpc hlt'
        have e2 : (0 : Int) ≤ ((k' + 1 : Nat) : Int) := by omega
        have e3 : ((k' + 1 : Nat) : Int) < (nm : Int) := by omega
        go_wp2_with fail
        have hwg : gm < wr.heap.size := by have := HP.out.2.2.2.2.1.size; omega
        have hX1 := keepB HP.out.2.2.2.2.2.2.2 HP.out.2.2.2.2.2.1
        have hX2 := keepB HP.out.2.2.2.2.2.2.2 HP.out.2.2.2.2.2.2.1
        have qX := heap_alloc_new wr (.cells #[.int .i64 (a : Nat), .int .i64 (b : Nat), .int .i64 x, .int .i64 y, .int .i64 z] 31)
        have hbX := HP.out.2.2.2.2.1.trans (HP.out.2.2.2.2.2.2.2.mono HP.out.2.2.2.2.1.size)
        have l1 := lt_of_heap HP.out.2.2.2.2.2.1
        have l2 := lt_of_heap HP.out.2.2.2.2.2.2.1
        have pc := cell_up HP.out.2.2.2.2.2.2.2 HPV.out.1
        have hD := (Below.refl (wr.alloc (.cells #[.int .i64 (a : Nat), .int .i64 (b : Nat), .int .i64 x, .int .i64 y, .int .i64 z] 31)).heap.size (wr.alloc (.cells #[.int .i64 (a : Nat), .int .i64 (b : Nat), .int .i64 x, .int .i64 y, .int .i64 z] 31))).drew
        generalize wr.alloc (.cells #[.int .i64 (a : Nat), .int .i64 (b : Nat), .int .i64 x, .int .i64 y, .int .i64 z] 31) = X at hX1 hX2 qX hbX hD pc ⊢
        generalize wr.heap.size = bx at l1 l2 qX ⊢
        have qX := keepB hD qX
        have hX1 := keepB hD hX1
        have hX2 := keepB hD hX2
        have hbX := hbX.trans (hD.mono hbX.size)
        have pc := cell_up hD pc
        clear c0 c1 c2 c3 c4 hD
        have f1 : decide ((a : Int) < 0) = false := by simp
        have f2 : decide ((n : Int) ≤ (a : Int)) = false := by simp; omega
        have f3 : decide ((b : Int) < 0) = false := by simp
        have f4 : decide ((m : Int) ≤ (b : Int)) = false := by simp; omega
        have f5 : decide ((0 : Int) < ((k' + 1 : Nat) : Int)) = true := decide_eq_true (by omega)
        have f6 : decide ((a : Int) ≤ (a' : Int)) = false := by have := HPV.out.2; simp; omega
        have f8 : k' < nm := by omega
        have f7 := Lib.hid (show wrap64 (((k' + 1 : Nat) : Int) - 1) = (k' : Int) by unfold wrap64; omega)
        refine wp_region_held_drew (S := fun w' => w'.cell? ⟨bx, 0, none⟩ = some (.int .i64 (a : Nat)) ∧ w'.cell? ⟨bx, 0 + 1, none⟩ = some (.int .i64 (b : Nat)) ∧ w'.cell? ⟨gm, 0 + k' * 5, none⟩ = some (.int .i64 (a' : Nat))) (by kernel_rfl) ⟨cell_of (i := 0) (v := .int .i64 (a : Nat)) qX rfl, cell_of (i := 1) (v := .int .i64 (b : Nat)) qX rfl, pc⟩ (fun hSd => ?_)
        refine take_val (i := 0) (oi := ⟨some 85, .fieldAddr 31 (.tmp 12) 0, _, _, _, none⟩) (.pointer (some ⟨bx, 0, none⟩)) rfl (by kernel_rfl) (by kernel_rfl) (by kernel_rfl) (fun _ _ _ h => h) rfl (fun w hSw => ex_field rfl (fa_m0 _ _ _)) hSd ?_
        simp only [Act.put, List.setIfInBounds_toArray, List.set_cons_zero, List.set_cons_succ]
        refine take_val (i := 1) (oi := ⟨some 86, .load 3 (.tmp 85), _, _, _, none⟩) (.int .i64 (a : Nat)) rfl (by kernel_rfl) (by kernel_rfl) (by kernel_rfl) (fun _ _ _ h => h) rfl (fun w hSw => ex_load rfl (ld_int _ _ _ _ hSw.1)) hSd ?_
        simp only [Act.put, List.setIfInBounds_toArray, List.set_cons_zero, List.set_cons_succ]
        refine take_val (i := 2) (oi := ⟨some 87, .binOp .lss 3 (.tmp 86) (.const (.int .i64 0)) 3, _, _, _, none⟩) (.bool false) rfl (by kernel_rfl) (by kernel_rfl) (by kernel_rfl) (fun _ _ _ h => h) rfl (fun w hSw => ex_lss rfl rfl f1) hSd ?_
        simp only [Act.put, List.setIfInBounds_toArray, List.set_cons_zero, List.set_cons_succ]
        refine take_val (i := 3) (oi := ⟨some 88, .move (.tmp 87), _, _, _, none⟩) (.bool false) rfl (by kernel_rfl) (by kernel_rfl) (by kernel_rfl) (fun _ _ _ h => h) rfl (fun w hSw => rfl) hSd ?_
        simp only [Act.put, List.setIfInBounds_toArray, List.set_cons_zero, List.set_cons_succ]
        refine take_val (i := 4) (oi := ⟨some 89, .fieldAddr 31 (.tmp 12) 0, _, _, _, some (3, false)⟩) (.pointer (some ⟨bx, 0, none⟩)) rfl (by kernel_rfl) (by kernel_rfl) (by kernel_rfl) (fun _ _ _ h => h) rfl (fun w hSw => ex_field rfl (fa_m0 _ _ _)) hSd ?_
        simp only [Act.put, List.setIfInBounds_toArray, List.set_cons_zero, List.set_cons_succ]
        refine take_val (i := 5) (oi := ⟨some 90, .load 3 (.tmp 89), _, _, _, some (3, false)⟩) (.int .i64 (a : Nat)) rfl (by kernel_rfl) (by kernel_rfl) (by kernel_rfl) (fun _ _ _ h => h) rfl (fun w hSw => ex_load rfl (ld_int _ _ _ _ hSw.1)) hSd ?_
        simp only [Act.put, List.setIfInBounds_toArray, List.set_cons_zero, List.set_cons_succ]
        refine take_val (i := 6) (oi := ⟨some 91, .move (.tmp 0), _, _, _, some (3, false)⟩) (.slice (some ⟨bl, ofl, none⟩) n lc) rfl (by kernel_rfl) (by kernel_rfl) (by kernel_rfl) (fun _ _ _ h => h) rfl (fun w hSw => rfl) hSd ?_
        simp only [Act.put, List.setIfInBounds_toArray, List.set_cons_zero, List.set_cons_succ]
        refine take_val (i := 7) (oi := ⟨some 92, .call { callee := .builtin .len, args := #[.tmp 91], argTypes := #[22] }, _, _, _, some (3, false)⟩) (.int .i64 (n : Nat)) rfl (by kernel_rfl) (by kernel_rfl) (by kernel_rfl) (fun _ _ _ h => h) rfl (fun w hSw => ex_lenL rfl) hSd ?_
        simp only [Act.put, List.setIfInBounds_toArray, List.set_cons_zero, List.set_cons_succ]
        refine take_val (i := 8) (oi := ⟨some 93, .binOp .geq 3 (.tmp 90) (.tmp 92) 3, _, _, _, some (3, false)⟩) (.bool false) rfl (by kernel_rfl) (by kernel_rfl) (by kernel_rfl) (fun _ _ _ h => h) rfl (fun w hSw => ex_geq rfl rfl f2) hSd ?_
        simp only [Act.put, List.setIfInBounds_toArray, List.set_cons_zero, List.set_cons_succ]
        refine take_val (i := 9) (oi := ⟨some 94, .pick (.tmp 88) (.const (.bool true)) (.tmp 93), _, _, _, none⟩) (.bool false) rfl (by kernel_rfl) (by kernel_rfl) (by kernel_rfl) (fun _ _ _ h => h) rfl (fun w hSw => rfl) hSd ?_
        simp only [Act.put, List.setIfInBounds_toArray, List.set_cons_zero, List.set_cons_succ]
        refine take_val (i := 10) (oi := ⟨some 95, .move (.tmp 94), _, _, _, none⟩) (.bool false) rfl (by kernel_rfl) (by kernel_rfl) (by kernel_rfl) (fun _ _ _ h => h) rfl (fun w hSw => rfl) hSd ?_
        simp only [Act.put, List.setIfInBounds_toArray, List.set_cons_zero, List.set_cons_succ]
        refine take_val (i := 11) (oi := ⟨some 96, .fieldAddr 31 (.tmp 12) 1, _, _, _, some (10, false)⟩) (.pointer (some ⟨bx, 0 + 1, none⟩)) rfl (by kernel_rfl) (by kernel_rfl) (by kernel_rfl) (fun _ _ _ h => h) rfl (fun w hSw => ex_field rfl (fa_m1 _ _ _)) hSd ?_
        simp only [Act.put, List.setIfInBounds_toArray, List.set_cons_zero, List.set_cons_succ]
        refine take_val (i := 12) (oi := ⟨some 97, .load 3 (.tmp 96), _, _, _, some (10, false)⟩) (.int .i64 (b : Nat)) rfl (by kernel_rfl) (by kernel_rfl) (by kernel_rfl) (fun _ _ _ h => h) rfl (fun w hSw => ex_load rfl (ld_int _ _ _ _ hSw.2.1)) hSd ?_
        simp only [Act.put, List.setIfInBounds_toArray, List.set_cons_zero, List.set_cons_succ]
        refine take_val (i := 13) (oi := ⟨some 98, .binOp .lss 3 (.tmp 97) (.const (.int .i64 0)) 3, _, _, _, some (10, false)⟩) (.bool false) rfl (by kernel_rfl) (by kernel_rfl) (by kernel_rfl) (fun _ _ _ h => h) rfl (fun w hSw => ex_lss rfl rfl f3) hSd ?_
        simp only [Act.put, List.setIfInBounds_toArray, List.set_cons_zero, List.set_cons_succ]
        refine take_val (i := 14) (oi := ⟨some 99, .pick (.tmp 95) (.const (.bool true)) (.tmp 98), _, _, _, none⟩) (.bool false) rfl (by kernel_rfl) (by kernel_rfl) (by kernel_rfl) (fun _ _ _ h => h) rfl (fun w hSw => rfl) hSd ?_
        simp only [Act.put, List.setIfInBounds_toArray, List.set_cons_zero, List.set_cons_succ]
        refine take_val (i := 15) (oi := ⟨some 100, .move (.tmp 99), _, _, _, none⟩) (.bool false) rfl (by kernel_rfl) (by kernel_rfl) (by kernel_rfl) (fun _ _ _ h => h) rfl (fun w hSw => rfl) hSd ?_
        simp only [Act.put, List.setIfInBounds_toArray, List.set_cons_zero, List.set_cons_succ]
        refine take_val (i := 16) (oi := ⟨some 101, .fieldAddr 31 (.tmp 12) 1, _, _, _, some (15, false)⟩) (.pointer (some ⟨bx, 0 + 1, none⟩)) rfl (by kernel_rfl) (by kernel_rfl) (by kernel_rfl) (fun _ _ _ h => h) rfl (fun w hSw => ex_field rfl (fa_m1 _ _ _)) hSd ?_
        simp only [Act.put, List.setIfInBounds_toArray, List.set_cons_zero, List.set_cons_succ]
        refine take_val (i := 17) (oi := ⟨some 102, .load 3 (.tmp 101), _, _, _, some (15, false)⟩) (.int .i64 (b : Nat)) rfl (by kernel_rfl) (by kernel_rfl) (by kernel_rfl) (fun _ _ _ h => h) rfl (fun w hSw => ex_load rfl (ld_int _ _ _ _ hSw.2.1)) hSd ?_
        simp only [Act.put, List.setIfInBounds_toArray, List.set_cons_zero, List.set_cons_succ]
        refine take_val (i := 18) (oi := ⟨some 103, .move (.tmp 1), _, _, _, some (15, false)⟩) (.slice (some ⟨bs, ofs, none⟩) m sc) rfl (by kernel_rfl) (by kernel_rfl) (by kernel_rfl) (fun _ _ _ h => h) rfl (fun w hSw => rfl) hSd ?_
        simp only [Act.put, List.setIfInBounds_toArray, List.set_cons_zero, List.set_cons_succ]
        refine take_val (i := 19) (oi := ⟨some 104, .call { callee := .builtin .len, args := #[.tmp 103], argTypes := #[23] }, _, _, _, some (15, false)⟩) (.int .i64 (m : Nat)) rfl (by kernel_rfl) (by kernel_rfl) (by kernel_rfl) (fun _ _ _ h => h) rfl (fun w hSw => ex_lenS rfl) hSd ?_
        simp only [Act.put, List.setIfInBounds_toArray, List.set_cons_zero, List.set_cons_succ]
        refine take_val (i := 20) (oi := ⟨some 105, .binOp .geq 3 (.tmp 102) (.tmp 104) 3, _, _, _, some (15, false)⟩) (.bool false) rfl (by kernel_rfl) (by kernel_rfl) (by kernel_rfl) (fun _ _ _ h => h) rfl (fun w hSw => ex_geq rfl rfl f4) hSd ?_
        simp only [Act.put, List.setIfInBounds_toArray, List.set_cons_zero, List.set_cons_succ]
        refine take_val (i := 21) (oi := ⟨some 106, .pick (.tmp 100) (.const (.bool true)) (.tmp 105), _, _, _, none⟩) (.bool false) rfl (by kernel_rfl) (by kernel_rfl) (by kernel_rfl) (fun _ _ _ h => h) rfl (fun w hSw => rfl) hSd ?_
        simp only [Act.put, List.setIfInBounds_toArray, List.set_cons_zero, List.set_cons_succ]
        refine take_val (i := 22) (oi := ⟨some 107, .move (.tmp 106), _, _, _, none⟩) (.bool false) rfl (by kernel_rfl) (by kernel_rfl) (by kernel_rfl) (fun _ _ _ h => h) rfl (fun w hSw => rfl) hSd ?_
        simp only [Act.put, List.setIfInBounds_toArray, List.set_cons_zero, List.set_cons_succ]
        refine take_val (i := 23) (oi := ⟨some 108, .move (.tmp 11), _, _, _, some (22, false)⟩) (.int .i64 ((k' + 1 : Nat) : Int)) rfl (by kernel_rfl) (by kernel_rfl) (by kernel_rfl) (fun _ _ _ h => h) rfl (fun w hSw => rfl) hSd ?_
        simp only [Act.put, List.setIfInBounds_toArray, List.set_cons_zero, List.set_cons_succ]
        refine take_val (i := 24) (oi := ⟨some 109, .binOp .gtr 3 (.tmp 108) (.const (.int .i64 0)) 3, _, _, _, some (22, false)⟩) (.bool true) rfl (by kernel_rfl) (by kernel_rfl) (by kernel_rfl) (fun _ _ _ h => h) rfl (fun w hSw => ex_gtr rfl rfl f5) hSd ?_
        simp only [Act.put, List.setIfInBounds_toArray, List.set_cons_zero, List.set_cons_succ]
        refine take_val (i := 25) (oi := ⟨some 110, .move (.tmp 109), _, _, _, some (22, false)⟩) (.bool true) rfl (by kernel_rfl) (by kernel_rfl) (by kernel_rfl) (fun _ _ _ h => h) rfl (fun w hSw => rfl) hSd ?_
        simp only [Act.put, List.setIfInBounds_toArray, List.set_cons_zero, List.set_cons_succ]
        refine take_val (i := 26) (oi := ⟨some 111, .move (.tmp 5), _, _, _, some (25, true)⟩) (.slice (some ⟨gm, 0, none⟩) nm c5) rfl (by kernel_rfl) (by kernel_rfl) (by kernel_rfl) (fun _ _ _ h => h) rfl (fun w hSw => rfl) hSd ?_
        simp only [Act.put, List.setIfInBounds_toArray, List.set_cons_zero, List.set_cons_succ]
        refine take_val (i := 27) (oi := ⟨some 112, .move (.tmp 11), _, _, _, some (25, true)⟩) (.int .i64 ((k' + 1 : Nat) : Int)) rfl (by kernel_rfl) (by kernel_rfl) (by kernel_rfl) (fun _ _ _ h => h) rfl (fun w hSw => rfl) hSd ?_
        simp only [Act.put, List.setIfInBounds_toArray, List.set_cons_zero, List.set_cons_succ]
        refine take_val (i := 28) (oi := ⟨some 113, .binOp .sub 3 (.tmp 112) (.const (.int .i64 1)) 3, _, _, _, some (25, true)⟩) (.int .i64 (k' : Nat)) rfl (by kernel_rfl) (by kernel_rfl) (by kernel_rfl) (fun _ _ _ h => h) rfl (fun w hSw => ex_sub rfl rfl f7.out) hSd ?_
        simp only [Act.put, List.setIfInBounds_toArray, List.set_cons_zero, List.set_cons_succ]
        refine take_val (i := 29) (oi := ⟨some 114, .indexAddr 25 (.tmp 111) (.tmp 113), _, _, _, some (25, true)⟩) (.pointer (some ⟨gm, 0 + k' * 5, none⟩)) rfl (by kernel_rfl) (by kernel_rfl) (by kernel_rfl) (fun _ _ _ h => h) rfl (fun w hSw => ex_index rfl rfl (ix_met _ _ _ _ _ f8 _)) hSd ?_
        simp only [Act.put, List.setIfInBounds_toArray, List.set_cons_zero, List.set_cons_succ]
        refine take_val (i := 30) (oi := ⟨some 115, .fieldAddr 31 (.tmp 114) 0, _, _, _, some (25, true)⟩) (.pointer (some ⟨gm, 0 + k' * 5, none⟩)) rfl (by kernel_rfl) (by kernel_rfl) (by kernel_rfl) (fun _ _ _ h => h) rfl (fun w hSw => ex_field rfl (fa_m0 _ _ _)) hSd ?_
        simp only [Act.put, List.setIfInBounds_toArray, List.set_cons_zero, List.set_cons_succ]
        refine take_val (i := 31) (oi := ⟨some 116, .load 3 (.tmp 115), _, _, _, some (25, true)⟩) (.int .i64 (a' : Nat)) rfl (by kernel_rfl) (by kernel_rfl) (by kernel_rfl) (fun _ _ _ h => h) rfl (fun w hSw => ex_load rfl (ld_int _ _ _ _ hSw.2.2)) hSd ?_
        simp only [Act.put, List.setIfInBounds_toArray, List.set_cons_zero, List.set_cons_succ]
        refine take_val (i := 32) (oi := ⟨some 117, .fieldAddr 31 (.tmp 12) 0, _, _, _, some (25, true)⟩) (.pointer (some ⟨bx, 0, none⟩)) rfl (by kernel_rfl) (by kernel_rfl) (by kernel_rfl) (fun _ _ _ h => h) rfl (fun w hSw => ex_field rfl (fa_m0 _ _ _)) hSd ?_
        simp only [Act.put, List.setIfInBounds_toArray, List.set_cons_zero, List.set_cons_succ]
        refine take_val (i := 33) (oi := ⟨some 118, .load 3 (.tmp 117), _, _, _, some (25, true)⟩) (.int .i64 (a : Nat)) rfl (by kernel_rfl) (by kernel_rfl) (by kernel_rfl) (fun _ _ _ h => h) rfl (fun w hSw => ex_load rfl (ld_int _ _ _ _ hSw.1)) hSd ?_
        simp only [Act.put, List.setIfInBounds_toArray, List.set_cons_zero, List.set_cons_succ]
        refine take_val (i := 34) (oi := ⟨some 119, .binOp .geq 3 (.tmp 116) (.tmp 118) 3, _, _, _, some (25, true)⟩) (.bool false) rfl (by kernel_rfl) (by kernel_rfl) (by kernel_rfl) (fun _ _ _ h => h) rfl (fun w hSw => ex_geq rfl rfl f6) hSd ?_
        simp only [Act.put, List.setIfInBounds_toArray, List.set_cons_zero, List.set_cons_succ]
        refine take_val (i := 35) (oi := ⟨some 120, .pick (.tmp 110) (.tmp 119) (.const (.bool false)), _, _, _, some (22, false)⟩) (.bool false) rfl (by kernel_rfl) (by kernel_rfl) (by kernel_rfl) (fun _ _ _ h => h) rfl (fun w hSw => rfl) hSd ?_
        simp only [Act.put, List.setIfInBounds_toArray, List.set_cons_zero, List.set_cons_succ]
        refine take_val (i := 36) (oi := ⟨some 121, .pick (.tmp 107) (.const (.bool true)) (.tmp 120), _, _, _, none⟩) (.bool false) rfl (by kernel_rfl) (by kernel_rfl) (by kernel_rfl) (fun _ _ _ h => h) rfl (fun w hSw => rfl) hSd ?_
        simp only [Act.put, List.setIfInBounds_toArray, List.set_cons_zero, List.set_cons_succ]
        refine wpAnyH_done (by kernel_rfl) ?_ _
        clear hSd f1 f2 f3 f4 f5 f6 f7 f8 pc
        generalize X.drew = Z at qX hX1 hX2 hbX ⊢
        have m0 := cell_of (i := 0) (v := .int .i64 (a : Nat)) qX rfl
        have m1 := cell_of (i := 1) (v := .int .i64 (b : Nat)) qX rfl
        have v0 := cell_of (i := a) hX1 (cntC_get _ hpa)
        have v1 := cell_of (i := b) hX2 (cntC_get _ hpb)
        have g0 := frozen_of_row _ _ a _ _ hX1
        have g1 := frozen_of_row _ _ b _ _ hX2
        have hu1 : ((G.met.take (k' + 1)).map (·.1)).count a ≤ 60 := by
          have := List.count_le_length (a := a) (l := (G.met.take (k' + 1)).map (·.1))
          rw [List.length_map, List.length_take] at this
          omega
        have hu2 : ((G.met.take (k' + 1)).map (·.2)).count b ≤ 60 := by
          have := List.count_le_length (a := b) (l := (G.met.take (k' + 1)).map (·.2))
          rw [List.length_map, List.length_take] at this
          omega
        generalize hd1 : ((G.met.take (k' + 1)).map (·.1)).count a = u1 at v0 hu1
        generalize hd2 : ((G.met.take (k' + 1)).map (·.2)).count b = u2 at v1 hu2
        have HX := Lib.hid (And.intro hX1 (And.intro hX2 (And.intro qX (And.intro hbX (And.intro hd1 hd2)))))
        clear hX1 hX2 qX hbX hd1 hd2
        have r1 : (0 : Int) ≤ (a : Int) := by omega
        have r2 : (a : Int) < (n : Int) := by omega
        have r3 : (0 : Int) ≤ (b : Int) := by omega
        have r4 : (b : Int) < (m : Int) := by omega
        have t1 : b1 ≠ b2 := HB.out.1
        have t2 : b2 ≠ b1 := fun h => HB.out.1 h.symm
        have t3 : bx ≠ b1 := by omega
        have t4 : bx ≠ b2 := by omega
        have t5 : b1 ≠ bx := by omega
        have t6 : b2 ≠ bx := by omega
        go_wp2_with fail
        clear m0 m1 v0 v1 g0 g1 r1 r2 r3 r4
        have hZ1 : ((Z.setCell ⟨b1, a, none⟩ (.int .i64 ((u1 : Int) + 1))).setCell ⟨b2, b, none⟩ (.int .i64 ((u2 : Int) + 1))).heap[b1]? = some (.cells (cntC n fun j => ((G.met.take ((k' + 1) + 1)).map (·.1)).count j) 3) := far_at (set_at HX.out.1 hpa (by rw [HX.out.2.2.2.2.1]) (fun j hj => cnt_step (α := Nat) _ _ _ _ _ HP.out.1)) t1
        have hZ2 : ((Z.setCell ⟨b1, a, none⟩ (.int .i64 ((u1 : Int) + 1))).setCell ⟨b2, b, none⟩ (.int .i64 ((u2 : Int) + 1))).heap[b2]? = some (.cells (cntC m fun j => ((G.met.take ((k' + 1) + 1)).map (·.2)).count j) 3) := set_at (far_at HX.out.2.1 t2) hpb (by rw [HX.out.2.2.2.2.2]) (fun j hj => cnt_step (α := Nat) _ _ _ _ _ HP.out.1)
        have hZX := far_at (i := b) (v := .int .i64 ((u2 : Int) + 1)) (far_at (i := a) (v := .int .i64 ((u1 : Int) + 1)) HX.out.2.2.1 t3) t4
        have hbZ := below_cell (i := b) (v := .int .i64 ((u2 : Int) + 1)) (below_cell (i := a) (v := .int .i64 ((u1 : Int) + 1)) HX.out.2.2.2.1 HB.out.2.1) HB.out.2.2
        generalize ((Z.setCell ⟨b1, a, none⟩ (.int .i64 ((u1 : Int) + 1))).setCell ⟨b2, b, none⟩ (.int .i64 ((u2 : Int) + 1))) = Y at hZ1 hZ2 hZX hbZ ⊢
        have HK2 := Lib.hid (show ∀ w', Below Y.heap.size Y w' → (w'.cell? ⟨bx, 0, none⟩ = some (.int .i64 (a : Nat)) ∧ w'.cell? ⟨bx, 0 + 1, none⟩ = some (.int .i64 (b : Nat))) from fun w' hb' => ⟨cell_of (i := 0) (v := .int .i64 (a : Nat)) (keepB hb' hZX) rfl, cell_of (i := 1) (v := .int .i64 (b : Nat)) (keepB hb' hZX) rfl⟩)
        have i1 : wrap64 ((a : Int) + 1) = (a : Int) + 1 := by unfold wrap64; omega
        have i2 : wrap64 ((b : Int) + 1) = (b : Int) + 1 := by clear i1; unfold wrap64; omega
        have II := Lib.hid (And.intro i1 i2)
        clear i1 i2
        refine wp_region_held_drew (S := fun w' => w'.cell? ⟨bx, 0, none⟩ = some (.int .i64 (a : Nat)) ∧ w'.cell? ⟨bx, 0 + 1, none⟩ = some (.int .i64 (b : Nat))) (by kernel_rfl) (HK2.out _ ((Below.refl _ _).drew)) (fun hSd => ?_)
        refine take_val (i := 0) (oi := ⟨some 137, .move (.tmp 0), _, _, _, none⟩) (.slice (some ⟨bl, ofl, none⟩) n lc) rfl (by kernel_rfl) (by kernel_rfl) (by kernel_rfl) (fun _ _ _ h => h) rfl (fun w hSw => rfl) hSd ?_
        simp only [Act.put, List.setIfInBounds_toArray, List.set_cons_zero, List.set_cons_succ]
        refine take_val (i := 1) (oi := ⟨some 138, .fieldAddr 31 (.tmp 12) 0, _, _, _, none⟩) (.pointer (some ⟨bx, 0, none⟩)) rfl (by kernel_rfl) (by kernel_rfl) (by kernel_rfl) (fun _ _ _ h => h) rfl (fun w hSw => ex_field rfl (fa_m0 _ _ _)) hSd ?_
        simp only [Act.put, List.setIfInBounds_toArray, List.set_cons_zero, List.set_cons_succ]
        refine take_val (i := 2) (oi := ⟨some 139, .load 3 (.tmp 138), _, _, _, none⟩) (.int .i64 (a : Nat)) rfl (by kernel_rfl) (by kernel_rfl) (by kernel_rfl) (fun _ _ _ h => h) rfl (fun w hSw => ex_load rfl (ld_int _ _ _ _ hSw.1)) hSd ?_
        simp only [Act.put, List.setIfInBounds_toArray, List.set_cons_zero, List.set_cons_succ]
        refine take_val (i := 3) (oi := ⟨some 140, .fieldAddr 31 (.tmp 12) 0, _, _, _, none⟩) (.pointer (some ⟨bx, 0, none⟩)) rfl (by kernel_rfl) (by kernel_rfl) (by kernel_rfl) (fun _ _ _ h => h) rfl (fun w hSw => ex_field rfl (fa_m0 _ _ _)) hSd ?_
        simp only [Act.put, List.setIfInBounds_toArray, List.set_cons_zero, List.set_cons_succ]
        refine take_val (i := 4) (oi := ⟨some 141, .load 3 (.tmp 140), _, _, _, none⟩) (.int .i64 (a : Nat)) rfl (by kernel_rfl) (by kernel_rfl) (by kernel_rfl) (fun _ _ _ h => h) rfl (fun w hSw => ex_load rfl (ld_int _ _ _ _ hSw.1)) hSd ?_
        simp only [Act.put, List.setIfInBounds_toArray, List.set_cons_zero, List.set_cons_succ]
        refine take_val (i := 5) (oi := ⟨some 142, .binOp .add 3 (.tmp 141) (.const (.int .i64 1)) 3, _, _, _, none⟩) (.int .i64 ((a : Int) + 1)) rfl (by kernel_rfl) (by kernel_rfl) (by kernel_rfl) (fun _ _ _ h => h) rfl (fun w hSw => ex_add rfl rfl II.out.1) hSd ?_
        simp only [Act.put, List.setIfInBounds_toArray, List.set_cons_zero, List.set_cons_succ]
        refine take_val (i := 6) (oi := ⟨some 143, .slice 22 (.tmp 137) (some (.tmp 139)) (some (.tmp 142)) none, _, _, _, none⟩) (.slice (some ⟨bl, ofl + a * 53, none⟩) 1 (lc - a)) rfl (by kernel_rfl) (by kernel_rfl) (by kernel_rfl) (fun _ _ _ h => h) rfl (fun w hSw => ex_slice rfl rfl rfl (slice_part Tryd.underlying22 (fun w => by kernel_rfl) bl ofl n lc a hpa HSL.out.1 _)) hSd ?_
        simp only [Act.put, List.setIfInBounds_toArray, List.set_cons_zero, List.set_cons_succ]
        refine take_val (i := 7) (oi := ⟨some 144, .move (.tmp 1), _, _, _, none⟩) (.slice (some ⟨bs, ofs, none⟩) m sc) rfl (by kernel_rfl) (by kernel_rfl) (by kernel_rfl) (fun _ _ _ h => h) rfl (fun w hSw => rfl) hSd ?_
        simp only [Act.put, List.setIfInBounds_toArray, List.set_cons_zero, List.set_cons_succ]
        refine take_val (i := 8) (oi := ⟨some 145, .fieldAddr 31 (.tmp 12) 1, _, _, _, none⟩) (.pointer (some ⟨bx, 0 + 1, none⟩)) rfl (by kernel_rfl) (by kernel_rfl) (by kernel_rfl) (fun _ _ _ h => h) rfl (fun w hSw => ex_field rfl (fa_m1 _ _ _)) hSd ?_
        simp only [Act.put, List.setIfInBounds_toArray, List.set_cons_zero, List.set_cons_succ]
        refine take_val (i := 9) (oi := ⟨some 146, .load 3 (.tmp 145), _, _, _, none⟩) (.int .i64 (b : Nat)) rfl (by kernel_rfl) (by kernel_rfl) (by kernel_rfl) (fun _ _ _ h => h) rfl (fun w hSw => ex_load rfl (ld_int _ _ _ _ hSw.2)) hSd ?_
        simp only [Act.put, List.setIfInBounds_toArray, List.set_cons_zero, List.set_cons_succ]
        refine take_val (i := 10) (oi := ⟨some 147, .fieldAddr 31 (.tmp 12) 1, _, _, _, none⟩) (.pointer (some ⟨bx, 0 + 1, none⟩)) rfl (by kernel_rfl) (by kernel_rfl) (by kernel_rfl) (fun _ _ _ h => h) rfl (fun w hSw => ex_field rfl (fa_m1 _ _ _)) hSd ?_
        simp only [Act.put, List.setIfInBounds_toArray, List.set_cons_zero, List.set_cons_succ]
        refine take_val (i := 11) (oi := ⟨some 148, .load 3 (.tmp 147), _, _, _, none⟩) (.int .i64 (b : Nat)) rfl (by kernel_rfl) (by kernel_rfl) (by kernel_rfl) (fun _ _ _ h => h) rfl (fun w hSw => ex_load rfl (ld_int _ _ _ _ hSw.2)) hSd ?_
        simp only [Act.put, List.setIfInBounds_toArray, List.set_cons_zero, List.set_cons_succ]
        refine take_val (i := 12) (oi := ⟨some 149, .binOp .add 3 (.tmp 148) (.const (.int .i64 1)) 3, _, _, _, none⟩) (.int .i64 ((b : Int) + 1)) rfl (by kernel_rfl) (by kernel_rfl) (by kernel_rfl) (fun _ _ _ h => h) rfl (fun w hSw => ex_add rfl rfl II.out.2) hSd ?_
        simp only [Act.put, List.setIfInBounds_toArray, List.set_cons_zero, List.set_cons_succ]
        refine take_val (i := 13) (oi := ⟨some 150, .slice 23 (.tmp 144) (some (.tmp 146)) (some (.tmp 149)) none, _, _, _, none⟩) (.slice (some ⟨bs, ofs + b * 48, none⟩) 1 (sc - b)) rfl (by kernel_rfl) (by kernel_rfl) (by kernel_rfl) (fun _ _ _ h => h) rfl (fun w hSw => ex_slice rfl rfl rfl (slice_part Tryd.underlying23 (fun w => by kernel_rfl) bs ofs m sc b hpb HSL.out.2.1 _)) hSd ?_
        simp only [Act.put, List.setIfInBounds_toArray, List.set_cons_zero, List.set_cons_succ]
        have hq8 : ∀ r ∈ [rl], RowOk lineK r := fun r h => by rw [List.mem_singleton.1 h]; exact HSL.out.2.2.1
        have hq9 : ∀ r ∈ [rs], RowOk sampK r := fun r h => by rw [List.mem_singleton.1 h]; exact HSL.out.2.2.2.1
        have hD0 : Below Y.heap.size Y Y.drew := (Below.refl _ _).drew
        have hs8 : Sl Y.drew 53 (.slice (some ⟨bl, ofl + a * 53, none⟩) 1 (lc - a)) [rl] := Sl.one (range_up (HSL.out.2.2.2.2.1 _ hbZ) hD0 (HSL.out.2.2.2.2.2.2.2.1 _ hbZ)) (by have := HSL.out.1; omega) (by omega)
        have hs9 : Sl Y.drew 48 (.slice (some ⟨bs, ofs + b * 48, none⟩) 1 (sc - b)) [rs] := Sl.one (range_up (HSL.out.2.2.2.2.2.1 _ hbZ) hD0 (HSL.out.2.2.2.2.2.2.2.2 _ hbZ)) (by have := HSL.out.2.1; omega) (by omega)
        have hmc := meet_w Y.drew _ _ [rl] [rs] hq8 hq9 hs8 hs9 (show 1 ≤ 60 by decide) (show 1 ≤ 60 by decide)
        clear hq8 hq9 hs8 hs9
        refine take_call 14 (f := 6) (args := #[.slice (some ⟨bl, ofl + a * 53, none⟩) 1 (lc - a), .slice (some ⟨bs, ofs + b * 48, none⟩) 1 (sc - b)]) rfl (by kernel_rfl) rfl (by kernel_rfl) hmc ?_
        intro e w4 hMe
        obtain ⟨g1, cap1, vl1, vb1, rfl, hr1, hcap1, hb4⟩ := meet_yes hMe HSL.out.2.2.2.2.2.2.1.1
        rw [HSL.out.2.2.2.2.2.2.1.2, HP.out.2.2.1] at hr1
        have hb5 := bT ((Below.refl _ _).drew) hb4
        clear hSd hMe hb4
        have hSd := HK2.out _ hb5
        refine ⟨_, rfl, hSd, ?_⟩
        simp only [Act.put, List.setIfInBounds_toArray, List.set_cons_zero, List.set_cons_succ]
        refine take_val (i := 15) (oi := ⟨some 136, .move (.tmp 151), _, _, _, none⟩) (.tuple #[.slice (some ⟨g1, 0, none⟩) 1 cap1, vl1, vb1, .int .i64 0]) rfl (by kernel_rfl) (by kernel_rfl) (by kernel_rfl) (fun _ _ _ h => h) rfl (fun w hSw => rfl) hSd ?_
        simp only [Act.put, List.setIfInBounds_toArray, List.set_cons_zero, List.set_cons_succ]
        refine take_val (i := 16) (oi := ⟨some 152, .extract (.tmp 136) 0, _, _, _, none⟩) (.slice (some ⟨g1, 0, none⟩) 1 cap1) rfl (by kernel_rfl) (by kernel_rfl) (by kernel_rfl) (fun _ _ _ h => h) rfl (fun w hSw => rfl) hSd ?_
        simp only [Act.put, List.setIfInBounds_toArray, List.set_cons_zero, List.set_cons_succ]
        refine take_val (i := 17) (oi := ⟨some 153, .extract (.tmp 136) 1, _, _, _, none⟩) (vl1) rfl (by kernel_rfl) (by kernel_rfl) (by kernel_rfl) (fun _ _ _ h => h) rfl (fun w hSw => rfl) hSd ?_
        simp only [Act.put, List.setIfInBounds_toArray, List.set_cons_zero, List.set_cons_succ]
        refine take_val (i := 18) (oi := ⟨some 154, .extract (.tmp 136) 2, _, _, _, none⟩) (vb1) rfl (by kernel_rfl) (by kernel_rfl) (by kernel_rfl) (fun _ _ _ h => h) rfl (fun w hSw => rfl) hSd ?_
        simp only [Act.put, List.setIfInBounds_toArray, List.set_cons_zero, List.set_cons_succ]
        refine take_val (i := 19) (oi := ⟨some 155, .extract (.tmp 136) 3, _, _, _, none⟩) (.int .i64 0) rfl (by kernel_rfl) (by kernel_rfl) (by kernel_rfl) (fun _ _ _ h => h) rfl (fun w hSw => rfl) hSd ?_
        simp only [Act.put, List.setIfInBounds_toArray, List.set_cons_zero, List.set_cons_succ]
        refine take_val (i := 20) (oi := ⟨some 13, .assign (.tmp 152), _, _, _, none⟩) (.slice (some ⟨g1, 0, none⟩) 1 cap1) rfl (by kernel_rfl) (by kernel_rfl) (by kernel_rfl) (fun _ _ _ h => h) rfl (fun w hSw => rfl) hSd ?_
        simp only [Act.put, List.setIfInBounds_toArray, List.set_cons_zero, List.set_cons_succ]
        refine take_val (i := 21) (oi := ⟨some 14, .assign (.tmp 153), _, _, _, none⟩) (vl1) rfl (by kernel_rfl) (by kernel_rfl) (by kernel_rfl) (fun _ _ _ h => h) rfl (fun w hSw => rfl) hSd ?_
        simp only [Act.put, List.setIfInBounds_toArray, List.set_cons_zero, List.set_cons_succ]
        refine take_val (i := 22) (oi := ⟨some 15, .assign (.tmp 154), _, _, _, none⟩) (vb1) rfl (by kernel_rfl) (by kernel_rfl) (by kernel_rfl) (fun _ _ _ h => h) rfl (fun w hSw => rfl) hSd ?_
        simp only [Act.put, List.setIfInBounds_toArray, List.set_cons_zero, List.set_cons_succ]
        refine take_val (i := 23) (oi := ⟨some 16, .assign (.tmp 155), _, _, _, none⟩) (.int .i64 0) rfl (by kernel_rfl) (by kernel_rfl) (by kernel_rfl) (fun _ _ _ h => h) rfl (fun w hSw => rfl) hSd ?_
        simp only [Act.put, List.setIfInBounds_toArray, List.set_cons_zero, List.set_cons_succ]
        refine wpAnyH_done (by kernel_rfl) ?_ _
        have hb6 := hb5
        have hq1 := hr1 2 _ rfl
        have hq2 := hr1 3 _ rfl
        have hq3 := hr1 4 _ rfl
        have hg1 := range_lt hr1 (by simp)
        have HZ := Lib.hid (And.intro hZ1 (And.intro hZ2 (And.intro hZX (And.intro hbZ hb5))))
        have HR1 := Lib.hid hr1
        clear hSd hr1 hZ1 hZ2 hZX hbZ hb5 hb6 II
        go_wp2_with fail
        refine wp_region_held_drew (S := fun w' => w'.cell? ⟨g1, 0 + 0 * 5 + 2, none⟩ = some (.int .i64 x) ∧ w'.cell? ⟨g1, 0 + 0 * 5 + 3, none⟩ = some (.int .i64 y) ∧ w'.cell? ⟨g1, 0 + 0 * 5 + 4, none⟩ = some (.int .i64 z) ∧ w'.cell? ⟨bx, 0 + 2, none⟩ = some (.int .i64 x) ∧ w'.cell? ⟨bx, 0 + 3, none⟩ = some (.int .i64 y) ∧ w'.cell? ⟨bx, 0 + 4, none⟩ = some (.int .i64 z)) (by kernel_rfl) ⟨cell_up ((Below.refl _ _).drew) hq1, cell_up ((Below.refl _ _).drew) hq2, cell_up ((Below.refl _ _).drew) hq3, cell_of (i := 2) (v := .int .i64 x) (keepB (bT HZ.out.2.2.2.2 ((Below.refl _ _).drew)) HZ.out.2.2.1) rfl, cell_of (i := 3) (v := .int .i64 y) (keepB (bT HZ.out.2.2.2.2 ((Below.refl _ _).drew)) HZ.out.2.2.1) rfl, cell_of (i := 4) (v := .int .i64 z) (keepB (bT HZ.out.2.2.2.2 ((Below.refl _ _).drew)) HZ.out.2.2.1) rfl⟩ (fun hSd => ?_)
        refine take_val (i := 0) (oi := ⟨some 156, .move (.tmp 16), _, _, _, none⟩) (.int .i64 0) rfl (by kernel_rfl) (by kernel_rfl) (by kernel_rfl) (fun _ _ _ h => h) rfl (fun w hSw => rfl) hSd ?_
        simp only [Act.put, List.setIfInBounds_toArray, List.set_cons_zero, List.set_cons_succ]
        refine take_val (i := 1) (oi := ⟨some 157, .binOp .neq 27 (.tmp 156) (.const (.int .i64 0)) 27, _, _, _, none⟩) (.bool false) rfl (by kernel_rfl) (by kernel_rfl) (by kernel_rfl) (fun _ _ _ h => h) rfl (fun w hSw => ex_nei rfl rfl rfl) hSd ?_
        simp only [Act.put, List.setIfInBounds_toArray, List.set_cons_zero, List.set_cons_succ]
        refine take_val (i := 2) (oi := ⟨some 158, .move (.tmp 157), _, _, _, none⟩) (.bool false) rfl (by kernel_rfl) (by kernel_rfl) (by kernel_rfl) (fun _ _ _ h => h) rfl (fun w hSw => rfl) hSd ?_
        simp only [Act.put, List.setIfInBounds_toArray, List.set_cons_zero, List.set_cons_succ]
        refine take_val (i := 3) (oi := ⟨some 159, .move (.tmp 13), _, _, _, some (2, false)⟩) (.slice (some ⟨g1, 0, none⟩) 1 cap1) rfl (by kernel_rfl) (by kernel_rfl) (by kernel_rfl) (fun _ _ _ h => h) rfl (fun w hSw => rfl) hSd ?_
        simp only [Act.put, List.setIfInBounds_toArray, List.set_cons_zero, List.set_cons_succ]
        refine take_val (i := 4) (oi := ⟨some 160, .call { callee := .builtin .len, args := #[.tmp 159], argTypes := #[25] }, _, _, _, some (2, false)⟩) (.int .i64 ((1 : Nat) : Int)) rfl (by kernel_rfl) (by kernel_rfl) (by kernel_rfl) (fun _ _ _ h => h) rfl (fun w hSw => ex_lenM rfl) hSd ?_
        simp only [Act.put, List.setIfInBounds_toArray, List.set_cons_zero, List.set_cons_succ]
        refine take_val (i := 5) (oi := ⟨some 161, .binOp .neq 3 (.tmp 160) (.const (.int .i64 1)) 3, _, _, _, some (2, false)⟩) (.bool false) rfl (by kernel_rfl) (by kernel_rfl) (by kernel_rfl) (fun _ _ _ h => h) rfl (fun w hSw => ex_nei rfl rfl rfl) hSd ?_
        simp only [Act.put, List.setIfInBounds_toArray, List.set_cons_zero, List.set_cons_succ]
        refine take_val (i := 6) (oi := ⟨some 162, .pick (.tmp 158) (.const (.bool true)) (.tmp 161), _, _, _, none⟩) (.bool false) rfl (by kernel_rfl) (by kernel_rfl) (by kernel_rfl) (fun _ _ _ h => h) rfl (fun w hSw => rfl) hSd ?_
        simp only [Act.put, List.setIfInBounds_toArray, List.set_cons_zero, List.set_cons_succ]
        refine take_val (i := 7) (oi := ⟨some 163, .move (.tmp 162), _, _, _, none⟩) (.bool false) rfl (by kernel_rfl) (by kernel_rfl) (by kernel_rfl) (fun _ _ _ h => h) rfl (fun w hSw => rfl) hSd ?_
        simp only [Act.put, List.setIfInBounds_toArray, List.set_cons_zero, List.set_cons_succ]
        refine take_val (i := 8) (oi := ⟨some 164, .move (.tmp 13), _, _, _, some (7, false)⟩) (.slice (some ⟨g1, 0, none⟩) 1 cap1) rfl (by kernel_rfl) (by kernel_rfl) (by kernel_rfl) (fun _ _ _ h => h) rfl (fun w hSw => rfl) hSd ?_
        simp only [Act.put, List.setIfInBounds_toArray, List.set_cons_zero, List.set_cons_succ]
        refine take_val (i := 9) (oi := ⟨some 165, .indexAddr 25 (.tmp 164) (.const (.int .i64 0)), _, _, _, some (7, false)⟩) (.pointer (some ⟨g1, 0 + 0 * 5, none⟩)) rfl (by kernel_rfl) (by kernel_rfl) (by kernel_rfl) (fun _ _ _ h => h) rfl (fun w hSw => ex_index rfl rfl (ix_met _ _ _ _ 0 (by decide) _)) hSd ?_
        simp only [Act.put, List.setIfInBounds_toArray, List.set_cons_zero, List.set_cons_succ]
        refine take_val (i := 10) (oi := ⟨some 166, .fieldAddr 31 (.tmp 165) 2, _, _, _, some (7, false)⟩) (.pointer (some ⟨g1, 0 + 0 * 5 + 2, none⟩)) rfl (by kernel_rfl) (by kernel_rfl) (by kernel_rfl) (fun _ _ _ h => h) rfl (fun w hSw => ex_field rfl (fa_m2 _ _ _)) hSd ?_
        simp only [Act.put, List.setIfInBounds_toArray, List.set_cons_zero, List.set_cons_succ]
        refine take_val (i := 11) (oi := ⟨some 167, .load 2 (.tmp 166), _, _, _, some (7, false)⟩) (.int .i64 x) rfl (by kernel_rfl) (by kernel_rfl) (by kernel_rfl) (fun _ _ _ h => h) rfl (fun w hSw => ex_load rfl (ld_i64 _ _ _ _ hSw.1)) hSd ?_
        simp only [Act.put, List.setIfInBounds_toArray, List.set_cons_zero, List.set_cons_succ]
        refine take_val (i := 12) (oi := ⟨some 168, .fieldAddr 31 (.tmp 12) 2, _, _, _, some (7, false)⟩) (.pointer (some ⟨bx, 0 + 2, none⟩)) rfl (by kernel_rfl) (by kernel_rfl) (by kernel_rfl) (fun _ _ _ h => h) rfl (fun w hSw => ex_field rfl (fa_m2 _ _ _)) hSd ?_
        simp only [Act.put, List.setIfInBounds_toArray, List.set_cons_zero, List.set_cons_succ]
        refine take_val (i := 13) (oi := ⟨some 169, .load 2 (.tmp 168), _, _, _, some (7, false)⟩) (.int .i64 x) rfl (by kernel_rfl) (by kernel_rfl) (by kernel_rfl) (fun _ _ _ h => h) rfl (fun w hSw => ex_load rfl (ld_i64 _ _ _ _ hSw.2.2.2.1)) hSd ?_
        simp only [Act.put, List.setIfInBounds_toArray, List.set_cons_zero, List.set_cons_succ]
        refine take_val (i := 14) (oi := ⟨some 170, .binOp .neq 2 (.tmp 167) (.tmp 169) 2, _, _, _, some (7, false)⟩) (.bool false) rfl (by kernel_rfl) (by kernel_rfl) (by kernel_rfl) (fun _ _ _ h => h) rfl (fun w hSw => ex_nei rfl rfl (by simp)) hSd ?_
        simp only [Act.put, List.setIfInBounds_toArray, List.set_cons_zero, List.set_cons_succ]
        refine take_val (i := 15) (oi := ⟨some 171, .pick (.tmp 163) (.const (.bool true)) (.tmp 170), _, _, _, none⟩) (.bool false) rfl (by kernel_rfl) (by kernel_rfl) (by kernel_rfl) (fun _ _ _ h => h) rfl (fun w hSw => rfl) hSd ?_
        simp only [Act.put, List.setIfInBounds_toArray, List.set_cons_zero, List.set_cons_succ]
        refine take_val (i := 16) (oi := ⟨some 172, .move (.tmp 171), _, _, _, none⟩) (.bool false) rfl (by kernel_rfl) (by kernel_rfl) (by kernel_rfl) (fun _ _ _ h => h) rfl (fun w hSw => rfl) hSd ?_
        simp only [Act.put, List.setIfInBounds_toArray, List.set_cons_zero, List.set_cons_succ]
        refine take_val (i := 17) (oi := ⟨some 173, .move (.tmp 13), _, _, _, some (16, false)⟩) (.slice (some ⟨g1, 0, none⟩) 1 cap1) rfl (by kernel_rfl) (by kernel_rfl) (by kernel_rfl) (fun _ _ _ h => h) rfl (fun w hSw => rfl) hSd ?_
        simp only [Act.put, List.setIfInBounds_toArray, List.set_cons_zero, List.set_cons_succ]
        refine take_val (i := 18) (oi := ⟨some 174, .indexAddr 25 (.tmp 173) (.const (.int .i64 0)), _, _, _, some (16, false)⟩) (.pointer (some ⟨g1, 0 + 0 * 5, none⟩)) rfl (by kernel_rfl) (by kernel_rfl) (by kernel_rfl) (fun _ _ _ h => h) rfl (fun w hSw => ex_index rfl rfl (ix_met _ _ _ _ 0 (by decide) _)) hSd ?_
        simp only [Act.put, List.setIfInBounds_toArray, List.set_cons_zero, List.set_cons_succ]
        refine take_val (i := 19) (oi := ⟨some 175, .fieldAddr 31 (.tmp 174) 3, _, _, _, some (16, false)⟩) (.pointer (some ⟨g1, 0 + 0 * 5 + 3, none⟩)) rfl (by kernel_rfl) (by kernel_rfl) (by kernel_rfl) (fun _ _ _ h => h) rfl (fun w hSw => ex_field rfl (fa_m3 _ _ _)) hSd ?_
        simp only [Act.put, List.setIfInBounds_toArray, List.set_cons_zero, List.set_cons_succ]
        refine take_val (i := 20) (oi := ⟨some 176, .load 2 (.tmp 175), _, _, _, some (16, false)⟩) (.int .i64 y) rfl (by kernel_rfl) (by kernel_rfl) (by kernel_rfl) (fun _ _ _ h => h) rfl (fun w hSw => ex_load rfl (ld_i64 _ _ _ _ hSw.2.1)) hSd ?_
        simp only [Act.put, List.setIfInBounds_toArray, List.set_cons_zero, List.set_cons_succ]
        refine take_val (i := 21) (oi := ⟨some 177, .fieldAddr 31 (.tmp 12) 3, _, _, _, some (16, false)⟩) (.pointer (some ⟨bx, 0 + 3, none⟩)) rfl (by kernel_rfl) (by kernel_rfl) (by kernel_rfl) (fun _ _ _ h => h) rfl (fun w hSw => ex_field rfl (fa_m3 _ _ _)) hSd ?_
        simp only [Act.put, List.setIfInBounds_toArray, List.set_cons_zero, List.set_cons_succ]
        refine take_val (i := 22) (oi := ⟨some 178, .load 2 (.tmp 177), _, _, _, some (16, false)⟩) (.int .i64 y) rfl (by kernel_rfl) (by kernel_rfl) (by kernel_rfl) (fun _ _ _ h => h) rfl (fun w hSw => ex_load rfl (ld_i64 _ _ _ _ hSw.2.2.2.2.1)) hSd ?_
        simp only [Act.put, List.setIfInBounds_toArray, List.set_cons_zero, List.set_cons_succ]
        refine take_val (i := 23) (oi := ⟨some 179, .binOp .neq 2 (.tmp 176) (.tmp 178) 2, _, _, _, some (16, false)⟩) (.bool false) rfl (by kernel_rfl) (by kernel_rfl) (by kernel_rfl) (fun _ _ _ h => h) rfl (fun w hSw => ex_nei rfl rfl (by simp)) hSd ?_
        simp only [Act.put, List.setIfInBounds_toArray, List.set_cons_zero, List.set_cons_succ]
        refine take_val (i := 24) (oi := ⟨some 180, .pick (.tmp 172) (.const (.bool true)) (.tmp 179), _, _, _, none⟩) (.bool false) rfl (by kernel_rfl) (by kernel_rfl) (by kernel_rfl) (fun _ _ _ h => h) rfl (fun w hSw => rfl) hSd ?_
        simp only [Act.put, List.setIfInBounds_toArray, List.set_cons_zero, List.set_cons_succ]
        refine take_val (i := 25) (oi := ⟨some 181, .move (.tmp 180), _, _, _, none⟩) (.bool false) rfl (by kernel_rfl) (by kernel_rfl) (by kernel_rfl) (fun _ _ _ h => h) rfl (fun w hSw => rfl) hSd ?_
        simp only [Act.put, List.setIfInBounds_toArray, List.set_cons_zero, List.set_cons_succ]
        refine take_val (i := 26) (oi := ⟨some 182, .move (.tmp 13), _, _, _, some (25, false)⟩) (.slice (some ⟨g1, 0, none⟩) 1 cap1) rfl (by kernel_rfl) (by kernel_rfl) (by kernel_rfl) (fun _ _ _ h => h) rfl (fun w hSw => rfl) hSd ?_
        simp only [Act.put, List.setIfInBounds_toArray, List.set_cons_zero, List.set_cons_succ]
        refine take_val (i := 27) (oi := ⟨some 183, .indexAddr 25 (.tmp 182) (.const (.int .i64 0)), _, _, _, some (25, false)⟩) (.pointer (some ⟨g1, 0 + 0 * 5, none⟩)) rfl (by kernel_rfl) (by kernel_rfl) (by kernel_rfl) (fun _ _ _ h => h) rfl (fun w hSw => ex_index rfl rfl (ix_met _ _ _ _ 0 (by decide) _)) hSd ?_
        simp only [Act.put, List.setIfInBounds_toArray, List.set_cons_zero, List.set_cons_succ]
        refine take_val (i := 28) (oi := ⟨some 184, .fieldAddr 31 (.tmp 183) 4, _, _, _, some (25, false)⟩) (.pointer (some ⟨g1, 0 + 0 * 5 + 4, none⟩)) rfl (by kernel_rfl) (by kernel_rfl) (by kernel_rfl) (fun _ _ _ h => h) rfl (fun w hSw => ex_field rfl (fa_m4 _ _ _)) hSd ?_
        simp only [Act.put, List.setIfInBounds_toArray, List.set_cons_zero, List.set_cons_succ]
        refine take_val (i := 29) (oi := ⟨some 185, .load 2 (.tmp 184), _, _, _, some (25, false)⟩) (.int .i64 z) rfl (by kernel_rfl) (by kernel_rfl) (by kernel_rfl) (fun _ _ _ h => h) rfl (fun w hSw => ex_load rfl (ld_i64 _ _ _ _ hSw.2.2.1)) hSd ?_
        simp only [Act.put, List.setIfInBounds_toArray, List.set_cons_zero, List.set_cons_succ]
        refine take_val (i := 30) (oi := ⟨some 186, .fieldAddr 31 (.tmp 12) 4, _, _, _, some (25, false)⟩) (.pointer (some ⟨bx, 0 + 4, none⟩)) rfl (by kernel_rfl) (by kernel_rfl) (by kernel_rfl) (fun _ _ _ h => h) rfl (fun w hSw => ex_field rfl (fa_m4 _ _ _)) hSd ?_
        simp only [Act.put, List.setIfInBounds_toArray, List.set_cons_zero, List.set_cons_succ]
        refine take_val (i := 31) (oi := ⟨some 187, .load 2 (.tmp 186), _, _, _, some (25, false)⟩) (.int .i64 z) rfl (by kernel_rfl) (by kernel_rfl) (by kernel_rfl) (fun _ _ _ h => h) rfl (fun w hSw => ex_load rfl (ld_i64 _ _ _ _ hSw.2.2.2.2.2)) hSd ?_
        simp only [Act.put, List.setIfInBounds_toArray, List.set_cons_zero, List.set_cons_succ]
        refine take_val (i := 32) (oi := ⟨some 188, .binOp .neq 2 (.tmp 185) (.tmp 187) 2, _, _, _, some (25, false)⟩) (.bool false) rfl (by kernel_rfl) (by kernel_rfl) (by kernel_rfl) (fun _ _ _ h => h) rfl (fun w hSw => ex_nei rfl rfl (by simp)) hSd ?_
        simp only [Act.put, List.setIfInBounds_toArray, List.set_cons_zero, List.set_cons_succ]
        refine take_val (i := 33) (oi := ⟨some 189, .pick (.tmp 181) (.const (.bool true)) (.tmp 188), _, _, _, none⟩) (.bool false) rfl (by kernel_rfl) (by kernel_rfl) (by kernel_rfl) (fun _ _ _ h => h) rfl (fun w hSw => rfl) hSd ?_
        simp only [Act.put, List.setIfInBounds_toArray, List.set_cons_zero, List.set_cons_succ]
        refine wpAnyH_done (by kernel_rfl) ?_ _
        clear hSd hq1 hq2 hq3 t1 t2 t3 t4 t5 t6
        go_wp2_with fail
        go_roundg (nm - ((k' + 1) + 1))
        case measure => omega
        case rel =>
          have hb7 := bT HZ.out.2.2.2.2 ((Below.refl _ _).drew)
          exact ⟨(k' + 1) + 1, by go_num, by omega, rfl, HZ.out.2.2.2.1.trans (hb7.mono HZ.out.2.2.2.1.size), keepB hb7 HZ.out.1, keepB hb7 HZ.out.2.1⟩
end Go.Proofs.YtmnoegfehgoalaaDoor.cx
