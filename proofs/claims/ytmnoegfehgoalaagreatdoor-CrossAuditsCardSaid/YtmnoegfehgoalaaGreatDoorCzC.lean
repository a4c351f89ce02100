/- The reference's ways, nearness, differences. Does a line tell a sample, as the reference has it: Tells. How lines meet samples, as the reference has it: what is so in its loops. -/
import Derived.Test.YtmnoegfehgoalaaGreatDoorCzB
import Derived.Test.YtmnoegfehgoalaaGreatDoorCxB
import Derived.Test.YtmnoegfehgoalaaGreatDoorCxE
import Derived.Test.YtmnoegfehgoalaaGreatDoorCxG
namespace Go.Proofs.YtmnoegfehgoalaaGreatDoor.cx
open Go.RowKit Go.Extern.Stop Go.Stop Go.Extern Go.Cx
set_option linter.unusedVariables false
set_option maxRecDepth 1000000 in
theorem wayR_w (W : World) (a b : Int) (ha : 0 ≤ a ∧ a < 18446744073709551616) (hb : 0 ≤ b ∧ b < 18446744073709551616) : Calls Tryz.prog 31 #[.int .u64 a, .int .u64 b] W fun e w' => e = .returned (.int .i64 (wayV a b)) ∧ Below W.heap.size W w' := by
  cases e1 : decide (IntKind.wrap .u64 (b - a) < 9223372036854775808) with
  | true =>
    have h0 : wayV a b = wrap64 (IntKind.wrap .u64 (b - a)) := rfl
    have HE := Lib.hid h0
    clear ha hb h0
    go_enter Tryz.func31, Tryz.ntmps31
    go_wp2_with fail
    go_ret
    exact ⟨by rw [HE.out]; rfl, Below.refl _ _⟩
  | false =>
    have h0 : wayV a b = wrap64 (wrap64 (-wrap64 (IntKind.wrap .u64 (IntKind.wrap .u64 (a - b) - 1))) - 1) := by
      unfold wayV
      rw [decide_eq_false_iff_not] at e1
      rw [Go.Cx.w_u64] at e1
      rw [Go.Cx.w_u64, Go.Cx.w_u64, Go.Cx.w_u64]
      unfold wrap64
      omega
    have HE := Lib.hid h0
    clear ha hb h0
    go_enter Tryz.func31, Tryz.ntmps31
    go_wp2_with fail
    go_ret
    exact ⟨by rw [HE.out]; rfl, Below.refl _ _⟩
/-- Near, as the reference has it. -/
def nearV (a b : Int) : Bool := decide (IntKind.wrap .u64 (b - a) ≤ 8) || decide (IntKind.wrap .u64 (a - b) ≤ 8)
theorem near_is (a b : Int) : nearV a b = inW (wayV a b) := by
  unfold nearV inW wayV
  rw [Go.Cx.w_u64, Go.Cx.w_u64]
  unfold wrap64
  rw [Bool.eq_iff_iff]
  simp only [Bool.or_eq_true, Bool.not_eq_true', Bool.or_eq_false_iff, decide_eq_true_eq, decide_eq_false_iff_not]
  omega
set_option maxRecDepth 1000000 in
theorem nearR_w (W : World) (a b : Int) : Calls Tryz.prog 50 #[.int .u64 a, .int .u64 b] W fun e w' => e = .returned (.bool (inW (wayV a b))) ∧ Below W.heap.size W w' := by
  rw [← near_is]
  unfold nearV
  cases e1 : decide (IntKind.wrap .u64 (b - a) ≤ 8) with
  | true =>
    go_enter Tryz.func50, Tryz.ntmps50
    go_wp2_with fail
    go_ret
    exact ⟨rfl, Below.refl _ _⟩
  | false =>
    cases e2 : decide (IntKind.wrap .u64 (a - b) ≤ 8) with
    | true =>
      go_enter Tryz.func50, Tryz.ntmps50
      go_wp2_with fail
      go_ret
      exact ⟨rfl, Below.refl _ _⟩
    | false =>
      go_enter Tryz.func50, Tryz.ntmps50
      go_wp2_with fail
      go_ret
      exact ⟨rfl, Below.refl _ _⟩
theorem lessR_w (W : World) (a b : Int) (ha : I64 a) (hb : I64 b) : Calls Tryz.prog 32 #[.int .i64 a, .int .i64 b] W fun e w' => e = .returned (.int .i64 (lessV a b)) ∧ Below W.heap.size W w' := by
  have h := (Go.Proofs.YtmnoegfehgoalaaGreatDoor.num.o7_flats _ _ _ (Go.Proofs.YtmnoegfehgoalaaGreatDoor.num.less27_told (a := a) (b := b) ha hb)).2.2 W
  have e : lessV a b = Go.Proofs.YtmnoegfehgoalaaGreatDoor.num.clip64 (Go.Proofs.YtmnoegfehgoalaaGreatDoor.num.clampW (a - b)) := by
    unfold lessV
    unfold I64 at ha hb
    have e1 : a / 9223372036854775808 = a / 18446744073709551616 := by omega
    have e2 : b / 9223372036854775808 = b / 18446744073709551616 := by omega
    rw [e1, e2, sub_val (by unfold InW; omega) (by unfold InW; omega), wv_hi, wv_lo, clip_val (clamp_in _)]
    rfl
  rw [e]
  exact h
end Go.Proofs.YtmnoegfehgoalaaGreatDoor.cx
namespace Go.Proofs.YtmnoegfehgoalaaGreatDoor.cx
open Go.RowKit Go.Extern.Stop Go.Stop Go.Extern Go.Cx
set_option linter.unusedVariables false
theorem wpList_eql {P : Program} {ops : Array Oper} {rest : List Oper} {a : Act} {w : World} {Q : Exit → Act → World → Prop} {ty t u : TypeId} {x y : Operand} {p : String} {e : Array Edge} {g : Option (Nat × Bool)} (d : Nat) (A B : List Value) {r : Bool} (hw : Region.wanted ⟨some d, .binOp .eql ty x y u, t, p, e, g⟩ (yielded ops a.tmps) = true)
    (hx : a.eval x = .agg A.toArray) (hy : a.eval y = .agg B.toArray) (hg : (eqGuard .eql ty x y (.agg A.toArray) (.agg B.toArray)).run P w = .ok () w) (hr : (Op.equal ty (.agg A.toArray) (.agg B.toArray)).run P w = .ok r w)
    (h : wpList P ops Q rest (a.put (some d) (.bool r)) w) : wpList P ops Q (⟨some d, .binOp .eql ty x y u, t, p, e, g⟩ :: rest) a w := by
  unfold wpList
  rw [if_pos hw]
  refine .inl ?_
  unfold Oper.wp execOp
  simp only [hx, hy, Sem.run_bind, hg, Result.andThen_ok, binOp, hr, Sem.run_pure, Oper.upon]
  exact h
theorem guard_addr' (A B : List Value) (x y : Operand) (w : World) : (eqGuard .eql 37 x y (.agg A.toArray) (.agg B.toArray)).run Tryz.prog w = .ok () w := by
  have h1 : Tryz.prog.eqGuardType Tryz.prog.depth 37 = false := by kernel_rfl
  unfold eqGuard
  simp only [Bool.not_true, Bool.false_eq_true, if_false, Sem.run_bind, run_program, Result.andThen_ok, h1, Bool.not_false, if_true, Sem.run_pure]
def Tc (W : World) (l s : List Value) (w : World) : Prop := w.cell? ⟨W.heap.size + 1, 37, none⟩ = some (.int .u64 (num s 37)) ∧ w.cell? ⟨W.heap.size + 1, 39, none⟩ = some (.int .u64 (num s 39)) ∧ w.cell? ⟨W.heap.size + 1, 41, none⟩ = some (.int .u64 (num s 41)) ∧ w.cell? ⟨W.heap.size, 36, none⟩ = some (.int .u64 (num l 36)) ∧ w.cell? ⟨W.heap.size, 37, none⟩ = some (.int .u64 (num l 37)) ∧ w.cell? ⟨W.heap.size, 38, none⟩ = some (.int .u64 (num l 38))
theorem Tc.up {W w w' : World} {l s : List Value} (h : Tc W l s w) (hb : Below w.heap.size w w') : Tc W l s w' := ⟨cell_up hb h.1, cell_up hb h.2.1, cell_up hb h.2.2.1, cell_up hb h.2.2.2.1, cell_up hb h.2.2.2.2.1, cell_up hb h.2.2.2.2.2⟩
set_option maxHeartbeats 4000000 in
set_option maxRecDepth 1000000 in
theorem tellsR_w (W : World) (l s : List Value) (hl : RowOk lineK l) (hs : RowOk sampK s) : Calls Tryz.prog 29 #[.agg l.toArray, .agg s.toArray] W fun e w' => e = .returned (.bool (tellsV l s)) ∧ Below W.heap.size W w' := by
  generalize hz : tellsV l s = z
  unfold tellsV at hz
  have HZ := Lib.hid hz
  clear hz
  have qA := addr_run (part l 2 17) (part s 18 17) (row_part 2 17 hl) (row_part 18 17 hs)
  have qB := addr_run (part l 19 17) (part s 0 17) (row_part 19 17 hl) (row_part 0 17 hs)
  have p1 : (part l 2 17).length = 17 := (row_part 2 17 hl).length
  have p2 : (part l 19 17).length = 17 := (row_part 19 17 hl).length
  have p3 : (part s 18 17).length = 17 := (row_part 18 17 hs).length
  have p4 : (part s 0 17).length = 17 := (row_part 0 17 hs).length
  have s0h := get_num (i := 36) (k := .i64) hs rfl
  have s0l := get_num (i := 37) (k := .u64) hs rfl
  have t0 := get_num (i := 36) (k := .u64) hl rfl
  have s1h := get_num (i := 38) (k := .i64) hs rfl
  have s1l := get_num (i := 39) (k := .u64) hs rfl
  have t1 := get_num (i := 37) (k := .u64) hl rfl
  have s2h := get_num (i := 40) (k := .i64) hs rfl
  have s2l := get_num (i := 41) (k := .u64) hs rfl
  have t2 := get_num (i := 38) (k := .u64) hl rfl
  have q0 := heap_alloc_new W (.cells l.toArray 52)
  have hb := (Below.refl W.heap.size W).alloc (Nat.le_refl _) (.cells l.toArray 52)
  have q1 := heap_alloc_new (W.alloc (.cells l.toArray 52)) (.cells s.toArray 47)
  have hb' := (Below.refl (W.alloc (.cells l.toArray 52)).heap.size (W.alloc (.cells l.toArray 52))).alloc (Nat.le_refl _) (.cells s.toArray 47)
  have q0 := keepB hb' q0
  have hb := hb.trans (hb'.mono hb.size)
  clear hb'
  rw [alloc_size] at q1
  have rg (b : Nat) (cs : List Value) (t : TypeId) (hq : ((W.alloc (.cells l.toArray 52)).alloc (.cells s.toArray 47)).heap[b]? = some (.cells cs.toArray t)) (i n : Nat) : ((W.alloc (.cells l.toArray 52)).alloc (.cells s.toArray 47)).rangeAt b i (part cs i n) := by
    have h0 : ((W.alloc (.cells l.toArray 52)).alloc (.cells s.toArray 47)).rangeAt b 0 cs := fun j v hj => by
      rw [Nat.zero_add]
      exact cell_of hq (by simpa using hj)
    have := range_part h0 i n
    rwa [Nat.zero_add] at this
  have uA := Tryz.underlying37
  have j1 : (Tryz.prog.info? 37).map (·.size) = some (part l 2 17).length := by rw [p1]; kernel_rfl
  have j2 : (Tryz.prog.info? 37).map (·.size) = some (part l 19 17).length := by rw [p2]; kernel_rfl
  have j3 : (Tryz.prog.info? 37).map (·.size) = some (part s 18 17).length := by rw [p3]; kernel_rfl
  have j4 : (Tryz.prog.info? 37).map (·.size) = some (part s 0 17).length := by rw [p4]; kernel_rfl
  have RG := Lib.hid (And.intro (And.intro (rg _ _ _ q0 2 17) (rg _ _ _ q0 19 17)) (And.intro (rg _ _ _ q1 18 17) (rg _ _ _ q1 0 17)))
  have J := Lib.hid (And.intro uA (And.intro (And.intro j1 j2) (And.intro j3 j4)))
  clear uA rg p1 p2 p3 p4 j1 j2 j3 j4
  have HS := Lib.hid hs
  have HL := Lib.hid hl
  clear hs hl
  have QA := Lib.hid qA
  have QB := Lib.hid qB
  clear qA qB
  have hT : Tc W l s ((W.alloc (.cells l.toArray 52)).alloc (.cells s.toArray 47)) := ⟨cell_of (i := 37) q1 (arr_get s0l.1), cell_of (i := 39) q1 (arr_get s1l.1), cell_of (i := 41) q1 (arr_get s2l.1), cell_of (i := 36) q0 (arr_get t0.1), cell_of (i := 37) q0 (arr_get t1.1), cell_of (i := 38) q0 (arr_get t2.1)⟩
  have HT := Lib.hid hT
  have k0 := hT.1
  have k1 := hT.2.1
  have k2 := hT.2.2.1
  have k3 := hT.2.2.2.1
  have k4 := hT.2.2.2.2.1
  have k5 := hT.2.2.2.2.2
  have hn0 := fun w => nearR_w w (num s 37) (num l 36)
  have hn1 := fun w => nearR_w w (num s 39) (num l 37)
  have hn2 := fun w => nearR_w w (num s 41) (num l 38)
  have HB := Lib.hid hb
  clear hb hT s0h s0l t0 s1h s1l t1 s2h s2l t2 q0 q1
  cases hA : addrEq (part l 2 17) (part s 18 17) with
  | false =>
    have QA := Lib.hid (show ∀ w : World, (Op.equal 37 (.agg (part l 2 17).toArray) (.agg (part s 18 17).toArray)).run Tryz.prog w = .ok false w from by rw [← hA]; exact QA.out)
    have hz : z = false := by rw [← HZ.out]; simp [hA]
    subst hz
    have HN0 := Lib.hid hn0
    have HN1 := Lib.hid hn1
    have HN2 := Lib.hid hn2
    clear hn0 hn1 hn2
    go_enter Tryz.func29, Tryz.ntmps29
    go_wp2_with (first
      | ((with_reducible refine wpList_ld 6 ?_ ?_ ?_ RG.out.1.1 J.out.1 J.out.2.1.1 ?_); rfl; rfl; rfl)
      | ((with_reducible refine wpList_ld 10 ?_ ?_ ?_ RG.out.2.1 J.out.1 J.out.2.2.1 ?_); rfl; rfl; rfl)
      | ((with_reducible refine wpList_eql 11 (part l 2 17) (part s 18 17) ?_ ?_ ?_ (guard_addr' _ _ _ _ _) (QA.out _) ?_); rfl; rfl; rfl))
    go_ret
    exact ⟨rfl, HB.out⟩
  | true =>
    have QA := Lib.hid (show ∀ w : World, (Op.equal 37 (.agg (part l 2 17).toArray) (.agg (part s 18 17).toArray)).run Tryz.prog w = .ok true w from by rw [← hA]; exact QA.out)
    cases hB : addrEq (part l 19 17) (part s 0 17) with
    | false =>
      have QB := Lib.hid (show ∀ w : World, (Op.equal 37 (.agg (part l 19 17).toArray) (.agg (part s 0 17).toArray)).run Tryz.prog w = .ok false w from by rw [← hB]; exact QB.out)
      have hz : z = false := by rw [← HZ.out]; simp [hA, hB]
      subst hz
      have HN0 := Lib.hid hn0
      have HN1 := Lib.hid hn1
      have HN2 := Lib.hid hn2
      clear hn0 hn1 hn2
      go_enter Tryz.func29, Tryz.ntmps29
      go_wp2_with (first
        | ((with_reducible refine wpList_ld 6 ?_ ?_ ?_ RG.out.1.1 J.out.1 J.out.2.1.1 ?_); rfl; rfl; rfl)
        | ((with_reducible refine wpList_ld 10 ?_ ?_ ?_ RG.out.2.1 J.out.1 J.out.2.2.1 ?_); rfl; rfl; rfl)
        | ((with_reducible refine wpList_eql 11 (part l 2 17) (part s 18 17) ?_ ?_ ?_ (guard_addr' _ _ _ _ _) (QA.out _) ?_); rfl; rfl; rfl)
        | ((with_reducible refine wpList_ld 14 ?_ ?_ ?_ RG.out.1.2 J.out.1 J.out.2.1.2 ?_); rfl; rfl; rfl)
        | ((with_reducible refine wpList_ld 18 ?_ ?_ ?_ RG.out.2.2 J.out.1 J.out.2.2.2 ?_); rfl; rfl; rfl)
        | ((with_reducible refine wpList_eql 19 (part l 19 17) (part s 0 17) ?_ ?_ ?_ (guard_addr' _ _ _ _ _) (QB.out _) ?_); rfl; rfl; rfl))
      go_ret
      exact ⟨rfl, HB.out⟩
    | true =>
      have QB := Lib.hid (show ∀ w : World, (Op.equal 37 (.agg (part l 19 17).toArray) (.agg (part s 0 17).toArray)).run Tryz.prog w = .ok true w from by rw [← hB]; exact QB.out)
      cases hn0' : inW (wayV (num s 37) (num l 36)) with
      | false =>
        have hz : z = false := by rw [← HZ.out]; simp [hA, hB, hn0']
        subst hz
        rw [hn0'] at hn0
        skip
        skip
        have HN0 := Lib.hid hn0
        have HN1 := Lib.hid hn1
        have HN2 := Lib.hid hn2
        clear hn0 hn1 hn2
        go_enter Tryz.func29, Tryz.ntmps29
        go_wp2_with (first
          | ((with_reducible refine wpList_ld 6 ?_ ?_ ?_ RG.out.1.1 J.out.1 J.out.2.1.1 ?_); rfl; rfl; rfl)
          | ((with_reducible refine wpList_ld 10 ?_ ?_ ?_ RG.out.2.1 J.out.1 J.out.2.2.1 ?_); rfl; rfl; rfl)
          | ((with_reducible refine wpList_eql 11 (part l 2 17) (part s 18 17) ?_ ?_ ?_ (guard_addr' _ _ _ _ _) (QA.out _) ?_); rfl; rfl; rfl)
          | ((with_reducible refine wpList_ld 14 ?_ ?_ ?_ RG.out.1.2 J.out.1 J.out.2.1.2 ?_); rfl; rfl; rfl)
          | ((with_reducible refine wpList_ld 18 ?_ ?_ ?_ RG.out.2.2 J.out.1 J.out.2.2.2 ?_); rfl; rfl; rfl)
          | ((with_reducible refine wpList_eql 19 (part l 19 17) (part s 0 17) ?_ ?_ ?_ (guard_addr' _ _ _ _ _) (QB.out _) ?_); rfl; rfl; rfl)
          | (go_at_call 50; (with_reducible refine (HN0.out _).mono ?_); rintro e w1 ⟨rfl, hb1⟩; have hT1 := HT.out.up hb1; have hB1 := bT HB.out hb1; have k0 := hT1.1; have k1 := hT1.2.1; have k2 := hT1.2.2.1; have k3 := hT1.2.2.2.1; have k4 := hT1.2.2.2.2.1; have k5 := hT1.2.2.2.2.2))
        go_ret
        exact ⟨rfl, hB1⟩
      | true =>
        cases hn1' : inW (wayV (num s 39) (num l 37)) with
        | false =>
          have hz : z = false := by rw [← HZ.out]; simp [hA, hB, hn0', hn1']
          subst hz
          rw [hn0'] at hn0
          rw [hn1'] at hn1
          skip
          have HN0 := Lib.hid hn0
          have HN1 := Lib.hid hn1
          have HN2 := Lib.hid hn2
          clear hn0 hn1 hn2
          go_enter Tryz.func29, Tryz.ntmps29
          go_wp2_with (first
            | ((with_reducible refine wpList_ld 6 ?_ ?_ ?_ RG.out.1.1 J.out.1 J.out.2.1.1 ?_); rfl; rfl; rfl)
            | ((with_reducible refine wpList_ld 10 ?_ ?_ ?_ RG.out.2.1 J.out.1 J.out.2.2.1 ?_); rfl; rfl; rfl)
            | ((with_reducible refine wpList_eql 11 (part l 2 17) (part s 18 17) ?_ ?_ ?_ (guard_addr' _ _ _ _ _) (QA.out _) ?_); rfl; rfl; rfl)
            | ((with_reducible refine wpList_ld 14 ?_ ?_ ?_ RG.out.1.2 J.out.1 J.out.2.1.2 ?_); rfl; rfl; rfl)
            | ((with_reducible refine wpList_ld 18 ?_ ?_ ?_ RG.out.2.2 J.out.1 J.out.2.2.2 ?_); rfl; rfl; rfl)
            | ((with_reducible refine wpList_eql 19 (part l 19 17) (part s 0 17) ?_ ?_ ?_ (guard_addr' _ _ _ _ _) (QB.out _) ?_); rfl; rfl; rfl)
            | (go_at_call 50; (with_reducible refine (HN0.out _).mono ?_); rintro e w1 ⟨rfl, hb1⟩; have hT1 := HT.out.up hb1; have hB1 := bT HB.out hb1; have k0 := hT1.1; have k1 := hT1.2.1; have k2 := hT1.2.2.1; have k3 := hT1.2.2.2.1; have k4 := hT1.2.2.2.2.1; have k5 := hT1.2.2.2.2.2)
            | (go_at_call 50; (with_reducible refine (HN1.out _).mono ?_); rintro e w2 ⟨rfl, hb2⟩; have hT2 := hT1.up hb2; have hB2 := bT hB1 hb2; have k0 := hT2.1; have k1 := hT2.2.1; have k2 := hT2.2.2.1; have k3 := hT2.2.2.2.1; have k4 := hT2.2.2.2.2.1; have k5 := hT2.2.2.2.2.2))
          go_ret
          exact ⟨rfl, hB2⟩
        | true =>
          cases hn2' : inW (wayV (num s 41) (num l 38)) with
          | false =>
            have hz : z = false := by rw [← HZ.out]; simp [hA, hB, hn0', hn1', hn2']
            subst hz
            rw [hn0'] at hn0
            rw [hn1'] at hn1
            rw [hn2'] at hn2
            have HN0 := Lib.hid hn0
            have HN1 := Lib.hid hn1
            have HN2 := Lib.hid hn2
            clear hn0 hn1 hn2
            go_enter Tryz.func29, Tryz.ntmps29
            go_wp2_with (first
              | ((with_reducible refine wpList_ld 6 ?_ ?_ ?_ RG.out.1.1 J.out.1 J.out.2.1.1 ?_); rfl; rfl; rfl)
              | ((with_reducible refine wpList_ld 10 ?_ ?_ ?_ RG.out.2.1 J.out.1 J.out.2.2.1 ?_); rfl; rfl; rfl)
              | ((with_reducible refine wpList_eql 11 (part l 2 17) (part s 18 17) ?_ ?_ ?_ (guard_addr' _ _ _ _ _) (QA.out _) ?_); rfl; rfl; rfl)
              | ((with_reducible refine wpList_ld 14 ?_ ?_ ?_ RG.out.1.2 J.out.1 J.out.2.1.2 ?_); rfl; rfl; rfl)
              | ((with_reducible refine wpList_ld 18 ?_ ?_ ?_ RG.out.2.2 J.out.1 J.out.2.2.2 ?_); rfl; rfl; rfl)
              | ((with_reducible refine wpList_eql 19 (part l 19 17) (part s 0 17) ?_ ?_ ?_ (guard_addr' _ _ _ _ _) (QB.out _) ?_); rfl; rfl; rfl)
              | (go_at_call 50; (with_reducible refine (HN0.out _).mono ?_); rintro e w1 ⟨rfl, hb1⟩; have hT1 := HT.out.up hb1; have hB1 := bT HB.out hb1; have k0 := hT1.1; have k1 := hT1.2.1; have k2 := hT1.2.2.1; have k3 := hT1.2.2.2.1; have k4 := hT1.2.2.2.2.1; have k5 := hT1.2.2.2.2.2)
              | (go_at_call 50; (with_reducible refine (HN1.out _).mono ?_); rintro e w2 ⟨rfl, hb2⟩; have hT2 := hT1.up hb2; have hB2 := bT hB1 hb2; have k0 := hT2.1; have k1 := hT2.2.1; have k2 := hT2.2.2.1; have k3 := hT2.2.2.2.1; have k4 := hT2.2.2.2.2.1; have k5 := hT2.2.2.2.2.2)
              | (go_at_call 50; (with_reducible refine (HN2.out _).mono ?_); rintro e w3 ⟨rfl, hb3⟩; have hT3 := hT2.up hb3; have hB3 := bT hB2 hb3; have k0 := hT3.1; have k1 := hT3.2.1; have k2 := hT3.2.2.1; have k3 := hT3.2.2.2.1; have k4 := hT3.2.2.2.2.1; have k5 := hT3.2.2.2.2.2))
            go_ret
            exact ⟨rfl, hB3⟩
          | true =>
            have hz : z = true := by rw [← HZ.out]; simp [hA, hB, hn0', hn1', hn2']
            subst hz
            rw [hn0'] at hn0
            rw [hn1'] at hn1
            rw [hn2'] at hn2
            have HN0 := Lib.hid hn0
            have HN1 := Lib.hid hn1
            have HN2 := Lib.hid hn2
            clear hn0 hn1 hn2
            go_enter Tryz.func29, Tryz.ntmps29
            go_wp2_with (first
              | ((with_reducible refine wpList_ld 6 ?_ ?_ ?_ RG.out.1.1 J.out.1 J.out.2.1.1 ?_); rfl; rfl; rfl)
              | ((with_reducible refine wpList_ld 10 ?_ ?_ ?_ RG.out.2.1 J.out.1 J.out.2.2.1 ?_); rfl; rfl; rfl)
              | ((with_reducible refine wpList_eql 11 (part l 2 17) (part s 18 17) ?_ ?_ ?_ (guard_addr' _ _ _ _ _) (QA.out _) ?_); rfl; rfl; rfl)
              | ((with_reducible refine wpList_ld 14 ?_ ?_ ?_ RG.out.1.2 J.out.1 J.out.2.1.2 ?_); rfl; rfl; rfl)
              | ((with_reducible refine wpList_ld 18 ?_ ?_ ?_ RG.out.2.2 J.out.1 J.out.2.2.2 ?_); rfl; rfl; rfl)
              | ((with_reducible refine wpList_eql 19 (part l 19 17) (part s 0 17) ?_ ?_ ?_ (guard_addr' _ _ _ _ _) (QB.out _) ?_); rfl; rfl; rfl)
              | (go_at_call 50; (with_reducible refine (HN0.out _).mono ?_); rintro e w1 ⟨rfl, hb1⟩; have hT1 := HT.out.up hb1; have hB1 := bT HB.out hb1; have k0 := hT1.1; have k1 := hT1.2.1; have k2 := hT1.2.2.1; have k3 := hT1.2.2.2.1; have k4 := hT1.2.2.2.2.1; have k5 := hT1.2.2.2.2.2)
              | (go_at_call 50; (with_reducible refine (HN1.out _).mono ?_); rintro e w2 ⟨rfl, hb2⟩; have hT2 := hT1.up hb2; have hB2 := bT hB1 hb2; have k0 := hT2.1; have k1 := hT2.2.1; have k2 := hT2.2.2.1; have k3 := hT2.2.2.2.1; have k4 := hT2.2.2.2.2.1; have k5 := hT2.2.2.2.2.2)
              | (go_at_call 50; (with_reducible refine (HN2.out _).mono ?_); rintro e w3 ⟨rfl, hb3⟩; have hT3 := hT2.up hb3; have hB3 := bT hB2 hb3; have k0 := hT3.1; have k1 := hT3.2.1; have k2 := hT3.2.2.1; have k3 := hT3.2.2.2.1; have k4 := hT3.2.2.2.2.1; have k5 := hT3.2.2.2.2.2))
            go_ret
            exact ⟨rfl, hB3⟩
end Go.Proofs.YtmnoegfehgoalaaGreatDoor.cx
namespace Go.Proofs.YtmnoegfehgoalaaGreatDoor.cx
open Go.RowKit Go.Extern.Stop Go.Stop Go.Extern Go.Cx
set_option linter.unusedVariables false
theorem clipV_in (h l : Int) : I64 (clipV h l) := by
  unfold clipV
  split
  · exact wrap64_in l
  · split <;> (unfold I64; omega)
set_option maxRecDepth 1000000 in
theorem fa_w1 (w : World) (b o : Nat) : (Instr.fieldAt 45 (.pointer (some ⟨b, o, none⟩)) 1).run Tryz.prog w = .ok (.pointer (some ⟨b, o + 1, none⟩)) w := by
  go_simp
set_option maxRecDepth 1000000 in
theorem fa_l3' (w : World) (b o : Nat) : (Instr.fieldAt 52 (.pointer (some ⟨b, o, none⟩)) 3).run Tryz.prog w = .ok (.pointer (some ⟨b, o + 36, none⟩)) w := by
  go_simp
set_option maxRecDepth 1000000 in
theorem ix_t3' (w : World) (b o : Nat) : (Instr.indexAt 48 (.pointer (some ⟨b, o, none⟩)) (.int .i64 3)).run Tryz.prog w = .ok (.pointer (some ⟨b, o + 3, none⟩)) w := by
  go_simp
/-- Where the loops stand. -/
def RS (W : World) (B n : Nat) (mv : Nat → Nat → List Value) (met : List (Nat × Nat)) (lost : List Nat) (tk : Nat → Bool) (bf : Nat → Nat) (w : World) (m lo : Value) : Prop :=
  w.ownsRow B 78 5 m met.length (metC mv met) ∧ w.ownsRow B 3 1 lo lost.length (ints lost) ∧ w.heap[W.heap.size]? = some (.cells (cntC n bf) 3) ∧ (∀ k, k < n → decide (0 < bf k) = tk k ∧ bf k ≤ 60) ∧ Below W.heap.size W w ∧ B ≤ w.heap.size
section
variable {W w w' w8 : World} {B n i k : Nat} {mv : Nat → Nat → List Value} {met : List (Nat × Nat)} {lost : List Nat} {tk : Nat → Bool} {bf : Nat → Nat} {m lo v' : Value}
theorem RS.up (h : RS W B n mv met lost tk bf w m lo) (hb : Below w.heap.size w w') : RS W B n mv met lost tk bf w' m lo :=
  ⟨own_up h.1 hb, own_up h.2.1 hb, keepB hb h.2.2.1, h.2.2.2.1, h.2.2.2.2.1.trans (hb.mono h.2.2.2.2.1.size), Nat.le_trans h.2.2.2.2.2 hb.size⟩
theorem RS.put (h : RS W B n mv met lost tk bf w m lo) (hB : W.heap.size < B) (hk : k < n) (hi : i < 60) : RS W B n mv met lost (fun x => tk x || x == k) (fun j => if j = k then i + 1 else bf j) (w.setCell ⟨W.heap.size, k, none⟩ (.int .i64 ((i + 1 : Nat) : Int))) m lo := by
  have hG : w.grownBy (w.setCell ⟨W.heap.size, k, none⟩ (.int .i64 ((i + 1 : Nat) : Int))) (some W.heap.size) := grown_set (grown_of (Below.refl _ _) _)
  obtain ⟨h1, h2, h3, h4, h5, h6⟩ := h
  refine ⟨h1.kept hG (own_far h1 hB), h2.kept hG (own_far h2 hB), ?_, fun j hj => ?_, below_grown h5 hG (Nat.le_refl _), Nat.le_trans h6 hG.size⟩
  · have : (w.setCell ⟨W.heap.size, k, none⟩ (.int .i64 ((i + 1 : Nat) : Int))).heap[W.heap.size]? = some (.cells ((cntC n bf).setIfInBounds k (.int .i64 ((i + 1 : Nat) : Int))) 3) := heap_setCell_same _ _ _ _ _ _ h3
    rw [this]
    congr 2
    unfold cntC
    apply Array.ext_getElem?
    intro j
    by_cases hj : j < n
    · by_cases hkj : k = j
      · subst hkj
        rw [Array.getElem?_setIfInBounds_self_of_lt (by simpa using hk)]
        simp [hj]
      · rw [Array.getElem?_setIfInBounds_ne hkj]
        have e : (if j = k then i + 1 else bf j) = bf j := if_neg fun h => hkj h.symm
        simp [hj, e]
    · rw [Array.getElem?_eq_none (by simp; omega), Array.getElem?_eq_none (by simp; omega)]
  · by_cases hjk : j = k
    · subst hjk
      simp
      omega
    · show decide (0 < if j = k then i + 1 else bf j) = (tk j || j == k) ∧ (if j = k then i + 1 else bf j) ≤ 60
      have e : (j == k) = false := by simpa using hjk
      rw [if_neg hjk, e, Bool.or_false]
      exact h4 j hj
theorem RS.addMet (h : RS W B n mv met lost tk bf w m lo) (hB : W.heap.size < B) {cs : List Value} (o1 : w8.ownsRow B 78 5 v' (met.length + 1) (metC mv met ++ cs)) (o2 : w.grownBy w8 m.ownBlock) (hcs : cs = .int .i64 (i : Nat) :: .int .i64 (k : Nat) :: mv i k) : RS W B n mv (met ++ [(i, k)]) lost tk bf w8 v' lo := by
  obtain ⟨h1, h2, h3, h4, h5, h6⟩ := h
  have hl : ∀ q, m.ownBlock = some q → B ≤ q := fun q e => (h1.lt q e).1
  refine ⟨?_, h2.kept o2 (own_ne h2 h1 (by decide)), (o2.block _ (lt_of_heap h3) (by intro e; have := hl _ e.symm; omega)).trans h3, h4, below_row h5 o2 (fun q e => by have := hl q e; omega), Nat.le_trans h6 o2.size⟩
  rw [List.length_append, metC_app, ← hcs]
  exact o1
theorem RS.addLost (h : RS W B n mv met lost tk bf w m lo) (hB : W.heap.size < B) (o1 : w8.ownsRow B 3 1 v' (lost.length + 1) (ints lost ++ [.int .i64 (i : Nat)])) (o2 : w.grownBy w8 lo.ownBlock) : RS W B n mv met (lost ++ [i]) tk bf w8 m v' := by
  obtain ⟨h1, h2, h3, h4, h5, h6⟩ := h
  have hl : ∀ q, lo.ownBlock = some q → B ≤ q := fun q e => (h2.lt q e).1
  refine ⟨h1.kept o2 (own_ne h1 h2 (by decide)), ?_, (o2.block _ (lt_of_heap h3) (by intro e; have := hl _ e.symm; omega)).trans h3, h4, below_row h5 o2 (fun q e => by have := hl q e; omega), Nat.le_trans h6 o2.size⟩
  rw [List.length_append, ints_app]
  exact o1
end
end Go.Proofs.YtmnoegfehgoalaaGreatDoor.cx
