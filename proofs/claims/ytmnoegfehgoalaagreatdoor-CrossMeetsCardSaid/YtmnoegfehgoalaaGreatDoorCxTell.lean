/- Whether a line tells a sample: cross.tells. -/
import Derived.Test.YtmnoegfehgoalaaGreatDoorCxE
namespace Go.Proofs.YtmnoegfehgoalaaGreatDoor.cx
open Go.RowKit Go.Extern.Stop Go.Stop Go.Extern Go.Cx
set_option linter.unusedVariables false

theorem wpList_ld {P : Program} {ops : Array Oper} {rest : List Oper} {a : Act} {w : World} {Q : Exit → Act → World → Prop} {ty t : TypeId} {x : Operand} {p : String} {e : Array Edge} {g : Option (Nat × Bool)} (d : Nat)
    {b o : Nat} {cs : List Value} {td : TypeDesc} (hw : Region.wanted ⟨some d, .load ty x, t, p, e, g⟩ (yielded ops a.tmps) = true) (hx : a.eval x = .pointer (some ⟨b, o, none⟩)) (hd : td.isRow = true) (hc : w.rangeAt b o cs)
    (hu : P.underlying ty = some td) (hi : (P.info? ty).map (·.size) = some cs.length)
    (h : wpList P ops Q rest (a.put (some d) (.agg cs.toArray)) w) : wpList P ops Q (⟨some d, .load ty x, t, p, e, g⟩ :: rest) a w := by
  unfold wpList
  rw [if_pos hw]
  exact .inl (wp_load_mid ty x rfl b o hx cs td hc hu hd hi h)
theorem wpList_neq {P : Program} {ops : Array Oper} {rest : List Oper} {a : Act} {w : World} {Q : Exit → Act → World → Prop} {ty t u : TypeId} {x y : Operand} {p : String} {e : Array Edge} {g : Option (Nat × Bool)} (d : Nat) (A B : List Value) {r : Bool} (hw : Region.wanted ⟨some d, .binOp .neq ty x y u, t, p, e, g⟩ (yielded ops a.tmps) = true)
    (hx : a.eval x = .agg A.toArray) (hy : a.eval y = .agg B.toArray) (hg : (eqGuard .neq ty x y (.agg A.toArray) (.agg B.toArray)).run P w = .ok () w) (hr : (Op.equal ty (.agg A.toArray) (.agg B.toArray)).run P w = .ok r w)
    (h : wpList P ops Q rest (a.put (some d) (.bool (!r))) w) : wpList P ops Q (⟨some d, .binOp .neq ty x y u, t, p, e, g⟩ :: rest) a w := by
  unfold wpList
  rw [if_pos hw]
  refine .inl ?_
  unfold Oper.wp execOp
  simp only [hx, hy, Sem.run_bind, hg, Result.andThen_ok, binOp, hr, Sem.run_pure, Oper.upon]
  exact h
theorem bT {w w1 w2 : World} (h : Below w.heap.size w w1) (k : Below w1.heap.size w1 w2) : Below w.heap.size w w2 := h.trans (k.mono h.size)
theorem guard_addr (A B : List Value) (x y : Operand) (w : World) : (eqGuard .neq 37 x y (.agg A.toArray) (.agg B.toArray)).run Tryz.prog w = .ok () w := by
  have h1 : Tryz.prog.eqGuardType Tryz.prog.depth 37 = false := by kernel_rfl
  unfold eqGuard
  simp only [Bool.not_true, Bool.false_eq_true, if_false, Sem.run_bind, run_program, Result.andThen_ok, h1, Bool.not_false, if_true, Sem.run_pure]
set_option maxHeartbeats 4000000 in
set_option maxRecDepth 1000000 in
theorem tells_w (W : World) (l s : List Value) (hl : RowOk lineK l) (hs : RowOk sampK s) : Calls Tryz.prog 25 #[.agg l.toArray, .agg s.toArray] W fun e w' => e = .returned (.bool (tellsV l s)) ∧ Below W.heap.size W w' := by
  generalize hz : tellsV l s = z
  unfold tellsV at hz
  have HZ := Lib.hid hz
  clear hz
  have qA := addr_run (part l 2 17) (part s 18 17) (row_part 2 17 hl) (row_part 18 17 hs)
  have qB := addr_run (part l 19 17) (part s 0 17) (row_part 19 17 hl) (row_part 0 17 hs)
  have p1 : (part l 2 17).length = 17 := (row_part 2 17 hl).length
  have p2 : (part l 19 17).length = 17 := (row_part 19 17 hl).length
  have p3 : (part s 18 17).length = 17 := (row_part 18 17 hs).length
  have p4 : (part s 0 17).length = 17 := (row_part 0 17 hs).length
  have s0h := get_num (i := 36) (k := .i64) hs rfl
  have s0l := get_num (i := 37) (k := .u64) hs rfl
  have t0 := get_num (i := 36) (k := .u64) hl rfl
  have s1h := get_num (i := 38) (k := .i64) hs rfl
  have s1l := get_num (i := 39) (k := .u64) hs rfl
  have t1 := get_num (i := 37) (k := .u64) hl rfl
  have s2h := get_num (i := 40) (k := .i64) hs rfl
  have s2l := get_num (i := 41) (k := .u64) hs rfl
  have t2 := get_num (i := 38) (k := .u64) hl rfl
  have q0 := heap_alloc_new W (.cells l.toArray 52)
  have hb := (Below.refl W.heap.size W).alloc (Nat.le_refl _) (.cells l.toArray 52)
  have q1 := heap_alloc_new (W.alloc (.cells l.toArray 52)) (.cells s.toArray 47)
  have hb' := (Below.refl (W.alloc (.cells l.toArray 52)).heap.size (W.alloc (.cells l.toArray 52))).alloc (Nat.le_refl _) (.cells s.toArray 47)
  have q0 := keepB hb' q0
  have hb := hb.trans (hb'.mono hb.size)
  clear hb'
  rw [alloc_size] at q1
  have rg (b : Nat) (cs : List Value) (t : TypeId) (hq : ((W.alloc (.cells l.toArray 52)).alloc (.cells s.toArray 47)).heap[b]? = some (.cells cs.toArray t)) (i n : Nat) : ((W.alloc (.cells l.toArray 52)).alloc (.cells s.toArray 47)).rangeAt b i (part cs i n) := by
    have h0 : ((W.alloc (.cells l.toArray 52)).alloc (.cells s.toArray 47)).rangeAt b 0 cs := fun j v hj => by
      rw [Nat.zero_add]
      exact cell_of hq (by simpa using hj)
    have := range_part h0 i n
    rwa [Nat.zero_add] at this
  have uA := Tryz.underlying37
  have j1 : (Tryz.prog.info? 37).map (·.size) = some (part l 2 17).length := by rw [p1]; kernel_rfl
  have j2 : (Tryz.prog.info? 37).map (·.size) = some (part l 19 17).length := by rw [p2]; kernel_rfl
  have j3 : (Tryz.prog.info? 37).map (·.size) = some (part s 18 17).length := by rw [p3]; kernel_rfl
  have j4 : (Tryz.prog.info? 37).map (·.size) = some (part s 0 17).length := by rw [p4]; kernel_rfl
  have RG := Lib.hid (And.intro (And.intro (rg _ _ _ q0 2 17) (rg _ _ _ q0 19 17)) (And.intro (rg _ _ _ q1 18 17) (rg _ _ _ q1 0 17)))
  have J := Lib.hid (And.intro uA (And.intro (And.intro j1 j2) (And.intro j3 j4)))
  clear uA rg p1 p2 p3 p4 j1 j2 j3 j4
  have HS := Lib.hid hs
  have HL := Lib.hid hl
  clear hs hl
  have QA := Lib.hid qA
  have QB := Lib.hid qB
  clear qA qB
  cases hA : addrEq (part l 2 17) (part s 18 17) with
  | false =>
    have QA := Lib.hid (show ∀ w : World, (Op.equal 37 (.agg (part l 2 17).toArray) (.agg (part s 18 17).toArray)).run Tryz.prog w = .ok false w from by rw [← hA]; exact QA.out)
    have hz : z = false := by rw [← HZ.out]; simp [inW, hA]
    subst hz
    go_enter Tryz.func25, Tryz.ntmps25
    go_wp2_with (first
      | ((with_reducible refine wpList_ld 9 ?_ ?_ ?_ RG.out.1.1 J.out.1 J.out.2.1.1 ?_); rfl; rfl; rfl)
      | ((with_reducible refine wpList_ld 13 ?_ ?_ ?_ RG.out.2.1 J.out.1 J.out.2.2.1 ?_); rfl; rfl; rfl)
      | ((with_reducible refine wpList_neq 14 (part l 2 17) (part s 18 17) ?_ ?_ ?_ (guard_addr _ _ _ _ _) (QA.out _) ?_); rfl; rfl; rfl)
      | ((with_reducible refine wpList_ld 17 ?_ ?_ ?_ RG.out.1.2 J.out.1 J.out.2.1.2 ?_); rfl; rfl; rfl)
      | ((with_reducible refine wpList_ld 21 ?_ ?_ ?_ RG.out.2.2 J.out.1 J.out.2.2.2 ?_); rfl; rfl; rfl)
      | ((with_reducible refine wpList_neq 22 (part l 19 17) (part s 0 17) ?_ ?_ ?_ (guard_addr _ _ _ _ _) (QB.out _) ?_); rfl; rfl; rfl))
    go_ret
    exact ⟨rfl, hb⟩
  | true =>
    have QA := Lib.hid (show ∀ w : World, (Op.equal 37 (.agg (part l 2 17).toArray) (.agg (part s 18 17).toArray)).run Tryz.prog w = .ok true w from by rw [← hA]; exact QA.out)
    cases hB : addrEq (part l 19 17) (part s 0 17) with
    | false =>
      have QB := Lib.hid (show ∀ w : World, (Op.equal 37 (.agg (part l 19 17).toArray) (.agg (part s 0 17).toArray)).run Tryz.prog w = .ok false w from by rw [← hB]; exact QB.out)
      have hz : z = false := by rw [← HZ.out]; simp [inW, hA, hB]
      subst hz
      go_enter Tryz.func25, Tryz.ntmps25
      go_wp2_with (first
        | ((with_reducible refine wpList_ld 9 ?_ ?_ ?_ RG.out.1.1 J.out.1 J.out.2.1.1 ?_); rfl; rfl; rfl)
        | ((with_reducible refine wpList_ld 13 ?_ ?_ ?_ RG.out.2.1 J.out.1 J.out.2.2.1 ?_); rfl; rfl; rfl)
        | ((with_reducible refine wpList_neq 14 (part l 2 17) (part s 18 17) ?_ ?_ ?_ (guard_addr _ _ _ _ _) (QA.out _) ?_); rfl; rfl; rfl)
        | ((with_reducible refine wpList_ld 17 ?_ ?_ ?_ RG.out.1.2 J.out.1 J.out.2.1.2 ?_); rfl; rfl; rfl)
        | ((with_reducible refine wpList_ld 21 ?_ ?_ ?_ RG.out.2.2 J.out.1 J.out.2.2.2 ?_); rfl; rfl; rfl)
        | ((with_reducible refine wpList_neq 22 (part l 19 17) (part s 0 17) ?_ ?_ ?_ (guard_addr _ _ _ _ _) (QB.out _) ?_); rfl; rfl; rfl))
      go_ret
      exact ⟨rfl, hb⟩
    | true =>
      have QB := Lib.hid (show ∀ w : World, (Op.equal 37 (.agg (part l 19 17).toArray) (.agg (part s 0 17).toArray)).run Tryz.prog w = .ok true w from by rw [← hB]; exact QB.out)
      have a0 := cell_of (i := 36) q1 (arr_get s0h.1)
      have a1 := cell_of (i := 37) q1 (arr_get s0l.1)
      have a2 := cell_of (i := 38) q1 (arr_get s1h.1)
      have a3 := cell_of (i := 39) q1 (arr_get s1l.1)
      have a4 := cell_of (i := 40) q1 (arr_get s2h.1)
      have a5 := cell_of (i := 41) q1 (arr_get s2l.1)
      go_enter Tryz.func25, Tryz.ntmps25
      go_wp2_with (first
        | ((with_reducible refine wpList_ld 9 ?_ ?_ ?_ RG.out.1.1 J.out.1 J.out.2.1.1 ?_); rfl; rfl; rfl)
        | ((with_reducible refine wpList_ld 13 ?_ ?_ ?_ RG.out.2.1 J.out.1 J.out.2.2.1 ?_); rfl; rfl; rfl)
        | ((with_reducible refine wpList_neq 14 (part l 2 17) (part s 18 17) ?_ ?_ ?_ (guard_addr _ _ _ _ _) (QA.out _) ?_); rfl; rfl; rfl)
        | ((with_reducible refine wpList_ld 17 ?_ ?_ ?_ RG.out.1.2 J.out.1 J.out.2.1.2 ?_); rfl; rfl; rfl)
        | ((with_reducible refine wpList_ld 21 ?_ ?_ ?_ RG.out.2.2 J.out.1 J.out.2.2.2 ?_); rfl; rfl; rfl)
        | ((with_reducible refine wpList_neq 22 (part l 19 17) (part s 0 17) ?_ ?_ ?_ (guard_addr _ _ _ _ _) (QB.out _) ?_); rfl; rfl; rfl))
      have i0 : ∀ w : World, (Instr.index 111 (.agg #[.int .i64 (num s 36), .int .u64 (num s 37), .int .i64 (num s 38), .int .u64 (num s 39), .int .i64 (num s 40), .int .u64 (num s 41)]) (.int .i64 0)).run Tryz.prog w = .ok (wd (num s 36) (num s 37)) w := fun _ => by kernel_rfl
      have i1 : ∀ w : World, (Instr.index 111 (.agg #[.int .i64 (num s 36), .int .u64 (num s 37), .int .i64 (num s 38), .int .u64 (num s 39), .int .i64 (num s 40), .int .u64 (num s 41)]) (.int .i64 1)).run Tryz.prog w = .ok (wd (num s 38) (num s 39)) w := fun _ => by kernel_rfl
      have i2 : ∀ w : World, (Instr.index 111 (.agg #[.int .i64 (num s 36), .int .u64 (num s 37), .int .i64 (num s 38), .int .u64 (num s 39), .int .i64 (num s 40), .int .u64 (num s 41)]) (.int .i64 2)).run Tryz.prog w = .ok (wd (num s 40) (num s 41)) w := fun _ => by kernel_rfl
      clear RG J QA QB
      generalize (W.alloc (.cells l.toArray 52)).alloc (.cells s.toArray 47) = X at q0 hb ⊢
      refine wp_loop_rounds 4 ?_
      rw [rounds_succ]
      go_wp2_with fail
      have hA1 := (Below.refl X.heap.size X).alloc (Nat.le_refl _) (.cells #[.int .i64 (num s 36), .int .u64 (num s 37)] 45)
      have q0 := keepB hA1 q0
      have hb := hb.trans (hA1.mono hb.size)
      have y := two_cells X (.int .i64 (num s 36)) (.int .u64 (num s 37)) 45
      have c := cell_of (i := 36) q0 (arr_get t0.1)
      generalize X.alloc (.cells #[.int .i64 (num s 36), .int .u64 (num s 37)] 45) = Y0 at hA1 q0 hb y c ⊢
      have hK : ∀ w' : World, Below Y0.heap.size Y0 w' → (w'.cell? ⟨X.heap.size, 0, none⟩ = some (.int .i64 (num s 36)) ∧ w'.cell? ⟨X.heap.size, 1, none⟩ = some (.int .u64 (num s 37)) ∧ w'.cell? ⟨W.heap.size, 36, none⟩ = some (.int .u64 (num l 36)) ∧ Below Y0.heap.size Y0 w') := fun w' hb' => ⟨cell_up hb' y.1, cell_up hb' y.2, cell_up hb' c, hb'⟩
      have HK := Lib.hid hK
      clear hK hA1 y c
      cases hlo0 : decide (wayV (num s 37) (num l 36) < -8) with
      | true =>
        have hz : z = false := by rw [← HZ.out, hA, hB]; simp [inW, hlo0]
        subst hz
        go_region_held3 (fun w' => w'.cell? ⟨X.heap.size, 0, none⟩ = some (.int .i64 (num s 36)) ∧ w'.cell? ⟨X.heap.size, 1, none⟩ = some (.int .u64 (num s 37)) ∧ w'.cell? ⟨W.heap.size, 36, none⟩ = some (.int .u64 (num l 36)) ∧ Below Y0.heap.size Y0 w')
          (first
            | with_reducible assumption
            | exact HK.out _ ((Below.refl _ _).drew)
            | exact HK.out _ (bT (‹_ ∧ _ ∧ _ ∧ Below Y0.heap.size Y0 _›.2.2.2) (by assumption)))
          (first
            | (go_at_call 27; refine (way_w _ _ _ _).mono ?_; rintro e w1 ⟨rfl, hb1⟩))
        go_wp2_with fail
        go_ret
        exact ⟨rfl, hb.trans ((‹_ ∧ _ ∧ _ ∧ Below Y0.heap.size Y0 _›.2.2.2).mono hb.size)⟩
      | false =>
        cases hhi0 : decide (8 < wayV (num s 37) (num l 36)) with
        | true =>
          have hz : z = false := by rw [← HZ.out, hA, hB]; simp [inW, hlo0, hhi0]
          subst hz
          go_region_held3 (fun w' => w'.cell? ⟨X.heap.size, 0, none⟩ = some (.int .i64 (num s 36)) ∧ w'.cell? ⟨X.heap.size, 1, none⟩ = some (.int .u64 (num s 37)) ∧ w'.cell? ⟨W.heap.size, 36, none⟩ = some (.int .u64 (num l 36)) ∧ Below Y0.heap.size Y0 w')
            (first
              | with_reducible assumption
              | exact HK.out _ ((Below.refl _ _).drew)
              | exact HK.out _ (bT (‹_ ∧ _ ∧ _ ∧ Below Y0.heap.size Y0 _›.2.2.2) (by assumption)))
            (first
              | (go_at_call 27; refine (way_w _ _ _ _).mono ?_; rintro e w1 ⟨rfl, hb1⟩))
          go_wp2_with fail
          go_ret
          exact ⟨rfl, hb.trans ((‹_ ∧ _ ∧ _ ∧ Below Y0.heap.size Y0 _›.2.2.2).mono hb.size)⟩
        | false =>
          go_region_held3 (fun w' => w'.cell? ⟨X.heap.size, 0, none⟩ = some (.int .i64 (num s 36)) ∧ w'.cell? ⟨X.heap.size, 1, none⟩ = some (.int .u64 (num s 37)) ∧ w'.cell? ⟨W.heap.size, 36, none⟩ = some (.int .u64 (num l 36)) ∧ Below Y0.heap.size Y0 w')
            (first
              | with_reducible assumption
              | exact HK.out _ ((Below.refl _ _).drew)
              | exact HK.out _ (bT (‹_ ∧ _ ∧ _ ∧ Below Y0.heap.size Y0 _›.2.2.2) (by assumption)))
            (first
              | (go_at_call 27; refine (way_w _ _ _ _).mono ?_; rintro e w1 ⟨rfl, hb1⟩))
          go_wp2_with fail
          have hS := (‹_ ∧ _ ∧ _ ∧ Below Y0.heap.size Y0 _›.2.2.2)
          have q0 := keepB hS q0
          have hb := hb.trans (hS.mono hb.size)
          clear hS HK
          rw [rounds_succ]
          go_wp2_with fail
          have hA1 := (Below.refl w1.heap.size w1).alloc (Nat.le_refl _) (.cells #[.int .i64 (num s 38), .int .u64 (num s 39)] 45)
          have q0 := keepB hA1 q0
          have hb := hb.trans (hA1.mono hb.size)
          have y := two_cells w1 (.int .i64 (num s 38)) (.int .u64 (num s 39)) 45
          have c := cell_of (i := 37) q0 (arr_get t1.1)
          generalize w1.alloc (.cells #[.int .i64 (num s 38), .int .u64 (num s 39)] 45) = Y1 at hA1 q0 hb y c ⊢
          have hK : ∀ w' : World, Below Y1.heap.size Y1 w' → (w'.cell? ⟨w1.heap.size, 0, none⟩ = some (.int .i64 (num s 38)) ∧ w'.cell? ⟨w1.heap.size, 1, none⟩ = some (.int .u64 (num s 39)) ∧ w'.cell? ⟨W.heap.size, 37, none⟩ = some (.int .u64 (num l 37)) ∧ Below Y1.heap.size Y1 w') := fun w' hb' => ⟨cell_up hb' y.1, cell_up hb' y.2, cell_up hb' c, hb'⟩
          have HK := Lib.hid hK
          clear hK hA1 y c
          cases hlo1 : decide (wayV (num s 39) (num l 37) < -8) with
          | true =>
            have hz : z = false := by rw [← HZ.out, hA, hB]; simp [inW, hlo0, hhi0, hlo1]
            subst hz
            go_region_held3 (fun w' => w'.cell? ⟨w1.heap.size, 0, none⟩ = some (.int .i64 (num s 38)) ∧ w'.cell? ⟨w1.heap.size, 1, none⟩ = some (.int .u64 (num s 39)) ∧ w'.cell? ⟨W.heap.size, 37, none⟩ = some (.int .u64 (num l 37)) ∧ Below Y1.heap.size Y1 w')
              (first
                | with_reducible assumption
                | exact HK.out _ ((Below.refl _ _).drew)
                | exact HK.out _ (bT (‹_ ∧ _ ∧ _ ∧ Below Y1.heap.size Y1 _›.2.2.2) (by assumption)))
              (first
                | (go_at_call 27; refine (way_w _ _ _ _).mono ?_; rintro e w2 ⟨rfl, hb1⟩))
            go_wp2_with fail
            go_ret
            exact ⟨rfl, hb.trans ((‹_ ∧ _ ∧ _ ∧ Below Y1.heap.size Y1 _›.2.2.2).mono hb.size)⟩
          | false =>
            cases hhi1 : decide (8 < wayV (num s 39) (num l 37)) with
            | true =>
              have hz : z = false := by rw [← HZ.out, hA, hB]; simp [inW, hlo0, hhi0, hlo1, hhi1]
              subst hz
              go_region_held3 (fun w' => w'.cell? ⟨w1.heap.size, 0, none⟩ = some (.int .i64 (num s 38)) ∧ w'.cell? ⟨w1.heap.size, 1, none⟩ = some (.int .u64 (num s 39)) ∧ w'.cell? ⟨W.heap.size, 37, none⟩ = some (.int .u64 (num l 37)) ∧ Below Y1.heap.size Y1 w')
                (first
                  | with_reducible assumption
                  | exact HK.out _ ((Below.refl _ _).drew)
                  | exact HK.out _ (bT (‹_ ∧ _ ∧ _ ∧ Below Y1.heap.size Y1 _›.2.2.2) (by assumption)))
                (first
                  | (go_at_call 27; refine (way_w _ _ _ _).mono ?_; rintro e w2 ⟨rfl, hb1⟩))
              go_wp2_with fail
              go_ret
              exact ⟨rfl, hb.trans ((‹_ ∧ _ ∧ _ ∧ Below Y1.heap.size Y1 _›.2.2.2).mono hb.size)⟩
            | false =>
              go_region_held3 (fun w' => w'.cell? ⟨w1.heap.size, 0, none⟩ = some (.int .i64 (num s 38)) ∧ w'.cell? ⟨w1.heap.size, 1, none⟩ = some (.int .u64 (num s 39)) ∧ w'.cell? ⟨W.heap.size, 37, none⟩ = some (.int .u64 (num l 37)) ∧ Below Y1.heap.size Y1 w')
                (first
                  | with_reducible assumption
                  | exact HK.out _ ((Below.refl _ _).drew)
                  | exact HK.out _ (bT (‹_ ∧ _ ∧ _ ∧ Below Y1.heap.size Y1 _›.2.2.2) (by assumption)))
                (first
                  | (go_at_call 27; refine (way_w _ _ _ _).mono ?_; rintro e w2 ⟨rfl, hb1⟩))
              go_wp2_with fail
              have hS := (‹_ ∧ _ ∧ _ ∧ Below Y1.heap.size Y1 _›.2.2.2)
              have q0 := keepB hS q0
              have hb := hb.trans (hS.mono hb.size)
              clear hS HK
              rw [rounds_succ]
              go_wp2_with fail
              have hA1 := (Below.refl w2.heap.size w2).alloc (Nat.le_refl _) (.cells #[.int .i64 (num s 40), .int .u64 (num s 41)] 45)
              have q0 := keepB hA1 q0
              have hb := hb.trans (hA1.mono hb.size)
              have y := two_cells w2 (.int .i64 (num s 40)) (.int .u64 (num s 41)) 45
              have c := cell_of (i := 38) q0 (arr_get t2.1)
              generalize w2.alloc (.cells #[.int .i64 (num s 40), .int .u64 (num s 41)] 45) = Y2 at hA1 q0 hb y c ⊢
              have hK : ∀ w' : World, Below Y2.heap.size Y2 w' → (w'.cell? ⟨w2.heap.size, 0, none⟩ = some (.int .i64 (num s 40)) ∧ w'.cell? ⟨w2.heap.size, 1, none⟩ = some (.int .u64 (num s 41)) ∧ w'.cell? ⟨W.heap.size, 38, none⟩ = some (.int .u64 (num l 38)) ∧ Below Y2.heap.size Y2 w') := fun w' hb' => ⟨cell_up hb' y.1, cell_up hb' y.2, cell_up hb' c, hb'⟩
              have HK := Lib.hid hK
              clear hK hA1 y c
              cases hlo2 : decide (wayV (num s 41) (num l 38) < -8) with
              | true =>
                have hz : z = false := by rw [← HZ.out, hA, hB]; simp [inW, hlo0, hhi0, hlo1, hhi1, hlo2]
                subst hz
                go_region_held3 (fun w' => w'.cell? ⟨w2.heap.size, 0, none⟩ = some (.int .i64 (num s 40)) ∧ w'.cell? ⟨w2.heap.size, 1, none⟩ = some (.int .u64 (num s 41)) ∧ w'.cell? ⟨W.heap.size, 38, none⟩ = some (.int .u64 (num l 38)) ∧ Below Y2.heap.size Y2 w')
                  (first
                    | with_reducible assumption
                    | exact HK.out _ ((Below.refl _ _).drew)
                    | exact HK.out _ (bT (‹_ ∧ _ ∧ _ ∧ Below Y2.heap.size Y2 _›.2.2.2) (by assumption)))
                  (first
                    | (go_at_call 27; refine (way_w _ _ _ _).mono ?_; rintro e w3 ⟨rfl, hb1⟩))
                go_wp2_with fail
                go_ret
                exact ⟨rfl, hb.trans ((‹_ ∧ _ ∧ _ ∧ Below Y2.heap.size Y2 _›.2.2.2).mono hb.size)⟩
              | false =>
                cases hhi2 : decide (8 < wayV (num s 41) (num l 38)) with
                | true =>
                  have hz : z = false := by rw [← HZ.out, hA, hB]; simp [inW, hlo0, hhi0, hlo1, hhi1, hlo2, hhi2]
                  subst hz
                  go_region_held3 (fun w' => w'.cell? ⟨w2.heap.size, 0, none⟩ = some (.int .i64 (num s 40)) ∧ w'.cell? ⟨w2.heap.size, 1, none⟩ = some (.int .u64 (num s 41)) ∧ w'.cell? ⟨W.heap.size, 38, none⟩ = some (.int .u64 (num l 38)) ∧ Below Y2.heap.size Y2 w')
                    (first
                      | with_reducible assumption
                      | exact HK.out _ ((Below.refl _ _).drew)
                      | exact HK.out _ (bT (‹_ ∧ _ ∧ _ ∧ Below Y2.heap.size Y2 _›.2.2.2) (by assumption)))
                    (first
                      | (go_at_call 27; refine (way_w _ _ _ _).mono ?_; rintro e w3 ⟨rfl, hb1⟩))
                  go_wp2_with fail
                  go_ret
                  exact ⟨rfl, hb.trans ((‹_ ∧ _ ∧ _ ∧ Below Y2.heap.size Y2 _›.2.2.2).mono hb.size)⟩
                | false =>
                  have hz : z = true := by rw [← HZ.out, hA, hB]; simp [inW, hlo0, hhi0, hlo1, hhi1, hlo2, hhi2]
                  subst hz
                  go_region_held3 (fun w' => w'.cell? ⟨w2.heap.size, 0, none⟩ = some (.int .i64 (num s 40)) ∧ w'.cell? ⟨w2.heap.size, 1, none⟩ = some (.int .u64 (num s 41)) ∧ w'.cell? ⟨W.heap.size, 38, none⟩ = some (.int .u64 (num l 38)) ∧ Below Y2.heap.size Y2 w')
                    (first
                      | with_reducible assumption
                      | exact HK.out _ ((Below.refl _ _).drew)
                      | exact HK.out _ (bT (‹_ ∧ _ ∧ _ ∧ Below Y2.heap.size Y2 _›.2.2.2) (by assumption)))
                    (first
                      | (go_at_call 27; refine (way_w _ _ _ _).mono ?_; rintro e w3 ⟨rfl, hb1⟩))
                  go_wp2_with fail
                  rw [rounds_succ]
                  go_wp2_with fail
                  go_ret
                  exact ⟨rfl, hb.trans ((‹_ ∧ _ ∧ _ ∧ Below Y2.heap.size Y2 _›.2.2.2).mono hb.size)⟩
end Go.Proofs.YtmnoegfehgoalaaGreatDoor.cx
