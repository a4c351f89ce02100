/- The abstract run of calls is sound. -/
import Derived.Test.YtmnoegfehgoalaaGreatDoorDgRound
namespace Go.Dg
set_option linter.unusedVariables false
set_option linter.unusedSimpArgs false
section
variable {P : Program} {G N : Nat} {ok : List Bool} {call : Ev}
/-! ### calls -/
/-- One result, as the model reads it. -/
def resSem (tmps : Array Value) (r : ResultVar) : Sem Value :=
  match r with
  | .tmp t => pure (tmps.getD t undef)
  | .cell a t => do loadVar t (← asAddr (tmps.getD a undef))
theorem evResults_sound {M : Emb} {H : Heap} {w : World} {ts : List Value} {a : Act} (hr : HRel M N H w) (hts : TRel M ts a.tmps.toList) : ∀ (rs : List ResultVar) (l : List Value), evResults P ts H rs = some l →
    ∃ l', LRel M l l' ∧ (rs.mapM (resSem a.tmps)).run P w = .ok l' w := by
  have slot : ∀ t v, rd 0 ts (.tmp t) = some v → VRel M v (a.tmps.getD t undef) := fun t v hv => rd_sound (G := 0) (ts := ts) (a := a) (x := .tmp t) (fun g h => by omega) hts hv
  have step : ∀ (r : ResultVar) (rs : List ResultVar) (v' : Value) (l' : List Value), (resSem a.tmps r).run P w = .ok v' w → (rs.mapM (resSem a.tmps)).run P w = .ok l' w → ((r :: rs).mapM (resSem a.tmps)).run P w = .ok (v' :: l') w := by
    intro r rs v' l' h1 h2
    rw [List.mapM_cons]
    simp only [Sem.run_bind, h1, Result.andThen_ok, h2, Sem.run_pure]
  intro rs
  induction rs with
  | nil => intro l h; cases h; exact ⟨[], LRel.nil, rfl⟩
  | cons r rs ih =>
    intro l h
    cases r with
    | tmp t =>
      simp only [evResults] at h
      split at h
      · rename_i v l1 hv h1
        cases h
        obtain ⟨l', g1, g2⟩ := ih l1 h1
        exact ⟨_ :: l', LRel.cons (slot t v hv) g1, step _ _ _ _ rfl g2⟩
      · cases h
    | cell x t =>
      simp only [evResults] at h
      split at h
      rotate_left
      · cases h
      rename_i k off l1 hx h1
      obtain ⟨l', g1, g2⟩ := ih l1 h1
      have hs := slot x _ hx
      obtain ⟨b, o, sp, hM, ev⟩ := hs.ptr_inv
      split at h
      · rename_i hagg
        split at h
        · rename_i n hn
          rw [Option.map_eq_some_iff] at h
          obtain ⟨cs, hcs, rfl⟩ := h
          obtain ⟨cs', q1, q2, q3⟩ := read_run (P := P) hr hcs hM
          refine ⟨.agg cs'.toArray :: l', LRel.cons (.agg q1.toArray.1 q1.toArray.2) g1, step _ _ _ _ ?_ g2⟩
          simp only [resSem, Sem.run_bind, ev, asAddr, Sem.run_pure, Result.andThen_ok, loadVar, run_of_eval0 hagg, if_true, run_of_eval0 hn, q3]
        · cases h
      · rename_i hagg
        split at h
        · rename_i u hu
          cases h
          obtain ⟨cs', q1, q2, q3⟩ := hr.read hu hM
          obtain ⟨u', r', rfl, q4, q5⟩ := q1.cons_inv
          have hc := q3 0 u' rfl
          simp only [Nat.add_zero] at hc
          refine ⟨u' :: l', LRel.cons q4 g1, step _ _ _ _ ?_ g2⟩
          simp only [resSem, Sem.run_bind, ev, asAddr, Sem.run_pure, Result.andThen_ok, loadVar, run_of_eval0 hagg, Bool.false_eq_true, if_false, run_load, hc]
        · cases h
      · cases h
theorem resVal_rel {M : Emb} {l l' : List Value} (h : LRel M l l') : VRel M (resVal l) (if h : l'.toArray.size = 1 then l'.toArray[0] else .tuple l'.toArray) := by
  cases l with
  | nil => obtain rfl := h.nil_inv; exact .tuple rfl (fun i u u' h => by simp at h)
  | cons u r =>
    obtain ⟨u', r', rfl, h1, h2⟩ := h.cons_inv
    cases r with
    | nil => obtain rfl := h2.nil_inv; exact h1
    | cons u2 r2 =>
      obtain ⟨u2', r2', rfl, h3, h4⟩ := h2.cons_inv
      rw [dif_neg (by simp)]
      exact .tuple h.toArray.1 h.toArray.2
theorem evCall_ok (hm : P.follows .mixedOrders = true) (hok : BodiesOk P ok) {over : Ev} (hover : CallOk P G over) (hoverl : CallLog over) (sb : List Nat) (lf : Nat) : ∀ n, CallOk P G (evCall P G ok over sb lf n) ∧ YieldOk P G (evCall P G ok over sb lf n) ∧ CallLog (evCall P G ok over sb lf n) := by
  intro n
  induction n with
  | zero => exact ⟨fun f args H v H' log h => (by cases h), fun f args H v H' log h => (by cases h), fun f args H v H' log h => (by cases h)⟩
  | succ n ih =>
    obtain ⟨ihc, ihy, ihl⟩ := ih
    -- what both want
    have parts : ∀ f args H v H' log, evCall P G ok over sb lf (n + 1) f args H = some (v, H', log) → (Nat.ble Y f = true ∧ evRound P G ok (evCall P G ok over sb lf n) lf (f - Y) args H = some (v, H', log)) ∨ over f args H = some (v, H', log) ∨ ∃ fn c ex s l l2, P.funcs[f]? = some fn ∧ fn.body = some c ∧
        evCode P G ok (evCall P G ok over sb lf n) H.n (sb.getD f 0) lf c ⟨args ++ List.replicate (fn.ntmps - args.length) undef, H, []⟩ = some (ex, s) ∧ (ex = .normal ∨ ex = .ret) ∧ evResults P s.ts s.H fn.results.toList = some l ∧
        gcAt H.n l s.log s.H = (l2, H') ∧ v = resVal l2 ∧ log = s.log := by
      intro f args H v H' log h
      simp only [evCall] at h
      split at h
      · rename_i hb; exact .inl ⟨hb, h⟩
      right
      split at h
      · rename_i r hr; left; rw [hr]; exact h
      · right
        split at h
        · rename_i fn hfn
          split at h
          · rename_i c hc
            split at h
            · rename_i ex s hrun
              split at h
              · cases h
              · rename_i hne
                split at h
                · rename_i l hl
                  simp only [Option.some.injEq, Prod.mk.injEq] at h
                  obtain ⟨rfl, rfl, rfl⟩ := h
                  refine ⟨fn, c, ex, s, l, _, hfn, hc, hrun, ?_, hl, rfl, rfl, rfl⟩
                  cases ex with
                  | normal => exact .inl rfl
                  | ret => exact .inr rfl
                  | exit id => exact absurd rfl (hne id)
                · cases h
            · cases h
          · cases h
        · cases h
    refine ⟨?_, ?_, ?_⟩
    · intro f args H v H' log h hY N M w args' hg hr hargs
      rcases parts f args H v H' log h with ⟨hb, _⟩ | ho | ⟨fn, c, ex, s, l, l2, hfn, hc, hrun, hex, hl, hgc, rfl, rfl⟩
      · exact absurd hY (Nat.not_lt.2 (Nat.le_of_ble_eq_true hb))
      · exact hover f args H v H' log ho hY N M w args' hg hr hargs
      refine callsIn_wide (n := 0).1 (callsIn_of_wp_marks (F := FR none) hfn hc True.intro ?_)
      have hts : LRel M (args ++ List.replicate (fn.ntmps - args.length) undef) (args' ++ Array.replicate (fn.ntmps - args'.size) undef).toList := by
        have hsz : args.length = args'.size := by rw [hargs.1]; simp
        rw [Array.toList_append, Array.toList_replicate, ← hsz]
        exact hargs.append ⟨by simp, fun i u u' h1 h2 => by
          simp only [List.getElem?_replicate, Option.ite_none_right_eq_some, Option.some.injEq] at h1 h2
          obtain ⟨_, rfl⟩ := h1
          obtain ⟨_, rfl⟩ := h2
          exact vrel_undef⟩
      refine evCode_ok hr hg hm hok ihc ihy ihl (sb.getD f 0) lf c [] (.inl rfl) _ ex s hrun M { tmps := args' ++ Array.replicate (fn.ntmps - args'.size) undef, defers := [] } w _ (Stp.refl hr) (LogOk.same _ _) (TRel.of_l hts) True.intro ?_
      intro M1 a1 w1 hst0 hts1 hd1
      have hfin : LeavesInM (FR none) 0 P fn a1.tmps (fun e w' => ∃ M' v', e = .returned v' ∧ VRel M' (resVal l2) v' ∧ Stp N M H w M' H' w') a1.defers .returning w1 := by
        refine leaves_marks a1.defers w1 hst0 hd1 ?_
        intro wf hst
        obtain ⟨l', q1, q2⟩ := evResults_sound (P := P) hst.rel hts1 fn.results.toList l hl
        have hres : (results fn a1.tmps).run P wf = .ok (if h : l'.toArray.size = 1 then l'.toArray[0] else .tuple l'.toArray) wf := by
          have er : (fn.results.mapM (resSem a1.tmps)).run P wf = .ok l'.toArray wf := by
            rw [Array.mapM_eq_mapM_toList, Sem.run_map, q2]; rfl
          have e2 : results fn a1.tmps = (fn.results.mapM (resSem a1.tmps) >>= fun vs => pure (if h : vs.size = 1 then vs[0] else .tuple vs)) := by
            unfold results
            congr 1
          rw [e2, Sem.run_bind, er]
          rfl
        have hlog := evCode_log (P := P) (G := G) (ok := ok) ihl H (sb.getD f 0) lf c [] _ _ _ hrun (LogOk.same _ _)
        obtain ⟨M2, hs2, hl2, _⟩ := gc_sound hr hst hlog hgc
        have hv2 := resVal_rel (hl2 l' q1)
        exact ⟨_, hres, M2, _, rfl, hv2, hs2⟩
      rcases hex with rfl | rfl
      · exact hfin
      · exact hfin
    · intro k args H v H' log h N M w args' hg hr hl b o sp hM
      have : Nat.ble Y (Y + k) = true := Nat.ble_eq_true_of_le (Nat.le_add_right _ _)
      simp only [evCall, this] at h
      rw [show Y + k - Y = k from Nat.add_sub_cancel_left _ _] at h
      exact evRound_ok hm hok ihc ihy ihl lf h N M w args' hg hr hl b o sp hM
    · intro f args H v H' log h
      rcases parts f args H v H' log h with ⟨_, ho⟩ | ho | ⟨fn, c, ex, s, l, l2, hfn, hc, hrun, hex, hl, hgc, rfl, rfl⟩
      · exact evRound_log ihl lf ho
      · exact hoverl f args H v H' log ho
      · exact gc_log (evCode_log (P := P) (G := G) (ok := ok) ihl H (sb.getD f 0) lf c [] _ _ _ hrun (LogOk.same _ _)) hgc
theorem lt_Y {f : FuncId} (h : Nat.ble Y f = false) : f < Y := Nat.lt_of_not_ge fun h0 => by rw [Nat.ble_eq_true_of_le h0] at h; cases h
theorem noOver_ok : CallOk P G noOver ∧ CallLog noOver := ⟨fun f args H v H' log h => (by cases h), fun f args H v H' log h => (by cases h)⟩
end
end Go.Dg
