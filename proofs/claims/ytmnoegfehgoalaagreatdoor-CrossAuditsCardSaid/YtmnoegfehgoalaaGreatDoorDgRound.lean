/- Rounds of a range over a function, as the model runs them. -/
import Derived.Test.YtmnoegfehgoalaaGreatDoorDgRun
import Derived.RangeFuncNested
namespace Go.Dg
set_option linter.unusedVariables false
set_option linter.unusedSimpArgs false
section
variable {P : Program} {G N : Nat} {M : Emb} {H : Heap} {w : World}
theorem setL_rel {M : Emb} : ∀ (ps : List Tmp) (args args' ts ts' : List Value), LRel M args args' → TRel M ts ts' → TRel M (setL ps args ts) ((ps.zip args').foldl (fun t x => t.set x.1 x.2) ts') := by
  intro ps
  induction ps with
  | nil => intro args args' ts ts' _ ht; exact ht
  | cons p r ih =>
    intro args args' ts ts' ha ht
    cases args with
    | nil =>
      obtain rfl := ha.nil_inv
      exact ht
    | cons u l =>
      obtain ⟨u', l', rfl, h1, h2⟩ := ha.cons_inv
      exact ih l l' _ _ h2 (ht.set h1 p)
theorem fold_arr : ∀ (ps : List Tmp) (args : List Value) (t : Array Value), ((ps.zip args).foldl (fun t (x : Tmp × Value) => t.setIfInBounds x.1 x.2) t).toList = (ps.zip args).foldl (fun t x => t.set x.1 x.2) t.toList := by
  intro ps
  induction ps with
  | nil => intro args t; rfl
  | cons p r ih =>
    intro args t
    cases args with
    | nil => rfl
    | cons u l => simp only [List.zip_cons_cons, List.foldl_cons, ih, Array.toList_setIfInBounds]
theorem zip_fold (ps : Array Tmp) (args t : Array Value) : ((ps.zip args).foldl (fun tmps (x : Tmp × Value) => tmps.setIfInBounds x.1 x.2) t).toList = (ps.toList.zip args.toList).foldl (fun t x => t.set x.1 x.2) t.toList := by
  rw [← fold_arr, ← Array.foldl_toList, Array.toList_zip]
theorem evRound_ok {ok : List Bool} {call : Ev} (hm : P.follows .mixedOrders = true) (hok : BodiesOk P ok) (hcall : CallOk P G call) (hy : YieldOk P G call) (hclog : CallLog call) (lf : Nat) {k : Nat} {args : List Value} {H : Heap} {v : Value} {H' : Heap} {log : List Nat}
    (h : evRound P G ok call lf k args H = some (v, H', log)) (N : Nat) (M : Emb) (w : World) (args' : Array Value) (hg : Globs G M) (hr : HRel M N H w) (hl : LRel M args args'.toList) (b o sp : Nat) (hM : M k = some (b, o, sp)) :
    ∃ fn tmps assign body, (Instr.yield b args').run P w = .ok (.round b fn tmps assign body) w ∧
      RoundIn Fence.wide 0 P b fn tmps assign body w fun e w' => ∃ M' v', e = .returned v' ∧ VRel M' v v' ∧ Stp N M H w M' H' w' := by
  unfold evRound at h
  split at h
  rotate_left
  · cases h
  rename_i r hk
  split at h
  rotate_left
  · cases h
  rename_i hst
  split at h
  rotate_left
  · cases h
  rename_i hsz
  simp only [Bool.and_eq_true] at hsz
  have hsz' := Nat.eq_of_beq_eq_true hsz.1
  split at h
  rotate_left
  · cases h
  rename_i s1 hrun1
  split at h
  rotate_left
  · cases h
  rename_i r1 hk1
  split at h
  rotate_left
  · cases h
  rename_i hst1
  split at h
  rotate_left
  · cases h
  rename_i e s2 hrun2
  split at h
  rotate_left
  · cases h
  rename_i r2 hk2
  split at h
  rotate_left
  · cases h
  rename_i hst2
  simp only [Option.some.injEq, Prod.mk.injEq] at h
  obtain ⟨rfl, rfl, rfl⟩ := h
  obtain ⟨fn, tmps, D, q1, q2, q3, q4⟩ := loop_at hr hk hM
  refine ⟨fn, _, r.assign, r.body, run_yield q1 (by show args'.size = r.params.size; rw [← hsz', hl.1]; simp), ?_⟩
  refine roundIn_of_wpIn (F := Fence.wide) (n := 0) True.intro ?_
  show r.assign.wpIn (FR (some b)) 0 P _ _ w
  refine evCode_ok (rd := some b) hr hg hm hok hcall hy hclog r.sb lf r.assign [] (.inr hsz.2.1) _ .normal s1 hrun1 M _ w _ (Stp.refl hr) (LogOk.same _ _) ?_ True.intro ?_
  · show TRel M (setL r.params.toList args r.ts) _
    rw [zip_fold]
    exact setL_rel _ _ _ _ _ hl q2
  intro M1 a1 w1 hs1 hts1 hmk1
  obtain ⟨fn1, tmps1, D1, p1, p2, p3, p4⟩ := loop_at hs1.rel hk1 (hs1.le _ _ hM)
  refine ⟨_, run_beginRound p1 hst1, ?_⟩
  have turn := loop_turn hs1.rel hk1 (hs1.le _ _ hM) p1 p2 p3 p4 .busy r1.pending
  have hl1 := evCode_log (P := P) (G := G) (ok := ok) hclog H r.sb lf r.assign [] _ _ _ hrun1 (LogOk.same _ _)
  show r.body.wpIn (FR (some b)) 0 P _ _ _
  refine evCode_ok (rd := some b) hr hg hm hok hcall hy hclog r.sb lf r.body [] (.inr hsz.2.2) _ e s2 hrun2 M1 a1 _ _ (hs1.trans turn) (hl1.add (LogOk.set _ _ _)) hts1 (MOk.step hs1.rel turn _ hmk1) ?_
  intro M2 a2 w2 hs2 hts2 _
  have hl2 := evCode_log (P := P) (G := G) (ok := ok) hclog H r.sb lf r.body [] _ _ _ hrun2 (hl1.add (LogOk.set _ _ _))
  obtain ⟨fn2, tmps2, D2, t1, t2, t3, t4⟩ := loop_at hs2.rel hk2 (hs2.le _ _ hM)
  have fin : ∀ jump : Option Code, jumpOf e = jump → ∃ v w', (Instr.endRound b jump).run P w2 = .ok v w' ∧ ∃ M' v', Ending.returned v = .returned v' ∧ VRel M' (.bool (jumpOf e).isNone) v' ∧
      Stp N M H w M' (gcAt H.n [] (addLog H.n [k] s2.log) (s2.H.set k (.loop { r2 with state := if (jumpOf e).isNone then .ready else .done, pending := jumpOf e }))).2 w' := by
    rintro jump rfl
    have turn2 := loop_turn hs2.rel hk2 (hs2.le _ _ hM) t1 t2 t3 t4 (if (jumpOf e).isNone then .ready else .done) (jumpOf e)
    have hkl : LogOk H (s2.H.set k (.loop { r2 with state := if (jumpOf e).isNone then .ready else .done, pending := jumpOf e })) (addLog H.n [k] s2.log) := hl2.add (LogOk.set _ _ _)
    obtain ⟨M3, hs3, _, _⟩ := gc_sound (vals := []) hr (hs2.trans turn2) hkl rfl
    exact ⟨_, _, run_endRound _ t1, M3, _, rfl, vrel_of_flat _ _ rfl, hs3⟩
  cases e with
  | normal => exact fin none rfl
  | ret => exact fin (some .ret) rfl
  | exit id => exact fin (some (.exit id)) rfl
theorem evRound_log {ok : List Bool} {call : Ev} (hclog : CallLog call) (lf : Nat) {k : Nat} {args : List Value} {H : Heap} {v : Value} {H' : Heap} {log : List Nat}
    (h : evRound P G ok call lf k args H = some (v, H', log)) : LogOk H H' log := by
  unfold evRound at h
  split at h
  rotate_left
  · cases h
  rename_i r hk
  split at h
  rotate_left
  · cases h
  split at h
  rotate_left
  · cases h
  split at h
  rotate_left
  · cases h
  rename_i s1 hrun1
  split at h
  rotate_left
  · cases h
  rename_i r1 hk1
  split at h
  rotate_left
  · cases h
  split at h
  rotate_left
  · cases h
  rename_i e s2 hrun2
  split at h
  rotate_left
  · cases h
  rename_i r2 hk2
  split at h
  rotate_left
  · cases h
  simp only [Option.some.injEq, Prod.mk.injEq] at h
  obtain ⟨rfl, rfl, rfl⟩ := h
  have hl1 := evCode_log (P := P) (G := G) (ok := ok) hclog H r.sb lf r.assign [] _ _ _ hrun1 (LogOk.same _ _)
  have hl2 := evCode_log (P := P) (G := G) (ok := ok) hclog H r.sb lf r.body [] _ _ _ hrun2 (hl1.add (LogOk.set _ _ _))
  have hkl : LogOk H (s2.H.set k (.loop { r2 with state := if (jumpOf e).isNone then .ready else .done, pending := jumpOf e })) (addLog H.n [k] s2.log) := hl2.add (LogOk.set _ _ _)
  exact gc_log (vals := []) hkl rfl
end
end Go.Dg
