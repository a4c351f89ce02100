/- 'evShape' is sound: operation by operation. -/
import Derived.Test.YtmnoegfehgoalaaGreatDoorDgShapeS
namespace Go.Dg
set_option linter.unusedVariables false
set_option linter.unusedSimpArgs false
section
variable {P : Program} {G N : Nat} {M : Emb} {H : Heap} {w : World} {ts : List Value} {a : Act} {dst : Option Tmp} {type : TypeId} {pos : String} {after : Array Edge} {guard : Option (Nat × Bool)}
theorem PRel.of_list {M : Emb} {l : List (Nat × Value)} {ps : Array (Nat × Operand)} (h : PRel M l (ps.toList.map fun (i, x) => (i, a.eval x))) :
    PRel M l.toArray.toList (ps.map fun (i, x) => (i, a.eval x)).toList := by simpa using h
set_option maxHeartbeats 1000000 in
theorem evShape_sound (hg : Globs G M) (hr : HRel M N H w) (hts : TRel M ts a.tmps.toList) {o : Oper} {v : Value} (h : evShape P G ts o = some v) :
    OpPost P N M H w v H ((execOp a.eval o).run P w) := by
  obtain ⟨dst, op, type, pos, after, guard⟩ := o
  unfold evShape at h
  simp only at h
  split at h
  · -- move
    rename_i x
    exact .same hr (rd_sound hg hts h)
  · rename_i x
    exact .same hr (rd_sound hg hts h)
  · -- pick
    rename_i c x y
    split at h
    · rename_i t ht
      have hc := (rd_sound hg hts ht).bool_inv
      simp only [execOp, hc, asBool, Sem.run_bind, Sem.run_pure, Result.andThen_ok]
      cases t with
      | true => exact .same hr (rd_sound hg hts h)
      | false => exact .same hr (rd_sound hg hts h)
    · cases h
  · -- extract
    rename_i x i
    split at h
    · rename_i vs hvs
      obtain ⟨vs', e, hrel⟩ := (rd_sound hg hts hvs).tuple_inv
      obtain ⟨u', h1, h2⟩ := hrel.get h
      simp only [execOp, e, Instr.extract, h1, Sem.run_bind, Sem.run_pure, Result.andThen_ok]
      exact .same hr h2
    · cases h
  · -- nilCheck
    rename_i x
    split at h
    · rename_i k off hk
      cases h
      have hv := rd_sound hg hts hk
      obtain ⟨b, o, sp, hM, e⟩ := hv.ptr_inv
      rw [e] at hv
      simp only [execOp, e]
      exact .same hr hv
    · rename_i f x1 c1 hf
      cases h
      have hv := rd_sound hg hts hf
      obtain ⟨a', c', e, _, _⟩ := hv.func_inv
      rw [e] at hv
      simp only [execOp, e]
      exact .same hr hv
    · cases h
  · -- build
    rename_i t ps
    split at h
    · rename_i l z hl hz
      split at h
      · rename_i hf
        have hp := PRel.of_list (a := a) (rdParts_sound hg hts _ _ hl)
        obtain ⟨v', h1, h2⟩ := build_rel hp (fun z' hz' => by rw [hz] at hz'; cases hz'; exact hf) h
        simp only [execOp, Sem.run_bind, run_of_eval0 h1, Sem.run_pure, Result.andThen_ok]
        exact .same hr h2
      · cases h
    · cases h
  · -- makeInterface
    rename_i t x
    split at h
    · rename_i u d hu hd
      have hv := rd_sound hg hts hu
      have key : (Instr.makeInterface t (a.eval x)).run P w = .ok (.iface t (a.eval x)) w ∧ v = .iface t u := by
        cases d <;> simp at h <;> exact ⟨by simp [Instr.makeInterface, under_run hd], h.symm⟩
      obtain ⟨h1, rfl⟩ := key
      simp only [execOp, Sem.run_bind, h1, Sem.run_pure, Result.andThen_ok]
      exact .same hr (.iface hv)
    · cases h
  · -- makeFunc
    rename_i f first captured
    split at h
    · rename_i l c hl hc
      cases h
      have h1 := (rdAll_sound hg hts _ _ hl).toArray
      have h2 := (rdAll_sound hg hts _ _ hc).toArray
      have e1 : (first.toList.map a.eval).toArray = first.map a.eval := by apply Array.ext'; simp
      have e2 : (captured.toList.map a.eval).toArray = captured.map a.eval := by apply Array.ext'; simp
      rw [e1] at h1
      rw [e2] at h2
      simp only [execOp, Instr.makeFunc, Sem.run_bind, Sem.run_pure, Result.andThen_ok]
      exact .same hr (.func rfl h1.1 h1.2 h2.1 h2.2)
    · cases h
  · -- fieldAddr
    rename_i s x f
    split at h
    · rename_i fields k off hs hx
      split at h
      · rename_i fd hfd
        split at h
        · rename_i n hn
          split at h
          · cases h
          · rename_i hn0
            cases h
            obtain ⟨b, o, sp, hM, e⟩ := (rd_sound hg hts hx).ptr_inv
            simp only [execOp, e, Instr.fieldAt, Sem.run_bind, under_run hs, Result.andThen_ok, hfd, Instr.sureAddr, Sem.run_pure, fieldPlace, run_of_eval0 hn, hn0, if_false, add_none]
            exact .same hr (by have := VRel.ptr (M := M) (k := k) (off := off + fd.offset) hM; rwa [← Nat.add_assoc] at this)
        · cases h
      · cases h
    · cases h
  · -- field
    rename_i t x f
    split at h
    · rename_i cs hcs
      obtain ⟨cs', e, hrel⟩ := (rd_sound hg hts hcs).agg_inv
      unfold Instr.field at h
      obtain ⟨d, hd, h⟩ := eval0_bind_some h
      cases d with
      | struct fields =>
        simp only at h
        split at h
        · rename_i fd hfd
          have h' : eval0 P (part fd.type cs fd.offset) = some v := by
            simpa [asAgg, eval0_bind, eval0_pure] using h
          obtain ⟨v', h1, h2⟩ := part_rel hrel h'
          simp only [execOp, e, Instr.field, Sem.run_bind, run_of_eval0 hd, Result.andThen_ok, hfd, asAgg, Sem.run_pure, run_of_eval0 h1]
          exact .same hr h2
        · cases h
      | _ => cases h
    · cases h
  · -- indexAddr
    rename_i t x ix
    split at h
    · rename_i len elem k off kk i hu hx hix
      split at h
      · rename_i n hn
        split at h
        · rename_i hi0
          have hi : 0 ≤ i ∧ i < (len : Int) := ⟨hi0.1, by omega⟩
          cases h
          obtain ⟨b, o, sp, hM, e⟩ := (rd_sound hg hts hx).ptr_inv
          have e2 := (rd_sound hg hts hix).int_inv
          simp only [execOp, e, e2, Instr.indexAt, asIntOf, Sem.run_bind, Sem.run_pure, under_run hu, Result.andThen_ok, Instr.sureAddr, hi, and_self, if_true, run_of_eval0 hn, add_none]
          exact .same hr (by have := VRel.ptr (M := M) (k := k) (off := off + i.toNat * n) hM; rwa [← Nat.add_assoc] at this)
        · cases h
      · cases h
    · rename_i elem k off s len cap kk i hu hx hix
      split at h
      · rename_i n hn
        split at h
        · rename_i hi0
          have hi : 0 ≤ i ∧ i < (len : Int) := ⟨hi0.1, by omega⟩
          cases h
          obtain ⟨b, o, sp, hM, e, _⟩ := (rd_sound hg hts hx).slice_inv
          have e2 := (rd_sound hg hts hix).int_inv
          simp only [execOp, e, e2, Instr.indexAt, asIntOf, Sem.run_bind, Sem.run_pure, under_run hu, Result.andThen_ok, Instr.sureAddr, hi, and_self, if_true, run_of_eval0 hn, add_none]
          exact .same hr (by have := VRel.ptr (M := M) (k := k) (off := off + i.toNat * n) hM; rwa [← Nat.add_assoc] at this)
        · cases h
      · cases h
    · cases h
  · -- index
    rename_i t x ix
    split at h
    · rename_i len elem cs kk i hu hx hix
      split at h
      · rename_i n hn
        split at h
        · rename_i hi0
          have hi : 0 ≤ i ∧ i < (len : Int) := ⟨hi0.1, by omega⟩
          obtain ⟨cs', e, hrel⟩ := (rd_sound hg hts hx).agg_inv
          have e2 := (rd_sound hg hts hix).int_inv
          obtain ⟨v', h1, h2⟩ := part_rel hrel h
          simp only [execOp, e, e2, Instr.index, asIntOf, Sem.run_bind, Sem.run_pure, under_run hu, Result.andThen_ok, hi, and_self, if_true, run_of_eval0 hn, run_of_eval0 h1]
          exact .same hr h2
        · cases h
      · cases h
    · cases h
  · -- slice
    rename_i t x lo hi mx
    split at h
    · rename_i elem k off s len cap hu hx
      split at h
      · rename_i l hh m n hl hhh hm hn
        split at h
        · rename_i hc
          simp only [Bool.and_eq_true, decide_eq_true_eq] at hc
          obtain ⟨⟨⟨c1, c2⟩, c3'⟩, c4⟩ := hc
          have c3 : m ≤ cap := by
            cases mx with
            | none => simp only [rdInt, Option.some.injEq] at hm; omega
            | some q => simpa using c3'
          by_cases hE : mx.isSome = false ∧ s.isSome = true ∧ l = cap ∧ l ≠ 0
          · obtain ⟨q1, q2, q3, q4⟩ := hE
            have hv : v = .chan (some 0) := by
              simp only [q1, q2, Bool.false_eq_true, if_false, Bool.true_and] at h
              rw [if_pos (by simp [q3, q4]; omega)] at h
              cases h; rfl
            subst hv
            obtain ⟨r', h1, h2⟩ := slice_emp_run (M := M) (a := a) hu (rd_sound hg hts hx) hl hhh hm hn c1 c2 c3 c4 (by omega) hg hts w
            simp only [execOp, Sem.run_bind, h1, Sem.run_pure, Result.andThen_ok]
            exact .same hr h2
          have hflex : mx.isSome = false → s.isSome = true → l = cap → l = 0 := by
            intro q1 q2 q3
            rcases Nat.eq_zero_or_pos l with h0 | h0
            · exact h0
            · exact absurd ⟨q1, q2, q3, by omega⟩ hE
          obtain ⟨r', h1, h2⟩ := slice_slice_run (M := M) (a := a) true hu (rd_sound hg hts hx) hl hhh hm hn c1 c2 c3 c4 hflex hg hts w
          have e : v = .slice (some ⟨k, if m = l then off else off + l * n, if mx.isSome then none else s⟩) (hh - l) (m - l) := by
            cases hmx : mx.isSome with
            | true => simp only [hmx, if_true] at h; cases h; rfl
            | false =>
              simp only [hmx, Bool.false_eq_true, if_false] at h
              split at h
              · rename_i hq
                simp only [Bool.and_eq_true, decide_eq_true_eq, bne_iff_ne] at hq
                exact absurd ⟨hmx, hq.1.1, hq.1.2, hq.2⟩ hE
              · cases h; rfl
          rw [← e] at h2
          simp only [execOp, Sem.run_bind, h1, Sem.run_pure, Result.andThen_ok]
          exact .same hr h2
        · cases h
      · cases h
    · rename_i elem len cap hu hx
      split at h
      · rename_i l hh m n hl hhh hm hn
        split at h
        · rename_i hc
          simp only [Bool.and_eq_true, decide_eq_true_eq] at hc
          obtain ⟨⟨⟨c1, c2⟩, c3'⟩, c4⟩ := hc
          have c3 : m ≤ cap := by
            cases mx with
            | none => simp only [rdInt, Option.some.injEq] at hm; omega
            | some q => simpa using c3'
          cases h
          have e := (rd_sound hg hts hx).eq_of_flat rfl
          have h1 := slice_nil_run (a := a) hu hl hhh hm hn c1 c2 c3 c4 hg hts w
          simp only [execOp, e, Sem.run_bind, h1, Sem.run_pure, Result.andThen_ok]
          exact .same hr (.atom rfl)
        · cases h
      · cases h
    · rename_i len elem k off hu hx
      split at h
      · rename_i l hh m n hl hhh hm hn
        split at h
        · rename_i hc
          simp only [Bool.and_eq_true, decide_eq_true_eq] at hc
          obtain ⟨⟨⟨c1, c2⟩, c3⟩, c4⟩ := hc
          cases h
          obtain ⟨b, o, e, h1, h2⟩ := slice_arr_run (P := P) (a := a) (rd_sound hg hts hx) hl hhh hm hn c1 c2 c3 c4 hg hts w
          simp only [execOp, e, Instr.sliceAt, Sem.run_bind, under_run hu, Instr.sureAddr, h1, run_of_eval0 hn, Sem.run_pure, Result.andThen_ok, add_none]
          exact .same hr h2
        · cases h
      · cases h
    · rename_i arr k off hu hx
      split at h
      · rename_i len elem harr
        split at h
        · rename_i l hh m n hl hhh hm hn
          split at h
          · rename_i hc
            simp only [Bool.and_eq_true, decide_eq_true_eq] at hc
            obtain ⟨⟨⟨c1, c2⟩, c3⟩, c4⟩ := hc
            cases h
            obtain ⟨b, o, e, h1, h2⟩ := slice_arr_run (P := P) (a := a) (rd_sound hg hts hx) hl hhh hm hn c1 c2 c3 c4 hg hts w
            simp only [execOp, e, Instr.sliceAt, Instr.slice, Sem.run_bind, under_run hu, under_run harr, asAddr, h1, run_of_eval0 hn, Sem.run_pure, Result.andThen_ok, add_none]
            exact .same hr h2
          · cases h
        · cases h
      · cases h
    · cases h
  · -- eql
    rename_i t x y yt
    split at h
    · rename_i u v1 hu hv1
      split at h
      · rename_i r d hn hd
        split at h
        · rename_i hnt
          cases h
          have h1 := rd_sound hg hts hu
          have h2 := rd_sound hg hts hv1
          have hrun := nil_eq_run (P := P) hd hn hnt h1 h2 w
          have hguard : (eqGuard .eql t x y (a.eval x) (a.eval y)).run P w = .ok () w ∧ (binOp .eql t (a.eval x) (a.eval y)).run P w = .ok (.bool r) w := by
            revert hrun
            generalize a.eval x = u' at *
            generalize a.eval y = v' at *
            intro hrun
            unfold nilEq at hn
            split at hn <;> first | cases hn | skip
            all_goals (try cases hn)
            all_goals first
              | (obtain rfl := h1.eq_of_flat rfl)
              | (obtain rfl := h2.eq_of_flat rfl)
            all_goals first
              | (obtain ⟨b, o, sp, _, rfl⟩ := h2.ptr_inv)
              | (obtain ⟨b, o, sp, _, rfl⟩ := h1.ptr_inv)
              | (rename_i q _ _; obtain ⟨q1, q2, q3⟩ := q; obtain ⟨b, o, sp, _, rfl, _⟩ := h2.slice_inv)
              | (rename_i q _ _ _ _; obtain ⟨q1, q2, q3⟩ := q; obtain ⟨b, o, sp, _, rfl, _⟩ := h1.slice_inv)
              | (obtain ⟨q, rfl, _⟩ := h2.iface_inv)
              | (obtain ⟨q, rfl, _⟩ := h1.iface_inv)
              | (obtain ⟨q, rfl⟩ := h2.map_inv)
              | (obtain ⟨q, rfl⟩ := h1.map_inv)
            all_goals exact ⟨by simp [eqGuard], by simp only [binOp]; simp [hrun]⟩
          simp only [execOp, Sem.run_bind, hguard.1, hguard.2, Sem.run_pure, Result.andThen_ok]
          exact .same hr (.atom rfl)
        · cases h
      · cases h
    · cases h
  · -- neq
    rename_i t x y yt
    split at h
    · rename_i u v1 hu hv1
      split at h
      · rename_i r d hn hd
        split at h
        · rename_i hnt
          cases h
          have h1 := rd_sound hg hts hu
          have h2 := rd_sound hg hts hv1
          have hrun := nil_eq_run (P := P) hd hn hnt h1 h2 w
          have hguard : (eqGuard .neq t x y (a.eval x) (a.eval y)).run P w = .ok () w ∧ (binOp .neq t (a.eval x) (a.eval y)).run P w = .ok (.bool !r) w := by
            revert hrun
            generalize a.eval x = u' at *
            generalize a.eval y = v' at *
            intro hrun
            unfold nilEq at hn
            split at hn <;> first | cases hn | skip
            all_goals (try cases hn)
            all_goals first
              | (obtain rfl := h1.eq_of_flat rfl)
              | (obtain rfl := h2.eq_of_flat rfl)
            all_goals first
              | (obtain ⟨b, o, sp, _, rfl⟩ := h2.ptr_inv)
              | (obtain ⟨b, o, sp, _, rfl⟩ := h1.ptr_inv)
              | (rename_i q _ _; obtain ⟨q1, q2, q3⟩ := q; obtain ⟨b, o, sp, _, rfl, _⟩ := h2.slice_inv)
              | (rename_i q _ _ _ _; obtain ⟨q1, q2, q3⟩ := q; obtain ⟨b, o, sp, _, rfl, _⟩ := h1.slice_inv)
              | (obtain ⟨q, rfl, _⟩ := h2.iface_inv)
              | (obtain ⟨q, rfl, _⟩ := h1.iface_inv)
              | (obtain ⟨q, rfl⟩ := h2.map_inv)
              | (obtain ⟨q, rfl⟩ := h1.map_inv)
            all_goals exact ⟨by simp [eqGuard], by simp only [binOp]; simp [hrun]⟩
          simp only [execOp, Sem.run_bind, hguard.1, hguard.2, Sem.run_pure, Result.andThen_ok]
          exact .same hr (.atom rfl)
        · cases h
      · cases h
    · cases h
  · -- len
    rename_i args argTypes
    split at h
    · rename_i x elem hargs hu
      split at h
      · rename_i ad n cap hx
        cases h
        have hv := rd_sound hg hts hx
        obtain ⟨t0, ht0, hu0⟩ := Option.bind_eq_some_iff.1 hu
        have ea : args = #[x] := by apply Array.ext'; simpa using hargs
        have hs : ∃ ad' cap', a.eval x = .slice ad' n cap' := by
          cases ad with
          | none => exact ⟨_, _, hv.eq_of_flat rfl⟩
          | some q => obtain ⟨q1, q2, q3⟩ := q; obtain ⟨b, o, sp, _, e, _⟩ := hv.slice_inv; exact ⟨_, _, e⟩
        obtain ⟨ad', cap', e⟩ := hs
        simp [execOp, resolve, invoke, builtin, Builtin.len_, ea, e, ht0, under_run hu0]
        exact .same hr (.atom rfl)
      · rename_i n0 hx
        cases h
        have hv := rd_sound hg hts hx
        obtain ⟨t0, ht0, hu0⟩ := Option.bind_eq_some_iff.1 hu
        have ea : args = #[x] := by apply Array.ext'; simpa using hargs
        obtain ⟨_, ad', cap', e, _⟩ := hv.emp_inv
        simp [execOp, resolve, invoke, builtin, Builtin.len_, ea, e, ht0, under_run hu0]
        exact .same hr (.atom rfl)
      · cases h
    · rename_i x arr hargs hu
      split at h
      · rename_i n el y harr hx
        cases h
        obtain ⟨t0, ht0, hu0⟩ := Option.bind_eq_some_iff.1 hu
        have ea : args = #[x] := by apply Array.ext'; simpa using hargs
        simp [execOp, resolve, invoke, builtin, Builtin.len_, ea, ht0, under_run hu0, under_run harr]
        exact .same hr (.atom rfl)
      · cases h
    · cases h
  · -- cap
    rename_i args argTypes
    split at h
    · rename_i x elem hargs hu
      split at h
      · rename_i k off len n hx
        cases h
        have hv := rd_sound hg hts hx
        obtain ⟨t0, ht0, hu0⟩ := Option.bind_eq_some_iff.1 hu
        have ea : args = #[x] := by apply Array.ext'; simpa using hargs
        obtain ⟨b, o, sp, _, e, _⟩ := hv.slice_inv
        simp [execOp, resolve, invoke, builtin, Builtin.cap_, ea, e, ht0, under_run hu0]
        exact .same hr (.atom rfl)
      · cases h
    · cases h
  · cases h
end
end Go.Dg
