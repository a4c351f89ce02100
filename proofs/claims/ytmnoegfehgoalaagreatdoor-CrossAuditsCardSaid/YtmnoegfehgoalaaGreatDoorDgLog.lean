/- What an operation turned is what its log says. -/
import Derived.Test.YtmnoegfehgoalaaGreatDoorDgSound
namespace Go.Dg
set_option linter.unusedVariables false
set_option linter.unusedSimpArgs false
theorem LogOk.same (H : Heap) (log : List Nat) : LogOk H H log := fun h => ⟨h, Nat.le_refl _, fun _ _ _ => rfl⟩
theorem LogOk.push (H : Heap) (o : AObj) (log : List Nat) : LogOk H (H.push o) log := fun h => ⟨by simp [Heap.push, h], by simp [Heap.push], fun k hk _ => Heap.get_push_old H o k hk⟩
theorem LogOk.set (H : Heap) (k : Nat) (o : AObj) : LogOk H (H.set k o) [k] := fun h => ⟨by rw [Heap.len_set, Heap.n_set]; exact h, by rw [Heap.n_set]; exact Nat.le_refl _, fun j hj hn => Heap.get_set_ne H k j o (by simpa using hn)⟩
theorem LogOk.trans {H H1 H2 : Heap} {l1 l2 : List Nat} (h : LogOk H H1 l1) (k : LogOk H1 H2 l2) : LogOk H H2 (l2 ++ l1) := fun hl => by
  obtain ⟨a1, a2, a3⟩ := h hl
  obtain ⟨b1, b2, b3⟩ := k a1
  refine ⟨b1, Nat.le_trans a2 b2, fun j hj hn => ?_⟩
  simp only [List.mem_append, not_or] at hn
  rw [b3 j (Nat.lt_of_lt_of_le hj a2) hn.1, a3 j hj hn.2]
theorem LogOk.write {H H' : Heap} {k off : Nat} {vs : List Value} {fl : Bool} (h : H.write k off vs fl = some H') : LogOk H H' [k] := by
  unfold Heap.write at h
  split at h
  · split at h
    · cases h; exact LogOk.set H k _
    · cases h
  · cases h
theorem evAppend_log {P : Program} {H H' : Heap} {t tx : TypeId} {s x v : Value} {log : List Nat} (h : evAppend P H t tx s x = some (v, H', log)) : LogOk H H' log := by
  unfold evAppend at h
  split at h
  · cases h
  split at h
  · cases h
  split at h
  · cases h
  split at h
  rotate_left
  · cases h
  split at h
  · cases h
  split at h
  · split at h
    · cases h; exact LogOk.same _ _
    · split at h
      · cases h; exact LogOk.push _ _ _
      · cases h
  · simp only at h
    split at h
    · split at h
      · cases h; exact LogOk.same _ _
      · rw [Option.map_eq_some_iff] at h
        obtain ⟨H1, hw, he⟩ := h
        cases he
        exact LogOk.write hw
    · split at h
      · cases h
      · split at h
        · cases h
        · split at h
          · cases h
          · split at h
            · cases h; exact LogOk.push _ _ _
            · split at h
              · split at h
                · cases h
                  exact (LogOk.set H _ .dead).trans (LogOk.push _ _ [])
                · cases h
              · cases h
  · cases h
theorem evMem_log {P : Program} {G : Nat} {ts : List Value} {H H' : Heap} {o : Oper} {v : Value} {log : List Nat} (h : evMem P G ts H o = some (v, H', log)) : LogOk H H' log := by
  unfold evMem at h
  repeat' (split at h)
  all_goals first
    | (cases h; done)
    | (cases h; exact LogOk.same _ _)
    | (cases h; exact LogOk.push _ _ _)
    | (cases h; exact LogOk.set _ _ _)
    | (exact evAppend_log h)
    | (rw [Option.map_eq_some_iff] at h
       obtain ⟨H1, hw, he⟩ := h
       cases he
       first
         | exact LogOk.same _ _
         | exact LogOk.push _ _ _
         | exact LogOk.write hw)
theorem extRun_logOk {P : Program} {G : Nat} {name : String} {l : List Value} {H H' : Heap} {v : Value} {log : List Nat} (h : extRun P G name l H = some (v, H', log)) : LogOk H H' log := by
  rcases extRun_log h with ⟨rfl, rfl⟩ | ⟨o, rfl, rfl⟩ | ⟨k, off, vs, h1, rfl⟩
  · exact LogOk.same _ _
  · exact LogOk.push _ _ _
  · exact LogOk.write h1
theorem evExtOp_log {P : Program} {G : Nat} {ok : List Bool} {ts : List Value} {H H' : Heap} {o : Oper} {v : Value} {log : List Nat} (h : evExtOp P G ok ts H o = some (v, H', log)) : LogOk H H' log := by
  unfold evExtOp at h
  repeat' split at h
  all_goals first
    | (cases h; done)
    | exact extRun_logOk h
theorem evOp_log {P : Program} {G : Nat} {ok : List Bool} {call : Ev} (hc : CallLog call) {ts : List Value} {H H' : Heap} {o : Oper} {c : Nat} {v : Value} {log : List Nat} (h : evOp P G ok call ts H o = some (c, v, H', log)) : LogOk H H' log := by
  unfold evOp at h
  split at h
  · cases h; exact LogOk.same _ _
  · split at h
    · rename_i hm; cases h; exact evMem_log hm
    · split at h
      · rename_i hm; cases h; exact evExtOp_log hm
      · split at h
        · cases h; exact LogOk.same _ _
        · split at h
          · rename_i hm
            cases h
            unfold evCallOp at hm
            repeat' (split at hm)
            all_goals first
              | (cases hm; done)
              | exact restCall_log hc _ _ _ _ _ _ hm
          · split at h
            · rename_i hm
              cases h
              unfold evYieldOp at hm
              repeat' (split at hm)
              all_goals first
                | (cases hm; done)
                | exact hc _ _ _ _ _ _ hm
            · split at h
              · cases h; exact LogOk.same _ _
              · split at h
                · rename_i hm
                  cases h
                  rcases evUns_log hm with ⟨rfl, rfl⟩ | ⟨k, rfl, rfl⟩
                  · exact LogOk.same _ _
                  · exact LogOk.set _ _ _
                · cases h
/-- What only reads. -/
theorem reader_at {P : Program} {G : Nat} {ts : List Value} {H H' : Heap} {o : Oper} {v : Value} {log : List Nat} (h : evMem P G ts H o = some (v, H', log)) (hr : isReader P o.op = true) :
    H' = H ∧ log = [] ∧ ∀ H2 : Heap, (∀ k ∈ touchedBy G ts o.op, H2.get k = H.get k) → evMem P G ts H2 o = some (v, H2, []) := by
  obtain ⟨dst, op, type, pos, after, guard⟩ := o
  have hread : ∀ (H2 : Heap) (k off n : Nat), H2.get k = H.get k → H2.read k off n = H.read k off n := fun H2 k off n he => by unfold Heap.read; rw [he]
  unfold isReader at hr
  simp only at hr
  split at hr
  · -- load
    rename_i t x
    unfold evMem at h ⊢
    simp only at h ⊢
    split at h
    rotate_left
    · cases h
    rename_i k off hx
    simp only [touchedBy, hx, List.mem_singleton, forall_eq]
    split at h
    · rename_i hagg
      split at h
      · rename_i n hn
        rw [Option.map_eq_some_iff] at h
        obtain ⟨l, hl, he⟩ := h
        cases he
        refine ⟨rfl, rfl, fun H2 hk => ?_⟩
        simp only [hagg, hn, hread H2 k off n hk, hl, Option.map_some]
      · cases h
    · rename_i hagg
      split at h
      · rename_i u hu
        cases h
        refine ⟨rfl, rfl, fun H2 hk => ?_⟩
        simp only [hagg, hread H2 k off 1 hk, hu]
      · cases h
    · cases h
  · -- convert
    rename_i src dst' x
    split at hr
    · rename_i hd
      unfold evMem at h ⊢
      simp only [hd] at h ⊢
      split at h
      · rename_i e k off s len cap hsrc hdst hx
        split at h
        · rename_i he
          split at h
          · rename_i l hl
            rw [Option.map_eq_some_iff] at h
            obtain ⟨ns, hns, he1⟩ := h
            cases he1
            refine ⟨rfl, rfl, fun H2 hk => ?_⟩
            have hk' := hk k (by simp [touchedBy, hx])
            simp only [he, hread H2 k off len hk', hl, hns, Option.map_some]
          · cases h
        · cases h
      · rename_i e n0 hsrc hdst hx
        split at h
        · rename_i he
          cases h
          refine ⟨rfl, rfl, fun H2 hk => ?_⟩
          simp only [he]
        · cases h
      · rename_i hcontra _; cases hcontra
      · cases h
    · cases hr
  · cases hr
end Go.Dg
