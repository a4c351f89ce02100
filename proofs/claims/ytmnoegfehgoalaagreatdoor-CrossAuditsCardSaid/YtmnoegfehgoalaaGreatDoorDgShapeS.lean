/- 'evShape' is sound. -/
import Derived.Test.YtmnoegfehgoalaaGreatDoorDgShape
namespace Go.Dg
set_option linter.unusedVariables false
set_option linter.unusedSimpArgs false
theorem under_run {P : Program} {t : TypeId} {d : TypeDesc} (h : P.underlying t = some d) (w : World) : (underlying t).run P w = .ok d w := by
  simp [underlying, h]
theorem sliceBound_run {P : Program} {i : Int} {y : Nat} {k : IntKind} (c : BoundsCode) (h : 0 ≤ i ∧ i ≤ y) (w : World) : (Instr.sliceBound (.int k i) y c).run P w = .ok i.toNat w := by
  simp [Instr.sliceBound, asIntOf, h.1, h.2]
theorem rdInt_sound {G : Nat} {M : Emb} {ts : List Value} {a : Act} (hg : Globs G M) (hts : TRel M ts a.tmps.toList) {x : Option Operand} {d n : Nat} (h : rdInt G ts x d = some n) :
    (x = none ∧ n = d) ∨ ∃ y k, x = some y ∧ a.eval y = .int k n := by
  cases x with
  | none => simp [rdInt] at h; exact .inl ⟨rfl, h.symm⟩
  | some y =>
    simp only [rdInt] at h
    split at h
    · rename_i k i hrd
      split at h
      · rename_i hi
        cases h
        refine .inr ⟨y, k, rfl, ?_⟩
        rw [(rd_sound hg hts hrd).int_inv]
        congr 1; omega
      · cases h
    · cases h
theorem bounds_run {P : Program} {G : Nat} {M : Emb} {ts : List Value} {a : Act} (hg : Globs G M) (hts : TRel M ts a.tmps.toList) {lo hi mx : Option Operand} {len cap cap' l h m : Nat} (b : Bool)
    (hl : rdInt G ts lo 0 = some l) (hh : rdInt G ts hi len = some h) (hm : rdInt G ts mx cap = some m) (hc : cap ≤ cap') (c : l ≤ h) (c2 : h ≤ m) (c3 : m ≤ cap) (c4 : (hi.isSome || mx.isNone) = true) (w : World) :
    (Instr.sliceBounds b len cap' (lo.map a.eval) (hi.map a.eval) (mx.map a.eval)).run P w = .ok (l, h, if mx.isSome then m else cap') w := by
  rcases rdInt_sound hg hts hm with ⟨rfl, rfl⟩ | ⟨xm, km, rfl, em⟩
  · rcases rdInt_sound hg hts hh with ⟨rfl, rfl⟩ | ⟨xh, kh, rfl, eh⟩
    · rcases rdInt_sound hg hts hl with ⟨rfl, rfl⟩ | ⟨xl, kl, rfl, el⟩
      · simp [Instr.sliceBounds]
      · have : (0 : Int) ≤ (l : Int) ∧ (l : Int) ≤ (h : Int) := by omega
        simp [Instr.sliceBounds, el, sliceBound_run _ this]
    · have h1 : (0 : Int) ≤ (h : Int) ∧ (h : Int) ≤ (cap' : Int) := by omega
      rcases rdInt_sound hg hts hl with ⟨rfl, rfl⟩ | ⟨xl, kl, rfl, el⟩
      · simp [Instr.sliceBounds, eh, sliceBound_run _ h1]
      · have : (0 : Int) ≤ (l : Int) ∧ (l : Int) ≤ (h : Int) := by omega
        simp [Instr.sliceBounds, el, eh, sliceBound_run _ this, sliceBound_run _ h1]
  · rcases rdInt_sound hg hts hh with ⟨rfl, rfl⟩ | ⟨xh, kh, rfl, eh⟩
    · simp at c4
    · have h1 : (0 : Int) ≤ (h : Int) ∧ (h : Int) ≤ (m : Int) := by omega
      have h2 : (0 : Int) ≤ (m : Int) ∧ (m : Int) ≤ (cap' : Int) := by omega
      rcases rdInt_sound hg hts hl with ⟨rfl, rfl⟩ | ⟨xl, kl, rfl, el⟩
      · simp [Instr.sliceBounds, eh, em, sliceBound_run _ h1, sliceBound_run _ h2]
      · have : (0 : Int) ≤ (l : Int) ∧ (l : Int) ≤ (h : Int) := by omega
        simp [Instr.sliceBounds, el, eh, em, sliceBound_run _ this, sliceBound_run _ h1, sliceBound_run _ h2]
theorem add_none (b o n : Nat) : (⟨b, o, none⟩ : Addr).add n = ⟨b, o + n, none⟩ := by
  unfold Addr.add; split
  · rename_i h; subst h; rfl
  · rfl
section
variable {P : Program} {G N : Nat} {M : Emb} {H : Heap} {w : World} {ts : List Value} {a : Act} (hg : Globs G M) (hr : HRel M N H w) (hts : TRel M ts a.tmps.toList)
/-- A term over related operands that asks nothing of the world. -/
theorem OpPost.of_run {s : Sem Next} {v v' : Value} (hr : HRel M N H w) (hrun : s.run P w = .ok (.value v') w) (hv : VRel M v v') : OpPost P N M H w v H (s.run P w) := by
  rw [hrun]; exact .same hr hv
theorem nil_eq_run {u v u' v' : Value} {r : Bool} {t : TypeId} {d : TypeDesc} (hu : P.underlying t = some d) (hn : nilEq u v = some r) (hd : evShape.nilType d u = true) (h1 : VRel M u u') (h2 : VRel M v v') (w : World) :
    (Op.equal t u' v').run P w = .ok r w := by
  suffices hs : ∀ dd, (Op.equalIn (dd + 1) t u' v').run P w = .ok r w from hs 9999
  intro dd
  unfold nilEq at hn
  split at hn <;> first | cases hn | skip
  all_goals (try cases hn)
  · obtain rfl := h1.eq_of_flat rfl
    obtain ⟨b, o, sp, _, rfl⟩ := h2.ptr_inv
    cases d <;> simp [evShape.nilType] at hd
    simp [Op.equalIn, under_run hu]
  · obtain rfl := h2.eq_of_flat rfl
    obtain ⟨b, o, sp, _, rfl⟩ := h1.ptr_inv
    cases d <;> simp [evShape.nilType] at hd
    simp [Op.equalIn, under_run hu]
  · obtain rfl := h1.eq_of_flat rfl
    rename_i x _ _
    obtain ⟨k, off, s⟩ := x
    obtain ⟨b, o, sp, _, rfl, _⟩ := h2.slice_inv
    cases d <;> simp [evShape.nilType] at hd
    simp [Op.equalIn, under_run hu]
  · obtain rfl := h2.eq_of_flat rfl
    rename_i x _ _ _ _
    obtain ⟨k, off, s⟩ := x
    obtain ⟨b, o, sp, _, rfl, _⟩ := h1.slice_inv
    cases d <;> simp [evShape.nilType] at hd
    simp [Op.equalIn, under_run hu]
  · obtain rfl := h1.eq_of_flat rfl
    cases h2 with
    | atom h => cases h
    | map hm =>
      cases d <;> simp [evShape.nilType] at hd
      simp [Op.equalIn, under_run hu]
  · obtain rfl := h2.eq_of_flat rfl
    cases h1 with
    | atom h => cases h
    | map hm =>
      cases d <;> simp [evShape.nilType] at hd
      simp [Op.equalIn, under_run hu]
  · obtain rfl := h1.eq_of_flat rfl
    obtain ⟨x, rfl, _⟩ := h2.iface_inv
    cases d <;> simp [evShape.nilType] at hd
    simp [Op.equalIn, under_run hu]
  · obtain rfl := h2.eq_of_flat rfl
    obtain ⟨x, rfl, _⟩ := h1.iface_inv
    cases d <;> simp [evShape.nilType] at hd
    simp [Op.equalIn, under_run hu]
theorem run_of_eval0 {α : Type} {s : Sem α} {v : α} (h : eval0 P s = some v) (w : World) : s.run P w = .ok v w := eval0_run P s v h w
/-- A slice of a slice. -/
theorem slice_slice_run {t elem : TypeId} {k off len cap l h m n : Nat} {s : Option Nat} {lo hi mx : Option Operand} {v' : Value} (b1 : Bool)
    (hu : P.underlying t = some (.slice elem)) (hv : VRel M (.slice (some ⟨k, off, s⟩) len cap) v') (hl : rdInt G ts lo 0 = some l) (hh : rdInt G ts hi len = some h) (hm : rdInt G ts mx cap = some m)
    (hn : eval0 P (sizeOf elem) = some n) (c : l ≤ h) (c2 : h ≤ m) (c3 : m ≤ cap) (c4 : (hi.isSome || mx.isNone) = true) (hflex : mx.isSome = false → s.isSome = true → l = cap → l = 0) (hg : Globs G M) (hts : TRel M ts a.tmps.toList) (w : World) :
    ∃ r', (Instr.sliceAt t v' (lo.map a.eval) (hi.map a.eval) (mx.map a.eval)).run P w = .ok r' w ∧
      VRel M (.slice (some ⟨k, if m = l then off else off + l * n, if mx.isSome then none else s⟩) (h - l) (m - l)) r' := by
  obtain ⟨b, o, sp, hM, rfl, hs⟩ := hv.slice_inv
  have hcap : cap ≤ (if s.isSome then cap + sp else cap) := by split <;> omega
  have hb := bounds_run (P := P) (a := a) hg hts true hl hh hm hcap c c2 c3 c4 w
  refine ⟨.slice (if (if mx.isSome then m else if s.isSome then cap + sp else cap) = l then some ⟨b, o + off, none⟩ else (some ⟨b, o + off, none⟩ : Option Addr).map (·.add (l * n))) (h - l) ((if mx.isSome then m else if s.isSome then cap + sp else cap) - l), ?_, ?_⟩
  · simp only [Instr.sliceAt, Instr.slice, Sem.run_bind, under_run hu, Result.andThen_ok, hb, run_of_eval0 hn]
    rfl
  · simp only [Option.map_some, add_none]
    cases hmx : mx.isSome with
    | true =>
      simp only [if_true]
      split
      · exact .slx hM
      · have := VRel.slx (M := M) (k := k) (off := off + l * n) (len := h - l) (cap := m - l) hM
        rwa [Nat.add_assoc]
    | false =>
      have hmc : m = cap := by
        cases mx with
        | none => simp [rdInt] at hm; exact hm.symm
        | some x => cases hmx
      subst hmc
      simp only [Bool.false_eq_true, if_false]
      rcases hs with rfl | rfl
      · simp only [Option.isSome_none, Bool.false_eq_true, if_false]
        split
        · exact .slx hM
        · have := VRel.slx (M := M) (k := k) (off := off + l * n) (len := h - l) (cap := m - l) hM
          rwa [Nat.add_assoc]
      · have hfl := hflex hmx rfl
        simp only [Option.isSome_some, if_true]
        have e : m + sp - l = (m - l) + sp := by omega
        rw [e]
        by_cases hz : m = l
        · have hl0 := hfl hz.symm
          subst hz; subst hl0
          simp only [if_true]
          have := VRel.slf (M := M) (k := k) (off := off) (len := h - 0) (cap := 0 - 0) hM
          split <;> simpa using this
        · rw [if_neg hz]
          have h2 : ¬ (m + sp = l) := by omega
          rw [if_neg h2]
          have := VRel.slf (M := M) (k := k) (off := off + l * n) (len := h - l) (cap := m - l) hM
          rwa [Nat.add_assoc]
/-- What is cut off the end of a slice of unknown room. -/
theorem slice_emp_run {t elem : TypeId} {k off len cap l h m n : Nat} {s : Option Nat} {lo hi mx : Option Operand} {v' : Value}
    (hu : P.underlying t = some (.slice elem)) (hv : VRel M (.slice (some ⟨k, off, s⟩) len cap) v') (hl : rdInt G ts lo 0 = some l) (hh : rdInt G ts hi len = some h) (hm : rdInt G ts mx cap = some m)
    (hn : eval0 P (sizeOf elem) = some n) (c : l ≤ h) (c2 : h ≤ m) (c3 : m ≤ cap) (c4 : (hi.isSome || mx.isNone) = true) (hz : h = l) (hg : Globs G M) (hts : TRel M ts a.tmps.toList) (w : World) :
    ∃ r', (Instr.sliceAt t v' (lo.map a.eval) (hi.map a.eval) (mx.map a.eval)).run P w = .ok r' w ∧ VRel M (.chan (some 0)) r' := by
  obtain ⟨b, o, sp, hM, rfl, hs⟩ := hv.slice_inv
  have hcap : cap ≤ (if s.isSome then cap + sp else cap) := by split <;> omega
  have hb := bounds_run (P := P) (a := a) hg hts true hl hh hm hcap c c2 c3 c4 w
  refine ⟨.slice (if (if mx.isSome then m else if s.isSome then cap + sp else cap) = l then some ⟨b, o + off, none⟩ else (some ⟨b, o + off, none⟩ : Option Addr).map (·.add (l * n))) (h - l) ((if mx.isSome then m else if s.isSome then cap + sp else cap) - l), ?_, ?_⟩
  · simp only [Instr.sliceAt, Instr.slice, Sem.run_bind, under_run hu, Result.andThen_ok, hb, run_of_eval0 hn]
    rfl
  · have e : h - l = 0 := by omega
    rw [e]
    simp only [Option.map_some, add_none]
    have key : ∀ (p : Prop) [Decidable p] (c : Nat), VRel M (.chan (some 0)) (.slice (if p then some ⟨b, o + off, none⟩ else some ⟨b, o + off + l * n, none⟩) 0 c) := by
      intro p _ c
      split
      · exact VRel.emp (a := ⟨b, o + off, none⟩) rfl
      · exact VRel.emp (a := ⟨b, o + off + l * n, none⟩) rfl
    exact key _ _
theorem slice_nil_run {t elem : TypeId} {len cap l h m n : Nat} {lo hi mx : Option Operand}
    (hu : P.underlying t = some (.slice elem)) (hl : rdInt G ts lo 0 = some l) (hh : rdInt G ts hi len = some h) (hm : rdInt G ts mx cap = some m)
    (hn : eval0 P (sizeOf elem) = some n) (c : l ≤ h) (c2 : h ≤ m) (c3 : m ≤ cap) (c4 : (hi.isSome || mx.isNone) = true) (hg : Globs G M) (hts : TRel M ts a.tmps.toList) (w : World) :
    (Instr.sliceAt t (.slice none len cap) (lo.map a.eval) (hi.map a.eval) (mx.map a.eval)).run P w = .ok (.slice none (h - l) (m - l)) w := by
  have hb := bounds_run (P := P) (a := a) hg hts true hl hh hm (Nat.le_refl cap) c c2 c3 c4 w
  have hm' : (if mx.isSome then m else cap) = m := by
    cases mx with
    | none => simp [rdInt] at hm; simp [hm]
    | some x => rfl
  rw [hm'] at hb
  simp only [Instr.sliceAt, Instr.slice, Sem.run_bind, under_run hu, Result.andThen_ok, hb, run_of_eval0 hn]
  simp
theorem slice_arr_run {len elem : TypeId} {k off l h m n : Nat} {lo hi mx : Option Operand} {v' : Value}
    (hv : VRel M (.pointer (some ⟨k, off, none⟩)) v') (hl : rdInt G ts lo 0 = some l) (hh : rdInt G ts hi len = some h) (hm : rdInt G ts mx len = some m)
    (hn : eval0 P (sizeOf elem) = some n) (c : l ≤ h) (c2 : h ≤ m) (c3 : m ≤ len) (c4 : (hi.isSome || mx.isNone) = true) (hg : Globs G M) (hts : TRel M ts a.tmps.toList) (w : World) :
    ∃ b o, v' = .pointer (some ⟨b, o, none⟩) ∧ (Instr.sliceBounds false len len (lo.map a.eval) (hi.map a.eval) (mx.map a.eval)).run P w = .ok (l, h, m) w ∧
      VRel M (.slice (some ⟨k, if m = l then off else off + l * n, none⟩) (h - l) (m - l)) (.slice (some (if m = l then ⟨b, o, none⟩ else ⟨b, o + l * n, none⟩)) (h - l) (m - l)) := by
  obtain ⟨b, o, sp, hM, rfl⟩ := hv.ptr_inv
  have hb := bounds_run (P := P) (a := a) hg hts false hl hh hm (Nat.le_refl len) c c2 c3 c4 w
  have hm' : (if mx.isSome then m else len) = m := by
    cases mx with
    | none => simp [rdInt] at hm; simp [hm]
    | some x => rfl
  rw [hm'] at hb
  refine ⟨b, o + off, rfl, hb, ?_⟩
  split
  · exact .slx hM
  · have := VRel.slx (M := M) (k := k) (off := off + l * n) (len := h - l) (cap := m - l) hM
    rwa [← Nat.add_assoc] at this
end
end Go.Dg
