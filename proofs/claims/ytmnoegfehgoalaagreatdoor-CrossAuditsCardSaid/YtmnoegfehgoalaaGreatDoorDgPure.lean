/- Operations that leave memory alone. -/
import Derived.Test.YtmnoegfehgoalaaGreatDoorDgHeap
import Derived.Laws.Sem
namespace Go.Dg
set_option linter.unusedVariables false
/-- What a term comes to that asks nothing of the world. -/
def eval0 {α : Type} (P : Program) : Sem α → Option α
  | .pure a => some a
  | .program k => eval0 P (k P)
  | .mark _ k => eval0 P k
  | .choose q k => if q.forced then eval0 P (k 0) else none
  | _ => none
theorem eval0_run {α : Type} (P : Program) : ∀ (s : Sem α) (v : α), eval0 P s = some v → ∀ w, s.run P w = .ok v w := by
  intro s
  induction s with
  | pure a => intro v h w; simp [eval0] at h; subst h; rfl
  | program k ih => intro v h w; simp only [eval0] at h; simp only [Sem.run]; exact ih P v h w
  | mark m k ih => intro v h w; simp only [eval0] at h; simp only [Sem.run]; exact ih v h w
  | choose q k ih =>
    intro v h w
    simp only [eval0] at h
    split at h
    · rename_i hq; simp only [Sem.run, hq, if_true]; exact ih 0 v h w
    · cases h
  | _ => intro v h; simp [eval0] at h
theorem eval0_bind {α β : Type} (P : Program) : ∀ (s : Sem α) (f : α → Sem β), eval0 P (s >>= f) = (eval0 P s).bind fun a => eval0 P (f a) := by
  intro s f
  show eval0 P (s.bind f) = _
  induction s with
  | pure a => rfl
  | program k ih => simp only [Sem.bind, eval0]; exact ih P
  | mark m k ih => simp only [Sem.bind, eval0]; exact ih
  | choose q k ih =>
    simp only [Sem.bind, eval0]
    split
    · exact ih 0
    · rfl
  | _ => rfl
theorem eval0_bind_some {α β : Type} {P : Program} {s : Sem α} {f : α → Sem β} {r : β} (h : eval0 P (s >>= f) = some r) : ∃ a, eval0 P s = some a ∧ eval0 P (f a) = some r := by
  rw [eval0_bind] at h
  cases hs : eval0 P s with
  | none => rw [hs] at h; cases h
  | some a => rw [hs] at h; exact ⟨a, rfl, h⟩
theorem eval0_bind_of {α β : Type} {P : Program} {s : Sem α} {f : α → Sem β} {a : α} (h : eval0 P s = some a) : eval0 P (s >>= f) = eval0 P (f a) := by
  rw [eval0_bind, h]; rfl
theorem eval0_pure {α : Type} {P : Program} (a : α) : eval0 P (Pure.pure a : Sem α) = some a := rfl
theorem TRel.get {M : Emb} {l l' : List Value} (h : TRel M l l') {i : Nat} {v : Value} (hv : l[i]? = some v) : ∃ v', l'[i]? = some v' ∧ (isJunk v = false → VRel M v v') := by
  have hi : i < l.length := by
    rcases Nat.lt_or_ge i l.length with h0 | h0
    · exact h0
    · rw [List.getElem?_eq_none h0] at hv; cases hv
  have hi' : i < l'.length := h.1 ▸ hi
  exact ⟨l'[i], by simp [hi'], h.2 i v _ hv (by simp [hi'])⟩
theorem TRel.set {M : Emb} {l l' : List Value} (h : TRel M l l') {v v' : Value} (hv : VRel M v v') (i : Nat) : TRel M (l.set i v) (l'.set i v') := by
  refine ⟨by simp [h.1], fun j u u' h1 h2 h3 => ?_⟩
  rw [List.getElem?_set] at h1 h2
  by_cases hij : i = j
  · subst hij
    simp only [if_true] at h1 h2
    split at h1
    · split at h2
      · cases h1; cases h2; exact hv
      · cases h2
    · cases h1
  · simp only [hij, if_false] at h1 h2; exact h.2 j u u' h1 h2 h3
/-- An operand read off the slots. G: how many package-level variables there are. -/
def rd (G : Nat) (ts : List Value) : Operand → Option Value
  | .tmp t => match ts.getD t undef with | .complex _ _ _ => none | v => some v
  | .const v => if flat v then some v else none
  | .global g => if g < G then some (.pointer (some ⟨g, 0, none⟩)) else none
  | .func f => some (.func (.func f) #[] #[])
/-- The package-level variables lie where the model lays them. -/
def Globs (G : Nat) (M : Emb) : Prop := ∀ g, g < G → M g = some (g, 0, 0)
theorem Globs.mono {G : Nat} {M M' : Emb} (h : Globs G M) (hle : Emb.le M M') : Globs G M' := fun g hg => hle _ _ (h g hg)
theorem vrel_undef {M : Emb} : VRel M undef undef := .tuple rfl (fun i v v' h => by simp at h)
theorem rd_sound {G : Nat} {M : Emb} {ts : List Value} {a : Act} (hg : Globs G M) (h : TRel M ts a.tmps.toList) {x : Operand} {v : Value} (hv : rd G ts x = some v) : VRel M v (a.eval x) := by
  cases x with
  | tmp t =>
    have key : isJunk (ts.getD t undef) = false ∧ v = ts.getD t undef := by
      simp only [rd] at hv
      split at hv
      · cases hv
      · rename_i hne
        cases hv
        refine ⟨?_, rfl⟩
        cases hg : ts.getD t undef <;> first | rfl | (exact absurd hg (hne _ _ _))
    obtain ⟨hj, rfl⟩ := key
    simp only [Act.eval]
    cases hts : ts[t]? with
    | none =>
      have h1 : a.tmps[t]? = none := by
        have := h.1
        simp at hts this ⊢; omega
      simp [List.getD_eq_getElem?_getD, hts, h1]; exact vrel_undef
    | some u =>
      obtain ⟨u', h1, h2⟩ := h.get hts
      have h1' : a.tmps[t]? = some u' := by simpa using h1
      have h3 : isJunk u = false := by simpa [List.getD_eq_getElem?_getD, hts] using hj
      simp [List.getD_eq_getElem?_getD, hts, h1']; exact h2 h3
  | const c =>
    simp only [rd] at hv
    split at hv
    · rename_i hf; cases hv; exact vrel_of_flat M _ hf
    · cases hv
  | global g =>
    simp only [rd] at hv
    split at hv
    · rename_i hlt; cases hv
      exact .ptr (off := 0) (hg g hlt)
    · cases hv
  | func f =>
    simp only [rd, Option.some.injEq] at hv
    subst hv
    exact .func rfl rfl (fun i v v' h => by simp at h) rfl (fun i v v' h => by simp at h)
/-- The fence that lets all in, in a round's frame or in none. -/
def FR (rd : Option Nat) : Fence := { Fence.wide with round := rd }
/-- What an operation leaves: a value (or nothing, for which 'undef' is put), related; and a step. -/
def OpPost (P : Program) (N : Nat) (M : Emb) (H : Heap) (w : World) (v : Value) (H' : Heap) (r : Result Next) : Prop :=
  ∀ (rd : Option Nat) (next : Act → World → Prop) (Q : Exit → Act → World → Prop) (a : Act) (o : Oper),
    (∀ M' v' w', VRel M' v v' → Stp N M H w M' H' w' → next (a.put o.dst v') w') → o.uponIn (FR rd) 0 P a next Q r
theorem OpPost.value {P : Program} {N : Nat} {M M' : Emb} {H H' : Heap} {w w' : World} {v v' : Value} (hv : VRel M' v v') (hs : Stp N M H w M' H' w') : OpPost P N M H w v H' (.ok (.value v') w') :=
  fun rd next Q a o hn => hn M' v' w' hv hs
theorem OpPost.skip {P : Program} {N : Nat} {M M' : Emb} {H H' : Heap} {w w' : World} (hs : Stp N M H w M' H' w') : OpPost P N M H w undef H' (.ok .skip w') :=
  fun rd next Q a o hn => hn M' undef w' vrel_undef hs
theorem OpPost.same {P : Program} {N : Nat} {M : Emb} {H : Heap} {w : World} {v v' : Value} (h : HRel M N H w) (hv : VRel M v v') : OpPost P N M H w v H (.ok (.value v') w) := .value hv (Stp.refl h)
def noSelect : Op → Bool
  | .select _ _ => false
  | .defer _ => false
  | _ => true
end Go.Dg
