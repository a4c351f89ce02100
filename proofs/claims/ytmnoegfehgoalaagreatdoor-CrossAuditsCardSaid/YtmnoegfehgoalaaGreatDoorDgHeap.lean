/- The abstract heap, how it lies in a world, and what one step may turn. -/
import Derived.Test.YtmnoegfehgoalaaGreatDoorDgVal
namespace Go.Dg
set_option linter.unusedVariables false
/-- The record of a range over a function: 'sb' is a hint (behind which slot there is scratch). -/
structure ALoop where
  sb : Nat
  ts : List Value
  params : Array Tmp
  assign : Code
  body : Code
  state : LoopState
  pending : Option Code
/-- An abstract object. md: 0 our own, of just this size; 1 our own, with spare room behind; 2 only read; 4 more: no value in it holds an address (that is known, whatever the values are). esz: cells an element (md 1). -/
inductive AObj where
  | dead
  | cells (cs : List Value) (elem : TypeId) (md esz : Nat)
  | iter (s : ByteArray) (pos : Nat)
  | loop (r : ALoop)
def AObj.live : AObj → Bool
  | .dead => false
  | _ => true
def AObj.owned : AObj → Bool
  | .dead => false
  | .cells _ _ md _ => md % 4 != 2
  | .iter _ _ => true
  | .loop _ => true
structure Heap where
  n : Nat
  objs : List AObj
def Heap.get (H : Heap) (k : Nat) : AObj := if k < H.n then H.objs.getD (H.n - 1 - k) .dead else .dead
def Heap.set (H : Heap) (k : Nat) (o : AObj) : Heap := if k < H.n then { H with objs := H.objs.set (H.n - 1 - k) o } else H
def Heap.push (H : Heap) (o : AObj) : Heap := { n := H.n + 1, objs := o :: H.objs }
theorem Heap.get_push_new (H : Heap) (o : AObj) : (H.push o).get H.n = o := by
  simp [Heap.get, Heap.push]
theorem Heap.get_push_old (H : Heap) (o : AObj) (k : Nat) (h : k < H.n) : (H.push o).get k = H.get k := by
  have e : H.n + 1 - 1 - k = (H.n - 1 - k) + 1 := by omega
  have h1 : k < H.n + 1 := by omega
  unfold Heap.get Heap.push
  simp only [h, h1, if_true, e, List.getD_cons_succ]
theorem Heap.get_out (H : Heap) (k : Nat) (h : H.n ≤ k) : H.get k = .dead := by simp [Heap.get, Nat.not_lt.2 h]
theorem Heap.lt_of_live {H : Heap} {k : Nat} (h : (H.get k).live = true) : k < H.n := by
  rcases Nat.lt_or_ge k H.n with h0 | h0
  · exact h0
  · rw [Heap.get_out H k h0] at h; cases h
theorem AObj.live_of_owned {o : AObj} (h : o.owned = true) : o.live = true := by cases o <;> simp_all [AObj.owned, AObj.live]
theorem Heap.get_set_same (H : Heap) (k : Nat) (o : AObj) (hl : H.objs.length = H.n) (h : k < H.n) : (H.set k o).get k = o := by
  simp only [Heap.get, Heap.set, if_pos h]
  simp only [List.getD_eq_getElem?_getD, List.getElem?_set]
  have : H.n - 1 - k < H.objs.length := by omega
  simp [this]
theorem Heap.get_set_ne (H : Heap) (k j : Nat) (o : AObj) (h : j ≠ k) : (H.set k o).get j = H.get j := by
  unfold Heap.set
  split
  · rename_i hk
    simp only [Heap.get]
    split
    · rename_i hj
      simp only [List.getD_eq_getElem?_getD, List.getElem?_set]
      rw [if_neg (by omega)]
    · rfl
  · rfl
theorem Heap.n_set (H : Heap) (k : Nat) (o : AObj) : (H.set k o).n = H.n := by unfold Heap.set; split <;> rfl
theorem Heap.len_set (H : Heap) (k : Nat) (o : AObj) : (H.set k o).objs.length = H.objs.length := by unfold Heap.set; split <;> simp
def ObjRel (M : Emb) (N : Nat) (w : World) : AObj → Nat → Nat → Nat → Prop
  | .dead, _, _, _ => True
  | .cells cs elem md esz, b, off, sp => ∃ C fz, w.heap[b]? = some (.cells C elem fz) ∧ off + cs.length + sp * esz ≤ C.size ∧
      (∀ (i : Nat) (v : Value), cs[i]? = some v → ∃ v', C[off + i]? = some v' ∧ VRel M v v') ∧
      (md % 4 ≠ 2 → N ≤ b ∧ off = 0 ∧ ∀ i, i < C.size → ¬ (fz.1 ≤ i ∧ i < fz.2)) ∧ (md % 4 ≠ 1 → sp = 0) ∧ (4 ≤ md → flatL cs = true)
  | .iter s pos, b, off, _ => w.heap[b]? = some (.stringIter s pos) ∧ N ≤ b ∧ off = 0
  | .loop r, b, off, _ => ∃ fn tmps D, w.heap[b]? = some (.loop { state := r.state, pending := r.pending, fn := fn, tmps := tmps, params := r.params, assign := r.assign, body := r.body, defers := D }) ∧ TRel M r.ts tmps.toList ∧ N ≤ b ∧ off = 0
structure HRel (M : Emb) (N : Nat) (H : Heap) (w : World) : Prop where
  len : H.objs.length = H.n
  dom : ∀ k x, M k = some x → k < H.n
  obj : ∀ k, (H.get k).live = true → ∃ b o sp, M k = some (b, o, sp) ∧ ObjRel M N w (H.get k) b o sp
  apart : ∀ k k' b o sp b' o' sp', k ≠ k' → (H.get k).owned = true → (H.get k').live = true → M k = some (b, o, sp) → M k' = some (b', o', sp') → b ≠ b'
  base : N ≤ w.heap.size
/-- A step, but for the names that were free. -/
structure Stw (N : Nat) (M : Emb) (H : Heap) (w : World) (M' : Emb) (H' : Heap) (w' : World) : Prop where
  le : Emb.le M M'
  rel : HRel M' N H' w'
  size : w.heap.size ≤ w'.heap.size
  os : w'.os = w.os
  tape : w'.tape = w.tape
  output : w'.output = w.output
  n : H.n ≤ H'.n
  own : ∀ k b o sp, (H'.get k).owned = true → M' k = some (b, o, sp) → w.heap.size ≤ b ∨ ∃ k0 o0 sp0, (H.get k0).owned = true ∧ M k0 = some (b, o0, sp0)
  frame : ∀ b, b < w.heap.size → (∀ k o sp, (H.get k).owned = true → M k ≠ some (b, o, sp)) → w'.heap[b]? = w.heap[b]?
structure Stp (N : Nat) (M : Emb) (H : Heap) (w : World) (M' : Emb) (H' : Heap) (w' : World) : Prop extends Stw N M H w M' H' w' where
  nodead : ∀ k, k < H.n → M k = none → M' k = none
theorem Stp.refl {N : Nat} {M : Emb} {H : Heap} {w : World} (h : HRel M N H w) : Stp N M H w M H w :=
  ⟨⟨Emb.le_refl M, h, Nat.le_refl _, rfl, rfl, rfl, Nat.le_refl _, fun k b o sp ho hm => .inr ⟨k, o, sp, ho, hm⟩, fun _ _ _ => rfl⟩, fun _ _ h => h⟩
theorem Stw.trans {N : Nat} {M M1 M2 : Emb} {H H1 H2 : Heap} {w w1 w2 : World} (h : Stw N M H w M1 H1 w1) (k : Stw N M1 H1 w1 M2 H2 w2) : Stw N M H w M2 H2 w2 := by
  refine ⟨Emb.le_trans h.le k.le, k.rel, Nat.le_trans h.size k.size, k.os.trans h.os, k.tape.trans h.tape, k.output.trans h.output, Nat.le_trans h.n k.n, ?_, ?_⟩
  · intro j b o sp ho hm
    rcases k.own j b o sp ho hm with h1 | ⟨k0, o0, sp0, h1, h2⟩
    · exact .inl (Nat.le_trans h.size h1)
    · exact h.own k0 b o0 sp0 h1 h2
  · intro b hb hfree
    have h1 := h.frame b hb hfree
    have h2 := k.frame b (Nat.lt_of_lt_of_le hb h.size) (by
      intro j o sp ho hm
      rcases h.own j b o sp ho hm with h3 | ⟨k0, o0, sp0, h3, h4⟩
      · omega
      · exact hfree k0 o0 sp0 h3 h4)
    exact h2.trans h1
theorem Stp.trans {N : Nat} {M M1 M2 : Emb} {H H1 H2 : Heap} {w w1 w2 : World} (h : Stp N M H w M1 H1 w1) (k : Stp N M1 H1 w1 M2 H2 w2) : Stp N M H w M2 H2 w2 :=
  ⟨h.toStw.trans k.toStw, fun j hj hm => k.nodead j (Nat.lt_of_lt_of_le hj h.n) (h.nodead j hj hm)⟩
/-- A draw turns nothing. -/
theorem HRel.drew {M : Emb} {N : Nat} {H : Heap} {w : World} (h : HRel M N H w) (n : Nat) : HRel M N H { w with drawn := n } := by
  refine ⟨h.len, h.dom, ?_, h.apart, h.base⟩
  intro k hk
  obtain ⟨b, o, sp, h1, h2⟩ := h.obj k hk
  refine ⟨b, o, sp, h1, ?_⟩
  cases hg : H.get k <;> rw [hg] at h2 <;> exact h2
theorem Stp.drew {N : Nat} {M : Emb} {H : Heap} {w : World} (h : HRel M N H w) (n : Nat) : Stp N M H w M H { w with drawn := n } :=
  ⟨⟨Emb.le_refl M, h.drew n, Nat.le_refl _, rfl, rfl, rfl, Nat.le_refl _, fun k b o sp ho hm => .inr ⟨k, o, sp, ho, hm⟩, fun _ _ _ => rfl⟩, fun _ _ h => h⟩
theorem ObjRel.mono {M M' : Emb} (hM : Emb.le M M') {N : Nat} {w : World} {o : AObj} {b off sp : Nat} (h : ObjRel M N w o b off sp) : ObjRel M' N w o b off sp := by
  cases o with
  | dead => trivial
  | cells cs elem md esz =>
    obtain ⟨C, fz, h1, h2, h3, h4, h5⟩ := h
    exact ⟨C, fz, h1, h2, fun i v hv => let ⟨v', a, b⟩ := h3 i v hv; ⟨v', a, b.mono hM⟩, h4, h5⟩
  | iter s pos => exact h
  | loop r => obtain ⟨fn, tmps, D, h1, h2, h3⟩ := h; exact ⟨fn, tmps, D, h1, h2.mono hM, h3⟩
theorem ObjRel.block {M : Emb} {N : Nat} {w w' : World} {o : AObj} {b off sp : Nat} (hb : w'.heap[b]? = w.heap[b]?) (h : ObjRel M N w o b off sp) : ObjRel M N w' o b off sp := by
  cases o with
  | dead => trivial
  | cells cs elem md esz =>
    obtain ⟨C, fz, h1, h2, h3, h4, h5⟩ := h
    exact ⟨C, fz, hb.trans h1, h2, h3, h4, h5⟩
  | iter s pos => exact ⟨hb.trans h.1, h.2⟩
  | loop r => obtain ⟨fn, tmps, D, h1, h2, h3⟩ := h; exact ⟨fn, tmps, D, hb.trans h1, h2, h3⟩
theorem ObjRel.lt {M : Emb} {N : Nat} {w : World} {o : AObj} {b off sp : Nat} (hl : o.live = true) (h : ObjRel M N w o b off sp) : b < w.heap.size := by
  have : ∀ x, w.heap[b]? = some x → b < w.heap.size := by
    intro x hx
    rcases Nat.lt_or_ge b w.heap.size with h0 | h0
    · exact h0
    · rw [Array.getElem?_eq_none h0] at hx; cases hx
  cases o with
  | dead => cases hl
  | cells cs elem md esz => obtain ⟨C, fz, h1, _⟩ := h; exact this _ h1
  | iter s pos => exact this _ h.1
  | loop r => obtain ⟨fn, tmps, D, h1, _⟩ := h; exact this _ h1
theorem ObjRel.ge {M : Emb} {N : Nat} {w : World} {o : AObj} {b off sp : Nat} (hl : o.owned = true) (h : ObjRel M N w o b off sp) : N ≤ b := by
  cases o with
  | dead => cases hl
  | cells cs elem md esz => obtain ⟨C, fz, _, _, _, h4, _⟩ := h; exact (h4 (by simpa [AObj.owned] using hl)).1
  | iter s pos => exact h.2.1
  | loop r => obtain ⟨fn, tmps, D, _, _, h3, _⟩ := h; exact h3
/-- With one more place. -/
def Emb.put (M : Emb) (k : Nat) (x : Nat × Nat × Nat) : Emb := fun j => if j = k then some x else M j
theorem Emb.put_same (M : Emb) (k : Nat) (x : Nat × Nat × Nat) : M.put k x k = some x := by simp [Emb.put]
theorem Emb.put_ne (M : Emb) (k j : Nat) (x : Nat × Nat × Nat) (h : j ≠ k) : M.put k x j = M j := by simp [Emb.put, h]
theorem HRel.fresh {M : Emb} {N : Nat} {H : Heap} {w : World} (h : HRel M N H w) : M H.n = none := by
  cases hm : M H.n with
  | none => rfl
  | some x => have := h.dom _ _ hm; omega
theorem HRel.put_le {M : Emb} {N : Nat} {H : Heap} {w : World} (h : HRel M N H w) (x : Nat × Nat × Nat) : Emb.le M (M.put H.n x) := by
  intro k y hy
  have := h.dom _ _ hy
  rw [Emb.put_ne _ _ _ _ (by omega)]; exact hy
/-- A new block. -/
theorem Stp.allocSp {N : Nat} {M : Emb} {H : Heap} {w : World} (h : HRel M N H w) (o : AObj) (O : Obj) (sp : Nat) (hown : o.owned = true)
    (ho : ∀ M' : Emb, Emb.le M M' → ∀ w' : World, w'.heap[w.heap.size]? = some O → ObjRel M' N w' o w.heap.size 0 sp) :
    Stp N M H w (M.put H.n (w.heap.size, 0, sp)) (H.push o) (w.alloc O) := by
  have hle := h.put_le (w.heap.size, 0, sp)
  have hold : ∀ b, b < w.heap.size → (w.alloc O).heap[b]? = w.heap[b]? := by
    intro b hb; simp only [World.alloc, Array.getElem?_push]; rw [if_neg (by omega)]
  have hnew : (w.alloc O).heap[w.heap.size]? = some O := by show (w.heap.push O)[w.heap.size]? = _; simp
  have hcase : ∀ k, ((H.push o).get k).live = true → k = H.n ∨ (k < H.n ∧ (H.push o).get k = H.get k) := by
    intro k hk
    have hlt := Heap.lt_of_live hk
    have : (H.push o).n = H.n + 1 := rfl
    rcases Nat.lt_or_ge k H.n with h0 | h0
    · exact .inr ⟨h0, Heap.get_push_old H o k h0⟩
    · exact .inl (by omega)
  have hb_of : ∀ k b o' sp, (H.get k).live = true → M k = some (b, o', sp) → b < w.heap.size := by
    intro k b o' sp hk hm
    obtain ⟨b1, o1, sp1, h1, h2⟩ := h.obj k hk
    rw [hm] at h1; cases h1
    exact h2.lt hk
  refine ⟨⟨hle, ⟨?_, ?_, ?_, ?_, ?_⟩, by simp, rfl, rfl, rfl, by simp [Heap.push], ?_, ?_⟩, fun j hj hm => by rw [Emb.put_ne _ _ _ _ (by omega)]; exact hm⟩
  · simp [Heap.push, h.len]
  · intro k x hx
    by_cases hk : k = H.n
    · subst hk; simp [Heap.push]
    · rw [Emb.put_ne _ _ _ _ hk] at hx; have := h.dom _ _ hx; simp [Heap.push]; omega
  · intro k hk
    rcases hcase k hk with rfl | ⟨hlt, he⟩
    · exact ⟨_, _, _, Emb.put_same _ _ _, by rw [Heap.get_push_new]; exact ho _ hle _ hnew⟩
    · rw [he] at hk ⊢
      obtain ⟨b, o1, sp, h1, h2⟩ := h.obj k hk
      exact ⟨b, o1, sp, hle _ _ h1, (h2.mono hle).block (hold b (h2.lt hk))⟩
  · intro k k' b o1 sp b' o1' sp' hne hko hkl hm hm'
    have hlive := AObj.live_of_owned hko
    rcases hcase k hlive with rfl | ⟨hlt, he⟩
    · rw [Emb.put_same] at hm; cases hm
      rcases hcase k' hkl with rfl | ⟨hlt', he'⟩
      · exact absurd rfl hne
      · rw [Emb.put_ne _ _ _ _ (by omega)] at hm'
        rw [he'] at hkl
        have := hb_of k' _ _ _ hkl hm'; omega
    · rw [Emb.put_ne _ _ _ _ (by omega)] at hm
      rw [he] at hko hlive
      rcases hcase k' hkl with rfl | ⟨hlt', he'⟩
      · rw [Emb.put_same] at hm'; cases hm'
        have := hb_of k _ _ _ hlive hm; omega
      · rw [Emb.put_ne _ _ _ _ (by omega)] at hm'
        rw [he'] at hkl
        exact h.apart k k' b o1 sp b' o1' sp' hne hko hkl hm hm'
  · have := h.base; simp; omega
  · intro k b o1 sp hko hm
    have hlive := AObj.live_of_owned hko
    rcases hcase k hlive with rfl | ⟨hlt, he⟩
    · rw [Emb.put_same] at hm; cases hm; exact .inl (Nat.le_refl _)
    · rw [Emb.put_ne _ _ _ _ (by omega)] at hm
      rw [he] at hko
      exact .inr ⟨k, o1, sp, hko, hm⟩
  · intro b hb _; exact hold b hb
theorem Stp.alloc {N : Nat} {M : Emb} {H : Heap} {w : World} (h : HRel M N H w) (o : AObj) (O : Obj) (hown : o.owned = true)
    (ho : ∀ M' : Emb, Emb.le M M' → ∀ w' : World, w'.heap[w.heap.size]? = some O → ObjRel M' N w' o w.heap.size 0 0) :
    Stp N M H w (M.put H.n (w.heap.size, 0, 0)) (H.push o) (w.alloc O) := Stp.allocSp h o O 0 hown ho
/-- An object of ours ends, and another one begins in its block. -/
theorem Stp.regrow {N : Nat} {M : Emb} {H : Heap} {w w' : World} (h : HRel M N H w) {k b o sp o1 sp1 : Nat} (o' : AObj) (hown : (H.get k).owned = true) (hm : M k = some (b, o, sp))
    (ho : ∀ M' : Emb, Emb.le M M' → ObjRel M' N w' o' b o1 sp1) (hsz : w'.heap.size = w.heap.size) (hos : w'.os = w.os) (ht : w'.tape = w.tape) (hout : w'.output = w.output) (hoth : ∀ b', b' ≠ b → w'.heap[b']? = w.heap[b']?) :
    Stp N M H w (M.put H.n (b, o1, sp1)) ((H.set k .dead).push o') w' := by
  have hlive := AObj.live_of_owned hown
  have hk := Heap.lt_of_live hlive
  have hle := h.put_le (b, o1, sp1)
  have hn : (H.set k .dead).n = H.n := Heap.n_set H k _
  have hnew : ((H.set k .dead).push o').get H.n = o' := by rw [← hn]; exact Heap.get_push_new _ _
  have hold : ∀ j, j < H.n → j ≠ k → ((H.set k .dead).push o').get j = H.get j := by
    intro j hj hjk
    rw [Heap.get_push_old _ _ _ (by rw [hn]; exact hj), Heap.get_set_ne H k j _ hjk]
  have hdead : ((H.set k .dead).push o').get k = .dead := by
    rw [Heap.get_push_old _ _ _ (by rw [hn]; exact hk), Heap.get_set_same H k _ h.len hk]
  have hcase : ∀ j, (((H.set k .dead).push o').get j).live = true → j = H.n ∨ (j < H.n ∧ j ≠ k ∧ ((H.set k .dead).push o').get j = H.get j) := by
    intro j hj
    have hlt := Heap.lt_of_live hj
    have e : ((H.set k .dead).push o').n = H.n + 1 := by simp [Heap.push, hn]
    rcases Nat.lt_or_ge j H.n with h0 | h0
    · by_cases hjk : j = k
      · subst hjk; rw [hdead] at hj; cases hj
      · exact .inr ⟨h0, hjk, hold j h0 hjk⟩
    · exact .inl (by omega)
  have hblk : ∀ j, j ≠ k → (H.get j).live = true → ∀ b1 p1 s1, M j = some (b1, p1, s1) → b1 ≠ b := fun j hjk hj b1 p1 s1 hmj e =>
    h.apart k j b o sp b1 p1 s1 (Ne.symm hjk) hown hj hm hmj e.symm
  refine ⟨⟨hle, ⟨?_, ?_, ?_, ?_, ?_⟩, by omega, hos, ht, hout, by simp [Heap.push, hn], ?_, ?_⟩, fun j hj hm => by rw [Emb.put_ne _ _ _ _ (by omega)]; exact hm⟩
  · simp [Heap.push, Heap.len_set, hn, h.len]
  · intro j x hx
    have e : ((H.set k .dead).push o').n = H.n + 1 := by simp [Heap.push, hn]
    by_cases hj : j = H.n
    · omega
    · rw [Emb.put_ne _ _ _ _ hj] at hx; have := h.dom _ _ hx; omega
  · intro j hj
    rcases hcase j hj with rfl | ⟨hlt, hjk, he⟩
    · exact ⟨_, _, _, Emb.put_same _ _ _, by rw [hnew]; exact ho _ hle⟩
    · rw [he] at hj ⊢
      obtain ⟨b1, p1, s1, h1, h2⟩ := h.obj j hj
      exact ⟨b1, p1, s1, hle _ _ h1, (h2.mono hle).block (hoth b1 (hblk j hjk hj b1 p1 s1 h1))⟩
  · intro j j' b1 p1 s1 b1' p1' s1' hne hjo hjl hm1 hm1'
    rcases hcase j (AObj.live_of_owned hjo) with rfl | ⟨hlt, hjk, he⟩
    · rw [Emb.put_same] at hm1; cases hm1
      rcases hcase j' hjl with rfl | ⟨hlt', hjk', he'⟩
      · exact absurd rfl hne
      · rw [Emb.put_ne _ _ _ _ (by omega)] at hm1'
        rw [he'] at hjl
        exact fun e => hblk j' hjk' hjl _ _ _ hm1' e.symm
    · rw [Emb.put_ne _ _ _ _ (by omega)] at hm1
      rw [he] at hjo
      rcases hcase j' hjl with rfl | ⟨hlt', hjk', he'⟩
      · rw [Emb.put_same] at hm1'; cases hm1'
        exact hblk j hjk (AObj.live_of_owned hjo) _ _ _ hm1
      · rw [Emb.put_ne _ _ _ _ (by omega)] at hm1'
        rw [he'] at hjl
        exact h.apart j j' b1 p1 s1 b1' p1' s1' hne hjo hjl hm1 hm1'
  · rw [hsz]; exact h.base
  · intro j b1 p1 s1 hjo hm1
    rcases hcase j (AObj.live_of_owned hjo) with rfl | ⟨hlt, hjk, he⟩
    · rw [Emb.put_same] at hm1; cases hm1; exact .inr ⟨k, o, sp, hown, hm⟩
    · rw [Emb.put_ne _ _ _ _ (by omega)] at hm1
      rw [he] at hjo
      exact .inr ⟨j, p1, s1, hjo, hm1⟩
  · intro b1 _ hfree; exact hoth b1 (fun e => hfree k o sp hown (e ▸ hm))
/-- One object of ours turns, in its own block. -/
theorem Stp.turn {N : Nat} {M : Emb} {H : Heap} {w w' : World} (h : HRel M N H w) {k b o sp : Nat} (o' : AObj) (hown : (H.get k).owned = true) (hm : M k = some (b, o, sp))
    (ho : o'.live = true → ObjRel M N w' o' b o sp) (hsz : w'.heap.size = w.heap.size) (hos : w'.os = w.os) (ht : w'.tape = w.tape) (hout : w'.output = w.output) (hoth : ∀ b', b' ≠ b → w'.heap[b']? = w.heap[b']?) :
    Stp N M H w M (H.set k o') w' := by
  have hlive := AObj.live_of_owned hown
  have hk := Heap.lt_of_live hlive
  have hget : ∀ j, j ≠ k → (H.set k o').get j = H.get j := fun j hj => Heap.get_set_ne H k j o' hj
  have hgetk : (H.set k o').get k = o' := Heap.get_set_same H k o' h.len hk
  have hown2 : ∀ j, ((H.set k o').get j).owned = true → (H.get j).owned = true := by
    intro j hj
    by_cases hjk : j = k
    · subst hjk; exact hown
    · rw [hget j hjk] at hj; exact hj
  have hlive2 : ∀ j, ((H.set k o').get j).live = true → (H.get j).live = true := by
    intro j hj
    by_cases hjk : j = k
    · subst hjk; exact hlive
    · rw [hget j hjk] at hj; exact hj
  refine ⟨⟨Emb.le_refl M, ⟨?_, ?_, ?_, ?_, ?_⟩, by omega, hos, ht, hout, by rw [Heap.n_set]; exact Nat.le_refl _, ?_, ?_⟩, fun _ _ h => h⟩
  · rw [Heap.len_set, Heap.n_set]; exact h.len
  · intro j x hx; rw [Heap.n_set]; exact h.dom j x hx
  · intro j hj
    by_cases hjk : j = k
    · subst hjk; rw [hgetk] at hj ⊢; exact ⟨b, o, sp, hm, ho hj⟩
    · rw [hget j hjk] at hj ⊢
      obtain ⟨b1, o1, sp1, h1, h2⟩ := h.obj j hj
      exact ⟨b1, o1, sp1, h1, h2.block (hoth b1 (fun e => h.apart k j b o sp b1 o1 sp1 (Ne.symm hjk) hown hj hm h1 e.symm))⟩
  · intro j j' b1 o1 sp1 b1' o1' sp1' hne hjo hjl hm1 hm1'
    exact h.apart j j' b1 o1 sp1 b1' o1' sp1' hne (hown2 j hjo) (hlive2 j' hjl) hm1 hm1'
  · rw [hsz]; exact h.base
  · intro j b1 o1 sp1 hjo hm1; exact .inr ⟨j, o1, sp1, hown2 j hjo, hm1⟩
  · intro b1 _ hfree; exact hoth b1 (fun e => hfree k o sp hown (e ▸ hm))
end Go.Dg
