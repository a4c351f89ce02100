/- Regions that draw their order, where new cells may be laid ahead of their turn. -/
import Derived.Test.YtmnoegfehgoalaaDoorDgSweep
namespace Go.Dg
set_option linter.unusedVariables false
set_option linter.unusedSimpArgs false

theorem Heap.len_pos {H : Heap} (h : H.objs.length = H.n) (k : Nat) (hk : H.n ≤ k) : H.get k = .dead := Heap.get_out H k hk

/-- A step over the first objects of a heap is a step over the heap. -/
theorem Stw.front {N : Nat} {M M1 : Emb} {Hc Hr H1 Hc' : Heap} {w w' : World} (hc : HRel M N Hc w) (hpre : ∀ k, k < Hr.n → Hc.get k = Hr.get k) (hle : Hr.n ≤ Hc.n)
    (st : Stp N (fun k => if k < Hr.n then M k else none) Hr w M1 H1 w') (h1 : H1.n ≤ Hc.n) (hdead : ∀ k, Hr.n ≤ k → k < H1.n → Hc.get k = .dead) (hnone : ∀ k, Hr.n ≤ k → k < H1.n → M k = none)
    (hfresh : ∀ k, Hr.n ≤ k → k < H1.n → (H1.get k).live = true → (H1.get k).owned = true) (hold : ∀ k, k < Hr.n → (H1.get k).live = true → (Hr.get k).live = true) (hlen' : Hc'.objs.length = Hc'.n) (hn' : Hc'.n = Hc.n) (hget' : ∀ k, Hc'.get k = if k < H1.n then H1.get k else Hc.get k) :
    Stw N M Hc w (fun k => if k < H1.n then M1 k else M k) Hc' w' := by
  have hn1 : Hr.n ≤ H1.n := st.n
  have hrr : ∀ k, k < Hr.n → (fun k => if k < Hr.n then M k else none) k = M k := fun k hk => by simp [hk]
  have keep : ∀ k x, k < Hr.n → M k = some x → M1 k = some x := fun k x hk hx => st.le k x (by simp [hk, hx])
  -- objects beyond the first ones stay
  have stay : ∀ {k b o sp : Nat}, H1.n ≤ k → (Hc.get k).live = true → M k = some (b, o, sp) → w'.heap[b]? = w.heap[b]? ∧ b < w.heap.size := by
    intro k b o sp hk hl hm
    obtain ⟨b1, o1, sp1, q1, q2⟩ := hc.obj k hl
    rw [hm] at q1; cases q1
    have hb := q2.lt hl
    refine ⟨st.frame b hb fun i o' sp' hoi hi => ?_, hb⟩
    have hin := Heap.lt_of_live (AObj.live_of_owned hoi)
    have hi' : (if i < Hr.n then M i else none) = some (b, o', sp') := hi
    rw [if_pos hin] at hi'
    exact hc.apart i k b o' sp' b o sp (by omega) (by rw [hpre i hin]; exact hoi) hl hi' hm rfl
  have ownS : ∀ {i b o sp : Nat}, (H1.get i).owned = true → M1 i = some (b, o, sp) → w.heap.size ≤ b ∨ ∃ j o' sp', j < Hr.n ∧ (Hc.get j).owned = true ∧ M j = some (b, o', sp') := by
    intro i b o sp h2 h3
    rcases st.own i b o sp h2 h3 with h4 | ⟨j, o', sp', h4, h5⟩
    · exact .inl h4
    · have hjn := Heap.lt_of_live (AObj.live_of_owned h4)
      have h5' : (if j < Hr.n then M j else none) = some (b, o', sp') := h5
      rw [if_pos hjn] at h5'
      exact .inr ⟨j, o', sp', hjn, by rw [hpre j hjn]; exact h4, h5'⟩
  have part : ∀ {i k b o sp b' o' sp' : Nat}, (H1.get i).owned = true → M1 i = some (b, o, sp) → H1.n ≤ k → (Hc.get k).live = true → M k = some (b', o', sp') → b ≠ b' := by
    intro i k b o sp b' o' sp' h2 h3 h4 h5 h6 e
    subst e
    rcases ownS h2 h3 with h7 | ⟨j, o2, sp2, h7, h8, h9⟩
    · have := (stay h4 h5 h6).2; omega
    · exact hc.apart j k b o2 sp2 b o' sp' (by omega) h8 h5 h9 h6 rfl
  have hle' : Emb.le M (fun k => if k < H1.n then M1 k else M k) := by
    intro k x hx
    show (if k < H1.n then M1 k else M k) = some x
    by_cases hk : k < H1.n
    · rw [if_pos hk]
      by_cases hkr : k < Hr.n
      · exact keep k x hkr hx
      · rw [hnone k (by omega) hk] at hx; cases hx
    · rw [if_neg hk]; exact hx
  have hle1 : Emb.le M1 (fun k => if k < H1.n then M1 k else M k) := by
    intro k x hx
    show (if k < H1.n then M1 k else M k) = some x
    rw [if_pos (st.rel.dom k x hx)]; exact hx
  have rel' : HRel (fun k => if k < H1.n then M1 k else M k) N Hc' w' := by
    refine ⟨hlen', ?_, ?_, ?_, st.rel.base⟩
    · intro k x hx
      have hx' : (if k < H1.n then M1 k else M k) = some x := hx
      rw [hn']
      split at hx'
      · omega
      · exact hc.dom k x hx'
    · intro k hk
      by_cases h0 : k < H1.n
      · have e : Hc'.get k = H1.get k := by rw [hget', if_pos h0]
        rw [e] at hk ⊢
        obtain ⟨b, o, sp, q1, q2⟩ := st.rel.obj k hk
        exact ⟨b, o, sp, by simp [h0, q1], q2.mono hle1⟩
      · have e : Hc'.get k = Hc.get k := by rw [hget', if_neg h0]
        rw [e] at hk ⊢
        obtain ⟨b, o, sp, q1, q2⟩ := hc.obj k hk
        exact ⟨b, o, sp, by simp [h0, q1], (q2.mono hle').block (stay (by omega) hk q1).1⟩
    · intro k k' b o sp b' o' sp' hne hko hkl hb hb'
      rw [hget'] at hko hkl
      have hb2 : (if k < H1.n then M1 k else M k) = some (b, o, sp) := hb
      have hb2' : (if k' < H1.n then M1 k' else M k') = some (b', o', sp') := hb'
      by_cases h0 : k < H1.n
      · rw [if_pos h0] at hko hb2
        by_cases h0' : k' < H1.n
        · rw [if_pos h0'] at hkl hb2'
          exact st.rel.apart k k' b o sp b' o' sp' hne hko hkl hb2 hb2'
        · rw [if_neg h0'] at hkl hb2'
          exact part hko hb2 (by omega) hkl hb2'
      · rw [if_neg h0] at hko hb2
        by_cases h0' : k' < H1.n
        · rw [if_pos h0'] at hkl hb2'
          by_cases hr' : k' < Hr.n
          · -- an object that was there: its place is the same
            intro e
            have hlk : (Hc.get k').live = true := by rw [hpre k' hr']; exact hold k' hr' hkl
            obtain ⟨b3, o3, sp3, q1, _⟩ := hc.obj k' hlk
            have := keep k' _ hr' q1
            rw [hb2'] at this; cases this
            exact hc.apart k k' b o sp b' o' sp' hne hko hlk hb2 q1 e
          · exact fun e => part (hfresh k' (by omega) h0' hkl) hb2' (by omega) (AObj.live_of_owned hko) hb2 e.symm
        · rw [if_neg h0'] at hkl hb2'
          exact hc.apart k k' b o sp b' o' sp' hne hko hkl hb2 hb2'
  refine ⟨hle', rel', st.size, st.os, st.tape, st.output, by omega, ?_, ?_⟩
  · intro k b o sp hko hb
    rw [hget'] at hko
    have hb2 : (if k < H1.n then M1 k else M k) = some (b, o, sp) := hb
    by_cases h0 : k < H1.n
    · rw [if_pos h0] at hko hb2
      rcases ownS hko hb2 with q | ⟨j, o2, sp2, _, q2, q3⟩
      · exact .inl q
      · exact .inr ⟨j, o2, sp2, q2, q3⟩
    · rw [if_neg h0] at hko hb2
      exact .inr ⟨k, o, sp, hko, hb2⟩
  · intro b hb hfree
    refine st.frame b hb fun i o sp hoi hi => ?_
    have hin := Heap.lt_of_live (AObj.live_of_owned hoi)
    have hi' : (if i < Hr.n then M i else none) = some (b, o, sp) := hi
    rw [if_pos hin] at hi'
    exact hfree i o sp (by rw [hpre i hin]; exact hoi) hi'

/-- A new block for a dead object's name. -/
theorem Stw.revive {N : Nat} {M : Emb} {H H' : Heap} {w : World} (h : HRel M N H w) {k : Nat} (hk : k < H.n) (hMk : M k = none) (o : AObj) (O : Obj) (hown : o.owned = true)
    (ho : ∀ M' : Emb, Emb.le M M' → ∀ w' : World, w'.heap[w.heap.size]? = some O → ObjRel M' N w' o w.heap.size 0 0)
    (hlen' : H'.objs.length = H'.n) (hn' : H'.n = H.n) (hget' : ∀ j, H'.get j = if j = k then o else H.get j) : Stw N M H w (M.put k (w.heap.size, 0, 0)) H' (w.alloc O) := by
  have hle : Emb.le M (M.put k (w.heap.size, 0, 0)) := by
    intro j y hy
    rw [Emb.put_ne _ _ _ _ (fun e => by rw [e, hMk] at hy; cases hy)]; exact hy
  have hold : ∀ b, b < w.heap.size → (w.alloc O).heap[b]? = w.heap[b]? := by
    intro b hb; simp only [World.alloc, Array.getElem?_push]; rw [if_neg (by omega)]
  have hnew : (w.alloc O).heap[w.heap.size]? = some O := by show (w.heap.push O)[w.heap.size]? = _; simp
  have hcase : ∀ j, (j = k ∧ H'.get j = o) ∨ (j ≠ k ∧ H'.get j = H.get j) := by
    intro j
    by_cases hj : j = k
    · exact .inl ⟨hj, by rw [hget', if_pos hj]⟩
    · exact .inr ⟨hj, by rw [hget', if_neg hj]⟩
  have hb_of : ∀ j b o' sp, (H.get j).live = true → M j = some (b, o', sp) → b < w.heap.size := by
    intro j b o' sp hj hm
    obtain ⟨b1, o1, sp1, h1, h2⟩ := h.obj j hj
    rw [hm] at h1; cases h1
    exact h2.lt hj
  refine ⟨hle, ⟨hlen', ?_, ?_, ?_, ?_⟩, by simp, rfl, rfl, rfl, by omega, ?_, ?_⟩
  · intro j x hx
    rw [hn']
    by_cases hj : j = k
    · rw [hj]; exact hk
    · rw [Emb.put_ne _ _ _ _ hj] at hx; exact h.dom _ _ hx
  · intro j hj
    rcases hcase j with ⟨rfl, he⟩ | ⟨hne, he⟩
    · exact ⟨_, _, _, Emb.put_same _ _ _, by rw [he]; exact ho _ hle _ hnew⟩
    · rw [he] at hj ⊢
      obtain ⟨b, o1, sp, h1, h2⟩ := h.obj j hj
      exact ⟨b, o1, sp, hle _ _ h1, (h2.mono hle).block (hold b (h2.lt hj))⟩
  · intro j j' b o1 sp b' o1' sp' hne hjo hjl hm hm'
    rcases hcase j with ⟨rfl, he⟩ | ⟨hnk, he⟩
    · rw [Emb.put_same] at hm; cases hm
      rcases hcase j' with ⟨rfl, he'⟩ | ⟨hnk', he'⟩
      · exact absurd rfl hne
      · rw [Emb.put_ne _ _ _ _ hnk'] at hm'
        rw [he'] at hjl
        have := hb_of j' _ _ _ hjl hm'; omega
    · rw [Emb.put_ne _ _ _ _ hnk] at hm
      rw [he] at hjo
      rcases hcase j' with ⟨rfl, he'⟩ | ⟨hnk', he'⟩
      · rw [Emb.put_same] at hm'; cases hm'
        have := hb_of j _ _ _ (AObj.live_of_owned hjo) hm; omega
      · rw [Emb.put_ne _ _ _ _ hnk'] at hm'
        rw [he'] at hjl
        exact h.apart j j' b o1 sp b' o1' sp' hne hjo hjl hm hm'
  · have := h.base; simp; omega
  · intro j b o1 sp hjo hm
    rcases hcase j with ⟨rfl, he⟩ | ⟨hnk, he⟩
    · rw [Emb.put_same] at hm; cases hm; exact .inl (Nat.le_refl _)
    · rw [Emb.put_ne _ _ _ _ hnk] at hm
      rw [he] at hjo
      exact .inr ⟨j, o1, sp, hjo, hm⟩
  · intro b hb _; exact hold b hb

/-- Dead objects behind the last one. -/
def padTo (H : Heap) (n : Nat) : Heap := ⟨n, List.replicate (n - H.n) .dead ++ H.objs⟩
theorem padTo_len {H : Heap} {n : Nat} (h : H.objs.length = H.n) (hn : H.n ≤ n) : (padTo H n).objs.length = n := by simp [padTo, h]; omega
theorem padTo_get {H : Heap} {n : Nat} (h : H.objs.length = H.n) (hn : H.n ≤ n) (k : Nat) : (padTo H n).get k = if k < H.n then H.get k else .dead := by
  unfold Heap.get padTo
  by_cases hk : k < n
  · simp only [hk, if_true, List.getD_eq_getElem?_getD, List.getElem?_append, List.length_replicate]
    by_cases hk2 : k < H.n
    · simp only [hk2, if_true]
      rw [if_neg (by omega)]
      have : n - 1 - k - (n - H.n) = H.n - 1 - k := by omega
      rw [this]
    · simp only [hk2, if_false]
      rw [if_pos (by omega), List.getElem?_replicate]
      split <;> rfl
  · simp only [hk, if_false]
    rw [if_neg (by omega)]
theorem Stw.pad {N : Nat} {M : Emb} {H Hp : Heap} {w : World} (h : HRel M N H w) (hl : Hp.objs.length = Hp.n) (hn : H.n ≤ Hp.n) (hg : ∀ k, Hp.get k = if k < H.n then H.get k else .dead) : Stw N M H w M Hp w := by
  have live : ∀ {k : Nat}, (Hp.get k).live = true → k < H.n ∧ Hp.get k = H.get k := by
    intro k hk
    by_cases h0 : k < H.n
    · exact ⟨h0, by rw [hg, if_pos h0]⟩
    · rw [hg, if_neg h0] at hk; cases hk
  refine ⟨Emb.le_refl M, ⟨hl, fun k x hx => Nat.lt_of_lt_of_le (h.dom k x hx) hn, ?_, ?_, h.base⟩, Nat.le_refl _, rfl, rfl, rfl, hn, ?_, fun _ _ _ => rfl⟩
  · intro k hk
    obtain ⟨_, e⟩ := live hk
    rw [e] at hk ⊢
    exact h.obj k hk
  · intro k k' b o sp b' o' sp' hne hko hkl hm hm'
    obtain ⟨_, e⟩ := live (AObj.live_of_owned hko)
    obtain ⟨_, e'⟩ := live hkl
    rw [e] at hko
    rw [e'] at hkl
    exact h.apart k k' b o sp b' o' sp' hne hko hkl hm hm'
  · intro k b o sp hko hm
    obtain ⟨_, e⟩ := live (AObj.live_of_owned hko)
    rw [e] at hko
    exact .inr ⟨k, o, sp, hko, hm⟩

/-- Names below a bound: with the others forgotten the relation is the same. -/
theorem vrel_cut {M : Emb} {n : Nat} {v v' : Value} (h : VRel M v v') (hv : ∀ k ∈ idsOf v, k < n) : VRel (fun k => if k < n then M k else none) v v' := by
  have := vrel_ren (M := M) (M2 := fun k => if k < n then M k else none) (f := renK n []) (good := fun k => k < n) (fun k x hx hk => by simp [renK, hk, hx]) h hv
  rwa [renV_id n [] v hv] at this
theorem obj_cut {M : Emb} {n N : Nat} {w : World} {o : AObj} {b off sp : Nat} (h : ObjRel M N w o b off sp) (hv : ∀ k ∈ o.ids, k < n) : ObjRel (fun k => if k < n then M k else none) N w o b off sp := by
  have := obj_renS (M := M) (M2 := fun k => if k < n then M k else none) (f := renK n []) (good := fun k => k < n) (fun k x hx hk => by simp [renK, hk, hx]) h hv
  cases o with
  | dead => trivial
  | iter s p => exact this
  | loop r =>
    simp only [AObj.renS] at this
    rwa [renL_id n [] r.ts hv] at this
  | cells cs e md esz =>
    simp only [AObj.renS] at this
    split at this
    · exact this
    rename_i hnb
    split at this
    · exact this
    · rename_i hf
      simp only [AObj.ids, hnb, hf, if_false, Bool.false_eq_true] at hv
      rwa [renL_id n [] cs hv] at this
/-- The first objects of one heap, the others of another one. -/
def overlay (H1 Hc : Heap) : Heap := ⟨Hc.n, Hc.objs.take (Hc.n - H1.n) ++ H1.objs⟩
theorem overlay_len {H1 Hc : Heap} (h1 : H1.objs.length = H1.n) (hc : Hc.objs.length = Hc.n) (hle : H1.n ≤ Hc.n) : (overlay H1 Hc).objs.length = (overlay H1 Hc).n := by simp [overlay, h1, hc]; omega
theorem overlay_get {H1 Hc : Heap} (h1 : H1.objs.length = H1.n) (hc : Hc.objs.length = Hc.n) (hle : H1.n ≤ Hc.n) (k : Nat) : (overlay H1 Hc).get k = if k < H1.n then H1.get k else Hc.get k := by
  unfold Heap.get overlay
  by_cases hk : k < H1.n
  · have hk2 : k < Hc.n := by omega
    simp only [hk, hk2, if_true, List.getD_eq_getElem?_getD, List.getElem?_append, List.length_take, hc]
    rw [if_neg (by omega)]
    have : Hc.n - 1 - k - min (Hc.n - H1.n) Hc.n = H1.n - 1 - k := by omega
    rw [this]
  · simp only [hk, if_false]
    by_cases hk2 : k < Hc.n
    · simp only [hk2, if_true, List.getD_eq_getElem?_getD, List.getElem?_append, List.length_take, hc]
      rw [if_pos (by omega), List.getElem?_take, if_pos (by omega)]
    · simp only [hk2, if_false]

/-- What 'floatOk' says. -/
structure FloatFacts (ops : Array Oper) (recs : List Rec) (n0 : Nat) (H' : Heap) : Prop where
  back : ∀ (i : Nat) (o : Oper), ops[i]? = some o → ∀ e ∈ o.after, Region.binds .any e = true → e.on < i
  nosel : ∀ (i : Nat) (o : Oper), ops[i]? = some o → noSelect o.op = true
  uniq : ∀ (i j : Nat) (o p : Oper) (d : Nat), ops[i]? = some o → ops[j]? = some p → o.dst = some d → p.dst = some d → i = j
  look : ∀ (i j : Nat) (o p : Oper) (t : Nat), ops[i]? = some o → ops[j]? = some p → t ∈ looks ops o → p.dst = some t → i = j ∨ ((Region.before ops).getD j 0).testBit i = true ∨ ((Region.before ops).getD i 0).testBit j = true
  chain : ∀ (i j : Nat) (r q : Rec) (o p : Oper), ops[i]? = some o → recs[i]? = some r → recs[j]? = some q → ops[j]? = some p → r.cls = 2 → q.cls = 2 → isFloat p = false → i < j → ((Region.before ops).getD j 0).testBit i = true
  reads : ∀ (i j : Nat) (r q : Rec) (o p : Oper), ops[i]? = some o → recs[i]? = some r → recs[j]? = some q → ops[j]? = some p → r.cls = 1 → q.cls = 2 → isFloat p = false → ((Region.before ops).getD j 0).testBit i = false → ((Region.before ops).getD i 0).testBit j = false →
    ∀ k ∈ r.touched, k ∉ q.log
  old : ∀ (i : Nat) (r : Rec) (o : Oper), recs[i]? = some r → ops[i]? = some o → r.cls = 1 → ∀ k ∈ r.touched, k < n0
  names : ∀ (i : Nat) (r : Rec) (o : Oper), recs[i]? = some r → ops[i]? = some o → r.cls = 2 → isFloat o = false → ∀ k ∈ r.ids, k < r.H.n
  fresh : ∀ (i : Nat) (r : Rec) (o : Oper), recs[i]? = some r → ops[i]? = some o → r.cls = 2 → isFloat o = false → ∀ k, r.H.n ≤ k → k < (HT recs H' (i + 1)).n → ((HT recs H' (i + 1)).get k).live = true → ((HT recs H' (i + 1)).get k).owned = true
  keep : ∀ (i : Nat) (r : Rec) (o : Oper), recs[i]? = some r → ops[i]? = some o → r.cls = 2 → isFloat o = false → ∀ k ∈ r.log, ((HT recs H' (i + 1)).get k).live = true → (r.H.get k).live = true

theorem floatOk_facts {ops : Array Oper} {recs : List Rec} {n0 : Nat} {H' : Heap} (h : floatOk ops recs n0 H' = true) : FloatFacts ops recs n0 H' := by
  unfold floatOk at h
  simp only [Bool.and_eq_true] at h
  obtain ⟨⟨⟨⟨⟨h1, h2⟩, h3⟩, h4⟩, h5⟩, h6⟩ := h
  have tl : ∀ {i : Nat} {o : Oper}, ops[i]? = some o → ops.toList[i]? = some o := fun h => by simpa using h
  have zz : ∀ {i : Nat} {o : Oper} {r : Rec}, ops[i]? = some o → recs[i]? = some r → (ops.toList.zip recs)[i]? = some (o, r) := fun ho hr => List.getElem?_zip_eq_some.2 ⟨tl ho, hr⟩
  have hht : ∀ i, htOf recs H' i = HT recs H' i := fun i => rfl
  refine ⟨?_, ?_, ?_, ?_, ?_, ?_, ?_, ?_, ?_, ?_⟩
  · intro i o ho e he hb
    have := all_idx h1 (tl ho)
    simp only [List.all_eq_true] at this
    have := this e (by simpa using he)
    simpa [hb] using this
  · intro i o ho
    rw [List.all_eq_true] at h2
    exact h2 o (List.mem_of_getElem? (tl ho))
  · intro i j o p d ho hp hd hd'
    have := all_idx h3 (tl ho)
    simp only [hd] at this
    have := all_idx this (tl hp)
    simpa [hd'] using this
  · intro i j o p t ho hp ht hd
    have := all_idx h4 (tl ho)
    simp only [List.all_eq_true] at this
    have := this t ht
    have := all_idx (p := fun (x : Oper × Nat) => x.1.dst != some t || i == x.2 || comparable (Region.before ops) i x.2) (by rw [List.all_eq_true]; exact this) (tl hp)
    simpa [hd, comparable] using this
  · intro i j r q o p ho hr hq hp hrc hqc hf hij
    have := all_idx h5 (zz ho hr)
    have := all_idx this (zz hp hq)
    simp only [hrc, hqc, hf, beq_self_eq_true, Bool.not_false, Bool.and_eq_true, and_self, if_true] at this
    rcases Bool.or_eq_true_iff.1 this.1 with h7 | h7
    · have := of_decide_eq_true h7; omega
    · exact h7
  · intro i j r q o p ho hr hq hp hrc hqc hf hb1 hb2 k hk
    have := all_idx h5 (zz ho hr)
    have := all_idx this (zz hp hq)
    have hcmp : comparable (Region.before ops) i j = false := by unfold comparable; rw [hb1, hb2]; rfl
    simp only [hrc, hqc, hf, beq_self_eq_true, hcmp, Bool.not_false, Bool.and_eq_true, and_self, if_true] at this
    have h7 := List.all_eq_true.1 this.2 k hk
    simpa using h7
  · intro i r o hr ho hrc k hk
    have := all_idx h6 (zz ho hr)
    simp only [hrc, beq_self_eq_true, if_true, Bool.and_eq_true] at this
    have h7 := List.all_eq_true.1 this.1 k hk
    simpa using h7
  · intro i r o hr ho hrc hf k hk
    have := all_idx h6 (zz ho hr)
    simp only [hrc, hf, beq_self_eq_true, if_true, Bool.not_false, Bool.and_eq_true, and_self] at this
    have h7 := List.all_eq_true.1 this.2.1.1 k hk
    simpa using h7
  · intro i r o hr ho hrc hf k hk1 hk2 hl
    have := all_idx h6 (zz ho hr)
    simp only [hrc, hf, beq_self_eq_true, if_true, Bool.not_false, Bool.and_eq_true, and_self, hht] at this
    have h7 := List.all_eq_true.1 this.2.1.2 (k - r.H.n) (by rw [List.mem_range]; omega)
    rw [show r.H.n + (k - r.H.n) = k by omega, hl] at h7
    simpa using h7
  · intro i r o hr ho hrc hf k hk hl
    have := all_idx h6 (zz ho hr)
    simp only [hrc, hf, beq_self_eq_true, if_true, Bool.not_false, Bool.and_eq_true, and_self, hht] at this
    have h7 := List.all_eq_true.1 this.2.2 k hk
    rw [hl] at h7
    simpa using h7

section
variable {P : Program} {G N : Nat} {ok : List Bool} {call : Ev}

/-- What a new cell comes to. -/
theorem float_ev {ts : List Value} {H H1 : Heap} {o : Oper} {v : Value} {log : List Nat} (hf : isFloat o = true) (h : evOp P G ok call ts H o = some (2, v, H1, log)) :
    ∃ t z, o.op = .alloc t ∧ eval0 P (zeroValue t) = some z ∧ flat z = true ∧ v = .pointer (some ⟨H.n, 0, none⟩) ∧ H1 = H.push (.cells z.cells.toList t 0 1) ∧ log = [] := by
  obtain ⟨d, op, ty, pos, after, g⟩ := o
  unfold isFloat at hf
  split at hf
  rotate_left
  · cases hf
  rename_i t heq
  simp only at heq
  subst heq
  unfold evOp at h
  have hs : evShape P G ts ⟨d, .alloc t, ty, pos, after, g⟩ = none := rfl
  rw [hs] at h
  simp only at h
  split at h
  · rename_i u H2 l hm
    simp only [Option.some.injEq, Prod.mk.injEq] at h
    obtain ⟨_, rfl, rfl, rfl⟩ := h
    simp only [evMem] at hm
    split at hm
    rotate_left
    · cases hm
    rename_i z hz
    split at hm
    rotate_left
    · cases hm
    rename_i hfz
    simp only [Option.some.injEq, Prod.mk.injEq] at hm
    obtain ⟨rfl, rfl, rfl⟩ := hm
    exact ⟨t, z, rfl, hz, hfz, rfl, rfl, rfl⟩
  · split at h
    · rename_i hc
      simp [evExtOp] at hc
    · split at h
      · simp only [Option.some.injEq, Prod.mk.injEq] at h; omega
      · split at h
        · rename_i hc
          simp [evCallOp] at hc
        · split at h
          · rename_i hc
            simp [evYieldOp] at hc
          · split at h
            · simp only [Option.some.injEq, Prod.mk.injEq] at h; omega
            · split at h
              · rename_i hc
                simp [evUns] at hc
              · cases h

/-- Where a run stands whose new cells may lie ahead of their turn. -/
structure FlSt (ops : Array Oper) (recs : List Rec) (H' H0 : Heap) (N : Nat) (M0 : Emb) (w0 : World) (q : Nat) (f : Nat → Bool) (M : Emb) (Hc : Heap) (w : World) : Prop where
  len : Hc.objs.length = Hc.n
  n : Hc.n = H'.n
  base : ∀ k, k < (HT recs H' q).n → Hc.get k = (HT recs H' q).get k
  fl : ∀ j o r, ops[j]? = some o → recs[j]? = some r → isFloat o = true → r.cls = 2 → q ≤ j → f j = true → Hc.get r.H.n = (HT recs H' (j + 1)).get r.H.n
  dead : ∀ k, (HT recs H' q).n ≤ k → (∀ j o r, ops[j]? = some o → recs[j]? = some r → isFloat o = true → r.cls = 2 → q ≤ j → f j = true → r.H.n ≠ k) → Hc.get k = .dead ∧ M k = none
  closed : ∀ k, k < (HT recs H' q).n → ∀ j ∈ ((HT recs H' q).get k).ids, j < (HT recs H' q).n
  stp : Stw N M0 H0 w0 M Hc w
  free : ∀ k, k < H0.n → M0 k = none → M k = none

set_option maxHeartbeats 1000000 in
theorem draw_float {rd : Option Nat} (hok : BodiesOk P ok) (hcall : CallOk P G call) (hy : YieldOk P G call) (hclog : CallLog call) {ops : Array Oper} {recs : List Rec} {H' : Heap} {ts0 : List Value} {H0 : Heap} {Q : Exit → Act → World → Prop}
    (htr : evTrace P G ok call ops ops.toList ts0 H0 = some (recs, H')) (F : FloatFacts ops recs H0.n H') {M0 : Emb} {w0 : World} {a0 : Act} (hg0 : Globs G M0) (hr0 : HRel M0 N H0 w0) (hlen0 : H0.objs.length = H0.n)
    (hq : ∀ M' a' w', Stp N M0 H0 w0 M' H' w' → TRel M' (TSgo (fun _ => true) (ops.toList.zip recs) 0 ts0) a'.tmps.toList → a'.defers = a0.defers → Q .normal a' w') :
    ∀ (fuel : Nat) (listed : Array Bool) (M : Emb) (a : Act) (w : World) (q : Nat) (Hc : Heap), listed.size = ops.size → unl (fun i => listed.getD i false) ops.size ≤ fuel → Closed ops (fun i => listed.getD i false) →
      (∀ (i : Nat) (r : Rec) (o : Oper), recs[i]? = some r → ops[i]? = some o → r.cls = 2 → isFloat o = false → (listed.getD i false = true ↔ i < q)) →
      (∀ (i : Nat) (r : Rec) (o : Oper), recs[i]? = some r → ops[i]? = some o → r.cls = 2 → isFloat o = true → i < q → listed.getD i false = true) →
      FlSt ops recs H' H0 N M0 w0 q (fun i => listed.getD i false) M Hc w → TRel M (TSgo (fun i => listed.getD i false) (ops.toList.zip recs) 0 ts0) a.tmps.toList → a.defers = a0.defers →
      wpAnyIn (FR rd) 0 P .any ops Q fuel listed a w := by
  obtain ⟨hlen, hT0, hfacts⟩ := trace_facts ops.toList ts0 H0 recs H' 0 (fun _ => false) htr (fun _ _ => rfl)
  have hlen' : recs.length = ops.size := by rw [hlen]; simp
  -- what is no turn leaves the heap
  have hstay : ∀ (i : Nat) (r : Rec), recs[i]? = some r → r.cls ≠ 2 → HT recs H' (i + 1) = HT recs H' i := by
    intro i r hr hc
    have hi : i < recs.length := by
      rcases Nat.lt_or_ge i recs.length with h0 | h0
      · exact h0
      · rw [List.getElem?_eq_none h0] at hr; cases hr
    have ho : ops.toList[i]? = some ops.toList[i] := by simp
    rw [HT_some hr]
    rcases hfacts i _ r ho hr with ⟨_, hev, _, _⟩ | ⟨_, _, _, h4⟩
    · rcases cls_cases hev with ⟨_, h1, _⟩ | ⟨_, h1, h2⟩ | h1
      · exact h1
      · exact (reader_at h2 h1).1
      · exact absurd h1 hc
    · exact h4
  have hlens : ∀ i, (HT recs H' i).objs.length = (HT recs H' i).n := by
    intro i
    induction i with
    | zero => rw [hT0]; exact hlen0
    | succ i ih =>
      cases hr : recs[i]? with
      | none =>
        have hl : recs.length ≤ i := by simpa using hr
        rw [HT_out (H' := H') hl] at ih
        rw [HT_out (H' := H') (by omega)]; exact ih
      | some r =>
        by_cases hc : r.cls = 2
        · have hi : i < recs.length := by
            rcases Nat.lt_or_ge i recs.length with h0 | h0
            · exact h0
            · rw [List.getElem?_eq_none h0] at hr; cases hr
          have ho : ops.toList[i]? = some ops.toList[i] := by simp
          rcases hfacts i _ r ho hr with ⟨_, hev, _⟩ | ⟨_, _, h3, _⟩
          · have := evOp_log hclog hev
            rw [HT_some hr] at ih
            exact (this ih).1
          · rw [h3] at hc; cases hc
        · rw [hstay i r hr hc]; exact ih
  have hrec : ∀ {i : Nat} {r : Rec}, recs[i]? = some r → ∃ o, ops[i]? = some o := by
    intro i r hr
    have hi : i < recs.length := by
      rcases Nat.lt_or_ge i recs.length with h0 | h0
      · exact h0
      · rw [List.getElem?_eq_none h0] at hr; cases hr
    exact ⟨ops[i], by simp⟩
  -- a new cell, in the order of the text
  have hflt : ∀ {i : Nat} {o : Oper} {r : Rec}, ops[i]? = some o → recs[i]? = some r → isFloat o = true → r.cls = 2 → ∃ t z, o.op = .alloc t ∧ eval0 P (zeroValue t) = some z ∧ flat z = true ∧ r.v = .pointer (some ⟨r.H.n, 0, none⟩) ∧
      HT recs H' (i + 1) = r.H.push (.cells z.cells.toList t 0 1) ∧ r.log = [] := by
    intro i o r ho hr hf hc
    rcases hfacts i o r (by simpa using ho) hr with ⟨_, hev, _⟩ | ⟨_, _, h3, _⟩
    · rw [hc] at hev; exact float_ev hf hev
    · rw [h3] at hc; cases hc
  have hmono1 : ∀ i, (HT recs H' i).n ≤ (HT recs H' (i + 1)).n := by
    intro i
    cases hr : recs[i]? with
    | none =>
      have hl : recs.length ≤ i := by simpa using hr
      rw [HT_out (H' := H') hl, HT_out (H' := H') (by omega)]; exact Nat.le_refl _
    | some r =>
      obtain ⟨o, ho⟩ := hrec hr
      rcases hfacts i o r (by simpa using ho) hr with ⟨_, hev, _⟩ | ⟨_, _, _, h4⟩
      · have := (evOp_log hclog hev (by have := hlens i; rwa [HT_some hr] at this)).2.1
        rw [HT_some hr]; exact this
      · rw [HT_some hr, h4]; exact Nat.le_refl _
  have hmono : ∀ (n i : Nat), (HT recs H' i).n ≤ (HT recs H' (i + n)).n := by
    intro n
    induction n with
    | zero => intro i; exact Nat.le_refl _
    | succ n ih => intro i; exact Nat.le_trans (ih i) (hmono1 (i + n))
  have hmono' : ∀ i j, i ≤ j → (HT recs H' i).n ≤ (HT recs H' j).n := by
    intro i j h
    have := hmono (j - i) i
    rwa [show i + (j - i) = j by omega] at this
  have hn' : ∀ i, (HT recs H' i).n ≤ H'.n := by
    intro i
    rcases Nat.le_total i recs.length with h | h
    · have := hmono' i recs.length h
      rwa [HT_out (H' := H') (Nat.le_refl _)] at this
    · rw [HT_out h]; exact Nat.le_refl _
  -- between two places with new cells alone
  have hspan : ∀ (n x : Nat), (∀ (i : Nat) (r : Rec) (o : Oper), x ≤ i → i < x + n → recs[i]? = some r → ops[i]? = some o → r.cls = 2 → isFloat o = true) → ∀ k, k < (HT recs H' (x + n)).n →
      (k < (HT recs H' x).n ∧ (HT recs H' (x + n)).get k = (HT recs H' x).get k) ∨ (∃ j o r, ops[j]? = some o ∧ recs[j]? = some r ∧ isFloat o = true ∧ r.cls = 2 ∧ x ≤ j ∧ j < x + n ∧ r.H.n = k ∧ (HT recs H' (x + n)).get k = (HT recs H' (j + 1)).get k) := by
    intro n
    induction n with
    | zero => intro x _ k hk; exact .inl ⟨hk, rfl⟩
    | succ n ih =>
      intro x h k hk
      have same : HT recs H' (x + (n + 1)) = HT recs H' (x + n) → (k < (HT recs H' x).n ∧ (HT recs H' (x + (n + 1))).get k = (HT recs H' x).get k) ∨ (∃ j o r, ops[j]? = some o ∧ recs[j]? = some r ∧ isFloat o = true ∧ r.cls = 2 ∧ x ≤ j ∧ j < x + (n + 1) ∧ r.H.n = k ∧ (HT recs H' (x + (n + 1))).get k = (HT recs H' (j + 1)).get k) := by
        intro he
        rw [he] at hk ⊢
        rcases ih x (fun i r o a b => h i r o a (by omega)) k hk with h1 | ⟨j, o, r, a1, a2, a3, a4, a5, a6, a7, a8⟩
        · exact .inl h1
        · exact .inr ⟨j, o, r, a1, a2, a3, a4, a5, by omega, a7, a8⟩
      cases hr : recs[x + n]? with
      | none =>
        have hl : recs.length ≤ x + n := by simpa using hr
        exact same (by rw [HT_out (H' := H') (show recs.length ≤ x + (n + 1) by omega), HT_out (H' := H') hl])
      | some r =>
        by_cases hc : r.cls = 2
        · obtain ⟨o, ho⟩ := hrec hr
          have hf := h (x + n) r o (Nat.le_add_right x n) (Nat.add_lt_add_left (Nat.lt_succ_self n) x) hr ho hc
          obtain ⟨t, z, _, _, _, _, hpush, _⟩ := hflt ho hr hf hc
          have e : HT recs H' (x + (n + 1)) = r.H.push (.cells z.cells.toList t 0 1) := hpush
          have en : HT recs H' (x + n) = r.H := HT_some hr
          rw [e] at hk
          have hk' : k < r.H.n + 1 := hk
          by_cases hlt : k < r.H.n
          · have eg : (HT recs H' (x + (n + 1))).get k = (HT recs H' (x + n)).get k := by rw [e, en, Heap.get_push_old _ _ _ hlt]
            rcases ih x (fun i r o a b => h i r o a (by omega)) k (by rw [en]; exact hlt) with h1 | ⟨j, o', r', a1, a2, a3, a4, a5, a6, a7, a8⟩
            · exact .inl ⟨h1.1, eg.trans h1.2⟩
            · exact .inr ⟨j, o', r', a1, a2, a3, a4, a5, by omega, a7, eg.trans a8⟩
          · exact .inr ⟨x + n, o, r, ho, hr, hf, hc, Nat.le_add_right x n, by omega, by omega, rfl⟩
        · exact same (hstay (x + n) r hr hc)
  -- the end
  have hend : ∀ (listed : Array Bool) (M : Emb) (a : Act) (w : World) (q : Nat) (Hc : Heap), (∀ i, i < ops.size → listed.getD i false = true) →
      (∀ (i : Nat) (r : Rec) (o : Oper), recs[i]? = some r → ops[i]? = some o → r.cls = 2 → isFloat o = false → (listed.getD i false = true ↔ i < q)) →
      FlSt ops recs H' H0 N M0 w0 q (fun i => listed.getD i false) M Hc w → TRel M (TSgo (fun i => listed.getD i false) (ops.toList.zip recs) 0 ts0) a.tmps.toList → a.defers = a0.defers → Q .normal a w := by
    intro listed M a w q Hc hall hchain hs hts hd
    have hget : ∀ k, Hc.get k = H'.get k := by
      intro k
      by_cases hk : k < H'.n
      · rcases Nat.le_total recs.length q with h0 | h0
        · have := hs.base k (by rw [HT_out h0]; exact hk)
          rwa [HT_out h0] at this
        · have eq : HT recs H' (q + (recs.length - q)) = H' := by rw [show q + (recs.length - q) = recs.length by omega]; exact HT_out (Nat.le_refl _)
          rcases hspan (recs.length - q) q (by
            intro i r o h1 h2 hr ho hc
            cases hf : isFloat o with
            | true => rfl
            | false =>
              have := (hchain i r o hr ho hc hf).1 (hall i (by omega))
              omega) k (by rw [eq]; exact hk) with ⟨h1, h2⟩ | ⟨j, o, r, a1, a2, a3, a4, a5, a6, a7, a8⟩
          · rw [eq] at h2; rw [h2]; exact hs.base k h1
          · rw [eq] at a8; rw [a8, ← a7]; exact hs.fl j o r a1 a2 a3 a4 a5 (hall j (by omega))
      · rw [Heap.get_out H' k (by omega), Heap.get_out Hc k (by rw [hs.n]; omega)]
    have hlenH : H'.objs.length = H'.n := by have := hlens recs.length; rwa [HT_out (H' := H') (Nat.le_refl _)] at this
    have hst : Stp N M0 H0 w0 M H' w := by
      have st := hs.stp
      refine ⟨⟨st.le, ⟨hlenH, fun k x hx => by rw [← hs.n]; exact st.rel.dom k x hx, fun k hk => ?_, fun k k' b o sp b' o' sp' hne h1 h2 => ?_, st.rel.base⟩, st.size, st.os, st.tape, st.output, by rw [← hs.n]; exact st.n, fun k b o sp h1 => ?_, st.frame⟩, hs.free⟩
      · rw [← hget k] at hk ⊢; exact st.rel.obj k hk
      · rw [← hget k] at h1; rw [← hget k'] at h2; exact st.rel.apart k k' b o sp b' o' sp' hne h1 h2
      · rw [← hget k] at h1; exact st.own k b o sp h1
    refine hq M a w hst ?_ hd
    refine ⟨by rw [TSgo_length, ← TSgo_length (fun i => listed.getD i false) (ops.toList.zip recs) 0 ts0]; exact hts.1, fun t v v' h1 h2 h3 => hts.2 t v v' ?_ h2 h3⟩
    rw [← h1]
    refine TSgo_congr _ _ t _ _ _ _ rfl rfl ?_
    intro k o r hk _
    have hlt : k < (ops.toList.zip recs).length := by
      rcases Nat.lt_or_ge k (ops.toList.zip recs).length with h0 | h0
      · exact h0
      · rw [List.getElem?_eq_none h0] at hk; cases hk
    have hk2 : k < ops.size := by simp at hlt; omega
    simp only [Nat.zero_add]
    exact hall k hk2
  -- who is ready
  have hnone : ∀ (listed : Array Bool), listed.size = ops.size → Region.ready .any ops listed = [] → ∀ i, i < ops.size → listed.getD i false = true := by
    intro listed hsz hnil i
    induction i using Nat.strongRecOn with
    | _ i ih =>
      intro hi
      cases hf : listed.getD i false with
      | true => rfl
      | false =>
        have : i ∈ Region.ready .any ops listed := by
          rw [ready_iff]
          refine ⟨hi, ?_, ops[i], by simp [hi], ?_⟩
          · have : i < listed.size := by omega
            simp [Array.getD_eq_getD_getElem?, this] at hf ⊢; exact hf
          · intro e he hb
            have := F.back i ops[i] (by simp [hi]) e he hb
            exact ih e.on this (by omega)
        rw [hnil] at this; cases this
  intro fuel
  induction fuel with
  | zero =>
    intro listed M a w q Hc hsz hcnt hcl hchain hfl hs hts hd
    have hall := unl_zero (fun i => listed.getD i false) ops.size (by omega)
    refine ⟨?_, hend listed M a w q Hc hall hchain hs hts hd⟩
    cases hrd : Region.ready .any ops listed with
    | nil => rfl
    | cons x xs =>
      have hx : x ∈ Region.ready .any ops listed := by rw [hrd]; simp
      rw [ready_iff] at hx
      obtain ⟨h1, h2, _⟩ := hx
      have h3 := hall x h1
      have : x < listed.size := by omega
      simp [Array.getD_eq_getD_getElem?, this] at h2 h3
      rw [h2] at h3; cases h3
  | succ fuel ih =>
    intro listed M a w q Hc hsz hcnt hcl hchain hfl hs hts hd
    refine ⟨fun hnil => hend listed M a w q Hc (hnone listed hsz hnil) hchain hs hts hd, ?_⟩
    intro i hi
    rw [ready_iff] at hi
    obtain ⟨hilt, hifalse, o, ho, hedges⟩ := hi
    have hif : listed.getD i false = false := by
      have : i < listed.size := by omega
      simp [Array.getD_eq_getD_getElem?, this] at hifalse ⊢; exact hifalse
    have hor : recs[i]? = some recs[i] := by simp
    generalize hrdef : recs[i] = r at hor
    have hol : ops.toList[i]? = some o := by simpa using ho
    -- closure
    have hbit : ∀ j, ((Region.before ops).getD i 0).testBit j = true → listed.getD j false = true := closed_bit hcl i o ho hedges
    have hbitl : ∀ j p, ops[j]? = some p → listed.getD j false = true → ∀ k, ((Region.before ops).getD j 0).testBit k = true → listed.getD k false = true := fun j p hp hj => closed_bit hcl j p hp (hcl j p hp hj)
    have hblt := bit_lt F.back
    -- the new state of what is listed
    have hsz' : (listed.setIfInBounds i true).size = ops.size := by simpa using hsz
    have hupd : ∀ j, (listed.setIfInBounds i true).getD j false = upd (fun i => listed.getD i false) i j := by
      intro j
      simp only [upd, Array.getD_eq_getD_getElem?, Array.getElem?_setIfInBounds]
      by_cases hji : i = j
      · subst hji
        have hil : i < listed.size := by omega
        simp [hil]
      · rw [if_neg hji, if_neg (by omega)]
    have hfun : (fun j => (listed.setIfInBounds i true).getD j false) = upd (fun i => listed.getD i false) i := funext hupd
    have hcnt' : unl (fun j => (listed.setIfInBounds i true).getD j false) ops.size ≤ fuel := by
      rw [hfun]
      have := unl_upd (fun i => listed.getD i false) i hif ops.size hilt
      omega
    have hcl' : Closed ops (fun j => (listed.setIfInBounds i true).getD j false) := by
      intro j p hp hj e he hb
      rw [hfun] at hj ⊢
      simp only [upd] at hj ⊢
      by_cases hji : j = i
      · subst hji
        rw [ho] at hp; cases hp
        split
        · rfl
        · exact hedges e he hb
      · rw [if_neg hji] at hj
        split
        · rfl
        · exact hcl j p hp hj e he hb
    -- the slots
    have hsame : ∀ t, t ∈ looks ops o → (TSgo (fun j => decide (j < 0 + i)) (ops.toList.zip recs) 0 ts0)[t]? = (TSgo (fun i => listed.getD i false) (ops.toList.zip recs) 0 ts0)[t]? := by
      intro t ht
      refine TSgo_congr _ _ t _ _ _ _ rfl rfl ?_
      intro k p rr hk hdst
      have hp : ops[k]? = some p := by
        have := List.getElem?_zip_eq_some.1 hk
        simpa using this.1
      simp only [Nat.zero_add]
      rcases F.look i k o p t ho hp ht hdst with rfl | hb | hb
      · simp [hif]
      · have := hblt k i hb
        have h1 : decide (k < i) = false := by simp; omega
        rw [h1]
        cases hlk : listed.getD k false with
        | false => rfl
        | true => have := hbitl k p hp hlk i hb; rw [hif] at this; cases this
      · have := hblt i k hb
        have h1 : decide (k < i) = true := by simp; omega
        rw [h1, hbit k hb]
    have hmask : mask (looks ops o) (TSgo (fun j => decide (j < 0 + i)) (ops.toList.zip recs) 0 ts0) = mask (looks ops o) (TSgo (fun i => listed.getD i false) (ops.toList.zip recs) 0 ts0) :=
      mask_congr (by rw [TSgo_length, TSgo_length]) hsame
    have hwant : wantedL ops (TSgo (fun j => decide (j < 0 + i)) (ops.toList.zip recs) 0 ts0) o = wantedL ops (TSgo (fun i => listed.getD i false) (ops.toList.zip recs) 0 ts0) o := wanted_congr hsame
    have hzip : (ops.toList.zip recs)[i]? = some (o, r) := List.getElem?_zip_eq_some.2 ⟨hol, hor⟩
    have hslots : ∀ (M' : Emb) (v' : Value), Emb.le M M' → VRel M' r.v v' → TRel M' (TSgo (fun j => (listed.setIfInBounds i true).getD j false) (ops.toList.zip recs) 0 ts0) (a.put o.dst v').tmps.toList := by
      intro M' v' hle hv
      rw [hfun]
      have hp := put_rel (hts.mono hle) hv o.dst
      refine ⟨by rw [TSgo_length]; rw [← hp.1, putL_length, TSgo_length], fun t u u' h1 h2 h3 => hp.2 t u u' ?_ h2 h3⟩
      rw [← h1]
      by_cases hdt : o.dst = some t
      · have hlt : t < ts0.length := by
          have : t < (TSgo (upd (fun i => listed.getD i false) i) (ops.toList.zip recs) 0 ts0).length := by
            rcases Nat.lt_or_ge t (TSgo (upd (fun i => listed.getD i false) i) (ops.toList.zip recs) 0 ts0).length with h0 | h0
            · exact h0
            · rw [List.getElem?_eq_none h0] at h1; cases h1
          rwa [TSgo_length] at this
        rw [TSgo_at _ t _ 0 ts0 i o r hzip hdt (by simp [upd]) (by
          intro k' o' r' hk' hd'
          have := List.getElem?_zip_eq_some.1 hk'
          exact (F.uniq i k' o o' t ho (by simpa using this.1) hdt hd').symm) hlt]
        simp [putL, hdt, TSgo_length, hlt]
      · have e1 : (putL (TSgo (fun i => listed.getD i false) (ops.toList.zip recs) 0 ts0) o.dst r.v)[t]? = (TSgo (fun i => listed.getD i false) (ops.toList.zip recs) 0 ts0)[t]? := by
          cases hdd : o.dst with
          | none => rfl
          | some d =>
            simp only [putL, List.getElem?_set]
            rw [if_neg (fun e => hdt (by rw [hdd, e]))]
        rw [e1]
        refine TSgo_congr _ _ t _ _ _ _ rfl rfl ?_
        intro k p rr hk hdst
        simp only [Nat.zero_add, upd]
        split
        · rename_i hki
          subst hki
          have := List.getElem?_zip_eq_some.1 hk
          have hp2 : ops[k]? = some p := by simpa using this.1
          rw [ho] at hp2; cases hp2
          exact absurd hdst hdt
        · rfl
    have hd' : ∀ v', (a.put o.dst v').defers = a0.defers := fun v' => put_defers.trans hd
    -- the chain when i turns no memory
    have hchain_same : r.cls ≠ 2 → ∀ (j : Nat) (rr : Rec) (p : Oper), recs[j]? = some rr → ops[j]? = some p → rr.cls = 2 → isFloat p = false → ((listed.setIfInBounds i true).getD j false = true ↔ j < q) := by
      intro hc j rr p hj hp hjc hpf
      rw [hupd]
      simp only [upd]
      split
      · rename_i hji; subst hji; rw [hor] at hj; cases hj; exact absurd hjc hc
      · exact hchain j rr p hj hp hjc hpf
    have hfl_same : ∀ (j : Nat) (rr : Rec) (p : Oper), recs[j]? = some rr → ops[j]? = some p → rr.cls = 2 → isFloat p = true → j < q → (listed.setIfInBounds i true).getD j false = true := by
      intro j rr p hj hp hjc hpf hjq
      rw [hupd]
      simp only [upd]
      split
      · rfl
      · exact hfl j rr p hj hp hjc hpf hjq
    -- a step that leaves the heap
    have hkeep : ∀ {M' : Emb} {w' : World}, r.cls ≠ 2 → Stp N M Hc w M' Hc w' → FlSt ops recs H' H0 N M0 w0 q (fun j => (listed.setIfInBounds i true).getD j false) M' Hc w' := by
      intro M' w' hc st
      refine ⟨hs.len, hs.n, hs.base, ?_, ?_, hs.closed, hs.stp.trans st.toStw, fun k hk hm => ?_⟩
      · intro j p rr hp hj hpf hjc hqj hlj
        have hlj' : (listed.setIfInBounds i true).getD j false = true := hlj
        rw [hupd] at hlj'
        simp only [upd] at hlj'
        split at hlj'
        · rename_i hji; subst hji; rw [hor] at hj; cases hj; exact absurd hjc hc
        · exact hs.fl j p rr hp hj hpf hjc hqj hlj'
      · intro k hk hno
        obtain ⟨d1, d2⟩ := hs.dead k hk (fun j p rr hp hj hpf hjc hqj hlj => hno j p rr hp hj hpf hjc hqj (by
          show (listed.setIfInBounds i true).getD j false = true
          rw [hupd]
          simp only [upd]
          split
          · rfl
          · exact hlj))
        refine ⟨d1, ?_⟩
        rcases Nat.lt_or_ge k Hc.n with h0 | h0
        · exact st.nodead k h0 d2
        · cases hm : M' k with
          | none => rfl
          | some x => have := st.rel.dom k x hm; omega
      · exact st.nodead k (Nat.lt_of_lt_of_le hk hs.stp.n) (hs.free k hk hm)
    unfold wpOpIn
    rw [ho]
    simp only
    rcases hfacts i o r hol hor with ⟨hw, hev, htouch, hidsr⟩ | ⟨hw, hv, hc, hH⟩
    · -- it is wanted
      rw [hwant] at hw
      rw [if_pos (wanted_eq hts o hw)]
      have hnd := evOp_nodefer hev
      rw [hmask] at hev htouch hidsr
      -- the act with the other slots hidden
      let am : Act := { tmps := (mask (looks ops o) a.tmps.toList).toArray, defers := a.defers }
      have hrm : TRel M (mask (looks ops o) (TSgo (fun i => listed.getD i false) (ops.toList.zip recs) 0 ts0)) am.tmps.toList := by
        show TRel M _ (mask (looks ops o) a.tmps.toList).toArray.toList
        simpa using mask_rel (l := looks ops o) hts
      have hexec : execOp am.eval o = execOp a.eval o := by
        refine execOp_congr o ?_ ?_
        · intro cs b he
          have := F.nosel i o ho
          rw [he] at this; simp [noSelect] at this
        · intro x hx
          cases x with
          | tmp t =>
            have ht : t ∈ looks ops o := by
              unfold looks Oper.looksAt
              exact List.mem_append_left _ (List.mem_filterMap.2 ⟨.tmp t, by simpa using hx, rfl⟩)
            show am.tmps.getD t undef = a.tmps.getD t undef
            have e1 : am.tmps[t]? = a.tmps[t]? := by
              show (mask (looks ops o) a.tmps.toList).toArray[t]? = _
              rw [List.getElem?_toArray, mask_get]
              have hc : (looks ops o).contains t = true := by simpa using ht
              rw [hc]
              simp
            simp [Array.getD_eq_getD_getElem?, e1]
          | _ => rfl
      rcases cls_cases hev with ⟨hc, hH, hpure⟩ | ⟨hc, hrdr, hmem⟩ | hc
      · -- no memory
        have hpost : OpPost P N M Hc w r.v Hc ((execOp a.eval o).run P w) := by
          rw [← hexec]
          rcases hpure with hp | hp | hp
          · exact evShape_sound (hg0.mono hs.stp.le) hs.stp.rel hrm hp
          · exact evGen_sound (hg0.mono hs.stp.le) hs.stp.rel hrm hp
          · exact evCallOp_sound hok (flatCall_ok hcall) (hg0.mono hs.stp.le) hs.stp.rel hrm (hp _)
        refine wpIn_of hnd hpost ?_
        intro M' v' w' hv hs'
        exact ih _ M' _ w' q Hc hsz' hcnt' hcl' (hchain_same (by rw [hc]; decide)) hfl_same (hkeep (by rw [hc]; decide) hs') (hslots M' v' hs'.le hv) (hd' v')
      · -- it reads
        obtain ⟨hHe, hlog, hat⟩ := reader_at hmem hrdr
        have hget : ∀ k ∈ touchedBy G (mask (looks ops o) (TSgo (fun i => listed.getD i false) (ops.toList.zip recs) 0 ts0)) o.op, Hc.get k = r.H.get k := by
          intro k hk
          rw [← htouch] at hk
          have hk0 := F.old i r o hor ho hc k hk
          have hkn : ∀ j, k < (HT recs H' j).n := by
            intro j
            have := hmono' 0 j (Nat.zero_le j)
            rw [hT0] at this
            omega
          rw [hs.base k (hkn q), ← HT_some (H' := H') hor]
          have hone : ∀ (j : Nat) (rr : Rec), recs[j]? = some rr → j ≠ i → ((q ≤ j ∧ j < i) ∨ (i ≤ j ∧ j < q)) → (HT recs H' (j + 1)).get k = (HT recs H' j).get k := by
            intro j rr hj hji hrange
            by_cases hjc : rr.cls = 2
            · obtain ⟨p, hp⟩ := hrec hj
              cases hpf : isFloat p with
              | true =>
                obtain ⟨t, z, _, _, _, _, hpush, _⟩ := hflt hp hj hpf hjc
                have := hkn j
                rw [HT_some hj] at this ⊢
                rw [hpush, Heap.get_push_old _ _ _ this]
              | false =>
                have hn1 : ((Region.before ops).getD j 0).testBit i = false := by
                  cases hb : ((Region.before ops).getD j 0).testBit i with
                  | false => rfl
                  | true =>
                    have hlt := hblt j i hb
                    rcases hrange with ⟨h1, h2⟩ | ⟨h1, h2⟩
                    · omega
                    · have hl := (hchain j rr p hj hp hjc hpf).2 h2
                      have := hbitl j p hp hl i hb
                      rw [hif] at this; cases this
                have hn2 : ((Region.before ops).getD i 0).testBit j = false := by
                  cases hb : ((Region.before ops).getD i 0).testBit j with
                  | false => rfl
                  | true =>
                    have hlt := hblt i j hb
                    rcases hrange with ⟨h1, h2⟩ | ⟨h1, h2⟩
                    · have hl := hbit j hb
                      have := (hchain j rr p hj hp hjc hpf).1 hl
                      omega
                    · omega
                have hk1 := F.reads i j r rr o p ho hor hj hp hc hjc hpf hn1 hn2 k hk
                rcases hfacts j p rr (by simpa using hp) hj with ⟨_, hev2, _⟩ | ⟨_, _, hc0, _⟩
                · have hl := evOp_log hclog hev2
                  have hll := hlens j
                  have := hkn j
                  rw [HT_some hj] at hll this ⊢
                  exact (hl hll).2.2 k this hk1
                · rw [hc0] at hjc; cases hjc
            · rw [hstay j rr hj hjc]
          rcases Nat.le_total q i with h0 | h0
          · have := HT_span_get (recs := recs) (H' := H') (k := k) (i - q) q (fun j rr h1 h2 hj => hone j rr hj (by omega) (.inl ⟨h1, by omega⟩))
            rw [show q + (i - q) = i by omega] at this
            exact this.symm
          · have hi1 : HT recs H' (i + 1) = HT recs H' i := hstay i r hor (by rw [hc]; decide)
            rcases Nat.eq_or_lt_of_le h0 with h3 | h3
            · rw [← h3]
            · have := HT_span_get (recs := recs) (H' := H') (k := k) (q - (i + 1)) (i + 1) (fun j rr h1 h2 hj => hone j rr hj (by omega) (.inr ⟨by omega, by omega⟩))
              rw [show i + 1 + (q - (i + 1)) = q by omega, hi1] at this
              exact this
        have hmem2 := hat Hc hget
        have hpost : OpPost P N M Hc w r.v Hc ((execOp a.eval o).run P w) := by
          rw [← hexec]
          exact evMem_sound (hg0.mono hs.stp.le) hs.stp.rel hrm hmem2
        refine wpIn_of hnd hpost ?_
        intro M' v' w' hv hs'
        exact ih _ M' _ w' q Hc hsz' hcnt' hcl' (hchain_same (by rw [hc]; decide)) hfl_same (hkeep (by rw [hc]; decide) hs') (hslots M' v' hs'.le hv) (hd' v')
      · cases hff : isFloat o with
        | true =>
          -- a new cell, perhaps ahead of its turn
          have hqi : q ≤ i := by
            rcases Nat.lt_or_ge i q with h0 | h0
            · have := hfl i r o hor ho hc hff h0
              rw [hif] at this; cases this
            · exact h0
          obtain ⟨t, z, hop, hz, hzf, hrv, hpush, _⟩ := hflt ho hor hff hc
          have hrn : r.H.n = (HT recs H' i).n := by rw [HT_some hor]
          have hqn : (HT recs H' q).n ≤ r.H.n := by rw [hrn]; exact hmono' q i hqi
          have hkn : r.H.n < Hc.n := by
            have h1 := hn' (i + 1)
            rw [hpush] at h1
            have h2 : r.H.n + 1 ≤ H'.n := h1
            rw [hs.n]; omega
          -- other new cells have other names
          have hother : ∀ j p rr, ops[j]? = some p → recs[j]? = some rr → isFloat p = true → rr.cls = 2 → j ≠ i → rr.H.n ≠ r.H.n := by
            intro j p rr hp hj hpf hjc hji e
            have e1 : rr.H.n = (HT recs H' j).n := by rw [HT_some hj]
            obtain ⟨_, _, _, _, _, _, hpj, _⟩ := hflt hp hj hpf hjc
            have n1 : (HT recs H' (j + 1)).n = rr.H.n + 1 := by rw [hpj]; rfl
            have n2 : (HT recs H' (i + 1)).n = r.H.n + 1 := by rw [hpush]; rfl
            rcases Nat.lt_or_ge j i with h0 | h0
            · have := hmono' (j + 1) i (by omega); omega
            · have := hmono' (i + 1) j (by omega); omega
          obtain ⟨d1, d2⟩ := hs.dead r.H.n hqn (fun j p rr hp hj hpf hjc hqj hlj => hother j p rr hp hj hpf hjc (fun e => by
            subst e
            have : listed.getD j false = true := hlj
            rw [hif] at this; cases this))
          let Hc' : Heap := Hc.set r.H.n (.cells z.cells.toList t 0 1)
          have hg' : ∀ j, Hc'.get j = if j = r.H.n then (AObj.cells z.cells.toList t 0 1) else Hc.get j := by
            intro j
            by_cases hj : j = r.H.n
            · subst hj; rw [if_pos rfl]; exact Heap.get_set_same Hc _ _ hs.len hkn
            · rw [if_neg hj]; exact Heap.get_set_ne Hc _ _ _ hj
          have hcells := (vrel_of_flat M z hzf).cells
          have hstw : Stw N M Hc w (M.put r.H.n (w.heap.size, 0, 0)) Hc' (w.alloc (.cells z.cells t)) := by
            refine Stw.revive hs.stp.rel hkn d2 (.cells z.cells.toList t 0 1) (.cells z.cells t) rfl ?_ (by show (Hc.set _ _).objs.length = (Hc.set _ _).n; rw [Heap.len_set, Heap.n_set]; exact hs.len) (Heap.n_set _ _ _) hg'
            intro M2 hle w2 hw2
            refine ⟨z.cells, (0, 0), hw2, by simp, ?_, fun _ => ⟨hs.stp.rel.base, rfl, fun i _ h => by simp at h⟩, fun _ => rfl, fun h => absurd h (by decide)⟩
            intro n v hv
            have hv2 : z.cells.toList[n]? = some v := hv
            obtain ⟨v', h1, h2⟩ := hcells.toList.get hv2
            exact ⟨v', by simpa using h1, h2.mono hle⟩
          have hexe : (execOp a.eval o).run P w = .ok (.value (.pointer (some ⟨w.heap.size, 0, none⟩))) (w.alloc (.cells z.cells t)) := by
            obtain ⟨dd, op, ty, pos, after, g⟩ := o
            simp only at hop
            subst hop
            simp only [execOp, Instr.alloc, newVar, newRow, Sem.run_bind, Sem.run_pure, Result.andThen_ok, run_of_eval0 hz, run_newObj]
            rfl
          have hvr : VRel (M.put r.H.n (w.heap.size, 0, 0)) r.v (.pointer (some ⟨w.heap.size, 0, none⟩)) := by
            rw [hrv]
            have := VRel.ptr (M := M.put r.H.n (w.heap.size, 0, 0)) (k := r.H.n) (off := 0) (Emb.put_same _ _ _)
            simpa using this
          refine ⟨fun _ _ => True.intro, ?_⟩
          rw [Oper.semAt_eq _ _ _ hnd, hexe, Oper.uponIn_value]
          refine ih _ _ _ _ q Hc' hsz' hcnt' hcl' ?_ hfl_same ?_ (hslots _ _ hstw.le hvr) (hd' _)
          · intro j rr p hj hp hjc hpf
            rw [hupd]
            simp only [upd]
            split
            · rename_i hji; subst hji; rw [ho] at hp; cases hp; rw [hff] at hpf; cases hpf
            · exact hchain j rr p hj hp hjc hpf
          · refine ⟨by show (Hc.set _ _).objs.length = (Hc.set _ _).n; rw [Heap.len_set, Heap.n_set]; exact hs.len, by show (Hc.set _ _).n = _; rw [Heap.n_set]; exact hs.n, ?_, ?_, ?_, hs.closed, hs.stp.trans hstw, ?_⟩
            · intro k hk
              rw [hg', if_neg (by omega)]; exact hs.base k hk
            · intro j p rr hp hj hpf hjc hqj hlj
              by_cases hji : j = i
              · subst hji
                rw [hor] at hj; cases hj
                rw [hg', if_pos rfl, hpush, Heap.get_push_new]
              · rw [hg', if_neg (hother j p rr hp hj hpf hjc hji)]
                have hlj' : (listed.setIfInBounds i true).getD j false = true := hlj
                rw [hupd] at hlj'
                simp only [upd, hji, if_false] at hlj'
                exact hs.fl j p rr hp hj hpf hjc hqj hlj'
            · intro k hk hno
              have hki : r.H.n ≠ k := hno i o r ho hor hff hc hqi (by
                show (listed.setIfInBounds i true).getD i false = true
                rw [hupd]; simp [upd])
              obtain ⟨d3, d4⟩ := hs.dead k hk (fun j p rr hp hj hpf hjc hqj hlj => hno j p rr hp hj hpf hjc hqj (by
                show (listed.setIfInBounds i true).getD j false = true
                rw [hupd]
                simp only [upd]
                split
                · rfl
                · exact hlj))
              refine ⟨by rw [hg', if_neg (Ne.symm hki)]; exact d3, by rw [Emb.put_ne _ _ _ _ (Ne.symm hki)]; exact d4⟩
            · intro k hk hm
              have : H0.n ≤ (HT recs H' q).n := by have := hmono' 0 q (Nat.zero_le q); rwa [hT0] at this
              rw [Emb.put_ne _ _ _ _ (by omega)]
              exact hs.free k hk hm
        | false =>
          -- it turns memory
          have hqi : q ≤ i := by
            rcases Nat.lt_or_ge i q with h0 | h0
            · have := (hchain i r o hor ho hc hff).2 h0
              rw [hif] at this; cases this
            · exact h0
          have hbefore : ∀ j rr p, recs[j]? = some rr → ops[j]? = some p → rr.cls = 2 → j < i → listed.getD j false = true := fun j rr p hj hp hjc hji => hbit j (F.chain j i rr r p o hp hj hor ho hjc hc hff hji)
          have hrH : HT recs H' i = r.H := HT_some hor
          have hpre : ∀ k, k < r.H.n → Hc.get k = r.H.get k := by
            intro k hk
            have eqi : q + (i - q) = i := by omega
            rcases hspan (i - q) q (by
              intro j rr p h1 h2 hj hp hjc
              cases hpf : isFloat p with
              | true => rfl
              | false =>
                have := (hchain j rr p hj hp hjc hpf).1 (hbefore j rr p hj hp hjc (by omega))
                omega) k (by rw [eqi, hrH]; exact hk) with ⟨h1, h2⟩ | ⟨j, p, rr, a1, a2, a3, a4, a5, a6, a7, a8⟩
            · rw [eqi, hrH] at h2; rw [h2]; exact hs.base k h1
            · rw [eqi, hrH] at a8; rw [a8, ← a7]; exact hs.fl j p rr a1 a2 a3 a4 a5 (hbefore j rr p a2 a1 a4 (by omega))
          have hqn : (HT recs H' q).n ≤ r.H.n := by rw [← hrH]; exact hmono' q i hqi
          have h1n : (HT recs H' (i + 1)).n ≤ Hc.n := by rw [hs.n]; exact hn' (i + 1)
          have hrn : r.H.n ≤ (HT recs H' (i + 1)).n := by rw [← hrH]; exact hmono1 i
          have hfree1 : ∀ k, r.H.n ≤ k → k < (HT recs H' (i + 1)).n → Hc.get k = .dead ∧ M k = none := by
            intro k hk1 hk2
            refine hs.dead k (Nat.le_trans hqn hk1) (fun j p rr hp hj hpf hjc hqj hlj e => ?_)
            have e1 : rr.H.n = (HT recs H' j).n := by rw [HT_some hj]
            have hji : j ≠ i := fun e2 => by subst e2; rw [ho] at hp; cases hp; rw [hff] at hpf; cases hpf
            rcases Nat.lt_or_ge j i with h0 | h0
            · obtain ⟨_, _, _, _, _, _, hpj, _⟩ := hflt hp hj hpf hjc
              have n1 : (HT recs H' (j + 1)).n = rr.H.n + 1 := by rw [hpj]; rfl
              have := hmono' (j + 1) i (by omega)
              rw [hrH] at this
              omega
            · have := hmono' (i + 1) j (by omega); omega
          -- what lies there names what lies there
          have hcl2 : ∀ k, k < r.H.n → ∀ j ∈ (r.H.get k).ids, j < r.H.n := by
            intro k hk j hj
            have eqi : q + (i - q) = i := by omega
            rcases hspan (i - q) q (by
              intro j rr p h1 h2 hj hp hjc
              cases hpf : isFloat p with
              | true => rfl
              | false =>
                have := (hchain j rr p hj hp hjc hpf).1 (hbefore j rr p hj hp hjc (by omega))
                omega) k (by rw [eqi, hrH]; exact hk) with ⟨h1, h2⟩ | ⟨j2, p, rr, a1, a2, a3, a4, a5, a6, a7, a8⟩
            · rw [eqi, hrH] at h2
              rw [h2] at hj
              exact Nat.lt_of_lt_of_le (hs.closed k h1 j hj) hqn
            · rw [eqi, hrH] at a8
              obtain ⟨t, z, _, _, hzf, _, hpush, _⟩ := hflt a1 a2 a3 a4
              rw [a8, ← a7, hpush, Heap.get_push_new] at hj
              have hzz : flatL z.cells.toList = true := by
                cases z with
                | agg c => cases c with | mk l => have h9 : flatL l = true := by simpa [flat, flatA] using hzf
                                                  exact h9
                | _ => simp [Value.cells, flatL, hzf]
              simp [AObj.ids, hzz] at hj
          -- the run over the first objects
          have hMle : Emb.le (fun k => if k < r.H.n then M k else none) M := by
            intro k x hx
            have hx' : (if k < r.H.n then M k else none) = some x := hx
            split at hx'
            · exact hx'
            · cases hx'
          have hrr : HRel (fun k => if k < r.H.n then M k else none) N r.H w := by
            have hr := hs.stp.rel
            refine ⟨by have := hlens i; rwa [hrH] at this, ?_, ?_, ?_, hr.base⟩
            · intro k x hx
              have hx' : (if k < r.H.n then M k else none) = some x := hx
              split at hx'
              · assumption
              · cases hx'
            · intro k hk
              have hkn := Heap.lt_of_live hk
              have hkc := hk
              rw [← hpre k hkn] at hkc
              obtain ⟨b, oo, sp, q1, q2⟩ := hr.obj k hkc
              refine ⟨b, oo, sp, by show (if k < r.H.n then M k else none) = _; rw [if_pos hkn]; exact q1, ?_⟩
              rw [hpre k hkn] at q2
              -- its cells name what was there alone
              exact obj_cut q2 (hcl2 k hkn)
            · intro k k' b o1 sp b' o1' sp' hne h1 h2 hm hm'
              have hk := Heap.lt_of_live (AObj.live_of_owned h1)
              have hk' := Heap.lt_of_live h2
              have hm2 : (if k < r.H.n then M k else none) = some (b, o1, sp) := hm
              have hm2' : (if k' < r.H.n then M k' else none) = some (b', o1', sp') := hm'
              rw [if_pos hk] at hm2
              rw [if_pos hk'] at hm2'
              exact hr.apart k k' b o1 sp b' o1' sp' hne (by rw [hpre k hk]; exact h1) (by rw [hpre k' hk']; exact h2) hm2 hm2'
          have hrm2 : TRel (fun k => if k < r.H.n then M k else none) (mask (looks ops o) (TSgo (fun i => listed.getD i false) (ops.toList.zip recs) 0 ts0)) am.tmps.toList :=
            ⟨hrm.1, fun t u u' h1 h2 h3 => vrel_cut (hrm.2 t u u' h1 h2 h3) (fun k hk => F.names i r o hor ho hc hff k (by rw [hidsr]; exact idsL_get _ t u h1 k hk))⟩
          have h0n : H0.n ≤ r.H.n := by have := hmono' 0 i (Nat.zero_le i); rwa [hT0, hrH] at this
          have hgM : Globs G (fun k => if k < r.H.n then M k else none) := by
            intro g hg
            have h1 := hr0.dom g _ (hg0 g hg)
            show (if g < r.H.n then M g else none) = some (g, 0, 0)
            rw [if_pos (by omega)]
            exact hs.stp.le g _ (hg0 g hg)
          rw [hc] at hev
          have hpost := evOp_sound (w := w) hok hcall hy hgM hrr hrm2 hev
          rw [hexec] at hpost
          refine wpIn_of hnd hpost ?_
          intro M1 v' w' hv hs1
          have hlen1 : (HT recs H' (i + 1)).objs.length = (HT recs H' (i + 1)).n := hlens (i + 1)
          have hgo := overlay_get hlen1 hs.len h1n
          have hlogi := evOp_log hclog hev (by have := hlens i; rwa [hrH] at this)
          have hst2 := Stw.front (Hc' := overlay (HT recs H' (i + 1)) Hc) hs.stp.rel hpre (by omega) hs1 h1n (fun k h1 h2 => (hfree1 k h1 h2).1) (fun k h1 h2 => (hfree1 k h1 h2).2) (fun k h1 h2 => F.fresh i r o hor ho hc hff k h1 h2)
            (fun k hk hl => by
              by_cases hkl : k ∈ r.log
              · exact F.keep i r o hor ho hc hff k hkl hl
              · rwa [hlogi.2.2 k hk hkl] at hl) (overlay_len hlen1 hs.len h1n) rfl hgo
          have hM12 : Emb.le M1 (fun k => if k < (HT recs H' (i + 1)).n then M1 k else M k) := by
            intro k x hx
            show (if k < (HT recs H' (i + 1)).n then M1 k else M k) = some x
            rw [if_pos (hs1.rel.dom k x hx)]; exact hx
          refine ih _ (fun k => if k < (HT recs H' (i + 1)).n then M1 k else M k) _ w' (i + 1) (overlay (HT recs H' (i + 1)) Hc) hsz' hcnt' hcl' ?_ ?_ ?_ (hslots _ v' hst2.le (hv.mono hM12)) (hd' v')
          · intro j rr p hj hp hjc hpf
            rw [hupd]
            simp only [upd]
            split
            · rename_i hji; subst hji; simp
            · rename_i hji
              constructor
              · intro hl
                have := (hchain j rr p hj hp hjc hpf).1 hl
                omega
              · intro hlt
                exact hbefore j rr p hj hp hjc (by omega)
          · intro j rr p hj hp hjc hpf hlt
            rw [hupd]
            simp only [upd]
            split
            · rfl
            · exact hbefore j rr p hj hp hjc (by omega)
          · refine ⟨overlay_len hlen1 hs.len h1n, hs.n, fun k hk => by rw [hgo, if_pos hk], ?_, ?_, ?_, hs.stp.trans hst2, ?_⟩
            · intro j p rr hp hj hpf hjc hqj hlj
              have e1 : rr.H.n = (HT recs H' j).n := by rw [HT_some hj]
              have := hmono' (i + 1) j hqj
              rw [hgo, if_neg (by omega)]
              have hlj' : (listed.setIfInBounds i true).getD j false = true := hlj
              rw [hupd] at hlj'
              have hji : j ≠ i := by omega
              simp only [upd, hji, if_false] at hlj'
              exact hs.fl j p rr hp hj hpf hjc (by omega) hlj'
            · intro k hk hno
              obtain ⟨d3, d4⟩ := hs.dead k (by omega) (fun j p rr hp hj hpf hjc hqj hlj => by
                have hji : j ≠ i := fun e2 => by subst e2; rw [ho] at hp; cases hp; rw [hff] at hpf; cases hpf
                have e1 : rr.H.n = (HT recs H' j).n := by rw [HT_some hj]
                rcases Nat.lt_or_ge j i with h0 | h0
                · obtain ⟨_, _, _, _, _, _, hpj, _⟩ := hflt hp hj hpf hjc
                  have n1 : (HT recs H' (j + 1)).n = rr.H.n + 1 := by rw [hpj]; rfl
                  have := hmono' (j + 1) (i + 1) (by omega)
                  omega
                · exact hno j p rr hp hj hpf hjc (by omega) (by
                    show (listed.setIfInBounds i true).getD j false = true
                    rw [hupd]
                    simp only [upd]
                    split
                    · rfl
                    · exact hlj))
              refine ⟨by rw [hgo, if_neg (by omega)]; exact d3, ?_⟩
              show (if k < (HT recs H' (i + 1)).n then M1 k else M k) = none
              rw [if_neg (by omega)]; exact d4
            · intro k hk j hj
              cases hl : ((HT recs H' (i + 1)).get k).live with
              | true =>
                obtain ⟨b, oo, sp, q1, q2⟩ := hs1.rel.obj k hl
                obtain ⟨x, hx⟩ := ids_obj q2 j hj
                exact hs1.rel.dom j x hx
              | false =>
                cases hg : (HT recs H' (i + 1)).get k with
                | dead => rw [hg] at hj; cases hj
                | cells _ _ _ _ => rw [hg] at hl; cases hl
                | iter _ _ => rw [hg] at hj; cases hj
                | loop _ => rw [hg] at hl; cases hl
            · intro k hk hm
              show (if k < (HT recs H' (i + 1)).n then M1 k else M k) = none
              rw [if_pos (by omega)]
              refine hs1.nodead k (by omega) ?_
              show (if k < r.H.n then M k else none) = none
              rw [if_pos (by omega)]
              exact hs.free k hk hm
    · -- it is passed over
      rw [hwant] at hw
      rw [if_neg (by rw [wanted_eq hts o hw]; decide)]
      refine ⟨fun _ _ => True.intro, ?_⟩
      exact ih _ M _ w q Hc hsz' hcnt' hcl' (hchain_same (by rw [hc]; decide)) hfl_same (hkeep (by rw [hc]; decide) (Stp.refl hs.stp.rel)) (hslots M undef (Emb.le_refl M) (by rw [hv]; exact vrel_undef)) (hd' undef)
end
end Go.Dg
