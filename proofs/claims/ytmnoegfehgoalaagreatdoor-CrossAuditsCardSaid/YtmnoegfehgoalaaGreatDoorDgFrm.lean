/- What a call comes to over a small heap it comes to over every heap that holds it. -/
import Derived.Test.YtmnoegfehgoalaaGreatDoorDgFrame
namespace Go.Dg
set_option linter.unusedVariables false
/-- What one call comes to. -/
def SCall (P : Program) (f : FuncId) (args : List Value) (H : Heap) (v : Value) (H' : Heap) (log : List Nat) : Prop :=
  (∀ N M w (args' : Array Value), HRel M N H w → LRel M args (Array.toList args') → Calls P f args' w fun e w' => ∃ M' v', e = .returned v' ∧ VRel M' v v' ∧ Stp N M H w M' H' w') ∧ LogOk H H' log
/-- The names of a small heap's objects in the great one. -/
def back (L : List Nat) (n : Nat) (i : Nat) : Nat := if i < L.length then L.getD i 0 else n + (i - L.length)
theorem nodup_get {L : List Nat} (h : L.Nodup) {i j k : Nat} (hi : L[i]? = some k) (hj : L[j]? = some k) : i = j := by
  have hil : i < L.length := by
    rcases Nat.lt_or_ge i L.length with h0 | h0
    · exact h0
    · rw [List.getElem?_eq_none h0] at hi; cases hi
  exact (List.getElem?_inj hil h).1 (hi.trans hj.symm)
theorem SCall.frame {P : Program} {f : FuncId} {args' : List Value} {h : Heap} {v' : Value} {h' : Heap} {log' : List Nat} (hs : SCall P f args' h v' h' log') (L : List Nat) {H H' : Heap} {args : List Value} {v : Value} {log : List Nat}
    (hL : L.Nodup) (hn : h.n = L.length) (hlen : h.objs.length = h.n) (hlt : ∀ k ∈ L, k < H.n)
    (hobj : ∀ i k, L[i]? = some k → (H.get k).live = true ∧ (∀ j ∈ (H.get k).ids, j ∈ L) ∧ (H.get k).ren (renK 0 L) = h.get i)
    (hargs : renL (renK 0 L) args = args') (hids : ∀ k ∈ idsOfL args, k ∈ L)
    (hlenH : H.objs.length = H.n → H'.objs.length = H'.n) (hn' : H'.n = H.n + (h'.n - h.n))
    (hold : ∀ k, k < H.n → k ∉ L → H'.get k = H.get k) (him : ∀ i k, L[i]? = some k → H'.get k = (h'.get i).ren (back L H.n))
    (hnew : ∀ i, i < h'.n - h.n → H'.get (H.n + i) = (h'.get (h.n + i)).ren (back L H.n) ∧ ((h'.get (h.n + i)).live = true → (h'.get (h.n + i)).owned = true))
    (hv : v = renV (back L H.n) v') (hlog : ∀ k, k < H.n → k ∉ log → H'.get k = H.get k) : SCall P f args H v H' log := by
  refine ⟨fun N M w xs hr hl => ?_, fun h0 => ⟨hlenH h0, by rw [hn']; exact Nat.le_add_right _ _, hlog⟩⟩
  let m : Emb := fun i => (L[i]?).bind M
  have hm : ∀ k x, M k = some x → k ∈ L → m (renK 0 L k) = some x := by
    intro k x hx hk
    show (L[renK 0 L k]?).bind M = some x
    have : renK 0 L k = L.idxOf k := by simp [renK]
    rw [this, idxOf_get hk]
    exact hx
  have lt_of : ∀ {i : Nat}, i < h.n → ∃ k, L[i]? = some k := fun {i} hi => ⟨L[i]'(by omega), List.getElem?_eq_getElem (by omega)⟩
  have get_lt : ∀ {i k : Nat}, L[i]? = some k → i < L.length := by
    intro i k hi
    rcases Nat.lt_or_ge i L.length with h0 | h0
    · exact h0
    · rw [List.getElem?_eq_none h0] at hi; cases hi
  have mem_of : ∀ {i k : Nat}, L[i]? = some k → k ∈ L := fun hi => List.mem_of_getElem? hi
  have hmk : ∀ {i k : Nat}, L[i]? = some k → m i = M k := by intro i k hi; show (L[i]?).bind M = M k; rw [hi]; rfl
  have hrm : HRel m N h w := by
    refine ⟨hlen, ?_, ?_, ?_, hr.base⟩
    · intro i x hx
      have : (L[i]?).bind M = some x := hx
      cases hi : L[i]? with
      | none => rw [hi] at this; cases this
      | some k => rw [hn]; exact get_lt hi
    · intro i hi
      obtain ⟨k, hk⟩ := lt_of (Heap.lt_of_live hi)
      obtain ⟨o1, o2, o3⟩ := hobj i k hk
      obtain ⟨b, o, sp, q1, q2⟩ := hr.obj k o1
      refine ⟨b, o, sp, by rw [hmk hk]; exact q1, ?_⟩
      rw [← o3]
      exact obj_ren (good := fun k => k ∈ L) hm q2 o2
    · intro i j b o sp b' o' sp' hij hoi hlj hi hj
      obtain ⟨k, hk⟩ := lt_of (Heap.lt_of_live (AObj.live_of_owned hoi))
      obtain ⟨k', hk'⟩ := lt_of (Heap.lt_of_live hlj)
      rw [hmk hk] at hi
      rw [hmk hk'] at hj
      have hne : k ≠ k' := fun e => hij (nodup_get hL hk (e ▸ hk'))
      refine hr.apart k k' b o sp b' o' sp' hne ?_ (hobj j k' hk').1 hi hj
      rw [← ren_owned (f := renK 0 L), (hobj i k hk).2.2]; exact hoi
  have hlm : LRel m args' xs.toList := by
    rw [← hargs]
    refine ⟨by rw [renL_length]; exact hl.1, fun i u u' h1 h2 => ?_⟩
    rw [renL_get, Option.map_eq_some_iff] at h1
    obtain ⟨u0, hu0, rfl⟩ := h1
    exact vrel_ren (good := fun k => k ∈ L) hm (hl.2 i u0 u' hu0 h2) (fun k hk => hids k (idsL_get args i u0 hu0 k hk))
  refine (hs.1 N m w xs hrm hlm).mono ?_
  rintro e w' ⟨M1, u, rfl, hu, st⟩
  have hn1 : h.n ≤ h'.n := st.n
  have hlen' : h'.objs.length = h'.n := st.rel.len
  -- the objects' places behind the call
  let M' : Emb := fun j => if j < H.n then M j else if j < H'.n then M1 (h.n + (j - H.n)) else none
  have live_m : ∀ {i k : Nat}, L[i]? = some k → ∃ x, M k = some x ∧ m i = some x ∧ M1 i = some x := by
    intro i k hk
    obtain ⟨b, o, sp, q1, _⟩ := hr.obj k (hobj i k hk).1
    exact ⟨_, q1, by rw [hmk hk]; exact q1, st.le i _ (by rw [hmk hk]; exact q1)⟩
  have hback : ∀ i x, M1 i = some x → True → M' (back L H.n i) = some x := by
    intro i x hx _
    have hi := st.rel.dom i x hx
    unfold back
    by_cases h0 : i < L.length
    · have hk : L[i]? = some L[i] := List.getElem?_eq_getElem h0
      obtain ⟨y, y1, y2, y3⟩ := live_m hk
      rw [if_pos h0]
      have e : L.getD i 0 = L[i] := by simp [List.getD_eq_getElem?_getD, h0]
      rw [e]
      show (if L[i] < H.n then M L[i] else _) = some x
      rw [if_pos (hlt _ (List.getElem_mem h0)), y1, ← y3, hx]
    · rw [if_neg h0]
      show (if H.n + (i - L.length) < H.n then _ else if H.n + (i - L.length) < H'.n then M1 (h.n + (H.n + (i - L.length) - H.n)) else none) = some x
      rw [if_neg (by omega), if_pos (by omega)]
      have : h.n + (H.n + (i - L.length) - H.n) = i := by omega
      rw [this, hx]
  have hle : Emb.le M M' := by
    intro k x hx
    show (if k < H.n then M k else _) = some x
    rw [if_pos (hr.dom k x hx)]; exact hx
  have hvr : ∀ {u u' : Value}, VRel M1 u u' → VRel M' (renV (back L H.n) u) u' := fun hu => vrel_ren (good := fun _ => True) hback hu (fun _ _ => trivial)
  -- which object of the great heap is which
  have M'old : ∀ {k : Nat}, k < H.n → M' k = M k := fun {k} hk => by show (if k < H.n then M k else _) = M k; rw [if_pos hk]
  have M'new : ∀ {k : Nat}, H.n ≤ k → k < H'.n → M' k = M1 (h.n + (k - H.n)) := fun {k} h1 h2 => by
    show (if k < H.n then M k else if k < H'.n then M1 (h.n + (k - H.n)) else none) = _
    rw [if_neg (by omega), if_pos h2]
  have sort : ∀ k, (H'.get k).live = true → (∃ i, L[i]? = some k ∧ H'.get k = (h'.get i).ren (back L H.n) ∧ M' k = M1 i) ∨ (k ∉ L ∧ k < H.n ∧ H'.get k = H.get k) ∨
      (∃ i, h.n ≤ i ∧ H.n ≤ k ∧ i = h.n + (k - H.n) ∧ H'.get k = (h'.get i).ren (back L H.n) ∧ M' k = M1 i ∧ ((h'.get i).live = true → (h'.get i).owned = true)) := by
    intro k hk
    have hkn := Heap.lt_of_live hk
    by_cases h0 : k < H.n
    · by_cases h1 : k ∈ L
      · left
        obtain ⟨i, hi⟩ := List.mem_iff_getElem?.1 h1
        obtain ⟨x, x1, x2, x3⟩ := live_m hi
        exact ⟨i, hi, him i k hi, by rw [M'old h0, x1, x3]⟩
      · right; left
        exact ⟨h1, h0, hold k h0 h1⟩
    · right; right
      refine ⟨h.n + (k - H.n), by omega, by omega, rfl, ?_, M'new (by omega) hkn, ?_⟩
      · have := (hnew (k - H.n) (by omega)).1
        rwa [show H.n + (k - H.n) = k by omega] at this
      · exact (hnew (k - H.n) (by omega)).2
  -- blocks of the great heap's other objects stay
  have stay : ∀ {k b o sp : Nat}, k ∉ L → k < H.n → (H.get k).live = true → M k = some (b, o, sp) → w'.heap[b]? = w.heap[b]? ∧ b < w.heap.size := by
    intro k b o sp h1 h2 h3 h4
    obtain ⟨b1, o1, sp1, q1, q2⟩ := hr.obj k h3
    rw [h4] at q1; cases q1
    have hb := q2.lt h3
    refine ⟨st.frame b hb fun i o' sp' hoi hi => ?_, hb⟩
    obtain ⟨k2, hk2⟩ := lt_of (Heap.lt_of_live (AObj.live_of_owned hoi))
    rw [hmk hk2] at hi
    have hne : k2 ≠ k := fun e => h1 (e ▸ mem_of hk2)
    exact hr.apart k2 k b o' sp' b o sp hne (by rw [← ren_owned (f := renK 0 L), (hobj i k2 hk2).2.2]; exact hoi) h3 hi h4 rfl
  -- whose block an owned object of the small heap has
  have ownS : ∀ {i b o sp : Nat}, (h'.get i).owned = true → M1 i = some (b, o, sp) → w.heap.size ≤ b ∨ ∃ k o' sp', k ∈ L ∧ (H.get k).owned = true ∧ M k = some (b, o', sp') := by
    intro i b o sp h1 h2
    rcases st.own i b o sp h1 h2 with h3 | ⟨j, o', sp', h3, h4⟩
    · exact .inl h3
    · obtain ⟨k, hk⟩ := lt_of (Heap.lt_of_live (AObj.live_of_owned h3))
      rw [hmk hk] at h4
      exact .inr ⟨k, o', sp', mem_of hk, by rw [← ren_owned (f := renK 0 L), (hobj j k hk).2.2]; exact h3, h4⟩
  have part : ∀ {i k b o sp b' o' sp' : Nat}, (h'.get i).owned = true → M1 i = some (b, o, sp) → k ∉ L → k < H.n → (H.get k).live = true → M k = some (b', o', sp') → b ≠ b' := by
    intro i k b o sp b' o' sp' h1 h2 h3 h4 h5 h6 e
    subst e
    rcases ownS h1 h2 with h7 | ⟨k2, o2, sp2, h7, h8, h9⟩
    · have := (stay h3 h4 h5 h6).2; omega
    · exact hr.apart k2 k b o2 sp2 b o' sp' (fun e => h3 (e ▸ h7)) h8 h5 h9 h6 rfl
  have rel' : HRel M' N H' w' := by
    refine ⟨hlenH hr.len, ?_, ?_, ?_, st.rel.base⟩
    · intro k x hx
      have hx' : (if k < H.n then M k else if k < H'.n then M1 (h.n + (k - H.n)) else none) = some x := hx
      split at hx'
      · omega
      · split at hx'
        · assumption
        · cases hx'
    · intro k hk
      rcases sort k hk with ⟨i, h1, h2, h3⟩ | ⟨h1, h2, h3⟩ | ⟨i, _, _, h1, h2, h3, _⟩
      · rw [h2, ren_live] at hk
        obtain ⟨b, o, sp, q1, q2⟩ := st.rel.obj i hk
        refine ⟨b, o, sp, by rw [h3]; exact q1, ?_⟩
        rw [h2]
        exact obj_ren (good := fun _ => True) hback q2 (fun _ _ => trivial)
      · rw [h3] at hk
        obtain ⟨b, o, sp, q1, q2⟩ := hr.obj k hk
        refine ⟨b, o, sp, by rw [M'old h2]; exact q1, ?_⟩
        rw [h3]
        exact (q2.mono hle).block (stay h1 h2 hk q1).1
      · rw [h2, ren_live] at hk
        obtain ⟨b, o, sp, q1, q2⟩ := st.rel.obj i hk
        refine ⟨b, o, sp, by rw [h3]; exact q1, ?_⟩
        rw [h2]
        exact obj_ren (good := fun _ => True) hback q2 (fun _ _ => trivial)
    · intro k k' b o sp b' o' sp' hne hko hkl hb hb'
      rcases sort k (AObj.live_of_owned hko) with ⟨i, h1, h2, h3⟩ | ⟨h1, h2, h3⟩ | ⟨i, hi0, hk0, h1, h2, h3, hnw⟩
      · rw [h2, ren_owned] at hko
        rw [h3] at hb
        rcases sort k' hkl with ⟨j, g1, g2, g3⟩ | ⟨g1, g2, g3⟩ | ⟨j, hj0, hk1, g1, g2, g3, _⟩
        · rw [g2, ren_live] at hkl
          rw [g3] at hb'
          exact st.rel.apart i j b o sp b' o' sp' (fun e => hne (by subst e; rw [h1] at g1; cases g1; rfl)) hko hkl hb hb'
        · rw [g3] at hkl
          rw [M'old g2] at hb'
          exact part hko hb g1 g2 hkl hb'
        · rw [g2, ren_live] at hkl
          rw [g3] at hb'
          exact st.rel.apart i j b o sp b' o' sp' (fun e => by have := get_lt h1; omega) hko hkl hb hb'
      · rw [h3] at hko
        rw [M'old h2] at hb
        rcases sort k' hkl with ⟨j, g1, g2, g3⟩ | ⟨g1, g2, g3⟩ | ⟨j, hj0, hk1, g1, g2, g3, gnw⟩
        · obtain ⟨x, x1, x2, x3⟩ := live_m g1
          rw [g3, x3] at hb'
          cases hb'
          exact hr.apart k k' b o sp b' o' sp' hne hko (hobj j k' g1).1 hb x1
        · rw [g3] at hkl
          rw [M'old g2] at hb'
          exact hr.apart k k' b o sp b' o' sp' hne hko hkl hb hb'
        · rw [g2, ren_live] at hkl
          rw [g3] at hb'
          exact fun e => part (gnw hkl) hb' h1 h2 (AObj.live_of_owned hko) hb e.symm
      · rw [h2, ren_owned] at hko
        rw [h3] at hb
        rcases sort k' hkl with ⟨j, g1, g2, g3⟩ | ⟨g1, g2, g3⟩ | ⟨j, hj0, hk1, g1, g2, g3, _⟩
        · rw [g2, ren_live] at hkl
          rw [g3] at hb'
          exact st.rel.apart i j b o sp b' o' sp' (fun e => by have := get_lt g1; omega) hko hkl hb hb'
        · rw [g3] at hkl
          rw [M'old g2] at hb'
          exact part hko hb g1 g2 hkl hb'
        · rw [g2, ren_live] at hkl
          rw [g3] at hb'
          exact st.rel.apart i j b o sp b' o' sp' (fun e => hne (by omega)) hko hkl hb hb'
  refine ⟨M', u, rfl, by rw [hv]; exact hvr hu, ⟨hle, rel', st.size, st.os, st.tape, st.output, by rw [hn']; exact Nat.le_add_right _ _, ?_, ?_⟩, fun j hj hm => by rw [M'old hj]; exact hm⟩
  · intro k b o sp hko hb
    rcases sort k (AObj.live_of_owned hko) with ⟨i, h1, h2, h3⟩ | ⟨h1, h2, h3⟩ | ⟨i, _, _, h1, h2, h3, _⟩
    · rw [h2, ren_owned] at hko
      rw [h3] at hb
      rcases ownS hko hb with q | ⟨k2, o2, sp2, _, q2, q3⟩
      · exact .inl q
      · exact .inr ⟨k2, o2, sp2, q2, q3⟩
    · rw [h3] at hko
      rw [M'old h2] at hb
      exact .inr ⟨k, o, sp, hko, hb⟩
    · rw [h2, ren_owned] at hko
      rw [h3] at hb
      rcases ownS hko hb with q | ⟨k2, o2, sp2, _, q2, q3⟩
      · exact .inl q
      · exact .inr ⟨k2, o2, sp2, q2, q3⟩
  · intro b hb hfree
    refine st.frame b hb fun i o sp hoi hi => ?_
    obtain ⟨k, hk⟩ := lt_of (Heap.lt_of_live (AObj.live_of_owned hoi))
    rw [hmk hk] at hi
    exact hfree k o sp (by rw [← ren_owned (f := renK 0 L), (hobj i k hk).2.2]; exact hoi) hi
/-! ### Calls whose outcome is said by a law. -/
abbrev Law := List Value → Heap → Value × Heap × List Nat → Prop
open Classical in
noncomputable def ofLaw (C : Law) (args : List Value) (H : Heap) : Option (Value × Heap × List Nat) := if h : ∃ r, C args H r then some (Classical.choose h) else none
/-- What is known of the calls that an evaluator meets first. -/
theorem evCall_over {P : Program} {G : Nat} {ok : List Bool} {over : Ev} {sb : List Nat} {lf n : Nat} {f : FuncId} {args : List Value} {H : Heap} {r : Value × Heap × List Nat} (h : over f args H = some r) (hY : Nat.ble Y f = false := by rfl) : evCall P G ok over sb lf (n + 1) f args H = some r := by
  simp only [evCall, h, hY]
end Go.Dg
namespace Go.Dg
/-- An object that names no other one, marked so. -/
structure Fix (o : AObj) : Prop where
  live : o.live = true
  ids : o.ids = []
  ren : ∀ f, o.ren f = o
end Go.Dg
