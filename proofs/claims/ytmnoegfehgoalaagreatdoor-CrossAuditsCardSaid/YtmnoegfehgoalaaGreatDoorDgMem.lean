/- Reading and writing abstract cells, and what the world does. -/
import Derived.Test.YtmnoegfehgoalaaGreatDoorDgShapeM
import Derived.Deep.AppendSrc
namespace Go.Dg
set_option linter.unusedVariables false
set_option linter.unusedSimpArgs false
/-- n cells of object k from off on. -/
def Heap.read (H : Heap) (k off n : Nat) : Option (List Value) :=
  match H.get k with
  | .cells cs _ _ _ => if off + n ≤ cs.length then some ((cs.drop off).take n) else none
  | _ => if n = 0 then some [] else none
def splice (cs : List Value) (i : Nat) (vs : List Value) : List Value := cs.take i ++ (vs ++ cs.drop (i + vs.length))
/-- The mark is kept where what is put in holds no address. -/
def keepMd (md : Nat) (fl : Bool) : Nat := if Nat.ble 4 md then (if fl then md else md % 4) else md
theorem keepMd_mod (md : Nat) (fl : Bool) : keepMd md fl % 4 = md % 4 := by
  unfold keepMd
  split
  · split
    · rfl
    · omega
  · rfl
theorem keepMd_le {md : Nat} {fl : Bool} (h : 4 ≤ keepMd md fl) : 4 ≤ md ∧ fl = true := by
  unfold keepMd at h
  split at h
  · rename_i hb
    split at h
    · rename_i hf; exact ⟨h, hf⟩
    · omega
  · rename_i hb; exact absurd (Nat.ble_eq_true_of_le h) hb
/-- Cells are written: into an object of ours. -/
def Heap.write (H : Heap) (k off : Nat) (vs : List Value) (fl : Bool := false) : Option Heap :=
  match H.get k with
  | .cells cs e md esz => if md % 4 != 2 && decide (off + vs.length ≤ cs.length) && vs.all (·.oneCell') then some (H.set k (.cells (splice cs off vs) e (keepMd md (fl || flatL vs)) esz)) else none
  | _ => none
theorem flatL_append {a b : List Value} (h : flatL a = true) (k : flatL b = true) : flatL (a ++ b) = true := by
  induction a with
  | nil => exact k
  | cons v r ih => simp only [flatL, Bool.and_eq_true, List.cons_append] at h ⊢; exact ⟨h.1, ih h.2⟩
theorem flatL_of {l : List Value} (h : ∀ v ∈ l, flat v = true) : flatL l = true := by
  induction l with
  | nil => rfl
  | cons v r ih => simp only [flatL, Bool.and_eq_true]; exact ⟨h v (List.mem_cons_self ..), ih fun u hu => h u (List.mem_cons_of_mem _ hu)⟩
theorem flatL_mem {l : List Value} (h : flatL l = true) : ∀ v ∈ l, flat v = true := by
  induction l with
  | nil => intro v hv; cases hv
  | cons u r ih =>
    simp only [flatL, Bool.and_eq_true] at h
    intro v hv
    rcases List.mem_cons.1 hv with rfl | hv
    · exact h.1
    · exact ih h.2 v hv
theorem splice_flat {cs vs : List Value} {i : Nat} (h : flatL cs = true) (k : flatL vs = true) : flatL (splice cs i vs) = true :=
  flatL_append (flatL_of fun v hv => flatL_mem h v (List.mem_of_mem_take hv)) (flatL_append k (flatL_of fun v hv => flatL_mem h v (List.mem_of_mem_drop hv)))
theorem splice_length {cs vs : List Value} {i : Nat} (h : i + vs.length ≤ cs.length) : (splice cs i vs).length = cs.length := by
  simp [splice]; omega
theorem splice_get {cs vs : List Value} {i : Nat} (h : i + vs.length ≤ cs.length) (j : Nat) :
    (splice cs i vs)[j]? = if j < i then cs[j]? else if j < i + vs.length then vs[j - i]? else cs[j]? := by
  unfold splice
  have hl : (cs.take i).length = i := by simp; omega
  rw [List.getElem?_append, hl]
  split
  · rename_i h1; rw [List.getElem?_take, if_pos h1]
  · rename_i h1
    rw [List.getElem?_append]
    split
    · rename_i h2; rw [if_pos (by omega)]
    · rename_i h2; rw [if_neg (by omega), List.getElem?_drop]; congr 1; omega
theorem VRel.oneCell {M : Emb} {v v' : Value} (h : VRel M v v') : v'.oneCell' = v.oneCell' := by
  cases h <;> first | rfl | skip
theorem LRel.one {M : Emb} {l l' : List Value} (h : LRel M l l') (h1 : ∀ v ∈ l, v.oneCell' = true) : ∀ v ∈ l', v.oneCell' = true := by
  intro v' hv'
  obtain ⟨i, hi⟩ := List.mem_iff_getElem?.1 hv'
  have hlt : i < l'.length := by
    rcases Nat.lt_or_ge i l'.length with h0 | h0
    · exact h0
    · rw [List.getElem?_eq_none h0] at hi; cases hi
  have hlt' : i < l.length := h.1 ▸ hlt
  have hl : l[i]? = some l[i] := by simp [hlt']
  rw [(h.2 i _ v' hl hi).oneCell]
  exact h1 _ (List.getElem_mem hlt')
/-- A row of cells, seen from the world. -/
theorem HRel.cells {M : Emb} {N : Nat} {H : Heap} {w : World} (hr : HRel M N H w) {k b o sp : Nat} {cs : List Value} {e : TypeId} {md esz : Nat} (hk : H.get k = .cells cs e md esz) (hM : M k = some (b, o, sp)) :
    ∃ C fz, w.heap[b]? = some (.cells C e fz) ∧ o + cs.length + sp * esz ≤ C.size ∧ (∀ (i : Nat) (v : Value), cs[i]? = some v → ∃ v', C[o + i]? = some v' ∧ VRel M v v') ∧
      (md % 4 ≠ 2 → N ≤ b ∧ o = 0 ∧ ∀ i, i < C.size → ¬ (fz.1 ≤ i ∧ i < fz.2)) ∧ (md % 4 ≠ 1 → sp = 0) ∧ (4 ≤ md → flatL cs = true) := by
  obtain ⟨b1, o1, sp1, h1, h2⟩ := hr.obj k (by rw [hk]; rfl)
  rw [hM] at h1
  cases h1
  rw [hk] at h2
  exact h2
theorem HRel.read {M : Emb} {N : Nat} {H : Heap} {w : World} (hr : HRel M N H w) {k off n b o sp : Nat} {l : List Value} (h : H.read k off n = some l) (hM : M k = some (b, o, sp)) :
    ∃ l', LRel M l l' ∧ l.length = n ∧ ∀ (j : Nat) (v : Value), l'[j]? = some v → w.cell? ⟨b, o + off + j, none⟩ = some v := by
  unfold Heap.read at h
  split at h
  · rename_i cs e md esz hk
    split at h
    · rename_i hle
      cases h
      obtain ⟨C, fz, h1, h2, h3, _, _⟩ := hr.cells hk hM
      have hlen : ((cs.drop off).take n).length = n := by simp; omega
      refine ⟨(C.toList.drop (o + off)).take n, ⟨?_, ?_⟩, hlen, ?_⟩
      · rw [hlen]; simp; omega
      · intro i v v' hv hv'
        rw [List.getElem?_take] at hv hv'
        split at hv
        · rename_i hi
          rw [if_pos hi] at hv'
          rw [List.getElem?_drop] at hv hv'
          obtain ⟨u, hu1, hu2⟩ := h3 _ v hv
          have : C[o + (off + i)]? = some v' := by
            have e : o + off + i = o + (off + i) := by omega
            rw [e] at hv'; simpa using hv'
          rw [this] at hu1; cases hu1; exact hu2
        · cases hv
      · intro j v hv
        rw [List.getElem?_take] at hv
        split at hv
        · rw [List.getElem?_drop] at hv
          simp only [World.cell?, h1, Option.isSome_none, Bool.false_eq_true, if_false]
          simpa using hv
        · cases hv
    · cases h
  · split at h
    · rename_i hn
      cases h
      exact ⟨[], LRel.nil, hn.symm, fun j v hv => by simp at hv⟩
    · cases h
/-- What 'setCells' leaves. -/
theorem setCells_facts (b : Nat) : ∀ (vs : List Value) (o : Nat) (w : World) (C : Array Value) (e : TypeId) (fz : Nat × Nat), w.heap[b]? = some (.cells C e fz) → o + vs.length ≤ C.size →
    ∃ C', (w.setCells b o vs).heap[b]? = some (.cells C' e fz) ∧ C'.size = C.size ∧ (∀ j, C'[j]? = if j < o then C[j]? else if j < o + vs.length then vs[j - o]? else C[j]?) ∧
      (w.setCells b o vs).heap.size = w.heap.size ∧ (w.setCells b o vs).os = w.os ∧ (w.setCells b o vs).tape = w.tape ∧ (w.setCells b o vs).output = w.output ∧
      ∀ b', b' ≠ b → (w.setCells b o vs).heap[b']? = w.heap[b']? := by
  intro vs
  induction vs with
  | nil =>
    intro o w C e fz h _
    refine ⟨C, h, rfl, fun j => ?_, rfl, rfl, rfl, rfl, fun _ _ => rfl⟩
    split
    · rfl
    · rename_i h0
      rw [if_neg (by simp; omega)]
  | cons v r ih =>
    intro o w C e fz h hl
    have hb : (w.setCell ⟨b, o, none⟩ v).heap[b]? = some (.cells (C.setIfInBounds o v) e fz) := by
      simp [World.setCell, Array.getElem?_modify, h]
    obtain ⟨C', h1, h2, h3, h4, h5, h6, h7, h8⟩ := ih (o + 1) _ _ e fz hb (by simp at hl ⊢; omega)
    refine ⟨C', h1, by simpa using h2, fun j => ?_, ?_, h5, h6, h7, fun b' hb' => ?_⟩
    · rw [h3 j]
      simp only [List.length_cons]
      by_cases c1 : j < o
      · rw [if_pos (by omega), if_pos c1, Array.getElem?_setIfInBounds, if_neg (by omega)]
      · rw [if_neg c1]
        by_cases c2 : j = o
        · subst c2
          rw [if_pos (by omega), if_pos (by omega), Array.getElem?_setIfInBounds, if_pos rfl]
          have : j < C.size := by simp at hl; omega
          simp [this]
        · rw [if_neg (by omega)]
          by_cases c3 : j < o + 1 + r.length
          · rw [if_pos c3, if_pos (by omega)]
            have : j - o = (j - (o + 1)) + 1 := by omega
            rw [this]; simp
          · rw [if_neg c3, if_neg (by omega), Array.getElem?_setIfInBounds, if_neg (by omega)]
    · show ((w.setCell ⟨b, o, none⟩ v).setCells b (o + 1) r).heap.size = _
      rw [h4]; simp
    · show ((w.setCell ⟨b, o, none⟩ v).setCells b (o + 1) r).heap[b']? = _
      rw [h8 b' hb']
      exact RowKit.Below.heap_setCell _ _ _ _ hb'
/-- Cells are written: both sides. -/
theorem Stp.write {P : Program} {N : Nat} {M : Emb} {H H' : Heap} {w : World} (hr : HRel M N H w) {k off b o sp : Nat} {vs vs' : List Value} {fl : Bool} (h : H.write k off vs fl = some H') (hfl : fl = true → flatL vs = true) (hM : M k = some (b, o, sp)) (hv : LRel M vs vs') :
    (storeCells ⟨b, o + off, none⟩ vs').run P w = .ok () (w.setCells b (o + off) vs') ∧ Stp N M H w M H' (w.setCells b (o + off) vs') ∧
      (∀ j, j < vs'.length → (w.cell? ⟨b, o + off + j, none⟩).isSome = true) ∧ (∀ j, j < vs'.length → w.frozen? ⟨b, o + off + j, none⟩ = false) ∧ (∀ v ∈ vs', v.oneCell' = true) := by
  unfold Heap.write at h
  split at h
  · rename_i cs e md esz hk
    split at h
    · rename_i hc
      cases h
      simp only [Bool.and_eq_true, bne_iff_ne, ne_eq, decide_eq_true_eq, List.all_eq_true] at hc
      obtain ⟨⟨hmd, hle⟩, hone⟩ := hc
      obtain ⟨C, fz, h1, h2, h3, h4, h5⟩ := hr.cells hk hM
      have hlen := hv.1
      have hone' := hv.one hone
      have hcell : ∀ j, j < vs'.length → (w.cell? ⟨b, o + off + j, none⟩).isSome = true := by
        intro j hj
        have : o + off + j < C.size := by omega
        simp [World.cell?, h1, this]
      have hfro : ∀ j, j < vs'.length → w.frozen? ⟨b, o + off + j, none⟩ = false := by
        intro j hj
        have hj' : o + off + j < C.size := by omega
        have := (h4 hmd).2.2 _ hj'
        obtain ⟨lo, hi⟩ := fz
        simp only [World.frozen?, h1]
        simpa using this
      have hrun := run_storeCells_cells (P := P) b (o + off) vs' 0 w (by simpa using hcell) (by simpa using hfro) hone'
      simp only [Nat.add_zero] at hrun
      refine ⟨hrun, ?_, hcell, hfro, hone'⟩
      obtain ⟨C', g1, g2, g3, g4, g5, g6, g7, g8⟩ := setCells_facts b vs' (o + off) w C e fz h1 (by omega)
      refine Stp.turn hr (.cells (splice cs off vs) e (keepMd md (fl || flatL vs)) esz) (by rw [hk]; simpa [AObj.owned] using hmd) hM ?_ g4 g5 g6 g7 g8
      intro _
      refine ⟨C', fz, g1, by rw [splice_length hle, g2]; exact h2, ?_, ?_, fun h => h5.1 (by rw [keepMd_mod] at h; exact h), fun h0 => splice_flat (h5.2 (keepMd_le h0).1) ?_⟩
      · intro i v hi
        rw [splice_get hle] at hi
        by_cases c1 : i < off
        · rw [if_pos c1] at hi
          obtain ⟨u, hu1, hu2⟩ := h3 i v hi
          exact ⟨u, by rw [g3, if_pos (by omega)]; exact hu1, hu2⟩
        · rw [if_neg c1] at hi
          by_cases c2 : i < off + vs.length
          · rw [if_pos c2] at hi
            obtain ⟨u, hu1, hu2⟩ := hv.get hi
            refine ⟨u, ?_, hu2⟩
            rw [g3, if_neg (by omega), if_pos (by omega)]
            have : o + i - (o + off) = i - off := by omega
            rw [this]; exact hu1
          · rw [if_neg c2] at hi
            obtain ⟨u, hu1, hu2⟩ := h3 i v hi
            exact ⟨u, by rw [g3, if_neg (by omega), if_neg (by omega)]; exact hu1, hu2⟩
      · intro h0
        rw [keepMd_mod] at h0
        exact ⟨(h4 h0).1, (h4 h0).2.1, fun i hi => (h4 h0).2.2 i (by rw [g2] at hi; exact hi)⟩
      · have h6 := (keepMd_le h0).2
        cases fl with
        | true => exact hfl rfl
        | false => simpa using h6
    · cases h
  · cases h
/-- A new row of our own. -/
theorem Stp.row {N : Nat} {M : Emb} {H : Heap} {w : World} (hr : HRel M N H w) {l : List Value} {C : Array Value} (e : TypeId) (hl : LRel M l C.toList) :
    Stp N M H w (M.put H.n (w.heap.size, 0, 0)) (H.push (.cells l e 0 1)) (w.alloc (.cells C e)) := by
  refine Stp.alloc hr _ _ rfl ?_
  intro M' hle w' hw'
  refine ⟨C, (0, 0), hw', ?_, ?_, ?_, fun _ => rfl, fun h => absurd h (by decide)⟩
  · have := hl.1; simp at this; simp; omega
  · intro i v hv
    obtain ⟨v', h1, h2⟩ := hl.get hv
    exact ⟨v', by simpa using h1, h2.mono hle⟩
  · intro _
    exact ⟨hr.base, rfl, fun i _ h => by simp at h⟩
/-- A new row of our own, without addresses. -/
theorem Stp.row4 {N : Nat} {M : Emb} {H : Heap} {w : World} (hr : HRel M N H w) {l : List Value} {C : Array Value} (e : TypeId) (hl : LRel M l C.toList) (hfl : flatL l = true) :
    Stp N M H w (M.put H.n (w.heap.size, 0, 0)) (H.push (.cells l e 4 1)) (w.alloc (.cells C e)) := by
  refine Stp.alloc hr _ _ rfl ?_
  intro M' hle w' hw'
  refine ⟨C, (0, 0), hw', ?_, ?_, ?_, fun _ => rfl, fun _ => hfl⟩
  · have := hl.1; simp at this; simp; omega
  · intro i v hv
    obtain ⟨v', h1, h2⟩ := hl.get hv
    exact ⟨v', by simpa using h1, h2.mono hle⟩
  · intro _
    exact ⟨hr.base, rfl, fun i _ h => by simp at h⟩
theorem vrel_new {M : Emb} {H : Heap} {b sp : Nat} : VRel (M.put H.n (b, 0, sp)) (.pointer (some ⟨H.n, 0, none⟩)) (.pointer (some ⟨b, 0, none⟩)) := by
  have := VRel.ptr (M := M.put H.n (b, 0, sp)) (k := H.n) (off := 0) (Emb.put_same _ _ _)
  simpa using this
end Go.Dg
