/- 'evMem' is sound. -/
import Derived.Test.YtmnoegfehgoalaaGreatDoorDgMemS
import Derived.Laws.BytesString
namespace Go.Dg
set_option linter.unusedVariables false
set_option linter.unusedSimpArgs false
section
variable {P : Program} {G N : Nat} {M : Emb} {H : Heap} {w : World} {ts : List Value} {a : Act}
theorem someSlice_inv {d : Option TypeDesc} {e : TypeId} (h : someSlice d = some e) : d = some (.slice e) := by
  unfold someSlice at h
  split at h
  · cases h; rfl
  · cases h
theorem read_run (hr : HRel M N H w) {k off n b o sp : Nat} {l : List Value} (h : H.read k off n = some l) (hM : M k = some (b, o, sp)) :
    ∃ l', LRel M l l' ∧ l.length = n ∧ (loadCells ⟨b, o + off, none⟩ n).run P w = .ok l'.toArray w := by
  obtain ⟨l', h1, h2, h3⟩ := hr.read h hM
  refine ⟨l', h1, h2, ?_⟩
  have := run_loadCells_list (P := P) w ⟨b, o + off, none⟩ l' (by intro j v hv; rw [add_none]; exact h3 j v hv)
  rwa [← h1.1, h2] at this
theorem cellInts_sound : ∀ (l : List Value) (ns : List Int), cellInts l = some ns → l = ns.map (Value.int .u8) := by
  intro l
  induction l with
  | nil => intro ns h; cases h; rfl
  | cons v r ih =>
    intro ns h
    unfold cellInts at h
    split at h
    · cases ‹_ :: _ = []›
    · rename_i n r' heq
      cases heq
      rw [Option.map_eq_some_iff] at h
      obtain ⟨l', h1, rfl⟩ := h
      rw [ih l' h1]; rfl
    · cases h
theorem flat_ints : ∀ (ns : List Int), flatL (ns.map (Value.int .u8)) = true := by
  intro ns; induction ns with
  | nil => rfl
  | cons n r ih => simp [flatL, flat, ih]
theorem fold_push (ns : List Int) : ∀ (s : ByteArray), ns.foldl (fun r n => r.push (UInt8.ofNat n.toNat)) s = ⟨s.data ++ (ns.map fun n => UInt8.ofNat n.toNat).toArray⟩ := by
  induction ns with
  | nil => intro s; simp
  | cons n r ih => intro s; simp only [List.foldl_cons, ih]; congr 1; apply Array.ext'; simp
theorem bytes_run (hr : HRel M N H w) {k off n b o sp cap : Nat} {l : List Value} {ns : List Int} (h : H.read k off n = some l) (hb : cellInts l = some ns) (hM : M k = some (b, o, sp)) :
    (Conv.bytesToString (.slice (some ⟨b, o + off, none⟩) n cap)).run P w = .ok (.string ⟨(ns.map fun n => UInt8.ofNat n.toNat).toArray⟩) w := by
  obtain ⟨l', h1, h2, h3⟩ := read_run (P := P) hr h hM
  have hl := cellInts_sound l ns hb
  subst hl
  obtain rfl := h1.eq_of_flat (flat_ints ns)
  rw [run_bytesToString w _ n cap ns h3, fold_push]
  simp
theorem chars_stp (hr : HRel M N H w) (e : TypeId) (s : ByteArray) :
    ∃ sp w', (Conv.stringToBytes e s).run P w = .ok (.slice (some ⟨w.heap.size, 0, none⟩) s.size (s.size + sp)) w' ∧
      Stp N M H w (M.put H.n (w.heap.size, 0, sp)) (H.push (.cells (byteCells s) e 5 1)) w' := by
  have hq : (Question.appendCap s.size 0 e).forced = false := rfl
  let cap := (Question.appendCap s.size 0 e).cut (w.tape w.drawn (.appendCap s.size 0 e))
  have hcap : s.size ≤ cap := by show s.size ≤ s.size + _; omega
  let C : Array Value := (s.data.map fun b : UInt8 => Value.int .u8 b.toNat) ++ Array.replicate (cap - s.size) (Value.int .u8 0)
  let w1 : World := { w with drawn := w.drawn + 1 }
  let w' : World := (w1.alloc (.cells C e)).freeze ⟨w.heap.size, C.size, none⟩ 1
  have hCs : C.size = s.size + (cap - s.size) := by
    show ((s.data.map fun b : UInt8 => Value.int .u8 b.toNat) ++ Array.replicate (cap - s.size) (Value.int .u8 0)).size = _
    rw [Array.size_append, Array.size_map, Array.size_replicate]; rfl
  have hnew : (w1.alloc (.cells C e)).heap[w.heap.size]? = some (.cells C e (0, 0)) := by
    show (w.heap.push (.cells C e))[w.heap.size]? = _; simp
  refine ⟨cap - s.size, w', ?_, ?_⟩
  · have hsh : (w1.alloc (.cells C e)).shape? w.heap.size = some (e, C.size) := by simp [World.shape?, hnew]
    simp only [Conv.stringToBytes, Sem.run_bind, run_choose, hq, Bool.false_eq_true, if_false, Result.andThen_ok, newRow, run_newObj, Sem.run_pure, markStringish, run_shape]
    have e1 : s.size + (cap - s.size) = cap := by omega
    rw [e1]
    have hsh' : World.shape? { heap := w.heap.push (.cells C e), tape := w.tape, drawn := w.drawn + 1, os := w.os, output := w.output } w.heap.size = some (e, C.size) := hsh
    have hC : C = (s.data.map fun b : UInt8 => Value.int .u8 b.toNat) ++ Array.replicate ((Question.appendCap s.size 0 e).cut (w.tape w.drawn (.appendCap s.size 0 e)) - s.size) (Value.int .u8 0) := rfl
    rw [← hC, hsh']
    simp only [run_freeze, Result.andThen_ok]
    rfl
  · have hd := Stp.drew hr (w.drawn + 1)
    refine hd.trans ?_
    have hfz : w'.heap[w.heap.size]? = some (.cells C e (C.size, C.size + 1)) := by
      show ((w1.alloc (.cells C e)).freeze ⟨w.heap.size, C.size, none⟩ 1).heap[w.heap.size]? = _
      simp only [World.freeze, Nat.one_ne_zero, if_false, Array.getElem?_modify, if_true, hnew, Option.map_some]
      simp
    have hoth : ∀ b', b' ≠ w.heap.size → w'.heap[b']? = (w1.alloc (.cells C e)).heap[b']? := by
      intro b' hb'
      show ((w1.alloc (.cells C e)).freeze ⟨w.heap.size, C.size, none⟩ 1).heap[b']? = _
      simp only [World.freeze, Nat.one_ne_zero, if_false, Array.getElem?_modify]
      rw [if_neg (by omega)]
    have hsz : w'.heap.size = w.heap.size + 1 := by
      show ((w1.alloc (.cells C e)).freeze ⟨w.heap.size, C.size, none⟩ 1).heap.size = _
      simp [World.freeze, World.alloc, w1]
    have hbl : (byteCells s).length = s.size := byteCells_length s
    have hCbyte : ∀ (i : Nat) (v : Value), (byteCells s)[i]? = some v → C[i]? = some v := by
      intro i v hv
      have hi : i < (byteCells s).length := by
        rcases Nat.lt_or_ge i (byteCells s).length with h0 | h0
        · exact h0
        · rw [List.getElem?_eq_none h0] at hv; cases hv
      show ((s.data.map fun b : UInt8 => Value.int .u8 b.toNat) ++ Array.replicate (cap - s.size) (Value.int .u8 0))[i]? = some v
      rw [Array.getElem?_append_left (by rw [Array.size_map]; rw [hbl] at hi; exact hi)]
      unfold byteCells at hv
      simpa using hv
    -- the step: as a new row, then the mark behind it
    have hrow : Stp N M H w1 (M.put H.n (w1.heap.size, 0, cap - s.size)) (H.push (.cells (byteCells s) e 5 1)) (w1.alloc (.cells C e)) := by
      refine Stp.allocSp (hr.drew (w.drawn + 1)) _ _ _ rfl ?_
      intro M' hle w2 hw2
      refine ⟨C, (0, 0), hw2, by rw [hbl]; omega, ?_, fun _ => ⟨hr.base, rfl, fun i _ h => by simp at h⟩, fun h => absurd rfl h, fun _ => flat_bytes s⟩
      intro i v hv
      have := List.mem_of_getElem? hv
      obtain ⟨bb, _, rfl⟩ := List.mem_map.1 this
      exact ⟨_, by simpa using hCbyte i _ hv, .atom rfl⟩
    have hk : ((H.push (.cells (byteCells s) e 5 1)).get H.n) = .cells (byteCells s) e 5 1 := Heap.get_push_new _ _
    have hset : (H.push (.cells (byteCells s) e 5 1)).set H.n (.cells (byteCells s) e 5 1) = H.push (.cells (byteCells s) e 5 1) := by
      unfold Heap.set Heap.push
      simp
    have hturn := Stp.turn (w' := w') hrow.rel (.cells (byteCells s) e 5 1) (by rw [hk]; rfl) (Emb.put_same M H.n (w1.heap.size, 0, cap - s.size))
      (by
        intro _
        refine ⟨C, (C.size, C.size + 1), hfz, by rw [hbl]; omega, ?_, fun _ => ⟨hr.base, rfl, fun i hi h => by simp at h; omega⟩, fun h => absurd rfl h, fun _ => flat_bytes s⟩
        intro i v hv
        have := List.mem_of_getElem? hv
        obtain ⟨bb, _, rfl⟩ := List.mem_map.1 this
        exact ⟨_, by simpa using hCbyte i _ hv, .atom rfl⟩)
      (by rw [hsz]; simp [w1]) rfl rfl rfl (fun b' hb' => hoth b' hb')
    rw [hset] at hturn
    exact hrow.trans hturn
end
end Go.Dg
