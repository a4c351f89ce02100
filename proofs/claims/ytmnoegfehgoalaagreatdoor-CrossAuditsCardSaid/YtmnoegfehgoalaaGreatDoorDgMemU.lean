/- 'evMem' is sound: operation by operation. -/
import Derived.Test.YtmnoegfehgoalaaGreatDoorDgMemT
import Derived.IntWalk
namespace Go.Dg
set_option linter.unusedVariables false
set_option linter.unusedSimpArgs false
section
variable {P : Program} {G N : Nat} {M : Emb} {H : Heap} {w : World} {ts : List Value} {a : Act}
theorem list_two {α : Type} {xs : Array α} {x y : α} (h : xs.toList = [x, y]) : xs = #[x, y] := by apply Array.ext'; simpa using h
theorem map_range0 (f : Nat → Value) : (Array.range 0).map f = #[] := by apply Array.ext'; simp
theorem zero_row {z : Value} (hf : flat z = true) (n : Nat) : ARel M ((Array.range n).map (z.cells[· % z.cells.size]!)) ((Array.range n).map (z.cells[· % z.cells.size]!)) := by
  refine ⟨rfl, fun i u u' h1 h2 => ?_⟩
  rw [h1] at h2; cases h2
  simp only [Array.getElem?_map, Option.map_eq_some_iff] at h1
  obtain ⟨j, hj, rfl⟩ := h1
  rcases Nat.lt_or_ge (j % z.cells.size) z.cells.size with h0 | h0
  · rw [getElem!_pos z.cells (j % z.cells.size) h0]
    have hzc := (vrel_of_flat M z hf).cells
    exact hzc.2 (j % z.cells.size) _ _ (by simp [h0]) (by simp [h0])
  · rw [getElem!_neg z.cells (j % z.cells.size) (by omega)]
    exact .atom rfl
theorem flat_cells {z : Value} (hf : flat z = true) : ∀ (i : Nat) (v : Value), z.cells[i]? = some v → flat v = true := by
  intro i v hv
  cases z with
  | agg cs => exact flatA_get cs (by simpa [flat] using hf) i v hv
  | _ =>
    simp only [Value.cells] at hv
    have := Array.mem_of_getElem? hv
    simp only [List.mem_toArray, List.mem_cons, List.not_mem_nil, or_false] at this
    subst this
    exact hf
theorem zero_flat {z : Value} (hf : flat z = true) (n : Nat) : flatL ((Array.range n).map (z.cells[· % z.cells.size]!)).toList = true := flatL_of fun v hv => by
  simp only [Array.toList_map, List.mem_map] at hv
  obtain ⟨j, _, rfl⟩ := hv
  rcases Nat.lt_or_ge (j % z.cells.size) z.cells.size with h0 | h0
  · rw [getElem!_pos z.cells (j % z.cells.size) h0]
    exact flat_cells hf (j % z.cells.size) _ (by simp [h0])
  · rw [getElem!_neg z.cells (j % z.cells.size) (by omega)]
    rfl
theorem copy_run {dT : TypeId} {ats : Array TypeId} {ty elem : TypeId} {n dl cap cnt : Nat} {b off : Nat} {v' : Value} {l' : List Value} {w' : World} (hat : ats[0]? = some dT) (hu : P.underlying dT = some (.slice elem)) (hn : eval0 P (sizeOf elem) = some n)
    (hlen : ∀ w : World, (Builtin.lenOf v').run P w = .ok cnt w) (hc : (Builtin.firstCells n (Nat.min cnt dl) v').run P w = .ok l'.toArray w) (hst : (storeCells ⟨b, off, none⟩ l').run P w = .ok () w') :
    (Builtin.copy_ ats ty #[.slice (some ⟨b, off, none⟩) dl cap, v']).run P w = .ok (goInt (Nat.min cnt dl)) w' := by
  simp [Builtin.copy_, hat, under_run hu, run_of_eval0 hn, hlen, hc, hst]
set_option maxHeartbeats 2000000 in
theorem evMem_sound (hg : Globs G M) (hr : HRel M N H w) (hts : TRel M ts a.tmps.toList) {o : Oper} {v : Value} {H' : Heap} {log : List Nat} (h : evMem P G ts H o = some (v, H', log)) :
    OpPost P N M H w v H' ((execOp a.eval o).run P w) := by
  obtain ⟨dst, op, type, pos, after, guard⟩ := o
  unfold evMem at h
  simp only at h
  split at h
  · -- load
    rename_i t x
    split at h
    rotate_left
    · cases h
    rename_i k off hx
    obtain ⟨b, o, sp, hM, e⟩ := (rd_sound hg hts hx).ptr_inv
    split at h
    · rename_i hagg
      split at h
      · rename_i n hn
        rw [Option.map_eq_some_iff] at h
        obtain ⟨l, hl, he⟩ := h
        cases he
        obtain ⟨l', h1, h2, h3⟩ := read_run (P := P) hr hl hM
        simp only [execOp, e, Instr.loadAt, Instr.sureAddr, loadVar, Sem.run_bind, Sem.run_pure, Result.andThen_ok, run_of_eval0 hagg, if_true, run_of_eval0 hn, h3]
        exact .same hr (.agg h1.toArray.1 h1.toArray.2)
      · cases h
    · rename_i hagg
      split at h
      · rename_i u hu
        cases h
        obtain ⟨l', h1, h2, h3⟩ := hr.read hu hM
        obtain ⟨u', r, rfl, h4, h5⟩ := h1.cons_inv
        have hc := h3 0 u' rfl
        simp only [Nat.add_zero] at hc
        simp only [execOp, e, Instr.loadAt, Instr.sureAddr, loadVar, Sem.run_bind, Sem.run_pure, Result.andThen_ok, run_of_eval0 hagg, Bool.false_eq_true, if_false, run_load, hc]
        exact .same hr h4
      · cases h
    · cases h
  · -- store
    rename_i t x y
    split at h
    rotate_left
    · cases h
    rename_i k off u n hx hy hn
    split at h
    rotate_left
    · cases h
    rename_i hsz
    rw [Option.map_eq_some_iff] at h
    obtain ⟨H1, hw, he⟩ := h
    cases he
    obtain ⟨b, o, sp, hM, e⟩ := (rd_sound hg hts hx).ptr_inv
    have hv := (rd_sound hg hts hy).cells
    obtain ⟨g1, g2, _⟩ := Stp.write (P := P) hr hw (fun h => by cases h) hM hv.toList
    have hs : ¬ ((a.eval y).cells.size ≠ n) := by rw [← hv.1, hsz]; simp
    have hs' : (a.eval y).cells.size = n := by rw [← hv.1, hsz]
    simp only [execOp, e, Instr.storeAt, Instr.sureAddr, storeVar, Sem.run_bind, Sem.run_pure, Result.andThen_ok, run_of_eval0 hn, hs', ne_eq, not_true_eq_false, if_false, g1]
    exact .skip g2
  · -- alloc
    rename_i t
    split at h
    rotate_left
    · cases h
    rename_i z hz
    split at h
    rotate_left
    · cases h
    rename_i hf
    cases h
    have hv := (vrel_of_flat M z hf).cells
    simp only [execOp, Instr.alloc, newVar, newRow, Sem.run_bind, Sem.run_pure, Result.andThen_ok, run_of_eval0 hz, run_newObj]
    exact .value vrel_new (Stp.row hr t hv.toList)
  · -- box
    rename_i t x
    split at h
    rotate_left
    · cases h
    rename_i u hx
    cases h
    have hv := (rd_sound hg hts hx).cells
    simp only [execOp, Instr.box, newVar, newRow, Sem.run_bind, Sem.run_pure, Result.andThen_ok, run_newObj]
    exact .value vrel_new (Stp.row hr t hv.toList)
  · -- buildSlice
    rename_i t len ps
    split at h
    rotate_left
    · cases h
    rename_i e l he hl
    have hu := someSlice_inv he
    split at h
    rotate_left
    · cases h
    rename_i n z hn hz
    split at h
    rotate_left
    · cases h
    rename_i hc
    simp only [Bool.and_eq_true, decide_eq_true_eq] at hc
    rw [Option.map_eq_some_iff] at h
    obtain ⟨cs, hcs, he1⟩ := h
    cases he1
    have hp := rdParts_sound (a := a) hg hts _ _ hl
    have hbase : ARel M ((Array.range (len * n)).map (z.cells[· % z.cells.size]!)) ((Array.range (len * n)).map (z.cells[· % z.cells.size]!)) := by
      exact zero_row hc.1 _
    obtain ⟨cs', f1, f2⟩ := fill_rel _ _ _ _ _ _ hp hbase hcs
    have hlim : ¬ (len * n > 16777216) := by omega
    have hrun : (Instr.buildSlice t len (ps.map fun (i, x) => (i, a.eval x))).run P w = .ok (.slice (some ⟨w.heap.size, 0, none⟩) len len) (w.alloc (.cells cs' e)) := by
      have e1 : (ps.map fun (i, x) => (i, a.eval x)).toList = ps.toList.map fun (i, x) => (i, a.eval x) := by simp
      simp only [Instr.buildSlice, Sem.run_bind, under_run hu, Result.andThen_ok, run_of_eval0 hn, e1]
      have hlim' : ¬ (len * n > 2 ^ 24) := by simpa using hlim
      rw [if_neg hlim']
      by_cases h0 : len * n = 0
      · have f1' : Instr.fill (fun i => some (i * n, n)) #[] (ps.toList.map fun (i, x) => (i, a.eval x)) = some cs' := by
          rw [← f1, h0, map_range0]
        simp only [h0, if_true, Sem.run_bind, Sem.run_pure, Result.andThen_ok, map_range0, f1', newRow, run_newObj]
        rfl
      · simp only [h0, if_false, Sem.run_bind, Sem.run_pure, Result.andThen_ok, run_of_eval0 hz, f1, newRow, run_newObj]
        rfl
    simp only [execOp, Sem.run_bind, hrun, Sem.run_pure, Result.andThen_ok]
    refine .value ?_ (Stp.row hr e f2.toList)
    have := VRel.slx (M := M.put H.n (w.heap.size, 0, 0)) (k := H.n) (off := 0) (len := len) (cap := len) (Emb.put_same _ _ _)
    simpa using this
  · -- makeSlice
    rename_i t x y
    split at h
    rotate_left
    · cases h
    rename_i e kx l ky c he hx hy
    have hu := someSlice_inv he
    split at h
    rotate_left
    · cases h
    rename_i i hi
    split at h
    rotate_left
    · cases h
    rename_i z hz
    split at h
    rotate_left
    · cases h
    rename_i hc
    simp only [Bool.and_eq_true, decide_eq_true_eq] at hc
    obtain ⟨⟨⟨⟨c1, c2⟩, c3⟩, c4⟩, c5⟩ := hc
    cases h
    have ex := (rd_sound hg hts hx).int_inv
    have ey := (rd_sound hg hts hy).int_inv
    have hbase : ARel M ((Array.range (c.toNat * i.size)).map (z.cells[· % z.cells.size]!)) ((Array.range (c.toNat * i.size)).map (z.cells[· % z.cells.size]!)) := by
      exact zero_row c1 _
    have wl : IntKind.i64.wrap l = l := IntWalk.i64_in _ (by omega)
    have wc : IntKind.i64.wrap c = c := IntWalk.i64_in _ (by omega)
    have hb : (i.bytes : Int) * c ≤ 281474976710656 := by
      have : ((c.toNat * i.bytes : Nat) : Int) = c * i.bytes := by rw [Int.natCast_mul]; congr 1; omega
      rw [Int.mul_comm]; omega
    have hrun : (Instr.makeSlice t (a.eval x) (a.eval y)).run P w = .ok (.slice (some ⟨w.heap.size, 0, none⟩) l.toNat c.toNat) (w.alloc (.cells ((Array.range (c.toNat * i.size)).map (z.cells[· % z.cells.size]!)) e)) := by
      have n1 : ¬ (c < 0) := by omega
      have n2 : ¬ ((i.bytes : Int) * c > 2 ^ 48) := by
        have : (2 : Int) ^ 48 = 281474976710656 := by decide
        omega
      have n3 : ¬ (l < 0) := by omega
      have n4 : ¬ (l > c) := by omega
      simp only [Instr.makeSlice, ex, ey, Sem.run_bind, under_run hu, Result.andThen_ok, asInt, asIntOf, Sem.run_pure, typeInfo, run_program, hi, wl, wc]
      simp only [n1, n2, n3, n4, decide_false, Bool.or_self, Bool.false_eq_true, if_false, Sem.run_bind, run_askRoom, Result.andThen_ok, sizeOf, typeInfo, run_program, hi, Sem.run_pure]
      by_cases h0 : c.toNat * i.size = 0
      · simp only [h0, if_true, Sem.run_pure, Result.andThen_ok, newRow, run_newObj, Sem.run_bind, map_range0]
        rfl
      · simp only [h0, if_false, zeroValue, typeInfo, run_program, hi, hz, Sem.run_bind, Sem.run_pure, Result.andThen_ok, newRow, run_newObj]
        rfl
    simp only [execOp, Sem.run_bind, hrun, Sem.run_pure, Result.andThen_ok]
    refine .value ?_ (Stp.row4 hr e hbase.toList (zero_flat c1 _))
    have := VRel.slx (M := M.put H.n (w.heap.size, 0, 0)) (k := H.n) (off := 0) (len := l.toNat) (cap := c.toNat) (Emb.put_same _ _ _)
    simpa using this
  · -- convert
    rename_i src dst' x
    split at h
    · rename_i e k off s len cap hsrc hdst hx
      split at h
      · rename_i he
        split at h
        · rename_i l hl
          rw [Option.map_eq_some_iff] at h
          obtain ⟨ns, hns, he1⟩ := h
          cases he1
          obtain ⟨b, o, sp, hM, ev, _⟩ := (rd_sound hg hts hx).slice_inv
          have h1 := bytes_run (P := P) (cap := if s.isSome then cap + sp else cap) hr hl hns hM
          simp only [execOp, ev, Sem.run_bind, run_convert_bytes_string w src dst' e _ _ _ hsrc he hdst, h1, Sem.run_pure, Result.andThen_ok]
          exact .same hr (.atom rfl)
        · cases h
      · cases h
    · rename_i e n0 hsrc hdst hx
      split at h
      · rename_i he
        cases h
        obtain ⟨_, ad, c, ev, hsp⟩ := (rd_sound hg hts hx).emp_inv
        have h1 : (Conv.bytesToString (.slice (some ad) 0 c)).run P w = .ok (.string ⟨#[]⟩) w := by
          rw [run_bytesToString w ad 0 c [] (by rfl)]
          rfl
        simp only [execOp, ev, Sem.run_bind, run_convert_bytes_string w src dst' e _ _ _ hsrc he hdst, h1, Sem.run_pure, Result.andThen_ok]
        exact .same hr (.atom rfl)
      · cases h
    · rename_i e s hsrc hdst hx
      split at h
      · rename_i he
        cases h
        have ev := (rd_sound hg hts hx).string_inv
        obtain ⟨sp, w', h1, h2⟩ := chars_stp (P := P) hr e s
        simp only [execOp, ev, convert, Sem.run_bind, under_run hsrc, under_run hdst, under_run he, Result.andThen_ok, h1, Sem.run_pure]
        exact .value vrel_flex h2
      · cases h
    · cases h
  · -- append
    rename_i args argTypes
    split at h
    rotate_left
    · cases h
    rename_i x y t tx ha hat
    split at h
    rotate_left
    · cases h
    rename_i s v1 hx hy
    obtain rfl := list_two ha
    obtain rfl := list_two hat
    obtain ⟨M', v', w', h1, h2, h3⟩ := append_sound (P := P) (ty := type) hr h (rd_sound hg hts hx) (rd_sound hg hts hy)
    simp only [execOp, resolve, invoke, builtin, Sem.run_bind, Sem.run_pure, Result.andThen_ok]
    have e : (#[x, y].map a.eval) = #[a.eval x, a.eval y] := by simp
    rw [e, h1]
    exact .value h2 h3
  · -- copy
    rename_i args argTypes
    split at h
    rotate_left
    · cases h
    rename_i x y t rest ha hat
    split at h
    rotate_left
    · cases h
    rename_i e k off s dl cap v1 he hx hy
    have hu := someSlice_inv he
    obtain rfl := list_two ha
    have hat0 : argTypes[0]? = some t := by
      have : argTypes.toList[0]? = some t := by rw [hat]; rfl
      simpa using this
    split at h
    rotate_left
    · cases h
    rename_i n hn
    obtain ⟨b, o, sp, hM, ev, _⟩ := (rd_sound hg hts hx).slice_inv
    have hvy := rd_sound (a := a) hg hts hy
    have em : (#[x, y].map a.eval) = #[a.eval x, a.eval y] := by simp
    split at h
    · rename_i k2 off2 s2 len cap2
      split at h
      rotate_left
      · cases h
      rename_i l hl
      rw [Option.map_eq_some_iff] at h
      obtain ⟨H1, hw, he1⟩ := h
      cases he1
      obtain ⟨b2, o2, sp2, hM2, ev2, _⟩ := hvy.slice_inv
      obtain ⟨l', q1, q2, q3⟩ := hr.read hl hM2
      obtain ⟨g1, g2, _⟩ := Stp.write (P := P) hr hw (fun hf => flagAt_read hr hf hl) hM q1
      have hlen : l'.length = Nat.min len dl * n := by rw [← q1.1]; exact q2
      have hfc := run_firstCells_some (P := P) w n (Nat.min len dl) ⟨b2, o2 + off2, none⟩ len (if s2.isSome then cap2 + sp2 else cap2) l' hlen (by intro j u hu; rw [add_none]; exact q3 j u hu)
      have hrun := copy_run (P := P) (ty := type) (cap := if s.isSome then cap + sp else cap) (v' := .slice (some ⟨b2, o2 + off2, none⟩) len (if s2.isSome then cap2 + sp2 else cap2)) hat0 hu hn (fun _ => rfl) hfc g1
      simp only [execOp, resolve, invoke, builtin, Sem.run_bind, Sem.run_pure, Result.andThen_ok, em, ev, ev2, hrun]
      exact .value (.atom rfl) g2
    · rename_i s2
      split at h
      rotate_left
      · cases h
      rename_i hn1
      subst hn1
      rw [Option.map_eq_some_iff] at h
      obtain ⟨H1, hw, he1⟩ := h
      cases he1
      have ev2 := hvy.string_inv
      obtain ⟨g1, g2, _⟩ := Stp.write (P := P) hr hw (fun _ => flatL_of fun v hv => flatL_mem (flat_bytes s2) v (List.mem_of_mem_take hv)) hM ((vrel_bytes s2).take dl)
      have hfc : (Builtin.firstCells 1 (Nat.min s2.size dl) (.string s2)).run P w = .ok ((byteCells s2).take dl).toArray w := by
        simp only [Builtin.firstCells, Sem.run_pure]
        congr 1
        apply Array.ext'
        simp only [byteCells, Array.toList_map]
        have e0 : (s2.extract 0 (Nat.min s2.size dl)).data.toList = s2.data.toList.take dl := by
          simp only [ByteArray.data_extract, Array.toList_extract, List.extract_eq_take_drop, List.drop_zero, Nat.sub_zero]
          apply List.take_eq_take_iff.2
          have : s2.size = s2.data.toList.length := by rw [Array.length_toList]; rfl
          rw [this]
          have hm : ∀ x y : Nat, Nat.min x y = min x y := fun _ _ => rfl
          simp only [hm]
          omega
        rw [e0, ← List.map_take]
      have hrun := copy_run (P := P) (ty := type) (cap := if s.isSome then cap + sp else cap) (v' := .string s2) hat0 hu hn (fun _ => rfl) hfc g1
      simp only [execOp, resolve, invoke, builtin, Sem.run_bind, Sem.run_pure, Result.andThen_ok, em, ev, ev2, hrun]
      exact .value (.atom rfl) g2
    · cases h
  · -- range
    rename_i t x
    split at h
    rotate_left
    · cases h
    rename_i s ht hx
    cases h
    have ev := (rd_sound hg hts hx).string_inv
    simp only [execOp, ev, Instr.range, Sem.run_bind, under_run ht, Sem.run_pure, Result.andThen_ok, run_newObj]
    refine .value vrel_new (Stp.alloc hr (.iter s 0) (.stringIter s 0) rfl ?_)
    intro M' hle w' hw'
    exact ⟨hw', hr.base, rfl⟩
  · -- next
    rename_i x
    split at h
    rotate_left
    · cases h
    rename_i k hx
    obtain ⟨b, o, sp, hM, ev⟩ := (rd_sound hg hts hx).ptr_inv
    split at h
    rotate_left
    · cases h
    rename_i s pos hk
    obtain ⟨b1, o1, sp1, h1, h2⟩ := hr.obj k (by rw [hk]; rfl)
    rw [hM] at h1
    cases h1
    rw [hk] at h2
    obtain ⟨h2, h3, rfl⟩ := h2
    have hget : (getObj b).run P w = .ok (.stringIter s pos) w := by simp [getObj, Sem.run, h2]
    split at h
    · rename_i hlt
      cases h
      have hset : (setObj b (.stringIter s (pos + (Utf8.decode s pos).2))).run P w = .ok () { w with heap := w.heap.setIfInBounds b (.stringIter s (pos + (Utf8.decode s pos).2)) } := by simp [setObj, Sem.run, h2]
      have hlt' : b < w.heap.size := by
        rcases Nat.lt_or_ge b w.heap.size with h0 | h0
        · exact h0
        · rw [Array.getElem?_eq_none h0] at h2; cases h2
      simp only [execOp, ev, Instr.next, Sem.run_bind, Nat.add_zero, hget, Result.andThen_ok, hlt, if_true, hset, Sem.run_pure]
      refine .value (vrel_of_flat _ _ (by rfl)) (Stp.turn hr (.iter s (pos + (Utf8.decode s pos).2)) (by rw [hk]; rfl) hM ?_ (by simp) rfl rfl rfl ?_)
      · intro _
        exact ⟨by simp [hlt'], h3, rfl⟩
      · intro b' hb'
        simp only [Array.getElem?_setIfInBounds]
        rw [if_neg (by omega)]
    · rename_i hlt
      cases h
      simp only [execOp, ev, Instr.next, Sem.run_bind, Nat.add_zero, hget, Result.andThen_ok, hlt, if_false, Sem.run_pure]
      exact .same hr (vrel_of_flat _ _ (by rfl))
  · cases h
end
end Go.Dg
