/- The operations on memory are sound. -/
import Derived.Test.YtmnoegfehgoalaaGreatDoorDgMemOps
namespace Go.Dg
set_option linter.unusedVariables false
set_option linter.unusedSimpArgs false
theorem vrel_bytes {M : Emb} (s : ByteArray) : LRel M (byteCells s) (byteCells s) := by
  refine ⟨rfl, fun i v v' h1 h2 => ?_⟩
  rw [h1] at h2; cases h2
  have := List.mem_of_getElem? h1
  obtain ⟨b, _, rfl⟩ := List.mem_map.1 this
  exact .atom rfl
theorem one_bytes (s : ByteArray) : ∀ v ∈ byteCells s, v.oneCell' = true := by
  intro v hv
  obtain ⟨b, _, rfl⟩ := List.mem_map.1 hv
  rfl
theorem grow_le (n : Nat) : ∀ (rounds c : Nat), c ≤ 2 * n + 192 → Builtin.growBy n rounds c ≤ 2 * n + 192 := by
  intro rounds
  induction rounds with
  | zero => intro c h; exact h
  | succ r ih =>
    intro c h
    simp only [Builtin.growBy]
    split
    · exact h
    · exact ih _ (by omega)
theorem next_le {n c : Nat} (h : c < n) : Builtin.nextslicecap n c ≤ 2 * n + 192 := by
  unfold Builtin.nextslicecap
  split
  · omega
  · split
    · omega
    · exact grow_le n 4 c (by omega)
theorem next_fits {n c b : Nat} (h : c < n) (hb : n * b ≤ 1099511627776) : Builtin.nextslicecap n c * b ≤ 281474976710656 := by
  have h1 := next_le h
  have h2 : Builtin.nextslicecap n c * b ≤ (2 * n + 192) * b := Nat.mul_le_mul_right b h1
  have h3 : 1 * b ≤ n * b := Nat.mul_le_mul_right b (by omega)
  rw [Nat.add_mul, Nat.mul_assoc] at h2
  omega
section
variable {P : Program} {N : Nat} {M : Emb} {H : Heap} {w : World}
theorem src_sound (hr : HRel M N H w) {n cnt : Nat} {x x' : Value} {news : List Value} {tx : TypeId} (h : srcCells H n x = some (cnt, news)) (hx : VRel M x x') (ht : srcType (P.underlying tx) = true)
    (h1 : news.all (·.oneCell') = true) : ∃ news', LRel M news news' ∧ Src P n tx x' cnt news' w := by
  have hk : (∃ e', P.underlying tx = some (.slice e')) ∨ P.underlying tx = some .string := by
    unfold srcType at ht
    split at ht
    · rename_i e he; exact .inl ⟨e, he⟩
    · rename_i he; exact .inr he
    · cases ht
  have hone : ∀ v ∈ news, v.oneCell' = true := List.all_eq_true.1 h1
  unfold srcCells at h
  split at h
  · rename_i k off s len cap
    rw [Option.map_eq_some_iff] at h
    obtain ⟨l, hl, he⟩ := h
    cases he
    obtain ⟨b, o, sp, hM, rfl, _⟩ := hx.slice_inv
    obtain ⟨l', g1, g2, g3⟩ := hr.read hl hM
    have hlen : l'.length = cnt * n := by rw [← g1.1]; exact g2
    have hc : ∀ (j : Nat) (v : Value), l'[j]? = some v → w.cell? ((⟨b, o + off, none⟩ : Addr).add j) = some v := by
      intro j v hv; rw [add_none]; exact g3 j v hv
    exact ⟨l', g1, ⟨hk, fun _ => rfl, run_firstCells_some w n cnt _ cnt _ l' hlen hc, run_firstCells_some w.drew n cnt _ cnt _ l' hlen (by simpa using hc), hlen, g1.one hone⟩⟩
  · cases h
    obtain rfl := hx.eq_of_flat rfl
    exact ⟨[], LRel.nil, ⟨hk, fun _ => rfl, run_firstCells_none w n 0 0 _, run_firstCells_none w.drew n 0 0 _, by simp, fun _ h => by cases h⟩⟩
  · cases h
    obtain ⟨_, ad, c, rfl, hsp⟩ := hx.emp_inv
    exact ⟨[], LRel.nil, ⟨hk, fun _ => rfl, run_firstCells_some w n 0 ad 0 c [] (by simp) (fun j v hv => by simp at hv), run_firstCells_some w.drew n 0 ad 0 c [] (by simp) (fun j v hv => by simp at hv), by simp, fun _ h => by cases h⟩⟩
  · split at h
    · rename_i hn
      cases h
      subst hn
      obtain rfl := hx.eq_of_flat rfl
      rename_i s
      exact ⟨byteCells s, vrel_bytes s, ⟨hk, fun _ => rfl, firstCells_string s w, firstCells_string s w.drew, by rw [byteCells_length, Nat.mul_one], one_bytes s⟩⟩
    · cases h
  · cases h
theorem zeroCells_size (z : Array Value) (n : Nat) : (Builtin.zeroCells z n).size = n * z.size := by simp [Builtin.zeroCells]
theorem HRel.flag (hr : HRel M N H w) {k : Nat} {cs : List Value} {e : TypeId} {md esz : Nat} (hk : H.get k = .cells cs e md esz) (h : Nat.ble 4 md = true) : flatL cs = true := by
  obtain ⟨b, o, sp, h1, h2⟩ := hr.obj k (by rw [hk]; rfl)
  rw [hk] at h2
  obtain ⟨C, fz, _, _, _, _, _, h3⟩ := h2
  exact h3 (Nat.le_of_ble_eq_true h)
theorem flagAt_read (hr : HRel M N H w) {k off n : Nat} {l : List Value} (h : flagAt H k = true) (hl : H.read k off n = some l) : flatL l = true := by
  unfold flagAt at h
  unfold Heap.read at hl
  split at h
  · rename_i cs e md esz hk
    rw [hk] at hl
    simp only at hl
    split at hl
    · cases hl
      have hf := hr.flag hk h
      exact flatL_of fun v hv => flatL_mem hf v (List.mem_of_mem_drop (List.mem_of_mem_take hv))
    · cases hl
  · cases h
theorem flat_bytes (s : ByteArray) : flatL (byteCells s) = true := flatL_of fun v hv => by
  obtain ⟨b, _, rfl⟩ := List.mem_map.1 hv
  rfl
theorem srcFlag_flat (hr : HRel M N H w) {n cnt : Nat} {x : Value} {news : List Value} (hf : srcFlag H x = true) (h : srcCells H n x = some (cnt, news)) : flatL news = true := by
  unfold srcFlag at hf
  split at hf
  · simp only [srcCells, Option.map_eq_some_iff] at h
    obtain ⟨l, hl, he⟩ := h
    cases he
    exact flagAt_read hr hf hl
  · simp only [srcCells] at h
    split at h
    · cases h; exact flat_bytes _
    · cases h
  · cases hf
/-- A new row with room behind. -/
theorem Stp.roomy (hr : HRel M N H w) {l l' : List Value} (hl : LRel M l l') (e : TypeId) (md esz sp : Nat) (hmd : md % 4 = 1) (hfl : 4 ≤ md → flatL l = true) (rest : Array Value) (hs : rest.size = sp * esz) :
    Stp N M H w (M.put H.n (w.heap.size, 0, sp)) (H.push (.cells l e md esz)) (w.alloc (.cells (l'.toArray ++ rest) e)) := by
  refine Stp.allocSp hr _ _ sp (by simp [AObj.owned, hmd]) ?_
  intro M' hle w' hw'
  refine ⟨_, (0, 0), hw', ?_, ?_, ?_, fun h => absurd hmd h, hfl⟩
  · have := hl.1; simp [hs]; omega
  · intro i v hv
    obtain ⟨v', h1, h2⟩ := hl.get hv
    refine ⟨v', ?_, h2.mono hle⟩
    have : i < l'.length := by
      rcases Nat.lt_or_ge i l'.length with h0 | h0
      · exact h0
      · rw [List.getElem?_eq_none h0] at h1; cases h1
    simp only [Nat.zero_add]
    rw [Array.getElem?_append_left (by simpa using this)]
    simpa using h1
  · intro _
    exact ⟨hr.base, rfl, fun i _ h => by simp at h⟩
theorem vrel_flex {M : Emb} {H : Heap} {b o sp len cap : Nat} : VRel (M.put H.n (b, o, sp)) (.slice (some ⟨H.n, 0, some 0⟩) len cap) (.slice (some ⟨b, o, none⟩) len (cap + sp)) := by
  have := VRel.slf (M := M.put H.n (b, o, sp)) (k := H.n) (off := 0) (len := len) (cap := cap) (Emb.put_same _ _ _)
  simpa using this
set_option maxHeartbeats 1000000 in
theorem append_sound (hr : HRel M N H w) {t tx ty : TypeId} {s x s' x' v : Value} {H' : Heap} {log : List Nat} (h : evAppend P H t tx s x = some (v, H', log)) (hs : VRel M s s') (hx : VRel M x x') :
    ∃ M' v' w', (Builtin.append_ #[t, tx] ty #[s', x']).run P w = .ok v' w' ∧ VRel M' v v' ∧ Stp N M H w M' H' w' := by
  unfold evAppend at h
  split at h
  · cases h
  rename_i e he
  have ht : P.underlying t = some (.slice e) := by
    unfold someSlice at he
    split at he
    · rename_i e0 he0; cases he; exact he0
    · cases he
  split at h
  · cases h
  rename_i htx
  have htx' : srcType (P.underlying tx) = true := by simpa using htx
  split at h
  · cases h
  rename_i i hi
  split at h
  rotate_left
  · cases h
  rename_i z n news hz hsrc
  split at h
  · cases h
  rename_i hc
  have hc' : (news.all (·.oneCell') && news.length == n * i.size && z.cells.size == i.size) = true := by simpa using hc
  simp only [Bool.and_eq_true] at hc'
  obtain ⟨⟨h1, h2⟩, h3⟩ := hc'
  have hzs : z.cells.size = i.size := beq_iff_eq.1 h3
  obtain ⟨news', hnr, hsr⟩ := src_sound (P := P) hr hsrc hx htx' h1
  -- what happens when there is no room
  have grow : ∀ (base : Option Addr) (sLen sCap : Nat) (olds olds' : List Value) (md : Nat), md % 4 = 1 → (4 ≤ md → flatL (olds ++ news) = true) → LRel M olds olds' → (Builtin.firstCells i.size sLen (.slice base sLen sCap)).run P w.drew = .ok olds'.toArray w.drew →
      sCap < sLen + n → sLen + n ≤ 1099511627776 → (sLen + n) * i.bytes ≤ 1099511627776 →
      ∃ sp, (Builtin.append_ #[t, tx] ty #[.slice base sLen sCap, x']).run P w = .ok (.slice (some ⟨w.heap.size, 0, none⟩) (sLen + n) (sLen + n + sp))
        (w.drew.alloc (.cells ((olds' ++ news').toArray ++ Builtin.zeroCells z.cells sp) e)) ∧
        Stp N M H w (M.put H.n (w.heap.size, 0, sp)) (H.push (.cells (olds ++ news) e md i.size)) (w.drew.alloc (.cells ((olds' ++ news').toArray ++ Builtin.zeroCells z.cells sp) e)) := by
    intro base sLen sCap olds olds' md hmd hfl hor hold hlt hb1 hb2
    have hrun := run_append_grow_src w t tx ty e i z ht hi hz base sLen sCap olds' hold x' n news' hsr hlt (by omega) (next_fits hlt hb2)
    have hge := grownCap_ge w (sLen + n) sCap e
    refine ⟨grownCap w (sLen + n) sCap e - (sLen + n), ?_, ?_⟩
    · rw [hrun]; congr 2; omega
    · have hd := Stp.drew hr (w.drawn + 1)
      refine hd.trans ?_
      exact Stp.roomy (hr.drew (w.drawn + 1)) (hor.append hnr) e md i.size _ hmd hfl _ (by rw [zeroCells_size, hzs])
  split at h
  · -- nil
    obtain rfl := hs.eq_of_flat rfl
    split at h
    · rename_i hn0
      cases h
      subst hn0
      refine ⟨M, .slice none 0 0, w, ?_, .atom rfl, Stp.refl hr⟩
      have hnl : news' = [] := by have := hsr.newsLen; simpa using this
      have hcells := hsr.cells
      rw [hnl] at hcells
      rcases hsr.kind with ⟨e', hk⟩ | hk <;> simp [Builtin.append_, run_underlying ht, run_underlying hk, sizeOf, typeInfo, hi, hsr.len, hcells]
    · rename_i hn0
      split at h
      · rename_i hb
        cases h
        simp only [Bool.and_eq_true, decide_eq_true_eq] at hb
        have hfl0 : 4 ≤ (if srcFlag H x = true then 5 else 1) → flatL ([] ++ news) = true := fun h => by
          split at h
          · rename_i hf; exact srcFlag_flat hr hf hsrc
          · omega
        obtain ⟨sp, g1, g2⟩ := grow none 0 0 [] [] (if srcFlag H x then 5 else 1) (by split <;> rfl) hfl0 LRel.nil (run_firstCells_none w.drew i.size 0 0 0) (by omega) (by omega) (by simpa using hb.2)
        simp only [Nat.zero_add] at g1
        exact ⟨_, _, _, g1, vrel_flex, by simpa using g2⟩
      · cases h
  · rename_i k off sp len cap
    obtain ⟨b, o, sp', hM, rfl, hsp⟩ := hs.slice_inv
    simp only at h
    split at h
    · rename_i hneed
      have hcap : len + n ≤ (if sp.isSome then cap + sp' else cap) := by split <;> omega
      split at h
      · rename_i hn0
        cases h
        subst hn0
        have hnl : news' = [] := by have := hsr.newsLen; simpa using this
        have hcells := hsr.cells
        rw [hnl] at hcells
        refine ⟨M, .slice (some ⟨b, o + off, none⟩) (len + 0) (if sp.isSome then cap + sp' else cap), w, ?_, ?_, Stp.refl hr⟩
        · have hcap0 : len ≤ (if sp.isSome then cap + sp' else cap) := hcap
          rcases hsr.kind with ⟨e', hk⟩ | hk <;> simp [Builtin.append_, run_underlying ht, run_underlying hk, sizeOf, typeInfo, hi, hsr.len, hcells, hcap0, storeCells]
        · rcases hsp with rfl | rfl
          · exact .slx hM
          · exact .slf hM
      · rw [Option.map_eq_some_iff] at h
        obtain ⟨H1, hw, he1⟩ := h
        cases he1
        obtain ⟨g1, g2, g3, g4, g5⟩ := Stp.write (P := P) hr hw (fun hf => srcFlag_flat hr hf hsrc) hM hnr
        have hrun := run_append_room_src w t tx ty e i ht hi b (o + off) len (if sp.isSome then cap + sp' else cap) x' n news' hsr hcap
          (by intro j hj; have := g3 j hj; rwa [Nat.add_assoc o] ) (by intro j hj; have := g4 j hj; rwa [Nat.add_assoc o])
        refine ⟨M, _, _, hrun, ?_, ?_⟩
        · rcases hsp with rfl | rfl
          · exact .slx hM
          · exact .slf hM
        · rw [Nat.add_assoc o]; exact g2
    · rename_i hneed
      split at h
      · cases h
      · rename_i hb
        have hb' : (decide (len + n ≤ 1099511627776) && decide ((len + n) * i.bytes ≤ 1099511627776)) = true := by simpa using hb
        simp only [Bool.and_eq_true, decide_eq_true_eq] at hb'
        split at h
        · cases h
        · rename_i olds hrd
          split at h
          · cases h
          · rename_i hone
            obtain ⟨olds', q1, q2, q3⟩ := hr.read hrd hM
            have hlen : olds'.length = len * i.size := by rw [← q1.1]; exact q2
            have hfc : ∀ cp, (Builtin.firstCells i.size len (.slice (some ⟨b, o + off, none⟩) len cp)).run P w.drew = .ok olds'.toArray w.drew := fun cp =>
              run_firstCells_some w.drew i.size len _ len cp olds' hlen (by intro j v hv; rw [add_none]; exact q3 j v hv)
            split at h
            · -- exact
              cases h
              have hfl : 4 ≤ (if ((flagAt H k || flatL olds) && (srcFlag H x || flatL news)) = true then 5 else 1) → flatL (olds ++ news) = true := fun h => by
                split at h
                · rename_i hf
                  simp only [Bool.and_eq_true, Bool.or_eq_true] at hf
                  exact flatL_append (hf.1.elim (fun h => flagAt_read hr h hrd) id) (hf.2.elim (fun h => srcFlag_flat hr h hsrc) id)
                · omega
              obtain ⟨spx, g1, g2⟩ := grow (some ⟨b, o + off, none⟩) len cap olds olds' (if ((flagAt H k || flatL olds) && (srcFlag H x || flatL news)) = true then 5 else 1) (by split <;> rfl) hfl q1 (hfc cap) (by omega) hb'.1 hb'.2
              simp only [Option.isSome_none, Bool.false_eq_true, if_false]
              exact ⟨_, _, _, g1, vrel_flex, g2⟩
            · rename_i spv
              split at h
              rotate_left
              · cases h
              rename_i cs e' md esz hget
              split at h
              rotate_left
              · cases h
              rename_i hcond
              cases h
              simp only [Bool.and_eq_true, beq_iff_eq, decide_eq_true_eq] at hcond
              obtain ⟨⟨⟨⟨⟨c1, c2⟩, c3⟩, c4⟩, c5⟩, c6⟩ := hcond
              have hoff0 := Nat.eq_of_beq_eq_true c6
              subst c1; subst c3; subst c4
              have hno : md % 4 ≠ 2 := by omega
              have hmd' : keepMd md (srcFlag H x || flatL news) % 4 = 1 := by rw [keepMd_mod]; exact c2
              have hfl : 4 ≤ keepMd md (srcFlag H x || flatL news) → flatL (olds ++ news) = true := fun h => by
                obtain ⟨k1, k2⟩ := keepMd_le h
                rw [Bool.or_eq_true] at k2
                exact flatL_append (flagAt_read hr (by unfold flagAt; rw [hget]; exact Nat.ble_eq_true_of_le k1) hrd) (k2.elim (fun h => srcFlag_flat hr h hsrc) id)
              simp only [Option.isSome_some, if_true]
              obtain ⟨C, fz, p1, p2, p3, p4, p5⟩ := hr.cells hget hM
              have hown : (H.get k).owned = true := by rw [hget]; simpa [AObj.owned] using hno
              by_cases hroom : len + n ≤ len + sp'
              · -- in place
                have hnl : news'.length = n * i.size := hsr.newsLen
                have hmul : n * i.size ≤ sp' * i.size := Nat.mul_le_mul_right _ (by omega)
                have hfit : o + off + len * i.size + news'.length ≤ C.size := by rw [hnl]; omega
                have hcell : ∀ j, j < news'.length → (w.cell? ⟨b, o + off + len * i.size + j, none⟩).isSome = true := by
                  intro j hj
                  have : o + off + len * i.size + j < C.size := by omega
                  simp [World.cell?, p1, this]
                have hfro : ∀ j, j < news'.length → w.frozen? ⟨b, o + off + len * i.size + j, none⟩ = false := by
                  intro j hj
                  have hj' : o + off + len * i.size + j < C.size := by omega
                  have := (p4 hno).2.2 _ hj'
                  obtain ⟨lo, hi'⟩ := fz
                  simp only [World.frozen?, p1]
                  simpa using this
                have hrun := run_append_room_src w t tx ty e' i ht hi b (o + off) len (len + sp') x' n news' hsr hroom hcell hfro
                obtain ⟨C', r1, r2, r3, r4, r5, r6, r7, r8⟩ := setCells_facts b news' (o + off + len * i.size) w C e' fz p1 hfit
                refine ⟨M.put H.n (b, o + off, sp' - n), _, _, hrun, ?_, ?_⟩
                · have e1 : len + sp' = len + n + (sp' - n) := by omega
                  rw [e1]; exact vrel_flex
                · refine Stp.regrow hr (.cells (olds ++ news) e' (keepMd md (srcFlag H x || flatL news)) i.size) hown hM ?_ r4 r5 r6 r7 r8
                  intro M' hle
                  have hol : olds.length = len * i.size := q2
                  have hnl2 : news.length = n * i.size := by rw [hnr.1]; exact hnl
                  refine ⟨C', fz, r1, ?_, ?_, ?_, fun h => absurd hmd' h, hfl⟩
                  · rw [r2]
                    simp only [List.length_append, hol, hnl2]
                    have : (sp' - n) * i.size = sp' * i.size - n * i.size := Nat.sub_mul _ _ _
                    omega
                  · intro j u hu
                    rw [List.getElem?_append] at hu
                    split at hu
                    · rename_i hj
                      obtain ⟨u', s1, s2⟩ := q1.get hu
                      have hcu := q3 j u' s1
                      simp only [World.cell?, p1, Option.isSome_none, Bool.false_eq_true, if_false] at hcu
                      exact ⟨u', by rw [r3, if_pos (by omega)]; exact hcu, s2.mono hle⟩
                    · rename_i hj
                      obtain ⟨u', s1, s2⟩ := hnr.get hu
                      have hjl : j - olds.length < news.length := by
                        rcases Nat.lt_or_ge (j - olds.length) news.length with h0 | h0
                        · exact h0
                        · rw [List.getElem?_eq_none h0] at hu; cases hu
                      refine ⟨u', ?_, s2.mono hle⟩
                      rw [r3, if_neg (by omega), if_pos (by omega)]
                      have : o + off + j - (o + off + len * i.size) = j - olds.length := by omega
                      rw [this]; exact s1
                  · intro _
                    exact ⟨(p4 hno).1, by rw [(p4 hno).2.1, hoff0], fun j hj => (p4 hno).2.2 j (by rw [r2] at hj; exact hj)⟩
              · obtain ⟨spx, g1, g2⟩ := grow (some ⟨b, o + off, none⟩) len (len + sp') olds olds' (keepMd md (srcFlag H x || flatL news)) hmd' hfl q1 (hfc _) (by omega) hb'.1 hb'.2
                refine ⟨M.put H.n (w.heap.size, 0, spx), _, _, g1, ?_, ?_⟩
                · exact vrel_flex
                · -- first the old one ends
                  have hkill : Stp N M H w M (H.set k .dead) w := Stp.turn hr .dead hown hM (fun h => by cases h) rfl rfl rfl rfl (fun _ _ => rfl)
                  have hn : (H.set k .dead).n = H.n := Heap.n_set H k _
                  have hd := Stp.drew hkill.rel (w.drawn + 1)
                  have := Stp.roomy (hkill.rel.drew (w.drawn + 1)) (q1.append hnr) e' (keepMd md (srcFlag H x || flatL news)) i.size spx hmd' hfl (Builtin.zeroCells z.cells spx) (by rw [zeroCells_size, hzs])
                  rw [hn] at this
                  exact hkill.trans (hd.trans this)
  · cases h
end
end Go.Dg
