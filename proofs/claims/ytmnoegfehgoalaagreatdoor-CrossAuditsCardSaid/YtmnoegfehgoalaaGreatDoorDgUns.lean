/- Operations of package unsafe that strings.Builder is made of: pointers seen as unsafe.Pointer and back, pointers held against one another, the text of a row of bytes (which is frozen, so it is dropped). -/
import Derived.Test.YtmnoegfehgoalaaGreatDoorDgMemU
import Derived.Lib.Builder
import Derived.Lib.UnsafeStr
import Derived.LaidEqlPtr
namespace Go.Dg
set_option linter.unusedVariables false
set_option linter.unusedSimpArgs false
def samePtr : Value → Value → Bool
  | .pointer (some ⟨k, off, none⟩), .pointer (some ⟨k', off', none⟩) => Nat.beq k k' && Nat.beq off off'
  | _, _ => false
/-- The text of the first n of some cells. -/
def headStr (cs : List Value) (n : Nat) : Option ByteArray := (cellInts (cs.take n)).map fun ns => ⟨(ns.map fun n => UInt8.ofNat n.toNat).toArray⟩
def evUns (P : Program) (G : Nat) (ts : List Value) (H : Heap) (o : Oper) : Option (Value × Heap × List Nat) :=
  match o.op with
  | .convert src dst x => match P.underlying src, P.underlying dst, rd G ts x with
    | some (.pointer t), some .unsafePointer, some (.pointer (some ⟨k, off, none⟩)) => match P.info? t, H.get k with
      | some j, .cells cs _ _ _ => if !(Nat.beq j.size 0) && decide (off < cs.length) then some (.pointer (some ⟨k, off, none⟩), H, []) else none
      | _, _ => none
    | some .unsafePointer, some (.pointer u), some (.pointer (some ⟨k, off, none⟩)) => match P.info? u, H.get k with
      | some _, .cells cs e md _ => if Nat.beq off 0 && Nat.beq e u && !(Nat.beq (md % 4) 2) && !(Nat.beq (P.cellsOf u) 0) && decide (P.cellsOf u ≤ cs.length) then some (.pointer (some ⟨k, off, none⟩), H, []) else none
      | _, _ => none
    | _, _, _ => none
  | .binOp .eql t x y _ => match rd G ts x, rd G ts y, P.underlying t with
    | some u, some v, some (.pointer te) => if samePtr u v && (P.info? te).isSome then some (.bool true, H, []) else none
    | _, _, _ => none
  | .binOp .neq t x y _ => match rd G ts x, rd G ts y, P.underlying t with
    | some u, some v, some (.pointer te) => if samePtr u v && (P.info? te).isSome then some (.bool false, H, []) else none
    | _, _, _ => none
  | .call { callee := .builtin .unsafeSliceData, args, argTypes } => match args.toList with
    | [x] => match rd G ts x with
      | some (.slice none _ _) => some (.pointer none, H, [])
      | some (.slice (some ⟨k, off, _⟩) _ cap) => if Nat.beq cap 0 then none else some (.pointer (some ⟨k, off, none⟩), H, [])
      | _ => none
    | _ => none
  | .call { callee := .builtin .unsafeString, args, argTypes } => match args.toList, argTypes.toList with
    | [x, y], [pt, _] => match rd G ts x, rd G ts y with
      | some (.pointer p), some (.int .i64 n) =>
        if n = 0 then some (.string ⟨#[]⟩, H, []) else match p, P.underlying pt with
          | some ⟨k, off, none⟩, some (.pointer e) => match H.get k with
            | .cells cs e' md _ => if Nat.beq off 0 && Nat.beq e e' && !(Nat.beq (md % 4) 2) && Nat.beq (P.cellsOf e) 1 && decide (0 < n) && decide (n.toNat ≤ cs.length) && decide (n ≤ 9223372036854775807) then
                (headStr cs n.toNat).map fun s => (.string s, H.set k .dead, [k])
              else none
            | _ => none
          | _, _ => none
      | _, _ => none
    | _, _ => none
  | .sliceToArrayPointer arr x => match P.underlying arr, rd G ts x with
    | some (.array n _), some (.slice (some ⟨k, off, _⟩) len _) => if n ≤ len then some (.pointer (some ⟨k, off, none⟩), H, []) else none
    | _, _ => none
  | _ => none
section
variable {P : Program} {G N : Nat} {M : Emb} {H : Heap} {w : World} {ts : List Value} {a : Act}
theorem run_loadBytesI (b : Nat) : ∀ (xs : List Int) (o : Nat) (acc : ByteArray), (∀ j x, xs[j]? = some x → w.cell? ⟨b, o + j, none⟩ = some (.int .u8 x)) →
    (loadBytes ⟨b, o, none⟩ acc xs.length).run P w = .ok ⟨acc.data ++ (xs.map fun n => UInt8.ofNat n.toNat).toArray⟩ w
  | [], o, acc, _ => by simp [loadBytes]
  | x :: l, o, acc, h => by
    have h0 : w.cell? ⟨b, o, none⟩ = some (.int .u8 x) := h 0 x rfl
    have ih := run_loadBytesI b l (o + 1) (acc.push x.toNat.toUInt8) (fun j y hy => by
      have := h (j + 1) y (by simpa using hy)
      have e : o + (j + 1) = o + 1 + j := by omega
      rw [← e]; exact this)
    simp only [loadBytes, List.length_cons, Sem.run_bind, run_load, h0, Result.andThen_ok, add_none]
    rw [ih]
    congr 1
    apply ByteArray.ext
    simp [ByteArray.push]
theorem ptr_of {p : Option Addr} {u : Value} (h : VRel M (.pointer p) u) : ∃ q, u = .pointer q := by
  cases h with
  | atom _ => exact ⟨_, rfl⟩
  | ptr _ => exact ⟨_, rfl⟩
theorem liesAt_self {e : TypeId} {count : Nat} (hc : P.cellsOf e ≠ 0) (hn : 1 ≤ count) : liesAt P P.depth e count 0 e 1 = true := by
  have hd : P.depth = (2 * (P.types.size + Made.depth) + 1) + 1 := rfl
  rw [hd]
  simp only [liesAt, Bool.or_eq_true]
  left
  rw [hd]
  simp [rowAt, hc, hn, sameLayout]
theorem run_unsafeStringI (pt it ty e : TypeId) (hp : P.underlying pt = some (.pointer e)) (hc : P.cellsOf e = 1) (g cells : Nat) (hsh : w.shape? g = some (e, cells)) (l : List Int) (h0 : l ≠ []) (hn : l.length ≤ cells) (h63 : l.length ≤ 9223372036854775807)
    (hcell : ∀ j x, l[j]? = some x → w.cell? ⟨g, 0 + j, none⟩ = some (.int .u8 x)) :
    (Builtin.unsafeString_ #[pt, it] ty #[.pointer (some ⟨g, 0, none⟩), .int .i64 l.length]).run P w = .ok (.string ⟨(l.map fun n => UInt8.ofNat n.toNat).toArray⟩) (w.freeze ⟨g, 0, none⟩ l.length) := by
  have hl : l.length ≠ 0 := by simpa using h0
  have hlb := run_loadBytesI (P := P) (w := w) g l 0 .empty hcell
  have hlies := Lib.liesAt_bytes (P := P) hc (cells / P.cellsOf e) l.length (by rw [hc]; simpa using hn)
  have h63' : ¬ (9223372036854775807 : Int) < (l.length : Int) := by omega
  have hdef : Builtin.unsafeString_ #[pt, it] ty #[.pointer (some ⟨g, 0, none⟩), .int .i64 l.length] =
      (do
        let n ← asInt (.int .i64 l.length)
        if n < 0 then runtimePanic (.error "unsafe.String: len out of range")
        if n > IntKind.i64.max then unsupported (.unsafePointer "String: a length above the largest int")
        if n = 0 then pure (.string .empty)
        else if ← variablesAt ⟨g, 0, none⟩ (← elemOf pt) n.toNat then do
          let s ← loadBytes ⟨g, 0, none⟩ .empty n.toNat
          freeze ⟨g, 0, none⟩ n.toNat
          pure (.string s)
        else unsupported (.unsafePointer "String: not so many bytes at ptr")) := rfl
  rw [hdef]
  have hmax : IntKind.i64.max = 9223372036854775807 := rfl
  have hneg : ¬ (l.length : Int) < 0 := by omega
  simp [asInt, asIntOf, hmax, h63', hneg, hl, variablesAt, hsh, elemOf, run_underlying hp, hlies, hlb]
/-- Cells that are frozen are given up. -/
theorem Stp.freeze (hr : HRel M N H w) {k b o sp : Nat} (hown : (H.get k).owned = true) (hm : M k = some (b, o, sp)) (n : Nat) : Stp N M H w M (H.set k .dead) (w.freeze ⟨b, 0, none⟩ n) := by
  refine Stp.turn hr .dead hown hm (fun h => by cases h) ?_ ?_ ?_ ?_ ?_
  all_goals unfold World.freeze; split
  all_goals first | rfl | skip
  · simp
  · intro b' _; rfl
  · intro b' hb
    simp only [Array.getElem?_modify]
    rw [if_neg (fun h => hb h.symm)]
theorem samePtr_inv {u v u' v' : Value} (h : samePtr u v = true) (hu : VRel M u u') (hv : VRel M v v') : ∃ a, u' = .pointer (some a) ∧ v' = .pointer (some a) := by
  unfold samePtr at h
  split at h
  · rename_i k off k' off'
    simp only [Bool.and_eq_true] at h
    obtain rfl := Nat.eq_of_beq_eq_true h.1
    obtain rfl := Nat.eq_of_beq_eq_true h.2
    obtain ⟨b, o, sp, h1, rfl⟩ := hu.ptr_inv
    obtain ⟨b', o', sp', h2, rfl⟩ := hv.ptr_inv
    rw [h1] at h2
    cases h2
    exact ⟨_, rfl, rfl⟩
  · cases h
set_option maxHeartbeats 1000000 in
theorem evUns_sound (hg : Globs G M) (hr : HRel M N H w) (hts : TRel M ts a.tmps.toList) {o : Oper} {v : Value} {H' : Heap} {log : List Nat} (h : evUns P G ts H o = some (v, H', log)) :
    OpPost P N M H w v H' ((execOp a.eval o).run P w) := by
  obtain ⟨dst, op, type, pos, after, guard⟩ := o
  unfold evUns at h
  simp only at h
  split at h
  · -- convert
    rename_i src dst' x
    split at h
    · rename_i t k off hsrc hdst hx
      obtain ⟨b, o, sp, hM, ev⟩ := (rd_sound hg hts hx).ptr_inv
      split at h
      · rename_i j cs e md esz hj hk
        split at h
        · rename_i hc
          cases h
          simp only [Bool.and_eq_true, Bool.not_eq_true', decide_eq_true_eq] at hc
          obtain ⟨C, fz, h1, h2, h3, _⟩ := hr.cells hk hM
          have hsz : j.size ≠ 0 := fun h => by rw [h] at hc; simp at hc
          have h5 := Lib.run_to_unsafe (P := P) w (src := src) (dst := dst') ⟨b, o + off, none⟩ hsrc hdst hj hsz (e := e) (cells := C.size) (by simp [World.shape?, h1]) (by simp only; omega)
          simp only [execOp, ev, Sem.run_bind, h5, Sem.run_pure, Result.andThen_ok]
          exact .same hr (.ptr hM)
        · cases h
      · cases h
    · rename_i u k off hsrc hdst hx
      obtain ⟨b, o, sp, hM, ev⟩ := (rd_sound hg hts hx).ptr_inv
      split at h
      · rename_i j cs e md esz hj hk
        split at h
        · rename_i hc
          cases h
          simp only [Bool.and_eq_true, Bool.not_eq_true', decide_eq_true_eq] at hc
          obtain ⟨⟨⟨⟨c1, c2⟩, c3⟩, c4⟩, c5⟩ := hc
          obtain rfl := Nat.eq_of_beq_eq_true c1
          obtain rfl := Nat.eq_of_beq_eq_true c2
          obtain ⟨C, fz, h1, h2, h3, h4, _⟩ := hr.cells hk hM
          have hmd : md % 4 ≠ 2 := fun h => by rw [h] at c3; simp at c3
          have ho := (h4 hmd).2.1
          have hz : P.cellsOf e ≠ 0 := fun h => by rw [h] at c4; simp at c4
          subst ho
          have hcount : 1 ≤ C.size / P.cellsOf e := (Nat.le_div_iff_mul_le (Nat.pos_of_ne_zero hz)).2 (by omega)
          have h5 := Lib.run_from_unsafe (P := P) w (src := src) (dst := dst') ⟨b, 0, none⟩ hsrc hdst hj (e := e) (cells := C.size) (by simp [World.shape?, h1]) (liesAt_self hz hcount)
          simp only [Nat.zero_add] at ev
          simp only [execOp, ev, Sem.run_bind, h5, Sem.run_pure, Result.andThen_ok]
          exact .same hr (.ptr (k := k) (off := 0) hM)
        · cases h
      · cases h
    · cases h
  · -- ==
    rename_i t x y ty
    split at h
    · rename_i u v te hx hy ht
      split at h
      · rename_i hc
        cases h
        simp only [Bool.and_eq_true] at hc
        obtain ⟨p, e1, e2⟩ := samePtr_inv hc.1 (rd_sound hg hts hx) (rd_sound hg hts hy)
        obtain ⟨j, hj⟩ := Option.isSome_iff_exists.1 hc.2
        have h5 := run_eql_ptr_same (P := P) w p ht hj
        have h6 : (eqGuard .eql t x y (.pointer (some p)) (.pointer (some p))).run P w = .ok () w := by simp [eqGuard]
        simp only [execOp, e1, e2, Sem.run_bind, h6, h5, Sem.run_pure, Result.andThen_ok]
        exact .same hr (.atom rfl)
      · cases h
    · cases h
  · -- !=
    rename_i t x y ty
    split at h
    · rename_i u v te hx hy ht
      split at h
      · rename_i hc
        cases h
        simp only [Bool.and_eq_true] at hc
        obtain ⟨p, e1, e2⟩ := samePtr_inv hc.1 (rd_sound hg hts hx) (rd_sound hg hts hy)
        obtain ⟨j, hj⟩ := Option.isSome_iff_exists.1 hc.2
        have h5 := Lib.run_neq_ptr_same (P := P) w p ht hj
        have h6 : (eqGuard .neq t x y (.pointer (some p)) (.pointer (some p))).run P w = .ok () w := by simp [eqGuard]
        simp only [execOp, e1, e2, Sem.run_bind, h6, h5, Sem.run_pure, Result.andThen_ok]
        exact .same hr (.atom rfl)
      · cases h
    · cases h
  · -- unsafe.SliceData
    rename_i args argTypes
    split at h
    rotate_left
    · cases h
    rename_i x hargs
    obtain rfl : args = #[x] := by apply Array.ext'; simpa using hargs
    have em : (#[x].map a.eval) = #[a.eval x] := by simp
    split at h
    · rename_i n c hx
      cases h
      have ev := (rd_sound hg hts hx).eq_of_flat rfl
      have hrun := Lib.run_unsafeSliceData_nil (P := P) w argTypes type n c
      simp only [execOp, resolve, invoke, builtin, Sem.run_bind, Sem.run_pure, Result.andThen_ok, em, ev, hrun]
      exact .same hr (.atom rfl)
    · rename_i k off s n cap hx
      split at h
      · cases h
      rename_i hc
      cases h
      obtain ⟨b, o, sp, hM, ev, _⟩ := (rd_sound hg hts hx).slice_inv
      have hc' : (if s.isSome then cap + sp else cap) ≠ 0 := by
        have : cap ≠ 0 := fun h => hc (by rw [h]; rfl)
        split <;> omega
      have hrun := Lib.run_unsafeSliceData_row (P := P) w argTypes type ⟨b, o + off, none⟩ n _ hc'
      simp only [execOp, resolve, invoke, builtin, Sem.run_bind, Sem.run_pure, Result.andThen_ok, em, ev, hrun]
      exact .same hr (.ptr hM)
    · cases h
  · -- unsafe.String
    rename_i args argTypes
    split at h
    rotate_left
    · cases h
    rename_i x y pt it ha hat
    obtain rfl := list_two ha
    obtain rfl := list_two hat
    have em : (#[x, y].map a.eval) = #[a.eval x, a.eval y] := by simp
    split at h
    rotate_left
    · cases h
    rename_i p n hx hy
    have ev2 := (rd_sound hg hts hy).eq_of_flat rfl
    have hvx := rd_sound (a := a) hg hts hx
    split at h
    · rename_i hn
      cases h
      subst hn
      have hp := ptr_of hvx
      obtain ⟨q, ev⟩ := hp
      have hrun := Lib.run_unsafeString_none (P := P) w pt it type q
      simp only [execOp, resolve, invoke, builtin, Sem.run_bind, Sem.run_pure, Result.andThen_ok, em, ev, ev2, hrun]
      exact .same hr (.atom rfl)
    · rename_i hn
      split at h
      rotate_left
      · cases h
      rename_i k off e hpt
      split at h
      rotate_left
      · cases h
      rename_i cs e' md esz hk
      split at h
      rotate_left
      · cases h
      rename_i hc
      simp only [Bool.and_eq_true, Bool.not_eq_true', decide_eq_true_eq] at hc
      obtain ⟨⟨⟨⟨⟨⟨c1, c2⟩, c3⟩, c4⟩, c5⟩, c6⟩, c7⟩ := hc
      obtain rfl := Nat.eq_of_beq_eq_true c1
      obtain rfl := Nat.eq_of_beq_eq_true c2
      have c4' := Nat.eq_of_beq_eq_true c4
      have hmd : md % 4 ≠ 2 := fun h => by rw [h] at c3; simp at c3
      rw [Option.map_eq_some_iff] at h
      obtain ⟨s, hs, he⟩ := h
      cases he
      unfold headStr at hs
      rw [Option.map_eq_some_iff] at hs
      obtain ⟨ns, hns, rfl⟩ := hs
      obtain ⟨b, o, sp, hM, ev⟩ := hvx.ptr_inv
      obtain ⟨C, fz, h1, h2, h3, h4, _⟩ := hr.cells hk hM
      have ho := (h4 hmd).2.1
      subst ho
      have hl := cellInts_sound _ _ hns
      have hlen : ns.length = n.toNat := by
        have := congrArg List.length hl
        simp only [List.length_take, List.length_map] at this
        omega
      have hcell : ∀ j x, ns[j]? = some x → w.cell? ⟨b, 0 + j, none⟩ = some (.int .u8 x) := by
        intro j x hj
        have hjl : j < n.toNat := by
          rw [← hlen]
          rcases Nat.lt_or_ge j ns.length with h0 | h0
          · exact h0
          · rw [List.getElem?_eq_none h0] at hj; cases hj
        have h5 : cs[j]? = some (.int .u8 x) := by
          have : (cs.take n.toNat)[j]? = some (.int .u8 x) := by rw [hl, List.getElem?_map, hj]; rfl
          rw [List.getElem?_take, if_pos hjl] at this
          exact this
        obtain ⟨v', g1, g2⟩ := h3 j _ h5
        have g3 := g2.eq_of_flat rfl
        subst g3
        simp only [Nat.zero_add] at g1
        simp only [World.cell?, h1, Nat.zero_add]
        simpa using g1
      have hrun := run_unsafeStringI (P := P) (w := w) pt it type e hpt c4' b C.size (by simp [World.shape?, h1]) ns (fun h => by rw [h] at hlen; simp at hlen; omega) (by rw [hlen]; omega) (by rw [hlen]; omega) hcell
      have hnn : ((ns.length : Nat) : Int) = n := by rw [hlen]; omega
      rw [hnn] at hrun
      simp only [Nat.zero_add] at ev
      simp only [execOp, resolve, invoke, builtin, Sem.run_bind, Sem.run_pure, Result.andThen_ok, em, ev, ev2, hrun]
      exact .value (.atom rfl) (Stp.freeze hr (by rw [hk]; simp [AObj.owned, hmd]) hM _)
  · -- the array under a slice
    rename_i arr x
    split at h
    · rename_i n e k off sp0 len cap harr hx
      split at h
      · rename_i hc
        cases h
        obtain ⟨b, o, sp, hM, ev, _⟩ := (rd_sound hg hts hx).slice_inv
        have hrun : (Instr.arrayAt arr (a.eval x)).run P w = .ok (.pointer (some ⟨b, o + off, none⟩)) w := by
          rw [ev]
          simp [Instr.arrayAt, run_underlying harr, Nat.not_lt.2 hc]
        simp only [execOp, Sem.run_bind, hrun, Sem.run_pure, Result.andThen_ok]
        exact .same hr (.ptr hM)
      · cases h
    · cases h
  · cases h
end
/-- What is turned is noted. -/
theorem evUns_log {P : Program} {G : Nat} {ts : List Value} {H H' : Heap} {o : Oper} {v : Value} {log : List Nat} (h : evUns P G ts H o = some (v, H', log)) : (H' = H ∧ log = []) ∨ ∃ k, H' = H.set k .dead ∧ log = [k] := by
  obtain ⟨dst, op, type, pos, after, guard⟩ := o
  unfold evUns at h
  simp only at h
  split at h
  · split at h
    · split at h
      · split at h
        · cases h; exact .inl ⟨rfl, rfl⟩
        · cases h
      · cases h
    · split at h
      · split at h
        · cases h; exact .inl ⟨rfl, rfl⟩
        · cases h
      · cases h
    · cases h
  · split at h
    · split at h
      · cases h; exact .inl ⟨rfl, rfl⟩
      · cases h
    · cases h
  · split at h
    · split at h
      · cases h; exact .inl ⟨rfl, rfl⟩
      · cases h
    · cases h
  · split at h
    · split at h
      · cases h; exact .inl ⟨rfl, rfl⟩
      · split at h
        · cases h
        · cases h; exact .inl ⟨rfl, rfl⟩
      · cases h
    · cases h
  · split at h
    · split at h
      · split at h
        · cases h; exact .inl ⟨rfl, rfl⟩
        · split at h
          · split at h
            · split at h
              · rw [Option.map_eq_some_iff] at h
                obtain ⟨s, _, he⟩ := h
                cases he
                exact .inr ⟨_, rfl, rfl⟩
              · cases h
            · cases h
          · cases h
      · cases h
    · cases h
  · split at h
    · split at h
      · cases h; exact .inl ⟨rfl, rfl⟩
      · cases h
    · cases h
  · cases h
end Go.Dg
