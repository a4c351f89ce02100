/- The detector's calls over whatever heap: for the laws of layer 34. -/
import Derived.Test.YtafhlmpifdclaaaRows
import Derived.Test.YtafhlmpifdclaaaShiftAdds
namespace Go.Proofs.Ytafhlmpifdclaaa.shift
open Go.Dg (junk St Ex Ev Hint evCall evCallS evCode evCodeS evLoop cleanSt ue bodied noOver sbOf headOf tailOf bodyOf Flats flatOver Heap AObj SCall Law ofLaw)
set_option linter.unusedVariables false
set_option linter.unusedSimpArgs false

theorem In_bst {ps : List (Int × Int)} (h : ∀ p ∈ ps, In p.1) (o j : Nat) : In (bst (q18 ps o) j).1 := by
  have key : ∀ i, In (q18 ps o i).1 := by
    intro i
    unfold q18
    rw [List.getD_eq_getElem?_getD]
    cases hi : ps[o + i]? with
    | none => unfold In; simp
    | some p => exact h p (List.mem_of_getElem? hi)
  rw [bst_bx]
  exact key _
/-- The samples when one has come. -/
def addS (w : Nat) (ps : List (Int × Int)) (x y : Int) : List (Int × Int) := if ps.length = 2 * w then (ps ++ [(x, y)]).drop 1 else ps ++ [(x, y)]
def r1 (w : Nat) (ps : List (Int × Int)) : Int := (bst (q18 ps 0) (w - 1)).1
def r2 (w : Nat) (ps : List (Int × Int)) : Int := (bst (q18 ps w) (w - 1)).1
def isStep (w : Nat) (b : Int) (ps : List (Int × Int)) : Bool := decide (2 * w ≤ ps.length) && apartB (r1 w ps) (r2 w ps) b
def addR (w : Nat) (b c : Int) (ps : List (Int × Int)) : Value :=
  if isStep w b ps = true then .tuple #[.agg #[.int .u64 (c - (w : Int)), .int .i64 (r1 w ps), .int .i64 (r2 w ps)], .bool true] else zeroR
structure Det (w : Nat) (b c : Int) (ps : List (Int × Int)) : Prop where
  w0 : 0 < w
  w1 : w ≤ 64
  b0 : 0 ≤ b ∧ b < 9223372036854775808
  c0 : (ps.length : Int) ≤ c
  c1 : c < 1000000
  len : ps.length ≤ 2 * w
  ok : ∀ p ∈ ps, In p.1
theorem addS_mem {w : Nat} {ps : List (Int × Int)} {x y : Int} (h : ∀ p ∈ ps, In p.1) (hx : In x) : ∀ p ∈ addS w ps x y, In p.1 := by
  intro p hp
  have hp' : p ∈ ps ++ [(x, y)] := by
    unfold addS at hp
    split at hp
    · exact List.mem_of_mem_drop hp
    · exact hp
  rcases List.mem_append.1 hp' with h1 | h1
  · exact h p h1
  · simp only [List.mem_cons, List.not_mem_nil, or_false] at h1
    subst h1; exact hx
theorem addS_len {w : Nat} {ps : List (Int × Int)} {x y : Int} (h : ps.length ≤ 2 * w) : (addS w ps x y).length = min (ps.length + 1) (2 * w) := by
  unfold addS
  split
  · simp; omega
  · simp; omega
theorem Det.add {w : Nat} {b c : Int} {ps : List (Int × Int)} (d : Det w b c ps) {x y : Int} (hx : In x) (hc : c + 1 < 1000000) : Det w b (c + 1) (addS w ps x y) :=
  ⟨d.w0, d.w1, d.b0, by rw [addS_len d.len]; have := d.c0; omega, hc, by rw [addS_len d.len]; omega, addS_mem d.ok hx⟩

theorem add_small {w : Nat} {b c : Int} {ps : List (Int × Int)} (d : Det w b c ps) (x y : Int) (hx : In x) (h0 : 0 < ps.length) :
    evCall Try.prog 0 (bodied Try.prog) over1 sbs 1000 20 11 [.pointer (some ⟨0, 0, none⟩), .int .i64 x, .int .i64 y] ⟨2, [A18 ps 1 2, D w b (.slice (some ⟨1, 0, some 0⟩) ps.length ps.length) c]⟩ =
      some (addR w b (c + 1) (addS w ps x y), ⟨3, [.cells (pc (addS w ps x y)) 54 5 2, .dead, D w b (.slice (some ⟨2, 0, some 0⟩) (addS w ps x y).length (addS w ps x y).length) (c + 1)]⟩, [0, 1]) := by
  have hlen := d.len
  have hc := d.c0
  have hc1 := d.c1
  have hw := d.w0
  by_cases hfull : ps.length = 2 * w
  · have e : addS w ps x y = (ps ++ [(x, y)]).drop 1 := by unfold addS; rw [if_pos hfull]
    have el : (addS w ps x y).length = 2 * w := by rw [addS_len d.len]; omega
    have hm := addS_mem (w := w) (y := y) d.ok hx
    have i1 := In_bst hm 0 (w - 1)
    have i2 := In_bst hm w (w - 1)
    rw [el, hfull]
    rw [e] at i1 i2 ⊢
    cases hap : apartB (bst (q18 ((ps ++ [(x, y)]).drop 1) 0) (w - 1)).1 (bst (q18 ((ps ++ [(x, y)]).drop 1) w) (w - 1)).1 b with
    | true =>
      have hi : addR w b (c + 1) ((ps ++ [(x, y)]).drop 1) = _ := if_pos (by unfold isStep r1 r2; rw [hap, decide_eq_true (by simp; omega)]; rfl)
      rw [hi]
      exact add_more_true w b x y c ps hfull hw d.w1 (by omega) (by omega) (by omega) d.b0 i1 i2 hap
    | false =>
      have hi : addR w b (c + 1) ((ps ++ [(x, y)]).drop 1) = zeroR := if_neg (by unfold isStep r1 r2; rw [hap]; simp)
      rw [hi]
      exact add_more_false w b x y c ps hfull hw d.w1 (by omega) (by omega) (by omega) d.b0 i1 i2 hap
  · have e : addS w ps x y = ps ++ [(x, y)] := by unfold addS; rw [if_neg hfull]
    have el : (addS w ps x y).length = ps.length + 1 := by rw [addS_len d.len]; omega
    have hm := addS_mem (w := w) (y := y) d.ok hx
    have i1 := In_bst hm 0 (w - 1)
    have i2 := In_bst hm w (w - 1)
    rw [el]
    rw [e] at i1 i2 ⊢
    by_cases hfew : ps.length + 1 < 2 * w
    · have hi : addR w b (c + 1) (ps ++ [(x, y)]) = zeroR := if_neg (by unfold isStep; rw [decide_eq_false (by simp; omega)]; simp)
      rw [hi]
      exact add_few w b x y c ps _ rfl hfew hw d.w1 (by omega) (by omega)
    · cases hap : apartB (bst (q18 (ps ++ [(x, y)]) 0) (w - 1)).1 (bst (q18 (ps ++ [(x, y)]) w) (w - 1)).1 b with
      | true =>
        have hi : addR w b (c + 1) (ps ++ [(x, y)]) = _ := if_pos (by unfold isStep r1 r2; rw [hap, decide_eq_true (by simp; omega)]; rfl)
        rw [hi]
        exact add_full_true w b x y c ps _ rfl (by omega) hw d.w1 (by omega) (by omega) (by omega) d.b0 i1 i2 hap
      | false =>
        have hi : addR w b (c + 1) (ps ++ [(x, y)]) = zeroR := if_neg (by unfold isStep r1 r2; rw [hap]; simp)
        rw [hi]
        exact add_full_false w b x y c ps _ rfl (by omega) hw d.w1 (by omega) (by omega) (by omega) d.b0 i1 i2 hap

/-! ### 'Add' over whatever heap -/
def arr (ps : List (Int × Int)) : AObj := .cells (pc ps) 54 5 2
def sl (k n : Nat) : Value := .slice (some ⟨k, 0, some 0⟩) n n
theorem arr_ids (ps : List (Int × Int)) : (arr ps).ids = [] := Dg.ids_flat (pc_flat ps)
theorem arr_ren (ps : List (Int × Int)) (f : Nat → Nat) : (arr ps).ren f = arr ps := Dg.ren_mark
theorem D_ids (w : Nat) (b c : Int) (k n : Nat) : (D w b (sl k n) c).ids = [k] := rfl
theorem D_ren (w : Nat) (b c : Int) (k n : Nat) (f : Nat → Nat) : (D w b (sl k n) c).ren f = D w b (sl (f k) n) c := rfl
theorem Dn_ids (w : Nat) (b c : Int) : (D w b (.slice none 0 0) c).ids = [] := rfl
theorem Dn_ren (w : Nat) (b c : Int) (f : Nat → Nat) : (D w b (.slice none 0 0) c).ren f = D w b (.slice none 0 0) c := rfl
theorem addR_ren (w : Nat) (b c : Int) (ps : List (Int × Int)) (f : Nat → Nat) : Dg.renV f (addR w b c ps) = addR w b c ps := by unfold addR zeroR; split <;> rfl
theorem add_is {H : Heap} {d a w : Nat} {b c x y : Int} {ps : List (Int × Int)} (hl : H.objs.length = H.n) (hd : H.get d = D w b (sl a ps.length) c) (ha : H.get a = arr ps) (hne : d ≠ a) (det : Det w b c ps) (hx : In x) (h0 : 0 < ps.length) :
    SCall Try.prog 11 [.pointer (some ⟨d, 0, none⟩), .int .i64 x, .int .i64 y] H (addR w b (c + 1) (addS w ps x y)) (((H.set a .dead).set d (D w b (sl H.n (addS w ps x y).length) (c + 1))).push (arr (addS w ps x y))) [d, a] := by
  have hld : (H.get d).live = true := by rw [hd]; rfl
  have hla : (H.get a).live = true := by rw [ha]; rfl
  have hdn := Dg.Heap.lt_of_live hld
  have han := Dg.Heap.lt_of_live hla
  have hsm := SCall.of_ev mixed (Dg.bodied_ok _) over1_ok (add_small det x y hx h0)
  have hdf : (d == a) = false := by simpa using hne
  have n1 : ((H.set a .dead).set d (D w b (sl H.n (addS w ps x y).length) (c + 1))).n = H.n := by rw [Dg.Heap.n_set, Dg.Heap.n_set]
  have l1 : ((H.set a .dead).set d (D w b (sl H.n (addS w ps x y).length) (c + 1))).objs.length = H.n := by rw [Dg.Heap.len_set, Dg.Heap.len_set]; exact hl
  have gold : ∀ k, k < H.n → k ∉ [d, a] → (((H.set a .dead).set d (D w b (sl H.n (addS w ps x y).length) (c + 1))).push (arr (addS w ps x y))).get k = H.get k := by
    intro k hk hno
    simp only [List.mem_cons, List.not_mem_nil, or_false, not_or] at hno
    rw [Dg.Heap.get_push_old _ _ _ (by rw [n1]; exact hk), Dg.Heap.get_set_ne _ _ _ _ hno.1, Dg.Heap.get_set_ne _ _ _ _ hno.2]
  refine hsm.frame [d, a] (by simp [hne]) rfl rfl (by simp; exact ⟨hdn, han⟩) ?_ ?_ (by simp [Dg.idsOfL, Dg.idsOf]) (fun _ => by simp [Heap.push, l1, n1]) (by simp [Heap.push, n1]) gold ?_ ?_ (addR_ren _ _ _ _ _).symm gold
  · intro i j hj
    match i, hj with
    | 0, hj =>
      cases hj
      refine ⟨hld, by rw [hd, D_ids]; simp, ?_⟩
      rw [hd, D_ren]
      show D w b (sl (Dg.renK 0 [d, a] a) _) c = _
      have : Dg.renK 0 [d, a] a = 1 := by simp [Dg.renK, List.idxOf_cons, hdf]
      rw [this]; rfl
    | 1, hj =>
      cases hj
      exact ⟨hla, by rw [ha, arr_ids]; simp, by rw [ha, arr_ren]; rfl⟩
  · simp [Dg.renL, Dg.renV, Dg.renK]
  · intro i j hj
    match i, hj with
    | 0, hj =>
      cases hj
      rw [Dg.Heap.get_push_old _ _ _ (by rw [n1]; exact hdn), Dg.Heap.get_set_same _ _ _ (by rw [Dg.Heap.len_set, Dg.Heap.n_set]; exact hl) (by rw [Dg.Heap.n_set]; exact hdn)]
      rfl
    | 1, hj =>
      cases hj
      rw [Dg.Heap.get_push_old _ _ _ (by rw [n1]; exact han), Dg.Heap.get_set_ne _ _ _ _ (Ne.symm hne), Dg.Heap.get_set_same _ _ _ hl han]
      rfl
  · intro i hi
    have hi0 : i = 0 := by
      have : i < 3 - 2 := hi
      omega
    subst hi0
    refine ⟨?_, fun _ => rfl⟩
    show (Heap.push _ _).get (H.n + 0) = (arr (addS w ps x y)).ren _
    have e : H.n + 0 = ((H.set a .dead).set d (D w b (sl H.n (addS w ps x y).length) (c + 1))).n := by rw [n1]; rfl
    rw [e, Dg.Heap.get_push_new, arr_ren]
theorem addn_is {H : Heap} {d w : Nat} {b c x y : Int} (hl : H.objs.length = H.n) (hd : H.get d = D w b (.slice none 0 0) c) (det : Det w b c []) :
    SCall Try.prog 11 [.pointer (some ⟨d, 0, none⟩), .int .i64 x, .int .i64 y] H zeroR ((H.set d (D w b (sl H.n 1) (c + 1))).push (arr [(x, y)])) [d] := by
  have hld : (H.get d).live = true := by rw [hd]; rfl
  have hdn := Dg.Heap.lt_of_live hld
  have hc0 := det.c0
  have hc1 := det.c1
  simp at hc0
  have hsm := SCall.of_ev mixed (Dg.bodied_ok _) over1_ok (add_nil w b x y c det.w0 det.w1 hc0 (by omega))
  have n1 : (H.set d (D w b (sl H.n 1) (c + 1))).n = H.n := by rw [Dg.Heap.n_set]
  have l1 : (H.set d (D w b (sl H.n 1) (c + 1))).objs.length = H.n := by rw [Dg.Heap.len_set]; exact hl
  have gold : ∀ k, k < H.n → k ∉ [d] → ((H.set d (D w b (sl H.n 1) (c + 1))).push (arr [(x, y)])).get k = H.get k := by
    intro k hk hno
    simp only [List.mem_cons, List.not_mem_nil, or_false] at hno
    rw [Dg.Heap.get_push_old _ _ _ (by rw [n1]; exact hk), Dg.Heap.get_set_ne _ _ _ _ hno]
  refine hsm.frame [d] (by simp) rfl rfl (by simp; exact hdn) ?_ ?_ (by simp [Dg.idsOfL, Dg.idsOf]) (fun _ => by simp [Heap.push, l1, n1]) (by simp [Heap.push, n1]) gold ?_ ?_ rfl gold
  · intro i j hj
    match i, hj with
    | 0, hj =>
      cases hj
      exact ⟨hld, by rw [hd, Dn_ids]; simp, by rw [hd, Dn_ren]; rfl⟩
  · simp [Dg.renL, Dg.renV, Dg.renK]
  · intro i j hj
    match i, hj with
    | 0, hj =>
      cases hj
      rw [Dg.Heap.get_push_old _ _ _ (by rw [n1]; exact hdn), Dg.Heap.get_set_same _ _ _ hl hdn]
      rfl
  · intro i hi
    have hi0 : i = 0 := by
      have : i < 2 - 1 := hi
      omega
    subst hi0
    refine ⟨?_, fun _ => rfl⟩
    show (Heap.push _ _).get (H.n + 0) = (arr [(x, y)]).ren _
    have e : H.n + 0 = (H.set d (D w b (sl H.n 1) (c + 1))).n := by rw [n1]; rfl
    rw [e, Dg.Heap.get_push_new, arr_ren]

/-! ### 'Copy' -/
theorem copy_nil (w : Nat) (b c : Int) (hw : 0 < w) : evCall Try.prog 0 (bodied Try.prog) noOver sbs 1000 20 10 [.pointer (some ⟨0, 0, none⟩)] ⟨1, [D w b (.slice none 0 0) c]⟩ =
    some (.pointer (some ⟨1, 0, none⟩), ⟨2, [D w b (.slice none 0 0) c, D w b (.slice none 0 0) c]⟩, []) :=
  Dg.evCall_hint (hs := [.val 10 11 (.bool false)]) (hs' := []) [Value.bool (decide ((w : Int) < 1)) = .bool false] (by kernel_rfl) ⟨Dg.vfalse (by omega), trivial⟩
theorem gc_copy (w : Nat) (b c : Int) (ps qs : List (Int × Int)) (n m : Nat) : Dg.gcAt 2 [.pointer (some ⟨2, 0, none⟩)] [] ⟨4, [arr qs, D w b (sl 3 m) c, arr ps, D w b (sl 1 n) c]⟩ = ([.pointer (some ⟨2, 0, none⟩)], ⟨4, [arr qs, D w b (sl 3 m) c, arr ps, D w b (sl 1 n) c]⟩) := by
  let H : Heap := ⟨4, [arr qs, D w b (sl 3 m) c, arr ps, D w b (sl 1 n) c]⟩
  have hren : (H.get 3).ren (Dg.renK 2 [2, 3]) = arr qs := arr_ren _ _
  have hren2 : (H.get 2).ren (Dg.renK 2 [2, 3]) = D w b (sl 3 m) c := rfl
  have hid2 : (H.get 2).ids = [3] := rfl
  have hid3 : (H.get 3).ids = [] := arr_ids qs
  have hcol : Dg.collect 2 H 100000 [2] [] = some [2, 3] := by
    rw [Dg.collect_take (l := [3]) (by omega) (by simp) hid2, List.append_nil, Dg.collect_take (l := []) (by omega) (by simp) hid3]; exact Dg.collect_nil
  exact (Dg.gc_is [2, 3] [] [D w b (sl 3 m) c, arr qs] hcol (by show 2 ≤ 4; omega) rfl (by show [(H.get 2).ren _, (H.get 3).ren _] = _; rw [hren, hren2])).trans rfl
theorem copy_small {w : Nat} {b c : Int} {ps : List (Int × Int)} (hw : 0 < w) (h0 : 0 < ps.length) (h1 : ps.length ≤ 900) : evCall Try.prog 0 (bodied Try.prog) over1 sbs 1000 20 10 [.pointer (some ⟨0, 0, none⟩)] ⟨2, [arr ps, D w b (sl 1 ps.length) c]⟩ =
    some (.pointer (some ⟨2, 0, none⟩), ⟨4, [arr ps, D w b (sl 3 ps.length) c, arr ps, D w b (sl 1 ps.length) c]⟩, []) := by
  have hcl : over1 17 [.slice (some ⟨1, 0, some 0⟩) ps.length ps.length] ⟨3, [D w b (sl 1 ps.length) c, arr ps, D w b (sl 1 ps.length) c]⟩ = some (sl 3 ps.length, ⟨4, [arr ps, D w b (sl 1 ps.length) c, arr ps, D w b (sl 1 ps.length) c]⟩, []) := by
    refine Dg.ofLaw_is u17 ⟨1, 0, ps.length, ps.length, 1, 2, some 0, ps, rfl, rfl, by omega, h0, h1, ?_⟩
    rw [List.drop_zero, List.take_length]
    rfl
  exact Dg.evCall_hint (hs := [.val 10 11 (.bool false), .call 17 (sl 3 ps.length) ⟨4, [arr ps, D w b (sl 1 ps.length) c, arr ps, D w b (sl 1 ps.length) c]⟩ [], .gc 10 [.pointer (some ⟨2, 0, none⟩)] ⟨4, [arr ps, D w b (sl 3 ps.length) c, arr ps, D w b (sl 1 ps.length) c]⟩]) (hs' := [])
    [Value.bool (decide ((w : Int) < 1)) = .bool false,
     evCall Try.prog 0 (bodied Try.prog) over1 sbs 1000 19 17 [.slice (some ⟨1, 0, some 0⟩) ps.length ps.length] ⟨3, [D w b (sl 1 ps.length) c, arr ps, D w b (sl 1 ps.length) c]⟩ = some (sl 3 ps.length, ⟨4, [arr ps, D w b (sl 1 ps.length) c, arr ps, D w b (sl 1 ps.length) c]⟩, []),
     Dg.gcAt 2 [.pointer (some ⟨2, 0, none⟩)] [] ⟨4, [arr ps, D w b (sl 3 ps.length) c, arr ps, D w b (sl 1 ps.length) c]⟩ = ([.pointer (some ⟨2, 0, none⟩)], ⟨4, [arr ps, D w b (sl 3 ps.length) c, arr ps, D w b (sl 1 ps.length) c]⟩)]
    (by kernel_rfl) ⟨Dg.vfalse (by omega), Dg.evCall_over hcl, gc_copy _ _ _ _ _ _ _, trivial⟩
theorem copyn_is {H : Heap} {d w : Nat} {b c : Int} (hl : H.objs.length = H.n) (hd : H.get d = D w b (.slice none 0 0) c) (hw : 0 < w) :
    SCall Try.prog 10 [.pointer (some ⟨d, 0, none⟩)] H (.pointer (some ⟨H.n, 0, none⟩)) (H.push (D w b (.slice none 0 0) c)) [] := by
  have hld : (H.get d).live = true := by rw [hd]; rfl
  have hdn := Dg.Heap.lt_of_live hld
  have hsm := SCall.of_ev mixed (Dg.bodied_ok _) Dg.noOver_ok (copy_nil w b c hw)
  refine hsm.frame [d] (by simp) rfl rfl (by simp; exact hdn) ?_ ?_ (by simp [Dg.idsOfL, Dg.idsOf]) (fun h => by simp [Heap.push, h]) (by simp [Heap.push]) (fun k hk _ => Dg.Heap.get_push_old _ _ _ hk) ?_ ?_ ?_ (fun k hk _ => Dg.Heap.get_push_old _ _ _ hk)
  · intro i j hj
    match i, hj with
    | 0, hj => cases hj; exact ⟨hld, by rw [hd, Dn_ids]; simp, by rw [hd, Dn_ren]; rfl⟩
  · simp [Dg.renL, Dg.renV, Dg.renK]
  · intro i j hj
    match i, hj with
    | 0, hj => cases hj; rw [Dg.Heap.get_push_old _ _ _ hdn, hd]; rfl
  · intro i hi
    have hi0 : i = 0 := by
      have : i < 2 - 1 := hi
      omega
    subst hi0
    exact ⟨by rw [Nat.add_zero, Dg.Heap.get_push_new]; rfl, fun _ => rfl⟩
  · simp [Dg.renV, Dg.back]
theorem copy_is {H : Heap} {d a w : Nat} {b c : Int} {ps : List (Int × Int)} (hl : H.objs.length = H.n) (hd : H.get d = D w b (sl a ps.length) c) (ha : H.get a = arr ps) (hne : d ≠ a) (hw : 0 < w) (h0 : 0 < ps.length) (h1 : ps.length ≤ 900) :
    SCall Try.prog 10 [.pointer (some ⟨d, 0, none⟩)] H (.pointer (some ⟨H.n, 0, none⟩)) ((H.push (D w b (sl (H.n + 1) ps.length) c)).push (arr ps)) [] := by
  have hld : (H.get d).live = true := by rw [hd]; rfl
  have hla : (H.get a).live = true := by rw [ha]; rfl
  have hdn := Dg.Heap.lt_of_live hld
  have han := Dg.Heap.lt_of_live hla
  have hdf : (d == a) = false := by simpa using hne
  have hsm := SCall.of_ev mixed (Dg.bodied_ok _) over1_ok (copy_small (b := b) (c := c) hw h0 h1)
  have gold : ∀ k, k < H.n → ((H.push (D w b (sl (H.n + 1) ps.length) c)).push (arr ps)).get k = H.get k := by
    intro k hk
    rw [Dg.Heap.get_push_old _ _ _ (by show k < H.n + 1; omega), Dg.Heap.get_push_old _ _ _ hk]
  refine hsm.frame [d, a] (by simp [hne]) rfl rfl (by simp; exact ⟨hdn, han⟩) ?_ ?_ (by simp [Dg.idsOfL, Dg.idsOf]) (fun h => by simp [Heap.push, h]) (by simp [Heap.push]) (fun k hk _ => gold k hk) ?_ ?_ ?_ (fun k hk _ => gold k hk)
  · intro i j hj
    match i, hj with
    | 0, hj =>
      cases hj
      refine ⟨hld, by rw [hd, D_ids]; simp, ?_⟩
      rw [hd, D_ren]
      have : Dg.renK 0 [d, a] a = 1 := by simp [Dg.renK, List.idxOf_cons, hdf]
      rw [this]; rfl
    | 1, hj =>
      cases hj
      exact ⟨hla, by rw [ha, arr_ids]; simp, by rw [ha, arr_ren]; rfl⟩
  · simp [Dg.renL, Dg.renV, Dg.renK]
  · intro i j hj
    match i, hj with
    | 0, hj => cases hj; rw [gold _ hdn, hd]; rfl
    | 1, hj =>
      cases hj
      rw [gold _ han, ha]
      show arr ps = (arr ps).ren _
      rw [arr_ren]
  · intro i hi
    have hi2 : i < 4 - 2 := hi
    match i, hi2 with
    | 0, _ => exact ⟨by show (Heap.push _ _).get H.n = _; rw [Dg.Heap.get_push_old _ _ _ (by show H.n < H.n + 1; omega), Dg.Heap.get_push_new]; rfl, fun _ => rfl⟩
    | 1, _ =>
      refine ⟨?_, fun _ => rfl⟩
      show (Heap.push _ _).get (H.n + 1) = (arr ps).ren _
      rw [arr_ren]
      exact Dg.Heap.get_push_new _ _
  · simp [Dg.renV, Dg.back]
end Go.Proofs.Ytafhlmpifdclaaa.shift
