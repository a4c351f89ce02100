/- The package variables of this seat's programs, as the abstract heap has them. -/
import Derived.Test.YtpgddboigegplaaGreatDoorRows
import Derived.Test.YtpgddboigegplaaGreatDoorDgApp
import Derived.Test.YtpgddboigegplaaGreatDoorDgLaid
import Derived.MakeChecks
import Derived.LaidHandle
namespace Go.Proofs.YtpgddboigegplaaGreatDoor.base
open Go.Dg (junk St Ex Ev Hint evCall evCallS evCode evCodeK innerKp evCodeS evLoop cleanSt ue bodied noOver sbOf headOf tailOf bodyOf rAssign rBody lBody Flats flatOver Heap AObj SCall Law ofLaw Fix embOf heapOf ObjRel Globs)
set_option linter.unusedVariables false

def ui (k : IntKind) (l : List Nat) : List Value := l.map fun (n : Nat) => Value.int k (n : Int)
def tab2 : List Nat := [1, 10, 100, 1000, 10000, 100000, 1000000, 10000000, 100000000, 1000000000, 10000000000, 100000000000, 1000000000000, 10000000000000, 100000000000000, 1000000000000000, 10000000000000000, 100000000000000000, 1000000000000000000, 10000000000000000000]
def tab6 : List Nat := [128, 191, 160, 191, 128, 159, 144, 191, 128, 143, 0, 0, 0, 0, 0, 0, 0, 0, 0, 0, 0, 0, 0, 0, 0, 0, 0, 0, 0, 0, 0, 0]
def tab7 : List Nat := [0, 1, 28, 2, 29, 14, 24, 3, 30, 22, 20, 15, 25, 17, 4, 8, 31, 27, 13, 23, 21, 19, 16, 7, 26, 12, 18, 6, 11, 5, 10, 9]
def tab8 : List Nat := [0, 1, 56, 2, 57, 49, 28, 3, 61, 58, 42, 50, 38, 29, 17, 4, 62, 47, 59, 36, 45, 43, 51, 22, 53, 39, 33, 30, 24, 18, 12, 5, 63, 55, 48, 27, 60, 41, 37, 16, 46, 35, 44, 21, 52, 32, 23, 11, 54, 26, 40, 15, 34, 20, 31, 10, 25, 14, 19, 9, 13, 8, 7, 6]
/-- The package variables: E: the types of their blocks; u..: those of the errors. Block 14: the types' handles; behind it: what the errors lead to. -/
def objs0 (E : Nat → TypeId) (u3 u4 : TypeId) : List AObj := [.dead, .dead, .dead, .dead, .dead, .dead, .dead, .dead, .cells (ui .u8 tab8) (E 8) 6 1, .cells (ui .u8 tab7) (E 7) 6 1, .cells (ui .u8 tab6) (E 6) 6 1, .cells (ui .u8 Pinned.utf8FirstZ) (E 5) 6 1, .cells [.iface u4 (.pointer (some ⟨16, 0, none⟩))] (E 4) 2 1, .cells [.iface u3 (.pointer (some ⟨15, 0, none⟩))] (E 3) 2 1, .cells (ui .u64 tab2) (E 2) 6 1, .dead, .cells [.iface 108 (.agg #[.pointer (some ⟨14, 27, none⟩)])] (E 0) 2 1]
/-- The heap that a law finds: its own objects, the last first, above the package variables. -/
def H0 (E : Nat → TypeId) (u3 u4 : TypeId) (r : List AObj) : Heap := ⟨17 + r.length, r ++ objs0 E u3 u4⟩
/-- Where these lie. -/
def L0 (E : Nat → TypeId) (u3 u4 : TypeId) (k3 o3 k4 o4 : Nat) : List (Nat × Nat × AObj) := [(0, 0, .cells [.iface 108 (.agg #[.pointer (some ⟨14, 27, none⟩)])] (E 0) 2 1), (1, 0, .dead), (2, 0, .cells (ui .u64 tab2) (E 2) 6 1), (3, 0, .cells [.iface u3 (.pointer (some ⟨15, 0, none⟩))] (E 3) 2 1), (4, 0, .cells [.iface u4 (.pointer (some ⟨16, 0, none⟩))] (E 4) 2 1), (5, 0, .cells (ui .u8 Pinned.utf8FirstZ) (E 5) 6 1), (6, 0, .cells (ui .u8 tab6) (E 6) 6 1), (7, 0, .cells (ui .u8 tab7) (E 7) 6 1), (8, 0, .cells (ui .u8 tab8) (E 8) 6 1), (9, 0, .dead), (10, 0, .dead), (11, 0, .dead), (12, 0, .dead), (13, 0, .dead), (14, 0, .dead), (k3, o3, .dead), (k4, o4, .dead)]
noncomputable def sbs : List Nat := Tryz.prog.funcs.toList.map sbOf
theorem mixed : Tryz.prog.follows .mixedOrders = true := by kernel_rfl
theorem okB : Dg.BodiesOk Tryz.prog (bodied Tryz.prog) := Dg.bodied_ok _
abbrev laidL : List (String × DataW Unit) := [("math/bits.deBruijn32tab", Rows.laid_math_bits_deBruijn32tab), ("math/bits.deBruijn64tab", Rows.laid_math_bits_deBruijn64tab), ("internal/strconv.uint64pow10", Rows.laid_internal_strconv_uint64pow10), ("unicode/utf8.acceptRanges", Rows.laid_unicode_utf8_acceptRanges), ("errors.errorType", Rows.laid_errors_errorType), ("strconv.ErrRange", Rows.laid_strconv_ErrRange), ("strconv.ErrSyntax", Rows.laid_strconv_ErrSyntax), ("unicode/utf8.first", Rows.laid_unicode_utf8_first)]
abbrev laidR : List (String × DataW Unit) := [("math/bits.deBruijn32tab", Rows.laid_math_bits_deBruijn32tab), ("math/bits.deBruijn64tab", Rows.laid_math_bits_deBruijn64tab), ("internal/strconv.uint64pow10", Rows.laid_internal_strconv_uint64pow10), ("unicode/utf8.acceptRanges", Rows.laid_unicode_utf8_acceptRanges), ("strconv.ErrRange", Rows.laid_strconv_ErrRange), ("strconv.ErrSyntax", Rows.laid_strconv_ErrSyntax), ("unicode/utf8.first", Rows.laid_unicode_utf8_first)]
abbrev laidHd : List (String × DataW Unit) := [("errors.errorType", Rows.laid_errors_errorType)]
theorem heap_is (E : Nat → TypeId) (u3 u4 : TypeId) (k3 o3 k4 o4 : Nat) (l : List (Nat × Nat × AObj)) (h : l = []) : heapOf (L0 E u3 u4 k3 o3 k4 o4 ++ l) = H0 E u3 u4 [] := by subst h; rfl

/-- A variable's block. -/
theorem var_block {P : Program} {w : World} {n : String} {g : Nat} {cs : Array Value} (hg : P.globalNamed n = some g) (h : w.var? P n = some cs) : ∃ e fz, w.heap[g]? = some (.cells cs e fz) := by
  simp only [World.var?, hg, Option.bind_some] at h
  split at h
  · rename_i e fz hh; cases h; exact ⟨_, _, hh⟩
  · cases h
theorem tab_rel {w : World} {g : Nat} {l : List Value} {cs : Array Value} {e : TypeId} {fz : Nat × Nat} (hb : w.heap[g]? = some (.cells cs e fz)) (hl : cs.toList = l) (hf : Dg.flatL l = true) (M : Dg.Emb) (N : Nat) : ObjRel M N w (.cells l e 6 1) g 0 0 := by
  refine ⟨cs, fz, hb, by rw [← hl]; simp, fun i v hv => ?_, fun h => absurd rfl h, fun _ => rfl, fun _ => hf⟩
  rw [← hl] at hv
  exact ⟨v, by simpa using hv, Dg.vrel_of_flat _ _ (Dg.flatL_get l hf i v (by rw [← hl]; exact hv))⟩
noncomputable def tyG (g : Nat) : TypeId := ((Tryz.prog.globals[g]?).map (·.type)).getD 0
theorem gn2 : Tryz.prog.globalNamed "internal/strconv.uint64pow10" = some 2 := by kernel_rfl
theorem gt2 : (Tryz.prog.globals[2]?).map (·.type) = some (tyG 2) := by kernel_rfl
theorem gl2 : Dg.litsOf (H := Unit) Tryz.prog 6 (tyG 2) Rows.laid_internal_strconv_uint64pow10 = some (ui .u64 tab2) := by kernel_rfl
theorem gf2 : Dg.flatL (ui .u64 tab2) = true := by kernel_rfl
theorem gn5 : Tryz.prog.globalNamed "unicode/utf8.first" = some 5 := by kernel_rfl
theorem gt5 : (Tryz.prog.globals[5]?).map (·.type) = some (tyG 5) := by kernel_rfl
theorem gl5 : Dg.litsOf (H := Unit) Tryz.prog 6 (tyG 5) Rows.laid_unicode_utf8_first = some (ui .u8 Pinned.utf8FirstZ) := by kernel_rfl
theorem gf5 : Dg.flatL (ui .u8 Pinned.utf8FirstZ) = true := by kernel_rfl
theorem gn6 : Tryz.prog.globalNamed "unicode/utf8.acceptRanges" = some 6 := by kernel_rfl
theorem gt6 : (Tryz.prog.globals[6]?).map (·.type) = some (tyG 6) := by kernel_rfl
theorem gl6 : Dg.litsOf (H := Unit) Tryz.prog 6 (tyG 6) Rows.laid_unicode_utf8_acceptRanges = some (ui .u8 tab6) := by kernel_rfl
theorem gf6 : Dg.flatL (ui .u8 tab6) = true := by kernel_rfl
theorem gn7 : Tryz.prog.globalNamed "math/bits.deBruijn32tab" = some 7 := by kernel_rfl
theorem gt7 : (Tryz.prog.globals[7]?).map (·.type) = some (tyG 7) := by kernel_rfl
theorem gl7 : Dg.litsOf (H := Unit) Tryz.prog 6 (tyG 7) Rows.laid_math_bits_deBruijn32tab = some (ui .u8 tab7) := by kernel_rfl
theorem gf7 : Dg.flatL (ui .u8 tab7) = true := by kernel_rfl
theorem gn8 : Tryz.prog.globalNamed "math/bits.deBruijn64tab" = some 8 := by kernel_rfl
theorem gt8 : (Tryz.prog.globals[8]?).map (·.type) = some (tyG 8) := by kernel_rfl
theorem gl8 : Dg.litsOf (H := Unit) Tryz.prog 6 (tyG 8) Rows.laid_math_bits_deBruijn64tab = some (ui .u8 tab8) := by kernel_rfl
theorem gf8 : Dg.flatL (ui .u8 tab8) = true := by kernel_rfl
theorem gn3 : Tryz.prog.globalNamed "strconv.ErrSyntax" = some 3 := by kernel_rfl
theorem gn4 : Tryz.prog.globalNamed "strconv.ErrRange" = some 4 := by kernel_rfl
theorem gn0 : Tryz.prog.globalNamed "errors.errorType" = some 0 := by kernel_rfl
theorem rt_is : (Tryz.prog.cutTypes.find? (·.1 == "internal/reflectlite.rtype")).map (·.2) = some 108 := by kernel_rfl
noncomputable def tn : Nat := Tryz.prog.types.size
theorem one_row : ((List.range tn).filter fun t => Tryz.prog.rowNamed t [101, 114, 114, 111, 114]) = [27] := by kernel_rfl
/-- What the type 'error' is to the variable errors.errorType. -/
theorem handle_of {W : World} (h : handlesMet Tryz.prog laidHd W) : ∃ e fz, W.heap[0]? = some (.cells #[.iface 108 (.agg #[.pointer (some ⟨14, 27, none⟩)])] e fz) := by
  obtain ⟨name, u, ty, e1, e2, e3, e4, e5⟩ := h _ (List.mem_singleton.2 rfl)
  have en : name = [101, 114, 114, 111, 114] := (Option.some.inj e1).symm
  subst en
  obtain rfl := Option.some.inj (rt_is.symm.trans e2)
  have hm : ty ∈ (List.range tn).filter fun t => Tryz.prog.rowNamed t [101, 114, 114, 111, 114] := List.mem_filter.2 ⟨List.mem_range.2 e3, e4⟩
  rw [one_row] at hm
  obtain rfl := List.mem_singleton.1 hm
  have hh : typeHandle Tryz.prog 27 = .pointer (some ⟨14, 27, none⟩) := by kernel_rfl
  rw [hh] at e5
  exact var_block gn0 e5
set_option maxRecDepth 100000 in
theorem of_laid {W : World} (h : laidMetH Tryz.prog laidL W) : ∃ (E : Nat → TypeId) (u3 u4 : TypeId) (k3 o3 k4 o4 : Nat), Globs 15 (embOf (L0 E u3 u4 k3 o3 k4 o4)) ∧ ∀ x ∈ L0 E u3 u4 k3 o3 k4 o4, x.2.2.owned = false ∧ ∀ N, ObjRel (embOf (L0 E u3 u4 k3 o3 k4 o4)) N W x.2.2 x.1 x.2.1 0 := by
  have h' : laidMet Tryz.prog laidR W ∧ handlesMet Tryz.prog laidHd W := h
  obtain ⟨h, hH⟩ := h'
  obtain ⟨E0, z0, hb0⟩ := handle_of hH
  obtain ⟨ps, hV, _, hcell⟩ := h
  obtain ⟨g7, t7, cs7, f7, p7, q7, hg7, ht7, hv7, hd7, r7, e7⟩ := hV
  obtain rfl := Option.some.inj (gn7.symm.trans hg7)
  obtain ⟨E7, z7, hb7⟩ := var_block hg7 hv7
  obtain ⟨g8, t8, cs8, f8, p8, q8, hg8, ht8, hv8, hd8, r8, e8⟩ := r7
  obtain rfl := Option.some.inj (gn8.symm.trans hg8)
  obtain ⟨E8, z8, hb8⟩ := var_block hg8 hv8
  obtain ⟨g2, t2, cs2, f2, p2, q2, hg2, ht2, hv2, hd2, r2, e2⟩ := r8
  obtain rfl := Option.some.inj (gn2.symm.trans hg2)
  obtain ⟨E2, z2, hb2⟩ := var_block hg2 hv2
  obtain ⟨g6, t6, cs6, f6, p6, q6, hg6, ht6, hv6, hd6, r6, e6⟩ := r2
  obtain rfl := Option.some.inj (gn6.symm.trans hg6)
  obtain ⟨E6, z6, hb6⟩ := var_block hg6 hv6
  obtain ⟨g4, t4, cs4, f4, p4, q4, hg4, ht4, hv4, hd4, r4, e4⟩ := r6
  obtain rfl := Option.some.inj (gn4.symm.trans hg4)
  obtain ⟨E4, z4, hb4⟩ := var_block hg4 hv4
  obtain ⟨g3, t3, cs3, f3, p3, q3, hg3, ht3, hv3, hd3, r3, e3⟩ := r4
  obtain rfl := Option.some.inj (gn3.symm.trans hg3)
  obtain ⟨E3, z3, hb3⟩ := var_block hg3 hv3
  obtain ⟨g5, t5, cs5, f5, p5, q5, hg5, ht5, hv5, hd5, r5, e5⟩ := r3
  obtain rfl := Option.some.inj (gn5.symm.trans hg5)
  obtain ⟨E5, z5, hb5⟩ := var_block hg5 hv5
  obtain rfl := Option.some.inj (gt2.symm.trans ht2)
  have c2 := Dg.litsOf_ok 6 _ _ _ _ _ _ hd2 gl2
  obtain rfl := Option.some.inj (gt5.symm.trans ht5)
  have c5 := Dg.litsOf_ok 6 _ _ _ _ _ _ hd5 gl5
  obtain rfl := Option.some.inj (gt6.symm.trans ht6)
  have c6 := Dg.litsOf_ok 6 _ _ _ _ _ _ hd6 gl6
  obtain rfl := Option.some.inj (gt7.symm.trans ht7)
  have c7 := Dg.litsOf_ok 6 _ _ _ _ _ _ hd7 gl7
  obtain rfl := Option.some.inj (gt8.symm.trans ht8)
  have c8 := Dg.litsOf_ok 6 _ _ _ _ _ _ hd8 gl8
  have w3 : ∀ a b, cs3.toList = [.iface a b] → Value.okWide Tryz.prog W .any 0 a b := by
    intro a b hab
    have hm : MemPlace.cell 3 0 ∈ ps := by
      have hs : cs3.size = 1 := by have := congrArg List.length hab; simpa using this
      rw [e7]; rw [e8]; rw [e2]; rw [e6]; rw [e4]; rw [e3];
      simp only [hs, MemPlace.row, List.mem_append]
      simp
    refine (hcell 3 0 hm).2 a b ?_
    have := World.var?_cell hg3 hv3 0
    rw [this]
    have h2 : cs3.toList[0]? = some (.iface a b) := by rw [hab]; rfl
    simpa using h2
  obtain ⟨u3, k3, o3, s3⟩ := Dg.trod_sentinel hd3 w3
  have w4 : ∀ a b, cs4.toList = [.iface a b] → Value.okWide Tryz.prog W .any 0 a b := by
    intro a b hab
    have hm : MemPlace.cell 4 0 ∈ ps := by
      have hs : cs4.size = 1 := by have := congrArg List.length hab; simpa using this
      rw [e7]; rw [e8]; rw [e2]; rw [e6]; rw [e4];
      simp only [hs, MemPlace.row, List.mem_append]
      simp
    refine (hcell 4 0 hm).2 a b ?_
    have := World.var?_cell hg4 hv4 0
    rw [this]
    have h2 : cs4.toList[0]? = some (.iface a b) := by rw [hab]; rfl
    simpa using h2
  obtain ⟨u4, k4, o4, s4⟩ := Dg.trod_sentinel hd4 w4
  have hG : Globs 15 (embOf (L0 (fun n => if n = 0 then E0 else if n = 2 then E2 else if n = 3 then E3 else if n = 4 then E4 else if n = 5 then E5 else if n = 6 then E6 else if n = 7 then E7 else E8) u3 u4 k3 o3 k4 o4)) := by
    intro g hg
    match g, hg with
    | 0, _ => rfl
    | 1, _ => rfl
    | 2, _ => rfl
    | 3, _ => rfl
    | 4, _ => rfl
    | 5, _ => rfl
    | 6, _ => rfl
    | 7, _ => rfl
    | 8, _ => rfl
    | 9, _ => rfl
    | 10, _ => rfl
    | 11, _ => rfl
    | 12, _ => rfl
    | 13, _ => rfl
    | 14, _ => rfl
  refine ⟨_, u3, u4, k3, o3, k4, o4, hG, ?_⟩
  intro x hx
  simp only [L0, List.mem_cons, List.not_mem_nil, or_false] at hx
  have sent : ∀ (g u kk oo j : Nat) (cs : Array Value) (e : TypeId) (fz : Nat × Nat) (M : Dg.Emb) (N : Nat), W.heap[g]? = some (.cells cs e fz) → cs.toList = [.iface u (.pointer (some ⟨kk, oo, none⟩))] → M j = some (kk, oo, 0) → ObjRel M N W (.cells [.iface u (.pointer (some ⟨j, 0, none⟩))] e 2 1) g 0 0 := by
    intro g u kk oo j cs e fz M N hb hcs hM
    refine ⟨cs, fz, hb, by have := congrArg List.length hcs; simp at this ⊢; omega, fun i v hv => ?_, fun h => absurd rfl h, fun _ => rfl, fun h => by omega⟩
    cases i with
    | zero =>
      simp only [List.getElem?_cons_zero, Option.some.injEq] at hv
      subst hv
      have h2 : cs.toList[0]? = some (.iface u (.pointer (some ⟨kk, oo, none⟩))) := by rw [hcs]; rfl
      exact ⟨_, by simpa using h2, .iface (.ptr (off := 0) hM)⟩
    | succ i => simp at hv
  have hand : ∀ (g : Nat) (v : Value) (e : TypeId) (fz : Nat × Nat) (M : Dg.Emb) (N : Nat), W.heap[g]? = some (.cells #[v] e fz) → Dg.VRel M v v → ObjRel M N W (.cells [v] e 2 1) g 0 0 := by
    intro g v e fz M N hb hM
    refine ⟨#[v], fz, hb, by simp, fun i x hv => ?_, fun h => absurd rfl h, fun _ => rfl, fun h => by omega⟩
    cases i with
    | zero =>
      simp only [List.getElem?_cons_zero, Option.some.injEq] at hv
      subst hv
      exact ⟨_, by simp, hM⟩
    | succ i => simp at hv
  rcases hx with rfl | rfl | rfl | rfl | rfl | rfl | rfl | rfl | rfl | rfl | rfl | rfl | rfl | rfl | rfl | rfl | rfl
  · exact ⟨rfl, fun N => hand 0 _ _ _ _ N hb0 (Dg.globV_rel hG rfl)⟩
  · exact ⟨rfl, fun N => True.intro⟩
  · exact ⟨rfl, fun N => tab_rel hb2 c2 gf2 _ N⟩
  · exact ⟨rfl, fun N => sent 3 u3 k3 o3 15 cs3 _ _ _ N hb3 s3 rfl⟩
  · exact ⟨rfl, fun N => sent 4 u4 k4 o4 16 cs4 _ _ _ N hb4 s4 rfl⟩
  · exact ⟨rfl, fun N => tab_rel hb5 c5 gf5 _ N⟩
  · exact ⟨rfl, fun N => tab_rel hb6 c6 gf6 _ N⟩
  · exact ⟨rfl, fun N => tab_rel hb7 c7 gf7 _ N⟩
  · exact ⟨rfl, fun N => tab_rel hb8 c8 gf8 _ N⟩
  · exact ⟨rfl, fun N => True.intro⟩
  · exact ⟨rfl, fun N => True.intro⟩
  · exact ⟨rfl, fun N => True.intro⟩
  · exact ⟨rfl, fun N => True.intro⟩
  · exact ⟨rfl, fun N => True.intro⟩
  · exact ⟨rfl, fun N => True.intro⟩
  · exact ⟨rfl, fun N => True.intro⟩
  · exact ⟨rfl, fun N => True.intro⟩
end Go.Proofs.YtpgddboigegplaaGreatDoor.base
