/- The package variables of this seat's programs, as the abstract heap has them. What is amiss and the note around it, over whatever heap has the package variables. raw.Measure at the lines of the chapter's examples, as a table. 'works' of chapter 27, over whatever heap has the package variables. -/
import Derived.Test.YtmnoegfehgoalaaGreatDoorRows
import Derived.Test.YtmnoegfehgoalaaGreatDoorDgApp
import Derived.Test.YtmnoegfehgoalaaGreatDoorDgLaid
import Derived.MakeChecks
import Derived.LaidHandle
import Derived.Test.YtmnoegfehgoalaaGreatDoorDgLay
namespace Go.Proofs.YtmnoegfehgoalaaGreatDoor.base
open Go.Dg (junk St Ex Ev Hint evCall evCallS evCode evCodeK innerKp evCodeS evLoop cleanSt ue bodied noOver sbOf headOf tailOf bodyOf rAssign rBody lBody Flats flatOver Heap AObj SCall Law ofLaw Fix embOf heapOf ObjRel Globs)
set_option linter.unusedVariables false
def ui (k : IntKind) (l : List Nat) : List Value := l.map fun (n : Nat) => Value.int k (n : Int)
def tab1 : List Nat := [1, 10, 100, 1000, 10000, 100000, 1000000, 10000000, 100000000, 1000000000, 10000000000, 100000000000, 1000000000000, 10000000000000, 100000000000000, 1000000000000000, 10000000000000000, 100000000000000000, 1000000000000000000, 10000000000000000000]
def tab5 : List Nat := [128, 191, 160, 191, 128, 159, 144, 191, 128, 143, 0, 0, 0, 0, 0, 0, 0, 0, 0, 0, 0, 0, 0, 0, 0, 0, 0, 0, 0, 0, 0, 0]
def tab7 : List Nat := [0, 1, 28, 2, 29, 14, 24, 3, 30, 22, 20, 15, 25, 17, 4, 8, 31, 27, 13, 23, 21, 19, 16, 7, 26, 12, 18, 6, 11, 5, 10, 9]
def tab8 : List Nat := [0, 1, 56, 2, 57, 49, 28, 3, 61, 58, 42, 50, 38, 29, 17, 4, 62, 47, 59, 36, 45, 43, 51, 22, 53, 39, 33, 30, 24, 18, 12, 5, 63, 55, 48, 27, 60, 41, 37, 16, 46, 35, 44, 21, 52, 32, 23, 11, 54, 26, 40, 15, 34, 20, 31, 10, 25, 14, 19, 9, 13, 8, 7, 6]
/-- The package variables: E: the types of their blocks; u..: those of the errors. Block 9: the types' handles; behind it: what the errors lead to. -/
def objs0 (E : Nat → TypeId)  : List AObj := [.dead, .cells (ui .u8 tab8) (E 8) 6 1, .cells (ui .u8 tab7) (E 7) 6 1, .dead, .cells (ui .u8 tab5) (E 5) 6 1, .cells (ui .u8 Pinned.utf8FirstZ) (E 4) 6 1, .dead, .dead, .cells (ui .u64 tab1) (E 1) 6 1, .cells [.iface 146 (.agg #[.pointer (some ⟨9, 56, none⟩)])] (E 0) 2 1]
/-- The heap that a law finds: its own objects, the last first, above the package variables. -/
def H0 (E : Nat → TypeId)  (r : List AObj) : Heap := ⟨10 + r.length, r ++ objs0 E ⟩
/-- Where these lie. -/
def L0 (E : Nat → TypeId)   : List (Nat × Nat × AObj) := [(0, 0, .cells [.iface 146 (.agg #[.pointer (some ⟨9, 56, none⟩)])] (E 0) 2 1), (1, 0, .cells (ui .u64 tab1) (E 1) 6 1), (2, 0, .dead), (3, 0, .dead), (4, 0, .cells (ui .u8 Pinned.utf8FirstZ) (E 4) 6 1), (5, 0, .cells (ui .u8 tab5) (E 5) 6 1), (6, 0, .dead), (7, 0, .cells (ui .u8 tab7) (E 7) 6 1), (8, 0, .cells (ui .u8 tab8) (E 8) 6 1), (9, 0, .dead)]
noncomputable def sbs : List Nat := Tryz.prog.funcs.toList.map sbOf
theorem mixed : Tryz.prog.follows .mixedOrders = true := by kernel_rfl
theorem okB : Dg.BodiesOk Tryz.prog (bodied Tryz.prog) := Dg.bodied_ok _
abbrev laidL : List (String × DataW Unit) := [("math/bits.deBruijn32tab", Rows.laid_math_bits_deBruijn32tab), ("math/bits.deBruijn64tab", Rows.laid_math_bits_deBruijn64tab), ("internal/strconv.uint64pow10", Rows.laid_internal_strconv_uint64pow10), ("unicode/utf8.acceptRanges", Rows.laid_unicode_utf8_acceptRanges), ("errors.errorType", Rows.laid_errors_errorType), ("unicode/utf8.first", Rows.laid_unicode_utf8_first)]
abbrev laidR : List (String × DataW Unit) := [("math/bits.deBruijn32tab", Rows.laid_math_bits_deBruijn32tab), ("math/bits.deBruijn64tab", Rows.laid_math_bits_deBruijn64tab), ("internal/strconv.uint64pow10", Rows.laid_internal_strconv_uint64pow10), ("unicode/utf8.acceptRanges", Rows.laid_unicode_utf8_acceptRanges), ("unicode/utf8.first", Rows.laid_unicode_utf8_first)]
abbrev laidHd : List (String × DataW Unit) := [("errors.errorType", Rows.laid_errors_errorType)]
/-- A variable's block. -/
theorem var_block {P : Program} {w : World} {n : String} {g : Nat} {cs : Array Value} (hg : P.globalNamed n = some g) (h : w.var? P n = some cs) : ∃ e fz, w.heap[g]? = some (.cells cs e fz) := by
  simp only [World.var?, hg, Option.bind_some] at h
  split at h
  · rename_i e fz hh; cases h; exact ⟨_, _, hh⟩
  · cases h
theorem tab_rel {w : World} {g : Nat} {l : List Value} {cs : Array Value} {e : TypeId} {fz : Nat × Nat} (hb : w.heap[g]? = some (.cells cs e fz)) (hl : cs.toList = l) (hf : Dg.flatL l = true) (M : Dg.Emb) (N : Nat) : ObjRel M N w (.cells l e 6 1) g 0 0 := by
  refine ⟨cs, fz, hb, by rw [← hl]; simp, fun i v hv => ?_, fun h => absurd rfl h, fun _ => rfl, fun _ => hf⟩
  rw [← hl] at hv
  exact ⟨v, by simpa using hv, Dg.vrel_of_flat _ _ (Dg.flatL_get l hf i v (by rw [← hl]; exact hv))⟩
noncomputable def tyG (g : Nat) : TypeId := ((Tryz.prog.globals[g]?).map (·.type)).getD 0
theorem gn1 : Tryz.prog.globalNamed "internal/strconv.uint64pow10" = some 1 := by kernel_rfl
theorem gt1 : (Tryz.prog.globals[1]?).map (·.type) = some (tyG 1) := by kernel_rfl
theorem gl1 : Dg.litsOf (H := Unit) Tryz.prog 6 (tyG 1) Rows.laid_internal_strconv_uint64pow10 = some (ui .u64 tab1) := by kernel_rfl
theorem gf1 : Dg.flatL (ui .u64 tab1) = true := by kernel_rfl
theorem gn4 : Tryz.prog.globalNamed "unicode/utf8.first" = some 4 := by kernel_rfl
theorem gt4 : (Tryz.prog.globals[4]?).map (·.type) = some (tyG 4) := by kernel_rfl
theorem gl4 : Dg.litsOf (H := Unit) Tryz.prog 6 (tyG 4) Rows.laid_unicode_utf8_first = some (ui .u8 Pinned.utf8FirstZ) := by kernel_rfl
theorem gf4 : Dg.flatL (ui .u8 Pinned.utf8FirstZ) = true := by kernel_rfl
theorem gn5 : Tryz.prog.globalNamed "unicode/utf8.acceptRanges" = some 5 := by kernel_rfl
theorem gt5 : (Tryz.prog.globals[5]?).map (·.type) = some (tyG 5) := by kernel_rfl
theorem gl5 : Dg.litsOf (H := Unit) Tryz.prog 6 (tyG 5) Rows.laid_unicode_utf8_acceptRanges = some (ui .u8 tab5) := by kernel_rfl
theorem gf5 : Dg.flatL (ui .u8 tab5) = true := by kernel_rfl
theorem gn7 : Tryz.prog.globalNamed "math/bits.deBruijn32tab" = some 7 := by kernel_rfl
theorem gt7 : (Tryz.prog.globals[7]?).map (·.type) = some (tyG 7) := by kernel_rfl
theorem gl7 : Dg.litsOf (H := Unit) Tryz.prog 6 (tyG 7) Rows.laid_math_bits_deBruijn32tab = some (ui .u8 tab7) := by kernel_rfl
theorem gf7 : Dg.flatL (ui .u8 tab7) = true := by kernel_rfl
theorem gn8 : Tryz.prog.globalNamed "math/bits.deBruijn64tab" = some 8 := by kernel_rfl
theorem gt8 : (Tryz.prog.globals[8]?).map (·.type) = some (tyG 8) := by kernel_rfl
theorem gl8 : Dg.litsOf (H := Unit) Tryz.prog 6 (tyG 8) Rows.laid_math_bits_deBruijn64tab = some (ui .u8 tab8) := by kernel_rfl
theorem gf8 : Dg.flatL (ui .u8 tab8) = true := by kernel_rfl
theorem gn0 : Tryz.prog.globalNamed "errors.errorType" = some 0 := by kernel_rfl
theorem rt_is : (Tryz.prog.cutTypes.find? (·.1 == "internal/reflectlite.rtype")).map (·.2) = some 146 := by kernel_rfl
noncomputable def tn : Nat := Tryz.prog.types.size
theorem one_row : ((List.range tn).filter fun t => Tryz.prog.rowNamed t [101, 114, 114, 111, 114]) = [56] := by kernel_rfl
/-- What the type 'error' is to the variable errors.errorType. -/
theorem handle_of {W : World} (h : handlesMet Tryz.prog laidHd W) : ∃ e fz, W.heap[0]? = some (.cells #[.iface 146 (.agg #[.pointer (some ⟨9, 56, none⟩)])] e fz) := by
  obtain ⟨name, u, ty, e1, e2, e3, e4, e5⟩ := h _ (List.mem_singleton.2 rfl)
  have en : name = [101, 114, 114, 111, 114] := (Option.some.inj e1).symm
  subst en
  obtain rfl := Option.some.inj (rt_is.symm.trans e2)
  have hm : ty ∈ (List.range tn).filter fun t => Tryz.prog.rowNamed t [101, 114, 114, 111, 114] := List.mem_filter.2 ⟨List.mem_range.2 e3, e4⟩
  rw [one_row] at hm
  obtain rfl := List.mem_singleton.1 hm
  have hh : typeHandle Tryz.prog 56 = .pointer (some ⟨9, 56, none⟩) := by kernel_rfl
  rw [hh] at e5
  exact var_block gn0 e5
set_option maxRecDepth 100000 in
theorem of_laid {W : World} (h : laidMetH Tryz.prog laidL W) : ∃ (E : Nat → TypeId)  , Globs 10 (embOf (L0 E  )) ∧ ∀ x ∈ L0 E  , x.2.2.owned = false ∧ ∀ N, ObjRel (embOf (L0 E  )) N W x.2.2 x.1 x.2.1 0 := by
  have h' : laidMet Tryz.prog laidR W ∧ handlesMet Tryz.prog laidHd W := h
  obtain ⟨h, hH⟩ := h'
  obtain ⟨E0, z0, hb0⟩ := handle_of hH
  obtain ⟨ps, hV, _, hcell⟩ := h
  obtain ⟨g7, t7, cs7, f7, p7, q7, hg7, ht7, hv7, hd7, r7, e7⟩ := hV
  obtain rfl := Option.some.inj (gn7.symm.trans hg7)
  obtain ⟨E7, z7, hb7⟩ := var_block hg7 hv7
  obtain ⟨g8, t8, cs8, f8, p8, q8, hg8, ht8, hv8, hd8, r8, e8⟩ := r7
  obtain rfl := Option.some.inj (gn8.symm.trans hg8)
  obtain ⟨E8, z8, hb8⟩ := var_block hg8 hv8
  obtain ⟨g1, t1, cs1, f1, p1, q1, hg1, ht1, hv1, hd1, r1, e1⟩ := r8
  obtain rfl := Option.some.inj (gn1.symm.trans hg1)
  obtain ⟨E1, z1, hb1⟩ := var_block hg1 hv1
  obtain ⟨g5, t5, cs5, f5, p5, q5, hg5, ht5, hv5, hd5, r5, e5⟩ := r1
  obtain rfl := Option.some.inj (gn5.symm.trans hg5)
  obtain ⟨E5, z5, hb5⟩ := var_block hg5 hv5
  obtain ⟨g4, t4, cs4, f4, p4, q4, hg4, ht4, hv4, hd4, r4, e4⟩ := r5
  obtain rfl := Option.some.inj (gn4.symm.trans hg4)
  obtain ⟨E4, z4, hb4⟩ := var_block hg4 hv4
  obtain rfl := Option.some.inj (gt1.symm.trans ht1)
  have c1 := Dg.litsOf_ok 6 _ _ _ _ _ _ hd1 gl1
  obtain rfl := Option.some.inj (gt4.symm.trans ht4)
  have c4 := Dg.litsOf_ok 6 _ _ _ _ _ _ hd4 gl4
  obtain rfl := Option.some.inj (gt5.symm.trans ht5)
  have c5 := Dg.litsOf_ok 6 _ _ _ _ _ _ hd5 gl5
  obtain rfl := Option.some.inj (gt7.symm.trans ht7)
  have c7 := Dg.litsOf_ok 6 _ _ _ _ _ _ hd7 gl7
  obtain rfl := Option.some.inj (gt8.symm.trans ht8)
  have c8 := Dg.litsOf_ok 6 _ _ _ _ _ _ hd8 gl8
  have hG : Globs 10 (embOf (L0 (fun n => if n = 0 then E0 else if n = 1 then E1 else if n = 4 then E4 else if n = 5 then E5 else if n = 7 then E7 else E8)  )) := by
    intro g hg
    match g, hg with
    | 0, _ => rfl
    | 1, _ => rfl
    | 2, _ => rfl
    | 3, _ => rfl
    | 4, _ => rfl
    | 5, _ => rfl
    | 6, _ => rfl
    | 7, _ => rfl
    | 8, _ => rfl
    | 9, _ => rfl
  refine ⟨_, hG, ?_⟩
  intro x hx
  simp only [L0, List.mem_cons, List.not_mem_nil, or_false] at hx
  have sent : ∀ (g u kk oo j : Nat) (cs : Array Value) (e : TypeId) (fz : Nat × Nat) (M : Dg.Emb) (N : Nat), W.heap[g]? = some (.cells cs e fz) → cs.toList = [.iface u (.pointer (some ⟨kk, oo, none⟩))] → M j = some (kk, oo, 0) → ObjRel M N W (.cells [.iface u (.pointer (some ⟨j, 0, none⟩))] e 2 1) g 0 0 := by
    intro g u kk oo j cs e fz M N hb hcs hM
    refine ⟨cs, fz, hb, by have := congrArg List.length hcs; simp at this ⊢; omega, fun i v hv => ?_, fun h => absurd rfl h, fun _ => rfl, fun h => by omega⟩
    cases i with
    | zero =>
      simp only [List.getElem?_cons_zero, Option.some.injEq] at hv
      subst hv
      have h2 : cs.toList[0]? = some (.iface u (.pointer (some ⟨kk, oo, none⟩))) := by rw [hcs]; rfl
      exact ⟨_, by simpa using h2, .iface (.ptr (off := 0) hM)⟩
    | succ i => simp at hv
  have hand : ∀ (g : Nat) (v : Value) (e : TypeId) (fz : Nat × Nat) (M : Dg.Emb) (N : Nat), W.heap[g]? = some (.cells #[v] e fz) → Dg.VRel M v v → ObjRel M N W (.cells [v] e 2 1) g 0 0 := by
    intro g v e fz M N hb hM
    refine ⟨#[v], fz, hb, by simp, fun i x hv => ?_, fun h => absurd rfl h, fun _ => rfl, fun h => by omega⟩
    cases i with
    | zero =>
      simp only [List.getElem?_cons_zero, Option.some.injEq] at hv
      subst hv
      exact ⟨_, by simp, hM⟩
    | succ i => simp at hv
  rcases hx with rfl | rfl | rfl | rfl | rfl | rfl | rfl | rfl | rfl | rfl
  · exact ⟨rfl, fun N => hand 0 _ _ _ _ N hb0 (Dg.globV_rel hG rfl)⟩
  · exact ⟨rfl, fun N => tab_rel hb1 c1 gf1 _ N⟩
  · exact ⟨rfl, fun N => True.intro⟩
  · exact ⟨rfl, fun N => True.intro⟩
  · exact ⟨rfl, fun N => tab_rel hb4 c4 gf4 _ N⟩
  · exact ⟨rfl, fun N => tab_rel hb5 c5 gf5 _ N⟩
  · exact ⟨rfl, fun N => True.intro⟩
  · exact ⟨rfl, fun N => tab_rel hb7 c7 gf7 _ N⟩
  · exact ⟨rfl, fun N => tab_rel hb8 c8 gf8 _ N⟩
  · exact ⟨rfl, fun N => True.intro⟩
end Go.Proofs.YtmnoegfehgoalaaGreatDoor.base
namespace Go.Proofs.YtmnoegfehgoalaaGreatDoor.base
open Go.Dg (junk St Ex Ev Hint evCall evCallS evLoop bodied noOver Flats flatOver Heap AObj embOf heapOf ObjRel Globs)
set_option linter.unusedVariables false
def sLine : ByteArray := ⟨#[108, 105, 110, 101]⟩
def sSample : ByteArray := ⟨#[115, 97, 109, 112, 108, 101]⟩
def sLag : ByteArray := ⟨#[108, 97, 103]⟩
def sWord : ByteArray := ⟨#[97, 117, 100, 105, 116]⟩
def aCells (s : ByteArray) (a k : Int) : List Value := [.string s, .int .i64 a, .iface 74 (.int .i64 k)]
def nCells : List Value := [.string sWord, .iface 63 (.pointer (some ⟨10, 0, none⟩))]
def oA (s : ByteArray) (a k : Int) : AObj := .cells (aCells s a k) 67 2 1
def oN : AObj := .cells nCells 101 2 1
def HA (E : Nat → TypeId) (s : ByteArray) (a k : Int) : Heap := H0 E [oA s a k]
def HN (E : Nat → TypeId) (s : ByteArray) (a k : Int) : Heap := H0 E [oN, oA s a k]
def LA (E : Nat → TypeId) (g : Nat) (s : ByteArray) (a k : Int) : List (Nat × Nat × AObj) := L0 E ++ [(g, 0, oA s a k)]
def LN (E : Nat → TypeId) (g g2 : Nat) (s : ByteArray) (a k : Int) : List (Nat × Nat × AObj) := LA E g s a k ++ [(g2, 0, oN)]
noncomputable abbrev evA (f : FuncId) (args : List Value) (H : Heap) : Option (Value × Heap × List Nat) := evCall Tryz.prog 10 (bodied Tryz.prog) noOver sbs 2000 20 f args H
def pA : Value := .iface 63 (.pointer (some ⟨10, 0, none⟩))
def pN (j : Nat) : Value := .iface 99 (.pointer (some ⟨j, 0, none⟩))
theorem emb_app (L r : List (Nat × Nat × AObj)) : Dg.Emb.le (embOf L) (embOf (L ++ r)) := by
  intro k x hx
  unfold embOf at hx ⊢
  rw [Option.map_eq_some_iff] at hx ⊢
  obtain ⟨y, h1, h2⟩ := hx
  obtain ⟨hk, _⟩ := List.getElem?_eq_some_iff.1 h1
  exact ⟨y, by rw [List.getElem?_append_left hk]; exact h1, h2⟩
theorem globs_app {n : Nat} {L : List (Nat × Nat × AObj)} (h : Globs n (embOf L)) (r : List (Nat × Nat × AObj)) : Globs n (embOf (L ++ r)) :=
  fun g hg => emb_app L r _ _ (h g hg)
/-- What a list of objects is at a world. -/
def At (L : List (Nat × Nat × AObj)) (w : World) : Prop := ∀ x ∈ L, x.2.2.owned = false ∧ ∀ N, ObjRel (embOf L) N w x.2.2 x.1 x.2.1 0
theorem At.up {L : List (Nat × Nat × AObj)} {W w : World} (h : At L W) (hb : RowKit.Below W.heap.size W w) : At L w := by
  intro x hx
  obtain ⟨h1, h2⟩ := h x hx
  refine ⟨h1, fun N => ?_⟩
  cases hl : x.2.2.live with
  | true => exact (h2 N).block (hb.block _ ((h2 N).lt hl))
  | false =>
    cases ho : x.2.2 with
    | dead => exact True.intro
    | cells => rw [ho] at hl; cases hl
    | iter => rw [ho] at hl; cases hl
    | loop => rw [ho] at hl; cases hl
theorem At.more {L : List (Nat × Nat × AObj)} {w : World} (h : At L w) (y : Nat × Nat × AObj) (hy : y.2.2.owned = false ∧ ∀ N, ObjRel (embOf (L ++ [y])) N w y.2.2 y.1 y.2.1 0) : At (L ++ [y]) w := by
  intro x hx
  rcases List.mem_append.1 hx with hx | hx
  · exact ⟨(h x hx).1, fun N => ((h x hx).2 N).mono (emb_app L [y])⟩
  · rw [List.mem_singleton] at hx
    subst hx
    exact hy
theorem obj_amiss {M : Dg.Emb} {N : Nat} {w : World} {g : Nat} {s : ByteArray} {a k : Int} (hg : w.heap[g]? = some (.cells #[.string s, .int .i64 a, .iface 74 (.int .i64 k)] 67)) : ObjRel M N w (oA s a k) g 0 0 := by
  refine ⟨_, _, hg, by simp [aCells], fun i v hv => ?_, fun hc => absurd rfl hc, fun _ => rfl, fun hc => absurd hc (by decide)⟩
  rw [Nat.zero_add]
  match i, hv with
  | 0, hv => cases hv; exact ⟨_, rfl, .atom rfl⟩
  | 1, hv => cases hv; exact ⟨_, rfl, .atom rfl⟩
  | 2, hv => cases hv; exact ⟨_, rfl, .iface (.atom rfl)⟩
/-- A note around it. -/
def NoteAt (w : World) (g2 g : Nat) : Prop := ∃ C fz, w.heap[g2]? = some (.cells C 101 fz) ∧ 2 ≤ C.size ∧ C[0]? = some (.string sWord) ∧ C[1]? = some (.iface 63 (.pointer (some ⟨g, 0, none⟩)))
theorem obj_note {M : Dg.Emb} {N : Nat} {w : World} {g g2 : Nat} (hM : M 10 = some (g, 0, 0)) (hn : NoteAt w g2 g) : ObjRel M N w oN g2 0 0 := by
  obtain ⟨C, fz, hg, h2, c0, c1⟩ := hn
  refine ⟨_, _, hg, by simpa [nCells] using h2, fun i v hv => ?_, fun hc => absurd rfl hc, fun _ => rfl, fun hc => absurd hc (by decide)⟩
  rw [Nat.zero_add]
  match i, hv with
  | 0, hv => cases hv; exact ⟨_, c0, .atom rfl⟩
  | 1, hv => cases hv; exact ⟨_, c1, .iface (.ptr (off := 0) hM)⟩
theorem at_amiss {E : Nat → TypeId} {w : World} (h : At (L0 E) w) {g : Nat} {s : ByteArray} {a k : Int} (hg : w.heap[g]? = some (.cells #[.string s, .int .i64 a, .iface 74 (.int .i64 k)] 67)) : At (LA E g s a k) w :=
  h.more _ ⟨rfl, fun N => obj_amiss hg⟩
theorem at_note {E : Nat → TypeId} {w : World} (h : At (L0 E) w) {g g2 : Nat} {s : ByteArray} {a k : Int} (hg : w.heap[g]? = some (.cells #[.string s, .int .i64 a, .iface 74 (.int .i64 k)] 67)) (hn : NoteAt w g2 g) : At (LN E g g2 s a k) w :=
  (at_amiss h hg).more _ ⟨rfl, fun N => obj_note rfl hn⟩
/-- A function that is run over the value alone. -/
theorem value_calls {E : Nat → TypeId} (hG : Globs 10 (embOf (L0 E))) {w : World} (h : At (L0 E) w) {g : Nat} {s : ByteArray} {a k : Int} (hg : w.heap[g]? = some (.cells #[.string s, .int .i64 a, .iface 74 (.int .i64 k)] 67)) (f : FuncId) (hf : Nat.ble Dg.Y f = false) (p p' : Value) (hp : Dg.VRel (embOf (LA E g s a k)) p p') (r : List Value) (hr : Dg.flatL r = true) (v : Value) (hv : Dg.flat v = true)
    (hrun : (evA f (p :: r) (HA E s a k)).map (·.1) = some v) : Calls Tryz.prog f (p' :: r).toArray w fun e w' => e = .returned v ∧ RowKit.Below w.heap.size w w' := by
  refine Dg.open_callG (args := p :: r) (args' := p' :: r) mixed okB Dg.noOver_ok (LA E g s a k) (globs_app hG _) (at_amiss h hg) (Dg.LRel.cons hp (Dg.LRel.of_flat _ hr)) hrun hv hf
theorem amiss_calls {E : Nat → TypeId} (hG : Globs 10 (embOf (L0 E))) {w : World} (h : At (L0 E) w) {g : Nat} {s : ByteArray} {a k : Int} (hg : w.heap[g]? = some (.cells #[.string s, .int .i64 a, .iface 74 (.int .i64 k)] 67)) (f : FuncId) (hf : Nat.ble Dg.Y f = false) (r : List Value) (hr : Dg.flatL r = true) (v : Value) (hv : Dg.flat v = true)
    (hrun : (evA f (pA :: r) (HA E s a k)).map (·.1) = some v) : Calls Tryz.prog f (.iface 63 (.pointer (some ⟨g, 0, none⟩)) :: r).toArray w fun e w' => e = .returned v ∧ RowKit.Below w.heap.size w w' :=
  value_calls hG h hg f hf pA _ (.iface (.ptr (off := 0) rfl)) r hr v hv hrun
/-- A function that is run over numbers and texts alone. -/
theorem flat_calls {E : Nat → TypeId} (hG : Globs 10 (embOf (L0 E))) {w : World} (h : At (L0 E) w) (f : FuncId) (hf : Nat.ble Dg.Y f = false) (r : List Value) (hr : Dg.flatL r = true) (v : Value) (hv : Dg.flat v = true)
    (hrun : (evA f r (H0 E [])).map (·.1) = some v) : Calls Tryz.prog f r.toArray w fun e w' => e = .returned v ∧ RowKit.Below w.heap.size w w' :=
  Dg.open_callG (args := r) (args' := r) mixed okB Dg.noOver_ok (L0 E) hG h (Dg.LRel.of_flat _ hr) hrun hv hf
theorem note_calls {E : Nat → TypeId} (hG : Globs 10 (embOf (L0 E))) {w : World} (h : At (L0 E) w) {g g2 : Nat} {s : ByteArray} {a k : Int} (hg : w.heap[g]? = some (.cells #[.string s, .int .i64 a, .iface 74 (.int .i64 k)] 67)) (hn : NoteAt w g2 g) (f : FuncId) (hf : Nat.ble Dg.Y f = false) (v : Value) (hv : Dg.flat v = true)
    (hrun : (evA f [pN 11] (HN E s a k)).map (·.1) = some v) : Calls Tryz.prog f #[.iface 99 (.pointer (some ⟨g2, 0, none⟩))] w fun e w' => e = .returned v ∧ RowKit.Below w.heap.size w w' := by
  refine Dg.open_callG (args := [pN 11]) (args' := [.iface 99 (.pointer (some ⟨g2, 0, none⟩))]) mixed okB Dg.noOver_ok (LN E g g2 s a k) (globs_app (globs_app hG _) _) (at_note h hg hn) (Dg.LRel.cons (.iface (.ptr (off := 0) rfl)) Dg.LRel.nil) hrun hv hf
/-- fault.Wrap puts a note around it. -/
theorem wrap_calls {E : Nat → TypeId} (hG : Globs 10 (embOf (L0 E))) {w : World} (h : At (L0 E) w) {g : Nat} {s : ByteArray} {a k : Int} (hg : w.heap[g]? = some (.cells #[.string s, .int .i64 a, .iface 74 (.int .i64 k)] 67))
    (hrun : (evA 14 [pA, .string sWord] (HA E s a k)).map (fun r => (r.1, r.2.1.get 11)) = some (pN 11, .cells nCells 101 0 1)) : Calls Tryz.prog 14 #[.iface 63 (.pointer (some ⟨g, 0, none⟩)), .string sWord] w fun e w' => ∃ g2, e = .returned (.iface 99 (.pointer (some ⟨g2, 0, none⟩))) ∧ NoteAt w' g2 g ∧ RowKit.Below w.heap.size w w' := by
  rw [Option.map_eq_some_iff] at hrun
  obtain ⟨⟨v1, H', log⟩, h1, h2⟩ := hrun
  simp only [Prod.mk.injEq] at h2
  obtain ⟨rfl, h3⟩ := h2
  have hr := Dg.hrel_listG (LA E g s a k) (at_amiss h hg)
  have hov : Dg.CallOk Tryz.prog 10 noOver ∧ Dg.CallLog noOver := Dg.noOver_ok
  refine ((Dg.evCall_ok (G := 10) mixed okB hov.1 hov.2 sbs 2000 20).1 14 [pA, .string sWord] _ _ H' log h1 (by decide) w.heap.size _ w _ (globs_app hG _) hr (Dg.LRel.cons (.iface (.ptr (off := 0) rfl)) (Dg.LRel.of_flat _ rfl))).mono ?_
  rintro e w' ⟨M', v', rfl, hv', hs⟩
  have h10 : M' 10 = some (g, 0, 0) := hs.le 10 _ rfl
  obtain ⟨b, o, sp, hm, ho⟩ := hs.rel.obj 11 (by rw [h3]; rfl)
  rw [h3] at ho
  obtain ⟨C, fz, k1, k2, k3, k4, k5, _⟩ := ho
  have o0 : o = 0 := (k4 (by decide)).2.1
  subst o0
  obtain ⟨u0, u1, u2⟩ := k3 0 _ rfl
  obtain ⟨t0, t1, t2⟩ := k3 1 _ rfl
  cases u2
  cases t2 with
  | atom h => cases h
  | iface h =>
    cases h with
    | atom h => cases h
    | ptr hq =>
      rw [h10] at hq
      cases hq
      cases hv' with
      | atom h => cases h
      | iface h =>
        cases h with
        | atom h => cases h
        | ptr hq =>
          rw [hm] at hq
          cases hq
          exact ⟨b, rfl, ⟨C, fz, k1, by simp [nCells] at k2; omega, by simpa using u1, by simpa using t1⟩, hs.below hr⟩
end Go.Proofs.YtmnoegfehgoalaaGreatDoor.base
namespace Go.Proofs.YtmnoegfehgoalaaGreatDoor.base
open Go.Dg (junk St Ex Ev Hint evCall evCallS evLoop bodied noOver Flats flatOver Heap AObj)
set_option linter.unusedVariables false
/-- Are two rows of numbers and truths the same? -/
def eqL : List Value → List Value → Bool
  | [], [] => true
  | .int k n :: r, .int k' n' :: r' => decide (k = k') && (decide (n = n') && eqL r r')
  | .bool b :: r, .bool b' :: r' => (b == b') && eqL r r'
  | _, _ => false
theorem eqL_sound : ∀ a b : List Value, eqL a b = true → a = b := by
  intro a
  induction a with
  | nil =>
    intro b h
    cases b with
    | nil => rfl
    | cons x r => simp [eqL] at h
  | cons x r ih =>
    intro b h
    cases b with
    | nil => cases x <;> simp [eqL] at h
    | cons y r' =>
      cases x <;> cases y <;> simp only [eqL, Bool.and_eq_true, decide_eq_true_eq, beq_iff_eq, Bool.false_eq_true] at h
      · obtain ⟨rfl, h2⟩ := h
        rw [ih r' h2]
      · obtain ⟨rfl, rfl, h2⟩ := h
        rw [ih r' h2]
def w0 (l : Nat) : List Value := [.int .i64 0, .int .u64 l]
def ends (b : Nat) : List Value := [.bool false, .int .u8 b] ++ List.replicate 15 (.int .u8 0)
/-- The line of the example, with its stamps. -/
def lT (a b c d : Nat) : List Value := w0 9487534670410153984 ++ ends 10 ++ ends 11 ++ [.int .u64 a, .int .u64 b, .int .u64 c, .int .u64 d, .bool true, .int .u8 0, .int .u8 0, .int .u8 0, .int .u8 0, .int .i8 0, .int .i8 0, .int .i64 0, .int .i64 0, .int .u8 0, .int .u8 0, .int .u8 0, .int .u8 0]
def lL : List Value := lT 9487534657525252096 9487534661820219392 9487534666115186688 9487534670410153984
noncomputable abbrev evM (l : List Value) : Option (Value × Heap × List Nat) := evCall Tryz.prog 0 (bodied Tryz.prog) noOver sbs 2000 20 26 [.agg ⟨l⟩] ⟨0, []⟩
def two (a b : Int) : Value := .tuple #[.int .i64 a, .int .i64 b]
theorem mL : (evM lL).map (·.1) = some (two 0 8589934592) := by kernel_rfl
theorem flats_of {l : List Value} {v : Value} (hl : Dg.flatL l = true) (hv : Dg.flat v = true) (h : (evM l).map (·.1) = some v) : Flats Tryz.prog 26 [.agg ⟨l⟩] v :=
  Dg.closed_call mixed okB Dg.noOver_ok h (by simp [Dg.flatL, Dg.flat, Dg.flatA, hl]) hv
/-- raw.Measure of these lines. -/
def oM (f : FuncId) (args : List Value) : Option Value := match f, args with
  | 26, [.agg ⟨l⟩] => bif eqL l lL then some (two 0 8589934592) else none
  | _, _ => none
theorem oM_flats : ∀ f args v, oM f args = some v → Flats Tryz.prog f args v := by
  intro f args v h
  unfold oM at h
  split at h
  · rename_i l
    cases h1 : eqL l lL with
    | true => rw [h1, cond_true] at h; cases h; rw [eqL_sound _ _ h1]; exact flats_of rfl rfl mL
    | false => rw [h1, cond_false] at h; cases h
  · cases h
def ovM : Ev := flatOver oM
theorem ovM_ok : Dg.CallOk Tryz.prog 10 ovM ∧ Dg.CallLog ovM := Dg.flatOver_ok oM_flats
end Go.Proofs.YtmnoegfehgoalaaGreatDoor.base
namespace Go.Proofs.YtmnoegfehgoalaaGreatDoor.base
open Go.Dg (junk St Ex Ev Hint evCall evCallS evLoop bodied noOver Flats flatOver Heap AObj embOf heapOf ObjRel Globs)
set_option linter.unusedVariables false
/-- What errors.errorType holds. -/
def eT : Value := .iface 146 (.agg #[.pointer (some ⟨9, 56, none⟩)])
def LQ (e : TypeId) : List (Nat × Nat × AObj) := [(0, 0, .cells [eT] e 2 1), (1, 0, .dead), (2, 0, .dead), (3, 0, .dead), (4, 0, .dead), (5, 0, .dead), (6, 0, .dead), (7, 0, .dead), (8, 0, .dead), (9, 0, .dead)]
def HQ (e : TypeId) : Heap := ⟨10, [.dead, .dead, .dead, .dead, .dead, .dead, .dead, .dead, .dead, .cells [eT] e 2 1]⟩
theorem LQ_heap (e : TypeId) : heapOf (LQ e) = HQ e := rfl
theorem LQ_globs (e : TypeId) : Globs 10 (embOf (LQ e)) := by
  intro g hg
  match g, hg with
  | 0, _ => rfl
  | 1, _ => rfl
  | 2, _ => rfl
  | 3, _ => rfl
  | 4, _ => rfl
  | 5, _ => rfl
  | 6, _ => rfl
  | 7, _ => rfl
  | 8, _ => rfl
  | 9, _ => rfl
/-- The document's examples. -/
theorem run6 (e : TypeId) : (evCall Tryz.prog 10 (bodied Tryz.prog) ovM sbs 2000 20 6 [] (HQ e)).map (·.1) = some (.bool true) := by kernel_rfl
theorem works_at (w : World) (e : TypeId) (fz : Nat × Nat) (h0 : w.heap[0]? = some (.cells #[eT] e fz)) : Calls Tryz.prog 6 #[] w fun e w' => e = .returned (.bool true) ∧ RowKit.Below w.heap.size w w' := by
  refine Dg.open_callG (args := []) (args' := []) mixed okB ovM_ok (LQ e) (LQ_globs e) (fun x hx => ?_) Dg.LRel.nil (by rw [LQ_heap]; exact run6 e) rfl rfl
  simp only [LQ, List.mem_cons, List.not_mem_nil, or_false] at hx
  rcases hx with rfl | rfl | rfl | rfl | rfl | rfl | rfl | rfl | rfl | rfl
  case inl =>
    refine ⟨rfl, fun N' => ⟨#[eT], fz, h0, by simp, fun i v hv => ?_, fun hc => absurd rfl hc, fun _ => rfl, fun hc => absurd hc (by decide)⟩⟩
    cases i with
    | zero =>
      simp only [List.getElem?_cons_zero, Option.some.injEq] at hv
      subst hv
      exact ⟨_, by simp, Dg.globV_rel (LQ_globs e) rfl⟩
    | succ i => simp at hv
  all_goals exact ⟨rfl, fun N' => True.intro⟩
end Go.Proofs.YtmnoegfehgoalaaGreatDoor.base
