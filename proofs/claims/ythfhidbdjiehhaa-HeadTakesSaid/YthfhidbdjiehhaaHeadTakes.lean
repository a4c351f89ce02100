/- PROVED: 'horologelaw20.HeadTakes' returns true at every slice of bytes, in whatever memory, and leaves what was there as it was. Conditions: none. -/
import Derived.Test.YthfhidbdjiehhaaRows
import Derived.Test.YthfhidbdjiehhaaHeadTake
import Derived.WalkKit
import Derived.ProofKit
import Derived.OpenShut
namespace Go.Proofs.Ythfhidbdjiehhaa.headTakes
open Go.ChangeShapes Go.WideShapes Go.ChangeAt Go.RowKit
open Go.Dg (junk St Ex Ev Hint evCall evCallS evCode evLoop cleanSt ue bodied noOver sbOf headOf tailOf bodyOf Flats flatOver Heap AObj)
open Go.Proofs.Ythfhidbdjiehhaa.headPut (sbs mixed works_is headL u8s str)
open Go.Proofs.Ythfhidbdjiehhaa.headTake
set_option linter.unusedVariables false

theorem nil_is : Flats Try.prog 5 [.slice none 0 0] (.bool true) :=
  Dg.closed_call mixed (Dg.bodied_ok _) (Dg.flatOver_ok known_is) (sb := sbs) (lf := 1000) (n := 20) (by kernel_rfl) rfl rfl

section
variable (zs : List Int) (len : Nat) (e' : TypeId)
def HB : Heap := ⟨1, [.cells (u8s zs) e' 2 1]⟩
def argB : Value := .slice (some ⟨0, 0, none⟩) len zs.length
theorem long_is (h : 1000 < len) : (evCall Try.prog 0 (bodied Try.prog) (flatOver known) sbs 1000 20 5 [argB zs len] (HB zs e')).map (·.1) = some (.bool true) := by
  rw [Dg.evCall_hint (hs := [.val 5 8 (.bool true)]) (hs' := []) (v := .bool true) (H' := HB zs e') (log := []) [Value.bool (decide (1000 < (len : Int))) = .bool true] (by kernel_rfl) ⟨Dg.vtrue (by omega), trivial⟩]
  rfl
theorem short_is (h : ¬ 1000 < len) (h1 : len < 48) (s : ByteArray) (hs : Dg.strOf (u8s zs) 0 len = some s) : (evCall Try.prog 0 (bodied Try.prog) (flatOver known) sbs 1000 20 5 [argB zs len] (HB zs e')).map (·.1) = some (.bool true) := by
  rw [Dg.evCall_hint (hs := [.val 5 8 (.bool false), .soft 5 11 (.string s), .val 15 9 (.bool true), .val 5 19 (.bool true)]) (hs' := []) (v := .bool true) (H' := HB zs e') (log := [])
    [Value.bool (decide (1000 < (len : Int))) = .bool false, Dg.strOf (u8s zs) 0 len = some s, Value.bool (decide ((len : Int) < 48)) = .bool true, Value.bool (decide ((len : Int) < 48)) = .bool true] (by kernel_rfl) ⟨Dg.vfalse (by omega), hs, Dg.vtrue (by omega), Dg.vtrue (by omega), trivial⟩]
  rfl
end
section
variable (z : Nat → Int) (zr : List Int) (m : Nat) (e' : TypeId)
theorem main_is (hz : ∀ i, 0 ≤ z i ∧ z i < 256) (hm : m ≤ zr.length) (h : ¬ 1000 < m + 48) (s : ByteArray) (hs : Dg.strOf (u8s (rowOf z zr)) 0 (m + 48) = some s) : (evCall Try.prog 0 (bodied Try.prog) (flatOver known) sbs 1000 20 5 [arg zr m] (H1 z zr e')).map (·.1) = some (.bool true) := by
  rw [Dg.evCall_hint (hs := [.val 5 8 (.bool false), .soft 5 11 (.string s), .call 15 (.tuple #[.agg (hd (la z)).toArray, .int .i64 0]) (H1 z zr e') [], .val 5 19 (.bool false), .call 16 (.agg (hd (lb z)).toArray) (H2 z zr e') [],
      .val 5 36 (.bool true), .soft 5 40 (.string s), .val 5 42 (.bool true)]) (hs' := []) (v := .bool true) (H' := H1 z zr e') (log := [])
    [Value.bool (decide (1000 < ((m + 48 : Nat) : Int))) = .bool false, Dg.strOf (u8s (rowOf z zr)) 0 (m + 48) = some s,
     evCall Try.prog 0 (bodied Try.prog) (flatOver known) sbs 1000 19 15 [arg zr m] (H1 z zr e') = some (.tuple #[.agg (hd (la z)).toArray, .int .i64 0], H1 z zr e', []),
     Value.bool (decide (((m + 48 : Nat) : Int) < 48)) = .bool false,
     evCall Try.prog 0 (bodied Try.prog) (flatOver known) sbs 1000 19 16 [arg zr m] (H2 z zr e') = some (.agg (hd (lb z)).toArray, H2 z zr e', []),
     Value.bool (eqH (la z) (lb z)) = .bool true, Dg.strOf (u8s (rowOf z zr)) 0 (m + 48) = some s, Value.bool (s.toList == s.toList) = .bool true] (by kernel_rfl)
    ⟨Dg.vfalse (by omega), hs, take_is z zr m e' hm, Dg.vfalse (by omega), Dg.evCall_hint _ _ (ref_run z zr m e') trivial, by rw [la_is z hz, eqH_refl], hs, by simp, trivial⟩]
  rfl
end

theorem bytes_is (zs : List Int) (h : 48 ≤ zs.length) : ∃ zr, zs = rowOf (fun i => zs.getD i 0) zr ∧ zs.length = zr.length + 48 := by
  refine ⟨zs.drop 48, ?_, by simp; omega⟩
  unfold rowOf
  have : (List.range 48).map (fun i => zs.getD i 0) = zs.take 48 := by
    apply List.ext_getElem?
    intro i
    rw [List.getElem?_map, List.getElem?_take]
    by_cases hi : i < 48
    · rw [List.getElem?_range hi, if_pos hi]
      simp [List.getD_eq_getElem?_getD, List.getElem?_eq_getElem (show i < zs.length by omega)]
    · rw [if_neg hi]
      simp [hi]
  rw [this, List.take_append_drop]

theorem walk (w : World) (b off len cap : Nat) (zs : List Int) (e' : TypeId) (hl : len ≤ cap) (hz : zs.length = cap) (hwz : ∀ n ∈ zs, (Lit.int .u8 n).wf = true)
    (ho : ∀ M N, Dg.ObjRel M N w (.cells (zs.map (Value.int .u8 ·)) e' 2 1) b off 0) : Calls Try.prog 5 #[.slice (some ⟨b, off, none⟩) len cap] w fun e w' => e = .returned (.bool true) ∧ Below w.heap.size w w' := by
  subst hz
  have hrun : (evCall Try.prog 0 (bodied Try.prog) (flatOver known) sbs 1000 20 5 [argB zs len] (HB zs e')).map (·.1) = some (.bool true) := by
    have hs := Dg.strOf_ints zs 0 len (by omega)
    by_cases h1 : 1000 < len
    · exact long_is zs len e' h1
    · by_cases h2 : len < 48
      · exact short_is zs len e' h1 h2 _ hs
      · obtain ⟨zr, h3, h4⟩ := bytes_is zs (by omega)
        obtain ⟨m, rfl⟩ : ∃ m, len = m + 48 := ⟨len - 48, by omega⟩
        have hz : ∀ i, 0 ≤ zs.getD i 0 ∧ zs.getD i 0 < 256 := by
          intro i
          rw [List.getD_eq_getElem?_getD]
          cases hi : zs[i]? with
          | none => simp
          | some x => exact Dg.wf_u8 (hwz x (List.mem_of_getElem? hi))
        have := main_is (fun i => zs.getD i 0) zr m e' hz (by omega) h1 _ (by rw [← h3]; exact hs)
        unfold argB HB
        unfold arg H1 at this
        rw [← h3, ← h4] at this
        exact this
  refine Dg.open_call mixed (Dg.bodied_ok _) (Dg.flatOver_ok known_is) [(b, off, .cells (zs.map (Value.int .u8 ·)) e' 2 1)] (by simp; exact ⟨rfl, ho⟩) (args := [argB zs len]) ?_ (sb := sbs) (lf := 1000) (n := 20) hrun rfl
  exact Dg.LRel.cons (Dg.VRel.slx (k := 0) (off := 0) (b := b) (o := off) (sp := 0) rfl) Dg.LRel.nil

/-! ### The row. -/
theorem own : ownKnob Try.prog.godebug = none := by kernel_rfl
theorem laidOut : laidOutB Try.prog = true := by kernel_rfl
set_option maxRecDepth 100000 in
theorem lifted (os : Os) (started : os.Started) (H : Type) (enc : TypeId × Value → H) :
    ReturnsInHanded {} Try.checked os 5 .any (Rows.headTakesSpec.pre6 enc Try.prog Try.f5 Rows.headTakesRow.domain false) (Rows.headTakesSpec.post enc Try.prog Try.f5 false true false false) := by
  refine returnsInHanded_of_change (C := Try.checked) own started (by kernel_rfl) Try.func5
    (ChangeSpec.witness6 (enc := enc) (C := Try.checked) false ⟨#[], #[.slice none 0 0], []⟩ 8 (by kernel_rfl) (by kernel_rfl) (by kernel_rfl) (by kernel_rfl)) ?_
  intro W base args ds gs before hval0 hW hcnd _
  have hval : ∀ (j : Nat) t v, Try.f5.params[j]? = some t → args[j]? = some v → Value.okWide Try.prog W .any base t v := hval0
  have hW' := hW
  obtain ⟨p, q, hA0, hV, rfl, hfz, hnd⟩ := hW
  have hA : DataW.TrodAll enc Try.prog W 0 (fun _ => true) true Try.f5.params.toList args.toList ds p := hA0
  rw [Try.params5] at hA hval
  obtain ⟨v0, vs0, d0, ds0, p0, q0, hargs, rfl, rfl, h0, r0⟩ := trodAll_cons hA
  obtain ⟨rfl, rfl, rfl⟩ := trodAll_nil r0
  obtain rfl : args = #[v0] := by cases args; simp_all
  obtain ⟨rfl, rfl⟩ := trodVars_none hV
  have k0 := h0
  have lt0 : ∀ x ∈ p0, x.block < W.heap.size := by obtain ⟨m, hm⟩ := k0; exact DataW.trod_lt m _ _ _ hm
  have hcall : Calls Try.prog 5 #[v0] W fun e W' => e = .returned (.bool true) ∧ Below W.heap.size W W' := by
    rcases Dg.ints_arg Try.underlying28 Try.underlying5 (by kernel_rfl) (hval 0 28 v0 rfl rfl) h0 with rfl | ⟨b, off, len, cap, zs, e', rfl, hl, hm, hz, hwz, ho⟩
    · exact nil_is.2.2 W
    · exact walk W b off len cap zs e' hl hz hwz ho
  clear hA0 hval0
  simp only [List.append_nil] at hW' lt0
  refine hcall.mono fun e W' ⟨he, bel⟩ => ?_
  subst he
  exact ⟨_, rfl, _, _, _, [], _, [], hW', trodAll_mk1 (shut_bool Try.underlying4 _), trodAll_cons_mk (Below.trod laidOut (by kernel_rfl) (of_decide_eq_true (by kernel_rfl)) k0 bel lt0) trodAll_mk0, rfl, bel.frame _, fun h => by cases h⟩

theorem over : Rows.headTakesRow.holds Try.pinned (OpenSpec.ofChange Rows.headTakesSpec) :=
  OpenClaim.holds_of_wide 5 Try.f5 rfl rfl rfl rfl rfl rfl rfl ⟨rfl, rfl, rfl, rfl, rfl⟩ rfl rfl rfl rfl rfl (by kernel_rfl) Try.func5 (by kernel_rfl)
    (of_decide_eq_true (by kernel_rfl)) (by unfold Func.isWrapper; first | (rw [if_pos (by decide +kernel)]; kernel_rfl) | (rw [if_neg (by decide +kernel)]; exact ⟨rfl, rfl⟩))
    (fun os started H enc _ => lifted os started H enc)

theorem proved : Rows.HeadTakesSaid := over
#print axioms proved
end Go.Proofs.Ythfhidbdjiehhaa.headTakes
