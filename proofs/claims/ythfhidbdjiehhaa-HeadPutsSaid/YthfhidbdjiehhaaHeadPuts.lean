/- PROVED: 'horologelaw20.HeadPuts' returns true at every header, in whatever memory, and leaves what was there as it was. Conditions: none. -/
import Derived.Test.YthfhidbdjiehhaaRows
import Derived.Test.YthfhidbdjiehhaaHeadPut
import Derived.WalkKit
import Derived.ProofKit
import Derived.OpenShut
namespace Go.Proofs.Ythfhidbdjiehhaa.headPuts
open Go.ChangeShapes Go.WideShapes Go.ChangeAt Go.RowKit
open Go.Dg (junk St Ex Ev Hint evCall evCallS evCode evLoop cleanSt ue bodied noOver sbOf headOf tailOf bodyOf Flats flatOver Heap AObj)
open Go.Proofs.Ythfhidbdjiehhaa.headPut
set_option linter.unusedVariables false

section
variable (le ve mo st po pr rd ri r0 r1 r2 r3 re og rc xm : Int)
def H1 : Heap := ⟨1, [.cells (headL le ve mo st po pr rd ri r0 r1 r2 r3 re og rc xm) 27 0 1]⟩
def H2 : Heap := ⟨2, [.cells (u8s (intsA le ve mo st po pr rd ri r0 r1 r2 r3 re og rc xm)) 5 1 1, .cells (headL le ve mo st po pr rd ri r0 r1 r2 r3 re og rc xm) 27 0 1]⟩
def H3 : Heap := ⟨3, [.cells (u8s (intsB le ve mo st po pr rd ri r0 r1 r2 r3 re og rc xm)) 5 1 1, .cells (u8s (intsA le ve mo st po pr rd ri r0 r1 r2 r3 re og rc xm)) 5 1 1, .cells (headL le ve mo st po pr rd ri r0 r1 r2 r3 re og rc xm) 27 0 1]⟩

theorem put_run : evCallS Try.prog 0 (bodied Try.prog) (flatOver known) sbs 1000 19 9 [.agg (headL le ve mo st po pr rd ri r0 r1 r2 r3 re og rc xm).toArray] (H1 le ve mo st po pr rd ri r0 r1 r2 r3 re og rc xm) (mays 18)
    = some (.tuple #[.slice (some ⟨1, 0, some 0⟩) 48 48, .int .i64 0], H2 le ve mo st po pr rd ri r0 r1 r2 r3 re og rc xm, [], [], [Value.bool (decide (le < 4)) = .bool true, Value.bool (decide (ve < 8)) = .bool true, Value.bool (decide (mo < 8)) = .bool true]) := by kernel_rfl
theorem ref_run : evCallS Try.prog 0 (bodied Try.prog) (flatOver known) sbs 1000 19 12 [.agg (headL le ve mo st po pr rd ri r0 r1 r2 r3 re og rc xm).toArray] (H2 le ve mo st po pr rd ri r0 r1 r2 r3 re og rc xm) []
    = some (.slice (some ⟨2, 0, some 0⟩) 48 48, H3 le ve mo st po pr rd ri r0 r1 r2 r3 re og rc xm, [], [], []) := by kernel_rfl

theorem may_no (hs : List Hint) (ob : List Prop) (h : evCallS Try.prog 0 (bodied Try.prog) (flatOver known) sbs 1000 20 3 [.agg (headL le ve mo st po pr rd ri r0 r1 r2 r3 re og rc xm).toArray] ⟨0, []⟩ hs = some (.bool true, ⟨0, []⟩, [], [], ob)) (ho : Dg.AllP ob) :
    Flats Try.prog 3 [.agg (headL le ve mo st po pr rd ri r0 r1 r2 r3 re og rc xm).toArray] (.bool true) :=
  Dg.closed_call mixed (Dg.bodied_ok _) (Dg.flatOver_ok known_is) (sb := sbs) (lf := 1000) (n := 20) (by rw [Dg.evCall_hint hs ob h ho]; rfl) (by kernel_rfl) rfl

theorem law_is (h0 : 0 ≤ le ∧ le < 256) (h1 : 0 ≤ ve ∧ ve < 256) (h2 : 0 ≤ mo ∧ mo < 256) (h3 : 0 ≤ re ∧ re < 18446744073709551616) (h4 : 0 ≤ og ∧ og < 18446744073709551616)
    (h5 : 0 ≤ rc ∧ rc < 18446744073709551616) (h6 : 0 ≤ xm ∧ xm < 18446744073709551616) : Flats Try.prog 3 [.agg (headL le ve mo st po pr rd ri r0 r1 r2 r3 re og rc xm).toArray] (.bool true) := by
  by_cases a0 : le < 4
  · by_cases a1 : ve < 8
    · by_cases a2 : mo < 8
      · have b0 : le ≤ 3 := by omega
        have b1 : ve ≤ 7 := by omega
        have b2 : mo ≤ 7 := by omega
        refine may_no le ve mo st po pr rd ri r0 r1 r2 r3 re og rc xm
          ([.call 9 (.tuple #[.slice (some ⟨1, 0, some 0⟩) 48 48, .int .i64 0]) (H2 le ve mo st po pr rd ri r0 r1 r2 r3 re og rc xm) []] ++ mays 10 ++ [.call 12 (.slice (some ⟨2, 0, some 0⟩) 48 48) (H3 le ve mo st po pr rd ri r0 r1 r2 r3 re og rc xm) [], .val 3 31 (.bool true)])
          [evCall Try.prog 0 (bodied Try.prog) (flatOver known) sbs 1000 19 9 [.agg (headL le ve mo st po pr rd ri r0 r1 r2 r3 re og rc xm).toArray] (H1 le ve mo st po pr rd ri r0 r1 r2 r3 re og rc xm) = some (.tuple #[.slice (some ⟨1, 0, some 0⟩) 48 48, .int .i64 0], H2 le ve mo st po pr rd ri r0 r1 r2 r3 re og rc xm, []),
           Value.bool (decide (le ≤ 3)) = .bool true, Value.bool (decide (ve ≤ 7)) = .bool true, Value.bool (decide (mo ≤ 7)) = .bool true,
           evCall Try.prog 0 (bodied Try.prog) (flatOver known) sbs 1000 19 12 [.agg (headL le ve mo st po pr rd ri r0 r1 r2 r3 re og rc xm).toArray] (H2 le ve mo st po pr rd ri r0 r1 r2 r3 re og rc xm) = some (.slice (some ⟨2, 0, some 0⟩) 48 48, H3 le ve mo st po pr rd ri r0 r1 r2 r3 re og rc xm, []),
           Value.bool ((str (intsA le ve mo st po pr rd ri r0 r1 r2 r3 re og rc xm)).toList == (str (intsB le ve mo st po pr rd ri r0 r1 r2 r3 re og rc xm)).toList) = .bool true]
          (by kernel_rfl) ⟨?_, Dg.vtrue b0, Dg.vtrue b1, Dg.vtrue b2, ?_, ?_, trivial⟩
        · exact Dg.evCall_hint _ _ (put_run le ve mo st po pr rd ri r0 r1 r2 r3 re og rc xm) ⟨Dg.vtrue a0, Dg.vtrue a1, Dg.vtrue a2, trivial⟩
        · exact Dg.evCall_hint _ _ (ref_run le ve mo st po pr rd ri r0 r1 r2 r3 re og rc xm) trivial
        · rw [ints_is le ve mo st po pr rd ri r0 r1 r2 r3 re og rc xm ⟨h0.1, a0⟩ ⟨h1.1, a1⟩ ⟨h2.1, a2⟩ h3 h4 h5 h6]
          simp
      · exact may_no le ve mo st po pr rd ri r0 r1 r2 r3 re og rc xm [.val 18 5 (.bool true), .val 18 9 (.bool true), .val 18 14 (.bool false), .val 10 5 (.bool true), .val 10 9 (.bool true), .val 10 14 (.bool false)]
          [Value.bool (decide (le < 4)) = .bool true, Value.bool (decide (ve < 8)) = .bool true, Value.bool (decide (mo < 8)) = .bool false, Value.bool (decide (le ≤ 3)) = .bool true, Value.bool (decide (ve ≤ 7)) = .bool true, Value.bool (decide (mo ≤ 7)) = .bool false]
          (by kernel_rfl) ⟨Dg.vtrue a0, Dg.vtrue a1, Dg.vfalse a2, Dg.vtrue (by omega), Dg.vtrue (by omega), Dg.vfalse (by omega), trivial⟩
    · exact may_no le ve mo st po pr rd ri r0 r1 r2 r3 re og rc xm [.val 18 5 (.bool true), .val 18 9 (.bool false), .val 10 5 (.bool true), .val 10 9 (.bool false)]
        [Value.bool (decide (le < 4)) = .bool true, Value.bool (decide (ve < 8)) = .bool false, Value.bool (decide (le ≤ 3)) = .bool true, Value.bool (decide (ve ≤ 7)) = .bool false]
        (by kernel_rfl) ⟨Dg.vtrue a0, Dg.vfalse a1, Dg.vtrue (by omega), Dg.vfalse (by omega), trivial⟩
  · exact may_no le ve mo st po pr rd ri r0 r1 r2 r3 re og rc xm [.val 18 5 (.bool false), .val 10 5 (.bool false)] [Value.bool (decide (le < 4)) = .bool false, Value.bool (decide (le ≤ 3)) = .bool false]
      (by kernel_rfl) ⟨Dg.vfalse a0, Dg.vfalse (by omega), trivial⟩
end

/-! ### The row. -/
theorem own : ownKnob Try.prog.godebug = none := by kernel_rfl
theorem laidOut : laidOutB Try.prog = true := by kernel_rfl
set_option maxRecDepth 100000 in
theorem lifted (os : Os) (started : os.Started) (H : Type) (enc : TypeId × Value → H) :
    ReturnsInHanded {} Try.checked os 3 .any (Rows.headPutsSpec.pre6 enc Try.prog Try.f3 Rows.headPutsRow.domain false) (Rows.headPutsSpec.post enc Try.prog Try.f3 false true false false) := by
  refine returnsInHanded_of_change (C := Try.checked) own started (by kernel_rfl) Try.func3
    (ChangeSpec.witness6 (enc := enc) (C := Try.checked) false ⟨#[], #[.agg (headL 0 0 0 0 0 0 0 0 0 0 0 0 0 0 0 0).toArray], []⟩ 8 (by kernel_rfl) (by kernel_rfl) (by kernel_rfl) (by kernel_rfl)) ?_
  intro W base args ds gs before hval0 hW hcnd _
  have hval : ∀ (j : Nat) t v, Try.f3.params[j]? = some t → args[j]? = some v → Value.okWide Try.prog W .any base t v := hval0
  have hW' := hW
  obtain ⟨p, q, hA0, hV, rfl, hfz, hnd⟩ := hW
  have hA : DataW.TrodAll enc Try.prog W 0 (fun _ => true) true Try.f3.params.toList args.toList ds p := hA0
  rw [Try.params3] at hA hval
  obtain ⟨v0, vs0, d0, ds0, p0, q0, hargs, rfl, rfl, h0, r0⟩ := trodAll_cons hA
  obtain ⟨rfl, rfl, rfl⟩ := trodAll_nil r0
  obtain rfl : args = #[v0] := by cases args; simp_all
  obtain ⟨rfl, rfl⟩ := trodVars_none hV
  have k0 := h0
  have lt0 : ∀ x ∈ p0, x.block < W.heap.size := by obtain ⟨m, hm⟩ := k0; exact DataW.trod_lt m _ _ _ hm
  obtain ⟨le, ve, mo, st, po, pr, rd, ri, r0, r1, r2, r3, re, og, rc, xm, rfl, a1, a2, a3, a4, a5, a6, a7, a8, a9, a10, a11, a12, a13, a14, a15, a16⟩ := open_head (hval 0 27 v0 rfl rfl) h0
  clear hA0 hval0
  simp only [List.append_nil] at hW' lt0
  refine ((law_is le ve mo st po pr rd ri r0 r1 r2 r3 re og rc xm a1 a2 a3 a13 a14 a15 a16).2.2 W).mono fun e W' ⟨he, bel⟩ => ?_
  subst he
  exact ⟨_, rfl, _, _, _, [], _, [], hW', trodAll_mk1 (shut_bool Try.underlying4 _), trodAll_cons_mk (Below.trod laidOut (by kernel_rfl) (of_decide_eq_true (by kernel_rfl)) k0 bel lt0) trodAll_mk0, rfl, bel.frame _, fun h => by cases h⟩

theorem over : Rows.headPutsRow.holds Try.pinned (OpenSpec.ofChange Rows.headPutsSpec) :=
  OpenClaim.holds_of_wide 3 Try.f3 rfl rfl rfl rfl rfl rfl rfl ⟨rfl, rfl, rfl, rfl, rfl⟩ rfl rfl rfl rfl rfl (by kernel_rfl) Try.func3 (by kernel_rfl)
    (of_decide_eq_true (by kernel_rfl)) (by unfold Func.isWrapper; first | (rw [if_pos (by decide +kernel)]; kernel_rfl) | (rw [if_neg (by decide +kernel)]; exact ⟨rfl, rfl⟩))
    (fun os started H enc _ => lifted os started H enc)

theorem proved : Rows.HeadPutsSaid := over
#print axioms proved
end Go.Proofs.Ythfhidbdjiehhaa.headPuts
