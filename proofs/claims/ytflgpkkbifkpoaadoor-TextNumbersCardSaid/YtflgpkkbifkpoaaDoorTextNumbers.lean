/- PROVED: 'horologelaw04.TextNumbers' returns true at whatever int64, uint64 and text, and leaves what was there as it was. -/
import Derived.Test.YtflgpkkbifkpoaaDoorRows
import Derived.Test.YtflgpkkbifkpoaaDoorCards
import Derived.Test.YtflgpkkbifkpoaaDoorTie
import Derived.Test.YtflgpkkbifkpoaaDoorNumZ
import Derived.WalkKit
import Derived.ProofKit
import Derived.LaidMore
import Derived.OpenShut
import Derived.Stop.Joined
import Derived.SevenTiedAt
import Derived.Lay
namespace Go.Proofs.YtflgpkkbifkpoaaDoor.textNumbers
open Go.ChangeShapes Go.WideShapes Go.ChangeAt Go.WideMaps Go.WideElems Go.RowKit
open Go.Dg (junk St Ex Ev Hint evCall evCallS evCode evLoop cleanSt ue bodied noOver sbOf headOf tailOf bodyOf Flats flatOver Heap AObj embOf heapOf)
open Go.Proofs.YtflgpkkbifkpoaaDoor.text (ui db32L db64L accL pow10L H0 L0 laidL of_laid sbs mixed)
open Go.Proofs.YtflgpkkbifkpoaaDoor.num (Hn ovT ovT_ok okB sb4 good4)
set_option linter.unusedVariables false

def tt : Nat → List Value
  | 6 => ui .u8 db32L
  | 7 => ui .u8 db64L
  | 8 => ui .u8 Pinned.utf8FirstZ
  | 9 => ui .u8 accL
  | _ => []
/-- The rows of the chapter, wherever the package variables lie. -/
theorem known0 (E : Nat → TypeId) (u v : TypeId) : evCall Tryd.prog 10 (bodied Tryd.prog) noOver sbs 1000 20 5 [] (H0 E u v []) = some (.bool true, H0 E u v [], []) := by kernel_rfl
theorem Hn_is (E : Nat → TypeId) (u v : TypeId) : Hn tt E u v [] = H0 E u v [] := rfl
theorem over5 (args : List Value) (H : Heap) : ovT 5 args H = evCall Tryd.prog 10 (bodied Tryd.prog) noOver Go.Proofs.YtflgpkkbifkpoaaDoor.text.sbs 1000 20 5 args H := rfl
theorem kn (E : Nat → TypeId) (u v : TypeId) : ovT 5 [] (Hn tt E u v []) = some (.bool true, Hn tt E u v [], []) := by rw [over5, Hn_is]; exact known0 E u v
def GoodT (args : List Value) (H : Heap) : Prop := (evCall Tryd.prog 10 (bodied Tryd.prog) ovT sb4 1000 20 4 args H).map (·.1) = some (.bool true)
theorem all_N (E : Nat → TypeId) (u v : TypeId) (n : Int) (hn : -9223372036854775808 ≤ n ∧ n ≤ 9223372036854775807) (m : Int) (hm : 0 ≤ m ∧ m < 18446744073709551616) (s : ByteArray) : GoodT [.int .i64 n, .int .u64 m, .string s] (H0 E u v []) := by
  obtain ⟨k, rfl⟩ := Int.eq_ofNat_of_zero_le hm.1
  rw [← Hn_is]
  exact good4 tt E u v (kn E u v) n hn k (by omega) s
theorem good_open {args args' : List Value} {W : World} (L : List (Nat × Nat × AObj)) (hG : Dg.Globs 10 (embOf L)) (hL : ∀ x ∈ L, x.2.2.owned = false ∧ ∀ N, Dg.ObjRel (embOf L) N W x.2.2 x.1 x.2.1 0) (h : GoodT args (heapOf L)) (ha : Dg.LRel (embOf L) args args') :
    Calls Tryd.prog 4 args'.toArray W fun e W' => e = .returned (.bool true) ∧ Below W.heap.size W W' :=
  Dg.open_callG mixed okB ovT_ok L hG hL ha (sb := sb4) (lf := 1000) (n := 20) h rfl
theorem walk (W : World) (hL : laidMetH Tryd.prog laidL W) (n : Int) (hn : -9223372036854775808 ≤ n ∧ n ≤ 9223372036854775807) (m : Int) (hm : 0 ≤ m ∧ m < 18446744073709551616) (s : ByteArray) :
    Calls Tryd.prog 4 #[.int .i64 n, .int .u64 m, .string s] W fun e W' => e = .returned (.bool true) ∧ Below W.heap.size W W' := by
  have F : ∀ v, Dg.flat v = true → ∀ M, Dg.VRel M v v := fun v h M => Dg.vrel_of_flat _ _ h
  obtain ⟨E, u, v, k, o, k', o', hG, hO⟩ := of_laid hL
  exact good_open (L0 E u v k o k' o') hG hO (all_N E u v n hn m hm s) (Dg.LRel.cons (F _ rfl _) (Dg.LRel.cons (F _ rfl _) (Dg.LRel.cons (F _ rfl _) Dg.LRel.nil)))

/-! ### The row. -/
theorem ownKnob_is : ownKnob Tryd.prog.godebug = none := by kernel_rfl
theorem laidOut : laidOutB Tryd.prog = true := by kernel_rfl
/-- The door's own heap meets the condition: three closed facts. -/
noncomputable def doorW (os : Os) : World := (World.doorLaid Tryd.prog 400 os).layVars Tryd.prog [("unicode/utf8.first", Rows.laid_unicode_utf8_first)]
theorem great_is : (laidL.filter fun x => ["unicode/utf8.first"].contains x.1) = [("unicode/utf8.first", Rows.laid_unicode_utf8_first)] := by kernel_rfl
theorem door_met (os : Os) (args : Array Value) : laidMetH Tryd.prog laidL ((doorW os).forCall (fun _ _ => 0) ⟨#[], args, []⟩).memory := by
  rw [MakeChecks.laidMetH_plain _ _ _ (by kernel_rfl)]
  exact laidMet_layVars (w0 := World.doorLaid Tryd.prog 400 os) ["unicode/utf8.first"] [2, 3, 4, 6, 7, 9, 10, 11, 12, 13, 14, 15, 16] (by rw [great_is]; simp [World.memory, World.forCall, Input.heap]; rfl) (by kernel_rfl) (by kernel_rfl) (LaidIn.of_run _ 8 (by kernel_rfl) (by kernel_rfl) (by kernel_rfl) (by kernel_rfl))
set_option maxRecDepth 100000 in
theorem lifted (os : Os) (started : os.Started) (H : Type) (enc : TypeId × Value → H) :
    ReturnsInHanded {} Tryd.checked os 4 .any (fun w args => (Rows.textNumbersSpec.pre enc Tryd.prog Tryd.f4 [] false w args ∧ laidMetH Tryd.prog laidL w) ∧ sizedMet enc Tryd.prog Tryd.f4 (OpenSpec.ofChange Rows.textNumbersSpec) false w args)
      (Rows.textNumbersSpec.post enc Tryd.prog Tryd.f4 false true false false) := by
  refine returnsInHanded_of_change_and (C := Tryd.checked) (X := fun w _ => laidMetH Tryd.prog laidL w) (fun _ _ _ hh h => h.of_heap hh) ownKnob_is started (by kernel_rfl) Tryd.func4
    (ChangeSpec.witness_shaped (enc := enc) (C := Tryd.checked) (os := os) (X := fun w _ => laidMetH Tryd.prog laidL w) false (doorW os) #[.int .i64 0, .int .u64 0, .string ⟨#[]⟩] 8 (World.layVars_os _ _ _) (World.shaped_of_RefB (by kernel_rfl) (by kernel_rfl)) (by kernel_rfl) (by kernel_rfl) (by kernel_rfl) (door_met os _)) ?_
  intro W base args ds gs before hval0 hW _ _ hL _
  have hval : ∀ (j : Nat) t v, Tryd.f4.params[j]? = some t → args[j]? = some v → Value.okWide Tryd.prog W .any base t v := hval0
  have hW' := hW
  obtain ⟨p, q, hA0, hV, rfl, hfz, hnd⟩ := hW
  have hA : DataW.TrodAll enc Tryd.prog W 0 (fun _ => true) true Tryd.f4.params.toList args.toList ds p := hA0
  rw [Tryd.params4] at hA hval
  obtain ⟨v0, vs0, d0, ds0, p0, q0, hargs, rfl, rfl, h0, t0⟩ := trodAll_cons hA
  obtain ⟨v1, vs1, d1, ds1, p1, q1, rfl, rfl, rfl, h1, t1⟩ := trodAll_cons t0
  obtain ⟨v2, vs2, d2, ds2, p2, q2, rfl, rfl, rfl, h2, t2⟩ := trodAll_cons t1
  obtain ⟨rfl, rfl, rfl⟩ := trodAll_nil t2
  obtain rfl : args = #[v0, v1, v2] := by cases args; simp_all
  obtain ⟨rfl, rfl⟩ := trodVars_none hV
  obtain ⟨s, rfl, rfl, rfl, ws⟩ := Go.ChangeMaps.open_string Tryd.underlying9 (hval 2 9 v2 rfl rfl) h2
  obtain ⟨m, rfl, rfl, rfl, wm⟩ := open_int Tryd.underlying29 (hval 1 29 v1 rfl rfl) h1
  obtain ⟨n, rfl, rfl, rfl, wn⟩ := open_int Tryd.underlying2 (hval 0 2 v0 rfl rfl) h0
  have hcall := walk W hL n ⟨(Dg.wf_i64 wn).1, by have := (Dg.wf_i64 wn).2; omega⟩ m (Dg.wf_u64 wm) s
  clear hA0 hval0
  simp only [List.append_nil] at hW'
  refine hcall.mono fun e W' ⟨he, bel⟩ => ?_
  subst he
  exact ⟨_, rfl, _, _, _, [], _, [], hW', trodAll_mk1 (shut_bool Tryd.underlying4 _), trodAll_cons_mk (shut_int Tryd.underlying2 wn) (trodAll_cons_mk (shut_int Tryd.underlying29 wm) (trodAll_cons_mk (Go.ChangeMaps.shut_string Tryd.underlying9 ws) trodAll_mk0)), rfl, bel.frame _, fun h => by cases h⟩

theorem row_holds : Rows.TextNumbersSaid :=
  OpenClaim.holds_of_wide 4 Tryd.f4 rfl rfl rfl rfl rfl rfl rfl ⟨rfl, rfl, rfl, rfl, rfl⟩ rfl rfl rfl rfl rfl (by kernel_rfl) Tryd.func4 (by kernel_rfl)
    (of_decide_eq_true (by kernel_rfl)) (by unfold Func.isWrapper; first | (rw [if_pos (by decide +kernel)]; kernel_rfl) | (rw [if_neg (by decide +kernel)]; exact ⟨rfl, rfl⟩))
    (fun os started H enc _ => lifted os started H enc)

theorem proved : Rows.TextNumbersCardSaid :=
  Claim7.holds_tied_plain_at .later [] [.data, .data, .data, .data, .sentinel, .sentinel, .pinned] true (true, "423198185860df81dbb591e36774d2ec676d829a9687c254b2245dc6e3516bcf") true
    row_holds (fun _ h => by cases h) (by kernel_rfl) (fun _ h => by cases h) textNumbers_row_tie rfl ⟨rfl, rfl⟩ (by kernel_rfl) rfl
    (fun f fn hf hfn => by
      obtain rfl : f = 4 := Option.some.inj ((show Tryd.prog.funcNamed "horologe/horologelaw04.TextNumbers" = some 4 by kernel_rfl).symm.trans hf) |>.symm
      obtain rfl : fn = Tryd.f4 := (Option.some.inj (Tryd.func4.symm.trans hfn)).symm
      exact ⟨by kernel_rfl, fun j t ht => by
        rw [Tryd.params4] at ht
        have hm : t ∈ [2, 29, 9] := by simpa using Array.mem_of_getElem? ht
        have hall : ([2, 29, 9].all fun u => !Tryd.prog.wantsStandIn u) = true := by kernel_rfl
        exact (show Tryd.prog.wantsStandIn t = false by simpa using List.all_eq_true.1 hall t hm)⟩)
    (by kernel_rfl)
#print axioms proved
end Go.Proofs.YtflgpkkbifkpoaaDoor.textNumbers
