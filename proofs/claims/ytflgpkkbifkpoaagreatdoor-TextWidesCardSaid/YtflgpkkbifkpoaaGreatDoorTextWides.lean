/- PROVED: 'horologelaw04.TextWides' returns true at whatever wide number and text, and leaves what was there as it was. -/
import Derived.Test.YtflgpkkbifkpoaaGreatDoorRows
import Derived.Test.YtflgpkkbifkpoaaGreatDoorCards
import Derived.Test.YtflgpkkbifkpoaaGreatDoorTie
import Derived.Test.YtflgpkkbifkpoaaGreatDoorWideFf
import Derived.WalkKit
import Derived.ProofKit
import Derived.LaidMore
import Derived.OpenShut
import Derived.Stop.Joined
import Derived.SevenTiedAt
import Derived.Lay
namespace Go.Proofs.YtflgpkkbifkpoaaGreatDoor.textWides
open Go.ChangeShapes Go.WideShapes Go.ChangeAt Go.WideMaps Go.WideElems Go.RowKit
open Go.Dg (junk St Ex Ev Hint evCall evCallS evCode evLoop cleanSt ue bodied noOver sbOf headOf tailOf bodyOf Flats flatOver Heap AObj embOf heapOf)
open Go.Proofs.YtflgpkkbifkpoaaGreatDoor.text (ui db32L db64L accL pow10L H0 L0 laidL of_laid sbs mixed)
open Go.Proofs.YtflgpkkbifkpoaaGreatDoor.num (Hn ovW ovW_ok okB sb3 good3 wv InW wv_eq)
set_option linter.unusedVariables false

def tt : Nat → List Value
  | 6 => ui .u8 db32L
  | 7 => ui .u8 db64L
  | 8 => ui .u8 Pinned.utf8FirstZ
  | 9 => ui .u8 accL
  | _ => []
/-- The rows of the chapter, wherever the package variables lie. -/
theorem known1 (E : Nat → TypeId) (u v : TypeId) (x : AObj) : evCall Tryz.prog 10 (bodied Tryz.prog) noOver sbs 1000 20 5 [] (H0 E u v [x]) = some (.bool true, H0 E u v [x], []) := by kernel_rfl
theorem Hn_is (E : Nat → TypeId) (u v : TypeId) (r : List AObj) : Hn tt E u v r = H0 E u v r := rfl
theorem over5 (args : List Value) (H : Heap) : ovW 5 args H = evCall Tryz.prog 10 (bodied Tryz.prog) noOver Go.Proofs.YtflgpkkbifkpoaaGreatDoor.text.sbs 1000 20 5 args H := rfl
theorem kn (E : Nat → TypeId) (u v : TypeId) (x : AObj) : ovW 5 [] (Hn tt E u v [x]) = some (.bool true, Hn tt E u v [x], []) := by rw [over5, Hn_is]; exact known1 E u v x
def GoodT (args : List Value) (H : Heap) : Prop := (evCall Tryz.prog 10 (bodied Tryz.prog) ovW sb3 1000 20 3 args H).map (·.1) = some (.bool true)
theorem all_N (E : Nat → TypeId) (u v : TypeId) {n : Int} (hn : InW n) (s : ByteArray) : GoodT [wv n, .string s] (H0 E u v []) := by
  rw [← Hn_is]
  exact good3 tt E u v hn s (kn E u v _)
theorem good_open {args args' : List Value} {W : World} (L : List (Nat × Nat × AObj)) (hG : Dg.Globs 10 (embOf L)) (hL : ∀ x ∈ L, x.2.2.owned = false ∧ ∀ N, Dg.ObjRel (embOf L) N W x.2.2 x.1 x.2.1 0) (h : GoodT args (heapOf L)) (ha : Dg.LRel (embOf L) args args') :
    Calls Tryz.prog 3 args'.toArray W fun e W' => e = .returned (.bool true) ∧ Below W.heap.size W W' :=
  Dg.open_callG mixed okB ovW_ok L hG hL ha (sb := sb3) (lf := 1000) (n := 20) h rfl
theorem walk (W : World) (hL : laidMetH Tryz.prog laidL W) {n : Int} (hn : InW n) (s : ByteArray) :
    Calls Tryz.prog 3 #[wv n, .string s] W fun e W' => e = .returned (.bool true) ∧ Below W.heap.size W W' := by
  have F : ∀ v, Dg.flat v = true → ∀ M, Dg.VRel M v v := fun v h M => Dg.vrel_of_flat _ _ h
  obtain ⟨E, u, v, k, o, k', o', hG, hO⟩ := of_laid hL
  exact good_open (L0 E u v k o k' o') hG hO (all_N E u v hn s) (Dg.LRel.cons (F _ rfl _) (Dg.LRel.cons (F _ rfl _) Dg.LRel.nil))
set_option maxRecDepth 100000 in
theorem open_wide {H : Type} {enc : TypeId × Value → H} {W : World} {sp : Nat → Bool} {v : Value} {d : DataW H} {p : List MemPlace} {base : Nat} (hok : Value.okWide Tryz.prog W .any base 24 v) (h : DataW.Trod enc Tryz.prog W 0 sp true 24 v d p) :
    ∃ n, v = wv n ∧ InW n := by
  obtain ⟨cs, rfl, hsz⟩ := okWide_struct Tryz.underlying24 hok
  have h2 : Tryz.prog.cellsOf 24 = 2 := by kernel_rfl
  obtain ⟨fuel, hf⟩ := h
  obtain ⟨l⟩ := cs
  have hl : l.length = 2 := by simpa [h2] using hsz
  have hf' : DataW.trod enc Tryz.prog W 0 sp true fuel 24 l = some (d, p) := hf
  match l, hl with
  | [c0, c1], _ =>
    obtain ⟨xs, n, _, _, _, hlen, hfs⟩ := DataW.trod_struct Tryz.underlying24 hf'
    obtain ⟨n0, e0, k0⟩ := Dg.int_field hfs hlen 0 _ rfl Tryz.underlying2 (by kernel_rfl)
    obtain ⟨n1, e1, k1⟩ := Dg.int_field hfs hlen 1 _ rfl Tryz.underlying22 (by kernel_rfl)
    simp at e0 e1
    subst e0 e1
    have r0 := Dg.wf_i64 k0
    have r1 := Dg.wf_u64 k1
    exact ⟨n0 * 18446744073709551616 + n1, (wv_eq rfl r1).symm, by unfold InW; omega⟩

/-! ### The row. -/
theorem ownKnob_is : ownKnob Tryz.prog.godebug = none := by kernel_rfl
theorem laidOut : laidOutB Tryz.prog = true := by kernel_rfl
/-- The door's own heap meets the condition: three closed facts. -/
noncomputable def doorW (os : Os) : World := (World.doorLaid Tryz.prog 400 os).layVars Tryz.prog [("unicode/utf8.first", Rows.laid_unicode_utf8_first)]
theorem great_is : (laidL.filter fun x => ["unicode/utf8.first"].contains x.1) = [("unicode/utf8.first", Rows.laid_unicode_utf8_first)] := by kernel_rfl
theorem door_met (os : Os) (args : Array Value) : laidMetH Tryz.prog laidL ((doorW os).forCall (fun _ _ => 0) ⟨#[], args, []⟩).memory := by
  rw [MakeChecks.laidMetH_plain _ _ _ (by kernel_rfl)]
  exact laidMet_layVars (w0 := World.doorLaid Tryz.prog 400 os) ["unicode/utf8.first"] [3, 4, 5, 6, 7, 9, 10, 11, 12, 13, 14, 15, 16] (by rw [great_is]; simp [World.memory, World.forCall, Input.heap]; rfl) (by kernel_rfl) (by kernel_rfl) (LaidIn.of_run _ 8 (by kernel_rfl) (by kernel_rfl) (by kernel_rfl) (by kernel_rfl))
set_option maxRecDepth 100000 in
theorem lifted (os : Os) (started : os.Started) (H : Type) (enc : TypeId × Value → H) :
    ReturnsInHanded {} Tryz.checked os 3 .any (fun w args => (Rows.textWidesSpec.pre enc Tryz.prog Tryz.f3 [] false w args ∧ laidMetH Tryz.prog laidL w) ∧ sizedMet enc Tryz.prog Tryz.f3 (OpenSpec.ofChange Rows.textWidesSpec) false w args)
      (Rows.textWidesSpec.post enc Tryz.prog Tryz.f3 false true false false) := by
  refine returnsInHanded_of_change_and (C := Tryz.checked) (X := fun w _ => laidMetH Tryz.prog laidL w) (fun _ _ _ hh h => h.of_heap hh) ownKnob_is started (by kernel_rfl) Tryz.func3
    (ChangeSpec.witness_shaped (enc := enc) (C := Tryz.checked) (os := os) (X := fun w _ => laidMetH Tryz.prog laidL w) false (doorW os) #[.agg #[.int .i64 0, .int .u64 0], .string ⟨#[]⟩] 8 (World.layVars_os _ _ _) (World.shaped_of_RefB (by kernel_rfl) (by kernel_rfl)) (by kernel_rfl) (by kernel_rfl) (by kernel_rfl) (door_met os _)) ?_
  intro W base args ds gs before hval0 hW _ _ hL _
  have hval : ∀ (j : Nat) t v, Tryz.f3.params[j]? = some t → args[j]? = some v → Value.okWide Tryz.prog W .any base t v := hval0
  have hW' := hW
  obtain ⟨p, q, hA0, hV, rfl, hfz, hnd⟩ := hW
  have hA : DataW.TrodAll enc Tryz.prog W 0 (fun _ => true) true Tryz.f3.params.toList args.toList ds p := hA0
  rw [Tryz.params3] at hA hval
  obtain ⟨v0, vs0, d0, ds0, p0, q0, hargs, rfl, rfl, h0, t0⟩ := trodAll_cons hA
  obtain ⟨v1, vs1, d1, ds1, p1, q1, rfl, rfl, rfl, h1, t1⟩ := trodAll_cons t0
  obtain ⟨rfl, rfl, rfl⟩ := trodAll_nil t1
  obtain rfl : args = #[v0, v1] := by cases args; simp_all
  obtain ⟨rfl, rfl⟩ := trodVars_none hV
  obtain ⟨s, rfl, rfl, rfl, ws⟩ := Go.ChangeMaps.open_string Tryz.underlying9 (hval 1 9 v1 rfl rfl) h1
  have k0 := h0
  have lt0 : ∀ x ∈ p0, x.block < W.heap.size := by obtain ⟨m, hm⟩ := k0; exact DataW.trod_lt m _ _ _ hm
  obtain ⟨n, rfl, hn⟩ := open_wide (hval 0 24 v0 rfl rfl) h0
  have hcall := walk W hL hn s
  clear hA0 hval0
  simp only [List.append_nil] at hW' lt0
  refine hcall.mono fun e W' ⟨he, bel⟩ => ?_
  subst he
  exact ⟨_, rfl, _, _, _, [], _, [], hW', trodAll_mk1 (shut_bool Tryz.underlying4 _), trodAll_cons_mk (Below.trod laidOut (by kernel_rfl) (of_decide_eq_true (by kernel_rfl)) k0 bel lt0) (trodAll_cons_mk (Go.ChangeMaps.shut_string Tryz.underlying9 ws) trodAll_mk0), rfl, bel.frame _, fun h => by cases h⟩

theorem row_holds : Rows.TextWidesSaid :=
  OpenClaim.holds_of_wide 3 Tryz.f3 rfl rfl rfl rfl rfl rfl rfl ⟨rfl, rfl, rfl, rfl, rfl⟩ rfl rfl rfl rfl rfl (by kernel_rfl) Tryz.func3 (by kernel_rfl)
    (of_decide_eq_true (by kernel_rfl)) (by unfold Func.isWrapper; first | (rw [if_pos (by decide +kernel)]; kernel_rfl) | (rw [if_neg (by decide +kernel)]; exact ⟨rfl, rfl⟩))
    (fun os started H enc _ => lifted os started H enc)

theorem proved : Rows.TextWidesCardSaid :=
  Claim7.holds_tied_plain_at .later [] [.data, .data, .data, .data, .sentinel, .sentinel, .pinned] true (true, "bb16f1394694395d4f17575cea79c57fbf72037f18aea2c8264fac97b02e2ade") true
    row_holds (fun _ h => by cases h) (by kernel_rfl) (fun _ h => by cases h) textWides_row_tie rfl ⟨rfl, rfl⟩ (by kernel_rfl) rfl
    (fun f fn hf hfn => by
      obtain rfl : f = 3 := Option.some.inj ((show Tryz.prog.funcNamed "horologe/horologelaw04.TextWides" = some 3 by kernel_rfl).symm.trans hf) |>.symm
      obtain rfl : fn = Tryz.f3 := (Option.some.inj (Tryz.func3.symm.trans hfn)).symm
      exact ⟨by kernel_rfl, fun j t ht => by
        rw [Tryz.params3] at ht
        have hm : t ∈ [24, 9] := by simpa using Array.mem_of_getElem? ht
        have hall : ([24, 9].all fun u => !Tryz.prog.wantsStandIn u) = true := by kernel_rfl
        exact (show Tryz.prog.wantsStandIn t = false by simpa using List.all_eq_true.1 hall t hm)⟩)
    (by kernel_rfl)
#print axioms proved
end Go.Proofs.YtflgpkkbifkpoaaGreatDoor.textWides
