/- PROVED: 'horologelaw27.CrossOwn' returns true at whatever exchanges, whatever beginning, turn and gap, and leaves what was there as it was. -/
import Derived.Test.YtmnoegfehgoalaaDoorRows
import Derived.Test.YtmnoegfehgoalaaDoorCards
import Derived.Test.YtmnoegfehgoalaaDoorTie
import Derived.Test.YtmnoegfehgoalaaDoorCxL
import Derived.Test.YtmnoegfehgoalaaDoorDAud
import Derived.WalkKit
import Derived.ProofKit
import Derived.LaidMore
import Derived.OpenShut
import Derived.Stop.Joined
import Derived.SevenTiedAt
import Derived.Lay
import Derived.Deep.DeepLaidRun
namespace Go.Proofs.YtmnoegfehgoalaaDoor.crossOwn
open Go.ChangeShapes Go.WideShapes Go.ChangeAt Go.WideMaps Go.WideElems Go.RowKit
open Go.Proofs.YtmnoegfehgoalaaDoor.base (laidL laidR laidHd handle_of works_at amiss_calls find_line find_sample grave_sample)
open Go.Proofs.YtmnoegfehgoalaaDoor.cx (own_calls trip_kinds tripK AmissAt wLine wSample)
set_option linter.unusedVariables false

theorem works_in (W : World) (hL : laidMetH Tryd.prog laidL W) (w : World) (hb : Below W.heap.size W w) : Calls Tryd.prog 5 #[] w fun e w' => e = .returned (.bool true) ∧ Below w.heap.size w w' := by
  have h' : laidMet Tryd.prog laidR W ∧ handlesMet Tryd.prog laidHd W := hL
  obtain ⟨e, fz, h⟩ := handle_of h'.2
  have hlt : 0 < W.heap.size := (Array.getElem?_eq_some_iff.1 h).1
  exact works_at w e fz ((hb.block 0 hlt).trans h)

theorem amiss_in (W : World) (hL : laidMetH Tryd.prog laidL W) (w : World) (hb : Below W.heap.size W w) {g : Nat} {s : ByteArray} {a k : Int} (hg : w.heap[g]? = some (.cells #[.string s, .int .i64 a, .iface 91 (.int .i64 k)] 89)) (f : FuncId) (hf : Nat.ble Dg.Y f = false) (v : Value) (hv : Dg.flat v = true)
    (hrun : ∀ e, (Go.Proofs.YtmnoegfehgoalaaDoor.base.evD f [Go.Proofs.YtmnoegfehgoalaaDoor.base.pA] (Go.Proofs.YtmnoegfehgoalaaDoor.base.HA e (Go.Proofs.YtmnoegfehgoalaaDoor.base.aCells s a k))).map (·.1) = some v) : Calls Tryd.prog f #[.iface 85 (.pointer (some ⟨g, 0, none⟩))] w fun e w' => e = .returned v ∧ Below w.heap.size w w' := by
  have h' : laidMet Tryd.prog laidR W ∧ handlesMet Tryd.prog laidHd W := hL
  obtain ⟨e, fz, h⟩ := handle_of h'.2
  have hlt : 0 < W.heap.size := (Array.getElem?_eq_some_iff.1 h).1
  exact amiss_calls w e fz ((hb.block 0 hlt).trans h) g s a k hg f hf v hv (hrun e)
theorem find1_in (W : World) (hL : laidMetH Tryd.prog laidL W) (w : World) (hb : Below W.heap.size W w) (v : Value) (x : Nat) (hv : AmissAt w v wLine x 4) : Calls Tryd.prog 9 #[v] w fun e w' => e = .returned (.tuple #[.string wLine, .int .i64 (x : Nat), .bool true]) ∧ Below w.heap.size w w' := by
  obtain ⟨g, rfl, hg⟩ := hv
  exact amiss_in W hL w hb hg 9 rfl _ rfl fun e => find_line e _
theorem find2_in (W : World) (hL : laidMetH Tryd.prog laidL W) (w : World) (hb : Below W.heap.size W w) (v : Value) (x : Nat) (hv : AmissAt w v wSample x 6) : Calls Tryd.prog 9 #[v] w fun e w' => e = .returned (.tuple #[.string wSample, .int .i64 (x : Nat), .bool true]) ∧ Below w.heap.size w w' := by
  obtain ⟨g, rfl, hg⟩ := hv
  exact amiss_in W hL w hb hg 9 rfl _ rfl fun e => find_sample e _
theorem grave_in (W : World) (hL : laidMetH Tryd.prog laidL W) (w : World) (hb : Below W.heap.size W w) (v : Value) (x : Nat) (hv : AmissAt w v wSample x 6) : Calls Tryd.prog 10 #[v] w fun e w' => e = .returned (.bool false) ∧ Below w.heap.size w w' := by
  obtain ⟨g, rfl, hg⟩ := hv
  exact amiss_in W hL w hb hg 10 rfl _ rfl fun e => grave_sample e _
theorem wf_u32 {n : Int} (h : (Lit.int .u32 n).wf = true) : 0 ≤ n ∧ n < 4294967296 := by
  have h2 : (decide ((0 : Int) ≤ n) && decide (n ≤ 4294967295)) = true := h
  simp at h2
  omega
theorem wf_u8 {n : Int} (h : (Lit.int .u8 n).wf = true) : 0 ≤ n ∧ n < 256 := by
  have h2 : (decide ((0 : Int) ≤ n) && decide (n ≤ 255)) = true := h
  simp at h2
  omega

/-! ### The row. -/
theorem ownKnob_is : ownKnob Tryd.prog.godebug = none := by kernel_rfl
theorem laidOut : laidOutB Tryd.prog = true := by kernel_rfl
/-- The door's own heap meets the condition. -/
noncomputable def doorW (os : Os) : World := (World.doorLaid Tryd.prog 400 os).layVars Tryd.prog []
theorem door_met (os : Os) (args : Array Value) : laidMetH Tryd.prog laidL ((doorW os).forCall (fun _ _ => 0) ⟨#[], args, []⟩).memory :=
  laidMetH_of_parts (show laidMet Tryd.prog laidR _ from laidMet_of_run3 8 (by kernel_rfl) (by kernel_rfl) (by kernel_rfl)) (by kernel_rfl)
set_option maxRecDepth 100000 in
theorem lifted (os : Os) (started : os.Started) (H : Type) (enc : TypeId × Value → H) :
    ReturnsInHanded {} Tryd.checked os 4 .any (fun w args => (Rows.crossOwnSpec.pre enc Tryd.prog Tryd.f4 [] false w args ∧ laidMetH Tryd.prog laidL w) ∧ sizedMet enc Tryd.prog Tryd.f4 (OpenSpec.ofChange Rows.crossOwnSpec) false w args)
      (Rows.crossOwnSpec.post enc Tryd.prog Tryd.f4 false true false false) := by
  refine returnsInHanded_of_change_and (C := Tryd.checked) (X := fun w _ => laidMetH Tryd.prog laidL w) (fun _ _ _ hh h => h.of_heap hh) ownKnob_is started (by kernel_rfl) Tryd.func4
    (ChangeSpec.witness_shaped (enc := enc) (C := Tryd.checked) (os := os) (X := fun w _ => laidMetH Tryd.prog laidL w) false (doorW os) #[.slice none 0 0, .int .u32 0, .int .u8 0, .int .u8 0] 8 (World.layVars_os _ _ _) (World.shaped_of_RefB (by kernel_rfl) (by kernel_rfl)) (by kernel_rfl) (by kernel_rfl) (by kernel_rfl) (door_met os _)) ?_
  intro W base args ds gs before hval0 hW _ _ hL _
  have hval : ∀ (j : Nat) t v, Tryd.f4.params[j]? = some t → args[j]? = some v → Value.okWide Tryd.prog W .any base t v := hval0
  have hW' := hW
  obtain ⟨p, q, hA0, hV, rfl, hfz, hnd⟩ := hW
  have hA : DataW.TrodAll enc Tryd.prog W 0 (fun _ => true) true Tryd.f4.params.toList args.toList ds p := hA0
  rw [Tryd.params4] at hA hval
  obtain ⟨v0, vs0, d0, ds0, p0, q0, hargs, rfl, rfl, h0, t0⟩ := trodAll_cons hA
  obtain ⟨v1, vs1, d1, ds1, p1, q1, rfl, rfl, rfl, h1, t1⟩ := trodAll_cons t0
  obtain ⟨v2, vs2, d2, ds2, p2, q2, rfl, rfl, rfl, h2, t2⟩ := trodAll_cons t1
  obtain ⟨v3, vs3, d3, ds3, p3, q3, rfl, rfl, rfl, h3, t3⟩ := trodAll_cons t2
  obtain ⟨rfl, rfl, rfl⟩ := trodAll_nil t3
  obtain rfl : args = #[v0, v1, v2, v3] := by cases args; simp_all
  obtain ⟨rfl, rfl⟩ := trodVars_none hV
  have lt : ∀ {t v d p}, DataW.Trod enc Tryd.prog W 0 (fun _ => true) true t v d p → ∀ x ∈ p, x.block < W.heap.size := by intro t v d p hk; obtain ⟨m, hm⟩ := hk; exact DataW.trod_lt m _ _ _ hm
  obtain ⟨ls, hlr, hlo⟩ := Go.Cx.rows_arg (n := 5) Tryd.underlying33 (by kernel_rfl) trip_kinds (hval 0 33 v0 rfl rfl) h0
  obtain ⟨b, rfl, rfl, rfl, wb⟩ := open_int Tryd.underlying34 (hval 1 34 v1 rfl rfl) h1
  obtain ⟨x, rfl, rfl, rfl, wx⟩ := open_int Tryd.underlying5 (hval 2 5 v2 rfl rfl) h2
  obtain ⟨y, rfl, rfl, rfl, wy⟩ := open_int Tryd.underlying5 (hval 3 5 v3 rfl rfl) h3
  have hcall := own_calls W v0 ls b x y (wf_u32 wb) (wf_u8 wx) (wf_u8 wy) hlo hlr (works_in W hL) (find1_in W hL) (find2_in W hL) (grave_in W hL)
  clear hA0 hval0
  simp only [List.append_nil] at hW'
  refine hcall.mono fun e W' ⟨he, bel⟩ => ?_
  subst he
  exact ⟨_, rfl, _, _, _, [], _, [], hW', trodAll_mk1 (shut_bool Tryd.underlying4 _), trodAll_cons_mk (Below.trod laidOut (by kernel_rfl) (of_decide_eq_true (by kernel_rfl)) h0 bel (lt h0)) (trodAll_cons_mk (shut_int Tryd.underlying34 wb) (trodAll_cons_mk (shut_int Tryd.underlying5 wx) (trodAll_cons_mk (shut_int Tryd.underlying5 wy) trodAll_mk0))), rfl, bel.frame _, fun h => by cases h⟩

theorem row_holds : Rows.CrossOwnSaid :=
  OpenClaim.holds_of_wide 4 Tryd.f4 rfl rfl rfl rfl rfl rfl rfl ⟨rfl, rfl, rfl, rfl, rfl⟩ rfl rfl rfl rfl rfl (by kernel_rfl) Tryd.func4 (by kernel_rfl)
    (of_decide_eq_true (by kernel_rfl)) (by unfold Func.isWrapper; first | (rw [if_pos (by decide +kernel)]; kernel_rfl) | (rw [if_neg (by decide +kernel)]; exact ⟨rfl, rfl⟩))
    (fun os started H enc _ => lifted os started H enc)

theorem proved : Rows.CrossOwnCardSaid :=
  Claim7.holds_tied_plain_at .later [] [.handle] true (true, "f3d731caa171e71b6b0e1db49c8e57cba7cc102875d963978fcce35973a761b8") true
    row_holds (fun _ h => by cases h) (by kernel_rfl) (fun _ h => by cases h) crossOwn_row_tie rfl ⟨rfl, rfl⟩ (by kernel_rfl) rfl
    (fun f fn hf hfn => by
      obtain rfl : f = 4 := Option.some.inj ((show Tryd.prog.funcNamed "horologe/horologelaw27.CrossOwn" = some 4 by kernel_rfl).symm.trans hf) |>.symm
      obtain rfl : fn = Tryd.f4 := (Option.some.inj (Tryd.func4.symm.trans hfn)).symm
      exact ⟨by kernel_rfl, fun j t ht => by
        rw [Tryd.params4] at ht
        have hm : t ∈ [33, 34, 5, 5] := by simpa using Array.mem_of_getElem? ht
        have hall : ([33, 34, 5, 5].all fun u => !Tryd.prog.wantsStandIn u) = true := by kernel_rfl
        exact (show Tryd.prog.wantsStandIn t = false by simpa using List.all_eq_true.1 hall t hm)⟩)
    (by kernel_rfl)
#print axioms proved
end Go.Proofs.YtmnoegfehgoalaaDoor.crossOwn
