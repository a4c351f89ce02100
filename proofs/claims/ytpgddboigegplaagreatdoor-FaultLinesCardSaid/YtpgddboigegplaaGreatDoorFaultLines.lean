/- PROVED: 'horologelaw06.FaultLines' returns true at whatever text, kind, place and words, and leaves what was there as it was. -/
import Derived.Test.YtpgddboigegplaaGreatDoorRows
import Derived.Test.YtpgddboigegplaaGreatDoorCards
import Derived.Test.YtpgddboigegplaaGreatDoorTie
import Derived.Test.YtpgddboigegplaaGreatDoorFgC
import Derived.Test.YtpgddboigegplaaGreatDoorFM
import Derived.Test.YtpgddboigegplaaGreatDoorDgStrs
import Derived.Shelf.Vars
import Derived.WalkKit
import Derived.ProofKit
import Derived.LaidMore
import Derived.OpenShut
import Derived.Stop.Joined
import Derived.SevenTiedAt
import Derived.Lay
namespace Go.Proofs.YtpgddboigegplaaGreatDoor.faultLines
open Go.ChangeShapes Go.WideShapes Go.ChangeAt Go.WideMaps Go.WideElems Go.RowKit
open Go.Dg (Ev Hint evCall bodied noOver Heap AObj embOf heapOf)
open Go.Proofs.YtpgddboigegplaaGreatDoor.base (H0 L0 laidL laidR laidHd of_laid handle_of mixed okB sbs ovY ovY_ok known1 Tab tab_of TabOk InR rt row_any Words Base Pre glob_cell)
set_option linter.unusedVariables false

theorem emb_le {L : List (Nat × Nat × AObj)} (x : Nat × Nat × AObj) : Dg.Emb.le (embOf L) (embOf (L ++ [x])) := by
  intro k y h
  unfold embOf at h ⊢
  cases hk : L[k]? with
  | none => rw [hk] at h; cases h
  | some z =>
    rw [hk] at h
    have hl : k < L.length := by
      rcases Nat.lt_or_ge k L.length with h0 | h0
      · exact h0
      · rw [List.getElem?_eq_none h0] at hk; cases hk
    rw [List.getElem?_append_left hl, hk]
    exact h
theorem heap_is (E : Nat → TypeId) (u3 u4 : TypeId) (k3 o3 k4 o4 b off : Nat) (x : AObj) : heapOf (L0 E u3 u4 k3 o3 k4 o4 ++ [(b, off, x)]) = H0 E u3 u4 [x] := rfl
set_option maxRecDepth 100000 in
/-- The document's examples. -/
theorem known_at (W : World) (hL : laidMetH Tryz.prog laidL W) : Calls Tryz.prog 7 #[] W fun e W' => e = .returned (.bool true) ∧ Below W.heap.size W W' := by
  obtain ⟨E, u3, u4, k3, o3, k4, o4, hG, hO⟩ := of_laid hL
  have hle := emb_le (L := L0 E u3 u4 k3 o3 k4 o4) (0, 0, .dead)
  refine Dg.open_callG (args := []) (args' := []) mixed okB ovY_ok (L0 E u3 u4 k3 o3 k4 o4 ++ [(0, 0, .dead)]) (hG.mono hle) ?_ Dg.LRel.nil (by rw [heap_is]; exact congrArg (Option.map (·.1)) (known1 0 E u3 u4 .dead)) rfl rfl
  intro y hy
  rcases List.mem_append.1 hy with hy | hy
  · exact ⟨(hO y hy).1, fun N => ((hO y hy).2 N).mono hle⟩
  · rw [List.mem_singleton] at hy
    subst hy
    exact ⟨rfl, fun _ => trivial⟩
theorem tab_at (W : World) (hL : laidMetH Tryz.prog laidL W) : Tab W := by
  obtain ⟨E, u3, u4, k3, o3, k4, o4, hG, hO⟩ := of_laid hL
  exact tab_of hG (Dg.hrel_listG _ hO) ⟨_, rfl⟩
theorem type_at (W : World) (hL : laidMetH Tryz.prog laidL W) : W.cell? ⟨0, 0, none⟩ = some (rt 27) := by
  have h' : laidMet Tryz.prog laidR W ∧ handlesMet Tryz.prog laidHd W := hL
  obtain ⟨e, fz, h⟩ := handle_of h'.2
  unfold World.cell?
  simp only [h]
  rfl
theorem err_at (W : World) (hL : laidMetH Tryz.prog laidL W) : (∃ t p, W.cell? ⟨3, 0, none⟩ = some (.iface t p)) ∧ ∃ t p, W.cell? ⟨4, 0, none⟩ = some (.iface t p) := by
  obtain ⟨E, u3, u4, k3, o3, k4, o4, hG, hO⟩ := of_laid hL
  have hr := Dg.hrel_listG _ hO
  constructor
  · obtain ⟨v', h1, h2⟩ := glob_cell hG hr (g := 3) (by decide) (cs := [.iface u3 (.pointer (some ⟨15, 0, none⟩))]) (i := 0) (v := .iface u3 (.pointer (some ⟨15, 0, none⟩))) rfl rfl
    cases h2 with
    | atom h => cases h
    | iface h => exact ⟨_, _, h1⟩
  · obtain ⟨v', h1, h2⟩ := glob_cell hG hr (g := 4) (by decide) (cs := [.iface u4 (.pointer (some ⟨16, 0, none⟩))]) (i := 0) (v := .iface u4 (.pointer (some ⟨16, 0, none⟩))) rfl rfl
    cases h2 with
    | atom h => cases h
    | iface h => exact ⟨_, _, h1⟩
theorem max_at (W : World) (h : W.ShapedOpen Tryz.prog) : ∃ m, W.cell? ⟨1, 0, none⟩ = some (.int .i64 m) :=
  Go.Proofs.cell_of_shapedOpen_int (t := 3) (zero := #[.int .i64 0]) h (of_decide_eq_true (by kernel_rfl)) (by kernel_rfl) rfl (by kernel_rfl) (by kernel_rfl) Tryz.underlying3
theorem base_at (W : World) (hL : laidMetH Tryz.prog laidL W) (h : W.ShapedOpen Tryz.prog) : Base W := ⟨⟨tab_at W hL, max_at W h, err_at W hL⟩, type_at W hL⟩
/-- A slice of texts, opened. -/
theorem words_of {W : World} {v : Value} (h : v = .slice none 0 0 ∨ ∃ (b off len cap : Nat) (zs : List ByteArray) (e' : TypeId), v = .slice (some ⟨b, off, none⟩) len cap ∧ len ≤ cap ∧ cap ≤ maxLen ∧ zs.length = cap ∧ (∀ n ∈ zs, n.size ≤ maxLen) ∧
      ∀ M N, Dg.ObjRel M N W (.cells (zs.map Value.string) e' 6 1) b off 0) : ∃ ws, Words W v ws ∧ ws.length ≤ 9223372036854775807 ∧ ∀ w ∈ ws, w.size ≤ 9223372036854775807 := by
  have hmax : maxLen ≤ 9223372036854775807 := by decide
  rcases h with rfl | ⟨b, off, len, cap, zs, e', rfl, hl, hm, hz, hwf, ho⟩
  · exact ⟨[], .inl ⟨rfl, rfl⟩, by simp, fun w h => by cases h⟩
  · have hlen : (zs.take len).length = len := by rw [List.length_take]; omega
    refine ⟨zs.take len, .inr ⟨b, off, cap, by rw [hlen], fun i hi => ?_⟩, by rw [hlen]; omega, fun w hw => by have := hwf w (List.mem_of_mem_take hw); omega⟩
    obtain ⟨C, fz, h3, _, h4, _⟩ := ho (fun _ => none) 0
    have hi' : i < zs.length := by omega
    obtain ⟨v', h5, h6⟩ := h4 i (.string zs[i]) (by rw [List.getElem?_map, List.getElem?_eq_getElem hi']; rfl)
    have e : (zs.take len)[i] = zs[i] := List.getElem_take
    rw [e]
    unfold World.cell?
    simp only [h3]
    rw [h5, h6.eq_of_flat rfl]
    rfl
/-- 'returnsInHanded_of_change_and', the world's shape kept, too. -/
theorem handed_and_shaped {H : Type} {enc : TypeId × Value → H} {a : Assume} {C : Checked} {os : Os} {f : FuncId} {fn : Func} {s : ChangeSpec} {conds : List PathCond} {apart fresh handsOn again : Bool} {X : World → Array Value → Prop}
    (hX : ∀ (w w' : World) (args : Array Value), w.heap = w'.heap → X w args → X w' args)
    (own : ownKnob C.prog.godebug = none) (started : os.Started) (noInit : C.prog.inits.idxOf? f = none) (hfn : C.prog.funcs[f]? = some fn)
    (witness : ∃ (w : World) (tape : Tape) (i : Input), w.os = os ∧ (w.forCall tape i).Shaped C.prog ∧ i.vars = [] ∧ Input.okWide C.prog (w.forCall tape i) .any w.heap.size f i ∧
      ((s.pre enc C.prog fn conds apart (w.forCall tape i).memory i.args ∧ X (w.forCall tape i).memory i.args) ∧ sizedMet enc C.prog fn (OpenSpec.ofChange s) apart (w.forCall tape i).memory i.args) ∧ a.holds C.prog (lone (Frame.enter C.prog f i.args .normal) [] (w.forCall tape i)))
    (contract : ∀ (W : World) (base : Nat) (args : Array Value) (ds gs : List (DataW H)) (before : List MemPlace),
      (∀ (j : Nat) t v, fn.params[j]? = some t → args[j]? = some v → Value.okWide C.prog W .any base t v) →
      DataW.Whole enc C.prog fn.params.toList s.vars apart W args.toList ds gs before →
      X W args → W.ShapedOpen C.prog →
      Calls C.prog f args W fun e W' => ∃ v, e = .returned v ∧ s.post enc C.prog fn apart fresh handsOn again W args v W') :
    ReturnsInHanded a C os f .any (fun w args => (s.pre enc C.prog fn conds apart w args ∧ X w args) ∧ sizedMet enc C.prog fn (OpenSpec.ofChange s) apart w args) (s.post enc C.prog fn apart fresh handsOn again) := by
  refine returnsInHanded_of_calls own started noInit witness ?_
  intro w tape i _ hsh _ hok hpre hholds
  obtain ⟨_, _, _, fn', hfn', _, _, _, _, hval⟩ := hok
  have e : fn' = fn := Option.some.inj (hfn'.symm.trans hfn)
  subst e
  obtain ⟨⟨⟨ds, gs, before, hw, hc⟩, hx⟩, hz⟩ := hpre
  have hw' := DataW.Whole.of_heap (w' := w.forCall tape i) (by rfl) hw
  refine (contract (w.forCall tape i) w.heap.size i.args ds gs before hval hw' (hX _ _ _ (by rfl) hx) hsh).mono fun e W' ⟨v, he, hp⟩ => ?_
  subst he
  exact ChangeSpec.post_blind hp

/-! ### The row. -/
theorem ownKnob_is : ownKnob Tryz.prog.godebug = none := by kernel_rfl
theorem laidOut : laidOutB Tryz.prog = true := by kernel_rfl
/-- The door's own heap meets the condition: three closed facts. -/
noncomputable def doorW (os : Os) : World := (World.doorLaid Tryz.prog 400 os).layVars Tryz.prog [("unicode/utf8.first", Rows.laid_unicode_utf8_first)]
theorem great_is : (laidR.filter fun x => ["unicode/utf8.first"].contains x.1) = [("unicode/utf8.first", Rows.laid_unicode_utf8_first)] := by kernel_rfl
theorem door_met (os : Os) (args : Array Value) : laidMetH Tryz.prog laidL ((doorW os).forCall (fun _ _ => 0) ⟨#[], args, []⟩).memory :=
  laidMetH_of_parts (show laidMet Tryz.prog laidR _ from laidMet_layVars (w0 := World.doorLaid Tryz.prog 400 os) ["unicode/utf8.first"] [2, 3, 4, 6, 7, 8, 14, 15, 16, 17, 18, 19, 20] (by rw [great_is]; simp [World.memory, World.forCall, Input.heap]; rfl) (by kernel_rfl) (by kernel_rfl) (LaidIn.of_run _ 8 (by kernel_rfl) (by kernel_rfl) (by kernel_rfl) (by kernel_rfl))) (by kernel_rfl)
set_option maxRecDepth 100000 in
theorem lifted (os : Os) (started : os.Started) (H : Type) (enc : TypeId × Value → H) :
    ReturnsInHanded {} Tryz.checked os 5 .any (fun w args => (Rows.faultLinesSpec.pre enc Tryz.prog Tryz.f5 [] false w args ∧ laidMetH Tryz.prog laidL w) ∧ sizedMet enc Tryz.prog Tryz.f5 (OpenSpec.ofChange Rows.faultLinesSpec) false w args)
      (Rows.faultLinesSpec.post enc Tryz.prog Tryz.f5 false true false false) := by
  refine handed_and_shaped (C := Tryz.checked) (X := fun w _ => laidMetH Tryz.prog laidL w) (fun _ _ _ hh h => h.of_heap hh) ownKnob_is started (by kernel_rfl) Tryz.func5
    (ChangeSpec.witness_shaped (enc := enc) (C := Tryz.checked) (os := os) (X := fun w _ => laidMetH Tryz.prog laidL w) false (doorW os) #[.string ⟨#[]⟩, .int .i64 0, .int .i64 0, .slice none 0 0] 8 (World.layVars_os _ _ _) (World.shaped_of_RefB (by kernel_rfl) (by kernel_rfl)) (by kernel_rfl) (by kernel_rfl) (by kernel_rfl) (door_met os _)) ?_
  intro W base args ds gs before hval0 hW hL hSh
  have hval : ∀ (j : Nat) t v, Tryz.f5.params[j]? = some t → args[j]? = some v → Value.okWide Tryz.prog W .any base t v := hval0
  have hW' := hW
  obtain ⟨p, q, hA0, hV, rfl, hfz, hnd⟩ := hW
  have hA : DataW.TrodAll enc Tryz.prog W 0 (fun _ => true) true Tryz.f5.params.toList args.toList ds p := hA0
  rw [Tryz.params5] at hA hval
  obtain ⟨v0, vs0, d0, ds0, p0, q0, hargs, rfl, rfl, h0, t0⟩ := trodAll_cons hA
  obtain ⟨v1, vs1, d1, ds1, p1, q1, rfl, rfl, rfl, h1, t1⟩ := trodAll_cons t0
  obtain ⟨v2, vs2, d2, ds2, p2, q2, rfl, rfl, rfl, h2, t2⟩ := trodAll_cons t1
  obtain ⟨v3, vs3, d3, ds3, p3, q3, rfl, rfl, rfl, h3, t3⟩ := trodAll_cons t2
  obtain ⟨rfl, rfl, rfl⟩ := trodAll_nil t3
  obtain rfl : args = #[v0, v1, v2, v3] := by cases args; simp_all
  obtain ⟨rfl, rfl⟩ := trodVars_none hV
  obtain ⟨s, rfl, rfl, rfl, ws⟩ := Go.ChangeMaps.open_string Tryz.underlying9 (hval 0 9 v0 rfl rfl) h0
  obtain ⟨m, rfl, rfl, rfl, wm⟩ := open_int Tryz.underlying23 (hval 1 23 v1 rfl rfl) h1
  obtain ⟨o, rfl, rfl, rfl, wo⟩ := open_int Tryz.underlying2 (hval 2 2 v2 rfl rfl) h2
  have lt : ∀ {t v d p}, DataW.Trod enc Tryz.prog W 0 (fun _ => true) true t v d p → ∀ x ∈ p, x.block < W.heap.size := by intro t v d p hk; obtain ⟨m, hm⟩ := hk; exact DataW.trod_lt m _ _ _ hm
  obtain ⟨wds, hw1, hw2, hw3⟩ := words_of (Dg.strs_arg Tryz.underlying22 Tryz.underlying9 (by kernel_rfl) (hval 3 22 v3 rfl rfl) h3)
  have hcall := row_any W s m o ⟨(Dg.wf_i64 wm).1, by have := (Dg.wf_i64 wm).2; omega⟩ ⟨(Dg.wf_i64 wo).1, by have := (Dg.wf_i64 wo).2; omega⟩ v3 wds hw1 hw2 hw3 (base_at W hL hSh) (known_at W hL)
  clear hA0 hval0
  simp only [List.append_nil] at hW'
  refine hcall.mono fun e W' ⟨he, bel⟩ => ?_
  subst he
  exact ⟨_, rfl, _, _, _, [], _, [], hW', trodAll_mk1 (shut_bool Tryz.underlying4 _), trodAll_cons_mk (Go.ChangeMaps.shut_string Tryz.underlying9 ws) (trodAll_cons_mk (shut_int Tryz.underlying23 wm) (trodAll_cons_mk (shut_int Tryz.underlying2 wo) (trodAll_cons_mk (Below.trod laidOut (by kernel_rfl) (of_decide_eq_true (by kernel_rfl)) h3 bel (lt h3)) trodAll_mk0))), rfl, bel.frame _, fun h => by cases h⟩

theorem row_holds : Rows.FaultLinesSaid :=
  OpenClaim.holds_of_wide 5 Tryz.f5 rfl rfl rfl rfl rfl rfl rfl ⟨rfl, rfl, rfl, rfl, rfl⟩ rfl rfl rfl rfl rfl (by kernel_rfl) Tryz.func5 (by kernel_rfl)
    (of_decide_eq_true (by kernel_rfl)) (by unfold Func.isWrapper; first | (rw [if_pos (by decide +kernel)]; kernel_rfl) | (rw [if_neg (by decide +kernel)]; exact ⟨rfl, rfl⟩))
    (fun os started H enc _ => lifted os started H enc)

theorem proved : Rows.FaultLinesCardSaid :=
  Claim7.holds_tied_plain_at .later [] [.data, .data, .data, .data, .handle, .sentinel, .sentinel, .pinned] true (true, "01ad69f4bbf7779030191893c4a0834fbfffac4e3ae88199d44a9e11e66db187") true
    row_holds (fun _ h => by cases h) (by kernel_rfl) (fun _ h => by cases h) faultLines_row_tie rfl ⟨rfl, rfl⟩ (by kernel_rfl) rfl
    (fun f fn hf hfn => by
      obtain rfl : f = 5 := Option.some.inj ((show Tryz.prog.funcNamed "horologe/horologelaw06.FaultLines" = some 5 by kernel_rfl).symm.trans hf) |>.symm
      obtain rfl : fn = Tryz.f5 := (Option.some.inj (Tryz.func5.symm.trans hfn)).symm
      exact ⟨by kernel_rfl, fun j t ht => by
        rw [Tryz.params5] at ht
        have hm : t ∈ [9, 23, 2, 22] := by simpa using Array.mem_of_getElem? ht
        have hall : ([9, 23, 2, 22].all fun u => !Tryz.prog.wantsStandIn u) = true := by kernel_rfl
        exact (show Tryz.prog.wantsStandIn t = false by simpa using List.all_eq_true.1 hall t hm)⟩)
    (by kernel_rfl)
#print axioms proved
end Go.Proofs.YtpgddboigegplaaGreatDoor.faultLines
