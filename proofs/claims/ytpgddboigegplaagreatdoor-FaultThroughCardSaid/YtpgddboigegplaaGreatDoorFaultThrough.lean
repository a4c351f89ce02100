/- PROVED: 'horologelaw06.FaultThrough' returns true at whatever kind, place and steps, and leaves what was there as it was. -/
import Derived.Test.YtpgddboigegplaaGreatDoorRows
import Derived.Test.YtpgddboigegplaaGreatDoorCards
import Derived.Test.YtpgddboigegplaaGreatDoorTie
import Derived.Test.YtpgddboigegplaaGreatDoorFcRow
import Derived.Test.YtpgddboigegplaaGreatDoorFM
import Derived.WalkKit
import Derived.ProofKit
import Derived.LaidMore
import Derived.OpenShut
import Derived.Stop.Joined
import Derived.SevenTiedAt
import Derived.Lay
namespace Go.Proofs.YtpgddboigegplaaGreatDoor.faultThrough
open Go.ChangeShapes Go.WideShapes Go.ChangeAt Go.WideMaps Go.WideElems Go.RowKit
open Go.Dg (Ev Hint evCall bodied noOver Heap AObj embOf heapOf)
open Go.Proofs.YtpgddboigegplaaGreatDoor.base (H0 L0 laidL laidR laidHd of_laid handle_of mixed okB sbs ovY ovY_ok known1 Tab tab_of TabOk InR rt row_some row_nil row_zero row_long)
set_option linter.unusedVariables false

theorem emb_le {L : List (Nat × Nat × AObj)} (x : Nat × Nat × AObj) : Dg.Emb.le (embOf L) (embOf (L ++ [x])) := by
  intro k y h
  unfold embOf at h ⊢
  cases hk : L[k]? with
  | none => rw [hk] at h; cases h
  | some z =>
    rw [hk] at h
    have hl : k < L.length := by
      rcases Nat.lt_or_ge k L.length with h0 | h0
      · exact h0
      · rw [List.getElem?_eq_none h0] at hk; cases hk
    rw [List.getElem?_append_left hl, hk]
    exact h
theorem heap_is (E : Nat → TypeId) (u3 u4 : TypeId) (k3 o3 k4 o4 b off : Nat) (x : AObj) : heapOf (L0 E u3 u4 k3 o3 k4 o4 ++ [(b, off, x)]) = H0 E u3 u4 [x] := rfl
set_option maxRecDepth 100000 in
/-- The document's examples. -/
theorem known_at (W : World) (hL : laidMetH Tryz.prog laidL W) : Calls Tryz.prog 7 #[] W fun e W' => e = .returned (.bool true) ∧ Below W.heap.size W W' := by
  obtain ⟨E, u3, u4, k3, o3, k4, o4, hG, hO⟩ := of_laid hL
  have hle := emb_le (L := L0 E u3 u4 k3 o3 k4 o4) (0, 0, .dead)
  refine Dg.open_callG (args := []) (args' := []) mixed okB ovY_ok (L0 E u3 u4 k3 o3 k4 o4 ++ [(0, 0, .dead)]) (hG.mono hle) ?_ Dg.LRel.nil (by rw [heap_is]; exact congrArg (Option.map (·.1)) (known1 0 E u3 u4 .dead)) rfl rfl
  intro y hy
  rcases List.mem_append.1 hy with hy | hy
  · exact ⟨(hO y hy).1, fun N => ((hO y hy).2 N).mono hle⟩
  · rw [List.mem_singleton] at hy
    subst hy
    exact ⟨rfl, fun _ => trivial⟩
theorem tab_at (W : World) (hL : laidMetH Tryz.prog laidL W) : Tab W := by
  obtain ⟨E, u3, u4, k3, o3, k4, o4, hG, hO⟩ := of_laid hL
  exact tab_of hG (Dg.hrel_listG _ hO) ⟨_, rfl⟩
theorem type_at (W : World) (hL : laidMetH Tryz.prog laidL W) : W.cell? ⟨0, 0, none⟩ = some (rt 27) := by
  have h' : laidMet Tryz.prog laidR W ∧ handlesMet Tryz.prog laidHd W := hL
  obtain ⟨e, fz, h⟩ := handle_of h'.2
  unfold World.cell?
  simp only [h]
  rfl
set_option maxRecDepth 100000 in
theorem walk (W : World) (hL : laidMetH Tryz.prog laidL W) (k o : Int) (hk : InR k) (ho : InR o) (sv : Value)
    (hs : sv = .slice none 0 0 ∨ ∃ (b off len cap : Nat) (zs : List Int) (e' : TypeId), sv = .slice (some ⟨b, off, none⟩) len cap ∧ len ≤ cap ∧ zs.length = cap ∧ (∀ n ∈ zs, (Lit.int .u8 n).wf = true) ∧ (∀ M N, Dg.ObjRel M N W (.cells (zs.map (Value.int .u8 ·)) e' 6 1) b off 0)) :
    Calls Tryz.prog 6 #[.int .i64 k, .int .i64 o, sv] W fun e W' => e = .returned (.bool true) ∧ Below W.heap.size W W' := by
  have hK := known_at W hL
  by_cases hk0 : k = 0
  · subst hk0
    exact row_zero W o sv hK
  have hkb : (k == 0) = false := by simpa using hk0
  rcases hs with rfl | ⟨b, off, len, cap, zs, e', rfl, hl, hz, hwf, hO⟩
  · exact row_nil W k o hkb hK
  by_cases hlen : len ≤ 20
  · refine row_some W k o hk ho hkb hK (type_at W hL) (tab_at W hL) b off len cap hlen (zs.map Int.toNat) (fun i hi => ?_) (fun z hz => ?_)
    · obtain ⟨C, fz, h3, _, h4, _⟩ := hO (fun _ => none) 0
      have hi' : i < zs.length := by omega
      obtain ⟨v', h5, h6⟩ := h4 i (.int .u8 zs[i]) (by simp [hi'])
      have hw := Dg.wf_u8 (hwf _ (List.getElem_mem hi'))
      have e : (zs.map Int.toNat).getD i 0 = zs[i].toNat := by simp [List.getD_eq_getElem?_getD, hi']
      have e2 : ((zs[i].toNat : Nat) : Int) = zs[i] := by omega
      rw [e, e2]
      unfold World.cell?
      simp only [h3]
      rw [h5, h6.eq_of_flat rfl]
      rfl
    · obtain ⟨n, hn, rfl⟩ := List.mem_map.1 hz
      have hw := Dg.wf_u8 (hwf _ hn)
      omega
  · exact row_long W k o hkb _ len cap (by omega) hK

/-! ### The row. -/
theorem ownKnob_is : ownKnob Tryz.prog.godebug = none := by kernel_rfl
theorem laidOut : laidOutB Tryz.prog = true := by kernel_rfl
/-- The door's own heap meets the condition: three closed facts. -/
noncomputable def doorW (os : Os) : World := (World.doorLaid Tryz.prog 400 os).layVars Tryz.prog [("unicode/utf8.first", Rows.laid_unicode_utf8_first)]
theorem great_is : (laidR.filter fun x => ["unicode/utf8.first"].contains x.1) = [("unicode/utf8.first", Rows.laid_unicode_utf8_first)] := by kernel_rfl
theorem door_met (os : Os) (args : Array Value) : laidMetH Tryz.prog laidL ((doorW os).forCall (fun _ _ => 0) ⟨#[], args, []⟩).memory :=
  laidMetH_of_parts (show laidMet Tryz.prog laidR _ from laidMet_layVars (w0 := World.doorLaid Tryz.prog 400 os) ["unicode/utf8.first"] [2, 3, 4, 6, 7, 8, 14, 15, 16, 17, 18, 19, 20] (by rw [great_is]; simp [World.memory, World.forCall, Input.heap]; rfl) (by kernel_rfl) (by kernel_rfl) (LaidIn.of_run _ 8 (by kernel_rfl) (by kernel_rfl) (by kernel_rfl) (by kernel_rfl))) (by kernel_rfl)
set_option maxRecDepth 100000 in
theorem lifted (os : Os) (started : os.Started) (H : Type) (enc : TypeId × Value → H) :
    ReturnsInHanded {} Tryz.checked os 6 .any (fun w args => (Rows.faultThroughSpec.pre enc Tryz.prog Tryz.f6 [] false w args ∧ laidMetH Tryz.prog laidL w) ∧ sizedMet enc Tryz.prog Tryz.f6 (OpenSpec.ofChange Rows.faultThroughSpec) false w args)
      (Rows.faultThroughSpec.post enc Tryz.prog Tryz.f6 false true false false) := by
  refine returnsInHanded_of_change_and (C := Tryz.checked) (X := fun w _ => laidMetH Tryz.prog laidL w) (fun _ _ _ hh h => h.of_heap hh) ownKnob_is started (by kernel_rfl) Tryz.func6
    (ChangeSpec.witness_shaped (enc := enc) (C := Tryz.checked) (os := os) (X := fun w _ => laidMetH Tryz.prog laidL w) false (doorW os) #[.int .i64 0, .int .i64 0, .slice none 0 0] 8 (World.layVars_os _ _ _) (World.shaped_of_RefB (by kernel_rfl) (by kernel_rfl)) (by kernel_rfl) (by kernel_rfl) (by kernel_rfl) (door_met os _)) ?_
  intro W base args ds gs before hval0 hW _ _ hL _
  have hval : ∀ (j : Nat) t v, Tryz.f6.params[j]? = some t → args[j]? = some v → Value.okWide Tryz.prog W .any base t v := hval0
  have hW' := hW
  obtain ⟨p, q, hA0, hV, rfl, hfz, hnd⟩ := hW
  have hA : DataW.TrodAll enc Tryz.prog W 0 (fun _ => true) true Tryz.f6.params.toList args.toList ds p := hA0
  rw [Tryz.params6] at hA hval
  obtain ⟨v0, vs0, d0, ds0, p0, q0, hargs, rfl, rfl, h0, t0⟩ := trodAll_cons hA
  obtain ⟨v1, vs1, d1, ds1, p1, q1, rfl, rfl, rfl, h1, t1⟩ := trodAll_cons t0
  obtain ⟨v2, vs2, d2, ds2, p2, q2, rfl, rfl, rfl, h2, t2⟩ := trodAll_cons t1
  obtain ⟨rfl, rfl, rfl⟩ := trodAll_nil t2
  obtain rfl : args = #[v0, v1, v2] := by cases args; simp_all
  obtain ⟨rfl, rfl⟩ := trodVars_none hV
  obtain ⟨m, rfl, rfl, rfl, wm⟩ := open_int Tryz.underlying23 (hval 0 23 v0 rfl rfl) h0
  obtain ⟨o, rfl, rfl, rfl, wo⟩ := open_int Tryz.underlying2 (hval 1 2 v1 rfl rfl) h1
  have lt : ∀ {t v d p}, DataW.Trod enc Tryz.prog W 0 (fun _ => true) true t v d p → ∀ x ∈ p, x.block < W.heap.size := by intro t v d p hk; obtain ⟨m, hm⟩ := hk; exact DataW.trod_lt m _ _ _ hm
  have hs := Dg.ints_arg Tryz.underlying53 Tryz.underlying5 (by kernel_rfl) (hval 2 53 v2 rfl rfl) h2
  have hcall := walk W hL m o ⟨(Dg.wf_i64 wm).1, by have := (Dg.wf_i64 wm).2; omega⟩ ⟨(Dg.wf_i64 wo).1, by have := (Dg.wf_i64 wo).2; omega⟩ v2 (by
    rcases hs with rfl | ⟨b, off, len, cap, zs, e', rfl, hl, hm, hz, hwz, ho⟩
    · exact .inl rfl
    · exact .inr ⟨b, off, len, cap, zs, e', rfl, hl, hz, hwz, ho⟩)
  clear hA0 hval0
  simp only [List.append_nil] at hW'
  refine hcall.mono fun e W' ⟨he, bel⟩ => ?_
  subst he
  exact ⟨_, rfl, _, _, _, [], _, [], hW', trodAll_mk1 (shut_bool Tryz.underlying4 _), trodAll_cons_mk (shut_int Tryz.underlying23 wm) (trodAll_cons_mk (shut_int Tryz.underlying2 wo) (trodAll_cons_mk (Below.trod laidOut (by kernel_rfl) (of_decide_eq_true (by kernel_rfl)) h2 bel (lt h2)) trodAll_mk0)), rfl, bel.frame _, fun h => by cases h⟩

theorem row_holds : Rows.FaultThroughSaid :=
  OpenClaim.holds_of_wide 6 Tryz.f6 rfl rfl rfl rfl rfl rfl rfl ⟨rfl, rfl, rfl, rfl, rfl⟩ rfl rfl rfl rfl rfl (by kernel_rfl) Tryz.func6 (by kernel_rfl)
    (of_decide_eq_true (by kernel_rfl)) (by unfold Func.isWrapper; first | (rw [if_pos (by decide +kernel)]; kernel_rfl) | (rw [if_neg (by decide +kernel)]; exact ⟨rfl, rfl⟩))
    (fun os started H enc _ => lifted os started H enc)

theorem proved : Rows.FaultThroughCardSaid :=
  Claim7.holds_tied_plain_at .later [] [.data, .data, .data, .data, .handle, .sentinel, .sentinel, .pinned] true (true, "01ad69f4bbf7779030191893c4a0834fbfffac4e3ae88199d44a9e11e66db187") true
    row_holds (fun _ h => by cases h) (by kernel_rfl) (fun _ h => by cases h) faultThrough_row_tie rfl ⟨rfl, rfl⟩ (by kernel_rfl) rfl
    (fun f fn hf hfn => by
      obtain rfl : f = 6 := Option.some.inj ((show Tryz.prog.funcNamed "horologe/horologelaw06.FaultThrough" = some 6 by kernel_rfl).symm.trans hf) |>.symm
      obtain rfl : fn = Tryz.f6 := (Option.some.inj (Tryz.func6.symm.trans hfn)).symm
      exact ⟨by kernel_rfl, fun j t ht => by
        rw [Tryz.params6] at ht
        have hm : t ∈ [23, 2, 53] := by simpa using Array.mem_of_getElem? ht
        have hall : ([23, 2, 53].all fun u => !Tryz.prog.wantsStandIn u) = true := by kernel_rfl
        exact (show Tryz.prog.wantsStandIn t = false by simpa using List.all_eq_true.1 hall t hm)⟩)
    (by kernel_rfl)
#print axioms proved
end Go.Proofs.YtpgddboigegplaaGreatDoor.faultThrough
