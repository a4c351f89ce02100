/- PROVED: 'horologelaw06.FaultBuilds' returns true at whatever kinds, place and words, and leaves what was there as it was. -/
import Derived.Test.YtpgddboigegplaaGreatDoorRows
import Derived.Test.YtpgddboigegplaaGreatDoorCards
import Derived.Test.YtpgddboigegplaaGreatDoorTie
import Derived.Test.YtpgddboigegplaaGreatDoorFbZ2
import Derived.Test.YtpgddboigegplaaGreatDoorDgStrs
import Derived.WalkKit
import Derived.ProofKit
import Derived.LaidMore
import Derived.OpenShut
import Derived.Stop.Joined
import Derived.SevenTiedAt
import Derived.Lay
namespace Go.Proofs.YtpgddboigegplaaGreatDoor.faultBuilds
open Go.ChangeShapes Go.WideShapes Go.ChangeAt Go.WideMaps Go.WideElems Go.RowKit
open Go.Dg (Ev Hint evCall bodied noOver Heap AObj embOf heapOf)
open Go.Proofs.YtpgddboigegplaaGreatDoor.base (H0 L0 laidL laidR of_laid mixed okB sbs ovB ovB_ok rowB rowBn aW oW WsOk I64)
set_option linter.unusedVariables false

/-- A slice of texts: nil, or a row of cells. -/
def Texts (w : World) (v : Value) : Prop := v = .slice none 0 0 ∨ ∃ (b off len cap : Nat) (zs : List ByteArray) (e' : TypeId), v = .slice (some ⟨b, off, none⟩) len cap ∧ len ≤ cap ∧ cap ≤ maxLen ∧ zs.length = cap ∧ (∀ n ∈ zs, n.size ≤ maxLen) ∧
      ∀ M N, Dg.ObjRel M N w (.cells (zs.map Value.string) e' 6 1) b off 0
theorem emb_le {L : List (Nat × Nat × AObj)} (x : Nat × Nat × AObj) : Dg.Emb.le (embOf L) (embOf (L ++ [x])) := by
  intro k y h
  unfold embOf at h ⊢
  cases hk : L[k]? with
  | none => rw [hk] at h; cases h
  | some z =>
    rw [hk] at h
    have hl : k < L.length := by
      rcases Nat.lt_or_ge k L.length with h0 | h0
      · exact h0
      · rw [List.getElem?_eq_none h0] at hk; cases hk
    rw [List.getElem?_append_left hl, hk]
    exact h
theorem heap_is (E : Nat → TypeId) (u3 u4 : TypeId) (k3 o3 k4 o4 b off : Nat) (x : AObj) : heapOf (L0 E u3 u4 k3 o3 k4 o4 ++ [(b, off, x)]) = H0 E u3 u4 [x] := rfl
theorem ws_ok (zs : List ByteArray) (len : Nat) : WsOk (zs.take len) (zs.map Value.string) := by
  intro i w h
  rw [List.getElem?_take] at h
  split at h
  · rw [List.getElem?_map, h]; rfl
  · cases h
/-- As many rounds as any of the loops may have. -/
def most (ws : List ByteArray) : Nat := ws.length + (ws.map (·.size)).sum
theorem most_le {ws : List ByteArray} {w : ByteArray} (h : w ∈ ws) : w.size ≤ most ws := by
  have key : ∀ l : List ByteArray, w ∈ l → w.size ≤ (l.map (·.size)).sum := by
    intro l
    induction l with
    | nil => intro h; cases h
    | cons a r ih =>
      intro h
      rw [List.map_cons, List.sum_cons]
      rcases List.mem_cons.1 h with rfl | h
      · omega
      · have := ih h; omega
  have := key ws h
  unfold most
  omega
set_option maxRecDepth 100000 in
theorem walk (W : World) (hL : laidMetH Tryz.prog laidL W) (kind other off : Int) (hkr : I64 kind) (htr : I64 other) (hor : I64 off) (vb : Value) (hb : Texts W vb) :
    Calls Tryz.prog 4 #[.int .i64 kind, .int .i64 other, .int .i64 off, vb] W fun e W' => e = .returned (.bool true) ∧ Below W.heap.size W W' := by
  have F : ∀ v, Dg.flat v = true → ∀ M, Dg.VRel M v v := fun v h M => Dg.vrel_of_flat _ _ h
  obtain ⟨E, u3, u4, k3, o3, k4, o4, hG, hO⟩ := of_laid hL
  rcases hb with rfl | ⟨b, bo, lz, cz, zs, e, rfl, hc, hm, hbl, hwf, ho⟩
  · have hle := emb_le (L := L0 E u3 u4 k3 o3 k4 o4) (0, 0, .dead)
    refine Dg.open_callG (args := [.int .i64 kind, .int .i64 other, .int .i64 off, .slice none 0 0]) (args' := [.int .i64 kind, .int .i64 other, .int .i64 off, .slice none 0 0]) mixed okB ovB_ok (L0 E u3 u4 k3 o3 k4 o4 ++ [(0, 0, .dead)]) (hG.mono hle) ?_ (Dg.LRel.cons (F _ rfl _) (Dg.LRel.cons (F _ rfl _) (Dg.LRel.cons (F _ rfl _) (Dg.LRel.cons (F _ rfl _) Dg.LRel.nil)))) (by rw [heap_is]; exact rowBn E u3 u4 kind off other hkr hor htr .dead) rfl rfl
    intro y hy
    rcases List.mem_append.1 hy with hy | hy
    · exact ⟨(hO y hy).1, fun N => ((hO y hy).2 N).mono hle⟩
    · rw [List.mem_singleton] at hy
      subst hy
      exact ⟨rfl, fun _ => trivial⟩
  · have hlen : (zs.take lz).length = lz := by rw [List.length_take]; omega
    have hmax : maxLen ≤ 9223372036854775807 := by decide
    have hrow := rowB (most (zs.take lz)) E u3 u4 kind off other hkr hor htr (zs.map Value.string) e cz (zs.take lz) (ws_ok zs lz) (by omega) (by unfold most; omega) (fun w hw => ⟨by have := most_le hw; omega, by have := hwf w (List.mem_of_mem_take hw); omega⟩)
    rw [hlen] at hrow
    have hle := emb_le (L := L0 E u3 u4 k3 o3 k4 o4) (b, bo, oW (zs.map Value.string) e)
    refine Dg.open_callG (args := [.int .i64 kind, .int .i64 other, .int .i64 off, aW lz cz]) (args' := [.int .i64 kind, .int .i64 other, .int .i64 off, .slice (some ⟨b, bo, none⟩) lz cz]) mixed okB ovB_ok (L0 E u3 u4 k3 o3 k4 o4 ++ [(b, bo, oW (zs.map Value.string) e)]) (hG.mono hle) ?_ (Dg.LRel.cons (F _ rfl _) (Dg.LRel.cons (F _ rfl _) (Dg.LRel.cons (F _ rfl _) (Dg.LRel.cons ?_ Dg.LRel.nil)))) (by rw [heap_is]; exact hrow) rfl rfl
    · intro y hy
      rcases List.mem_append.1 hy with hy | hy
      · exact ⟨(hO y hy).1, fun N => ((hO y hy).2 N).mono hle⟩
      · rw [List.mem_singleton] at hy
        subst hy
        exact ⟨rfl, ho _⟩
    · exact Dg.VRel.slx (k := 17) (off := 0) (b := b) (o := bo) (sp := 0) (len := lz) (cap := cz) rfl

/-! ### The row. -/
theorem ownKnob_is : ownKnob Tryz.prog.godebug = none := by kernel_rfl
theorem laidOut : laidOutB Tryz.prog = true := by kernel_rfl
/-- The door's own heap meets the condition: three closed facts. -/
noncomputable def doorW (os : Os) : World := (World.doorLaid Tryz.prog 400 os).layVars Tryz.prog [("unicode/utf8.first", Rows.laid_unicode_utf8_first)]
theorem great_is : (laidR.filter fun x => ["unicode/utf8.first"].contains x.1) = [("unicode/utf8.first", Rows.laid_unicode_utf8_first)] := by kernel_rfl
theorem door_met (os : Os) (args : Array Value) : laidMetH Tryz.prog laidL ((doorW os).forCall (fun _ _ => 0) ⟨#[], args, []⟩).memory :=
  laidMetH_of_parts (show laidMet Tryz.prog laidR _ from laidMet_layVars (w0 := World.doorLaid Tryz.prog 400 os) ["unicode/utf8.first"] [2, 3, 4, 6, 7, 8, 14, 15, 16, 17, 18, 19, 20] (by rw [great_is]; simp [World.memory, World.forCall, Input.heap]; rfl) (by kernel_rfl) (by kernel_rfl) (LaidIn.of_run _ 8 (by kernel_rfl) (by kernel_rfl) (by kernel_rfl) (by kernel_rfl))) (by kernel_rfl)
set_option maxRecDepth 100000 in
theorem lifted (os : Os) (started : os.Started) (H : Type) (enc : TypeId × Value → H) :
    ReturnsInHanded {} Tryz.checked os 4 .any (fun w args => (Rows.faultBuildsSpec.pre enc Tryz.prog Tryz.f4 [] false w args ∧ laidMetH Tryz.prog laidL w) ∧ sizedMet enc Tryz.prog Tryz.f4 (OpenSpec.ofChange Rows.faultBuildsSpec) false w args)
      (Rows.faultBuildsSpec.post enc Tryz.prog Tryz.f4 false true false false) := by
  refine returnsInHanded_of_change_and (C := Tryz.checked) (X := fun w _ => laidMetH Tryz.prog laidL w) (fun _ _ _ hh h => h.of_heap hh) ownKnob_is started (by kernel_rfl) Tryz.func4
    (ChangeSpec.witness_shaped (enc := enc) (C := Tryz.checked) (os := os) (X := fun w _ => laidMetH Tryz.prog laidL w) false (doorW os) #[.int .i64 0, .int .i64 0, .int .i64 0, .slice none 0 0] 8 (World.layVars_os _ _ _) (World.shaped_of_RefB (by kernel_rfl) (by kernel_rfl)) (by kernel_rfl) (by kernel_rfl) (by kernel_rfl) (door_met os _)) ?_
  intro W base args ds gs before hval0 hW _ _ hL _
  have hval : ∀ (j : Nat) t v, Tryz.f4.params[j]? = some t → args[j]? = some v → Value.okWide Tryz.prog W .any base t v := hval0
  have hW' := hW
  obtain ⟨p, q, hA0, hV, rfl, hfz, hnd⟩ := hW
  have hA : DataW.TrodAll enc Tryz.prog W 0 (fun _ => true) true Tryz.f4.params.toList args.toList ds p := hA0
  rw [Tryz.params4] at hA hval
  obtain ⟨v0, vs0, d0, ds0, p0, q0, hargs, rfl, rfl, h0, t0⟩ := trodAll_cons hA
  obtain ⟨v1, vs1, d1, ds1, p1, q1, rfl, rfl, rfl, h1, t1⟩ := trodAll_cons t0
  obtain ⟨v2, vs2, d2, ds2, p2, q2, rfl, rfl, rfl, h2, t2⟩ := trodAll_cons t1
  obtain ⟨v3, vs3, d3, ds3, p3, q3, rfl, rfl, rfl, h3, t3⟩ := trodAll_cons t2
  obtain ⟨rfl, rfl, rfl⟩ := trodAll_nil t3
  obtain rfl : args = #[v0, v1, v2, v3] := by cases args; simp_all
  obtain ⟨rfl, rfl⟩ := trodVars_none hV
  obtain ⟨m0, rfl, rfl, rfl, wm0⟩ := open_int Tryz.underlying23 (hval 0 23 v0 rfl rfl) h0
  obtain ⟨m1, rfl, rfl, rfl, wm1⟩ := open_int Tryz.underlying23 (hval 1 23 v1 rfl rfl) h1
  obtain ⟨m2, rfl, rfl, rfl, wm2⟩ := open_int Tryz.underlying2 (hval 2 2 v2 rfl rfl) h2
  have lt : ∀ {t v d p}, DataW.Trod enc Tryz.prog W 0 (fun _ => true) true t v d p → ∀ x ∈ p, x.block < W.heap.size := by intro t v d p hk; obtain ⟨m, hm⟩ := hk; exact DataW.trod_lt m _ _ _ hm
  have i3 := Dg.strs_arg Tryz.underlying22 Tryz.underlying9 (by kernel_rfl) (hval 3 22 v3 rfl rfl) h3
  have rng : ∀ {m : Int}, (Lit.int .i64 m).wf = true → I64 m := fun h => ⟨(Dg.wf_i64 h).1, by have := (Dg.wf_i64 h).2; omega⟩
  have hcall := walk W hL m0 m1 m2 (rng wm0) (rng wm1) (rng wm2) v3 i3
  clear hA0 hval0
  simp only [List.append_nil] at hW'
  refine hcall.mono fun e W' ⟨he, bel⟩ => ?_
  subst he
  exact ⟨_, rfl, _, _, _, [], _, [], hW', trodAll_mk1 (shut_bool Tryz.underlying4 _), trodAll_cons_mk (shut_int Tryz.underlying23 wm0) (trodAll_cons_mk (shut_int Tryz.underlying23 wm1) (trodAll_cons_mk (shut_int Tryz.underlying2 wm2) (trodAll_cons_mk (Below.trod laidOut (by kernel_rfl) (of_decide_eq_true (by kernel_rfl)) h3 bel (lt h3)) trodAll_mk0))), rfl, bel.frame _, fun h => by cases h⟩

theorem row_holds : Rows.FaultBuildsSaid :=
  OpenClaim.holds_of_wide 4 Tryz.f4 rfl rfl rfl rfl rfl rfl rfl ⟨rfl, rfl, rfl, rfl, rfl⟩ rfl rfl rfl rfl rfl (by kernel_rfl) Tryz.func4 (by kernel_rfl)
    (of_decide_eq_true (by kernel_rfl)) (by unfold Func.isWrapper; first | (rw [if_pos (by decide +kernel)]; kernel_rfl) | (rw [if_neg (by decide +kernel)]; exact ⟨rfl, rfl⟩))
    (fun os started H enc _ => lifted os started H enc)

theorem proved : Rows.FaultBuildsCardSaid :=
  Claim7.holds_tied_plain_at .later [] [.data, .data, .data, .data, .handle, .sentinel, .sentinel, .pinned] true (true, "01ad69f4bbf7779030191893c4a0834fbfffac4e3ae88199d44a9e11e66db187") true
    row_holds (fun _ h => by cases h) (by kernel_rfl) (fun _ h => by cases h) faultBuilds_row_tie rfl ⟨rfl, rfl⟩ (by kernel_rfl) rfl
    (fun f fn hf hfn => by
      obtain rfl : f = 4 := Option.some.inj ((show Tryz.prog.funcNamed "horologe/horologelaw06.FaultBuilds" = some 4 by kernel_rfl).symm.trans hf) |>.symm
      obtain rfl : fn = Tryz.f4 := (Option.some.inj (Tryz.func4.symm.trans hfn)).symm
      exact ⟨by kernel_rfl, fun j t ht => by
        rw [Tryz.params4] at ht
        have hm : t ∈ [23, 23, 2, 22] := by simpa using Array.mem_of_getElem? ht
        have hall : ([23, 23, 2, 22].all fun u => !Tryz.prog.wantsStandIn u) = true := by kernel_rfl
        exact (show Tryz.prog.wantsStandIn t = false by simpa using List.all_eq_true.1 hall t hm)⟩)
    (by kernel_rfl)
#print axioms proved
end Go.Proofs.YtpgddboigegplaaGreatDoor.faultBuilds
