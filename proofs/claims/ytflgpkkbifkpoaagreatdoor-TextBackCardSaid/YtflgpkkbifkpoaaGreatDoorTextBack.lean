/- PROVED: 'horologelaw04.TextBack' returns true at whatever numbers, bytes and text, and leaves what was there as it was. -/
import Derived.Test.YtflgpkkbifkpoaaGreatDoorRows
import Derived.Test.YtflgpkkbifkpoaaGreatDoorCards
import Derived.Test.YtflgpkkbifkpoaaGreatDoorTie
import Derived.Test.YtflgpkkbifkpoaaGreatDoorBackZ
import Derived.WalkKit
import Derived.ProofKit
import Derived.LaidMore
import Derived.OpenShut
import Derived.Stop.Joined
import Derived.SevenTiedAt
import Derived.Lay
namespace Go.Proofs.YtflgpkkbifkpoaaGreatDoor.textBack
open Go.ChangeShapes Go.WideShapes Go.ChangeAt Go.WideMaps Go.WideElems Go.RowKit
open Go.Dg (junk St Ex Ev Hint evCall evCallS evCode evLoop cleanSt ue bodied noOver sbOf headOf tailOf bodyOf Flats flatOver Heap AObj embOf heapOf)
open Go.Proofs.YtflgpkkbifkpoaaGreatDoor.text (ui db32L db64L accL pow10L H0 L0 laidL of_laid mixed oB)
open Go.Proofs.YtflgpkkbifkpoaaGreatDoor.num (Hn ovB ovB_ok okB sbs good4 wc pre wd byt_of)
set_option linter.unusedVariables false

def tt : Nat → List Value
  | 6 => ui .u8 db32L
  | 7 => ui .u8 db64L
  | 8 => ui .u8 Pinned.utf8FirstZ
  | 9 => ui .u8 accL
  | _ => []
/-- The rows of the chapter, wherever the package variables lie. -/
theorem known1 (E : Nat → TypeId) (u v : TypeId) (x y z : AObj) : evCall Tryz.prog 10 (bodied Tryz.prog) noOver text.sbs 1000 20 5 [] (H0 E u v [x, y, z]) = some (.bool true, H0 E u v [x, y, z], []) := by kernel_rfl
theorem Hn_is (E : Nat → TypeId) (u v : TypeId) (r : List AObj) : Hn tt E u v r = H0 E u v r := rfl
theorem over5 (args : List Value) (H : Heap) : ovB 5 args H = evCall Tryz.prog 10 (bodied Tryz.prog) noOver Go.Proofs.YtflgpkkbifkpoaaGreatDoor.text.sbs 1000 20 5 args H := rfl
theorem kn (E : Nat → TypeId) (u v : TypeId) (x y z : AObj) : ovB 5 [] (Hn tt E u v [x, y, z]) = some (.bool true, Hn tt E u v [x, y, z], []) := by rw [over5, Hn_is]; exact known1 E u v x y z
def GoodT (args : List Value) (H : Heap) : Prop := (evCall Tryz.prog 10 (bodied Tryz.prog) ovB sbs 1000 20 4 args H).map (·.1) = some (.bool true)
theorem good_open {args args' : List Value} {W : World} (L : List (Nat × Nat × AObj)) (hG : Dg.Globs 10 (embOf L)) (hL : ∀ x ∈ L, x.2.2.owned = false ∧ ∀ N, Dg.ObjRel (embOf L) N W x.2.2 x.1 x.2.1 0) (h : GoodT args (heapOf L)) (ha : Dg.LRel (embOf L) args args') :
    Calls Tryz.prog 4 args'.toArray W fun e W' => e = .returned (.bool true) ∧ Below W.heap.size W W' :=
  Dg.open_callG mixed okB ovB_ok L hG hL ha (sb := sbs) (lf := 1000) (n := 20) h rfl
/-- A slice of bytes: nil, or a row of cells. -/
def Bytes (w : World) (v : Value) : Prop := v = .slice none 0 0 ∨ ∃ (b off len cap : Nat) (zs : List Int) (e' : TypeId), v = .slice (some ⟨b, off, none⟩) len cap ∧ len ≤ cap ∧ cap ≤ maxLen ∧ zs.length = cap ∧ (∀ n ∈ zs, (Lit.int .u8 n).wf = true) ∧
      ∀ M N, Dg.ObjRel M N w (.cells (zs.map (Value.int .u8 ·)) e' 6 1) b off 0
theorem emb_le {L : List (Nat × Nat × AObj)} (x : Nat × Nat × AObj) : Dg.Emb.le (embOf L) (embOf (L ++ [x])) := by
  intro k y h
  unfold embOf at h ⊢
  cases hk : L[k]? with
  | none => rw [hk] at h; cases h
  | some z =>
    rw [hk] at h
    have hl : k < L.length := by
      rcases Nat.lt_or_ge k L.length with h0 | h0
      · exact h0
      · rw [List.getElem?_eq_none h0] at hk; cases hk
    rw [List.getElem?_append_left hl, hk]
    exact h
theorem heap_is (E : Nat → TypeId) (u v : TypeId) (k o k' o' b off : Nat) (x : AObj) : heapOf (L0 E u v k o k' o' ++ [(b, off, x)]) = H0 E u v [x] := rfl
/-- A wide number's two words. -/
def Wide (v : Value) : Prop := ∃ h l, v = wd h l ∧ (-9223372036854775808 ≤ h ∧ h ≤ 9223372036854775807) ∧ (0 ≤ l ∧ l < 18446744073709551616)
set_option maxRecDepth 100000 in
theorem walk (W : World) (hL : laidMetH Tryz.prog laidL W) {n u : Int} (hn : -9223372036854775808 ≤ n ∧ n ≤ 9223372036854775807) (hu : 0 ≤ u ∧ u < 18446744073709551616) {v w : Value} (hv : Wide v) (hw : Wide w) (vb : Value) (hb : Bytes W vb) (s : ByteArray) :
    Calls Tryz.prog 4 #[.int .i64 n, .int .u64 u, v, w, vb, .string s] W fun e W' => e = .returned (.bool true) ∧ Below W.heap.size W W' := by
  have F : ∀ v, Dg.flat v = true → ∀ M, Dg.VRel M v v := fun v h M => Dg.vrel_of_flat _ _ h
  obtain ⟨vh, vl, rfl, hv1, hv2⟩ := hv
  obtain ⟨wh, wl, rfl, hw1, hw2⟩ := hw
  obtain ⟨E, u1, v1, k, o, k', o', hG, hO⟩ := of_laid hL
  rcases hb with rfl | ⟨b, off, lz, cz, bs, e, rfl, hc, _, hbl, hwf, ho⟩
  · have h : GoodT (pre n u vh vl wh wl (.slice none 0 0) s) (H0 E u1 v1 [.dead]) := by rw [← Hn_is]; exact good4 tt E u1 v1 hn hu hv1 hv2 hw1 hw2 (.inl rfl) (kn E u1 v1 _ _ _)
    have hle := emb_le (L := L0 E u1 v1 k o k' o') (0, 0, .dead)
    refine good_open (args := pre n u vh vl wh wl (.slice none 0 0) s) (args' := [.int .i64 n, .int .u64 u, wd vh vl, wd wh wl, .slice none 0 0, .string s]) (L0 E u1 v1 k o k' o' ++ [(0, 0, .dead)]) (hG.mono hle) ?_ (by rw [heap_is]; exact h) (Dg.LRel.cons (F _ rfl _) (Dg.LRel.cons (F _ rfl _) (Dg.LRel.cons (F _ rfl _) (Dg.LRel.cons (F _ rfl _) (Dg.LRel.cons (F _ rfl _) (Dg.LRel.cons (F _ rfl _) Dg.LRel.nil))))))
    intro x hx
    rcases List.mem_append.1 hx with hx | hx
    · exact ⟨(hO x hx).1, fun N => ((hO x hx).2 N).mono hle⟩
    · rw [List.mem_singleton] at hx
      subst hx
      exact ⟨rfl, fun _ => trivial⟩
  · have h : GoodT (pre n u vh vl wh wl (.slice (some ⟨12, 0, none⟩) lz cz) s) (H0 E u1 v1 [oB bs e]) := by rw [← Hn_is]; exact good4 tt E u1 v1 hn hu hv1 hv2 hw1 hw2 (.inr ⟨lz, cz, bs, e, rfl, rfl, hc, hbl, byt_of fun z hz => Dg.wf_u8 (hwf z hz)⟩) (kn E u1 v1 _ _ _)
    have hle := emb_le (L := L0 E u1 v1 k o k' o') (b, off, oB bs e)
    refine good_open (args := pre n u vh vl wh wl (.slice (some ⟨12, 0, none⟩) lz cz) s) (args' := [.int .i64 n, .int .u64 u, wd vh vl, wd wh wl, .slice (some ⟨b, off, none⟩) lz cz, .string s]) (L0 E u1 v1 k o k' o' ++ [(b, off, oB bs e)]) (hG.mono hle) ?_ (by rw [heap_is]; exact h) (Dg.LRel.cons (F _ rfl _) (Dg.LRel.cons (F _ rfl _) (Dg.LRel.cons (F _ rfl _) (Dg.LRel.cons (F _ rfl _) (Dg.LRel.cons (Dg.VRel.slx (k := 12) (off := 0) (b := b) (o := off) (sp := 0) (len := lz) (cap := cz) rfl) (Dg.LRel.cons (F _ rfl _) Dg.LRel.nil))))))
    intro x hx
    rcases List.mem_append.1 hx with hx | hx
    · exact ⟨(hO x hx).1, fun N => ((hO x hx).2 N).mono hle⟩
    · rw [List.mem_singleton] at hx
      subst hx
      exact ⟨rfl, ho _⟩
set_option maxRecDepth 100000 in
theorem open_wide {H : Type} {enc : TypeId × Value → H} {W : World} {sp : Nat → Bool} {v : Value} {d : DataW H} {p : List MemPlace} {base : Nat} (hok : Value.okWide Tryz.prog W .any base 24 v) (h : DataW.Trod enc Tryz.prog W 0 sp true 24 v d p) : Wide v := by
  obtain ⟨cs, rfl, hsz⟩ := okWide_struct Tryz.underlying24 hok
  have h2 : Tryz.prog.cellsOf 24 = 2 := by kernel_rfl
  obtain ⟨fuel, hf⟩ := h
  obtain ⟨l⟩ := cs
  have hl : l.length = 2 := by simpa [h2] using hsz
  have hf' : DataW.trod enc Tryz.prog W 0 sp true fuel 24 l = some (d, p) := hf
  match l, hl with
  | [c0, c1], _ =>
    obtain ⟨xs, n, _, _, _, hlen, hfs⟩ := DataW.trod_struct Tryz.underlying24 hf'
    obtain ⟨n0, e0, k0⟩ := Dg.int_field hfs hlen 0 _ rfl Tryz.underlying2 (by kernel_rfl)
    obtain ⟨n1, e1, k1⟩ := Dg.int_field hfs hlen 1 _ rfl Tryz.underlying22 (by kernel_rfl)
    simp at e0 e1
    subst e0 e1
    have r0 := Dg.wf_i64 k0
    have r1 := Dg.wf_u64 k1
    exact ⟨n0, n1, rfl, ⟨r0.1, by omega⟩, r1⟩

/-! ### The row. -/
theorem ownKnob_is : ownKnob Tryz.prog.godebug = none := by kernel_rfl
theorem laidOut : laidOutB Tryz.prog = true := by kernel_rfl
/-- The door's own heap meets the condition: three closed facts. -/
noncomputable def doorW (os : Os) : World := (World.doorLaid Tryz.prog 400 os).layVars Tryz.prog [("unicode/utf8.first", Rows.laid_unicode_utf8_first)]
theorem great_is : (laidL.filter fun x => ["unicode/utf8.first"].contains x.1) = [("unicode/utf8.first", Rows.laid_unicode_utf8_first)] := by kernel_rfl
theorem door_met (os : Os) (args : Array Value) : laidMetH Tryz.prog laidL ((doorW os).forCall (fun _ _ => 0) ⟨#[], args, []⟩).memory := by
  rw [MakeChecks.laidMetH_plain _ _ _ (by kernel_rfl)]
  exact laidMet_layVars (w0 := World.doorLaid Tryz.prog 400 os) ["unicode/utf8.first"] [3, 4, 5, 6, 7, 9, 10, 11, 12, 13, 14, 15, 16] (by rw [great_is]; simp [World.memory, World.forCall, Input.heap]; rfl) (by kernel_rfl) (by kernel_rfl) (LaidIn.of_run _ 8 (by kernel_rfl) (by kernel_rfl) (by kernel_rfl) (by kernel_rfl))
set_option maxRecDepth 100000 in
theorem lifted (os : Os) (started : os.Started) (H : Type) (enc : TypeId × Value → H) :
    ReturnsInHanded {} Tryz.checked os 4 .any (fun w args => (Rows.textBackSpec.pre enc Tryz.prog Tryz.f4 [] false w args ∧ laidMetH Tryz.prog laidL w) ∧ sizedMet enc Tryz.prog Tryz.f4 (OpenSpec.ofChange Rows.textBackSpec) false w args)
      (Rows.textBackSpec.post enc Tryz.prog Tryz.f4 false true false false) := by
  refine returnsInHanded_of_change_and (C := Tryz.checked) (X := fun w _ => laidMetH Tryz.prog laidL w) (fun _ _ _ hh h => h.of_heap hh) ownKnob_is started (by kernel_rfl) Tryz.func4
    (ChangeSpec.witness_shaped (enc := enc) (C := Tryz.checked) (os := os) (X := fun w _ => laidMetH Tryz.prog laidL w) false (doorW os) #[.int .i64 0, .int .u64 0, .agg #[.int .i64 0, .int .u64 0], .agg #[.int .i64 0, .int .u64 0], .slice none 0 0, .string ⟨#[]⟩] 8 (World.layVars_os _ _ _) (World.shaped_of_RefB (by kernel_rfl) (by kernel_rfl)) (by kernel_rfl) (by kernel_rfl) (by kernel_rfl) (door_met os _)) ?_
  intro W base args ds gs before hval0 hW _ _ hL _
  have hval : ∀ (j : Nat) t v, Tryz.f4.params[j]? = some t → args[j]? = some v → Value.okWide Tryz.prog W .any base t v := hval0
  have hW' := hW
  obtain ⟨p, q, hA0, hV, rfl, hfz, hnd⟩ := hW
  have hA : DataW.TrodAll enc Tryz.prog W 0 (fun _ => true) true Tryz.f4.params.toList args.toList ds p := hA0
  rw [Tryz.params4] at hA hval
  obtain ⟨v0, vs0, d0, ds0, p0, q0, hargs, rfl, rfl, h0, t0⟩ := trodAll_cons hA
  obtain ⟨v1, vs1, d1, ds1, p1, q1, rfl, rfl, rfl, h1, t1⟩ := trodAll_cons t0
  obtain ⟨v2, vs2, d2, ds2, p2, q2, rfl, rfl, rfl, h2, t2⟩ := trodAll_cons t1
  obtain ⟨v3, vs3, d3, ds3, p3, q3, rfl, rfl, rfl, h3, t3⟩ := trodAll_cons t2
  obtain ⟨v4, vs4, d4, ds4, p4, q4, rfl, rfl, rfl, h4, t4⟩ := trodAll_cons t3
  obtain ⟨v5, vs5, d5, ds5, p5, q5, rfl, rfl, rfl, h5, t5⟩ := trodAll_cons t4
  obtain ⟨rfl, rfl, rfl⟩ := trodAll_nil t5
  obtain rfl : args = #[v0, v1, v2, v3, v4, v5] := by cases args; simp_all
  obtain ⟨rfl, rfl⟩ := trodVars_none hV
  obtain ⟨s, rfl, rfl, rfl, ws⟩ := Go.ChangeMaps.open_string Tryz.underlying9 (hval 5 9 v5 rfl rfl) h5
  obtain ⟨m, rfl, rfl, rfl, wm⟩ := open_int Tryz.underlying22 (hval 1 22 v1 rfl rfl) h1
  obtain ⟨n, rfl, rfl, rfl, wn⟩ := open_int Tryz.underlying2 (hval 0 2 v0 rfl rfl) h0
  have lt : ∀ {t v d p}, DataW.Trod enc Tryz.prog W 0 (fun _ => true) true t v d p → ∀ x ∈ p, x.block < W.heap.size := by intro t v d p hk; obtain ⟨m, hm⟩ := hk; exact DataW.trod_lt m _ _ _ hm
  have i4 := Dg.ints_arg Tryz.underlying41 Tryz.underlying5 (by kernel_rfl) (hval 4 41 v4 rfl rfl) h4
  have hcall := walk W hL ⟨(Dg.wf_i64 wn).1, by have := (Dg.wf_i64 wn).2; omega⟩ (Dg.wf_u64 wm) (open_wide (hval 2 24 v2 rfl rfl) h2) (open_wide (hval 3 24 v3 rfl rfl) h3) v4 i4 s
  clear hA0 hval0
  simp only [List.append_nil] at hW'
  refine hcall.mono fun e W' ⟨he, bel⟩ => ?_
  subst he
  exact ⟨_, rfl, _, _, _, [], _, [], hW', trodAll_mk1 (shut_bool Tryz.underlying4 _), trodAll_cons_mk (shut_int Tryz.underlying2 wn) (trodAll_cons_mk (shut_int Tryz.underlying22 wm) (trodAll_cons_mk (Below.trod laidOut (by kernel_rfl) (of_decide_eq_true (by kernel_rfl)) h2 bel (lt h2)) (trodAll_cons_mk (Below.trod laidOut (by kernel_rfl) (of_decide_eq_true (by kernel_rfl)) h3 bel (lt h3)) (trodAll_cons_mk (Below.trod laidOut (by kernel_rfl) (of_decide_eq_true (by kernel_rfl)) h4 bel (lt h4)) (trodAll_cons_mk (Go.ChangeMaps.shut_string Tryz.underlying9 ws) trodAll_mk0))))), rfl, bel.frame _, fun h => by cases h⟩

theorem row_holds : Rows.TextBackSaid :=
  OpenClaim.holds_of_wide 4 Tryz.f4 rfl rfl rfl rfl rfl rfl rfl ⟨rfl, rfl, rfl, rfl, rfl⟩ rfl rfl rfl rfl rfl (by kernel_rfl) Tryz.func4 (by kernel_rfl)
    (of_decide_eq_true (by kernel_rfl)) (by unfold Func.isWrapper; first | (rw [if_pos (by decide +kernel)]; kernel_rfl) | (rw [if_neg (by decide +kernel)]; exact ⟨rfl, rfl⟩))
    (fun os started H enc _ => lifted os started H enc)

theorem proved : Rows.TextBackCardSaid :=
  Claim7.holds_tied_plain_at .later [] [.data, .data, .data, .data, .sentinel, .sentinel, .pinned] true (true, "bb16f1394694395d4f17575cea79c57fbf72037f18aea2c8264fac97b02e2ade") true
    row_holds (fun _ h => by cases h) (by kernel_rfl) (fun _ h => by cases h) textBack_row_tie rfl ⟨rfl, rfl⟩ (by kernel_rfl) rfl
    (fun f fn hf hfn => by
      obtain rfl : f = 4 := Option.some.inj ((show Tryz.prog.funcNamed "horologe/horologelaw04.TextBack" = some 4 by kernel_rfl).symm.trans hf) |>.symm
      obtain rfl : fn = Tryz.f4 := (Option.some.inj (Tryz.func4.symm.trans hfn)).symm
      exact ⟨by kernel_rfl, fun j t ht => by
        rw [Tryz.params4] at ht
        have hm : t ∈ [2, 22, 24, 24, 41, 9] := by simpa using Array.mem_of_getElem? ht
        have hall : ([2, 22, 24, 24, 41, 9].all fun u => !Tryz.prog.wantsStandIn u) = true := by kernel_rfl
        exact (show Tryz.prog.wantsStandIn t = false by simpa using List.all_eq_true.1 hall t hm)⟩)
    (by kernel_rfl)
#print axioms proved
end Go.Proofs.YtflgpkkbifkpoaaGreatDoor.textBack
