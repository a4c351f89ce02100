/- PROVED: 'horologelaw04.TextBytes' returns true at whatever bytes and whatever text, and leaves what was there as it was. -/
import Derived.Test.YtflgpkkbifkpoaaDoorRows
import Derived.Test.YtflgpkkbifkpoaaDoorCards
import Derived.Test.YtflgpkkbifkpoaaDoorTie
import Derived.Test.YtflgpkkbifkpoaaDoorTextF
import Derived.WalkKit
import Derived.ProofKit
import Derived.LaidMore
import Derived.OpenShut
import Derived.Stop.Joined
import Derived.SevenTiedAt
import Derived.Lay
namespace Go.Proofs.YtflgpkkbifkpoaaDoor.textBytes
open Go.ChangeShapes Go.WideShapes Go.ChangeAt Go.WideMaps Go.WideElems Go.RowKit
open Go.Dg (junk St Ex Ev Hint evCall evCallS evCode evLoop cleanSt ue bodied noOver sbOf headOf tailOf bodyOf Flats flatOver Heap AObj embOf heapOf)
open Go.Proofs.YtflgpkkbifkpoaaDoor.text
set_option linter.unusedVariables false

def tt : Nat → List Value
  | 2 => ui .u64 pow10L
  | 6 => ui .u8 db32L
  | 7 => ui .u8 db64L
  | 8 => ui .u8 Pinned.utf8FirstZ
  | 9 => ui .u8 accL
  | _ => []
theorem H0_is (E : Nat → TypeId) (u v : TypeId) (r : List AObj) : H0 E u v r = Hc tt E u v r := rfl
theorem over5 (args : List Value) (H : Heap) : overF 5 args H = evCall Tryd.prog 10 (bodied Tryd.prog) noOver sbs 1000 20 5 args H := rfl
theorem kn0 (E : Nat → TypeId) (u v : TypeId) : overF 5 [] (Hc tt E u v []) = some (.bool true, Hc tt E u v [], []) := by rw [over5, ← H0_is]; exact known0 E u v
theorem kn1 (E : Nat → TypeId) (u v : TypeId) (x : AObj) : overF 5 [] (Hc tt E u v [x]) = some (.bool true, Hc tt E u v [x], []) := by rw [over5, ← H0_is]; exact known1 E u v x
def GoodT (args : List Value) (H : Heap) : Prop := (evCall Tryd.prog 10 (bodied Tryd.prog) overF sbs 1000 20 3 args H).map (·.1) = some (.bool true)
theorem of_is {args : List Value} {H H' : Heap} {log : List Nat} (h : evCall Tryd.prog 10 (bodied Tryd.prog) overF sbs 1000 20 3 args H = some (.bool true, H', log)) : GoodT args H := by unfold GoodT; rw [h]; rfl
theorem pos_of {zs : List Int} (h : ¬ zs = []) : 0 < zs.length := by cases zs with | nil => exact absurd rfl h | cons => simp
theorem all_N (E : Nat → TypeId) (u v : TypeId) (zs : List Int) (hz : Byt zs) : GoodT [.slice none 0 0, .string (txt zs)] (H0 E u v []) := by
  rw [H0_is]
  by_cases hs : 1000 < zs.length
  · exact of_is (f3nb tt E u v (kn0 E u v) zs hs)
  by_cases hg : text.Good zs
  · by_cases he : zs = []
    · subst he
      exact of_is (f3nnil tt E u v (kn0 E u v))
    · exact of_is (f3ngood tt E u v (kn0 E u v) zs (by omega) hz hg (pos_of he) _ rfl)
  · exact of_is (f3nbad tt E u v (kn0 E u v) zs (by omega) hz hg)
theorem all_O (E : Nat → TypeId) (u v : TypeId) (lz cz : Nat) (bs : List Int) (e : Nat) (hc : lz ≤ cz) (hbl : bs.length = cz) (hb : Byt bs) (zs : List Int) (hz : Byt zs) : GoodT [.slice (some ⟨12, 0, none⟩) lz cz, .string (txt zs)] (H0 E u v [oB bs e]) := by
  rw [H0_is]
  by_cases hl : 1000 < lz
  · exact of_is (f3ob tt E u v lz cz bs e (kn1 E u v _) zs hl)
  by_cases hs : 1000 < zs.length
  · exact of_is (f3oc tt E u v lz cz bs e (kn1 E u v _) zs (by omega) hs)
  rcases Nat.eq_zero_or_pos lz with h0 | h0
  · subst h0
    by_cases hg : text.Good zs
    · by_cases he : zs = []
      · subst he
        exact of_is (f3znil tt E u v cz bs e (kn1 E u v _) hbl hb)
      · exact of_is (f3zgood tt E u v cz bs e (kn1 E u v _) hbl hb zs (by omega) hz hg (pos_of he) _ rfl)
    · exact of_is (f3zbad tt E u v cz bs e (kn1 E u v _) hbl hb zs (by omega) hz hg)
  · by_cases hg : text.Good zs
    · by_cases he : zs = []
      · subst he
        exact of_is (f3pnil tt E u v lz cz bs e (kn1 E u v _) (by omega) h0 hc hbl hb)
      · exact of_is (f3pgood tt E u v lz cz bs e (kn1 E u v _) (by omega) h0 hc hbl hb zs (by omega) hz hg (pos_of he) _ rfl)
    · exact of_is (f3pbad tt E u v lz cz bs e (kn1 E u v _) (by omega) h0 hc hbl hb zs (by omega) hz hg)
/-- The bytes of a text. -/
def zsOf (s : ByteArray) : List Int := s.data.toList.map fun b => (b.toNat : Int)
theorem txt_zsOf (s : ByteArray) : txt (zsOf s) = s := by
  obtain ⟨⟨l⟩⟩ := s
  simp [txt, zsOf, List.map_map, Function.comp_def]
theorem byt_of {zs : List Int} (h : ∀ z ∈ zs, 0 ≤ z ∧ z < 256) : Byt zs := by
  intro j
  rw [List.getD_eq_getElem?_getD]
  cases hj : zs[j]? with
  | none => exact ⟨Int.le_refl 0, by decide⟩
  | some z => exact h z (List.mem_of_getElem? hj)
theorem byt_zsOf (s : ByteArray) : Byt (zsOf s) := byt_of fun z hz => by
  simp only [zsOf, List.mem_map] at hz
  obtain ⟨b, _, rfl⟩ := hz
  have := b.toNat_lt
  omega
/-- A slice of bytes: nil, or a row of cells. -/
def Bytes (w : World) (v : Value) : Prop := v = .slice none 0 0 ∨ ∃ (b off len cap : Nat) (zs : List Int) (e' : TypeId), v = .slice (some ⟨b, off, none⟩) len cap ∧ len ≤ cap ∧ cap ≤ maxLen ∧ zs.length = cap ∧ (∀ n ∈ zs, (Lit.int .u8 n).wf = true) ∧
      ∀ M N, Dg.ObjRel M N w (.cells (zs.map (Value.int .u8 ·)) e' 6 1) b off 0
theorem good_open {args args' : List Value} {W : World} (L : List (Nat × Nat × AObj)) (hG : Dg.Globs 10 (embOf L)) (hL : ∀ x ∈ L, x.2.2.owned = false ∧ ∀ N, Dg.ObjRel (embOf L) N W x.2.2 x.1 x.2.1 0) (h : GoodT args (heapOf L)) (ha : Dg.LRel (embOf L) args args') :
    Calls Tryd.prog 3 args'.toArray W fun e W' => e = .returned (.bool true) ∧ Below W.heap.size W W' :=
  Dg.open_callG mixed okT overF_ok L hG hL ha (sb := sbs) (lf := 1000) (n := 20) h rfl
theorem emb_le {L : List (Nat × Nat × AObj)} (x : Nat × Nat × AObj) : Dg.Emb.le (embOf L) (embOf (L ++ [x])) := by
  intro k y h
  unfold embOf at h ⊢
  cases hk : L[k]? with
  | none => rw [hk] at h; cases h
  | some z =>
    rw [hk] at h
    have hl : k < L.length := by
      rcases Nat.lt_or_ge k L.length with h0 | h0
      · exact h0
      · rw [List.getElem?_eq_none h0] at hk; cases hk
    rw [List.getElem?_append_left hl, hk]
    exact h
theorem walk (W : World) (hL : laidMetH Tryd.prog laidL W) (vb : Value) (hb : Bytes W vb) (s : ByteArray) :
    Calls Tryd.prog 3 #[vb, .string s] W fun e W' => e = .returned (.bool true) ∧ Below W.heap.size W W' := by
  have F : ∀ v, Dg.flat v = true → ∀ M, Dg.VRel M v v := fun v h M => Dg.vrel_of_flat _ _ h
  obtain ⟨E, u, v, k, o, k', o', hG, hO⟩ := of_laid hL
  rcases hb with rfl | ⟨b, off, lz, cz, bs, e, rfl, hc, _, hbl, hw, ho⟩
  · have h := all_N E u v (zsOf s) (byt_zsOf s)
    rw [txt_zsOf] at h
    exact good_open (L0 E u v k o k' o') hG hO h (Dg.LRel.cons (F _ rfl _) (Dg.LRel.cons (F _ rfl _) Dg.LRel.nil))
  · have h := all_O E u v lz cz bs e hc hbl (byt_of fun z hz => Dg.wf_u8 (hw z hz)) (zsOf s) (byt_zsOf s)
    rw [txt_zsOf] at h
    have hle := emb_le (L := L0 E u v k o k' o') (b, off, oB bs e)
    refine good_open (L0 E u v k o k' o' ++ [(b, off, oB bs e)]) (hG.mono hle) ?_ h (Dg.LRel.cons (Dg.VRel.slx (k := 12) (off := 0) (b := b) (o := off) (sp := 0) rfl) (Dg.LRel.cons (F _ rfl _) Dg.LRel.nil))
    intro x hx
    rcases List.mem_append.1 hx with hx | hx
    · exact ⟨(hO x hx).1, fun N => ((hO x hx).2 N).mono hle⟩
    · rw [List.mem_singleton] at hx
      subst hx
      exact ⟨rfl, ho _⟩

/-! ### The row. -/
theorem ownKnob_is : ownKnob Tryd.prog.godebug = none := by kernel_rfl
theorem laidOut : laidOutB Tryd.prog = true := by kernel_rfl
/-- The door's own heap meets the condition: three closed facts. -/
noncomputable def doorW (os : Os) : World := (World.doorLaid Tryd.prog 400 os).layVars Tryd.prog [("unicode/utf8.first", Rows.laid_unicode_utf8_first)]
theorem great_is : (laidL.filter fun x => ["unicode/utf8.first"].contains x.1) = [("unicode/utf8.first", Rows.laid_unicode_utf8_first)] := by kernel_rfl
theorem door_met (os : Os) (args : Array Value) : laidMetH Tryd.prog laidL ((doorW os).forCall (fun _ _ => 0) ⟨#[], args, []⟩).memory := by
  rw [MakeChecks.laidMetH_plain _ _ _ (by kernel_rfl)]
  exact laidMet_layVars (w0 := World.doorLaid Tryd.prog 400 os) ["unicode/utf8.first"] [2, 3, 4, 6, 7, 9, 10, 11, 12, 13, 14, 15, 16] (by rw [great_is]; simp [World.memory, World.forCall, Input.heap]; rfl) (by kernel_rfl) (by kernel_rfl) (LaidIn.of_run _ 8 (by kernel_rfl) (by kernel_rfl) (by kernel_rfl) (by kernel_rfl))
set_option maxRecDepth 100000 in
theorem lifted (os : Os) (started : os.Started) (H : Type) (enc : TypeId × Value → H) :
    ReturnsInHanded {} Tryd.checked os 3 .any (fun w args => (Rows.textBytesSpec.pre enc Tryd.prog Tryd.f3 [] false w args ∧ laidMetH Tryd.prog laidL w) ∧ sizedMet enc Tryd.prog Tryd.f3 (OpenSpec.ofChange Rows.textBytesSpec) false w args)
      (Rows.textBytesSpec.post enc Tryd.prog Tryd.f3 false true false false) := by
  refine returnsInHanded_of_change_and (C := Tryd.checked) (X := fun w _ => laidMetH Tryd.prog laidL w) (fun _ _ _ hh h => h.of_heap hh) ownKnob_is started (by kernel_rfl) Tryd.func3
    (ChangeSpec.witness_shaped (enc := enc) (C := Tryd.checked) (os := os) (X := fun w _ => laidMetH Tryd.prog laidL w) false (doorW os) #[.slice none 0 0, .string ⟨#[]⟩] 8 (World.layVars_os _ _ _) (World.shaped_of_RefB (by kernel_rfl) (by kernel_rfl)) (by kernel_rfl) (by kernel_rfl) (by kernel_rfl) (door_met os _)) ?_
  intro W base args ds gs before hval0 hW _ _ hL _
  have hval : ∀ (j : Nat) t v, Tryd.f3.params[j]? = some t → args[j]? = some v → Value.okWide Tryd.prog W .any base t v := hval0
  have hW' := hW
  obtain ⟨p, q, hA0, hV, rfl, hfz, hnd⟩ := hW
  have hA : DataW.TrodAll enc Tryd.prog W 0 (fun _ => true) true Tryd.f3.params.toList args.toList ds p := hA0
  rw [Tryd.params3] at hA hval
  obtain ⟨v0, vs0, d0, ds0, p0, q0, hargs, rfl, rfl, h0, t0⟩ := trodAll_cons hA
  obtain ⟨v1, vs1, d1, ds1, p1, q1, rfl, rfl, rfl, h1, t1⟩ := trodAll_cons t0
  obtain ⟨rfl, rfl, rfl⟩ := trodAll_nil t1
  obtain rfl : args = #[v0, v1] := by cases args; simp_all
  obtain ⟨rfl, rfl⟩ := trodVars_none hV
  have k0 := h0
  have lt0 : ∀ x ∈ p0, x.block < W.heap.size := by obtain ⟨m, hm⟩ := k0; exact DataW.trod_lt m _ _ _ hm
  obtain ⟨s, rfl, rfl, rfl, ws⟩ := Go.ChangeMaps.open_string Tryd.underlying9 (hval 1 9 v1 rfl rfl) h1
  have i0 := Dg.ints_arg Tryd.underlying22 Tryd.underlying5 (by kernel_rfl) (hval 0 22 v0 rfl rfl) h0
  have hcall := walk W hL v0 i0 s
  clear hA0 hval0
  simp only [List.append_nil] at hW'
  refine hcall.mono fun e W' ⟨he, bel⟩ => ?_
  subst he
  exact ⟨_, rfl, _, _, _, [], _, [], hW', trodAll_mk1 (shut_bool Tryd.underlying4 _), trodAll_cons_mk (Below.trod laidOut (by kernel_rfl) (of_decide_eq_true (by kernel_rfl)) k0 bel lt0) (trodAll_cons_mk (Go.ChangeMaps.shut_string Tryd.underlying9 ws) trodAll_mk0), rfl, bel.frame _, fun h => by cases h⟩

theorem row_holds : Rows.TextBytesSaid :=
  OpenClaim.holds_of_wide 3 Tryd.f3 rfl rfl rfl rfl rfl rfl rfl ⟨rfl, rfl, rfl, rfl, rfl⟩ rfl rfl rfl rfl rfl (by kernel_rfl) Tryd.func3 (by kernel_rfl)
    (of_decide_eq_true (by kernel_rfl)) (by unfold Func.isWrapper; first | (rw [if_pos (by decide +kernel)]; kernel_rfl) | (rw [if_neg (by decide +kernel)]; exact ⟨rfl, rfl⟩))
    (fun os started H enc _ => lifted os started H enc)

theorem proved : Rows.TextBytesCardSaid :=
  Claim7.holds_tied_plain_at .later [] [.data, .data, .data, .data, .sentinel, .sentinel, .pinned] true (true, "423198185860df81dbb591e36774d2ec676d829a9687c254b2245dc6e3516bcf") true
    row_holds (fun _ h => by cases h) (by kernel_rfl) (fun _ h => by cases h) textBytes_row_tie rfl ⟨rfl, rfl⟩ (by kernel_rfl) rfl
    (fun f fn hf hfn => by
      obtain rfl : f = 3 := Option.some.inj ((show Tryd.prog.funcNamed "horologe/horologelaw04.TextBytes" = some 3 by kernel_rfl).symm.trans hf) |>.symm
      obtain rfl : fn = Tryd.f3 := (Option.some.inj (Tryd.func3.symm.trans hfn)).symm
      exact ⟨by kernel_rfl, fun j t ht => by
        rw [Tryd.params3] at ht
        have hm : t ∈ [22, 9] := by simpa using Array.mem_of_getElem? ht
        have hall : ([22, 9].all fun u => !Tryd.prog.wantsStandIn u) = true := by kernel_rfl
        exact (show Tryd.prog.wantsStandIn t = false by simpa using List.all_eq_true.1 hall t hm)⟩)
    (by kernel_rfl)
#print axioms proved
end Go.Proofs.YtflgpkkbifkpoaaDoor.textBytes
