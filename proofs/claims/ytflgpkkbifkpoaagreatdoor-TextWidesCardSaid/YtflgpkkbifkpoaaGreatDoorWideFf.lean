/- The oracle of the row 'TextWides': text.DecWide and text.UndecWide by what they come to; the reference's numbers; the chapter's examples as they are run. The row 'TextWides': its rounds. The row 'TextWides': its run comes to 'true'. -/
import Derived.Test.YtflgpkkbifkpoaaGreatDoorRows
import Derived.Test.YtflgpkkbifkpoaaGreatDoorWideDd
import Derived.Test.YtflgpkkbifkpoaaGreatDoorWideEe
namespace Go.Proofs.YtflgpkkbifkpoaaGreatDoor.num
open Go.Dg (St Ex Ev Hint evCall bodied noOver sbOf Heap AObj SCall Law ofLaw flatOver)
open Go.Proofs.YtflgpkkbifkpoaaGreatDoor.text (ui pow10L)
set_option linter.unusedVariables false

theorem glob_cell {M : Dg.Emb} {N : Nat} {H : Heap} {w : World} (hg : Dg.Globs 10 M) (hr : Dg.HRel M N H w) {g : Nat} (hg10 : g < 10) {cs : List Value} {e md esz : Nat} (h : H.get g = .cells cs e md esz) {i : Nat} {v : Value} (hv : cs[i]? = some v) :
    ∃ v', w.cell? ⟨g, i, none⟩ = some v' ∧ Dg.VRel M v v' := by
  obtain ⟨b, o, sp, h1, h2⟩ := hr.obj g (by rw [h]; rfl)
  rw [hg g hg10] at h1
  cases h1
  rw [h] at h2
  obtain ⟨C, fz, h3, _, h4, _⟩ := h2
  obtain ⟨v', h5, h6⟩ := h4 i v hv
  refine ⟨v', ?_, h6⟩
  rw [Nat.zero_add] at h5
  simp [World.cell?, h3, h5]
theorem pow10_at : ui .u64 pow10L = (List.range 20).map fun i => Value.int .u64 ((10 ^ i : Nat) : Int) := by kernel_rfl
theorem pow10_flat : Dg.flatL (ui .u64 pow10L) = true := by kernel_rfl
theorem tab_of {M : Dg.Emb} {N : Nat} {H : Heap} {w : World} (hg : Dg.Globs 10 M) (hr : Dg.HRel M N H w) (h : TabOk H) : Tab w := by
  obtain ⟨e, h⟩ := h
  intro i hi
  obtain ⟨v', h1, h2⟩ := glob_cell hg hr (by decide) h (i := i) (v := .int .u64 ((10 ^ i : Nat) : Int)) (by rw [pow10_at]; simp [hi])
  rw [h1, h2.eq_of_flat rfl]
theorem keep_of {f : FuncId} {args args' : List Value} {v : Value} {M : Dg.Emb} {N : Nat} {H : Heap} {w : World} (hr : Dg.HRel M N H w) (ha : Dg.flatL args = true) (hv : Dg.flat v = true) (hl : Dg.LRel M args args')
    (hc : Calls Tryz.prog f args.toArray w fun e w' => e = .returned v ∧ RowKit.Below w.heap.size w w') : Calls Tryz.prog f args'.toArray w fun e w' => ∃ M' v', e = .returned v' ∧ Dg.VRel M' v v' ∧ Dg.Stp N M H w M' H w' := by
  have e : args' = args := hl.eq_of_flat ha
  rw [e]
  exact hc.mono fun e w' ⟨he, hb⟩ => ⟨M, v, he, Dg.vrel_of_flat _ _ hv, .of_below hr hb⟩
/-- Where the table lies, for a call that reads nothing else. -/
def LT (e : TypeId) : List (Nat × Nat × AObj) := [(0, 0, .dead), (1, 0, .dead), (2, 0, .dead), (3, 0, .dead), (4, 0, .dead), (5, 0, .cells kpPow e 6 1), (6, 0, .dead), (7, 0, .dead), (8, 0, .dead), (9, 0, .dead)]
theorem LT_heap (e : TypeId) : Dg.heapOf (LT e) = Hx e [] := rfl
theorem LT_globs (e : TypeId) : Dg.Globs 10 (Dg.embOf (LT e)) := by
  intro g hg
  match g, hg with
  | 0, _ => rfl
  | 1, _ => rfl
  | 2, _ => rfl
  | 3, _ => rfl
  | 4, _ => rfl
  | 5, _ => rfl
  | 6, _ => rfl
  | 7, _ => rfl
  | 8, _ => rfl
  | 9, _ => rfl
theorem tab_calls {over : Ev} (hover : Dg.CallOk Tryz.prog 10 over ∧ Dg.CallLog over) {sb : List Nat} {lf n : Nat} {f : FuncId} {args : List Value} {v : Value} (h : ∀ e, (evCall Tryz.prog 10 (bodied Tryz.prog) over sb lf n f args (Hx e [])).map (·.1) = some v)
    (ha : Dg.flatL args = true) (hv : Dg.flat v = true) (hfY : Nat.ble Dg.Y f = false) {M : Dg.Emb} {N : Nat} {H : Heap} {w : World} (hg : Dg.Globs 10 M) (hr : Dg.HRel M N H w) (ht : TabOk H) : Calls Tryz.prog f args.toArray w fun e w' => e = .returned v ∧ RowKit.Below w.heap.size w w' := by
  obtain ⟨e, ht⟩ := ht
  obtain ⟨b, o, sp, h1, h2⟩ := hr.obj 5 (by rw [ht]; rfl)
  rw [hg 5 (by decide)] at h1
  cases h1
  rw [ht] at h2
  obtain ⟨C, fz, k1, k2, k3, _, k5, k6⟩ := h2
  refine Dg.open_callG mixed okB hover (LT e) (LT_globs e) (fun x hx => ?_) (Dg.LRel.of_flat _ ha) (by rw [LT_heap]; exact h e) hv hfY
  simp only [LT, List.mem_cons, List.not_mem_nil, or_false] at hx
  rcases hx with rfl | rfl | rfl | rfl | rfl | rfl | rfl | rfl | rfl | rfl
  case inr.inr.inr.inr.inr.inl =>
    refine ⟨rfl, fun N' => ⟨C, fz, k1, by simpa [kpPow] using k2, fun i v' hv' => ?_, fun hc => absurd rfl hc, fun _ => rfl, fun _ => pow10_flat⟩⟩
    obtain ⟨u, u1, u2⟩ := k3 i v' hv'
    have hfl := Dg.flatL_get _ pow10_flat i v' hv'
    have := u2.eq_of_flat hfl
    subst this
    exact ⟨_, u1, Dg.vrel_of_flat _ _ hfl⟩
  all_goals exact ⟨rfl, fun N' => True.intro⟩
theorem ovD_ok : Dg.CallOk Tryz.prog 10 ovD ∧ Dg.CallLog ovD := by
  have hf := Dg.flatOver_ok (P := Tryz.prog) (G := 10) p4_flats
  constructor
  · intro f args H v H' log he hY N M w args' hg hr hl
    have hl' : Dg.LRel M args args'.toList := hl
    unfold ovD at he
    split at he
    · obtain ⟨n, rfl, h0, h1, ht, e⟩ := Dg.ofLaw_inv he
      cases e
      exact keep_of hr rfl rfl hl' (dec_calls n h0 h1 w (tab_of hg hr ht))
    · obtain ⟨n, rfl, h0, ht, e⟩ := Dg.ofLaw_inv he
      cases e
      exact keep_of hr rfl rfl hl' (uns_calls n h0 w (tab_of hg hr ht))
    · exact hf.1 _ args H v H' log he hY N M w args' hg hr hl
  · intro f args H v H' log he
    unfold ovD at he
    split at he
    · obtain ⟨n, rfl, h0, h1, ht, e⟩ := Dg.ofLaw_inv he
      cases e
      exact fun hlen => ⟨hlen, Nat.le_refl _, fun k _ _ => rfl⟩
    · obtain ⟨n, rfl, h0, ht, e⟩ := Dg.ofLaw_inv he
      cases e
      exact fun hlen => ⟨hlen, Nat.le_refl _, fun k _ _ => rfl⟩
    · exact hf.2 _ args H v H' log he
theorem ovU_ok : Dg.CallOk Tryz.prog 10 ovU ∧ Dg.CallLog ovU := by
  have hf := Dg.flatOver_ok (P := Tryz.prog) (G := 10) p5_flats
  constructor
  · intro f args H v H' log he hY N M w args' hg hr hl
    have hl' : Dg.LRel M args args'.toList := hl
    unfold ovU at he
    split at he
    · obtain ⟨n, rfl, h0, ht, e⟩ := Dg.ofLaw_inv he
      cases e
      exact keep_of hr rfl rfl hl' (tab_calls ovD_ok (fun e => by rw [dw_all e h0]; rfl) rfl rfl rfl hg hr ht)
    · exact hf.1 _ args H v H' log he hY N M w args' hg hr hl
  · intro f args H v H' log he
    unfold ovU at he
    split at he
    · obtain ⟨n, rfl, h0, ht, e⟩ := Dg.ofLaw_inv he
      cases e
      exact fun hlen => ⟨hlen, Nat.le_refl _, fun k _ _ => rfl⟩
    · exact hf.2 _ args H v H' log he
def CUndW : Law := fun args H r => ∃ s : ByteArray, args = [.string s] ∧ TabOk H ∧ r = (.tuple #[wv (undecWV s.data.toList).1, .bool (undecWV s.data.toList).2], H, [])
theorem CUndW_uniq : ∀ args H r r', CUndW args H r → CUndW args H r' → r = r' := by
  rintro args H r r' ⟨n, h, _, rfl⟩ ⟨m, h', _, rfl⟩
  rw [h] at h'
  injection h' with h1
  injection h1 with h2
  rw [h2]
theorem und_calls (s : ByteArray) {M : Dg.Emb} {N : Nat} {H : Heap} {w : World} (hg : Dg.Globs 10 M) (hr : Dg.HRel M N H w) (ht : TabOk H) : Calls Tryz.prog 10 #[.string s] w fun e w' => e = .returned (.tuple #[wv (undecWV s.data.toList).1, .bool (undecWV s.data.toList).2]) ∧ RowKit.Below w.heap.size w w' :=
  tab_calls ovU_ok (fun e => by rw [und_all e s]; rfl) rfl rfl rfl hg hr ht
noncomputable def ovW : Ev := fun f args H => match f with
  | 5 => evCall Tryz.prog 10 (bodied Tryz.prog) noOver text.sbs 1000 20 5 args H
  | 6 => ofLaw CDecW args H
  | 10 => ofLaw CUndW args H
  | f => flatOver o6 f args H
theorem ovW_ok : Dg.CallOk Tryz.prog 10 ovW ∧ Dg.CallLog ovW := by
  have hk := Dg.evCall_ok (G := 10) mixed okB (Dg.CallOk.anyG (Dg.noOver_ok (P := Tryz.prog) (G := 0)).1) (Dg.noOver_ok (P := Tryz.prog) (G := 0)).2 text.sbs 1000 20
  have hf := Dg.flatOver_ok (P := Tryz.prog) (G := 10) o6_flats
  constructor
  · intro f args H v H' log he hY N M w args' hg hr hl
    have hl' : Dg.LRel M args args'.toList := hl
    unfold ovW at he
    split at he
    · exact hk.1 5 args H v H' log he hY N M w args' hg hr hl
    · obtain ⟨n, rfl, h0, ht, e⟩ := Dg.ofLaw_inv he
      cases e
      exact keep_of hr rfl rfl hl' (tab_calls ovD_ok (fun e => by rw [dw_all e h0]; rfl) rfl rfl rfl hg hr ht)
    · obtain ⟨s, rfl, ht, e⟩ := Dg.ofLaw_inv he
      cases e
      exact keep_of hr rfl rfl hl' (und_calls s hg hr ht)
    · exact hf.1 _ args H v H' log he hY N M w args' hg hr hl
  · intro f args H v H' log he
    unfold ovW at he
    split at he
    · exact hk.2.2 5 args H v H' log he
    · obtain ⟨n, rfl, h0, ht, e⟩ := Dg.ofLaw_inv he
      cases e
      exact fun hlen => ⟨hlen, Nat.le_refl _, fun k _ _ => rfl⟩
    · obtain ⟨s, rfl, ht, e⟩ := Dg.ofLaw_inv he
      cases e
      exact fun hlen => ⟨hlen, Nat.le_refl _, fun k _ _ => rfl⟩
    · exact hf.2 _ args H v H' log he
end Go.Proofs.YtflgpkkbifkpoaaGreatDoor.num

namespace Go.Proofs.YtflgpkkbifkpoaaGreatDoor.num
open Go.Dg (junk St Ex Ev Hint evCall evCallS evCode evCodeK innerKp evCodeS evLoop cleanSt ue bodied noOver sbOf headOf tailOf bodyOf rAssign rBody lBody Flats flatOver Heap AObj SCall Law ofLaw Fix)
open Go.Proofs.YtflgpkkbifkpoaaGreatDoor.text (ui pow10L)
set_option linter.unusedVariables false
set_option linter.unusedSimpArgs false

noncomputable def sb3 : List Nat := sbs.set 3 7
/-- The heap that the law finds; its other tables left open. -/
def Hn (t : Nat → List Value) (E : Nat → TypeId) (u v : TypeId) (r : List AObj) : Heap := ⟨12 + r.length, r ++ [.dead, .dead, .cells (t 9) (E 9) 6 1, .cells (t 8) (E 8) 6 1, .cells (t 7) (E 7) 6 1, .cells (t 6) (E 6) 6 1, .cells kpPow (E 5) 6 1,
  .cells [.iface v (.pointer (some ⟨11, 0, none⟩))] (E 4) 2 1, .cells [.iface u (.pointer (some ⟨10, 0, none⟩))] (E 3) 2 1, .dead, .dead, .dead]⟩
section
variable {G : Nat} {ok : List Bool} {sb : List Nat} {lf m : Nat} {H : Heap} {args : List Value} {v : Value}
theorem tFrom (h : o6 8 args = some v) : evCall Tryz.prog G ok ovW sb lf (m + 1) 8 args H = some (v, H, []) := Dg.evCall_over (show flatOver o6 8 args H = _ from told h)
theorem tWide (h : o6 12 args = some v) : evCall Tryz.prog G ok ovW sb lf (m + 1) 12 args H = some (v, H, []) := Dg.evCall_over (show flatOver o6 12 args H = _ from told h)
theorem tEnds (h : o6 9 args = some v) : evCall Tryz.prog G ok ovW sb lf (m + 1) 9 args H = some (v, H, []) := Dg.evCall_over (show flatOver o6 9 args H = _ from told h)
theorem tNum (h : o6 7 args = some v) : evCall Tryz.prog G ok ovW sb lf (m + 1) 7 args H = some (v, H, []) := Dg.evCall_over (show flatOver o6 7 args H = _ from told h)
theorem tUnnum (h : o6 11 args = some v) : evCall Tryz.prog G ok ovW sb lf (m + 1) 11 args H = some (v, H, []) := Dg.evCall_over (show flatOver o6 11 args H = _ from told h)
theorem tDecW {n h l : Int} {s : ByteArray} (hn : InW n) (hw : wv n = wd h l) (hs : s = decV n) (ht : ∃ e, H.get 5 = .cells kpPow e 6 1) : evCall Tryz.prog G ok ovW sb lf (m + 1) 6 [wd h l] H = some (.string s, H, []) :=
  Dg.evCall_over (Dg.ofLaw_is CDecW_uniq ⟨n, by rw [hw], hn, ht, by rw [hs]⟩)
theorem tUndW {x : ByteArray} {a h l : Int} {b : Bool} (hu : undecWV x.data.toList = (a, b)) (hw : wv a = wd h l) (ht : ∃ e, H.get 5 = .cells kpPow e 6 1) : evCall Tryz.prog G ok ovW sb lf (m + 1) 10 [.string x] H = some (.tuple #[wd h l, .bool b], H, []) :=
  Dg.evCall_over (Dg.ofLaw_is CUndW_uniq ⟨x, rfl, ht, by rw [hu, hw]⟩)
end
noncomputable def l3 : Code := lBody ((Tryz.f3.body).getD .skip)
noncomputable abbrev run3 : St → Option (Ex × St) := evCodeK Tryz.prog 10 (bodied Tryz.prog) (evCall Tryz.prog 10 (bodied Tryz.prog) ovW sb3 1000 19) 12 7 1000 l3 (innerKp l3 [])
noncomputable abbrev cl3 : St → St := cleanSt 12 7 (ue l3 [] []).1
def H3 (t : Nat → List Value) (E : Nat → TypeId) (u' v' : TypeId) (wh wl : Int) (lm hm : Nat) (s d : ByteArray) : Heap := Hn t E u' v' [.cells [.string s, .string d] 9 4 1, oN false (lim hm), oN true (lim lm), .cells [.int .i64 wh, .int .u64 wl] 24 4 1]
def S3 (t : Nat → List Value) (E : Nat → TypeId) (u' v' : TypeId) (wh wl : Int) (lm hm : Nat) (s d : ByteArray) (i : Nat) : St := ⟨[wd wh wl, .string s, ptr 12, undef, .bool false, ptr 13, ptr 14] ++ (js 24 ++ ([.slice (some ⟨15, 0, none⟩) 2 2, .int .i64 2, .int .i64 i] ++ js 37)), H3 t E u' v' wh wl lm hm s d, []⟩
def E3 (t : Nat → List Value) (E : Nat → TypeId) (u' v' : TypeId) (wh wl : Int) (lm hm : Nat) (s d : ByteArray) : St := ⟨[wd wh wl, .string s, ptr 12, undef, .bool false, ptr 13, ptr 14] ++ (js 24 ++ ([.slice (some ⟨15, 0, none⟩) 2 2, .int .i64 2, .int .i64 2, .bool false] ++ js 36)), H3 t E u' v' wh wl lm hm s d, []⟩
theorem get2 {s d x : ByteArray} {i : Nat} (hi : i < 2) (h : [s, d][i]? = some x) : [Value.string s, Value.string d][i]? = some (.string x) := by
  match i, hi with
  | 0, _ => simpa using h
  | 1, _ => simpa using h
theorem neSelf (d : ByteArray) : Value.bool (!(d.toList == d.toList)) = .bool false := by simp
--< wrT
theorem wrT (t : Nat → List Value) (E : Nat → TypeId) (u' : TypeId) (v' : TypeId) (wh : Int) (wl : Int) (lm : Nat) (hm : Nat) (s : ByteArray) (d : ByteArray) (x : ByteArray) (i : Nat) (hi : i < 2) (hx : [s, d][i]? = some x) (a : Int) (ah : Int) (al : Int) (wb : Bool) (w : Nat) (h1 : undecWV x.data.toList = (a, true)) (ha : wv a = wd ah al) (h2 : o6 11 [Value.string x, num true lm, num false hm] = some (Value.tuple #[num wb w, Value.bool true])) (h3 : o6 12 [num wb w] = some (wd ah al)) :
    ∃ s', run3 (S3 t E u' v' wh wl lm hm s d i) = some (Ex.normal, s') ∧ cl3 s' = S3 t E u' v' wh wl lm hm s d (i + 1) :=
  Dg.code_round (f := 3) cl3 (hs := [Hint.val 3 34 (Value.bool true),
    Hint.soft 3 35 (Value.pointer (some { block := 15, off := i })),
    Hint.soft 3 36 (Value.string x),
    Hint.call 10 (Value.tuple { toList := [Value.agg #[Value.int IntKind.i64 ah, Value.int IntKind.u64 al], Value.bool true] }) { n := 16, objs := [AObj.cells [Value.string s, Value.string d] 9 4 1, AObj.cells (kpN false (lim hm)) 30 4 1, AObj.cells (kpN true (lim lm)) 30 4 1, AObj.cells [Value.int IntKind.i64 wh, Value.int IntKind.u64 wl] 24 4 1, AObj.dead, AObj.dead, AObj.cells (t 9) (E 9) 6 1, AObj.cells (t 8) (E 8) 6 1, AObj.cells (t 7) (E 7) 6 1, AObj.cells (t 6) (E 6) 6 1, AObj.cells kpPow (E 5) 6 1, AObj.cells [Value.iface v' (Value.pointer (some { block := 11, off := 0 }))] (E 4) 2 1, AObj.cells [Value.iface u' (Value.pointer (some { block := 10, off := 0 }))] (E 3) 2 1, AObj.dead, AObj.dead, AObj.dead] } [],
    Hint.call 11 (Value.tuple { toList := [Value.agg { toList := kpN wb (lim w) }, Value.bool true] }) { n := 17, objs := [AObj.cells [Value.int IntKind.i64 ah, Value.int IntKind.u64 al] 24 0 1, AObj.cells [Value.string s, Value.string d] 9 4 1, AObj.cells (kpN false (lim hm)) 30 4 1, AObj.cells (kpN true (lim lm)) 30 4 1, AObj.cells [Value.int IntKind.i64 wh, Value.int IntKind.u64 wl] 24 4 1, AObj.dead, AObj.dead, AObj.cells (t 9) (E 9) 6 1, AObj.cells (t 8) (E 8) 6 1, AObj.cells (t 7) (E 7) 6 1, AObj.cells (t 6) (E 6) 6 1, AObj.cells kpPow (E 5) 6 1, AObj.cells [Value.iface v' (Value.pointer (some { block := 11, off := 0 }))] (E 4) 2 1, AObj.cells [Value.iface u' (Value.pointer (some { block := 10, off := 0 }))] (E 3) 2 1, AObj.dead, AObj.dead, AObj.dead] } [],
    Hint.call 12 (Value.agg #[Value.int IntKind.i64 ah, Value.int IntKind.u64 al]) { n := 10, objs := [AObj.dead, AObj.dead, AObj.dead, AObj.dead, AObj.dead, AObj.dead, AObj.dead, AObj.dead, AObj.dead, AObj.dead] } [],
    Hint.val 3 58 (Value.bool false),
    Hint.val 3 70 (Value.int IntKind.i64 (↑(i + 1) : Int))])
    [Value.bool (decide ((↑i : Int) < (2 : Int))) = Value.bool true,
    (0 : Int) ≤ (↑i : Int) ∧ (↑i : Int) < (↑(2 : Nat) : Int),
    Value.pointer (some { block := (15 : Nat), off := (0 : Nat) + Int.toNat (↑i : Int) * (1 : Nat) }) = Value.pointer (some { block := (15 : Nat), off := i }),
    [Value.string s, Value.string d][i]? = some (Value.string x),
    evCall Tryz.prog 10 (bodied Tryz.prog) ovW sb3 1000 19 10 [Value.string x] { n := 16, objs := [AObj.cells [Value.string s, Value.string d] 9 4 1, AObj.cells (kpN false (lim hm)) 30 4 1, AObj.cells (kpN true (lim lm)) 30 4 1, AObj.cells [Value.int IntKind.i64 wh, Value.int IntKind.u64 wl] 24 4 1, AObj.dead, AObj.dead, AObj.cells (t 9) (E 9) 6 1, AObj.cells (t 8) (E 8) 6 1, AObj.cells (t 7) (E 7) 6 1, AObj.cells (t 6) (E 6) 6 1, AObj.cells kpPow (E 5) 6 1, AObj.cells [Value.iface v' (Value.pointer (some { block := 11, off := 0 }))] (E 4) 2 1, AObj.cells [Value.iface u' (Value.pointer (some { block := 10, off := 0 }))] (E 3) 2 1, AObj.dead, AObj.dead, AObj.dead] } = some (Value.tuple { toList := [Value.agg #[Value.int IntKind.i64 ah, Value.int IntKind.u64 al], Value.bool true] }, { n := 16, objs := [AObj.cells [Value.string s, Value.string d] 9 4 1, AObj.cells (kpN false (lim hm)) 30 4 1, AObj.cells (kpN true (lim lm)) 30 4 1, AObj.cells [Value.int IntKind.i64 wh, Value.int IntKind.u64 wl] 24 4 1, AObj.dead, AObj.dead, AObj.cells (t 9) (E 9) 6 1, AObj.cells (t 8) (E 8) 6 1, AObj.cells (t 7) (E 7) 6 1, AObj.cells (t 6) (E 6) 6 1, AObj.cells kpPow (E 5) 6 1, AObj.cells [Value.iface v' (Value.pointer (some { block := 11, off := 0 }))] (E 4) 2 1, AObj.cells [Value.iface u' (Value.pointer (some { block := 10, off := 0 }))] (E 3) 2 1, AObj.dead, AObj.dead, AObj.dead] }, []),
    evCall Tryz.prog 10 (bodied Tryz.prog) ovW sb3 1000 19 11 [Value.string x, Value.agg #[Value.bool true, Value.int IntKind.u64 (lim lm 0), Value.int IntKind.u64 (lim lm 1), Value.int IntKind.u64 (lim lm 2), Value.int IntKind.u64 (lim lm 3), Value.int IntKind.u64 (lim lm 4), Value.int IntKind.u64 (lim lm 5), Value.int IntKind.u64 (lim lm 6), Value.int IntKind.u64 (lim lm 7), Value.int IntKind.u64 (lim lm 8), Value.int IntKind.u64 (lim lm 9), Value.int IntKind.u64 (lim lm 10), Value.int IntKind.u64 (lim lm 11), Value.int IntKind.u64 (lim lm 12), Value.int IntKind.u64 (lim lm 13), Value.int IntKind.u64 (lim lm 14), Value.int IntKind.u64 (lim lm 15), Value.int IntKind.u64 (lim lm 16), Value.int IntKind.u64 (lim lm 17), Value.int IntKind.u64 (lim lm 18), Value.int IntKind.u64 (lim lm 19)], Value.agg #[Value.bool false, Value.int IntKind.u64 (lim hm 0), Value.int IntKind.u64 (lim hm 1), Value.int IntKind.u64 (lim hm 2), Value.int IntKind.u64 (lim hm 3), Value.int IntKind.u64 (lim hm 4), Value.int IntKind.u64 (lim hm 5), Value.int IntKind.u64 (lim hm 6), Value.int IntKind.u64 (lim hm 7), Value.int IntKind.u64 (lim hm 8), Value.int IntKind.u64 (lim hm 9), Value.int IntKind.u64 (lim hm 10), Value.int IntKind.u64 (lim hm 11), Value.int IntKind.u64 (lim hm 12), Value.int IntKind.u64 (lim hm 13), Value.int IntKind.u64 (lim hm 14), Value.int IntKind.u64 (lim hm 15), Value.int IntKind.u64 (lim hm 16), Value.int IntKind.u64 (lim hm 17), Value.int IntKind.u64 (lim hm 18), Value.int IntKind.u64 (lim hm 19)]] { n := 17, objs := [AObj.cells [Value.int IntKind.i64 ah, Value.int IntKind.u64 al] 24 0 1, AObj.cells [Value.string s, Value.string d] 9 4 1, AObj.cells (kpN false (lim hm)) 30 4 1, AObj.cells (kpN true (lim lm)) 30 4 1, AObj.cells [Value.int IntKind.i64 wh, Value.int IntKind.u64 wl] 24 4 1, AObj.dead, AObj.dead, AObj.cells (t 9) (E 9) 6 1, AObj.cells (t 8) (E 8) 6 1, AObj.cells (t 7) (E 7) 6 1, AObj.cells (t 6) (E 6) 6 1, AObj.cells kpPow (E 5) 6 1, AObj.cells [Value.iface v' (Value.pointer (some { block := 11, off := 0 }))] (E 4) 2 1, AObj.cells [Value.iface u' (Value.pointer (some { block := 10, off := 0 }))] (E 3) 2 1, AObj.dead, AObj.dead, AObj.dead] } = some (Value.tuple { toList := [Value.agg { toList := kpN wb (lim w) }, Value.bool true] }, { n := 17, objs := [AObj.cells [Value.int IntKind.i64 ah, Value.int IntKind.u64 al] 24 0 1, AObj.cells [Value.string s, Value.string d] 9 4 1, AObj.cells (kpN false (lim hm)) 30 4 1, AObj.cells (kpN true (lim lm)) 30 4 1, AObj.cells [Value.int IntKind.i64 wh, Value.int IntKind.u64 wl] 24 4 1, AObj.dead, AObj.dead, AObj.cells (t 9) (E 9) 6 1, AObj.cells (t 8) (E 8) 6 1, AObj.cells (t 7) (E 7) 6 1, AObj.cells (t 6) (E 6) 6 1, AObj.cells kpPow (E 5) 6 1, AObj.cells [Value.iface v' (Value.pointer (some { block := 11, off := 0 }))] (E 4) 2 1, AObj.cells [Value.iface u' (Value.pointer (some { block := 10, off := 0 }))] (E 3) 2 1, AObj.dead, AObj.dead, AObj.dead] }, []),
    evCall Tryz.prog 10 (bodied Tryz.prog) ovW sb3 1000 19 12 [Value.agg #[Value.bool wb, Value.int IntKind.u64 (lim w 0), Value.int IntKind.u64 (lim w 1), Value.int IntKind.u64 (lim w 2), Value.int IntKind.u64 (lim w 3), Value.int IntKind.u64 (lim w 4), Value.int IntKind.u64 (lim w 5), Value.int IntKind.u64 (lim w 6), Value.int IntKind.u64 (lim w 7), Value.int IntKind.u64 (lim w 8), Value.int IntKind.u64 (lim w 9), Value.int IntKind.u64 (lim w 10), Value.int IntKind.u64 (lim w 11), Value.int IntKind.u64 (lim w 12), Value.int IntKind.u64 (lim w 13), Value.int IntKind.u64 (lim w 14), Value.int IntKind.u64 (lim w 15), Value.int IntKind.u64 (lim w 16), Value.int IntKind.u64 (lim w 17), Value.int IntKind.u64 (lim w 18), Value.int IntKind.u64 (lim w 19)]] { n := 10, objs := [AObj.dead, AObj.dead, AObj.dead, AObj.dead, AObj.dead, AObj.dead, AObj.dead, AObj.dead, AObj.dead, AObj.dead] } = some (Value.agg #[Value.int IntKind.i64 ah, Value.int IntKind.u64 al], { n := 10, objs := [AObj.dead, AObj.dead, AObj.dead, AObj.dead, AObj.dead, AObj.dead, AObj.dead, AObj.dead, AObj.dead, AObj.dead] }, []),
    Value.bool (if false = true then ah == ah && (al == al && true) else !(ah == ah && (al == al && true))) = Value.bool false,
    Value.int IntKind.i64 (IntKind.wrap IntKind.i64 ((↑i : Int) + (1 : Int))) = Value.int IntKind.i64 (↑(i + (1 : Nat)) : Int)] (by kernel_rfl)
    ⟨Dg.vtrue (by omega), by omega, Dg.ptr_eq (by omega), get2 hi hx, tUndW h1 ha ⟨_, rfl⟩, tUnnum h2, tWide h3, Dg.bool_eq (by simp), inc64 (by omega), trivial⟩
--> wrT
--< wrF
theorem wrF (t : Nat → List Value) (E : Nat → TypeId) (u' : TypeId) (v' : TypeId) (wh : Int) (wl : Int) (lm : Nat) (hm : Nat) (s : ByteArray) (d : ByteArray) (x : ByteArray) (i : Nat) (hi : i < 2) (hx : [s, d][i]? = some x) (a : Int) (wb : Bool) (w : Nat) (h1 : undecWV x.data.toList = (a, false)) (ha : wv a = wd 0 0) (h2 : o6 11 [Value.string x, num true lm, num false hm] = some (Value.tuple #[num wb w, Value.bool false])) :
    ∃ s', run3 (S3 t E u' v' wh wl lm hm s d i) = some (Ex.normal, s') ∧ cl3 s' = S3 t E u' v' wh wl lm hm s d (i + 1) :=
  Dg.code_round (f := 3) cl3 (hs := [Hint.val 3 34 (Value.bool true),
    Hint.soft 3 35 (Value.pointer (some { block := 15, off := i })),
    Hint.soft 3 36 (Value.string x),
    Hint.call 10 (Value.tuple { toList := [Value.agg #[Value.int IntKind.i64 0, Value.int IntKind.u64 0], Value.bool false] }) { n := 16, objs := [AObj.cells [Value.string s, Value.string d] 9 4 1, AObj.cells (kpN false (lim hm)) 30 4 1, AObj.cells (kpN true (lim lm)) 30 4 1, AObj.cells [Value.int IntKind.i64 wh, Value.int IntKind.u64 wl] 24 4 1, AObj.dead, AObj.dead, AObj.cells (t 9) (E 9) 6 1, AObj.cells (t 8) (E 8) 6 1, AObj.cells (t 7) (E 7) 6 1, AObj.cells (t 6) (E 6) 6 1, AObj.cells kpPow (E 5) 6 1, AObj.cells [Value.iface v' (Value.pointer (some { block := 11, off := 0 }))] (E 4) 2 1, AObj.cells [Value.iface u' (Value.pointer (some { block := 10, off := 0 }))] (E 3) 2 1, AObj.dead, AObj.dead, AObj.dead] } [],
    Hint.call 11 (Value.tuple { toList := [Value.agg { toList := kpN wb (lim w) }, Value.bool false] }) { n := 17, objs := [AObj.cells [Value.int IntKind.i64 0, Value.int IntKind.u64 0] 24 0 1, AObj.cells [Value.string s, Value.string d] 9 4 1, AObj.cells (kpN false (lim hm)) 30 4 1, AObj.cells (kpN true (lim lm)) 30 4 1, AObj.cells [Value.int IntKind.i64 wh, Value.int IntKind.u64 wl] 24 4 1, AObj.dead, AObj.dead, AObj.cells (t 9) (E 9) 6 1, AObj.cells (t 8) (E 8) 6 1, AObj.cells (t 7) (E 7) 6 1, AObj.cells (t 6) (E 6) 6 1, AObj.cells kpPow (E 5) 6 1, AObj.cells [Value.iface v' (Value.pointer (some { block := 11, off := 0 }))] (E 4) 2 1, AObj.cells [Value.iface u' (Value.pointer (some { block := 10, off := 0 }))] (E 3) 2 1, AObj.dead, AObj.dead, AObj.dead] } [],
    Hint.val 3 70 (Value.int IntKind.i64 (↑(i + 1) : Int))])
    [Value.bool (decide ((↑i : Int) < (2 : Int))) = Value.bool true,
    (0 : Int) ≤ (↑i : Int) ∧ (↑i : Int) < (↑(2 : Nat) : Int),
    Value.pointer (some { block := (15 : Nat), off := (0 : Nat) + Int.toNat (↑i : Int) * (1 : Nat) }) = Value.pointer (some { block := (15 : Nat), off := i }),
    [Value.string s, Value.string d][i]? = some (Value.string x),
    evCall Tryz.prog 10 (bodied Tryz.prog) ovW sb3 1000 19 10 [Value.string x] { n := 16, objs := [AObj.cells [Value.string s, Value.string d] 9 4 1, AObj.cells (kpN false (lim hm)) 30 4 1, AObj.cells (kpN true (lim lm)) 30 4 1, AObj.cells [Value.int IntKind.i64 wh, Value.int IntKind.u64 wl] 24 4 1, AObj.dead, AObj.dead, AObj.cells (t 9) (E 9) 6 1, AObj.cells (t 8) (E 8) 6 1, AObj.cells (t 7) (E 7) 6 1, AObj.cells (t 6) (E 6) 6 1, AObj.cells kpPow (E 5) 6 1, AObj.cells [Value.iface v' (Value.pointer (some { block := 11, off := 0 }))] (E 4) 2 1, AObj.cells [Value.iface u' (Value.pointer (some { block := 10, off := 0 }))] (E 3) 2 1, AObj.dead, AObj.dead, AObj.dead] } = some (Value.tuple { toList := [Value.agg #[Value.int IntKind.i64 0, Value.int IntKind.u64 0], Value.bool false] }, { n := 16, objs := [AObj.cells [Value.string s, Value.string d] 9 4 1, AObj.cells (kpN false (lim hm)) 30 4 1, AObj.cells (kpN true (lim lm)) 30 4 1, AObj.cells [Value.int IntKind.i64 wh, Value.int IntKind.u64 wl] 24 4 1, AObj.dead, AObj.dead, AObj.cells (t 9) (E 9) 6 1, AObj.cells (t 8) (E 8) 6 1, AObj.cells (t 7) (E 7) 6 1, AObj.cells (t 6) (E 6) 6 1, AObj.cells kpPow (E 5) 6 1, AObj.cells [Value.iface v' (Value.pointer (some { block := 11, off := 0 }))] (E 4) 2 1, AObj.cells [Value.iface u' (Value.pointer (some { block := 10, off := 0 }))] (E 3) 2 1, AObj.dead, AObj.dead, AObj.dead] }, []),
    evCall Tryz.prog 10 (bodied Tryz.prog) ovW sb3 1000 19 11 [Value.string x, Value.agg #[Value.bool true, Value.int IntKind.u64 (lim lm 0), Value.int IntKind.u64 (lim lm 1), Value.int IntKind.u64 (lim lm 2), Value.int IntKind.u64 (lim lm 3), Value.int IntKind.u64 (lim lm 4), Value.int IntKind.u64 (lim lm 5), Value.int IntKind.u64 (lim lm 6), Value.int IntKind.u64 (lim lm 7), Value.int IntKind.u64 (lim lm 8), Value.int IntKind.u64 (lim lm 9), Value.int IntKind.u64 (lim lm 10), Value.int IntKind.u64 (lim lm 11), Value.int IntKind.u64 (lim lm 12), Value.int IntKind.u64 (lim lm 13), Value.int IntKind.u64 (lim lm 14), Value.int IntKind.u64 (lim lm 15), Value.int IntKind.u64 (lim lm 16), Value.int IntKind.u64 (lim lm 17), Value.int IntKind.u64 (lim lm 18), Value.int IntKind.u64 (lim lm 19)], Value.agg #[Value.bool false, Value.int IntKind.u64 (lim hm 0), Value.int IntKind.u64 (lim hm 1), Value.int IntKind.u64 (lim hm 2), Value.int IntKind.u64 (lim hm 3), Value.int IntKind.u64 (lim hm 4), Value.int IntKind.u64 (lim hm 5), Value.int IntKind.u64 (lim hm 6), Value.int IntKind.u64 (lim hm 7), Value.int IntKind.u64 (lim hm 8), Value.int IntKind.u64 (lim hm 9), Value.int IntKind.u64 (lim hm 10), Value.int IntKind.u64 (lim hm 11), Value.int IntKind.u64 (lim hm 12), Value.int IntKind.u64 (lim hm 13), Value.int IntKind.u64 (lim hm 14), Value.int IntKind.u64 (lim hm 15), Value.int IntKind.u64 (lim hm 16), Value.int IntKind.u64 (lim hm 17), Value.int IntKind.u64 (lim hm 18), Value.int IntKind.u64 (lim hm 19)]] { n := 17, objs := [AObj.cells [Value.int IntKind.i64 0, Value.int IntKind.u64 0] 24 0 1, AObj.cells [Value.string s, Value.string d] 9 4 1, AObj.cells (kpN false (lim hm)) 30 4 1, AObj.cells (kpN true (lim lm)) 30 4 1, AObj.cells [Value.int IntKind.i64 wh, Value.int IntKind.u64 wl] 24 4 1, AObj.dead, AObj.dead, AObj.cells (t 9) (E 9) 6 1, AObj.cells (t 8) (E 8) 6 1, AObj.cells (t 7) (E 7) 6 1, AObj.cells (t 6) (E 6) 6 1, AObj.cells kpPow (E 5) 6 1, AObj.cells [Value.iface v' (Value.pointer (some { block := 11, off := 0 }))] (E 4) 2 1, AObj.cells [Value.iface u' (Value.pointer (some { block := 10, off := 0 }))] (E 3) 2 1, AObj.dead, AObj.dead, AObj.dead] } = some (Value.tuple { toList := [Value.agg { toList := kpN wb (lim w) }, Value.bool false] }, { n := 17, objs := [AObj.cells [Value.int IntKind.i64 0, Value.int IntKind.u64 0] 24 0 1, AObj.cells [Value.string s, Value.string d] 9 4 1, AObj.cells (kpN false (lim hm)) 30 4 1, AObj.cells (kpN true (lim lm)) 30 4 1, AObj.cells [Value.int IntKind.i64 wh, Value.int IntKind.u64 wl] 24 4 1, AObj.dead, AObj.dead, AObj.cells (t 9) (E 9) 6 1, AObj.cells (t 8) (E 8) 6 1, AObj.cells (t 7) (E 7) 6 1, AObj.cells (t 6) (E 6) 6 1, AObj.cells kpPow (E 5) 6 1, AObj.cells [Value.iface v' (Value.pointer (some { block := 11, off := 0 }))] (E 4) 2 1, AObj.cells [Value.iface u' (Value.pointer (some { block := 10, off := 0 }))] (E 3) 2 1, AObj.dead, AObj.dead, AObj.dead] }, []),
    Value.int IntKind.i64 (IntKind.wrap IntKind.i64 ((↑i : Int) + (1 : Int))) = Value.int IntKind.i64 (↑(i + (1 : Nat)) : Int)] (by kernel_rfl)
    ⟨Dg.vtrue (by omega), by omega, Dg.ptr_eq (by omega), get2 hi hx, tUndW h1 ha ⟨_, rfl⟩, tUnnum h2, inc64 (by omega), trivial⟩
--> wrF
--< wre
theorem wre (t : Nat → List Value) (E : Nat → TypeId) (u' : TypeId) (v' : TypeId) (wh : Int) (wl : Int) (lm : Nat) (hm : Nat) (s : ByteArray) (d : ByteArray) :
    run3 (S3 t E u' v' wh wl lm hm s d 2) = some (Ex.exit 0, ({ ts := [Value.agg #[Value.int IntKind.i64 wh, Value.int IntKind.u64 wl], Value.string s, Value.pointer (some { block := 12, off := 0 }), undef, Value.bool false, Value.pointer (some { block := 13, off := 0 }), Value.pointer (some { block := 14, off := 0 }), junk, junk, junk, junk, junk, junk, junk, junk, junk, junk, junk, junk, junk, junk, junk, junk, junk, junk, junk, junk, junk, junk, junk, junk, Value.slice (some { block := 15, off := 0 }) 2 2, Value.int IntKind.i64 2, Value.int IntKind.i64 2, Value.bool false, junk, junk, junk, junk, junk, junk, junk, junk, junk, junk, junk, junk, junk, junk, junk, junk, junk, junk, junk, junk, junk, junk, junk, junk, junk, junk, junk, junk, junk, junk, junk, junk, junk, junk, junk, junk], H := { n := 16, objs := [AObj.cells [Value.string s, Value.string d] 9 4 1, AObj.cells (kpN false (lim hm)) 30 4 1, AObj.cells (kpN true (lim lm)) 30 4 1, AObj.cells [Value.int IntKind.i64 wh, Value.int IntKind.u64 wl] 24 4 1, AObj.dead, AObj.dead, AObj.cells (t 9) (E 9) 6 1, AObj.cells (t 8) (E 8) 6 1, AObj.cells (t 7) (E 7) 6 1, AObj.cells (t 6) (E 6) 6 1, AObj.cells kpPow (E 5) 6 1, AObj.cells [Value.iface v' (Value.pointer (some { block := 11, off := 0 }))] (E 4) 2 1, AObj.cells [Value.iface u' (Value.pointer (some { block := 10, off := 0 }))] (E 3) 2 1, AObj.dead, AObj.dead, AObj.dead] }, log := [] } : St)) :=
  Dg.evCode_hint (f := 3) (hs' := []) (hs := [])
    [] (by kernel_rfl)
    trivial
--> wre
--< w3big
theorem w3big (t : Nat → List Value) (E : Nat → TypeId) (u' : TypeId) (v' : TypeId) (wh : Int) (wl : Int) (s : ByteArray) (hk : ovW 5 [] (Hn t E u' v' [AObj.cells [Value.int IntKind.i64 wh, Value.int IntKind.u64 wl] 24 0 1]) = some (Value.bool true, Hn t E u' v' [AObj.cells [Value.int IntKind.i64 wh, Value.int IntKind.u64 wl] 24 0 1], [])) (hs : 300 < ByteArray.size s) :
    evCall Tryz.prog 10 (bodied Tryz.prog) ovW sb3 1000 20 3 [wd wh wl, Value.string s] (Hn t E u' v' []) = some (Value.bool true, { n := 12, objs := [AObj.dead, AObj.dead, AObj.cells (t 9) (E 9) 6 1, AObj.cells (t 8) (E 8) 6 1, AObj.cells (t 7) (E 7) 6 1, AObj.cells (t 6) (E 6) 6 1, AObj.cells kpPow (E 5) 6 1, AObj.cells [Value.iface v' (Value.pointer (some { block := 11, off := 0 }))] (E 4) 2 1, AObj.cells [Value.iface u' (Value.pointer (some { block := 10, off := 0 }))] (E 3) 2 1, AObj.dead, AObj.dead, AObj.dead] }, []) :=
  Dg.evCall_hint (hs' := []) (hs := [Hint.call 5 (Value.bool true) { n := 13, objs := [AObj.cells [Value.int IntKind.i64 wh, Value.int IntKind.u64 wl] 24 0 1, AObj.dead, AObj.dead, AObj.cells (t 9) (E 9) 6 1, AObj.cells (t 8) (E 8) 6 1, AObj.cells (t 7) (E 7) 6 1, AObj.cells (t 6) (E 6) 6 1, AObj.cells kpPow (E 5) 6 1, AObj.cells [Value.iface v' (Value.pointer (some { block := 11, off := 0 }))] (E 4) 2 1, AObj.cells [Value.iface u' (Value.pointer (some { block := 10, off := 0 }))] (E 3) 2 1, AObj.dead, AObj.dead, AObj.dead] } [],
    Hint.val 3 17 (Value.bool true)])
    [evCall Tryz.prog 10 (bodied Tryz.prog) ovW sb3 1000 19 5 [] { n := 13, objs := [AObj.cells [Value.int IntKind.i64 wh, Value.int IntKind.u64 wl] 24 0 1, AObj.dead, AObj.dead, AObj.cells (t 9) (E 9) 6 1, AObj.cells (t 8) (E 8) 6 1, AObj.cells (t 7) (E 7) 6 1, AObj.cells (t 6) (E 6) 6 1, AObj.cells kpPow (E 5) 6 1, AObj.cells [Value.iface v' (Value.pointer (some { block := 11, off := 0 }))] (E 4) 2 1, AObj.cells [Value.iface u' (Value.pointer (some { block := 10, off := 0 }))] (E 3) 2 1, AObj.dead, AObj.dead, AObj.dead] } = some (Value.bool true, { n := 13, objs := [AObj.cells [Value.int IntKind.i64 wh, Value.int IntKind.u64 wl] 24 0 1, AObj.dead, AObj.dead, AObj.cells (t 9) (E 9) 6 1, AObj.cells (t 8) (E 8) 6 1, AObj.cells (t 7) (E 7) 6 1, AObj.cells (t 6) (E 6) 6 1, AObj.cells kpPow (E 5) 6 1, AObj.cells [Value.iface v' (Value.pointer (some { block := 11, off := 0 }))] (E 4) 2 1, AObj.cells [Value.iface u' (Value.pointer (some { block := 10, off := 0 }))] (E 3) 2 1, AObj.dead, AObj.dead, AObj.dead] }, []),
    Value.bool (decide ((↑(ByteArray.size s) : Int) > (300 : Int))) = Value.bool true] (by kernel_rfl)
    ⟨Dg.evCall_over hk, Dg.vtrue (by omega), trivial⟩
--> w3big
--< w3
theorem w3 (t : Nat → List Value) (E : Nat → TypeId) (u' : TypeId) (v' : TypeId) (wh : Int) (wl : Int) (lm : Nat) (hm : Nat) (s : ByteArray) (d : ByteArray) (n : Int) (b : Bool) (m : Nat) (hk : ovW 5 [] (Hn t E u' v' [AObj.cells [Value.int IntKind.i64 wh, Value.int IntKind.u64 wl] 24 0 1]) = some (Value.bool true, Hn t E u' v' [AObj.cells [Value.int IntKind.i64 wh, Value.int IntKind.u64 wl] 24 0 1], [])) (hs : ByteArray.size s ≤ 300) (hn : InW n) (hw : wv n = wd wh wl) (hd : d = decV n) (h1 : o6 8 [wd wh wl] = some (num b m)) (h2 : o6 7 [num b m] = some (Value.string d)) (h3 : o6 9 [] = some (Value.tuple #[num true lm, num false hm])) (hL : ∀ (s0 : St), cl3 s0 = S3 t E u' v' wh wl lm hm s d 0 → evLoop run3 cl3 1000 s0 = some (Ex.exit 0, E3 t E u' v' wh wl lm hm s d)) :
    evCall Tryz.prog 10 (bodied Tryz.prog) ovW sb3 1000 20 3 [wd wh wl, Value.string s] (Hn t E u' v' []) = some (Value.bool true, { n := 12, objs := [AObj.dead, AObj.dead, AObj.cells (t 9) (E 9) 6 1, AObj.cells (t 8) (E 8) 6 1, AObj.cells (t 7) (E 7) 6 1, AObj.cells (t 6) (E 6) 6 1, AObj.cells kpPow (E 5) 6 1, AObj.cells [Value.iface v' (Value.pointer (some { block := 11, off := 0 }))] (E 4) 2 1, AObj.cells [Value.iface u' (Value.pointer (some { block := 10, off := 0 }))] (E 3) 2 1, AObj.dead, AObj.dead, AObj.dead] }, []) :=
  Dg.evCall_hint (hs' := []) (hs := [Hint.call 5 (Value.bool true) { n := 13, objs := [AObj.cells [Value.int IntKind.i64 wh, Value.int IntKind.u64 wl] 24 0 1, AObj.dead, AObj.dead, AObj.cells (t 9) (E 9) 6 1, AObj.cells (t 8) (E 8) 6 1, AObj.cells (t 7) (E 7) 6 1, AObj.cells (t 6) (E 6) 6 1, AObj.cells kpPow (E 5) 6 1, AObj.cells [Value.iface v' (Value.pointer (some { block := 11, off := 0 }))] (E 4) 2 1, AObj.cells [Value.iface u' (Value.pointer (some { block := 10, off := 0 }))] (E 3) 2 1, AObj.dead, AObj.dead, AObj.dead] } [],
    Hint.val 3 17 (Value.bool false),
    Hint.call 6 (Value.string d) { n := 13, objs := [AObj.cells [Value.int IntKind.i64 wh, Value.int IntKind.u64 wl] 24 0 1, AObj.dead, AObj.dead, AObj.cells (t 9) (E 9) 6 1, AObj.cells (t 8) (E 8) 6 1, AObj.cells (t 7) (E 7) 6 1, AObj.cells (t 6) (E 6) 6 1, AObj.cells kpPow (E 5) 6 1, AObj.cells [Value.iface v' (Value.pointer (some { block := 11, off := 0 }))] (E 4) 2 1, AObj.cells [Value.iface u' (Value.pointer (some { block := 10, off := 0 }))] (E 3) 2 1, AObj.dead, AObj.dead, AObj.dead] } [],
    Hint.call 8 (Value.agg { toList := kpN b (lim m) }) { n := 10, objs := [AObj.dead, AObj.dead, AObj.dead, AObj.dead, AObj.dead, AObj.dead, AObj.dead, AObj.dead, AObj.dead, AObj.dead] } [],
    Hint.call 7 (Value.string d) { n := 13, objs := [AObj.cells [Value.int IntKind.i64 wh, Value.int IntKind.u64 wl] 24 0 1, AObj.dead, AObj.dead, AObj.cells (t 9) (E 9) 6 1, AObj.cells (t 8) (E 8) 6 1, AObj.cells (t 7) (E 7) 6 1, AObj.cells (t 6) (E 6) 6 1, AObj.cells kpPow (E 5) 6 1, AObj.cells [Value.iface v' (Value.pointer (some { block := 11, off := 0 }))] (E 4) 2 1, AObj.cells [Value.iface u' (Value.pointer (some { block := 10, off := 0 }))] (E 3) 2 1, AObj.dead, AObj.dead, AObj.dead] } [],
    Hint.val 3 23 (Value.bool false),
    Hint.call 9 (Value.tuple { toList := [Value.agg { toList := kpN true (lim lm) }, Value.agg { toList := kpN false (lim hm) }] }) { n := 10, objs := [AObj.dead, AObj.dead, AObj.dead, AObj.dead, AObj.dead, AObj.dead, AObj.dead, AObj.dead, AObj.dead, AObj.dead] } [],
    Hint.call 6 (Value.string d) { n := 15, objs := [AObj.cells [Value.bool false, Value.int IntKind.u64 (lim hm 0), Value.int IntKind.u64 (lim hm 1), Value.int IntKind.u64 (lim hm 2), Value.int IntKind.u64 (lim hm 3), Value.int IntKind.u64 (lim hm 4), Value.int IntKind.u64 (lim hm 5), Value.int IntKind.u64 (lim hm 6), Value.int IntKind.u64 (lim hm 7), Value.int IntKind.u64 (lim hm 8), Value.int IntKind.u64 (lim hm 9), Value.int IntKind.u64 (lim hm 10), Value.int IntKind.u64 (lim hm 11), Value.int IntKind.u64 (lim hm 12), Value.int IntKind.u64 (lim hm 13), Value.int IntKind.u64 (lim hm 14), Value.int IntKind.u64 (lim hm 15), Value.int IntKind.u64 (lim hm 16), Value.int IntKind.u64 (lim hm 17), Value.int IntKind.u64 (lim hm 18), Value.int IntKind.u64 (lim hm 19)] 30 0 1, AObj.cells [Value.bool true, Value.int IntKind.u64 (lim lm 0), Value.int IntKind.u64 (lim lm 1), Value.int IntKind.u64 (lim lm 2), Value.int IntKind.u64 (lim lm 3), Value.int IntKind.u64 (lim lm 4), Value.int IntKind.u64 (lim lm 5), Value.int IntKind.u64 (lim lm 6), Value.int IntKind.u64 (lim lm 7), Value.int IntKind.u64 (lim lm 8), Value.int IntKind.u64 (lim lm 9), Value.int IntKind.u64 (lim lm 10), Value.int IntKind.u64 (lim lm 11), Value.int IntKind.u64 (lim lm 12), Value.int IntKind.u64 (lim lm 13), Value.int IntKind.u64 (lim lm 14), Value.int IntKind.u64 (lim lm 15), Value.int IntKind.u64 (lim lm 16), Value.int IntKind.u64 (lim lm 17), Value.int IntKind.u64 (lim lm 18), Value.int IntKind.u64 (lim lm 19)] 30 0 1, AObj.cells [Value.int IntKind.i64 wh, Value.int IntKind.u64 wl] 24 0 1, AObj.dead, AObj.dead, AObj.cells (t 9) (E 9) 6 1, AObj.cells (t 8) (E 8) 6 1, AObj.cells (t 7) (E 7) 6 1, AObj.cells (t 6) (E 6) 6 1, AObj.cells kpPow (E 5) 6 1, AObj.cells [Value.iface v' (Value.pointer (some { block := 11, off := 0 }))] (E 4) 2 1, AObj.cells [Value.iface u' (Value.pointer (some { block := 10, off := 0 }))] (E 3) 2 1, AObj.dead, AObj.dead, AObj.dead] } [],
    Hint.loop 3 (Ex.exit 0) (E3 t E u' v' wh wl lm hm s d)])
    [evCall Tryz.prog 10 (bodied Tryz.prog) ovW sb3 1000 19 5 [] { n := 13, objs := [AObj.cells [Value.int IntKind.i64 wh, Value.int IntKind.u64 wl] 24 0 1, AObj.dead, AObj.dead, AObj.cells (t 9) (E 9) 6 1, AObj.cells (t 8) (E 8) 6 1, AObj.cells (t 7) (E 7) 6 1, AObj.cells (t 6) (E 6) 6 1, AObj.cells kpPow (E 5) 6 1, AObj.cells [Value.iface v' (Value.pointer (some { block := 11, off := 0 }))] (E 4) 2 1, AObj.cells [Value.iface u' (Value.pointer (some { block := 10, off := 0 }))] (E 3) 2 1, AObj.dead, AObj.dead, AObj.dead] } = some (Value.bool true, { n := 13, objs := [AObj.cells [Value.int IntKind.i64 wh, Value.int IntKind.u64 wl] 24 0 1, AObj.dead, AObj.dead, AObj.cells (t 9) (E 9) 6 1, AObj.cells (t 8) (E 8) 6 1, AObj.cells (t 7) (E 7) 6 1, AObj.cells (t 6) (E 6) 6 1, AObj.cells kpPow (E 5) 6 1, AObj.cells [Value.iface v' (Value.pointer (some { block := 11, off := 0 }))] (E 4) 2 1, AObj.cells [Value.iface u' (Value.pointer (some { block := 10, off := 0 }))] (E 3) 2 1, AObj.dead, AObj.dead, AObj.dead] }, []),
    Value.bool (decide ((↑(ByteArray.size s) : Int) > (300 : Int))) = Value.bool false,
    evCall Tryz.prog 10 (bodied Tryz.prog) ovW sb3 1000 19 6 [Value.agg #[Value.int IntKind.i64 wh, Value.int IntKind.u64 wl]] { n := 13, objs := [AObj.cells [Value.int IntKind.i64 wh, Value.int IntKind.u64 wl] 24 0 1, AObj.dead, AObj.dead, AObj.cells (t 9) (E 9) 6 1, AObj.cells (t 8) (E 8) 6 1, AObj.cells (t 7) (E 7) 6 1, AObj.cells (t 6) (E 6) 6 1, AObj.cells kpPow (E 5) 6 1, AObj.cells [Value.iface v' (Value.pointer (some { block := 11, off := 0 }))] (E 4) 2 1, AObj.cells [Value.iface u' (Value.pointer (some { block := 10, off := 0 }))] (E 3) 2 1, AObj.dead, AObj.dead, AObj.dead] } = some (Value.string d, { n := 13, objs := [AObj.cells [Value.int IntKind.i64 wh, Value.int IntKind.u64 wl] 24 0 1, AObj.dead, AObj.dead, AObj.cells (t 9) (E 9) 6 1, AObj.cells (t 8) (E 8) 6 1, AObj.cells (t 7) (E 7) 6 1, AObj.cells (t 6) (E 6) 6 1, AObj.cells kpPow (E 5) 6 1, AObj.cells [Value.iface v' (Value.pointer (some { block := 11, off := 0 }))] (E 4) 2 1, AObj.cells [Value.iface u' (Value.pointer (some { block := 10, off := 0 }))] (E 3) 2 1, AObj.dead, AObj.dead, AObj.dead] }, []),
    evCall Tryz.prog 10 (bodied Tryz.prog) ovW sb3 1000 19 8 [Value.agg #[Value.int IntKind.i64 wh, Value.int IntKind.u64 wl]] { n := 10, objs := [AObj.dead, AObj.dead, AObj.dead, AObj.dead, AObj.dead, AObj.dead, AObj.dead, AObj.dead, AObj.dead, AObj.dead] } = some (Value.agg { toList := kpN b (lim m) }, { n := 10, objs := [AObj.dead, AObj.dead, AObj.dead, AObj.dead, AObj.dead, AObj.dead, AObj.dead, AObj.dead, AObj.dead, AObj.dead] }, []),
    evCall Tryz.prog 10 (bodied Tryz.prog) ovW sb3 1000 19 7 [Value.agg { toList := kpN b (lim m) }] { n := 13, objs := [AObj.cells [Value.int IntKind.i64 wh, Value.int IntKind.u64 wl] 24 0 1, AObj.dead, AObj.dead, AObj.cells (t 9) (E 9) 6 1, AObj.cells (t 8) (E 8) 6 1, AObj.cells (t 7) (E 7) 6 1, AObj.cells (t 6) (E 6) 6 1, AObj.cells kpPow (E 5) 6 1, AObj.cells [Value.iface v' (Value.pointer (some { block := 11, off := 0 }))] (E 4) 2 1, AObj.cells [Value.iface u' (Value.pointer (some { block := 10, off := 0 }))] (E 3) 2 1, AObj.dead, AObj.dead, AObj.dead] } = some (Value.string d, { n := 13, objs := [AObj.cells [Value.int IntKind.i64 wh, Value.int IntKind.u64 wl] 24 0 1, AObj.dead, AObj.dead, AObj.cells (t 9) (E 9) 6 1, AObj.cells (t 8) (E 8) 6 1, AObj.cells (t 7) (E 7) 6 1, AObj.cells (t 6) (E 6) 6 1, AObj.cells kpPow (E 5) 6 1, AObj.cells [Value.iface v' (Value.pointer (some { block := 11, off := 0 }))] (E 4) 2 1, AObj.cells [Value.iface u' (Value.pointer (some { block := 10, off := 0 }))] (E 3) 2 1, AObj.dead, AObj.dead, AObj.dead] }, []),
    (Value.bool !ByteArray.toList d == ByteArray.toList d) = Value.bool false,
    evCall Tryz.prog 10 (bodied Tryz.prog) ovW sb3 1000 19 9 [] { n := 10, objs := [AObj.dead, AObj.dead, AObj.dead, AObj.dead, AObj.dead, AObj.dead, AObj.dead, AObj.dead, AObj.dead, AObj.dead] } = some (Value.tuple { toList := [Value.agg { toList := kpN true (lim lm) }, Value.agg { toList := kpN false (lim hm) }] }, { n := 10, objs := [AObj.dead, AObj.dead, AObj.dead, AObj.dead, AObj.dead, AObj.dead, AObj.dead, AObj.dead, AObj.dead, AObj.dead] }, []),
    evCall Tryz.prog 10 (bodied Tryz.prog) ovW sb3 1000 19 6 [Value.agg #[Value.int IntKind.i64 wh, Value.int IntKind.u64 wl]] { n := 15, objs := [AObj.cells [Value.bool false, Value.int IntKind.u64 (lim hm 0), Value.int IntKind.u64 (lim hm 1), Value.int IntKind.u64 (lim hm 2), Value.int IntKind.u64 (lim hm 3), Value.int IntKind.u64 (lim hm 4), Value.int IntKind.u64 (lim hm 5), Value.int IntKind.u64 (lim hm 6), Value.int IntKind.u64 (lim hm 7), Value.int IntKind.u64 (lim hm 8), Value.int IntKind.u64 (lim hm 9), Value.int IntKind.u64 (lim hm 10), Value.int IntKind.u64 (lim hm 11), Value.int IntKind.u64 (lim hm 12), Value.int IntKind.u64 (lim hm 13), Value.int IntKind.u64 (lim hm 14), Value.int IntKind.u64 (lim hm 15), Value.int IntKind.u64 (lim hm 16), Value.int IntKind.u64 (lim hm 17), Value.int IntKind.u64 (lim hm 18), Value.int IntKind.u64 (lim hm 19)] 30 0 1, AObj.cells [Value.bool true, Value.int IntKind.u64 (lim lm 0), Value.int IntKind.u64 (lim lm 1), Value.int IntKind.u64 (lim lm 2), Value.int IntKind.u64 (lim lm 3), Value.int IntKind.u64 (lim lm 4), Value.int IntKind.u64 (lim lm 5), Value.int IntKind.u64 (lim lm 6), Value.int IntKind.u64 (lim lm 7), Value.int IntKind.u64 (lim lm 8), Value.int IntKind.u64 (lim lm 9), Value.int IntKind.u64 (lim lm 10), Value.int IntKind.u64 (lim lm 11), Value.int IntKind.u64 (lim lm 12), Value.int IntKind.u64 (lim lm 13), Value.int IntKind.u64 (lim lm 14), Value.int IntKind.u64 (lim lm 15), Value.int IntKind.u64 (lim lm 16), Value.int IntKind.u64 (lim lm 17), Value.int IntKind.u64 (lim lm 18), Value.int IntKind.u64 (lim lm 19)] 30 0 1, AObj.cells [Value.int IntKind.i64 wh, Value.int IntKind.u64 wl] 24 0 1, AObj.dead, AObj.dead, AObj.cells (t 9) (E 9) 6 1, AObj.cells (t 8) (E 8) 6 1, AObj.cells (t 7) (E 7) 6 1, AObj.cells (t 6) (E 6) 6 1, AObj.cells kpPow (E 5) 6 1, AObj.cells [Value.iface v' (Value.pointer (some { block := 11, off := 0 }))] (E 4) 2 1, AObj.cells [Value.iface u' (Value.pointer (some { block := 10, off := 0 }))] (E 3) 2 1, AObj.dead, AObj.dead, AObj.dead] } = some (Value.string d, { n := 15, objs := [AObj.cells [Value.bool false, Value.int IntKind.u64 (lim hm 0), Value.int IntKind.u64 (lim hm 1), Value.int IntKind.u64 (lim hm 2), Value.int IntKind.u64 (lim hm 3), Value.int IntKind.u64 (lim hm 4), Value.int IntKind.u64 (lim hm 5), Value.int IntKind.u64 (lim hm 6), Value.int IntKind.u64 (lim hm 7), Value.int IntKind.u64 (lim hm 8), Value.int IntKind.u64 (lim hm 9), Value.int IntKind.u64 (lim hm 10), Value.int IntKind.u64 (lim hm 11), Value.int IntKind.u64 (lim hm 12), Value.int IntKind.u64 (lim hm 13), Value.int IntKind.u64 (lim hm 14), Value.int IntKind.u64 (lim hm 15), Value.int IntKind.u64 (lim hm 16), Value.int IntKind.u64 (lim hm 17), Value.int IntKind.u64 (lim hm 18), Value.int IntKind.u64 (lim hm 19)] 30 0 1, AObj.cells [Value.bool true, Value.int IntKind.u64 (lim lm 0), Value.int IntKind.u64 (lim lm 1), Value.int IntKind.u64 (lim lm 2), Value.int IntKind.u64 (lim lm 3), Value.int IntKind.u64 (lim lm 4), Value.int IntKind.u64 (lim lm 5), Value.int IntKind.u64 (lim lm 6), Value.int IntKind.u64 (lim lm 7), Value.int IntKind.u64 (lim lm 8), Value.int IntKind.u64 (lim lm 9), Value.int IntKind.u64 (lim lm 10), Value.int IntKind.u64 (lim lm 11), Value.int IntKind.u64 (lim lm 12), Value.int IntKind.u64 (lim lm 13), Value.int IntKind.u64 (lim lm 14), Value.int IntKind.u64 (lim lm 15), Value.int IntKind.u64 (lim lm 16), Value.int IntKind.u64 (lim lm 17), Value.int IntKind.u64 (lim lm 18), Value.int IntKind.u64 (lim lm 19)] 30 0 1, AObj.cells [Value.int IntKind.i64 wh, Value.int IntKind.u64 wl] 24 0 1, AObj.dead, AObj.dead, AObj.cells (t 9) (E 9) 6 1, AObj.cells (t 8) (E 8) 6 1, AObj.cells (t 7) (E 7) 6 1, AObj.cells (t 6) (E 6) 6 1, AObj.cells kpPow (E 5) 6 1, AObj.cells [Value.iface v' (Value.pointer (some { block := 11, off := 0 }))] (E 4) 2 1, AObj.cells [Value.iface u' (Value.pointer (some { block := 10, off := 0 }))] (E 3) 2 1, AObj.dead, AObj.dead, AObj.dead] }, []),
    evLoop run3 cl3 1000 { ts := [Value.agg #[Value.int IntKind.i64 wh, Value.int IntKind.u64 wl], Value.string s, Value.pointer (some { block := 12, off := 0 }), undef, Value.bool false, Value.pointer (some { block := 13, off := 0 }), Value.pointer (some { block := 14, off := 0 }), undef, undef, undef, undef, undef, undef, Value.bool true, Value.bool false, Value.string s, Value.int IntKind.i64 (↑(ByteArray.size s) : Int), Value.bool false, Value.agg #[Value.int IntKind.i64 wh, Value.int IntKind.u64 wl], Value.string d, Value.agg #[Value.int IntKind.i64 wh, Value.int IntKind.u64 wl], Value.agg { toList := kpN b (lim m) }, Value.string d, Value.bool false, Value.tuple { toList := [Value.agg { toList := kpN true (lim lm) }, Value.agg { toList := kpN false (lim hm) }] }, Value.tuple { toList := [Value.agg { toList := kpN true (lim lm) }, Value.agg { toList := kpN false (lim hm) }] }, Value.agg { toList := kpN true (lim lm) }, Value.agg { toList := kpN false (lim hm) }, Value.string s, Value.agg #[Value.int IntKind.i64 wh, Value.int IntKind.u64 wl], Value.string d, Value.slice (some { block := 15, off := 0 }) 2 2, Value.int IntKind.i64 2, Value.int IntKind.i64 0, undef, undef, undef, undef, undef, undef, undef, undef, undef, undef, undef, undef, undef, undef, undef, undef, undef, undef, undef, undef, undef, undef, undef, undef, undef, undef, undef, undef, undef, undef, undef, undef, undef, undef, undef, undef, undef], H := { n := 16, objs := [AObj.cells [Value.string s, Value.string d] 9 0 1, AObj.cells [Value.bool false, Value.int IntKind.u64 (lim hm 0), Value.int IntKind.u64 (lim hm 1), Value.int IntKind.u64 (lim hm 2), Value.int IntKind.u64 (lim hm 3), Value.int IntKind.u64 (lim hm 4), Value.int IntKind.u64 (lim hm 5), Value.int IntKind.u64 (lim hm 6), Value.int IntKind.u64 (lim hm 7), Value.int IntKind.u64 (lim hm 8), Value.int IntKind.u64 (lim hm 9), Value.int IntKind.u64 (lim hm 10), Value.int IntKind.u64 (lim hm 11), Value.int IntKind.u64 (lim hm 12), Value.int IntKind.u64 (lim hm 13), Value.int IntKind.u64 (lim hm 14), Value.int IntKind.u64 (lim hm 15), Value.int IntKind.u64 (lim hm 16), Value.int IntKind.u64 (lim hm 17), Value.int IntKind.u64 (lim hm 18), Value.int IntKind.u64 (lim hm 19)] 30 0 1, AObj.cells [Value.bool true, Value.int IntKind.u64 (lim lm 0), Value.int IntKind.u64 (lim lm 1), Value.int IntKind.u64 (lim lm 2), Value.int IntKind.u64 (lim lm 3), Value.int IntKind.u64 (lim lm 4), Value.int IntKind.u64 (lim lm 5), Value.int IntKind.u64 (lim lm 6), Value.int IntKind.u64 (lim lm 7), Value.int IntKind.u64 (lim lm 8), Value.int IntKind.u64 (lim lm 9), Value.int IntKind.u64 (lim lm 10), Value.int IntKind.u64 (lim lm 11), Value.int IntKind.u64 (lim lm 12), Value.int IntKind.u64 (lim lm 13), Value.int IntKind.u64 (lim lm 14), Value.int IntKind.u64 (lim lm 15), Value.int IntKind.u64 (lim lm 16), Value.int IntKind.u64 (lim lm 17), Value.int IntKind.u64 (lim lm 18), Value.int IntKind.u64 (lim lm 19)] 30 0 1, AObj.cells [Value.int IntKind.i64 wh, Value.int IntKind.u64 wl] 24 0 1, AObj.dead, AObj.dead, AObj.cells (t 9) (E 9) 6 1, AObj.cells (t 8) (E 8) 6 1, AObj.cells (t 7) (E 7) 6 1, AObj.cells (t 6) (E 6) 6 1, AObj.cells kpPow (E 5) 6 1, AObj.cells [Value.iface v' (Value.pointer (some { block := 11, off := 0 }))] (E 4) 2 1, AObj.cells [Value.iface u' (Value.pointer (some { block := 10, off := 0 }))] (E 3) 2 1, AObj.dead, AObj.dead, AObj.dead] }, log := [] } = some (Ex.exit 0, E3 t E u' v' wh wl lm hm s d)] (by kernel_rfl)
    ⟨Dg.evCall_over hk, Dg.vfalse (by omega), tDecW hn hw hd ⟨_, rfl⟩, tFrom h1, tNum h2, neSelf _, tEnds h3, tDecW hn hw hd ⟨_, rfl⟩, hL _ (by kernel_rfl), trivial⟩
--> w3
end Go.Proofs.YtflgpkkbifkpoaaGreatDoor.num

namespace Go.Proofs.YtflgpkkbifkpoaaGreatDoor.num
open Go.Dg (junk St Ex Ev Hint evCall evLoop cleanSt ue bodied noOver Flats flatOver Heap AObj)
set_option linter.unusedVariables false

theorem small20 {m : Nat} (h : m ≤ 340282366920938463463374607431768211456) : m < B ^ 20 := b20 h
/-- What the two ways say of a text, as a wide number. -/
theorem wide_way (x : ByteArray) : ∃ (a : Int) (ok wb : Bool) (w : Nat), undecWV x.data.toList = (a, ok) ∧ o6 11 [.string x, num true 170141183460469231731687303715884105728, num false 170141183460469231731687303715884105727] = some (.tuple #[num wb w, .bool ok]) ∧
    (ok = true → o6 12 [num wb w] = some (wv a)) ∧ (ok = false → a = 0) := by
  have h := unnum_all x.data.toList (lb := true) (lm := 170141183460469231731687303715884105728) (hb := false) (hm := 170141183460469231731687303715884105727) (small20 (by omega)) (small20 (by omega)) (fun n h1 h2 => by
    simp only [sval, if_true] at h1
    simp only [sval, Bool.false_eq_true, if_false] at h2
    have e : (10 : Nat) ^ 50 = 100000000000000000000000000000000000000000000000000 := by decide
    omega)
  rw [txt_of] at h
  rcases h with ⟨n, h1, h2, h3, h4⟩ | ⟨h1, b, w, h2⟩
  · simp only [sval, if_true] at h1
    simp only [sval, Bool.false_eq_true, if_false] at h2
    have hn : InW n := by unfold InW; omega
    have hu : undecW x.data.toList = some n := undecW_some.2 ⟨hn, h3⟩
    exact ⟨n, true, _, _, by unfold undecWV; rw [hu], under6 (under5 h4), fun _ => under6 (wide_w hn), fun e => by cases e⟩
  · have hu : undecW x.data.toList = none := by
      cases hh : undecW x.data.toList with
      | none => rfl
      | some v =>
        obtain ⟨k1, k2⟩ := undecW_some.1 hh
        unfold InW at k1
        exact absurd k2 (h1 v (by simp only [sval, if_true]; omega) (by simp only [sval, Bool.false_eq_true, if_false]; omega))
    exact ⟨0, false, b, w, by unfold undecWV; rw [hu], under6 (under5 h2), fun e => (by cases e), fun _ => rfl⟩
theorem round3 (t : Nat → List Value) (E : Nat → TypeId) (u' v' : TypeId) (wh wl : Int) (s d x : ByteArray) (i : Nat) (hi : i < 2) (hx : [s, d][i]? = some x) :
    ∃ s', run3 (S3 t E u' v' wh wl 170141183460469231731687303715884105728 170141183460469231731687303715884105727 s d i) = some (.normal, s') ∧ cl3 s' = S3 t E u' v' wh wl 170141183460469231731687303715884105728 170141183460469231731687303715884105727 s d (i + 1) := by
  obtain ⟨a, ok, wb, w, a1, a2, a3, a4⟩ := wide_way x
  cases ok
  · obtain rfl := a4 rfl
    exact wrF t E u' v' wh wl _ _ s d x i hi hx 0 wb w a1 wv0 a2
  · exact wrT t E u' v' wh wl _ _ s d x i hi hx a _ _ wb w a1 rfl a2 (a3 rfl)
/-- The row's run. -/
theorem good3 (t : Nat → List Value) (E : Nat → TypeId) (u' v' : TypeId) {n : Int} (hn : InW n) (s : ByteArray)
    (hk : ovW 5 [] (Hn t E u' v' [.cells [.int .i64 (n / 18446744073709551616), .int .u64 (n % 18446744073709551616)] 24 0 1]) = some (.bool true, Hn t E u' v' [.cells [.int .i64 (n / 18446744073709551616), .int .u64 (n % 18446744073709551616)] 24 0 1], [])) :
    (evCall Tryz.prog 10 (bodied Tryz.prog) ovW sb3 1000 20 3 [wv n, .string s] (Hn t E u' v' [])).map (·.1) = some (.bool true) := by
  show (evCall Tryz.prog 10 (bodied Tryz.prog) ovW sb3 1000 20 3 [wd (n / 18446744073709551616) (n % 18446744073709551616), .string s] (Hn t E u' v' [])).map (·.1) = some (.bool true)
  by_cases hs : 300 < s.size
  · rw [w3big t E u' v' _ _ s hk hs]; rfl
  have h1 : o6 8 [wd (n / 18446744073709551616) (n % 18446744073709551616)] = some (num (decide (n < 0)) n.natAbs) := under6 (from_w hn)
  have hb : n.natAbs < B ^ 20 := by
    unfold InW at hn
    exact b20 (by omega)
  have h2 : o6 7 [num (decide (n < 0)) n.natAbs] = some (.string (decV n)) := by
    have := under6 (under5 (under4 (num_told (decide (n < 0)) hb)))
    have e : txt (decS (decide (n < 0)) n.natAbs) = decV n := by
      unfold decV
      rw [← sval_int n, ← bs_decS, sval_int]
      rfl
    rw [e] at this
    exact this
  rw [w3 t E u' v' (n / 18446744073709551616) (n % 18446744073709551616) _ _ s (decV n) n (decide (n < 0)) n.natAbs hk (by omega) hn rfl rfl h1 h2 ends_w (fun s0 h0 =>
    (Dg.loop_run (S := fun i => S3 t E u' v' (n / 18446744073709551616) (n % 18446744073709551616) 170141183460469231731687303715884105728 170141183460469231731687303715884105727 s (decV n) i) (n := 2) (by simp) (fun j hj => by
      match j, hj with
      | 0, _ => exact round3 t E u' v' _ _ s _ s 0 (by omega) rfl
      | 1, _ => exact round3 t E u' v' _ _ s _ _ 1 (by omega) rfl) (wre t E u' v' _ _ _ _ s _) (by omega) h0).trans (by kernel_rfl))]
  rfl
end Go.Proofs.YtflgpkkbifkpoaaGreatDoor.num
