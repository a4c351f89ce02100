/- The row 'TextBack': its run comes to 'true'. -/
import Derived.Test.YtflgpkkbifkpoaaGreatDoorRows
import Derived.Test.YtflgpkkbifkpoaaGreatDoorBackR
namespace Go.Proofs.YtflgpkkbifkpoaaGreatDoor.num
open Go.Dg (junk St Ex Ev Hint evCall evCode evCodeK cleanSt ue bodied noOver Flats flatOver Heap AObj evResults)
open Go.Proofs.YtflgpkkbifkpoaaGreatDoor.text (ui pow10L rowU outL hexL oB u8s Byt C6)
set_option linter.unusedVariables false
set_option linter.unusedSimpArgs false

/-! ### A code in pieces. -/
section
variable {P : Program} {G : Nat} {ok : List Bool} {call : Ev} {base sb lf : Nat} {kp : List Nat}
def andThen (r : Option (Ex × St)) (k : St → Option (Ex × St)) : Option (Ex × St) := match r with
  | some (.normal, s') => k s'
  | r => r
theorem ev_seq (a b : Code) (s : St) : evCodeK P G ok call base sb lf (.seq a b) kp s = andThen (evCodeK P G ok call base sb lf a kp s) (evCodeK P G ok call base sb lf b kp) := by
  rw [evCodeK]
  rfl
theorem andThen_assoc (r : Option (Ex × St)) (k k' : St → Option (Ex × St)) : andThen (andThen r k) k' = andThen r fun s => andThen (k s) k' := by
  unfold andThen
  rcases r with _ | ⟨e, s⟩
  · rfl
  · cases e <;> rfl
theorem andThen_skip (r : Option (Ex × St)) : andThen r (fun s => some (.normal, s)) = r := by
  unfold andThen
  rcases r with _ | ⟨e, s⟩
  · rfl
  · cases e <;> rfl
theorem ev_app (s : St) : ∀ (a b : List Code), evCodeK P G ok call base sb lf (seqOf (a ++ b)) kp s = andThen (evCodeK P G ok call base sb lf (seqOf a) kp s) (evCodeK P G ok call base sb lf (seqOf b) kp) := by
  intro a b
  induction a generalizing s with
  | nil => show _ = andThen (evCodeK P G ok call base sb lf .skip kp s) _; rw [evCodeK]; rfl
  | cons c a ih =>
    show evCodeK P G ok call base sb lf (.seq c (seqOf (a ++ b))) kp s = andThen (evCodeK P G ok call base sb lf (.seq c (seqOf a)) kp s) _
    rw [ev_seq, ev_seq, andThen_assoc]
    congr 1
    exact funext fun s' => ih s'
theorem ev_flat : ∀ (c : Code) (s : St), evCodeK P G ok call base sb lf (seqOf (flatC c)) kp s = evCodeK P G ok call base sb lf c kp s := by
  have one : ∀ (c : Code) (s : St), evCodeK P G ok call base sb lf (seqOf [c]) kp s = evCodeK P G ok call base sb lf c kp s := by
    intro c s
    show evCodeK P G ok call base sb lf (.seq c .skip) kp s = _
    rw [ev_seq]
    exact andThen_skip _
  intro c
  induction c with
  | seq a b iha ihb =>
    intro s
    show evCodeK P G ok call base sb lf (seqOf (flatC a ++ flatC b)) kp s = _
    rw [ev_app, ev_seq, iha]
    congr 1
    exact funext ihb
  | _ => intro s; exact one _ s
end
theorem adv {i n : Nat} {s s' : St} (h : runB (seg i n) s = some (.normal, s')) : runB (seqOf (cB.drop i)) s = runB (seqOf (cB.drop (i + n))) s' := by
  have e : cB.drop i = (cB.drop i).take n ++ cB.drop (i + n) := by rw [← List.drop_drop, List.take_append_drop]
  rw [e]
  unfold runB
  rw [ev_app]
  have h' : evCodeK Tryz.prog 10 (bodied Tryz.prog) (evCall Tryz.prog 10 (bodied Tryz.prog) ovB sbs 1000 19) 13 32 1000 (seqOf ((cB.drop i).take n)) [] s = some (.normal, s') := h
  rw [h']
  rfl
theorem advR {i n : Nat} {s s' : St} (h : runB (seg i n) s = some (.ret, s')) : runB (seqOf (cB.drop i)) s = some (.ret, s') := by
  have e : cB.drop i = (cB.drop i).take n ++ cB.drop (i + n) := by rw [← List.drop_drop, List.take_append_drop]
  rw [e]
  unfold runB
  rw [ev_app]
  have h' : evCodeK Tryz.prog 10 (bodied Tryz.prog) (evCall Tryz.prog 10 (bodied Tryz.prog) ovB sbs 1000 19) 13 32 1000 (seqOf ((cB.drop i).take n)) [] s = some (.ret, s') := h
  rw [h']
  rfl
theorem gc_bool (base : Nat) (b : Bool) (log : List Nat) (H : Heap) : (Dg.gcAt base [.bool b] log H).1 = [.bool b] := by
  unfold Dg.gcAt
  split
  · split <;> rfl
  · rfl
/-- What a call comes to by what its code comes to. -/
theorem call_ret {P : Program} {G : Nat} {ok : List Bool} {over : Ev} {sb : List Nat} {lf n : Nat} {f : FuncId} {args : List Value} {H : Heap} {fn : Func} {c : Code} {s' : St} {b0 k : Nat} {r : List ResultVar} (hY : Nat.ble Dg.Y f = false) (ho : over f args H = none) (hf : P.funcs[f]? = some fn) (hb : fn.body = some c)
    (hs : sb.getD f 0 = b0) (hk : fn.ntmps - args.length = k) (h : evCode P G ok (evCall P G ok over sb lf n) H.n b0 lf c ⟨args ++ List.replicate k undef, H, []⟩ = some (.ret, s')) (hr : fn.results.toList = r) (hres : evResults P s'.ts s'.H r = some [.bool true]) :
    (evCall P G ok over sb lf (n + 1) f args H).map (·.1) = some (.bool true) := by
  subst hs hk hr
  rw [evCall]
  simp only [hY, ho, hf, hb, h, hres, Option.map_some, gc_bool]
  rfl
/-- What the call comes to by what its code comes to. -/
theorem call4 {t : Nat → List Value} {E : Nat → TypeId} {u' v' : TypeId} {n u vh vl wh wl : Int} {b : Value} {s : ByteArray} {x : AObj} {s' : St}
    (h : runB (seqOf (cB.drop 0)) (S0 t E u' v' n u vh vl wh wl b s x) = some (.ret, s')) (hr : s'.ts[12]? = some (.bool true)) :
    (evCall Tryz.prog 10 (bodied Tryz.prog) ovB sbs 1000 20 4 (pre n u vh vl wh wl b s) (Hn t E u' v' [x])).map (·.1) = some (.bool true) := by
  have h1 : runB ((Tryz.f4.body).getD .skip) (S0 t E u' v' n u vh vl wh wl b s x) = some (.ret, s') := (ev_flat _ _).symm.trans h
  refine call_ret (fn := Tryz.f4) (c := (Tryz.f4.body).getD .skip) (s' := s') (b0 := 32) (k := 191) (r := [.tmp 12]) rfl rfl Tryz.func4 (by kernel_rfl) (by kernel_rfl) (by kernel_rfl) h1 (by kernel_rfl) ?_
  simp only [evResults, Dg.rd, List.getD_eq_getElem?_getD, hr, Option.getD_some]

/-! ### The pieces, one behind the other. -/
section
variable {t : Nat → List Value} {E : Nat → TypeId} {u' v' : TypeId} {n u vh vl wh wl : Int} {b : Value} {s : ByteArray}
theorem toSB {r : List AObj} {x : AObj} (ts : List Value) (h1 : ts.take 13 = pre n u vh vl wh wl b s ++ [undef, undef, ptr 13, ptr 14, undef, undef, .bool false]) (h2 : ts.length = 197) {H : Heap} (hH : H = Hn t E u' v' (r ++ [wc wh wl, wc vh vl, x])) :
    ∃ g, (⟨ts, H, []⟩ : St) = SB t E u' v' n u vh vl wh wl b s g r x := by
  obtain ⟨g, hg⟩ := kpG_of (ts.drop 13) (by rw [List.length_drop, h2])
  refine ⟨g, ?_⟩
  unfold SB
  rw [← hg, ← List.append_assoc, ← h1, List.take_append_drop, hH]
theorem nSB {c : Code} {S : St} {r : List AObj} {x : AObj} {ts : List Value} {H : Heap} (h : runB c S = some (.normal, ⟨ts, H, []⟩)) (h1 : ts.take 13 = pre n u vh vl wh wl b s ++ [undef, undef, ptr 13, ptr 14, undef, undef, .bool false]) (h2 : ts.length = 197) (hH : H = Hn t E u' v' (r ++ [wc wh wl, wc vh vl, x])) :
    ∃ g, runB c S = some (.normal, SB t E u' v' n u vh vl wh wl b s g r x) := by
  obtain ⟨g, hg⟩ := toSB (t := t) (E := E) (u' := u') (v' := v') (r := r) (x := x) ts h1 h2 hH
  exact ⟨g, by rw [h, hg]⟩
theorem oC1 (hs : s.size ≤ 1000) (g : Nat → Value) (y dc x : AObj) : ∃ g', runB (seg 11 3) (SB t E u' v' n u vh vl wh wl b s g [y, dc] x) = some (.normal, SB t E u' v' n u vh vl wh wl b s g' [y, dc] x) := by
  cases h : undec s.data.toList with
  | some a =>
    obtain ⟨h1, h2, h3⟩ := undec_some.1 h
    exact nSB (bC1t t E u' v' n u vh vl wh wl b s g y dc x hs a ⟨h1, h2⟩ (by unfold undecV; rw [h]) (by rw [h3])) rfl rfl rfl
  | none => exact nSB (bC1f t E u' v' n u vh vl wh wl b s g y dc x hs (by unfold undecV; rw [h])) rfl rfl rfl
theorem oC2 (hs : s.size ≤ 1000) (g : Nat → Value) (y dc x : AObj) : ∃ g', runB (seg 14 3) (SB t E u' v' n u vh vl wh wl b s g [y, dc] x) = some (.normal, SB t E u' v' n u vh vl wh wl b s g' [y, dc] x) := by
  cases h : ununs s.data.toList with
  | some a =>
    obtain ⟨h1, h3⟩ := ununs_some.1 h
    exact nSB (bC2t t E u' v' n u vh vl wh wl b s g y dc x hs a a rfl (by omega) (by unfold ununsV; rw [h]) (by rw [h3])) rfl rfl rfl
  | none => exact nSB (bC2f t E u' v' n u vh vl wh wl b s g y dc x hs (by unfold ununsV; rw [h])) rfl rfl rfl
theorem decV_of {a : Int} (h : Lib.itoa a = s.data.toList) : s = decV a := by
  unfold decV
  rw [h]
theorem oC3 (hs : s.size ≤ 1000) (g : Nat → Value) (y dc x : AObj) : ∃ xc g', runB (seg 17 3) (SB t E u' v' n u vh vl wh wl b s g [y, dc] x) = some (.normal, SB t E u' v' n u vh vl wh wl b s g' [xc, y, dc] x) := by
  cases h : undecW s.data.toList with
  | some a =>
    obtain ⟨h1, h3⟩ := undecW_some.1 h
    exact ⟨_, nSB (bC3t t E u' v' n u vh vl wh wl b s g y dc x hs a _ _ h1 rfl (by unfold undecWV; rw [h]) (decV_of h3)) rfl rfl rfl⟩
  | none => exact ⟨_, nSB (bC3f t E u' v' n u vh vl wh wl b s g y dc x hs (by unfold undecWV; rw [h])) rfl rfl rfl⟩
/-- The bytes of a text. -/
def zsOf (s : ByteArray) : List Int := s.data.toList.map fun b => (b.toNat : Int)
theorem txt_zsOf (s : ByteArray) : text.txt (zsOf s) = s := by
  obtain ⟨⟨l⟩⟩ := s
  simp [text.txt, zsOf, List.map_map, Function.comp_def]
theorem len_zsOf (s : ByteArray) : (zsOf s).length = s.size := by unfold zsOf; rw [List.length_map, Array.length_toList]; rfl
theorem byt_of {zs : List Int} (h : ∀ z ∈ zs, 0 ≤ z ∧ z < 256) : Byt zs := by
  intro j
  rw [List.getD_eq_getElem?_getD]
  cases hj : zs[j]? with
  | none => exact ⟨Int.le_refl 0, by decide⟩
  | some z => exact h z (List.mem_of_getElem? hj)
theorem byt_zsOf (s : ByteArray) : Byt (zsOf s) := byt_of fun z hz => by
  simp only [zsOf, List.mem_map] at hz
  obtain ⟨b, _, rfl⟩ := hz
  have := b.toNat_lt
  omega
theorem oC4 (hs : s.size ≤ 1000) (g : Nat → Value) (xc y dc x : AObj) : ∃ y2 g', runB (seg 20 3) (SB t E u' v' n u vh vl wh wl b s g [xc, y, dc] x) = some (.normal, SB t E u' v' n u vh vl wh wl b s g' [y2, xc, y, dc] x) := by
  have hz := (txt_zsOf s).symm
  have hl : (zsOf s).length ≤ 1000 := by rw [len_zsOf]; exact hs
  have hb := byt_zsOf s
  generalize zsOf s = zs at hz hl hb
  by_cases hg : text.Good zs
  · by_cases he : zs = []
    · exact ⟨_, nSB (bC4n t E u' v' n u vh vl wh wl b s g xc y dc x (by rw [hz, he]; rfl)) rfl rfl rfl⟩
    · obtain ⟨l, h2⟩ : ∃ l, zs.length = 2 * l := ⟨zs.length / 2, by have := hg.1; omega⟩
      have h0 : 0 < l := by
        cases zs with
        | nil => exact absurd rfl he
        | cons a r => simp at h2; omega
      exact ⟨_, nSB (bC4g t E u' v' n u vh vl wh wl b s g xc y dc x zs _ hz hl hb hg l h2 h0 rfl (text.outL_len _ _) (text.out_byt hg h2) (text.hex_out_all hg h2)) rfl rfl rfl⟩
  · exact ⟨_, nSB (bC4b t E u' v' n u vh vl wh wl b s g xc y dc x zs hz hl hb hg) rfl rfl rfl⟩
theorem cmpU (a b : Int) : ∃ c, evCall Tryz.prog 10 (bodied Tryz.prog) ovB sbs 1000 18 44 [.int .u64 a, .int .u64 b] ⟨10, [.dead, .dead, .dead, .dead, .dead, .dead, .dead, .dead, .dead, .dead]⟩ = some (.int .i64 c, ⟨10, [.dead, .dead, .dead, .dead, .dead, .dead, .dead, .dead, .dead, .dead]⟩, []) := by
  rcases Int.lt_trichotomy a b with h | h | h
  · exact ⟨_, cUlt a b h⟩
  · exact ⟨_, cUeq a b h⟩
  · exact ⟨_, cUgt a b h⟩
theorem oD {W X : Int} (hW : InW W) (hw : wv W = wd wh wl) (hX : InW X) (hx : wv X = wd vh vl) (hWe : W = wh * 18446744073709551616 + wl) (hXe : X = vh * 18446744073709551616 + vl) (rw1 : 0 ≤ wl ∧ wl < 18446744073709551616) (rv1 : 0 ≤ vl ∧ vl < 18446744073709551616)
    (g : Nat → Value) (y2 xc y dc x : AObj) : ∃ g', runB (seg 23 3) (SB t E u' v' n u vh vl wh wl b s g [y2, xc, y, dc] x) = some (.normal, SB t E u' v' n u vh vl wh wl b s g' [y2, xc, y, dc] x) := by
  by_cases h1 : vh < 0
  · exact nSB (bD1 t E u' v' n u vh vl wh wl b s g y2 xc y dc x W X hW hw hX hx _ _ rfl rfl h1) rfl rfl rfl
  by_cases h2 : wh < 0
  · exact nSB (bD2 t E u' v' n u vh vl wh wl b s g y2 xc y dc x W X hW hw hX hx _ _ rfl rfl (by omega) h2) rfl rfl rfl
  by_cases h3 : (decV W).size ≤ (decV X).size
  · exact nSB (bD3 t E u' v' n u vh vl wh wl b s g y2 xc y dc x W X hW hw hX hx _ _ rfl rfl (by omega) (by omega) h3) rfl rfl rfl
  have hlt := lt_of_len (v := X) (w := W) (by omega) (by omega) (by omega)
  rcases Int.lt_trichotomy vh wh with k1 | k1 | k1
  · obtain ⟨c, k2⟩ := cmpU vl wl
    exact nSB (bD4 t E u' v' n u vh vl wh wl b s g y2 xc y dc x W X hW hw hX hx _ _ rfl rfl (by omega) (by omega) (by omega) c k1 k2) rfl rfl rfl
  · exact nSB (bD5 t E u' v' n u vh vl wh wl b s g y2 xc y dc x W X hW hw hX hx _ _ rfl rfl (by omega) (by omega) (by omega) k1 (by omega)) rfl rfl rfl
  · omega
theorem oE (hs : s.size ≤ 1000) (g : Nat → Value) (y2 xc y dc x : AObj) : ∃ s', runB (seg 26 3) (SB t E u' v' n u vh vl wh wl b s g [y2, xc, y, dc] x) = some (.ret, s') ∧ s'.ts[12]? = some (.bool true) := by
  have hc := Lib.countB_le sp (by decide) s.size s (Nat.le_refl _)
  by_cases hz : s = ⟨#[]⟩
  · exact ⟨_, bEz t E u' v' n u vh vl wh wl b s g y2 xc y dc x hz _ rfl (by omega) (by omega), rfl⟩
  · exact ⟨_, bEp t E u' v' n u vh vl wh wl b s g y2 xc y dc x hs hz _ rfl _ rfl (by rw [pcs_len]; omega) (by omega) (by omega), rfl⟩
theorem tail4 {x : AObj} (hs : s.size ≤ 1000) {W X : Int} (hW : InW W) (hw : wv W = wd wh wl) (hX : InW X) (hx : wv X = wd vh vl) (hWe : W = wh * 18446744073709551616 + wl) (hXe : X = vh * 18446744073709551616 + vl) (rw1 : 0 ≤ wl ∧ wl < 18446744073709551616) (rv1 : 0 ≤ vl ∧ vl < 18446744073709551616)
    (g : Nat → Value) (y dc : AObj) : ∃ s', runB (seqOf (cB.drop 11)) (SB t E u' v' n u vh vl wh wl b s g [y, dc] x) = some (.ret, s') ∧ s'.ts[12]? = some (.bool true) := by
  obtain ⟨g1, e1⟩ := oC1 (t := t) (E := E) (u' := u') (v' := v') (n := n) (u := u) (vh := vh) (vl := vl) (wh := wh) (wl := wl) (b := b) hs g y dc x
  obtain ⟨g2, e2⟩ := oC2 (t := t) (E := E) (u' := u') (v' := v') (n := n) (u := u) (vh := vh) (vl := vl) (wh := wh) (wl := wl) (b := b) hs g1 y dc x
  obtain ⟨xc, g3, e3⟩ := oC3 (t := t) (E := E) (u' := u') (v' := v') (n := n) (u := u) (vh := vh) (vl := vl) (wh := wh) (wl := wl) (b := b) hs g2 y dc x
  obtain ⟨y2, g4, e4⟩ := oC4 (t := t) (E := E) (u' := u') (v' := v') (n := n) (u := u) (vh := vh) (vl := vl) (wh := wh) (wl := wl) (b := b) hs g3 xc y dc x
  obtain ⟨g5, e5⟩ := oD (t := t) (E := E) (u' := u') (v' := v') (n := n) (u := u) (b := b) (s := s) hW hw hX hx hWe hXe rw1 rv1 g4 y2 xc y dc x
  obtain ⟨s', e6, e7⟩ := oE (t := t) (E := E) (u' := u') (v' := v') (n := n) (u := u) (vh := vh) (vl := vl) (wh := wh) (wl := wl) (b := b) hs g5 y2 xc y dc x
  exact ⟨s', (adv e1).trans ((adv e2).trans ((adv e3).trans ((adv e4).trans ((adv e5).trans (advR e6))))), e7⟩
end
theorem dec_size (m : Nat) (h : m ≤ 18446744073709551616) : (Lib.decDigits m).length ≤ 100 := by
  rw [Lib.decDigits_length]
  have := nDigits_le (m := m) (k := 20) (by omega)
  omega
/-- The row's run. -/
theorem good4 (t : Nat → List Value) (E : Nat → TypeId) (u' v' : TypeId) {n u vh vl wh wl : Int} {s : ByteArray} {b : Value} {x : AObj} (hn : -9223372036854775808 ≤ n ∧ n ≤ 9223372036854775807) (hu : 0 ≤ u ∧ u < 18446744073709551616)
    (hvh : -9223372036854775808 ≤ vh ∧ vh ≤ 9223372036854775807) (hvl : 0 ≤ vl ∧ vl < 18446744073709551616) (hwh : -9223372036854775808 ≤ wh ∧ wh ≤ 9223372036854775807) (hwl : 0 ≤ wl ∧ wl < 18446744073709551616)
    (hb : (b = .slice none 0 0) ∨ ∃ (lz cz : Nat) (bs : List Int) (e : Nat), b = .slice (some ⟨12, 0, none⟩) lz cz ∧ x = oB bs e ∧ lz ≤ cz ∧ bs.length = cz ∧ Byt bs)
    (hk : ovB 5 [] (Hn t E u' v' [wc wh wl, wc vh vl, x]) = some (.bool true, Hn t E u' v' [wc wh wl, wc vh vl, x], [])) :
    (evCall Tryz.prog 10 (bodied Tryz.prog) ovB sbs 1000 20 4 (pre n u vh vl wh wl b s) (Hn t E u' v' [x])).map (·.1) = some (.bool true) := by
  by_cases hs : 1000 < s.size
  · exact call4 (advR (bAs t E u' v' n u vh vl wh wl b s x hk hs)) rfl
  have hs' : s.size ≤ 1000 := by omega
  -- what the two numbers are, and their texts
  have hW : InW (wh * 18446744073709551616 + wl) := by unfold InW; omega
  have hX : InW (vh * 18446744073709551616 + vl) := by unfold InW; omega
  have hw := wv_eq (v := wh * 18446744073709551616 + wl) rfl hwl
  have hx := wv_eq (v := vh * 18446744073709551616 + vl) rfl hvl
  obtain ⟨un, rfl⟩ : ∃ un : Nat, u = (un : Int) := ⟨u.toNat, by omega⟩
  have sdn : (⟨(Lib.itoa n).toArray⟩ : ByteArray).size ≤ 281474976710656 := by
    have := decV_len (v := n) (by unfold InW; omega)
    have e : (⟨(Lib.itoa n).toArray⟩ : ByteArray).size = (Lib.itoa n).length := by simp [ByteArray.size]
    omega
  have udn : undecV ⟨(Lib.itoa n).toArray⟩ = (n, true) := by
    have e : undec (Lib.itoa n) = some n := undec_some.2 ⟨hn.1, hn.2, rfl⟩
    unfold undecV
    simp only [e]
  have sdu : (⟨(Lib.decDigits un).toArray⟩ : ByteArray).size ≤ 281474976710656 := by
    have := dec_size un (by omega)
    have e : (⟨(Lib.decDigits un).toArray⟩ : ByteArray).size = (Lib.decDigits un).length := by simp [ByteArray.size]
    omega
  have udu : ununsV ⟨(Lib.decDigits un).toArray⟩ = (un, true) := by
    have e : ununs (Lib.decDigits un) = some un := ununs_some.2 ⟨by omega, rfl⟩
    unfold ununsV
    simp only [e]
  have udw : undecWV (decV (wh * 18446744073709551616 + wl)).data.toList = (wh * 18446744073709551616 + wl, true) := by
    have e : undecW (decV (wh * 18446744073709551616 + wl)).data.toList = some (wh * 18446744073709551616 + wl) := undecW_some.2 ⟨hW, rfl⟩
    unfold undecWV
    rw [e]
  have tl := fun (g : Nat → Value) (y dc : AObj) => tail4 (t := t) (E := E) (u' := u') (v' := v') (n := n) (u := (un : Int)) (b := b) (s := s) (x := x) hs' hW hw hX hx rfl rfl hwl hvl g y dc
  rcases hb with rfl | ⟨lz, cz, bs, e, rfl, rfl, hc, hbl, hbb⟩
  · obtain ⟨g0, e0⟩ := nSB (t := t) (E := E) (u' := u') (v' := v') (r := []) (x := x) (bAn t E u' v' n un vh vl wh wl s x hk hs') rfl rfl rfl
    obtain ⟨g1, e1⟩ := nSB (t := t) (E := E) (u' := u') (v' := v') (r := [_, _]) (x := x) (bBn t E u' v' n un vh vl wh wl s g0 x hn un rfl (by omega) _ hW hw _ rfl sdn udn _ rfl sdu udu _ rfl udw) rfl rfl rfl
    obtain ⟨s', e2, e3⟩ := tl g1 _ _
    exact call4 ((adv e0).trans ((adv e1).trans e2)) e3
  · by_cases hl : 1000 < lz
    · exact call4 (advR (bAb t E u' v' n un vh vl wh wl lz cz s _ hk hs' hl)) rfl
    obtain ⟨g0, e0⟩ := nSB (t := t) (E := E) (u' := u') (v' := v') (r := []) (x := oB bs e) (bAp t E u' v' n un vh vl wh wl lz cz s _ hk hs' (by omega)) rfl rfl rfl
    by_cases h0 : lz = 0
    · subst h0
      obtain ⟨g1, e1⟩ := nSB (t := t) (E := E) (u' := u') (v' := v') (r := [_, _]) (x := oB bs e) (bBz t E u' v' n un vh vl wh wl cz s g0 bs e hbl hbb hn un rfl (by omega) _ hW hw _ rfl sdn udn _ rfl sdu udu _ rfl udw) rfl rfl rfl
      obtain ⟨s', e2, e3⟩ := tl g1 _ _
      exact call4 ((adv e0).trans ((adv e1).trans e2)) e3
    · obtain ⟨g1, e1⟩ := nSB (t := t) (E := E) (u' := u') (v' := v') (r := [_, _]) (x := oB bs e) (bBp t E u' v' n un vh vl wh wl lz cz s g0 bs e hbl hbb (by omega) (by omega) hc hn un rfl (by omega) _ hW hw _ rfl sdn udn _ rfl sdu udu _ rfl udw) rfl rfl rfl
      obtain ⟨s', e2, e3⟩ := tl g1 _ _
      exact call4 ((adv e0).trans ((adv e1).trans e2)) e3
end Go.Proofs.YtflgpkkbifkpoaaGreatDoor.num
