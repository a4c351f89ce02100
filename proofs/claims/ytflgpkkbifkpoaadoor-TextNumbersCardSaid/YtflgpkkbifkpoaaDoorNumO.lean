/- The oracle of the row 'TextNumbers': text.Dec and its like as the model has them; the reference's numbers by what they come to; the chapter's examples as they are run. -/
import Derived.Test.YtflgpkkbifkpoaaDoorRows
import Derived.Test.YtflgpkkbifkpoaaDoorTextBase
import Derived.Test.YtflgpkkbifkpoaaDoorNumK
import Derived.Test.YtflgpkkbifkpoaaDoorNumQ
namespace Go.Proofs.YtflgpkkbifkpoaaDoor.num
open Go.Dg (St Ex Ev Hint evCall bodied noOver sbOf Heap AObj SCall Law ofLaw flatOver)
open Go.Proofs.YtflgpkkbifkpoaaDoor.text (ui pow10L)
set_option linter.unusedVariables false

/-- The table of powers of ten, and the two errors, lie where their variables are. -/
def TabOk (H : Heap) : Prop := ∃ e, H.get 2 = .cells (ui .u64 pow10L) e 6 1
def ErrOk (H : Heap) : Prop := (∃ u k e, H.get 3 = .cells [.iface u (.pointer (some ⟨k, 0, none⟩))] e 2 1) ∧ ∃ u k e, H.get 4 = .cells [.iface u (.pointer (some ⟨k, 0, none⟩))] e 2 1
def CDec : Law := fun args H r => ∃ n : Int, args = [.int .i64 n] ∧ -9223372036854775808 ≤ n ∧ n ≤ 9223372036854775807 ∧ TabOk H ∧ r = (.string ⟨(Lib.itoa n).toArray⟩, H, [])
def CUns : Law := fun args H r => ∃ n : Nat, args = [.int .u64 (n : Int)] ∧ n < 18446744073709551616 ∧ TabOk H ∧ r = (.string ⟨(Lib.decDigits n).toArray⟩, H, [])
def CUnd : Law := fun args H r => ∃ s : ByteArray, args = [.string s] ∧ s.size ≤ 281474976710656 ∧ TabOk H ∧ ErrOk H ∧ r = (.tuple #[.int .i64 (undecV s).1, .bool (undecV s).2], H, [])
def CUnu : Law := fun args H r => ∃ s : ByteArray, args = [.string s] ∧ s.size ≤ 281474976710656 ∧ TabOk H ∧ ErrOk H ∧ r = (.tuple #[.int .u64 ((ununsV s).1 : Int), .bool (ununsV s).2], H, [])
theorem CDec_uniq : ∀ args H r r', CDec args H r → CDec args H r' → r = r' := by
  rintro args H r r' ⟨n, h, _, _, _, rfl⟩ ⟨m, h', _, _, _, rfl⟩
  rw [h] at h'
  injection h' with h1
  injection h1 with h2 h3
  rw [h3]
theorem CUns_uniq : ∀ args H r r', CUns args H r → CUns args H r' → r = r' := by
  rintro args H r r' ⟨n, h, _, _, rfl⟩ ⟨m, h', _, _, rfl⟩
  rw [h] at h'
  injection h' with h1
  injection h1 with h2 h3
  rw [Int.ofNat.inj h3]
theorem CUnd_uniq : ∀ args H r r', CUnd args H r → CUnd args H r' → r = r' := by
  rintro args H r r' ⟨n, h, _, _, _, rfl⟩ ⟨m, h', _, _, _, rfl⟩
  rw [h] at h'
  injection h' with h1
  injection h1 with h2
  rw [h2]
theorem CUnu_uniq : ∀ args H r r', CUnu args H r → CUnu args H r' → r = r' := by
  rintro args H r r' ⟨n, h, _, _, _, rfl⟩ ⟨m, h', _, _, _, rfl⟩
  rw [h] at h'
  injection h' with h1
  injection h1 with h2
  rw [h2]
noncomputable def ovT : Ev := fun f args H => match f with
  | 5 => evCall Tryd.prog 10 (bodied Tryd.prog) noOver text.sbs 1000 20 5 args H
  | 10 => ofLaw CDec args H
  | 13 => ofLaw CUns args H
  | 15 => ofLaw CUnd args H
  | 18 => ofLaw CUnu args H
  | f => flatOver o4 f args H

/-! ### The oracle is sound. -/
theorem glob_cell {M : Dg.Emb} {N : Nat} {H : Heap} {w : World} (hg : Dg.Globs 10 M) (hr : Dg.HRel M N H w) {g : Nat} (hg10 : g < 10) {cs : List Value} {e md esz : Nat} (h : H.get g = .cells cs e md esz) {i : Nat} {v : Value} (hv : cs[i]? = some v) :
    ∃ v', w.cell? ⟨g, i, none⟩ = some v' ∧ Dg.VRel M v v' := by
  obtain ⟨b, o, sp, h1, h2⟩ := hr.obj g (by rw [h]; rfl)
  rw [hg g hg10] at h1
  cases h1
  rw [h] at h2
  obtain ⟨C, fz, h3, _, h4, _⟩ := h2
  obtain ⟨v', h5, h6⟩ := h4 i v hv
  refine ⟨v', ?_, h6⟩
  rw [Nat.zero_add] at h5
  simp [World.cell?, h3, h5]
theorem pow10_at : ui .u64 pow10L = (List.range 20).map fun i => Value.int .u64 ((10 ^ i : Nat) : Int) := by kernel_rfl
theorem tab_of {M : Dg.Emb} {N : Nat} {H : Heap} {w : World} (hg : Dg.Globs 10 M) (hr : Dg.HRel M N H w) (h : TabOk H) : Tab w := by
  obtain ⟨e, h⟩ := h
  intro i hi
  obtain ⟨v', h1, h2⟩ := glob_cell hg hr (by decide) h (i := i) (v := .int .u64 ((10 ^ i : Nat) : Int)) (by rw [pow10_at]; simp [hi])
  rw [h1, h2.eq_of_flat rfl]
theorem err_of {M : Dg.Emb} {N : Nat} {H : Heap} {w : World} (hg : Dg.Globs 10 M) (hr : Dg.HRel M N H w) {g : Nat} (hg10 : g < 10) (h : ∃ u k e, H.get g = .cells [.iface u (.pointer (some ⟨k, 0, none⟩))] e 2 1) : ∃ t p, w.cell? ⟨g, 0, none⟩ = some (.iface t p) := by
  obtain ⟨u, k, e, h⟩ := h
  obtain ⟨v', h1, h2⟩ := glob_cell hg hr hg10 h (i := 0) (v := .iface u (.pointer (some ⟨k, 0, none⟩))) rfl
  cases h2 with
  | atom h => cases h
  | iface h => exact ⟨_, _, h1⟩
theorem keep_of {f : FuncId} {args args' : List Value} {v : Value} {M : Dg.Emb} {N : Nat} {H : Heap} {w : World} (hr : Dg.HRel M N H w) (ha : Dg.flatL args = true) (hv : Dg.flat v = true) (hl : Dg.LRel M args args')
    (hc : Calls Tryd.prog f args.toArray w fun e w' => e = .returned v ∧ RowKit.Below w.heap.size w w') : Calls Tryd.prog f args'.toArray w fun e w' => ∃ M' v', e = .returned v' ∧ Dg.VRel M' v v' ∧ Dg.Stp N M H w M' H w' := by
  have e : args' = args := hl.eq_of_flat ha
  rw [e]
  exact hc.mono fun e w' ⟨he, hb⟩ => ⟨M, v, he, Dg.vrel_of_flat _ _ hv, .of_below hr hb⟩
theorem ovT_ok : Dg.CallOk Tryd.prog 10 ovT ∧ Dg.CallLog ovT := by
  have hk := Dg.evCall_ok (G := 10) mixed okB (Dg.CallOk.anyG (Dg.noOver_ok (P := Tryd.prog) (G := 0)).1) (Dg.noOver_ok (P := Tryd.prog) (G := 0)).2 text.sbs 1000 20
  have hf := Dg.flatOver_ok (P := Tryd.prog) (G := 10) o4_flats
  constructor
  · intro f args H v H' log he hY N M w args' hg hr hl
    have hl' : Dg.LRel M args args'.toList := hl
    unfold ovT at he
    split at he
    · exact hk.1 5 args H v H' log he hY N M w args' hg hr hl
    · obtain ⟨n, rfl, h0, h1, ht, e⟩ := Dg.ofLaw_inv he
      cases e
      exact keep_of hr rfl rfl hl' (dec_calls n h0 h1 w (tab_of hg hr ht))
    · obtain ⟨n, rfl, h0, ht, e⟩ := Dg.ofLaw_inv he
      cases e
      exact keep_of hr rfl rfl hl' (uns_calls n h0 w (tab_of hg hr ht))
    · obtain ⟨s, rfl, h0, ht, ⟨h3, h4⟩, e⟩ := Dg.ofLaw_inv he
      cases e
      obtain ⟨t3, p3, c3⟩ := err_of hg hr (by decide) h3
      obtain ⟨t4, p4, c4⟩ := err_of hg hr (by decide) h4
      exact keep_of hr rfl rfl hl' (undec_calls s h0 w (tab_of hg hr ht) t3 t4 p3 p4 c3 c4)
    · obtain ⟨s, rfl, h0, ht, ⟨h3, h4⟩, e⟩ := Dg.ofLaw_inv he
      cases e
      obtain ⟨t3, p3, c3⟩ := err_of hg hr (by decide) h3
      obtain ⟨t4, p4, c4⟩ := err_of hg hr (by decide) h4
      exact keep_of hr rfl rfl hl' (ununs_calls s h0 w (tab_of hg hr ht) t3 t4 p3 p4 c3 c4)
    · exact hf.1 _ args H v H' log he hY N M w args' hg hr hl
  · intro f args H v H' log he
    unfold ovT at he
    split at he
    · exact hk.2.2 5 args H v H' log he
    · obtain ⟨n, rfl, h0, h1, ht, e⟩ := Dg.ofLaw_inv he
      cases e
      exact fun hlen => ⟨hlen, Nat.le_refl _, fun k _ _ => rfl⟩
    · obtain ⟨n, rfl, h0, ht, e⟩ := Dg.ofLaw_inv he
      cases e
      exact fun hlen => ⟨hlen, Nat.le_refl _, fun k _ _ => rfl⟩
    · obtain ⟨s, rfl, h0, ht, _, e⟩ := Dg.ofLaw_inv he
      cases e
      exact fun hlen => ⟨hlen, Nat.le_refl _, fun k _ _ => rfl⟩
    · obtain ⟨s, rfl, h0, ht, _, e⟩ := Dg.ofLaw_inv he
      cases e
      exact fun hlen => ⟨hlen, Nat.le_refl _, fun k _ _ => rfl⟩
    · exact hf.2 _ args H v H' log he
end Go.Proofs.YtflgpkkbifkpoaaDoor.num
