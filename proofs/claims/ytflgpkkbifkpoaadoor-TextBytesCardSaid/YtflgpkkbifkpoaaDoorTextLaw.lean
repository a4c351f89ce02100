/- What the four functions of layer 4 for bytes come to over whatever heap. -/
import Derived.Test.YtflgpkkbifkpoaaDoorRows
import Derived.Test.YtflgpkkbifkpoaaDoorTextVc
import Derived.Test.YtflgpkkbifkpoaaDoorTextRefc
namespace Go.Proofs.YtflgpkkbifkpoaaDoor.text
open Go.Dg (junk St Ex Ev Hint evCall evCallS evCode evCodeK innerKp evCodeS evLoop cleanSt ue bodied noOver sbOf headOf tailOf bodyOf rAssign rBody lBody Flats flatOver Heap AObj SCall Law ofLaw Fix)
set_option linter.unusedVariables false
set_option linter.unusedSimpArgs false

theorem first_or {p : Nat → Prop} [DecidablePred p] : ∀ n, (∃ j, j < n ∧ p j ∧ ∀ i, i < j → ¬ p i) ∨ ∀ i, i < n → ¬ p i := by
  intro n
  induction n with
  | zero => exact .inr fun i hi => by omega
  | succ n ih =>
    rcases ih with ⟨j, h1, h2, h3⟩ | h
    · exact .inl ⟨j, by omega, h2, h3⟩
    · by_cases hn : p n
      · exact .inl ⟨n, by omega, hn, h⟩
      · refine .inr fun i hi => ?_
        rcases Nat.lt_or_ge i n with h0 | h0
        · exact h i h0
        · obtain rfl : i = n := by omega
          exact hn
instance (z : Int) : Decidable (isHex z) := by unfold isHex; infer_instance
def Good (zs : List Int) : Prop := zs.length % 2 = 0 ∧ ∀ j, j < zs.length → isHex (zs.getD j 0)
def Byt (zs : List Int) : Prop := ∀ j, 0 ≤ zs.getD j 0 ∧ zs.getD j 0 < 256
open Classical in
/-- What the bytes of a text are. -/
noncomputable def unV (H : Heap) (zs : List Int) : Value × Heap × List Nat :=
  if Good zs then (if zs = [] then (.tuple #[.slice none 0 0, .bool true], H, []) else (.tuple #[.slice (some ⟨H.n, 0, some 0⟩) (zs.length / 2) (zs.length / 2), .bool true], H.push (rowU (outL zs (zs.length / 2))), [])) else (.tuple #[.slice none 0 0, .bool false], H, [])
noncomputable abbrev ev8 : List Value → Heap → Option (Value × Heap × List Nat) := evCall Tryd.prog 0 (bodied Tryd.prog) noOver sbs 4000 20 8
noncomputable abbrev ev9 : List Value → Heap → Option (Value × Heap × List Nat) := evCall Tryd.prog 0 (bodied Tryd.prog) noOver sbs 4000 20 9
theorem txt_nil : txt [] = ⟨#[]⟩ := rfl
theorem good_nil : Good [] := ⟨rfl, fun j hj => by simp at hj⟩
theorem bad_of {zs : List Int} (hp : zs.length % 2 = 0) (h : ¬ Good zs) : ∃ n, n < zs.length ∧ ¬ isHex (zs.getD n 0) ∧ ∀ j, j < n → isHex (zs.getD j 0) := by
  rcases first_or (p := fun j => ¬ isHex (zs.getD j 0)) zs.length with ⟨j, h1, h2, h3⟩ | h'
  · exact ⟨j, h1, h2, fun i hi => Decidable.not_not.1 (h3 i hi)⟩
  · exact absurd ⟨hp, fun i hi => Decidable.not_not.1 (h' i hi)⟩ h
theorem un_bad {zs : List Int} (hb : zs.length ≤ 2000) (hz : Byt zs) {n : Nat} (hn : n < zs.length) (hx : ∀ j, j < n → isHex (zs.getD j 0)) (hnx : ¬ isHex (zs.getD n 0)) : ev8 [.string (txt zs)] ⟨0, []⟩ = some (.tuple #[.slice none 0 0, .bool false], ⟨0, []⟩, []) := by
  obtain ⟨rest, p, h | ⟨os, h⟩⟩ := loopZ zs hb hz n hn hx hnx
  · exact uny zs rest p h
  · exact unz zs rest p os h
theorem un_is {zs : List Int} (hb : zs.length ≤ 2000) (hz : Byt zs) : ev8 [.string (txt zs)] ⟨0, []⟩ = some (unV ⟨0, []⟩ zs) := by
  unfold unV
  by_cases hg : Good zs
  · rw [if_pos hg]
    by_cases he : zs = []
    · rw [if_pos he, he]; exact un0
    · rw [if_neg he]
      have hp : 0 < zs.length := by cases zs with | nil => exact absurd rfl he | cons => simp
      have h1 := hg.1
      obtain ⟨i, hi⟩ : ∃ i, zs.length = i + 2 := ⟨zs.length - 2, by omega⟩
      have h := unc zs i hi hb (by omega) hg.2
      rw [outL_len] at h
      rw [hi]
      exact h
  · rw [if_neg hg]
    rcases first_or (p := fun j => ¬ isHex (zs.getD j 0)) zs.length with ⟨j, h1, h2, h3⟩ | h'
    · exact un_bad hb hz h1 (fun i hi => Decidable.not_not.1 (h3 i hi)) h2
    · have hx : ∀ j, j < zs.length → isHex (zs.getD j 0) := fun i hi => Decidable.not_not.1 (h' i hi)
      have hodd : zs.length % 2 = 1 := by
        rcases Nat.mod_two_eq_zero_or_one zs.length with h | h
        · exact absurd ⟨h, hx⟩ hg
        · exact h
      rcases Nat.lt_or_ge zs.length 2 with h2 | h2
      · exact un1 zs (by omega) hx
      · obtain ⟨i, hi⟩ : ∃ i, zs.length = i + 2 := ⟨zs.length - 2, by omega⟩
        exact uno zs i hi hb (by omega) hx
theorem vn_is {zs : List Int} (hb : zs.length ≤ 2000) (hz : Byt zs) : ev9 [.string (txt zs)] ⟨0, []⟩ = some (unV ⟨0, []⟩ zs) := by
  unfold unV
  by_cases hg : Good zs
  · rw [if_pos hg]
    by_cases he : zs = []
    · rw [if_pos he, he]; exact vn0
    · rw [if_neg he]
      have hp : 0 < zs.length := by cases zs with | nil => exact absurd rfl he | cons => simp
      have h1 := hg.1
      obtain ⟨i, hi⟩ : ∃ i, zs.length = i + 1 := ⟨zs.length - 1, by omega⟩
      have h := vnc zs i hi (by omega) hb hz hg.2
      have e1 : outV zs (i + 1) = outL zs ((i + 1) / 2) := if_pos (by omega)
      rw [e1, show (i + 2) / 2 = (i + 1) / 2 by omega] at h
      rw [hi]
      exact h
  · rw [if_neg hg]
    rcases Nat.mod_two_eq_zero_or_one zs.length with h | h
    · obtain ⟨n, hn, hnx, hx⟩ := bad_of h hg
      obtain ⟨rest, h1 | ⟨os, h1⟩⟩ := loopVz zs hb hz n hn hx hnx
      · exact vny zs h rest h1
      · exact vnz zs h rest os h1
    · exact vno zs h
/-- The text of bytes in memory. -/
def C6 : Law := fun args H r => (args = [.slice none 0 0] ∧ r = (.string ⟨#[]⟩, H, [])) ∨ ∃ k lz cz zs e, args = [.slice (some ⟨k, 0, none⟩) lz cz] ∧ H.get k = oB zs e ∧ lz ≤ 1000 ∧ lz ≤ cz ∧ zs.length = cz ∧ Byt zs ∧ r = (.string (txt (hexL zs lz)), H, [])
/-- The bytes of a text. -/
def C8 : Law := fun args H r => ∃ zs, args = [.string (txt zs)] ∧ zs.length ≤ 2000 ∧ Byt zs ∧ r = unV H zs
theorem u8s_inj {a b : List Int} (h : u8s a = u8s b) : a = b := by
  unfold u8s at h
  exact (List.map_inj_right (fun x y hxy => by injection hxy)).1 h
theorem oB_inj {a b : List Int} {e f : Nat} (h : oB a e = oB b f) : a = b := by
  unfold oB at h
  injection h with h1
  exact u8s_inj h1
theorem uniq6 : ∀ args H r r', C6 args H r → C6 args H r' → r = r' := by
  rintro args H r r' (⟨h1, h2⟩ | ⟨k, lz, cz, zs, e, h1, h2, h3, h4, h5, h6, h7⟩) (⟨g1, g2⟩ | ⟨k', lz', cz', zs', e', g1, g2, g3, g4, g5, g6, g7⟩)
  · rw [h2, g2]
  · rw [h1] at g1; simp at g1
  · rw [g1] at h1; simp at h1
  · rw [h1] at g1
    simp only [List.cons.injEq, Value.slice.injEq, Option.some.injEq, Addr.mk.injEq, and_true, true_and] at g1
    obtain ⟨rfl, rfl, rfl⟩ := g1
    obtain rfl := oB_inj (h2.symm.trans g2)
    rw [h7, g7]
theorem byt_mem {zs : List Int} (h : Byt zs) : ∀ z ∈ zs, 0 ≤ z ∧ z < 256 := by
  intro z hz
  obtain ⟨i, hi⟩ := List.mem_iff_getElem?.1 hz
  have := h i
  rw [List.getD_eq_getElem?_getD, hi] at this
  exact this
theorem u8_inj {a b : Int} (ha : 0 ≤ a ∧ a < 256) (hb : 0 ≤ b ∧ b < 256) (h : UInt8.ofNat a.toNat = UInt8.ofNat b.toNat) : a = b := by
  have h2 := congrArg UInt8.toNat h
  rw [UInt8.toNat_ofNat', UInt8.toNat_ofNat'] at h2
  omega
theorem txt_inj : ∀ {a b : List Int}, (∀ z ∈ a, 0 ≤ z ∧ z < 256) → (∀ z ∈ b, 0 ≤ z ∧ z < 256) → txt a = txt b → a = b := by
  intro a b ha hb h
  have h1 : (a.map fun n => UInt8.ofNat n.toNat) = b.map fun n => UInt8.ofNat n.toNat := by
    have := congrArg (fun x : ByteArray => x.data.toList) h
    simpa [txt] using this
  clear h
  induction a generalizing b with
  | nil => cases b with | nil => rfl | cons => simp at h1
  | cons x a ih =>
    cases b with
    | nil => simp at h1
    | cons y b =>
      simp only [List.map_cons, List.cons.injEq] at h1
      obtain rfl := u8_inj (ha x (List.mem_cons_self ..)) (hb y (List.mem_cons_self ..)) h1.1
      rw [ih (fun z hz => ha z (List.mem_cons_of_mem _ hz)) (fun z hz => hb z (List.mem_cons_of_mem _ hz)) h1.2]
theorem uniq8 : ∀ args H r r', C8 args H r → C8 args H r' → r = r' := by
  rintro args H r r' ⟨zs, h1, h2, h3, h4⟩ ⟨zs', g1, g2, g3, g4⟩
  rw [h1] at g1
  simp only [List.cons.injEq, Value.string.injEq, and_true] at g1
  obtain rfl := txt_inj (byt_mem h3) (byt_mem g3) g1
  rw [h4, g4]
theorem fixB (zs : List Int) (e : Nat) : Fix (oB zs e) := Dg.Fix.mk' (md := 2)
theorem fixU (zs : List Int) : Fix (rowU zs) := Dg.Fix.mk' (md := 1)
theorem okT : Dg.BodiesOk Tryd.prog (bodied Tryd.prog) := Dg.bodied_ok _
theorem s6 {f : Nat} (hf : f = 6 ∨ f = 7) {args : List Value} {H : Heap} {v : Value} {H' : Heap} {log : List Nat} (h : C6 args H (v, H', log)) : SCall Tryd.prog f args H v H' log := by
  rcases h with ⟨rfl, h2⟩ | ⟨k, lz, cz, zs, e, rfl, h2, h3, h4, h5, h6, h7⟩
  · cases h2
    have hc : SCall Tryd.prog f [.slice none 0 0] ⟨0, []⟩ (.string ⟨#[]⟩) ⟨0, []⟩ [] := by
      rcases hf with rfl | rfl
      · exact SCall.of_ev mixed okT Dg.noOver_ok hexn
      · exact SCall.of_ev mixed okT Dg.noOver_ok refn
    exact hc.keeps [] (by simp) rfl rfl (fun i k hik => by simp at hik) rfl (by simp [Dg.idsOfL, Dg.idsOf]) (fun _ => rfl)
  · cases h7
    have hc : SCall Tryd.prog f [aB lz cz] ⟨1, [oB zs e]⟩ (.string (txt (hexL zs lz))) ⟨1, [oB zs e]⟩ [] := by
      cases lz with
      | zero =>
        rcases hf with rfl | rfl
        · exact SCall.of_ev mixed okT Dg.noOver_ok (hex0 cz zs e)
        · exact SCall.of_ev mixed okT Dg.noOver_ok (ref0 cz zs e)
      | succ i =>
        rcases hf with rfl | rfl
        · exact SCall.of_ev mixed okT Dg.noOver_ok (hexp (i + 1) cz zs e h3 h4 h5 h6 i rfl)
        · exact SCall.of_ev mixed okT Dg.noOver_ok (refp (i + 1) cz zs e h3 h4 h5 h6 i rfl)
    refine hc.keeps [k] (by simp) rfl rfl ?_ (by simp [Dg.renL, Dg.renV, Dg.renK, aB]) (by simp [Dg.idsOfL, Dg.idsOf]) (fun _ => rfl)
    intro i j hij
    cases i with
    | zero =>
      simp only [List.getElem?_cons_zero, Option.some.injEq] at hij
      subst hij
      exact ⟨h2, fixB zs e⟩
    | succ i => simp at hij
theorem s8 {f : Nat} (hf : f = 8 ∨ f = 9) {args : List Value} {H : Heap} {v : Value} {H' : Heap} {log : List Nat} (h : C8 args H (v, H', log)) : SCall Tryd.prog f args H v H' log := by
  obtain ⟨zs, rfl, hb, hz, h4⟩ := h
  have hc : ∀ v' h' l', unV ⟨0, []⟩ zs = (v', h', l') → SCall Tryd.prog f [.string (txt zs)] ⟨0, []⟩ v' h' l' := by
    intro v' h' l' hu
    rcases hf with rfl | rfl
    · exact SCall.of_ev mixed okT Dg.noOver_ok ((un_is hb hz).trans (congrArg some hu))
    · exact SCall.of_ev mixed okT Dg.noOver_ok ((vn_is hb hz).trans (congrArg some hu))
  unfold unV at h4 hc
  by_cases hg : Good zs
  · rw [if_pos hg] at h4 hc
    by_cases he : zs = []
    · rw [if_pos he] at h4 hc
      cases h4
      exact (hc _ _ _ rfl).keeps [] (by simp) rfl rfl (fun i k hik => by simp at hik) rfl (by simp [Dg.idsOfL, Dg.idsOf]) (fun _ => rfl)
    · rw [if_neg he] at h4 hc
      cases h4
      exact (hc _ _ _ rfl).pushes (fixU _) rfl [] (by simp) rfl rfl (fun i k hik => by simp at hik) rfl (by simp [Dg.idsOfL, Dg.idsOf]) (by simp [Dg.renV, Dg.renA, Dg.renL, Dg.back])
  · rw [if_neg hg] at h4 hc
    cases h4
    exact (hc _ _ _ rfl).keeps [] (by simp) rfl rfl (fun i k hik => by simp at hik) rfl (by simp [Dg.idsOfL, Dg.idsOf]) (fun _ => rfl)
noncomputable def overT : Ev := fun f args H => match f with
  | 6 => ofLaw C6 args H
  | 7 => ofLaw C6 args H
  | 8 => ofLaw C8 args H
  | 9 => ofLaw C8 args H
  | _ => none
theorem overT_ok : Dg.CallOk Tryd.prog 0 overT ∧ Dg.CallLog overT := Dg.over_ok fun f args H v H' log h => by
  unfold overT at h
  split at h
  · exact s6 (.inl rfl) (Dg.ofLaw_inv h)
  · exact s6 (.inr rfl) (Dg.ofLaw_inv h)
  · exact s8 (.inl rfl) (Dg.ofLaw_inv h)
  · exact s8 (.inr rfl) (Dg.ofLaw_inv h)
  · cases h
end Go.Proofs.YtflgpkkbifkpoaaDoor.text
