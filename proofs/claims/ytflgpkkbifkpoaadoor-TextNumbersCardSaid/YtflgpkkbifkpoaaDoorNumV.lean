/- The reference's number of a text, as a law. -/
import Derived.Test.YtflgpkkbifkpoaaDoorRows
import Derived.Test.YtflgpkkbifkpoaaDoorNumU
namespace Go.Proofs.YtflgpkkbifkpoaaDoor.num
open Go.Dg (junk St Ex Ev Hint evCall evLoop bodied noOver Flats flatOver Heap AObj lay noO)
set_option linter.unusedVariables false

def L4 : List FuncId := [16]
noncomputable def o4 : FuncId → List Value → Option Value := lay Tryd.prog (bodied Tryd.prog) ov3 sbs 1000 20 L4 o3
noncomputable abbrev ov4 : Ev := flatOver o4
theorem o4_flats : ∀ f args v, o4 f args = some v → Flats Tryd.prog f args v := Dg.lay_flats mixed okB (Dg.flatOver_ok o3_flats) (by kernel_rfl) o3_flats
theorem under4 {f : FuncId} {args : List Value} {v : Value} (h : o3 f args = some v) (hf : L4.contains f = false := by rfl) : o4 f args = some v := Dg.lay_under hf h

/-- What the first j signs behind the place fr spell. -/
def pv (zs : List Int) (fr : Nat) : Nat → Nat
  | 0 => 0
  | j + 1 => pv zs fr j * 10 + (zs.getD (fr + j) 0 - 48).toNat
def Dig (z : Int) : Prop := 48 ≤ z ∧ z ≤ 57
def Byts (zs : List Int) : Prop := ∀ j, 0 ≤ zs.getD j 0 ∧ zs.getD j 0 < 256
theorem pv_lt {zs : List Int} {fr : Nat} : ∀ j, (∀ i, i < j → Dig (zs.getD (fr + i) 0)) → pv zs fr j < 10 ^ j
  | 0, _ => by rw [pv]; decide
  | j + 1, h => by
    have h1 := pv_lt j fun i hi => h i (by omega)
    have h2 := h j (by omega)
    unfold Dig at h2
    rw [pv, Nat.pow_succ]
    omega
theorem ten60 {j : Nat} (h : j ≤ 60) : 10 ^ j ≤ 10 ^ 60 := Nat.pow_le_pow_right (by decide) h
theorem big60 : 10 ^ 60 * 10 + 10 < B ^ 19 := by decide
section
variable (zs : List Int) (lb : Bool) (lm : Nat) (hb : Bool) (hm : Nat) (fr : Nat)
theorem u_round (hz : Byts zs) (hl : zs.length ≤ 60) (j : Nat) (hj : fr + j < zs.length) (h : ∀ i, i ≤ j → Dig (zs.getD (fr + i) 0)) :
    ∃ s', runU (SU zs lb lm hb hm fr (fr + j) (pv zs fr j)) = some (.normal, s') ∧ clU s' = SU zs lb lm hb hm fr (fr + (j + 1)) (pv zs fr (j + 1)) := by
  have h1 := pv_lt (zs := zs) (fr := fr) j fun i hi => h i (by omega)
  have h2 := ten60 (j := j) (by omega)
  have h3 := big60
  have h4 := h j (Nat.le_refl _)
  unfold Dig at h4
  exact ur zs lb lm hb hm fr (fr + j) (pv zs fr j) (pv zs fr j * 10) (pv zs fr (j + 1)) (zs.getD (fr + j) 0 - 48).toNat 10 rfl (zs.getD (fr + j) 0) hj hl rfl (hz _) h4.1 h4.2 (by omega) rfl rfl (by rw [pv]; omega) (by omega)
theorem u_digits (hz : Byts zs) (hl : zs.length ≤ 60) (hf : fr ≤ zs.length) (h : ∀ i, i < zs.length - fr → Dig (zs.getD (fr + i) 0)) {s0 : St} (h0 : clU s0 = SU zs lb lm hb hm fr fr 0) :
    evLoop runU clU 1000 s0 = some (.exit 0, EU zs lb lm hb hm fr zs.length (pv zs fr (zs.length - fr))) := by
  have e := Dg.loop_run (S := fun j => SU zs lb lm hb hm fr (fr + j) (pv zs fr j)) (n := zs.length - fr) (ex := .exit 0) (by simp) (fun j hj => u_round zs lb lm hb hm fr hz hl j (by omega) fun i hi => h i (by omega)) (ue_ zs lb lm hb hm fr (fr + (zs.length - fr)) (pv zs fr (zs.length - fr)) (by omega) hl) (fuel := 1000) (by omega) h0
  have e2 : evLoop runU clU 1000 s0 = some (.exit 0, EU zs lb lm hb hm fr (fr + (zs.length - fr)) (pv zs fr (zs.length - fr))) := e.trans (by kernel_rfl)
  rwa [show fr + (zs.length - fr) = zs.length by omega] at e2
theorem u_bad (hz : Byts zs) (hl : zs.length ≤ 60) (k : Nat) (hk : fr + k < zs.length) (h : ∀ i, i < k → Dig (zs.getD (fr + i) 0)) (hx : ¬ Dig (zs.getD (fr + k) 0)) :
    ∃ rest, ∀ s0, clU s0 = SU zs lb lm hb hm fr fr 0 → evLoop runU clU 1000 s0 = some (.ret, XU zs lb lm hb hm fr (fr + k) (pv zs fr k) rest) := by
  have run : ∀ E : St, runU (SU zs lb lm hb hm fr (fr + k) (pv zs fr k)) = some (.ret, E) → ∀ s0, clU s0 = SU zs lb lm hb hm fr fr 0 → evLoop runU clU 1000 s0 = some (.ret, E) := fun E hs s0 h0 =>
    Dg.loop_run (S := fun j => SU zs lb lm hb hm fr (fr + j) (pv zs fr j)) (n := k) (by simp) (fun j hj => u_round zs lb lm hb hm fr hz hl j (by omega) fun i hi => h i (by omega)) hs (by omega) h0
  unfold Dig at hx
  rcases Int.lt_or_le (zs.getD (fr + k) 0) 48 with h1 | h1
  · exact ⟨_, run _ (ux zs lb lm hb hm fr (fr + k) (pv zs fr k) _ hk hl rfl (hz _) h1)⟩
  · exact ⟨_, run _ (uy zs lb lm hb hm fr (fr + k) (pv zs fr k) _ hk hl rfl (hz _) (by omega))⟩
end
/-- The first place, from one on, at which something fails. -/
theorem first_not {p : Nat → Prop} (n : Nat) : (∀ i, i < n → p i) ∨ ∃ k, k < n ∧ (∀ i, i < k → p i) ∧ ¬ p k := by
  induction n with
  | zero => exact .inl fun i hi => by omega
  | succ n ih =>
    rcases ih with h | ⟨k, h1, h2, h3⟩
    · rcases Classical.em (p n) with hp | hp
      · refine .inl fun i hi => ?_
        rcases Nat.lt_or_ge i n with h0 | h0
        · exact h i h0
        · obtain rfl : i = n := by omega
          exact hp
      · exact .inr ⟨n, by omega, h, hp⟩
    · exact .inr ⟨k, by omega, h2, h3⟩
theorem flat3 (zs : List Int) (b c : Bool) (m n : Nat) : Dg.flatL [.string (txt zs), num b m, num c n] = true := by
  show (Dg.flat (.string (txt zs)) && Dg.flatL [num b m, num c n]) = true
  rw [flat2]
  rfl
theorem flatR (b : Bool) (m : Nat) (g : Bool) : Dg.flat (.tuple #[num b m, .bool g]) = true := by
  show (Dg.flat (num b m) && Dg.flatL [.bool g]) = true
  rw [num_flat]
  rfl
/-- Is a text that of a number, as the document asks? -/
def fromB (zs : List Int) : Bool := decide (0 < zs.length ∧ zs.getD 0 0 = 45)
def frN (zs : List Int) : Nat := if fromB zs = true then 1 else 0
def okU (zs : List Int) (lb : Bool) (lm : Nat) (hb : Bool) (hm : Nat) (v : Nat) : Bool :=
  ((decS (fromB zs) v).map fun n => UInt8.ofNat n.toNat) == (zs.map fun n => UInt8.ofNat n.toNat) && (decide (0 ≤ scmp (sval (fromB zs) v) (sval lb lm)) && decide (scmp (sval (fromB zs) v) (sval hb hm) ≤ 0))
/-- Digits all through. -/
theorem unnum_dig {zs : List Int} (hz : Byts zs) (lb : Bool) (lm : Nat) (hb : Bool) (hm : Nat) (hlm : lm < B ^ 20) (hhm : hm < B ^ 20) (h0 : frN zs < zs.length) (hl : zs.length ≤ 60) (h : ∀ i, i < zs.length - frN zs → Dig (zs.getD (frN zs + i) 0)) :
    o4 16 [.string (txt zs), num lb lm, num hb hm] = some (.tuple #[num (fromB zs) (pv zs (frN zs) (zs.length - frN zs)), .bool (okU zs lb lm hb hm (pv zs (frN zs) (zs.length - frN zs)))]) := by
  have hv : pv zs (frN zs) (zs.length - frN zs) < B ^ 20 := by
    have h1 := pv_lt (zs := zs) (fr := frN zs) _ h
    have h2 := ten60 (j := zs.length - frN zs) (by omega)
    have h3 := big60
    exact pow19 (by omega)
  have hloop := fun {s0 : St} (hs : clU s0 = SU zs lb lm hb hm (frN zs) (frN zs) 0) => u_digits zs lb lm hb hm (frN zs) hz hl (by omega) h hs
  generalize pv zs (frN zs) (zs.length - frN zs) = v at *
  have hN := num_told (fromB zs) hv
  have hc1 := under3 (cmp_told (fromB zs) lb hv hlm)
  have hc2 := under3 (cmp_told (fromB zs) hb hv hhm)
  unfold okU
  by_cases hB : fromB zs = true
  · have hfr : frN zs = 1 := by unfold frN; rw [if_pos hB]
    have h45 : zs.getD 0 0 = 45 := (of_decide_eq_true hB).2
    rw [hfr] at hloop h0
    rw [hB] at hN hc1 hc2 ⊢
    cases hq : ((decS true v).map fun n => UInt8.ofNat n.toNat) == (zs.map fun n => UInt8.ofNat n.toNat) with
    | false => exact Dg.lay_told rfl (uqfB zs lb lm hb hm _ rfl (hz 0) h45 h0 hl _ v (fun s0 hs => hloop hs) _ hN hq) (flat3 _ _ _ _ _) (flatR true v _)
    | true =>
      rcases Int.lt_or_le (scmp (sval true v) (sval lb lm)) 0 with hc | hc
      · rw [decide_eq_false (by omega)]
        exact Dg.lay_told rfl (uqlB zs lb lm hb hm _ rfl (hz 0) h45 h0 hl _ v (fun s0 hs => hloop hs) _ hN hq _ hc1 hc) (flat3 _ _ _ _ _) (flatR true v _)
      · rw [decide_eq_true hc]
        exact Dg.lay_told rfl (uqtB zs lb lm hb hm _ rfl (hz 0) h45 h0 hl _ v (fun s0 hs => hloop hs) _ hN hq _ _ hc1 hc hc2 _ rfl) (flat3 _ _ _ _ _) (flatR true v _)
  · have hB' : fromB zs = false := by simpa using hB
    have hfr : frN zs = 0 := by unfold frN; rw [if_neg hB]
    rw [hfr] at hloop h0
    have h45 : zs.getD 0 0 ≠ 45 := fun e => hB (decide_eq_true ⟨h0, e⟩)
    rw [hB'] at hN hc1 hc2 ⊢
    cases hq : ((decS false v).map fun n => UInt8.ofNat n.toNat) == (zs.map fun n => UInt8.ofNat n.toNat) with
    | false => exact Dg.lay_told rfl (uqfA zs lb lm hb hm _ rfl (hz 0) h45 h0 hl _ v (fun s0 hs => hloop hs) _ hN hq) (flat3 _ _ _ _ _) (flatR false v _)
    | true =>
      rcases Int.lt_or_le (scmp (sval false v) (sval lb lm)) 0 with hc | hc
      · rw [decide_eq_false (by omega)]
        exact Dg.lay_told rfl (uqlA zs lb lm hb hm _ rfl (hz 0) h45 h0 hl _ v (fun s0 hs => hloop hs) _ hN hq _ hc1 hc) (flat3 _ _ _ _ _) (flatR false v _)
      · rw [decide_eq_true hc]
        exact Dg.lay_told rfl (uqtA zs lb lm hb hm _ rfl (hz 0) h45 h0 hl _ v (fun s0 hs => hloop hs) _ hN hq _ _ hc1 hc hc2 _ rfl) (flat3 _ _ _ _ _) (flatR false v _)
/-- All else. -/
theorem unnum_not {zs : List Int} (hz : Byts zs) (lb : Bool) (lm : Nat) (hb : Bool) (hm : Nat) (h : ¬ (frN zs < zs.length ∧ zs.length ≤ 60 ∧ ∀ i, i < zs.length - frN zs → Dig (zs.getD (frN zs + i) 0))) :
    ∃ w, o4 16 [.string (txt zs), num lb lm, num hb hm] = some (.tuple #[num false w, .bool false]) := by
  by_cases he : zs.length = 0
  · exact ⟨0, Dg.lay_told rfl (by have := unone zs lb lm hb hm he; exact this) (flat3 _ _ _ _ _) (flatR false 0 _)⟩
  by_cases hB : fromB zs = true
  · have hfr : frN zs = 1 := by unfold frN; rw [if_pos hB]
    have h45 : zs.getD 0 0 = 45 := (of_decide_eq_true hB).2
    rw [hfr] at h
    by_cases h1 : zs.length = 1
    · exact ⟨0, Dg.lay_told rfl (by have := udash zs lb lm hb hm _ rfl (hz 0) h45 h1; exact this) (flat3 _ _ _ _ _) (flatR false 0 _)⟩
    by_cases hl : zs.length ≤ 60
    · rcases first_not (p := fun i => Dig (zs.getD (1 + i) 0)) (zs.length - 1) with h2 | ⟨k, h2, h3, h4⟩
      · exact absurd ⟨by omega, hl, h2⟩ h
      · obtain ⟨rest, hr⟩ := u_bad zs lb lm hb hm 1 hz hl k (by omega) h3 h4
        exact ⟨_, Dg.lay_told rfl (uretB zs lb lm hb hm _ rfl (hz 0) h45 (by omega) hl _ _ rest hr) (flat3 _ _ _ _ _) (flatR false _ _)⟩
    · exact ⟨0, Dg.lay_told rfl (by have := ulongB zs lb lm hb hm _ rfl (hz 0) h45 (by omega); exact this) (flat3 _ _ _ _ _) (flatR false 0 _)⟩
  · have hfr : frN zs = 0 := by unfold frN; rw [if_neg hB]
    have h45 : zs.getD 0 0 ≠ 45 := fun e => hB (decide_eq_true ⟨by omega, e⟩)
    rw [hfr] at h
    by_cases hl : zs.length ≤ 60
    · rcases first_not (p := fun i => Dig (zs.getD (0 + i) 0)) (zs.length - 0) with h2 | ⟨k, h2, h3, h4⟩
      · exact absurd ⟨by omega, hl, h2⟩ h
      · obtain ⟨rest, hr⟩ := u_bad zs lb lm hb hm 0 hz hl k (by omega) h3 h4
        exact ⟨_, Dg.lay_told rfl (uretA zs lb lm hb hm _ rfl (hz 0) h45 (by omega) hl _ _ rest hr) (flat3 _ _ _ _ _) (flatR false _ _)⟩
    · exact ⟨0, Dg.lay_told rfl (by have := ulongA zs lb lm hb hm _ rfl (hz 0) h45 (by omega); exact this) (flat3 _ _ _ _ _) (flatR false 0 _)⟩
end Go.Proofs.YtflgpkkbifkpoaaDoor.num
