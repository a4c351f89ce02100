/- The reference's number of a text: of which texts there is one. -/
import Derived.Test.YtflgpkkbifkpoaaDoorRows
import Derived.Test.YtflgpkkbifkpoaaDoorNumP
namespace Go.Proofs.YtflgpkkbifkpoaaDoor.num
set_option linter.unusedVariables false

theorem ints_len (l : List UInt8) : (ints l).length = l.length := by simp [ints]
theorem ints_get {l : List UInt8} {i : Nat} (h : i < l.length) : (ints l).getD i 0 = ((l[i]).toNat : Int) := by
  simp [ints, List.getD_eq_getElem?_getD, h]
theorem ints_byts (l : List UInt8) : Byts (ints l) := fun j => by
  by_cases h : j < l.length
  · rw [ints_get h]
    have := (l[j]).toNat_lt
    omega
  · rw [List.getD_eq_getElem?_getD, List.getElem?_eq_none (by rw [ints_len]; omega)]
    simp
theorem pv_ints (l : List UInt8) (fr : Nat) : ∀ j, fr + j ≤ l.length → pv (ints l) fr j = valB 0 ((l.drop fr).take j) := by
  intro j
  induction j with
  | zero => intro _; rw [List.take_zero, valB_nil, pv]
  | succ j ih =>
    intro h
    have hj : j < (l.drop fr).length := by rw [List.length_drop]; omega
    rw [pv, ih (by omega), List.take_succ_eq_append_getElem hj, valB_app, ints_get (by omega), List.getElem_drop]
    unfold stepB
    have := (l[fr + j]).toNat_lt
    omega
theorem scmp_lo {x y : Int} : 0 ≤ scmp x y ↔ y ≤ x := by
  unfold scmp
  constructor
  · intro h
    split at h
    · omega
    · omega
  · intro h
    rw [if_neg (by omega)]
    split <;> omega
theorem scmp_hi {x y : Int} : scmp x y ≤ 0 ↔ x ≤ y := by
  unfold scmp
  constructor
  · intro h
    split at h
    · omega
    · split at h <;> omega
  · intro h
    split
    · omega
    · rw [if_neg (by omega)]; omega
/-- What okU asks. -/
theorem okU_is (l : List UInt8) (lb : Bool) (lm : Nat) (hb : Bool) (hm v : Nat) : okU (ints l) lb lm hb hm v = true ↔ (Lib.itoa (sval (fromB (ints l)) v) = l ∧ sval lb lm ≤ sval (fromB (ints l)) v ∧ sval (fromB (ints l)) v ≤ sval hb hm) := by
  have e1 : ((decS (fromB (ints l)) v).map fun n => UInt8.ofNat n.toNat) = Lib.itoa (sval (fromB (ints l)) v) := bs_decS _ _
  have e2 : ((ints l).map fun n => UInt8.ofNat n.toNat) = l := bs_ints l
  unfold okU
  rw [e1, e2]
  simp only [Bool.and_eq_true, beq_iff_eq, decide_eq_true_eq, scmp_lo, scmp_hi]
theorem sval_int (n : Int) : sval (decide (n < 0)) n.natAbs = n := by
  unfold sval
  by_cases h : n < 0
  · rw [decide_eq_true h, if_pos rfl]; omega
  · rw [decide_eq_false h, if_neg (by decide)]; omega
/-- What a number's own text is, sign by sign. -/
theorem own_text {n : Int} (hn : n.natAbs < 10 ^ 50) : fromB (ints (Lib.itoa n)) = decide (n < 0) ∧ frN (ints (Lib.itoa n)) < (ints (Lib.itoa n)).length ∧ (ints (Lib.itoa n)).length ≤ 60 ∧
    (∀ i, i < (ints (Lib.itoa n)).length - frN (ints (Lib.itoa n)) → Dig ((ints (Lib.itoa n)).getD (frN (ints (Lib.itoa n)) + i) 0)) ∧ pv (ints (Lib.itoa n)) (frN (ints (Lib.itoa n))) ((ints (Lib.itoa n)).length - frN (ints (Lib.itoa n))) = n.natAbs := by
  have hd := nDigits_le (m := n.natAbs) (k := 49) hn
  have hp := Lib.nDigits_pos n.natAbs
  have hlen : (Lib.decDigits n.natAbs).length = Lib.nDigits n.natAbs := Lib.decDigits_length _
  obtain ⟨v1, v2, v3⟩ := dec_val n.natAbs
  by_cases h : n < 0
  · have hl : Lib.itoa n = 45 :: Lib.decDigits n.natAbs := by unfold Lib.itoa; rw [if_pos h]
    have hf : fromB (ints (Lib.itoa n)) = true := by
      unfold fromB
      rw [hl, decide_eq_true_eq]
      exact ⟨by rw [ints_len]; simp, rfl⟩
    have hfr : frN (ints (Lib.itoa n)) = 1 := by unfold frN; rw [if_pos hf]
    have hL : (ints (Lib.itoa n)).length = Lib.nDigits n.natAbs + 1 := by rw [ints_len, hl, List.length_cons, hlen]
    refine ⟨by rw [hf, decide_eq_true h], by omega, by omega, fun i hi => ?_, ?_⟩
    · rw [hfr, ints_get (by rw [← ints_len]; omega)]
      have hm : (Lib.itoa n)[1 + i]'(by rw [← ints_len]; omega) ∈ Lib.decDigits n.natAbs := by
        have hi2 : i < (Lib.decDigits n.natAbs).length := by omega
        have : (Lib.itoa n)[1 + i]'(by rw [← ints_len]; omega) = (Lib.decDigits n.natAbs)[i] := by
          simp only [hl, Nat.add_comm 1 i, List.getElem_cons_succ]
        rw [this]
        exact List.getElem_mem hi2
      have := v2 _ hm
      unfold DigB at this
      unfold Dig
      omega
    · rw [hfr, hL, pv_ints _ _ _ (by rw [hl, List.length_cons, hlen]; omega), hl, List.drop_one, List.tail_cons, List.take_of_length_le (by omega), v1]
  · have hl : Lib.itoa n = Lib.decDigits n.natAbs := by
      unfold Lib.itoa
      rw [if_neg h]
      congr 1
      omega
    have h0 : 0 < (Lib.itoa n).length := by rw [hl, hlen]; omega
    have hmem : ∀ c ∈ Lib.itoa n, DigB c := fun c hc => v2 c (by rw [← hl]; exact hc)
    have hg : ∀ i (hi : i < (Lib.itoa n).length), DigB ((Lib.itoa n)[i]) := fun i hi => hmem _ (List.getElem_mem hi)
    have hf : fromB (ints (Lib.itoa n)) = false := by
      unfold fromB
      rw [decide_eq_false_iff_not]
      rintro ⟨_, he⟩
      rw [ints_get h0] at he
      have := hg 0 h0
      unfold DigB at this
      omega
    have hfr : frN (ints (Lib.itoa n)) = 0 := by unfold frN; rw [hf]; rfl
    have hL : (ints (Lib.itoa n)).length = Lib.nDigits n.natAbs := by rw [ints_len, hl, hlen]
    refine ⟨by rw [hf, decide_eq_false h], by omega, by omega, fun i hi => ?_, ?_⟩
    · rw [hfr, Nat.zero_add, ints_get (by rw [← ints_len]; omega)]
      have := hg i (by rw [← ints_len]; omega)
      unfold DigB at this
      unfold Dig
      omega
    · rw [hfr, hL, pv_ints _ _ _ (by rw [hl, hlen]; omega), hl, List.drop_zero, Nat.sub_zero, List.take_of_length_le (by omega), v1]
/-- A text that is a number's own. -/
theorem unnum_yes {n : Int} (hn : n.natAbs < 10 ^ 50) {lb : Bool} {lm : Nat} {hb : Bool} {hm : Nat} (hlm : lm < B ^ 20) (hhm : hm < B ^ 20) (h1 : sval lb lm ≤ n) (h2 : n ≤ sval hb hm) :
    o4 16 [.string (txt (ints (Lib.itoa n))), num lb lm, num hb hm] = some (.tuple #[num (decide (n < 0)) n.natAbs, .bool true]) := by
  obtain ⟨a1, a2, a3, a4, a5⟩ := own_text hn
  have h := unnum_dig (ints_byts (Lib.itoa n)) lb lm hb hm hlm hhm a2 a3 a4
  rw [a5] at h
  have hok : okU (ints (Lib.itoa n)) lb lm hb hm n.natAbs = true := by
    rw [okU_is, a1, sval_int]
    exact ⟨rfl, h1, h2⟩
  rw [hok, a1] at h
  exact h
/-- All texts. -/
theorem unnum_all (l : List UInt8) {lb : Bool} {lm : Nat} {hb : Bool} {hm : Nat} (hlm : lm < B ^ 20) (hhm : hm < B ^ 20) (hr : ∀ n, sval lb lm ≤ n → n ≤ sval hb hm → n.natAbs < 10 ^ 50) :
    (∃ n, sval lb lm ≤ n ∧ n ≤ sval hb hm ∧ Lib.itoa n = l ∧ o4 16 [.string (txt (ints l)), num lb lm, num hb hm] = some (.tuple #[num (decide (n < 0)) n.natAbs, .bool true])) ∨
    ((∀ n, sval lb lm ≤ n → n ≤ sval hb hm → Lib.itoa n ≠ l) ∧ ∃ b w, o4 16 [.string (txt (ints l)), num lb lm, num hb hm] = some (.tuple #[num b w, .bool false])) := by
  by_cases hx : ∃ n, sval lb lm ≤ n ∧ n ≤ sval hb hm ∧ Lib.itoa n = l
  · obtain ⟨n, h1, h2, h3⟩ := hx
    subst h3
    exact .inl ⟨n, h1, h2, rfl, unnum_yes (hr n h1 h2) hlm hhm h1 h2⟩
  · refine .inr ⟨fun n h1 h2 h3 => hx ⟨n, h1, h2, h3⟩, ?_⟩
    by_cases hd : frN (ints l) < (ints l).length ∧ (ints l).length ≤ 60 ∧ ∀ i, i < (ints l).length - frN (ints l) → Dig ((ints l).getD (frN (ints l) + i) 0)
    · have h := unnum_dig (ints_byts l) lb lm hb hm hlm hhm hd.1 hd.2.1 hd.2.2
      generalize pv (ints l) (frN (ints l)) ((ints l).length - frN (ints l)) = v at h
      cases hok : okU (ints l) lb lm hb hm v with
      | false => rw [hok] at h; exact ⟨_, _, h⟩
      | true =>
        obtain ⟨k1, k2, k3⟩ := (okU_is l lb lm hb hm v).1 hok
        exact absurd ⟨_, k2, k3, k1⟩ hx
    · obtain ⟨w, h⟩ := unnum_not (ints_byts l) lb lm hb hm hd
      exact ⟨false, w, h⟩
end Go.Proofs.YtflgpkkbifkpoaaDoor.num
