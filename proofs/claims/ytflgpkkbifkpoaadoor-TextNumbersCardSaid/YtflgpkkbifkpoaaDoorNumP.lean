/- Decimal texts: what is told is read as it was. Plain Lean, beside what the reference comes to. -/
import Derived.Test.YtflgpkkbifkpoaaDoorRows
import Derived.Test.YtflgpkkbifkpoaaDoorNumV
import Derived.Lib.ParseIntB
namespace Go.Proofs.YtflgpkkbifkpoaaDoor.num
set_option linter.unusedVariables false

def bs (zs : List Int) : List UInt8 := zs.map fun n => UInt8.ofNat n.toNat
def ints (l : List UInt8) : List Int := l.map fun c => (c.toNat : Int)
theorem bs_ints (l : List UInt8) : bs (ints l) = l := by
  simp [bs, ints, List.map_map, Function.comp_def]
theorem bs_decZ (m : Nat) : bs (decZ m) = Lib.decDigits m := bs_ints _
theorem bs_decS (b : Bool) (m : Nat) : bs (decS b m) = Lib.itoa (sval b m) := by
  unfold decS
  cases b with
  | false =>
    rw [if_neg (by simp), bs_decZ]
    simp [sval, Lib.itoa]
  | true =>
    rcases Nat.eq_zero_or_pos m with h | h
    · subst h
      rw [if_neg (by omega), bs_decZ]
      simp [sval, Lib.itoa]
    · rw [if_pos ⟨rfl, h⟩]
      show UInt8.ofNat (45 : Int).toNat :: bs (decZ m) = _
      rw [bs_decZ]
      simp only [sval, Lib.itoa, if_true]
      rw [if_pos (by omega), Int.natAbs_neg, Int.natAbs_natCast]
      rfl
/-- What digits spell. -/
def stepB (a : Nat) (c : UInt8) : Nat := a * 10 + (c.toNat - 48)
def valB (acc : Nat) (l : List UInt8) : Nat := l.foldl stepB acc
theorem valB_nil (acc : Nat) : valB acc [] = acc := List.foldl_nil
theorem valB_cons (acc : Nat) (c : UInt8) (r : List UInt8) : valB acc (c :: r) = valB (stepB acc c) r := List.foldl_cons ..
def DigB (c : UInt8) : Prop := 48 ≤ c.toNat ∧ c.toNat ≤ 57
theorem valB_app (c : UInt8) (l : List UInt8) (acc : Nat) : valB acc (l ++ [c]) = stepB (valB acc l) c := by
  unfold valB
  rw [List.foldl_append, List.foldl_cons, List.foldl_nil]
theorem valB_le : ∀ (l : List UInt8) (acc : Nat), acc ≤ valB acc l := by
  intro l
  induction l with
  | nil => intro acc; rw [valB_nil]; exact Nat.le_refl _
  | cons d r ih =>
    intro acc
    rw [valB_cons]
    refine Nat.le_trans ?_ (ih _)
    unfold stepB
    omega
theorem dec_val (m : Nat) : valB 0 (Lib.decDigits m) = m ∧ (∀ c ∈ Lib.decDigits m, DigB c) ∧ Lib.decDigits m ≠ [] := by
  induction m using Nat.strongRecOn with
  | _ m ih =>
    rw [Lib.decDigits]
    split
    · rename_i h
      have e : (UInt8.ofNat (48 + m)).toNat = 48 + m := by rw [UInt8.toNat_ofNat']; omega
      refine ⟨by rw [valB_cons, valB_nil]; unfold stepB; rw [e]; omega, fun c hc => ?_, by simp⟩
      rw [List.mem_singleton] at hc
      subst hc
      unfold DigB
      omega
    · rename_i h
      obtain ⟨h1, h2, h3⟩ := ih (m / 10) (by omega)
      have e : (UInt8.ofNat (48 + m % 10)).toNat = 48 + m % 10 := by rw [UInt8.toNat_ofNat']; omega
      refine ⟨by rw [valB_app, h1]; unfold stepB; rw [e]; omega, fun c hc => ?_, by simp⟩
      rcases List.mem_append.1 hc with hc | hc
      · exact h2 c hc
      · rw [List.mem_singleton] at hc
        subst hc
        unfold DigB
        omega
theorem parseM {M : Nat} (hM : M = 18446744073709551615) : ∀ (l : List UInt8) (acc : Nat), (∀ c ∈ l, DigB c) → valB acc l ≤ M → Lib.parseUintM M acc l = .ok (valB acc l) := by
  intro l
  induction l with
  | nil => intro acc _ _; rw [valB_nil, Lib.parseUintM]
  | cons c r ih =>
    intro acc h hv
    have h1 := h c (List.mem_cons_self ..)
    unfold DigB at h1
    have h2 := valB_le r (stepB acc c)
    rw [valB_cons] at hv
    have h3 : stepB acc c = acc * 10 + (c.toNat - 48) := rfl
    rw [Lib.parseUintM, valB_cons, if_pos h1, if_neg (by omega), if_neg (by omega), ← h3]
    exact ih _ (fun d hd => h d (List.mem_cons_of_mem _ hd)) hv
theorem two64 : (2 : Nat) ^ 64 - 1 = 18446744073709551615 := by decide
theorem parseU_dec {u : Nat} (h : u ≤ 18446744073709551615) : Lib.parseUintB 64 (Lib.decDigits u) = .ok u := by
  obtain ⟨h1, h2, h3⟩ := dec_val u
  unfold Lib.parseUintB
  rw [if_neg h3, parseM two64 _ _ h2 (by rw [h1, two64]; exact h), h1]
theorem two63 : (2 : Nat) ^ (64 - 1) = 9223372036854775808 := by decide
theorem parseI_itoa {n : Int} (h0 : -9223372036854775808 ≤ n) (h1 : n ≤ 9223372036854775807) : Lib.parseIntB 64 (Lib.itoa n) = .ok n := by
  unfold Lib.itoa
  by_cases hn : n < 0
  · rw [if_pos hn]
    have e : Lib.parseUintB 64 (Lib.decDigits n.natAbs) = .ok n.natAbs := parseU_dec (by omega)
    simp only [Lib.parseIntB]
    rw [if_pos (.inr rfl), e]
    simp only [two63]
    rw [if_neg (by simp), if_neg (by simp; omega)]
    simp
    omega
  · rw [if_neg hn]
    obtain ⟨m, rfl⟩ : ∃ m : Nat, n = (m : Int) := ⟨n.toNat, by omega⟩
    rw [Int.toNat_natCast]
    obtain ⟨h2, h3, h4⟩ := dec_val m
    have e : Lib.parseUintB 64 (Lib.decDigits m) = .ok m := parseU_dec (by omega)
    cases hd : Lib.decDigits m with
    | nil => exact absurd hd h4
    | cons c r =>
      rw [hd] at h3 e
      have hc := h3 c (List.mem_cons_self ..)
      unfold DigB at hc
      simp only [Lib.parseIntB]
      rw [if_neg (by omega), e]
      simp only [two63]
      rw [if_neg (by omega), if_neg (by omega), if_neg (by omega)]
/-- The number of 64 bits that a text is; without a sign. -/
def undec (l : List UInt8) : Option Int := match Lib.parseIntB 64 l with
  | .ok v => if Lib.itoa v = l then some v else none
  | _ => none
def ununs (l : List UInt8) : Option Nat := match Lib.parseUintB 64 l with
  | .ok v => if Lib.decDigits v = l then some v else none
  | _ => none
theorem parseI_range {l : List UInt8} {v : Int} (h : Lib.parseIntB 64 l = .ok v) : -9223372036854775808 ≤ v ∧ v ≤ 9223372036854775807 := by
  cases l with
  | nil => cases h
  | cons c r =>
    simp only [Lib.parseIntB, two63] at h
    split at h
    · cases h
    · cases h
    · split at h
      · cases h
      · split at h
        · cases h
        · cases h
          rename_i h1 h2
          by_cases hc : c.toNat = 45
          · rw [if_pos hc]; simp [hc] at h2; omega
          · rw [if_neg hc]; simp [hc] at h1; omega
theorem parseM_le {M : Nat} : ∀ (l : List UInt8) (acc v : Nat), acc ≤ M → Lib.parseUintM M acc l = .ok v → v ≤ M
  | [], acc, v, h0, h => by simp only [Lib.parseUintM] at h; cases h; exact h0
  | c :: r, acc, v, h0, h => by
    simp only [Lib.parseUintM] at h
    split at h
    · split at h
      · cases h
      · split at h
        · cases h
        · rename_i h1
          exact parseM_le r _ v (by omega) h
    · cases h
theorem undec_some {l : List UInt8} {v : Int} : undec l = some v ↔ (-9223372036854775808 ≤ v ∧ v ≤ 9223372036854775807 ∧ Lib.itoa v = l) := by
  unfold undec
  constructor
  · intro h
    split at h
    · rename_i u hu
      split at h
      · cases h; exact ⟨(parseI_range hu).1, (parseI_range hu).2, by assumption⟩
      · cases h
    · cases h
  · rintro ⟨h0, h1, h2⟩
    rw [← h2, parseI_itoa h0 h1]
    simp
theorem ununs_some {l : List UInt8} {v : Nat} : ununs l = some v ↔ (v ≤ 18446744073709551615 ∧ Lib.decDigits v = l) := by
  unfold ununs
  constructor
  · intro h
    split at h
    · rename_i u hu
      split at h
      · cases h
        rename_i h2
        refine ⟨?_, h2⟩
        unfold Lib.parseUintB at hu
        split at hu
        · cases hu
        · have := parseM_le _ _ _ (by omega) hu
          rw [two64] at this
          exact this
      · cases h
    · cases h
  · rintro ⟨h1, h2⟩
    rw [← h2, parseU_dec h1]
    simp
theorem dec_inj {m n : Nat} (h : Lib.decDigits m = Lib.decDigits n) : m = n := by
  rw [← (dec_val m).1, h, (dec_val n).1]
theorem itoa_inj {m n : Int} (h : Lib.itoa m = Lib.itoa n) : m = n := by
  have hd : ∀ k : Nat, ∀ r, Lib.decDigits k ≠ 45 :: r := fun k r e => by
    have := (dec_val k).2.1 45 (by rw [e]; exact List.mem_cons_self ..)
    revert this
    unfold DigB
    decide
  unfold Lib.itoa at h
  split at h <;> split at h
  · have := dec_inj (List.cons.inj h).2
    omega
  · exact absurd h.symm (hd _ _)
  · exact absurd h (hd _ _)
  · have := dec_inj h
    omega
end Go.Proofs.YtflgpkkbifkpoaaDoor.num
