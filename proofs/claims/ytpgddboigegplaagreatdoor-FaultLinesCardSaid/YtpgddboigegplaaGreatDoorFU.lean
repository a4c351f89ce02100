/- Numbers as 20 pieces of 16 bits: what sums, products and quotients by ten come to, piece by piece. Plain Lean. Decimal texts: what is told is read as it was. Plain Lean, beside what the reference comes to. What text.Undec comes to in the model: over the kit's contracts of strconv. -/
import Derived.Test.YtpgddboigegplaaGreatDoorRows
import Derived.Lib.ItoaNum
import Derived.Lib.ParseIntB
import Derived.Test.YtpgddboigegplaaGreatDoorShelfA
import Derived.Test.YtpgddboigegplaaGreatDoorFO
import Derived.Lib.AppendIntMem
import Derived.Lib.Walk
import Derived.Lib.AtoiErrMem
import Derived.Lib.ItoaMem
import Derived.WalkKit
import Derived.BigCall
import Derived.BigGuard
namespace Go.Proofs.YtpgddboigegplaaGreatDoor.num
set_option linter.unusedVariables false

abbrev B : Nat := 65536
/-- Piece i of a number. -/
def limb (m i : Nat) : Nat := m / B ^ i % B
theorem limb_lt (m i : Nat) : limb m i < B := Nat.mod_lt _ (by decide)
theorem Bpos (i : Nat) : 0 < B ^ i := Nat.pow_pos (by decide)
/-- The first k pieces' sum. -/
def qs (f : Nat → Nat) : Nat → Nat
  | 0 => 0
  | k + 1 => qs f k + f k * B ^ k
theorem qs_div (f : Nat → Nat) (k : Nat) : f k + qs f k / B ^ k = qs f (k + 1) / B ^ k := by
  simp only [qs]
  rw [Nat.add_mul_div_right _ _ (Bpos k), Nat.add_comm]
theorem qs_next (f : Nat → Nat) (k : Nat) : qs f (k + 1) / B ^ k / B = qs f (k + 1) / B ^ (k + 1) := by
  rw [Nat.div_div_eq_div_mul, ← Nat.pow_succ]
theorem limb_add_mul (a c k j : Nat) (h : j < k) : limb (a + c * B ^ k) j = limb a j := by
  unfold limb
  obtain ⟨d, rfl⟩ : ∃ d, k = j + (d + 1) := ⟨k - j - 1, by omega⟩
  rw [Nat.pow_add, show c * (B ^ j * B ^ (d + 1)) = c * B ^ (d + 1) * B ^ j by rw [Nat.mul_comm (B ^ j), Nat.mul_assoc], Nat.add_mul_div_right _ _ (Bpos j), Nat.pow_succ, ← Nat.mul_assoc, Nat.add_mul_mod_self_right]
theorem limb_qs (f : Nat → Nat) (j : Nat) : ∀ n, j < n → limb (qs f n) j = limb (qs f (j + 1)) j := by
  intro n
  induction n with
  | zero => intro h; omega
  | succ n ih =>
    intro h
    rcases Nat.lt_or_ge j n with h0 | h0
    · rw [qs, limb_add_mul _ _ _ _ h0, ih h0]
    · obtain rfl : n = j := by omega
      rfl
theorem mod_step (m k : Nat) : m % B ^ (k + 1) = m % B ^ k + limb m k * B ^ k := by
  unfold limb
  rw [Nat.pow_succ, Nat.mod_mul, Nat.mul_comm (B ^ k)]
theorem qs_limb (m : Nat) : ∀ k, qs (limb m) k = m % B ^ k
  | 0 => by simp [qs, Nat.mod_one]
  | k + 1 => by rw [qs, qs_limb m k, mod_step]
theorem qs_add (f g : Nat → Nat) : ∀ k, qs (fun i => f i + g i) k = qs f k + qs g k
  | 0 => rfl
  | k + 1 => by simp only [qs, qs_add f g k, Nat.add_mul]; omega
theorem qs_shift (c m i : Nat) : ∀ k, qs (fun t => if i ≤ t then c * limb m (t - i) else 0) k = c * B ^ i * (m % B ^ (k - i))
  | 0 => by simp [qs, Nat.mod_one]
  | k + 1 => by
    rw [qs, qs_shift c m i k]
    rcases Nat.lt_or_ge k i with h | h
    · rw [if_neg (by omega), show k + 1 - i = 0 by omega, show k - i = 0 by omega]
      simp [Nat.mod_one]
    · rw [if_pos h, show k + 1 - i = (k - i) + 1 by omega, mod_step, Nat.mul_add]
      have e : B ^ k = B ^ i * B ^ (k - i) := by rw [← Nat.pow_add]; congr 1; omega
      rw [e]
      congr 1
      simp only [Nat.mul_comm, Nat.mul_left_comm, Nat.mul_assoc]
theorem qs_congr {f g : Nat → Nat} : ∀ k, (∀ i, i < k → f i = g i) → qs f k = qs g k
  | 0, _ => rfl
  | k + 1, h => by rw [qs, qs, qs_congr k (fun i hi => h i (by omega)), h k (by omega)]
/-- Division by ten, from the top. -/
theorem ten_mod (n : Nat) : (B * (n / B % 10) + n % B) % 10 = n % 10 := by
  show (65536 * (n / 65536 % 10) + n % 65536) % 10 = n % 10
  omega
theorem ten_div (n : Nat) : (B * (n / B % 10) + n % B) / 10 = n / 10 % B := by
  show (65536 * (n / 65536 % 10) + n % 65536) / 10 = n / 10 % 65536
  omega
theorem limb_div (m d i : Nat) : limb (m / d) i = m / B ^ i / d % B := by
  unfold limb
  rw [Nat.div_div_eq_div_mul, Nat.div_div_eq_div_mul, Nat.mul_comm]
/-- Two numbers with the same pieces. -/
theorem limbs_inj {m n : Nat} {k : Nat} (hm : m < B ^ k) (hn : n < B ^ k) (h : ∀ i, i < k → limb m i = limb n i) : m = n := by
  have := qs_congr k h
  rw [qs_limb, qs_limb, Nat.mod_eq_of_lt hm, Nat.mod_eq_of_lt hn] at this
  exact this
theorem limb_zero (i : Nat) : limb 0 i = 0 := by simp [limb]
/-- Which of two numbers is the greater: by their first pieces, from the top, that are not the same. -/
theorem lt_of_limb {m n : Nat} {k : Nat} (h : ∀ i, k < i → limb m i = limb n i) {K : Nat} (hm : m < B ^ K) (hn : n < B ^ K) (hk : limb m k < limb n k) : m < n := by
  have e : m / B ^ (k + 1) = n / B ^ (k + 1) := by
    refine limbs_inj (k := K) (Nat.lt_of_le_of_lt (Nat.div_le_self _ _) hm) (Nat.lt_of_le_of_lt (Nat.div_le_self _ _) hn) fun i _ => ?_
    rw [limb_div, limb_div, Nat.div_div_eq_div_mul, Nat.div_div_eq_div_mul, ← Nat.pow_add]
    exact h (i + (k + 1)) (by omega)
  have am : ∀ x : Nat, x = B ^ (k + 1) * (x / B ^ (k + 1)) + (limb x k * B ^ k + x % B ^ k) := fun x => by
    have := mod_step x k
    have h2 := Nat.div_add_mod x (B ^ (k + 1))
    omega
  have h1 := am m
  have h2 := am n
  rw [e] at h1
  have h3 : limb m k * B ^ k + B ^ k ≤ limb n k * B ^ k := by
    have : (limb m k + 1) * B ^ k ≤ limb n k * B ^ k := Nat.mul_le_mul_right _ hk
    rwa [Nat.add_mul, Nat.one_mul] at this
  have h4 := Nat.mod_lt m (Bpos k)
  have h5 := Nat.zero_le (n % B ^ k)
  omega

/-! ### Decimal texts. -/
/-- The last j digits. -/
def sfx (m : Nat) : Nat → List Int
  | 0 => []
  | j + 1 => (48 + (m / 10 ^ j % 10 : Nat) : Int) :: sfx m j
def decZ (m : Nat) : List Int := (Lib.decDigits m).map fun c => (c.toNat : Int)
theorem sfx_eq (m : Nat) : ∀ j, sfx m j = ((List.range j).map fun t => (48 + (m / 10 ^ (j - 1 - t) % 10 : Nat) : Int))
  | 0 => rfl
  | j + 1 => by
    rw [sfx, sfx_eq m j, List.range_succ_eq_map, List.map_cons, List.map_map]
    congr 1
    refine List.map_congr_left fun t ht => ?_
    simp only [Function.comp_apply, Nat.succ_eq_add_one]
    rw [show j + 1 - 1 - (t + 1) = j - 1 - t by omega]
theorem sfx_all (m : Nat) : sfx m (Lib.nDigits m) = decZ m := by
  rw [sfx_eq, decZ, Lib.decDigits_eq, List.map_map]
  refine List.map_congr_left fun t ht => ?_
  simp only [Function.comp_apply, Lib.dg]
  rw [UInt8.toNat_ofNat']
  omega
theorem decZ_len (m : Nat) : (decZ m).length = Lib.nDigits m := by rw [← sfx_all, sfx_eq]; simp
theorem nDigits_le {m k : Nat} (h : m < 10 ^ (k + 1)) : Lib.nDigits m ≤ k + 1 := by
  induction k generalizing m with
  | zero => rw [Lib.nDigits_small (by simpa using h)]; exact Nat.le_refl _
  | succ k ih =>
    by_cases h0 : m < 10
    · rw [Lib.nDigits_small h0]; omega
    · rw [Lib.nDigits_big h0]
      have := ih (m := m / 10) (by rw [Nat.pow_succ] at h; omega)
      omega
theorem div_nDigits (m : Nat) : m / 10 ^ Lib.nDigits m = 0 := Nat.div_eq_of_lt (Lib.lt_pow_nDigits m)
theorem pos_nDigits {m j : Nat} (hj : j < Lib.nDigits m) (h0 : 0 < j) : 0 < m / 10 ^ j := by
  refine Nat.div_pos ?_ (Nat.pow_pos (by decide))
  rcases Nat.lt_or_ge m (10 ^ j) with h | h
  · obtain ⟨k, rfl⟩ : ∃ k, j = k + 1 := ⟨j - 1, by omega⟩
    have := nDigits_le h
    omega
  · exact h
end Go.Proofs.YtpgddboigegplaaGreatDoor.num

namespace Go.Proofs.YtpgddboigegplaaGreatDoor.num
set_option linter.unusedVariables false

def bs (zs : List Int) : List UInt8 := zs.map fun n => UInt8.ofNat n.toNat
def ints (l : List UInt8) : List Int := l.map fun c => (c.toNat : Int)
theorem bs_ints (l : List UInt8) : bs (ints l) = l := by
  simp [bs, ints, List.map_map, Function.comp_def]
theorem bs_decZ (m : Nat) : bs (decZ m) = Lib.decDigits m := bs_ints _
/-- What digits spell. -/
def stepB (a : Nat) (c : UInt8) : Nat := a * 10 + (c.toNat - 48)
def valB (acc : Nat) (l : List UInt8) : Nat := l.foldl stepB acc
theorem valB_nil (acc : Nat) : valB acc [] = acc := List.foldl_nil
theorem valB_cons (acc : Nat) (c : UInt8) (r : List UInt8) : valB acc (c :: r) = valB (stepB acc c) r := List.foldl_cons ..
def DigB (c : UInt8) : Prop := 48 ≤ c.toNat ∧ c.toNat ≤ 57
theorem valB_app (c : UInt8) (l : List UInt8) (acc : Nat) : valB acc (l ++ [c]) = stepB (valB acc l) c := by
  unfold valB
  rw [List.foldl_append, List.foldl_cons, List.foldl_nil]
theorem valB_le : ∀ (l : List UInt8) (acc : Nat), acc ≤ valB acc l := by
  intro l
  induction l with
  | nil => intro acc; rw [valB_nil]; exact Nat.le_refl _
  | cons d r ih =>
    intro acc
    rw [valB_cons]
    refine Nat.le_trans ?_ (ih _)
    unfold stepB
    omega
theorem dec_val (m : Nat) : valB 0 (Lib.decDigits m) = m ∧ (∀ c ∈ Lib.decDigits m, DigB c) ∧ Lib.decDigits m ≠ [] := by
  induction m using Nat.strongRecOn with
  | _ m ih =>
    rw [Lib.decDigits]
    split
    · rename_i h
      have e : (UInt8.ofNat (48 + m)).toNat = 48 + m := by rw [UInt8.toNat_ofNat']; omega
      refine ⟨by rw [valB_cons, valB_nil]; unfold stepB; rw [e]; omega, fun c hc => ?_, by simp⟩
      rw [List.mem_singleton] at hc
      subst hc
      unfold DigB
      omega
    · rename_i h
      obtain ⟨h1, h2, h3⟩ := ih (m / 10) (by omega)
      have e : (UInt8.ofNat (48 + m % 10)).toNat = 48 + m % 10 := by rw [UInt8.toNat_ofNat']; omega
      refine ⟨by rw [valB_app, h1]; unfold stepB; rw [e]; omega, fun c hc => ?_, by simp⟩
      rcases List.mem_append.1 hc with hc | hc
      · exact h2 c hc
      · rw [List.mem_singleton] at hc
        subst hc
        unfold DigB
        omega
theorem parseM {M : Nat} (hM : M = 18446744073709551615) : ∀ (l : List UInt8) (acc : Nat), (∀ c ∈ l, DigB c) → valB acc l ≤ M → Lib.parseUintM M acc l = .ok (valB acc l) := by
  intro l
  induction l with
  | nil => intro acc _ _; rw [valB_nil, Lib.parseUintM]
  | cons c r ih =>
    intro acc h hv
    have h1 := h c (List.mem_cons_self ..)
    unfold DigB at h1
    have h2 := valB_le r (stepB acc c)
    rw [valB_cons] at hv
    have h3 : stepB acc c = acc * 10 + (c.toNat - 48) := rfl
    rw [Lib.parseUintM, valB_cons, if_pos h1, if_neg (by omega), if_neg (by omega), ← h3]
    exact ih _ (fun d hd => h d (List.mem_cons_of_mem _ hd)) hv
theorem two64 : (2 : Nat) ^ 64 - 1 = 18446744073709551615 := by decide
theorem parseU_dec {u : Nat} (h : u ≤ 18446744073709551615) : Lib.parseUintB 64 (Lib.decDigits u) = .ok u := by
  obtain ⟨h1, h2, h3⟩ := dec_val u
  unfold Lib.parseUintB
  rw [if_neg h3, parseM two64 _ _ h2 (by rw [h1, two64]; exact h), h1]
theorem two63 : (2 : Nat) ^ (64 - 1) = 9223372036854775808 := by decide
theorem parseI_itoa {n : Int} (h0 : -9223372036854775808 ≤ n) (h1 : n ≤ 9223372036854775807) : Lib.parseIntB 64 (Lib.itoa n) = .ok n := by
  unfold Lib.itoa
  by_cases hn : n < 0
  · rw [if_pos hn]
    have e : Lib.parseUintB 64 (Lib.decDigits n.natAbs) = .ok n.natAbs := parseU_dec (by omega)
    simp only [Lib.parseIntB]
    rw [if_pos (.inr rfl), e]
    simp only [two63]
    rw [if_neg (by simp), if_neg (by simp; omega)]
    simp
    omega
  · rw [if_neg hn]
    obtain ⟨m, rfl⟩ : ∃ m : Nat, n = (m : Int) := ⟨n.toNat, by omega⟩
    rw [Int.toNat_natCast]
    obtain ⟨h2, h3, h4⟩ := dec_val m
    have e : Lib.parseUintB 64 (Lib.decDigits m) = .ok m := parseU_dec (by omega)
    cases hd : Lib.decDigits m with
    | nil => exact absurd hd h4
    | cons c r =>
      rw [hd] at h3 e
      have hc := h3 c (List.mem_cons_self ..)
      unfold DigB at hc
      simp only [Lib.parseIntB]
      rw [if_neg (by omega), e]
      simp only [two63]
      rw [if_neg (by omega), if_neg (by omega), if_neg (by omega)]
/-- The number of 64 bits that a text is; without a sign. -/
def undec (l : List UInt8) : Option Int := match Lib.parseIntB 64 l with
  | .ok v => if Lib.itoa v = l then some v else none
  | _ => none
def ununs (l : List UInt8) : Option Nat := match Lib.parseUintB 64 l with
  | .ok v => if Lib.decDigits v = l then some v else none
  | _ => none
theorem parseI_range {l : List UInt8} {v : Int} (h : Lib.parseIntB 64 l = .ok v) : -9223372036854775808 ≤ v ∧ v ≤ 9223372036854775807 := by
  cases l with
  | nil => cases h
  | cons c r =>
    simp only [Lib.parseIntB, two63] at h
    split at h
    · cases h
    · cases h
    · split at h
      · cases h
      · split at h
        · cases h
        · cases h
          rename_i h1 h2
          by_cases hc : c.toNat = 45
          · rw [if_pos hc]; simp [hc] at h2; omega
          · rw [if_neg hc]; simp [hc] at h1; omega
theorem parseM_le {M : Nat} : ∀ (l : List UInt8) (acc v : Nat), acc ≤ M → Lib.parseUintM M acc l = .ok v → v ≤ M
  | [], acc, v, h0, h => by simp only [Lib.parseUintM] at h; cases h; exact h0
  | c :: r, acc, v, h0, h => by
    simp only [Lib.parseUintM] at h
    split at h
    · split at h
      · cases h
      · split at h
        · cases h
        · rename_i h1
          exact parseM_le r _ v (by omega) h
    · cases h
theorem undec_some {l : List UInt8} {v : Int} : undec l = some v ↔ (-9223372036854775808 ≤ v ∧ v ≤ 9223372036854775807 ∧ Lib.itoa v = l) := by
  unfold undec
  constructor
  · intro h
    split at h
    · rename_i u hu
      split at h
      · cases h; exact ⟨(parseI_range hu).1, (parseI_range hu).2, by assumption⟩
      · cases h
    · cases h
  · rintro ⟨h0, h1, h2⟩
    rw [← h2, parseI_itoa h0 h1]
    simp
end Go.Proofs.YtpgddboigegplaaGreatDoor.num

namespace Go.Proofs.YtpgddboigegplaaGreatDoor.base
open Go.Shelf Go.RowKit Go.Sort Go.Lib
open Go.Proofs.YtpgddboigegplaaGreatDoor.num (undec undec_some parseI_range)
set_option linter.unusedVariables false

/-- What a text is read as. -/
def undecV (s : ByteArray) : Int × Bool := match undec s.data.toList with
  | some v => (v, true)
  | none => (0, false)
theorem parI_ok (s : ByteArray) (hs : s.size ≤ 281474976710656) (v : Int) (h : Lib.parseIntB 64 s.data.toList = .ok v) (w : World) :
    Calls Tryz.prog 50 #[.string s, .int .i64 10, .int .i64 64] w fun e w' => e = .returned (.tuple #[.int .i64 v, .nilIface]) ∧ Below w.heap.size w w' :=
  (Tryz.strconv_ParseInt_10_at64_ok s (by omega) v h w).mono fun e w' ⟨he, hw⟩ => ⟨he, by
    rcases hw with rfl | ⟨t, rfl⟩
    · exact Below.refl _ _
    · exact Lib.bytesWorld_below _ _ _⟩
theorem parI_bad (s : ByteArray) (hs : s.size ≤ 281474976710656) (h : ∀ v, Lib.parseIntB 64 s.data.toList ≠ .ok v) (w : World) (tp tq : TypeId) (p q : Value) (hE : w.cell? ⟨3, 0, none⟩ = some (.iface tp p)) (hR : w.cell? ⟨4, 0, none⟩ = some (.iface tq q)) :
    Calls Tryz.prog 50 #[.string s, .int .i64 10, .int .i64 64] w fun e w' => (∃ v t x, e = .returned (.tuple #[.int .i64 v, .iface t x])) ∧ Below w.heap.size w w' := by
  cases hp : Lib.parseIntB 64 s.data.toList with
  | ok v => exact absurd hp (h v)
  | range => exact (Tryz.strconv_ParseInt_10_at64_range s hs hp (.iface tq q) w hR (Or.inr ⟨tq, q, rfl⟩)).mono fun e w' ⟨N, he, _, _, hb⟩ => ⟨⟨_, _, _, he⟩, hb⟩
  | _ => exact (Tryz.strconv_ParseInt_10_at64_syntax s hs h (by rw [hp]; intro he; cases he) (.iface tp p) w hE (Or.inr ⟨tp, p, rfl⟩)).mono fun e w' ⟨N, he, _, _, hb⟩ => ⟨⟨_, _, _, he⟩, hb⟩
theorem undec_calls (s : ByteArray) (hs : s.size ≤ 281474976710656) (w : World) (htab : Tab w) (tp tq : TypeId) (p q : Value) (hE : w.cell? ⟨3, 0, none⟩ = some (.iface tp p)) (hR : w.cell? ⟨4, 0, none⟩ = some (.iface tq q)) :
    Calls Tryz.prog 39 #[.string s] w fun e w' => e = .returned (.tuple #[.int .i64 (undecV s).1, .bool (undecV s).2]) ∧ Below w.heap.size w w' := by
  by_cases hx : ∃ v, Lib.parseIntB 64 s.data.toList = .ok v
  · obtain ⟨v, hv⟩ := hx
    have hr := parseI_range hv
    have hu : undecV s = if Lib.itoa v = s.data.toList then (v, true) else (0, false) := by
      unfold undecV undec
      rw [hv]
      by_cases h : Lib.itoa v = s.data.toList <;> simp [h]
    rw [hu]
    clear hu
    go_enter Tryz.func39, Tryz.ntmps39
    go_wp2_with (first
      | (go_at_call 50; refine (parI_ok s hs v hv _).mono ?_; rintro e w1 ⟨rfl, hb1⟩)
      | (go_at_call 34; refine (dec_calls v hr.1 hr.2 _ (tab_below htab hb1)).mono ?_; rintro e w2 ⟨rfl, hb2⟩))
    all_goals first
      | (go_ret2; exact ⟨rfl, hb1.trans (hb2.mono hb1.size)⟩)
      | (exfalso; simp_all [ByteArray.toList_eq]; done)
  · have hu : undecV s = (0, false) := by
      unfold undecV undec
      cases hp : Lib.parseIntB 64 s.data.toList with
      | ok v => exact absurd ⟨v, hp⟩ hx
      | range => rfl
      | _ => rfl
    rw [hu]
    clear hu
    go_enter Tryz.func39, Tryz.ntmps39
    go_wp2_with (first
      | (go_at_call 50; refine (parI_bad s hs (fun v hv => hx ⟨v, hv⟩) _ tp tq p q hE hR).mono ?_; rintro e w1 ⟨⟨v, t, x, rfl⟩, hb1⟩))
    all_goals first
      | (go_ret2; exact ⟨rfl, hb1⟩)
      | (exfalso; simp_all [ByteArray.toList_eq]; done)
theorem undecV_spec (s : ByteArray) : (∃ v, (-9223372036854775808 ≤ v ∧ v ≤ 9223372036854775807) ∧ bs (Lib.itoa v) = s ∧ undecV s = (v, true)) ∨ (undecV s = (0, false) ∧ ∀ v, -9223372036854775808 ≤ v → v ≤ 9223372036854775807 → bs (Lib.itoa v) ≠ s) := by
  unfold undecV
  cases h : undec s.data.toList with
  | some v =>
    obtain ⟨h0, h1, h2⟩ := undec_some.1 h
    exact .inl ⟨v, ⟨h0, h1⟩, by rw [h2, bs_of], rfl⟩
  | none =>
    refine .inr ⟨rfl, fun v h0 h1 h2 => ?_⟩
    have : undec s.data.toList = some v := undec_some.2 ⟨h0, h1, by rw [← h2]; simp [bs]⟩
    rw [h] at this; cases this
end Go.Proofs.YtpgddboigegplaaGreatDoor.base
