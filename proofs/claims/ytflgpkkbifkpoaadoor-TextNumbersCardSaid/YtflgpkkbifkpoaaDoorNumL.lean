/- Numbers as 20 pieces of 16 bits: what sums, products and quotients by ten come to, piece by piece. Plain Lean. -/
import Derived.Test.YtflgpkkbifkpoaaDoorRows
import Derived.Lib.ItoaNum
namespace Go.Proofs.YtflgpkkbifkpoaaDoor.num
set_option linter.unusedVariables false

abbrev B : Nat := 65536
/-- Piece i of a number. -/
def limb (m i : Nat) : Nat := m / B ^ i % B
theorem limb_lt (m i : Nat) : limb m i < B := Nat.mod_lt _ (by decide)
theorem Bpos (i : Nat) : 0 < B ^ i := Nat.pow_pos (by decide)
/-- The first k pieces' sum. -/
def qs (f : Nat → Nat) : Nat → Nat
  | 0 => 0
  | k + 1 => qs f k + f k * B ^ k
theorem qs_div (f : Nat → Nat) (k : Nat) : f k + qs f k / B ^ k = qs f (k + 1) / B ^ k := by
  simp only [qs]
  rw [Nat.add_mul_div_right _ _ (Bpos k), Nat.add_comm]
theorem qs_next (f : Nat → Nat) (k : Nat) : qs f (k + 1) / B ^ k / B = qs f (k + 1) / B ^ (k + 1) := by
  rw [Nat.div_div_eq_div_mul, ← Nat.pow_succ]
theorem limb_add_mul (a c k j : Nat) (h : j < k) : limb (a + c * B ^ k) j = limb a j := by
  unfold limb
  obtain ⟨d, rfl⟩ : ∃ d, k = j + (d + 1) := ⟨k - j - 1, by omega⟩
  rw [Nat.pow_add, show c * (B ^ j * B ^ (d + 1)) = c * B ^ (d + 1) * B ^ j by rw [Nat.mul_comm (B ^ j), Nat.mul_assoc], Nat.add_mul_div_right _ _ (Bpos j), Nat.pow_succ, ← Nat.mul_assoc, Nat.add_mul_mod_self_right]
theorem limb_qs (f : Nat → Nat) (j : Nat) : ∀ n, j < n → limb (qs f n) j = limb (qs f (j + 1)) j := by
  intro n
  induction n with
  | zero => intro h; omega
  | succ n ih =>
    intro h
    rcases Nat.lt_or_ge j n with h0 | h0
    · rw [qs, limb_add_mul _ _ _ _ h0, ih h0]
    · obtain rfl : n = j := by omega
      rfl
theorem mod_step (m k : Nat) : m % B ^ (k + 1) = m % B ^ k + limb m k * B ^ k := by
  unfold limb
  rw [Nat.pow_succ, Nat.mod_mul, Nat.mul_comm (B ^ k)]
theorem qs_limb (m : Nat) : ∀ k, qs (limb m) k = m % B ^ k
  | 0 => by simp [qs, Nat.mod_one]
  | k + 1 => by rw [qs, qs_limb m k, mod_step]
theorem qs_add (f g : Nat → Nat) : ∀ k, qs (fun i => f i + g i) k = qs f k + qs g k
  | 0 => rfl
  | k + 1 => by simp only [qs, qs_add f g k, Nat.add_mul]; omega
theorem qs_shift (c m i : Nat) : ∀ k, qs (fun t => if i ≤ t then c * limb m (t - i) else 0) k = c * B ^ i * (m % B ^ (k - i))
  | 0 => by simp [qs, Nat.mod_one]
  | k + 1 => by
    rw [qs, qs_shift c m i k]
    rcases Nat.lt_or_ge k i with h | h
    · rw [if_neg (by omega), show k + 1 - i = 0 by omega, show k - i = 0 by omega]
      simp [Nat.mod_one]
    · rw [if_pos h, show k + 1 - i = (k - i) + 1 by omega, mod_step, Nat.mul_add]
      have e : B ^ k = B ^ i * B ^ (k - i) := by rw [← Nat.pow_add]; congr 1; omega
      rw [e]
      congr 1
      simp only [Nat.mul_comm, Nat.mul_left_comm, Nat.mul_assoc]
theorem qs_congr {f g : Nat → Nat} : ∀ k, (∀ i, i < k → f i = g i) → qs f k = qs g k
  | 0, _ => rfl
  | k + 1, h => by rw [qs, qs, qs_congr k (fun i hi => h i (by omega)), h k (by omega)]
/-- Division by ten, from the top. -/
theorem ten_mod (n : Nat) : (B * (n / B % 10) + n % B) % 10 = n % 10 := by
  show (65536 * (n / 65536 % 10) + n % 65536) % 10 = n % 10
  omega
theorem ten_div (n : Nat) : (B * (n / B % 10) + n % B) / 10 = n / 10 % B := by
  show (65536 * (n / 65536 % 10) + n % 65536) / 10 = n / 10 % 65536
  omega
theorem limb_div (m d i : Nat) : limb (m / d) i = m / B ^ i / d % B := by
  unfold limb
  rw [Nat.div_div_eq_div_mul, Nat.div_div_eq_div_mul, Nat.mul_comm]
/-- Two numbers with the same pieces. -/
theorem limbs_inj {m n : Nat} {k : Nat} (hm : m < B ^ k) (hn : n < B ^ k) (h : ∀ i, i < k → limb m i = limb n i) : m = n := by
  have := qs_congr k h
  rw [qs_limb, qs_limb, Nat.mod_eq_of_lt hm, Nat.mod_eq_of_lt hn] at this
  exact this
theorem limb_zero (i : Nat) : limb 0 i = 0 := by simp [limb]
/-- Which of two numbers is the greater: by their first pieces, from the top, that are not the same. -/
theorem lt_of_limb {m n : Nat} {k : Nat} (h : ∀ i, k < i → limb m i = limb n i) {K : Nat} (hm : m < B ^ K) (hn : n < B ^ K) (hk : limb m k < limb n k) : m < n := by
  have e : m / B ^ (k + 1) = n / B ^ (k + 1) := by
    refine limbs_inj (k := K) (Nat.lt_of_le_of_lt (Nat.div_le_self _ _) hm) (Nat.lt_of_le_of_lt (Nat.div_le_self _ _) hn) fun i _ => ?_
    rw [limb_div, limb_div, Nat.div_div_eq_div_mul, Nat.div_div_eq_div_mul, ← Nat.pow_add]
    exact h (i + (k + 1)) (by omega)
  have am : ∀ x : Nat, x = B ^ (k + 1) * (x / B ^ (k + 1)) + (limb x k * B ^ k + x % B ^ k) := fun x => by
    have := mod_step x k
    have h2 := Nat.div_add_mod x (B ^ (k + 1))
    omega
  have h1 := am m
  have h2 := am n
  rw [e] at h1
  have h3 : limb m k * B ^ k + B ^ k ≤ limb n k * B ^ k := by
    have : (limb m k + 1) * B ^ k ≤ limb n k * B ^ k := Nat.mul_le_mul_right _ hk
    rwa [Nat.add_mul, Nat.one_mul] at this
  have h4 := Nat.mod_lt m (Bpos k)
  have h5 := Nat.zero_le (n % B ^ k)
  omega

/-! ### Decimal texts. -/
/-- The last j digits. -/
def sfx (m : Nat) : Nat → List Int
  | 0 => []
  | j + 1 => (48 + (m / 10 ^ j % 10 : Nat) : Int) :: sfx m j
def decZ (m : Nat) : List Int := (Lib.decDigits m).map fun c => (c.toNat : Int)
theorem sfx_eq (m : Nat) : ∀ j, sfx m j = ((List.range j).map fun t => (48 + (m / 10 ^ (j - 1 - t) % 10 : Nat) : Int))
  | 0 => rfl
  | j + 1 => by
    rw [sfx, sfx_eq m j, List.range_succ_eq_map, List.map_cons, List.map_map]
    congr 1
    refine List.map_congr_left fun t ht => ?_
    simp only [Function.comp_apply, Nat.succ_eq_add_one]
    rw [show j + 1 - 1 - (t + 1) = j - 1 - t by omega]
theorem sfx_all (m : Nat) : sfx m (Lib.nDigits m) = decZ m := by
  rw [sfx_eq, decZ, Lib.decDigits_eq, List.map_map]
  refine List.map_congr_left fun t ht => ?_
  simp only [Function.comp_apply, Lib.dg]
  rw [UInt8.toNat_ofNat']
  omega
theorem decZ_len (m : Nat) : (decZ m).length = Lib.nDigits m := by rw [← sfx_all, sfx_eq]; simp
theorem nDigits_le {m k : Nat} (h : m < 10 ^ (k + 1)) : Lib.nDigits m ≤ k + 1 := by
  induction k generalizing m with
  | zero => rw [Lib.nDigits_small (by simpa using h)]; exact Nat.le_refl _
  | succ k ih =>
    by_cases h0 : m < 10
    · rw [Lib.nDigits_small h0]; omega
    · rw [Lib.nDigits_big h0]
      have := ih (m := m / 10) (by rw [Nat.pow_succ] at h; omega)
      omega
theorem div_nDigits (m : Nat) : m / 10 ^ Lib.nDigits m = 0 := Nat.div_eq_of_lt (Lib.lt_pow_nDigits m)
theorem pos_nDigits {m j : Nat} (hj : j < Lib.nDigits m) (h0 : 0 < j) : 0 < m / 10 ^ j := by
  refine Nat.div_pos ?_ (Nat.pow_pos (by decide))
  rcases Nat.lt_or_ge m (10 ^ j) with h | h
  · obtain ⟨k, rfl⟩ : ∃ k, j = k + 1 := ⟨j - 1, by omega⟩
    have := nDigits_le h
    omega
  · exact h
end Go.Proofs.YtflgpkkbifkpoaaDoor.num
