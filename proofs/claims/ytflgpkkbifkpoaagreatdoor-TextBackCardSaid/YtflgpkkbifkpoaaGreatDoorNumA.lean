/- Numbers as 20 pieces of 16 bits: what sums, products and quotients by ten come to, piece by piece. Plain Lean. Numbers as pieces: carries, borrows, products. Plain Lean. What the texts of this layer share: slots that are forgotten, texts of numbers. Decimal texts: what is told is read as it was. Plain Lean, beside what the reference comes to. The reference's number of a text: of which texts there is one. -/
import Derived.Test.YtflgpkkbifkpoaaGreatDoorRows
import Derived.Lib.ItoaNum
import Derived.Test.YtflgpkkbifkpoaaGreatDoorDgApp
import Derived.Lib.ParseIntB
namespace Go.Proofs.YtflgpkkbifkpoaaGreatDoor.num
set_option linter.unusedVariables false

abbrev B : Nat := 65536
/-- Piece i of a number. -/
def limb (m i : Nat) : Nat := m / B ^ i % B
theorem limb_lt (m i : Nat) : limb m i < B := Nat.mod_lt _ (by decide)
theorem Bpos (i : Nat) : 0 < B ^ i := Nat.pow_pos (by decide)
/-- The first k pieces' sum. -/
def qs (f : Nat → Nat) : Nat → Nat
  | 0 => 0
  | k + 1 => qs f k + f k * B ^ k
theorem qs_div (f : Nat → Nat) (k : Nat) : f k + qs f k / B ^ k = qs f (k + 1) / B ^ k := by
  simp only [qs]
  rw [Nat.add_mul_div_right _ _ (Bpos k), Nat.add_comm]
theorem qs_next (f : Nat → Nat) (k : Nat) : qs f (k + 1) / B ^ k / B = qs f (k + 1) / B ^ (k + 1) := by
  rw [Nat.div_div_eq_div_mul, ← Nat.pow_succ]
theorem limb_add_mul (a c k j : Nat) (h : j < k) : limb (a + c * B ^ k) j = limb a j := by
  unfold limb
  obtain ⟨d, rfl⟩ : ∃ d, k = j + (d + 1) := ⟨k - j - 1, by omega⟩
  rw [Nat.pow_add, show c * (B ^ j * B ^ (d + 1)) = c * B ^ (d + 1) * B ^ j by rw [Nat.mul_comm (B ^ j), Nat.mul_assoc], Nat.add_mul_div_right _ _ (Bpos j), Nat.pow_succ, ← Nat.mul_assoc, Nat.add_mul_mod_self_right]
theorem limb_qs (f : Nat → Nat) (j : Nat) : ∀ n, j < n → limb (qs f n) j = limb (qs f (j + 1)) j := by
  intro n
  induction n with
  | zero => intro h; omega
  | succ n ih =>
    intro h
    rcases Nat.lt_or_ge j n with h0 | h0
    · rw [qs, limb_add_mul _ _ _ _ h0, ih h0]
    · obtain rfl : n = j := by omega
      rfl
theorem mod_step (m k : Nat) : m % B ^ (k + 1) = m % B ^ k + limb m k * B ^ k := by
  unfold limb
  rw [Nat.pow_succ, Nat.mod_mul, Nat.mul_comm (B ^ k)]
theorem qs_limb (m : Nat) : ∀ k, qs (limb m) k = m % B ^ k
  | 0 => by simp [qs, Nat.mod_one]
  | k + 1 => by rw [qs, qs_limb m k, mod_step]
theorem qs_add (f g : Nat → Nat) : ∀ k, qs (fun i => f i + g i) k = qs f k + qs g k
  | 0 => rfl
  | k + 1 => by simp only [qs, qs_add f g k, Nat.add_mul]; omega
theorem qs_shift (c m i : Nat) : ∀ k, qs (fun t => if i ≤ t then c * limb m (t - i) else 0) k = c * B ^ i * (m % B ^ (k - i))
  | 0 => by simp [qs, Nat.mod_one]
  | k + 1 => by
    rw [qs, qs_shift c m i k]
    rcases Nat.lt_or_ge k i with h | h
    · rw [if_neg (by omega), show k + 1 - i = 0 by omega, show k - i = 0 by omega]
      simp [Nat.mod_one]
    · rw [if_pos h, show k + 1 - i = (k - i) + 1 by omega, mod_step, Nat.mul_add]
      have e : B ^ k = B ^ i * B ^ (k - i) := by rw [← Nat.pow_add]; congr 1; omega
      rw [e]
      congr 1
      simp only [Nat.mul_comm, Nat.mul_left_comm, Nat.mul_assoc]
theorem qs_congr {f g : Nat → Nat} : ∀ k, (∀ i, i < k → f i = g i) → qs f k = qs g k
  | 0, _ => rfl
  | k + 1, h => by rw [qs, qs, qs_congr k (fun i hi => h i (by omega)), h k (by omega)]
/-- Division by ten, from the top. -/
theorem ten_mod (n : Nat) : (B * (n / B % 10) + n % B) % 10 = n % 10 := by
  show (65536 * (n / 65536 % 10) + n % 65536) % 10 = n % 10
  omega
theorem ten_div (n : Nat) : (B * (n / B % 10) + n % B) / 10 = n / 10 % B := by
  show (65536 * (n / 65536 % 10) + n % 65536) / 10 = n / 10 % 65536
  omega
theorem limb_div (m d i : Nat) : limb (m / d) i = m / B ^ i / d % B := by
  unfold limb
  rw [Nat.div_div_eq_div_mul, Nat.div_div_eq_div_mul, Nat.mul_comm]
/-- Two numbers with the same pieces. -/
theorem limbs_inj {m n : Nat} {k : Nat} (hm : m < B ^ k) (hn : n < B ^ k) (h : ∀ i, i < k → limb m i = limb n i) : m = n := by
  have := qs_congr k h
  rw [qs_limb, qs_limb, Nat.mod_eq_of_lt hm, Nat.mod_eq_of_lt hn] at this
  exact this
theorem limb_zero (i : Nat) : limb 0 i = 0 := by simp [limb]
/-- Which of two numbers is the greater: by their first pieces, from the top, that are not the same. -/
theorem lt_of_limb {m n : Nat} {k : Nat} (h : ∀ i, k < i → limb m i = limb n i) {K : Nat} (hm : m < B ^ K) (hn : n < B ^ K) (hk : limb m k < limb n k) : m < n := by
  have e : m / B ^ (k + 1) = n / B ^ (k + 1) := by
    refine limbs_inj (k := K) (Nat.lt_of_le_of_lt (Nat.div_le_self _ _) hm) (Nat.lt_of_le_of_lt (Nat.div_le_self _ _) hn) fun i _ => ?_
    rw [limb_div, limb_div, Nat.div_div_eq_div_mul, Nat.div_div_eq_div_mul, ← Nat.pow_add]
    exact h (i + (k + 1)) (by omega)
  have am : ∀ x : Nat, x = B ^ (k + 1) * (x / B ^ (k + 1)) + (limb x k * B ^ k + x % B ^ k) := fun x => by
    have := mod_step x k
    have h2 := Nat.div_add_mod x (B ^ (k + 1))
    omega
  have h1 := am m
  have h2 := am n
  rw [e] at h1
  have h3 : limb m k * B ^ k + B ^ k ≤ limb n k * B ^ k := by
    have : (limb m k + 1) * B ^ k ≤ limb n k * B ^ k := Nat.mul_le_mul_right _ hk
    rwa [Nat.add_mul, Nat.one_mul] at this
  have h4 := Nat.mod_lt m (Bpos k)
  have h5 := Nat.zero_le (n % B ^ k)
  omega

/-! ### Decimal texts. -/
/-- The last j digits. -/
def sfx (m : Nat) : Nat → List Int
  | 0 => []
  | j + 1 => (48 + (m / 10 ^ j % 10 : Nat) : Int) :: sfx m j
def decZ (m : Nat) : List Int := (Lib.decDigits m).map fun c => (c.toNat : Int)
theorem sfx_eq (m : Nat) : ∀ j, sfx m j = ((List.range j).map fun t => (48 + (m / 10 ^ (j - 1 - t) % 10 : Nat) : Int))
  | 0 => rfl
  | j + 1 => by
    rw [sfx, sfx_eq m j, List.range_succ_eq_map, List.map_cons, List.map_map]
    congr 1
    refine List.map_congr_left fun t ht => ?_
    simp only [Function.comp_apply, Nat.succ_eq_add_one]
    rw [show j + 1 - 1 - (t + 1) = j - 1 - t by omega]
theorem sfx_all (m : Nat) : sfx m (Lib.nDigits m) = decZ m := by
  rw [sfx_eq, decZ, Lib.decDigits_eq, List.map_map]
  refine List.map_congr_left fun t ht => ?_
  simp only [Function.comp_apply, Lib.dg]
  rw [UInt8.toNat_ofNat']
  omega
theorem decZ_len (m : Nat) : (decZ m).length = Lib.nDigits m := by rw [← sfx_all, sfx_eq]; simp
theorem nDigits_le {m k : Nat} (h : m < 10 ^ (k + 1)) : Lib.nDigits m ≤ k + 1 := by
  induction k generalizing m with
  | zero => rw [Lib.nDigits_small (by simpa using h)]; exact Nat.le_refl _
  | succ k ih =>
    by_cases h0 : m < 10
    · rw [Lib.nDigits_small h0]; omega
    · rw [Lib.nDigits_big h0]
      have := ih (m := m / 10) (by rw [Nat.pow_succ] at h; omega)
      omega
theorem div_nDigits (m : Nat) : m / 10 ^ Lib.nDigits m = 0 := Nat.div_eq_of_lt (Lib.lt_pow_nDigits m)
theorem pos_nDigits {m j : Nat} (hj : j < Lib.nDigits m) (h0 : 0 < j) : 0 < m / 10 ^ j := by
  refine Nat.div_pos ?_ (Nat.pow_pos (by decide))
  rcases Nat.lt_or_ge m (10 ^ j) with h | h
  · obtain ⟨k, rfl⟩ : ∃ k, j = k + 1 := ⟨j - 1, by omega⟩
    have := nDigits_le h
    omega
  · exact h
end Go.Proofs.YtflgpkkbifkpoaaGreatDoor.num

namespace Go.Proofs.YtflgpkkbifkpoaaGreatDoor.num
set_option linter.unusedVariables false

/-- What is carried into piece i. -/
def car (f : Nat → Nat) (i : Nat) : Nat := qs f i / B ^ i
theorem car_zero (f : Nat → Nat) : car f 0 = 0 := by simp [car, qs]
theorem car_succ (f : Nat → Nat) (i : Nat) : car f (i + 1) = (f i + car f i) / B := by
  unfold car
  rw [qs_div, qs_next]
theorem limb_car (f : Nat → Nat) {i n : Nat} (h : i < n) : limb (qs f n) i = (f i + car f i) % B := by
  rw [limb_qs f i n h]
  unfold limb car
  rw [qs_div]
theorem car_le {f : Nat → Nat} {c : Nat} (h : ∀ i, f i ≤ c) : ∀ i, car f i ≤ c
  | 0 => by rw [car_zero]; exact Nat.zero_le _
  | i + 1 => by
    have h1 := car_le h i
    have h2 := h i
    rw [car_succ]
    show (f i + car f i) / 65536 ≤ c
    omega
/-- The last piece takes what is carried. -/
theorem car_top (f : Nat → Nat) (k : Nat) : f k + car f k = qs f (k + 1) / B ^ k := qs_div f k

/-! ### Sums -/
def adF (m n : Nat) : Nat → Nat := fun t => limb m t + limb n t
theorem adF_le (m n i : Nat) : adF m n i ≤ 131070 := by
  have h1 : limb m i < 65536 := limb_lt m i
  have h2 : limb n i < 65536 := limb_lt n i
  unfold adF
  omega
theorem qs_ad {m n k : Nat} (hm : m < B ^ k) (hn : n < B ^ k) : qs (adF m n) k = m + n := by
  unfold adF
  rw [qs_add, qs_limb, qs_limb, Nat.mod_eq_of_lt hm, Nat.mod_eq_of_lt hn]
/-- The pieces at the head of round i. -/
def adP (m n i : Nat) : Nat → Nat := fun t => if t < i then limb (m + n) t else if t = i then limb m i + car (adF m n) i else limb m t
theorem pow19 {m : Nat} (h : m < B ^ 19) : m < B ^ 20 := Nat.lt_of_lt_of_le h (Nat.pow_le_pow_right (by decide) (by decide))
theorem limb_top {m k : Nat} (h : m < B ^ k) : limb m k = 0 := by simp [limb, Nat.div_eq_of_lt h]
theorem adP_end {m n : Nat} (hm : m < B ^ 20) (hn : n < B ^ 19) (h : m + n < B ^ 20) : ∀ t, t < 20 → adP m n 19 t = limb (m + n) t := by
  intro t ht
  unfold adP
  by_cases h1 : t < 19
  · rw [if_pos h1]
  · obtain rfl : t = 19 := by omega
    rw [if_neg h1, if_pos rfl]
    have e : qs (adF m n) 20 = m + n := qs_ad hm (pow19 hn)
    have e2 := limb_car (adF m n) (i := 19) (n := 20) (by omega)
    have e3 := car_top (adF m n) 19
    rw [e] at e2 e3
    have h4 : adF m n 19 = limb m 19 := by simp [adF, limb_top hn]
    have h5 : (m + n) / B ^ 19 < B := Nat.div_lt_of_lt_mul (by rw [← Nat.pow_succ]; exact h)
    rw [e2, e3, Nat.mod_eq_of_lt h5, ← e3, h4]
theorem adP_start (m n : Nat) : adP m n 0 = limb m := by
  funext t
  unfold adP
  by_cases h : t = 0
  · subst h; simp [car_zero]
  · rw [if_neg (by omega), if_neg h]
theorem ad_limb {m n i : Nat} (hi : i < 20) (hm : m < B ^ 20) (hn : n < B ^ 20) : limb (m + n) i = (limb m i + limb n i + car (adF m n) i) % B := by
  have := limb_car (adF m n) hi
  rw [qs_ad hm hn] at this
  exact this
theorem ad_car (m n i : Nat) : car (adF m n) (i + 1) = (limb m i + limb n i + car (adF m n) i) / B := car_succ _ _

/-! ### Differences -/
def bor (m n i : Nat) : Nat := if m % B ^ i < n % B ^ i then 1 else 0
theorem bor_zero (m n : Nat) : bor m n 0 = 0 := by simp [bor, Nat.mod_one]
theorem bor_le (m n i : Nat) : bor m n i ≤ 1 := by unfold bor; split <;> omega
theorem div_sub {m n : Nat} (h : n ≤ m) (i : Nat) : (m - n) / B ^ i = m / B ^ i - n / B ^ i - bor m n i ∧ n / B ^ i + bor m n i ≤ m / B ^ i := by
  have hP := Bpos i
  unfold bor
  generalize B ^ i = P at *
  have hm := Nat.div_add_mod m P
  have hn := Nat.div_add_mod n P
  have hle : n / P ≤ m / P := Nat.div_le_div_right h
  have l1 := Nat.mod_lt m hP
  have l2 := Nat.mod_lt n hP
  rw [Nat.mul_comm] at hm hn
  by_cases hb : m % P < n % P
  · rw [if_pos hb]
    have hlt : n / P < m / P := by
      rcases Nat.lt_or_ge (n / P) (m / P) with h0 | h0
      · exact h0
      · have : n / P = m / P := by omega
        rw [this] at hn
        omega
    refine ⟨?_, by omega⟩
    have e : m - n = (m % P + P - n % P) + (m / P - n / P - 1) * P := by
      have h3 : (m / P - n / P - 1) * P + (n / P * P + P) = m / P * P := by
        have : m / P - n / P - 1 + (n / P + 1) = m / P := by omega
        rw [← this]
        simp only [Nat.add_mul, Nat.one_mul]
        congr 1
        rw [show m / P - n / P - 1 + (n / P + 1) - n / P - 1 = m / P - n / P - 1 by omega]
      omega
    rw [e, Nat.add_mul_div_right _ _ hP, Nat.div_eq_of_lt (by omega), Nat.zero_add]
  · rw [if_neg hb]
    refine ⟨?_, by omega⟩
    have e : m - n = (m % P - n % P) + (m / P - n / P) * P := by
      have h3 : (m / P - n / P) * P + n / P * P = m / P * P := by
        rw [← Nat.add_mul, Nat.sub_add_cancel hle]
      omega
    rw [e, Nat.add_mul_div_right _ _ hP, Nat.div_eq_of_lt (by omega), Nat.zero_add]
    rfl
theorem sub_limb {m n : Nat} (h : n ≤ m) (i : Nat) : limb (m - n) i = (limb m i + 65536 - limb n i - bor m n i) % 65536 := by
  obtain ⟨h1, h2⟩ := div_sub h i
  have h3 := bor_le m n i
  unfold limb
  rw [h1]
  show (m / B ^ i - n / B ^ i - bor m n i) % 65536 = (m / B ^ i % 65536 + 65536 - n / B ^ i % 65536 - bor m n i) % 65536
  omega
theorem bor_succ (m n i : Nat) : bor m n (i + 1) = 1 - (limb m i + 65536 - limb n i - bor m n i) / 65536 := by
  have e1 := mod_step m i
  have e2 := mod_step n i
  have l1 : limb m i < 65536 := limb_lt m i
  have l2 : limb n i < 65536 := limb_lt n i
  have hm := Nat.mod_lt m (Bpos i)
  have hn := Nat.mod_lt n (Bpos i)
  have key : bor m n (i + 1) = if limb m i < limb n i ∨ (limb m i = limb n i ∧ m % B ^ i < n % B ^ i) then 1 else 0 := by
    unfold bor
    rw [e1, e2]
    generalize B ^ i = P at *
    generalize limb m i = a at *
    generalize limb n i = b at *
    rcases Nat.lt_trichotomy a b with h | h | h
    · have : a * P + P ≤ b * P := by
        have := Nat.mul_le_mul_right P h
        rwa [Nat.succ_mul] at this
      rw [if_pos (by omega), if_pos (.inl h)]
    · subst h
      by_cases h0 : m % P < n % P
      · rw [if_pos (by omega), if_pos (.inr ⟨rfl, h0⟩)]
      · rw [if_neg (by omega), if_neg (by omega)]
    · have : b * P + P ≤ a * P := by
        have := Nat.mul_le_mul_right P h
        rwa [Nat.succ_mul] at this
      rw [if_neg (by omega), if_neg (by omega)]
  rw [key]
  unfold bor
  split <;> split <;> omega
def sbP (m n i : Nat) : Nat → Nat := fun t => if t < i then limb (m - n) t else limb m t

/-! ### Products -/
def mulF (m n i : Nat) : Nat → Nat := fun t => limb (m % B ^ i * n) t + (if i ≤ t then limb m i * limb n (t - i) else 0)
theorem mul_le (m n i j : Nat) : limb m i * limb n j ≤ 4294836225 := by
  have h1 : limb m i ≤ 65535 := Nat.le_of_lt_succ (limb_lt m i)
  have h2 : limb n j ≤ 65535 := Nat.le_of_lt_succ (limb_lt n j)
  exact Nat.mul_le_mul h1 h2
theorem mulF_le (m n i t : Nat) : mulF m n i t ≤ 4294901760 := by
  have h1 : limb (m % B ^ i * n) t < 65536 := limb_lt _ t
  have h2 := mul_le m n i (t - i)
  unfold mulF
  split <;> omega
theorem mul_part {m n i : Nat} : m % B ^ i * n ≤ m * n := Nat.mul_le_mul_right _ (Nat.mod_le _ _)
theorem qs_mul {m n i : Nat} (hi : i < 20) (h : m * n < B ^ 19) : qs (mulF m n i) 20 = m % B ^ (i + 1) * n := by
  unfold mulF
  rw [qs_add, qs_limb, Nat.mod_eq_of_lt (pow19 (Nat.lt_of_le_of_lt mul_part h)), qs_shift, mod_step, Nat.add_mul]
  congr 1
  rcases Nat.eq_zero_or_pos (limb m i) with h0 | h0
  · simp [h0]
  · congr 1
    refine Nat.mod_eq_of_lt ?_
    have hm : B ^ i ≤ m := by
      rcases Nat.lt_or_ge m (B ^ i) with h1 | h1
      · rw [limb_top h1] at h0; omega
      · exact h1
    have h2 : B ^ i * n < B ^ i * B ^ (20 - i) := by
      rw [← Nat.pow_add, show i + (20 - i) = 20 by omega]
      exact Nat.lt_of_le_of_lt (Nat.mul_le_mul_right n hm) (pow19 h)
    exact Nat.lt_of_mul_lt_mul_left h2
/-- The pieces in the midst of a row of products. -/
def mulJ (m n i j : Nat) : Nat → Nat := fun t => limb (m % B ^ i * n) t + (if i ≤ t ∧ t < i + j then limb m i * limb n (t - i) else 0)
theorem mulJ_start (m n i : Nat) : mulJ m n i 0 = limb (m % B ^ i * n) := by
  funext t
  unfold mulJ
  rw [if_neg (by omega), Nat.add_zero]
theorem mulJ_end (m n i : Nat) : ∀ t, t < 20 → mulJ m n i (20 - i) t = mulF m n i t := by
  intro t ht
  unfold mulJ mulF
  by_cases h : i ≤ t
  · rw [if_pos ⟨h, by omega⟩, if_pos h]
  · rw [if_neg (fun hh => h hh.1), if_neg h]
/-- The pieces at the head of a round of carries. -/
def crP (f : Nat → Nat) (k : Nat) : Nat → Nat := fun t => if t < k then limb (qs f 20) t else if t = k then f k + car f k else f t
theorem crP_start (f : Nat → Nat) : crP f 0 = f := by
  funext t
  unfold crP
  by_cases h : t = 0
  · subst h; simp [car_zero]
  · rw [if_neg (by omega), if_neg h]
theorem crP_end {f : Nat → Nat} (h : qs f 20 < B ^ 19) : ∀ t, t < 20 → crP f 19 t = limb (qs f 20) t := by
  intro t ht
  unfold crP
  by_cases h1 : t < 19
  · rw [if_pos h1]
  · obtain rfl : t = 19 := by omega
    rw [if_neg h1, if_pos rfl, car_top, Nat.div_eq_of_lt h, limb_top h]

/-! ### Which is the greater -/
theorem eq_of_limbs {m n : Nat} (hm : m < B ^ 20) (hn : n < B ^ 20) (h : ∀ i, i < 20 → limb m i = limb n i) : m = n := limbs_inj hm hn h
theorem limb_beyond {m k i : Nat} (h : m < B ^ k) (hi : k ≤ i) : limb m i = 0 := limb_top (Nat.lt_of_lt_of_le h (Nat.pow_le_pow_right (by decide) hi))
theorem lt_limbs {m n k : Nat} (hm : m < B ^ 20) (hn : n < B ^ 20) (h : ∀ i, k < i → i < 20 → limb m i = limb n i) (hk : limb m k < limb n k) : m < n :=
  lt_of_limb (K := 20) (fun i hi => by
    by_cases h0 : i < 20
    · exact h i hi h0
    · rw [limb_beyond hm (by omega), limb_beyond hn (by omega)]) hm hn hk
/-- The first piece, from the top, at which two numbers part. -/
theorem parts {m n : Nat} (hm : m < B ^ 20) (hn : n < B ^ 20) : m = n ∨ ∃ k, k < 20 ∧ (∀ i, k < i → i < 20 → limb m i = limb n i) ∧ limb m k ≠ limb n k := by
  have key : ∀ j, j ≤ 20 → (∀ i, 20 - j ≤ i → i < 20 → limb m i = limb n i) ∨ ∃ k, k < 20 ∧ (∀ i, k < i → i < 20 → limb m i = limb n i) ∧ limb m k ≠ limb n k := by
    intro j
    induction j with
    | zero => intro _; exact .inl fun i h1 h2 => by omega
    | succ j ih =>
      intro hj
      rcases ih (by omega) with h | h
      · by_cases he : limb m (20 - (j + 1)) = limb n (20 - (j + 1))
        · refine .inl fun i h1 h2 => ?_
          by_cases hi : i = 20 - (j + 1)
          · rw [hi]; exact he
          · exact h i (by omega) h2
        · exact .inr ⟨20 - (j + 1), by omega, fun i h1 h2 => h i (by omega) h2, he⟩
      · exact .inr h
  rcases key 20 (Nat.le_refl _) with h | h
  · exact .inl (eq_of_limbs hm hn fun i hi => h i (by omega) hi)
  · exact .inr h
/-- The first piece that is none. -/
theorem first_limb {m : Nat} (hm : m < B ^ 20) (h0 : 0 < m) : ∃ k, k < 20 ∧ (∀ i, i < k → limb m i = 0) ∧ 0 < limb m k := by
  have key : ∀ j, j ≤ 20 → (∀ i, i < j → limb m i = 0) ∨ ∃ k, k < 20 ∧ (∀ i, i < k → limb m i = 0) ∧ 0 < limb m k := by
    intro j
    induction j with
    | zero => intro _; exact .inl fun i h => by omega
    | succ j ih =>
      intro hj
      rcases ih (by omega) with h | h
      · rcases Nat.eq_zero_or_pos (limb m j) with he | he
        · refine .inl fun i hi => ?_
          by_cases hij : i = j
          · rw [hij]; exact he
          · exact h i (by omega)
        · exact .inr ⟨j, by omega, h, he⟩
      · exact .inr h
  rcases key 20 (Nat.le_refl _) with h | h
  · have := eq_of_limbs hm (n := 0) (Bpos 20) (fun i hi => by rw [h i hi, limb_zero])
    omega
  · exact h
end Go.Proofs.YtflgpkkbifkpoaaGreatDoor.num
namespace Go.Proofs.YtflgpkkbifkpoaaGreatDoor.num
/-! ### One round of a sum, store by store -/
def ad1 (m n i : Nat) : Nat → Nat := fun t => if t = i then limb m i + limb n i + car (adF m n) i else adP m n i t
def ad2 (m n i : Nat) : Nat → Nat := fun t => if t = i + 1 then limb m (i + 1) + car (adF m n) (i + 1) else ad1 m n i t
def limN (f : Nat → Nat) : Nat → Int := fun t => ((f t : Nat) : Int)
theorem limN_if {f g : Nat → Nat} {i v : Nat} (h : ∀ s, s < 20 → g s = if s = i then v else f s) : ∀ s, s < 20 → limN g s = if s = i then ((v : Nat) : Int) else limN f s := fun s hs => by
  unfold limN
  rw [h s hs]
  split <;> rfl
theorem ad1_is (m n i : Nat) : ∀ s, s < 20 → limN (ad1 m n i) s = if s = i then ((limb m i + limb n i + car (adF m n) i : Nat) : Int) else limN (adP m n i) s := limN_if fun _ _ => rfl
theorem ad2_is (m n i : Nat) : ∀ s, s < 20 → limN (ad2 m n i) s = if s = i + 1 then ((limb m (i + 1) + car (adF m n) (i + 1) : Nat) : Int) else limN (ad1 m n i) s := limN_if fun _ _ => rfl
theorem ad3_is (m n i : Nat) : ∀ s, s < 20 → limN (adP m n (i + 1)) s = if s = i then ((limb (m + n) i : Nat) : Int) else limN (ad2 m n i) s := limN_if fun s _ => by
  unfold ad2 ad1 adP
  by_cases h1 : s = i
  · subst h1; rw [if_pos (by omega), if_pos rfl]
  · rw [if_neg h1]
    by_cases h2 : s < i
    · rw [if_pos (by omega), if_neg (by omega), if_neg h1, if_pos h2]
    · rw [if_neg (by omega)]
      by_cases h3 : s = i + 1
      · subst h3; rw [if_pos rfl, if_pos rfl]
      · rw [if_neg h3, if_neg h3, if_neg h1, if_neg h2, if_neg h1]
theorem adP_at (m n i : Nat) : limN (adP m n i) i = ((limb m i + car (adF m n) i : Nat) : Int) := by simp [limN, adP]
theorem ad1_at (m n i : Nat) : limN (ad1 m n i) i = ((limb m i + limb n i + car (adF m n) i : Nat) : Int) := by simp [limN, ad1]
theorem ad1_nx (m n i : Nat) : limN (ad1 m n i) (i + 1) = ((limb m (i + 1) : Nat) : Int) := by
  have : ¬ i + 1 < i := by omega
  simp [limN, ad1, adP, this]
theorem ad2_at (m n i : Nat) : limN (ad2 m n i) i = ((limb m i + limb n i + car (adF m n) i : Nat) : Int) := by simp [limN, ad2, ad1]
theorem ad_b1 (m n i : Nat) : limb m i + limb n i + car (adF m n) i < 18446744073709551616 := by
  have h1 : limb m i < 65536 := limb_lt m i
  have h2 : limb n i < 65536 := limb_lt n i
  have h3 := car_le (adF_le m n) i
  omega
theorem ad_b2 (m n i : Nat) : limb m (i + 1) + car (adF m n) (i + 1) < 18446744073709551616 := by
  have h1 : limb m (i + 1) < 65536 := limb_lt m (i + 1)
  have h3 := car_le (adF_le m n) (i + 1)
  omega
theorem td_cast (a : Nat) (h : a < 18446744073709551616) : Value.int .u64 (IntKind.wrap .u64 (Int.tdiv (a : Int) 65536)) = .int .u64 ((a / 65536 : Nat) : Int) := by
  rw [Int.tdiv_eq_ediv_of_nonneg (by omega)]
  simp only [IntKind.wrap, IntKind.bits, IntKind.signed]
  congr 1
  simp
  omega
theorem tm_cast (a : Nat) : Value.int .u64 (Int.tmod (a : Int) 65536) = .int .u64 ((a % 65536 : Nat) : Int) := by
  rw [Int.tmod_eq_emod_of_nonneg (by omega)]; rfl
theorem ad_q (m n i : Nat) : Value.int .u64 (IntKind.wrap .u64 (Int.tdiv ((limb m i + limb n i + car (adF m n) i : Nat) : Int) 65536)) = .int .u64 ((car (adF m n) (i + 1) : Nat) : Int) := by
  rw [td_cast _ (ad_b1 m n i), ad_car]
theorem ad_r {m n i : Nat} (hm : m < B ^ 20) (hn : n < B ^ 20) (hi : i < 20) : Value.int .u64 (Int.tmod ((limb m i + limb n i + car (adF m n) i : Nat) : Int) 65536) = .int .u64 ((limb (m + n) i : Nat) : Int) := by
  rw [tm_cast, ad_limb hi hm hn]
end Go.Proofs.YtflgpkkbifkpoaaGreatDoor.num
namespace Go.Proofs.YtflgpkkbifkpoaaGreatDoor.num
/-! ### One round of a difference -/
def sbx (m n i : Nat) : Nat := limb m i + 65536 - limb n i - bor m n i
theorem sbP_start (m n : Nat) : sbP m n 0 = limb m := by
  funext t
  unfold sbP
  rw [if_neg (by omega)]
theorem sbP_end (m n : Nat) : ∀ t, t < 20 → sbP m n 20 t = limb (m - n) t := fun t ht => by unfold sbP; rw [if_pos ht]
theorem sb_at (m n i : Nat) : limN (sbP m n i) i = ((limb m i : Nat) : Int) := by simp [limN, sbP]
theorem sb_is (m n i : Nat) : ∀ s, s < 20 → limN (sbP m n (i + 1)) s = if s = i then ((limb (m - n) i : Nat) : Int) else limN (sbP m n i) s := limN_if fun s _ => by
  unfold sbP
  by_cases h1 : s = i
  · subst h1; rw [if_pos (by omega), if_pos rfl]
  · rw [if_neg h1]
    by_cases h2 : s < i
    · rw [if_pos (by omega), if_pos h2]
    · rw [if_neg (by omega), if_neg h2]
theorem limb_lt' (m i : Nat) : limb m i < 65536 := limb_lt m i
theorem sbx_lt (m n i : Nat) : sbx m n i < 131072 := by
  have h1 : limb m i < 65536 := limb_lt m i
  unfold sbx
  omega
theorem sb_r {m n : Nat} (h : n ≤ m) (i : Nat) : Value.int .u64 (Int.tmod ((sbx m n i : Nat) : Int) 65536) = .int .u64 ((limb (m - n) i : Nat) : Int) := by
  rw [tm_cast, sub_limb h]
  rfl
theorem sb_q (m n i : Nat) : Value.int .u64 (IntKind.wrap .u64 (Int.tdiv ((sbx m n i : Nat) : Int) 65536)) = .int .u64 ((sbx m n i / 65536 : Nat) : Int) := td_cast _ (by have := sbx_lt m n i; omega)
theorem sb_b (m n i : Nat) : (1 : Int) - ((sbx m n i / 65536 : Nat) : Int) = ((bor m n (i + 1) : Nat) : Int) := by
  rw [bor_succ]
  have := sbx_lt m n i
  unfold sbx at this ⊢
  omega
theorem sb_x (m n i : Nat) : ((limb m i + 65536 - limb n i : Nat) : Int) - ((bor m n i : Nat) : Int) = ((sbx m n i : Nat) : Int) := by
  have h1 : limb n i < 65536 := limb_lt n i
  have h2 := bor_le m n i
  unfold sbx
  omega

/-! ### One round of a row of products, and of carries -/
theorem mj_at (m n i j : Nat) : limN (mulJ m n i j) (i + j) = ((limb (m % B ^ i * n) (i + j) : Nat) : Int) := by simp [limN, mulJ]
theorem mj_is (m n i j : Nat) : ∀ s, s < 20 → limN (mulJ m n i (j + 1)) s = if s = i + j then ((limb (m % B ^ i * n) (i + j) + limb m i * limb n j : Nat) : Int) else limN (mulJ m n i j) s := limN_if fun s _ => by
  unfold mulJ
  by_cases h1 : s = i + j
  · subst h1
    rw [if_pos (by omega), if_pos rfl, show i + j - i = j by omega]
  · rw [if_neg h1]
    by_cases h2 : i ≤ s ∧ s < i + j
    · rw [if_pos (by omega), if_pos h2]
    · rw [if_neg (by omega), if_neg h2]
theorem mj_b (m n i j t : Nat) : limb (m % B ^ i * n) t + limb m i * limb n j < 18446744073709551616 := by
  have h1 : limb (m % B ^ i * n) t < 65536 := limb_lt _ t
  have h2 := mul_le m n i j
  omega
def cr1 (f : Nat → Nat) (k : Nat) : Nat → Nat := fun t => if t = k + 1 then f (k + 1) + car f (k + 1) else crP f k t
theorem cr_at (f : Nat → Nat) (k : Nat) : limN (crP f k) k = ((f k + car f k : Nat) : Int) := by simp [limN, crP]
theorem cr_nx (f : Nat → Nat) (k : Nat) : limN (crP f k) (k + 1) = ((f (k + 1) : Nat) : Int) := by
  have : ¬ k + 1 < k := by omega
  simp [limN, crP, this]
theorem cr1_at (f : Nat → Nat) (k : Nat) : limN (cr1 f k) k = ((f k + car f k : Nat) : Int) := by simp [limN, cr1, crP]
theorem cr1_is (f : Nat → Nat) (k : Nat) : ∀ s, s < 20 → limN (cr1 f k) s = if s = k + 1 then ((f (k + 1) + car f (k + 1) : Nat) : Int) else limN (crP f k) s := limN_if fun _ _ => rfl
theorem cr2_is (f : Nat → Nat) (k : Nat) : ∀ s, s < 20 → limN (crP f (k + 1)) s = if s = k then ((limb (qs f 20) k : Nat) : Int) else limN (cr1 f k) s := limN_if fun s _ => by
  unfold cr1 crP
  by_cases h1 : s = k
  · subst h1; rw [if_pos (by omega), if_pos rfl]
  · rw [if_neg h1]
    by_cases h2 : s < k
    · rw [if_pos (by omega), if_neg (by omega), if_pos h2]
    · rw [if_neg (by omega)]
      by_cases h3 : s = k + 1
      · subst h3; rw [if_pos rfl, if_pos rfl]
      · rw [if_neg h3, if_neg h3, if_neg h2, if_neg h1]
theorem cr_q {f : Nat → Nat} (h : ∀ i, f i ≤ 4294901760) (k : Nat) : Value.int .u64 (IntKind.wrap .u64 (Int.tdiv ((f k + car f k : Nat) : Int) 65536)) = .int .u64 ((car f (k + 1) : Nat) : Int) := by
  have h1 := h k
  have h2 := car_le h k
  rw [td_cast _ (by omega), car_succ]
theorem cr_r (f : Nat → Nat) {k : Nat} (hk : k < 20) : Value.int .u64 (Int.tmod ((f k + car f k : Nat) : Int) 65536) = .int .u64 ((limb (qs f 20) k : Nat) : Int) := by
  rw [tm_cast, limb_car f hk]
theorem cr_b {f : Nat → Nat} (h : ∀ i, f i ≤ 4294901760) (k : Nat) : f k + car f k < 18446744073709551616 := by
  have h1 := h k
  have h2 := car_le h k
  omega
end Go.Proofs.YtflgpkkbifkpoaaGreatDoor.num

namespace Go.Proofs.YtflgpkkbifkpoaaGreatDoor.num
open Go.Dg (junk St Ex Ev Hint evCall evCallS evCode evCodeK innerKp evCodeS evLoop cleanSt ue bodied noOver sbOf headOf tailOf bodyOf rAssign rBody lBody Flats flatOver Heap AObj SCall Law ofLaw Fix)
set_option linter.unusedVariables false

noncomputable def sbs : List Nat := (((Tryz.prog.funcs.toList.map sbOf).set 28 6).set 29 6).set 7 5
theorem mixed : Tryz.prog.follows .mixedOrders = true := by kernel_rfl
theorem okB : Dg.BodiesOk Tryz.prog (bodied Tryz.prog) := Dg.bodied_ok _
def js (n : Nat) : List Value := List.replicate n junk
def ptr (k : Nat) : Value := .pointer (some ⟨k, 0, none⟩)
def txt (zs : List Int) : ByteArray := ⟨(zs.map fun n => UInt8.ofNat n.toNat).toArray⟩
theorem txt_size (zs : List Int) : (txt zs).size = zs.length := by simp [txt, ByteArray.size]
theorem txt_list (zs : List Int) : (txt zs).toList = zs.map fun n => UInt8.ofNat n.toNat := by rw [ByteArray.toList_eq]; simp [txt]
def sval (b : Bool) (m : Nat) : Int := if b then -(m : Int) else (m : Int)
def decS (b : Bool) (m : Nat) : List Int := if b = true ∧ 0 < m then 45 :: decZ m else decZ m
end Go.Proofs.YtflgpkkbifkpoaaGreatDoor.num

namespace Go.Proofs.YtflgpkkbifkpoaaGreatDoor.num
set_option linter.unusedVariables false

def bs (zs : List Int) : List UInt8 := zs.map fun n => UInt8.ofNat n.toNat
def ints (l : List UInt8) : List Int := l.map fun c => (c.toNat : Int)
theorem bs_ints (l : List UInt8) : bs (ints l) = l := by
  simp [bs, ints, List.map_map, Function.comp_def]
theorem bs_decZ (m : Nat) : bs (decZ m) = Lib.decDigits m := bs_ints _
theorem bs_decS (b : Bool) (m : Nat) : bs (decS b m) = Lib.itoa (sval b m) := by
  unfold decS
  cases b with
  | false =>
    rw [if_neg (by simp), bs_decZ]
    simp [sval, Lib.itoa]
  | true =>
    rcases Nat.eq_zero_or_pos m with h | h
    · subst h
      rw [if_neg (by omega), bs_decZ]
      simp [sval, Lib.itoa]
    · rw [if_pos ⟨rfl, h⟩]
      show UInt8.ofNat (45 : Int).toNat :: bs (decZ m) = _
      rw [bs_decZ]
      simp only [sval, Lib.itoa, if_true]
      rw [if_pos (by omega), Int.natAbs_neg, Int.natAbs_natCast]
      rfl
/-- What digits spell. -/
def stepB (a : Nat) (c : UInt8) : Nat := a * 10 + (c.toNat - 48)
def valB (acc : Nat) (l : List UInt8) : Nat := l.foldl stepB acc
theorem valB_nil (acc : Nat) : valB acc [] = acc := List.foldl_nil
theorem valB_cons (acc : Nat) (c : UInt8) (r : List UInt8) : valB acc (c :: r) = valB (stepB acc c) r := List.foldl_cons ..
def DigB (c : UInt8) : Prop := 48 ≤ c.toNat ∧ c.toNat ≤ 57
theorem valB_app (c : UInt8) (l : List UInt8) (acc : Nat) : valB acc (l ++ [c]) = stepB (valB acc l) c := by
  unfold valB
  rw [List.foldl_append, List.foldl_cons, List.foldl_nil]
theorem valB_le : ∀ (l : List UInt8) (acc : Nat), acc ≤ valB acc l := by
  intro l
  induction l with
  | nil => intro acc; rw [valB_nil]; exact Nat.le_refl _
  | cons d r ih =>
    intro acc
    rw [valB_cons]
    refine Nat.le_trans ?_ (ih _)
    unfold stepB
    omega
theorem dec_val (m : Nat) : valB 0 (Lib.decDigits m) = m ∧ (∀ c ∈ Lib.decDigits m, DigB c) ∧ Lib.decDigits m ≠ [] := by
  induction m using Nat.strongRecOn with
  | _ m ih =>
    rw [Lib.decDigits]
    split
    · rename_i h
      have e : (UInt8.ofNat (48 + m)).toNat = 48 + m := by rw [UInt8.toNat_ofNat']; omega
      refine ⟨by rw [valB_cons, valB_nil]; unfold stepB; rw [e]; omega, fun c hc => ?_, by simp⟩
      rw [List.mem_singleton] at hc
      subst hc
      unfold DigB
      omega
    · rename_i h
      obtain ⟨h1, h2, h3⟩ := ih (m / 10) (by omega)
      have e : (UInt8.ofNat (48 + m % 10)).toNat = 48 + m % 10 := by rw [UInt8.toNat_ofNat']; omega
      refine ⟨by rw [valB_app, h1]; unfold stepB; rw [e]; omega, fun c hc => ?_, by simp⟩
      rcases List.mem_append.1 hc with hc | hc
      · exact h2 c hc
      · rw [List.mem_singleton] at hc
        subst hc
        unfold DigB
        omega
theorem parseM {M : Nat} (hM : M = 18446744073709551615) : ∀ (l : List UInt8) (acc : Nat), (∀ c ∈ l, DigB c) → valB acc l ≤ M → Lib.parseUintM M acc l = .ok (valB acc l) := by
  intro l
  induction l with
  | nil => intro acc _ _; rw [valB_nil, Lib.parseUintM]
  | cons c r ih =>
    intro acc h hv
    have h1 := h c (List.mem_cons_self ..)
    unfold DigB at h1
    have h2 := valB_le r (stepB acc c)
    rw [valB_cons] at hv
    have h3 : stepB acc c = acc * 10 + (c.toNat - 48) := rfl
    rw [Lib.parseUintM, valB_cons, if_pos h1, if_neg (by omega), if_neg (by omega), ← h3]
    exact ih _ (fun d hd => h d (List.mem_cons_of_mem _ hd)) hv
theorem two64 : (2 : Nat) ^ 64 - 1 = 18446744073709551615 := by decide
theorem parseU_dec {u : Nat} (h : u ≤ 18446744073709551615) : Lib.parseUintB 64 (Lib.decDigits u) = .ok u := by
  obtain ⟨h1, h2, h3⟩ := dec_val u
  unfold Lib.parseUintB
  rw [if_neg h3, parseM two64 _ _ h2 (by rw [h1, two64]; exact h), h1]
theorem two63 : (2 : Nat) ^ (64 - 1) = 9223372036854775808 := by decide
theorem parseI_itoa {n : Int} (h0 : -9223372036854775808 ≤ n) (h1 : n ≤ 9223372036854775807) : Lib.parseIntB 64 (Lib.itoa n) = .ok n := by
  unfold Lib.itoa
  by_cases hn : n < 0
  · rw [if_pos hn]
    have e : Lib.parseUintB 64 (Lib.decDigits n.natAbs) = .ok n.natAbs := parseU_dec (by omega)
    simp only [Lib.parseIntB]
    rw [if_pos (.inr rfl), e]
    simp only [two63]
    rw [if_neg (by simp), if_neg (by simp; omega)]
    simp
    omega
  · rw [if_neg hn]
    obtain ⟨m, rfl⟩ : ∃ m : Nat, n = (m : Int) := ⟨n.toNat, by omega⟩
    rw [Int.toNat_natCast]
    obtain ⟨h2, h3, h4⟩ := dec_val m
    have e : Lib.parseUintB 64 (Lib.decDigits m) = .ok m := parseU_dec (by omega)
    cases hd : Lib.decDigits m with
    | nil => exact absurd hd h4
    | cons c r =>
      rw [hd] at h3 e
      have hc := h3 c (List.mem_cons_self ..)
      unfold DigB at hc
      simp only [Lib.parseIntB]
      rw [if_neg (by omega), e]
      simp only [two63]
      rw [if_neg (by omega), if_neg (by omega), if_neg (by omega)]
/-- The number of 64 bits that a text is; without a sign. -/
def undec (l : List UInt8) : Option Int := match Lib.parseIntB 64 l with
  | .ok v => if Lib.itoa v = l then some v else none
  | _ => none
def ununs (l : List UInt8) : Option Nat := match Lib.parseUintB 64 l with
  | .ok v => if Lib.decDigits v = l then some v else none
  | _ => none
theorem parseI_range {l : List UInt8} {v : Int} (h : Lib.parseIntB 64 l = .ok v) : -9223372036854775808 ≤ v ∧ v ≤ 9223372036854775807 := by
  cases l with
  | nil => cases h
  | cons c r =>
    simp only [Lib.parseIntB, two63] at h
    split at h
    · cases h
    · cases h
    · split at h
      · cases h
      · split at h
        · cases h
        · cases h
          rename_i h1 h2
          by_cases hc : c.toNat = 45
          · rw [if_pos hc]; simp [hc] at h2; omega
          · rw [if_neg hc]; simp [hc] at h1; omega
theorem parseM_le {M : Nat} : ∀ (l : List UInt8) (acc v : Nat), acc ≤ M → Lib.parseUintM M acc l = .ok v → v ≤ M
  | [], acc, v, h0, h => by simp only [Lib.parseUintM] at h; cases h; exact h0
  | c :: r, acc, v, h0, h => by
    simp only [Lib.parseUintM] at h
    split at h
    · split at h
      · cases h
      · split at h
        · cases h
        · rename_i h1
          exact parseM_le r _ v (by omega) h
    · cases h
theorem undec_some {l : List UInt8} {v : Int} : undec l = some v ↔ (-9223372036854775808 ≤ v ∧ v ≤ 9223372036854775807 ∧ Lib.itoa v = l) := by
  unfold undec
  constructor
  · intro h
    split at h
    · rename_i u hu
      split at h
      · cases h; exact ⟨(parseI_range hu).1, (parseI_range hu).2, by assumption⟩
      · cases h
    · cases h
  · rintro ⟨h0, h1, h2⟩
    rw [← h2, parseI_itoa h0 h1]
    simp
theorem ununs_some {l : List UInt8} {v : Nat} : ununs l = some v ↔ (v ≤ 18446744073709551615 ∧ Lib.decDigits v = l) := by
  unfold ununs
  constructor
  · intro h
    split at h
    · rename_i u hu
      split at h
      · cases h
        rename_i h2
        refine ⟨?_, h2⟩
        unfold Lib.parseUintB at hu
        split at hu
        · cases hu
        · have := parseM_le _ _ _ (by omega) hu
          rw [two64] at this
          exact this
      · cases h
    · cases h
  · rintro ⟨h1, h2⟩
    rw [← h2, parseU_dec h1]
    simp
theorem dec_inj {m n : Nat} (h : Lib.decDigits m = Lib.decDigits n) : m = n := by
  rw [← (dec_val m).1, h, (dec_val n).1]
theorem itoa_inj {m n : Int} (h : Lib.itoa m = Lib.itoa n) : m = n := by
  have hd : ∀ k : Nat, ∀ r, Lib.decDigits k ≠ 45 :: r := fun k r e => by
    have := (dec_val k).2.1 45 (by rw [e]; exact List.mem_cons_self ..)
    revert this
    unfold DigB
    decide
  unfold Lib.itoa at h
  split at h <;> split at h
  · have := dec_inj (List.cons.inj h).2
    omega
  · exact absurd h.symm (hd _ _)
  · exact absurd h (hd _ _)
  · have := dec_inj h
    omega
end Go.Proofs.YtflgpkkbifkpoaaGreatDoor.num

namespace Go.Proofs.YtflgpkkbifkpoaaGreatDoor.num
set_option linter.unusedVariables false

theorem ints_len (l : List UInt8) : (ints l).length = l.length := by simp [ints]
theorem ints_get {l : List UInt8} {i : Nat} (h : i < l.length) : (ints l).getD i 0 = ((l[i]).toNat : Int) := by
  simp [ints, List.getD_eq_getElem?_getD, h]
end Go.Proofs.YtflgpkkbifkpoaaGreatDoor.num
