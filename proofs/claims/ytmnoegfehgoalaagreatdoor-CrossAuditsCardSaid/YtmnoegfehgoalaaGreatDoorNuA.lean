/- Numbers as 20 pieces of 16 bits: what sums, products and quotients by ten come to, piece by piece. Plain Lean. Numbers as pieces: carries, borrows, products. Plain Lean. The reference's functions on numbers of 20 pieces: what they come to. What Of, Num64, Zero, Size of the reference's numbers come to, as an oracle. -/
import Derived.Test.YtmnoegfehgoalaaGreatDoorRows
import Derived.Lib.ItoaNum
import Derived.Test.YtmnoegfehgoalaaGreatDoorDgApp
import Derived.Test.YtmnoegfehgoalaaGreatDoorDgLay
namespace Go.Proofs.YtmnoegfehgoalaaGreatDoor.num
set_option linter.unusedVariables false
abbrev B : Nat := 65536
/-- Piece i of a number. -/
def limb (m i : Nat) : Nat := m / B ^ i % B
theorem limb_lt (m i : Nat) : limb m i < B := Nat.mod_lt _ (by decide)
theorem Bpos (i : Nat) : 0 < B ^ i := Nat.pow_pos (by decide)
/-- The first k pieces' sum. -/
def qs (f : Nat → Nat) : Nat → Nat
  | 0 => 0
  | k + 1 => qs f k + f k * B ^ k
theorem qs_div (f : Nat → Nat) (k : Nat) : f k + qs f k / B ^ k = qs f (k + 1) / B ^ k := by
  simp only [qs]
  rw [Nat.add_mul_div_right _ _ (Bpos k), Nat.add_comm]
theorem qs_next (f : Nat → Nat) (k : Nat) : qs f (k + 1) / B ^ k / B = qs f (k + 1) / B ^ (k + 1) := by
  rw [Nat.div_div_eq_div_mul, ← Nat.pow_succ]
theorem limb_add_mul (a c k j : Nat) (h : j < k) : limb (a + c * B ^ k) j = limb a j := by
  unfold limb
  obtain ⟨d, rfl⟩ : ∃ d, k = j + (d + 1) := ⟨k - j - 1, by omega⟩
  rw [Nat.pow_add, show c * (B ^ j * B ^ (d + 1)) = c * B ^ (d + 1) * B ^ j by rw [Nat.mul_comm (B ^ j), Nat.mul_assoc], Nat.add_mul_div_right _ _ (Bpos j), Nat.pow_succ, ← Nat.mul_assoc, Nat.add_mul_mod_self_right]
theorem limb_qs (f : Nat → Nat) (j : Nat) : ∀ n, j < n → limb (qs f n) j = limb (qs f (j + 1)) j := by
  intro n
  induction n with
  | zero => intro h; omega
  | succ n ih =>
    intro h
    rcases Nat.lt_or_ge j n with h0 | h0
    · rw [qs, limb_add_mul _ _ _ _ h0, ih h0]
    · obtain rfl : n = j := by omega
      rfl
theorem mod_step (m k : Nat) : m % B ^ (k + 1) = m % B ^ k + limb m k * B ^ k := by
  unfold limb
  rw [Nat.pow_succ, Nat.mod_mul, Nat.mul_comm (B ^ k)]
theorem qs_limb (m : Nat) : ∀ k, qs (limb m) k = m % B ^ k
  | 0 => by simp [qs, Nat.mod_one]
  | k + 1 => by rw [qs, qs_limb m k, mod_step]
theorem qs_add (f g : Nat → Nat) : ∀ k, qs (fun i => f i + g i) k = qs f k + qs g k
  | 0 => rfl
  | k + 1 => by simp only [qs, qs_add f g k, Nat.add_mul]; omega
theorem qs_shift (c m i : Nat) : ∀ k, qs (fun t => if i ≤ t then c * limb m (t - i) else 0) k = c * B ^ i * (m % B ^ (k - i))
  | 0 => by simp [qs, Nat.mod_one]
  | k + 1 => by
    rw [qs, qs_shift c m i k]
    rcases Nat.lt_or_ge k i with h | h
    · rw [if_neg (by omega), show k + 1 - i = 0 by omega, show k - i = 0 by omega]
      simp [Nat.mod_one]
    · rw [if_pos h, show k + 1 - i = (k - i) + 1 by omega, mod_step, Nat.mul_add]
      have e : B ^ k = B ^ i * B ^ (k - i) := by rw [← Nat.pow_add]; congr 1; omega
      rw [e]
      congr 1
      simp only [Nat.mul_comm, Nat.mul_left_comm, Nat.mul_assoc]
theorem qs_congr {f g : Nat → Nat} : ∀ k, (∀ i, i < k → f i = g i) → qs f k = qs g k
  | 0, _ => rfl
  | k + 1, h => by rw [qs, qs, qs_congr k (fun i hi => h i (by omega)), h k (by omega)]
theorem limb_div (m d i : Nat) : limb (m / d) i = m / B ^ i / d % B := by
  unfold limb
  rw [Nat.div_div_eq_div_mul, Nat.div_div_eq_div_mul, Nat.mul_comm]
/-- Two numbers with the same pieces. -/
theorem limbs_inj {m n : Nat} {k : Nat} (hm : m < B ^ k) (hn : n < B ^ k) (h : ∀ i, i < k → limb m i = limb n i) : m = n := by
  have := qs_congr k h
  rw [qs_limb, qs_limb, Nat.mod_eq_of_lt hm, Nat.mod_eq_of_lt hn] at this
  exact this
theorem limb_zero (i : Nat) : limb 0 i = 0 := by simp [limb]
/-- Which of two numbers is the greater: by their first pieces, from the top, that are not the same. -/
theorem lt_of_limb {m n : Nat} {k : Nat} (h : ∀ i, k < i → limb m i = limb n i) {K : Nat} (hm : m < B ^ K) (hn : n < B ^ K) (hk : limb m k < limb n k) : m < n := by
  have e : m / B ^ (k + 1) = n / B ^ (k + 1) := by
    refine limbs_inj (k := K) (Nat.lt_of_le_of_lt (Nat.div_le_self _ _) hm) (Nat.lt_of_le_of_lt (Nat.div_le_self _ _) hn) fun i _ => ?_
    rw [limb_div, limb_div, Nat.div_div_eq_div_mul, Nat.div_div_eq_div_mul, ← Nat.pow_add]
    exact h (i + (k + 1)) (by omega)
  have am : ∀ x : Nat, x = B ^ (k + 1) * (x / B ^ (k + 1)) + (limb x k * B ^ k + x % B ^ k) := fun x => by
    have := mod_step x k
    have h2 := Nat.div_add_mod x (B ^ (k + 1))
    omega
  have h1 := am m
  have h2 := am n
  rw [e] at h1
  have h3 : limb m k * B ^ k + B ^ k ≤ limb n k * B ^ k := by
    have : (limb m k + 1) * B ^ k ≤ limb n k * B ^ k := Nat.mul_le_mul_right _ hk
    rwa [Nat.add_mul, Nat.one_mul] at this
  have h4 := Nat.mod_lt m (Bpos k)
  have h5 := Nat.zero_le (n % B ^ k)
  omega
end Go.Proofs.YtmnoegfehgoalaaGreatDoor.num
namespace Go.Proofs.YtmnoegfehgoalaaGreatDoor.num
set_option linter.unusedVariables false
/-- What is carried into piece i. -/
def car (f : Nat → Nat) (i : Nat) : Nat := qs f i / B ^ i
theorem car_zero (f : Nat → Nat) : car f 0 = 0 := by simp [car, qs]
theorem car_succ (f : Nat → Nat) (i : Nat) : car f (i + 1) = (f i + car f i) / B := by
  unfold car
  rw [qs_div, qs_next]
theorem limb_car (f : Nat → Nat) {i n : Nat} (h : i < n) : limb (qs f n) i = (f i + car f i) % B := by
  rw [limb_qs f i n h]
  unfold limb car
  rw [qs_div]
theorem car_le {f : Nat → Nat} {c : Nat} (h : ∀ i, f i ≤ c) : ∀ i, car f i ≤ c
  | 0 => by rw [car_zero]; exact Nat.zero_le _
  | i + 1 => by
    have h1 := car_le h i
    have h2 := h i
    rw [car_succ]
    show (f i + car f i) / 65536 ≤ c
    omega
/-- The last piece takes what is carried. -/
theorem car_top (f : Nat → Nat) (k : Nat) : f k + car f k = qs f (k + 1) / B ^ k := qs_div f k
/-! ### Sums -/
def adF (m n : Nat) : Nat → Nat := fun t => limb m t + limb n t
theorem adF_le (m n i : Nat) : adF m n i ≤ 131070 := by
  have h1 : limb m i < 65536 := limb_lt m i
  have h2 : limb n i < 65536 := limb_lt n i
  unfold adF
  omega
theorem qs_ad {m n k : Nat} (hm : m < B ^ k) (hn : n < B ^ k) : qs (adF m n) k = m + n := by
  unfold adF
  rw [qs_add, qs_limb, qs_limb, Nat.mod_eq_of_lt hm, Nat.mod_eq_of_lt hn]
/-- The pieces at the head of round i. -/
def adP (m n i : Nat) : Nat → Nat := fun t => if t < i then limb (m + n) t else if t = i then limb m i + car (adF m n) i else limb m t
theorem pow19 {m : Nat} (h : m < B ^ 19) : m < B ^ 20 := Nat.lt_of_lt_of_le h (Nat.pow_le_pow_right (by decide) (by decide))
theorem limb_top {m k : Nat} (h : m < B ^ k) : limb m k = 0 := by simp [limb, Nat.div_eq_of_lt h]
theorem adP_end {m n : Nat} (hm : m < B ^ 20) (hn : n < B ^ 19) (h : m + n < B ^ 20) : ∀ t, t < 20 → adP m n 19 t = limb (m + n) t := by
  intro t ht
  unfold adP
  by_cases h1 : t < 19
  · rw [if_pos h1]
  · obtain rfl : t = 19 := by omega
    rw [if_neg h1, if_pos rfl]
    have e : qs (adF m n) 20 = m + n := qs_ad hm (pow19 hn)
    have e2 := limb_car (adF m n) (i := 19) (n := 20) (by omega)
    have e3 := car_top (adF m n) 19
    rw [e] at e2 e3
    have h4 : adF m n 19 = limb m 19 := by simp [adF, limb_top hn]
    have h5 : (m + n) / B ^ 19 < B := Nat.div_lt_of_lt_mul (by rw [← Nat.pow_succ]; exact h)
    rw [e2, e3, Nat.mod_eq_of_lt h5, ← e3, h4]
theorem adP_start (m n : Nat) : adP m n 0 = limb m := by
  funext t
  unfold adP
  by_cases h : t = 0
  · subst h; simp [car_zero]
  · rw [if_neg (by omega), if_neg h]
theorem ad_limb {m n i : Nat} (hi : i < 20) (hm : m < B ^ 20) (hn : n < B ^ 20) : limb (m + n) i = (limb m i + limb n i + car (adF m n) i) % B := by
  have := limb_car (adF m n) hi
  rw [qs_ad hm hn] at this
  exact this
theorem ad_car (m n i : Nat) : car (adF m n) (i + 1) = (limb m i + limb n i + car (adF m n) i) / B := car_succ _ _
/-! ### Differences -/
def bor (m n i : Nat) : Nat := if m % B ^ i < n % B ^ i then 1 else 0
theorem bor_zero (m n : Nat) : bor m n 0 = 0 := by simp [bor, Nat.mod_one]
theorem bor_le (m n i : Nat) : bor m n i ≤ 1 := by unfold bor; split <;> omega
theorem div_sub {m n : Nat} (h : n ≤ m) (i : Nat) : (m - n) / B ^ i = m / B ^ i - n / B ^ i - bor m n i ∧ n / B ^ i + bor m n i ≤ m / B ^ i := by
  have hP := Bpos i
  unfold bor
  generalize B ^ i = P at *
  have hm := Nat.div_add_mod m P
  have hn := Nat.div_add_mod n P
  have hle : n / P ≤ m / P := Nat.div_le_div_right h
  have l1 := Nat.mod_lt m hP
  have l2 := Nat.mod_lt n hP
  rw [Nat.mul_comm] at hm hn
  by_cases hb : m % P < n % P
  · rw [if_pos hb]
    have hlt : n / P < m / P := by
      rcases Nat.lt_or_ge (n / P) (m / P) with h0 | h0
      · exact h0
      · have : n / P = m / P := by omega
        rw [this] at hn
        omega
    refine ⟨?_, by omega⟩
    have e : m - n = (m % P + P - n % P) + (m / P - n / P - 1) * P := by
      have h3 : (m / P - n / P - 1) * P + (n / P * P + P) = m / P * P := by
        have : m / P - n / P - 1 + (n / P + 1) = m / P := by omega
        rw [← this]
        simp only [Nat.add_mul, Nat.one_mul]
        congr 1
        rw [show m / P - n / P - 1 + (n / P + 1) - n / P - 1 = m / P - n / P - 1 by omega]
      omega
    rw [e, Nat.add_mul_div_right _ _ hP, Nat.div_eq_of_lt (by omega), Nat.zero_add]
  · rw [if_neg hb]
    refine ⟨?_, by omega⟩
    have e : m - n = (m % P - n % P) + (m / P - n / P) * P := by
      have h3 : (m / P - n / P) * P + n / P * P = m / P * P := by
        rw [← Nat.add_mul, Nat.sub_add_cancel hle]
      omega
    rw [e, Nat.add_mul_div_right _ _ hP, Nat.div_eq_of_lt (by omega), Nat.zero_add]
    rfl
theorem sub_limb {m n : Nat} (h : n ≤ m) (i : Nat) : limb (m - n) i = (limb m i + 65536 - limb n i - bor m n i) % 65536 := by
  obtain ⟨h1, h2⟩ := div_sub h i
  have h3 := bor_le m n i
  unfold limb
  rw [h1]
  show (m / B ^ i - n / B ^ i - bor m n i) % 65536 = (m / B ^ i % 65536 + 65536 - n / B ^ i % 65536 - bor m n i) % 65536
  omega
theorem bor_succ (m n i : Nat) : bor m n (i + 1) = 1 - (limb m i + 65536 - limb n i - bor m n i) / 65536 := by
  have e1 := mod_step m i
  have e2 := mod_step n i
  have l1 : limb m i < 65536 := limb_lt m i
  have l2 : limb n i < 65536 := limb_lt n i
  have hm := Nat.mod_lt m (Bpos i)
  have hn := Nat.mod_lt n (Bpos i)
  have key : bor m n (i + 1) = if limb m i < limb n i ∨ (limb m i = limb n i ∧ m % B ^ i < n % B ^ i) then 1 else 0 := by
    unfold bor
    rw [e1, e2]
    generalize B ^ i = P at *
    generalize limb m i = a at *
    generalize limb n i = b at *
    rcases Nat.lt_trichotomy a b with h | h | h
    · have : a * P + P ≤ b * P := by
        have := Nat.mul_le_mul_right P h
        rwa [Nat.succ_mul] at this
      rw [if_pos (by omega), if_pos (.inl h)]
    · subst h
      by_cases h0 : m % P < n % P
      · rw [if_pos (by omega), if_pos (.inr ⟨rfl, h0⟩)]
      · rw [if_neg (by omega), if_neg (by omega)]
    · have : b * P + P ≤ a * P := by
        have := Nat.mul_le_mul_right P h
        rwa [Nat.succ_mul] at this
      rw [if_neg (by omega), if_neg (by omega)]
  rw [key]
  unfold bor
  split <;> split <;> omega
def sbP (m n i : Nat) : Nat → Nat := fun t => if t < i then limb (m - n) t else limb m t
/-! ### Products -/
def mulF (m n i : Nat) : Nat → Nat := fun t => limb (m % B ^ i * n) t + (if i ≤ t then limb m i * limb n (t - i) else 0)
theorem mul_le (m n i j : Nat) : limb m i * limb n j ≤ 4294836225 := by
  have h1 : limb m i ≤ 65535 := Nat.le_of_lt_succ (limb_lt m i)
  have h2 : limb n j ≤ 65535 := Nat.le_of_lt_succ (limb_lt n j)
  exact Nat.mul_le_mul h1 h2
theorem mulF_le (m n i t : Nat) : mulF m n i t ≤ 4294901760 := by
  have h1 : limb (m % B ^ i * n) t < 65536 := limb_lt _ t
  have h2 := mul_le m n i (t - i)
  unfold mulF
  split <;> omega
theorem mul_part {m n i : Nat} : m % B ^ i * n ≤ m * n := Nat.mul_le_mul_right _ (Nat.mod_le _ _)
theorem qs_mul {m n i : Nat} (hi : i < 20) (h : m * n < B ^ 19) : qs (mulF m n i) 20 = m % B ^ (i + 1) * n := by
  unfold mulF
  rw [qs_add, qs_limb, Nat.mod_eq_of_lt (pow19 (Nat.lt_of_le_of_lt mul_part h)), qs_shift, mod_step, Nat.add_mul]
  congr 1
  rcases Nat.eq_zero_or_pos (limb m i) with h0 | h0
  · simp [h0]
  · congr 1
    refine Nat.mod_eq_of_lt ?_
    have hm : B ^ i ≤ m := by
      rcases Nat.lt_or_ge m (B ^ i) with h1 | h1
      · rw [limb_top h1] at h0; omega
      · exact h1
    have h2 : B ^ i * n < B ^ i * B ^ (20 - i) := by
      rw [← Nat.pow_add, show i + (20 - i) = 20 by omega]
      exact Nat.lt_of_le_of_lt (Nat.mul_le_mul_right n hm) (pow19 h)
    exact Nat.lt_of_mul_lt_mul_left h2
/-- The pieces in the midst of a row of products. -/
def mulJ (m n i j : Nat) : Nat → Nat := fun t => limb (m % B ^ i * n) t + (if i ≤ t ∧ t < i + j then limb m i * limb n (t - i) else 0)
theorem mulJ_start (m n i : Nat) : mulJ m n i 0 = limb (m % B ^ i * n) := by
  funext t
  unfold mulJ
  rw [if_neg (by omega), Nat.add_zero]
theorem mulJ_end (m n i : Nat) : ∀ t, t < 20 → mulJ m n i (20 - i) t = mulF m n i t := by
  intro t ht
  unfold mulJ mulF
  by_cases h : i ≤ t
  · rw [if_pos ⟨h, by omega⟩, if_pos h]
  · rw [if_neg (fun hh => h hh.1), if_neg h]
/-- The pieces at the head of a round of carries. -/
def crP (f : Nat → Nat) (k : Nat) : Nat → Nat := fun t => if t < k then limb (qs f 20) t else if t = k then f k + car f k else f t
theorem crP_start (f : Nat → Nat) : crP f 0 = f := by
  funext t
  unfold crP
  by_cases h : t = 0
  · subst h; simp [car_zero]
  · rw [if_neg (by omega), if_neg h]
theorem crP_end {f : Nat → Nat} (h : qs f 20 < B ^ 19) : ∀ t, t < 20 → crP f 19 t = limb (qs f 20) t := by
  intro t ht
  unfold crP
  by_cases h1 : t < 19
  · rw [if_pos h1]
  · obtain rfl : t = 19 := by omega
    rw [if_neg h1, if_pos rfl, car_top, Nat.div_eq_of_lt h, limb_top h]
/-! ### Which is the greater -/
theorem eq_of_limbs {m n : Nat} (hm : m < B ^ 20) (hn : n < B ^ 20) (h : ∀ i, i < 20 → limb m i = limb n i) : m = n := limbs_inj hm hn h
theorem limb_beyond {m k i : Nat} (h : m < B ^ k) (hi : k ≤ i) : limb m i = 0 := limb_top (Nat.lt_of_lt_of_le h (Nat.pow_le_pow_right (by decide) hi))
theorem lt_limbs {m n k : Nat} (hm : m < B ^ 20) (hn : n < B ^ 20) (h : ∀ i, k < i → i < 20 → limb m i = limb n i) (hk : limb m k < limb n k) : m < n :=
  lt_of_limb (K := 20) (fun i hi => by
    by_cases h0 : i < 20
    · exact h i hi h0
    · rw [limb_beyond hm (by omega), limb_beyond hn (by omega)]) hm hn hk
/-- The first piece, from the top, at which two numbers part. -/
theorem parts {m n : Nat} (hm : m < B ^ 20) (hn : n < B ^ 20) : m = n ∨ ∃ k, k < 20 ∧ (∀ i, k < i → i < 20 → limb m i = limb n i) ∧ limb m k ≠ limb n k := by
  have key : ∀ j, j ≤ 20 → (∀ i, 20 - j ≤ i → i < 20 → limb m i = limb n i) ∨ ∃ k, k < 20 ∧ (∀ i, k < i → i < 20 → limb m i = limb n i) ∧ limb m k ≠ limb n k := by
    intro j
    induction j with
    | zero => intro _; exact .inl fun i h1 h2 => by omega
    | succ j ih =>
      intro hj
      rcases ih (by omega) with h | h
      · by_cases he : limb m (20 - (j + 1)) = limb n (20 - (j + 1))
        · refine .inl fun i h1 h2 => ?_
          by_cases hi : i = 20 - (j + 1)
          · rw [hi]; exact he
          · exact h i (by omega) h2
        · exact .inr ⟨20 - (j + 1), by omega, fun i h1 h2 => h i (by omega) h2, he⟩
      · exact .inr h
  rcases key 20 (Nat.le_refl _) with h | h
  · exact .inl (eq_of_limbs hm hn fun i hi => h i (by omega) hi)
  · exact .inr h
/-- The first piece that is none. -/
theorem first_limb {m : Nat} (hm : m < B ^ 20) (h0 : 0 < m) : ∃ k, k < 20 ∧ (∀ i, i < k → limb m i = 0) ∧ 0 < limb m k := by
  have key : ∀ j, j ≤ 20 → (∀ i, i < j → limb m i = 0) ∨ ∃ k, k < 20 ∧ (∀ i, i < k → limb m i = 0) ∧ 0 < limb m k := by
    intro j
    induction j with
    | zero => intro _; exact .inl fun i h => by omega
    | succ j ih =>
      intro hj
      rcases ih (by omega) with h | h
      · rcases Nat.eq_zero_or_pos (limb m j) with he | he
        · refine .inl fun i hi => ?_
          by_cases hij : i = j
          · rw [hij]; exact he
          · exact h i (by omega)
        · exact .inr ⟨j, by omega, h, he⟩
      · exact .inr h
  rcases key 20 (Nat.le_refl _) with h | h
  · have := eq_of_limbs hm (n := 0) (Bpos 20) (fun i hi => by rw [h i hi, limb_zero])
    omega
  · exact h
end Go.Proofs.YtmnoegfehgoalaaGreatDoor.num
namespace Go.Proofs.YtmnoegfehgoalaaGreatDoor.num
/-! ### One round of a sum, store by store -/
def ad1 (m n i : Nat) : Nat → Nat := fun t => if t = i then limb m i + limb n i + car (adF m n) i else adP m n i t
def ad2 (m n i : Nat) : Nat → Nat := fun t => if t = i + 1 then limb m (i + 1) + car (adF m n) (i + 1) else ad1 m n i t
def limN (f : Nat → Nat) : Nat → Int := fun t => ((f t : Nat) : Int)
theorem limN_if {f g : Nat → Nat} {i v : Nat} (h : ∀ s, s < 20 → g s = if s = i then v else f s) : ∀ s, s < 20 → limN g s = if s = i then ((v : Nat) : Int) else limN f s := fun s hs => by
  unfold limN
  rw [h s hs]
  split <;> rfl
theorem ad1_is (m n i : Nat) : ∀ s, s < 20 → limN (ad1 m n i) s = if s = i then ((limb m i + limb n i + car (adF m n) i : Nat) : Int) else limN (adP m n i) s := limN_if fun _ _ => rfl
theorem ad2_is (m n i : Nat) : ∀ s, s < 20 → limN (ad2 m n i) s = if s = i + 1 then ((limb m (i + 1) + car (adF m n) (i + 1) : Nat) : Int) else limN (ad1 m n i) s := limN_if fun _ _ => rfl
theorem ad3_is (m n i : Nat) : ∀ s, s < 20 → limN (adP m n (i + 1)) s = if s = i then ((limb (m + n) i : Nat) : Int) else limN (ad2 m n i) s := limN_if fun s _ => by
  unfold ad2 ad1 adP
  by_cases h1 : s = i
  · subst h1; rw [if_pos (by omega), if_pos rfl]
  · rw [if_neg h1]
    by_cases h2 : s < i
    · rw [if_pos (by omega), if_neg (by omega), if_neg h1, if_pos h2]
    · rw [if_neg (by omega)]
      by_cases h3 : s = i + 1
      · subst h3; rw [if_pos rfl, if_pos rfl]
      · rw [if_neg h3, if_neg h3, if_neg h1, if_neg h2, if_neg h1]
theorem adP_at (m n i : Nat) : limN (adP m n i) i = ((limb m i + car (adF m n) i : Nat) : Int) := by simp [limN, adP]
theorem ad1_at (m n i : Nat) : limN (ad1 m n i) i = ((limb m i + limb n i + car (adF m n) i : Nat) : Int) := by simp [limN, ad1]
theorem ad1_nx (m n i : Nat) : limN (ad1 m n i) (i + 1) = ((limb m (i + 1) : Nat) : Int) := by
  have : ¬ i + 1 < i := by omega
  simp [limN, ad1, adP, this]
theorem ad2_at (m n i : Nat) : limN (ad2 m n i) i = ((limb m i + limb n i + car (adF m n) i : Nat) : Int) := by simp [limN, ad2, ad1]
theorem ad_b1 (m n i : Nat) : limb m i + limb n i + car (adF m n) i < 18446744073709551616 := by
  have h1 : limb m i < 65536 := limb_lt m i
  have h2 : limb n i < 65536 := limb_lt n i
  have h3 := car_le (adF_le m n) i
  omega
theorem ad_b2 (m n i : Nat) : limb m (i + 1) + car (adF m n) (i + 1) < 18446744073709551616 := by
  have h1 : limb m (i + 1) < 65536 := limb_lt m (i + 1)
  have h3 := car_le (adF_le m n) (i + 1)
  omega
theorem td_cast (a : Nat) (h : a < 18446744073709551616) : Value.int .u64 (IntKind.wrap .u64 (Int.tdiv (a : Int) 65536)) = .int .u64 ((a / 65536 : Nat) : Int) := by
  rw [Int.tdiv_eq_ediv_of_nonneg (by omega)]
  simp only [IntKind.wrap, IntKind.bits, IntKind.signed]
  congr 1
  simp
  omega
theorem tm_cast (a : Nat) : Value.int .u64 (Int.tmod (a : Int) 65536) = .int .u64 ((a % 65536 : Nat) : Int) := by
  rw [Int.tmod_eq_emod_of_nonneg (by omega)]; rfl
theorem ad_q (m n i : Nat) : Value.int .u64 (IntKind.wrap .u64 (Int.tdiv ((limb m i + limb n i + car (adF m n) i : Nat) : Int) 65536)) = .int .u64 ((car (adF m n) (i + 1) : Nat) : Int) := by
  rw [td_cast _ (ad_b1 m n i), ad_car]
theorem ad_r {m n i : Nat} (hm : m < B ^ 20) (hn : n < B ^ 20) (hi : i < 20) : Value.int .u64 (Int.tmod ((limb m i + limb n i + car (adF m n) i : Nat) : Int) 65536) = .int .u64 ((limb (m + n) i : Nat) : Int) := by
  rw [tm_cast, ad_limb hi hm hn]
end Go.Proofs.YtmnoegfehgoalaaGreatDoor.num
namespace Go.Proofs.YtmnoegfehgoalaaGreatDoor.num
/-! ### One round of a difference -/
def sbx (m n i : Nat) : Nat := limb m i + 65536 - limb n i - bor m n i
theorem sbP_start (m n : Nat) : sbP m n 0 = limb m := by
  funext t
  unfold sbP
  rw [if_neg (by omega)]
theorem sbP_end (m n : Nat) : ∀ t, t < 20 → sbP m n 20 t = limb (m - n) t := fun t ht => by unfold sbP; rw [if_pos ht]
theorem sb_at (m n i : Nat) : limN (sbP m n i) i = ((limb m i : Nat) : Int) := by simp [limN, sbP]
theorem sb_is (m n i : Nat) : ∀ s, s < 20 → limN (sbP m n (i + 1)) s = if s = i then ((limb (m - n) i : Nat) : Int) else limN (sbP m n i) s := limN_if fun s _ => by
  unfold sbP
  by_cases h1 : s = i
  · subst h1; rw [if_pos (by omega), if_pos rfl]
  · rw [if_neg h1]
    by_cases h2 : s < i
    · rw [if_pos (by omega), if_pos h2]
    · rw [if_neg (by omega), if_neg h2]
theorem sbx_lt (m n i : Nat) : sbx m n i < 131072 := by
  have h1 : limb m i < 65536 := limb_lt m i
  unfold sbx
  omega
/-! ### One round of a row of products, and of carries -/
theorem mj_at (m n i j : Nat) : limN (mulJ m n i j) (i + j) = ((limb (m % B ^ i * n) (i + j) : Nat) : Int) := by simp [limN, mulJ]
theorem mj_is (m n i j : Nat) : ∀ s, s < 20 → limN (mulJ m n i (j + 1)) s = if s = i + j then ((limb (m % B ^ i * n) (i + j) + limb m i * limb n j : Nat) : Int) else limN (mulJ m n i j) s := limN_if fun s _ => by
  unfold mulJ
  by_cases h1 : s = i + j
  · subst h1
    rw [if_pos (by omega), if_pos rfl, show i + j - i = j by omega]
  · rw [if_neg h1]
    by_cases h2 : i ≤ s ∧ s < i + j
    · rw [if_pos (by omega), if_pos h2]
    · rw [if_neg (by omega), if_neg h2]
theorem mj_b (m n i j t : Nat) : limb (m % B ^ i * n) t + limb m i * limb n j < 18446744073709551616 := by
  have h1 : limb (m % B ^ i * n) t < 65536 := limb_lt _ t
  have h2 := mul_le m n i j
  omega
def cr1 (f : Nat → Nat) (k : Nat) : Nat → Nat := fun t => if t = k + 1 then f (k + 1) + car f (k + 1) else crP f k t
theorem cr_at (f : Nat → Nat) (k : Nat) : limN (crP f k) k = ((f k + car f k : Nat) : Int) := by simp [limN, crP]
theorem cr_nx (f : Nat → Nat) (k : Nat) : limN (crP f k) (k + 1) = ((f (k + 1) : Nat) : Int) := by
  have : ¬ k + 1 < k := by omega
  simp [limN, crP, this]
theorem cr1_at (f : Nat → Nat) (k : Nat) : limN (cr1 f k) k = ((f k + car f k : Nat) : Int) := by simp [limN, cr1, crP]
theorem cr1_is (f : Nat → Nat) (k : Nat) : ∀ s, s < 20 → limN (cr1 f k) s = if s = k + 1 then ((f (k + 1) + car f (k + 1) : Nat) : Int) else limN (crP f k) s := limN_if fun _ _ => rfl
theorem cr2_is (f : Nat → Nat) (k : Nat) : ∀ s, s < 20 → limN (crP f (k + 1)) s = if s = k then ((limb (qs f 20) k : Nat) : Int) else limN (cr1 f k) s := limN_if fun s _ => by
  unfold cr1 crP
  by_cases h1 : s = k
  · subst h1; rw [if_pos (by omega), if_pos rfl]
  · rw [if_neg h1]
    by_cases h2 : s < k
    · rw [if_pos (by omega), if_neg (by omega), if_pos h2]
    · rw [if_neg (by omega)]
      by_cases h3 : s = k + 1
      · subst h3; rw [if_pos rfl, if_pos rfl]
      · rw [if_neg h3, if_neg h3, if_neg h2, if_neg h1]
theorem cr_b {f : Nat → Nat} (h : ∀ i, f i ≤ 4294901760) (k : Nat) : f k + car f k < 18446744073709551616 := by
  have h1 := h k
  have h2 := car_le h k
  omega
end Go.Proofs.YtmnoegfehgoalaaGreatDoor.num
namespace Go.Proofs.YtmnoegfehgoalaaGreatDoor.num
open Go.Dg (junk St Ex Ev Hint evCall evCallS evCode evCodeK innerKp evCodeS evLoop cleanSt ue bodied noOver sbOf headOf tailOf bodyOf rAssign rBody lBody Flats flatOver Heap AObj SCall Law ofLaw Fix)
set_option linter.unusedVariables false
set_option linter.unusedSimpArgs false
/-- A number's cells: its sign, its pieces. -/
def kpN (b : Bool) (f : Nat → Int) : List Value := .bool b :: (List.range 20).map fun t => Value.int .u64 (f t)
noncomputable def sbs : List Nat := ((Tryz.prog.funcs.toList.map sbOf).set 54 6).set 103 6
theorem mixed : Tryz.prog.follows .mixedOrders = true := by kernel_rfl
theorem kpN_len (b : Bool) (f : Nat → Int) : (kpN b f).length = 21 := rfl
theorem kpN_get (b : Bool) (f : Nat → Int) {t o : Nat} (h : t < 20) (ho : o = t + 1) : (kpN b f)[o]? = some (.int .u64 (f t)) := by
  subst ho
  simp [kpN, h]
theorem kpN_getv {b : Bool} {f : Nat → Int} {t o : Nat} {v : Int} (h : t < 20) (ho : o = t + 1) (hv : f t = v) : (kpN b f)[o]? = some (.int .u64 v) := by rw [kpN_get b f h ho, hv]
theorem kpN_congr {b : Bool} {f g : Nat → Int} (h : ∀ t, t < 20 → f t = g t) : kpN b f = kpN b g := by
  unfold kpN
  congr 1
  exact List.map_congr_left fun t ht => by rw [h t (List.mem_range.1 ht)]
theorem kpN_flat (b : Bool) (f : Nat → Int) : Dg.flatL (kpN b f) = true := Dg.flatL_all fun v hv => by
  rcases List.mem_cons.1 hv with rfl | hv
  · rfl
  · obtain ⟨t, _, rfl⟩ := List.mem_map.1 hv; rfl
theorem kpN_splice {b : Bool} {f g : Nat → Int} {t : Nat} {v : Int} (ht : t < 20) (h : ∀ s, s < 20 → g s = if s = t then v else f s) : Dg.splice (kpN b f) (t + 1) [.int .u64 v] = kpN b g := by
  apply List.ext_getElem?
  intro i
  have hl : (kpN b f).length = 21 := rfl
  have e : Dg.splice (kpN b f) (t + 1) [.int .u64 v] = (kpN b f).set (t + 1) (.int .u64 v) := by
    unfold Dg.splice
    rw [List.set_eq_take_append_cons_drop, if_pos (by rw [hl]; omega)]
    rfl
  rw [e, List.getElem?_set]
  cases i with
  | zero => simp [kpN]
  | succ i =>
    by_cases hi : i < 20
    · rw [kpN_get b g hi rfl, h i hi]
      by_cases hit : t = i
      · subst hit; simp [hl, ht]
      · rw [if_neg (by omega), kpN_get b f hi rfl, if_neg (by omega)]
    · rw [if_neg (by omega), List.getElem?_eq_none (by rw [hl]; omega), List.getElem?_eq_none (by rw [show (kpN b g).length = 21 from rfl]; omega)]
/-- A number's object. -/
def oN (b : Bool) (f : Nat → Int) : AObj := .cells (kpN b f) 122 4 1
abbrev nv (b : Bool) (f : Nat → Int) : Value := .agg ⟨kpN b f⟩
/-- The pieces of a number. -/
def lim (m : Nat) : Nat → Int := fun t => ((limb m t : Nat) : Int)
abbrev num (b : Bool) (m : Nat) : Value := nv b (lim m)
theorem lim_b (m t : Nat) : 0 ≤ lim m t ∧ lim m t < 65536 := by
  have : limb m t < 65536 := limb_lt m t
  unfold lim
  omega
theorem wrN {H : Heap} {k off t : Nat} {b : Bool} {f g : Nat → Int} {v : Int} (hk : H.get k = oN b f) (ht : t < 20) (ho : off = t + 1) (h : ∀ s, s < 20 → g s = if s = t then v else f s) : H.write k off [.int .u64 v] = some (H.set k (oN b g)) := by
  subst ho
  unfold Dg.Heap.write
  rw [hk]
  simp only [oN]
  have e1 : Dg.keepMd 4 (false || Dg.flatL [Value.int .u64 v]) = 4 := by simp [Dg.keepMd, Dg.flatL, Dg.flat]
  rw [if_pos (by simp [kpN_len, Value.oneCell']; omega), e1, kpN_splice ht h]
theorem tm_nat (a : Nat) : Value.int .u64 (Int.tmod (a : Int) 65536) = .int .u64 ((a % 65536 : Nat) : Int) := by
  rw [Int.tmod_eq_emod_of_nonneg (by omega)]; rfl
theorem td_nat (a : Nat) (h : a < 18446744073709551616) : Value.int .u64 (IntKind.wrap .u64 (Int.tdiv (a : Int) 65536)) = .int .u64 ((a / 65536 : Nat) : Int) := by
  rw [Int.tdiv_eq_ediv_of_nonneg (by omega), Dg.w_u64]
  congr 1
  omega
theorem tm_limb (m r : Nat) : Value.int .u64 (Int.tmod ((m / B ^ r : Nat) : Int) 65536) = .int .u64 ((limb m r : Nat) : Int) := tm_nat _
theorem td_lit {m d e : Nat} (h : m < 18446744073709551616) (he : d * 65536 = e) : Value.int .u64 (IntKind.wrap .u64 (Int.tdiv ((m / d : Nat) : Int) 65536)) = .int .u64 ((m / e : Nat) : Int) := by
  rw [td_nat _ (Nat.lt_of_le_of_lt (Nat.div_le_self _ _) h), Nat.div_div_eq_div_mul, he]
theorem tm_lit {m d r : Nat} (h : B ^ r = d) : Value.int .u64 (Int.tmod ((m / d : Nat) : Int) 65536) = .int .u64 ((limb m r : Nat) : Int) := by
  subst h; exact tm_limb m r
theorem u64_cast {x : Int} {m : Nat} (h : x % 18446744073709551616 = (m : Int)) : Value.int .u64 (IntKind.wrap .u64 x) = .int .u64 ((m / B ^ 0 : Nat) : Int) := by rw [Dg.w_u64, h]; simp
theorem limb_out {m t : Nat} (h : m < B ^ t) : limb m t = 0 := by simp [limb, Nat.div_eq_of_lt h]
theorem num_small {b : Bool} {m : Nat} (h : m < 18446744073709551616) : num b m = .agg #[.bool b, .int .u64 ((limb m 0 : Nat) : Int), .int .u64 ((limb m 1 : Nat) : Int), .int .u64 ((limb m 2 : Nat) : Int), .int .u64 ((limb m 3 : Nat) : Int), .int .u64 0, .int .u64 0, .int .u64 0, .int .u64 0, .int .u64 0, .int .u64 0, .int .u64 0, .int .u64 0, .int .u64 0, .int .u64 0, .int .u64 0, .int .u64 0, .int .u64 0, .int .u64 0, .int .u64 0, .int .u64 0] := by
  have e : ∀ t, 4 ≤ t → limb m t = 0 := fun t ht => limb_out (Nat.lt_of_lt_of_le h (by
    have := Nat.pow_le_pow_right (n := B) (by decide) ht
    exact this))
  have : kpN b (lim m) = kpN b fun t => if t < 4 then lim m t else 0 := kpN_congr fun t ht => by
    by_cases h4 : t < 4
    · simp [h4]
    · simp [h4, lim, e t (by omega)]
  show Value.agg ⟨kpN b (lim m)⟩ = _
  rw [this]
  rfl
def js (n : Nat) : List Value := List.replicate n junk
--< of_pos0
theorem of_pos0 (m : Nat) (hm : m < 9223372036854775808) :
    evCall Tryz.prog 0 (bodied Tryz.prog) noOver sbs 1000 20 55 [Value.int IntKind.i64 (↑m : Int)] { n := 0, objs := [] } = some (Value.agg #[Value.bool false, Value.int IntKind.u64 (↑(limb m 0) : Int), Value.int IntKind.u64 (↑(limb m 1) : Int), Value.int IntKind.u64 (↑(limb m 2) : Int), Value.int IntKind.u64 (↑(limb m 3) : Int), Value.int IntKind.u64 0, Value.int IntKind.u64 0, Value.int IntKind.u64 0, Value.int IntKind.u64 0, Value.int IntKind.u64 0, Value.int IntKind.u64 0, Value.int IntKind.u64 0, Value.int IntKind.u64 0, Value.int IntKind.u64 0, Value.int IntKind.u64 0, Value.int IntKind.u64 0, Value.int IntKind.u64 0, Value.int IntKind.u64 0, Value.int IntKind.u64 0, Value.int IntKind.u64 0, Value.int IntKind.u64 0], { n := 0, objs := [] }, []) :=
  Dg.evCall_hint (hs' := []) (hs := [Hint.val 55 7 (Value.bool false),
    Hint.val 55 10 (Value.int IntKind.u64 (↑(m / B ^ 0) : Int)),
    Hint.val 55 12 (Value.bool false),
    Hint.soft 55 21 (Value.int IntKind.u64 (↑(limb m 0) : Int)),
    Hint.soft 55 25 (Value.int IntKind.u64 (↑(m / B ^ 1) : Int)),
    Hint.soft 55 21 (Value.int IntKind.u64 (↑(limb m 1) : Int)),
    Hint.soft 55 25 (Value.int IntKind.u64 (↑(m / B ^ 2) : Int)),
    Hint.soft 55 21 (Value.int IntKind.u64 (↑(limb m 2) : Int)),
    Hint.soft 55 25 (Value.int IntKind.u64 (↑(m / B ^ 3) : Int)),
    Hint.soft 55 21 (Value.int IntKind.u64 (↑(limb m 3) : Int)),
    Hint.soft 55 25 (Value.int IntKind.u64 (↑(m / B ^ 4) : Int))])
    [Value.bool false = Value.bool false,
    Value.int IntKind.u64 (IntKind.wrap IntKind.u64 (↑m : Int)) = Value.int IntKind.u64 (↑(m / B ^ (0 : Nat)) : Int),
    Value.bool false = Value.bool false,
    (65536 : Int) ≠ (0 : Int),
    Value.int IntKind.u64 (Int.tmod (↑(m / (1 : Nat)) : Int) (65536 : Int)) = Value.int IntKind.u64 (↑(limb m (0 : Nat)) : Int),
    (65536 : Int) ≠ (0 : Int),
    Value.int IntKind.u64 (IntKind.wrap IntKind.u64 (Int.tdiv (↑(m / (1 : Nat)) : Int) (65536 : Int))) = Value.int IntKind.u64 (↑(m / (65536 : Nat)) : Int),
    (65536 : Int) ≠ (0 : Int),
    Value.int IntKind.u64 (Int.tmod (↑(m / (65536 : Nat)) : Int) (65536 : Int)) = Value.int IntKind.u64 (↑(limb m (1 : Nat)) : Int),
    (65536 : Int) ≠ (0 : Int),
    Value.int IntKind.u64 (IntKind.wrap IntKind.u64 (Int.tdiv (↑(m / (65536 : Nat)) : Int) (65536 : Int))) = Value.int IntKind.u64 (↑(m / (4294967296 : Nat)) : Int),
    (65536 : Int) ≠ (0 : Int),
    Value.int IntKind.u64 (Int.tmod (↑(m / (4294967296 : Nat)) : Int) (65536 : Int)) = Value.int IntKind.u64 (↑(limb m (2 : Nat)) : Int),
    (65536 : Int) ≠ (0 : Int),
    Value.int IntKind.u64 (IntKind.wrap IntKind.u64 (Int.tdiv (↑(m / (4294967296 : Nat)) : Int) (65536 : Int))) = Value.int IntKind.u64 (↑(m / (281474976710656 : Nat)) : Int),
    (65536 : Int) ≠ (0 : Int),
    Value.int IntKind.u64 (Int.tmod (↑(m / (281474976710656 : Nat)) : Int) (65536 : Int)) = Value.int IntKind.u64 (↑(limb m (3 : Nat)) : Int),
    (65536 : Int) ≠ (0 : Int),
    Value.int IntKind.u64 (IntKind.wrap IntKind.u64 (Int.tdiv (↑(m / (281474976710656 : Nat)) : Int) (65536 : Int))) = Value.int IntKind.u64 (↑(m / (18446744073709551616 : Nat)) : Int)] (by kernel_rfl)
    ⟨rfl, u64_cast (by omega), rfl, by omega, tm_lit rfl, by omega, td_lit (by omega) rfl, by omega, tm_lit rfl, by omega, td_lit (by omega) rfl, by omega, tm_lit rfl, by omega, td_lit (by omega) rfl, by omega, tm_lit rfl, by omega, td_lit (by omega) rfl, trivial⟩
--> of_pos0
--< of_neg0
theorem of_neg0 (m : Nat) (h0 : 0 < m) (hm : m ≤ 9223372036854775808) :
    evCall Tryz.prog 0 (bodied Tryz.prog) noOver sbs 1000 20 55 [Value.int IntKind.i64 (-(↑m : Int))] { n := 0, objs := [] } = some (Value.agg #[Value.bool true, Value.int IntKind.u64 (↑(limb m 0) : Int), Value.int IntKind.u64 (↑(limb m 1) : Int), Value.int IntKind.u64 (↑(limb m 2) : Int), Value.int IntKind.u64 (↑(limb m 3) : Int), Value.int IntKind.u64 0, Value.int IntKind.u64 0, Value.int IntKind.u64 0, Value.int IntKind.u64 0, Value.int IntKind.u64 0, Value.int IntKind.u64 0, Value.int IntKind.u64 0, Value.int IntKind.u64 0, Value.int IntKind.u64 0, Value.int IntKind.u64 0, Value.int IntKind.u64 0, Value.int IntKind.u64 0, Value.int IntKind.u64 0, Value.int IntKind.u64 0, Value.int IntKind.u64 0, Value.int IntKind.u64 0], { n := 0, objs := [] }, []) :=
  Dg.evCall_hint (hs' := []) (hs := [Hint.val 55 7 (Value.bool true),
    Hint.val 55 10 (Value.int IntKind.u64 (18446744073709551616 - (↑m : Int))),
    Hint.val 55 12 (Value.bool true),
    Hint.val 55 14 (Value.int IntKind.u64 (↑(m / B ^ 0) : Int)),
    Hint.soft 55 21 (Value.int IntKind.u64 (↑(limb m 0) : Int)),
    Hint.soft 55 25 (Value.int IntKind.u64 (↑(m / B ^ 1) : Int)),
    Hint.soft 55 21 (Value.int IntKind.u64 (↑(limb m 1) : Int)),
    Hint.soft 55 25 (Value.int IntKind.u64 (↑(m / B ^ 2) : Int)),
    Hint.soft 55 21 (Value.int IntKind.u64 (↑(limb m 2) : Int)),
    Hint.soft 55 25 (Value.int IntKind.u64 (↑(m / B ^ 3) : Int)),
    Hint.soft 55 21 (Value.int IntKind.u64 (↑(limb m 3) : Int)),
    Hint.soft 55 25 (Value.int IntKind.u64 (↑(m / B ^ 4) : Int))])
    [Value.bool (decide (-(↑m : Int) < (0 : Int))) = Value.bool true,
    Value.int IntKind.u64 (IntKind.wrap IntKind.u64 (-(↑m : Int))) = Value.int IntKind.u64 ((18446744073709551616 : Int) - (↑m : Int)),
    Value.bool (decide (-(↑m : Int) < (0 : Int))) = Value.bool true,
    Value.int IntKind.u64 (IntKind.wrap IntKind.u64 ((0 : Int) - ((18446744073709551616 : Int) - (↑m : Int)))) = Value.int IntKind.u64 (↑(m / B ^ (0 : Nat)) : Int),
    (65536 : Int) ≠ (0 : Int),
    Value.int IntKind.u64 (Int.tmod (↑(m / (1 : Nat)) : Int) (65536 : Int)) = Value.int IntKind.u64 (↑(limb m (0 : Nat)) : Int),
    (65536 : Int) ≠ (0 : Int),
    Value.int IntKind.u64 (IntKind.wrap IntKind.u64 (Int.tdiv (↑(m / (1 : Nat)) : Int) (65536 : Int))) = Value.int IntKind.u64 (↑(m / (65536 : Nat)) : Int),
    (65536 : Int) ≠ (0 : Int),
    Value.int IntKind.u64 (Int.tmod (↑(m / (65536 : Nat)) : Int) (65536 : Int)) = Value.int IntKind.u64 (↑(limb m (1 : Nat)) : Int),
    (65536 : Int) ≠ (0 : Int),
    Value.int IntKind.u64 (IntKind.wrap IntKind.u64 (Int.tdiv (↑(m / (65536 : Nat)) : Int) (65536 : Int))) = Value.int IntKind.u64 (↑(m / (4294967296 : Nat)) : Int),
    (65536 : Int) ≠ (0 : Int),
    Value.int IntKind.u64 (Int.tmod (↑(m / (4294967296 : Nat)) : Int) (65536 : Int)) = Value.int IntKind.u64 (↑(limb m (2 : Nat)) : Int),
    (65536 : Int) ≠ (0 : Int),
    Value.int IntKind.u64 (IntKind.wrap IntKind.u64 (Int.tdiv (↑(m / (4294967296 : Nat)) : Int) (65536 : Int))) = Value.int IntKind.u64 (↑(m / (281474976710656 : Nat)) : Int),
    (65536 : Int) ≠ (0 : Int),
    Value.int IntKind.u64 (Int.tmod (↑(m / (281474976710656 : Nat)) : Int) (65536 : Int)) = Value.int IntKind.u64 (↑(limb m (3 : Nat)) : Int),
    (65536 : Int) ≠ (0 : Int),
    Value.int IntKind.u64 (IntKind.wrap IntKind.u64 (Int.tdiv (↑(m / (281474976710656 : Nat)) : Int) (65536 : Int))) = Value.int IntKind.u64 (↑(m / (18446744073709551616 : Nat)) : Int)] (by kernel_rfl)
    ⟨Dg.vtrue (by omega), (by rw [Dg.w_u64]; congr 1; omega), Dg.vtrue (by omega), u64_cast (by omega), by omega, tm_lit rfl, by omega, td_lit (by omega) rfl, by omega, tm_lit rfl, by omega, td_lit (by omega) rfl, by omega, tm_lit rfl, by omega, td_lit (by omega) rfl, by omega, tm_lit rfl, by omega, td_lit (by omega) rfl, trivial⟩
--> of_neg0
--< n64_0
theorem n64_0 (m : Nat) (hm : m < 18446744073709551616) :
    evCall Tryz.prog 0 (bodied Tryz.prog) noOver sbs 1000 20 104 [Value.int IntKind.u64 (↑(m / B ^ 0) : Int)] { n := 0, objs := [] } = some (Value.agg #[Value.bool false, Value.int IntKind.u64 (↑(limb m 0) : Int), Value.int IntKind.u64 (↑(limb m 1) : Int), Value.int IntKind.u64 (↑(limb m 2) : Int), Value.int IntKind.u64 (↑(limb m 3) : Int), Value.int IntKind.u64 0, Value.int IntKind.u64 0, Value.int IntKind.u64 0, Value.int IntKind.u64 0, Value.int IntKind.u64 0, Value.int IntKind.u64 0, Value.int IntKind.u64 0, Value.int IntKind.u64 0, Value.int IntKind.u64 0, Value.int IntKind.u64 0, Value.int IntKind.u64 0, Value.int IntKind.u64 0, Value.int IntKind.u64 0, Value.int IntKind.u64 0, Value.int IntKind.u64 0, Value.int IntKind.u64 0], { n := 0, objs := [] }, []) :=
  Dg.evCall_hint (hs' := []) (hs := [Hint.soft 104 12 (Value.int IntKind.u64 (↑(limb m 0) : Int)),
    Hint.soft 104 16 (Value.int IntKind.u64 (↑(m / B ^ 1) : Int)),
    Hint.soft 104 12 (Value.int IntKind.u64 (↑(limb m 1) : Int)),
    Hint.soft 104 16 (Value.int IntKind.u64 (↑(m / B ^ 2) : Int)),
    Hint.soft 104 12 (Value.int IntKind.u64 (↑(limb m 2) : Int)),
    Hint.soft 104 16 (Value.int IntKind.u64 (↑(m / B ^ 3) : Int)),
    Hint.soft 104 12 (Value.int IntKind.u64 (↑(limb m 3) : Int)),
    Hint.soft 104 16 (Value.int IntKind.u64 (↑(m / B ^ 4) : Int))])
    [(65536 : Int) ≠ (0 : Int),
    Value.int IntKind.u64 (Int.tmod (↑(m / (1 : Nat)) : Int) (65536 : Int)) = Value.int IntKind.u64 (↑(limb m (0 : Nat)) : Int),
    (65536 : Int) ≠ (0 : Int),
    Value.int IntKind.u64 (IntKind.wrap IntKind.u64 (Int.tdiv (↑(m / (1 : Nat)) : Int) (65536 : Int))) = Value.int IntKind.u64 (↑(m / (65536 : Nat)) : Int),
    (65536 : Int) ≠ (0 : Int),
    Value.int IntKind.u64 (Int.tmod (↑(m / (65536 : Nat)) : Int) (65536 : Int)) = Value.int IntKind.u64 (↑(limb m (1 : Nat)) : Int),
    (65536 : Int) ≠ (0 : Int),
    Value.int IntKind.u64 (IntKind.wrap IntKind.u64 (Int.tdiv (↑(m / (65536 : Nat)) : Int) (65536 : Int))) = Value.int IntKind.u64 (↑(m / (4294967296 : Nat)) : Int),
    (65536 : Int) ≠ (0 : Int),
    Value.int IntKind.u64 (Int.tmod (↑(m / (4294967296 : Nat)) : Int) (65536 : Int)) = Value.int IntKind.u64 (↑(limb m (2 : Nat)) : Int),
    (65536 : Int) ≠ (0 : Int),
    Value.int IntKind.u64 (IntKind.wrap IntKind.u64 (Int.tdiv (↑(m / (4294967296 : Nat)) : Int) (65536 : Int))) = Value.int IntKind.u64 (↑(m / (281474976710656 : Nat)) : Int),
    (65536 : Int) ≠ (0 : Int),
    Value.int IntKind.u64 (Int.tmod (↑(m / (281474976710656 : Nat)) : Int) (65536 : Int)) = Value.int IntKind.u64 (↑(limb m (3 : Nat)) : Int),
    (65536 : Int) ≠ (0 : Int),
    Value.int IntKind.u64 (IntKind.wrap IntKind.u64 (Int.tdiv (↑(m / (281474976710656 : Nat)) : Int) (65536 : Int))) = Value.int IntKind.u64 (↑(m / (18446744073709551616 : Nat)) : Int)] (by kernel_rfl)
    ⟨by omega, tm_lit rfl, by omega, td_lit (by omega) rfl, by omega, tm_lit rfl, by omega, td_lit (by omega) rfl, by omega, tm_lit rfl, by omega, td_lit (by omega) rfl, by omega, tm_lit rfl, by omega, td_lit (by omega) rfl, trivial⟩
--> n64_0
noncomputable def lZ : Code := lBody ((Tryz.f106.body).getD .skip)
noncomputable abbrev runZ : St → Option (Ex × St) := evCodeK Tryz.prog 0 (bodied Tryz.prog) (evCall Tryz.prog 0 (bodied Tryz.prog) noOver sbs 1000 19) 0 4 1000 lZ (innerKp lZ [])
noncomputable abbrev clZ : St → St := cleanSt 0 4 (ue lZ [] []).1
def SZ (b : Bool) (f : Nat → Int) (i : Nat) : St := ⟨[nv b f, .pointer (some ⟨0, 0, none⟩), .bool false, .int .i64 i] ++ js 9, ⟨1, [oN b f]⟩, []⟩
--< zr
theorem zr (b : Bool) (f : Nat → Int) (i : Nat) (hi : i < 20) (h : f i = 0) :
    ∃ s', runZ (SZ b f i) = some (Ex.normal, s') ∧ clZ s' = SZ b f (i + 1) :=
  Dg.code_round (f := 106) clZ (hs := [Hint.val 106 5 (Value.bool true),
    Hint.soft 106 10 (Value.pointer (some { block := 0, off := i + 1 })),
    Hint.soft 106 11 (Value.int IntKind.u64 0),
    Hint.val 106 7 (Value.int IntKind.i64 ((↑i : Int) + 1))])
    [Value.bool (decide ((↑i : Int) < (20 : Int))) = Value.bool true,
    (0 : Int) ≤ (↑i : Int) ∧ (↑i : Int) < (↑(20 : Nat) : Int),
    Value.pointer (some { block := (0 : Nat), off := (1 : Nat) + Int.toNat (↑i : Int) * (1 : Nat) }) = Value.pointer (some { block := (0 : Nat), off := i + (1 : Nat) }),
    (kpN b f)[i + (1 : Nat)]? = some (Value.int IntKind.u64 (0 : Int)),
    Value.int IntKind.i64 (IntKind.wrap IntKind.i64 ((↑i : Int) + (1 : Int))) = Value.int IntKind.i64 ((↑i : Int) + (1 : Int))] (by kernel_rfl)
    ⟨Dg.vtrue (by omega), by omega, Dg.ptr_eq (by omega), kpN_getv hi rfl h, Dg.i64_eq rfl (by omega) (by omega), trivial⟩
--> zr
--< zx
theorem zx (b : Bool) (f : Nat → Int) (i : Nat) (hi : i < 20) (h : 0 < f i) :
    runZ (SZ b f i) = some (Ex.ret, ({ ts := [Value.agg { toList := kpN b f }, Value.pointer (some { block := 0, off := 0 }), Value.bool false, Value.int IntKind.i64 (↑i : Int), Value.int IntKind.i64 (↑i : Int), Value.bool true, junk, junk, Value.int IntKind.i64 (↑i : Int), Value.pointer (some { block := 0, off := 1 }), Value.pointer (some { block := 0, off := i + 1 }), Value.int IntKind.u64 (f i), Value.bool true], H := { n := 1, objs := [AObj.cells (kpN b f) 122 4 1] }, log := [] } : St)) :=
  Dg.evCode_hint (f := 106) (hs' := []) (hs := [Hint.val 106 5 (Value.bool true),
    Hint.soft 106 10 (Value.pointer (some { block := 0, off := i + 1 })),
    Hint.soft 106 11 (Value.int IntKind.u64 (f i)),
    Hint.val 106 12 (Value.bool true)])
    [Value.bool (decide ((↑i : Int) < (20 : Int))) = Value.bool true,
    (0 : Int) ≤ (↑i : Int) ∧ (↑i : Int) < (↑(20 : Nat) : Int),
    Value.pointer (some { block := (0 : Nat), off := (1 : Nat) + Int.toNat (↑i : Int) * (1 : Nat) }) = Value.pointer (some { block := (0 : Nat), off := i + (1 : Nat) }),
    (kpN b f)[i + (1 : Nat)]? = some (Value.int IntKind.u64 (f i)),
    Value.bool (decide (f i > (0 : Int))) = Value.bool true] (by kernel_rfl)
    ⟨Dg.vtrue (by omega), by omega, Dg.ptr_eq (by omega), kpN_getv hi rfl rfl, Dg.vtrue (by omega), trivial⟩
--> zx
--< ze
theorem ze (b : Bool) (f : Nat → Int) :
    runZ (SZ b f 20) = some (Ex.exit 0, ({ ts := [Value.agg { toList := kpN b f }, Value.pointer (some { block := 0, off := 0 }), Value.bool false, Value.int IntKind.i64 20, Value.int IntKind.i64 20, Value.bool false, junk, junk, junk, junk, junk, junk, junk], H := { n := 1, objs := [AObj.cells (kpN b f) 122 4 1] }, log := [] } : St)) :=
  Dg.evCode_hint (f := 106) (hs' := []) (hs := [])
    [] (by kernel_rfl)
    trivial
--> ze
--< zcall_x
theorem zcall_x (b : Bool) (f : Nat → Int) (rest : List Value) (hz : ∀ (s0 : St), clZ s0 = SZ b f 0 → evLoop runZ clZ 1000 s0 = some (Ex.ret, { ts := nv b f :: Value.pointer (some { block := 0, off := 0 }) :: Value.bool false :: rest, H := { n := 1, objs := [oN b f] }, log := [] })) :
    evCall Tryz.prog 0 (bodied Tryz.prog) noOver sbs 1000 20 106 [nv b f] { n := 0, objs := [] } = some (Value.bool false, { n := 0, objs := [] }, []) :=
  Dg.evCall_hint (hs' := []) (hs := [Hint.loop 106 Ex.ret { ts := nv b f :: Value.pointer (some { block := 0, off := 0 }) :: Value.bool false :: rest, H := { n := 1, objs := [oN b f] }, log := [] }])
    [evLoop runZ clZ 1000 { ts := [Value.agg { toList := kpN b f }, Value.pointer (some { block := 0, off := 0 }), Value.bool false, Value.int IntKind.i64 0, undef, undef, undef, undef, undef, undef, undef, undef, undef], H := { n := 1, objs := [AObj.cells [Value.bool b, Value.int IntKind.u64 (f 0), Value.int IntKind.u64 (f 1), Value.int IntKind.u64 (f 2), Value.int IntKind.u64 (f 3), Value.int IntKind.u64 (f 4), Value.int IntKind.u64 (f 5), Value.int IntKind.u64 (f 6), Value.int IntKind.u64 (f 7), Value.int IntKind.u64 (f 8), Value.int IntKind.u64 (f 9), Value.int IntKind.u64 (f 10), Value.int IntKind.u64 (f 11), Value.int IntKind.u64 (f 12), Value.int IntKind.u64 (f 13), Value.int IntKind.u64 (f 14), Value.int IntKind.u64 (f 15), Value.int IntKind.u64 (f 16), Value.int IntKind.u64 (f 17), Value.int IntKind.u64 (f 18), Value.int IntKind.u64 (f 19)] 122 0 1] }, log := [] } = some (Ex.ret, { ts := nv b f :: Value.pointer (some { block := 0, off := 0 }) :: Value.bool false :: rest, H := { n := 1, objs := [oN b f] }, log := [] })] (by kernel_rfl)
    ⟨hz _ (by kernel_rfl), trivial⟩
--> zcall_x
--< zcall_e
theorem zcall_e (b : Bool) (f : Nat → Int) (rest : List Value) (hz : ∀ (s0 : St), clZ s0 = SZ b f 0 → evLoop runZ clZ 1000 s0 = some (Ex.exit 0, { ts := nv b f :: Value.pointer (some { block := 0, off := 0 }) :: Value.bool false :: rest, H := { n := 1, objs := [oN b f] }, log := [] })) :
    evCall Tryz.prog 0 (bodied Tryz.prog) noOver sbs 1000 20 106 [nv b f] { n := 0, objs := [] } = some (Value.bool true, { n := 0, objs := [] }, []) :=
  Dg.evCall_hint (hs' := []) (hs := [Hint.loop 106 (Ex.exit 0) { ts := nv b f :: Value.pointer (some { block := 0, off := 0 }) :: Value.bool false :: rest, H := { n := 1, objs := [oN b f] }, log := [] }])
    [evLoop runZ clZ 1000 { ts := [Value.agg { toList := kpN b f }, Value.pointer (some { block := 0, off := 0 }), Value.bool false, Value.int IntKind.i64 0, undef, undef, undef, undef, undef, undef, undef, undef, undef], H := { n := 1, objs := [AObj.cells [Value.bool b, Value.int IntKind.u64 (f 0), Value.int IntKind.u64 (f 1), Value.int IntKind.u64 (f 2), Value.int IntKind.u64 (f 3), Value.int IntKind.u64 (f 4), Value.int IntKind.u64 (f 5), Value.int IntKind.u64 (f 6), Value.int IntKind.u64 (f 7), Value.int IntKind.u64 (f 8), Value.int IntKind.u64 (f 9), Value.int IntKind.u64 (f 10), Value.int IntKind.u64 (f 11), Value.int IntKind.u64 (f 12), Value.int IntKind.u64 (f 13), Value.int IntKind.u64 (f 14), Value.int IntKind.u64 (f 15), Value.int IntKind.u64 (f 16), Value.int IntKind.u64 (f 17), Value.int IntKind.u64 (f 18), Value.int IntKind.u64 (f 19)] 122 0 1] }, log := [] } = some (Ex.exit 0, { ts := nv b f :: Value.pointer (some { block := 0, off := 0 }) :: Value.bool false :: rest, H := { n := 1, objs := [oN b f] }, log := [] })] (by kernel_rfl)
    ⟨hz _ (by kernel_rfl), trivial⟩
--> zcall_e
noncomputable def lS : Code := lBody ((Tryz.f79.body).getD .skip)
noncomputable abbrev runS : St → Option (Ex × St) := evCodeK Tryz.prog 0 (bodied Tryz.prog) (evCall Tryz.prog 0 (bodied Tryz.prog) noOver sbs 1000 19) 0 6 1000 lS (innerKp lS [])
noncomputable abbrev clS : St → St := cleanSt 0 6 (ue lS [] []).1
def SS (b : Bool) (f : Nat → Int) (c : Bool) (g : Nat → Int) (x : Int) : St := ⟨[nv b f, nv c g, .pointer (some ⟨0, 0, none⟩), .pointer (some ⟨1, 0, none⟩), .int .i64 0, .int .i64 x] ++ js 22, ⟨2, [oN c g, oN b f]⟩, []⟩
--< sr
theorem sr (b : Bool) (f : Nat → Int) (c : Bool) (g : Nat → Int) (i : Nat) (hi : i < 20) (x : Int) (hx : x = (↑i : Int) - 1) (h : f i = g i) :
    ∃ s', runS (SS b f c g (↑i : Int)) = some (Ex.normal, s') ∧ clS s' = SS b f c g x :=
  Dg.code_round (f := 79) clS (hs := [Hint.soft 79 12 (Value.pointer (some { block := 0, off := i + 1 })),
    Hint.soft 79 13 (Value.int IntKind.u64 (f i)),
    Hint.soft 79 16 (Value.pointer (some { block := 1, off := i + 1 })),
    Hint.soft 79 17 (Value.int IntKind.u64 (g i)),
    Hint.val 79 18 (Value.bool false),
    Hint.soft 79 21 (Value.pointer (some { block := 0, off := i + 1 })),
    Hint.soft 79 22 (Value.int IntKind.u64 (f i)),
    Hint.soft 79 25 (Value.pointer (some { block := 1, off := i + 1 })),
    Hint.soft 79 26 (Value.int IntKind.u64 (g i)),
    Hint.val 79 27 (Value.bool false),
    Hint.val 79 9 (Value.int IntKind.i64 x)])
    [(0 : Int) ≤ (↑i : Int) ∧ (↑i : Int) < (↑(20 : Nat) : Int),
    Value.pointer (some { block := (0 : Nat), off := (1 : Nat) + Int.toNat (↑i : Int) * (1 : Nat) }) = Value.pointer (some { block := (0 : Nat), off := i + (1 : Nat) }),
    (kpN b f)[i + (1 : Nat)]? = some (Value.int IntKind.u64 (f i)),
    (0 : Int) ≤ (↑i : Int) ∧ (↑i : Int) < (↑(20 : Nat) : Int),
    Value.pointer (some { block := (1 : Nat), off := (1 : Nat) + Int.toNat (↑i : Int) * (1 : Nat) }) = Value.pointer (some { block := (1 : Nat), off := i + (1 : Nat) }),
    (kpN c g)[i + (1 : Nat)]? = some (Value.int IntKind.u64 (g i)),
    Value.bool (decide (f i < g i)) = Value.bool false,
    (0 : Int) ≤ (↑i : Int) ∧ (↑i : Int) < (↑(20 : Nat) : Int),
    Value.pointer (some { block := (0 : Nat), off := (1 : Nat) + Int.toNat (↑i : Int) * (1 : Nat) }) = Value.pointer (some { block := (0 : Nat), off := i + (1 : Nat) }),
    (kpN b f)[i + (1 : Nat)]? = some (Value.int IntKind.u64 (f i)),
    (0 : Int) ≤ (↑i : Int) ∧ (↑i : Int) < (↑(20 : Nat) : Int),
    Value.pointer (some { block := (1 : Nat), off := (1 : Nat) + Int.toNat (↑i : Int) * (1 : Nat) }) = Value.pointer (some { block := (1 : Nat), off := i + (1 : Nat) }),
    (kpN c g)[i + (1 : Nat)]? = some (Value.int IntKind.u64 (g i)),
    Value.bool (decide (f i > g i)) = Value.bool false,
    Value.int IntKind.i64 (IntKind.wrap IntKind.i64 ((↑i : Int) - (1 : Int))) = Value.int IntKind.i64 x] (by kernel_rfl)
    ⟨by omega, Dg.ptr_eq (by omega), kpN_getv hi rfl rfl, by omega, Dg.ptr_eq (by omega), kpN_getv hi rfl rfl, Dg.vfalse (by omega), by omega, Dg.ptr_eq (by omega), kpN_getv hi rfl rfl, by omega, Dg.ptr_eq (by omega), kpN_getv hi rfl rfl, Dg.vfalse (by omega), Dg.i64_eq (by omega) (by omega) (by omega), trivial⟩
--> sr
--< sl
theorem sl (b : Bool) (f : Nat → Int) (c : Bool) (g : Nat → Int) (i : Nat) (hi : i < 20) (h : f i < g i) :
    runS (SS b f c g (↑i : Int)) = some (Ex.ret, ({ ts := [Value.agg { toList := kpN b f }, Value.agg { toList := kpN c g }, Value.pointer (some { block := 0, off := 0 }), Value.pointer (some { block := 1, off := 0 }), Value.int IntKind.i64 (-1), Value.int IntKind.i64 (↑i : Int), Value.int IntKind.i64 (↑i : Int), Value.bool true, junk, junk, Value.int IntKind.i64 (↑i : Int), Value.pointer (some { block := 0, off := 1 }), Value.pointer (some { block := 0, off := i + 1 }), Value.int IntKind.u64 (f i), Value.int IntKind.i64 (↑i : Int), Value.pointer (some { block := 1, off := 1 }), Value.pointer (some { block := 1, off := i + 1 }), Value.int IntKind.u64 (g i), Value.bool true, junk, junk, junk, junk, junk, junk, junk, junk, junk], H := { n := 2, objs := [AObj.cells (kpN c g) 122 4 1, AObj.cells (kpN b f) 122 4 1] }, log := [] } : St)) :=
  Dg.evCode_hint (f := 79) (hs' := []) (hs := [Hint.soft 79 12 (Value.pointer (some { block := 0, off := i + 1 })),
    Hint.soft 79 13 (Value.int IntKind.u64 (f i)),
    Hint.soft 79 16 (Value.pointer (some { block := 1, off := i + 1 })),
    Hint.soft 79 17 (Value.int IntKind.u64 (g i)),
    Hint.val 79 18 (Value.bool true)])
    [(0 : Int) ≤ (↑i : Int) ∧ (↑i : Int) < (↑(20 : Nat) : Int),
    Value.pointer (some { block := (0 : Nat), off := (1 : Nat) + Int.toNat (↑i : Int) * (1 : Nat) }) = Value.pointer (some { block := (0 : Nat), off := i + (1 : Nat) }),
    (kpN b f)[i + (1 : Nat)]? = some (Value.int IntKind.u64 (f i)),
    (0 : Int) ≤ (↑i : Int) ∧ (↑i : Int) < (↑(20 : Nat) : Int),
    Value.pointer (some { block := (1 : Nat), off := (1 : Nat) + Int.toNat (↑i : Int) * (1 : Nat) }) = Value.pointer (some { block := (1 : Nat), off := i + (1 : Nat) }),
    (kpN c g)[i + (1 : Nat)]? = some (Value.int IntKind.u64 (g i)),
    Value.bool (decide (f i < g i)) = Value.bool true] (by kernel_rfl)
    ⟨by omega, Dg.ptr_eq (by omega), kpN_getv hi rfl rfl, by omega, Dg.ptr_eq (by omega), kpN_getv hi rfl rfl, Dg.vtrue (by omega), trivial⟩
--> sl
--< sg
theorem sg (b : Bool) (f : Nat → Int) (c : Bool) (g : Nat → Int) (i : Nat) (hi : i < 20) (h : g i < f i) :
    runS (SS b f c g (↑i : Int)) = some (Ex.ret, ({ ts := [Value.agg { toList := kpN b f }, Value.agg { toList := kpN c g }, Value.pointer (some { block := 0, off := 0 }), Value.pointer (some { block := 1, off := 0 }), Value.int IntKind.i64 1, Value.int IntKind.i64 (↑i : Int), Value.int IntKind.i64 (↑i : Int), Value.bool true, junk, junk, Value.int IntKind.i64 (↑i : Int), Value.pointer (some { block := 0, off := 1 }), Value.pointer (some { block := 0, off := i + 1 }), Value.int IntKind.u64 (f i), Value.int IntKind.i64 (↑i : Int), Value.pointer (some { block := 1, off := 1 }), Value.pointer (some { block := 1, off := i + 1 }), Value.int IntKind.u64 (g i), Value.bool false, Value.int IntKind.i64 (↑i : Int), Value.pointer (some { block := 0, off := 1 }), Value.pointer (some { block := 0, off := i + 1 }), Value.int IntKind.u64 (f i), Value.int IntKind.i64 (↑i : Int), Value.pointer (some { block := 1, off := 1 }), Value.pointer (some { block := 1, off := i + 1 }), Value.int IntKind.u64 (g i), Value.bool true], H := { n := 2, objs := [AObj.cells (kpN c g) 122 4 1, AObj.cells (kpN b f) 122 4 1] }, log := [] } : St)) :=
  Dg.evCode_hint (f := 79) (hs' := []) (hs := [Hint.soft 79 12 (Value.pointer (some { block := 0, off := i + 1 })),
    Hint.soft 79 13 (Value.int IntKind.u64 (f i)),
    Hint.soft 79 16 (Value.pointer (some { block := 1, off := i + 1 })),
    Hint.soft 79 17 (Value.int IntKind.u64 (g i)),
    Hint.val 79 18 (Value.bool false),
    Hint.soft 79 21 (Value.pointer (some { block := 0, off := i + 1 })),
    Hint.soft 79 22 (Value.int IntKind.u64 (f i)),
    Hint.soft 79 25 (Value.pointer (some { block := 1, off := i + 1 })),
    Hint.soft 79 26 (Value.int IntKind.u64 (g i)),
    Hint.val 79 27 (Value.bool true)])
    [(0 : Int) ≤ (↑i : Int) ∧ (↑i : Int) < (↑(20 : Nat) : Int),
    Value.pointer (some { block := (0 : Nat), off := (1 : Nat) + Int.toNat (↑i : Int) * (1 : Nat) }) = Value.pointer (some { block := (0 : Nat), off := i + (1 : Nat) }),
    (kpN b f)[i + (1 : Nat)]? = some (Value.int IntKind.u64 (f i)),
    (0 : Int) ≤ (↑i : Int) ∧ (↑i : Int) < (↑(20 : Nat) : Int),
    Value.pointer (some { block := (1 : Nat), off := (1 : Nat) + Int.toNat (↑i : Int) * (1 : Nat) }) = Value.pointer (some { block := (1 : Nat), off := i + (1 : Nat) }),
    (kpN c g)[i + (1 : Nat)]? = some (Value.int IntKind.u64 (g i)),
    Value.bool (decide (f i < g i)) = Value.bool false,
    (0 : Int) ≤ (↑i : Int) ∧ (↑i : Int) < (↑(20 : Nat) : Int),
    Value.pointer (some { block := (0 : Nat), off := (1 : Nat) + Int.toNat (↑i : Int) * (1 : Nat) }) = Value.pointer (some { block := (0 : Nat), off := i + (1 : Nat) }),
    (kpN b f)[i + (1 : Nat)]? = some (Value.int IntKind.u64 (f i)),
    (0 : Int) ≤ (↑i : Int) ∧ (↑i : Int) < (↑(20 : Nat) : Int),
    Value.pointer (some { block := (1 : Nat), off := (1 : Nat) + Int.toNat (↑i : Int) * (1 : Nat) }) = Value.pointer (some { block := (1 : Nat), off := i + (1 : Nat) }),
    (kpN c g)[i + (1 : Nat)]? = some (Value.int IntKind.u64 (g i)),
    Value.bool (decide (f i > g i)) = Value.bool true] (by kernel_rfl)
    ⟨by omega, Dg.ptr_eq (by omega), kpN_getv hi rfl rfl, by omega, Dg.ptr_eq (by omega), kpN_getv hi rfl rfl, Dg.vfalse (by omega), by omega, Dg.ptr_eq (by omega), kpN_getv hi rfl rfl, by omega, Dg.ptr_eq (by omega), kpN_getv hi rfl rfl, Dg.vtrue (by omega), trivial⟩
--> sg
--< se
theorem se (b : Bool) (f : Nat → Int) (c : Bool) (g : Nat → Int) :
    runS (SS b f c g (-1)) = some (Ex.exit 0, ({ ts := [Value.agg { toList := kpN b f }, Value.agg { toList := kpN c g }, Value.pointer (some { block := 0, off := 0 }), Value.pointer (some { block := 1, off := 0 }), Value.int IntKind.i64 0, Value.int IntKind.i64 (-1), Value.int IntKind.i64 (-1), Value.bool false, junk, junk, junk, junk, junk, junk, junk, junk, junk, junk, junk, junk, junk, junk, junk, junk, junk, junk, junk, junk], H := { n := 2, objs := [AObj.cells (kpN c g) 122 4 1, AObj.cells (kpN b f) 122 4 1] }, log := [] } : St)) :=
  Dg.evCode_hint (f := 79) (hs' := []) (hs := [])
    [] (by kernel_rfl)
    trivial
--> se
--< scall_l
theorem scall_l (b : Bool) (f : Nat → Int) (c : Bool) (g : Nat → Int) (rest : List Value) (hz : ∀ (s0 : St), clS s0 = SS b f c g 19 → evLoop runS clS 1000 s0 = some (Ex.ret, { ts := nv b f :: nv c g :: Value.pointer (some { block := 0, off := 0 }) :: Value.pointer (some { block := 1, off := 0 }) :: Value.int IntKind.i64 (-1) :: rest, H := { n := 2, objs := [oN c g, oN b f] }, log := [] })) :
    evCall Tryz.prog 0 (bodied Tryz.prog) noOver sbs 1000 20 79 [nv b f, nv c g] { n := 0, objs := [] } = some (Value.int IntKind.i64 (-1), { n := 0, objs := [] }, []) :=
  Dg.evCall_hint (hs' := []) (hs := [Hint.loop 79 Ex.ret { ts := nv b f :: nv c g :: Value.pointer (some { block := 0, off := 0 }) :: Value.pointer (some { block := 1, off := 0 }) :: Value.int IntKind.i64 (-1) :: rest, H := { n := 2, objs := [oN c g, oN b f] }, log := [] }])
    [evLoop runS clS 1000 { ts := [Value.agg { toList := kpN b f }, Value.agg { toList := kpN c g }, Value.pointer (some { block := 0, off := 0 }), Value.pointer (some { block := 1, off := 0 }), Value.int IntKind.i64 0, Value.int IntKind.i64 19, undef, undef, undef, undef, undef, undef, undef, undef, undef, undef, undef, undef, undef, undef, undef, undef, undef, undef, undef, undef, undef, undef], H := { n := 2, objs := [AObj.cells [Value.bool c, Value.int IntKind.u64 (g 0), Value.int IntKind.u64 (g 1), Value.int IntKind.u64 (g 2), Value.int IntKind.u64 (g 3), Value.int IntKind.u64 (g 4), Value.int IntKind.u64 (g 5), Value.int IntKind.u64 (g 6), Value.int IntKind.u64 (g 7), Value.int IntKind.u64 (g 8), Value.int IntKind.u64 (g 9), Value.int IntKind.u64 (g 10), Value.int IntKind.u64 (g 11), Value.int IntKind.u64 (g 12), Value.int IntKind.u64 (g 13), Value.int IntKind.u64 (g 14), Value.int IntKind.u64 (g 15), Value.int IntKind.u64 (g 16), Value.int IntKind.u64 (g 17), Value.int IntKind.u64 (g 18), Value.int IntKind.u64 (g 19)] 122 0 1, AObj.cells [Value.bool b, Value.int IntKind.u64 (f 0), Value.int IntKind.u64 (f 1), Value.int IntKind.u64 (f 2), Value.int IntKind.u64 (f 3), Value.int IntKind.u64 (f 4), Value.int IntKind.u64 (f 5), Value.int IntKind.u64 (f 6), Value.int IntKind.u64 (f 7), Value.int IntKind.u64 (f 8), Value.int IntKind.u64 (f 9), Value.int IntKind.u64 (f 10), Value.int IntKind.u64 (f 11), Value.int IntKind.u64 (f 12), Value.int IntKind.u64 (f 13), Value.int IntKind.u64 (f 14), Value.int IntKind.u64 (f 15), Value.int IntKind.u64 (f 16), Value.int IntKind.u64 (f 17), Value.int IntKind.u64 (f 18), Value.int IntKind.u64 (f 19)] 122 0 1] }, log := [] } = some (Ex.ret, { ts := nv b f :: nv c g :: Value.pointer (some { block := 0, off := 0 }) :: Value.pointer (some { block := 1, off := 0 }) :: Value.int IntKind.i64 (-1) :: rest, H := { n := 2, objs := [oN c g, oN b f] }, log := [] })] (by kernel_rfl)
    ⟨hz _ (by kernel_rfl), trivial⟩
--> scall_l
--< scall_g
theorem scall_g (b : Bool) (f : Nat → Int) (c : Bool) (g : Nat → Int) (rest : List Value) (hz : ∀ (s0 : St), clS s0 = SS b f c g 19 → evLoop runS clS 1000 s0 = some (Ex.ret, { ts := nv b f :: nv c g :: Value.pointer (some { block := 0, off := 0 }) :: Value.pointer (some { block := 1, off := 0 }) :: Value.int IntKind.i64 1 :: rest, H := { n := 2, objs := [oN c g, oN b f] }, log := [] })) :
    evCall Tryz.prog 0 (bodied Tryz.prog) noOver sbs 1000 20 79 [nv b f, nv c g] { n := 0, objs := [] } = some (Value.int IntKind.i64 1, { n := 0, objs := [] }, []) :=
  Dg.evCall_hint (hs' := []) (hs := [Hint.loop 79 Ex.ret { ts := nv b f :: nv c g :: Value.pointer (some { block := 0, off := 0 }) :: Value.pointer (some { block := 1, off := 0 }) :: Value.int IntKind.i64 1 :: rest, H := { n := 2, objs := [oN c g, oN b f] }, log := [] }])
    [evLoop runS clS 1000 { ts := [Value.agg { toList := kpN b f }, Value.agg { toList := kpN c g }, Value.pointer (some { block := 0, off := 0 }), Value.pointer (some { block := 1, off := 0 }), Value.int IntKind.i64 0, Value.int IntKind.i64 19, undef, undef, undef, undef, undef, undef, undef, undef, undef, undef, undef, undef, undef, undef, undef, undef, undef, undef, undef, undef, undef, undef], H := { n := 2, objs := [AObj.cells [Value.bool c, Value.int IntKind.u64 (g 0), Value.int IntKind.u64 (g 1), Value.int IntKind.u64 (g 2), Value.int IntKind.u64 (g 3), Value.int IntKind.u64 (g 4), Value.int IntKind.u64 (g 5), Value.int IntKind.u64 (g 6), Value.int IntKind.u64 (g 7), Value.int IntKind.u64 (g 8), Value.int IntKind.u64 (g 9), Value.int IntKind.u64 (g 10), Value.int IntKind.u64 (g 11), Value.int IntKind.u64 (g 12), Value.int IntKind.u64 (g 13), Value.int IntKind.u64 (g 14), Value.int IntKind.u64 (g 15), Value.int IntKind.u64 (g 16), Value.int IntKind.u64 (g 17), Value.int IntKind.u64 (g 18), Value.int IntKind.u64 (g 19)] 122 0 1, AObj.cells [Value.bool b, Value.int IntKind.u64 (f 0), Value.int IntKind.u64 (f 1), Value.int IntKind.u64 (f 2), Value.int IntKind.u64 (f 3), Value.int IntKind.u64 (f 4), Value.int IntKind.u64 (f 5), Value.int IntKind.u64 (f 6), Value.int IntKind.u64 (f 7), Value.int IntKind.u64 (f 8), Value.int IntKind.u64 (f 9), Value.int IntKind.u64 (f 10), Value.int IntKind.u64 (f 11), Value.int IntKind.u64 (f 12), Value.int IntKind.u64 (f 13), Value.int IntKind.u64 (f 14), Value.int IntKind.u64 (f 15), Value.int IntKind.u64 (f 16), Value.int IntKind.u64 (f 17), Value.int IntKind.u64 (f 18), Value.int IntKind.u64 (f 19)] 122 0 1] }, log := [] } = some (Ex.ret, { ts := nv b f :: nv c g :: Value.pointer (some { block := 0, off := 0 }) :: Value.pointer (some { block := 1, off := 0 }) :: Value.int IntKind.i64 1 :: rest, H := { n := 2, objs := [oN c g, oN b f] }, log := [] })] (by kernel_rfl)
    ⟨hz _ (by kernel_rfl), trivial⟩
--> scall_g
--< scall_e
theorem scall_e (b : Bool) (f : Nat → Int) (c : Bool) (g : Nat → Int) (rest : List Value) (hz : ∀ (s0 : St), clS s0 = SS b f c g 19 → evLoop runS clS 1000 s0 = some (Ex.exit 0, { ts := nv b f :: nv c g :: Value.pointer (some { block := 0, off := 0 }) :: Value.pointer (some { block := 1, off := 0 }) :: Value.int IntKind.i64 0 :: rest, H := { n := 2, objs := [oN c g, oN b f] }, log := [] })) :
    evCall Tryz.prog 0 (bodied Tryz.prog) noOver sbs 1000 20 79 [nv b f, nv c g] { n := 0, objs := [] } = some (Value.int IntKind.i64 0, { n := 0, objs := [] }, []) :=
  Dg.evCall_hint (hs' := []) (hs := [Hint.loop 79 (Ex.exit 0) { ts := nv b f :: nv c g :: Value.pointer (some { block := 0, off := 0 }) :: Value.pointer (some { block := 1, off := 0 }) :: Value.int IntKind.i64 0 :: rest, H := { n := 2, objs := [oN c g, oN b f] }, log := [] }])
    [evLoop runS clS 1000 { ts := [Value.agg { toList := kpN b f }, Value.agg { toList := kpN c g }, Value.pointer (some { block := 0, off := 0 }), Value.pointer (some { block := 1, off := 0 }), Value.int IntKind.i64 0, Value.int IntKind.i64 19, undef, undef, undef, undef, undef, undef, undef, undef, undef, undef, undef, undef, undef, undef, undef, undef, undef, undef, undef, undef, undef, undef], H := { n := 2, objs := [AObj.cells [Value.bool c, Value.int IntKind.u64 (g 0), Value.int IntKind.u64 (g 1), Value.int IntKind.u64 (g 2), Value.int IntKind.u64 (g 3), Value.int IntKind.u64 (g 4), Value.int IntKind.u64 (g 5), Value.int IntKind.u64 (g 6), Value.int IntKind.u64 (g 7), Value.int IntKind.u64 (g 8), Value.int IntKind.u64 (g 9), Value.int IntKind.u64 (g 10), Value.int IntKind.u64 (g 11), Value.int IntKind.u64 (g 12), Value.int IntKind.u64 (g 13), Value.int IntKind.u64 (g 14), Value.int IntKind.u64 (g 15), Value.int IntKind.u64 (g 16), Value.int IntKind.u64 (g 17), Value.int IntKind.u64 (g 18), Value.int IntKind.u64 (g 19)] 122 0 1, AObj.cells [Value.bool b, Value.int IntKind.u64 (f 0), Value.int IntKind.u64 (f 1), Value.int IntKind.u64 (f 2), Value.int IntKind.u64 (f 3), Value.int IntKind.u64 (f 4), Value.int IntKind.u64 (f 5), Value.int IntKind.u64 (f 6), Value.int IntKind.u64 (f 7), Value.int IntKind.u64 (f 8), Value.int IntKind.u64 (f 9), Value.int IntKind.u64 (f 10), Value.int IntKind.u64 (f 11), Value.int IntKind.u64 (f 12), Value.int IntKind.u64 (f 13), Value.int IntKind.u64 (f 14), Value.int IntKind.u64 (f 15), Value.int IntKind.u64 (f 16), Value.int IntKind.u64 (f 17), Value.int IntKind.u64 (f 18), Value.int IntKind.u64 (f 19)] 122 0 1] }, log := [] } = some (Ex.exit 0, { ts := nv b f :: nv c g :: Value.pointer (some { block := 0, off := 0 }) :: Value.pointer (some { block := 1, off := 0 }) :: Value.int IntKind.i64 0 :: rest, H := { n := 2, objs := [oN c g, oN b f] }, log := [] })] (by kernel_rfl)
    ⟨hz _ (by kernel_rfl), trivial⟩
--> scall_e
end Go.Proofs.YtmnoegfehgoalaaGreatDoor.num
namespace Go.Proofs.YtmnoegfehgoalaaGreatDoor.num
open Go.Dg (junk St Ex Ev Hint evCall evLoop bodied noOver Flats flatOver Heap AObj lay noO)
set_option linter.unusedVariables false
theorem num_flat (b : Bool) (m : Nat) : Dg.flat (num b m) = true := by
  show Dg.flatL (kpN b (lim m)) = true
  exact kpN_flat _ _
theorem flat1 (b : Bool) (m : Nat) : Dg.flatL [num b m] = true := by simp only [Dg.flatL, num_flat, Bool.and_self]
theorem flat2 (b c : Bool) (m n : Nat) : Dg.flatL [num b m, num c n] = true := by simp only [Dg.flatL, num_flat, Bool.and_self]
/-- The functions of the first layer. -/
def L1 : List FuncId := [55, 104, 106, 79]
noncomputable def o1 : FuncId → List Value → Option Value := lay Tryz.prog (bodied Tryz.prog) noOver sbs 1000 20 L1 noO
noncomputable abbrev ov1 : Ev := flatOver o1
theorem okB : Dg.BodiesOk Tryz.prog (bodied Tryz.prog) := Dg.bodied_ok _
theorem o1_flats : ∀ f args v, o1 f args = some v → Flats Tryz.prog f args v := Dg.lay_flats mixed okB Dg.noOver_ok (by kernel_rfl) Dg.noO_flats
/-- -1, 0, 1. -/
def sgn (m n : Nat) : Int := if m < n then -1 else if n < m then 1 else 0
theorem of_told (n : Int) (h : -9223372036854775808 ≤ n ∧ n < 9223372036854775808) : o1 55 [.int .i64 n] = some (num (decide (n < 0)) n.natAbs) := by
  rcases Int.lt_or_le n 0 with h0 | h0
  · obtain ⟨m, rfl⟩ : ∃ m : Nat, n = -(m : Int) := ⟨n.natAbs, by omega⟩
    rw [decide_eq_true h0, Int.natAbs_neg, Int.natAbs_natCast, num_small (by omega)]
    exact Dg.lay_told rfl (of_neg0 m (by omega) (by omega)) rfl rfl
  · obtain ⟨m, rfl⟩ : ∃ m : Nat, n = (m : Int) := ⟨n.toNat, by omega⟩
    rw [decide_eq_false (by omega), Int.natAbs_natCast, num_small (by omega)]
    exact Dg.lay_told rfl (of_pos0 m (by omega)) rfl rfl
theorem n64_told (m : Nat) (h : m < 18446744073709551616) : o1 104 [.int .u64 (m : Int)] = some (num false m) := by
  rw [num_small h]
  have := n64_0 m h
  simp only [Nat.pow_zero, Nat.div_one] at this
  exact Dg.lay_told rfl this rfl rfl
theorem zero_no (b : Bool) {m : Nat} (hm : m < B ^ 20) (h : 0 < m) : o1 106 [num b m] = some (.bool false) := by
  obtain ⟨k, hk, h1, h2⟩ := first_limb hm h
  have e : ∀ j, j < k → lim m j = 0 := fun j hj => by simp [lim, h1 j hj]
  exact Dg.lay_told rfl (zcall_x b (lim m) _ (fun s0 h0 => Dg.loop_run (S := SZ b (lim m)) (n := k) (by simp) (fun j hj => zr b (lim m) j (by omega) (e j hj)) (zx b (lim m) k hk (by simp only [lim]; omega)) (by omega) h0)) (flat1 _ _) rfl
theorem zero_yes (b : Bool) {m : Nat} (h : m = 0) : o1 106 [num b m] = some (.bool true) := by
  subst h
  have e : ∀ j, lim 0 j = 0 := fun j => by simp [lim, limb_zero]
  exact Dg.lay_told rfl (zcall_e b (lim 0) _ (fun s0 h0 => Dg.loop_run (S := SZ b (lim 0)) (n := 20) (by simp) (fun j hj => zr b (lim 0) j (by omega) (e j)) (ze b (lim 0)) (by omega) h0)) (flat1 _ _) rfl
/-- The loop of Size, as far as pieces are alike. -/
theorem size_round (b c : Bool) (f g : Nat → Int) (k : Nat) (hk : k ≤ 20) (h : ∀ i, 20 - k ≤ i → i < 20 → f i = g i) : ∀ j, j < k → ∃ s', runS (SS b f c g ((19 : Int) - (j : Int))) = some (.normal, s') ∧ clS s' = SS b f c g ((19 : Int) - ((j + 1 : Nat) : Int)) := by
  intro j hj
  have := sr b f c g (19 - j) (by omega) ((19 : Int) - ((j + 1 : Nat) : Int)) (by omega) (h _ (by omega) (by omega))
  rw [show (19 : Int) - (j : Int) = ((19 - j : Nat) : Int) by omega]
  exact this
theorem size_told (b c : Bool) {m n : Nat} (hm : m < B ^ 20) (hn : n < B ^ 20) : o1 79 [num b m, num c n] = some (.int .i64 (sgn m n)) := by
  rcases parts hm hn with rfl | ⟨k, hk, h1, h2⟩
  · have e : sgn m m = 0 := by simp [sgn]
    rw [e]
    refine Dg.lay_told rfl (scall_e b (lim m) c (lim m) _ (fun s0 h0 => Dg.loop_run (S := fun j => SS b (lim m) c (lim m) ((19 : Int) - (j : Int))) (n := 20) (by simp) (size_round b c _ _ 20 (by omega) (fun _ _ _ => rfl)) (se b (lim m) c (lim m)) (by omega) h0)) (flat2 _ _ _ _) rfl
  · have e : ∀ i, 20 - (19 - k) ≤ i → i < 20 → lim m i = lim n i := fun i hi hi2 => by
      unfold lim
      rw [h1 i (by omega) hi2]
    have hz : (19 : Int) - ((19 - k : Nat) : Int) = ((k : Nat) : Int) := by omega
    rcases Nat.lt_or_ge (limb m k) (limb n k) with h3 | h3
    · have e2 : sgn m n = -1 := by simp [sgn, lt_limbs hm hn h1 h3]
      rw [e2]
      have hs := sl b (lim m) c (lim n) k hk (by simp only [lim]; omega)
      rw [← hz] at hs
      exact Dg.lay_told rfl (scall_l b (lim m) c (lim n) _ (fun s0 h0 => Dg.loop_run (S := fun j => SS b (lim m) c (lim n) ((19 : Int) - (j : Int))) (n := 19 - k) (by simp) (size_round b c _ _ (19 - k) (by omega) e) hs (by omega) h0)) (flat2 _ _ _ _) rfl
    · have h4 : limb n k < limb m k := by omega
      have h5 := lt_limbs hn hm (fun i hi hi2 => (h1 i hi hi2).symm) h4
      have e2 : sgn m n = 1 := by
        unfold sgn
        rw [if_neg (by omega), if_pos h5]
      rw [e2]
      have hs := sg b (lim m) c (lim n) k hk (by simp only [lim]; omega)
      rw [← hz] at hs
      exact Dg.lay_told rfl (scall_g b (lim m) c (lim n) _ (fun s0 h0 => Dg.loop_run (S := fun j => SS b (lim m) c (lim n) ((19 : Int) - (j : Int))) (n := 19 - k) (by simp) (size_round b c _ _ (19 - k) (by omega) e) hs (by omega) h0)) (flat2 _ _ _ _) rfl
end Go.Proofs.YtmnoegfehgoalaaGreatDoor.num
