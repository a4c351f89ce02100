/- Numbers as pieces: carries, borrows, products. Plain Lean. -/
import Derived.Test.YtflgpkkbifkpoaaDoorRows
import Derived.Test.YtflgpkkbifkpoaaDoorNumL
namespace Go.Proofs.YtflgpkkbifkpoaaDoor.num
set_option linter.unusedVariables false

/-- What is carried into piece i. -/
def car (f : Nat → Nat) (i : Nat) : Nat := qs f i / B ^ i
theorem car_zero (f : Nat → Nat) : car f 0 = 0 := by simp [car, qs]
theorem car_succ (f : Nat → Nat) (i : Nat) : car f (i + 1) = (f i + car f i) / B := by
  unfold car
  rw [qs_div, qs_next]
theorem limb_car (f : Nat → Nat) {i n : Nat} (h : i < n) : limb (qs f n) i = (f i + car f i) % B := by
  rw [limb_qs f i n h]
  unfold limb car
  rw [qs_div]
theorem car_le {f : Nat → Nat} {c : Nat} (h : ∀ i, f i ≤ c) : ∀ i, car f i ≤ c
  | 0 => by rw [car_zero]; exact Nat.zero_le _
  | i + 1 => by
    have h1 := car_le h i
    have h2 := h i
    rw [car_succ]
    show (f i + car f i) / 65536 ≤ c
    omega
/-- The last piece takes what is carried. -/
theorem car_top (f : Nat → Nat) (k : Nat) : f k + car f k = qs f (k + 1) / B ^ k := qs_div f k

/-! ### Sums -/
def adF (m n : Nat) : Nat → Nat := fun t => limb m t + limb n t
theorem adF_le (m n i : Nat) : adF m n i ≤ 131070 := by
  have h1 : limb m i < 65536 := limb_lt m i
  have h2 : limb n i < 65536 := limb_lt n i
  unfold adF
  omega
theorem qs_ad {m n k : Nat} (hm : m < B ^ k) (hn : n < B ^ k) : qs (adF m n) k = m + n := by
  unfold adF
  rw [qs_add, qs_limb, qs_limb, Nat.mod_eq_of_lt hm, Nat.mod_eq_of_lt hn]
/-- The pieces at the head of round i. -/
def adP (m n i : Nat) : Nat → Nat := fun t => if t < i then limb (m + n) t else if t = i then limb m i + car (adF m n) i else limb m t
theorem pow19 {m : Nat} (h : m < B ^ 19) : m < B ^ 20 := Nat.lt_of_lt_of_le h (Nat.pow_le_pow_right (by decide) (by decide))
theorem limb_top {m k : Nat} (h : m < B ^ k) : limb m k = 0 := by simp [limb, Nat.div_eq_of_lt h]
theorem adP_end {m n : Nat} (hm : m < B ^ 20) (hn : n < B ^ 19) (h : m + n < B ^ 20) : ∀ t, t < 20 → adP m n 19 t = limb (m + n) t := by
  intro t ht
  unfold adP
  by_cases h1 : t < 19
  · rw [if_pos h1]
  · obtain rfl : t = 19 := by omega
    rw [if_neg h1, if_pos rfl]
    have e : qs (adF m n) 20 = m + n := qs_ad hm (pow19 hn)
    have e2 := limb_car (adF m n) (i := 19) (n := 20) (by omega)
    have e3 := car_top (adF m n) 19
    rw [e] at e2 e3
    have h4 : adF m n 19 = limb m 19 := by simp [adF, limb_top hn]
    have h5 : (m + n) / B ^ 19 < B := Nat.div_lt_of_lt_mul (by rw [← Nat.pow_succ]; exact h)
    rw [e2, e3, Nat.mod_eq_of_lt h5, ← e3, h4]
theorem adP_start (m n : Nat) : adP m n 0 = limb m := by
  funext t
  unfold adP
  by_cases h : t = 0
  · subst h; simp [car_zero]
  · rw [if_neg (by omega), if_neg h]
theorem ad_limb {m n i : Nat} (hi : i < 20) (hm : m < B ^ 20) (hn : n < B ^ 20) : limb (m + n) i = (limb m i + limb n i + car (adF m n) i) % B := by
  have := limb_car (adF m n) hi
  rw [qs_ad hm hn] at this
  exact this
theorem ad_car (m n i : Nat) : car (adF m n) (i + 1) = (limb m i + limb n i + car (adF m n) i) / B := car_succ _ _

/-! ### Differences -/
def bor (m n i : Nat) : Nat := if m % B ^ i < n % B ^ i then 1 else 0
theorem bor_zero (m n : Nat) : bor m n 0 = 0 := by simp [bor, Nat.mod_one]
theorem bor_le (m n i : Nat) : bor m n i ≤ 1 := by unfold bor; split <;> omega
theorem div_sub {m n : Nat} (h : n ≤ m) (i : Nat) : (m - n) / B ^ i = m / B ^ i - n / B ^ i - bor m n i ∧ n / B ^ i + bor m n i ≤ m / B ^ i := by
  have hP := Bpos i
  unfold bor
  generalize B ^ i = P at *
  have hm := Nat.div_add_mod m P
  have hn := Nat.div_add_mod n P
  have hle : n / P ≤ m / P := Nat.div_le_div_right h
  have l1 := Nat.mod_lt m hP
  have l2 := Nat.mod_lt n hP
  rw [Nat.mul_comm] at hm hn
  by_cases hb : m % P < n % P
  · rw [if_pos hb]
    have hlt : n / P < m / P := by
      rcases Nat.lt_or_ge (n / P) (m / P) with h0 | h0
      · exact h0
      · have : n / P = m / P := by omega
        rw [this] at hn
        omega
    refine ⟨?_, by omega⟩
    have e : m - n = (m % P + P - n % P) + (m / P - n / P - 1) * P := by
      have h3 : (m / P - n / P - 1) * P + (n / P * P + P) = m / P * P := by
        have : m / P - n / P - 1 + (n / P + 1) = m / P := by omega
        rw [← this]
        simp only [Nat.add_mul, Nat.one_mul]
        congr 1
        rw [show m / P - n / P - 1 + (n / P + 1) - n / P - 1 = m / P - n / P - 1 by omega]
      omega
    rw [e, Nat.add_mul_div_right _ _ hP, Nat.div_eq_of_lt (by omega), Nat.zero_add]
  · rw [if_neg hb]
    refine ⟨?_, by omega⟩
    have e : m - n = (m % P - n % P) + (m / P - n / P) * P := by
      have h3 : (m / P - n / P) * P + n / P * P = m / P * P := by
        rw [← Nat.add_mul, Nat.sub_add_cancel hle]
      omega
    rw [e, Nat.add_mul_div_right _ _ hP, Nat.div_eq_of_lt (by omega), Nat.zero_add]
    rfl
theorem sub_limb {m n : Nat} (h : n ≤ m) (i : Nat) : limb (m - n) i = (limb m i + 65536 - limb n i - bor m n i) % 65536 := by
  obtain ⟨h1, h2⟩ := div_sub h i
  have h3 := bor_le m n i
  unfold limb
  rw [h1]
  show (m / B ^ i - n / B ^ i - bor m n i) % 65536 = (m / B ^ i % 65536 + 65536 - n / B ^ i % 65536 - bor m n i) % 65536
  omega
theorem bor_succ (m n i : Nat) : bor m n (i + 1) = 1 - (limb m i + 65536 - limb n i - bor m n i) / 65536 := by
  have e1 := mod_step m i
  have e2 := mod_step n i
  have l1 : limb m i < 65536 := limb_lt m i
  have l2 : limb n i < 65536 := limb_lt n i
  have hm := Nat.mod_lt m (Bpos i)
  have hn := Nat.mod_lt n (Bpos i)
  have key : bor m n (i + 1) = if limb m i < limb n i ∨ (limb m i = limb n i ∧ m % B ^ i < n % B ^ i) then 1 else 0 := by
    unfold bor
    rw [e1, e2]
    generalize B ^ i = P at *
    generalize limb m i = a at *
    generalize limb n i = b at *
    rcases Nat.lt_trichotomy a b with h | h | h
    · have : a * P + P ≤ b * P := by
        have := Nat.mul_le_mul_right P h
        rwa [Nat.succ_mul] at this
      rw [if_pos (by omega), if_pos (.inl h)]
    · subst h
      by_cases h0 : m % P < n % P
      · rw [if_pos (by omega), if_pos (.inr ⟨rfl, h0⟩)]
      · rw [if_neg (by omega), if_neg (by omega)]
    · have : b * P + P ≤ a * P := by
        have := Nat.mul_le_mul_right P h
        rwa [Nat.succ_mul] at this
      rw [if_neg (by omega), if_neg (by omega)]
  rw [key]
  unfold bor
  split <;> split <;> omega
def sbP (m n i : Nat) : Nat → Nat := fun t => if t < i then limb (m - n) t else limb m t

/-! ### Products -/
def mulF (m n i : Nat) : Nat → Nat := fun t => limb (m % B ^ i * n) t + (if i ≤ t then limb m i * limb n (t - i) else 0)
theorem mul_le (m n i j : Nat) : limb m i * limb n j ≤ 4294836225 := by
  have h1 : limb m i ≤ 65535 := Nat.le_of_lt_succ (limb_lt m i)
  have h2 : limb n j ≤ 65535 := Nat.le_of_lt_succ (limb_lt n j)
  exact Nat.mul_le_mul h1 h2
theorem mulF_le (m n i t : Nat) : mulF m n i t ≤ 4294901760 := by
  have h1 : limb (m % B ^ i * n) t < 65536 := limb_lt _ t
  have h2 := mul_le m n i (t - i)
  unfold mulF
  split <;> omega
theorem mul_part {m n i : Nat} : m % B ^ i * n ≤ m * n := Nat.mul_le_mul_right _ (Nat.mod_le _ _)
theorem qs_mul {m n i : Nat} (hi : i < 20) (h : m * n < B ^ 19) : qs (mulF m n i) 20 = m % B ^ (i + 1) * n := by
  unfold mulF
  rw [qs_add, qs_limb, Nat.mod_eq_of_lt (pow19 (Nat.lt_of_le_of_lt mul_part h)), qs_shift, mod_step, Nat.add_mul]
  congr 1
  rcases Nat.eq_zero_or_pos (limb m i) with h0 | h0
  · simp [h0]
  · congr 1
    refine Nat.mod_eq_of_lt ?_
    have hm : B ^ i ≤ m := by
      rcases Nat.lt_or_ge m (B ^ i) with h1 | h1
      · rw [limb_top h1] at h0; omega
      · exact h1
    have h2 : B ^ i * n < B ^ i * B ^ (20 - i) := by
      rw [← Nat.pow_add, show i + (20 - i) = 20 by omega]
      exact Nat.lt_of_le_of_lt (Nat.mul_le_mul_right n hm) (pow19 h)
    exact Nat.lt_of_mul_lt_mul_left h2
/-- The pieces in the midst of a row of products. -/
def mulJ (m n i j : Nat) : Nat → Nat := fun t => limb (m % B ^ i * n) t + (if i ≤ t ∧ t < i + j then limb m i * limb n (t - i) else 0)
theorem mulJ_start (m n i : Nat) : mulJ m n i 0 = limb (m % B ^ i * n) := by
  funext t
  unfold mulJ
  rw [if_neg (by omega), Nat.add_zero]
theorem mulJ_end (m n i : Nat) : ∀ t, t < 20 → mulJ m n i (20 - i) t = mulF m n i t := by
  intro t ht
  unfold mulJ mulF
  by_cases h : i ≤ t
  · rw [if_pos ⟨h, by omega⟩, if_pos h]
  · rw [if_neg (fun hh => h hh.1), if_neg h]
/-- The pieces at the head of a round of carries. -/
def crP (f : Nat → Nat) (k : Nat) : Nat → Nat := fun t => if t < k then limb (qs f 20) t else if t = k then f k + car f k else f t
theorem crP_start (f : Nat → Nat) : crP f 0 = f := by
  funext t
  unfold crP
  by_cases h : t = 0
  · subst h; simp [car_zero]
  · rw [if_neg (by omega), if_neg h]
theorem crP_end {f : Nat → Nat} (h : qs f 20 < B ^ 19) : ∀ t, t < 20 → crP f 19 t = limb (qs f 20) t := by
  intro t ht
  unfold crP
  by_cases h1 : t < 19
  · rw [if_pos h1]
  · obtain rfl : t = 19 := by omega
    rw [if_neg h1, if_pos rfl, car_top, Nat.div_eq_of_lt h, limb_top h]

/-! ### Which is the greater -/
theorem eq_of_limbs {m n : Nat} (hm : m < B ^ 20) (hn : n < B ^ 20) (h : ∀ i, i < 20 → limb m i = limb n i) : m = n := limbs_inj hm hn h
theorem limb_beyond {m k i : Nat} (h : m < B ^ k) (hi : k ≤ i) : limb m i = 0 := limb_top (Nat.lt_of_lt_of_le h (Nat.pow_le_pow_right (by decide) hi))
theorem lt_limbs {m n k : Nat} (hm : m < B ^ 20) (hn : n < B ^ 20) (h : ∀ i, k < i → i < 20 → limb m i = limb n i) (hk : limb m k < limb n k) : m < n :=
  lt_of_limb (K := 20) (fun i hi => by
    by_cases h0 : i < 20
    · exact h i hi h0
    · rw [limb_beyond hm (by omega), limb_beyond hn (by omega)]) hm hn hk
/-- The first piece, from the top, at which two numbers part. -/
theorem parts {m n : Nat} (hm : m < B ^ 20) (hn : n < B ^ 20) : m = n ∨ ∃ k, k < 20 ∧ (∀ i, k < i → i < 20 → limb m i = limb n i) ∧ limb m k ≠ limb n k := by
  have key : ∀ j, j ≤ 20 → (∀ i, 20 - j ≤ i → i < 20 → limb m i = limb n i) ∨ ∃ k, k < 20 ∧ (∀ i, k < i → i < 20 → limb m i = limb n i) ∧ limb m k ≠ limb n k := by
    intro j
    induction j with
    | zero => intro _; exact .inl fun i h1 h2 => by omega
    | succ j ih =>
      intro hj
      rcases ih (by omega) with h | h
      · by_cases he : limb m (20 - (j + 1)) = limb n (20 - (j + 1))
        · refine .inl fun i h1 h2 => ?_
          by_cases hi : i = 20 - (j + 1)
          · rw [hi]; exact he
          · exact h i (by omega) h2
        · exact .inr ⟨20 - (j + 1), by omega, fun i h1 h2 => h i (by omega) h2, he⟩
      · exact .inr h
  rcases key 20 (Nat.le_refl _) with h | h
  · exact .inl (eq_of_limbs hm hn fun i hi => h i (by omega) hi)
  · exact .inr h
/-- The first piece that is none. -/
theorem first_limb {m : Nat} (hm : m < B ^ 20) (h0 : 0 < m) : ∃ k, k < 20 ∧ (∀ i, i < k → limb m i = 0) ∧ 0 < limb m k := by
  have key : ∀ j, j ≤ 20 → (∀ i, i < j → limb m i = 0) ∨ ∃ k, k < 20 ∧ (∀ i, i < k → limb m i = 0) ∧ 0 < limb m k := by
    intro j
    induction j with
    | zero => intro _; exact .inl fun i h => by omega
    | succ j ih =>
      intro hj
      rcases ih (by omega) with h | h
      · rcases Nat.eq_zero_or_pos (limb m j) with he | he
        · refine .inl fun i hi => ?_
          by_cases hij : i = j
          · rw [hij]; exact he
          · exact h i (by omega)
        · exact .inr ⟨j, by omega, h, he⟩
      · exact .inr h
  rcases key 20 (Nat.le_refl _) with h | h
  · have := eq_of_limbs hm (n := 0) (Bpos 20) (fun i hi => by rw [h i hi, limb_zero])
    omega
  · exact h
end Go.Proofs.YtflgpkkbifkpoaaDoor.num
namespace Go.Proofs.YtflgpkkbifkpoaaDoor.num
/-! ### One round of a sum, store by store -/
def ad1 (m n i : Nat) : Nat → Nat := fun t => if t = i then limb m i + limb n i + car (adF m n) i else adP m n i t
def ad2 (m n i : Nat) : Nat → Nat := fun t => if t = i + 1 then limb m (i + 1) + car (adF m n) (i + 1) else ad1 m n i t
def limN (f : Nat → Nat) : Nat → Int := fun t => ((f t : Nat) : Int)
theorem limN_if {f g : Nat → Nat} {i v : Nat} (h : ∀ s, s < 20 → g s = if s = i then v else f s) : ∀ s, s < 20 → limN g s = if s = i then ((v : Nat) : Int) else limN f s := fun s hs => by
  unfold limN
  rw [h s hs]
  split <;> rfl
theorem ad1_is (m n i : Nat) : ∀ s, s < 20 → limN (ad1 m n i) s = if s = i then ((limb m i + limb n i + car (adF m n) i : Nat) : Int) else limN (adP m n i) s := limN_if fun _ _ => rfl
theorem ad2_is (m n i : Nat) : ∀ s, s < 20 → limN (ad2 m n i) s = if s = i + 1 then ((limb m (i + 1) + car (adF m n) (i + 1) : Nat) : Int) else limN (ad1 m n i) s := limN_if fun _ _ => rfl
theorem ad3_is (m n i : Nat) : ∀ s, s < 20 → limN (adP m n (i + 1)) s = if s = i then ((limb (m + n) i : Nat) : Int) else limN (ad2 m n i) s := limN_if fun s _ => by
  unfold ad2 ad1 adP
  by_cases h1 : s = i
  · subst h1; rw [if_pos (by omega), if_pos rfl]
  · rw [if_neg h1]
    by_cases h2 : s < i
    · rw [if_pos (by omega), if_neg (by omega), if_neg h1, if_pos h2]
    · rw [if_neg (by omega)]
      by_cases h3 : s = i + 1
      · subst h3; rw [if_pos rfl, if_pos rfl]
      · rw [if_neg h3, if_neg h3, if_neg h1, if_neg h2, if_neg h1]
theorem adP_at (m n i : Nat) : limN (adP m n i) i = ((limb m i + car (adF m n) i : Nat) : Int) := by simp [limN, adP]
theorem ad1_at (m n i : Nat) : limN (ad1 m n i) i = ((limb m i + limb n i + car (adF m n) i : Nat) : Int) := by simp [limN, ad1]
theorem ad1_nx (m n i : Nat) : limN (ad1 m n i) (i + 1) = ((limb m (i + 1) : Nat) : Int) := by
  have : ¬ i + 1 < i := by omega
  simp [limN, ad1, adP, this]
theorem ad2_at (m n i : Nat) : limN (ad2 m n i) i = ((limb m i + limb n i + car (adF m n) i : Nat) : Int) := by simp [limN, ad2, ad1]
theorem ad_b1 (m n i : Nat) : limb m i + limb n i + car (adF m n) i < 18446744073709551616 := by
  have h1 : limb m i < 65536 := limb_lt m i
  have h2 : limb n i < 65536 := limb_lt n i
  have h3 := car_le (adF_le m n) i
  omega
theorem ad_b2 (m n i : Nat) : limb m (i + 1) + car (adF m n) (i + 1) < 18446744073709551616 := by
  have h1 : limb m (i + 1) < 65536 := limb_lt m (i + 1)
  have h3 := car_le (adF_le m n) (i + 1)
  omega
theorem td_cast (a : Nat) (h : a < 18446744073709551616) : Value.int .u64 (IntKind.wrap .u64 (Int.tdiv (a : Int) 65536)) = .int .u64 ((a / 65536 : Nat) : Int) := by
  rw [Int.tdiv_eq_ediv_of_nonneg (by omega)]
  simp only [IntKind.wrap, IntKind.bits, IntKind.signed]
  congr 1
  simp
  omega
theorem tm_cast (a : Nat) : Value.int .u64 (Int.tmod (a : Int) 65536) = .int .u64 ((a % 65536 : Nat) : Int) := by
  rw [Int.tmod_eq_emod_of_nonneg (by omega)]; rfl
theorem ad_q (m n i : Nat) : Value.int .u64 (IntKind.wrap .u64 (Int.tdiv ((limb m i + limb n i + car (adF m n) i : Nat) : Int) 65536)) = .int .u64 ((car (adF m n) (i + 1) : Nat) : Int) := by
  rw [td_cast _ (ad_b1 m n i), ad_car]
theorem ad_r {m n i : Nat} (hm : m < B ^ 20) (hn : n < B ^ 20) (hi : i < 20) : Value.int .u64 (Int.tmod ((limb m i + limb n i + car (adF m n) i : Nat) : Int) 65536) = .int .u64 ((limb (m + n) i : Nat) : Int) := by
  rw [tm_cast, ad_limb hi hm hn]
end Go.Proofs.YtflgpkkbifkpoaaDoor.num
namespace Go.Proofs.YtflgpkkbifkpoaaDoor.num
/-! ### One round of a difference -/
def sbx (m n i : Nat) : Nat := limb m i + 65536 - limb n i - bor m n i
theorem sbP_start (m n : Nat) : sbP m n 0 = limb m := by
  funext t
  unfold sbP
  rw [if_neg (by omega)]
theorem sbP_end (m n : Nat) : ∀ t, t < 20 → sbP m n 20 t = limb (m - n) t := fun t ht => by unfold sbP; rw [if_pos ht]
theorem sb_at (m n i : Nat) : limN (sbP m n i) i = ((limb m i : Nat) : Int) := by simp [limN, sbP]
theorem sb_is (m n i : Nat) : ∀ s, s < 20 → limN (sbP m n (i + 1)) s = if s = i then ((limb (m - n) i : Nat) : Int) else limN (sbP m n i) s := limN_if fun s _ => by
  unfold sbP
  by_cases h1 : s = i
  · subst h1; rw [if_pos (by omega), if_pos rfl]
  · rw [if_neg h1]
    by_cases h2 : s < i
    · rw [if_pos (by omega), if_pos h2]
    · rw [if_neg (by omega), if_neg h2]
theorem limb_lt' (m i : Nat) : limb m i < 65536 := limb_lt m i
theorem sbx_lt (m n i : Nat) : sbx m n i < 131072 := by
  have h1 : limb m i < 65536 := limb_lt m i
  unfold sbx
  omega
theorem sb_r {m n : Nat} (h : n ≤ m) (i : Nat) : Value.int .u64 (Int.tmod ((sbx m n i : Nat) : Int) 65536) = .int .u64 ((limb (m - n) i : Nat) : Int) := by
  rw [tm_cast, sub_limb h]
  rfl
theorem sb_q (m n i : Nat) : Value.int .u64 (IntKind.wrap .u64 (Int.tdiv ((sbx m n i : Nat) : Int) 65536)) = .int .u64 ((sbx m n i / 65536 : Nat) : Int) := td_cast _ (by have := sbx_lt m n i; omega)
theorem sb_b (m n i : Nat) : (1 : Int) - ((sbx m n i / 65536 : Nat) : Int) = ((bor m n (i + 1) : Nat) : Int) := by
  rw [bor_succ]
  have := sbx_lt m n i
  unfold sbx at this ⊢
  omega
theorem sb_x (m n i : Nat) : ((limb m i + 65536 - limb n i : Nat) : Int) - ((bor m n i : Nat) : Int) = ((sbx m n i : Nat) : Int) := by
  have h1 : limb n i < 65536 := limb_lt n i
  have h2 := bor_le m n i
  unfold sbx
  omega

/-! ### One round of a row of products, and of carries -/
theorem mj_at (m n i j : Nat) : limN (mulJ m n i j) (i + j) = ((limb (m % B ^ i * n) (i + j) : Nat) : Int) := by simp [limN, mulJ]
theorem mj_is (m n i j : Nat) : ∀ s, s < 20 → limN (mulJ m n i (j + 1)) s = if s = i + j then ((limb (m % B ^ i * n) (i + j) + limb m i * limb n j : Nat) : Int) else limN (mulJ m n i j) s := limN_if fun s _ => by
  unfold mulJ
  by_cases h1 : s = i + j
  · subst h1
    rw [if_pos (by omega), if_pos rfl, show i + j - i = j by omega]
  · rw [if_neg h1]
    by_cases h2 : i ≤ s ∧ s < i + j
    · rw [if_pos (by omega), if_pos h2]
    · rw [if_neg (by omega), if_neg h2]
theorem mj_b (m n i j t : Nat) : limb (m % B ^ i * n) t + limb m i * limb n j < 18446744073709551616 := by
  have h1 : limb (m % B ^ i * n) t < 65536 := limb_lt _ t
  have h2 := mul_le m n i j
  omega
def cr1 (f : Nat → Nat) (k : Nat) : Nat → Nat := fun t => if t = k + 1 then f (k + 1) + car f (k + 1) else crP f k t
theorem cr_at (f : Nat → Nat) (k : Nat) : limN (crP f k) k = ((f k + car f k : Nat) : Int) := by simp [limN, crP]
theorem cr_nx (f : Nat → Nat) (k : Nat) : limN (crP f k) (k + 1) = ((f (k + 1) : Nat) : Int) := by
  have : ¬ k + 1 < k := by omega
  simp [limN, crP, this]
theorem cr1_at (f : Nat → Nat) (k : Nat) : limN (cr1 f k) k = ((f k + car f k : Nat) : Int) := by simp [limN, cr1, crP]
theorem cr1_is (f : Nat → Nat) (k : Nat) : ∀ s, s < 20 → limN (cr1 f k) s = if s = k + 1 then ((f (k + 1) + car f (k + 1) : Nat) : Int) else limN (crP f k) s := limN_if fun _ _ => rfl
theorem cr2_is (f : Nat → Nat) (k : Nat) : ∀ s, s < 20 → limN (crP f (k + 1)) s = if s = k then ((limb (qs f 20) k : Nat) : Int) else limN (cr1 f k) s := limN_if fun s _ => by
  unfold cr1 crP
  by_cases h1 : s = k
  · subst h1; rw [if_pos (by omega), if_pos rfl]
  · rw [if_neg h1]
    by_cases h2 : s < k
    · rw [if_pos (by omega), if_neg (by omega), if_pos h2]
    · rw [if_neg (by omega)]
      by_cases h3 : s = k + 1
      · subst h3; rw [if_pos rfl, if_pos rfl]
      · rw [if_neg h3, if_neg h3, if_neg h2, if_neg h1]
theorem cr_q {f : Nat → Nat} (h : ∀ i, f i ≤ 4294901760) (k : Nat) : Value.int .u64 (IntKind.wrap .u64 (Int.tdiv ((f k + car f k : Nat) : Int) 65536)) = .int .u64 ((car f (k + 1) : Nat) : Int) := by
  have h1 := h k
  have h2 := car_le h k
  rw [td_cast _ (by omega), car_succ]
theorem cr_r (f : Nat → Nat) {k : Nat} (hk : k < 20) : Value.int .u64 (Int.tmod ((f k + car f k : Nat) : Int) 65536) = .int .u64 ((limb (qs f 20) k : Nat) : Int) := by
  rw [tm_cast, limb_car f hk]
theorem cr_b {f : Nat → Nat} (h : ∀ i, f i ≤ 4294901760) (k : Nat) : f k + car f k < 18446744073709551616 := by
  have h1 := h k
  have h2 := car_le h k
  omega
end Go.Proofs.YtflgpkkbifkpoaaDoor.num
