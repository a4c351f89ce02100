/- Wide numbers: what Of, Add, Sub, size come to, as whole numbers; products by 10, quotients by 10^18. wide.signed, Scale by 10, Div by 10^18, by halves, over what is below them. Wide numbers: Scale by 10, Div by 10^18, as whole numbers. -/
import Derived.Test.YtflgpkkbifkpoaaGreatDoorRows
import Derived.Test.YtflgpkkbifkpoaaGreatDoorWideAa
import Derived.Test.YtflgpkkbifkpoaaGreatDoorDgLay
namespace Go.Proofs.YtflgpkkbifkpoaaGreatDoor.num
open Go.Dg (junk St Ex Ev Hint evCall evLoop bodied noOver Flats flatOver Heap AObj lay noO)
set_option linter.unusedVariables false

def L1W : List FuncId := [25, 24, 54, 51, 62, 52]
noncomputable def p1 : FuncId → List Value → Option Value := lay Tryz.prog (bodied Tryz.prog) noOver sbs 1000 20 L1W noO
noncomputable abbrev ovp1 : Ev := flatOver p1
theorem p1_flats : ∀ f args v, p1 f args = some v → Flats Tryz.prog f args v := Dg.lay_flats mixed okB Dg.noOver_ok (by kernel_rfl) Dg.noO_flats
theorem of_w {n : Int} (h : I64 n) : p1 25 [.int .i64 n] = some (wv n) := by
  unfold I64 at h
  rcases Int.lt_or_le n 0 with h0 | h0
  · rw [wv_eq (v := n) (h := -1) (l := n + 18446744073709551616) (by omega) (by omega)]
    exact Dg.lay_told rfl (wof_n n _ h0 (by omega) rfl) rfl rfl
  · rw [wv_eq (v := n) (h := 0) (l := n) (by omega) (by omega)]
    exact Dg.lay_told rfl (wof_p n h0 (by omega)) rfl rfl
theorem add_w {a b : Int} (ha : InW a) (hb : InW b) : p1 24 [wv a, wv b] = some (wv (clampW (a + b))) := by
  obtain ⟨ah, al, e1, e2, e3, e4⟩ := wv_parts ha
  obtain ⟨bh, bl, f1, f2, f3, f4⟩ := wv_parts hb
  rw [e1, f1]
  generalize hua : ah % 18446744073709551616 = ua
  generalize hub : bh % 18446744073709551616 = ub
  generalize hlo : (al + bl + (0 : Nat)) % 18446744073709551616 = lo
  have hU : ∀ x : Int, U64 (x % 18446744073709551616) := fun x => by unfold U64; omega
  have ua1 : U64 ua := hua ▸ hU _
  have ub1 : U64 ub := hub ▸ hU _
  have key : ∀ c : Nat, c ≤ 1 → (al + bl + (0 : Nat)) / 18446744073709551616 = c → ∀ hu h : Int, (ua + ub + c) % 18446744073709551616 = hu → (hu + 9223372036854775808) % 18446744073709551616 - 9223372036854775808 = h → I64 h ∧ lo = al + bl - c * 18446744073709551616 ∧
      (¬ an (xr ah h) (xr bh h) < 0 → wv (clampW (a + b)) = wd h lo) ∧ (an (xr ah h) (xr bh h) < 0 → ah < 0 → wv (clampW (a + b)) = wd (-9223372036854775808) 0) ∧ (an (xr ah h) (xr bh h) < 0 → 0 ≤ ah → wv (clampW (a + b)) = wd 9223372036854775807 18446744073709551615) := by
    intro c hc hcc hu h hhu hh
    have hI : I64 h := by unfold I64; omega
    have hl : lo = al + bl - c * 18446744073709551616 := by omega
    rw [over_is e4 f4 hI]
    unfold I64 at e4 f4 hI
    refine ⟨hI, hl, fun ho => ?_, fun ho h0 => ?_, fun ho h0 => ?_⟩
    · have hs : h = ah + bh + c := by omega
      rw [clamp_id (by unfold InW; omega)]
      exact wv_eq (by omega) (by omega)
    · have : clampW (a + b) = -170141183460469231731687303715884105728 := by unfold clampW; rw [if_pos (by omega)]
      rw [this]
      exact wv_eq (by omega) (by omega)
    · have : clampW (a + b) = 170141183460469231731687303715884105727 := by unfold clampW; rw [if_neg (by omega), if_pos (by omega)]
      rw [this]
      exact wv_eq (by omega) (by omega)
  rcases (show (al + bl + (0 : Nat)) / 18446744073709551616 = (0 : Nat) ∨ (al + bl + (0 : Nat)) / 18446744073709551616 = (1 : Nat) by omega) with hc | hc
  · obtain ⟨k0, k1, k2, k3, k4⟩ := key 0 (by omega) hc _ _ rfl rfl
    by_cases ho : an (xr ah ((((ua + ub + (0 : Nat)) % 18446744073709551616) + 9223372036854775808) % 18446744073709551616 - 9223372036854775808)) (xr bh ((((ua + ub + (0 : Nat)) % 18446744073709551616) + 9223372036854775808) % 18446744073709551616 - 9223372036854775808)) < 0
    · by_cases h0 : ah < 0
      · rw [k3 ho h0]
        exact Dg.lay_told rfl (wadd0l ah al bh bl lo ua ub _ _ _ _ _ e3 f3 ua1 ub1 hua hub hlo hc rfl rfl rfl rfl rfl ho h0) rfl rfl
      · rw [k4 ho (by omega)]
        exact Dg.lay_told rfl (wadd0m ah al bh bl lo ua ub _ _ _ _ _ e3 f3 ua1 ub1 hua hub hlo hc rfl rfl rfl rfl rfl ho (by omega)) rfl rfl
    · rw [k2 ho]
      exact Dg.lay_told rfl (wadd0n ah al bh bl lo ua ub _ _ _ _ _ e3 f3 ua1 ub1 hua hub hlo hc rfl rfl rfl rfl rfl (by omega)) rfl rfl
  · obtain ⟨k0, k1, k2, k3, k4⟩ := key 1 (by omega) hc _ _ rfl rfl
    by_cases ho : an (xr ah ((((ua + ub + (1 : Nat)) % 18446744073709551616) + 9223372036854775808) % 18446744073709551616 - 9223372036854775808)) (xr bh ((((ua + ub + (1 : Nat)) % 18446744073709551616) + 9223372036854775808) % 18446744073709551616 - 9223372036854775808)) < 0
    · by_cases h0 : ah < 0
      · rw [k3 ho h0]
        exact Dg.lay_told rfl (wadd1l ah al bh bl lo ua ub _ _ _ _ _ e3 f3 ua1 ub1 hua hub hlo hc rfl rfl rfl rfl rfl ho h0) rfl rfl
      · rw [k4 ho (by omega)]
        exact Dg.lay_told rfl (wadd1m ah al bh bl lo ua ub _ _ _ _ _ e3 f3 ua1 ub1 hua hub hlo hc rfl rfl rfl rfl rfl ho (by omega)) rfl rfl
    · rw [k2 ho]
      exact Dg.lay_told rfl (wadd1n ah al bh bl lo ua ub _ _ _ _ _ e3 f3 ua1 ub1 hua hub hlo hc rfl rfl rfl rfl rfl (by omega)) rfl rfl
theorem sub_w {a b : Int} (ha : InW a) (hb : InW b) : p1 54 [wv a, wv b] = some (wv (clampW (a - b))) := by
  obtain ⟨ah, al, e1, e2, e3, e4⟩ := wv_parts ha
  obtain ⟨bh, bl, f1, f2, f3, f4⟩ := wv_parts hb
  rw [e1, f1]
  generalize hua : ah % 18446744073709551616 = ua
  generalize hub : bh % 18446744073709551616 = ub
  generalize hlo : (al - bl - (0 : Nat)) % 18446744073709551616 = lo
  have hU : ∀ x : Int, U64 (x % 18446744073709551616) := fun x => by unfold U64; omega
  have ua1 : U64 ua := hua ▸ hU _
  have ub1 : U64 ub := hub ▸ hU _
  have key : ∀ c : Nat, c ≤ 1 → ((c = 1 ∧ al < bl + (0 : Nat)) ∨ (c = 0 ∧ ¬ al < bl + (0 : Nat))) → ∀ hu h : Int, (ua - ub - c) % 18446744073709551616 = hu → (hu + 9223372036854775808) % 18446744073709551616 - 9223372036854775808 = h → I64 h ∧
      (¬ an (xr ah bh) (xr ah h) < 0 → wv (clampW (a - b)) = wd h lo) ∧ (an (xr ah bh) (xr ah h) < 0 → ah < 0 → wv (clampW (a - b)) = wd (-9223372036854775808) 0) ∧ (an (xr ah bh) (xr ah h) < 0 → 0 ≤ ah → wv (clampW (a - b)) = wd 9223372036854775807 18446744073709551615) := by
    intro c hc hcc hu h hhu hh
    have hI : I64 h := by unfold I64; omega
    have hl : lo = al - bl + c * 18446744073709551616 := by omega
    rw [overS_is e4 f4 hI]
    unfold I64 at e4 f4 hI
    refine ⟨hI, fun ho => ?_, fun ho h0 => ?_, fun ho h0 => ?_⟩
    · have hs : h = ah - bh - c := by omega
      rw [clamp_id (by unfold InW; omega)]
      exact wv_eq (by omega) (by omega)
    · have : clampW (a - b) = -170141183460469231731687303715884105728 := by unfold clampW; rw [if_pos (by omega)]
      rw [this]
      exact wv_eq (by omega) (by omega)
    · have : clampW (a - b) = 170141183460469231731687303715884105727 := by unfold clampW; rw [if_neg (by omega), if_pos (by omega)]
      rw [this]
      exact wv_eq (by omega) (by omega)
  by_cases hc : al < bl + (0 : Nat)
  · obtain ⟨k0, k2, k3, k4⟩ := key 1 (by omega) (.inl ⟨rfl, hc⟩) _ _ rfl rfl
    by_cases ho : an (xr ah bh) (xr ah ((((ua - ub - (1 : Nat)) % 18446744073709551616) + 9223372036854775808) % 18446744073709551616 - 9223372036854775808)) < 0
    · by_cases h0 : ah < 0
      · rw [k3 ho h0]
        exact Dg.lay_told rfl (wsub1l ah al bh bl lo ua ub _ _ _ _ _ e3 f3 ua1 ub1 hua hub hlo hc rfl rfl rfl rfl rfl ho h0) rfl rfl
      · rw [k4 ho (by omega)]
        exact Dg.lay_told rfl (wsub1m ah al bh bl lo ua ub _ _ _ _ _ e3 f3 ua1 ub1 hua hub hlo hc rfl rfl rfl rfl rfl ho (by omega)) rfl rfl
    · rw [k2 ho]
      exact Dg.lay_told rfl (wsub1n ah al bh bl lo ua ub _ _ _ _ _ e3 f3 ua1 ub1 hua hub hlo hc rfl rfl rfl rfl rfl (by omega)) rfl rfl
  · obtain ⟨k0, k2, k3, k4⟩ := key 0 (by omega) (.inr ⟨rfl, hc⟩) _ _ rfl rfl
    by_cases ho : an (xr ah bh) (xr ah ((((ua - ub - (0 : Nat)) % 18446744073709551616) + 9223372036854775808) % 18446744073709551616 - 9223372036854775808)) < 0
    · by_cases h0 : ah < 0
      · rw [k3 ho h0]
        exact Dg.lay_told rfl (wsub0l ah al bh bl lo ua ub _ _ _ _ _ e3 f3 ua1 ub1 hua hub hlo hc rfl rfl rfl rfl rfl ho h0) rfl rfl
      · rw [k4 ho (by omega)]
        exact Dg.lay_told rfl (wsub0m ah al bh bl lo ua ub _ _ _ _ _ e3 f3 ua1 ub1 hua hub hlo hc rfl rfl rfl rfl rfl ho (by omega)) rfl rfl
    · rw [k2 ho]
      exact Dg.lay_told rfl (wsub0n ah al bh bl lo ua ub _ _ _ _ _ e3 f3 ua1 ub1 hua hub hlo hc rfl rfl rfl rfl rfl (by omega)) rfl rfl
/-- How far a number is from 0, by halves. -/
def szv (v : Int) : Value := .tuple #[.int .u64 ((v.natAbs : Int) / 18446744073709551616), .int .u64 ((v.natAbs : Int) % 18446744073709551616)]
theorem szv_eq {v h l : Int} (hv : (v.natAbs : Int) = h * 18446744073709551616 + l) (hl : 0 ≤ l ∧ l < 18446744073709551616) : szv v = .tuple #[.int .u64 h, .int .u64 l] := by
  unfold szv
  have e1 : (v.natAbs : Int) / 18446744073709551616 = h := by omega
  have e2 : (v.natAbs : Int) % 18446744073709551616 = l := by omega
  rw [e1, e2]
theorem size_w {a : Int} (ha : InW a) : p1 51 [wv a] = some (szv a) := by
  obtain ⟨ah, al, e1, e2, e3, e4⟩ := wv_parts ha
  have e4' := e4
  unfold I64 at e4
  rw [e1]
  by_cases h0 : 0 ≤ ah
  · rw [szv_eq (v := a) (h := ah) (l := al) (by omega) e3]
    exact Dg.lay_told rfl (wsize_p ah al e4' h0 e3) rfl rfl
  · by_cases h1 : al = 0
    · rw [szv_eq (v := a) (h := -ah) (l := 0) (by omega) (by omega)]
      have := wsize_n0 ah al (ah % 18446744073709551616) 0 (-ah) e4' (by omega) e3 h1 rfl (by omega) (by omega)
      exact Dg.lay_told rfl this rfl rfl
    · rw [szv_eq (v := a) (h := -ah - 1) (l := 18446744073709551616 - al) (by omega) (by omega)]
      have := wsize_n1 ah al (ah % 18446744073709551616) (18446744073709551616 - al) (-ah - 1) e4' (by omega) e3 (by omega) rfl (by omega) (by omega)
      exact Dg.lay_told rfl this rfl rfl
theorem mul10_w {x : Int} (hx : U64 x) : p1 62 [.int .u64 x, .int .u64 10] = some (.tuple #[.int .u64 (x * 10 / 18446744073709551616), .int .u64 (x * 10 % 18446744073709551616)]) := by
  have h := wmul10 x _ _ _ _ _ _ _ _ _ hx rfl rfl rfl rfl rfl rfl rfl rfl rfl
  have e : (x / 4294967296 * 10 + x % 4294967296 * 10 / 4294967296) / 4294967296 = x * 10 / 18446744073709551616 := by omega
  rw [e] at h
  exact Dg.lay_told rfl h rfl rfl
/-- One digit: what the estimate and its one round come to. -/
theorem digit1 {u n q r : Int} (hu : 0 ≤ u ∧ u < 16000000000000000000) (hn : 0 ≤ n ∧ n < 4294967296) (hq : u / 3725290298 = q) (hr : u - q * 3725290298 = r) :
    (0 ≤ q ∧ q ≤ 4294967296) ∧ (0 ≤ r ∧ r < 4294967296) ∧
    ((q < 4294967296 ∧ q * 1983905792 ≤ 4294967296 * r + n ∧ 0 ≤ u * 4294967296 + n - q * 16000000000000000000 ∧ u * 4294967296 + n - q * 16000000000000000000 < 16000000000000000000) ∨
    ((q = 4294967296 ∨ q < 4294967296 ∧ 4294967296 * r + n < q * 1983905792) ∧ 0 ≤ u * 4294967296 + n - (q - 1) * 16000000000000000000 ∧ u * 4294967296 + n - (q - 1) * 16000000000000000000 < 16000000000000000000 ∧
      (4294967296 ≤ r + 3725290298 ∨ r + 3725290298 < 4294967296 ∧ q - 1 < 4294967296 ∧ (q - 1) * 1983905792 ≤ 4294967296 * (r + 3725290298) + n))) := by
  omega
theorem loopD1 {h l u n10 n1 n0 q r : Int} (hu : 0 ≤ u ∧ u < 16000000000000000000) (hn : 0 ≤ n1 ∧ n1 < 4294967296) (hq : u / 3725290298 = q) (hr : u - q * 3725290298 = r) :
    ∃ (q' r' : Int), (0 ≤ u * 4294967296 + n1 - q' * 16000000000000000000 ∧ u * 4294967296 + n1 - q' * 16000000000000000000 < 16000000000000000000) ∧ ∃ t0 t1 t2 t3 t4 t5 t6 t7 t8 t9 t10 t11 t12 t13 t14 t15 t16 t17 t18 : Value, ∀ s0, clD lD1 s0 = SD1 h l u n10 n1 n0 q r → evLoop (runD lD1) (clD lD1) 1000 s0 = some (.exit 0, ED1 h l u n10 n1 n0 q' r' t0 t1 t2 t3 t4 t5 t6 t7 t8 t9 t10 t11 t12 t13 t14 t15 t16 t17 t18) := by
  obtain ⟨hq1, hr1, ⟨c1, c2, c3⟩ | ⟨c1, c2, c3, c4⟩⟩ := digit1 hu hn hq hr
  · exact ⟨q, r, c3, _, _, _, _, _, _, _, _, _, _, _, _, _, _, _, _, _, _, _, fun s0 h0 => Dg.evLoop_stop h0 (dl1a h l u n10 n1 n0 q r _ _ _ rfl rfl rfl hq1 hr1 hn c1 c2) (by simp)⟩
  · rcases c4 with c4 | ⟨c4, c5, c6⟩
    · rcases c1 with c1 | ⟨c1, c1'⟩
      · exact ⟨q - 1, r + 3725290298, ⟨c2, c3⟩, _, _, _, _, _, _, _, _, _, _, _, _, _, _, _, _, _, _, _, fun s0 h0 => Dg.evLoop_stop h0 (dl1b1 h l u n10 n1 n0 q r _ _ c1 hq1 hr1 hn rfl rfl c4) (by simp)⟩
      · exact ⟨q - 1, r + 3725290298, ⟨c2, c3⟩, _, _, _, _, _, _, _, _, _, _, _, _, _, _, _, _, _, _, _, fun s0 h0 => Dg.evLoop_stop h0 (dl1b2 h l u n10 n1 n0 q r _ _ _ _ _ rfl rfl rfl c1 c1' hq1 hr1 hn rfl rfl c4) (by simp)⟩
    · have hx : ∃ s', runD lD1 (SD1 h l u n10 n1 n0 q r) = some (.normal, s') ∧ clD lD1 s' = SD1 h l u n10 n1 n0 (q - 1) (r + 3725290298) := by
        rcases c1 with c1 | ⟨c1, c1'⟩
        · exact dl1c1 h l u n10 n1 n0 q r _ _ c1 hq1 hr1 hn rfl rfl c4
        · exact dl1c2 h l u n10 n1 n0 q r _ _ _ _ _ rfl rfl rfl c1 c1' hq1 hr1 hn rfl rfl c4
      obtain ⟨s', hx1, hx2⟩ := hx
      exact ⟨q - 1, r + 3725290298, ⟨c2, c3⟩, _, _, _, _, _, _, _, _, _, _, _, _, _, _, _, _, _, _, _, fun s0 h0 => (Dg.evLoop_step h0 hx1).trans (Dg.evLoop_stop hx2 (dl1a h l u n10 n1 n0 (q - 1) (r + 3725290298) _ _ _ rfl rfl rfl (by omega) (by omega) hn c5 c6) (by simp))⟩
theorem loopD2 {h l u n10 n1 n0 q1 w q r : Int} (hu : 0 ≤ w ∧ w < 16000000000000000000) (hn : 0 ≤ n0 ∧ n0 < 4294967296) (hq : w / 3725290298 = q) (hr : w - q * 3725290298 = r) :
    ∃ (q' r' : Int), (0 ≤ w * 4294967296 + n0 - q' * 16000000000000000000 ∧ w * 4294967296 + n0 - q' * 16000000000000000000 < 16000000000000000000) ∧ ∃ t0 t1 t2 t3 t4 t5 t6 t7 t8 t9 t10 t11 t12 t13 t14 t15 t16 t17 t18 : Value, ∀ s0, clD lD2 s0 = SD2 h l u n10 n1 n0 q1 r w q → evLoop (runD lD2) (clD lD2) 1000 s0 = some (.exit 2, ED2 h l u n10 n1 n0 q1 r' w q' t0 t1 t2 t3 t4 t5 t6 t7 t8 t9 t10 t11 t12 t13 t14 t15 t16 t17 t18) := by
  obtain ⟨hq1, hr1, ⟨c1, c2, c3⟩ | ⟨c1, c2, c3, c4⟩⟩ := digit1 hu hn hq hr
  · exact ⟨q, r, c3, _, _, _, _, _, _, _, _, _, _, _, _, _, _, _, _, _, _, _, fun s0 h0 => Dg.evLoop_stop h0 (dl2a h l u n10 n1 n0 q1 q r w _ _ _ rfl rfl rfl hq1 hr1 hn c1 c2) (by simp)⟩
  · rcases c4 with c4 | ⟨c4, c5, c6⟩
    · rcases c1 with c1 | ⟨c1, c1'⟩
      · exact ⟨q - 1, r + 3725290298, ⟨c2, c3⟩, _, _, _, _, _, _, _, _, _, _, _, _, _, _, _, _, _, _, _, fun s0 h0 => Dg.evLoop_stop h0 (dl2b1 h l u n10 n1 n0 q1 q r w _ _ c1 hq1 hr1 hn rfl rfl c4) (by simp)⟩
      · exact ⟨q - 1, r + 3725290298, ⟨c2, c3⟩, _, _, _, _, _, _, _, _, _, _, _, _, _, _, _, _, _, _, _, fun s0 h0 => Dg.evLoop_stop h0 (dl2b2 h l u n10 n1 n0 q1 q r w _ _ _ _ _ rfl rfl rfl c1 c1' hq1 hr1 hn rfl rfl c4) (by simp)⟩
    · have hx : ∃ s', runD lD2 (SD2 h l u n10 n1 n0 q1 r w q) = some (.normal, s') ∧ clD lD2 s' = SD2 h l u n10 n1 n0 q1 (r + 3725290298) w (q - 1) := by
        rcases c1 with c1 | ⟨c1, c1'⟩
        · exact dl2c1 h l u n10 n1 n0 q1 q r w _ _ c1 hq1 hr1 hn rfl rfl c4
        · exact dl2c2 h l u n10 n1 n0 q1 q r w _ _ _ _ _ rfl rfl rfl c1 c1' hq1 hr1 hn rfl rfl c4
      obtain ⟨s', hx1, hx2⟩ := hx
      exact ⟨q - 1, r + 3725290298, ⟨c2, c3⟩, _, _, _, _, _, _, _, _, _, _, _, _, _, _, _, _, _, _, _, fun s0 h0 => (Dg.evLoop_step h0 hx1).trans (Dg.evLoop_stop hx2 (dl2a h l u n10 n1 n0 q1 (q - 1) (r + 3725290298) w _ _ _ rfl rfl rfl (by omega) (by omega) hn c5 c6) (by simp))⟩
theorem div64_w {h l : Int} (h0 : 0 ≤ h) (h1 : h < 1000000000000000000) (hl : U64 l) : p1 52 [.int .u64 h, .int .u64 l, .int .u64 1000000000000000000] =
    some (.tuple #[.int .u64 ((h * 18446744073709551616 + l) / 1000000000000000000), .int .u64 ((h * 18446744073709551616 + l) % 1000000000000000000)]) := by
  rcases Int.lt_or_le 0 h with hp | hp
  · have hl' := hl
    unfold U64 at hl
    generalize ea : h * 16 = a
    generalize eb : l / 1152921504606846976 = b
    generalize eu : a + b = u
    generalize e10 : l * 16 % 18446744073709551616 = n10
    generalize e1 : n10 / 4294967296 = n1
    generalize e0 : n10 % 4294967296 = n0
    have hu : 0 ≤ u ∧ u < 16000000000000000000 := by omega
    have hn1 : 0 ≤ n1 ∧ n1 < 4294967296 := by omega
    have hn0 : 0 ≤ n0 ∧ n0 < 4294967296 := by omega
    have hall : u * 18446744073709551616 + n1 * 4294967296 + n0 = (h * 18446744073709551616 + l) * 16 := by omega
    generalize eq : u / 3725290298 = q
    generalize em : q * 3725290298 = m
    generalize er : u - m = r
    obtain ⟨q', r', hq', t0, t1, t2, t3, t4, t5, t6, t7, t8, t9, t10, t11, t12, t13, t14, t15, t16, t17, t18, hL1⟩ := loopD1 (h := h) (l := l) (n10 := n10) (n0 := n0) (r := r) hu hn1 eq (by omega)
    generalize ew : u * 4294967296 + n1 - q' * 16000000000000000000 = w at hq'
    generalize eq2 : w / 3725290298 = q2
    generalize em2 : q2 * 3725290298 = m2
    generalize er2 : w - m2 = r2
    obtain ⟨q2', r2', hq2', c0, c1, c2, c3, c4, c5, c6, c7, c8, c9, c10, c11, c12, c13, c14, c15, c16, c17, c18, hL2⟩ := loopD2 (h := h) (l := l) (u := u) (n10 := n10) (n1 := n1) (q1 := q') (r := r2) hq' hn0 eq2 (by omega)
    generalize eR : w * 4294967296 + n0 - q2' * 16000000000000000000 = R16 at hq2'
    have hR : (q' * 4294967296 + q2') * 16000000000000000000 + R16 = (h * 18446744073709551616 + l) * 16 := by omega
    have hQ : 0 ≤ q' * 4294967296 + q2' ∧ q' * 4294967296 + q2' < 18446744073709551616 := by omega
    have f1 : (h * 18446744073709551616 + l) / 1000000000000000000 = q' * 4294967296 + q2' := by omega
    have f2 : (h * 18446744073709551616 + l) % 1000000000000000000 = R16 / 16 := by omega
    rw [f1, f2]
    exact Dg.lay_told rfl (dvt h l a b u n10 n1 n0 q m r q' r' _ _ _ w q2 m2 r2 q2' r2' _ (q' * 4294967296 + q2') _ _ _ R16 _ t0 t1 t2 t3 t4 t5 t6 t7 t8 t9 t10 t11 t12 t13 t14 t15 t16 t17 t18 c0 c1 c2 c3 c4 c5 c6 c7 c8 c9 c10 c11 c12 c13 c14 c15 c16 c17 c18 hp h1 hl' ea eb eu e10 e1 e0 eq em er
      rfl rfl rfl (by omega) eq2 em2 er2 rfl (by omega) rfl rfl rfl (by omega) rfl hq'.1 (by omega) hL1 hL2) rfl rfl
  · obtain rfl : h = 0 := by omega
    simp only [Int.zero_mul, Int.zero_add]
    exact Dg.lay_told rfl (dv0 l _ _ hl rfl rfl) rfl rfl
end Go.Proofs.YtflgpkkbifkpoaaGreatDoor.num

namespace Go.Proofs.YtflgpkkbifkpoaaGreatDoor.num
open Go.Dg (junk St Ex Ev Hint evCall evCallS evCode evCodeK innerKp evCodeS evLoop cleanSt ue bodied noOver sbOf headOf tailOf bodyOf rAssign rBody lBody Flats flatOver Heap AObj SCall Law ofLaw Fix lay noO)
set_option linter.unusedVariables false
set_option linter.unusedSimpArgs false

--< sg_over_t
theorem sg_over_t (h : Int) (l : Int) :
    evCall Tryz.prog 0 (bodied Tryz.prog) ovp1 sbs 1000 20 53 [Value.int IntKind.u64 h, Value.int IntKind.u64 l, Value.bool true, Value.bool true] { n := 0, objs := [] } = some (Value.agg #[Value.int IntKind.i64 (-9223372036854775808), Value.int IntKind.u64 0], { n := 0, objs := [] }, []) :=
  Dg.evCall_hint (hs' := []) (hs := [])
    [] (by kernel_rfl)
    trivial
--> sg_over_t
--< sg_big_t
theorem sg_big_t (h : Int) (l : Int) (h0 : 9223372036854775808 < h) :
    evCall Tryz.prog 0 (bodied Tryz.prog) ovp1 sbs 1000 20 53 [Value.int IntKind.u64 h, Value.int IntKind.u64 l, Value.bool true, Value.bool false] { n := 0, objs := [] } = some (Value.agg #[Value.int IntKind.i64 (-9223372036854775808), Value.int IntKind.u64 0], { n := 0, objs := [] }, []) :=
  Dg.evCall_hint (hs' := []) (hs := [Hint.val 53 13 (Value.bool true)])
    [Value.bool (decide (h > (9223372036854775808 : Int))) = Value.bool true] (by kernel_rfl)
    ⟨Dg.vtrue (by omega), trivial⟩
--> sg_big_t
--< sg_eqb_t
theorem sg_eqb_t (l : Int) (h0 : 0 < l) :
    evCall Tryz.prog 0 (bodied Tryz.prog) ovp1 sbs 1000 20 53 [Value.int IntKind.u64 9223372036854775808, Value.int IntKind.u64 l, Value.bool true, Value.bool false] { n := 0, objs := [] } = some (Value.agg #[Value.int IntKind.i64 (-9223372036854775808), Value.int IntKind.u64 0], { n := 0, objs := [] }, []) :=
  Dg.evCall_hint (hs' := []) (hs := [Hint.val 53 20 (Value.bool true)])
    [Value.bool (decide (l > (0 : Int))) = Value.bool true] (by kernel_rfl)
    ⟨Dg.vtrue (by omega), trivial⟩
--> sg_eqb_t
--< sg_over_f
theorem sg_over_f (h : Int) (l : Int) :
    evCall Tryz.prog 0 (bodied Tryz.prog) ovp1 sbs 1000 20 53 [Value.int IntKind.u64 h, Value.int IntKind.u64 l, Value.bool false, Value.bool true] { n := 0, objs := [] } = some (Value.agg #[Value.int IntKind.i64 9223372036854775807, Value.int IntKind.u64 18446744073709551615], { n := 0, objs := [] }, []) :=
  Dg.evCall_hint (hs' := []) (hs := [])
    [] (by kernel_rfl)
    trivial
--> sg_over_f
--< sg_big_f
theorem sg_big_f (h : Int) (l : Int) (h0 : 9223372036854775808 < h) :
    evCall Tryz.prog 0 (bodied Tryz.prog) ovp1 sbs 1000 20 53 [Value.int IntKind.u64 h, Value.int IntKind.u64 l, Value.bool false, Value.bool false] { n := 0, objs := [] } = some (Value.agg #[Value.int IntKind.i64 9223372036854775807, Value.int IntKind.u64 18446744073709551615], { n := 0, objs := [] }, []) :=
  Dg.evCall_hint (hs' := []) (hs := [Hint.val 53 13 (Value.bool true)])
    [Value.bool (decide (h > (9223372036854775808 : Int))) = Value.bool true] (by kernel_rfl)
    ⟨Dg.vtrue (by omega), trivial⟩
--> sg_big_f
--< sg_eqb_f
theorem sg_eqb_f (l : Int) (h0 : 0 < l) :
    evCall Tryz.prog 0 (bodied Tryz.prog) ovp1 sbs 1000 20 53 [Value.int IntKind.u64 9223372036854775808, Value.int IntKind.u64 l, Value.bool false, Value.bool false] { n := 0, objs := [] } = some (Value.agg #[Value.int IntKind.i64 9223372036854775807, Value.int IntKind.u64 18446744073709551615], { n := 0, objs := [] }, []) :=
  Dg.evCall_hint (hs' := []) (hs := [Hint.val 53 20 (Value.bool true)])
    [Value.bool (decide (l > (0 : Int))) = Value.bool true] (by kernel_rfl)
    ⟨Dg.vtrue (by omega), trivial⟩
--> sg_eqb_f
--< sg_eqn
theorem sg_eqn :
    evCall Tryz.prog 0 (bodied Tryz.prog) ovp1 sbs 1000 20 53 [Value.int IntKind.u64 9223372036854775808, Value.int IntKind.u64 0, Value.bool false, Value.bool false] { n := 0, objs := [] } = some (Value.agg #[Value.int IntKind.i64 9223372036854775807, Value.int IntKind.u64 18446744073709551615], { n := 0, objs := [] }, []) :=
  Dg.evCall_hint (hs' := []) (hs := [])
    [] (by kernel_rfl)
    trivial
--> sg_eqn
--< sg_min
theorem sg_min :
    evCall Tryz.prog 0 (bodied Tryz.prog) ovp1 sbs 1000 20 53 [Value.int IntKind.u64 9223372036854775808, Value.int IntKind.u64 0, Value.bool true, Value.bool false] { n := 0, objs := [] } = some (Value.agg #[Value.int IntKind.i64 (-9223372036854775808), Value.int IntKind.u64 0], { n := 0, objs := [] }, []) :=
  Dg.evCall_hint (hs' := []) (hs := [])
    [] (by kernel_rfl)
    trivial
--> sg_min
--< sg_pos
theorem sg_pos (h : Int) (l : Int) (h0 : 0 ≤ h ∧ h < 9223372036854775808) :
    evCall Tryz.prog 0 (bodied Tryz.prog) ovp1 sbs 1000 20 53 [Value.int IntKind.u64 h, Value.int IntKind.u64 l, Value.bool false, Value.bool false] { n := 0, objs := [] } = some (Value.agg #[Value.int IntKind.i64 h, Value.int IntKind.u64 l], { n := 0, objs := [] }, []) :=
  Dg.evCall_hint (hs' := []) (hs := [Hint.val 53 13 (Value.bool false),
    Hint.val 53 17 (Value.bool false),
    Hint.val 53 30 (Value.int IntKind.i64 h)])
    [Value.bool (decide (h > (9223372036854775808 : Int))) = Value.bool false,
    Value.bool (h == (9223372036854775808 : Int)) = Value.bool false,
    Value.int IntKind.i64 (IntKind.wrap IntKind.i64 h) = Value.int IntKind.i64 h] (by kernel_rfl)
    ⟨Dg.vfalse (by omega), Dg.vfalse (by omega), wi (by omega), trivial⟩
--> sg_pos
--< sg_neg
theorem sg_neg (h : Int) (l : Int) (rh : Int) (rl : Int) (h0 : 0 ≤ h ∧ h < 9223372036854775808) (hs : p1 54 [wd 0 0, wd h l] = some (wd rh rl)) :
    evCall Tryz.prog 0 (bodied Tryz.prog) ovp1 sbs 1000 20 53 [Value.int IntKind.u64 h, Value.int IntKind.u64 l, Value.bool true, Value.bool false] { n := 0, objs := [] } = some (Value.agg #[Value.int IntKind.i64 rh, Value.int IntKind.u64 rl], { n := 0, objs := [] }, []) :=
  Dg.evCall_hint (hs' := []) (hs := [Hint.val 53 13 (Value.bool false),
    Hint.val 53 17 (Value.bool false),
    Hint.val 53 30 (Value.int IntKind.i64 h),
    Hint.val 53 37 (Value.bool true),
    Hint.call 54 (Value.agg #[Value.int IntKind.i64 rh, Value.int IntKind.u64 rl]) { n := 0, objs := [] } []])
    [Value.bool (decide (h > (9223372036854775808 : Int))) = Value.bool false,
    Value.bool (h == (9223372036854775808 : Int)) = Value.bool false,
    Value.int IntKind.i64 (IntKind.wrap IntKind.i64 h) = Value.int IntKind.i64 h,
    Value.bool (if false = true then h == (-9223372036854775808 : Int) && (l == (0 : Int) && true) else !(h == (-9223372036854775808 : Int) && (l == (0 : Int) && true))) = Value.bool true,
    evCall Tryz.prog 0 (bodied Tryz.prog) ovp1 sbs 1000 18 54 [Value.agg #[Value.int IntKind.i64 0, Value.int IntKind.u64 0], Value.agg #[Value.int IntKind.i64 h, Value.int IntKind.u64 l]] { n := 0, objs := [] } = some (Value.agg #[Value.int IntKind.i64 rh, Value.int IntKind.u64 rl], { n := 0, objs := [] }, [])] (by kernel_rfl)
    ⟨Dg.vfalse (by omega), Dg.vfalse (by omega), wi (by omega), by simp; omega, Dg.evCall_told hs, trivial⟩
--> sg_neg
def L2W : List FuncId := [53]
noncomputable def p2 : FuncId → List Value → Option Value := lay Tryz.prog (bodied Tryz.prog) ovp1 sbs 1000 20 L2W p1
noncomputable abbrev ovp2 : Ev := flatOver p2
--< wscale
theorem wscale (ah : Int) (al : Int) (sh : Int) (sl : Int) (o : Int) (t : Int) (c : Int) (lo : Int) (t2 : Int) (m : Int) (om : Int) (rh : Int) (rl : Int) (bl : Bool) (ov : Bool) (ht : U64 t) (hc : U64 c) (h1 : p2 51 [wd ah al] = some (Value.tuple #[Value.int IntKind.u64 sh, Value.int IntKind.u64 sl])) (h2 : p2 62 [Value.int IntKind.u64 sh, Value.int IntKind.u64 10] = some (Value.tuple #[Value.int IntKind.u64 o, Value.int IntKind.u64 t])) (h3 : p2 62 [Value.int IntKind.u64 sl, Value.int IntKind.u64 10] = some (Value.tuple #[Value.int IntKind.u64 c, Value.int IntKind.u64 lo])) (e1 : (t + c + (↑0 : Int)) % 18446744073709551616 = t2) (e2 : (t + c + (↑0 : Int)) / 18446744073709551616 = m) (eb : bl = decide (ah < 0)) (eo : (o + m) % 18446744073709551616 = om) (ev : ov = decide (0 < om)) (h4 : p2 53 [Value.int IntKind.u64 t2, Value.int IntKind.u64 lo, Value.bool bl, Value.bool ov] = some (wd rh rl)) :
    evCall Tryz.prog 0 (bodied Tryz.prog) ovp2 sbs 1000 20 34 [wd ah al, Value.int IntKind.u32 10] { n := 0, objs := [] } = some (Value.agg #[Value.int IntKind.i64 rh, Value.int IntKind.u64 rl], { n := 0, objs := [] }, []) :=
  Dg.evCall_hint (hs' := []) (hs := [Hint.call 51 (Value.tuple #[Value.int IntKind.u64 sh, Value.int IntKind.u64 sl]) { n := 0, objs := [] } [],
    Hint.call 62 (Value.tuple #[Value.int IntKind.u64 o, Value.int IntKind.u64 t]) { n := 0, objs := [] } [],
    Hint.call 62 (Value.tuple #[Value.int IntKind.u64 c, Value.int IntKind.u64 lo]) { n := 0, objs := [] } [],
    Hint.val 34 35 (Value.int IntKind.u64 t2),
    Hint.val 34 36 (Value.int IntKind.u64 m),
    Hint.val 34 41 (Value.bool bl),
    Hint.val 34 44 (Value.int IntKind.u64 om),
    Hint.val 34 45 (Value.bool ov),
    Hint.call 53 (Value.agg #[Value.int IntKind.i64 rh, Value.int IntKind.u64 rl]) { n := 0, objs := [] } []])
    [evCall Tryz.prog 0 (bodied Tryz.prog) ovp2 sbs 1000 19 51 [Value.agg #[Value.int IntKind.i64 ah, Value.int IntKind.u64 al]] { n := 0, objs := [] } = some (Value.tuple #[Value.int IntKind.u64 sh, Value.int IntKind.u64 sl], { n := 0, objs := [] }, []),
    evCall Tryz.prog 0 (bodied Tryz.prog) ovp2 sbs 1000 19 62 [Value.int IntKind.u64 sh, Value.int IntKind.u64 10] { n := 0, objs := [] } = some (Value.tuple #[Value.int IntKind.u64 o, Value.int IntKind.u64 t], { n := 0, objs := [] }, []),
    evCall Tryz.prog 0 (bodied Tryz.prog) ovp2 sbs 1000 19 62 [Value.int IntKind.u64 sl, Value.int IntKind.u64 10] { n := 0, objs := [] } = some (Value.tuple #[Value.int IntKind.u64 c, Value.int IntKind.u64 lo], { n := 0, objs := [] }, []),
    Value.int IntKind.u64 (Int.ofNat ((Int.toNat t + Int.toNat c + (0 : Nat)) % (18446744073709551616 : Nat))) = Value.int IntKind.u64 t2,
    Value.int IntKind.u64 (Int.ofNat ((Int.toNat t + Int.toNat c + (0 : Nat)) / (18446744073709551616 : Nat))) = Value.int IntKind.u64 m,
    Value.bool (decide (ah < (0 : Int))) = Value.bool bl,
    Value.int IntKind.u64 (IntKind.wrap IntKind.u64 (o + m)) = Value.int IntKind.u64 om,
    Value.bool (decide (om > (0 : Int))) = Value.bool ov,
    evCall Tryz.prog 0 (bodied Tryz.prog) ovp2 sbs 1000 19 53 [Value.int IntKind.u64 t2, Value.int IntKind.u64 lo, Value.bool bl, Value.bool ov] { n := 0, objs := [] } = some (Value.agg #[Value.int IntKind.i64 rh, Value.int IntKind.u64 rl], { n := 0, objs := [] }, [])] (by kernel_rfl)
    ⟨Dg.evCall_told h1, Dg.evCall_told h2, Dg.evCall_told h3, ad_lo ht hc e1, ad_hi ht hc e2, Dg.bool_eq eb.symm, wu eo, by rw [ev], Dg.evCall_told h4, trivial⟩
--> wscale
--< wdiv_p
theorem wdiv_p (ah : Int) (al : Int) (sh : Int) (sl : Int) (t : Int) (m : Int) (lo : Int) (r : Int) (rh : Int) (rl : Int) (hsh : U64 sh) (h0 : 0 ≤ ah) (h1 : p2 51 [wd ah al] = some (Value.tuple #[Value.int IntKind.u64 sh, Value.int IntKind.u64 sl])) (et : sh / 1000000000000000000 = t) (em : sh % 1000000000000000000 = m) (h2 : p2 52 [Value.int IntKind.u64 m, Value.int IntKind.u64 sl, Value.int IntKind.u64 1000000000000000000] = some (Value.tuple #[Value.int IntKind.u64 lo, Value.int IntKind.u64 r])) (h4 : p2 53 [Value.int IntKind.u64 t, Value.int IntKind.u64 lo, Value.bool false, Value.bool false] = some (wd rh rl)) :
    evCall Tryz.prog 0 (bodied Tryz.prog) ovp2 sbs 1000 20 23 [wd ah al, Value.int IntKind.u64 1000000000000000000] { n := 0, objs := [] } = some (Value.tuple { toList := [Value.agg #[Value.int IntKind.i64 rh, Value.int IntKind.u64 rl], Value.int IntKind.u64 r, Value.bool true] }, { n := 0, objs := [] }, []) :=
  Dg.evCall_hint (hs' := []) (hs := [Hint.call 51 (Value.tuple #[Value.int IntKind.u64 sh, Value.int IntKind.u64 sl]) { n := 0, objs := [] } [],
    Hint.soft 23 21 (Value.int IntKind.u64 t),
    Hint.soft 23 25 (Value.int IntKind.u64 m),
    Hint.call 52 (Value.tuple #[Value.int IntKind.u64 lo, Value.int IntKind.u64 r]) { n := 0, objs := [] } [],
    Hint.val 23 35 (Value.bool false),
    Hint.call 53 (Value.agg #[Value.int IntKind.i64 rh, Value.int IntKind.u64 rl]) { n := 0, objs := [] } [],
    Hint.val 23 39 (Value.bool false)])
    [evCall Tryz.prog 0 (bodied Tryz.prog) ovp2 sbs 1000 19 51 [Value.agg #[Value.int IntKind.i64 ah, Value.int IntKind.u64 al]] { n := 0, objs := [] } = some (Value.tuple #[Value.int IntKind.u64 sh, Value.int IntKind.u64 sl], { n := 0, objs := [] }, []),
    (1000000000000000000 : Int) ≠ (0 : Int),
    Value.int IntKind.u64 (IntKind.wrap IntKind.u64 (Int.tdiv sh (1000000000000000000 : Int))) = Value.int IntKind.u64 t,
    (1000000000000000000 : Int) ≠ (0 : Int),
    Value.int IntKind.u64 (Int.tmod sh (1000000000000000000 : Int)) = Value.int IntKind.u64 m,
    evCall Tryz.prog 0 (bodied Tryz.prog) ovp2 sbs 1000 19 52 [Value.int IntKind.u64 m, Value.int IntKind.u64 sl, Value.int IntKind.u64 1000000000000000000] { n := 0, objs := [] } = some (Value.tuple #[Value.int IntKind.u64 lo, Value.int IntKind.u64 r], { n := 0, objs := [] }, []),
    Value.bool (decide (ah < (0 : Int))) = Value.bool false,
    evCall Tryz.prog 0 (bodied Tryz.prog) ovp2 sbs 1000 19 53 [Value.int IntKind.u64 t, Value.int IntKind.u64 lo, Value.bool false, Value.bool false] { n := 0, objs := [] } = some (Value.agg #[Value.int IntKind.i64 rh, Value.int IntKind.u64 rl], { n := 0, objs := [] }, []),
    Value.bool (decide (ah < (0 : Int))) = Value.bool false] (by kernel_rfl)
    ⟨Dg.evCall_told h1, by omega, tdv2 hsh.1 et (by unfold U64 at hsh; omega), by omega, tmv' hsh.1 em, Dg.evCall_told h2, Dg.vfalse (by omega), Dg.evCall_told h4, Dg.vfalse (by omega), trivial⟩
--> wdiv_p
--< wdiv_n0
theorem wdiv_n0 (ah : Int) (al : Int) (sh : Int) (sl : Int) (t : Int) (m : Int) (lo : Int) (r : Int) (rh : Int) (rl : Int) (hsh : U64 sh) (h0 : ah < 0) (hr : r = 0) (h1 : p2 51 [wd ah al] = some (Value.tuple #[Value.int IntKind.u64 sh, Value.int IntKind.u64 sl])) (et : sh / 1000000000000000000 = t) (em : sh % 1000000000000000000 = m) (h2 : p2 52 [Value.int IntKind.u64 m, Value.int IntKind.u64 sl, Value.int IntKind.u64 1000000000000000000] = some (Value.tuple #[Value.int IntKind.u64 lo, Value.int IntKind.u64 r])) (h4 : p2 53 [Value.int IntKind.u64 t, Value.int IntKind.u64 lo, Value.bool true, Value.bool false] = some (wd rh rl)) :
    evCall Tryz.prog 0 (bodied Tryz.prog) ovp2 sbs 1000 20 23 [wd ah al, Value.int IntKind.u64 1000000000000000000] { n := 0, objs := [] } = some (Value.tuple { toList := [Value.agg #[Value.int IntKind.i64 rh, Value.int IntKind.u64 rl], Value.int IntKind.u64 r, Value.bool true] }, { n := 0, objs := [] }, []) :=
  Dg.evCall_hint (hs' := []) (hs := [Hint.call 51 (Value.tuple #[Value.int IntKind.u64 sh, Value.int IntKind.u64 sl]) { n := 0, objs := [] } [],
    Hint.soft 23 21 (Value.int IntKind.u64 t),
    Hint.soft 23 25 (Value.int IntKind.u64 m),
    Hint.call 52 (Value.tuple #[Value.int IntKind.u64 lo, Value.int IntKind.u64 r]) { n := 0, objs := [] } [],
    Hint.val 23 35 (Value.bool true),
    Hint.call 53 (Value.agg #[Value.int IntKind.i64 rh, Value.int IntKind.u64 rl]) { n := 0, objs := [] } [],
    Hint.val 23 39 (Value.bool true),
    Hint.val 23 42 (Value.bool false)])
    [evCall Tryz.prog 0 (bodied Tryz.prog) ovp2 sbs 1000 19 51 [Value.agg #[Value.int IntKind.i64 ah, Value.int IntKind.u64 al]] { n := 0, objs := [] } = some (Value.tuple #[Value.int IntKind.u64 sh, Value.int IntKind.u64 sl], { n := 0, objs := [] }, []),
    (1000000000000000000 : Int) ≠ (0 : Int),
    Value.int IntKind.u64 (IntKind.wrap IntKind.u64 (Int.tdiv sh (1000000000000000000 : Int))) = Value.int IntKind.u64 t,
    (1000000000000000000 : Int) ≠ (0 : Int),
    Value.int IntKind.u64 (Int.tmod sh (1000000000000000000 : Int)) = Value.int IntKind.u64 m,
    evCall Tryz.prog 0 (bodied Tryz.prog) ovp2 sbs 1000 19 52 [Value.int IntKind.u64 m, Value.int IntKind.u64 sl, Value.int IntKind.u64 1000000000000000000] { n := 0, objs := [] } = some (Value.tuple #[Value.int IntKind.u64 lo, Value.int IntKind.u64 r], { n := 0, objs := [] }, []),
    Value.bool (decide (ah < (0 : Int))) = Value.bool true,
    evCall Tryz.prog 0 (bodied Tryz.prog) ovp2 sbs 1000 19 53 [Value.int IntKind.u64 t, Value.int IntKind.u64 lo, Value.bool true, Value.bool false] { n := 0, objs := [] } = some (Value.agg #[Value.int IntKind.i64 rh, Value.int IntKind.u64 rl], { n := 0, objs := [] }, []),
    Value.bool (decide (ah < (0 : Int))) = Value.bool true,
    Value.bool (decide (r > (0 : Int))) = Value.bool false] (by kernel_rfl)
    ⟨Dg.evCall_told h1, by omega, tdv2 hsh.1 et (by unfold U64 at hsh; omega), by omega, tmv' hsh.1 em, Dg.evCall_told h2, Dg.vtrue (by omega), Dg.evCall_told h4, Dg.vtrue (by omega), Dg.vfalse (by omega), trivial⟩
--> wdiv_n0
--< wdiv_n1
theorem wdiv_n1 (ah : Int) (al : Int) (sh : Int) (sl : Int) (t : Int) (m : Int) (lo : Int) (r : Int) (rh : Int) (rl : Int) (hsh : U64 sh) (h0 : ah < 0) (hr : 0 < r ∧ r < 1000000000000000000) (s : Int) (xh : Int) (xl : Int) (es : 1000000000000000000 - r = s) (h5 : p2 25 [Value.int IntKind.i64 1] = some (wd 0 1)) (h6 : p2 54 [wd rh rl, wd 0 1] = some (wd xh xl)) (h1 : p2 51 [wd ah al] = some (Value.tuple #[Value.int IntKind.u64 sh, Value.int IntKind.u64 sl])) (et : sh / 1000000000000000000 = t) (em : sh % 1000000000000000000 = m) (h2 : p2 52 [Value.int IntKind.u64 m, Value.int IntKind.u64 sl, Value.int IntKind.u64 1000000000000000000] = some (Value.tuple #[Value.int IntKind.u64 lo, Value.int IntKind.u64 r])) (h4 : p2 53 [Value.int IntKind.u64 t, Value.int IntKind.u64 lo, Value.bool true, Value.bool false] = some (wd rh rl)) :
    evCall Tryz.prog 0 (bodied Tryz.prog) ovp2 sbs 1000 20 23 [wd ah al, Value.int IntKind.u64 1000000000000000000] { n := 0, objs := [] } = some (Value.tuple { toList := [Value.agg #[Value.int IntKind.i64 xh, Value.int IntKind.u64 xl], Value.int IntKind.u64 s, Value.bool true] }, { n := 0, objs := [] }, []) :=
  Dg.evCall_hint (hs' := []) (hs := [Hint.call 51 (Value.tuple #[Value.int IntKind.u64 sh, Value.int IntKind.u64 sl]) { n := 0, objs := [] } [],
    Hint.soft 23 21 (Value.int IntKind.u64 t),
    Hint.soft 23 25 (Value.int IntKind.u64 m),
    Hint.call 52 (Value.tuple #[Value.int IntKind.u64 lo, Value.int IntKind.u64 r]) { n := 0, objs := [] } [],
    Hint.val 23 35 (Value.bool true),
    Hint.call 53 (Value.agg #[Value.int IntKind.i64 rh, Value.int IntKind.u64 rl]) { n := 0, objs := [] } [],
    Hint.val 23 39 (Value.bool true),
    Hint.val 23 42 (Value.bool true),
    Hint.call 25 (Value.agg #[Value.int IntKind.i64 0, Value.int IntKind.u64 1]) { n := 0, objs := [] } [],
    Hint.call 54 (Value.agg #[Value.int IntKind.i64 xh, Value.int IntKind.u64 xl]) { n := 0, objs := [] } [],
    Hint.val 23 49 (Value.int IntKind.u64 s)])
    [evCall Tryz.prog 0 (bodied Tryz.prog) ovp2 sbs 1000 19 51 [Value.agg #[Value.int IntKind.i64 ah, Value.int IntKind.u64 al]] { n := 0, objs := [] } = some (Value.tuple #[Value.int IntKind.u64 sh, Value.int IntKind.u64 sl], { n := 0, objs := [] }, []),
    (1000000000000000000 : Int) ≠ (0 : Int),
    Value.int IntKind.u64 (IntKind.wrap IntKind.u64 (Int.tdiv sh (1000000000000000000 : Int))) = Value.int IntKind.u64 t,
    (1000000000000000000 : Int) ≠ (0 : Int),
    Value.int IntKind.u64 (Int.tmod sh (1000000000000000000 : Int)) = Value.int IntKind.u64 m,
    evCall Tryz.prog 0 (bodied Tryz.prog) ovp2 sbs 1000 19 52 [Value.int IntKind.u64 m, Value.int IntKind.u64 sl, Value.int IntKind.u64 1000000000000000000] { n := 0, objs := [] } = some (Value.tuple #[Value.int IntKind.u64 lo, Value.int IntKind.u64 r], { n := 0, objs := [] }, []),
    Value.bool (decide (ah < (0 : Int))) = Value.bool true,
    evCall Tryz.prog 0 (bodied Tryz.prog) ovp2 sbs 1000 19 53 [Value.int IntKind.u64 t, Value.int IntKind.u64 lo, Value.bool true, Value.bool false] { n := 0, objs := [] } = some (Value.agg #[Value.int IntKind.i64 rh, Value.int IntKind.u64 rl], { n := 0, objs := [] }, []),
    Value.bool (decide (ah < (0 : Int))) = Value.bool true,
    Value.bool (decide (r > (0 : Int))) = Value.bool true,
    evCall Tryz.prog 0 (bodied Tryz.prog) ovp2 sbs 1000 19 25 [Value.int IntKind.i64 1] { n := 0, objs := [] } = some (Value.agg #[Value.int IntKind.i64 0, Value.int IntKind.u64 1], { n := 0, objs := [] }, []),
    evCall Tryz.prog 0 (bodied Tryz.prog) ovp2 sbs 1000 19 54 [Value.agg #[Value.int IntKind.i64 rh, Value.int IntKind.u64 rl], Value.agg #[Value.int IntKind.i64 0, Value.int IntKind.u64 1]] { n := 0, objs := [] } = some (Value.agg #[Value.int IntKind.i64 xh, Value.int IntKind.u64 xl], { n := 0, objs := [] }, []),
    Value.int IntKind.u64 (IntKind.wrap IntKind.u64 ((1000000000000000000 : Int) - r)) = Value.int IntKind.u64 s] (by kernel_rfl)
    ⟨Dg.evCall_told h1, by omega, tdv2 hsh.1 et (by unfold U64 at hsh; omega), by omega, tmv' hsh.1 em, Dg.evCall_told h2, Dg.vtrue (by omega), Dg.evCall_told h4, Dg.vtrue (by omega), Dg.vtrue (by omega), Dg.evCall_told h5, Dg.evCall_told h6, wu (by omega), trivial⟩
--> wdiv_n1
end Go.Proofs.YtflgpkkbifkpoaaGreatDoor.num

namespace Go.Proofs.YtflgpkkbifkpoaaGreatDoor.num
open Go.Dg (junk St Ex Ev Hint evCall evLoop bodied noOver Flats flatOver Heap AObj lay noO)
set_option linter.unusedVariables false

theorem p2_flats : ∀ f args v, p2 f args = some v → Flats Tryz.prog f args v := Dg.lay_flats mixed okB (Dg.flatOver_ok p1_flats) (by kernel_rfl) p1_flats
theorem up2 {f : FuncId} {args : List Value} {v : Value} (h : p1 f args = some v) (hf : L2W.contains f = false := by rfl) : p2 f args = some v := Dg.lay_under hf h
def L3W : List FuncId := [34, 23]
noncomputable def p3 : FuncId → List Value → Option Value := lay Tryz.prog (bodied Tryz.prog) ovp2 sbs 1000 20 L3W p2
noncomputable abbrev ovp3 : Ev := flatOver p3
theorem p3_flats : ∀ f args v, p3 f args = some v → Flats Tryz.prog f args v := Dg.lay_flats mixed okB (Dg.flatOver_ok p2_flats) (by kernel_rfl) p2_flats
theorem up3 {f : FuncId} {args : List Value} {v : Value} (h : p2 f args = some v) (hf : L3W.contains f = false := by rfl) : p3 f args = some v := Dg.lay_under hf h
/-- The ends. -/
theorem clamp_lo {v : Int} (h : v ≤ -170141183460469231731687303715884105728) : wv (clampW v) = wd (-9223372036854775808) 0 := by
  have : clampW v = -170141183460469231731687303715884105728 := by
    unfold clampW
    split
    · rfl
    · rw [if_neg (by omega)]; omega
  rw [this]
  exact wv_eq (by omega) (by omega)
theorem clamp_hi {v : Int} (h : 170141183460469231731687303715884105727 ≤ v) : wv (clampW v) = wd 9223372036854775807 18446744073709551615 := by
  have : clampW v = 170141183460469231731687303715884105727 := by
    unfold clampW
    rw [if_neg (by omega)]
    split <;> omega
  rw [this]
  exact wv_eq (by omega) (by omega)
theorem signed_o (h l : Int) (b : Bool) : p2 53 [.int .u64 h, .int .u64 l, .bool b, .bool true] = some (if b then wd (-9223372036854775808) 0 else wd 9223372036854775807 18446744073709551615) := by
  cases b
  · exact Dg.lay_told rfl (sg_over_f h l) rfl rfl
  · exact Dg.lay_told rfl (sg_over_t h l) rfl rfl
theorem signed_w {S h l : Int} (b : Bool) (h0 : 0 ≤ S) (h1 : S < 340282366920938463463374607431768211456) (hS : S = h * 18446744073709551616 + l) (hl : 0 ≤ l ∧ l < 18446744073709551616) :
    p2 53 [.int .u64 h, .int .u64 l, .bool b, .bool false] = some (wv (clampW (if b then -S else S))) := by
  rcases (show 9223372036854775808 < h ∨ h = 9223372036854775808 ∨ h < 9223372036854775808 by omega) with c | c | c
  · cases b
    · rw [if_neg (by decide), clamp_hi (by omega)]
      exact Dg.lay_told rfl (sg_big_f h l c) rfl rfl
    · rw [if_pos rfl, clamp_lo (by omega)]
      exact Dg.lay_told rfl (sg_big_t h l c) rfl rfl
  · subst c
    rcases (show 0 < l ∨ l = 0 by omega) with d | d
    · cases b
      · rw [if_neg (by decide), clamp_hi (by omega)]
        exact Dg.lay_told rfl (sg_eqb_f l d) rfl rfl
      · rw [if_pos rfl, clamp_lo (by omega)]
        exact Dg.lay_told rfl (sg_eqb_t l d) rfl rfl
    · subst d
      cases b
      · rw [if_neg (by decide), clamp_hi (by omega)]
        exact Dg.lay_told rfl sg_eqn rfl rfl
      · rw [if_pos rfl, clamp_lo (by omega)]
        exact Dg.lay_told rfl sg_min rfl rfl
  · have hI : InW S := by unfold InW; omega
    cases b
    · rw [if_neg (by decide), clamp_id hI, wv_eq hS hl]
      exact Dg.lay_told rfl (sg_pos h l ⟨by omega, c⟩) rfl rfl
    · have hs := sub_w (a := 0) (b := S) (by unfold InW; omega) hI
      rw [wv_eq (v := 0) (h := 0) (l := 0) (by omega) (by omega), wv_eq hS hl] at hs
      rw [if_pos rfl, show (-S : Int) = 0 - S by omega]
      exact Dg.lay_told rfl (sg_neg h l _ _ ⟨by omega, c⟩ hs) rfl rfl
theorem scale_w {v : Int} (hv : InW v) : p3 34 [wv v, .int .u32 10] = some (wv (clampW (v * 10))) := by
  have h1 := up2 (size_w hv)
  have hv' := hv
  unfold InW at hv
  obtain ⟨ah, al, e1, e2, e3, e4⟩ := wv_parts hv'
  unfold I64 at e4
  unfold szv at h1
  generalize hsh : (v.natAbs : Int) / 18446744073709551616 = sh at h1
  generalize hsl : (v.natAbs : Int) % 18446744073709551616 = sl at h1
  have hS : (v.natAbs : Int) = sh * 18446744073709551616 + sl := by omega
  have h2 := up2 (mul10_w (x := sh) (by unfold U64; omega))
  have h3 := up2 (mul10_w (x := sl) (by unfold U64; omega))
  generalize ho : sh * 10 / 18446744073709551616 = o at h2
  generalize ht : sh * 10 % 18446744073709551616 = t at h2
  generalize hc : sl * 10 / 18446744073709551616 = c at h3
  generalize hlo : sl * 10 % 18446744073709551616 = lo at h3
  rw [e1] at h1 ⊢
  have hbl : decide (ah < 0) = decide (v < 0) := decide_eq_decide.2 (by omega)
  have bo : 0 ≤ o ∧ o ≤ 10 := by omega
  have bt : 0 ≤ t ∧ t < 18446744073709551616 := by omega
  have bc : 0 ≤ c ∧ c ≤ 10 := by omega
  have blo : 0 ≤ lo ∧ lo < 18446744073709551616 := by omega
  have d1 : sh * 10 = o * 18446744073709551616 + t := by omega
  have d2 : sl * 10 = c * 18446744073709551616 + lo := by omega
  generalize hm : (t + c + (0 : Nat)) / 18446744073709551616 = m
  generalize ht2 : (t + c + (0 : Nat)) % 18446744073709551616 = t2
  have bm : 0 ≤ m ∧ m ≤ 1 := by omega
  have bt2 : 0 ≤ t2 ∧ t2 < 18446744073709551616 := by omega
  have d3 : t + c = m * 18446744073709551616 + t2 := by omega
  have d4 : (v.natAbs : Int) * 10 = (o + m) * 340282366920938463463374607431768211456 + t2 * 18446744073709551616 + lo := by omega
  have hom : (o + m) % 18446744073709551616 = o + m := by omega
  clear hm ht2 ho ht hc hlo hsh hsl
  by_cases h0m : o + m = 0
  · have h4 := signed_w (S := (v.natAbs : Int) * 10) (h := t2) (l := lo) (decide (v < 0)) (by omega) (by omega) (by omega) (by omega)
    have e : (if decide (v < 0) = true then -((v.natAbs : Int) * 10) else (v.natAbs : Int) * 10) = v * 10 := by
      by_cases h0 : v < 0
      · rw [if_pos (by simpa using h0)]; omega
      · rw [if_neg (by simpa using h0)]; omega
    rw [e] at h4
    exact Dg.lay_told rfl (wscale ah al sh sl o t c lo t2 m (o + m) _ _ (decide (v < 0)) false (by unfold U64; omega) (by unfold U64; omega) h1 h2 h3 (by omega) (by omega) hbl.symm hom (by rw [h0m]; rfl) h4) rfl rfl
  · have h4 := signed_o t2 lo (decide (v < 0))
    have e : wv (clampW (v * 10)) = if decide (v < 0) = true then wd (-9223372036854775808) 0 else wd 9223372036854775807 18446744073709551615 := by
      by_cases h0 : v < 0
      · rw [if_pos (by simpa using h0), clamp_lo (by omega)]
      · rw [if_neg (by simpa using h0), clamp_hi (by omega)]
    rw [← e] at h4
    exact Dg.lay_told rfl (wscale ah al sh sl o t c lo t2 m (o + m) _ _ (decide (v < 0)) true (by unfold U64; omega) (by unfold U64; omega) h1 h2 h3 (by omega) (by omega) hbl.symm hom (by rw [decide_eq_true]; omega) h4) rfl rfl
theorem div_w {v : Int} (hv : InW v) : p3 23 [wv v, .int .u64 1000000000000000000] = some (.tuple #[wv (v / 1000000000000000000), .int .u64 (v % 1000000000000000000), .bool true]) := by
  have h1 := up2 (size_w hv)
  have hv' := hv
  unfold InW at hv
  obtain ⟨ah, al, e1, e2, e3, e4⟩ := wv_parts hv'
  unfold I64 at e4
  unfold szv at h1
  generalize hsh : (v.natAbs : Int) / 18446744073709551616 = sh at h1
  generalize hsl : (v.natAbs : Int) % 18446744073709551616 = sl at h1
  have hS : (v.natAbs : Int) = sh * 18446744073709551616 + sl := by omega
  generalize ht : sh / 1000000000000000000 = t
  generalize hm : sh % 1000000000000000000 = m
  have h2 := up2 (div64_w (h := m) (l := sl) (by omega) (by omega) (by unfold U64; omega))
  generalize hlo : (m * 18446744073709551616 + sl) / 1000000000000000000 = lo at h2
  generalize hr : (m * 18446744073709551616 + sl) % 1000000000000000000 = r at h2
  have hq : (v.natAbs : Int) = (t * 18446744073709551616 + lo) * 1000000000000000000 + r := by omega
  have h4 := fun b => signed_w (S := t * 18446744073709551616 + lo) (h := t) (l := lo) b (by omega) (by omega) rfl (by omega)
  rw [e1] at h1 ⊢
  have hU : U64 sh := by unfold U64; omega
  rcases Int.lt_or_le v 0 with h0 | h0
  · have h4 := h4 true
    rw [if_pos rfl, clamp_id (by unfold InW; omega)] at h4
    rcases (show r = 0 ∨ 0 < r by omega) with hr0 | hr0
    · have f1 : v / 1000000000000000000 = -(t * 18446744073709551616 + lo) := by omega
      have f2 : v % 1000000000000000000 = r := by omega
      rw [f1, f2]
      exact Dg.lay_told rfl (wdiv_n0 ah al sh sl t m lo r _ _ hU (by omega) hr0 h1 ht hm h2 h4) rfl rfl
    · have f1 : v / 1000000000000000000 = -(t * 18446744073709551616 + lo) - 1 := by omega
      have f2 : v % 1000000000000000000 = 1000000000000000000 - r := by omega
      have h5 : p2 25 [.int .i64 1] = some (wd 0 1) := by
        have := up2 (of_w (n := 1) (by unfold I64; omega))
        rwa [wv_eq (v := 1) (h := 0) (l := 1) (by omega) (by omega)] at this
      have h6 := up2 (sub_w (a := -(t * 18446744073709551616 + lo)) (b := 1) (by unfold InW; omega) (by unfold InW; omega))
      rw [clamp_id (by unfold InW; omega), wv_eq (v := 1) (h := 0) (l := 1) (by omega) (by omega)] at h6
      rw [f1, f2]
      exact Dg.lay_told rfl (wdiv_n1 ah al sh sl t m lo r _ _ hU (by omega) ⟨hr0, by omega⟩ _ _ _ rfl h5 h6 h1 ht hm h2 h4) rfl rfl
  · have h4 := h4 false
    rw [if_neg (by decide), clamp_id (by unfold InW; omega)] at h4
    have f1 : v / 1000000000000000000 = t * 18446744073709551616 + lo := by omega
    have f2 : v % 1000000000000000000 = r := by omega
    rw [f1, f2]
    exact Dg.lay_told rfl (wdiv_p ah al sh sl t m lo r _ _ hU (by omega) h1 ht hm h2 h4) rfl rfl
end Go.Proofs.YtflgpkkbifkpoaaGreatDoor.num
