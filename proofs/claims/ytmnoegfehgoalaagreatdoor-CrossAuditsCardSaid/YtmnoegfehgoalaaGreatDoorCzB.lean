/- The era that is nearest, as the reference looks for it: five eras around. Plain; and what is told of the functions it calls. The era that is nearest, as the reference looks for it: Unfold. What a line measures, as the reference has it: Measure. -/
import Derived.Test.YtmnoegfehgoalaaGreatDoorCzA
import Derived.Test.YtmnoegfehgoalaaGreatDoorCxH
namespace Go.Proofs.YtmnoegfehgoalaaGreatDoor.cx
open Go.RowKit Go.Extern.Stop Go.Stop Go.Extern Go.Cx
open Go.Proofs.YtmnoegfehgoalaaGreatDoor.num (limb lim kpN o2_flats o5_flats o6_flats o7_flats o1_flats under2 under5 under6 under7 of_told mul_told cmp_told power_r sval scmp scmp_hi scmp_lo sgn size_told B b20 b19 from_w wide_all era_told size3_told)
set_option linter.unusedVariables false
/-- How far an era is. -/
def dI (s l i : Int) : Int := if i * 18446744073709551616 + s - l < 0 then -(i * 18446744073709551616 + s - l) else i * 18446744073709551616 + s - l
def upI (s h l : Int) (o : Option Int) (i : Int) : Option Int :=
  if -9223372036854775808 ≤ h + i ∧ h + i < 9223372036854775808 then (match o with
    | none => some i
    | some b => if dI s l i < dI s l b then some i else some b) else o
/-- The best one of the first c. -/
def bestI (s h l : Int) : Nat → Option Int
  | 0 => none
  | c + 1 => upI s h l (bestI s h l c) ((c : Int) - 2)
def eraR (s h l : Int) : Int := if 9223372036854775808 < l - s ∧ h < 9223372036854775807 then h + 1 else if 9223372036854775808 ≤ s - l ∧ -9223372036854775808 < h then h - 1 else h
theorem best_in (s h l : Int) : ∀ c b, bestI s h l c = some b → -2 ≤ b ∧ -9223372036854775808 ≤ h + b ∧ h + b < 9223372036854775808 ∧ b < (c : Int) - 2 := by
  intro c
  induction c with
  | zero => intro b h; cases h
  | succ c ih =>
    intro b hb
    unfold bestI upI at hb
    split at hb
    · rename_i hr
      split at hb
      · injection hb with hb
        subst hb
        omega
      · rename_i b0 h0
        have := ih b0 h0
        split at hb <;> (injection hb with hb; subst hb; omega)
    · have := ih b hb
      omega
theorem best_last {s h l : Int} (hh : -9223372036854775808 ≤ h ∧ h < 9223372036854775808) (hs : 0 ≤ s ∧ s < 18446744073709551616) (hl : 0 ≤ l ∧ l < 18446744073709551616) : ∃ b, bestI s h l 5 = some b ∧ h + b = eraR s h l := by
  have dm2 : dI s l (-2) = 36893488147419103232 - (s - l) := by unfold dI; split <;> omega
  have dm1 : dI s l (-1) = 18446744073709551616 - (s - l) := by unfold dI; split <;> omega
  have d1 : dI s l 1 = 18446744073709551616 + (s - l) := by unfold dI; split <;> omega
  have d2 : dI s l 2 = 36893488147419103232 + (s - l) := by unfold dI; split <;> omega
  have d0 : (dI s l 0 = s - l ∧ 0 ≤ s - l) ∨ (dI s l 0 = l - s ∧ s - l < 0) := by
    unfold dI
    split
    · right; omega
    · left; omega
  have e5 : bestI s h l 5 = upI s h l (upI s h l (upI s h l (upI s h l (upI s h l none (-2)) (-1)) 0) 1) 2 := rfl
  have k1 : upI s h l (upI s h l none (-2)) (-1) = if -9223372036854775808 ≤ h + -1 ∧ h + -1 < 9223372036854775808 then some (-1) else none := by
    unfold upI
    by_cases h2 : -9223372036854775808 ≤ h + -2 ∧ h + -2 < 9223372036854775808
    · rw [if_pos h2, if_pos (by omega), if_pos (by omega)]
      simp only
      rw [if_pos (by omega)]
    · rw [if_neg h2]
  have k2 : upI s h l (upI s h l (upI s h l none (-2)) (-1)) 0 = if (-9223372036854775808 < h) ∧ 9223372036854775808 ≤ s - l then some (-1) else some 0 := by
    rw [k1]
    unfold upI
    rw [if_pos (by omega : -9223372036854775808 ≤ h + 0 ∧ h + 0 < 9223372036854775808)]
    by_cases h1 : -9223372036854775808 ≤ h + -1 ∧ h + -1 < 9223372036854775808
    · rw [if_pos h1]
      simp only
      by_cases hc : 9223372036854775808 ≤ s - l
      · rw [if_neg (by omega), if_pos (by omega)]
      · rw [if_pos (by omega), if_neg (by omega)]
    · rw [if_neg h1]
      simp only
      rw [if_neg (by omega)]
  have k3 : upI s h l (upI s h l (upI s h l (upI s h l none (-2)) (-1)) 0) 1 = if 9223372036854775808 < l - s ∧ h < 9223372036854775807 then some 1 else if (-9223372036854775808 < h) ∧ 9223372036854775808 ≤ s - l then some (-1) else some 0 := by
    rw [k2]
    unfold upI
    by_cases h1 : h < 9223372036854775807
    · rw [if_pos (by omega : -9223372036854775808 ≤ h + 1 ∧ h + 1 < 9223372036854775808)]
      by_cases hc : -9223372036854775808 < h ∧ 9223372036854775808 ≤ s - l
      · rw [if_pos hc]
        simp only
        rw [if_neg (by omega), if_neg (by omega)]
      · rw [if_neg hc]
        simp only
        by_cases hd : 9223372036854775808 < l - s
        · rw [if_pos (by omega), if_pos ⟨hd, h1⟩]
        · rw [if_neg (by omega), if_neg (by omega)]
    · rw [if_neg (by omega : ¬ (-9223372036854775808 ≤ h + 1 ∧ h + 1 < 9223372036854775808)), if_neg (by omega : ¬ (9223372036854775808 < l - s ∧ h < 9223372036854775807))]
  rw [e5]
  unfold eraR
  have k4 : ∀ o : Option Int, (o = some 1 ∨ o = some (-1) ∨ o = some 0) → (o = some (-1) → 9223372036854775808 ≤ s - l) → (h < 9223372036854775807) → upI s h l o 2 = o := by
    intro o ho hm hlt
    unfold upI
    split
    · rcases ho with rfl | rfl | rfl
      · simp only
        rw [if_neg (by omega)]
      · have := hm rfl
        simp only
        rw [if_neg (by omega)]
      · simp only
        rw [if_neg (by omega)]
    · rfl
  rw [k3]
  by_cases hlt : h < 9223372036854775807
  · by_cases ha : 9223372036854775808 < l - s
    · rw [if_pos ⟨ha, hlt⟩, if_pos ⟨ha, hlt⟩, k4 _ (.inl rfl) (fun h => by cases h) hlt]
      exact ⟨1, rfl, rfl⟩
    · have hna : ¬ (9223372036854775808 < l - s ∧ h < 9223372036854775807) := fun h => ha h.1
      rw [if_neg hna, if_neg hna]
      by_cases hb : -9223372036854775808 < h ∧ 9223372036854775808 ≤ s - l
      · rw [if_pos hb, if_pos ⟨hb.2, hb.1⟩, k4 _ (.inr (.inl rfl)) (fun _ => hb.2) hlt]
        exact ⟨-1, rfl, by omega⟩
      · rw [if_neg hb, if_neg (fun h => hb ⟨h.2, h.1⟩), k4 _ (.inr (.inr rfl)) (fun h => by cases h) hlt]
        exact ⟨0, rfl, by omega⟩
  · have hn : ∀ o, upI s h l o 2 = o := fun o => by unfold upI; rw [if_neg (by omega)]
    have hna : ¬ (9223372036854775808 < l - s ∧ h < 9223372036854775807) := fun h => hlt h.2
    rw [hn, if_neg hna, if_neg hna]
    by_cases hb : -9223372036854775808 < h ∧ 9223372036854775808 ≤ s - l
    · rw [if_pos hb, if_pos ⟨hb.2, hb.1⟩]
      exact ⟨-1, rfl, by omega⟩
    · rw [if_neg hb, if_neg (fun h => hb ⟨h.2, h.1⟩)]
      exact ⟨0, rfl, by omega⟩
end Go.Proofs.YtmnoegfehgoalaaGreatDoor.cx
namespace Go.Proofs.YtmnoegfehgoalaaGreatDoor.cx
open Go.RowKit Go.Extern.Stop Go.Stop Go.Extern Go.Cx
open Go.Proofs.YtmnoegfehgoalaaGreatDoor.num (limb lim kpN o2_flats o5_flats o6_flats o7_flats o1_flats under2 under5 under6 under7 of_told mul_told cmp_told power_r sval scmp scmp_hi scmp_lo sgn size_told B b20 b19 from_w wide_all era_told size3_told)
set_option linter.unusedVariables false
theorem from_c {h l : Int} (hh : -9223372036854775808 ≤ h ∧ h < 9223372036854775808) (hl : 0 ≤ l ∧ l < 18446744073709551616) : ∃ b m, sval b m = h * 18446744073709551616 + l ∧ m ≤ 170141183460469231731687303715884105728 ∧ ∀ W : World, Calls Tryz.prog 77 #[wd h l] W fun e w' => e = .returned (.agg (numA b (lim m))) ∧ Below W.heap.size W w' := by
  have hv : Go.Proofs.YtmnoegfehgoalaaGreatDoor.num.InW (h * 18446744073709551616 + l) := by unfold Go.Proofs.YtmnoegfehgoalaaGreatDoor.num.InW; omega
  refine ⟨_, _, Go.Proofs.YtmnoegfehgoalaaGreatDoor.num.sval_int _, Go.Proofs.YtmnoegfehgoalaaGreatDoor.num.small hv, fun W => ?_⟩
  have := (o5_flats _ _ _ (from_w hv)).2.2 W
  rw [show Go.Proofs.YtmnoegfehgoalaaGreatDoor.num.wv (h * 18446744073709551616 + l) = wd h l by rw [Go.Proofs.YtmnoegfehgoalaaGreatDoor.num.wv_eq rfl hl]] at this
  exact this
theorem size3_c (W : World) (b c : Bool) (m n : Nat) (h : m + n ≤ 680564733841876926926749214863536422912) : Calls Tryz.prog 80 #[.agg (numA b (lim m)), .agg (numA c (lim n))] W fun e w' => e = .returned (.agg (numA false (lim (sval b m - sval c n).natAbs))) ∧ Below W.heap.size W w' := by
  have hB : (680564733841876926926749214863536422912 : Nat) < B ^ 19 := by decide
  exact (o7_flats _ _ _ (size3_told b c (m := m) (n := n) (by omega))).2.2 W
theorem sz_c (W : World) (m n : Nat) (hm : m ≤ 680564733841876926926749214863536422912) (hn : n ≤ 680564733841876926926749214863536422912) : Calls Tryz.prog 79 #[.agg (numA false (lim m)), .agg (numA false (lim n))] W fun e w' => e = .returned (.int .i64 (sgn m n)) ∧ Below W.heap.size W w' := by
  have hB : (680564733841876926926749214863536422912 : Nat) < B ^ 20 := by decide
  exact (o1_flats _ _ _ (size_told false false (m := m) (n := n) (by omega) (by omega))).2.2 W
theorem wide_c (W : World) (d : Bool) (k : Nat) {h l : Int} (hk : k ≤ 680564733841876926926749214863536422912) (hv : sval d k = h * 18446744073709551616 + l) (hh : -9223372036854775808 ≤ h ∧ h < 9223372036854775808) (hl : 0 ≤ l ∧ l < 18446744073709551616) : Calls Tryz.prog 58 #[.agg (numA d (lim k))] W fun e w' => e = .returned (wd h l) ∧ Below W.heap.size W w' := by
  have hB : (680564733841876926926749214863536422912 : Nat) < B ^ 20 := by decide
  have := (o5_flats _ _ _ (wide_all d (m := k) (by omega))).2.2 W
  rw [hv, Go.Proofs.YtmnoegfehgoalaaGreatDoor.num.clamp_id (by unfold Go.Proofs.YtmnoegfehgoalaaGreatDoor.num.InW; omega), Go.Proofs.YtmnoegfehgoalaaGreatDoor.num.wv_eq rfl hl] at this
  exact this
theorem era_c {e : Int} (he : -9223372036854775808 ≤ e ∧ e < 9223372036854775808) {s : Int} (hs : 0 ≤ s ∧ s < 18446744073709551616) : ∃ d k, sval d k = e * 18446744073709551616 + s ∧ k ≤ 340282366920938463463374607431768211456 ∧ ∀ W : World, Calls Tryz.prog 78 #[.int .i64 e, .int .u64 s] W fun e w' => e = .returned (.agg (numA d (lim k))) ∧ Below W.heap.size W w' := by
  obtain ⟨x, rfl⟩ := Int.eq_ofNat_of_zero_le hs.1
  obtain ⟨d, k, h1, h2, h3⟩ := era_told (h := e) he (x := x) (by omega)
  exact ⟨d, k, h2, h3, fun W => (o6_flats _ _ _ h1).2.2 W⟩
/-- What stands in the cells. -/
def VS (W : World) (p5 p6 : Nat) (h l : Int) (X Q : Array Value) (w : World) : Prop :=
  w.heap[W.heap.size]? = some (.cells #[.int .i64 h, .int .u64 l] 45) ∧ w.heap[W.heap.size + 1]? = some (.cells #[.int .i64 0, .int .u64 0] 45) ∧ w.heap[p5]? = some (.cells X 122) ∧ w.heap[p6]? = some (.cells Q 122) ∧ Below W.heap.size W w
def VT (W : World) (p5 p6 p10 : Nat) (h l : Int) (X Q Y : Array Value) (w : World) : Prop := VS W p5 p6 h l X Q w ∧ w.heap[p10]? = some (.cells Y 122) ∧ p6 < p10
theorem VS.up {W w w' : World} {p5 p6 : Nat} {h l : Int} {X Q : Array Value} (H : VS W p5 p6 h l X Q w) (hb : Below w.heap.size w w') : VS W p5 p6 h l X Q w' :=
  ⟨keepB hb H.1, keepB hb H.2.1, keepB hb H.2.2.1, keepB hb H.2.2.2.1, H.2.2.2.2.trans (hb.mono H.2.2.2.2.size)⟩
theorem VT.up {W w w' : World} {p5 p6 p10 : Nat} {h l : Int} {X Q Y : Array Value} (H : VT W p5 p6 p10 h l X Q Y w) (hb : Below w.heap.size w w') : VT W p5 p6 p10 h l X Q Y w' := ⟨H.1.up hb, keepB hb H.2.1, H.2.2⟩
theorem VS.row {W w : World} {p5 p6 : Nat} {h l : Int} {X Q Q' : Array Value} (H : VS W p5 p6 h l X Q w) (hn : W.heap.size + 1 < p5 ∧ p5 < p6) : VS W p5 p6 h l X Q' (w.setRow p6 Q') :=
  ⟨row_other H.1 (by omega), row_other H.2.1 (by omega), row_other H.2.2.1 (by omega), row_same H.2.2.2.1, below_srow H.2.2.2.2 (by omega)⟩
set_option maxHeartbeats 4000000 in
set_option maxRecDepth 1000000 in
theorem unfR_w (W : World) (s h l : Int) (hs : 0 ≤ s ∧ s < 18446744073709551616) (hl : 0 ≤ l ∧ l < 18446744073709551616) (hh : -9223372036854775808 ≤ h ∧ h < 9223372036854775808) (Z : Array Value) (hZ : Z = numA false (lim 0)) :
    Calls Tryz.prog 51 #[.int .u64 s, wd h l] W fun e w' => e = .returned (wd (eraR s h l) s) ∧ Below W.heap.size W w' := by
  obtain ⟨bx, mx, hx1, hx2, hfr⟩ := from_c hh hl
  have HF := Lib.hid hfr
  have bA : ∀ ev w d t p e, (execOp ev ⟨some d, .build 122 #[], t, p, e, none⟩).run Tryz.prog w = .ok (.value (.agg Z)) w := fun ev w d t p e => by rw [hZ]; exact bd_num ev w d t p e
  have aA : ∀ ev w d t p e, (execOp ev ⟨some d, .alloc 122, t, p, e, none⟩).run Tryz.prog w = .ok (.value (.pointer (some ⟨w.heap.size, 0, none⟩))) (w.alloc (.cells Z 122)) := fun ev w d t p e => by rw [hZ]; exact al_num ev w d t p e
  have zs : Z.size = 21 := by rw [hZ]; rfl
  have zo : Z.all (·.oneCell') = true := by rw [hZ]; exact numA_one _ _
  have HB := Lib.hid (And.intro bA (And.intro aA (And.intro zs (And.intro zo hZ))))
  have HX := Lib.hid (And.intro hx1 hx2)
  clear bA aA zs zo hZ hfr hx1 hx2
  go_enter Tryz.func51, Tryz.ntmps51
  go_wp2_with (first
    | (go_at_call 77; refine (HF.out _).mono ?_; rintro e w1 ⟨rfl, hb1⟩)
    | ((with_reducible refine wpList_do 5 (.alloc 122) _ (HB.out.2.1 _ _ _ _ _ _) ?_); (with_reducible refine wpList_st (cells := numA bx (lim mx)) 122 5 12 ?_ ?_ (heap_alloc_new _ _) ?_ ?_ ?_ ?_); rfl; rfl; (rw [HB.out.2.2.1]; rfl); exact u_num; exact numA_one _ _; (rw [set_alloc]))
    | ((with_reducible refine wpList_do 13 (.build 122 #[]) _ (HB.out.1 _ _ _ _ _ _) ?_); (with_reducible refine wpList_do 6 (.alloc 122) _ (HB.out.2.1 _ _ _ _ _ _) ?_); (with_reducible refine wpList_st (cells := Z) 122 6 13 ?_ ?_ (heap_alloc_new _ _) ?_ ?_ ?_ ?_); rfl; rfl; rfl; (rw [HB.out.2.2.1]; exact u_num); exact HB.out.2.2.2.1; (rw [set_alloc])))
  have hA0 := (bA (bA (Below.refl W.heap.size W)) : Below W.heap.size W ((W.alloc (.cells #[.int .i64 h, .int .u64 l] 45)).alloc (.cells #[.int .i64 0, .int .u64 0] 45)))
  have hb1' := hA0.trans (hb1.mono hA0.size)
  have q0 := keepAA hb1
  have q1 : w1.heap[W.heap.size + 1]? = some (.cells #[.int .i64 0, .int .u64 0] 45) := by have := keepA (w := W.alloc (.cells #[.int .i64 h, .int .u64 l] 45)) hb1; rw [alloc_size] at this; exact this
  have hz := lt_of_heap q1
  have hV0 : VS W w1.heap.size (w1.heap.size + 1) h l (numA bx (lim mx)) Z ((w1.alloc (.cells (numA bx (lim mx)) 122)).alloc (.cells Z 122)) := by
    have hA := (bAA (Below.refl w1.heap.size w1) : Below w1.heap.size w1 ((w1.alloc (.cells (numA bx (lim mx)) 122)).alloc (.cells Z 122)))
    refine ⟨keepB hA q0, keepB hA q1, by rw [heap_alloc_old _ _ (by rw [alloc_size]; omega)]; exact heap_alloc_new _ _, ?_, hb1'.trans (hA.mono hb1'.size)⟩
    have := heap_alloc_new (w1.alloc (.cells (numA bx (lim mx)) 122)) (.cells Z 122)
    rw [alloc_size] at this
    exact this
  rw [HB.out.2.2.2.2] at hV0
  have HN := Lib.hid (show W.heap.size + 1 < w1.heap.size ∧ w1.heap.size < w1.heap.size + 1 from ⟨hz, Nat.lt_succ_self _⟩)
  have UN := Lib.hid (And.intro Tryz.underlying122 (show ∀ (b : Bool) (f : Nat → Int), (Tryz.prog.info? 122).map (·.size) = some (kpN b f).length from fun _ _ => u_num))
  have HZ := Lib.hid HB.out.2.2.2.2
  rw [show ((w1.alloc (.cells (numA bx (lim mx)) 122)).alloc (.cells Z 122)) = ((w1.alloc (.cells (numA bx (lim mx)) 122)).alloc (.cells (numA false (lim 0)) 122)) by rw [HZ.out]]
  clear hA0 hb1 hb1' q0 q1 hz
  generalize ((w1.alloc (.cells (numA bx (lim mx)) 122)).alloc (.cells (numA false (lim 0)) 122)) = Y0 at *
  generalize w1.heap.size + 1 = p6 at *
  generalize w1.heap.size = p5 at *
  go_loopg [8, 7] 5 (fun g v sm wl => ∃ (c : Nat) (d : Bool) (k : Nat), v = .int .i64 ((c : Int) - 2) ∧ sm = .bool (bestI s h l c).isSome ∧ c ≤ 5 ∧ g = 5 - c ∧ VS W p5 p6 h l (numA bx (lim mx)) (numA d (lim k)) wl ∧ k ≤ 340282366920938463463374607431768211456 ∧ ∀ b, bestI s h l c = some b → sval d k = (h + b) * 18446744073709551616 + s)
  case atStart => exact ⟨0, false, 0, rfl, rfl, by omega, rfl, hV0, by omega, fun b hb => by cases hb⟩
  case round =>
    clear hV0
    obtain ⟨c, d, k, rfl, hsm, hc, hgd, hV, hk, hbest⟩ := hrel
    by_cases hcn : c = 5
    · subst hcn
      have e1 : decide (((5 : Nat) : Int) - 2 ≤ 2) = false := by decide
      obtain ⟨b5, hb5, hb6⟩ := best_last hh hs hl
      have hbi := best_in s h l 5 b5 hb5
      have hsv := hbest b5 hb5
      rw [hb6] at hsv hbi
      have hra : -9223372036854775808 ≤ eraR s h l ∧ eraR s h l < 9223372036854775808 := ⟨hbi.2.1, hbi.2.2.1⟩
      have HW := Lib.hid (fun w => wide_c w d k (by omega) hsv hra hs)
      have HV := Lib.hid hV
      have HR := Lib.hid (range_new (cs := kpN d (lim k)) hV.2.2.2.1)
      clear hV hbest hb5 hb6 hbi hsv hra
      go_wp2_with (first
        | ((with_reducible refine wpList_ld 56 ?_ ?_ ?_ HR.out UN.out.1 (UN.out.2 _ _) ?_); rfl; rfl; rfl)
        | (go_at_call 58; refine (HW.out _).mono ?_; rintro e w2 ⟨rfl, hb2⟩; have hX := HV.out.up hb2; have q := hX.2.1; have c0 := cell_of (i := 0) q rfl; have c1 := cell_of (i := 1) q rfl; have f0 := frozen_of_row _ _ 0 _ _ q; have f1 := frozen_of_row _ _ 1 _ _ q))
      refine bodyPost_ret (results_cell_row rfl _ _ (W.heap.size + 1) 45 _ _ _ rfl (set_two q) Tryz.underlying45 rfl rfl) rfl ?_
      exact ⟨rfl, below_cell (below_cell hX.2.2.2.2 (by omega)) (by omega)⟩
    · have hcl : c < 5 := by omega
      obtain ⟨i, hci⟩ : ∃ i, (c : Int) - 2 = i := ⟨_, rfl⟩
      rw [hci]
      have hi1 : -2 ≤ i ∧ i ≤ 2 := by omega
      have e1 : decide (i ≤ 2) = true := by simp; omega
      obtain ⟨E, hE⟩ : ∃ E, wrap64 (h + i) = E := ⟨_, rfl⟩
      have n0 := cell_of (i := 0) (v := .int .i64 h) hV.1 rfl
      have HV0 := Lib.hid hV
      have HJ0 := Lib.hid (And.intro hci (And.intro hk hbest))
      clear hV hk hbest
      by_cases hin : -9223372036854775808 ≤ h + i ∧ h + i < 9223372036854775808
      · have hEi : E = h + i := by rw [← hE]; unfold wrap64; omega
        subst hEi
        obtain ⟨d2, k2, hd1, hd2, hera⟩ := era_c hin hs
        have HE := Lib.hid hera
        have HD2 := Lib.hid (And.intro hd1 hd2)
        have hg : (decide (i < 0) = true ∧ decide (h < h + i) = false ∧ decide (0 < i) = false) ∨ (decide (i < 0) = false ∧ decide (0 < i) = false) ∨ (decide (i < 0) = false ∧ decide (0 < i) = true ∧ decide (h + i < h) = false) := by
          rcases Int.lt_trichotomy i 0 with h0 | h0 | h0
          · exact .inl ⟨by simp; omega, by simp; omega, by simp; omega⟩
          · exact .inr (.inl ⟨by simp; omega, by simp; omega⟩)
          · exact .inr (.inr ⟨by simp; omega, by simp; omega, by simp; omega⟩)
        clear hd1 hd2 hera
        rcases hg with ⟨g1, g2, g3⟩ | ⟨g1, g2⟩ | ⟨g1, g2, g3⟩
        · cases hso : bestI s h l c with
          | none =>
            rw [hso] at hsm HJ0
            subst hsm
            have HU := Lib.hid (show bestI s h l (c + 1) = some i by rw [bestI, hci, hso]; unfold upI; rw [if_pos hin])
            have HJ := HJ0
            clear HJ0 hso
            go_wp2_with (first
              | (go_at_call 78; refine (HE.out _).mono ?_; rintro e w2 ⟨rfl, hb2⟩; have hF2 := HV0.out.up hb2; clear hb2)
              | ((with_reducible refine wpList_do 10 (.alloc 122) _ (HB.out.2.1 _ _ _ _ _ _) ?_); (with_reducible refine wpList_st (cells := numA d2 (lim k2)) 122 10 42 ?_ ?_ (heap_alloc_new _ _) ?_ ?_ ?_ ?_); rfl; rfl; (rw [HB.out.2.2.1]; rfl); exact u_num; exact numA_one _ _; (rw [set_alloc])))
            have hT : VT W p5 p6 w2.heap.size h l (numA bx (lim mx)) (numA d (lim k)) (numA d2 (lim k2)) (w2.alloc (.cells (numA d2 (lim k2)) 122)) := ⟨hF2.up ((Below.refl w2.heap.size w2).alloc (Nat.le_refl _) _), heap_alloc_new _ _, lt_of_heap hF2.2.2.2.1⟩
            clear hF2
            generalize w2.alloc (.cells (numA d2 (lim k2)) 122) = y at *
            generalize w2.heap.size = p10 at *
            have HT := Lib.hid hT
            clear hT
            try simp only [Act.put, List.setIfInBounds_toArray, List.set_cons_zero, List.set_cons_succ]
            refine wp_region_held_drew (S := fun w' => VT W p5 p6 p10 h l (numA bx (lim mx)) (numA d (lim k)) (numA d2 (lim k2)) w') (by kernel_rfl) (HT.out.up (Below.refl y.heap.size y).drew) (fun hSd => ?_)
            refine take_val (i := 0) (oi := ⟨some 43, .move (.tmp 7), _, _, _, none⟩) (.bool false) rfl (by kernel_rfl) (by kernel_rfl) (by kernel_rfl) (fun _ _ _ h => h) rfl (fun w hSw => rfl) hSd ?_
            simp only [Act.put, List.setIfInBounds_toArray, List.set_cons_zero, List.set_cons_succ]
            refine take_val (i := 1) (oi := ⟨some 44, .unOp .not 4 (.tmp 43), _, _, _, none⟩) (.bool true) rfl (by kernel_rfl) (by kernel_rfl) (by kernel_rfl) (fun _ _ _ h => h) rfl (fun w hSw => rfl) hSd ?_
            simp only [Act.put, List.setIfInBounds_toArray, List.set_cons_zero, List.set_cons_succ]
            refine take_val (i := 2) (oi := ⟨some 45, .move (.tmp 44), _, _, _, none⟩) (.bool true) rfl (by kernel_rfl) (by kernel_rfl) (by kernel_rfl) (fun _ _ _ h => h) rfl (fun w hSw => rfl) hSd ?_
            simp only [Act.put, List.setIfInBounds_toArray, List.set_cons_zero, List.set_cons_succ]
            refine take_off (i := 3) (oi := ⟨some 46, .load 122 (.tmp 10), _, _, _, some (2, false)⟩) rfl (by kernel_rfl) (by kernel_rfl) (by kernel_rfl) (fun _ _ _ h => h) rfl hSd ?_
            simp only [Act.put, List.setIfInBounds_toArray, List.set_cons_zero, List.set_cons_succ]
            refine take_off (i := 4) (oi := ⟨some 47, .load 122 (.tmp 5), _, _, _, some (2, false)⟩) rfl (by kernel_rfl) (by kernel_rfl) (by kernel_rfl) (fun _ _ _ h => h) rfl hSd ?_
            simp only [Act.put, List.setIfInBounds_toArray, List.set_cons_zero, List.set_cons_succ]
            refine take_off (i := 6) (oi := ⟨some 49, .load 122 (.tmp 6), _, _, _, some (2, false)⟩) rfl (by kernel_rfl) (by kernel_rfl) (by kernel_rfl) (fun _ _ _ h => h) rfl hSd ?_
            simp only [Act.put, List.setIfInBounds_toArray, List.set_cons_zero, List.set_cons_succ]
            refine take_off (i := 7) (oi := ⟨some 50, .load 122 (.tmp 5), _, _, _, some (2, false)⟩) rfl (by kernel_rfl) (by kernel_rfl) (by kernel_rfl) (fun _ _ _ h => h) rfl hSd ?_
            simp only [Act.put, List.setIfInBounds_toArray, List.set_cons_zero, List.set_cons_succ]
            refine take_off (i := 5) (oi := ⟨some 48, .call { callee := .value (.func 80), args := #[.tmp 46, .tmp 47], argTypes := #[122, 122] }, _, _, _, some (2, false)⟩) rfl (by kernel_rfl) (by kernel_rfl) (by kernel_rfl) (fun _ _ _ h => h) rfl hSd ?_
            simp only [Act.put, List.setIfInBounds_toArray, List.set_cons_zero, List.set_cons_succ]
            refine take_off (i := 8) (oi := ⟨some 51, .call { callee := .value (.func 80), args := #[.tmp 49, .tmp 50], argTypes := #[122, 122] }, _, _, _, some (2, false)⟩) rfl (by kernel_rfl) (by kernel_rfl) (by kernel_rfl) (fun _ _ _ h => h) rfl hSd ?_
            simp only [Act.put, List.setIfInBounds_toArray, List.set_cons_zero, List.set_cons_succ]
            refine take_off (i := 9) (oi := ⟨some 52, .call { callee := .value (.func 79), args := #[.tmp 48, .tmp 51], argTypes := #[122, 122] }, _, _, _, some (2, false)⟩) rfl (by kernel_rfl) (by kernel_rfl) (by kernel_rfl) (fun _ _ _ h => h) rfl hSd ?_
            simp only [Act.put, List.setIfInBounds_toArray, List.set_cons_zero, List.set_cons_succ]
            refine take_off (i := 10) (oi := ⟨some 53, .binOp .lss 3 (.tmp 52) (.const (.int .i64 0)) 3, _, _, _, some (2, false)⟩) rfl (by kernel_rfl) (by kernel_rfl) (by kernel_rfl) (fun _ _ _ h => h) rfl hSd ?_
            simp only [Act.put, List.setIfInBounds_toArray, List.set_cons_zero, List.set_cons_succ]
            refine take_val (i := 11) (oi := ⟨some 54, .pick (.tmp 45) (.const (.bool true)) (.tmp 53), _, _, _, none⟩) (.bool true) rfl (by kernel_rfl) (by kernel_rfl) (by kernel_rfl) (fun _ _ _ h => h) rfl (fun w hSw => rfl) hSd ?_
            simp only [Act.put, List.setIfInBounds_toArray, List.set_cons_zero, List.set_cons_succ]
            refine wpAnyH_done (by kernel_rfl) ?_ _
            have HV := Lib.hid hSd
            clear hSd HT
            have HR := Lib.hid (range_new (cs := kpN d2 (lim k2)) HV.out.2.1)
            have HQ3 := Lib.hid HV.out.1.2.2.2.1
            go_wp2_with (first
              | ((with_reducible refine wpList_ld 55 ?_ ?_ ?_ HR.out UN.out.1 (UN.out.2 _ _) ?_); rfl; rfl; rfl)
              | ((with_reducible refine wpList_st (cells := numA d2 (lim k2)) 122 6 55 ?_ ?_ HQ3.out ?_ ?_ ?_ ?_); rfl; rfl; rfl; exact u_num; exact numA_one _ _))
            go_roundg (5 - (c + 1))
            case measure => omega
            case rel => exact ⟨c + 1, d2, k2, by have := HJ.out.1; go_num, by rw [HU.out]; rfl, by omega, rfl, HV.out.1.row HN.out, by have := HD2.out.2; omega, fun b hb => by rw [HU.out] at hb; injection hb with hb; rw [← hb]; exact HD2.out.1⟩
          | some b0 =>
            rw [hso] at hsm HJ0
            subst hsm
            have hb0 := HJ0.out.2.2 b0 rfl
            have hD2 : ((sval d2 k2 - sval bx mx).natAbs : Int) = dI s l i := by rw [HD2.out.1, HX.out.1]; unfold dI; split <;> omega
            have hD1 : ((sval d k - sval bx mx).natAbs : Int) = dI s l b0 := by rw [hb0, HX.out.1]; unfold dI; split <;> omega
            have hlb := best_in s h l c b0 hso
            have hdl : dI s l i ≤ 55340232221128654848 ∧ dI s l b0 ≤ 55340232221128654848 := by unfold dI; constructor <;> split <;> omega
            have HK := Lib.hid (show k2 + mx ≤ 680564733841876926926749214863536422912 ∧ k + mx ≤ 680564733841876926926749214863536422912 ∧ (sval d2 k2 - sval bx mx).natAbs ≤ 680564733841876926926749214863536422912 ∧ (sval d k - sval bx mx).natAbs ≤ 680564733841876926926749214863536422912 by have := HD2.out.2; have := HX.out.2; have := HJ0.out.2.1; omega)
            have hsg : sgn (sval d2 k2 - sval bx mx).natAbs (sval d k - sval bx mx).natAbs < 0 ↔ dI s l i < dI s l b0 := by rw [← hD2, ← hD1]; unfold sgn; split <;> (try split) <;> omega
            have HJ := HJ0
            clear HJ0 hb0 hD2 hD1 hlb hdl
            by_cases hc2 : dI s l i < dI s l b0
            · have HU := Lib.hid (show bestI s h l (c + 1) = some i by rw [bestI, hci, hso]; unfold upI; rw [if_pos hin]; simp only; rw [if_pos hc2])
              have HC := Lib.hid (show decide (sgn (sval d2 k2 - sval bx mx).natAbs (sval d k - sval bx mx).natAbs < 0) = true by exact decide_eq_true (hsg.2 hc2))
              clear hso hsg hc2
              go_wp2_with (first
                | (go_at_call 78; refine (HE.out _).mono ?_; rintro e w2 ⟨rfl, hb2⟩; have hF2 := HV0.out.up hb2; clear hb2)
                | ((with_reducible refine wpList_do 10 (.alloc 122) _ (HB.out.2.1 _ _ _ _ _ _) ?_); (with_reducible refine wpList_st (cells := numA d2 (lim k2)) 122 10 42 ?_ ?_ (heap_alloc_new _ _) ?_ ?_ ?_ ?_); rfl; rfl; (rw [HB.out.2.2.1]; rfl); exact u_num; exact numA_one _ _; (rw [set_alloc])))
              have hT : VT W p5 p6 w2.heap.size h l (numA bx (lim mx)) (numA d (lim k)) (numA d2 (lim k2)) (w2.alloc (.cells (numA d2 (lim k2)) 122)) := ⟨hF2.up ((Below.refl w2.heap.size w2).alloc (Nat.le_refl _) _), heap_alloc_new _ _, lt_of_heap hF2.2.2.2.1⟩
              clear hF2
              generalize w2.alloc (.cells (numA d2 (lim k2)) 122) = y at *
              generalize w2.heap.size = p10 at *
              have HT := Lib.hid hT
              clear hT
              try simp only [Act.put, List.setIfInBounds_toArray, List.set_cons_zero, List.set_cons_succ]
              refine wp_region_held_drew (S := fun w' => VT W p5 p6 p10 h l (numA bx (lim mx)) (numA d (lim k)) (numA d2 (lim k2)) w') (by kernel_rfl) (HT.out.up (Below.refl y.heap.size y).drew) (fun hSd => ?_)
              refine take_val (i := 0) (oi := ⟨some 43, .move (.tmp 7), _, _, _, none⟩) (.bool true) rfl (by kernel_rfl) (by kernel_rfl) (by kernel_rfl) (fun _ _ _ h => h) rfl (fun w hSw => rfl) hSd ?_
              simp only [Act.put, List.setIfInBounds_toArray, List.set_cons_zero, List.set_cons_succ]
              refine take_val (i := 1) (oi := ⟨some 44, .unOp .not 4 (.tmp 43), _, _, _, none⟩) (.bool false) rfl (by kernel_rfl) (by kernel_rfl) (by kernel_rfl) (fun _ _ _ h => h) rfl (fun w hSw => rfl) hSd ?_
              simp only [Act.put, List.setIfInBounds_toArray, List.set_cons_zero, List.set_cons_succ]
              refine take_val (i := 2) (oi := ⟨some 45, .move (.tmp 44), _, _, _, none⟩) (.bool false) rfl (by kernel_rfl) (by kernel_rfl) (by kernel_rfl) (fun _ _ _ h => h) rfl (fun w hSw => rfl) hSd ?_
              simp only [Act.put, List.setIfInBounds_toArray, List.set_cons_zero, List.set_cons_succ]
              refine take_val (i := 3) (oi := ⟨some 46, .load 122 (.tmp 10), _, _, _, some (2, false)⟩) (.agg (numA d2 (lim k2))) rfl (by kernel_rfl) (by kernel_rfl) (by kernel_rfl) (fun _ _ _ h => h) rfl (fun w hSw => ex_load rfl (run_loadAt_mid w p10 0 122 (kpN d2 (lim k2)) _ (range_new (cs := kpN d2 (lim k2)) (hSw.2.1)) UN.out.1 rfl (UN.out.2 _ _))) hSd ?_
              simp only [Act.put, List.setIfInBounds_toArray, List.set_cons_zero, List.set_cons_succ]
              refine take_val (i := 4) (oi := ⟨some 47, .load 122 (.tmp 5), _, _, _, some (2, false)⟩) (.agg (numA bx (lim mx))) rfl (by kernel_rfl) (by kernel_rfl) (by kernel_rfl) (fun _ _ _ h => h) rfl (fun w hSw => ex_load rfl (run_loadAt_mid w p5 0 122 (kpN bx (lim mx)) _ (range_new (cs := kpN bx (lim mx)) (hSw.1.2.2.1)) UN.out.1 rfl (UN.out.2 _ _))) hSd ?_
              simp only [Act.put, List.setIfInBounds_toArray, List.set_cons_zero, List.set_cons_succ]
              refine take_val (i := 6) (oi := ⟨some 49, .load 122 (.tmp 6), _, _, _, some (2, false)⟩) (.agg (numA d (lim k))) rfl (by kernel_rfl) (by kernel_rfl) (by kernel_rfl) (fun _ _ _ h => h) rfl (fun w hSw => ex_load rfl (run_loadAt_mid w p6 0 122 (kpN d (lim k)) _ (range_new (cs := kpN d (lim k)) (hSw.1.2.2.2.1)) UN.out.1 rfl (UN.out.2 _ _))) hSd ?_
              simp only [Act.put, List.setIfInBounds_toArray, List.set_cons_zero, List.set_cons_succ]
              refine take_val (i := 7) (oi := ⟨some 50, .load 122 (.tmp 5), _, _, _, some (2, false)⟩) (.agg (numA bx (lim mx))) rfl (by kernel_rfl) (by kernel_rfl) (by kernel_rfl) (fun _ _ _ h => h) rfl (fun w hSw => ex_load rfl (run_loadAt_mid w p5 0 122 (kpN bx (lim mx)) _ (range_new (cs := kpN bx (lim mx)) (hSw.1.2.2.1)) UN.out.1 rfl (UN.out.2 _ _))) hSd ?_
              simp only [Act.put, List.setIfInBounds_toArray, List.set_cons_zero, List.set_cons_succ]
              refine take_call 5 (f := 80) (args := #[.agg (numA d2 (lim k2)), .agg (numA bx (lim mx))]) rfl (by kernel_rfl) rfl (by kernel_rfl) (size3_c _ _ _ _ _ HK.out.1) ?_
              rintro e v1 ⟨rfl, hb1⟩
              have hS1 := hSd.up hb1
              clear hb1 hSd
              refine ⟨_, rfl, hS1, ?_⟩
              simp only [Act.put, List.setIfInBounds_toArray, List.set_cons_zero, List.set_cons_succ]
              refine take_call 8 (f := 80) (args := #[.agg (numA d (lim k)), .agg (numA bx (lim mx))]) rfl (by kernel_rfl) rfl (by kernel_rfl) (size3_c _ _ _ _ _ HK.out.2.1) ?_
              rintro e v2 ⟨rfl, hb1⟩
              have hS2 := hS1.up hb1
              clear hb1 hS1
              refine ⟨_, rfl, hS2, ?_⟩
              simp only [Act.put, List.setIfInBounds_toArray, List.set_cons_zero, List.set_cons_succ]
              refine take_call 9 (f := 79) (args := #[.agg (numA false (lim (sval d2 k2 - sval bx mx).natAbs)), .agg (numA false (lim (sval d k - sval bx mx).natAbs))]) rfl (by kernel_rfl) rfl (by kernel_rfl) (sz_c _ _ _ HK.out.2.2.1 HK.out.2.2.2) ?_
              rintro e v3 ⟨rfl, hb1⟩
              have hSd := hS2.up hb1
              clear hb1 hS2
              refine ⟨_, rfl, hSd, ?_⟩
              simp only [Act.put, List.setIfInBounds_toArray, List.set_cons_zero, List.set_cons_succ]
              refine take_val (i := 10) (oi := ⟨some 53, .binOp .lss 3 (.tmp 52) (.const (.int .i64 0)) 3, _, _, _, some (2, false)⟩) (.bool true) rfl (by kernel_rfl) (by kernel_rfl) (by kernel_rfl) (fun _ _ _ h => h) rfl (fun w hSw => ex_lss rfl rfl HC.out) hSd ?_
              simp only [Act.put, List.setIfInBounds_toArray, List.set_cons_zero, List.set_cons_succ]
              refine take_val (i := 11) (oi := ⟨some 54, .pick (.tmp 45) (.const (.bool true)) (.tmp 53), _, _, _, none⟩) (.bool true) rfl (by kernel_rfl) (by kernel_rfl) (by kernel_rfl) (fun _ _ _ h => h) rfl (fun w hSw => rfl) hSd ?_
              simp only [Act.put, List.setIfInBounds_toArray, List.set_cons_zero, List.set_cons_succ]
              refine wpAnyH_done (by kernel_rfl) ?_ _
              have HV := Lib.hid hSd
              clear hSd HT
              have HR := Lib.hid (range_new (cs := kpN d2 (lim k2)) HV.out.2.1)
              have HQ3 := Lib.hid HV.out.1.2.2.2.1
              go_wp2_with (first
                | ((with_reducible refine wpList_ld 55 ?_ ?_ ?_ HR.out UN.out.1 (UN.out.2 _ _) ?_); rfl; rfl; rfl)
                | ((with_reducible refine wpList_st (cells := numA d2 (lim k2)) 122 6 55 ?_ ?_ HQ3.out ?_ ?_ ?_ ?_); rfl; rfl; rfl; exact u_num; exact numA_one _ _))
              go_roundg (5 - (c + 1))
              case measure => omega
              case rel => exact ⟨c + 1, d2, k2, by have := HJ.out.1; go_num, by rw [HU.out]; rfl, by omega, rfl, HV.out.1.row HN.out, by have := HD2.out.2; omega, fun b hb => by rw [HU.out] at hb; injection hb with hb; rw [← hb]; exact HD2.out.1⟩
            · have HU := Lib.hid (show bestI s h l (c + 1) = some b0 by rw [bestI, hci, hso]; unfold upI; rw [if_pos hin]; simp only; rw [if_neg hc2])
              have HC := Lib.hid (show decide (sgn (sval d2 k2 - sval bx mx).natAbs (sval d k - sval bx mx).natAbs < 0) = false by exact decide_eq_false (fun h => hc2 (hsg.1 h)))
              clear hso hsg hc2
              go_wp2_with (first
                | (go_at_call 78; refine (HE.out _).mono ?_; rintro e w2 ⟨rfl, hb2⟩; have hF2 := HV0.out.up hb2; clear hb2)
                | ((with_reducible refine wpList_do 10 (.alloc 122) _ (HB.out.2.1 _ _ _ _ _ _) ?_); (with_reducible refine wpList_st (cells := numA d2 (lim k2)) 122 10 42 ?_ ?_ (heap_alloc_new _ _) ?_ ?_ ?_ ?_); rfl; rfl; (rw [HB.out.2.2.1]; rfl); exact u_num; exact numA_one _ _; (rw [set_alloc])))
              have hT : VT W p5 p6 w2.heap.size h l (numA bx (lim mx)) (numA d (lim k)) (numA d2 (lim k2)) (w2.alloc (.cells (numA d2 (lim k2)) 122)) := ⟨hF2.up ((Below.refl w2.heap.size w2).alloc (Nat.le_refl _) _), heap_alloc_new _ _, lt_of_heap hF2.2.2.2.1⟩
              clear hF2
              generalize w2.alloc (.cells (numA d2 (lim k2)) 122) = y at *
              generalize w2.heap.size = p10 at *
              have HT := Lib.hid hT
              clear hT
              try simp only [Act.put, List.setIfInBounds_toArray, List.set_cons_zero, List.set_cons_succ]
              refine wp_region_held_drew (S := fun w' => VT W p5 p6 p10 h l (numA bx (lim mx)) (numA d (lim k)) (numA d2 (lim k2)) w') (by kernel_rfl) (HT.out.up (Below.refl y.heap.size y).drew) (fun hSd => ?_)
              refine take_val (i := 0) (oi := ⟨some 43, .move (.tmp 7), _, _, _, none⟩) (.bool true) rfl (by kernel_rfl) (by kernel_rfl) (by kernel_rfl) (fun _ _ _ h => h) rfl (fun w hSw => rfl) hSd ?_
              simp only [Act.put, List.setIfInBounds_toArray, List.set_cons_zero, List.set_cons_succ]
              refine take_val (i := 1) (oi := ⟨some 44, .unOp .not 4 (.tmp 43), _, _, _, none⟩) (.bool false) rfl (by kernel_rfl) (by kernel_rfl) (by kernel_rfl) (fun _ _ _ h => h) rfl (fun w hSw => rfl) hSd ?_
              simp only [Act.put, List.setIfInBounds_toArray, List.set_cons_zero, List.set_cons_succ]
              refine take_val (i := 2) (oi := ⟨some 45, .move (.tmp 44), _, _, _, none⟩) (.bool false) rfl (by kernel_rfl) (by kernel_rfl) (by kernel_rfl) (fun _ _ _ h => h) rfl (fun w hSw => rfl) hSd ?_
              simp only [Act.put, List.setIfInBounds_toArray, List.set_cons_zero, List.set_cons_succ]
              refine take_val (i := 3) (oi := ⟨some 46, .load 122 (.tmp 10), _, _, _, some (2, false)⟩) (.agg (numA d2 (lim k2))) rfl (by kernel_rfl) (by kernel_rfl) (by kernel_rfl) (fun _ _ _ h => h) rfl (fun w hSw => ex_load rfl (run_loadAt_mid w p10 0 122 (kpN d2 (lim k2)) _ (range_new (cs := kpN d2 (lim k2)) (hSw.2.1)) UN.out.1 rfl (UN.out.2 _ _))) hSd ?_
              simp only [Act.put, List.setIfInBounds_toArray, List.set_cons_zero, List.set_cons_succ]
              refine take_val (i := 4) (oi := ⟨some 47, .load 122 (.tmp 5), _, _, _, some (2, false)⟩) (.agg (numA bx (lim mx))) rfl (by kernel_rfl) (by kernel_rfl) (by kernel_rfl) (fun _ _ _ h => h) rfl (fun w hSw => ex_load rfl (run_loadAt_mid w p5 0 122 (kpN bx (lim mx)) _ (range_new (cs := kpN bx (lim mx)) (hSw.1.2.2.1)) UN.out.1 rfl (UN.out.2 _ _))) hSd ?_
              simp only [Act.put, List.setIfInBounds_toArray, List.set_cons_zero, List.set_cons_succ]
              refine take_val (i := 6) (oi := ⟨some 49, .load 122 (.tmp 6), _, _, _, some (2, false)⟩) (.agg (numA d (lim k))) rfl (by kernel_rfl) (by kernel_rfl) (by kernel_rfl) (fun _ _ _ h => h) rfl (fun w hSw => ex_load rfl (run_loadAt_mid w p6 0 122 (kpN d (lim k)) _ (range_new (cs := kpN d (lim k)) (hSw.1.2.2.2.1)) UN.out.1 rfl (UN.out.2 _ _))) hSd ?_
              simp only [Act.put, List.setIfInBounds_toArray, List.set_cons_zero, List.set_cons_succ]
              refine take_val (i := 7) (oi := ⟨some 50, .load 122 (.tmp 5), _, _, _, some (2, false)⟩) (.agg (numA bx (lim mx))) rfl (by kernel_rfl) (by kernel_rfl) (by kernel_rfl) (fun _ _ _ h => h) rfl (fun w hSw => ex_load rfl (run_loadAt_mid w p5 0 122 (kpN bx (lim mx)) _ (range_new (cs := kpN bx (lim mx)) (hSw.1.2.2.1)) UN.out.1 rfl (UN.out.2 _ _))) hSd ?_
              simp only [Act.put, List.setIfInBounds_toArray, List.set_cons_zero, List.set_cons_succ]
              refine take_call 5 (f := 80) (args := #[.agg (numA d2 (lim k2)), .agg (numA bx (lim mx))]) rfl (by kernel_rfl) rfl (by kernel_rfl) (size3_c _ _ _ _ _ HK.out.1) ?_
              rintro e v1 ⟨rfl, hb1⟩
              have hS1 := hSd.up hb1
              clear hb1 hSd
              refine ⟨_, rfl, hS1, ?_⟩
              simp only [Act.put, List.setIfInBounds_toArray, List.set_cons_zero, List.set_cons_succ]
              refine take_call 8 (f := 80) (args := #[.agg (numA d (lim k)), .agg (numA bx (lim mx))]) rfl (by kernel_rfl) rfl (by kernel_rfl) (size3_c _ _ _ _ _ HK.out.2.1) ?_
              rintro e v2 ⟨rfl, hb1⟩
              have hS2 := hS1.up hb1
              clear hb1 hS1
              refine ⟨_, rfl, hS2, ?_⟩
              simp only [Act.put, List.setIfInBounds_toArray, List.set_cons_zero, List.set_cons_succ]
              refine take_call 9 (f := 79) (args := #[.agg (numA false (lim (sval d2 k2 - sval bx mx).natAbs)), .agg (numA false (lim (sval d k - sval bx mx).natAbs))]) rfl (by kernel_rfl) rfl (by kernel_rfl) (sz_c _ _ _ HK.out.2.2.1 HK.out.2.2.2) ?_
              rintro e v3 ⟨rfl, hb1⟩
              have hSd := hS2.up hb1
              clear hb1 hS2
              refine ⟨_, rfl, hSd, ?_⟩
              simp only [Act.put, List.setIfInBounds_toArray, List.set_cons_zero, List.set_cons_succ]
              refine take_val (i := 10) (oi := ⟨some 53, .binOp .lss 3 (.tmp 52) (.const (.int .i64 0)) 3, _, _, _, some (2, false)⟩) (.bool false) rfl (by kernel_rfl) (by kernel_rfl) (by kernel_rfl) (fun _ _ _ h => h) rfl (fun w hSw => ex_lss rfl rfl HC.out) hSd ?_
              simp only [Act.put, List.setIfInBounds_toArray, List.set_cons_zero, List.set_cons_succ]
              refine take_val (i := 11) (oi := ⟨some 54, .pick (.tmp 45) (.const (.bool true)) (.tmp 53), _, _, _, none⟩) (.bool false) rfl (by kernel_rfl) (by kernel_rfl) (by kernel_rfl) (fun _ _ _ h => h) rfl (fun w hSw => rfl) hSd ?_
              simp only [Act.put, List.setIfInBounds_toArray, List.set_cons_zero, List.set_cons_succ]
              refine wpAnyH_done (by kernel_rfl) ?_ _
              have HV := Lib.hid hSd
              clear hSd HT
              go_wp2_with fail
              go_roundg (5 - (c + 1))
              case measure => omega
              case rel => exact ⟨c + 1, d, k, by have := HJ.out.1; go_num, by rw [HU.out]; rfl, by omega, rfl, HV.out.1, HJ.out.2.1, fun b hb => by rw [HU.out] at hb; injection hb with hb; rw [← hb]; exact HJ.out.2.2 _ rfl⟩
        · cases hso : bestI s h l c with
          | none =>
            rw [hso] at hsm HJ0
            subst hsm
            have HU := Lib.hid (show bestI s h l (c + 1) = some i by rw [bestI, hci, hso]; unfold upI; rw [if_pos hin])
            have HJ := HJ0
            clear HJ0 hso
            go_wp2_with (first
              | (go_at_call 78; refine (HE.out _).mono ?_; rintro e w2 ⟨rfl, hb2⟩; have hF2 := HV0.out.up hb2; clear hb2)
              | ((with_reducible refine wpList_do 10 (.alloc 122) _ (HB.out.2.1 _ _ _ _ _ _) ?_); (with_reducible refine wpList_st (cells := numA d2 (lim k2)) 122 10 42 ?_ ?_ (heap_alloc_new _ _) ?_ ?_ ?_ ?_); rfl; rfl; (rw [HB.out.2.2.1]; rfl); exact u_num; exact numA_one _ _; (rw [set_alloc])))
            have hT : VT W p5 p6 w2.heap.size h l (numA bx (lim mx)) (numA d (lim k)) (numA d2 (lim k2)) (w2.alloc (.cells (numA d2 (lim k2)) 122)) := ⟨hF2.up ((Below.refl w2.heap.size w2).alloc (Nat.le_refl _) _), heap_alloc_new _ _, lt_of_heap hF2.2.2.2.1⟩
            clear hF2
            generalize w2.alloc (.cells (numA d2 (lim k2)) 122) = y at *
            generalize w2.heap.size = p10 at *
            have HT := Lib.hid hT
            clear hT
            try simp only [Act.put, List.setIfInBounds_toArray, List.set_cons_zero, List.set_cons_succ]
            refine wp_region_held_drew (S := fun w' => VT W p5 p6 p10 h l (numA bx (lim mx)) (numA d (lim k)) (numA d2 (lim k2)) w') (by kernel_rfl) (HT.out.up (Below.refl y.heap.size y).drew) (fun hSd => ?_)
            refine take_val (i := 0) (oi := ⟨some 43, .move (.tmp 7), _, _, _, none⟩) (.bool false) rfl (by kernel_rfl) (by kernel_rfl) (by kernel_rfl) (fun _ _ _ h => h) rfl (fun w hSw => rfl) hSd ?_
            simp only [Act.put, List.setIfInBounds_toArray, List.set_cons_zero, List.set_cons_succ]
            refine take_val (i := 1) (oi := ⟨some 44, .unOp .not 4 (.tmp 43), _, _, _, none⟩) (.bool true) rfl (by kernel_rfl) (by kernel_rfl) (by kernel_rfl) (fun _ _ _ h => h) rfl (fun w hSw => rfl) hSd ?_
            simp only [Act.put, List.setIfInBounds_toArray, List.set_cons_zero, List.set_cons_succ]
            refine take_val (i := 2) (oi := ⟨some 45, .move (.tmp 44), _, _, _, none⟩) (.bool true) rfl (by kernel_rfl) (by kernel_rfl) (by kernel_rfl) (fun _ _ _ h => h) rfl (fun w hSw => rfl) hSd ?_
            simp only [Act.put, List.setIfInBounds_toArray, List.set_cons_zero, List.set_cons_succ]
            refine take_off (i := 3) (oi := ⟨some 46, .load 122 (.tmp 10), _, _, _, some (2, false)⟩) rfl (by kernel_rfl) (by kernel_rfl) (by kernel_rfl) (fun _ _ _ h => h) rfl hSd ?_
            simp only [Act.put, List.setIfInBounds_toArray, List.set_cons_zero, List.set_cons_succ]
            refine take_off (i := 4) (oi := ⟨some 47, .load 122 (.tmp 5), _, _, _, some (2, false)⟩) rfl (by kernel_rfl) (by kernel_rfl) (by kernel_rfl) (fun _ _ _ h => h) rfl hSd ?_
            simp only [Act.put, List.setIfInBounds_toArray, List.set_cons_zero, List.set_cons_succ]
            refine take_off (i := 6) (oi := ⟨some 49, .load 122 (.tmp 6), _, _, _, some (2, false)⟩) rfl (by kernel_rfl) (by kernel_rfl) (by kernel_rfl) (fun _ _ _ h => h) rfl hSd ?_
            simp only [Act.put, List.setIfInBounds_toArray, List.set_cons_zero, List.set_cons_succ]
            refine take_off (i := 7) (oi := ⟨some 50, .load 122 (.tmp 5), _, _, _, some (2, false)⟩) rfl (by kernel_rfl) (by kernel_rfl) (by kernel_rfl) (fun _ _ _ h => h) rfl hSd ?_
            simp only [Act.put, List.setIfInBounds_toArray, List.set_cons_zero, List.set_cons_succ]
            refine take_off (i := 5) (oi := ⟨some 48, .call { callee := .value (.func 80), args := #[.tmp 46, .tmp 47], argTypes := #[122, 122] }, _, _, _, some (2, false)⟩) rfl (by kernel_rfl) (by kernel_rfl) (by kernel_rfl) (fun _ _ _ h => h) rfl hSd ?_
            simp only [Act.put, List.setIfInBounds_toArray, List.set_cons_zero, List.set_cons_succ]
            refine take_off (i := 8) (oi := ⟨some 51, .call { callee := .value (.func 80), args := #[.tmp 49, .tmp 50], argTypes := #[122, 122] }, _, _, _, some (2, false)⟩) rfl (by kernel_rfl) (by kernel_rfl) (by kernel_rfl) (fun _ _ _ h => h) rfl hSd ?_
            simp only [Act.put, List.setIfInBounds_toArray, List.set_cons_zero, List.set_cons_succ]
            refine take_off (i := 9) (oi := ⟨some 52, .call { callee := .value (.func 79), args := #[.tmp 48, .tmp 51], argTypes := #[122, 122] }, _, _, _, some (2, false)⟩) rfl (by kernel_rfl) (by kernel_rfl) (by kernel_rfl) (fun _ _ _ h => h) rfl hSd ?_
            simp only [Act.put, List.setIfInBounds_toArray, List.set_cons_zero, List.set_cons_succ]
            refine take_off (i := 10) (oi := ⟨some 53, .binOp .lss 3 (.tmp 52) (.const (.int .i64 0)) 3, _, _, _, some (2, false)⟩) rfl (by kernel_rfl) (by kernel_rfl) (by kernel_rfl) (fun _ _ _ h => h) rfl hSd ?_
            simp only [Act.put, List.setIfInBounds_toArray, List.set_cons_zero, List.set_cons_succ]
            refine take_val (i := 11) (oi := ⟨some 54, .pick (.tmp 45) (.const (.bool true)) (.tmp 53), _, _, _, none⟩) (.bool true) rfl (by kernel_rfl) (by kernel_rfl) (by kernel_rfl) (fun _ _ _ h => h) rfl (fun w hSw => rfl) hSd ?_
            simp only [Act.put, List.setIfInBounds_toArray, List.set_cons_zero, List.set_cons_succ]
            refine wpAnyH_done (by kernel_rfl) ?_ _
            have HV := Lib.hid hSd
            clear hSd HT
            have HR := Lib.hid (range_new (cs := kpN d2 (lim k2)) HV.out.2.1)
            have HQ3 := Lib.hid HV.out.1.2.2.2.1
            go_wp2_with (first
              | ((with_reducible refine wpList_ld 55 ?_ ?_ ?_ HR.out UN.out.1 (UN.out.2 _ _) ?_); rfl; rfl; rfl)
              | ((with_reducible refine wpList_st (cells := numA d2 (lim k2)) 122 6 55 ?_ ?_ HQ3.out ?_ ?_ ?_ ?_); rfl; rfl; rfl; exact u_num; exact numA_one _ _))
            go_roundg (5 - (c + 1))
            case measure => omega
            case rel => exact ⟨c + 1, d2, k2, by have := HJ.out.1; go_num, by rw [HU.out]; rfl, by omega, rfl, HV.out.1.row HN.out, by have := HD2.out.2; omega, fun b hb => by rw [HU.out] at hb; injection hb with hb; rw [← hb]; exact HD2.out.1⟩
          | some b0 =>
            rw [hso] at hsm HJ0
            subst hsm
            have hb0 := HJ0.out.2.2 b0 rfl
            have hD2 : ((sval d2 k2 - sval bx mx).natAbs : Int) = dI s l i := by rw [HD2.out.1, HX.out.1]; unfold dI; split <;> omega
            have hD1 : ((sval d k - sval bx mx).natAbs : Int) = dI s l b0 := by rw [hb0, HX.out.1]; unfold dI; split <;> omega
            have hlb := best_in s h l c b0 hso
            have hdl : dI s l i ≤ 55340232221128654848 ∧ dI s l b0 ≤ 55340232221128654848 := by unfold dI; constructor <;> split <;> omega
            have HK := Lib.hid (show k2 + mx ≤ 680564733841876926926749214863536422912 ∧ k + mx ≤ 680564733841876926926749214863536422912 ∧ (sval d2 k2 - sval bx mx).natAbs ≤ 680564733841876926926749214863536422912 ∧ (sval d k - sval bx mx).natAbs ≤ 680564733841876926926749214863536422912 by have := HD2.out.2; have := HX.out.2; have := HJ0.out.2.1; omega)
            have hsg : sgn (sval d2 k2 - sval bx mx).natAbs (sval d k - sval bx mx).natAbs < 0 ↔ dI s l i < dI s l b0 := by rw [← hD2, ← hD1]; unfold sgn; split <;> (try split) <;> omega
            have HJ := HJ0
            clear HJ0 hb0 hD2 hD1 hlb hdl
            by_cases hc2 : dI s l i < dI s l b0
            · have HU := Lib.hid (show bestI s h l (c + 1) = some i by rw [bestI, hci, hso]; unfold upI; rw [if_pos hin]; simp only; rw [if_pos hc2])
              have HC := Lib.hid (show decide (sgn (sval d2 k2 - sval bx mx).natAbs (sval d k - sval bx mx).natAbs < 0) = true by exact decide_eq_true (hsg.2 hc2))
              clear hso hsg hc2
              go_wp2_with (first
                | (go_at_call 78; refine (HE.out _).mono ?_; rintro e w2 ⟨rfl, hb2⟩; have hF2 := HV0.out.up hb2; clear hb2)
                | ((with_reducible refine wpList_do 10 (.alloc 122) _ (HB.out.2.1 _ _ _ _ _ _) ?_); (with_reducible refine wpList_st (cells := numA d2 (lim k2)) 122 10 42 ?_ ?_ (heap_alloc_new _ _) ?_ ?_ ?_ ?_); rfl; rfl; (rw [HB.out.2.2.1]; rfl); exact u_num; exact numA_one _ _; (rw [set_alloc])))
              have hT : VT W p5 p6 w2.heap.size h l (numA bx (lim mx)) (numA d (lim k)) (numA d2 (lim k2)) (w2.alloc (.cells (numA d2 (lim k2)) 122)) := ⟨hF2.up ((Below.refl w2.heap.size w2).alloc (Nat.le_refl _) _), heap_alloc_new _ _, lt_of_heap hF2.2.2.2.1⟩
              clear hF2
              generalize w2.alloc (.cells (numA d2 (lim k2)) 122) = y at *
              generalize w2.heap.size = p10 at *
              have HT := Lib.hid hT
              clear hT
              try simp only [Act.put, List.setIfInBounds_toArray, List.set_cons_zero, List.set_cons_succ]
              refine wp_region_held_drew (S := fun w' => VT W p5 p6 p10 h l (numA bx (lim mx)) (numA d (lim k)) (numA d2 (lim k2)) w') (by kernel_rfl) (HT.out.up (Below.refl y.heap.size y).drew) (fun hSd => ?_)
              refine take_val (i := 0) (oi := ⟨some 43, .move (.tmp 7), _, _, _, none⟩) (.bool true) rfl (by kernel_rfl) (by kernel_rfl) (by kernel_rfl) (fun _ _ _ h => h) rfl (fun w hSw => rfl) hSd ?_
              simp only [Act.put, List.setIfInBounds_toArray, List.set_cons_zero, List.set_cons_succ]
              refine take_val (i := 1) (oi := ⟨some 44, .unOp .not 4 (.tmp 43), _, _, _, none⟩) (.bool false) rfl (by kernel_rfl) (by kernel_rfl) (by kernel_rfl) (fun _ _ _ h => h) rfl (fun w hSw => rfl) hSd ?_
              simp only [Act.put, List.setIfInBounds_toArray, List.set_cons_zero, List.set_cons_succ]
              refine take_val (i := 2) (oi := ⟨some 45, .move (.tmp 44), _, _, _, none⟩) (.bool false) rfl (by kernel_rfl) (by kernel_rfl) (by kernel_rfl) (fun _ _ _ h => h) rfl (fun w hSw => rfl) hSd ?_
              simp only [Act.put, List.setIfInBounds_toArray, List.set_cons_zero, List.set_cons_succ]
              refine take_val (i := 3) (oi := ⟨some 46, .load 122 (.tmp 10), _, _, _, some (2, false)⟩) (.agg (numA d2 (lim k2))) rfl (by kernel_rfl) (by kernel_rfl) (by kernel_rfl) (fun _ _ _ h => h) rfl (fun w hSw => ex_load rfl (run_loadAt_mid w p10 0 122 (kpN d2 (lim k2)) _ (range_new (cs := kpN d2 (lim k2)) (hSw.2.1)) UN.out.1 rfl (UN.out.2 _ _))) hSd ?_
              simp only [Act.put, List.setIfInBounds_toArray, List.set_cons_zero, List.set_cons_succ]
              refine take_val (i := 4) (oi := ⟨some 47, .load 122 (.tmp 5), _, _, _, some (2, false)⟩) (.agg (numA bx (lim mx))) rfl (by kernel_rfl) (by kernel_rfl) (by kernel_rfl) (fun _ _ _ h => h) rfl (fun w hSw => ex_load rfl (run_loadAt_mid w p5 0 122 (kpN bx (lim mx)) _ (range_new (cs := kpN bx (lim mx)) (hSw.1.2.2.1)) UN.out.1 rfl (UN.out.2 _ _))) hSd ?_
              simp only [Act.put, List.setIfInBounds_toArray, List.set_cons_zero, List.set_cons_succ]
              refine take_val (i := 6) (oi := ⟨some 49, .load 122 (.tmp 6), _, _, _, some (2, false)⟩) (.agg (numA d (lim k))) rfl (by kernel_rfl) (by kernel_rfl) (by kernel_rfl) (fun _ _ _ h => h) rfl (fun w hSw => ex_load rfl (run_loadAt_mid w p6 0 122 (kpN d (lim k)) _ (range_new (cs := kpN d (lim k)) (hSw.1.2.2.2.1)) UN.out.1 rfl (UN.out.2 _ _))) hSd ?_
              simp only [Act.put, List.setIfInBounds_toArray, List.set_cons_zero, List.set_cons_succ]
              refine take_val (i := 7) (oi := ⟨some 50, .load 122 (.tmp 5), _, _, _, some (2, false)⟩) (.agg (numA bx (lim mx))) rfl (by kernel_rfl) (by kernel_rfl) (by kernel_rfl) (fun _ _ _ h => h) rfl (fun w hSw => ex_load rfl (run_loadAt_mid w p5 0 122 (kpN bx (lim mx)) _ (range_new (cs := kpN bx (lim mx)) (hSw.1.2.2.1)) UN.out.1 rfl (UN.out.2 _ _))) hSd ?_
              simp only [Act.put, List.setIfInBounds_toArray, List.set_cons_zero, List.set_cons_succ]
              refine take_call 5 (f := 80) (args := #[.agg (numA d2 (lim k2)), .agg (numA bx (lim mx))]) rfl (by kernel_rfl) rfl (by kernel_rfl) (size3_c _ _ _ _ _ HK.out.1) ?_
              rintro e v1 ⟨rfl, hb1⟩
              have hS1 := hSd.up hb1
              clear hb1 hSd
              refine ⟨_, rfl, hS1, ?_⟩
              simp only [Act.put, List.setIfInBounds_toArray, List.set_cons_zero, List.set_cons_succ]
              refine take_call 8 (f := 80) (args := #[.agg (numA d (lim k)), .agg (numA bx (lim mx))]) rfl (by kernel_rfl) rfl (by kernel_rfl) (size3_c _ _ _ _ _ HK.out.2.1) ?_
              rintro e v2 ⟨rfl, hb1⟩
              have hS2 := hS1.up hb1
              clear hb1 hS1
              refine ⟨_, rfl, hS2, ?_⟩
              simp only [Act.put, List.setIfInBounds_toArray, List.set_cons_zero, List.set_cons_succ]
              refine take_call 9 (f := 79) (args := #[.agg (numA false (lim (sval d2 k2 - sval bx mx).natAbs)), .agg (numA false (lim (sval d k - sval bx mx).natAbs))]) rfl (by kernel_rfl) rfl (by kernel_rfl) (sz_c _ _ _ HK.out.2.2.1 HK.out.2.2.2) ?_
              rintro e v3 ⟨rfl, hb1⟩
              have hSd := hS2.up hb1
              clear hb1 hS2
              refine ⟨_, rfl, hSd, ?_⟩
              simp only [Act.put, List.setIfInBounds_toArray, List.set_cons_zero, List.set_cons_succ]
              refine take_val (i := 10) (oi := ⟨some 53, .binOp .lss 3 (.tmp 52) (.const (.int .i64 0)) 3, _, _, _, some (2, false)⟩) (.bool true) rfl (by kernel_rfl) (by kernel_rfl) (by kernel_rfl) (fun _ _ _ h => h) rfl (fun w hSw => ex_lss rfl rfl HC.out) hSd ?_
              simp only [Act.put, List.setIfInBounds_toArray, List.set_cons_zero, List.set_cons_succ]
              refine take_val (i := 11) (oi := ⟨some 54, .pick (.tmp 45) (.const (.bool true)) (.tmp 53), _, _, _, none⟩) (.bool true) rfl (by kernel_rfl) (by kernel_rfl) (by kernel_rfl) (fun _ _ _ h => h) rfl (fun w hSw => rfl) hSd ?_
              simp only [Act.put, List.setIfInBounds_toArray, List.set_cons_zero, List.set_cons_succ]
              refine wpAnyH_done (by kernel_rfl) ?_ _
              have HV := Lib.hid hSd
              clear hSd HT
              have HR := Lib.hid (range_new (cs := kpN d2 (lim k2)) HV.out.2.1)
              have HQ3 := Lib.hid HV.out.1.2.2.2.1
              go_wp2_with (first
                | ((with_reducible refine wpList_ld 55 ?_ ?_ ?_ HR.out UN.out.1 (UN.out.2 _ _) ?_); rfl; rfl; rfl)
                | ((with_reducible refine wpList_st (cells := numA d2 (lim k2)) 122 6 55 ?_ ?_ HQ3.out ?_ ?_ ?_ ?_); rfl; rfl; rfl; exact u_num; exact numA_one _ _))
              go_roundg (5 - (c + 1))
              case measure => omega
              case rel => exact ⟨c + 1, d2, k2, by have := HJ.out.1; go_num, by rw [HU.out]; rfl, by omega, rfl, HV.out.1.row HN.out, by have := HD2.out.2; omega, fun b hb => by rw [HU.out] at hb; injection hb with hb; rw [← hb]; exact HD2.out.1⟩
            · have HU := Lib.hid (show bestI s h l (c + 1) = some b0 by rw [bestI, hci, hso]; unfold upI; rw [if_pos hin]; simp only; rw [if_neg hc2])
              have HC := Lib.hid (show decide (sgn (sval d2 k2 - sval bx mx).natAbs (sval d k - sval bx mx).natAbs < 0) = false by exact decide_eq_false (fun h => hc2 (hsg.1 h)))
              clear hso hsg hc2
              go_wp2_with (first
                | (go_at_call 78; refine (HE.out _).mono ?_; rintro e w2 ⟨rfl, hb2⟩; have hF2 := HV0.out.up hb2; clear hb2)
                | ((with_reducible refine wpList_do 10 (.alloc 122) _ (HB.out.2.1 _ _ _ _ _ _) ?_); (with_reducible refine wpList_st (cells := numA d2 (lim k2)) 122 10 42 ?_ ?_ (heap_alloc_new _ _) ?_ ?_ ?_ ?_); rfl; rfl; (rw [HB.out.2.2.1]; rfl); exact u_num; exact numA_one _ _; (rw [set_alloc])))
              have hT : VT W p5 p6 w2.heap.size h l (numA bx (lim mx)) (numA d (lim k)) (numA d2 (lim k2)) (w2.alloc (.cells (numA d2 (lim k2)) 122)) := ⟨hF2.up ((Below.refl w2.heap.size w2).alloc (Nat.le_refl _) _), heap_alloc_new _ _, lt_of_heap hF2.2.2.2.1⟩
              clear hF2
              generalize w2.alloc (.cells (numA d2 (lim k2)) 122) = y at *
              generalize w2.heap.size = p10 at *
              have HT := Lib.hid hT
              clear hT
              try simp only [Act.put, List.setIfInBounds_toArray, List.set_cons_zero, List.set_cons_succ]
              refine wp_region_held_drew (S := fun w' => VT W p5 p6 p10 h l (numA bx (lim mx)) (numA d (lim k)) (numA d2 (lim k2)) w') (by kernel_rfl) (HT.out.up (Below.refl y.heap.size y).drew) (fun hSd => ?_)
              refine take_val (i := 0) (oi := ⟨some 43, .move (.tmp 7), _, _, _, none⟩) (.bool true) rfl (by kernel_rfl) (by kernel_rfl) (by kernel_rfl) (fun _ _ _ h => h) rfl (fun w hSw => rfl) hSd ?_
              simp only [Act.put, List.setIfInBounds_toArray, List.set_cons_zero, List.set_cons_succ]
              refine take_val (i := 1) (oi := ⟨some 44, .unOp .not 4 (.tmp 43), _, _, _, none⟩) (.bool false) rfl (by kernel_rfl) (by kernel_rfl) (by kernel_rfl) (fun _ _ _ h => h) rfl (fun w hSw => rfl) hSd ?_
              simp only [Act.put, List.setIfInBounds_toArray, List.set_cons_zero, List.set_cons_succ]
              refine take_val (i := 2) (oi := ⟨some 45, .move (.tmp 44), _, _, _, none⟩) (.bool false) rfl (by kernel_rfl) (by kernel_rfl) (by kernel_rfl) (fun _ _ _ h => h) rfl (fun w hSw => rfl) hSd ?_
              simp only [Act.put, List.setIfInBounds_toArray, List.set_cons_zero, List.set_cons_succ]
              refine take_val (i := 3) (oi := ⟨some 46, .load 122 (.tmp 10), _, _, _, some (2, false)⟩) (.agg (numA d2 (lim k2))) rfl (by kernel_rfl) (by kernel_rfl) (by kernel_rfl) (fun _ _ _ h => h) rfl (fun w hSw => ex_load rfl (run_loadAt_mid w p10 0 122 (kpN d2 (lim k2)) _ (range_new (cs := kpN d2 (lim k2)) (hSw.2.1)) UN.out.1 rfl (UN.out.2 _ _))) hSd ?_
              simp only [Act.put, List.setIfInBounds_toArray, List.set_cons_zero, List.set_cons_succ]
              refine take_val (i := 4) (oi := ⟨some 47, .load 122 (.tmp 5), _, _, _, some (2, false)⟩) (.agg (numA bx (lim mx))) rfl (by kernel_rfl) (by kernel_rfl) (by kernel_rfl) (fun _ _ _ h => h) rfl (fun w hSw => ex_load rfl (run_loadAt_mid w p5 0 122 (kpN bx (lim mx)) _ (range_new (cs := kpN bx (lim mx)) (hSw.1.2.2.1)) UN.out.1 rfl (UN.out.2 _ _))) hSd ?_
              simp only [Act.put, List.setIfInBounds_toArray, List.set_cons_zero, List.set_cons_succ]
              refine take_val (i := 6) (oi := ⟨some 49, .load 122 (.tmp 6), _, _, _, some (2, false)⟩) (.agg (numA d (lim k))) rfl (by kernel_rfl) (by kernel_rfl) (by kernel_rfl) (fun _ _ _ h => h) rfl (fun w hSw => ex_load rfl (run_loadAt_mid w p6 0 122 (kpN d (lim k)) _ (range_new (cs := kpN d (lim k)) (hSw.1.2.2.2.1)) UN.out.1 rfl (UN.out.2 _ _))) hSd ?_
              simp only [Act.put, List.setIfInBounds_toArray, List.set_cons_zero, List.set_cons_succ]
              refine take_val (i := 7) (oi := ⟨some 50, .load 122 (.tmp 5), _, _, _, some (2, false)⟩) (.agg (numA bx (lim mx))) rfl (by kernel_rfl) (by kernel_rfl) (by kernel_rfl) (fun _ _ _ h => h) rfl (fun w hSw => ex_load rfl (run_loadAt_mid w p5 0 122 (kpN bx (lim mx)) _ (range_new (cs := kpN bx (lim mx)) (hSw.1.2.2.1)) UN.out.1 rfl (UN.out.2 _ _))) hSd ?_
              simp only [Act.put, List.setIfInBounds_toArray, List.set_cons_zero, List.set_cons_succ]
              refine take_call 5 (f := 80) (args := #[.agg (numA d2 (lim k2)), .agg (numA bx (lim mx))]) rfl (by kernel_rfl) rfl (by kernel_rfl) (size3_c _ _ _ _ _ HK.out.1) ?_
              rintro e v1 ⟨rfl, hb1⟩
              have hS1 := hSd.up hb1
              clear hb1 hSd
              refine ⟨_, rfl, hS1, ?_⟩
              simp only [Act.put, List.setIfInBounds_toArray, List.set_cons_zero, List.set_cons_succ]
              refine take_call 8 (f := 80) (args := #[.agg (numA d (lim k)), .agg (numA bx (lim mx))]) rfl (by kernel_rfl) rfl (by kernel_rfl) (size3_c _ _ _ _ _ HK.out.2.1) ?_
              rintro e v2 ⟨rfl, hb1⟩
              have hS2 := hS1.up hb1
              clear hb1 hS1
              refine ⟨_, rfl, hS2, ?_⟩
              simp only [Act.put, List.setIfInBounds_toArray, List.set_cons_zero, List.set_cons_succ]
              refine take_call 9 (f := 79) (args := #[.agg (numA false (lim (sval d2 k2 - sval bx mx).natAbs)), .agg (numA false (lim (sval d k - sval bx mx).natAbs))]) rfl (by kernel_rfl) rfl (by kernel_rfl) (sz_c _ _ _ HK.out.2.2.1 HK.out.2.2.2) ?_
              rintro e v3 ⟨rfl, hb1⟩
              have hSd := hS2.up hb1
              clear hb1 hS2
              refine ⟨_, rfl, hSd, ?_⟩
              simp only [Act.put, List.setIfInBounds_toArray, List.set_cons_zero, List.set_cons_succ]
              refine take_val (i := 10) (oi := ⟨some 53, .binOp .lss 3 (.tmp 52) (.const (.int .i64 0)) 3, _, _, _, some (2, false)⟩) (.bool false) rfl (by kernel_rfl) (by kernel_rfl) (by kernel_rfl) (fun _ _ _ h => h) rfl (fun w hSw => ex_lss rfl rfl HC.out) hSd ?_
              simp only [Act.put, List.setIfInBounds_toArray, List.set_cons_zero, List.set_cons_succ]
              refine take_val (i := 11) (oi := ⟨some 54, .pick (.tmp 45) (.const (.bool true)) (.tmp 53), _, _, _, none⟩) (.bool false) rfl (by kernel_rfl) (by kernel_rfl) (by kernel_rfl) (fun _ _ _ h => h) rfl (fun w hSw => rfl) hSd ?_
              simp only [Act.put, List.setIfInBounds_toArray, List.set_cons_zero, List.set_cons_succ]
              refine wpAnyH_done (by kernel_rfl) ?_ _
              have HV := Lib.hid hSd
              clear hSd HT
              go_wp2_with fail
              go_roundg (5 - (c + 1))
              case measure => omega
              case rel => exact ⟨c + 1, d, k, by have := HJ.out.1; go_num, by rw [HU.out]; rfl, by omega, rfl, HV.out.1, HJ.out.2.1, fun b hb => by rw [HU.out] at hb; injection hb with hb; rw [← hb]; exact HJ.out.2.2 _ rfl⟩
        · cases hso : bestI s h l c with
          | none =>
            rw [hso] at hsm HJ0
            subst hsm
            have HU := Lib.hid (show bestI s h l (c + 1) = some i by rw [bestI, hci, hso]; unfold upI; rw [if_pos hin])
            have HJ := HJ0
            clear HJ0 hso
            go_wp2_with (first
              | (go_at_call 78; refine (HE.out _).mono ?_; rintro e w2 ⟨rfl, hb2⟩; have hF2 := HV0.out.up hb2; clear hb2)
              | ((with_reducible refine wpList_do 10 (.alloc 122) _ (HB.out.2.1 _ _ _ _ _ _) ?_); (with_reducible refine wpList_st (cells := numA d2 (lim k2)) 122 10 42 ?_ ?_ (heap_alloc_new _ _) ?_ ?_ ?_ ?_); rfl; rfl; (rw [HB.out.2.2.1]; rfl); exact u_num; exact numA_one _ _; (rw [set_alloc])))
            have hT : VT W p5 p6 w2.heap.size h l (numA bx (lim mx)) (numA d (lim k)) (numA d2 (lim k2)) (w2.alloc (.cells (numA d2 (lim k2)) 122)) := ⟨hF2.up ((Below.refl w2.heap.size w2).alloc (Nat.le_refl _) _), heap_alloc_new _ _, lt_of_heap hF2.2.2.2.1⟩
            clear hF2
            generalize w2.alloc (.cells (numA d2 (lim k2)) 122) = y at *
            generalize w2.heap.size = p10 at *
            have HT := Lib.hid hT
            clear hT
            try simp only [Act.put, List.setIfInBounds_toArray, List.set_cons_zero, List.set_cons_succ]
            refine wp_region_held_drew (S := fun w' => VT W p5 p6 p10 h l (numA bx (lim mx)) (numA d (lim k)) (numA d2 (lim k2)) w') (by kernel_rfl) (HT.out.up (Below.refl y.heap.size y).drew) (fun hSd => ?_)
            refine take_val (i := 0) (oi := ⟨some 43, .move (.tmp 7), _, _, _, none⟩) (.bool false) rfl (by kernel_rfl) (by kernel_rfl) (by kernel_rfl) (fun _ _ _ h => h) rfl (fun w hSw => rfl) hSd ?_
            simp only [Act.put, List.setIfInBounds_toArray, List.set_cons_zero, List.set_cons_succ]
            refine take_val (i := 1) (oi := ⟨some 44, .unOp .not 4 (.tmp 43), _, _, _, none⟩) (.bool true) rfl (by kernel_rfl) (by kernel_rfl) (by kernel_rfl) (fun _ _ _ h => h) rfl (fun w hSw => rfl) hSd ?_
            simp only [Act.put, List.setIfInBounds_toArray, List.set_cons_zero, List.set_cons_succ]
            refine take_val (i := 2) (oi := ⟨some 45, .move (.tmp 44), _, _, _, none⟩) (.bool true) rfl (by kernel_rfl) (by kernel_rfl) (by kernel_rfl) (fun _ _ _ h => h) rfl (fun w hSw => rfl) hSd ?_
            simp only [Act.put, List.setIfInBounds_toArray, List.set_cons_zero, List.set_cons_succ]
            refine take_off (i := 3) (oi := ⟨some 46, .load 122 (.tmp 10), _, _, _, some (2, false)⟩) rfl (by kernel_rfl) (by kernel_rfl) (by kernel_rfl) (fun _ _ _ h => h) rfl hSd ?_
            simp only [Act.put, List.setIfInBounds_toArray, List.set_cons_zero, List.set_cons_succ]
            refine take_off (i := 4) (oi := ⟨some 47, .load 122 (.tmp 5), _, _, _, some (2, false)⟩) rfl (by kernel_rfl) (by kernel_rfl) (by kernel_rfl) (fun _ _ _ h => h) rfl hSd ?_
            simp only [Act.put, List.setIfInBounds_toArray, List.set_cons_zero, List.set_cons_succ]
            refine take_off (i := 6) (oi := ⟨some 49, .load 122 (.tmp 6), _, _, _, some (2, false)⟩) rfl (by kernel_rfl) (by kernel_rfl) (by kernel_rfl) (fun _ _ _ h => h) rfl hSd ?_
            simp only [Act.put, List.setIfInBounds_toArray, List.set_cons_zero, List.set_cons_succ]
            refine take_off (i := 7) (oi := ⟨some 50, .load 122 (.tmp 5), _, _, _, some (2, false)⟩) rfl (by kernel_rfl) (by kernel_rfl) (by kernel_rfl) (fun _ _ _ h => h) rfl hSd ?_
            simp only [Act.put, List.setIfInBounds_toArray, List.set_cons_zero, List.set_cons_succ]
            refine take_off (i := 5) (oi := ⟨some 48, .call { callee := .value (.func 80), args := #[.tmp 46, .tmp 47], argTypes := #[122, 122] }, _, _, _, some (2, false)⟩) rfl (by kernel_rfl) (by kernel_rfl) (by kernel_rfl) (fun _ _ _ h => h) rfl hSd ?_
            simp only [Act.put, List.setIfInBounds_toArray, List.set_cons_zero, List.set_cons_succ]
            refine take_off (i := 8) (oi := ⟨some 51, .call { callee := .value (.func 80), args := #[.tmp 49, .tmp 50], argTypes := #[122, 122] }, _, _, _, some (2, false)⟩) rfl (by kernel_rfl) (by kernel_rfl) (by kernel_rfl) (fun _ _ _ h => h) rfl hSd ?_
            simp only [Act.put, List.setIfInBounds_toArray, List.set_cons_zero, List.set_cons_succ]
            refine take_off (i := 9) (oi := ⟨some 52, .call { callee := .value (.func 79), args := #[.tmp 48, .tmp 51], argTypes := #[122, 122] }, _, _, _, some (2, false)⟩) rfl (by kernel_rfl) (by kernel_rfl) (by kernel_rfl) (fun _ _ _ h => h) rfl hSd ?_
            simp only [Act.put, List.setIfInBounds_toArray, List.set_cons_zero, List.set_cons_succ]
            refine take_off (i := 10) (oi := ⟨some 53, .binOp .lss 3 (.tmp 52) (.const (.int .i64 0)) 3, _, _, _, some (2, false)⟩) rfl (by kernel_rfl) (by kernel_rfl) (by kernel_rfl) (fun _ _ _ h => h) rfl hSd ?_
            simp only [Act.put, List.setIfInBounds_toArray, List.set_cons_zero, List.set_cons_succ]
            refine take_val (i := 11) (oi := ⟨some 54, .pick (.tmp 45) (.const (.bool true)) (.tmp 53), _, _, _, none⟩) (.bool true) rfl (by kernel_rfl) (by kernel_rfl) (by kernel_rfl) (fun _ _ _ h => h) rfl (fun w hSw => rfl) hSd ?_
            simp only [Act.put, List.setIfInBounds_toArray, List.set_cons_zero, List.set_cons_succ]
            refine wpAnyH_done (by kernel_rfl) ?_ _
            have HV := Lib.hid hSd
            clear hSd HT
            have HR := Lib.hid (range_new (cs := kpN d2 (lim k2)) HV.out.2.1)
            have HQ3 := Lib.hid HV.out.1.2.2.2.1
            go_wp2_with (first
              | ((with_reducible refine wpList_ld 55 ?_ ?_ ?_ HR.out UN.out.1 (UN.out.2 _ _) ?_); rfl; rfl; rfl)
              | ((with_reducible refine wpList_st (cells := numA d2 (lim k2)) 122 6 55 ?_ ?_ HQ3.out ?_ ?_ ?_ ?_); rfl; rfl; rfl; exact u_num; exact numA_one _ _))
            go_roundg (5 - (c + 1))
            case measure => omega
            case rel => exact ⟨c + 1, d2, k2, by have := HJ.out.1; go_num, by rw [HU.out]; rfl, by omega, rfl, HV.out.1.row HN.out, by have := HD2.out.2; omega, fun b hb => by rw [HU.out] at hb; injection hb with hb; rw [← hb]; exact HD2.out.1⟩
          | some b0 =>
            rw [hso] at hsm HJ0
            subst hsm
            have hb0 := HJ0.out.2.2 b0 rfl
            have hD2 : ((sval d2 k2 - sval bx mx).natAbs : Int) = dI s l i := by rw [HD2.out.1, HX.out.1]; unfold dI; split <;> omega
            have hD1 : ((sval d k - sval bx mx).natAbs : Int) = dI s l b0 := by rw [hb0, HX.out.1]; unfold dI; split <;> omega
            have hlb := best_in s h l c b0 hso
            have hdl : dI s l i ≤ 55340232221128654848 ∧ dI s l b0 ≤ 55340232221128654848 := by unfold dI; constructor <;> split <;> omega
            have HK := Lib.hid (show k2 + mx ≤ 680564733841876926926749214863536422912 ∧ k + mx ≤ 680564733841876926926749214863536422912 ∧ (sval d2 k2 - sval bx mx).natAbs ≤ 680564733841876926926749214863536422912 ∧ (sval d k - sval bx mx).natAbs ≤ 680564733841876926926749214863536422912 by have := HD2.out.2; have := HX.out.2; have := HJ0.out.2.1; omega)
            have hsg : sgn (sval d2 k2 - sval bx mx).natAbs (sval d k - sval bx mx).natAbs < 0 ↔ dI s l i < dI s l b0 := by rw [← hD2, ← hD1]; unfold sgn; split <;> (try split) <;> omega
            have HJ := HJ0
            clear HJ0 hb0 hD2 hD1 hlb hdl
            by_cases hc2 : dI s l i < dI s l b0
            · have HU := Lib.hid (show bestI s h l (c + 1) = some i by rw [bestI, hci, hso]; unfold upI; rw [if_pos hin]; simp only; rw [if_pos hc2])
              have HC := Lib.hid (show decide (sgn (sval d2 k2 - sval bx mx).natAbs (sval d k - sval bx mx).natAbs < 0) = true by exact decide_eq_true (hsg.2 hc2))
              clear hso hsg hc2
              go_wp2_with (first
                | (go_at_call 78; refine (HE.out _).mono ?_; rintro e w2 ⟨rfl, hb2⟩; have hF2 := HV0.out.up hb2; clear hb2)
                | ((with_reducible refine wpList_do 10 (.alloc 122) _ (HB.out.2.1 _ _ _ _ _ _) ?_); (with_reducible refine wpList_st (cells := numA d2 (lim k2)) 122 10 42 ?_ ?_ (heap_alloc_new _ _) ?_ ?_ ?_ ?_); rfl; rfl; (rw [HB.out.2.2.1]; rfl); exact u_num; exact numA_one _ _; (rw [set_alloc])))
              have hT : VT W p5 p6 w2.heap.size h l (numA bx (lim mx)) (numA d (lim k)) (numA d2 (lim k2)) (w2.alloc (.cells (numA d2 (lim k2)) 122)) := ⟨hF2.up ((Below.refl w2.heap.size w2).alloc (Nat.le_refl _) _), heap_alloc_new _ _, lt_of_heap hF2.2.2.2.1⟩
              clear hF2
              generalize w2.alloc (.cells (numA d2 (lim k2)) 122) = y at *
              generalize w2.heap.size = p10 at *
              have HT := Lib.hid hT
              clear hT
              try simp only [Act.put, List.setIfInBounds_toArray, List.set_cons_zero, List.set_cons_succ]
              refine wp_region_held_drew (S := fun w' => VT W p5 p6 p10 h l (numA bx (lim mx)) (numA d (lim k)) (numA d2 (lim k2)) w') (by kernel_rfl) (HT.out.up (Below.refl y.heap.size y).drew) (fun hSd => ?_)
              refine take_val (i := 0) (oi := ⟨some 43, .move (.tmp 7), _, _, _, none⟩) (.bool true) rfl (by kernel_rfl) (by kernel_rfl) (by kernel_rfl) (fun _ _ _ h => h) rfl (fun w hSw => rfl) hSd ?_
              simp only [Act.put, List.setIfInBounds_toArray, List.set_cons_zero, List.set_cons_succ]
              refine take_val (i := 1) (oi := ⟨some 44, .unOp .not 4 (.tmp 43), _, _, _, none⟩) (.bool false) rfl (by kernel_rfl) (by kernel_rfl) (by kernel_rfl) (fun _ _ _ h => h) rfl (fun w hSw => rfl) hSd ?_
              simp only [Act.put, List.setIfInBounds_toArray, List.set_cons_zero, List.set_cons_succ]
              refine take_val (i := 2) (oi := ⟨some 45, .move (.tmp 44), _, _, _, none⟩) (.bool false) rfl (by kernel_rfl) (by kernel_rfl) (by kernel_rfl) (fun _ _ _ h => h) rfl (fun w hSw => rfl) hSd ?_
              simp only [Act.put, List.setIfInBounds_toArray, List.set_cons_zero, List.set_cons_succ]
              refine take_val (i := 3) (oi := ⟨some 46, .load 122 (.tmp 10), _, _, _, some (2, false)⟩) (.agg (numA d2 (lim k2))) rfl (by kernel_rfl) (by kernel_rfl) (by kernel_rfl) (fun _ _ _ h => h) rfl (fun w hSw => ex_load rfl (run_loadAt_mid w p10 0 122 (kpN d2 (lim k2)) _ (range_new (cs := kpN d2 (lim k2)) (hSw.2.1)) UN.out.1 rfl (UN.out.2 _ _))) hSd ?_
              simp only [Act.put, List.setIfInBounds_toArray, List.set_cons_zero, List.set_cons_succ]
              refine take_val (i := 4) (oi := ⟨some 47, .load 122 (.tmp 5), _, _, _, some (2, false)⟩) (.agg (numA bx (lim mx))) rfl (by kernel_rfl) (by kernel_rfl) (by kernel_rfl) (fun _ _ _ h => h) rfl (fun w hSw => ex_load rfl (run_loadAt_mid w p5 0 122 (kpN bx (lim mx)) _ (range_new (cs := kpN bx (lim mx)) (hSw.1.2.2.1)) UN.out.1 rfl (UN.out.2 _ _))) hSd ?_
              simp only [Act.put, List.setIfInBounds_toArray, List.set_cons_zero, List.set_cons_succ]
              refine take_val (i := 6) (oi := ⟨some 49, .load 122 (.tmp 6), _, _, _, some (2, false)⟩) (.agg (numA d (lim k))) rfl (by kernel_rfl) (by kernel_rfl) (by kernel_rfl) (fun _ _ _ h => h) rfl (fun w hSw => ex_load rfl (run_loadAt_mid w p6 0 122 (kpN d (lim k)) _ (range_new (cs := kpN d (lim k)) (hSw.1.2.2.2.1)) UN.out.1 rfl (UN.out.2 _ _))) hSd ?_
              simp only [Act.put, List.setIfInBounds_toArray, List.set_cons_zero, List.set_cons_succ]
              refine take_val (i := 7) (oi := ⟨some 50, .load 122 (.tmp 5), _, _, _, some (2, false)⟩) (.agg (numA bx (lim mx))) rfl (by kernel_rfl) (by kernel_rfl) (by kernel_rfl) (fun _ _ _ h => h) rfl (fun w hSw => ex_load rfl (run_loadAt_mid w p5 0 122 (kpN bx (lim mx)) _ (range_new (cs := kpN bx (lim mx)) (hSw.1.2.2.1)) UN.out.1 rfl (UN.out.2 _ _))) hSd ?_
              simp only [Act.put, List.setIfInBounds_toArray, List.set_cons_zero, List.set_cons_succ]
              refine take_call 5 (f := 80) (args := #[.agg (numA d2 (lim k2)), .agg (numA bx (lim mx))]) rfl (by kernel_rfl) rfl (by kernel_rfl) (size3_c _ _ _ _ _ HK.out.1) ?_
              rintro e v1 ⟨rfl, hb1⟩
              have hS1 := hSd.up hb1
              clear hb1 hSd
              refine ⟨_, rfl, hS1, ?_⟩
              simp only [Act.put, List.setIfInBounds_toArray, List.set_cons_zero, List.set_cons_succ]
              refine take_call 8 (f := 80) (args := #[.agg (numA d (lim k)), .agg (numA bx (lim mx))]) rfl (by kernel_rfl) rfl (by kernel_rfl) (size3_c _ _ _ _ _ HK.out.2.1) ?_
              rintro e v2 ⟨rfl, hb1⟩
              have hS2 := hS1.up hb1
              clear hb1 hS1
              refine ⟨_, rfl, hS2, ?_⟩
              simp only [Act.put, List.setIfInBounds_toArray, List.set_cons_zero, List.set_cons_succ]
              refine take_call 9 (f := 79) (args := #[.agg (numA false (lim (sval d2 k2 - sval bx mx).natAbs)), .agg (numA false (lim (sval d k - sval bx mx).natAbs))]) rfl (by kernel_rfl) rfl (by kernel_rfl) (sz_c _ _ _ HK.out.2.2.1 HK.out.2.2.2) ?_
              rintro e v3 ⟨rfl, hb1⟩
              have hSd := hS2.up hb1
              clear hb1 hS2
              refine ⟨_, rfl, hSd, ?_⟩
              simp only [Act.put, List.setIfInBounds_toArray, List.set_cons_zero, List.set_cons_succ]
              refine take_val (i := 10) (oi := ⟨some 53, .binOp .lss 3 (.tmp 52) (.const (.int .i64 0)) 3, _, _, _, some (2, false)⟩) (.bool true) rfl (by kernel_rfl) (by kernel_rfl) (by kernel_rfl) (fun _ _ _ h => h) rfl (fun w hSw => ex_lss rfl rfl HC.out) hSd ?_
              simp only [Act.put, List.setIfInBounds_toArray, List.set_cons_zero, List.set_cons_succ]
              refine take_val (i := 11) (oi := ⟨some 54, .pick (.tmp 45) (.const (.bool true)) (.tmp 53), _, _, _, none⟩) (.bool true) rfl (by kernel_rfl) (by kernel_rfl) (by kernel_rfl) (fun _ _ _ h => h) rfl (fun w hSw => rfl) hSd ?_
              simp only [Act.put, List.setIfInBounds_toArray, List.set_cons_zero, List.set_cons_succ]
              refine wpAnyH_done (by kernel_rfl) ?_ _
              have HV := Lib.hid hSd
              clear hSd HT
              have HR := Lib.hid (range_new (cs := kpN d2 (lim k2)) HV.out.2.1)
              have HQ3 := Lib.hid HV.out.1.2.2.2.1
              go_wp2_with (first
                | ((with_reducible refine wpList_ld 55 ?_ ?_ ?_ HR.out UN.out.1 (UN.out.2 _ _) ?_); rfl; rfl; rfl)
                | ((with_reducible refine wpList_st (cells := numA d2 (lim k2)) 122 6 55 ?_ ?_ HQ3.out ?_ ?_ ?_ ?_); rfl; rfl; rfl; exact u_num; exact numA_one _ _))
              go_roundg (5 - (c + 1))
              case measure => omega
              case rel => exact ⟨c + 1, d2, k2, by have := HJ.out.1; go_num, by rw [HU.out]; rfl, by omega, rfl, HV.out.1.row HN.out, by have := HD2.out.2; omega, fun b hb => by rw [HU.out] at hb; injection hb with hb; rw [← hb]; exact HD2.out.1⟩
            · have HU := Lib.hid (show bestI s h l (c + 1) = some b0 by rw [bestI, hci, hso]; unfold upI; rw [if_pos hin]; simp only; rw [if_neg hc2])
              have HC := Lib.hid (show decide (sgn (sval d2 k2 - sval bx mx).natAbs (sval d k - sval bx mx).natAbs < 0) = false by exact decide_eq_false (fun h => hc2 (hsg.1 h)))
              clear hso hsg hc2
              go_wp2_with (first
                | (go_at_call 78; refine (HE.out _).mono ?_; rintro e w2 ⟨rfl, hb2⟩; have hF2 := HV0.out.up hb2; clear hb2)
                | ((with_reducible refine wpList_do 10 (.alloc 122) _ (HB.out.2.1 _ _ _ _ _ _) ?_); (with_reducible refine wpList_st (cells := numA d2 (lim k2)) 122 10 42 ?_ ?_ (heap_alloc_new _ _) ?_ ?_ ?_ ?_); rfl; rfl; (rw [HB.out.2.2.1]; rfl); exact u_num; exact numA_one _ _; (rw [set_alloc])))
              have hT : VT W p5 p6 w2.heap.size h l (numA bx (lim mx)) (numA d (lim k)) (numA d2 (lim k2)) (w2.alloc (.cells (numA d2 (lim k2)) 122)) := ⟨hF2.up ((Below.refl w2.heap.size w2).alloc (Nat.le_refl _) _), heap_alloc_new _ _, lt_of_heap hF2.2.2.2.1⟩
              clear hF2
              generalize w2.alloc (.cells (numA d2 (lim k2)) 122) = y at *
              generalize w2.heap.size = p10 at *
              have HT := Lib.hid hT
              clear hT
              try simp only [Act.put, List.setIfInBounds_toArray, List.set_cons_zero, List.set_cons_succ]
              refine wp_region_held_drew (S := fun w' => VT W p5 p6 p10 h l (numA bx (lim mx)) (numA d (lim k)) (numA d2 (lim k2)) w') (by kernel_rfl) (HT.out.up (Below.refl y.heap.size y).drew) (fun hSd => ?_)
              refine take_val (i := 0) (oi := ⟨some 43, .move (.tmp 7), _, _, _, none⟩) (.bool true) rfl (by kernel_rfl) (by kernel_rfl) (by kernel_rfl) (fun _ _ _ h => h) rfl (fun w hSw => rfl) hSd ?_
              simp only [Act.put, List.setIfInBounds_toArray, List.set_cons_zero, List.set_cons_succ]
              refine take_val (i := 1) (oi := ⟨some 44, .unOp .not 4 (.tmp 43), _, _, _, none⟩) (.bool false) rfl (by kernel_rfl) (by kernel_rfl) (by kernel_rfl) (fun _ _ _ h => h) rfl (fun w hSw => rfl) hSd ?_
              simp only [Act.put, List.setIfInBounds_toArray, List.set_cons_zero, List.set_cons_succ]
              refine take_val (i := 2) (oi := ⟨some 45, .move (.tmp 44), _, _, _, none⟩) (.bool false) rfl (by kernel_rfl) (by kernel_rfl) (by kernel_rfl) (fun _ _ _ h => h) rfl (fun w hSw => rfl) hSd ?_
              simp only [Act.put, List.setIfInBounds_toArray, List.set_cons_zero, List.set_cons_succ]
              refine take_val (i := 3) (oi := ⟨some 46, .load 122 (.tmp 10), _, _, _, some (2, false)⟩) (.agg (numA d2 (lim k2))) rfl (by kernel_rfl) (by kernel_rfl) (by kernel_rfl) (fun _ _ _ h => h) rfl (fun w hSw => ex_load rfl (run_loadAt_mid w p10 0 122 (kpN d2 (lim k2)) _ (range_new (cs := kpN d2 (lim k2)) (hSw.2.1)) UN.out.1 rfl (UN.out.2 _ _))) hSd ?_
              simp only [Act.put, List.setIfInBounds_toArray, List.set_cons_zero, List.set_cons_succ]
              refine take_val (i := 4) (oi := ⟨some 47, .load 122 (.tmp 5), _, _, _, some (2, false)⟩) (.agg (numA bx (lim mx))) rfl (by kernel_rfl) (by kernel_rfl) (by kernel_rfl) (fun _ _ _ h => h) rfl (fun w hSw => ex_load rfl (run_loadAt_mid w p5 0 122 (kpN bx (lim mx)) _ (range_new (cs := kpN bx (lim mx)) (hSw.1.2.2.1)) UN.out.1 rfl (UN.out.2 _ _))) hSd ?_
              simp only [Act.put, List.setIfInBounds_toArray, List.set_cons_zero, List.set_cons_succ]
              refine take_val (i := 6) (oi := ⟨some 49, .load 122 (.tmp 6), _, _, _, some (2, false)⟩) (.agg (numA d (lim k))) rfl (by kernel_rfl) (by kernel_rfl) (by kernel_rfl) (fun _ _ _ h => h) rfl (fun w hSw => ex_load rfl (run_loadAt_mid w p6 0 122 (kpN d (lim k)) _ (range_new (cs := kpN d (lim k)) (hSw.1.2.2.2.1)) UN.out.1 rfl (UN.out.2 _ _))) hSd ?_
              simp only [Act.put, List.setIfInBounds_toArray, List.set_cons_zero, List.set_cons_succ]
              refine take_val (i := 7) (oi := ⟨some 50, .load 122 (.tmp 5), _, _, _, some (2, false)⟩) (.agg (numA bx (lim mx))) rfl (by kernel_rfl) (by kernel_rfl) (by kernel_rfl) (fun _ _ _ h => h) rfl (fun w hSw => ex_load rfl (run_loadAt_mid w p5 0 122 (kpN bx (lim mx)) _ (range_new (cs := kpN bx (lim mx)) (hSw.1.2.2.1)) UN.out.1 rfl (UN.out.2 _ _))) hSd ?_
              simp only [Act.put, List.setIfInBounds_toArray, List.set_cons_zero, List.set_cons_succ]
              refine take_call 5 (f := 80) (args := #[.agg (numA d2 (lim k2)), .agg (numA bx (lim mx))]) rfl (by kernel_rfl) rfl (by kernel_rfl) (size3_c _ _ _ _ _ HK.out.1) ?_
              rintro e v1 ⟨rfl, hb1⟩
              have hS1 := hSd.up hb1
              clear hb1 hSd
              refine ⟨_, rfl, hS1, ?_⟩
              simp only [Act.put, List.setIfInBounds_toArray, List.set_cons_zero, List.set_cons_succ]
              refine take_call 8 (f := 80) (args := #[.agg (numA d (lim k)), .agg (numA bx (lim mx))]) rfl (by kernel_rfl) rfl (by kernel_rfl) (size3_c _ _ _ _ _ HK.out.2.1) ?_
              rintro e v2 ⟨rfl, hb1⟩
              have hS2 := hS1.up hb1
              clear hb1 hS1
              refine ⟨_, rfl, hS2, ?_⟩
              simp only [Act.put, List.setIfInBounds_toArray, List.set_cons_zero, List.set_cons_succ]
              refine take_call 9 (f := 79) (args := #[.agg (numA false (lim (sval d2 k2 - sval bx mx).natAbs)), .agg (numA false (lim (sval d k - sval bx mx).natAbs))]) rfl (by kernel_rfl) rfl (by kernel_rfl) (sz_c _ _ _ HK.out.2.2.1 HK.out.2.2.2) ?_
              rintro e v3 ⟨rfl, hb1⟩
              have hSd := hS2.up hb1
              clear hb1 hS2
              refine ⟨_, rfl, hSd, ?_⟩
              simp only [Act.put, List.setIfInBounds_toArray, List.set_cons_zero, List.set_cons_succ]
              refine take_val (i := 10) (oi := ⟨some 53, .binOp .lss 3 (.tmp 52) (.const (.int .i64 0)) 3, _, _, _, some (2, false)⟩) (.bool false) rfl (by kernel_rfl) (by kernel_rfl) (by kernel_rfl) (fun _ _ _ h => h) rfl (fun w hSw => ex_lss rfl rfl HC.out) hSd ?_
              simp only [Act.put, List.setIfInBounds_toArray, List.set_cons_zero, List.set_cons_succ]
              refine take_val (i := 11) (oi := ⟨some 54, .pick (.tmp 45) (.const (.bool true)) (.tmp 53), _, _, _, none⟩) (.bool false) rfl (by kernel_rfl) (by kernel_rfl) (by kernel_rfl) (fun _ _ _ h => h) rfl (fun w hSw => rfl) hSd ?_
              simp only [Act.put, List.setIfInBounds_toArray, List.set_cons_zero, List.set_cons_succ]
              refine wpAnyH_done (by kernel_rfl) ?_ _
              have HV := Lib.hid hSd
              clear hSd HT
              go_wp2_with fail
              go_roundg (5 - (c + 1))
              case measure => omega
              case rel => exact ⟨c + 1, d, k, by have := HJ.out.1; go_num, by rw [HU.out]; rfl, by omega, rfl, HV.out.1, HJ.out.2.1, fun b hb => by rw [HU.out] at hb; injection hb with hb; rw [← hb]; exact HJ.out.2.2 _ rfl⟩
      · have hg : (decide (i < 0) = true ∧ decide (h < E) = true) ∨ (decide (i < 0) = false ∧ decide (0 < i) = true ∧ decide (E < h) = true) := by
          rw [← hE]
          unfold wrap64
          rcases Int.lt_trichotomy i 0 with h0 | h0 | h0
          · exact .inl ⟨by simp; omega, by simp; omega⟩
          · omega
          · exact .inr ⟨by simp; omega, by simp; omega, by simp; omega⟩
        have HU := Lib.hid (show bestI s h l (c + 1) = bestI s h l c by rw [bestI, hci]; unfold upI; rw [if_neg hin])
        clear hin
        rcases hg with ⟨g1, g2⟩ | ⟨g1, g2, g3⟩
        · go_wp2_with fail
          go_roundg (5 - (c + 1))
          case measure => omega
          case rel => exact ⟨c + 1, d, k, by rw [← HJ0.out.1]; go_num, by rw [HU.out]; exact hsm, by omega, rfl, HV0.out, HJ0.out.2.1, by rw [HU.out]; exact HJ0.out.2.2⟩
        · go_wp2_with fail
          go_roundg (5 - (c + 1))
          case measure => omega
          case rel => exact ⟨c + 1, d, k, by rw [← HJ0.out.1]; go_num, by rw [HU.out]; exact hsm, by omega, rfl, HV0.out, HJ0.out.2.1, by rw [HU.out]; exact HJ0.out.2.2⟩
end Go.Proofs.YtmnoegfehgoalaaGreatDoor.cx
namespace Go.Proofs.YtmnoegfehgoalaaGreatDoor.cx
open Go.RowKit Go.Extern.Stop Go.Stop Go.Extern Go.Cx
set_option linter.unusedVariables false
theorem hbelow {W w w1 : World} {o : Obj} (h : Below W.heap.size W w) (k : Below w.heap.size w w1) : Below W.heap.size W (w1.alloc o) := bA (bT h k)
theorem keep4 {w w' : World} {g1 g2 g3 g4 : Nat} {o1 o2 o3 o4 : Obj} (h : w.heap[g1]? = some o1 ∧ w.heap[g2]? = some o2 ∧ w.heap[g3]? = some o3 ∧ w.heap[g4]? = some o4) (hb : Below w.heap.size w w') : w'.heap[g1]? = some o1 ∧ w'.heap[g2]? = some o2 ∧ w'.heap[g3]? = some o3 ∧ w'.heap[g4]? = some o4 :=
  ⟨keepB hb h.1, keepB hb h.2.1, keepB hb h.2.2.1, keepB hb h.2.2.2⟩
theorem era_in {s h l : Int} (hh : -9223372036854775808 ≤ h ∧ h < 9223372036854775808) : -9223372036854775808 ≤ eraR s h l ∧ eraR s h l < 9223372036854775808 := by
  unfold eraR
  split
  · omega
  · split <;> omega
theorem eraR_is (s h l : Int) (hh : I64 h) (hs : 0 ≤ s ∧ s < 18446744073709551616) (hl : 0 ≤ l ∧ l < 18446744073709551616) : eraR s h l = unfH s h l := (unf_val s h l hh hs hl).symm
theorem wv_of (e s : Int) (hs : 0 ≤ s ∧ s < 18446744073709551616) : Go.Proofs.YtmnoegfehgoalaaGreatDoor.num.wv (e * 18446744073709551616 + s) = wd e s := Go.Proofs.YtmnoegfehgoalaaGreatDoor.num.wv_eq rfl hs
set_option maxHeartbeats 4000000 in
set_option maxRecDepth 1000000 in
theorem measR_w (W : World) (cs : List Value) (h l t0 t1 t2 t3 : Int) (L : LineAt cs h l t0 t1 t2 t3) : Calls Tryz.prog 30 #[.agg cs.toArray] W fun e w' => e = .returned (.tuple #[.int .i64 (offV (unfH t0 h l) t0 (unfH t1 h l) t1 (unfH t2 h l) t2 (unfH t3 h l) t3), .int .i64 (delV (unfH t0 h l) t0 (unfH t1 h l) t1 (unfH t2 h l) t2 (unfH t3 h l) t3)]) ∧ Below W.heap.size W w' := by
  have e0 := arr_get L.c0
  have e1 := arr_get L.c1
  have e2 := arr_get L.s0
  have e3 := arr_get L.s1
  have e4 := arr_get L.s2
  have e5 := arr_get L.s3
  have HU0 := Lib.hid (fun w => unfR_w w t0 h l L.k0 L.kl L.kh _ rfl)
  have HU1 := Lib.hid (fun w => unfR_w w t1 h l L.k1 L.kl L.kh _ rfl)
  have HU2 := Lib.hid (fun w => unfR_w w t2 h l L.k2 L.kl L.kh _ rfl)
  have HU3 := Lib.hid (fun w => unfR_w w t3 h l L.k3 L.kl L.kh _ rfl)
  have n0 : Go.Cx.InW ((eraR t0 h l) * 18446744073709551616 + t0) := by have := era_in (s := t0) (l := l) L.kh; have := L.k0; unfold Go.Cx.InW; omega
  have n1 : Go.Cx.InW ((eraR t1 h l) * 18446744073709551616 + t1) := by have := era_in (s := t1) (l := l) L.kh; have := L.k1; unfold Go.Cx.InW; omega
  have n2 : Go.Cx.InW ((eraR t2 h l) * 18446744073709551616 + t2) := by have := era_in (s := t2) (l := l) L.kh; have := L.k2; unfold Go.Cx.InW; omega
  have n3 : Go.Cx.InW ((eraR t3 h l) * 18446744073709551616 + t3) := by have := era_in (s := t3) (l := l) L.kh; have := L.k3; unfold Go.Cx.InW; omega
  have hof := Go.Proofs.YtmnoegfehgoalaaGreatDoor.num.offset_flats (p := ((eraR t0 h l) * 18446744073709551616 + t0)) (q := ((eraR t1 h l) * 18446744073709551616 + t1)) (r := ((eraR t2 h l) * 18446744073709551616 + t2)) (s := ((eraR t3 h l) * 18446744073709551616 + t3)) n0 n1 n2 n3
  have hdf := Go.Proofs.YtmnoegfehgoalaaGreatDoor.num.delay_flats (p := ((eraR t0 h l) * 18446744073709551616 + t0)) (q := ((eraR t1 h l) * 18446744073709551616 + t1)) (r := ((eraR t2 h l) * 18446744073709551616 + t2)) (s := ((eraR t3 h l) * 18446744073709551616 + t3)) n0 n1 n2 n3
  have v1 := off_val n0 n1 n2 n3
  have v2 := del_val n0 n1 n2 n3
  rw [wv_of _ _ L.k0] at hof hdf
  rw [wv_of _ _ L.k1] at hof hdf
  rw [wv_of _ _ L.k2] at hof hdf
  rw [wv_of _ _ L.k3] at hof hdf
  rw [show ((eraR t0 h l) * 18446744073709551616 + t0) / 18446744073709551616 = (eraR t0 h l) by have := L.k0; omega, show ((eraR t0 h l) * 18446744073709551616 + t0) % 18446744073709551616 = t0 by have := L.k0; omega] at v1 v2
  rw [show ((eraR t1 h l) * 18446744073709551616 + t1) / 18446744073709551616 = (eraR t1 h l) by have := L.k1; omega, show ((eraR t1 h l) * 18446744073709551616 + t1) % 18446744073709551616 = t1 by have := L.k1; omega] at v1 v2
  rw [show ((eraR t2 h l) * 18446744073709551616 + t2) / 18446744073709551616 = (eraR t2 h l) by have := L.k2; omega, show ((eraR t2 h l) * 18446744073709551616 + t2) % 18446744073709551616 = t2 by have := L.k2; omega] at v1 v2
  rw [show ((eraR t3 h l) * 18446744073709551616 + t3) / 18446744073709551616 = (eraR t3 h l) by have := L.k3; omega, show ((eraR t3 h l) * 18446744073709551616 + t3) % 18446744073709551616 = t3 by have := L.k3; omega] at v1 v2
  have hr1 : Go.Proofs.YtmnoegfehgoalaaGreatDoor.num.offR ((eraR t0 h l) * 18446744073709551616 + t0) ((eraR t1 h l) * 18446744073709551616 + t1) ((eraR t2 h l) * 18446744073709551616 + t2) ((eraR t3 h l) * 18446744073709551616 + t3) = offN ((eraR t0 h l) * 18446744073709551616 + t0) ((eraR t1 h l) * 18446744073709551616 + t1) ((eraR t2 h l) * 18446744073709551616 + t2) ((eraR t3 h l) * 18446744073709551616 + t3) := rfl
  have hr2 : Go.Proofs.YtmnoegfehgoalaaGreatDoor.num.delR ((eraR t0 h l) * 18446744073709551616 + t0) ((eraR t1 h l) * 18446744073709551616 + t1) ((eraR t2 h l) * 18446744073709551616 + t2) ((eraR t3 h l) * 18446744073709551616 + t3) = delN ((eraR t0 h l) * 18446744073709551616 + t0) ((eraR t1 h l) * 18446744073709551616 + t1) ((eraR t2 h l) * 18446744073709551616 + t2) ((eraR t3 h l) * 18446744073709551616 + t3) := rfl
  rw [hr1, ← v1] at hof
  rw [hr2, ← v2] at hdf
  rw [← eraR_is t0 h l L.kh L.k0 L.kl]
  rw [← eraR_is t1 h l L.kh L.k1 L.kl]
  rw [← eraR_is t2 h l L.kh L.k2 L.kl]
  rw [← eraR_is t3 h l L.kh L.k3 L.kl]
  have HO := Lib.hid (And.intro hof.2.2 hdf.2.2)
  clear hof hdf v1 v2 hr1 hr2 n0 n1 n2 n3
  generalize offV (eraR t0 h l) t0 (eraR t1 h l) t1 (eraR t2 h l) t2 (eraR t3 h l) t3 = offx at *
  generalize delV (eraR t0 h l) t0 (eraR t1 h l) t1 (eraR t2 h l) t2 (eraR t3 h l) t3 = delx at *
  have q0 := heap_alloc_new W (.cells cs.toArray 52)
  have B0 := (Below.refl W.heap.size W).alloc (Nat.le_refl _) (.cells cs.toArray 52)
  have c0 := cell_of (i := 0) q0 e0
  have c1 := cell_of (i := 1) q0 e1
  have c2 := cell_of (i := 36) q0 e2
  clear L
  go_enter Tryz.func30, Tryz.ntmps30
  go_wp2_with (first
    | (go_at_call 51; (with_reducible refine (HU0.out _).mono ?_); rintro e w1 ⟨rfl, hb1⟩; have hA1 := (Below.refl w1.heap.size w1).alloc (Nat.le_refl _) (.cells #[.int .i64 (eraR t0 h l), .int .u64 t0] 45); have q1 := keepB hA1 (keepB hb1 q0); have p01 := heap_alloc_new w1 (.cells #[.int .i64 (eraR t0 h l), .int .u64 t0] 45); have B1 := hbelow B0 hb1 (o := (.cells #[.int .i64 (eraR t0 h l), .int .u64 t0] 45)); have c0 := cell_of (i := 0) q1 e0; have c1 := cell_of (i := 1) q1 e1; have c2 := cell_of (i := 37) q1 e3)
    | (go_at_call 51; (with_reducible refine (HU1.out _).mono ?_); rintro e w2 ⟨rfl, hb2⟩; have hA2 := (Below.refl w2.heap.size w2).alloc (Nat.le_refl _) (.cells #[.int .i64 (eraR t1 h l), .int .u64 t1] 45); have q2 := keepB hA2 (keepB hb2 q1); have p02 := keepB hA2 (keepB hb2 p01); have p12 := heap_alloc_new w2 (.cells #[.int .i64 (eraR t1 h l), .int .u64 t1] 45); have B2 := hbelow B1 hb2 (o := (.cells #[.int .i64 (eraR t1 h l), .int .u64 t1] 45)); have c0 := cell_of (i := 0) q2 e0; have c1 := cell_of (i := 1) q2 e1; have c2 := cell_of (i := 38) q2 e4)
    | (go_at_call 51; (with_reducible refine (HU2.out _).mono ?_); rintro e w3 ⟨rfl, hb3⟩; have hA3 := (Below.refl w3.heap.size w3).alloc (Nat.le_refl _) (.cells #[.int .i64 (eraR t2 h l), .int .u64 t2] 45); have q3 := keepB hA3 (keepB hb3 q2); have p03 := keepB hA3 (keepB hb3 p02); have p13 := keepB hA3 (keepB hb3 p12); have p23 := heap_alloc_new w3 (.cells #[.int .i64 (eraR t2 h l), .int .u64 t2] 45); have B3 := hbelow B2 hb3 (o := (.cells #[.int .i64 (eraR t2 h l), .int .u64 t2] 45)); have c0 := cell_of (i := 0) q3 e0; have c1 := cell_of (i := 1) q3 e1; have c2 := cell_of (i := 39) q3 e5)
    | (go_at_call 51; (with_reducible refine (HU3.out _).mono ?_); rintro e w4 ⟨rfl, hb4⟩; have hA4 := (Below.refl w4.heap.size w4).alloc (Nat.le_refl _) (.cells #[.int .i64 (eraR t3 h l), .int .u64 t3] 45); have q4 := keepB hA4 (keepB hb4 q3); have p04 := keepB hA4 (keepB hb4 p03); have p14 := keepB hA4 (keepB hb4 p13); have p24 := keepB hA4 (keepB hb4 p23); have p34 := heap_alloc_new w4 (.cells #[.int .i64 (eraR t3 h l), .int .u64 t3] 45); have B4 := hbelow B3 hb4 (o := (.cells #[.int .i64 (eraR t3 h l), .int .u64 t3] 45)); skip))
  refine wp_region_held_drew (S := (fun w' => w'.heap[w1.heap.size]? = some (.cells #[.int .i64 (eraR t0 h l), .int .u64 t0] 45) ∧ w'.heap[w2.heap.size]? = some (.cells #[.int .i64 (eraR t1 h l), .int .u64 t1] 45) ∧ w'.heap[w3.heap.size]? = some (.cells #[.int .i64 (eraR t2 h l), .int .u64 t2] 45) ∧ w'.heap[w4.heap.size]? = some (.cells #[.int .i64 (eraR t3 h l), .int .u64 t3] 45))) (by kernel_rfl) ⟨p04, p14, p24, p34⟩ (fun hSd => ?_)
  refine take_val (i := 0) (oi := ⟨some 32, .load 45 (.tmp 4), _, _, _, none⟩) (wd (eraR t0 h l) t0) rfl (by kernel_rfl) (by kernel_rfl) (by kernel_rfl) (fun _ _ _ h => h) rfl (fun w hSw => ex_load rfl (ld_wide _ _ _ _ _ (cell_of (i := 0) hSw.1 rfl) (cell_of (i := 1) hSw.1 rfl))) hSd ?_
  simp only [Act.put, List.setIfInBounds_toArray, List.set_cons_zero, List.set_cons_succ]
  refine take_val (i := 1) (oi := ⟨some 33, .load 45 (.tmp 5), _, _, _, none⟩) (wd (eraR t1 h l) t1) rfl (by kernel_rfl) (by kernel_rfl) (by kernel_rfl) (fun _ _ _ h => h) rfl (fun w hSw => ex_load rfl (ld_wide _ _ _ _ _ (cell_of (i := 0) hSw.2.1 rfl) (cell_of (i := 1) hSw.2.1 rfl))) hSd ?_
  simp only [Act.put, List.setIfInBounds_toArray, List.set_cons_zero, List.set_cons_succ]
  refine take_val (i := 2) (oi := ⟨some 34, .load 45 (.tmp 6), _, _, _, none⟩) (wd (eraR t2 h l) t2) rfl (by kernel_rfl) (by kernel_rfl) (by kernel_rfl) (fun _ _ _ h => h) rfl (fun w hSw => ex_load rfl (ld_wide _ _ _ _ _ (cell_of (i := 0) hSw.2.2.1 rfl) (cell_of (i := 1) hSw.2.2.1 rfl))) hSd ?_
  simp only [Act.put, List.setIfInBounds_toArray, List.set_cons_zero, List.set_cons_succ]
  refine take_val (i := 3) (oi := ⟨some 35, .load 45 (.tmp 7), _, _, _, none⟩) (wd (eraR t3 h l) t3) rfl (by kernel_rfl) (by kernel_rfl) (by kernel_rfl) (fun _ _ _ h => h) rfl (fun w hSw => ex_load rfl (ld_wide _ _ _ _ _ (cell_of (i := 0) hSw.2.2.2 rfl) (cell_of (i := 1) hSw.2.2.2 rfl))) hSd ?_
  simp only [Act.put, List.setIfInBounds_toArray, List.set_cons_zero, List.set_cons_succ]
  refine take_val (i := 5) (oi := ⟨some 37, .load 45 (.tmp 4), _, _, _, none⟩) (wd (eraR t0 h l) t0) rfl (by kernel_rfl) (by kernel_rfl) (by kernel_rfl) (fun _ _ _ h => h) rfl (fun w hSw => ex_load rfl (ld_wide _ _ _ _ _ (cell_of (i := 0) hSw.1 rfl) (cell_of (i := 1) hSw.1 rfl))) hSd ?_
  simp only [Act.put, List.setIfInBounds_toArray, List.set_cons_zero, List.set_cons_succ]
  refine take_val (i := 6) (oi := ⟨some 38, .load 45 (.tmp 5), _, _, _, none⟩) (wd (eraR t1 h l) t1) rfl (by kernel_rfl) (by kernel_rfl) (by kernel_rfl) (fun _ _ _ h => h) rfl (fun w hSw => ex_load rfl (ld_wide _ _ _ _ _ (cell_of (i := 0) hSw.2.1 rfl) (cell_of (i := 1) hSw.2.1 rfl))) hSd ?_
  simp only [Act.put, List.setIfInBounds_toArray, List.set_cons_zero, List.set_cons_succ]
  refine take_val (i := 7) (oi := ⟨some 39, .load 45 (.tmp 6), _, _, _, none⟩) (wd (eraR t2 h l) t2) rfl (by kernel_rfl) (by kernel_rfl) (by kernel_rfl) (fun _ _ _ h => h) rfl (fun w hSw => ex_load rfl (ld_wide _ _ _ _ _ (cell_of (i := 0) hSw.2.2.1 rfl) (cell_of (i := 1) hSw.2.2.1 rfl))) hSd ?_
  simp only [Act.put, List.setIfInBounds_toArray, List.set_cons_zero, List.set_cons_succ]
  refine take_val (i := 8) (oi := ⟨some 40, .load 45 (.tmp 7), _, _, _, none⟩) (wd (eraR t3 h l) t3) rfl (by kernel_rfl) (by kernel_rfl) (by kernel_rfl) (fun _ _ _ h => h) rfl (fun w hSw => ex_load rfl (ld_wide _ _ _ _ _ (cell_of (i := 0) hSw.2.2.2 rfl) (cell_of (i := 1) hSw.2.2.2 rfl))) hSd ?_
  simp only [Act.put, List.setIfInBounds_toArray, List.set_cons_zero, List.set_cons_succ]
  have hb0 : Below w4.heap.size w4 (w4.alloc (.cells #[.int .i64 (eraR t3 h l), .int .u64 t3] 45)).drew := hA4.trans (((Below.refl _ _).drew).mono hA4.size)
  have HS := Lib.hid hSd
  refine take_call 4 (f := 52) (args := #[wd (eraR t0 h l) t0, wd (eraR t1 h l) t1, wd (eraR t2 h l) t2, wd (eraR t3 h l) t3]) rfl (by kernel_rfl) rfl (by kernel_rfl) (HO.out.1 _) ?_
  rintro e v1 ⟨rfl, hc1⟩
  have hS1 := keep4 HS.out hc1
  refine ⟨_, rfl, hS1, ?_⟩
  simp only [Act.put, List.setIfInBounds_toArray, List.set_cons_zero, List.set_cons_succ]
  refine take_call 9 (f := 53) (args := #[wd (eraR t0 h l) t0, wd (eraR t1 h l) t1, wd (eraR t2 h l) t2, wd (eraR t3 h l) t3]) rfl (by kernel_rfl) rfl (by kernel_rfl) (HO.out.2 _) ?_
  rintro e v2 ⟨rfl, hc2⟩
  have hS2 := keep4 hS1 hc2
  have hSd := hS2
  refine ⟨_, rfl, hS2, ?_⟩
  simp only [Act.put, List.setIfInBounds_toArray, List.set_cons_zero, List.set_cons_succ]
  refine take_val (i := 10) (oi := ⟨some 2, .assign (.tmp 36), _, _, _, none⟩) (.int .i64 offx) rfl (by kernel_rfl) (by kernel_rfl) (by kernel_rfl) (fun _ _ _ h => h) rfl (fun w hSw => rfl) hSd ?_
  simp only [Act.put, List.setIfInBounds_toArray, List.set_cons_zero, List.set_cons_succ]
  refine take_val (i := 11) (oi := ⟨some 3, .assign (.tmp 41), _, _, _, none⟩) (.int .i64 delx) rfl (by kernel_rfl) (by kernel_rfl) (by kernel_rfl) (fun _ _ _ h => h) rfl (fun w hSw => rfl) hSd ?_
  simp only [Act.put, List.setIfInBounds_toArray, List.set_cons_zero, List.set_cons_succ]
  refine wpAnyH_done (by kernel_rfl) ?_ _
  have BF : Below W.heap.size W v2 := ((B4.trans (((Below.refl _ _).drew).mono B4.size)).trans ((bT hc1 hc2).mono (B4.trans (((Below.refl _ _).drew).mono B4.size)).size))
  clear hSd hS1 hS2 hc1 hc2 HS
  go_wp2_with fail
  refine bodyPost_ret (results_tmp2 rfl _ _ _) rfl ?_
  exact ⟨rfl, BF⟩
end Go.Proofs.YtmnoegfehgoalaaGreatDoor.cx
