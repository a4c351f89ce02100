/- The row 'TextNumbers': its run comes to 'true'. -/
import Derived.Test.YtflgpkkbifkpoaaDoorRows
import Derived.Test.YtflgpkkbifkpoaaDoorNumT
namespace Go.Proofs.YtflgpkkbifkpoaaDoor.num
open Go.Dg (junk St Ex Ev Hint evCall evLoop cleanSt ue bodied noOver Flats flatOver Heap AObj)
set_option linter.unusedVariables false

theorem txt_of (x : ByteArray) : txt (ints x.data.toList) = x := by
  apply ByteArray.ext
  have := bs_ints x.data.toList
  unfold bs at this
  simp [txt, this]
theorem scmp_self (x : Int) : scmp x x = 0 := by unfold scmp; rw [if_neg (by omega), if_neg (by omega)]
theorem of4 (n : Int) (h : -9223372036854775808 ≤ n ∧ n ≤ 9223372036854775807) : o4 12 [.int .i64 n] = some (num (decide (n < 0)) n.natAbs) := under4 (under3 (under2 (of_told n (by omega))))
theorem n644 (m : Nat) (h : m < 18446744073709551616) : o4 14 [.int .u64 (m : Int)] = some (num false m) := under4 (under3 (under2 (n64_told m h)))
theorem small20 {m : Nat} (h : m ≤ 18446744073709551616) : m < B ^ 20 := Nat.lt_of_le_of_lt h (by decide)
theorem cmp4 (b : Bool) {m : Nat} (h : m < B ^ 20) : o4 17 [num b m, num b m] = some (.int .i64 0) := by
  have := cmp_told b b h h
  rw [scmp_self] at this
  exact under4 (under3 this)
/-- What the two ways say of a text, as a number of 64 bits. -/
theorem int_way (x : ByteArray) : ∃ (a : Int) (ok wb : Bool) (w : Nat), undecV x = (a, ok) ∧ o4 16 [.string x, num true 9223372036854775808, num false 9223372036854775807] = some (.tuple #[num wb w, .bool ok]) ∧
    (ok = true → o4 12 [.int .i64 a] = some (num wb w) ∧ o4 17 [num wb w, num wb w] = some (.int .i64 0)) ∧ (ok = false → a = 0) := by
  have h := unnum_all x.data.toList (lb := true) (lm := 9223372036854775808) (hb := false) (hm := 9223372036854775807) (small20 (by omega)) (small20 (by omega)) (fun n h1 h2 => by
    simp only [sval, if_true] at h1
    simp only [sval, Bool.false_eq_true, if_false] at h2
    exact Nat.lt_of_le_of_lt (m := 9223372036854775808) (by omega) (by decide))
  rw [txt_of] at h
  rcases h with ⟨n, h1, h2, h3, h4⟩ | ⟨h1, b, w, h2⟩
  · simp only [sval, if_true] at h1
    simp only [sval, Bool.false_eq_true, if_false] at h2
    have hu : undec x.data.toList = some n := undec_some.2 ⟨by omega, by omega, h3⟩
    refine ⟨n, true, _, _, by unfold undecV; rw [hu], h4, fun _ => ⟨of4 n (by omega), cmp4 _ (small20 (by omega))⟩, fun e => by cases e⟩
  · have hu : undec x.data.toList = none := by
      cases hh : undec x.data.toList with
      | none => rfl
      | some v =>
        obtain ⟨k1, k2, k3⟩ := undec_some.1 hh
        exact absurd k3 (h1 v (by simp only [sval, if_true]; omega) (by simp only [sval, Bool.false_eq_true, if_false]; omega))
    exact ⟨0, false, b, w, by unfold undecV; rw [hu], h2, fun e => (by cases e), fun _ => rfl⟩
theorem uns_way (x : ByteArray) : ∃ (a : Nat) (ok wb : Bool) (w : Nat), ununsV x = (a, ok) ∧ o4 16 [.string x, num false 0, num false 18446744073709551615] = some (.tuple #[num wb w, .bool ok]) ∧
    (ok = true → o4 14 [.int .u64 (a : Int)] = some (num false a) ∧ o4 17 [num false a, num wb w] = some (.int .i64 0)) ∧ (ok = false → a = 0) := by
  have h := unnum_all x.data.toList (lb := false) (lm := 0) (hb := false) (hm := 18446744073709551615) (small20 (by omega)) (small20 (by omega)) (fun n h1 h2 => by
    simp only [sval, Bool.false_eq_true, if_false] at h1 h2
    exact Nat.lt_of_le_of_lt (m := 18446744073709551615) (by omega) (by decide))
  rw [txt_of] at h
  rcases h with ⟨n, h1, h2, h3, h4⟩ | ⟨h1, b, w, h2⟩
  · simp only [sval, Bool.false_eq_true, if_false] at h1 h2
    obtain ⟨m, rfl⟩ : ∃ m : Nat, n = (m : Int) := ⟨n.toNat, by omega⟩
    have hi : Lib.itoa (m : Int) = Lib.decDigits m := by unfold Lib.itoa; rw [if_neg (by omega), Int.toNat_natCast]
    have hu : ununs x.data.toList = some m := ununs_some.2 ⟨by omega, by rw [← hi]; exact h3⟩
    rw [decide_eq_false (by omega), Int.natAbs_natCast] at h4
    exact ⟨m, true, _, _, by unfold ununsV; rw [hu], h4, fun _ => ⟨n644 m (by omega), cmp4 _ (small20 (by omega))⟩, fun e => by cases e⟩
  · have hu : ununs x.data.toList = none := by
      cases hh : ununs x.data.toList with
      | none => rfl
      | some v =>
        obtain ⟨k1, k2⟩ := ununs_some.1 hh
        have hi : Lib.itoa (v : Int) = Lib.decDigits v := by unfold Lib.itoa; rw [if_neg (by omega), Int.toNat_natCast]
        exact absurd (hi.trans k2) (h1 (v : Int) (by simp only [sval, Bool.false_eq_true, if_false]; omega) (by simp only [sval, Bool.false_eq_true, if_false]; omega))
    exact ⟨0, false, b, w, by unfold ununsV; rw [hu], h2, fun e => (by cases e), fun _ => rfl⟩
theorem round4 (t : Nat → List Value) (E : Nat → TypeId) (u' v' : TypeId) (n : Int) (u : Nat) (s d e x : ByteArray) (i : Nat) (hi : i < 3) (hx : [s, d, e][i]? = some x) (hsz : x.size ≤ 281474976710656) :
    ∃ s', run4 (S4 t E u' v' n u s d e i) = some (.normal, s') ∧ cl4 s' = S4 t E u' v' n u s d e (i + 1) := by
  obtain ⟨a, ok1, wb, w, a1, a2, a3, a4⟩ := int_way x
  obtain ⟨b, ok2, wb2, w2, b1, b2, b3, b4⟩ := uns_way x
  have hlo : o4 12 [.int .i64 (-9223372036854775808)] = some (num true 9223372036854775808) := of4 _ (by omega)
  have hhi : o4 12 [.int .i64 9223372036854775807] = some (num false 9223372036854775807) := of4 _ (by omega)
  have hz : o4 12 [.int .i64 0] = some (num false 0) := of4 _ (by omega)
  have hum : o4 14 [.int .u64 18446744073709551615] = some (num false 18446744073709551615) := n644 18446744073709551615 (by omega)
  cases ok1 <;> cases ok2
  · exact trFF t E u' v' n u s d e x i hi hx hsz a false 0 _ _ _ _ w w2 b 0 wb wb2 a1 hlo hhi a2 (a4 rfl) b1 hz hum b2 (b4 rfl)
  · exact trFT t E u' v' n u s d e x i hi hx hsz a false 0 _ _ _ _ w w2 b b wb wb2 a1 hlo hhi a2 (a4 rfl) b1 hz hum b2 (b3 rfl).1 (b3 rfl).2
  · exact trTF t E u' v' n u s d e x i hi hx hsz a wb w _ _ _ _ w w2 b 0 wb wb2 a1 hlo hhi a2 (a3 rfl).1 (a3 rfl).2 b1 hz hum b2 (b4 rfl)
  · exact trTT t E u' v' n u s d e x i hi hx hsz a wb w _ _ _ _ w w2 b b wb wb2 a1 hlo hhi a2 (a3 rfl).1 (a3 rfl).2 b1 hz hum b2 (b3 rfl).1 (b3 rfl).2
theorem dec_size (m : Nat) (h : m ≤ 18446744073709551616) : (Lib.decDigits m).length ≤ 100 := by
  rw [Lib.decDigits_length]
  exact nd_le (small20 h)
/-- The row's run. -/
theorem good4 (t : Nat → List Value) (E : Nat → TypeId) (u' v' : TypeId) (hk : ovT 5 [] (Hn t E u' v' []) = some (.bool true, Hn t E u' v' [], [])) (n : Int) (hn : -9223372036854775808 ≤ n ∧ n ≤ 9223372036854775807) (u : Nat) (hu : u < 18446744073709551616) (s : ByteArray) :
    (evCall Tryd.prog 10 (bodied Tryd.prog) ovT sb4 1000 20 4 [.int .i64 n, .int .u64 (u : Int), .string s] (Hn t E u' v' [])).map (·.1) = some (.bool true) := by
  by_cases hs : 300 < s.size
  · rw [t4big t E u' v' n u s hk hs]; rfl
  have hnS : Lib.itoa n = bs (decS (decide (n < 0)) n.natAbs) := by rw [bs_decS, sval_int]
  have hd : txt (decS (decide (n < 0)) n.natAbs) = ⟨(Lib.itoa n).toArray⟩ := by rw [hnS]; rfl
  have he : txt (decS false u) = ⟨(Lib.decDigits u).toArray⟩ := by
    have := bs_decZ u
    rw [← this]
    simp [decS, txt, bs]
  have hnum : o4 11 [num (decide (n < 0)) n.natAbs] = some (.string ⟨(Lib.itoa n).toArray⟩) := by rw [← hd]; exact under4 (num_told _ (small20 (by omega)))
  have hnu : o4 11 [num false u] = some (.string ⟨(Lib.decDigits u).toArray⟩) := by rw [← he]; exact under4 (num_told false (small20 (by omega)))
  have szd : (⟨(Lib.itoa n).toArray⟩ : ByteArray).size ≤ 281474976710656 := by
    have h1 := dec_size n.natAbs (by omega)
    have h2 : (Lib.itoa n).length ≤ 101 := by
      unfold Lib.itoa
      split
      · rw [List.length_cons]; omega
      · have : n.toNat = n.natAbs := by omega
        rw [this]; omega
    show (Lib.itoa n).toArray.size ≤ _
    rw [List.size_toArray]
    omega
  have sze : (⟨(Lib.decDigits u).toArray⟩ : ByteArray).size ≤ 281474976710656 := by
    have h1 := dec_size u (by omega)
    show (Lib.decDigits u).toArray.size ≤ _
    rw [List.size_toArray]
    omega
  rw [t4 t E u' v' n u s _ _ (decide (n < 0)) n.natAbs u hk (by omega) hn hu rfl rfl (of4 n hn) hnum (n644 u hu) hnu (fun s0 h0 =>
    (Dg.loop_run (S := fun i => S4 t E u' v' n u s ⟨(Lib.itoa n).toArray⟩ ⟨(Lib.decDigits u).toArray⟩ i) (n := 3) (by simp) (fun j hj => by
      match j, hj with
      | 0, _ => exact round4 t E u' v' n u s _ _ s 0 (by omega) rfl (by omega)
      | 1, _ => exact round4 t E u' v' n u s _ _ _ 1 (by omega) rfl szd
      | 2, _ => exact round4 t E u' v' n u s _ _ _ 2 (by omega) rfl sze) (te t E u' v' n u s _ _) (by omega) h0).trans (by kernel_rfl))]
  rfl
end Go.Proofs.YtflgpkkbifkpoaaDoor.num
