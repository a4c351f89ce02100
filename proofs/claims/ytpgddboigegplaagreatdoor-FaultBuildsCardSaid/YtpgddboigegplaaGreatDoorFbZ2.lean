/- The row 'FaultBuilds' comes to true, whatever it is given. -/
import Derived.Test.YtpgddboigegplaaGreatDoorRows
import Derived.Test.YtpgddboigegplaaGreatDoorFR
import Derived.Test.YtpgddboigegplaaGreatDoorFbZ
import Derived.Test.YtpgddboigegplaaGreatDoorFF
import Derived.Test.YtpgddboigegplaaGreatDoorFC
import Derived.Test.YtpgddboigegplaaGreatDoorFHeavyB
namespace Go.Proofs.YtpgddboigegplaaGreatDoor.base
open Go.Dg (junk St Ex Ev Hint evCall evCallS evCode evLoop cleanSt bodied noOver Flats flatOver Heap AObj)
set_option linter.unusedVariables false

theorem h0_is (E : Nat → TypeId) (u3 u4 : TypeId) (x : AObj) : H0 E u3 u4 [x] = ⟨18, x :: objs0 E u3 u4⟩ := by kernel_rfl
def I64 (n : Int) : Prop := -9223372036854775808 ≤ n ∧ n ≤ 9223372036854775807
theorem dd_len : ∀ m n, n < 10 ^ (m + 1) → (Lib.decDigits n).length ≤ m + 1 := by
  intro m
  induction m with
  | zero => intro n h; rw [Lib.decDigits_one (by simpa using h)]; simp
  | succ m ih =>
    intro n h
    by_cases h0 : n < 10
    · rw [Lib.decDigits_one h0]; simp
    · rw [Lib.decDigits, dif_neg h0, List.length_append]
      have := ih (n / 10) (by rw [Nat.pow_succ] at h; omega)
      simp
      omega
theorem decV_size {n : Int} (h : I64 n) : (decV n).size ≤ 20 := by
  unfold decV Lib.itoa
  unfold I64 at h
  rw [bs_size]
  split
  · have := dd_len 18 n.natAbs (by omega)
    rw [List.length_cons]; omega
  · have := dd_len 18 n.toNat (by omega)
    omega
theorem word_size (s : ByteArray) : (wordOf s).size ≤ 32 := by
  unfold wordOf
  split
  · rename_i h
    unfold mayL at h
    simp only [Bool.and_eq_true] at h
    have := Nat.le_of_ble_eq_true h.2.1
    rw [← bs_of s, bs_size]
    exact this
  · decide
theorem rb0 (lf : Nat) (E : Nat → TypeId) (u3 u4 : TypeId) (kind off other : Int) (hkr : I64 kind) (hor : I64 off) (htr : I64 other) (ys : List Value) (e cap : Nat) (ws : List ByteArray) (hys : WsOk ws ys) (hl : ws.length ≤ 20) (hz : ∀ w ∈ ws, w.size < lf + 100 ∧ w.size ≤ 9223372036854775807) (hc : ws.length = 0) (hh : evB (lf + 100) 19 8 [aW ws.length cap] (⟨18, oW ys e :: objs0 E u3 u4⟩ : Heap) = some (.bool false, (⟨18, oW ys e :: objs0 E u3 u4⟩ : Heap), [])) : (evB (lf + 100) 20 4 [.int .i64 kind, .int .i64 other, .int .i64 off, aW ws.length cap] ⟨18, oW ys e :: objs0 E u3 u4⟩).map (·.1) = some (.bool true) := by
  have hkn : evB (lf + 100) 19 7 [] ⟨18, oW ys e :: objs0 E u3 u4⟩ = some (.bool true, ⟨18, oW ys e :: objs0 E u3 u4⟩, []) := by
    have := bKnown (lf := lf + 100) (m := 18) E u3 u4 (oW ys e)
    rwa [h0_is] at this
  by_cases hk : kind = 0
  · have hb := bdz0 lf kind off (objs0 E u3 u4) ys e cap ws hys hl hz hc hk
    have hg : evB (lf + 100) 20 4 [.int .i64 kind, .int .i64 other, .int .i64 off, aW ws.length cap] ⟨18, oW ys e :: objs0 E u3 u4⟩ = _ := fbz0 (lf + 100) kind off other (objs0 E u3 u4) ys e ws.length cap  hk hkn hh hb
    rw [hg]
    rfl
  · have hb := bd0 lf kind off (objs0 E u3 u4) ys e cap ws hys hl hz hc hk
    have ht : ∀ m n, I64 n → evB (lf + 100) (m + 1) 34 [.int .i64 n] (kpH0 kind off (objs0 E u3 u4) (oW ys e)) = some (.string (decV n), (kpH0 kind off (objs0 E u3 u4) (oW ys e)), []) := fun m n h => bDec h ⟨E 2, by kernel_rfl⟩
    have ht2 : ∀ m n, I64 n → evB (lf + 100) (m + 1) 34 [.int .i64 n] (kpH0 kind off (objs0 E u3 u4) (oW ys e)) = some (.string (decV n), (kpH0 kind off (objs0 E u3 u4) (oW ys e)), []) := fun m n h => bDec h ⟨E 2, by kernel_rfl⟩
    have h18 := rl0 lf kind off (objs0 E u3 u4) (oW ys e)  (decV kind) (decV off) (decV_size hkr) (decV_size hor)  (fun m H => bNum hkr) (fun m H => bNum hor)
    rw [rl_is0] at h18
    have h13 := ln0 lf kind off (objs0 E u3 u4) (oW ys e)  (decV kind) (decV off) (decV_size hkr) (decV_size hor)  (fun m => ht m kind hkr) (fun m => ht m off hor)
    have hE := err0 lf kind off (objs0 E u3 u4) (oW ys e)  (decV kind) (decV off) (decV_size hkr) (decV_size hor)  (fun m => ht m kind hkr) (fun m => ht m off hor)
    have hS := srt0 (lf + 100) kind off other (objs0 E u3 u4) (oW ys e)  (decV other) (decV_size htr) (fun m => ht2 m other htr)
    by_cases ho : other = kind
    · have hi := isT0 lf kind off (objs0 E u3 u4) (oW ys e) 
      have hg : evB (lf + 100) 20 4 [.int .i64 kind, .int .i64 other, .int .i64 off, aW ws.length cap] ⟨18, oW ys e :: objs0 E u3 u4⟩ = _ := fbt0 (lf + 100) kind off other (objs0 E u3 u4) ys e ws.length cap  _ (decV other) hk ho hkn hh hb (knd0 lf E u3 u4 kind off (oW ys e) ) (off0 lf E u3 u4 kind off (oW ys e) ) h13 h18 hE (nts0 lf kind off (objs0 E u3 u4) (oW ys e) ) (eq0 lf) hi (by rw [ho]; exact hi) hS (fun H => bNum htr) (decV_size htr)
      rw [hg]
      rfl
    · have hg : evB (lf + 100) 20 4 [.int .i64 kind, .int .i64 other, .int .i64 off, aW ws.length cap] ⟨18, oW ys e :: objs0 E u3 u4⟩ = _ := fbf0 (lf + 100) kind off other (objs0 E u3 u4) ys e ws.length cap  _ (decV other) hk ho hkn hh hb (knd0 lf E u3 u4 kind off (oW ys e) ) (off0 lf E u3 u4 kind off (oW ys e) ) h13 h18 hE (nts0 lf kind off (objs0 E u3 u4) (oW ys e) ) (eq0 lf) (isT0 lf kind off (objs0 E u3 u4) (oW ys e) ) (isF0 lf kind off other ho (objs0 E u3 u4) (oW ys e) ) hS (fun H => bNum htr) (decV_size htr)
      rw [hg]
      rfl
theorem rb1 (lf : Nat) (E : Nat → TypeId) (u3 u4 : TypeId) (kind off other : Int) (hkr : I64 kind) (hor : I64 off) (htr : I64 other) (ys : List Value) (e cap : Nat) (ws : List ByteArray) (hys : WsOk ws ys) (hl : ws.length ≤ 20) (hz : ∀ w ∈ ws, w.size < lf + 100 ∧ w.size ≤ 9223372036854775807) (hc : ws.length = 1) (hh : evB (lf + 100) 19 8 [aW ws.length cap] (⟨18, oW ys e :: objs0 E u3 u4⟩ : Heap) = some (.bool false, (⟨18, oW ys e :: objs0 E u3 u4⟩ : Heap), [])) : (evB (lf + 100) 20 4 [.int .i64 kind, .int .i64 other, .int .i64 off, aW ws.length cap] ⟨18, oW ys e :: objs0 E u3 u4⟩).map (·.1) = some (.bool true) := by
  have hkn : evB (lf + 100) 19 7 [] ⟨18, oW ys e :: objs0 E u3 u4⟩ = some (.bool true, ⟨18, oW ys e :: objs0 E u3 u4⟩, []) := by
    have := bKnown (lf := lf + 100) (m := 18) E u3 u4 (oW ys e)
    rwa [h0_is] at this
  by_cases hk : kind = 0
  · have hb := bdz1 lf kind off (objs0 E u3 u4) ys e cap ws hys hl hz hc hk
    have hg : evB (lf + 100) 20 4 [.int .i64 kind, .int .i64 other, .int .i64 off, aW ws.length cap] ⟨18, oW ys e :: objs0 E u3 u4⟩ = _ := fbz1 (lf + 100) kind off other (objs0 E u3 u4) ys e ws.length cap (wv ws 0) hk hkn hh hb
    rw [hg]
    rfl
  · have hb := bd1 lf kind off (objs0 E u3 u4) ys e cap ws hys hl hz hc hk
    have ht : ∀ m n, I64 n → evB (lf + 100) (m + 1) 34 [.int .i64 n] (kpH1 kind off (objs0 E u3 u4) (oW ys e) (wv ws 0)) = some (.string (decV n), (kpH1 kind off (objs0 E u3 u4) (oW ys e) (wv ws 0)), []) := fun m n h => bDec h ⟨E 2, by kernel_rfl⟩
    have ht2 : ∀ m n, I64 n → evB (lf + 100) (m + 1) 34 [.int .i64 n] (kpN1 kind off (objs0 E u3 u4) (oW ys e) (wv ws 0)) = some (.string (decV n), (kpN1 kind off (objs0 E u3 u4) (oW ys e) (wv ws 0)), []) := fun m n h => bDec h ⟨E 2, by kernel_rfl⟩
    have h18 := rl1 lf kind off (objs0 E u3 u4) (oW ys e) (wv ws 0) (decV kind) (decV off) (decV_size hkr) (decV_size hor) (word_size _) (fun m H => bNum hkr) (fun m H => bNum hor)
    rw [rl_is1] at h18
    have h13 := ln1 lf kind off (objs0 E u3 u4) (oW ys e) (wv ws 0) (decV kind) (decV off) (decV_size hkr) (decV_size hor) (word_size _) (fun m => ht m kind hkr) (fun m => ht m off hor)
    have hE := err1 lf kind off (objs0 E u3 u4) (oW ys e) (wv ws 0) (decV kind) (decV off) (decV_size hkr) (decV_size hor) (word_size _) (fun m => ht m kind hkr) (fun m => ht m off hor)
    have hS := srt1 (lf + 100) kind off other (objs0 E u3 u4) (oW ys e) (wv ws 0) (decV other) (decV_size htr) (fun m => ht2 m other htr)
    by_cases ho : other = kind
    · have hi := isT1 lf kind off (objs0 E u3 u4) (oW ys e) (wv ws 0)
      have hg : evB (lf + 100) 20 4 [.int .i64 kind, .int .i64 other, .int .i64 off, aW ws.length cap] ⟨18, oW ys e :: objs0 E u3 u4⟩ = _ := fbt1 (lf + 100) kind off other (objs0 E u3 u4) ys e ws.length cap (wv ws 0) _ (decV other) hk ho hkn hh hb (knd1 lf E u3 u4 kind off (oW ys e) (wv ws 0)) (off1 lf E u3 u4 kind off (oW ys e) (wv ws 0)) h13 h18 hE (nts1 lf kind off (objs0 E u3 u4) (oW ys e) (wv ws 0)) (eq1 lf kind off (objs0 E u3 u4) (oW ys e) (wv ws 0)) hi (by rw [ho]; exact hi) hS (fun H => bNum htr) (decV_size htr)
      rw [hg]
      rfl
    · have hg : evB (lf + 100) 20 4 [.int .i64 kind, .int .i64 other, .int .i64 off, aW ws.length cap] ⟨18, oW ys e :: objs0 E u3 u4⟩ = _ := fbf1 (lf + 100) kind off other (objs0 E u3 u4) ys e ws.length cap (wv ws 0) _ (decV other) hk ho hkn hh hb (knd1 lf E u3 u4 kind off (oW ys e) (wv ws 0)) (off1 lf E u3 u4 kind off (oW ys e) (wv ws 0)) h13 h18 hE (nts1 lf kind off (objs0 E u3 u4) (oW ys e) (wv ws 0)) (eq1 lf kind off (objs0 E u3 u4) (oW ys e) (wv ws 0)) (isT1 lf kind off (objs0 E u3 u4) (oW ys e) (wv ws 0)) (isF1 lf kind off other ho (objs0 E u3 u4) (oW ys e) (wv ws 0)) hS (fun H => bNum htr) (decV_size htr)
      rw [hg]
      rfl
theorem rb2 (lf : Nat) (E : Nat → TypeId) (u3 u4 : TypeId) (kind off other : Int) (hkr : I64 kind) (hor : I64 off) (htr : I64 other) (ys : List Value) (e cap : Nat) (ws : List ByteArray) (hys : WsOk ws ys) (hl : ws.length ≤ 20) (hz : ∀ w ∈ ws, w.size < lf + 100 ∧ w.size ≤ 9223372036854775807) (hc : ws.length = 2) (hh : evB (lf + 100) 19 8 [aW ws.length cap] (⟨18, oW ys e :: objs0 E u3 u4⟩ : Heap) = some (.bool false, (⟨18, oW ys e :: objs0 E u3 u4⟩ : Heap), [])) : (evB (lf + 100) 20 4 [.int .i64 kind, .int .i64 other, .int .i64 off, aW ws.length cap] ⟨18, oW ys e :: objs0 E u3 u4⟩).map (·.1) = some (.bool true) := by
  have hkn : evB (lf + 100) 19 7 [] ⟨18, oW ys e :: objs0 E u3 u4⟩ = some (.bool true, ⟨18, oW ys e :: objs0 E u3 u4⟩, []) := by
    have := bKnown (lf := lf + 100) (m := 18) E u3 u4 (oW ys e)
    rwa [h0_is] at this
  by_cases hk : kind = 0
  · have hb := bdz2 lf kind off (objs0 E u3 u4) ys e cap ws hys hl hz hc hk
    have hg : evB (lf + 100) 20 4 [.int .i64 kind, .int .i64 other, .int .i64 off, aW ws.length cap] ⟨18, oW ys e :: objs0 E u3 u4⟩ = _ := fbz2 (lf + 100) kind off other (objs0 E u3 u4) ys e ws.length cap (wv ws 0) (wv ws 1) hk hkn hh hb
    rw [hg]
    rfl
  · have hb := bd2 lf kind off (objs0 E u3 u4) ys e cap ws hys hl hz hc hk
    have ht : ∀ m n, I64 n → evB (lf + 100) (m + 1) 34 [.int .i64 n] (kpH2 kind off (objs0 E u3 u4) (oW ys e) (wv ws 0) (wv ws 1)) = some (.string (decV n), (kpH2 kind off (objs0 E u3 u4) (oW ys e) (wv ws 0) (wv ws 1)), []) := fun m n h => bDec h ⟨E 2, by kernel_rfl⟩
    have ht2 : ∀ m n, I64 n → evB (lf + 100) (m + 1) 34 [.int .i64 n] (kpN2 kind off (objs0 E u3 u4) (oW ys e) (wv ws 0) (wv ws 1)) = some (.string (decV n), (kpN2 kind off (objs0 E u3 u4) (oW ys e) (wv ws 0) (wv ws 1)), []) := fun m n h => bDec h ⟨E 2, by kernel_rfl⟩
    have h18 := rl2 lf kind off (objs0 E u3 u4) (oW ys e) (wv ws 0) (wv ws 1) (decV kind) (decV off) (decV_size hkr) (decV_size hor) (word_size _) (word_size _) (fun m H => bNum hkr) (fun m H => bNum hor)
    rw [rl_is2] at h18
    have h13 := ln2 lf kind off (objs0 E u3 u4) (oW ys e) (wv ws 0) (wv ws 1) (decV kind) (decV off) (decV_size hkr) (decV_size hor) (word_size _) (word_size _) (fun m => ht m kind hkr) (fun m => ht m off hor)
    have hE := err2 lf kind off (objs0 E u3 u4) (oW ys e) (wv ws 0) (wv ws 1) (decV kind) (decV off) (decV_size hkr) (decV_size hor) (word_size _) (word_size _) (fun m => ht m kind hkr) (fun m => ht m off hor)
    have hS := srt2 (lf + 100) kind off other (objs0 E u3 u4) (oW ys e) (wv ws 0) (wv ws 1) (decV other) (decV_size htr) (fun m => ht2 m other htr)
    by_cases ho : other = kind
    · have hi := isT2 lf kind off (objs0 E u3 u4) (oW ys e) (wv ws 0) (wv ws 1)
      have hg : evB (lf + 100) 20 4 [.int .i64 kind, .int .i64 other, .int .i64 off, aW ws.length cap] ⟨18, oW ys e :: objs0 E u3 u4⟩ = _ := fbt2 (lf + 100) kind off other (objs0 E u3 u4) ys e ws.length cap (wv ws 0) (wv ws 1) _ (decV other) hk ho hkn hh hb (knd2 lf E u3 u4 kind off (oW ys e) (wv ws 0) (wv ws 1)) (off2 lf E u3 u4 kind off (oW ys e) (wv ws 0) (wv ws 1)) h13 h18 hE (nts2 lf kind off (objs0 E u3 u4) (oW ys e) (wv ws 0) (wv ws 1)) (eq2 lf kind off (objs0 E u3 u4) (oW ys e) (wv ws 0) (wv ws 1)) hi (by rw [ho]; exact hi) hS (fun H => bNum htr) (decV_size htr)
      rw [hg]
      rfl
    · have hg : evB (lf + 100) 20 4 [.int .i64 kind, .int .i64 other, .int .i64 off, aW ws.length cap] ⟨18, oW ys e :: objs0 E u3 u4⟩ = _ := fbf2 (lf + 100) kind off other (objs0 E u3 u4) ys e ws.length cap (wv ws 0) (wv ws 1) _ (decV other) hk ho hkn hh hb (knd2 lf E u3 u4 kind off (oW ys e) (wv ws 0) (wv ws 1)) (off2 lf E u3 u4 kind off (oW ys e) (wv ws 0) (wv ws 1)) h13 h18 hE (nts2 lf kind off (objs0 E u3 u4) (oW ys e) (wv ws 0) (wv ws 1)) (eq2 lf kind off (objs0 E u3 u4) (oW ys e) (wv ws 0) (wv ws 1)) (isT2 lf kind off (objs0 E u3 u4) (oW ys e) (wv ws 0) (wv ws 1)) (isF2 lf kind off other ho (objs0 E u3 u4) (oW ys e) (wv ws 0) (wv ws 1)) hS (fun H => bNum htr) (decV_size htr)
      rw [hg]
      rfl
theorem rb3 (lf : Nat) (E : Nat → TypeId) (u3 u4 : TypeId) (kind off other : Int) (hkr : I64 kind) (hor : I64 off) (htr : I64 other) (ys : List Value) (e cap : Nat) (ws : List ByteArray) (hys : WsOk ws ys) (hl : ws.length ≤ 20) (hz : ∀ w ∈ ws, w.size < lf + 100 ∧ w.size ≤ 9223372036854775807) (hc : ws.length = 3) (hh : evB (lf + 100) 19 8 [aW ws.length cap] (⟨18, oW ys e :: objs0 E u3 u4⟩ : Heap) = some (.bool false, (⟨18, oW ys e :: objs0 E u3 u4⟩ : Heap), [])) : (evB (lf + 100) 20 4 [.int .i64 kind, .int .i64 other, .int .i64 off, aW ws.length cap] ⟨18, oW ys e :: objs0 E u3 u4⟩).map (·.1) = some (.bool true) := by
  have hkn : evB (lf + 100) 19 7 [] ⟨18, oW ys e :: objs0 E u3 u4⟩ = some (.bool true, ⟨18, oW ys e :: objs0 E u3 u4⟩, []) := by
    have := bKnown (lf := lf + 100) (m := 18) E u3 u4 (oW ys e)
    rwa [h0_is] at this
  by_cases hk : kind = 0
  · have hb := bdz3 lf kind off (objs0 E u3 u4) ys e cap ws hys hl hz hc hk
    have hg : evB (lf + 100) 20 4 [.int .i64 kind, .int .i64 other, .int .i64 off, aW ws.length cap] ⟨18, oW ys e :: objs0 E u3 u4⟩ = _ := fbz3 (lf + 100) kind off other (objs0 E u3 u4) ys e ws.length cap (wv ws 0) (wv ws 1) (wv ws 2) hk hkn hh hb
    rw [hg]
    rfl
  · have hb := bd3 lf kind off (objs0 E u3 u4) ys e cap ws hys hl hz hc hk
    have ht : ∀ m n, I64 n → evB (lf + 100) (m + 1) 34 [.int .i64 n] (kpH3 kind off (objs0 E u3 u4) (oW ys e) (wv ws 0) (wv ws 1) (wv ws 2)) = some (.string (decV n), (kpH3 kind off (objs0 E u3 u4) (oW ys e) (wv ws 0) (wv ws 1) (wv ws 2)), []) := fun m n h => bDec h ⟨E 2, by kernel_rfl⟩
    have ht2 : ∀ m n, I64 n → evB (lf + 100) (m + 1) 34 [.int .i64 n] (kpN3 kind off (objs0 E u3 u4) (oW ys e) (wv ws 0) (wv ws 1) (wv ws 2)) = some (.string (decV n), (kpN3 kind off (objs0 E u3 u4) (oW ys e) (wv ws 0) (wv ws 1) (wv ws 2)), []) := fun m n h => bDec h ⟨E 2, by kernel_rfl⟩
    have h18 := rl3 lf kind off (objs0 E u3 u4) (oW ys e) (wv ws 0) (wv ws 1) (wv ws 2) (decV kind) (decV off) (decV_size hkr) (decV_size hor) (word_size _) (word_size _) (word_size _) (fun m H => bNum hkr) (fun m H => bNum hor)
    rw [rl_is3] at h18
    have h13 := ln3 lf kind off (objs0 E u3 u4) (oW ys e) (wv ws 0) (wv ws 1) (wv ws 2) (decV kind) (decV off) (decV_size hkr) (decV_size hor) (word_size _) (word_size _) (word_size _) (fun m => ht m kind hkr) (fun m => ht m off hor)
    have hE := err3 lf kind off (objs0 E u3 u4) (oW ys e) (wv ws 0) (wv ws 1) (wv ws 2) (decV kind) (decV off) (decV_size hkr) (decV_size hor) (word_size _) (word_size _) (word_size _) (fun m => ht m kind hkr) (fun m => ht m off hor)
    have hS := srt3 (lf + 100) kind off other (objs0 E u3 u4) (oW ys e) (wv ws 0) (wv ws 1) (wv ws 2) (decV other) (decV_size htr) (fun m => ht2 m other htr)
    by_cases ho : other = kind
    · have hi := isT3 lf kind off (objs0 E u3 u4) (oW ys e) (wv ws 0) (wv ws 1) (wv ws 2)
      have hg : evB (lf + 100) 20 4 [.int .i64 kind, .int .i64 other, .int .i64 off, aW ws.length cap] ⟨18, oW ys e :: objs0 E u3 u4⟩ = _ := fbt3 (lf + 100) kind off other (objs0 E u3 u4) ys e ws.length cap (wv ws 0) (wv ws 1) (wv ws 2) _ (decV other) hk ho hkn hh hb (knd3 lf E u3 u4 kind off (oW ys e) (wv ws 0) (wv ws 1) (wv ws 2)) (off3 lf E u3 u4 kind off (oW ys e) (wv ws 0) (wv ws 1) (wv ws 2)) h13 h18 hE (nts3 lf kind off (objs0 E u3 u4) (oW ys e) (wv ws 0) (wv ws 1) (wv ws 2)) (eq3 lf kind off (objs0 E u3 u4) (oW ys e) (wv ws 0) (wv ws 1) (wv ws 2)) hi (by rw [ho]; exact hi) hS (fun H => bNum htr) (decV_size htr)
      rw [hg]
      rfl
    · have hg : evB (lf + 100) 20 4 [.int .i64 kind, .int .i64 other, .int .i64 off, aW ws.length cap] ⟨18, oW ys e :: objs0 E u3 u4⟩ = _ := fbf3 (lf + 100) kind off other (objs0 E u3 u4) ys e ws.length cap (wv ws 0) (wv ws 1) (wv ws 2) _ (decV other) hk ho hkn hh hb (knd3 lf E u3 u4 kind off (oW ys e) (wv ws 0) (wv ws 1) (wv ws 2)) (off3 lf E u3 u4 kind off (oW ys e) (wv ws 0) (wv ws 1) (wv ws 2)) h13 h18 hE (nts3 lf kind off (objs0 E u3 u4) (oW ys e) (wv ws 0) (wv ws 1) (wv ws 2)) (eq3 lf kind off (objs0 E u3 u4) (oW ys e) (wv ws 0) (wv ws 1) (wv ws 2)) (isT3 lf kind off (objs0 E u3 u4) (oW ys e) (wv ws 0) (wv ws 1) (wv ws 2)) (isF3 lf kind off other ho (objs0 E u3 u4) (oW ys e) (wv ws 0) (wv ws 1) (wv ws 2)) hS (fun H => bNum htr) (decV_size htr)
      rw [hg]
      rfl
theorem rb4 (lf : Nat) (E : Nat → TypeId) (u3 u4 : TypeId) (kind off other : Int) (hkr : I64 kind) (hor : I64 off) (htr : I64 other) (ys : List Value) (e cap : Nat) (ws : List ByteArray) (hys : WsOk ws ys) (hl : ws.length ≤ 20) (hz : ∀ w ∈ ws, w.size < lf + 100 ∧ w.size ≤ 9223372036854775807) (hc : ws.length = 4) (hh : evB (lf + 100) 19 8 [aW ws.length cap] (⟨18, oW ys e :: objs0 E u3 u4⟩ : Heap) = some (.bool false, (⟨18, oW ys e :: objs0 E u3 u4⟩ : Heap), [])) : (evB (lf + 100) 20 4 [.int .i64 kind, .int .i64 other, .int .i64 off, aW ws.length cap] ⟨18, oW ys e :: objs0 E u3 u4⟩).map (·.1) = some (.bool true) := by
  have hkn : evB (lf + 100) 19 7 [] ⟨18, oW ys e :: objs0 E u3 u4⟩ = some (.bool true, ⟨18, oW ys e :: objs0 E u3 u4⟩, []) := by
    have := bKnown (lf := lf + 100) (m := 18) E u3 u4 (oW ys e)
    rwa [h0_is] at this
  by_cases hk : kind = 0
  · have hb := bdz4 lf kind off (objs0 E u3 u4) ys e cap ws hys hl hz hc hk
    have hg : evB (lf + 100) 20 4 [.int .i64 kind, .int .i64 other, .int .i64 off, aW ws.length cap] ⟨18, oW ys e :: objs0 E u3 u4⟩ = _ := fbz4 (lf + 100) kind off other (objs0 E u3 u4) ys e ws.length cap (wv ws 0) (wv ws 1) (wv ws 2) (wv ws 3) hk hkn hh hb
    rw [hg]
    rfl
  · have hb := bd4 lf kind off (objs0 E u3 u4) ys e cap ws hys hl hz hc hk
    have ht : ∀ m n, I64 n → evB (lf + 100) (m + 1) 34 [.int .i64 n] (kpH4 kind off (objs0 E u3 u4) (oW ys e) (wv ws 0) (wv ws 1) (wv ws 2) (wv ws 3)) = some (.string (decV n), (kpH4 kind off (objs0 E u3 u4) (oW ys e) (wv ws 0) (wv ws 1) (wv ws 2) (wv ws 3)), []) := fun m n h => bDec h ⟨E 2, by kernel_rfl⟩
    have ht2 : ∀ m n, I64 n → evB (lf + 100) (m + 1) 34 [.int .i64 n] (kpN4 kind off (objs0 E u3 u4) (oW ys e) (wv ws 0) (wv ws 1) (wv ws 2) (wv ws 3)) = some (.string (decV n), (kpN4 kind off (objs0 E u3 u4) (oW ys e) (wv ws 0) (wv ws 1) (wv ws 2) (wv ws 3)), []) := fun m n h => bDec h ⟨E 2, by kernel_rfl⟩
    have h18 := rl4 lf kind off (objs0 E u3 u4) (oW ys e) (wv ws 0) (wv ws 1) (wv ws 2) (wv ws 3) (decV kind) (decV off) (decV_size hkr) (decV_size hor) (word_size _) (word_size _) (word_size _) (word_size _) (fun m H => bNum hkr) (fun m H => bNum hor)
    rw [rl_is4] at h18
    have h13 := ln4 lf kind off (objs0 E u3 u4) (oW ys e) (wv ws 0) (wv ws 1) (wv ws 2) (wv ws 3) (decV kind) (decV off) (decV_size hkr) (decV_size hor) (word_size _) (word_size _) (word_size _) (word_size _) (fun m => ht m kind hkr) (fun m => ht m off hor)
    have hE := err4 lf kind off (objs0 E u3 u4) (oW ys e) (wv ws 0) (wv ws 1) (wv ws 2) (wv ws 3) (decV kind) (decV off) (decV_size hkr) (decV_size hor) (word_size _) (word_size _) (word_size _) (word_size _) (fun m => ht m kind hkr) (fun m => ht m off hor)
    have hS := srt4 (lf + 100) kind off other (objs0 E u3 u4) (oW ys e) (wv ws 0) (wv ws 1) (wv ws 2) (wv ws 3) (decV other) (decV_size htr) (fun m => ht2 m other htr)
    by_cases ho : other = kind
    · have hi := isT4 lf kind off (objs0 E u3 u4) (oW ys e) (wv ws 0) (wv ws 1) (wv ws 2) (wv ws 3)
      have hg : evB (lf + 100) 20 4 [.int .i64 kind, .int .i64 other, .int .i64 off, aW ws.length cap] ⟨18, oW ys e :: objs0 E u3 u4⟩ = _ := fbt4 (lf + 100) kind off other (objs0 E u3 u4) ys e ws.length cap (wv ws 0) (wv ws 1) (wv ws 2) (wv ws 3) _ (decV other) hk ho hkn hh hb (knd4 lf E u3 u4 kind off (oW ys e) (wv ws 0) (wv ws 1) (wv ws 2) (wv ws 3)) (off4 lf E u3 u4 kind off (oW ys e) (wv ws 0) (wv ws 1) (wv ws 2) (wv ws 3)) h13 h18 hE (nts4 lf kind off (objs0 E u3 u4) (oW ys e) (wv ws 0) (wv ws 1) (wv ws 2) (wv ws 3)) (eq4 lf kind off (objs0 E u3 u4) (oW ys e) (wv ws 0) (wv ws 1) (wv ws 2) (wv ws 3)) hi (by rw [ho]; exact hi) hS (fun H => bNum htr) (decV_size htr)
      rw [hg]
      rfl
    · have hg : evB (lf + 100) 20 4 [.int .i64 kind, .int .i64 other, .int .i64 off, aW ws.length cap] ⟨18, oW ys e :: objs0 E u3 u4⟩ = _ := fbf4 (lf + 100) kind off other (objs0 E u3 u4) ys e ws.length cap (wv ws 0) (wv ws 1) (wv ws 2) (wv ws 3) _ (decV other) hk ho hkn hh hb (knd4 lf E u3 u4 kind off (oW ys e) (wv ws 0) (wv ws 1) (wv ws 2) (wv ws 3)) (off4 lf E u3 u4 kind off (oW ys e) (wv ws 0) (wv ws 1) (wv ws 2) (wv ws 3)) h13 h18 hE (nts4 lf kind off (objs0 E u3 u4) (oW ys e) (wv ws 0) (wv ws 1) (wv ws 2) (wv ws 3)) (eq4 lf kind off (objs0 E u3 u4) (oW ys e) (wv ws 0) (wv ws 1) (wv ws 2) (wv ws 3)) (isT4 lf kind off (objs0 E u3 u4) (oW ys e) (wv ws 0) (wv ws 1) (wv ws 2) (wv ws 3)) (isF4 lf kind off other ho (objs0 E u3 u4) (oW ys e) (wv ws 0) (wv ws 1) (wv ws 2) (wv ws 3)) hS (fun H => bNum htr) (decV_size htr)
      rw [hg]
      rfl
theorem rb5 (lf : Nat) (E : Nat → TypeId) (u3 u4 : TypeId) (kind off other : Int) (hkr : I64 kind) (hor : I64 off) (htr : I64 other) (ys : List Value) (e cap : Nat) (ws : List ByteArray) (hys : WsOk ws ys) (hl : ws.length ≤ 20) (hz : ∀ w ∈ ws, w.size < lf + 100 ∧ w.size ≤ 9223372036854775807) (hc : ws.length = 5) (hh : evB (lf + 100) 19 8 [aW ws.length cap] (⟨18, oW ys e :: objs0 E u3 u4⟩ : Heap) = some (.bool false, (⟨18, oW ys e :: objs0 E u3 u4⟩ : Heap), [])) : (evB (lf + 100) 20 4 [.int .i64 kind, .int .i64 other, .int .i64 off, aW ws.length cap] ⟨18, oW ys e :: objs0 E u3 u4⟩).map (·.1) = some (.bool true) := by
  have hkn : evB (lf + 100) 19 7 [] ⟨18, oW ys e :: objs0 E u3 u4⟩ = some (.bool true, ⟨18, oW ys e :: objs0 E u3 u4⟩, []) := by
    have := bKnown (lf := lf + 100) (m := 18) E u3 u4 (oW ys e)
    rwa [h0_is] at this
  by_cases hk : kind = 0
  · have hb := bdz5 lf kind off (objs0 E u3 u4) ys e cap ws hys hl hz hc hk
    have hg : evB (lf + 100) 20 4 [.int .i64 kind, .int .i64 other, .int .i64 off, aW ws.length cap] ⟨18, oW ys e :: objs0 E u3 u4⟩ = _ := fbz5 (lf + 100) kind off other (objs0 E u3 u4) ys e ws.length cap (wv ws 0) (wv ws 1) (wv ws 2) (wv ws 3) (wv ws 4) hk hkn hh hb
    rw [hg]
    rfl
  · have hb := bd5 lf kind off (objs0 E u3 u4) ys e cap ws hys hl hz hc hk
    have ht : ∀ m n, I64 n → evB (lf + 100) (m + 1) 34 [.int .i64 n] (kpH5 kind off (objs0 E u3 u4) (oW ys e) (wv ws 0) (wv ws 1) (wv ws 2) (wv ws 3) (wv ws 4)) = some (.string (decV n), (kpH5 kind off (objs0 E u3 u4) (oW ys e) (wv ws 0) (wv ws 1) (wv ws 2) (wv ws 3) (wv ws 4)), []) := fun m n h => bDec h ⟨E 2, by kernel_rfl⟩
    have ht2 : ∀ m n, I64 n → evB (lf + 100) (m + 1) 34 [.int .i64 n] (kpN5 kind off (objs0 E u3 u4) (oW ys e) (wv ws 0) (wv ws 1) (wv ws 2) (wv ws 3) (wv ws 4)) = some (.string (decV n), (kpN5 kind off (objs0 E u3 u4) (oW ys e) (wv ws 0) (wv ws 1) (wv ws 2) (wv ws 3) (wv ws 4)), []) := fun m n h => bDec h ⟨E 2, by kernel_rfl⟩
    have h18 := rl5 lf kind off (objs0 E u3 u4) (oW ys e) (wv ws 0) (wv ws 1) (wv ws 2) (wv ws 3) (wv ws 4) (decV kind) (decV off) (decV_size hkr) (decV_size hor) (word_size _) (word_size _) (word_size _) (word_size _) (word_size _) (fun m H => bNum hkr) (fun m H => bNum hor)
    rw [rl_is5] at h18
    have h13 := ln5 lf kind off (objs0 E u3 u4) (oW ys e) (wv ws 0) (wv ws 1) (wv ws 2) (wv ws 3) (wv ws 4) (decV kind) (decV off) (decV_size hkr) (decV_size hor) (word_size _) (word_size _) (word_size _) (word_size _) (word_size _) (fun m => ht m kind hkr) (fun m => ht m off hor)
    have hE := err5 lf kind off (objs0 E u3 u4) (oW ys e) (wv ws 0) (wv ws 1) (wv ws 2) (wv ws 3) (wv ws 4) (decV kind) (decV off) (decV_size hkr) (decV_size hor) (word_size _) (word_size _) (word_size _) (word_size _) (word_size _) (fun m => ht m kind hkr) (fun m => ht m off hor)
    have hS := srt5 (lf + 100) kind off other (objs0 E u3 u4) (oW ys e) (wv ws 0) (wv ws 1) (wv ws 2) (wv ws 3) (wv ws 4) (decV other) (decV_size htr) (fun m => ht2 m other htr)
    by_cases ho : other = kind
    · have hi := isT5 lf kind off (objs0 E u3 u4) (oW ys e) (wv ws 0) (wv ws 1) (wv ws 2) (wv ws 3) (wv ws 4)
      have hg : evB (lf + 100) 20 4 [.int .i64 kind, .int .i64 other, .int .i64 off, aW ws.length cap] ⟨18, oW ys e :: objs0 E u3 u4⟩ = _ := fbt5 (lf + 100) kind off other (objs0 E u3 u4) ys e ws.length cap (wv ws 0) (wv ws 1) (wv ws 2) (wv ws 3) (wv ws 4) _ (decV other) hk ho hkn hh hb (knd5 lf E u3 u4 kind off (oW ys e) (wv ws 0) (wv ws 1) (wv ws 2) (wv ws 3) (wv ws 4)) (off5 lf E u3 u4 kind off (oW ys e) (wv ws 0) (wv ws 1) (wv ws 2) (wv ws 3) (wv ws 4)) h13 h18 hE (nts5 lf kind off (objs0 E u3 u4) (oW ys e) (wv ws 0) (wv ws 1) (wv ws 2) (wv ws 3) (wv ws 4)) (eq5 lf kind off (objs0 E u3 u4) (oW ys e) (wv ws 0) (wv ws 1) (wv ws 2) (wv ws 3) (wv ws 4)) hi (by rw [ho]; exact hi) hS (fun H => bNum htr) (decV_size htr)
      rw [hg]
      rfl
    · have hg : evB (lf + 100) 20 4 [.int .i64 kind, .int .i64 other, .int .i64 off, aW ws.length cap] ⟨18, oW ys e :: objs0 E u3 u4⟩ = _ := fbf5 (lf + 100) kind off other (objs0 E u3 u4) ys e ws.length cap (wv ws 0) (wv ws 1) (wv ws 2) (wv ws 3) (wv ws 4) _ (decV other) hk ho hkn hh hb (knd5 lf E u3 u4 kind off (oW ys e) (wv ws 0) (wv ws 1) (wv ws 2) (wv ws 3) (wv ws 4)) (off5 lf E u3 u4 kind off (oW ys e) (wv ws 0) (wv ws 1) (wv ws 2) (wv ws 3) (wv ws 4)) h13 h18 hE (nts5 lf kind off (objs0 E u3 u4) (oW ys e) (wv ws 0) (wv ws 1) (wv ws 2) (wv ws 3) (wv ws 4)) (eq5 lf kind off (objs0 E u3 u4) (oW ys e) (wv ws 0) (wv ws 1) (wv ws 2) (wv ws 3) (wv ws 4)) (isT5 lf kind off (objs0 E u3 u4) (oW ys e) (wv ws 0) (wv ws 1) (wv ws 2) (wv ws 3) (wv ws 4)) (isF5 lf kind off other ho (objs0 E u3 u4) (oW ys e) (wv ws 0) (wv ws 1) (wv ws 2) (wv ws 3) (wv ws 4)) hS (fun H => bNum htr) (decV_size htr)
      rw [hg]
      rfl
theorem rb6 (lf : Nat) (E : Nat → TypeId) (u3 u4 : TypeId) (kind off other : Int) (hkr : I64 kind) (hor : I64 off) (htr : I64 other) (ys : List Value) (e cap : Nat) (ws : List ByteArray) (hys : WsOk ws ys) (hl : ws.length ≤ 20) (hz : ∀ w ∈ ws, w.size < lf + 100 ∧ w.size ≤ 9223372036854775807) (hc : ws.length = 6) (hh : evB (lf + 100) 19 8 [aW ws.length cap] (⟨18, oW ys e :: objs0 E u3 u4⟩ : Heap) = some (.bool false, (⟨18, oW ys e :: objs0 E u3 u4⟩ : Heap), [])) : (evB (lf + 100) 20 4 [.int .i64 kind, .int .i64 other, .int .i64 off, aW ws.length cap] ⟨18, oW ys e :: objs0 E u3 u4⟩).map (·.1) = some (.bool true) := by
  have hkn : evB (lf + 100) 19 7 [] ⟨18, oW ys e :: objs0 E u3 u4⟩ = some (.bool true, ⟨18, oW ys e :: objs0 E u3 u4⟩, []) := by
    have := bKnown (lf := lf + 100) (m := 18) E u3 u4 (oW ys e)
    rwa [h0_is] at this
  by_cases hk : kind = 0
  · have hb := bdz6 lf kind off (objs0 E u3 u4) ys e cap ws hys hl hz hc hk
    have hg : evB (lf + 100) 20 4 [.int .i64 kind, .int .i64 other, .int .i64 off, aW ws.length cap] ⟨18, oW ys e :: objs0 E u3 u4⟩ = _ := fbz6 (lf + 100) kind off other (objs0 E u3 u4) ys e ws.length cap (wv ws 0) (wv ws 1) (wv ws 2) (wv ws 3) (wv ws 4) (wv ws 5) hk hkn hh hb
    rw [hg]
    rfl
  · have hb := bd6 lf kind off (objs0 E u3 u4) ys e cap ws hys hl hz hc hk
    have ht : ∀ m n, I64 n → evB (lf + 100) (m + 1) 34 [.int .i64 n] (kpH6 kind off (objs0 E u3 u4) (oW ys e) (wv ws 0) (wv ws 1) (wv ws 2) (wv ws 3) (wv ws 4) (wv ws 5)) = some (.string (decV n), (kpH6 kind off (objs0 E u3 u4) (oW ys e) (wv ws 0) (wv ws 1) (wv ws 2) (wv ws 3) (wv ws 4) (wv ws 5)), []) := fun m n h => bDec h ⟨E 2, by kernel_rfl⟩
    have ht2 : ∀ m n, I64 n → evB (lf + 100) (m + 1) 34 [.int .i64 n] (kpN6 kind off (objs0 E u3 u4) (oW ys e) (wv ws 0) (wv ws 1) (wv ws 2) (wv ws 3) (wv ws 4) (wv ws 5)) = some (.string (decV n), (kpN6 kind off (objs0 E u3 u4) (oW ys e) (wv ws 0) (wv ws 1) (wv ws 2) (wv ws 3) (wv ws 4) (wv ws 5)), []) := fun m n h => bDec h ⟨E 2, by kernel_rfl⟩
    have h18 := rl6 lf kind off (objs0 E u3 u4) (oW ys e) (wv ws 0) (wv ws 1) (wv ws 2) (wv ws 3) (wv ws 4) (wv ws 5) (decV kind) (decV off) (decV_size hkr) (decV_size hor) (word_size _) (word_size _) (word_size _) (word_size _) (word_size _) (word_size _) (fun m H => bNum hkr) (fun m H => bNum hor)
    rw [rl_is6] at h18
    have h13 := ln6 lf kind off (objs0 E u3 u4) (oW ys e) (wv ws 0) (wv ws 1) (wv ws 2) (wv ws 3) (wv ws 4) (wv ws 5) (decV kind) (decV off) (decV_size hkr) (decV_size hor) (word_size _) (word_size _) (word_size _) (word_size _) (word_size _) (word_size _) (fun m => ht m kind hkr) (fun m => ht m off hor)
    have hE := err6 lf kind off (objs0 E u3 u4) (oW ys e) (wv ws 0) (wv ws 1) (wv ws 2) (wv ws 3) (wv ws 4) (wv ws 5) (decV kind) (decV off) (decV_size hkr) (decV_size hor) (word_size _) (word_size _) (word_size _) (word_size _) (word_size _) (word_size _) (fun m => ht m kind hkr) (fun m => ht m off hor)
    have hS := srt6 (lf + 100) kind off other (objs0 E u3 u4) (oW ys e) (wv ws 0) (wv ws 1) (wv ws 2) (wv ws 3) (wv ws 4) (wv ws 5) (decV other) (decV_size htr) (fun m => ht2 m other htr)
    by_cases ho : other = kind
    · have hi := isT6 lf kind off (objs0 E u3 u4) (oW ys e) (wv ws 0) (wv ws 1) (wv ws 2) (wv ws 3) (wv ws 4) (wv ws 5)
      have hg : evB (lf + 100) 20 4 [.int .i64 kind, .int .i64 other, .int .i64 off, aW ws.length cap] ⟨18, oW ys e :: objs0 E u3 u4⟩ = _ := fbt6 (lf + 100) kind off other (objs0 E u3 u4) ys e ws.length cap (wv ws 0) (wv ws 1) (wv ws 2) (wv ws 3) (wv ws 4) (wv ws 5) _ (decV other) hk ho hkn hh hb (knd6 lf E u3 u4 kind off (oW ys e) (wv ws 0) (wv ws 1) (wv ws 2) (wv ws 3) (wv ws 4) (wv ws 5)) (off6 lf E u3 u4 kind off (oW ys e) (wv ws 0) (wv ws 1) (wv ws 2) (wv ws 3) (wv ws 4) (wv ws 5)) h13 h18 hE (nts6 lf kind off (objs0 E u3 u4) (oW ys e) (wv ws 0) (wv ws 1) (wv ws 2) (wv ws 3) (wv ws 4) (wv ws 5)) (eq6 lf kind off (objs0 E u3 u4) (oW ys e) (wv ws 0) (wv ws 1) (wv ws 2) (wv ws 3) (wv ws 4) (wv ws 5)) hi (by rw [ho]; exact hi) hS (fun H => bNum htr) (decV_size htr)
      rw [hg]
      rfl
    · have hg : evB (lf + 100) 20 4 [.int .i64 kind, .int .i64 other, .int .i64 off, aW ws.length cap] ⟨18, oW ys e :: objs0 E u3 u4⟩ = _ := fbf6 (lf + 100) kind off other (objs0 E u3 u4) ys e ws.length cap (wv ws 0) (wv ws 1) (wv ws 2) (wv ws 3) (wv ws 4) (wv ws 5) _ (decV other) hk ho hkn hh hb (knd6 lf E u3 u4 kind off (oW ys e) (wv ws 0) (wv ws 1) (wv ws 2) (wv ws 3) (wv ws 4) (wv ws 5)) (off6 lf E u3 u4 kind off (oW ys e) (wv ws 0) (wv ws 1) (wv ws 2) (wv ws 3) (wv ws 4) (wv ws 5)) h13 h18 hE (nts6 lf kind off (objs0 E u3 u4) (oW ys e) (wv ws 0) (wv ws 1) (wv ws 2) (wv ws 3) (wv ws 4) (wv ws 5)) (eq6 lf kind off (objs0 E u3 u4) (oW ys e) (wv ws 0) (wv ws 1) (wv ws 2) (wv ws 3) (wv ws 4) (wv ws 5)) (isT6 lf kind off (objs0 E u3 u4) (oW ys e) (wv ws 0) (wv ws 1) (wv ws 2) (wv ws 3) (wv ws 4) (wv ws 5)) (isF6 lf kind off other ho (objs0 E u3 u4) (oW ys e) (wv ws 0) (wv ws 1) (wv ws 2) (wv ws 3) (wv ws 4) (wv ws 5)) hS (fun H => bNum htr) (decV_size htr)
      rw [hg]
      rfl
theorem rb7 (lf : Nat) (E : Nat → TypeId) (u3 u4 : TypeId) (kind off other : Int) (hkr : I64 kind) (hor : I64 off) (htr : I64 other) (ys : List Value) (e cap : Nat) (ws : List ByteArray) (hys : WsOk ws ys) (hl : ws.length ≤ 20) (hz : ∀ w ∈ ws, w.size < lf + 100 ∧ w.size ≤ 9223372036854775807) (hc : ws.length = 7) (hh : evB (lf + 100) 19 8 [aW ws.length cap] (⟨18, oW ys e :: objs0 E u3 u4⟩ : Heap) = some (.bool false, (⟨18, oW ys e :: objs0 E u3 u4⟩ : Heap), [])) : (evB (lf + 100) 20 4 [.int .i64 kind, .int .i64 other, .int .i64 off, aW ws.length cap] ⟨18, oW ys e :: objs0 E u3 u4⟩).map (·.1) = some (.bool true) := by
  have hkn : evB (lf + 100) 19 7 [] ⟨18, oW ys e :: objs0 E u3 u4⟩ = some (.bool true, ⟨18, oW ys e :: objs0 E u3 u4⟩, []) := by
    have := bKnown (lf := lf + 100) (m := 18) E u3 u4 (oW ys e)
    rwa [h0_is] at this
  by_cases hk : kind = 0
  · have hb := bdz7 lf kind off (objs0 E u3 u4) ys e cap ws hys hl hz hc hk
    have hg : evB (lf + 100) 20 4 [.int .i64 kind, .int .i64 other, .int .i64 off, aW ws.length cap] ⟨18, oW ys e :: objs0 E u3 u4⟩ = _ := fbz7 (lf + 100) kind off other (objs0 E u3 u4) ys e ws.length cap (wv ws 0) (wv ws 1) (wv ws 2) (wv ws 3) (wv ws 4) (wv ws 5) (wv ws 6) hk hkn hh hb
    rw [hg]
    rfl
  · have hb := bd7 lf kind off (objs0 E u3 u4) ys e cap ws hys hl hz hc hk
    have ht : ∀ m n, I64 n → evB (lf + 100) (m + 1) 34 [.int .i64 n] (kpH7 kind off (objs0 E u3 u4) (oW ys e) (wv ws 0) (wv ws 1) (wv ws 2) (wv ws 3) (wv ws 4) (wv ws 5) (wv ws 6)) = some (.string (decV n), (kpH7 kind off (objs0 E u3 u4) (oW ys e) (wv ws 0) (wv ws 1) (wv ws 2) (wv ws 3) (wv ws 4) (wv ws 5) (wv ws 6)), []) := fun m n h => bDec h ⟨E 2, by kernel_rfl⟩
    have ht2 : ∀ m n, I64 n → evB (lf + 100) (m + 1) 34 [.int .i64 n] (kpN7 kind off (objs0 E u3 u4) (oW ys e) (wv ws 0) (wv ws 1) (wv ws 2) (wv ws 3) (wv ws 4) (wv ws 5) (wv ws 6)) = some (.string (decV n), (kpN7 kind off (objs0 E u3 u4) (oW ys e) (wv ws 0) (wv ws 1) (wv ws 2) (wv ws 3) (wv ws 4) (wv ws 5) (wv ws 6)), []) := fun m n h => bDec h ⟨E 2, by kernel_rfl⟩
    have h18 := rl7 lf kind off (objs0 E u3 u4) (oW ys e) (wv ws 0) (wv ws 1) (wv ws 2) (wv ws 3) (wv ws 4) (wv ws 5) (wv ws 6) (decV kind) (decV off) (decV_size hkr) (decV_size hor) (word_size _) (word_size _) (word_size _) (word_size _) (word_size _) (word_size _) (word_size _) (fun m H => bNum hkr) (fun m H => bNum hor)
    rw [rl_is7] at h18
    have h13 := ln7 lf kind off (objs0 E u3 u4) (oW ys e) (wv ws 0) (wv ws 1) (wv ws 2) (wv ws 3) (wv ws 4) (wv ws 5) (wv ws 6) (decV kind) (decV off) (decV_size hkr) (decV_size hor) (word_size _) (word_size _) (word_size _) (word_size _) (word_size _) (word_size _) (word_size _) (fun m => ht m kind hkr) (fun m => ht m off hor)
    have hE := err7 lf kind off (objs0 E u3 u4) (oW ys e) (wv ws 0) (wv ws 1) (wv ws 2) (wv ws 3) (wv ws 4) (wv ws 5) (wv ws 6) (decV kind) (decV off) (decV_size hkr) (decV_size hor) (word_size _) (word_size _) (word_size _) (word_size _) (word_size _) (word_size _) (word_size _) (fun m => ht m kind hkr) (fun m => ht m off hor)
    have hS := srt7 (lf + 100) kind off other (objs0 E u3 u4) (oW ys e) (wv ws 0) (wv ws 1) (wv ws 2) (wv ws 3) (wv ws 4) (wv ws 5) (wv ws 6) (decV other) (decV_size htr) (fun m => ht2 m other htr)
    by_cases ho : other = kind
    · have hi := isT7 lf kind off (objs0 E u3 u4) (oW ys e) (wv ws 0) (wv ws 1) (wv ws 2) (wv ws 3) (wv ws 4) (wv ws 5) (wv ws 6)
      have hg : evB (lf + 100) 20 4 [.int .i64 kind, .int .i64 other, .int .i64 off, aW ws.length cap] ⟨18, oW ys e :: objs0 E u3 u4⟩ = _ := fbt7 (lf + 100) kind off other (objs0 E u3 u4) ys e ws.length cap (wv ws 0) (wv ws 1) (wv ws 2) (wv ws 3) (wv ws 4) (wv ws 5) (wv ws 6) _ (decV other) hk ho hkn hh hb (knd7 lf E u3 u4 kind off (oW ys e) (wv ws 0) (wv ws 1) (wv ws 2) (wv ws 3) (wv ws 4) (wv ws 5) (wv ws 6)) (off7 lf E u3 u4 kind off (oW ys e) (wv ws 0) (wv ws 1) (wv ws 2) (wv ws 3) (wv ws 4) (wv ws 5) (wv ws 6)) h13 h18 hE (nts7 lf kind off (objs0 E u3 u4) (oW ys e) (wv ws 0) (wv ws 1) (wv ws 2) (wv ws 3) (wv ws 4) (wv ws 5) (wv ws 6)) (eq7 lf kind off (objs0 E u3 u4) (oW ys e) (wv ws 0) (wv ws 1) (wv ws 2) (wv ws 3) (wv ws 4) (wv ws 5) (wv ws 6)) hi (by rw [ho]; exact hi) hS (fun H => bNum htr) (decV_size htr)
      rw [hg]
      rfl
    · have hg : evB (lf + 100) 20 4 [.int .i64 kind, .int .i64 other, .int .i64 off, aW ws.length cap] ⟨18, oW ys e :: objs0 E u3 u4⟩ = _ := fbf7 (lf + 100) kind off other (objs0 E u3 u4) ys e ws.length cap (wv ws 0) (wv ws 1) (wv ws 2) (wv ws 3) (wv ws 4) (wv ws 5) (wv ws 6) _ (decV other) hk ho hkn hh hb (knd7 lf E u3 u4 kind off (oW ys e) (wv ws 0) (wv ws 1) (wv ws 2) (wv ws 3) (wv ws 4) (wv ws 5) (wv ws 6)) (off7 lf E u3 u4 kind off (oW ys e) (wv ws 0) (wv ws 1) (wv ws 2) (wv ws 3) (wv ws 4) (wv ws 5) (wv ws 6)) h13 h18 hE (nts7 lf kind off (objs0 E u3 u4) (oW ys e) (wv ws 0) (wv ws 1) (wv ws 2) (wv ws 3) (wv ws 4) (wv ws 5) (wv ws 6)) (eq7 lf kind off (objs0 E u3 u4) (oW ys e) (wv ws 0) (wv ws 1) (wv ws 2) (wv ws 3) (wv ws 4) (wv ws 5) (wv ws 6)) (isT7 lf kind off (objs0 E u3 u4) (oW ys e) (wv ws 0) (wv ws 1) (wv ws 2) (wv ws 3) (wv ws 4) (wv ws 5) (wv ws 6)) (isF7 lf kind off other ho (objs0 E u3 u4) (oW ys e) (wv ws 0) (wv ws 1) (wv ws 2) (wv ws 3) (wv ws 4) (wv ws 5) (wv ws 6)) hS (fun H => bNum htr) (decV_size htr)
      rw [hg]
      rfl
theorem rb8 (lf : Nat) (E : Nat → TypeId) (u3 u4 : TypeId) (kind off other : Int) (hkr : I64 kind) (hor : I64 off) (htr : I64 other) (ys : List Value) (e cap : Nat) (ws : List ByteArray) (hys : WsOk ws ys) (hl : ws.length ≤ 20) (hz : ∀ w ∈ ws, w.size < lf + 100 ∧ w.size ≤ 9223372036854775807) (hc : 8 ≤ ws.length) (hh : evB (lf + 100) 19 8 [aW ws.length cap] (⟨18, oW ys e :: objs0 E u3 u4⟩ : Heap) = some (.bool false, (⟨18, oW ys e :: objs0 E u3 u4⟩ : Heap), [])) : (evB (lf + 100) 20 4 [.int .i64 kind, .int .i64 other, .int .i64 off, aW ws.length cap] ⟨18, oW ys e :: objs0 E u3 u4⟩).map (·.1) = some (.bool true) := by
  have hkn : evB (lf + 100) 19 7 [] ⟨18, oW ys e :: objs0 E u3 u4⟩ = some (.bool true, ⟨18, oW ys e :: objs0 E u3 u4⟩, []) := by
    have := bKnown (lf := lf + 100) (m := 18) E u3 u4 (oW ys e)
    rwa [h0_is] at this
  by_cases hk : kind = 0
  · have hb := bdz8 lf kind off (objs0 E u3 u4) ys e cap ws hys hl hz hc hk
    have hg : evB (lf + 100) 20 4 [.int .i64 kind, .int .i64 other, .int .i64 off, aW ws.length cap] ⟨18, oW ys e :: objs0 E u3 u4⟩ = _ := fbz8 (lf + 100) kind off other (objs0 E u3 u4) ys e ws.length cap (wv ws 0) (wv ws 1) (wv ws 2) (wv ws 3) (wv ws 4) (wv ws 5) (wv ws 6) (wv ws 7) hk hkn hh hb
    rw [hg]
    rfl
  · have hb := bd8 lf kind off (objs0 E u3 u4) ys e cap ws hys hl hz hc hk
    have ht : ∀ m n, I64 n → evB (lf + 100) (m + 1) 34 [.int .i64 n] (kpH8 kind off (objs0 E u3 u4) (oW ys e) (wv ws 0) (wv ws 1) (wv ws 2) (wv ws 3) (wv ws 4) (wv ws 5) (wv ws 6) (wv ws 7)) = some (.string (decV n), (kpH8 kind off (objs0 E u3 u4) (oW ys e) (wv ws 0) (wv ws 1) (wv ws 2) (wv ws 3) (wv ws 4) (wv ws 5) (wv ws 6) (wv ws 7)), []) := fun m n h => bDec h ⟨E 2, by kernel_rfl⟩
    have ht2 : ∀ m n, I64 n → evB (lf + 100) (m + 1) 34 [.int .i64 n] (kpN8 kind off (objs0 E u3 u4) (oW ys e) (wv ws 0) (wv ws 1) (wv ws 2) (wv ws 3) (wv ws 4) (wv ws 5) (wv ws 6) (wv ws 7)) = some (.string (decV n), (kpN8 kind off (objs0 E u3 u4) (oW ys e) (wv ws 0) (wv ws 1) (wv ws 2) (wv ws 3) (wv ws 4) (wv ws 5) (wv ws 6) (wv ws 7)), []) := fun m n h => bDec h ⟨E 2, by kernel_rfl⟩
    have h18 := rl8 lf kind off (objs0 E u3 u4) (oW ys e) (wv ws 0) (wv ws 1) (wv ws 2) (wv ws 3) (wv ws 4) (wv ws 5) (wv ws 6) (wv ws 7) (decV kind) (decV off) (decV_size hkr) (decV_size hor) (word_size _) (word_size _) (word_size _) (word_size _) (word_size _) (word_size _) (word_size _) (word_size _) (fun m H => bNum hkr) (fun m H => bNum hor)
    rw [rl_is8] at h18
    have h13 := ln8 lf kind off (objs0 E u3 u4) (oW ys e) (wv ws 0) (wv ws 1) (wv ws 2) (wv ws 3) (wv ws 4) (wv ws 5) (wv ws 6) (wv ws 7) (decV kind) (decV off) (decV_size hkr) (decV_size hor) (word_size _) (word_size _) (word_size _) (word_size _) (word_size _) (word_size _) (word_size _) (word_size _) (fun m => ht m kind hkr) (fun m => ht m off hor)
    have hE := err8 lf kind off (objs0 E u3 u4) (oW ys e) (wv ws 0) (wv ws 1) (wv ws 2) (wv ws 3) (wv ws 4) (wv ws 5) (wv ws 6) (wv ws 7) (decV kind) (decV off) (decV_size hkr) (decV_size hor) (word_size _) (word_size _) (word_size _) (word_size _) (word_size _) (word_size _) (word_size _) (word_size _) (fun m => ht m kind hkr) (fun m => ht m off hor)
    have hS := srt8 (lf + 100) kind off other (objs0 E u3 u4) (oW ys e) (wv ws 0) (wv ws 1) (wv ws 2) (wv ws 3) (wv ws 4) (wv ws 5) (wv ws 6) (wv ws 7) (decV other) (decV_size htr) (fun m => ht2 m other htr)
    by_cases ho : other = kind
    · have hi := isT8 lf kind off (objs0 E u3 u4) (oW ys e) (wv ws 0) (wv ws 1) (wv ws 2) (wv ws 3) (wv ws 4) (wv ws 5) (wv ws 6) (wv ws 7)
      have hg : evB (lf + 100) 20 4 [.int .i64 kind, .int .i64 other, .int .i64 off, aW ws.length cap] ⟨18, oW ys e :: objs0 E u3 u4⟩ = _ := fbt8 (lf + 100) kind off other (objs0 E u3 u4) ys e ws.length cap (wv ws 0) (wv ws 1) (wv ws 2) (wv ws 3) (wv ws 4) (wv ws 5) (wv ws 6) (wv ws 7) _ (decV other) hk ho hkn hh hb (knd8 lf E u3 u4 kind off (oW ys e) (wv ws 0) (wv ws 1) (wv ws 2) (wv ws 3) (wv ws 4) (wv ws 5) (wv ws 6) (wv ws 7)) (off8 lf E u3 u4 kind off (oW ys e) (wv ws 0) (wv ws 1) (wv ws 2) (wv ws 3) (wv ws 4) (wv ws 5) (wv ws 6) (wv ws 7)) h13 h18 hE (nts8 lf kind off (objs0 E u3 u4) (oW ys e) (wv ws 0) (wv ws 1) (wv ws 2) (wv ws 3) (wv ws 4) (wv ws 5) (wv ws 6) (wv ws 7)) (eq8 lf kind off (objs0 E u3 u4) (oW ys e) (wv ws 0) (wv ws 1) (wv ws 2) (wv ws 3) (wv ws 4) (wv ws 5) (wv ws 6) (wv ws 7)) hi (by rw [ho]; exact hi) hS (fun H => bNum htr) (decV_size htr)
      rw [hg]
      rfl
    · have hg : evB (lf + 100) 20 4 [.int .i64 kind, .int .i64 other, .int .i64 off, aW ws.length cap] ⟨18, oW ys e :: objs0 E u3 u4⟩ = _ := fbf8 (lf + 100) kind off other (objs0 E u3 u4) ys e ws.length cap (wv ws 0) (wv ws 1) (wv ws 2) (wv ws 3) (wv ws 4) (wv ws 5) (wv ws 6) (wv ws 7) _ (decV other) hk ho hkn hh hb (knd8 lf E u3 u4 kind off (oW ys e) (wv ws 0) (wv ws 1) (wv ws 2) (wv ws 3) (wv ws 4) (wv ws 5) (wv ws 6) (wv ws 7)) (off8 lf E u3 u4 kind off (oW ys e) (wv ws 0) (wv ws 1) (wv ws 2) (wv ws 3) (wv ws 4) (wv ws 5) (wv ws 6) (wv ws 7)) h13 h18 hE (nts8 lf kind off (objs0 E u3 u4) (oW ys e) (wv ws 0) (wv ws 1) (wv ws 2) (wv ws 3) (wv ws 4) (wv ws 5) (wv ws 6) (wv ws 7)) (eq8 lf kind off (objs0 E u3 u4) (oW ys e) (wv ws 0) (wv ws 1) (wv ws 2) (wv ws 3) (wv ws 4) (wv ws 5) (wv ws 6) (wv ws 7)) (isT8 lf kind off (objs0 E u3 u4) (oW ys e) (wv ws 0) (wv ws 1) (wv ws 2) (wv ws 3) (wv ws 4) (wv ws 5) (wv ws 6) (wv ws 7)) (isF8 lf kind off other ho (objs0 E u3 u4) (oW ys e) (wv ws 0) (wv ws 1) (wv ws 2) (wv ws 3) (wv ws 4) (wv ws 5) (wv ws 6) (wv ws 7)) hS (fun H => bNum htr) (decV_size htr)
      rw [hg]
      rfl
theorem rbn (lf : Nat) (E : Nat → TypeId) (u3 u4 : TypeId) (kind off other : Int) (hkr : I64 kind) (hor : I64 off) (htr : I64 other) (X : AObj) (hh : evB (lf + 100) 19 8 [.slice none 0 0] dH = some (.bool false, dH, [])) : (evB (lf + 100) 20 4 [.int .i64 kind, .int .i64 other, .int .i64 off, .slice none 0 0] ⟨18, X :: objs0 E u3 u4⟩).map (·.1) = some (.bool true) := by
  have hkn : evB (lf + 100) 19 7 [] ⟨18, X :: objs0 E u3 u4⟩ = some (.bool true, ⟨18, X :: objs0 E u3 u4⟩, []) := by
    have := bKnown (lf := lf + 100) (m := 18) E u3 u4 (X)
    rwa [h0_is] at this
  by_cases hk : kind = 0
  · have hb := bdzn lf kind off (objs0 E u3 u4) X hk
    have hg : evB (lf + 100) 20 4 [.int .i64 kind, .int .i64 other, .int .i64 off, .slice none 0 0] ⟨18, X :: objs0 E u3 u4⟩ = _ := fbzn (lf + 100) kind off other (objs0 E u3 u4) X  hk hkn hh hb
    rw [hg]
    rfl
  · have hb := bdn lf kind off (objs0 E u3 u4) X hk
    have ht : ∀ m n, I64 n → evB (lf + 100) (m + 1) 34 [.int .i64 n] (kpH0 kind off (objs0 E u3 u4) X) = some (.string (decV n), (kpH0 kind off (objs0 E u3 u4) X), []) := fun m n h => bDec h ⟨E 2, by kernel_rfl⟩
    have ht2 : ∀ m n, I64 n → evB (lf + 100) (m + 1) 34 [.int .i64 n] (kpH0 kind off (objs0 E u3 u4) X) = some (.string (decV n), (kpH0 kind off (objs0 E u3 u4) X), []) := fun m n h => bDec h ⟨E 2, by kernel_rfl⟩
    have h18 := rl0 lf kind off (objs0 E u3 u4) X  (decV kind) (decV off) (decV_size hkr) (decV_size hor)  (fun m H => bNum hkr) (fun m H => bNum hor)
    rw [rl_is0] at h18
    have h13 := ln0 lf kind off (objs0 E u3 u4) X  (decV kind) (decV off) (decV_size hkr) (decV_size hor)  (fun m => ht m kind hkr) (fun m => ht m off hor)
    have hE := err0 lf kind off (objs0 E u3 u4) X  (decV kind) (decV off) (decV_size hkr) (decV_size hor)  (fun m => ht m kind hkr) (fun m => ht m off hor)
    have hS := srt0 (lf + 100) kind off other (objs0 E u3 u4) X  (decV other) (decV_size htr) (fun m => ht2 m other htr)
    by_cases ho : other = kind
    · have hi := isT0 lf kind off (objs0 E u3 u4) X 
      have hg : evB (lf + 100) 20 4 [.int .i64 kind, .int .i64 other, .int .i64 off, .slice none 0 0] ⟨18, X :: objs0 E u3 u4⟩ = _ := fbtn (lf + 100) kind off other (objs0 E u3 u4) X  _ (decV other) hk ho hkn hh hb (knd0 lf E u3 u4 kind off X ) (off0 lf E u3 u4 kind off X ) h13 h18 hE (nts0 lf kind off (objs0 E u3 u4) X ) (eq0 lf) hi (by rw [ho]; exact hi) hS (fun H => bNum htr) (decV_size htr)
      rw [hg]
      rfl
    · have hg : evB (lf + 100) 20 4 [.int .i64 kind, .int .i64 other, .int .i64 off, .slice none 0 0] ⟨18, X :: objs0 E u3 u4⟩ = _ := fbfn (lf + 100) kind off other (objs0 E u3 u4) X  _ (decV other) hk ho hkn hh hb (knd0 lf E u3 u4 kind off X ) (off0 lf E u3 u4 kind off X ) h13 h18 hE (nts0 lf kind off (objs0 E u3 u4) X ) (eq0 lf) (isT0 lf kind off (objs0 E u3 u4) X ) (isF0 lf kind off other ho (objs0 E u3 u4) X ) hS (fun H => bNum htr) (decV_size htr)
      rw [hg]
      rfl
/-- With words, whatever they are. -/
theorem rowB (lf : Nat) (E : Nat → TypeId) (u3 u4 : TypeId) (kind off other : Int) (hkr : I64 kind) (hor : I64 off) (htr : I64 other) (ys : List Value) (e cap : Nat) (ws : List ByteArray) (hys : WsOk ws ys) (hl : ws.length ≤ 9223372036854775807) (hf : ws.length < lf + 100) (hz : ∀ w ∈ ws, w.size < lf + 100 ∧ w.size ≤ 9223372036854775807) :
    (evB (lf + 100) 20 4 [.int .i64 kind, .int .i64 other, .int .i64 off, aW ws.length cap] (H0 E u3 u4 [oW ys e])).map (·.1) = some (.bool true) := by
  rw [h0_is]
  obtain ⟨b, hh, h20⟩ := hvb.heavy_runB (lf + 100) (objs0 E u3 u4) ys e cap ws hys hl hf
  cases b with
  | true =>
    have hkn : evB (lf + 100) 19 7 [] ⟨18, oW ys e :: objs0 E u3 u4⟩ = some (.bool true, ⟨18, oW ys e :: objs0 E u3 u4⟩, []) := by
      have := bKnown (lf := lf + 100) (m := 18) E u3 u4 (oW ys e)
      rwa [h0_is] at this
    have hg : evB (lf + 100) 20 4 [.int .i64 kind, .int .i64 other, .int .i64 off, aW ws.length cap] ⟨18, oW ys e :: objs0 E u3 u4⟩ = _ := fbH (lf + 100) kind off other (objs0 E u3 u4) ys e ws.length cap hkn hh
    rw [hg]
    rfl
  | false =>
    have hl := h20 rfl
    rcases (show 8 ≤ ws.length ∨ ws.length < 8 by omega) with hc | hc
    · exact rb8 lf E u3 u4 kind off other hkr hor htr ys e cap ws hys hl hz hc hh
    · rcases (show ws.length = 0 ∨ ws.length = 1 ∨ ws.length = 2 ∨ ws.length = 3 ∨ ws.length = 4 ∨ ws.length = 5 ∨ ws.length = 6 ∨ ws.length = 7 by omega) with hc | hc | hc | hc | hc | hc | hc | hc
      · exact rb0 lf E u3 u4 kind off other hkr hor htr ys e cap ws hys hl hz hc hh
      · exact rb1 lf E u3 u4 kind off other hkr hor htr ys e cap ws hys hl hz hc hh
      · exact rb2 lf E u3 u4 kind off other hkr hor htr ys e cap ws hys hl hz hc hh
      · exact rb3 lf E u3 u4 kind off other hkr hor htr ys e cap ws hys hl hz hc hh
      · exact rb4 lf E u3 u4 kind off other hkr hor htr ys e cap ws hys hl hz hc hh
      · exact rb5 lf E u3 u4 kind off other hkr hor htr ys e cap ws hys hl hz hc hh
      · exact rb6 lf E u3 u4 kind off other hkr hor htr ys e cap ws hys hl hz hc hh
      · exact rb7 lf E u3 u4 kind off other hkr hor htr ys e cap ws hys hl hz hc hh
/-- Without words. -/
theorem rowBn (E : Nat → TypeId) (u3 u4 : TypeId) (kind off other : Int) (hkr : I64 kind) (hor : I64 off) (htr : I64 other) (X : AObj) : (evB (0 + 100) 20 4 [.int .i64 kind, .int .i64 other, .int .i64 off, .slice none 0 0] (H0 E u3 u4 [X])).map (·.1) = some (.bool true) := by
  rw [h0_is]
  exact rbn 0 E u3 u4 kind off other hkr hor htr X (by kernel_rfl)
end Go.Proofs.YtpgddboigegplaaGreatDoor.base
