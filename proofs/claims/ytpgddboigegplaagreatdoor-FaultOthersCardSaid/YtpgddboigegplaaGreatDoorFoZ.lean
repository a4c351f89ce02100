/- The row 'FaultOthers' comes to true, whatever it is given. -/
import Derived.Test.YtpgddboigegplaaGreatDoorRows
import Derived.Test.YtpgddboigegplaaGreatDoorFoRun
import Derived.Test.YtpgddboigegplaaGreatDoorFoNotes
import Derived.Test.YtpgddboigegplaaGreatDoorFoCalls
import Derived.Test.YtpgddboigegplaaGreatDoorFKnown
import Derived.Test.YtpgddboigegplaaGreatDoorFWo
namespace Go.Proofs.YtpgddboigegplaaGreatDoor.base
open Go.Dg (junk St Ex Ev Hint evCall evCallS evCode evLoop cleanSt bodied noOver Flats flatOver Heap AObj)
set_option linter.unusedVariables false

/-- The word that the note of word i has. -/
def wv (ws : List ByteArray) (i : Nat) : ByteArray := wordOf (ws.getD i ⟨#[]⟩)
theorem h0_is (E : Nat → TypeId) (u3 u4 : TypeId) (x : AObj) : H0 E u3 u4 [x] = ⟨18, x :: objs0 E u3 u4⟩ := by kernel_rfl
/-- The states at the loop's head. -/
def SO (x : ByteArray) (kind : Int) (r0 : List AObj) (ys : List Value) (e l cap : Nat) (ws : List ByteArray) : Nat → St
  | 0 => HO0 x kind r0 ys e l cap
  | 1 => HO1 x kind r0 ys e l cap 1 (ws.getD 0 ⟨#[]⟩) (wv ws 0)
  | 2 => HO2 x kind r0 ys e l cap 2 (ws.getD 1 ⟨#[]⟩) (wv ws 0) (wv ws 1)
  | 3 => HO3 x kind r0 ys e l cap 3 (ws.getD 2 ⟨#[]⟩) (wv ws 0) (wv ws 1) (wv ws 2)
  | 4 => HO4 x kind r0 ys e l cap 4 (ws.getD 3 ⟨#[]⟩) (wv ws 0) (wv ws 1) (wv ws 2) (wv ws 3)
  | 5 => HO5 x kind r0 ys e l cap 5 (ws.getD 4 ⟨#[]⟩) (wv ws 0) (wv ws 1) (wv ws 2) (wv ws 3) (wv ws 4)
  | 6 => HO6 x kind r0 ys e l cap 6 (ws.getD 5 ⟨#[]⟩) (wv ws 0) (wv ws 1) (wv ws 2) (wv ws 3) (wv ws 4) (wv ws 5)
  | 7 => HO7 x kind r0 ys e l cap 7 (ws.getD 6 ⟨#[]⟩) (wv ws 0) (wv ws 1) (wv ws 2) (wv ws 3) (wv ws 4) (wv ws 5) (wv ws 6)
  | 8 => HO8 x kind r0 ys e l cap 8 (ws.getD 7 ⟨#[]⟩) (wv ws 0) (wv ws 1) (wv ws 2) (wv ws 3) (wv ws 4) (wv ws 5) (wv ws 6) (wv ws 7)
  | i + 9 => HO8 x kind r0 ys e l cap ((i + 9 : Nat) : Int) (ws.getD (i + 8) ⟨#[]⟩) (wv ws 0) (wv ws 1) (wv ws 2) (wv ws 3) (wv ws 4) (wv ws 5) (wv ws 6) (wv ws 7)
theorem stepO (lf : Nat) (x : ByteArray) (kind : Int) (r0 : List AObj) (ys : List Value) (e cap : Nat) (ws : List ByteArray) (hys : WsOk ws ys) (hl : ws.length ≤ 20) (hz : ∀ w ∈ ws, w.size < lf + 100 ∧ w.size ≤ 9223372036854775807) (j : Nat) (hj : j < ws.length) : ∃ s', runO (lf + 100) (SO x kind r0 ys e ws.length cap ws j) = some (.normal, s') ∧ clO s' = SO x kind r0 ys e ws.length cap ws (j + 1) := by
  have hm : ws.getD j ⟨#[]⟩ ∈ ws := by rw [List.getD_eq_getElem?_getD, List.getElem?_eq_getElem hj]; exact List.getElem_mem hj
  obtain ⟨z1, z2⟩ := hz _ hm
  match j, hj, z1, z2 with
  | 0, hj, z1, z2 => exact foR0 (lf + 100) x kind r0 ys e ws.length cap (ws.getD 0 ⟨#[]⟩) (wv ws 0) (ws_get hys hj) hj hl (wr_19 (flatOver oMay) mayOk (lf + 100) 62 _ _ 0 (nt0 lf x (oW ys e) r0 ) (by decide) z1 z2)
  | 1, hj, z1, z2 => exact foR1 (lf + 100) x kind r0 ys e ws.length cap (ws.getD 0 ⟨#[]⟩) (wv ws 0) (ws.getD 1 ⟨#[]⟩) (wv ws 1) (ws_get hys hj) hj hl (wr_20 (flatOver oMay) mayOk (lf + 100) 67 _ _ 1 (nt1 lf x (oW ys e) r0 (wv ws 0)) (by decide) z1 z2)
  | 2, hj, z1, z2 => exact foR2 (lf + 100) x kind r0 ys e ws.length cap (ws.getD 1 ⟨#[]⟩) (wv ws 0) (wv ws 1) (ws.getD 2 ⟨#[]⟩) (wv ws 2) (ws_get hys hj) hj hl (wr_21 (flatOver oMay) mayOk (lf + 100) 67 _ _ 2 (nt2 lf x (oW ys e) r0 (wv ws 0) (wv ws 1)) (by decide) z1 z2)
  | 3, hj, z1, z2 => exact foR3 (lf + 100) x kind r0 ys e ws.length cap (ws.getD 2 ⟨#[]⟩) (wv ws 0) (wv ws 1) (wv ws 2) (ws.getD 3 ⟨#[]⟩) (wv ws 3) (ws_get hys hj) hj hl (wr_22 (flatOver oMay) mayOk (lf + 100) 67 _ _ 3 (nt3 lf x (oW ys e) r0 (wv ws 0) (wv ws 1) (wv ws 2)) (by decide) z1 z2)
  | 4, hj, z1, z2 => exact foR4 (lf + 100) x kind r0 ys e ws.length cap (ws.getD 3 ⟨#[]⟩) (wv ws 0) (wv ws 1) (wv ws 2) (wv ws 3) (ws.getD 4 ⟨#[]⟩) (wv ws 4) (ws_get hys hj) hj hl (wr_23 (flatOver oMay) mayOk (lf + 100) 67 _ _ 4 (nt4 lf x (oW ys e) r0 (wv ws 0) (wv ws 1) (wv ws 2) (wv ws 3)) (by decide) z1 z2)
  | 5, hj, z1, z2 => exact foR5 (lf + 100) x kind r0 ys e ws.length cap (ws.getD 4 ⟨#[]⟩) (wv ws 0) (wv ws 1) (wv ws 2) (wv ws 3) (wv ws 4) (ws.getD 5 ⟨#[]⟩) (wv ws 5) (ws_get hys hj) hj hl (wr_24 (flatOver oMay) mayOk (lf + 100) 67 _ _ 5 (nt5 lf x (oW ys e) r0 (wv ws 0) (wv ws 1) (wv ws 2) (wv ws 3) (wv ws 4)) (by decide) z1 z2)
  | 6, hj, z1, z2 => exact foR6 (lf + 100) x kind r0 ys e ws.length cap (ws.getD 5 ⟨#[]⟩) (wv ws 0) (wv ws 1) (wv ws 2) (wv ws 3) (wv ws 4) (wv ws 5) (ws.getD 6 ⟨#[]⟩) (wv ws 6) (ws_get hys hj) hj hl (wr_25 (flatOver oMay) mayOk (lf + 100) 67 _ _ 6 (nt6 lf x (oW ys e) r0 (wv ws 0) (wv ws 1) (wv ws 2) (wv ws 3) (wv ws 4) (wv ws 5)) (by decide) z1 z2)
  | 7, hj, z1, z2 => exact foR7 (lf + 100) x kind r0 ys e ws.length cap (ws.getD 6 ⟨#[]⟩) (wv ws 0) (wv ws 1) (wv ws 2) (wv ws 3) (wv ws 4) (wv ws 5) (wv ws 6) (ws.getD 7 ⟨#[]⟩) (wv ws 7) (ws_get hys hj) hj hl (wr_26 (flatOver oMay) mayOk (lf + 100) 67 _ _ 7 (nt7 lf x (oW ys e) r0 (wv ws 0) (wv ws 1) (wv ws 2) (wv ws 3) (wv ws 4) (wv ws 5) (wv ws 6)) (by decide) z1 z2)
  | 8, hj, z1, z2 => exact foR8 (lf + 100) x kind r0 ys e ws.length cap 8 _ (wv ws 0) (wv ws 1) (wv ws 2) (wv ws 3) (wv ws 4) (wv ws 5) (wv ws 6) (wv ws 7) (ws.getD 8 ⟨#[]⟩) (ws_get hys hj) hj hl (wr8_27 (flatOver oMay) (lf + 100) 67 _ _ 8 (nt8 lf x (oW ys e) r0 (wv ws 0) (wv ws 1) (wv ws 2) (wv ws 3) (wv ws 4) (wv ws 5) (wv ws 6) (wv ws 7)) (by decide))
  | i + 9, hj, z1, z2 => exact foR8 (lf + 100) x kind r0 ys e ws.length cap (i + 9) _ (wv ws 0) (wv ws 1) (wv ws 2) (wv ws 3) (wv ws 4) (wv ws 5) (wv ws 6) (wv ws 7) (ws.getD (i + 9) ⟨#[]⟩) (ws_get hys hj) hj hl (wr8_27 (flatOver oMay) (lf + 100) 67 _ _ 8 (nt8 lf x (oW ys e) r0 (wv ws 0) (wv ws 1) (wv ws 2) (wv ws 3) (wv ws 4) (wv ws 5) (wv ws 6) (wv ws 7)) (by decide))
theorem loopO0 (lf : Nat) (x : ByteArray) (kind : Int) (r0 : List AObj) (ys : List Value) (e cap : Nat) (ws : List ByteArray) (hys : WsOk ws ys) (hl : ws.length ≤ 20) (hz : ∀ w ∈ ws, w.size < lf + 100 ∧ w.size ≤ 9223372036854775807) (hc : ws.length = 0) (s0 : St) (h0 : clO s0 = HO0 x kind r0 ys e ws.length cap) : evLoop (runO (lf + 100)) clO (lf + 100) s0 = some (.exit 0, EO0 x kind r0 ys e ws.length cap) := by
  refine Dg.loop_run (S := SO x kind r0 ys e ws.length cap ws) (n := ws.length) (by simp) (fun j hj => stepO lf x kind r0 ys e cap ws hys hl hz j hj) ?_ (by omega) h0
  have h := foC0 (lf + 100) x kind r0 ys e ws.length cap hc hl
  generalize ws.length = L at hc h ⊢
  subst hc
  exact h
theorem loopO1 (lf : Nat) (x : ByteArray) (kind : Int) (r0 : List AObj) (ys : List Value) (e cap : Nat) (ws : List ByteArray) (hys : WsOk ws ys) (hl : ws.length ≤ 20) (hz : ∀ w ∈ ws, w.size < lf + 100 ∧ w.size ≤ 9223372036854775807) (hc : ws.length = 1) (s0 : St) (h0 : clO s0 = HO0 x kind r0 ys e ws.length cap) : evLoop (runO (lf + 100)) clO (lf + 100) s0 = some (.exit 0, EO1 x kind r0 ys e ws.length cap (ws.length : Int) (ws.getD (ws.length - 1) ⟨#[]⟩) (wv ws 0)) := by
  refine Dg.loop_run (S := SO x kind r0 ys e ws.length cap ws) (n := ws.length) (by simp) (fun j hj => stepO lf x kind r0 ys e cap ws hys hl hz j hj) ?_ (by omega) h0
  have h := foC1 (lf + 100) x kind r0 ys e ws.length cap (ws.getD 0 ⟨#[]⟩) (wv ws 0) hc hl
  generalize ws.length = L at hc h ⊢
  subst hc
  exact h
theorem loopO2 (lf : Nat) (x : ByteArray) (kind : Int) (r0 : List AObj) (ys : List Value) (e cap : Nat) (ws : List ByteArray) (hys : WsOk ws ys) (hl : ws.length ≤ 20) (hz : ∀ w ∈ ws, w.size < lf + 100 ∧ w.size ≤ 9223372036854775807) (hc : ws.length = 2) (s0 : St) (h0 : clO s0 = HO0 x kind r0 ys e ws.length cap) : evLoop (runO (lf + 100)) clO (lf + 100) s0 = some (.exit 0, EO2 x kind r0 ys e ws.length cap (ws.length : Int) (ws.getD (ws.length - 1) ⟨#[]⟩) (wv ws 0) (wv ws 1)) := by
  refine Dg.loop_run (S := SO x kind r0 ys e ws.length cap ws) (n := ws.length) (by simp) (fun j hj => stepO lf x kind r0 ys e cap ws hys hl hz j hj) ?_ (by omega) h0
  have h := foC2 (lf + 100) x kind r0 ys e ws.length cap (ws.getD 1 ⟨#[]⟩) (wv ws 0) (wv ws 1) hc hl
  generalize ws.length = L at hc h ⊢
  subst hc
  exact h
theorem loopO3 (lf : Nat) (x : ByteArray) (kind : Int) (r0 : List AObj) (ys : List Value) (e cap : Nat) (ws : List ByteArray) (hys : WsOk ws ys) (hl : ws.length ≤ 20) (hz : ∀ w ∈ ws, w.size < lf + 100 ∧ w.size ≤ 9223372036854775807) (hc : ws.length = 3) (s0 : St) (h0 : clO s0 = HO0 x kind r0 ys e ws.length cap) : evLoop (runO (lf + 100)) clO (lf + 100) s0 = some (.exit 0, EO3 x kind r0 ys e ws.length cap (ws.length : Int) (ws.getD (ws.length - 1) ⟨#[]⟩) (wv ws 0) (wv ws 1) (wv ws 2)) := by
  refine Dg.loop_run (S := SO x kind r0 ys e ws.length cap ws) (n := ws.length) (by simp) (fun j hj => stepO lf x kind r0 ys e cap ws hys hl hz j hj) ?_ (by omega) h0
  have h := foC3 (lf + 100) x kind r0 ys e ws.length cap (ws.getD 2 ⟨#[]⟩) (wv ws 0) (wv ws 1) (wv ws 2) hc hl
  generalize ws.length = L at hc h ⊢
  subst hc
  exact h
theorem loopO4 (lf : Nat) (x : ByteArray) (kind : Int) (r0 : List AObj) (ys : List Value) (e cap : Nat) (ws : List ByteArray) (hys : WsOk ws ys) (hl : ws.length ≤ 20) (hz : ∀ w ∈ ws, w.size < lf + 100 ∧ w.size ≤ 9223372036854775807) (hc : ws.length = 4) (s0 : St) (h0 : clO s0 = HO0 x kind r0 ys e ws.length cap) : evLoop (runO (lf + 100)) clO (lf + 100) s0 = some (.exit 0, EO4 x kind r0 ys e ws.length cap (ws.length : Int) (ws.getD (ws.length - 1) ⟨#[]⟩) (wv ws 0) (wv ws 1) (wv ws 2) (wv ws 3)) := by
  refine Dg.loop_run (S := SO x kind r0 ys e ws.length cap ws) (n := ws.length) (by simp) (fun j hj => stepO lf x kind r0 ys e cap ws hys hl hz j hj) ?_ (by omega) h0
  have h := foC4 (lf + 100) x kind r0 ys e ws.length cap (ws.getD 3 ⟨#[]⟩) (wv ws 0) (wv ws 1) (wv ws 2) (wv ws 3) hc hl
  generalize ws.length = L at hc h ⊢
  subst hc
  exact h
theorem loopO5 (lf : Nat) (x : ByteArray) (kind : Int) (r0 : List AObj) (ys : List Value) (e cap : Nat) (ws : List ByteArray) (hys : WsOk ws ys) (hl : ws.length ≤ 20) (hz : ∀ w ∈ ws, w.size < lf + 100 ∧ w.size ≤ 9223372036854775807) (hc : ws.length = 5) (s0 : St) (h0 : clO s0 = HO0 x kind r0 ys e ws.length cap) : evLoop (runO (lf + 100)) clO (lf + 100) s0 = some (.exit 0, EO5 x kind r0 ys e ws.length cap (ws.length : Int) (ws.getD (ws.length - 1) ⟨#[]⟩) (wv ws 0) (wv ws 1) (wv ws 2) (wv ws 3) (wv ws 4)) := by
  refine Dg.loop_run (S := SO x kind r0 ys e ws.length cap ws) (n := ws.length) (by simp) (fun j hj => stepO lf x kind r0 ys e cap ws hys hl hz j hj) ?_ (by omega) h0
  have h := foC5 (lf + 100) x kind r0 ys e ws.length cap (ws.getD 4 ⟨#[]⟩) (wv ws 0) (wv ws 1) (wv ws 2) (wv ws 3) (wv ws 4) hc hl
  generalize ws.length = L at hc h ⊢
  subst hc
  exact h
theorem loopO6 (lf : Nat) (x : ByteArray) (kind : Int) (r0 : List AObj) (ys : List Value) (e cap : Nat) (ws : List ByteArray) (hys : WsOk ws ys) (hl : ws.length ≤ 20) (hz : ∀ w ∈ ws, w.size < lf + 100 ∧ w.size ≤ 9223372036854775807) (hc : ws.length = 6) (s0 : St) (h0 : clO s0 = HO0 x kind r0 ys e ws.length cap) : evLoop (runO (lf + 100)) clO (lf + 100) s0 = some (.exit 0, EO6 x kind r0 ys e ws.length cap (ws.length : Int) (ws.getD (ws.length - 1) ⟨#[]⟩) (wv ws 0) (wv ws 1) (wv ws 2) (wv ws 3) (wv ws 4) (wv ws 5)) := by
  refine Dg.loop_run (S := SO x kind r0 ys e ws.length cap ws) (n := ws.length) (by simp) (fun j hj => stepO lf x kind r0 ys e cap ws hys hl hz j hj) ?_ (by omega) h0
  have h := foC6 (lf + 100) x kind r0 ys e ws.length cap (ws.getD 5 ⟨#[]⟩) (wv ws 0) (wv ws 1) (wv ws 2) (wv ws 3) (wv ws 4) (wv ws 5) hc hl
  generalize ws.length = L at hc h ⊢
  subst hc
  exact h
theorem loopO7 (lf : Nat) (x : ByteArray) (kind : Int) (r0 : List AObj) (ys : List Value) (e cap : Nat) (ws : List ByteArray) (hys : WsOk ws ys) (hl : ws.length ≤ 20) (hz : ∀ w ∈ ws, w.size < lf + 100 ∧ w.size ≤ 9223372036854775807) (hc : ws.length = 7) (s0 : St) (h0 : clO s0 = HO0 x kind r0 ys e ws.length cap) : evLoop (runO (lf + 100)) clO (lf + 100) s0 = some (.exit 0, EO7 x kind r0 ys e ws.length cap (ws.length : Int) (ws.getD (ws.length - 1) ⟨#[]⟩) (wv ws 0) (wv ws 1) (wv ws 2) (wv ws 3) (wv ws 4) (wv ws 5) (wv ws 6)) := by
  refine Dg.loop_run (S := SO x kind r0 ys e ws.length cap ws) (n := ws.length) (by simp) (fun j hj => stepO lf x kind r0 ys e cap ws hys hl hz j hj) ?_ (by omega) h0
  have h := foC7 (lf + 100) x kind r0 ys e ws.length cap (ws.getD 6 ⟨#[]⟩) (wv ws 0) (wv ws 1) (wv ws 2) (wv ws 3) (wv ws 4) (wv ws 5) (wv ws 6) hc hl
  generalize ws.length = L at hc h ⊢
  subst hc
  exact h
theorem loopO8 (lf : Nat) (x : ByteArray) (kind : Int) (r0 : List AObj) (ys : List Value) (e cap : Nat) (ws : List ByteArray) (hys : WsOk ws ys) (hl : ws.length ≤ 20) (hz : ∀ w ∈ ws, w.size < lf + 100 ∧ w.size ≤ 9223372036854775807) (hc : 8 ≤ ws.length) (s0 : St) (h0 : clO s0 = HO0 x kind r0 ys e ws.length cap) : evLoop (runO (lf + 100)) clO (lf + 100) s0 = some (.exit 0, EO8 x kind r0 ys e ws.length cap (ws.length : Int) (ws.getD (ws.length - 1) ⟨#[]⟩) (wv ws 0) (wv ws 1) (wv ws 2) (wv ws 3) (wv ws 4) (wv ws 5) (wv ws 6) (wv ws 7)) := by
  refine Dg.loop_run (S := SO x kind r0 ys e ws.length cap ws) (n := ws.length) (by simp) (fun j hj => stepO lf x kind r0 ys e cap ws hys hl hz j hj) ?_ (by omega) h0
  have key : ∀ L l', 8 ≤ L → SO x kind r0 ys e l' cap ws L = HO8 x kind r0 ys e l' cap (L : Int) (ws.getD (L - 1) ⟨#[]⟩) (wv ws 0) (wv ws 1) (wv ws 2) (wv ws 3) (wv ws 4) (wv ws 5) (wv ws 6) (wv ws 7) := by
    intro L l' hL
    match L, hL with
    | 8, _ => rfl
    | L + 9, _ => rfl
  rw [key _ _ hc]
  exact foC8 (lf + 100) x kind r0 ys e ws.length cap _ (wv ws 0) (wv ws 1) (wv ws 2) (wv ws 3) (wv ws 4) (wv ws 5) (wv ws 6) (wv ws 7) ws.length rfl hl
/-- With words, whatever they are. -/
theorem rowO (lf : Nat) (E : Nat → TypeId) (u3 u4 : TypeId) (x : ByteArray) (kind : Int) (ys : List Value) (e cap : Nat) (ws : List ByteArray) (hys : WsOk ws ys) (hl : ws.length ≤ 9223372036854775807) (hf : ws.length < lf + 100) (hz : ∀ w ∈ ws, w.size < lf + 100 ∧ w.size ≤ 9223372036854775807) :
    (evCall Tryz.prog 15 (bodied Tryz.prog) ovY sbs (lf + 100) 20 3 [.string x, aW ws.length cap, .int .i64 kind] (H0 E u3 u4 [oW ys e])).map (·.1) = some (.bool true) := by
  obtain ⟨b, hh, h20⟩ := heavy_run (lf + 100) (objs0 E u3 u4) ys e cap ws hys hl hf
  have hk := known1 lf E u3 u4 (oW ys e)
  rw [h0_is] at hk ⊢
  cases b with
  | true =>
    rw [foH (lf + 100) x kind (objs0 E u3 u4) ys e ws.length cap hk hh]
    rfl
  | false =>
    have hl := h20 rfl
    by_cases hx : x.size ≤ 1000
    · rcases (show 8 ≤ ws.length ∨ ws.length < 8 by omega) with hc | hc
      · (rw [foW8 (lf + 100) x kind (objs0 E u3 u4) ys e ws.length cap (ws.getD (ws.length - 1) ⟨#[]⟩) (wv ws 0) (wv ws 1) (wv ws 2) (wv ws 3) (wv ws 4) (wv ws 5) (wv ws 6) (wv ws 7) hk hh hx (loopO8 lf x kind (objs0 E u3 u4) ys e cap ws hys hl hz hc) hc (knd8 lf E u3 u4 x _ (wv ws 0) (wv ws 1) (wv ws 2) (wv ws 3) (wv ws 4) (wv ws 5) (wv ws 6) (wv ws 7)) (off8 lf E u3 u4 x _ (wv ws 0) (wv ws 1) (wv ws 2) (wv ws 3) (wv ws 4) (wv ws 5) (wv ws 6) (wv ws 7)) (lin8 lf E u3 u4 x _ (wv ws 0) (wv ws 1) (wv ws 2) (wv ws 3) (wv ws 4) (wv ws 5) (wv ws 6) (wv ws 7)) (is8 lf E u3 u4 x _ (wv ws 0) (wv ws 1) (wv ws 2) (wv ws 3) (wv ws 4) (wv ws 5) (wv ws 6) (wv ws 7)) (fis8 lf E u3 u4 x _ (wv ws 0) (wv ws 1) (wv ws 2) (wv ws 3) (wv ws 4) (wv ws 5) (wv ws 6) (wv ws 7) kind) (nts8 lf E u3 u4 x _ (wv ws 0) (wv ws 1) (wv ws 2) (wv ws 3) (wv ws 4) (wv ws 5) (wv ws 6) (wv ws 7))]; rfl)
      · rcases (show ws.length = 0 ∨ ws.length = 1 ∨ ws.length = 2 ∨ ws.length = 3 ∨ ws.length = 4 ∨ ws.length = 5 ∨ ws.length = 6 ∨ ws.length = 7 by omega) with hc | hc | hc | hc | hc | hc | hc | hc
        · (rw [foW0 (lf + 100) x kind (objs0 E u3 u4) ys e ws.length cap hk hh hx (loopO0 lf x kind (objs0 E u3 u4) ys e cap ws hys hl hz hc) hc (knd0 lf E u3 u4 x _ ) (off0 lf E u3 u4 x _ ) (lin0 lf E u3 u4 x _ ) (is0 lf E u3 u4 x _ ) (fis0 lf E u3 u4 x _  kind) (nts0 lf E u3 u4 x _ )]; rfl)
        · (rw [foW1 (lf + 100) x kind (objs0 E u3 u4) ys e ws.length cap (ws.getD (ws.length - 1) ⟨#[]⟩) (wv ws 0) hk hh hx (loopO1 lf x kind (objs0 E u3 u4) ys e cap ws hys hl hz hc) hc (knd1 lf E u3 u4 x _ (wv ws 0)) (off1 lf E u3 u4 x _ (wv ws 0)) (lin1 lf E u3 u4 x _ (wv ws 0)) (is1 lf E u3 u4 x _ (wv ws 0)) (fis1 lf E u3 u4 x _ (wv ws 0) kind) (nts1 lf E u3 u4 x _ (wv ws 0))]; rfl)
        · (rw [foW2 (lf + 100) x kind (objs0 E u3 u4) ys e ws.length cap (ws.getD (ws.length - 1) ⟨#[]⟩) (wv ws 0) (wv ws 1) hk hh hx (loopO2 lf x kind (objs0 E u3 u4) ys e cap ws hys hl hz hc) hc (knd2 lf E u3 u4 x _ (wv ws 0) (wv ws 1)) (off2 lf E u3 u4 x _ (wv ws 0) (wv ws 1)) (lin2 lf E u3 u4 x _ (wv ws 0) (wv ws 1)) (is2 lf E u3 u4 x _ (wv ws 0) (wv ws 1)) (fis2 lf E u3 u4 x _ (wv ws 0) (wv ws 1) kind) (nts2 lf E u3 u4 x _ (wv ws 0) (wv ws 1))]; rfl)
        · (rw [foW3 (lf + 100) x kind (objs0 E u3 u4) ys e ws.length cap (ws.getD (ws.length - 1) ⟨#[]⟩) (wv ws 0) (wv ws 1) (wv ws 2) hk hh hx (loopO3 lf x kind (objs0 E u3 u4) ys e cap ws hys hl hz hc) hc (knd3 lf E u3 u4 x _ (wv ws 0) (wv ws 1) (wv ws 2)) (off3 lf E u3 u4 x _ (wv ws 0) (wv ws 1) (wv ws 2)) (lin3 lf E u3 u4 x _ (wv ws 0) (wv ws 1) (wv ws 2)) (is3 lf E u3 u4 x _ (wv ws 0) (wv ws 1) (wv ws 2)) (fis3 lf E u3 u4 x _ (wv ws 0) (wv ws 1) (wv ws 2) kind) (nts3 lf E u3 u4 x _ (wv ws 0) (wv ws 1) (wv ws 2))]; rfl)
        · (rw [foW4 (lf + 100) x kind (objs0 E u3 u4) ys e ws.length cap (ws.getD (ws.length - 1) ⟨#[]⟩) (wv ws 0) (wv ws 1) (wv ws 2) (wv ws 3) hk hh hx (loopO4 lf x kind (objs0 E u3 u4) ys e cap ws hys hl hz hc) hc (knd4 lf E u3 u4 x _ (wv ws 0) (wv ws 1) (wv ws 2) (wv ws 3)) (off4 lf E u3 u4 x _ (wv ws 0) (wv ws 1) (wv ws 2) (wv ws 3)) (lin4 lf E u3 u4 x _ (wv ws 0) (wv ws 1) (wv ws 2) (wv ws 3)) (is4 lf E u3 u4 x _ (wv ws 0) (wv ws 1) (wv ws 2) (wv ws 3)) (fis4 lf E u3 u4 x _ (wv ws 0) (wv ws 1) (wv ws 2) (wv ws 3) kind) (nts4 lf E u3 u4 x _ (wv ws 0) (wv ws 1) (wv ws 2) (wv ws 3))]; rfl)
        · (rw [foW5 (lf + 100) x kind (objs0 E u3 u4) ys e ws.length cap (ws.getD (ws.length - 1) ⟨#[]⟩) (wv ws 0) (wv ws 1) (wv ws 2) (wv ws 3) (wv ws 4) hk hh hx (loopO5 lf x kind (objs0 E u3 u4) ys e cap ws hys hl hz hc) hc (knd5 lf E u3 u4 x _ (wv ws 0) (wv ws 1) (wv ws 2) (wv ws 3) (wv ws 4)) (off5 lf E u3 u4 x _ (wv ws 0) (wv ws 1) (wv ws 2) (wv ws 3) (wv ws 4)) (lin5 lf E u3 u4 x _ (wv ws 0) (wv ws 1) (wv ws 2) (wv ws 3) (wv ws 4)) (is5 lf E u3 u4 x _ (wv ws 0) (wv ws 1) (wv ws 2) (wv ws 3) (wv ws 4)) (fis5 lf E u3 u4 x _ (wv ws 0) (wv ws 1) (wv ws 2) (wv ws 3) (wv ws 4) kind) (nts5 lf E u3 u4 x _ (wv ws 0) (wv ws 1) (wv ws 2) (wv ws 3) (wv ws 4))]; rfl)
        · (rw [foW6 (lf + 100) x kind (objs0 E u3 u4) ys e ws.length cap (ws.getD (ws.length - 1) ⟨#[]⟩) (wv ws 0) (wv ws 1) (wv ws 2) (wv ws 3) (wv ws 4) (wv ws 5) hk hh hx (loopO6 lf x kind (objs0 E u3 u4) ys e cap ws hys hl hz hc) hc (knd6 lf E u3 u4 x _ (wv ws 0) (wv ws 1) (wv ws 2) (wv ws 3) (wv ws 4) (wv ws 5)) (off6 lf E u3 u4 x _ (wv ws 0) (wv ws 1) (wv ws 2) (wv ws 3) (wv ws 4) (wv ws 5)) (lin6 lf E u3 u4 x _ (wv ws 0) (wv ws 1) (wv ws 2) (wv ws 3) (wv ws 4) (wv ws 5)) (is6 lf E u3 u4 x _ (wv ws 0) (wv ws 1) (wv ws 2) (wv ws 3) (wv ws 4) (wv ws 5)) (fis6 lf E u3 u4 x _ (wv ws 0) (wv ws 1) (wv ws 2) (wv ws 3) (wv ws 4) (wv ws 5) kind) (nts6 lf E u3 u4 x _ (wv ws 0) (wv ws 1) (wv ws 2) (wv ws 3) (wv ws 4) (wv ws 5))]; rfl)
        · (rw [foW7 (lf + 100) x kind (objs0 E u3 u4) ys e ws.length cap (ws.getD (ws.length - 1) ⟨#[]⟩) (wv ws 0) (wv ws 1) (wv ws 2) (wv ws 3) (wv ws 4) (wv ws 5) (wv ws 6) hk hh hx (loopO7 lf x kind (objs0 E u3 u4) ys e cap ws hys hl hz hc) hc (knd7 lf E u3 u4 x _ (wv ws 0) (wv ws 1) (wv ws 2) (wv ws 3) (wv ws 4) (wv ws 5) (wv ws 6)) (off7 lf E u3 u4 x _ (wv ws 0) (wv ws 1) (wv ws 2) (wv ws 3) (wv ws 4) (wv ws 5) (wv ws 6)) (lin7 lf E u3 u4 x _ (wv ws 0) (wv ws 1) (wv ws 2) (wv ws 3) (wv ws 4) (wv ws 5) (wv ws 6)) (is7 lf E u3 u4 x _ (wv ws 0) (wv ws 1) (wv ws 2) (wv ws 3) (wv ws 4) (wv ws 5) (wv ws 6)) (fis7 lf E u3 u4 x _ (wv ws 0) (wv ws 1) (wv ws 2) (wv ws 3) (wv ws 4) (wv ws 5) (wv ws 6) kind) (nts7 lf E u3 u4 x _ (wv ws 0) (wv ws 1) (wv ws 2) (wv ws 3) (wv ws 4) (wv ws 5) (wv ws 6))]; rfl)
    · (rw [foX (lf + 100) x kind (objs0 E u3 u4) ys e ws.length cap hk hh (by omega)]; rfl)
/-- Without words. -/
theorem rowOn (E : Nat → TypeId) (u3 u4 : TypeId) (x : ByteArray) (kind : Int) (X : AObj) :
    (evCall Tryz.prog 15 (bodied Tryz.prog) ovY sbs (0 + 100) 20 3 [.string x, .slice none 0 0, .int .i64 kind] (H0 E u3 u4 [X])).map (·.1) = some (.bool true) := by
  have hk := known1 0 E u3 u4 X
  rw [h0_is] at hk ⊢
  have hh : evCall Tryz.prog 15 (bodied Tryz.prog) ovY sbs (0 + 100) 19 8 [.slice none 0 0] (⟨15, [.dead, .dead, .dead, .dead, .dead, .dead, .dead, .dead, .dead, .dead, .dead, .dead, .dead, .dead, .dead]⟩ : Heap) = some (.bool false, (⟨15, [.dead, .dead, .dead, .dead, .dead, .dead, .dead, .dead, .dead, .dead, .dead, .dead, .dead, .dead, .dead]⟩ : Heap), []) := by kernel_rfl
  by_cases hx : x.size ≤ 1000
  · (rw [foWn (0 + 100) x kind (objs0 E u3 u4) X hk hh hx (fun s0 h0 => Dg.evLoop_stop h0 (foCn _ x kind _ X) (by simp)) (knd0 0 E u3 u4 x X) (off0 0 E u3 u4 x X) (lin0 0 E u3 u4 x X) (is0 0 E u3 u4 x X) (fis0 0 E u3 u4 x X kind) (nts0 0 E u3 u4 x X)]; rfl)
  · (rw [foXn (0 + 100) x kind (objs0 E u3 u4) X hk hh (by omega)]; rfl)
end Go.Proofs.YtpgddboigegplaaGreatDoor.base
