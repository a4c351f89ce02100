/- 'build' of chapter 06, whatever it is given. -/
import Derived.Test.YtpgddboigegplaaGreatDoorRows
import Derived.Test.YtpgddboigegplaaGreatDoorFbBuild
import Derived.Test.YtpgddboigegplaaGreatDoorFF
import Derived.Test.YtpgddboigegplaaGreatDoorFWb
namespace Go.Proofs.YtpgddboigegplaaGreatDoor.base
open Go.Dg (junk St Ex Ev Hint evCall evCallS evCode evLoop cleanSt bodied noOver Flats flatOver Heap AObj)
set_option linter.unusedVariables false

/-- The word that the note of word i has. -/
def wv (ws : List ByteArray) (i : Nat) : ByteArray := wordOf (ws.getD i ⟨#[]⟩)
/-- The states at the loop's head. -/
def SB (kind off : Int) (r0 : List AObj) (ys : List Value) (e l cap : Nat) (ws : List ByteArray) : Nat → St
  | 0 => HB0 kind off r0 ys e l cap
  | 1 => HB1 kind off r0 ys e l cap 1 0 (ws.getD 0 ⟨#[]⟩) (wv ws 0)
  | 2 => HB2 kind off r0 ys e l cap 2 1 (ws.getD 1 ⟨#[]⟩) (wv ws 0) (wv ws 1)
  | 3 => HB3 kind off r0 ys e l cap 3 2 (ws.getD 2 ⟨#[]⟩) (wv ws 0) (wv ws 1) (wv ws 2)
  | 4 => HB4 kind off r0 ys e l cap 4 3 (ws.getD 3 ⟨#[]⟩) (wv ws 0) (wv ws 1) (wv ws 2) (wv ws 3)
  | 5 => HB5 kind off r0 ys e l cap 5 4 (ws.getD 4 ⟨#[]⟩) (wv ws 0) (wv ws 1) (wv ws 2) (wv ws 3) (wv ws 4)
  | 6 => HB6 kind off r0 ys e l cap 6 5 (ws.getD 5 ⟨#[]⟩) (wv ws 0) (wv ws 1) (wv ws 2) (wv ws 3) (wv ws 4) (wv ws 5)
  | 7 => HB7 kind off r0 ys e l cap 7 6 (ws.getD 6 ⟨#[]⟩) (wv ws 0) (wv ws 1) (wv ws 2) (wv ws 3) (wv ws 4) (wv ws 5) (wv ws 6)
  | 8 => HB8 kind off r0 ys e l cap 8 7 (ws.getD 7 ⟨#[]⟩) (wv ws 0) (wv ws 1) (wv ws 2) (wv ws 3) (wv ws 4) (wv ws 5) (wv ws 6) (wv ws 7)
  | i + 9 => HB8 kind off r0 ys e l cap ((i + 9 : Nat) : Int) ((i + 8 : Nat) : Int) (ws.getD (i + 8) ⟨#[]⟩) (wv ws 0) (wv ws 1) (wv ws 2) (wv ws 3) (wv ws 4) (wv ws 5) (wv ws 6) (wv ws 7)
theorem stepB (lf : Nat) (kind off : Int) (r0 : List AObj) (ys : List Value) (e cap : Nat) (ws : List ByteArray) (hys : WsOk ws ys) (hl : ws.length ≤ 20) (hz : ∀ w ∈ ws, w.size < lf + 100 ∧ w.size ≤ 9223372036854775807) (j : Nat) (hj : j < ws.length) : ∃ s', runB (lf + 100) (SB kind off r0 ys e ws.length cap ws j) = some (.normal, s') ∧ clB s' = SB kind off r0 ys e ws.length cap ws (j + 1) := by
  have hm : ws.getD j ⟨#[]⟩ ∈ ws := by rw [List.getD_eq_getElem?_getD, List.getElem?_eq_getElem hj]; exact List.getElem_mem hj
  obtain ⟨z1, z2⟩ := hz _ hm
  match j, hj, z1, z2 with
  | 0, hj, z1, z2 => exact bR0 (lf + 100) kind off r0 ys e ws.length cap (ws.getD 0 ⟨#[]⟩) (wv ws 0) (ws_get hys hj) hj hl (wr_19 ovB0 mayB (lf + 100) 70 _ _ 0 (nt0 lf kind off r0 (oW ys e) ) (by decide) z1 z2) (fun H => bWord z2)
  | 1, hj, z1, z2 => exact bR1 (lf + 100) kind off r0 ys e ws.length cap (ws.getD 0 ⟨#[]⟩) (wv ws 0) (ws.getD 1 ⟨#[]⟩) (wv ws 1) (ws_get hys hj) hj hl (wr_21 ovB0 mayB (lf + 100) 67 _ _ 1 (nt1 lf kind off r0 (oW ys e) (wv ws 0)) (by decide) z1 z2) (fun H => bWord z2)
  | 2, hj, z1, z2 => exact bR2 (lf + 100) kind off r0 ys e ws.length cap (ws.getD 1 ⟨#[]⟩) (wv ws 0) (wv ws 1) (ws.getD 2 ⟨#[]⟩) (wv ws 2) (ws_get hys hj) hj hl (wr_22 ovB0 mayB (lf + 100) 67 _ _ 2 (nt2 lf kind off r0 (oW ys e) (wv ws 0) (wv ws 1)) (by decide) z1 z2) (fun H => bWord z2)
  | 3, hj, z1, z2 => exact bR3 (lf + 100) kind off r0 ys e ws.length cap (ws.getD 2 ⟨#[]⟩) (wv ws 0) (wv ws 1) (wv ws 2) (ws.getD 3 ⟨#[]⟩) (wv ws 3) (ws_get hys hj) hj hl (wr_23 ovB0 mayB (lf + 100) 67 _ _ 3 (nt3 lf kind off r0 (oW ys e) (wv ws 0) (wv ws 1) (wv ws 2)) (by decide) z1 z2) (fun H => bWord z2)
  | 4, hj, z1, z2 => exact bR4 (lf + 100) kind off r0 ys e ws.length cap (ws.getD 3 ⟨#[]⟩) (wv ws 0) (wv ws 1) (wv ws 2) (wv ws 3) (ws.getD 4 ⟨#[]⟩) (wv ws 4) (ws_get hys hj) hj hl (wr_24 ovB0 mayB (lf + 100) 67 _ _ 4 (nt4 lf kind off r0 (oW ys e) (wv ws 0) (wv ws 1) (wv ws 2) (wv ws 3)) (by decide) z1 z2) (fun H => bWord z2)
  | 5, hj, z1, z2 => exact bR5 (lf + 100) kind off r0 ys e ws.length cap (ws.getD 4 ⟨#[]⟩) (wv ws 0) (wv ws 1) (wv ws 2) (wv ws 3) (wv ws 4) (ws.getD 5 ⟨#[]⟩) (wv ws 5) (ws_get hys hj) hj hl (wr_25 ovB0 mayB (lf + 100) 67 _ _ 5 (nt5 lf kind off r0 (oW ys e) (wv ws 0) (wv ws 1) (wv ws 2) (wv ws 3) (wv ws 4)) (by decide) z1 z2) (fun H => bWord z2)
  | 6, hj, z1, z2 => exact bR6 (lf + 100) kind off r0 ys e ws.length cap (ws.getD 5 ⟨#[]⟩) (wv ws 0) (wv ws 1) (wv ws 2) (wv ws 3) (wv ws 4) (wv ws 5) (ws.getD 6 ⟨#[]⟩) (wv ws 6) (ws_get hys hj) hj hl (wr_26 ovB0 mayB (lf + 100) 67 _ _ 6 (nt6 lf kind off r0 (oW ys e) (wv ws 0) (wv ws 1) (wv ws 2) (wv ws 3) (wv ws 4) (wv ws 5)) (by decide) z1 z2) (fun H => bWord z2)
  | 7, hj, z1, z2 => exact bR7 (lf + 100) kind off r0 ys e ws.length cap (ws.getD 6 ⟨#[]⟩) (wv ws 0) (wv ws 1) (wv ws 2) (wv ws 3) (wv ws 4) (wv ws 5) (wv ws 6) (ws.getD 7 ⟨#[]⟩) (wv ws 7) (ws_get hys hj) hj hl (wr_27 ovB0 mayB (lf + 100) 67 _ _ 7 (nt7 lf kind off r0 (oW ys e) (wv ws 0) (wv ws 1) (wv ws 2) (wv ws 3) (wv ws 4) (wv ws 5) (wv ws 6)) (by decide) z1 z2) (fun H => bWord z2)
  | 8, hj, z1, z2 => exact bR8 (lf + 100) kind off r0 ys e ws.length cap 8 7 _ (wv ws 0) (wv ws 1) (wv ws 2) (wv ws 3) (wv ws 4) (wv ws 5) (wv ws 6) (wv ws 7) (ws.getD 8 ⟨#[]⟩) (ws_get hys hj) (by decide) hj hl (wr8_28 ovB0 (lf + 100) 67 _ _ 8 (nt8 lf kind off r0 (oW ys e) (wv ws 0) (wv ws 1) (wv ws 2) (wv ws 3) (wv ws 4) (wv ws 5) (wv ws 6) (wv ws 7)) (by decide))
  | i + 9, hj, z1, z2 => exact bR8 (lf + 100) kind off r0 ys e ws.length cap (i + 9) _ _ (wv ws 0) (wv ws 1) (wv ws 2) (wv ws 3) (wv ws 4) (wv ws 5) (wv ws 6) (wv ws 7) (ws.getD (i + 9) ⟨#[]⟩) (ws_get hys hj) (by omega) hj hl (wr8_28 ovB0 (lf + 100) 67 _ _ 8 (nt8 lf kind off r0 (oW ys e) (wv ws 0) (wv ws 1) (wv ws 2) (wv ws 3) (wv ws 4) (wv ws 5) (wv ws 6) (wv ws 7)) (by decide))
theorem loopB0 (lf : Nat) (kind off : Int) (r0 : List AObj) (ys : List Value) (e cap : Nat) (ws : List ByteArray) (hys : WsOk ws ys) (hl : ws.length ≤ 20) (hz : ∀ w ∈ ws, w.size < lf + 100 ∧ w.size ≤ 9223372036854775807) (hc : ws.length = 0) (s0 : St) (h0 : clB s0 = HB0 kind off r0 ys e ws.length cap) : evLoop (runB (lf + 100)) clB (lf + 100) s0 = some (.exit 0, EB0 kind off r0 ys e ws.length cap) := by
  refine Dg.loop_run (S := SB kind off r0 ys e ws.length cap ws) (n := ws.length) (by simp) (fun j hj => stepB lf kind off r0 ys e cap ws hys hl hz j hj) ?_ (by omega) h0
  have h := bC0 (lf + 100) kind off r0 ys e ws.length cap hc hl
  generalize ws.length = L at hc h ⊢
  subst hc
  exact h
theorem loopB1 (lf : Nat) (kind off : Int) (r0 : List AObj) (ys : List Value) (e cap : Nat) (ws : List ByteArray) (hys : WsOk ws ys) (hl : ws.length ≤ 20) (hz : ∀ w ∈ ws, w.size < lf + 100 ∧ w.size ≤ 9223372036854775807) (hc : ws.length = 1) (s0 : St) (h0 : clB s0 = HB0 kind off r0 ys e ws.length cap) : evLoop (runB (lf + 100)) clB (lf + 100) s0 = some (.exit 0, EB1 kind off r0 ys e ws.length cap (ws.length : Int) ((ws.length : Int) - 1) (ws.getD (ws.length - 1) ⟨#[]⟩) (wv ws 0)) := by
  refine Dg.loop_run (S := SB kind off r0 ys e ws.length cap ws) (n := ws.length) (by simp) (fun j hj => stepB lf kind off r0 ys e cap ws hys hl hz j hj) ?_ (by omega) h0
  have h := bC1 (lf + 100) kind off r0 ys e ws.length cap 0 (ws.getD 0 ⟨#[]⟩) (wv ws 0) hc hl
  generalize ws.length = L at hc h ⊢
  subst hc
  exact h
theorem loopB2 (lf : Nat) (kind off : Int) (r0 : List AObj) (ys : List Value) (e cap : Nat) (ws : List ByteArray) (hys : WsOk ws ys) (hl : ws.length ≤ 20) (hz : ∀ w ∈ ws, w.size < lf + 100 ∧ w.size ≤ 9223372036854775807) (hc : ws.length = 2) (s0 : St) (h0 : clB s0 = HB0 kind off r0 ys e ws.length cap) : evLoop (runB (lf + 100)) clB (lf + 100) s0 = some (.exit 0, EB2 kind off r0 ys e ws.length cap (ws.length : Int) ((ws.length : Int) - 1) (ws.getD (ws.length - 1) ⟨#[]⟩) (wv ws 0) (wv ws 1)) := by
  refine Dg.loop_run (S := SB kind off r0 ys e ws.length cap ws) (n := ws.length) (by simp) (fun j hj => stepB lf kind off r0 ys e cap ws hys hl hz j hj) ?_ (by omega) h0
  have h := bC2 (lf + 100) kind off r0 ys e ws.length cap 1 (ws.getD 1 ⟨#[]⟩) (wv ws 0) (wv ws 1) hc hl
  generalize ws.length = L at hc h ⊢
  subst hc
  exact h
theorem loopB3 (lf : Nat) (kind off : Int) (r0 : List AObj) (ys : List Value) (e cap : Nat) (ws : List ByteArray) (hys : WsOk ws ys) (hl : ws.length ≤ 20) (hz : ∀ w ∈ ws, w.size < lf + 100 ∧ w.size ≤ 9223372036854775807) (hc : ws.length = 3) (s0 : St) (h0 : clB s0 = HB0 kind off r0 ys e ws.length cap) : evLoop (runB (lf + 100)) clB (lf + 100) s0 = some (.exit 0, EB3 kind off r0 ys e ws.length cap (ws.length : Int) ((ws.length : Int) - 1) (ws.getD (ws.length - 1) ⟨#[]⟩) (wv ws 0) (wv ws 1) (wv ws 2)) := by
  refine Dg.loop_run (S := SB kind off r0 ys e ws.length cap ws) (n := ws.length) (by simp) (fun j hj => stepB lf kind off r0 ys e cap ws hys hl hz j hj) ?_ (by omega) h0
  have h := bC3 (lf + 100) kind off r0 ys e ws.length cap 2 (ws.getD 2 ⟨#[]⟩) (wv ws 0) (wv ws 1) (wv ws 2) hc hl
  generalize ws.length = L at hc h ⊢
  subst hc
  exact h
theorem loopB4 (lf : Nat) (kind off : Int) (r0 : List AObj) (ys : List Value) (e cap : Nat) (ws : List ByteArray) (hys : WsOk ws ys) (hl : ws.length ≤ 20) (hz : ∀ w ∈ ws, w.size < lf + 100 ∧ w.size ≤ 9223372036854775807) (hc : ws.length = 4) (s0 : St) (h0 : clB s0 = HB0 kind off r0 ys e ws.length cap) : evLoop (runB (lf + 100)) clB (lf + 100) s0 = some (.exit 0, EB4 kind off r0 ys e ws.length cap (ws.length : Int) ((ws.length : Int) - 1) (ws.getD (ws.length - 1) ⟨#[]⟩) (wv ws 0) (wv ws 1) (wv ws 2) (wv ws 3)) := by
  refine Dg.loop_run (S := SB kind off r0 ys e ws.length cap ws) (n := ws.length) (by simp) (fun j hj => stepB lf kind off r0 ys e cap ws hys hl hz j hj) ?_ (by omega) h0
  have h := bC4 (lf + 100) kind off r0 ys e ws.length cap 3 (ws.getD 3 ⟨#[]⟩) (wv ws 0) (wv ws 1) (wv ws 2) (wv ws 3) hc hl
  generalize ws.length = L at hc h ⊢
  subst hc
  exact h
theorem loopB5 (lf : Nat) (kind off : Int) (r0 : List AObj) (ys : List Value) (e cap : Nat) (ws : List ByteArray) (hys : WsOk ws ys) (hl : ws.length ≤ 20) (hz : ∀ w ∈ ws, w.size < lf + 100 ∧ w.size ≤ 9223372036854775807) (hc : ws.length = 5) (s0 : St) (h0 : clB s0 = HB0 kind off r0 ys e ws.length cap) : evLoop (runB (lf + 100)) clB (lf + 100) s0 = some (.exit 0, EB5 kind off r0 ys e ws.length cap (ws.length : Int) ((ws.length : Int) - 1) (ws.getD (ws.length - 1) ⟨#[]⟩) (wv ws 0) (wv ws 1) (wv ws 2) (wv ws 3) (wv ws 4)) := by
  refine Dg.loop_run (S := SB kind off r0 ys e ws.length cap ws) (n := ws.length) (by simp) (fun j hj => stepB lf kind off r0 ys e cap ws hys hl hz j hj) ?_ (by omega) h0
  have h := bC5 (lf + 100) kind off r0 ys e ws.length cap 4 (ws.getD 4 ⟨#[]⟩) (wv ws 0) (wv ws 1) (wv ws 2) (wv ws 3) (wv ws 4) hc hl
  generalize ws.length = L at hc h ⊢
  subst hc
  exact h
theorem loopB6 (lf : Nat) (kind off : Int) (r0 : List AObj) (ys : List Value) (e cap : Nat) (ws : List ByteArray) (hys : WsOk ws ys) (hl : ws.length ≤ 20) (hz : ∀ w ∈ ws, w.size < lf + 100 ∧ w.size ≤ 9223372036854775807) (hc : ws.length = 6) (s0 : St) (h0 : clB s0 = HB0 kind off r0 ys e ws.length cap) : evLoop (runB (lf + 100)) clB (lf + 100) s0 = some (.exit 0, EB6 kind off r0 ys e ws.length cap (ws.length : Int) ((ws.length : Int) - 1) (ws.getD (ws.length - 1) ⟨#[]⟩) (wv ws 0) (wv ws 1) (wv ws 2) (wv ws 3) (wv ws 4) (wv ws 5)) := by
  refine Dg.loop_run (S := SB kind off r0 ys e ws.length cap ws) (n := ws.length) (by simp) (fun j hj => stepB lf kind off r0 ys e cap ws hys hl hz j hj) ?_ (by omega) h0
  have h := bC6 (lf + 100) kind off r0 ys e ws.length cap 5 (ws.getD 5 ⟨#[]⟩) (wv ws 0) (wv ws 1) (wv ws 2) (wv ws 3) (wv ws 4) (wv ws 5) hc hl
  generalize ws.length = L at hc h ⊢
  subst hc
  exact h
theorem loopB7 (lf : Nat) (kind off : Int) (r0 : List AObj) (ys : List Value) (e cap : Nat) (ws : List ByteArray) (hys : WsOk ws ys) (hl : ws.length ≤ 20) (hz : ∀ w ∈ ws, w.size < lf + 100 ∧ w.size ≤ 9223372036854775807) (hc : ws.length = 7) (s0 : St) (h0 : clB s0 = HB0 kind off r0 ys e ws.length cap) : evLoop (runB (lf + 100)) clB (lf + 100) s0 = some (.exit 0, EB7 kind off r0 ys e ws.length cap (ws.length : Int) ((ws.length : Int) - 1) (ws.getD (ws.length - 1) ⟨#[]⟩) (wv ws 0) (wv ws 1) (wv ws 2) (wv ws 3) (wv ws 4) (wv ws 5) (wv ws 6)) := by
  refine Dg.loop_run (S := SB kind off r0 ys e ws.length cap ws) (n := ws.length) (by simp) (fun j hj => stepB lf kind off r0 ys e cap ws hys hl hz j hj) ?_ (by omega) h0
  have h := bC7 (lf + 100) kind off r0 ys e ws.length cap 6 (ws.getD 6 ⟨#[]⟩) (wv ws 0) (wv ws 1) (wv ws 2) (wv ws 3) (wv ws 4) (wv ws 5) (wv ws 6) hc hl
  generalize ws.length = L at hc h ⊢
  subst hc
  exact h
theorem loopB8 (lf : Nat) (kind off : Int) (r0 : List AObj) (ys : List Value) (e cap : Nat) (ws : List ByteArray) (hys : WsOk ws ys) (hl : ws.length ≤ 20) (hz : ∀ w ∈ ws, w.size < lf + 100 ∧ w.size ≤ 9223372036854775807) (hc : 8 ≤ ws.length) (s0 : St) (h0 : clB s0 = HB0 kind off r0 ys e ws.length cap) : evLoop (runB (lf + 100)) clB (lf + 100) s0 = some (.exit 0, EB8 kind off r0 ys e ws.length cap (ws.length : Int) ((ws.length : Int) - 1) (ws.getD (ws.length - 1) ⟨#[]⟩) (wv ws 0) (wv ws 1) (wv ws 2) (wv ws 3) (wv ws 4) (wv ws 5) (wv ws 6) (wv ws 7)) := by
  refine Dg.loop_run (S := SB kind off r0 ys e ws.length cap ws) (n := ws.length) (by simp) (fun j hj => stepB lf kind off r0 ys e cap ws hys hl hz j hj) ?_ (by omega) h0
  have key : ∀ L l', 8 ≤ L → SB kind off r0 ys e l' cap ws L = HB8 kind off r0 ys e l' cap (L : Int) ((L : Int) - 1) (ws.getD (L - 1) ⟨#[]⟩) (wv ws 0) (wv ws 1) (wv ws 2) (wv ws 3) (wv ws 4) (wv ws 5) (wv ws 6) (wv ws 7) := by
    intro L l' hL
    match L, hL with
    | 8, _ => rfl
    | L + 9, _ =>
      have e1 : ((L + 9 : Nat) : Int) - 1 = ((L + 8 : Nat) : Int) := by omega
      rw [e1]
      rfl
  rw [key _ _ hc]
  exact bC8 (lf + 100) kind off r0 ys e ws.length cap _ _ (wv ws 0) (wv ws 1) (wv ws 2) (wv ws 3) (wv ws 4) (wv ws 5) (wv ws 6) (wv ws 7) ws.length rfl hl
theorem bd0 (lf : Nat) (kind off : Int) (r0 : List AObj) (ys : List Value) (e cap : Nat) (ws : List ByteArray) (hys : WsOk ws ys) (hl : ws.length ≤ 20) (hz : ∀ w ∈ ws, w.size < lf + 100 ∧ w.size ≤ 9223372036854775807) (hc : ws.length = 0) (hk : kind ≠ 0) : evB (lf + 100) 19 17 [.int .i64 kind, .int .i64 off, aW ws.length cap] ⟨18, oW ys e :: r0⟩ = some (.tuple #[.iface 70 (.pointer (some ⟨18, 0, none⟩)), .slice none 0 0], (⟨19, .cells [.int .i64 kind, .int .i64 off] 73 4 1 :: oW ys e :: r0⟩ : Heap), []) :=
  bW0 (lf + 100) kind off r0 ys e ws.length cap hk (loopB0 lf kind off r0 ys e cap ws hys hl hz hc)
theorem bd1 (lf : Nat) (kind off : Int) (r0 : List AObj) (ys : List Value) (e cap : Nat) (ws : List ByteArray) (hys : WsOk ws ys) (hl : ws.length ≤ 20) (hz : ∀ w ∈ ws, w.size < lf + 100 ∧ w.size ≤ 9223372036854775807) (hc : ws.length = 1) (hk : kind ≠ 0) : evB (lf + 100) 19 17 [.int .i64 kind, .int .i64 off, aW ws.length cap] ⟨18, oW ys e :: r0⟩ = some (.tuple #[.iface 67 (.pointer (some ⟨18, 0, none⟩)), .slice (some ⟨20, 0, none⟩) 1 1], (⟨21, .cells [.string (wv ws 0)] 9 4 1 :: .cells [.int .i64 kind, .int .i64 off] 73 4 1 :: .cells [.string (wv ws 0), .iface 70 (.pointer (some ⟨19, 0, none⟩))] 69 0 1 :: oW ys e :: r0⟩ : Heap), []) :=
  bW1 (lf + 100) kind off r0 ys e ws.length cap _ _ (wv ws 0) hk (loopB1 lf kind off r0 ys e cap ws hys hl hz hc)
theorem bd2 (lf : Nat) (kind off : Int) (r0 : List AObj) (ys : List Value) (e cap : Nat) (ws : List ByteArray) (hys : WsOk ws ys) (hl : ws.length ≤ 20) (hz : ∀ w ∈ ws, w.size < lf + 100 ∧ w.size ≤ 9223372036854775807) (hc : ws.length = 2) (hk : kind ≠ 0) : evB (lf + 100) 19 17 [.int .i64 kind, .int .i64 off, aW ws.length cap] ⟨18, oW ys e :: r0⟩ = some (.tuple #[.iface 67 (.pointer (some ⟨18, 0, none⟩)), .slice (some ⟨21, 0, some 0⟩) 2 2], (⟨22, .cells [.string (wv ws 1), .string (wv ws 0)] 9 5 1 :: .cells [.int .i64 kind, .int .i64 off] 73 4 1 :: .cells [.string (wv ws 0), .iface 70 (.pointer (some ⟨20, 0, none⟩))] 69 0 1 :: .cells [.string (wv ws 1), .iface 67 (.pointer (some ⟨19, 0, none⟩))] 69 0 1 :: oW ys e :: r0⟩ : Heap), []) :=
  bW2 (lf + 100) kind off r0 ys e ws.length cap _ _ (wv ws 0) (wv ws 1) hk (loopB2 lf kind off r0 ys e cap ws hys hl hz hc)
theorem bd3 (lf : Nat) (kind off : Int) (r0 : List AObj) (ys : List Value) (e cap : Nat) (ws : List ByteArray) (hys : WsOk ws ys) (hl : ws.length ≤ 20) (hz : ∀ w ∈ ws, w.size < lf + 100 ∧ w.size ≤ 9223372036854775807) (hc : ws.length = 3) (hk : kind ≠ 0) : evB (lf + 100) 19 17 [.int .i64 kind, .int .i64 off, aW ws.length cap] ⟨18, oW ys e :: r0⟩ = some (.tuple #[.iface 67 (.pointer (some ⟨18, 0, none⟩)), .slice (some ⟨22, 0, some 0⟩) 3 3], (⟨23, .cells [.string (wv ws 2), .string (wv ws 1), .string (wv ws 0)] 9 5 1 :: .cells [.int .i64 kind, .int .i64 off] 73 4 1 :: .cells [.string (wv ws 0), .iface 70 (.pointer (some ⟨21, 0, none⟩))] 69 0 1 :: .cells [.string (wv ws 1), .iface 67 (.pointer (some ⟨20, 0, none⟩))] 69 0 1 :: .cells [.string (wv ws 2), .iface 67 (.pointer (some ⟨19, 0, none⟩))] 69 0 1 :: oW ys e :: r0⟩ : Heap), []) :=
  bW3 (lf + 100) kind off r0 ys e ws.length cap _ _ (wv ws 0) (wv ws 1) (wv ws 2) hk (loopB3 lf kind off r0 ys e cap ws hys hl hz hc)
theorem bd4 (lf : Nat) (kind off : Int) (r0 : List AObj) (ys : List Value) (e cap : Nat) (ws : List ByteArray) (hys : WsOk ws ys) (hl : ws.length ≤ 20) (hz : ∀ w ∈ ws, w.size < lf + 100 ∧ w.size ≤ 9223372036854775807) (hc : ws.length = 4) (hk : kind ≠ 0) : evB (lf + 100) 19 17 [.int .i64 kind, .int .i64 off, aW ws.length cap] ⟨18, oW ys e :: r0⟩ = some (.tuple #[.iface 67 (.pointer (some ⟨18, 0, none⟩)), .slice (some ⟨23, 0, some 0⟩) 4 4], (⟨24, .cells [.string (wv ws 3), .string (wv ws 2), .string (wv ws 1), .string (wv ws 0)] 9 5 1 :: .cells [.int .i64 kind, .int .i64 off] 73 4 1 :: .cells [.string (wv ws 0), .iface 70 (.pointer (some ⟨22, 0, none⟩))] 69 0 1 :: .cells [.string (wv ws 1), .iface 67 (.pointer (some ⟨21, 0, none⟩))] 69 0 1 :: .cells [.string (wv ws 2), .iface 67 (.pointer (some ⟨20, 0, none⟩))] 69 0 1 :: .cells [.string (wv ws 3), .iface 67 (.pointer (some ⟨19, 0, none⟩))] 69 0 1 :: oW ys e :: r0⟩ : Heap), []) :=
  bW4 (lf + 100) kind off r0 ys e ws.length cap _ _ (wv ws 0) (wv ws 1) (wv ws 2) (wv ws 3) hk (loopB4 lf kind off r0 ys e cap ws hys hl hz hc)
theorem bd5 (lf : Nat) (kind off : Int) (r0 : List AObj) (ys : List Value) (e cap : Nat) (ws : List ByteArray) (hys : WsOk ws ys) (hl : ws.length ≤ 20) (hz : ∀ w ∈ ws, w.size < lf + 100 ∧ w.size ≤ 9223372036854775807) (hc : ws.length = 5) (hk : kind ≠ 0) : evB (lf + 100) 19 17 [.int .i64 kind, .int .i64 off, aW ws.length cap] ⟨18, oW ys e :: r0⟩ = some (.tuple #[.iface 67 (.pointer (some ⟨18, 0, none⟩)), .slice (some ⟨24, 0, some 0⟩) 5 5], (⟨25, .cells [.string (wv ws 4), .string (wv ws 3), .string (wv ws 2), .string (wv ws 1), .string (wv ws 0)] 9 5 1 :: .cells [.int .i64 kind, .int .i64 off] 73 4 1 :: .cells [.string (wv ws 0), .iface 70 (.pointer (some ⟨23, 0, none⟩))] 69 0 1 :: .cells [.string (wv ws 1), .iface 67 (.pointer (some ⟨22, 0, none⟩))] 69 0 1 :: .cells [.string (wv ws 2), .iface 67 (.pointer (some ⟨21, 0, none⟩))] 69 0 1 :: .cells [.string (wv ws 3), .iface 67 (.pointer (some ⟨20, 0, none⟩))] 69 0 1 :: .cells [.string (wv ws 4), .iface 67 (.pointer (some ⟨19, 0, none⟩))] 69 0 1 :: oW ys e :: r0⟩ : Heap), []) :=
  bW5 (lf + 100) kind off r0 ys e ws.length cap _ _ (wv ws 0) (wv ws 1) (wv ws 2) (wv ws 3) (wv ws 4) hk (loopB5 lf kind off r0 ys e cap ws hys hl hz hc)
theorem bd6 (lf : Nat) (kind off : Int) (r0 : List AObj) (ys : List Value) (e cap : Nat) (ws : List ByteArray) (hys : WsOk ws ys) (hl : ws.length ≤ 20) (hz : ∀ w ∈ ws, w.size < lf + 100 ∧ w.size ≤ 9223372036854775807) (hc : ws.length = 6) (hk : kind ≠ 0) : evB (lf + 100) 19 17 [.int .i64 kind, .int .i64 off, aW ws.length cap] ⟨18, oW ys e :: r0⟩ = some (.tuple #[.iface 67 (.pointer (some ⟨18, 0, none⟩)), .slice (some ⟨25, 0, some 0⟩) 6 6], (⟨26, .cells [.string (wv ws 5), .string (wv ws 4), .string (wv ws 3), .string (wv ws 2), .string (wv ws 1), .string (wv ws 0)] 9 5 1 :: .cells [.int .i64 kind, .int .i64 off] 73 4 1 :: .cells [.string (wv ws 0), .iface 70 (.pointer (some ⟨24, 0, none⟩))] 69 0 1 :: .cells [.string (wv ws 1), .iface 67 (.pointer (some ⟨23, 0, none⟩))] 69 0 1 :: .cells [.string (wv ws 2), .iface 67 (.pointer (some ⟨22, 0, none⟩))] 69 0 1 :: .cells [.string (wv ws 3), .iface 67 (.pointer (some ⟨21, 0, none⟩))] 69 0 1 :: .cells [.string (wv ws 4), .iface 67 (.pointer (some ⟨20, 0, none⟩))] 69 0 1 :: .cells [.string (wv ws 5), .iface 67 (.pointer (some ⟨19, 0, none⟩))] 69 0 1 :: oW ys e :: r0⟩ : Heap), []) :=
  bW6 (lf + 100) kind off r0 ys e ws.length cap _ _ (wv ws 0) (wv ws 1) (wv ws 2) (wv ws 3) (wv ws 4) (wv ws 5) hk (loopB6 lf kind off r0 ys e cap ws hys hl hz hc)
theorem bd7 (lf : Nat) (kind off : Int) (r0 : List AObj) (ys : List Value) (e cap : Nat) (ws : List ByteArray) (hys : WsOk ws ys) (hl : ws.length ≤ 20) (hz : ∀ w ∈ ws, w.size < lf + 100 ∧ w.size ≤ 9223372036854775807) (hc : ws.length = 7) (hk : kind ≠ 0) : evB (lf + 100) 19 17 [.int .i64 kind, .int .i64 off, aW ws.length cap] ⟨18, oW ys e :: r0⟩ = some (.tuple #[.iface 67 (.pointer (some ⟨18, 0, none⟩)), .slice (some ⟨26, 0, some 0⟩) 7 7], (⟨27, .cells [.string (wv ws 6), .string (wv ws 5), .string (wv ws 4), .string (wv ws 3), .string (wv ws 2), .string (wv ws 1), .string (wv ws 0)] 9 5 1 :: .cells [.int .i64 kind, .int .i64 off] 73 4 1 :: .cells [.string (wv ws 0), .iface 70 (.pointer (some ⟨25, 0, none⟩))] 69 0 1 :: .cells [.string (wv ws 1), .iface 67 (.pointer (some ⟨24, 0, none⟩))] 69 0 1 :: .cells [.string (wv ws 2), .iface 67 (.pointer (some ⟨23, 0, none⟩))] 69 0 1 :: .cells [.string (wv ws 3), .iface 67 (.pointer (some ⟨22, 0, none⟩))] 69 0 1 :: .cells [.string (wv ws 4), .iface 67 (.pointer (some ⟨21, 0, none⟩))] 69 0 1 :: .cells [.string (wv ws 5), .iface 67 (.pointer (some ⟨20, 0, none⟩))] 69 0 1 :: .cells [.string (wv ws 6), .iface 67 (.pointer (some ⟨19, 0, none⟩))] 69 0 1 :: oW ys e :: r0⟩ : Heap), []) :=
  bW7 (lf + 100) kind off r0 ys e ws.length cap _ _ (wv ws 0) (wv ws 1) (wv ws 2) (wv ws 3) (wv ws 4) (wv ws 5) (wv ws 6) hk (loopB7 lf kind off r0 ys e cap ws hys hl hz hc)
theorem bd8 (lf : Nat) (kind off : Int) (r0 : List AObj) (ys : List Value) (e cap : Nat) (ws : List ByteArray) (hys : WsOk ws ys) (hl : ws.length ≤ 20) (hz : ∀ w ∈ ws, w.size < lf + 100 ∧ w.size ≤ 9223372036854775807) (hc : 8 ≤ ws.length) (hk : kind ≠ 0) : evB (lf + 100) 19 17 [.int .i64 kind, .int .i64 off, aW ws.length cap] ⟨18, oW ys e :: r0⟩ = some (.tuple #[.iface 67 (.pointer (some ⟨18, 0, none⟩)), .slice (some ⟨27, 0, some 0⟩) 8 8], (⟨28, .cells [.string (wv ws 7), .string (wv ws 6), .string (wv ws 5), .string (wv ws 4), .string (wv ws 3), .string (wv ws 2), .string (wv ws 1), .string (wv ws 0)] 9 5 1 :: .cells [.int .i64 kind, .int .i64 off] 73 4 1 :: .cells [.string (wv ws 0), .iface 70 (.pointer (some ⟨26, 0, none⟩))] 69 0 1 :: .cells [.string (wv ws 1), .iface 67 (.pointer (some ⟨25, 0, none⟩))] 69 0 1 :: .cells [.string (wv ws 2), .iface 67 (.pointer (some ⟨24, 0, none⟩))] 69 0 1 :: .cells [.string (wv ws 3), .iface 67 (.pointer (some ⟨23, 0, none⟩))] 69 0 1 :: .cells [.string (wv ws 4), .iface 67 (.pointer (some ⟨22, 0, none⟩))] 69 0 1 :: .cells [.string (wv ws 5), .iface 67 (.pointer (some ⟨21, 0, none⟩))] 69 0 1 :: .cells [.string (wv ws 6), .iface 67 (.pointer (some ⟨20, 0, none⟩))] 69 0 1 :: .cells [.string (wv ws 7), .iface 67 (.pointer (some ⟨19, 0, none⟩))] 69 0 1 :: oW ys e :: r0⟩ : Heap), []) :=
  bW8 (lf + 100) kind off r0 ys e ws.length cap _ _ (wv ws 0) (wv ws 1) (wv ws 2) (wv ws 3) (wv ws 4) (wv ws 5) (wv ws 6) (wv ws 7) hk (loopB8 lf kind off r0 ys e cap ws hys hl hz hc)
theorem bdn (lf : Nat) (kind off : Int) (r0 : List AObj) (X : AObj) (hk : kind ≠ 0) : evB (lf + 100) 19 17 [.int .i64 kind, .int .i64 off, .slice none 0 0] ⟨18, X :: r0⟩ = some (.tuple #[.iface 70 (.pointer (some ⟨18, 0, none⟩)), .slice none 0 0], (⟨19, .cells [.int .i64 kind, .int .i64 off] 73 4 1 :: X :: r0⟩ : Heap), []) :=
  bWn (lf + 100) kind off r0 X hk (fun s0 h0 => Dg.evLoop_stop h0 (bCn _ kind off r0 X) (by simp))
/-- The states at the loop's head. -/
def SBz (kind off : Int) (r0 : List AObj) (ys : List Value) (e l cap : Nat) (ws : List ByteArray) : Nat → St
  | 0 => HBz0 kind off r0 ys e l cap
  | 1 => HBz1 kind off r0 ys e l cap 1 0 (ws.getD 0 ⟨#[]⟩) (wv ws 0)
  | 2 => HBz2 kind off r0 ys e l cap 2 1 (ws.getD 1 ⟨#[]⟩) (wv ws 0) (wv ws 1)
  | 3 => HBz3 kind off r0 ys e l cap 3 2 (ws.getD 2 ⟨#[]⟩) (wv ws 0) (wv ws 1) (wv ws 2)
  | 4 => HBz4 kind off r0 ys e l cap 4 3 (ws.getD 3 ⟨#[]⟩) (wv ws 0) (wv ws 1) (wv ws 2) (wv ws 3)
  | 5 => HBz5 kind off r0 ys e l cap 5 4 (ws.getD 4 ⟨#[]⟩) (wv ws 0) (wv ws 1) (wv ws 2) (wv ws 3) (wv ws 4)
  | 6 => HBz6 kind off r0 ys e l cap 6 5 (ws.getD 5 ⟨#[]⟩) (wv ws 0) (wv ws 1) (wv ws 2) (wv ws 3) (wv ws 4) (wv ws 5)
  | 7 => HBz7 kind off r0 ys e l cap 7 6 (ws.getD 6 ⟨#[]⟩) (wv ws 0) (wv ws 1) (wv ws 2) (wv ws 3) (wv ws 4) (wv ws 5) (wv ws 6)
  | 8 => HBz8 kind off r0 ys e l cap 8 7 (ws.getD 7 ⟨#[]⟩) (wv ws 0) (wv ws 1) (wv ws 2) (wv ws 3) (wv ws 4) (wv ws 5) (wv ws 6) (wv ws 7)
  | i + 9 => HBz8 kind off r0 ys e l cap ((i + 9 : Nat) : Int) ((i + 8 : Nat) : Int) (ws.getD (i + 8) ⟨#[]⟩) (wv ws 0) (wv ws 1) (wv ws 2) (wv ws 3) (wv ws 4) (wv ws 5) (wv ws 6) (wv ws 7)
theorem stepBz (lf : Nat) (kind off : Int) (r0 : List AObj) (ys : List Value) (e cap : Nat) (ws : List ByteArray) (hys : WsOk ws ys) (hl : ws.length ≤ 20) (hz : ∀ w ∈ ws, w.size < lf + 100 ∧ w.size ≤ 9223372036854775807) (j : Nat) (hj : j < ws.length) : ∃ s', runB (lf + 100) (SBz kind off r0 ys e ws.length cap ws j) = some (.normal, s') ∧ clB s' = SBz kind off r0 ys e ws.length cap ws (j + 1) := by
  have hm : ws.getD j ⟨#[]⟩ ∈ ws := by rw [List.getD_eq_getElem?_getD, List.getElem?_eq_getElem hj]; exact List.getElem_mem hj
  obtain ⟨z1, z2⟩ := hz _ hm
  match j, hj, z1, z2 with
  | 0, hj, z1, z2 => exact bzR0 (lf + 100) kind off r0 ys e ws.length cap (ws.getD 0 ⟨#[]⟩) (wv ws 0) (ws_get hys hj) hj hl (wn18 lf _ _) (fun H => bWord z2)
  | 1, hj, z1, z2 => exact bzR1 (lf + 100) kind off r0 ys e ws.length cap (ws.getD 0 ⟨#[]⟩) (wv ws 0) (ws.getD 1 ⟨#[]⟩) (wv ws 1) (ws_get hys hj) hj hl (wn19 lf _ _) (fun H => bWord z2)
  | 2, hj, z1, z2 => exact bzR2 (lf + 100) kind off r0 ys e ws.length cap (ws.getD 1 ⟨#[]⟩) (wv ws 0) (wv ws 1) (ws.getD 2 ⟨#[]⟩) (wv ws 2) (ws_get hys hj) hj hl (wn19 lf _ _) (fun H => bWord z2)
  | 3, hj, z1, z2 => exact bzR3 (lf + 100) kind off r0 ys e ws.length cap (ws.getD 2 ⟨#[]⟩) (wv ws 0) (wv ws 1) (wv ws 2) (ws.getD 3 ⟨#[]⟩) (wv ws 3) (ws_get hys hj) hj hl (wn19 lf _ _) (fun H => bWord z2)
  | 4, hj, z1, z2 => exact bzR4 (lf + 100) kind off r0 ys e ws.length cap (ws.getD 3 ⟨#[]⟩) (wv ws 0) (wv ws 1) (wv ws 2) (wv ws 3) (ws.getD 4 ⟨#[]⟩) (wv ws 4) (ws_get hys hj) hj hl (wn19 lf _ _) (fun H => bWord z2)
  | 5, hj, z1, z2 => exact bzR5 (lf + 100) kind off r0 ys e ws.length cap (ws.getD 4 ⟨#[]⟩) (wv ws 0) (wv ws 1) (wv ws 2) (wv ws 3) (wv ws 4) (ws.getD 5 ⟨#[]⟩) (wv ws 5) (ws_get hys hj) hj hl (wn19 lf _ _) (fun H => bWord z2)
  | 6, hj, z1, z2 => exact bzR6 (lf + 100) kind off r0 ys e ws.length cap (ws.getD 5 ⟨#[]⟩) (wv ws 0) (wv ws 1) (wv ws 2) (wv ws 3) (wv ws 4) (wv ws 5) (ws.getD 6 ⟨#[]⟩) (wv ws 6) (ws_get hys hj) hj hl (wn19 lf _ _) (fun H => bWord z2)
  | 7, hj, z1, z2 => exact bzR7 (lf + 100) kind off r0 ys e ws.length cap (ws.getD 6 ⟨#[]⟩) (wv ws 0) (wv ws 1) (wv ws 2) (wv ws 3) (wv ws 4) (wv ws 5) (wv ws 6) (ws.getD 7 ⟨#[]⟩) (wv ws 7) (ws_get hys hj) hj hl (wn19 lf _ _) (fun H => bWord z2)
  | 8, hj, z1, z2 => exact bzR8 (lf + 100) kind off r0 ys e ws.length cap 8 7 _ (wv ws 0) (wv ws 1) (wv ws 2) (wv ws 3) (wv ws 4) (wv ws 5) (wv ws 6) (wv ws 7) (ws.getD 8 ⟨#[]⟩) (ws_get hys hj) (by decide) hj hl (wn19 lf _ _)
  | i + 9, hj, z1, z2 => exact bzR8 (lf + 100) kind off r0 ys e ws.length cap (i + 9) _ _ (wv ws 0) (wv ws 1) (wv ws 2) (wv ws 3) (wv ws 4) (wv ws 5) (wv ws 6) (wv ws 7) (ws.getD (i + 9) ⟨#[]⟩) (ws_get hys hj) (by omega) hj hl (wn19 lf _ _)
theorem loopBz0 (lf : Nat) (kind off : Int) (r0 : List AObj) (ys : List Value) (e cap : Nat) (ws : List ByteArray) (hys : WsOk ws ys) (hl : ws.length ≤ 20) (hz : ∀ w ∈ ws, w.size < lf + 100 ∧ w.size ≤ 9223372036854775807) (hc : ws.length = 0) (s0 : St) (h0 : clB s0 = HBz0 kind off r0 ys e ws.length cap) : evLoop (runB (lf + 100)) clB (lf + 100) s0 = some (.exit 0, EBz0 kind off r0 ys e ws.length cap) := by
  refine Dg.loop_run (S := SBz kind off r0 ys e ws.length cap ws) (n := ws.length) (by simp) (fun j hj => stepBz lf kind off r0 ys e cap ws hys hl hz j hj) ?_ (by omega) h0
  have h := bzC0 (lf + 100) kind off r0 ys e ws.length cap hc hl
  generalize ws.length = L at hc h ⊢
  subst hc
  exact h
theorem loopBz1 (lf : Nat) (kind off : Int) (r0 : List AObj) (ys : List Value) (e cap : Nat) (ws : List ByteArray) (hys : WsOk ws ys) (hl : ws.length ≤ 20) (hz : ∀ w ∈ ws, w.size < lf + 100 ∧ w.size ≤ 9223372036854775807) (hc : ws.length = 1) (s0 : St) (h0 : clB s0 = HBz0 kind off r0 ys e ws.length cap) : evLoop (runB (lf + 100)) clB (lf + 100) s0 = some (.exit 0, EBz1 kind off r0 ys e ws.length cap (ws.length : Int) ((ws.length : Int) - 1) (ws.getD (ws.length - 1) ⟨#[]⟩) (wv ws 0)) := by
  refine Dg.loop_run (S := SBz kind off r0 ys e ws.length cap ws) (n := ws.length) (by simp) (fun j hj => stepBz lf kind off r0 ys e cap ws hys hl hz j hj) ?_ (by omega) h0
  have h := bzC1 (lf + 100) kind off r0 ys e ws.length cap 0 (ws.getD 0 ⟨#[]⟩) (wv ws 0) hc hl
  generalize ws.length = L at hc h ⊢
  subst hc
  exact h
theorem loopBz2 (lf : Nat) (kind off : Int) (r0 : List AObj) (ys : List Value) (e cap : Nat) (ws : List ByteArray) (hys : WsOk ws ys) (hl : ws.length ≤ 20) (hz : ∀ w ∈ ws, w.size < lf + 100 ∧ w.size ≤ 9223372036854775807) (hc : ws.length = 2) (s0 : St) (h0 : clB s0 = HBz0 kind off r0 ys e ws.length cap) : evLoop (runB (lf + 100)) clB (lf + 100) s0 = some (.exit 0, EBz2 kind off r0 ys e ws.length cap (ws.length : Int) ((ws.length : Int) - 1) (ws.getD (ws.length - 1) ⟨#[]⟩) (wv ws 0) (wv ws 1)) := by
  refine Dg.loop_run (S := SBz kind off r0 ys e ws.length cap ws) (n := ws.length) (by simp) (fun j hj => stepBz lf kind off r0 ys e cap ws hys hl hz j hj) ?_ (by omega) h0
  have h := bzC2 (lf + 100) kind off r0 ys e ws.length cap 1 (ws.getD 1 ⟨#[]⟩) (wv ws 0) (wv ws 1) hc hl
  generalize ws.length = L at hc h ⊢
  subst hc
  exact h
theorem loopBz3 (lf : Nat) (kind off : Int) (r0 : List AObj) (ys : List Value) (e cap : Nat) (ws : List ByteArray) (hys : WsOk ws ys) (hl : ws.length ≤ 20) (hz : ∀ w ∈ ws, w.size < lf + 100 ∧ w.size ≤ 9223372036854775807) (hc : ws.length = 3) (s0 : St) (h0 : clB s0 = HBz0 kind off r0 ys e ws.length cap) : evLoop (runB (lf + 100)) clB (lf + 100) s0 = some (.exit 0, EBz3 kind off r0 ys e ws.length cap (ws.length : Int) ((ws.length : Int) - 1) (ws.getD (ws.length - 1) ⟨#[]⟩) (wv ws 0) (wv ws 1) (wv ws 2)) := by
  refine Dg.loop_run (S := SBz kind off r0 ys e ws.length cap ws) (n := ws.length) (by simp) (fun j hj => stepBz lf kind off r0 ys e cap ws hys hl hz j hj) ?_ (by omega) h0
  have h := bzC3 (lf + 100) kind off r0 ys e ws.length cap 2 (ws.getD 2 ⟨#[]⟩) (wv ws 0) (wv ws 1) (wv ws 2) hc hl
  generalize ws.length = L at hc h ⊢
  subst hc
  exact h
theorem loopBz4 (lf : Nat) (kind off : Int) (r0 : List AObj) (ys : List Value) (e cap : Nat) (ws : List ByteArray) (hys : WsOk ws ys) (hl : ws.length ≤ 20) (hz : ∀ w ∈ ws, w.size < lf + 100 ∧ w.size ≤ 9223372036854775807) (hc : ws.length = 4) (s0 : St) (h0 : clB s0 = HBz0 kind off r0 ys e ws.length cap) : evLoop (runB (lf + 100)) clB (lf + 100) s0 = some (.exit 0, EBz4 kind off r0 ys e ws.length cap (ws.length : Int) ((ws.length : Int) - 1) (ws.getD (ws.length - 1) ⟨#[]⟩) (wv ws 0) (wv ws 1) (wv ws 2) (wv ws 3)) := by
  refine Dg.loop_run (S := SBz kind off r0 ys e ws.length cap ws) (n := ws.length) (by simp) (fun j hj => stepBz lf kind off r0 ys e cap ws hys hl hz j hj) ?_ (by omega) h0
  have h := bzC4 (lf + 100) kind off r0 ys e ws.length cap 3 (ws.getD 3 ⟨#[]⟩) (wv ws 0) (wv ws 1) (wv ws 2) (wv ws 3) hc hl
  generalize ws.length = L at hc h ⊢
  subst hc
  exact h
theorem loopBz5 (lf : Nat) (kind off : Int) (r0 : List AObj) (ys : List Value) (e cap : Nat) (ws : List ByteArray) (hys : WsOk ws ys) (hl : ws.length ≤ 20) (hz : ∀ w ∈ ws, w.size < lf + 100 ∧ w.size ≤ 9223372036854775807) (hc : ws.length = 5) (s0 : St) (h0 : clB s0 = HBz0 kind off r0 ys e ws.length cap) : evLoop (runB (lf + 100)) clB (lf + 100) s0 = some (.exit 0, EBz5 kind off r0 ys e ws.length cap (ws.length : Int) ((ws.length : Int) - 1) (ws.getD (ws.length - 1) ⟨#[]⟩) (wv ws 0) (wv ws 1) (wv ws 2) (wv ws 3) (wv ws 4)) := by
  refine Dg.loop_run (S := SBz kind off r0 ys e ws.length cap ws) (n := ws.length) (by simp) (fun j hj => stepBz lf kind off r0 ys e cap ws hys hl hz j hj) ?_ (by omega) h0
  have h := bzC5 (lf + 100) kind off r0 ys e ws.length cap 4 (ws.getD 4 ⟨#[]⟩) (wv ws 0) (wv ws 1) (wv ws 2) (wv ws 3) (wv ws 4) hc hl
  generalize ws.length = L at hc h ⊢
  subst hc
  exact h
theorem loopBz6 (lf : Nat) (kind off : Int) (r0 : List AObj) (ys : List Value) (e cap : Nat) (ws : List ByteArray) (hys : WsOk ws ys) (hl : ws.length ≤ 20) (hz : ∀ w ∈ ws, w.size < lf + 100 ∧ w.size ≤ 9223372036854775807) (hc : ws.length = 6) (s0 : St) (h0 : clB s0 = HBz0 kind off r0 ys e ws.length cap) : evLoop (runB (lf + 100)) clB (lf + 100) s0 = some (.exit 0, EBz6 kind off r0 ys e ws.length cap (ws.length : Int) ((ws.length : Int) - 1) (ws.getD (ws.length - 1) ⟨#[]⟩) (wv ws 0) (wv ws 1) (wv ws 2) (wv ws 3) (wv ws 4) (wv ws 5)) := by
  refine Dg.loop_run (S := SBz kind off r0 ys e ws.length cap ws) (n := ws.length) (by simp) (fun j hj => stepBz lf kind off r0 ys e cap ws hys hl hz j hj) ?_ (by omega) h0
  have h := bzC6 (lf + 100) kind off r0 ys e ws.length cap 5 (ws.getD 5 ⟨#[]⟩) (wv ws 0) (wv ws 1) (wv ws 2) (wv ws 3) (wv ws 4) (wv ws 5) hc hl
  generalize ws.length = L at hc h ⊢
  subst hc
  exact h
theorem loopBz7 (lf : Nat) (kind off : Int) (r0 : List AObj) (ys : List Value) (e cap : Nat) (ws : List ByteArray) (hys : WsOk ws ys) (hl : ws.length ≤ 20) (hz : ∀ w ∈ ws, w.size < lf + 100 ∧ w.size ≤ 9223372036854775807) (hc : ws.length = 7) (s0 : St) (h0 : clB s0 = HBz0 kind off r0 ys e ws.length cap) : evLoop (runB (lf + 100)) clB (lf + 100) s0 = some (.exit 0, EBz7 kind off r0 ys e ws.length cap (ws.length : Int) ((ws.length : Int) - 1) (ws.getD (ws.length - 1) ⟨#[]⟩) (wv ws 0) (wv ws 1) (wv ws 2) (wv ws 3) (wv ws 4) (wv ws 5) (wv ws 6)) := by
  refine Dg.loop_run (S := SBz kind off r0 ys e ws.length cap ws) (n := ws.length) (by simp) (fun j hj => stepBz lf kind off r0 ys e cap ws hys hl hz j hj) ?_ (by omega) h0
  have h := bzC7 (lf + 100) kind off r0 ys e ws.length cap 6 (ws.getD 6 ⟨#[]⟩) (wv ws 0) (wv ws 1) (wv ws 2) (wv ws 3) (wv ws 4) (wv ws 5) (wv ws 6) hc hl
  generalize ws.length = L at hc h ⊢
  subst hc
  exact h
theorem loopBz8 (lf : Nat) (kind off : Int) (r0 : List AObj) (ys : List Value) (e cap : Nat) (ws : List ByteArray) (hys : WsOk ws ys) (hl : ws.length ≤ 20) (hz : ∀ w ∈ ws, w.size < lf + 100 ∧ w.size ≤ 9223372036854775807) (hc : 8 ≤ ws.length) (s0 : St) (h0 : clB s0 = HBz0 kind off r0 ys e ws.length cap) : evLoop (runB (lf + 100)) clB (lf + 100) s0 = some (.exit 0, EBz8 kind off r0 ys e ws.length cap (ws.length : Int) ((ws.length : Int) - 1) (ws.getD (ws.length - 1) ⟨#[]⟩) (wv ws 0) (wv ws 1) (wv ws 2) (wv ws 3) (wv ws 4) (wv ws 5) (wv ws 6) (wv ws 7)) := by
  refine Dg.loop_run (S := SBz kind off r0 ys e ws.length cap ws) (n := ws.length) (by simp) (fun j hj => stepBz lf kind off r0 ys e cap ws hys hl hz j hj) ?_ (by omega) h0
  have key : ∀ L l', 8 ≤ L → SBz kind off r0 ys e l' cap ws L = HBz8 kind off r0 ys e l' cap (L : Int) ((L : Int) - 1) (ws.getD (L - 1) ⟨#[]⟩) (wv ws 0) (wv ws 1) (wv ws 2) (wv ws 3) (wv ws 4) (wv ws 5) (wv ws 6) (wv ws 7) := by
    intro L l' hL
    match L, hL with
    | 8, _ => rfl
    | L + 9, _ =>
      have e1 : ((L + 9 : Nat) : Int) - 1 = ((L + 8 : Nat) : Int) := by omega
      rw [e1]
      rfl
  rw [key _ _ hc]
  exact bzC8 (lf + 100) kind off r0 ys e ws.length cap _ _ (wv ws 0) (wv ws 1) (wv ws 2) (wv ws 3) (wv ws 4) (wv ws 5) (wv ws 6) (wv ws 7) ws.length rfl hl
theorem bdz0 (lf : Nat) (kind off : Int) (r0 : List AObj) (ys : List Value) (e cap : Nat) (ws : List ByteArray) (hys : WsOk ws ys) (hl : ws.length ≤ 20) (hz : ∀ w ∈ ws, w.size < lf + 100 ∧ w.size ≤ 9223372036854775807) (hc : ws.length = 0) (hk : kind = 0) : evB (lf + 100) 19 17 [.int .i64 kind, .int .i64 off, aW ws.length cap] ⟨18, oW ys e :: r0⟩ = some (.tuple #[.nilIface, .slice none 0 0], (⟨18, oW ys e :: r0⟩ : Heap), []) :=
  bzW0 (lf + 100) kind off r0 ys e ws.length cap hk (loopBz0 lf kind off r0 ys e cap ws hys hl hz hc)
theorem bdz1 (lf : Nat) (kind off : Int) (r0 : List AObj) (ys : List Value) (e cap : Nat) (ws : List ByteArray) (hys : WsOk ws ys) (hl : ws.length ≤ 20) (hz : ∀ w ∈ ws, w.size < lf + 100 ∧ w.size ≤ 9223372036854775807) (hc : ws.length = 1) (hk : kind = 0) : evB (lf + 100) 19 17 [.int .i64 kind, .int .i64 off, aW ws.length cap] ⟨18, oW ys e :: r0⟩ = some (.tuple #[.nilIface, .slice (some ⟨18, 0, none⟩) 1 1], (⟨19, .cells [.string (wv ws 0)] 9 4 1 :: oW ys e :: r0⟩ : Heap), []) :=
  bzW1 (lf + 100) kind off r0 ys e ws.length cap _ _ (wv ws 0) hk (loopBz1 lf kind off r0 ys e cap ws hys hl hz hc)
theorem bdz2 (lf : Nat) (kind off : Int) (r0 : List AObj) (ys : List Value) (e cap : Nat) (ws : List ByteArray) (hys : WsOk ws ys) (hl : ws.length ≤ 20) (hz : ∀ w ∈ ws, w.size < lf + 100 ∧ w.size ≤ 9223372036854775807) (hc : ws.length = 2) (hk : kind = 0) : evB (lf + 100) 19 17 [.int .i64 kind, .int .i64 off, aW ws.length cap] ⟨18, oW ys e :: r0⟩ = some (.tuple #[.nilIface, .slice (some ⟨18, 0, some 0⟩) 2 2], (⟨19, .cells [.string (wv ws 1), .string (wv ws 0)] 9 5 1 :: oW ys e :: r0⟩ : Heap), []) :=
  bzW2 (lf + 100) kind off r0 ys e ws.length cap _ _ (wv ws 0) (wv ws 1) hk (loopBz2 lf kind off r0 ys e cap ws hys hl hz hc)
theorem bdz3 (lf : Nat) (kind off : Int) (r0 : List AObj) (ys : List Value) (e cap : Nat) (ws : List ByteArray) (hys : WsOk ws ys) (hl : ws.length ≤ 20) (hz : ∀ w ∈ ws, w.size < lf + 100 ∧ w.size ≤ 9223372036854775807) (hc : ws.length = 3) (hk : kind = 0) : evB (lf + 100) 19 17 [.int .i64 kind, .int .i64 off, aW ws.length cap] ⟨18, oW ys e :: r0⟩ = some (.tuple #[.nilIface, .slice (some ⟨18, 0, some 0⟩) 3 3], (⟨19, .cells [.string (wv ws 2), .string (wv ws 1), .string (wv ws 0)] 9 5 1 :: oW ys e :: r0⟩ : Heap), []) :=
  bzW3 (lf + 100) kind off r0 ys e ws.length cap _ _ (wv ws 0) (wv ws 1) (wv ws 2) hk (loopBz3 lf kind off r0 ys e cap ws hys hl hz hc)
theorem bdz4 (lf : Nat) (kind off : Int) (r0 : List AObj) (ys : List Value) (e cap : Nat) (ws : List ByteArray) (hys : WsOk ws ys) (hl : ws.length ≤ 20) (hz : ∀ w ∈ ws, w.size < lf + 100 ∧ w.size ≤ 9223372036854775807) (hc : ws.length = 4) (hk : kind = 0) : evB (lf + 100) 19 17 [.int .i64 kind, .int .i64 off, aW ws.length cap] ⟨18, oW ys e :: r0⟩ = some (.tuple #[.nilIface, .slice (some ⟨18, 0, some 0⟩) 4 4], (⟨19, .cells [.string (wv ws 3), .string (wv ws 2), .string (wv ws 1), .string (wv ws 0)] 9 5 1 :: oW ys e :: r0⟩ : Heap), []) :=
  bzW4 (lf + 100) kind off r0 ys e ws.length cap _ _ (wv ws 0) (wv ws 1) (wv ws 2) (wv ws 3) hk (loopBz4 lf kind off r0 ys e cap ws hys hl hz hc)
theorem bdz5 (lf : Nat) (kind off : Int) (r0 : List AObj) (ys : List Value) (e cap : Nat) (ws : List ByteArray) (hys : WsOk ws ys) (hl : ws.length ≤ 20) (hz : ∀ w ∈ ws, w.size < lf + 100 ∧ w.size ≤ 9223372036854775807) (hc : ws.length = 5) (hk : kind = 0) : evB (lf + 100) 19 17 [.int .i64 kind, .int .i64 off, aW ws.length cap] ⟨18, oW ys e :: r0⟩ = some (.tuple #[.nilIface, .slice (some ⟨18, 0, some 0⟩) 5 5], (⟨19, .cells [.string (wv ws 4), .string (wv ws 3), .string (wv ws 2), .string (wv ws 1), .string (wv ws 0)] 9 5 1 :: oW ys e :: r0⟩ : Heap), []) :=
  bzW5 (lf + 100) kind off r0 ys e ws.length cap _ _ (wv ws 0) (wv ws 1) (wv ws 2) (wv ws 3) (wv ws 4) hk (loopBz5 lf kind off r0 ys e cap ws hys hl hz hc)
theorem bdz6 (lf : Nat) (kind off : Int) (r0 : List AObj) (ys : List Value) (e cap : Nat) (ws : List ByteArray) (hys : WsOk ws ys) (hl : ws.length ≤ 20) (hz : ∀ w ∈ ws, w.size < lf + 100 ∧ w.size ≤ 9223372036854775807) (hc : ws.length = 6) (hk : kind = 0) : evB (lf + 100) 19 17 [.int .i64 kind, .int .i64 off, aW ws.length cap] ⟨18, oW ys e :: r0⟩ = some (.tuple #[.nilIface, .slice (some ⟨18, 0, some 0⟩) 6 6], (⟨19, .cells [.string (wv ws 5), .string (wv ws 4), .string (wv ws 3), .string (wv ws 2), .string (wv ws 1), .string (wv ws 0)] 9 5 1 :: oW ys e :: r0⟩ : Heap), []) :=
  bzW6 (lf + 100) kind off r0 ys e ws.length cap _ _ (wv ws 0) (wv ws 1) (wv ws 2) (wv ws 3) (wv ws 4) (wv ws 5) hk (loopBz6 lf kind off r0 ys e cap ws hys hl hz hc)
theorem bdz7 (lf : Nat) (kind off : Int) (r0 : List AObj) (ys : List Value) (e cap : Nat) (ws : List ByteArray) (hys : WsOk ws ys) (hl : ws.length ≤ 20) (hz : ∀ w ∈ ws, w.size < lf + 100 ∧ w.size ≤ 9223372036854775807) (hc : ws.length = 7) (hk : kind = 0) : evB (lf + 100) 19 17 [.int .i64 kind, .int .i64 off, aW ws.length cap] ⟨18, oW ys e :: r0⟩ = some (.tuple #[.nilIface, .slice (some ⟨18, 0, some 0⟩) 7 7], (⟨19, .cells [.string (wv ws 6), .string (wv ws 5), .string (wv ws 4), .string (wv ws 3), .string (wv ws 2), .string (wv ws 1), .string (wv ws 0)] 9 5 1 :: oW ys e :: r0⟩ : Heap), []) :=
  bzW7 (lf + 100) kind off r0 ys e ws.length cap _ _ (wv ws 0) (wv ws 1) (wv ws 2) (wv ws 3) (wv ws 4) (wv ws 5) (wv ws 6) hk (loopBz7 lf kind off r0 ys e cap ws hys hl hz hc)
theorem bdz8 (lf : Nat) (kind off : Int) (r0 : List AObj) (ys : List Value) (e cap : Nat) (ws : List ByteArray) (hys : WsOk ws ys) (hl : ws.length ≤ 20) (hz : ∀ w ∈ ws, w.size < lf + 100 ∧ w.size ≤ 9223372036854775807) (hc : 8 ≤ ws.length) (hk : kind = 0) : evB (lf + 100) 19 17 [.int .i64 kind, .int .i64 off, aW ws.length cap] ⟨18, oW ys e :: r0⟩ = some (.tuple #[.nilIface, .slice (some ⟨18, 0, some 0⟩) 8 8], (⟨19, .cells [.string (wv ws 7), .string (wv ws 6), .string (wv ws 5), .string (wv ws 4), .string (wv ws 3), .string (wv ws 2), .string (wv ws 1), .string (wv ws 0)] 9 5 1 :: oW ys e :: r0⟩ : Heap), []) :=
  bzW8 (lf + 100) kind off r0 ys e ws.length cap _ _ (wv ws 0) (wv ws 1) (wv ws 2) (wv ws 3) (wv ws 4) (wv ws 5) (wv ws 6) (wv ws 7) hk (loopBz8 lf kind off r0 ys e cap ws hys hl hz hc)
theorem bdzn (lf : Nat) (kind off : Int) (r0 : List AObj) (X : AObj) (hk : kind = 0) : evB (lf + 100) 19 17 [.int .i64 kind, .int .i64 off, .slice none 0 0] ⟨18, X :: r0⟩ = some (.tuple #[.nilIface, .slice none 0 0], (⟨18, X :: r0⟩ : Heap), []) :=
  bzWn (lf + 100) kind off r0 X hk (fun s0 h0 => Dg.evLoop_stop h0 (bzCn _ kind off r0 X) (by simp))
end Go.Proofs.YtpgddboigegplaaGreatDoor.base
