/- fault.Notes: the words of notes around a fault. slices.Equal of two slices of the same texts. Are words too many, or too long, to be gone through? A fault with notes around it, as the row builds it. 'build' of the row: the walk. The reference's Parse, in a world of the model. -/
import Derived.Test.YtpgddboigegplaaGreatDoorRows
import Derived.Test.YtpgddboigegplaaGreatDoorFgA
import Derived.Deep.RegionHeld3
import Derived.Deep.AppendLies
import Derived.OwnWalk
import Derived.Deep.QuietTactic
import Derived.BigQuiet
import Derived.Laws.OwnMore
import Derived.Laws.AppendOwnNone
namespace Go.Proofs.YtpgddboigegplaaGreatDoor.base
open Go.RowKit Go.Extern.Stop Go.Stop Go.Extern
set_option linter.unusedVariables false

theorem info9 : (Tryz.prog.info? 9).map (fun i => (i.zero, i.size, i.bytes)) = some (some (.string ⟨#[]⟩), 1, 16) := by kernel_rfl
/-- A slice of these texts. -/
def RowIs (w : World) (sv : Value) (ws : List ByteArray) : Prop := (sv = .slice none 0 0 ∧ ws = []) ∨ ∃ g cap, sv = .slice (some ⟨g, 0, none⟩) ws.length cap ∧ TextsAt w g ws
theorem RowIs.up {w w' : World} (hb : Below w.heap.size w w') {sv : Value} {ws : List ByteArray} (h : RowIs w sv ws) : RowIs w' sv ws := by
  rcases h with h | ⟨g, cap, h1, h2⟩
  · exact .inl h
  · exact .inr ⟨g, cap, h1, h2.up hb⟩
theorem row_of_own {w : World} {B : Nat} {sv : Value} {ws : List ByteArray} (h : w.ownsRow B 9 1 sv ws.length (ws.map Value.string)) : RowIs w sv ws := by
  have h0 := h
  rcases h with ⟨_, ⟨h1, h2⟩ | ⟨g, cap, cur, h1, _⟩⟩
  · exact .inl ⟨h1, List.eq_nil_of_length_eq_zero h2⟩
  · subst h1
    refine .inr ⟨g, cap, rfl, fun i hi => ?_⟩
    rw [h0.cellAt i (by omega)]
    simp [hi]
/-- Where fault.Notes stands. -/
def NoSt (W : World) (fb : Nat) (ws : List ByteArray) (g : Nat) (E out : Value) (wl : World) : Prop :=
  Below W.heap.size W wl ∧ ∃ (t : TypeId) (v sv : Value) (done rest : List ByteArray), E = .iface t v ∧ out = sv ∧ Lead W fb 0 t v (rest.map .note) ∧ wl.ownsRow W.heap.size 9 1 sv done.length (done.map Value.string) ∧ done ++ rest = ws ∧ g = rest.length
def NotesPost (W : World) (ws : List ByteArray) (e : Ending) (w' : World) : Prop := ∃ sv, e = .returned sv ∧ RowIs w' sv ws ∧ Below W.heap.size W w'
set_option maxHeartbeats 2000000 in
set_option maxRecDepth 1000000 in
theorem Notes_any (W : World) (fb : Nat) (t : TypeId) (v : Value) (ws : List ByteArray) (hl : Lead W fb 0 t v (ws.map .note)) (hn : ws.length ≤ 1000) : Calls Tryz.prog 16 #[.iface t v] W (NotesPost W ws) := by
  obtain ⟨i0, hi0, hz0, hz1, hz2⟩ := info_parts info9
  have a67 := is67_67
  have a70 := isn67_70
  have HL := Lib.hid hl
  have HN := Lib.hid hn
  clear hl hn
  go_enter Tryz.func16, Tryz.ntmps16
  go_wp2_with fail
  go_loopg [0, 3] ws.length (fun g E out wl => NoSt W fb ws g E out wl)
  case atStart => exact ⟨Below.refl _ _, t, v, _, [], ws, rfl, rfl, HL.out, World.ownsRow_nil _ _ _ _, rfl, rfl⟩
  case round =>
    obtain ⟨hb, t, v, sv, done, rest, rfl, hsv, hl, hown, hws, hg⟩ := hrel
    have hsv := hsv.symm
    subst hsv
    cases rest with
    | nil =>
      cases hl
      have HD := Lib.hid (And.intro hws hown)
      clear hws hown hg
      go_wp2_with fail
      go_ret
      refine ⟨_, rfl, ?_, hb⟩
      have h1 := HD.out.1
      rw [List.append_nil] at h1
      rw [← h1]
      exact row_of_own HD.out.2
    | cons s rest =>
      cases hl with
      | note pb po _ t v _ c0 c1 h3 =>
        have hlen : done.length + 1 ≤ 1000 := by
          have := HN.out
          rw [← hws] at this
          simp at this; omega
        have h3' := Lib.hid h3
        have HW := Lib.hid (And.intro hws (And.intro hg hb))
        have HO := Lib.hid hown
        have hbs := hb.size
        have hne : sv.ownBlock ≠ some pb := fun e => by
          have h1 := (hown.lt pb e).1
          have h2 : pb < W.heap.size := Lib.lt_of_cell c0
          omega
        have c0 := cell_up hb c0
        have c1 := cell_up hb c1
        have lpb : pb < wr.heap.size := Lib.lt_of_cell c0
        clear h3 hws hg hb hown
        go_wp2_with fail
        go_region_held3 (fun w' => w'.cell? ⟨pb, po, none⟩ = some (.string s) ∧ w'.cell? ⟨pb, po + 1, none⟩ = some (.iface t v))
          (first
            | go_keep
            | (go_split_ands
               refine ⟨?_, ?_⟩
               · (rw [hgrow.cell_far _ (by simp; omega) (Ne.symm hne)]; assumption)
               · (rw [hgrow.cell_far _ (by simp; omega) (Ne.symm hne)]; assumption)))
          ((refine step_append_lies _ (by rfl) _ _ _ (by rfl) W.heap.size 9 i0 _ 1 16 Tryz.underlying22 hi0 hz0 hz1 hz2 rfl (by omega) sv done.length (done.map Value.string) (by rfl) ((HO.out.alloc _).drew) ⟨wr.heap.size, 0, none⟩ 1 1 [.string s] (by rfl) (by rfl) (World.news_of_block (cs := #[.string s]) (t := 9) (fr := (0, 0)) (heap_alloc_new wr _)) (by simp [Value.oneCell']) (by omega) (by unfold maxLen; omega) (by omega) (by simp; omega) (wr.heap.size + 1) (by simp) ?_; intro gg cap w1 hown1 hgrow hat hlt))
        have hW1 : Below W.heap.size W w1 := ((HW.out.2.2.alloc hbs (.cells #[.string s] 9)).drew).grown hgrow (by simp; omega) (fun k hk => (HO.out.lt k hk).1)
        have HG := Lib.hid (And.intro hown1 hW1)
        clear hown1 hgrow hat hlt hW1 c0 c1
        go_wp2_with fail
        go_roundg rest.length
        case measure =>
          have := HW.out.2.1
          rw [List.length_cons] at this; omega
        case rel =>
          refine ⟨HG.out.2, t, v, _, done ++ [s], rest, rfl, rfl, h3'.out, ?_, by rw [List.append_assoc]; exact HW.out.1, rfl⟩
          have := HG.out.1
          rw [List.length_append, List.map_append]
          exact this
end Go.Proofs.YtpgddboigegplaaGreatDoor.base

namespace Go.Proofs.YtpgddboigegplaaGreatDoor.base
open Go.RowKit Go.Extern.Stop Go.Stop Go.Extern
set_option linter.unusedVariables false

set_option maxRecDepth 1000000 in
theorem equal_nil (W : World) (a b : Option Addr) (c d : Nat) : Calls Tryz.prog 19 #[.slice a 0 c, .slice b 0 d] W fun e w' => e = .returned (.bool true) ∧ Below W.heap.size W w' := by
  go_enter Tryz.func19, Tryz.ntmps19
  go_wp2_with fail
  refine wp_loop_rounds 1 ?_
  rw [rounds_succ]
  go_wp2_with fail
  go_ret
  exact ⟨rfl, Below.refl _ _⟩
set_option maxHeartbeats 1000000 in
set_option maxRecDepth 1000000 in
theorem equal_some (W : World) (g1 g2 c d : Nat) (ws : List ByteArray) (h1 : TextsAt W g1 ws) (h2 : TextsAt W g2 ws) (hn : ws.length ≤ 1000) :
    Calls Tryz.prog 19 #[.slice (some ⟨g1, 0, none⟩) ws.length c, .slice (some ⟨g2, 0, none⟩) ws.length d] W fun e w' => e = .returned (.bool true) ∧ Below W.heap.size W w' := by
  have H1 := Lib.hid h1
  have H2 := Lib.hid h2
  clear h1 h2
  have hne : (((ws.length : Int) == (ws.length : Int))) = true := by simp
  go_enter Tryz.func19, Tryz.ntmps19
  go_wp2_with fail
  go_loopg [13] ws.length (fun g i wl => Below W.heap.size W wl ∧ ∃ j : Nat, i = .int .i64 j ∧ j + g = ws.length)
  case atStart => exact ⟨Below.refl _ _, 0, rfl, by omega⟩
  case round =>
    obtain ⟨hb, j, rfl, hj⟩ := hrel
    by_cases hlt : j < ws.length
    · have c1 := cell_up hb (H1.out j hlt)
      have c2 := cell_up hb (H2.out j hlt)
      have hj0 : (0 : Int) ≤ (j : Int) := Int.natCast_nonneg _
      have hj1 : (j : Int) < (ws.length : Int) := by omega
      generalize ws[j] = s at c1 c2
      have hs : (!(s.toList == s.toList)) = false := by simp
      go_wp2_with fail
      go_quiet (fail)
      go_wp2_with fail
      go_roundg (ws.length - (j + 1))
      case measure => omega
      case rel => exact ⟨hb.trans ⟨rfl, rfl, rfl, Nat.le_refl _, fun _ _ => rfl⟩, j + 1, by go_num, by omega⟩
    · obtain rfl : j = ws.length := by omega
      go_wp2_with fail
      go_ret
      exact ⟨rfl, hb⟩
theorem equal_any (W : World) (sv1 sv2 : Value) (ws : List ByteArray) (h1 : RowIs W sv1 ws) (h2 : RowIs W sv2 ws) (hn : ws.length ≤ 1000) : Calls Tryz.prog 19 #[sv1, sv2] W fun e w' => e = .returned (.bool true) ∧ Below W.heap.size W w' := by
  by_cases h0 : ws = []
  · subst h0
    rcases h1 with ⟨rfl, _⟩ | ⟨g, c, rfl, _⟩ <;> rcases h2 with ⟨rfl, _⟩ | ⟨g', c', rfl, _⟩ <;> exact equal_nil W _ _ _ _
  · rcases h1 with ⟨_, e⟩ | ⟨g, c, rfl, h1⟩
    · exact absurd e h0
    rcases h2 with ⟨_, e⟩ | ⟨g', c', rfl, h2⟩
    · exact absurd e h0
    exact equal_some W g g' c c' ws h1 h2 hn
end Go.Proofs.YtpgddboigegplaaGreatDoor.base

namespace Go.Proofs.YtpgddboigegplaaGreatDoor.base
open Go.RowKit Go.Extern.Stop Go.Stop Go.Extern
set_option linter.unusedVariables false

/-- How many bytes words have, as an int counts them. -/
def hvN (ws : List ByteArray) : Int := ws.foldl (fun a w => wrap64 (a + (w.size : Int))) 0
/-- A slice of texts at a place. -/
def Words (W : World) (sv : Value) (ws : List ByteArray) : Prop := (sv = .slice none 0 0 ∧ ws = []) ∨ ∃ b off cap, sv = .slice (some ⟨b, off, none⟩) ws.length cap ∧ ∀ i (h : i < ws.length), W.cell? ⟨b, off + i, none⟩ = some (.string ws[i])
theorem hv_step (ws : List ByteArray) (j : Nat) (h : j < ws.length) : hvN (ws.take (j + 1)) = wrap64 (hvN (ws.take j) + (ws[j].size : Int)) := by
  unfold hvN
  rw [List.take_succ_eq_append_getElem h, List.foldl_append]
  rfl
/-- Whether words are too many or too long. -/
def heavyB (ws : List ByteArray) : Bool := decide (20 < ws.length) || decide (1000 < hvN ws)
theorem heavyB_f {ws : List ByteArray} (h : heavyB ws = false) : ws.length ≤ 20 := by
  unfold heavyB at h
  simp only [Bool.or_eq_false_iff, decide_eq_false_iff_not] at h
  omega
def HvPost (W : World) (ws : List ByteArray) (e : Ending) (w' : World) : Prop := e = .returned (.bool (heavyB ws)) ∧ Below W.heap.size W w'
set_option maxRecDepth 1000000 in
theorem heavy_nil (W : World) : Calls Tryz.prog 8 #[.slice none 0 0] W fun e w' => e = .returned (.bool false) ∧ Below W.heap.size W w' := by
  go_enter Tryz.func8, Tryz.ntmps8
  go_wp2_with fail
  refine wp_loop_rounds 1 ?_
  rw [rounds_succ]
  go_wp2_with fail
  go_ret
  exact ⟨rfl, Below.refl _ _⟩
set_option maxHeartbeats 1000000 in
set_option maxRecDepth 1000000 in
theorem heavy_some (W : World) (b off cap : Nat) (ws : List ByteArray) (hc : ∀ i (h : i < ws.length), W.cell? ⟨b, off + i, none⟩ = some (.string ws[i])) (hm : ws.length ≤ 9223372036854775807) :
    Calls Tryz.prog 8 #[.slice (some ⟨b, off, none⟩) ws.length cap] W (HvPost W ws) := by
  have HC := Lib.hid hc
  clear hc
  go_enter Tryz.func8, Tryz.ntmps8
  go_wp2_with fail
  go_loopg [3, 8] ws.length (fun g n i wl => wl = W ∧ ∃ j : Nat, i = .int .i64 j ∧ j + g = ws.length ∧ n = .int .i64 (hvN (ws.take j)))
  case atStart => exact ⟨rfl, 0, rfl, by omega, rfl⟩
  case round =>
    obtain ⟨rfl, j, rfl, hj, rfl⟩ := hrel
    by_cases hlt : j < ws.length
    · have c1 := HC.out j hlt
      have hst := hv_step ws j hlt
      generalize ws[j] = s at c1 hst
      have HST := Lib.hid hst
      clear hst
      generalize hvN (ws.take j) = m at HST
      go_wp2_with fail
      go_roundg (ws.length - (j + 1))
      case measure => omega
      case rel => exact ⟨rfl, j + 1, by go_num, by omega, by rw [HST.out]⟩
    · obtain rfl : j = ws.length := by omega
      rw [List.take_length]
      by_cases h20 : 20 < ws.length
      · have hl20 : decide ((20 : Int) < (ws.length : Int)) = true := by simp; omega
        have HH : Hid (heavyB ws = true) := Lib.hid (by unfold heavyB; rw [decide_eq_true h20, Bool.true_or])
        clear h20
        go_wp2_with fail
        go_ret
        exact ⟨by rw [HH.out]; rfl, Below.refl _ _⟩
      have hl20 : decide ((20 : Int) < (ws.length : Int)) = false := by simp; omega
      by_cases h1 : 1000 < hvN ws
      · have h1' : decide ((1000 : Int) < hvN ws) = true := by simpa using h1
        have HH : Hid (heavyB ws = true) := Lib.hid (by unfold heavyB; rw [decide_eq_true h1, Bool.or_true])
        clear h1 h20
        go_wp2_with fail
        go_ret
        exact ⟨by rw [HH.out]; rfl, Below.refl _ _⟩
      · have h1' : decide ((1000 : Int) < hvN ws) = false := by simpa using h1
        have HH : Hid (heavyB ws = false) := Lib.hid (by unfold heavyB; rw [decide_eq_false h1, decide_eq_false h20]; rfl)
        clear h1 h20
        go_wp2_with fail
        go_ret
        exact ⟨by rw [HH.out]; rfl, Below.refl _ _⟩
theorem heavy_any (W : World) (sv : Value) (ws : List ByteArray) (h : Words W sv ws) (hm : ws.length ≤ 9223372036854775807) : Calls Tryz.prog 8 #[sv] W (HvPost W ws) := by
  rcases h with ⟨rfl, rfl⟩ | ⟨b, off, cap, rfl, hc⟩
  · exact (heavy_nil W).mono fun e w' ⟨h1, h2⟩ => ⟨h1, h2⟩
  · exact heavy_some W b off cap ws hc hm
end Go.Proofs.YtpgddboigegplaaGreatDoor.base

namespace Go.Proofs.YtpgddboigegplaaGreatDoor.base
open Go.RowKit Go.Extern.Stop Go.Stop Go.Extern
set_option linter.unusedVariables false

theorem word_32 (s : ByteArray) : (wordOf s).size ≤ 32 := by
  unfold wordOf
  by_cases h : mayL s.data.toList = true
  · rw [if_pos h]
    unfold mayL at h
    simp only [Bool.and_eq_true] at h
    have h2 := Nat.le_of_ble_eq_true h.2.1
    rw [Lib.size_eq]; exact h2
  · rw [if_neg h]
    show qm.size ≤ 32
    decide
/-- None of the kind OK; else notes around a fault. -/
def EOk (k o : Int) (E : Value) (w : World) : Prop := (k = 0 ∧ E = .nilIface) ∨ (k ≠ 0 ∧ ∃ (t : TypeId) (v : Value) (fb : Nat) (ns : List ByteArray), E = .iface t v ∧ Lead w fb 0 t v (ns.map .note) ∧ FaultAt w fb 0 k o ∧ ns.length ≤ 8 ∧ ∀ p ∈ ns, ByteArray.size p ≤ 32)
theorem EOk.up {w w' : World} (hb : Below w.heap.size w w') {k o : Int} {E : Value} (h : EOk k o E w) : EOk k o E w' := by
  rcases h with h | ⟨h0, t, v, fb, ns, h1, h2, h3, h4⟩
  · exact .inl h
  · exact .inr ⟨h0, t, v, fb, ns, h1, h2.up hb, h3.up hb, h4⟩
def EPost (W : World) (k o : Int) (e : Ending) (w' : World) : Prop := ∃ E, e = .returned E ∧ EOk k o E w' ∧ Below W.heap.size W w'
set_option maxRecDepth 1000000 in
theorem new_ok (k o : Int) (W : World) : Calls Tryz.prog 24 #[.int .i64 k, .int .i64 o] W (EPost W k o) := by
  by_cases hk : k = 0
  · subst hk
    go_enter Tryz.func24, Tryz.ntmps24
    go_wp2_with fail
    go_ret
    exact ⟨_, rfl, .inl ⟨rfl, rfl⟩, Below.refl _ _⟩
  · refine (new_any k o (by simpa using hk) W).mono ?_
    rintro e w' ⟨rfl, rfl⟩
    exact ⟨_, rfl, .inr ⟨hk, 70, _, _, [], rfl, .fault, two_cells W _ _ 73, by simp, fun p hp => by cases hp⟩, (Below.refl _ _).alloc (Nat.le_refl _) _⟩
set_option maxRecDepth 1000000 in
theorem wrap_nil (s : ByteArray) (W : World) : Calls Tryz.prog 10 #[.nilIface, .string s] W fun e w' => e = .returned .nilIface ∧ Below W.heap.size W w' := by
  go_enter Tryz.func10, Tryz.ntmps10
  go_wp2_with fail
  go_ret
  exact ⟨rfl, Below.refl _ _⟩
theorem wrap_ok (W : World) (k o : Int) (E : Value) (h : EOk k o E W) (s : ByteArray) (hs : s.size ≤ 9223372036854775807) : Calls Tryz.prog 10 #[E, .string s] W (EPost W k o) := by
  rcases h with ⟨h0, rfl⟩ | ⟨h0, t, v, fb, ns, rfl, h2, h3, h4, h5⟩
  · exact (wrap_nil s W).mono fun e w' ⟨h1, h2⟩ => ⟨_, h1, .inl ⟨h0, rfl⟩, h2⟩
  · rcases wrap_lead W fb 0 k o h3 t v _ h2 (by simp; omega) s (by omega) with ⟨hc, hw⟩ | ⟨_, hw⟩
    · rw [lk_cnt] at hc
      refine hw.mono ?_
      rintro e w' ⟨B, rfl, c0, c1, hb⟩
      refine ⟨_, rfl, .inr ⟨h0, 67, _, fb, wordOf s :: ns, rfl, .note B 0 _ t v _ c0 c1 (h2.up hb), h3.up hb, by rw [List.length_cons]; omega, fun p hp => ?_⟩, hb⟩
      rcases List.mem_cons.1 hp with rfl | hp
      · exact word_32 s
      · exact h5 p hp
    · refine hw.mono ?_
      rintro e w' ⟨rfl, hb⟩
      exact ⟨_, rfl, .inr ⟨h0, t, v, fb, ns, rfl, h2.up hb, h3.up hb, h4, h5⟩, hb⟩
theorem word_any (s : ByteArray) (hs : s.size ≤ 9223372036854775807) (W : World) : Calls Tryz.prog 33 #[.string s] W fun e w' => e = .returned (.string (wordOf s)) ∧ Below W.heap.size W w' := (word_flats s (by omega)).2.2 W
end Go.Proofs.YtpgddboigegplaaGreatDoor.base

namespace Go.Proofs.YtpgddboigegplaaGreatDoor.base
open Go.RowKit Go.Extern.Stop Go.Stop Go.Extern
set_option linter.unusedVariables false

def BuildPost (W : World) (k o : Int) (e : Ending) (w' : World) : Prop := ∃ E has, e = .returned (.tuple #[E, has]) ∧ EOk k o E w' ∧ Below W.heap.size W w'
/-- Where 'build' stands. -/
def BSt (W : World) (k o : Int) (n : Nat) (g : Nat) (E has i : Value) (wl : World) : Prop :=
  Below W.heap.size W wl ∧ ∃ (j : Nat) (F h : Value) (xs : List ByteArray), i = .int .i64 j ∧ j + g = n ∧ E = F ∧ has = h ∧ EOk k o F wl ∧ RowIs wl h xs ∧ xs.length ≤ j
set_option maxHeartbeats 4000000 in
set_option maxRecDepth 1000000 in
theorem build_some (W : World) (k o : Int) (b off cap : Nat) (ws : List ByteArray) (hc : ∀ i (h : i < ws.length), W.cell? ⟨b, off + i, none⟩ = some (.string ws[i])) (hl : ws.length ≤ 20) (hz : ∀ w ∈ ws, w.size ≤ 9223372036854775807) :
    Calls Tryz.prog 17 #[.int .i64 k, .int .i64 o, .slice (some ⟨b, off, none⟩) ws.length cap] W (BuildPost W k o) := by
  obtain ⟨i0, hi, hz0, hz1, hz2⟩ := info_parts info9
  have HC := Lib.hid hc
  have HZ := Lib.hid hz
  clear hc hz
  go_enter Tryz.func17, Tryz.ntmps17
  go_wp2_with (go_at_call 24; refine (new_ok k o _).mono ?_; rintro e w1 ⟨E0, rfl, hE0, hb1⟩; have HE0 := Lib.hid hE0; clear hE0)
  go_loopg [8, 9, 17] ws.length (fun g E has i wl => BSt W k o ws.length g E has i wl)
  case atStart => exact ⟨hb1, 0, _, _, [], rfl, by omega, rfl, rfl, HE0.out, .inl ⟨rfl, rfl⟩, by simp⟩
  case round =>
    obtain ⟨hb, j, F, h, xs, rfl, hj, hF, hh, hE, hR, hxs⟩ := hrel
    have hF := hF.symm
    have hh := hh.symm
    subst hF hh
    have HE := Lib.hid hE
    have HB := Lib.hid hb
    clear hE
    by_cases hlt : j < ws.length
    · have c1 := cell_up hb (HC.out j hlt)
      have hsz := HZ.out ws[j] (List.getElem_mem hlt)
      generalize ws[j] = s at c1 hsz
      by_cases h8 : j < 8
      · rcases hR with ⟨rfl, rfl⟩ | ⟨g, cp, rfl, hT⟩
        · clear hb
          go_wp2_with (first
            | (go_at_call 10; refine (wrap_ok _ k o _ HE.out s hsz).mono ?_; rintro e w2 ⟨E2, rfl, hE2, hb2⟩; have HE2 := Lib.hid hE2; clear hE2)
            | (go_at_call 33; refine (word_any s hsz _).mono ?_; rintro e w3 ⟨rfl, hb3⟩)
            | (at_builtin; refine wpList_append_own_none rfl _ _ 22 rfl w3.heap.size 9 i0 1 Tryz.underlying22 hi _ 1 _ rfl (World.ownsRow_lit w3 #[.string (wordOf s)] 1 (Nat.le_refl _) (by decide) (by rfl)) rfl ?_))
          go_roundg (ws.length - (j + 1))
          case measure => omega
          case rel =>
            have hbn := (HB.out.trans ((hb2.trans (hb3.mono hb2.size)).mono HB.out.size)).alloc (by have := HB.out.size; have := hb2.size; have := hb3.size; omega) (.cells #[.string (wordOf s)] 9)
            have hb4 := (Below.refl w3.heap.size w3).alloc (Nat.le_refl _) (.cells #[.string (wordOf s)] 9)
            exact ⟨hbn, j + 1, _, _, [wordOf s], by go_num, by omega, rfl, rfl, (HE2.out.up hb3).up hb4, .inr ⟨_, 1, rfl, texts_new w3 [wordOf s] 9⟩, by simp⟩
        · have HT := Lib.hid (hT.up (Below.refl _ _))
          have hgl : xs.length ≤ 20 := by omega
          clear hb hT
          go_wp2_with (first
            | (go_at_call 10; refine (wrap_ok _ k o _ HE.out s hsz).mono ?_; rintro e w2 ⟨E2, rfl, hE2, hb2⟩; have HE2 := Lib.hid hE2; clear hE2)
            | (go_at_call 33; refine (word_any s hsz _).mono ?_; rintro e w3 ⟨rfl, hb3⟩)
            | (at_builtin; refine wpList_append_own _ rfl _ _ 22 rfl w3.heap.size 9 i0 _ 1 16 Tryz.underlying22 hi hz0 hz1 hz2 rfl (by decide) _ 1 _ rfl (World.ownsRow_lit w3 #[.string (wordOf s)] 1 (Nat.le_refl _) (by decide) (by rfl)) ⟨g, 0, none⟩ xs.length cp (xs.map Value.string) rfl (by simp) ?c1 ?c2 ?c3 ?c4 ?c5 ?_))
          case c1 =>
            intro i u hu
            have hil : i < xs.length := by
              rcases Nat.lt_or_ge i xs.length with h | h
              · exact h
              · rw [List.getElem?_eq_none (by simpa using h)] at hu; cases hu
            rw [List.getElem?_map, List.getElem?_eq_getElem hil] at hu
            cases hu
            have h1 := HT.out i hil
            have hadd : (⟨g, 0, none⟩ : Addr).add i = ⟨g, i, none⟩ := by unfold Addr.add; split <;> simp_all
            rw [hadd]
            exact cell_up ((Below.refl w3.heap.size w3).alloc (Nat.le_refl _) _) (cell_up (hb2.trans (hb3.mono hb2.size)) h1)
          case c2 =>
            intro u hu
            obtain ⟨x, _, rfl⟩ := List.mem_map.1 hu
            rfl
          case c3 => unfold maxLen; omega
          case c4 => omega
          case c5 => simp
          intro v' w5 hown hgrow _
          have hbn := (HB.out.trans ((hb2.trans (hb3.mono hb2.size)).mono HB.out.size)).alloc (by have := HB.out.size; have := hb2.size; have := hb3.size; omega) (.cells #[.string (wordOf s)] 9)
          have hb4 := (Below.refl w3.heap.size w3).alloc (Nat.le_refl _) (.cells #[.string (wordOf s)] 9)
          have hk : ∀ k', (Value.slice (some ⟨w3.heap.size, 0, none⟩) 1 1).ownBlock = some k' → w3.heap.size ≤ k' := fun k' e => by
            have e2 : some w3.heap.size = some k' := e
            injection e2 with e3
            omega
          have hs3 : W.heap.size ≤ w3.heap.size := by have := HB.out.size; have := hb2.size; have := hb3.size; omega
          have hb5 := hb4.grown hgrow (by simp) hk
          have hbW := hbn.grown hgrow (by simp; omega) (fun k' e => Nat.le_trans hs3 (hk k' e))
          have hrow : RowIs w5 v' (wordOf s :: xs) := row_of_own (B := w3.heap.size) (by
            have e : (wordOf s :: xs).length = 1 + xs.length := by rw [List.length_cons]; omega
            rw [e]; exact hown)
          have HH := Lib.hid (And.intro hbW (And.intro hb5 hrow))
          clear hown hgrow hbn hb4 hk hs3 hb5 hbW hrow
          go_wp2_with fail
          go_roundg (ws.length - (j + 1))
          case measure => omega
          case rel => exact ⟨HH.out.1, j + 1, _, _, wordOf s :: xs, by go_num, by omega, rfl, rfl, (HE2.out.up hb3).up HH.out.2.1, HH.out.2.2, by rw [List.length_cons]; omega⟩
      · have HR := Lib.hid hR
        clear hb hR
        go_wp2_with (go_at_call 10; refine (wrap_ok _ k o _ HE.out s hsz).mono ?_; rintro e w2 ⟨E2, rfl, hE2, hb2⟩; have HE2 := Lib.hid hE2; clear hE2)
        go_roundg (ws.length - (j + 1))
        case measure => omega
        case rel => exact ⟨HB.out.trans (hb2.mono HB.out.size), j + 1, _, _, xs, by go_num, by omega, rfl, rfl, HE2.out, HR.out.up hb2, by omega⟩
    · obtain rfl : j = ws.length := by omega
      go_wp2_with fail
      go_ret2
      exact ⟨_, _, rfl, HE.out, HB.out⟩
set_option maxRecDepth 1000000 in
theorem build_nil (W : World) (k o : Int) : Calls Tryz.prog 17 #[.int .i64 k, .int .i64 o, .slice none 0 0] W (BuildPost W k o) := by
  go_enter Tryz.func17, Tryz.ntmps17
  go_wp2_with (go_at_call 24; refine (new_ok k o _).mono ?_; rintro e w1 ⟨E0, rfl, hE0, hb1⟩; have HE0 := Lib.hid hE0; clear hE0)
  refine wp_loop_rounds 1 ?_
  rw [rounds_succ]
  go_wp2_with fail
  go_ret2
  exact ⟨_, _, rfl, HE0.out, hb1⟩
theorem build_any (W : World) (k o : Int) (sv : Value) (ws : List ByteArray) (h : Words W sv ws) (hl : ws.length ≤ 20) (hz : ∀ w ∈ ws, w.size ≤ 9223372036854775807) : Calls Tryz.prog 17 #[.int .i64 k, .int .i64 o, sv] W (BuildPost W k o) := by
  rcases h with ⟨rfl, rfl⟩ | ⟨b, off, cap, rfl, hc⟩
  · exact build_nil W k o
  · exact build_some W k o b off cap ws hc hl hz
end Go.Proofs.YtpgddboigegplaaGreatDoor.base

namespace Go.Proofs.YtpgddboigegplaaGreatDoor.base
open Go.RowKit
open Go.Dg (Heap AObj SCall embOf heapOf)
set_option linter.unusedVariables false

def RefYes (W : World) (ws : List (List UInt8)) (k o : Int) (e : Ending) (w' : World) : Prop := ∃ sv, e = .returned (.tuple #[sv, .int .i64 k, .int .i64 o, .bool true]) ∧ RowIs w' sv (ws.map bs) ∧ Below W.heap.size W w'
def RefNo (W : World) (e : Ending) (w' : World) : Prop := e = .returned (.tuple #[.slice none 0 0, .int .i64 0, .int .i64 0, .bool false]) ∧ Below W.heap.size W w'
theorem empty_rel (W : World) : Dg.HRel (embOf []) W.heap.size ⟨0, []⟩ W := Dg.hrel_listG [] (fun x hx => by cases hx)
theorem ref_no_calls (W : World) (x : List UInt8) (hx : x.length ≤ 1000) (h : ∀ ws k o, ¬ Dec x ws k o) : Calls Tryz.prog 23 #[.string (bs x)] W (RefNo W) := by
  have hs := ref_no x (ref_not x hx h) ⟨0, []⟩
  refine (hs.1 W.heap.size _ W #[.string (bs x)] (empty_rel W) (Dg.LRel.of_flat _ rfl)).mono ?_
  rintro e w' ⟨M', v', rfl, hv, st⟩
  exact ⟨by rw [hv.eq_of_flat rfl]; rfl, st.below (empty_rel W)⟩
theorem ref_yes_calls (W : World) (x : List UInt8) (ws : List (List UInt8)) (k o : Int) (h : Dec x ws k o) : Calls Tryz.prog 23 #[.string (bs x)] W (RefYes W ws k o) := by
  have hs := ref_yes x ws k o (ref_dec x ws k o h) ⟨0, []⟩
  refine (hs.1 W.heap.size _ W #[.string (bs x)] (empty_rel W) (Dg.LRel.of_flat _ rfl)).mono ?_
  rintro e w' ⟨M', v', rfl, hv, st⟩
  have hb := st.below (empty_rel W)
  cases ws with
  | nil => exact ⟨_, by rw [hv.eq_of_flat rfl]; rfl, .inl ⟨rfl, rfl⟩, hb⟩
  | cons w r =>
    obtain ⟨a', rfl, ha⟩ := hv.tuple_inv
    obtain ⟨s', r1, e1, h1, h2⟩ := ha.toList.cons_inv
    obtain ⟨k', r2, rfl, h3, h4⟩ := h2.cons_inv
    obtain ⟨o', r3, rfl, h5, h6⟩ := h4.cons_inv
    obtain ⟨b', r4, rfl, h7, h8⟩ := h6.cons_inv
    obtain rfl := h8.nil_inv
    obtain ⟨b, off, sp, hM, hsl, hsp⟩ := h1.slice_inv
    obtain rfl := h3.eq_of_flat rfl
    obtain rfl := h5.eq_of_flat rfl
    obtain rfl := h7.eq_of_flat rfl
    have ea : a' = #[s', .int .i64 k, .int .i64 o, .bool true] := Array.ext' e1
    obtain ⟨b1, o1, sp1, hM1, hO⟩ := st.rel.obj 0 rfl
    rw [hM] at hM1
    cases hM1
    obtain ⟨C, fz, g1, g2, g3, g4, _⟩ := hO
    obtain ⟨_, rfl, _⟩ := g4 (by decide)
    refine ⟨s', by rw [ea], .inr ⟨b, (w :: r).length + sp, by rw [hsl, List.length_map]; rfl, fun i hi => ?_⟩, hb⟩
    have hi' : i < (w :: r).length := by simpa using hi
    obtain ⟨v', q1, q2⟩ := g3 i (.string (bs (w :: r)[i])) (by unfold strW; rw [List.getElem?_map, List.getElem?_eq_getElem hi']; rfl)
    rw [Nat.zero_add] at q1
    unfold World.cell?
    simp only [g1]
    rw [q1, q2.eq_of_flat rfl, List.getElem_map]
    rfl
end Go.Proofs.YtpgddboigegplaaGreatDoor.base
