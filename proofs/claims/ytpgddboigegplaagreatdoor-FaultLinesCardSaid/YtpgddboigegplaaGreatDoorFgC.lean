/- The row 'FaultLines': the walk. The row 'FaultLines': the walk. -/
import Derived.Test.YtpgddboigegplaaGreatDoorRows
import Derived.Test.YtpgddboigegplaaGreatDoorFgB
import Derived.Test.YtpgddboigegplaaGreatDoorFcC
namespace Go.Proofs.YtpgddboigegplaaGreatDoor.base
open Go.RowKit Go.Extern.Stop Go.Stop Go.Extern
set_option linter.unusedVariables false

set_option maxRecDepth 1000000 in
theorem line_nil (W : World) : Calls Tryz.prog 13 #[.nilIface] W fun e w' => e = .returned (.tuple #[.string ⟨#[]⟩, .bool false]) ∧ Below W.heap.size W w' := by
  have a1 : ∀ w, (Instr.typeAssert .nilIface 27 67 true).run Tryz.prog w = .ok (.tuple #[.pointer none, .bool false]) w := fun w => by kernel_rfl
  have a2 : ∀ w, (Instr.typeAssert .nilIface 27 70 true).run Tryz.prog w = .ok (.tuple #[.pointer none, .bool false]) w := fun w => by kernel_rfl
  go_enter Tryz.func13, Tryz.ntmps13
  go_wp2_with fail
  refine wp_loop_rounds 1 ?_
  rw [rounds_succ]
  go_wp2_with fail
  go_ret2
  exact ⟨rfl, Below.refl _ _⟩
/-- The line of what was built. -/
def LPost (W : World) (e : Ending) (w' : World) : Prop := ∃ (x : List UInt8) (b : Bool), e = .returned (.tuple #[.string (bs x), .bool b]) ∧ x.length ≤ 1000 ∧ Below W.heap.size W w'
theorem short_of {ns : List ByteArray} (h : ns.length ≤ 8) (hz : ∀ p ∈ ns, p.size ≤ 32) : Short (ns.map .note) := by
  refine ⟨fun s hs => ?_, by simp; omega⟩
  obtain ⟨p, hp, e⟩ := List.mem_map.1 hs
  injection e with e
  have := hz p hp
  rw [← e]; omega
theorem line_of (W : World) (k o : Int) (hk : InR k) (ho : InR o) (htab : Tab W) (E : Value) (h : EOk k o E W) : Calls Tryz.prog 13 #[E] W (LPost W) := by
  rcases h with ⟨_, rfl⟩ | ⟨_, t, v, fb, ns, rfl, hl, hF, h8, hz⟩
  · exact (line_nil W).mono fun e w' ⟨h1, h2⟩ => ⟨[], false, h1, by simp, h2⟩
  · have hs := short_of h8 hz
    refine (Line_any W fb 0 k o hk ho hF htab hl hs).mono ?_
    rintro e w' ⟨rfl, hb⟩
    have hlv : lineV k o (ns.map .note) = .tuple #[.string (txtL k o (ns.map .note)), .bool true] := by unfold lineV; rw [lk_all]; rfl
    refine ⟨(txtL k o (ns.map .note)).data.toList, true, by rw [hlv, bs_of], ?_, hb⟩
    rw [← Lib.size_eq]
    have := txt_size k o hk ho 32 (ns.map .note) (fun s hs => by
      obtain ⟨p, hp, e⟩ := List.mem_map.1 hs
      injection e with e
      rw [← e]; exact hz p hp)
    rw [List.length_map] at this
    have h3 : ns.length * (32 + 2) ≤ 8 * 34 := Nat.mul_le_mul_right _ h8
    omega
/-- What the row asks of the world. -/
def Base (W : World) : Prop := Pre W ∧ W.cell? ⟨0, 0, none⟩ = some (rt 27)
theorem Base.up {w w' : World} (hb : Below w.heap.size w w') (h : Base w) : Base w' := ⟨h.1.up hb, cell_up hb h.2⟩
/-- Behind Parse: line, kind, place, notes. -/
structure Got (W : World) (x : List UInt8) (ws : List (List UInt8)) (k o : Int) (t : TypeId) (v : Value) : Prop where
  line : ∀ w, Below W.heap.size W w → Calls Tryz.prog 13 #[.iface t v] w fun e w' => e = .returned (.tuple #[.string (bs x), .bool true]) ∧ Below w.heap.size w w'
  kind : ∀ w, Below W.heap.size W w → Calls Tryz.prog 11 #[.iface t v] w fun e w' => e = .returned (.tuple #[.int .i64 k, .bool true]) ∧ Below w.heap.size w w'
  off : ∀ w, Below W.heap.size W w → Calls Tryz.prog 12 #[.iface t v] w fun e w' => e = .returned (.tuple #[.int .i64 o, .bool true]) ∧ Below w.heap.size w w'
  notes : ∀ w, Below W.heap.size W w → Calls Tryz.prog 16 #[.iface t v] w (NotesPost w (ws.map bs))
theorem got_of (W : World) (hB : Base W) (x : List UInt8) (ws : List (List UInt8)) (k o : Int) (hd : Dec x ws k o) (t : TypeId) (v : Value) (fb : Nat) (hl : Lead W fb 0 t v ((ws.map bs).map .note)) (hF : FaultAt W fb 0 k o) : Got W x ws k o t v := by
  have htxt := txt_of_dec hd
  obtain ⟨hw, ⟨hk, hk0, ho, _⟩, hx, h400, h8⟩ := hd
  have hsz : ∀ p ∈ ws.map bs, p.size ≤ 400 := by
    intro p hp
    obtain ⟨w, hw', rfl⟩ := List.mem_map.1 hp
    rw [bs_len]
    have : w.length ≤ (joinT ws (kindT k o)).length := by
      clear hx hw hF hl htxt h8 hp
      induction ws with
      | nil => cases hw'
      | cons u us ih =>
        simp only [joinT, List.length_append, List.length_cons]
        rcases List.mem_cons.1 hw' with rfl | h
        · omega
        · have := ih h; omega
    rw [← hx] at this
    omega
  have hs : Short ((ws.map bs).map .note) := by
    refine ⟨fun s hs => ?_, by simp; omega⟩
    obtain ⟨p, hp, e⟩ := List.mem_map.1 hs
    injection e with e
    have := hsz p hp
    rw [← e]; omega
  have hlv : lineV k o ((ws.map bs).map .note) = .tuple #[.string (bs x), .bool true] := by unfold lineV; rw [lk_all, htxt]; rfl
  refine ⟨fun w hb => ?_, fun w hb => ?_, fun w hb => ?_, fun w hb => ?_⟩
  · have := Line_any w fb 0 k o hk ho (hF.up hb) (tab_below hB.1.1 hb) (hl.up hb) hs
    rw [hlv] at this
    exact this
  · exact kind_any w fb 0 k o (hF.up hb) (cell_up hb hB.2) _ t v (hl.up hb)
  · exact off_any w fb 0 k o (hF.up hb) (cell_up hb hB.2) _ t v (hl.up hb)
  · exact Notes_any w fb t v (ws.map bs) (hl.up hb) (by simp; omega)
end Go.Proofs.YtpgddboigegplaaGreatDoor.base

namespace Go.Proofs.YtpgddboigegplaaGreatDoor.base
open Go.RowKit Go.Extern.Stop Go.Stop Go.Extern
set_option linter.unusedVariables false

set_option maxRecDepth 1000000 in
theorem row_skip (W : World) (s : ByteArray) (k o : Int) (sv : Value) (hK : Calls Tryz.prog 7 #[] W fun e w' => e = .returned (.bool true) ∧ Below W.heap.size W w') (hH : ∀ w, Below W.heap.size W w → Calls Tryz.prog 8 #[sv] w fun e w' => e = .returned (.bool true) ∧ Below w.heap.size w w') :
    Calls Tryz.prog 5 #[.string s, .int .i64 k, .int .i64 o, sv] W fun e w' => e = .returned (.bool true) ∧ Below W.heap.size W w' := by
  have HH := Lib.hid hH
  clear hH
  go_enter Tryz.func5, Tryz.ntmps5
  go_wp2_with (first
    | (go_at_call 7; refine hK.mono ?_; rintro e w1 ⟨rfl, hb1⟩)
    | (go_at_call 8; refine (HH.out _ hb1).mono ?_; rintro e w2 ⟨rfl, hb2⟩))
  go_ret
  exact ⟨rfl, hb1.trans (hb2.mono hb1.size)⟩
set_option maxHeartbeats 4000000 in
set_option maxRecDepth 1000000 in
theorem row_main (W : World) (sl : List UInt8) (hs : sl.length ≤ 1000) (k o : Int) (hk : InR k) (ho : InR o) (sv : Value) (ws : List ByteArray) (hB : Base W) (hK : Calls Tryz.prog 7 #[] W fun e w' => e = .returned (.bool true) ∧ Below W.heap.size W w')
    (hH : ∀ w, Below W.heap.size W w → Calls Tryz.prog 8 #[sv] w fun e w' => e = .returned (.bool false) ∧ Below w.heap.size w w')
    (hBd : ∀ w, Below W.heap.size W w → Calls Tryz.prog 17 #[.int .i64 k, .int .i64 o, sv] w (BuildPost w k o)) :
    Calls Tryz.prog 5 #[.string (bs sl), .int .i64 k, .int .i64 o, sv] W fun e w' => e = .returned (.bool true) ∧ Below W.heap.size W w' := by
  have hs1 : decide ((1000 : Int) < ((bs sl).size : Int)) = false := by rw [bs_len]; simp; omega
  have HH := Lib.hid hH
  have HBd := Lib.hid hBd
  have HBase := Lib.hid hB
  have HKO := Lib.hid (And.intro hk (And.intro ho hs))
  clear hH hBd hB hk ho hs
  go_enter Tryz.func5, Tryz.ntmps5
  go_wp2_with (first
    | (go_at_call 7; refine hK.mono ?_; rintro e w1 ⟨rfl, hb1⟩)
    | (go_at_call 8; refine (HH.out _ hb1).mono ?_; rintro e w2 ⟨rfl, hb2⟩; have hb2 := hb1.trans (hb2.mono hb1.size))
    | (go_at_call 17; refine (HBd.out _ hb2).mono ?_; rintro e w3 ⟨E, has, rfl, hE, hb3⟩; have hb3 := hb2.trans (hb3.mono hb2.size); have HE := Lib.hid hE; clear hE)
    | (go_at_call 13; refine (line_of _ k o HKO.out.1 HKO.out.2.1 (HBase.out.up hb3).1.1 E HE.out).mono ?_; rintro e w4 ⟨tl, bt, rfl, htl, hb4⟩; have hb4 := hb3.trans (hb4.mono hb3.size); have HTL := Lib.hid htl; clear htl))
  have hb5 := hb4.alloc hb4.size (.cells #[.string (bs sl), .string (bs tl)] 9)
  have hc2 := two_cells w4 (.string (bs sl)) (.string (bs tl)) 9
  generalize w4.heap.size = B at hc2 ⊢
  generalize w4.alloc (.cells #[.string (bs sl), .string (bs tl)] 9) = wf at hb5 hc2 ⊢
  have HF := Lib.hid (And.intro hb5 hc2)
  clear hb5 hc2 hb4 hb3 hb2 hb1 hK
  go_loopg [52] 2 (fun g i wl => Below wf.heap.size wf wl ∧ ∃ j : Nat, i = .int .i64 j ∧ j + g = 2)
  case atStart => exact ⟨Below.refl _ _, 0, rfl, rfl⟩
  case round =>
    obtain ⟨hbl, j, rfl, hj⟩ := hrel
    have hbW : Below W.heap.size W wr := HF.out.1.trans (hbl.mono HF.out.1.size)
    have hBr := HBase.out.up hbW
    have HBW := Lib.hid hbW
    by_cases hlt : j < 2
    · have hx : ∃ x : List UInt8, x.length ≤ 1000 ∧ wr.cell? ⟨B, j, none⟩ = some (.string (bs x)) := by
        have h01 : j = 0 ∨ j = 1 := by omega
        rcases h01 with rfl | rfl
        · exact ⟨sl, HKO.out.2.2, cell_up hbl HF.out.2.1⟩
        · exact ⟨tl, HTL.out, cell_up hbl HF.out.2.2⟩
      obtain ⟨x, hxl, hc⟩ := hx
      by_cases hd : ∃ ws k o, Dec x ws k o
      · obtain ⟨ws, kk, oo, hd⟩ := hd
        have hp := parse_yes wr x hBr.1 ws kk oo hd
        have hr := fun w => ref_yes_calls w x ws kk oo hd
        have hg := fun (w : World) (hb : Below wr.heap.size wr w) (t : TypeId) (v : Value) (fb : Nat) hl hF => got_of w (hBr.up hb) x ws kk oo hd t v fb hl hF
        have hwl : (ws.map bs).length ≤ 1000 := by have := hd.2.2.2.2; simp; omega
        have HR := Lib.hid hr
        have HG := Lib.hid hg
        have HWL := Lib.hid hwl
        have hne : (!((bs x).toList == (bs x).toList)) = false := by simp
        clear hr hg hwl hd hbW hBr
        go_wp2_with (first
          | (go_at_call 22; refine hp.mono ?_; rintro e w5 ⟨t, v, fb, rfl, hl, hF, hb5⟩; have HGot := Lib.hid (HG.out w5 hb5 t v fb hl hF); clear hl hF)
          | (go_at_call 23; refine (HR.out _).mono ?_; rintro e w6 ⟨sw, rfl, hrow, hb6⟩; have HRow := Lib.hid hrow; clear hrow)
          | (go_at_call 13; refine (HGot.out.line _ hb6).mono ?_; rintro e w7 ⟨rfl, hb7⟩; have hb7' := hb6.trans (hb7.mono hb6.size))
          | (go_at_call 11; refine (HGot.out.kind _ hb7').mono ?_; rintro e w8 ⟨rfl, hb8⟩; have hb8' := hb7'.trans (hb8.mono hb7'.size))
          | (go_at_call 12; refine (HGot.out.off _ hb8').mono ?_; rintro e w9 ⟨rfl, hb9⟩; have hb9' := hb8'.trans (hb9.mono hb8'.size))
          | (go_at_call 16; refine (HGot.out.notes _ hb9').mono ?_; rintro e wa ⟨sn, rfl, hrn, hba⟩; have HRn := Lib.hid hrn; clear hrn)
          | (go_at_call 19; refine (equal_any _ _ _ (ws.map bs) HRn.out (HRow.out.up ((hb7.trans (hb8.mono hb7.size)).trans ((hb9.trans (hba.mono hb9.size)).mono (hb7.trans (hb8.mono hb7.size)).size))) HWL.out).mono ?_; rintro e wb ⟨rfl, hbb⟩))
        have hz := hb9'.trans ((hba.trans (hbb.mono hba.size)).mono hb9'.size)
        have hz2 := hb5.trans (hz.mono hb5.size)
        go_roundg (2 - (j + 1))
        case measure => omega
        case rel => exact ⟨hbl.trans (hz2.mono hbl.size), j + 1, by go_num, by omega⟩
      · have hd' : ∀ ws k o, ¬ Dec x ws k o := fun ws k o h => hd ⟨ws, k, o, h⟩
        have hp := parse_no wr x hxl hBr.1 hd'
        have hr := fun w => ref_no_calls w x hxl hd'
        have HR := Lib.hid hr
        clear hr hd hd' hbW hBr
        go_wp2_with (first
          | (go_at_call 22; refine hp.mono ?_; rintro e w5 ⟨rfl, hb5⟩)
          | (go_at_call 23; refine (HR.out _).mono ?_; rintro e w6 ⟨rfl, hb6⟩))
        have hz2 := hb5.trans (hb6.mono hb5.size)
        go_roundg (2 - (j + 1))
        case measure => omega
        case rel => exact ⟨hbl.trans (hz2.mono hbl.size), j + 1, by go_num, by omega⟩
    · obtain rfl : j = 2 := by omega
      clear hbW hBr
      go_wp2_with fail
      go_ret
      exact ⟨rfl, HBW.out⟩
set_option maxRecDepth 1000000 in
theorem row_long (W : World) (s : ByteArray) (hs : 1000 < s.size) (k o : Int) (sv : Value) (hK : Calls Tryz.prog 7 #[] W fun e w' => e = .returned (.bool true) ∧ Below W.heap.size W w') (hH : ∀ w, Below W.heap.size W w → Calls Tryz.prog 8 #[sv] w fun e w' => e = .returned (.bool false) ∧ Below w.heap.size w w') :
    Calls Tryz.prog 5 #[.string s, .int .i64 k, .int .i64 o, sv] W fun e w' => e = .returned (.bool true) ∧ Below W.heap.size W w' := by
  have HH := Lib.hid hH
  have hs1 : decide ((1000 : Int) < (s.size : Int)) = true := by simp; omega
  clear hH hs
  go_enter Tryz.func5, Tryz.ntmps5
  go_wp2_with (first
    | (go_at_call 7; refine hK.mono ?_; rintro e w1 ⟨rfl, hb1⟩)
    | (go_at_call 8; refine (HH.out _ hb1).mono ?_; rintro e w2 ⟨rfl, hb2⟩))
  go_ret
  exact ⟨rfl, hb1.trans (hb2.mono hb1.size)⟩
theorem Words.up {w w' : World} (hb : Below w.heap.size w w') {sv : Value} {ws : List ByteArray} (h : Words w sv ws) : Words w' sv ws := by
  rcases h with h | ⟨b, off, cap, h1, h2⟩
  · exact .inl h
  · exact .inr ⟨b, off, cap, h1, fun i hi => cell_up hb (h2 i hi)⟩
theorem row_any (W : World) (s : ByteArray) (k o : Int) (hk : InR k) (ho : InR o) (sv : Value) (ws : List ByteArray) (hw : Words W sv ws) (hm : ws.length ≤ 9223372036854775807) (hz : ∀ w ∈ ws, w.size ≤ 9223372036854775807) (hB : Base W) (hK : Calls Tryz.prog 7 #[] W fun e w' => e = .returned (.bool true) ∧ Below W.heap.size W w') :
    Calls Tryz.prog 5 #[.string s, .int .i64 k, .int .i64 o, sv] W fun e w' => e = .returned (.bool true) ∧ Below W.heap.size W w' := by
  have hH : ∀ w, Below W.heap.size W w → Calls Tryz.prog 8 #[sv] w (HvPost w ws) := fun w hb => heavy_any w sv ws (hw.up hb) hm
  cases hv : heavyB ws with
  | true =>
    refine row_skip W s k o sv hK fun w hb => ?_
    have := hH w hb
    unfold HvPost at this
    rw [hv] at this
    exact this
  | false =>
    have hH' : ∀ w, Below W.heap.size W w → Calls Tryz.prog 8 #[sv] w fun e w' => e = .returned (.bool false) ∧ Below w.heap.size w w' := fun w hb => by
      have := hH w hb
      unfold HvPost at this
      rw [hv] at this
      exact this
    have h20 := heavyB_f hv
    by_cases hs : 1000 < s.size
    · exact row_long W s hs k o sv hK hH'
    · have := row_main W s.data.toList (by rw [← Lib.size_eq]; omega) k o hk ho sv ws hB hK hH' (fun w hb => build_any w k o sv ws (hw.up hb) h20 hz)
      rw [bs_of] at this
      exact this
end Go.Proofs.YtpgddboigegplaaGreatDoor.base
