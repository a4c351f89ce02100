/- The row 'FaultThrough': the walk. -/
import Derived.Test.YtpgddboigegplaaGreatDoorRows
import Derived.Test.YtpgddboigegplaaGreatDoorFcE
import Derived.Deep.DeepCutAuto
import Derived.Deep.CutRange
import Derived.Deep.CutBlock
namespace Go.Proofs.YtpgddboigegplaaGreatDoor.base
open Go.RowKit Go.Extern.Stop Go.Stop Go.Extern
set_option linter.unusedVariables false

set_option maxHeartbeats 2000000 in
set_option maxRecDepth 1000000 in
theorem row_some (W : World) (k o : Int) (hk : InR k) (ho : InR o) (hk0 : (k == 0) = false) (hK : Calls Tryz.prog 7 #[] W fun e w' => e = .returned (.bool true) ∧ Below W.heap.size W w') (hE : W.cell? ⟨0, 0, none⟩ = some (rt 27)) (htab : Tab W)
    (b off len cap : Nat) (hlen : len ≤ 20) (zs : List Nat) (hz : ∀ i, i < len → W.cell? ⟨b, off + i, none⟩ = some (.int .u8 ((zs.getD i 0 : Nat) : Int))) (hz2 : ∀ z ∈ zs, z < 256) :
    Calls Tryz.prog 6 #[.int .i64 k, .int .i64 o, .slice (some ⟨b, off, none⟩) len cap] W fun e w' => e = .returned (.bool true) ∧ Below W.heap.size W w' := by
  have hl20 : decide ((20 : Int) < (len : Int)) = false := by simp; omega
  have HE := Lib.hid hE
  have HT := Lib.hid htab
  have HZ := Lib.hid hz
  have HZ2 := Lib.hid hz2
  have HKO := Lib.hid (And.intro hk ho)
  clear hE htab hz hz2 hk ho
  go_enter Tryz.func6, Tryz.ntmps6
  go_wp2_with (first
    | (go_at_call 7; refine hK.mono ?_; rintro e w1 ⟨rfl, hb1⟩)
    | (go_at_call 24; refine (new_any k o hk0 _).mono ?_; rintro e w2 ⟨rfl, rfl⟩))
  have hbF : Below W.heap.size W (w1.alloc (.cells #[.int .i64 k, .int .i64 o] 73)) := hb1.alloc hb1.size _
  have hF : FaultAt (w1.alloc (.cells #[.int .i64 k, .int .i64 o] 73)) w1.heap.size 0 k o := two_cells w1 _ _ 73
  generalize w1.heap.size = fb at hF ⊢
  generalize w1.alloc (.cells #[.int .i64 k, .int .i64 o] 73) = wf at hbF hF ⊢
  clear hb1
  clear w1
  have HF := Lib.hid hF
  have HBF := Lib.hid hbF
  clear hF hbF hK
  go_loopg [8, 9, 10, 36] len (fun g e n own i wl => Below wf.heap.size wf wl ∧ ∃ j : Nat, i = .int .i64 j ∧ j + g = len ∧ RSt fb j e n own wl)
  case atStart => exact ⟨Below.refl _ _, 0, rfl, by omega, 70, _, [], 0, rfl, .fault, Nat.le_refl _, rfl, by omega, rfl, fun _ => rfl, ⟨fun s hs => (by cases hs), by simp⟩⟩
  case round =>
    obtain ⟨hbl, j, rfl, hj, t, v, l, m, rfl, hl, hlj, rfl, hm8, rfl, hown, hsh⟩ := hrel
    have hbW : Below W.heap.size W wr := HBF.out.trans (hbl.mono HBF.out.size)
    have HBW := Lib.hid hbW
    have HL := Lib.hid hl
    have HO := Lib.hid hown
    have HS := Lib.hid hsh
    clear hbW hl hown hsh
    by_cases hlt : j < len
    · have hc := cell_up HBW.out (HZ.out j hlt)
      generalize zs.getD j 0 = z at hc
      go_upto_block 2 with fail
      go_cut [8, 9, 10, 36] from 36 to 133 (fun e n own i wx => i = .int .i64 j ∧ Below wf.heap.size wf wx ∧ RSt fb (j + 1) e n own wx)
      case first =>
        have hF := HF.out.up hbl
        have h3 : z % 3 = 0 ∨ z % 3 = 1 ∨ z % 3 = 2 := by omega
        have hj20 : j ≤ 100 := by omega
        rcases h3 with h3 | h3 | h3
        · have hzr : ((z : Int) % 3) = 0 := by omega
          clear h3 hc
          rcases wrap_lead wr fb 0 k o hF t v l HL.out (by omega) wordB (by decide) with ⟨hlt8, hw⟩ | ⟨hge8, hw⟩
          · rw [wordB_is] at hw
            cases ha : allN l with
            | true =>
              have hm := HO.out ha
              have hmlt : (m : Int) < 8 := by omega
              have hne := neq_own HL.out ha
              have HM := Lib.hid (And.intro hm ha)
              clear hm hF
              go_wp2_with (first
                | (go_at_call 10; refine hw.mono ?_; rintro e w3 ⟨B, rfl, c0, c1, hb3⟩)
                | (go_at_call 25; refine (unwrap_note B 0 _ _ c1).mono ?_; rintro e w4 ⟨rfl, hb4⟩))
              go_meet
              have r := rst_note (m := m + 1) (HL.out.up (hb3.trans (hb4.mono hb3.size))) hlj hj20 HS.out (cell_up hb4 c0) (cell_up hb4 c1) (by omega) (fun _ => by have := HM.out.1; omega)
              have e : ((m + 1 : Nat) : Int) = (m : Int) + 1 := by omega
              rw [e, HM.out.2] at r
              exact ⟨rfl, hbl.trans ((hb3.trans (hb4.mono hb3.size)).mono hbl.size), r⟩
            | false =>
              have HA := Lib.hid ha
              clear hF
              go_wp2_with (go_at_call 10; refine hw.mono ?_; rintro e w3 ⟨B, rfl, c0, c1, hb3⟩)
              go_meet
              have r := rst_note (m := m) (HL.out.up hb3) hlj hj20 HS.out c0 c1 hm8 (fun h => by rw [HA.out] at h; cases h)
              rw [HA.out] at r
              exact ⟨rfl, hbl.trans (hb3.mono hbl.size), r⟩
          · cases ha : allN l with
            | true =>
              have hm := HO.out ha
              have hmge : ¬ (m : Int) < 8 := by omega
              have HM := Lib.hid (And.intro hm ha)
              clear hm hF
              go_wp2_with (go_at_call 10; refine hw.mono ?_; rintro e w3 ⟨rfl, hb3⟩)
              go_meet
              have r := rst_same (m := m) (HL.out.up hb3) hlj HS.out hm8 (fun _ => HM.out.1)
              rw [HM.out.2] at r
              exact ⟨rfl, hbl.trans (hb3.mono hbl.size), r⟩
            | false =>
              have HA := Lib.hid ha
              clear hF
              go_wp2_with (go_at_call 10; refine hw.mono ?_; rintro e w3 ⟨rfl, hb3⟩)
              go_meet
              have r := rst_same (m := m) (HL.out.up hb3) hlj HS.out hm8 (fun h => by rw [HA.out] at h; cases h)
              rw [HA.out] at r
              exact ⟨rfl, hbl.trans (hb3.mono hbl.size), r⟩
        · have hzr : ((z : Int) % 3) = 1 := by omega
          clear h3 hc hF
          go_wp2_with fail
          go_meet
          exact ⟨rfl, hbl, rst_around HL.out hlj hj20 HS.out hm8⟩
        · have hzr : ((z : Int) % 3) = 2 := by omega
          have hba := (Below.refl wr.heap.size wr).alloc (Nat.le_refl _) (.cells #[.string ⟨#[111, 116, 104, 101, 114]⟩] 64)
          have hbb := hba.alloc (by simp) (.cells #[.iface 62 (.pointer (some ⟨wr.heap.size, 0, none⟩)), .iface t v] 27)
          have hcs := two_cells (wr.alloc (.cells #[.string ⟨#[111, 116, 104, 101, 114]⟩] 64)) (.iface 62 (.pointer (some ⟨wr.heap.size, 0, none⟩))) (.iface t v) 27
          rw [show (wr.alloc (.cells #[.string ⟨#[111, 116, 104, 101, 114]⟩] 64)).heap.size = wr.heap.size + 1 by simp] at hcs
          have hjn := join_any _ (wr.heap.size + 1) ⟨wr.heap.size, 0, none⟩ t v hcs.1 hcs.2
          clear h3 hc hF hcs hba
          go_wp2_with (first
            | (go_at_call 9; refine (newErr_any _ _).mono ?_; rintro e w3 ⟨rfl, rfl⟩)
            | (go_at_call 26; refine hjn.mono ?_; rintro e w4 ⟨J, S, rfl, c0, c1, c2, hb4⟩))
          go_meet
          have hb5 := hbb.trans (hb4.mono hbb.size)
          exact ⟨rfl, hbl.trans (hb5.mono hbl.size), rst_join (HL.out.up hb5) hlj hj20 HS.out c0 c1 c2 hm8⟩
      case rest =>
        obtain ⟨rfl, hbx, t, v, l, m, rfl, hl, hlj, rfl, hm8, rfl, hown, hsh⟩ := hcut
        have hbWx : Below W.heap.size W wc := HBF.out.trans (hbx.mono HBF.out.size)
        have hF := HF.out.up hbx
        have h11 := fun (w' : World) (hb : Below wc.heap.size wc w') => kind_any w' fb 0 k o (hF.up hb) (cell_up hb (cell_up hbWx HE.out)) l t v (hl.up hb)
        have h12 := fun (w' : World) (hb : Below wc.heap.size wc w') => off_any w' fb 0 k o (hF.up hb) (cell_up hb (cell_up hbWx HE.out)) l t v (hl.up hb)
        have h15 := fun (w' : World) (hb : Below wc.heap.size wc w') => faultIs w' fb 0 k o (hF.up hb) l t v (hl.up hb)
        have h14a := fun (w' : World) (hb : Below wc.heap.size wc w') => errorsIs w' fb 0 k o (hF.up hb) .self l t v (hl.up hb)
        have h14b := fun (w' : World) (hb : Below wc.heap.size wc w') => errorsIs w' fb 0 k o (hF.up hb) .sort l t v (hl.up hb)
        have h27 := fun (w' : World) (hb : Below wc.heap.size wc w') (ab : Nat) hA => errorsAs_sort w' fb 0 k o (hF.up hb) (cell_up hb (cell_up hbWx HE.out)) ab hA l t v (hl.up hb)
        have h13 := fun (w' : World) (hb : Below wc.heap.size wc w') => Line_any w' fb 0 k o HKO.out.1 HKO.out.2 (hF.up hb) (tab_below HT.out (hbWx.trans (hb.mono hbWx.size))) (hl.up hb) hsh
        have H11 := Lib.hid h11
        have H12 := Lib.hid h12
        have H13 := Lib.hid h13
        have H14a := Lib.hid h14a
        have H14b := Lib.hid h14b
        have H15 := Lib.hid h15
        have H27 := Lib.hid h27
        have HL := Lib.hid hl
        have HO := Lib.hid hown
        clear h11 h12 h13 h14a h14b h15 h27 hF hl hown
        cases ha : allN l with
        | true =>
          have hlv : lineV k o l = .tuple #[.string (txtL k o l), .bool true] := by unfold lineV; rw [ha]; rfl
          have HLV := Lib.hid hlv
          have HA := Lib.hid ha
          clear hlv ha
          go_wp2_with (first
            | (go_at_call 11; refine (H11.out _ (Below.refl _ _)).mono ?_; rintro e w1 ⟨rfl, hb1⟩)
            | (go_at_call 12; refine (H12.out _ hb1).mono ?_; rintro e w2 ⟨rfl, hb2⟩; have hb2 := hb1.trans (hb2.mono hb1.size); have hbS := hb2.alloc hb2.size (.cells #[.int .i64 0] 45))
            | (go_at_call 15; refine (H15.out _ hbS).mono ?_; rintro e w3 ⟨rfl, hb3⟩; have hb3' := hbS.trans (hb3.mono hbS.size))
            | (go_at_call 14; ((with_reducible refine (H14a.out _ hb3').mono ?_); rintro e w4 ⟨rfl, hb4⟩; have hb4' := hb3'.trans (hb4.mono hb3'.size)))
            | (go_at_call 14; ((with_reducible refine (H14b.out _ hb4').mono ?_); rintro e w5 ⟨rfl, hb5⟩; have hb5' := hb4'.trans (hb5.mono hb4'.size))))
          have hn := cell_new w2 (.int .i64 0) 45
          have hS5 := (hb3.trans (hb4.mono hb3.size)).trans (hb5.mono (hb3.trans (hb4.mono hb3.size)).size)
          have d0 := cell_up hS5 hn.1
          have d1 : w5.frozen? ⟨w2.heap.size, 0, none⟩ = false := by rw [← hn.2]; exact hS5.frozen (p := ⟨w2.heap.size, 0, none⟩) (Lib.lt_of_cell hn.1)
          refine (H27.out _ hb5' w2.heap.size ⟨⟨_, d0⟩, d1⟩).mono ?_
          rintro e w' ⟨rfl, w6, hb6, rfl⟩
          have d2 : (w6.setCell ⟨w2.heap.size, 0, none⟩ (.int .i64 k)).cell? ⟨w2.heap.size, 0, none⟩ = some (.int .i64 k) := World.cell?_setCell_same _ _ _ (cell_up hb6 d0)
          have hb6' : Below wc.heap.size wc (w6.setCell ⟨w2.heap.size, 0, none⟩ (.int .i64 k)) := (hb5'.trans (hb6.mono hb5'.size)).setCell hb2.size _
          clear d0 d1 hn hS5
          generalize w6.setCell ⟨w2.heap.size, 0, none⟩ (.int .i64 k) = w7 at d2 hb6' ⊢
          have h13 := H13.out _ hb6'
          rw [HLV.out] at h13
          go_wp2_with (go_at_call 13; refine h13.mono ?_; rintro e w8 ⟨rfl, hb8⟩)
          have hb9 := hb6'.trans (hb8.mono hb6'.size)
          go_roundg (len - (j + 1))
          case measure => omega
          case rel => exact ⟨hbx.trans (hb9.mono hbx.size), j + 1, by go_num, by omega, t, v, l, m, rfl, HL.out.up hb9, hlj, rfl, hm8, by rw [HA.out], HO.out, hsh⟩
        | false =>
          have hlv : lineV k o l = .tuple #[.string ⟨#[]⟩, .bool false] := by unfold lineV; rw [ha]; rfl
          have HLV := Lib.hid hlv
          have HA := Lib.hid ha
          clear hlv ha
          go_wp2_with (first
            | (go_at_call 11; refine (H11.out _ (Below.refl _ _)).mono ?_; rintro e w1 ⟨rfl, hb1⟩)
            | (go_at_call 12; refine (H12.out _ hb1).mono ?_; rintro e w2 ⟨rfl, hb2⟩; have hb2 := hb1.trans (hb2.mono hb1.size); have hbS := hb2.alloc hb2.size (.cells #[.int .i64 0] 45))
            | (go_at_call 15; refine (H15.out _ hbS).mono ?_; rintro e w3 ⟨rfl, hb3⟩; have hb3' := hbS.trans (hb3.mono hbS.size))
            | (go_at_call 14; ((with_reducible refine (H14a.out _ hb3').mono ?_); rintro e w4 ⟨rfl, hb4⟩; have hb4' := hb3'.trans (hb4.mono hb3'.size)))
            | (go_at_call 14; ((with_reducible refine (H14b.out _ hb4').mono ?_); rintro e w5 ⟨rfl, hb5⟩; have hb5' := hb4'.trans (hb5.mono hb4'.size))))
          have hn := cell_new w2 (.int .i64 0) 45
          have hS5 := (hb3.trans (hb4.mono hb3.size)).trans (hb5.mono (hb3.trans (hb4.mono hb3.size)).size)
          have d0 := cell_up hS5 hn.1
          have d1 : w5.frozen? ⟨w2.heap.size, 0, none⟩ = false := by rw [← hn.2]; exact hS5.frozen (p := ⟨w2.heap.size, 0, none⟩) (Lib.lt_of_cell hn.1)
          refine (H27.out _ hb5' w2.heap.size ⟨⟨_, d0⟩, d1⟩).mono ?_
          rintro e w' ⟨rfl, w6, hb6, rfl⟩
          have d2 : (w6.setCell ⟨w2.heap.size, 0, none⟩ (.int .i64 k)).cell? ⟨w2.heap.size, 0, none⟩ = some (.int .i64 k) := World.cell?_setCell_same _ _ _ (cell_up hb6 d0)
          have hb6' : Below wc.heap.size wc (w6.setCell ⟨w2.heap.size, 0, none⟩ (.int .i64 k)) := (hb5'.trans (hb6.mono hb5'.size)).setCell hb2.size _
          clear d0 d1 hn hS5
          generalize w6.setCell ⟨w2.heap.size, 0, none⟩ (.int .i64 k) = w7 at d2 hb6' ⊢
          have h13 := H13.out _ hb6'
          rw [HLV.out] at h13
          go_wp2_with (go_at_call 13; refine h13.mono ?_; rintro e w8 ⟨rfl, hb8⟩)
          have hb9 := hb6'.trans (hb8.mono hb6'.size)
          go_roundg (len - (j + 1))
          case measure => omega
          case rel => exact ⟨hbx.trans (hb9.mono hbx.size), j + 1, by go_num, by omega, t, v, l, m, rfl, HL.out.up hb9, hlj, rfl, hm8, by rw [HA.out], HO.out, hsh⟩
    · obtain rfl : j = len := by omega
      go_wp2_with fail
      go_ret
      exact ⟨rfl, HBW.out⟩
set_option maxRecDepth 1000000 in
theorem row_nil (W : World) (k o : Int) (hk0 : (k == 0) = false) (hK : Calls Tryz.prog 7 #[] W fun e w' => e = .returned (.bool true) ∧ Below W.heap.size W w') :
    Calls Tryz.prog 6 #[.int .i64 k, .int .i64 o, .slice none 0 0] W fun e w' => e = .returned (.bool true) ∧ Below W.heap.size W w' := by
  go_enter Tryz.func6, Tryz.ntmps6
  go_wp2_with (first
    | (go_at_call 7; refine hK.mono ?_; rintro e w1 ⟨rfl, hb1⟩)
    | (go_at_call 24; refine (new_any k o hk0 _).mono ?_; rintro e w2 ⟨rfl, rfl⟩))
  refine wp_loop_rounds 1 ?_
  rw [rounds_succ]
  go_wp2_with fail
  go_ret
  exact ⟨rfl, hb1.alloc hb1.size _⟩
set_option maxRecDepth 1000000 in
theorem row_zero (W : World) (o : Int) (sv : Value) (hK : Calls Tryz.prog 7 #[] W fun e w' => e = .returned (.bool true) ∧ Below W.heap.size W w') :
    Calls Tryz.prog 6 #[.int .i64 0, .int .i64 o, sv] W fun e w' => e = .returned (.bool true) ∧ Below W.heap.size W w' := by
  go_enter Tryz.func6, Tryz.ntmps6
  go_wp2_with (go_at_call 7; refine hK.mono ?_; rintro e w1 ⟨rfl, hb1⟩)
  go_ret
  exact ⟨rfl, hb1⟩
set_option maxRecDepth 1000000 in
theorem row_long (W : World) (k o : Int) (hk0 : (k == 0) = false) (a : Option Addr) (len cap : Nat) (hlen : 20 < len) (hK : Calls Tryz.prog 7 #[] W fun e w' => e = .returned (.bool true) ∧ Below W.heap.size W w') :
    Calls Tryz.prog 6 #[.int .i64 k, .int .i64 o, .slice a len cap] W fun e w' => e = .returned (.bool true) ∧ Below W.heap.size W w' := by
  have hl20 : decide ((20 : Int) < (len : Int)) = true := by simp; omega
  go_enter Tryz.func6, Tryz.ntmps6
  go_wp2_with (go_at_call 7; refine hK.mono ?_; rintro e w1 ⟨rfl, hb1⟩)
  go_ret
  exact ⟨rfl, hb1⟩
end Go.Proofs.YtpgddboigegplaaGreatDoor.base
