/- How lines meet samples, as the reference has it: Meet comes to what cross.Meet comes to. What is amiss: cross.amiss, cross.Audit. The reference's Audit comes to what cross.Audit comes to. -/
import Derived.Test.YtmnoegfehgoalaaGreatDoorCzC
import Derived.Test.YtmnoegfehgoalaaGreatDoorCxG
namespace Go.Proofs.YtmnoegfehgoalaaGreatDoor.cx
open Go.RowKit Go.Extern.Stop Go.Stop Go.Extern Go.Cx
set_option linter.unusedVariables false
/-- What the reference's Meet hands back. -/
def MeetAtR (W : World) (ls ss : List (List Value)) (e : Ending) (w' : World) : Prop :=
  ∃ vm vl vb : Value, e = .returned (.tuple #[vm, vl, vb]) ∧
    w'.ownsRow W.heap.size 78 5 vm (greed ss.length (TT ls ss) ls.length).met.length (metC (MV ls ss) (greed ss.length (TT ls ss) ls.length).met) ∧
    w'.ownsRow W.heap.size 3 1 vl (greed ss.length (TT ls ss) ls.length).lost.length (ints (greed ss.length (TT ls ss) ls.length).lost) ∧
    w'.ownsRow W.heap.size 3 1 vb (bare ss.length (greed ss.length (TT ls ss) ls.length)).length (ints (bare ss.length (greed ss.length (TT ls ss) ls.length))) ∧ Below W.heap.size W w'
theorem results_r3 {fn : Func} {t u v : Tmp} (h : fn.results = #[.tmp t, .tmp u, .tmp v]) (tmps : Array Value) (P : Program) (w : World) :
    (results fn tmps).run P w = .ok (.tuple #[tmps.getD t undef, tmps.getD u undef, tmps.getD v undef]) w := by
  simp [results, h]
set_option maxHeartbeats 8000000 in
set_option maxRecDepth 1000000 in
theorem meetR_w (W : World) (lv sv : Value) (ls ss : List (List Value)) (hl : ∀ r ∈ ls, RowOk lineK r) (hs : ∀ r ∈ ss, RowOk sampK r) (hlv : Sl W 53 lv ls) (hsv : Sl W 48 sv ss) (n1 : ls.length ≤ 60) (n2 : ss.length ≤ 60) :
    Calls Tryz.prog 8 #[lv, sv] W (MeetAtR W ls ss) := by
  obtain ⟨la, lc, rfl, lcap, lmx, lnone⟩ := hlv.form
  obtain ⟨sa, sc, rfl, scap, smx, snone⟩ := hsv.form
  obtain ⟨ii, ji0, ji1, ji2, ji3⟩ := info_parts (P := Tryz.prog) (e := 3) (z := .int .i64 0) (size := 1) (bytes := 8) (by kernel_rfl)
  obtain ⟨im, km0, km1, km2, km3⟩ := info_parts (P := Tryz.prog) (e := 78) (z := .agg #[.int .i64 0, .int .i64 0, .int .i64 0, .int .i64 0, .int .i64 0]) (size := 5) (bytes := 40) (by kernel_rfl)
  have HI := Lib.hid (And.intro (And.intro ji0 (And.intro ji1 (And.intro ji2 ji3))) (And.intro km0 (And.intro km1 (And.intro km2 km3))))
  have HL := Lib.hid (And.intro hl (And.intro hs (And.intro hlv (And.intro hsv (And.intro lnone snone)))))
  clear ji0 ji1 ji2 ji3 km0 km1 km2 km3 hl hs hlv hsv lnone snone
  go_enter Tryz.func8, Tryz.ntmps8
  go_wp2_with (first | (at_make; refine wpList_make_full _ rfl _ _ 26 rfl 0 3 ii _ 1 Tryz.underlying26 HI.out.1.1 HI.out.1.2.1 HI.out.1.2.2.1 _ _ _ _ ss.length rfl rfl rfl rfl (by rw [HI.out.1.2.2.2]; omega) (by unfold maxLen; omega) (Nat.zero_le _) ?_))
  intro w1 hown hgr
  have q0 := own_block (cap := 0) hown
  rw [made_ints] at q0
  have hz := lt_of_heap q0
  have hR0 : RS W w1.heap.size ss.length (MV ls ss) [] [] (fun _ => false) (fun _ => 0) w1 (.slice none 0 0) (.slice none 0 0) := ⟨World.ownsRow_nil _ _ _ _, World.ownsRow_nil _ _ _ _, q0, fun k hk => ⟨rfl, Nat.zero_le 60⟩, grown_below hgr, Nat.le_refl _⟩
  clear q0 hown hgr
  go_wp2_with fail
  generalize hBe : w1.heap.size = B at *
  have HN := Lib.hid (And.intro hz n1)
  clear hz hBe
  go_loopg [11, 7, 8] ls.length (fun g v m lo wl => ∃ (i : Nat) (bf : Nat → Nat), v = .int .i64 (i : Nat) ∧ i ≤ ls.length ∧ g = ls.length - i ∧ RS W B ss.length (MV ls ss) (greed ss.length (TT ls ss) i).met (greed ss.length (TT ls ss) i).lost (greed ss.length (TT ls ss) i).tk bf wl m lo)
  case atStart => exact ⟨0, fun _ => 0, rfl, Nat.zero_le _, by omega, hR0⟩
  case round =>
    clear hR0
    obtain ⟨i, bf, rfl, hi, hg, hR⟩ := hrel
    by_cases hin : i = ls.length
    · subst hin
      have e1 : decide ((ls.length : Int) < (ls.length : Int)) = false := by simp
      have HR := Lib.hid hR
      clear hR
      go_wp2_with fail
      rename World => wz
      go_loopg [16, 9] ss.length (fun g v ba wl => ∃ k2 : Nat, v = .int .i64 (k2 : Nat) ∧ k2 ≤ ss.length ∧ g = ss.length - k2 ∧ wl.ownsRow wz.heap.size 3 1 ba (bareK (greed ss.length (TT ls ss) ls.length).tk k2).length (ints (bareK (greed ss.length (TT ls ss) ls.length).tk k2)) ∧ Below wz.heap.size wz wl)
      case atStart => exact ⟨0, rfl, Nat.zero_le _, by omega, World.ownsRow_nil _ _ _ _, Below.refl _ _⟩
      case round =>
        obtain ⟨k2, rfl, hk2, hg2, ho2, hb2⟩ := hrel
        have HO := Lib.hid (And.intro ho2 hb2)
        clear ho2 hb2
        by_cases hkn2 : k2 = ss.length
        · subst hkn2
          have e2 : decide ((ss.length : Int) < (ss.length : Int)) = false := by simp
          go_wp2_with fail
          refine bodyPost_ret (results_r3 rfl _ _ _) rfl ?_
          have hW := HR.out.2.2.2.2.1
          have hx := HR.out.2.2.2.2.2
          have hwb : W.heap.size ≤ B := Nat.le_of_lt HN.out.1
          exact ⟨_, _, _, rfl, own_mono (own_up HR.out.1 HO.out.2) hwb, own_mono (own_up HR.out.2.1 HO.out.2) hwb, own_mono HO.out.1 hW.size, hW.trans (HO.out.2.mono hW.size)⟩
        · have hkl2 : k2 < ss.length := by omega
          have e2 : decide ((k2 : Int) < (ss.length : Int)) = true := by simp; omega
          have e3 : (0 : Int) ≤ (k2 : Int) := by omega
          have e4 : (k2 : Int) < (ss.length : Int) := by omega
          have hcell := cell_of (i := k2) (keepB HO.out.2 HR.out.2.2.1) (cntC_get bf hkl2)
          have htk := (HR.out.2.2.2.1 k2 hkl2).1
          cases ht : (greed ss.length (TT ls ss) ls.length).tk k2 with
          | true =>
            rw [ht] at htk
            have h0 : 0 < bf k2 := of_decide_eq_true htk
            have e5 : ((bf k2 : Int) == 0) = false := by rw [beq_eq_false_iff_ne]; omega
            have e6 : ¬ bf k2 = 0 := by omega
            have hs : bareK (greed ss.length (TT ls ss) ls.length).tk (k2 + 1) = bareK (greed ss.length (TT ls ss) ls.length).tk k2 := by rw [bareK_succ, ht]; simp
            have HS := Lib.hid hs
            clear hs ht htk h0
            go_wp2_with fail
            go_roundg (ss.length - (k2 + 1))
            case measure => omega
            case rel => exact ⟨k2 + 1, by go_num, by omega, rfl, by rw [HS.out]; exact HO.out.1, HO.out.2⟩
          | false =>
            rw [ht] at htk
            have h0 : bf k2 = 0 := by have := of_decide_eq_false htk; omega
            rw [h0] at hcell
            have hs : bareK (greed ss.length (TT ls ss) ls.length).tk (k2 + 1) = bareK (greed ss.length (TT ls ss) ls.length).tk k2 ++ [k2] := by rw [bareK_succ, ht]; simp
            have HS := Lib.hid hs
            clear hs ht htk h0
            go_wp2_with (first
              | (at_builtin; refine wpList_append_own _ rfl _ _ 26 rfl wz.heap.size 3 ii _ 1 8 Tryz.underlying26 HI.out.1.1 HI.out.1.2.1 HI.out.1.2.2.1 HI.out.1.2.2.2 rfl (by decide) _ _ _ rfl (own_up HO.out.1 ((Below.refl _ _).alloc (Nat.le_refl _) _)) ⟨_, 0, none⟩ 1 1 [.int .i64 (k2 : Nat)] rfl rfl (World.news_of_block (cs := #[.int .i64 (k2 : Nat)]) (heap_alloc_new _ _)) (by simp [Value.oneCell']) ?c1 ?c2 ?c3 ?_))
            case c1 => have := bareK_len (greed ss.length (TT ls ss) ls.length).tk k2; unfold maxLen; omega
            case c2 => have := bareK_len (greed ss.length (TT ls ss) ls.length).tk k2; omega
            case c3 => rw [alloc_size]; have := HO.out.2.size; omega
            intro v' w8 o1 o2 o3
            have HP := Lib.hid (And.intro o1 o2)
            clear o1 o2 o3
            go_wp2_with fail
            go_roundg (ss.length - (k2 + 1))
            case measure => omega
            case rel => exact ⟨k2 + 1, by go_num, by omega, rfl, by rw [HS.out, List.length_append, ints_app]; exact HP.out.1, below_row (HO.out.2.alloc HO.out.2.size _) HP.out.2 (fun q e => (HO.out.1.lt q e).1)⟩
    · have hil : i < ls.length := by omega
      have e1 : decide ((i : Int) < (ls.length : Int)) = true := by simp; omega
      obtain ⟨b1, off1, cap, hv, _, _, hget⟩ := HL.out.2.2.1.get (by omega)
      injection hv with hla hnn hcp
      clear hnn hcp
      subst hla
      obtain ⟨l, hl⟩ : ∃ l, ls[i]? = some l := ⟨ls[i], List.getElem?_eq_getElem hil⟩
      have hrgL := hget i l hl
      have hlo := HL.out.1 l (List.mem_of_getElem? hl)
      have hltL := range_lt hrgL (by rw [hlo.length]; decide)
      have hTT : TT ls ss i = tellR l ss := by unfold TT; rw [List.getD_eq_getElem?_getD, hl]; rfl
      have hld : ls.getD i [] = l := by rw [List.getD_eq_getElem?_getD, hl]; rfl
      have IXL := Lib.hid (index_row (P := Tryz.prog) (t := 22) (e := 52) (size := 53) Tryz.underlying22 (fun w => by kernel_rfl) b1 off1 ls.length lc i hil)
      have u3 : (Tryz.prog.info? 52).map (·.size) = some l.length := by rw [hlo.length]; kernel_rfl
      have UL := Lib.hid (And.intro Tryz.underlying52 u3)
      have HRG := Lib.hid (And.intro hrgL hltL)
      have HLI := Lib.hid (And.intro hlo (And.intro hTT hld))
      have HR := Lib.hid hR
      have HLEN := Lib.hid (greed_inv ss.length (TT ls ss) i).len
      clear hget hrgL hlo hltL hTT hld u3 hR hl
      go_wp2_with fail
      go_loopg [13, 12, 7] (ss.length + 1) (fun g v f m wl => (∃ k : Nat, v = .int .i64 (k : Nat) ∧ k ≤ ss.length ∧ f = .bool false ∧ m = u7 ∧ g = ss.length - k + 1 ∧ (∀ j, j < k → (!(greed ss.length (TT ls ss) i).tk j && tellR l ss j) = false) ∧ RS W B ss.length (MV ls ss) (greed ss.length (TT ls ss) i).met (greed ss.length (TT ls ss) i).lost (greed ss.length (TT ls ss) i).tk bf wl u7 u8) ∨
        (∃ (j : Nat) (bf' : Nat → Nat), pick ss.length (greed ss.length (TT ls ss) i).tk (tellR l ss) = some j ∧ v = .int .i64 ((j + 1 : Nat) : Int) ∧ f = .bool true ∧ g = 0 ∧ RS W B ss.length (MV ls ss) ((greed ss.length (TT ls ss) i).met ++ [(i, j)]) (greed ss.length (TT ls ss) i).lost (fun x => (greed ss.length (TT ls ss) i).tk x || x == j) bf' wl m u8))
      case atStart => exact .inl ⟨0, rfl, Nat.zero_le _, rfl, rfl, by omega, fun j hj => absurd hj (by omega), HR.out⟩
      case round =>
        rcases hrel with ⟨k, rfl, hk, rfl, rfl, hg2, hj, hR2⟩ | ⟨j, bf', hp, rfl, rfl, hg2, hR2⟩
        · by_cases hkn : k = ss.length
          · subst hkn
            have e2 : decide ((ss.length : Int) < (ss.length : Int)) = false := by simp
            have hp : pick ss.length (greed ss.length (TT ls ss) i).tk (TT ls ss i) = none := by rw [HLI.out.2.1]; exact pick_not hj
            have HX := Lib.hid (And.intro hR2 hp)
            clear hj hR2 hp
            go_wp2_with (first
              | (at_builtin; refine wpList_append_own _ rfl _ _ 26 rfl B 3 ii _ 1 8 Tryz.underlying26 HI.out.1.1 HI.out.1.2.1 HI.out.1.2.2.1 HI.out.1.2.2.2 rfl (by decide) _ _ _ rfl (own_up HX.out.1.2.1 ((Below.refl _ _).alloc (Nat.le_refl _) _)) ⟨_, 0, none⟩ 1 1 [.int .i64 (i : Nat)] rfl rfl (World.news_of_block (cs := #[.int .i64 (i : Nat)]) (heap_alloc_new _ _)) (by simp [Value.oneCell']) ?c1 ?c2 ?c3 ?_))
            case c1 => have := HLEN.out; unfold maxLen; omega
            case c2 => have := HLEN.out; omega
            case c3 => rw [alloc_size]; have := HX.out.1.2.2.2.2.2; omega
            intro v' w8 o1 o2 o3
            have HO := Lib.hid ((HX.out.1.up ((Below.refl _ _).alloc (Nat.le_refl _) (.cells #[.int .i64 (i : Nat)] 3))).addLost HN.out.1 o1 o2)
            clear o1 o2 o3
            go_wp2_with fail
            go_roundg (ls.length - (i + 1))
            case measure => omega
            case rel => exact ⟨i + 1, bf, by go_num, by omega, rfl, by rw [greed_none HX.out.2]; exact HO.out⟩
          · have hkl : k < ss.length := by omega
            have e2 : decide ((k : Int) < (ss.length : Int)) = true := by simp; omega
            obtain ⟨b2, off2, cap2, hv2, _, _, hget2⟩ := HL.out.2.2.2.1.get (by omega)
            injection hv2 with hsa2 hnn2 hcp2
            clear hnn2 hcp2
            subst hsa2
            obtain ⟨s, hs⟩ : ∃ s, ss[k]? = some s := ⟨ss[k], List.getElem?_eq_getElem hkl⟩
            have hrgS := hget2 k s hs
            have hso := HL.out.2.1 s (List.mem_of_getElem? hs)
            have hltS := range_lt hrgS (by rw [hso.length]; decide)
            have hsd : ss.getD k [] = s := by rw [List.getD_eq_getElem?_getD, hs]; rfl
            have htv0 : tellR l ss k = tellsV l s := by unfold tellR; rw [hsd]
            have IXS := Lib.hid (index_row (P := Tryz.prog) (t := 23) (e := 47) (size := 48) Tryz.underlying23 (fun w => by kernel_rfl) b2 off2 ss.length sc k hkl)
            have IXB := Lib.hid (index_row (P := Tryz.prog) (t := 26) (e := 3) (size := 1) Tryz.underlying26 (fun w => by kernel_rfl) W.heap.size 0 ss.length ss.length k hkl)
            have u4 : (Tryz.prog.info? 47).map (·.size) = some s.length := by rw [hso.length]; kernel_rfl
            have U := Lib.hid (And.intro UL.out.1 (And.intro UL.out.2 (And.intro Tryz.underlying47 u4)))
            have HLO := Lib.hid (And.intro HLI.out.1 hso)
            have HK := Lib.hid (show ∀ w' : World, Below W.heap.size W w' → True ∧ w'.rangeAt b1 (off1 + i * 53) l ∧ w'.rangeAt b2 (off2 + k * 48) s from fun w' hb' => ⟨True.intro, range_up HRG.out.1 hb' HRG.out.2, range_up hrgS hb' hltS⟩)
            have HK3 := Lib.hid (show ∀ w' : World, Below W.heap.size W w' → w'.heap[W.heap.size]? = some (.cells (cntC ss.length bf) 3) → w'.cell? ⟨W.heap.size, 0 + k * 1, none⟩ = some (.int .i64 (bf k : Nat)) ∧ w'.rangeAt b1 (off1 + i * 53) l ∧ w'.rangeAt b2 (off2 + k * 48) s from fun w' hb' hq => ⟨cell_of (i := 0 + k * 1) hq (by rw [show 0 + k * 1 = k by omega]; exact cntC_get bf hkl), range_up HRG.out.1 hb' HRG.out.2, range_up hrgS hb' hltS⟩)
            have htk := (hR2.2.2.2.1 k hkl).1
            have HR := Lib.hid (hR2.up ((Below.refl _ _).drew))
            have HJ := Lib.hid hj
            clear hget2 hrgS hso hltS u4 hs hj
            cases ht : (greed ss.length (TT ls ss) i).tk k with
            | true =>
              rw [ht] at htk
              have h0 : 0 < bf k := of_decide_eq_true htk
              have HT := Lib.hid (show decide ((0 : Int) < (bf k : Nat)) = true by simp; exact h0)
              have HS := Lib.hid (stepJ HJ.out (by rw [ht]; rfl))
              clear htk h0 ht htv0 hsd hR2
              go_wp2_with fail
              refine wp_region_held_drew (S := fun w' => w'.cell? ⟨W.heap.size, 0 + k * 1, none⟩ = some (.int .i64 (bf k : Nat)) ∧ w'.rangeAt b1 (off1 + i * 53) l ∧ w'.rangeAt b2 (off2 + k * 48) s) (by kernel_rfl) (HK3.out _ HR.out.2.2.2.2.1 HR.out.2.2.1) (fun hSd => ?_)
              refine take_val (i := 0) (oi := ⟨some 36, .move (.tmp 10), _, _, _, none⟩) (.slice (some ⟨W.heap.size, 0, none⟩) ss.length ss.length) rfl (by kernel_rfl) (by kernel_rfl) (by kernel_rfl) (fun _ _ _ h => h) rfl (fun w hSw => rfl) hSd ?_
              simp only [Act.put, List.setIfInBounds_toArray, List.set_cons_zero, List.set_cons_succ]
              refine take_val (i := 1) (oi := ⟨some 37, .move (.tmp 13), _, _, _, none⟩) (.int .i64 (k : Nat)) rfl (by kernel_rfl) (by kernel_rfl) (by kernel_rfl) (fun _ _ _ h => h) rfl (fun w hSw => rfl) hSd ?_
              simp only [Act.put, List.setIfInBounds_toArray, List.set_cons_zero, List.set_cons_succ]
              refine take_val (i := 2) (oi := ⟨some 38, .indexAddr 26 (.tmp 36) (.tmp 37), _, _, _, none⟩) (.pointer (some ⟨W.heap.size, 0 + k * 1, none⟩)) rfl (by kernel_rfl) (by kernel_rfl) (by kernel_rfl) (fun _ _ _ h => h) rfl (fun w hSw => ex_index rfl rfl (IXB.out w)) hSd ?_
              simp only [Act.put, List.setIfInBounds_toArray, List.set_cons_zero, List.set_cons_succ]
              refine take_val (i := 3) (oi := ⟨some 39, .load 3 (.tmp 38), _, _, _, none⟩) (.int .i64 (bf k : Nat)) rfl (by kernel_rfl) (by kernel_rfl) (by kernel_rfl) (fun _ _ _ h => h) rfl (fun w hSw => ex_load rfl (ld_int _ _ _ _ hSw.1)) hSd ?_
              simp only [Act.put, List.setIfInBounds_toArray, List.set_cons_zero, List.set_cons_succ]
              refine take_val (i := 4) (oi := ⟨some 40, .binOp .gtr 3 (.tmp 39) (.const (.int .i64 0)) 3, _, _, _, none⟩) (.bool true) rfl (by kernel_rfl) (by kernel_rfl) (by kernel_rfl) (fun _ _ _ h => h) rfl (fun w hSw => ex_gtr rfl rfl HT.out) hSd ?_
              simp only [Act.put, List.setIfInBounds_toArray, List.set_cons_zero, List.set_cons_succ]
              refine take_val (i := 5) (oi := ⟨some 41, .move (.tmp 40), _, _, _, none⟩) (.bool true) rfl (by kernel_rfl) (by kernel_rfl) (by kernel_rfl) (fun _ _ _ h => h) rfl (fun w hSw => rfl) hSd ?_
              simp only [Act.put, List.setIfInBounds_toArray, List.set_cons_zero, List.set_cons_succ]
              refine take_off (i := 6) (oi := ⟨some 42, .move (.tmp 0), _, _, _, some (5, false)⟩) rfl (by kernel_rfl) (by kernel_rfl) (by kernel_rfl) (fun _ _ _ h => h) rfl hSd ?_
              simp only [Act.put, List.setIfInBounds_toArray, List.set_cons_zero, List.set_cons_succ]
              refine take_off (i := 7) (oi := ⟨some 43, .move (.tmp 11), _, _, _, some (5, false)⟩) rfl (by kernel_rfl) (by kernel_rfl) (by kernel_rfl) (fun _ _ _ h => h) rfl hSd ?_
              simp only [Act.put, List.setIfInBounds_toArray, List.set_cons_zero, List.set_cons_succ]
              refine take_off (i := 8) (oi := ⟨some 44, .indexAddr 22 (.tmp 42) (.tmp 43), _, _, _, some (5, false)⟩) rfl (by kernel_rfl) (by kernel_rfl) (by kernel_rfl) (fun _ _ _ h => h) rfl hSd ?_
              simp only [Act.put, List.setIfInBounds_toArray, List.set_cons_zero, List.set_cons_succ]
              refine take_off (i := 9) (oi := ⟨some 45, .load 52 (.tmp 44), _, _, _, some (5, false)⟩) rfl (by kernel_rfl) (by kernel_rfl) (by kernel_rfl) (fun _ _ _ h => h) rfl hSd ?_
              simp only [Act.put, List.setIfInBounds_toArray, List.set_cons_zero, List.set_cons_succ]
              refine take_off (i := 10) (oi := ⟨some 46, .move (.tmp 1), _, _, _, some (5, false)⟩) rfl (by kernel_rfl) (by kernel_rfl) (by kernel_rfl) (fun _ _ _ h => h) rfl hSd ?_
              simp only [Act.put, List.setIfInBounds_toArray, List.set_cons_zero, List.set_cons_succ]
              refine take_off (i := 11) (oi := ⟨some 47, .move (.tmp 13), _, _, _, some (5, false)⟩) rfl (by kernel_rfl) (by kernel_rfl) (by kernel_rfl) (fun _ _ _ h => h) rfl hSd ?_
              simp only [Act.put, List.setIfInBounds_toArray, List.set_cons_zero, List.set_cons_succ]
              refine take_off (i := 12) (oi := ⟨some 48, .indexAddr 23 (.tmp 46) (.tmp 47), _, _, _, some (5, false)⟩) rfl (by kernel_rfl) (by kernel_rfl) (by kernel_rfl) (fun _ _ _ h => h) rfl hSd ?_
              simp only [Act.put, List.setIfInBounds_toArray, List.set_cons_zero, List.set_cons_succ]
              refine take_off (i := 13) (oi := ⟨some 49, .load 47 (.tmp 48), _, _, _, some (5, false)⟩) rfl (by kernel_rfl) (by kernel_rfl) (by kernel_rfl) (fun _ _ _ h => h) rfl hSd ?_
              simp only [Act.put, List.setIfInBounds_toArray, List.set_cons_zero, List.set_cons_succ]
              refine take_off (i := 14) (oi := ⟨some 50, .call { callee := .value (.func 29), args := #[.tmp 45, .tmp 49], argTypes := #[52, 47] }, _, _, _, some (5, false)⟩) rfl (by kernel_rfl) (by kernel_rfl) (by kernel_rfl) (fun _ _ _ h => h) rfl hSd ?_
              simp only [Act.put, List.setIfInBounds_toArray, List.set_cons_zero, List.set_cons_succ]
              refine take_off (i := 15) (oi := ⟨some 51, .unOp .not 4 (.tmp 50), _, _, _, some (5, false)⟩) rfl (by kernel_rfl) (by kernel_rfl) (by kernel_rfl) (fun _ _ _ h => h) rfl hSd ?_
              simp only [Act.put, List.setIfInBounds_toArray, List.set_cons_zero, List.set_cons_succ]
              refine take_val (i := 16) (oi := ⟨some 52, .pick (.tmp 41) (.const (.bool true)) (.tmp 51), _, _, _, none⟩) (.bool true) rfl (by kernel_rfl) (by kernel_rfl) (by kernel_rfl) (fun _ _ _ h => h) rfl (fun w hSw => rfl) hSd ?_
              simp only [Act.put, List.setIfInBounds_toArray, List.set_cons_zero, List.set_cons_succ]
              refine wpAnyH_done (by kernel_rfl) ?_ _
              clear hSd
              go_wp2_with fail
              go_roundg (ss.length - (k + 1) + 1)
              case measure => omega
              case rel => exact .inl ⟨k + 1, by go_num, by omega, rfl, rfl, rfl, HS.out, HR.out⟩
            | false =>
              rw [ht] at htk
              have h0 : bf k = 0 := by have := of_decide_eq_false htk; omega
              have HT := Lib.hid (show decide ((0 : Int) < (bf k : Nat)) = false by simp; exact h0)
              clear htk h0
              cases htv : tellsV l s with
              | false =>
                have HTL := Lib.hid htv
                have HS := Lib.hid (stepJ HJ.out (by rw [htv0, htv]; simp))
                clear ht htv0 hsd hR2 htv
                go_wp2_with fail
                refine wp_region_held_drew (S := fun w' => w'.cell? ⟨W.heap.size, 0 + k * 1, none⟩ = some (.int .i64 (bf k : Nat)) ∧ w'.rangeAt b1 (off1 + i * 53) l ∧ w'.rangeAt b2 (off2 + k * 48) s) (by kernel_rfl) (HK3.out _ HR.out.2.2.2.2.1 HR.out.2.2.1) (fun hSd => ?_)
                refine take_val (i := 0) (oi := ⟨some 36, .move (.tmp 10), _, _, _, none⟩) (.slice (some ⟨W.heap.size, 0, none⟩) ss.length ss.length) rfl (by kernel_rfl) (by kernel_rfl) (by kernel_rfl) (fun _ _ _ h => h) rfl (fun w hSw => rfl) hSd ?_
                simp only [Act.put, List.setIfInBounds_toArray, List.set_cons_zero, List.set_cons_succ]
                refine take_val (i := 1) (oi := ⟨some 37, .move (.tmp 13), _, _, _, none⟩) (.int .i64 (k : Nat)) rfl (by kernel_rfl) (by kernel_rfl) (by kernel_rfl) (fun _ _ _ h => h) rfl (fun w hSw => rfl) hSd ?_
                simp only [Act.put, List.setIfInBounds_toArray, List.set_cons_zero, List.set_cons_succ]
                refine take_val (i := 2) (oi := ⟨some 38, .indexAddr 26 (.tmp 36) (.tmp 37), _, _, _, none⟩) (.pointer (some ⟨W.heap.size, 0 + k * 1, none⟩)) rfl (by kernel_rfl) (by kernel_rfl) (by kernel_rfl) (fun _ _ _ h => h) rfl (fun w hSw => ex_index rfl rfl (IXB.out w)) hSd ?_
                simp only [Act.put, List.setIfInBounds_toArray, List.set_cons_zero, List.set_cons_succ]
                refine take_val (i := 3) (oi := ⟨some 39, .load 3 (.tmp 38), _, _, _, none⟩) (.int .i64 (bf k : Nat)) rfl (by kernel_rfl) (by kernel_rfl) (by kernel_rfl) (fun _ _ _ h => h) rfl (fun w hSw => ex_load rfl (ld_int _ _ _ _ hSw.1)) hSd ?_
                simp only [Act.put, List.setIfInBounds_toArray, List.set_cons_zero, List.set_cons_succ]
                refine take_val (i := 4) (oi := ⟨some 40, .binOp .gtr 3 (.tmp 39) (.const (.int .i64 0)) 3, _, _, _, none⟩) (.bool false) rfl (by kernel_rfl) (by kernel_rfl) (by kernel_rfl) (fun _ _ _ h => h) rfl (fun w hSw => ex_gtr rfl rfl HT.out) hSd ?_
                simp only [Act.put, List.setIfInBounds_toArray, List.set_cons_zero, List.set_cons_succ]
                refine take_val (i := 5) (oi := ⟨some 41, .move (.tmp 40), _, _, _, none⟩) (.bool false) rfl (by kernel_rfl) (by kernel_rfl) (by kernel_rfl) (fun _ _ _ h => h) rfl (fun w hSw => rfl) hSd ?_
                simp only [Act.put, List.setIfInBounds_toArray, List.set_cons_zero, List.set_cons_succ]
                refine take_val (i := 6) (oi := ⟨some 42, .move (.tmp 0), _, _, _, some (5, false)⟩) (.slice (some ⟨b1, off1, none⟩) ls.length lc) rfl (by kernel_rfl) (by kernel_rfl) (by kernel_rfl) (fun _ _ _ h => h) rfl (fun w hSw => rfl) hSd ?_
                simp only [Act.put, List.setIfInBounds_toArray, List.set_cons_zero, List.set_cons_succ]
                refine take_val (i := 7) (oi := ⟨some 43, .move (.tmp 11), _, _, _, some (5, false)⟩) (.int .i64 (i : Nat)) rfl (by kernel_rfl) (by kernel_rfl) (by kernel_rfl) (fun _ _ _ h => h) rfl (fun w hSw => rfl) hSd ?_
                simp only [Act.put, List.setIfInBounds_toArray, List.set_cons_zero, List.set_cons_succ]
                refine take_val (i := 8) (oi := ⟨some 44, .indexAddr 22 (.tmp 42) (.tmp 43), _, _, _, some (5, false)⟩) (.pointer (some ⟨b1, off1 + i * 53, none⟩)) rfl (by kernel_rfl) (by kernel_rfl) (by kernel_rfl) (fun _ _ _ h => h) rfl (fun w hSw => ex_index rfl rfl (IXL.out w)) hSd ?_
                simp only [Act.put, List.setIfInBounds_toArray, List.set_cons_zero, List.set_cons_succ]
                refine take_val (i := 9) (oi := ⟨some 45, .load 52 (.tmp 44), _, _, _, some (5, false)⟩) (.agg l.toArray) rfl (by kernel_rfl) (by kernel_rfl) (by kernel_rfl) (fun _ _ _ h => h) rfl (fun w hSw => ex_load rfl (run_loadAt_mid w b1 (off1 + i * 53) 52 l _ hSw.2.1 U.out.1 rfl U.out.2.1)) hSd ?_
                simp only [Act.put, List.setIfInBounds_toArray, List.set_cons_zero, List.set_cons_succ]
                refine take_val (i := 10) (oi := ⟨some 46, .move (.tmp 1), _, _, _, some (5, false)⟩) (.slice (some ⟨b2, off2, none⟩) ss.length sc) rfl (by kernel_rfl) (by kernel_rfl) (by kernel_rfl) (fun _ _ _ h => h) rfl (fun w hSw => rfl) hSd ?_
                simp only [Act.put, List.setIfInBounds_toArray, List.set_cons_zero, List.set_cons_succ]
                refine take_val (i := 11) (oi := ⟨some 47, .move (.tmp 13), _, _, _, some (5, false)⟩) (.int .i64 (k : Nat)) rfl (by kernel_rfl) (by kernel_rfl) (by kernel_rfl) (fun _ _ _ h => h) rfl (fun w hSw => rfl) hSd ?_
                simp only [Act.put, List.setIfInBounds_toArray, List.set_cons_zero, List.set_cons_succ]
                refine take_val (i := 12) (oi := ⟨some 48, .indexAddr 23 (.tmp 46) (.tmp 47), _, _, _, some (5, false)⟩) (.pointer (some ⟨b2, off2 + k * 48, none⟩)) rfl (by kernel_rfl) (by kernel_rfl) (by kernel_rfl) (fun _ _ _ h => h) rfl (fun w hSw => ex_index rfl rfl (IXS.out w)) hSd ?_
                simp only [Act.put, List.setIfInBounds_toArray, List.set_cons_zero, List.set_cons_succ]
                refine take_val (i := 13) (oi := ⟨some 49, .load 47 (.tmp 48), _, _, _, some (5, false)⟩) (.agg s.toArray) rfl (by kernel_rfl) (by kernel_rfl) (by kernel_rfl) (fun _ _ _ h => h) rfl (fun w hSw => ex_load rfl (run_loadAt_mid w b2 (off2 + k * 48) 47 s _ hSw.2.2 U.out.2.2.1 rfl U.out.2.2.2)) hSd ?_
                simp only [Act.put, List.setIfInBounds_toArray, List.set_cons_zero, List.set_cons_succ]
                refine take_call 14 (f := 29) (args := #[.agg l.toArray, .agg s.toArray]) rfl (by kernel_rfl) rfl (by kernel_rfl) (tellsR_w _ l s HLO.out.1 HLO.out.2) ?_
                rintro e w2 ⟨rfl, hb1⟩
                have hR := HR.out.up hb1
                have hS2 := HK3.out w2 hR.2.2.2.2.1 hR.2.2.1
                clear hSd hb1
                have hSd := hS2
                refine ⟨_, rfl, hS2, ?_⟩
                simp only [Act.put, List.setIfInBounds_toArray, List.set_cons_zero, List.set_cons_succ]
                rw [HTL.out]
                refine take_val (i := 15) (oi := ⟨some 51, .unOp .not 4 (.tmp 50), _, _, _, some (5, false)⟩) (.bool true) rfl (by kernel_rfl) (by kernel_rfl) (by kernel_rfl) (fun _ _ _ h => h) rfl (fun w hSw => rfl) hSd ?_
                simp only [Act.put, List.setIfInBounds_toArray, List.set_cons_zero, List.set_cons_succ]
                refine take_val (i := 16) (oi := ⟨some 52, .pick (.tmp 41) (.const (.bool true)) (.tmp 51), _, _, _, none⟩) (.bool true) rfl (by kernel_rfl) (by kernel_rfl) (by kernel_rfl) (fun _ _ _ h => h) rfl (fun w hSw => rfl) hSd ?_
                simp only [Act.put, List.setIfInBounds_toArray, List.set_cons_zero, List.set_cons_succ]
                refine wpAnyH_done (by kernel_rfl) ?_ _
                have HR2 := Lib.hid hR
                clear hSd hS2 hR
                go_wp2_with fail
                go_roundg (ss.length - (k + 1) + 1)
                case measure => omega
                case rel => exact .inl ⟨k + 1, by go_num, by omega, rfl, rfl, rfl, HS.out, HR2.out⟩
              | true =>
                have HTL := Lib.hid htv
                have hp := pick_first (n := ss.length) (tk := (greed ss.length (TT ls ss) i).tk) (t := tellR l ss) hkl (by rw [ht, htv0, htv]; rfl) HJ.out
                have HP := Lib.hid hp
                have F := Lib.hid (And.intro (get_num (i := 43) (k := .u64) HLO.out.2 rfl).1 (And.intro (get_num (i := 39) (k := .u64) HLO.out.1 rfl).1 (And.intro (get_num (i := 44) (k := .i64) HLO.out.2 rfl).1 (get_num (i := 45) (k := .i64) HLO.out.2 rfl).1)))
                have K := Lib.hid (And.intro (wf_u64 (get_num (i := 43) (k := .u64) HLO.out.2 rfl).2) (And.intro (wf_u64 (get_num (i := 39) (k := .u64) HLO.out.1 rfl).2) (And.intro (show I64 (offV (unfH (num l 36) (num l 0) (num l 1)) (num l 36) (unfH (num l 37) (num l 0) (num l 1)) (num l 37) (unfH (num l 38) (num l 0) (num l 1)) (num l 38) (unfH (num l 39) (num l 0) (num l 1)) (num l 39)) from clipV_in _ _) (And.intro (show I64 (num s 44) from wf_i64 (get_num (i := 44) (k := .i64) HLO.out.2 rfl).2) (And.intro (show I64 (delV (unfH (num l 36) (num l 0) (num l 1)) (num l 36) (unfH (num l 37) (num l 0) (num l 1)) (num l 37) (unfH (num l 38) (num l 0) (num l 1)) (num l 38) (unfH (num l 39) (num l 0) (num l 1)) (num l 39)) from clipV_in _ _) (show I64 (num s 45) from wf_i64 (get_num (i := 45) (k := .i64) HLO.out.2 rfl).2))))))
                have HMV := Lib.hid (show (#[Value.int .i64 (i : Nat), .int .i64 (k : Nat), .int .i64 (wayV (num s 43) (num l 39)), .int .i64 (lessV (offV (unfH (num l 36) (num l 0) (num l 1)) (num l 36) (unfH (num l 37) (num l 0) (num l 1)) (num l 37) (unfH (num l 38) (num l 0) (num l 1)) (num l 38) (unfH (num l 39) (num l 0) (num l 1)) (num l 39)) (num s 44)), .int .i64 (lessV (delV (unfH (num l 36) (num l 0) (num l 1)) (num l 36) (unfH (num l 37) (num l 0) (num l 1)) (num l 37) (unfH (num l 38) (num l 0) (num l 1)) (num l 38) (unfH (num l 39) (num l 0) (num l 1)) (num l 39)) (num s 45))] : Array Value).toList = .int .i64 (i : Nat) :: .int .i64 (k : Nat) :: MV ls ss i k by unfold MV mvR; rw [HLI.out.2.2, hsd])
                clear ht htv0 hsd hR2 htv hp
                go_wp2_with fail
                refine wp_region_held_drew (S := fun w' => w'.cell? ⟨W.heap.size, 0 + k * 1, none⟩ = some (.int .i64 (bf k : Nat)) ∧ w'.rangeAt b1 (off1 + i * 53) l ∧ w'.rangeAt b2 (off2 + k * 48) s) (by kernel_rfl) (HK3.out _ HR.out.2.2.2.2.1 HR.out.2.2.1) (fun hSd => ?_)
                refine take_val (i := 0) (oi := ⟨some 36, .move (.tmp 10), _, _, _, none⟩) (.slice (some ⟨W.heap.size, 0, none⟩) ss.length ss.length) rfl (by kernel_rfl) (by kernel_rfl) (by kernel_rfl) (fun _ _ _ h => h) rfl (fun w hSw => rfl) hSd ?_
                simp only [Act.put, List.setIfInBounds_toArray, List.set_cons_zero, List.set_cons_succ]
                refine take_val (i := 1) (oi := ⟨some 37, .move (.tmp 13), _, _, _, none⟩) (.int .i64 (k : Nat)) rfl (by kernel_rfl) (by kernel_rfl) (by kernel_rfl) (fun _ _ _ h => h) rfl (fun w hSw => rfl) hSd ?_
                simp only [Act.put, List.setIfInBounds_toArray, List.set_cons_zero, List.set_cons_succ]
                refine take_val (i := 2) (oi := ⟨some 38, .indexAddr 26 (.tmp 36) (.tmp 37), _, _, _, none⟩) (.pointer (some ⟨W.heap.size, 0 + k * 1, none⟩)) rfl (by kernel_rfl) (by kernel_rfl) (by kernel_rfl) (fun _ _ _ h => h) rfl (fun w hSw => ex_index rfl rfl (IXB.out w)) hSd ?_
                simp only [Act.put, List.setIfInBounds_toArray, List.set_cons_zero, List.set_cons_succ]
                refine take_val (i := 3) (oi := ⟨some 39, .load 3 (.tmp 38), _, _, _, none⟩) (.int .i64 (bf k : Nat)) rfl (by kernel_rfl) (by kernel_rfl) (by kernel_rfl) (fun _ _ _ h => h) rfl (fun w hSw => ex_load rfl (ld_int _ _ _ _ hSw.1)) hSd ?_
                simp only [Act.put, List.setIfInBounds_toArray, List.set_cons_zero, List.set_cons_succ]
                refine take_val (i := 4) (oi := ⟨some 40, .binOp .gtr 3 (.tmp 39) (.const (.int .i64 0)) 3, _, _, _, none⟩) (.bool false) rfl (by kernel_rfl) (by kernel_rfl) (by kernel_rfl) (fun _ _ _ h => h) rfl (fun w hSw => ex_gtr rfl rfl HT.out) hSd ?_
                simp only [Act.put, List.setIfInBounds_toArray, List.set_cons_zero, List.set_cons_succ]
                refine take_val (i := 5) (oi := ⟨some 41, .move (.tmp 40), _, _, _, none⟩) (.bool false) rfl (by kernel_rfl) (by kernel_rfl) (by kernel_rfl) (fun _ _ _ h => h) rfl (fun w hSw => rfl) hSd ?_
                simp only [Act.put, List.setIfInBounds_toArray, List.set_cons_zero, List.set_cons_succ]
                refine take_val (i := 6) (oi := ⟨some 42, .move (.tmp 0), _, _, _, some (5, false)⟩) (.slice (some ⟨b1, off1, none⟩) ls.length lc) rfl (by kernel_rfl) (by kernel_rfl) (by kernel_rfl) (fun _ _ _ h => h) rfl (fun w hSw => rfl) hSd ?_
                simp only [Act.put, List.setIfInBounds_toArray, List.set_cons_zero, List.set_cons_succ]
                refine take_val (i := 7) (oi := ⟨some 43, .move (.tmp 11), _, _, _, some (5, false)⟩) (.int .i64 (i : Nat)) rfl (by kernel_rfl) (by kernel_rfl) (by kernel_rfl) (fun _ _ _ h => h) rfl (fun w hSw => rfl) hSd ?_
                simp only [Act.put, List.setIfInBounds_toArray, List.set_cons_zero, List.set_cons_succ]
                refine take_val (i := 8) (oi := ⟨some 44, .indexAddr 22 (.tmp 42) (.tmp 43), _, _, _, some (5, false)⟩) (.pointer (some ⟨b1, off1 + i * 53, none⟩)) rfl (by kernel_rfl) (by kernel_rfl) (by kernel_rfl) (fun _ _ _ h => h) rfl (fun w hSw => ex_index rfl rfl (IXL.out w)) hSd ?_
                simp only [Act.put, List.setIfInBounds_toArray, List.set_cons_zero, List.set_cons_succ]
                refine take_val (i := 9) (oi := ⟨some 45, .load 52 (.tmp 44), _, _, _, some (5, false)⟩) (.agg l.toArray) rfl (by kernel_rfl) (by kernel_rfl) (by kernel_rfl) (fun _ _ _ h => h) rfl (fun w hSw => ex_load rfl (run_loadAt_mid w b1 (off1 + i * 53) 52 l _ hSw.2.1 U.out.1 rfl U.out.2.1)) hSd ?_
                simp only [Act.put, List.setIfInBounds_toArray, List.set_cons_zero, List.set_cons_succ]
                refine take_val (i := 10) (oi := ⟨some 46, .move (.tmp 1), _, _, _, some (5, false)⟩) (.slice (some ⟨b2, off2, none⟩) ss.length sc) rfl (by kernel_rfl) (by kernel_rfl) (by kernel_rfl) (fun _ _ _ h => h) rfl (fun w hSw => rfl) hSd ?_
                simp only [Act.put, List.setIfInBounds_toArray, List.set_cons_zero, List.set_cons_succ]
                refine take_val (i := 11) (oi := ⟨some 47, .move (.tmp 13), _, _, _, some (5, false)⟩) (.int .i64 (k : Nat)) rfl (by kernel_rfl) (by kernel_rfl) (by kernel_rfl) (fun _ _ _ h => h) rfl (fun w hSw => rfl) hSd ?_
                simp only [Act.put, List.setIfInBounds_toArray, List.set_cons_zero, List.set_cons_succ]
                refine take_val (i := 12) (oi := ⟨some 48, .indexAddr 23 (.tmp 46) (.tmp 47), _, _, _, some (5, false)⟩) (.pointer (some ⟨b2, off2 + k * 48, none⟩)) rfl (by kernel_rfl) (by kernel_rfl) (by kernel_rfl) (fun _ _ _ h => h) rfl (fun w hSw => ex_index rfl rfl (IXS.out w)) hSd ?_
                simp only [Act.put, List.setIfInBounds_toArray, List.set_cons_zero, List.set_cons_succ]
                refine take_val (i := 13) (oi := ⟨some 49, .load 47 (.tmp 48), _, _, _, some (5, false)⟩) (.agg s.toArray) rfl (by kernel_rfl) (by kernel_rfl) (by kernel_rfl) (fun _ _ _ h => h) rfl (fun w hSw => ex_load rfl (run_loadAt_mid w b2 (off2 + k * 48) 47 s _ hSw.2.2 U.out.2.2.1 rfl U.out.2.2.2)) hSd ?_
                simp only [Act.put, List.setIfInBounds_toArray, List.set_cons_zero, List.set_cons_succ]
                refine take_call 14 (f := 29) (args := #[.agg l.toArray, .agg s.toArray]) rfl (by kernel_rfl) rfl (by kernel_rfl) (tellsR_w _ l s HLO.out.1 HLO.out.2) ?_
                rintro e w2 ⟨rfl, hb1⟩
                have hR := HR.out.up hb1
                have hS2 := HK3.out w2 hR.2.2.2.2.1 hR.2.2.1
                clear hSd hb1
                have hSd := hS2
                refine ⟨_, rfl, hS2, ?_⟩
                simp only [Act.put, List.setIfInBounds_toArray, List.set_cons_zero, List.set_cons_succ]
                rw [HTL.out]
                refine take_val (i := 15) (oi := ⟨some 51, .unOp .not 4 (.tmp 50), _, _, _, some (5, false)⟩) (.bool false) rfl (by kernel_rfl) (by kernel_rfl) (by kernel_rfl) (fun _ _ _ h => h) rfl (fun w hSw => rfl) hSd ?_
                simp only [Act.put, List.setIfInBounds_toArray, List.set_cons_zero, List.set_cons_succ]
                refine take_val (i := 16) (oi := ⟨some 52, .pick (.tmp 41) (.const (.bool true)) (.tmp 51), _, _, _, none⟩) (.bool false) rfl (by kernel_rfl) (by kernel_rfl) (by kernel_rfl) (fun _ _ _ h => h) rfl (fun w hSw => rfl) hSd ?_
                simp only [Act.put, List.setIfInBounds_toArray, List.set_cons_zero, List.set_cons_succ]
                refine wpAnyH_done (by kernel_rfl) ?_ _
                have hR3 := hR.put HN.out.1 hkl (show i < 60 by have := HN.out.2; omega)
                rw [show (((i + 1 : Nat) : Int)) = (i : Int) + 1 by omega] at hR3
                have HY := Lib.hid (HK.out _ hR3.2.2.2.2.1)
                have HR3 := Lib.hid hR3
                have c0 := cell_of (i := k) hR.2.2.1 (cntC_get bf hkl)
                have f0 := frozen_of_row _ _ k _ _ hR.2.2.1
                have e3 : (0 : Int) ≤ (k : Int) := by omega
                have e4 : (k : Int) < (ss.length : Int) := by omega
                have e5 : (0 : Int) ≤ (i : Int) := by omega
                have e6 : (i : Int) < (ls.length : Int) := by omega
                clear hSd hS2 hR hR3
                go_wp2_with (first
                  | ((with_reducible refine wpList_ld 62 ?_ ?_ ?_ HY.out.2.1 UL.out.1 UL.out.2 ?_); rfl; rfl; rfl)
                  | (go_at_call 30; refine (measR_w _ l _ _ _ _ _ _ (line_at HLO.out.1)).mono ?_; rintro e w3 ⟨rfl, hb3⟩; have hR0' := HR3.out.up hb3))
                have hR0 := hR0'.up ((Below.refl _ _).drew)
                clear hR0' hb3 c0 f0
                refine wp_region_held_drew (S := fun w' => True ∧ w'.rangeAt b1 (off1 + i * 53) l ∧ w'.rangeAt b2 (off2 + k * 48) s) (by kernel_rfl) (HK.out _ hR0.2.2.2.2.1) (fun hSd => ?_)
                refine take_val (i := 0) (oi := ⟨some 66, .move (.tmp 7), _, _, _, none⟩) (u7) rfl (by kernel_rfl) (by kernel_rfl) (by kernel_rfl) (fun _ _ _ h => h) rfl (fun w hSw => rfl) hSd ?_
                simp only [Act.put, List.setIfInBounds_toArray, List.set_cons_zero, List.set_cons_succ]
                refine take_val (i := 1) (oi := ⟨some 67, .move (.tmp 11), _, _, _, none⟩) (.int .i64 (i : Nat)) rfl (by kernel_rfl) (by kernel_rfl) (by kernel_rfl) (fun _ _ _ h => h) rfl (fun w hSw => rfl) hSd ?_
                simp only [Act.put, List.setIfInBounds_toArray, List.set_cons_zero, List.set_cons_succ]
                refine take_val (i := 2) (oi := ⟨some 68, .move (.tmp 13), _, _, _, none⟩) (.int .i64 (k : Nat)) rfl (by kernel_rfl) (by kernel_rfl) (by kernel_rfl) (fun _ _ _ h => h) rfl (fun w hSw => rfl) hSd ?_
                simp only [Act.put, List.setIfInBounds_toArray, List.set_cons_zero, List.set_cons_succ]
                refine take_val (i := 3) (oi := ⟨some 69, .move (.tmp 1), _, _, _, none⟩) (.slice (some ⟨b2, off2, none⟩) ss.length sc) rfl (by kernel_rfl) (by kernel_rfl) (by kernel_rfl) (fun _ _ _ h => h) rfl (fun w hSw => rfl) hSd ?_
                simp only [Act.put, List.setIfInBounds_toArray, List.set_cons_zero, List.set_cons_succ]
                refine take_val (i := 4) (oi := ⟨some 70, .move (.tmp 13), _, _, _, none⟩) (.int .i64 (k : Nat)) rfl (by kernel_rfl) (by kernel_rfl) (by kernel_rfl) (fun _ _ _ h => h) rfl (fun w hSw => rfl) hSd ?_
                simp only [Act.put, List.setIfInBounds_toArray, List.set_cons_zero, List.set_cons_succ]
                refine take_val (i := 5) (oi := ⟨some 71, .indexAddr 23 (.tmp 69) (.tmp 70), _, _, _, none⟩) (.pointer (some ⟨b2, off2 + k * 48, none⟩)) rfl (by kernel_rfl) (by kernel_rfl) (by kernel_rfl) (fun _ _ _ h => h) rfl (fun w hSw => ex_index rfl rfl (IXS.out w)) hSd ?_
                simp only [Act.put, List.setIfInBounds_toArray, List.set_cons_zero, List.set_cons_succ]
                refine take_val (i := 6) (oi := ⟨some 72, .fieldAddr 47 (.tmp 71) 4, _, _, _, none⟩) (.pointer (some ⟨b2, off2 + k * 48 + 42, none⟩)) rfl (by kernel_rfl) (by kernel_rfl) (by kernel_rfl) (fun _ _ _ h => h) rfl (fun w hSw => ex_field rfl (fa_s4 _ _ _)) hSd ?_
                simp only [Act.put, List.setIfInBounds_toArray, List.set_cons_zero, List.set_cons_succ]
                refine take_val (i := 7) (oi := ⟨some 73, .fieldAddr 45 (.tmp 72) 1, _, _, _, none⟩) (.pointer (some ⟨b2, off2 + k * 48 + 42 + 1, none⟩)) rfl (by kernel_rfl) (by kernel_rfl) (by kernel_rfl) (fun _ _ _ h => h) rfl (fun w hSw => ex_field rfl (fa_w1 _ _ _)) hSd ?_
                simp only [Act.put, List.setIfInBounds_toArray, List.set_cons_zero, List.set_cons_succ]
                refine take_val (i := 8) (oi := ⟨some 74, .load 43 (.tmp 73), _, _, _, none⟩) (.int .u64 (num s 43)) rfl (by kernel_rfl) (by kernel_rfl) (by kernel_rfl) (fun _ _ _ h => h) rfl (fun w hSw => ex_load rfl (ld_u64 _ _ _ _ (hSw.2.2 43 _ F.out.1))) hSd ?_
                simp only [Act.put, List.setIfInBounds_toArray, List.set_cons_zero, List.set_cons_succ]
                refine take_val (i := 9) (oi := ⟨some 75, .move (.tmp 0), _, _, _, none⟩) (.slice (some ⟨b1, off1, none⟩) ls.length lc) rfl (by kernel_rfl) (by kernel_rfl) (by kernel_rfl) (fun _ _ _ h => h) rfl (fun w hSw => rfl) hSd ?_
                simp only [Act.put, List.setIfInBounds_toArray, List.set_cons_zero, List.set_cons_succ]
                refine take_val (i := 10) (oi := ⟨some 76, .move (.tmp 11), _, _, _, none⟩) (.int .i64 (i : Nat)) rfl (by kernel_rfl) (by kernel_rfl) (by kernel_rfl) (fun _ _ _ h => h) rfl (fun w hSw => rfl) hSd ?_
                simp only [Act.put, List.setIfInBounds_toArray, List.set_cons_zero, List.set_cons_succ]
                refine take_val (i := 11) (oi := ⟨some 77, .indexAddr 22 (.tmp 75) (.tmp 76), _, _, _, none⟩) (.pointer (some ⟨b1, off1 + i * 53, none⟩)) rfl (by kernel_rfl) (by kernel_rfl) (by kernel_rfl) (fun _ _ _ h => h) rfl (fun w hSw => ex_index rfl rfl (IXL.out w)) hSd ?_
                simp only [Act.put, List.setIfInBounds_toArray, List.set_cons_zero, List.set_cons_succ]
                refine take_val (i := 12) (oi := ⟨some 78, .fieldAddr 52 (.tmp 77) 3, _, _, _, none⟩) (.pointer (some ⟨b1, off1 + i * 53 + 36, none⟩)) rfl (by kernel_rfl) (by kernel_rfl) (by kernel_rfl) (fun _ _ _ h => h) rfl (fun w hSw => ex_field rfl (fa_l3' _ _ _)) hSd ?_
                simp only [Act.put, List.setIfInBounds_toArray, List.set_cons_zero, List.set_cons_succ]
                refine take_val (i := 13) (oi := ⟨some 79, .indexAddr 48 (.tmp 78) (.const (.int .i64 3)), _, _, _, none⟩) (.pointer (some ⟨b1, off1 + i * 53 + 36 + 3, none⟩)) rfl (by kernel_rfl) (by kernel_rfl) (by kernel_rfl) (fun _ _ _ h => h) rfl (fun w hSw => ex_index rfl rfl (ix_t3' _ _ _)) hSd ?_
                simp only [Act.put, List.setIfInBounds_toArray, List.set_cons_zero, List.set_cons_succ]
                refine take_val (i := 14) (oi := ⟨some 80, .load 43 (.tmp 79), _, _, _, none⟩) (.int .u64 (num l 39)) rfl (by kernel_rfl) (by kernel_rfl) (by kernel_rfl) (fun _ _ _ h => h) rfl (fun w hSw => ex_load rfl (ld_u64 _ _ _ _ (hSw.2.1 39 _ F.out.2.1))) hSd ?_
                simp only [Act.put, List.setIfInBounds_toArray, List.set_cons_zero, List.set_cons_succ]
                refine take_val (i := 16) (oi := ⟨some 82, .move (.tmp 14), _, _, _, none⟩) (.int .i64 (offV (unfH (num l 36) (num l 0) (num l 1)) (num l 36) (unfH (num l 37) (num l 0) (num l 1)) (num l 37) (unfH (num l 38) (num l 0) (num l 1)) (num l 38) (unfH (num l 39) (num l 0) (num l 1)) (num l 39))) rfl (by kernel_rfl) (by kernel_rfl) (by kernel_rfl) (fun _ _ _ h => h) rfl (fun w hSw => rfl) hSd ?_
                simp only [Act.put, List.setIfInBounds_toArray, List.set_cons_zero, List.set_cons_succ]
                refine take_val (i := 17) (oi := ⟨some 83, .move (.tmp 1), _, _, _, none⟩) (.slice (some ⟨b2, off2, none⟩) ss.length sc) rfl (by kernel_rfl) (by kernel_rfl) (by kernel_rfl) (fun _ _ _ h => h) rfl (fun w hSw => rfl) hSd ?_
                simp only [Act.put, List.setIfInBounds_toArray, List.set_cons_zero, List.set_cons_succ]
                refine take_val (i := 18) (oi := ⟨some 84, .move (.tmp 13), _, _, _, none⟩) (.int .i64 (k : Nat)) rfl (by kernel_rfl) (by kernel_rfl) (by kernel_rfl) (fun _ _ _ h => h) rfl (fun w hSw => rfl) hSd ?_
                simp only [Act.put, List.setIfInBounds_toArray, List.set_cons_zero, List.set_cons_succ]
                refine take_val (i := 19) (oi := ⟨some 85, .indexAddr 23 (.tmp 83) (.tmp 84), _, _, _, none⟩) (.pointer (some ⟨b2, off2 + k * 48, none⟩)) rfl (by kernel_rfl) (by kernel_rfl) (by kernel_rfl) (fun _ _ _ h => h) rfl (fun w hSw => ex_index rfl rfl (IXS.out w)) hSd ?_
                simp only [Act.put, List.setIfInBounds_toArray, List.set_cons_zero, List.set_cons_succ]
                refine take_val (i := 20) (oi := ⟨some 86, .fieldAddr 47 (.tmp 85) 5, _, _, _, none⟩) (.pointer (some ⟨b2, off2 + k * 48 + 44, none⟩)) rfl (by kernel_rfl) (by kernel_rfl) (by kernel_rfl) (fun _ _ _ h => h) rfl (fun w hSw => ex_field rfl (fa_s5 _ _ _)) hSd ?_
                simp only [Act.put, List.setIfInBounds_toArray, List.set_cons_zero, List.set_cons_succ]
                refine take_val (i := 21) (oi := ⟨some 87, .load 2 (.tmp 86), _, _, _, none⟩) (.int .i64 (num s 44)) rfl (by kernel_rfl) (by kernel_rfl) (by kernel_rfl) (fun _ _ _ h => h) rfl (fun w hSw => ex_load rfl (ld_i64 _ _ _ _ (hSw.2.2 44 _ F.out.2.2.1))) hSd ?_
                simp only [Act.put, List.setIfInBounds_toArray, List.set_cons_zero, List.set_cons_succ]
                refine take_val (i := 23) (oi := ⟨some 89, .move (.tmp 15), _, _, _, none⟩) (.int .i64 (delV (unfH (num l 36) (num l 0) (num l 1)) (num l 36) (unfH (num l 37) (num l 0) (num l 1)) (num l 37) (unfH (num l 38) (num l 0) (num l 1)) (num l 38) (unfH (num l 39) (num l 0) (num l 1)) (num l 39))) rfl (by kernel_rfl) (by kernel_rfl) (by kernel_rfl) (fun _ _ _ h => h) rfl (fun w hSw => rfl) hSd ?_
                simp only [Act.put, List.setIfInBounds_toArray, List.set_cons_zero, List.set_cons_succ]
                refine take_val (i := 24) (oi := ⟨some 90, .move (.tmp 1), _, _, _, none⟩) (.slice (some ⟨b2, off2, none⟩) ss.length sc) rfl (by kernel_rfl) (by kernel_rfl) (by kernel_rfl) (fun _ _ _ h => h) rfl (fun w hSw => rfl) hSd ?_
                simp only [Act.put, List.setIfInBounds_toArray, List.set_cons_zero, List.set_cons_succ]
                refine take_val (i := 25) (oi := ⟨some 91, .move (.tmp 13), _, _, _, none⟩) (.int .i64 (k : Nat)) rfl (by kernel_rfl) (by kernel_rfl) (by kernel_rfl) (fun _ _ _ h => h) rfl (fun w hSw => rfl) hSd ?_
                simp only [Act.put, List.setIfInBounds_toArray, List.set_cons_zero, List.set_cons_succ]
                refine take_val (i := 26) (oi := ⟨some 92, .indexAddr 23 (.tmp 90) (.tmp 91), _, _, _, none⟩) (.pointer (some ⟨b2, off2 + k * 48, none⟩)) rfl (by kernel_rfl) (by kernel_rfl) (by kernel_rfl) (fun _ _ _ h => h) rfl (fun w hSw => ex_index rfl rfl (IXS.out w)) hSd ?_
                simp only [Act.put, List.setIfInBounds_toArray, List.set_cons_zero, List.set_cons_succ]
                refine take_val (i := 27) (oi := ⟨some 93, .fieldAddr 47 (.tmp 92) 6, _, _, _, none⟩) (.pointer (some ⟨b2, off2 + k * 48 + 45, none⟩)) rfl (by kernel_rfl) (by kernel_rfl) (by kernel_rfl) (fun _ _ _ h => h) rfl (fun w hSw => ex_field rfl (fa_s6 _ _ _)) hSd ?_
                simp only [Act.put, List.setIfInBounds_toArray, List.set_cons_zero, List.set_cons_succ]
                refine take_val (i := 28) (oi := ⟨some 94, .load 2 (.tmp 93), _, _, _, none⟩) (.int .i64 (num s 45)) rfl (by kernel_rfl) (by kernel_rfl) (by kernel_rfl) (fun _ _ _ h => h) rfl (fun w hSw => ex_load rfl (ld_i64 _ _ _ _ (hSw.2.2 45 _ F.out.2.2.2))) hSd ?_
                simp only [Act.put, List.setIfInBounds_toArray, List.set_cons_zero, List.set_cons_succ]
                refine take_call 15 (f := 31) (args := #[.int .u64 (num s 43), .int .u64 (num l 39)]) rfl (by kernel_rfl) rfl (by kernel_rfl) (wayR_w _ _ _ K.out.1 K.out.2.1) ?_
                rintro e v1 ⟨rfl, hb1⟩
                have hR1 := hR0.up hb1
                have hS2 := HK.out v1 hR1.2.2.2.2.1
                clear hSd hb1 hR0
                have hSd := hS2
                refine ⟨_, rfl, hS2, ?_⟩
                simp only [Act.put, List.setIfInBounds_toArray, List.set_cons_zero, List.set_cons_succ]
                refine take_call 22 (f := 32) (args := #[.int .i64 (offV (unfH (num l 36) (num l 0) (num l 1)) (num l 36) (unfH (num l 37) (num l 0) (num l 1)) (num l 37) (unfH (num l 38) (num l 0) (num l 1)) (num l 38) (unfH (num l 39) (num l 0) (num l 1)) (num l 39)), .int .i64 (num s 44)]) rfl (by kernel_rfl) rfl (by kernel_rfl) (lessR_w _ _ _ K.out.2.2.1 K.out.2.2.2.1) ?_
                rintro e v2 ⟨rfl, hb1⟩
                have hR2 := hR1.up hb1
                have hS2 := HK.out v2 hR2.2.2.2.2.1
                clear hSd hb1 hR1
                have hSd := hS2
                refine ⟨_, rfl, hS2, ?_⟩
                simp only [Act.put, List.setIfInBounds_toArray, List.set_cons_zero, List.set_cons_succ]
                refine take_call 29 (f := 32) (args := #[.int .i64 (delV (unfH (num l 36) (num l 0) (num l 1)) (num l 36) (unfH (num l 37) (num l 0) (num l 1)) (num l 37) (unfH (num l 38) (num l 0) (num l 1)) (num l 38) (unfH (num l 39) (num l 0) (num l 1)) (num l 39)), .int .i64 (num s 45)]) rfl (by kernel_rfl) rfl (by kernel_rfl) (lessR_w _ _ _ K.out.2.2.2.2.1 K.out.2.2.2.2.2) ?_
                rintro e v3 ⟨rfl, hb1⟩
                have hR3 := hR2.up hb1
                have hS2 := HK.out v3 hR3.2.2.2.2.1
                clear hSd hb1 hR2
                have hSd := hS2
                refine ⟨_, rfl, hS2, ?_⟩
                simp only [Act.put, List.setIfInBounds_toArray, List.set_cons_zero, List.set_cons_succ]
                refine take_val (i := 30) (oi := ⟨some 96, .build 78 #[(0, .tmp 67), (1, .tmp 68), (2, .tmp 81), (3, .tmp 88), (4, .tmp 95)], _, _, _, none⟩) (.agg #[.int .i64 (i : Nat), .int .i64 (k : Nat), .int .i64 (wayV (num s 43) (num l 39)), .int .i64 (lessV (offV (unfH (num l 36) (num l 0) (num l 1)) (num l 36) (unfH (num l 37) (num l 0) (num l 1)) (num l 37) (unfH (num l 38) (num l 0) (num l 1)) (num l 38) (unfH (num l 39) (num l 0) (num l 1)) (num l 39)) (num s 44)), .int .i64 (lessV (delV (unfH (num l 36) (num l 0) (num l 1)) (num l 36) (unfH (num l 37) (num l 0) (num l 1)) (num l 37) (unfH (num l 38) (num l 0) (num l 1)) (num l 38) (unfH (num l 39) (num l 0) (num l 1)) (num l 39)) (num s 45))]) rfl (by kernel_rfl) (by kernel_rfl) (by kernel_rfl) (fun _ _ _ h => h) rfl (fun w hSw => ex_build _ _ _ _ _ _ _ _ _ _ _ _ _ _ _ _ rfl rfl rfl rfl rfl) hSd ?_
                simp only [Act.put, List.setIfInBounds_toArray, List.set_cons_zero, List.set_cons_succ]
                have hA := (Below.refl v3.heap.size v3).alloc (Nat.le_refl _) (.cells #[.int .i64 (i : Nat), .int .i64 (k : Nat), .int .i64 (wayV (num s 43) (num l 39)), .int .i64 (lessV (offV (unfH (num l 36) (num l 0) (num l 1)) (num l 36) (unfH (num l 37) (num l 0) (num l 1)) (num l 37) (unfH (num l 38) (num l 0) (num l 1)) (num l 38) (unfH (num l 39) (num l 0) (num l 1)) (num l 39)) (num s 44)), .int .i64 (lessV (delV (unfH (num l 36) (num l 0) (num l 1)) (num l 36) (unfH (num l 37) (num l 0) (num l 1)) (num l 37) (unfH (num l 38) (num l 0) (num l 1)) (num l 38) (unfH (num l 39) (num l 0) (num l 1)) (num l 39)) (num s 45))] 78)
                have hR4 := hR3.up hA
                have hS4 := HK.out _ hR4.2.2.2.2.1
                have qN := heap_alloc_new v3 (.cells #[.int .i64 (i : Nat), .int .i64 (k : Nat), .int .i64 (wayV (num s 43) (num l 39)), .int .i64 (lessV (offV (unfH (num l 36) (num l 0) (num l 1)) (num l 36) (unfH (num l 37) (num l 0) (num l 1)) (num l 37) (unfH (num l 38) (num l 0) (num l 1)) (num l 38) (unfH (num l 39) (num l 0) (num l 1)) (num l 39)) (num s 44)), .int .i64 (lessV (delV (unfH (num l 36) (num l 0) (num l 1)) (num l 36) (unfH (num l 37) (num l 0) (num l 1)) (num l 37) (unfH (num l 38) (num l 0) (num l 1)) (num l 38) (unfH (num l 39) (num l 0) (num l 1)) (num l 39)) (num s 45))] 78)
                refine take_do 31 rfl (by kernel_rfl) rfl (ex_row _ _ _ _ _ _ _ _ _ _ _ _ rfl) hS4 ?_
                simp only [Act.put, List.setIfInBounds_toArray, List.set_cons_zero, List.set_cons_succ]
                clear hR3 hA hSd
                refine take_append 32 (.tmp 66) (.tmp 97) 25 rfl (by kernel_rfl) rfl rfl B 78 im _ 5 40 Tryz.underlying25 HI.out.2.1 HI.out.2.2.1 HI.out.2.2.2.1 HI.out.2.2.2.2 rfl (by decide) _ _ _ rfl hR4.1 ⟨v3.heap.size, 0, none⟩ 1 1 #[.int .i64 (i : Nat), .int .i64 (k : Nat), .int .i64 (wayV (num s 43) (num l 39)), .int .i64 (lessV (offV (unfH (num l 36) (num l 0) (num l 1)) (num l 36) (unfH (num l 37) (num l 0) (num l 1)) (num l 37) (unfH (num l 38) (num l 0) (num l 1)) (num l 38) (unfH (num l 39) (num l 0) (num l 1)) (num l 39)) (num s 44)), .int .i64 (lessV (delV (unfH (num l 36) (num l 0) (num l 1)) (num l 36) (unfH (num l 37) (num l 0) (num l 1)) (num l 37) (unfH (num l 38) (num l 0) (num l 1)) (num l 38) (unfH (num l 39) (num l 0) (num l 1)) (num l 39)) (num s 45))].toList rfl rfl (World.news_of_block (cs := #[.int .i64 (i : Nat), .int .i64 (k : Nat), .int .i64 (wayV (num s 43) (num l 39)), .int .i64 (lessV (offV (unfH (num l 36) (num l 0) (num l 1)) (num l 36) (unfH (num l 37) (num l 0) (num l 1)) (num l 37) (unfH (num l 38) (num l 0) (num l 1)) (num l 38) (unfH (num l 39) (num l 0) (num l 1)) (num l 39)) (num s 44)), .int .i64 (lessV (delV (unfH (num l 36) (num l 0) (num l 1)) (num l 36) (unfH (num l 37) (num l 0) (num l 1)) (num l 37) (unfH (num l 38) (num l 0) (num l 1)) (num l 38) (unfH (num l 39) (num l 0) (num l 1)) (num l 39)) (num s 45))]) qN) (by simp [Value.oneCell']) ?c1 ?c2 ?c3 ?_
                case c1 => have := HLEN.out; unfold maxLen; omega
                case c2 => have := HLEN.out; omega
                case c3 => exact hR4.2.2.2.2.2
                intro v' w8 o1 o2 o3
                have hR5 := hR4.addMet HN.out.1 o1 o2 HMV.out
                have hSd := HK.out w8 hR5.2.2.2.2.1
                refine ⟨hSd, ?_⟩
                simp only [Act.put, List.setIfInBounds_toArray, List.set_cons_zero, List.set_cons_succ]
                refine take_val (i := 33) (oi := ⟨some 7, .assign (.tmp 98), _, _, _, none⟩) (v') rfl (by kernel_rfl) (by kernel_rfl) (by kernel_rfl) (fun _ _ _ h => h) rfl (fun w hSw => rfl) hSd ?_
                simp only [Act.put, List.setIfInBounds_toArray, List.set_cons_zero, List.set_cons_succ]
                refine wpAnyH_done (by kernel_rfl) ?_ _
                have HO := Lib.hid hR5
                clear hSd hR5 o1 o2 o3 hS4
                go_wp2_with fail
                go_roundg 0
                case measure => omega
                case rel => exact .inr ⟨k, _, HP.out, by go_num, rfl, rfl, HO.out⟩
        · have HX := Lib.hid (And.intro hR2 hp)
          clear hR2 hp
          cases e2 : decide ((j : Int) + 1 < (ss.length : Int)) with
          | true =>
            go_wp2_with fail
            go_roundg (ls.length - (i + 1))
            case measure => omega
            case rel => exact ⟨i + 1, bf', by go_num, by omega, rfl, by rw [greed_some (by rw [HLI.out.2.1]; exact HX.out.2)]; exact HX.out.1⟩
          | false =>
            go_wp2_with fail
            go_roundg (ls.length - (i + 1))
            case measure => omega
            case rel => exact ⟨i + 1, bf', by go_num, by omega, rfl, by rw [greed_some (by rw [HLI.out.2.1]; exact HX.out.2)]; exact HX.out.1⟩
end Go.Proofs.YtmnoegfehgoalaaGreatDoor.cx
namespace Go.Proofs.YtmnoegfehgoalaaGreatDoor.cx
open Go.RowKit Go.Extern.Stop Go.Stop Go.Extern Go.Cx
set_option linter.unusedVariables false
/-- A value that is a word, a place and a sort. -/
def AmissAt (w : World) (v : Value) (what : ByteArray) (at' : Nat) (kind : Int) : Prop :=
  ∃ g, v = .iface 63 (.pointer (some ⟨g, 0, none⟩)) ∧ w.heap[g]? = some (.cells #[.string what, .int .i64 (at' : Nat), .iface 74 (.int .i64 kind)] 67)
theorem AmissAt.up {w w' : World} {v : Value} {what : ByteArray} {at' : Nat} {kind : Int} (h : AmissAt w v what at' kind) (hb : Below w.heap.size w w') : AmissAt w' v what at' kind := by
  obtain ⟨g, h1, h2⟩ := h
  exact ⟨g, h1, keepB hb h2⟩
set_option maxRecDepth 1000000 in
theorem amiss_w (W : World) (s : ByteArray) (a : Nat) (k : Int) : Calls Tryz.prog 35 #[.string s, .int .i64 (a : Nat), .int .i64 k] W fun e w' => ∃ v, e = .returned v ∧ AmissAt w' v s a k ∧ Below W.heap.size W w' := by
  go_enter Tryz.func35, Tryz.ntmps35
  go_wp2_with fail
  go_ret
  exact ⟨_, rfl, ⟨_, rfl, heap_alloc_new _ _⟩, (Below.refl _ _).alloc (Nat.le_refl _) _⟩
/-- The lag of a meeting. -/
def lagV (ls ss : List (List Value)) (p : Nat × Nat) : Int := wayV (num (ss.getD p.2 []) 43) (num (ls.getD p.1 []) 39)
def wLine : ByteArray := ⟨#[108, 105, 110, 101]⟩
def wSample : ByteArray := ⟨#[115, 97, 109, 112, 108, 101]⟩
def wLag : ByteArray := ⟨#[108, 97, 103]⟩
def farLag (ls ss : List (List Value)) (most : Int) (p : Nat × Nat) : Bool := decide (most < lagV ls ss p) || decide (lagV ls ss p < -most)
/-- What is amiss, of whatever greed. -/
def auditG (ls ss : List (List Value)) (most : Int) (m : Nat) (G : Greed) : Option (ByteArray × Nat × Int) := match G.lost with
  | x :: _ => some (wLine, x, 4)
  | [] => match bare m G with
    | y :: _ => some (wSample, y, 6)
    | [] => match G.met.find? (farLag ls ss most) with
      | some p => some (wLag, p.1, 5)
      | none => none
def AudAt (w : World) (r : Option (ByteArray × Nat × Int)) (v : Value) : Prop := match r with
  | some (s, a, k) => AmissAt w v s a k
  | none => v = .nilIface
theorem find_at {α : Type} {l : List α} {f : α → Bool} {k : Nat} {p : α} (hp : l[k]? = some p) (hf : f p = true) (hj : ∀ (j : Nat) (q : α), j < k → l[j]? = some q → f q = false) : l.find? f = some p := by
  obtain ⟨hk, rfl⟩ := List.getElem?_eq_some_iff.1 hp
  rw [List.find?_eq_some_iff_getElem]
  exact ⟨hf, k, hk, rfl, fun j hjk => by rw [hj j _ hjk (List.getElem?_eq_getElem (by omega))]; rfl⟩
set_option maxHeartbeats 4000000 in
set_option maxRecDepth 1000000 in
theorem audit_w (W : World) (lv sv : Value) (ls ss : List (List Value)) (most : Int) (hm0 : 0 ≤ most ∧ most < 9223372036854775808) (hl : ∀ r ∈ ls, RowOk lineK r) (hs : ∀ r ∈ ss, RowOk sampK r) (hlv : Sl W 53 lv ls) (hsv : Sl W 48 sv ss) (n1 : ls.length ≤ 60) (n2 : ss.length ≤ 60) :
    Calls Tryz.prog 12 #[lv, sv, .int .i64 most] W fun e w' => ∃ v, e = .returned (.tuple #[v, .int .i64 0]) ∧ AudAt w' (auditG ls ss most ss.length (greed ss.length (TT ls ss) ls.length)) v ∧ Below W.heap.size W w' := by
  have hml := (greed_inv ss.length (TT ls ss) ls.length).len
  have HM := Lib.hid (meet_w W lv sv ls ss hl hs hlv hsv n1 n2)
  have d1 : decide (most < 0) = false := by simp; omega
  clear hl hs hlv hsv
  generalize hG : greed ss.length (TT ls ss) ls.length = G at *
  have hml : G.met.length ≤ 60 := by omega
  generalize hm : ss.length = m at *
  generalize hr : auditG ls ss most m G = r
  cases hlo : G.lost with
  | cons x xs =>
    have hr' : r = some (wLine, x, 4) := by rw [← hr]; unfold auditG; rw [hlo]
    subst hr'
    go_enter Tryz.func12, Tryz.ntmps12
    go_wp2_with (first
      | (go_at_call 7; refine HM.out.mono ?_; rintro e w1 ⟨vm, vl, vb, rfl, o1, o2, o3, hb1⟩; (rw [hm, hG, hlo] at o2); (obtain ⟨a6, c6, rfl, k61, k62, k63, k64⟩ := own_get o2); (obtain ⟨g6, rfl, _, hr6⟩ := k64 (by simp)); have c0 := range_cell hr6 0 _ (ints_get (l := x :: xs) (i := 0) rfl); have q2 : (0 : Int) < (((x :: xs).length : Nat) : Int) := (by rw [List.length_cons]; omega); have q1 := decide_eq_true q2; rw [Nat.add_zero] at c0; (generalize (x :: xs).length = nl at q1 q2 ⊢); clear o1 o2 o3 hr6 k64)
      | (go_at_call 35; refine (amiss_w _ _ _ _).mono ?_; rintro e w2 ⟨v, rfl, hA, hb2⟩))
    go_ret2
    exact ⟨v, rfl, hA, hb1.trans (hb2.mono hb1.size)⟩
  | nil =>
    cases hba : bare m G with
    | cons y ys =>
      have hr' : r = some (wSample, y, 6) := by rw [← hr]; unfold auditG; rw [hlo, hba]
      subst hr'
      go_enter Tryz.func12, Tryz.ntmps12
      go_wp2_with (first
        | (go_at_call 7; refine HM.out.mono ?_; rintro e w1 ⟨vm, vl, vb, rfl, o1, o2, o3, hb1⟩; (rw [hm, hG, hlo] at o2); (rw [hm, hG, hba] at o3); (obtain ⟨a6, c6, rfl, k61, k62, k63, k64⟩ := own_get o2); (obtain ⟨a7, c7, rfl, k71, k72, k73, k74⟩ := own_get o3); (obtain ⟨g7, rfl, _, hr7⟩ := k74 (by simp)); have c0 := range_cell hr7 0 _ (ints_get (l := y :: ys) (i := 0) rfl); have q2 : (0 : Int) < (((y :: ys).length : Nat) : Int) := (by rw [List.length_cons]; omega); have q1 := decide_eq_true q2; rw [Nat.add_zero] at c0; (generalize (y :: ys).length = nl at q1 q2 ⊢); clear o1 o2 o3 hr7 k64 k74 k61 k62 k63 k71 k72 k73)
        | (go_at_call 35; refine (amiss_w _ _ _ _).mono ?_; rintro e w2 ⟨v, rfl, hA, hb2⟩))
      go_ret2
      exact ⟨v, rfl, hA, hb1.trans (hb2.mono hb1.size)⟩
    | nil =>
      have hr' : r = match G.met.find? (farLag ls ss most) with
        | some p => some (wLag, p.1, 5)
        | none => none := by rw [← hr]; unfold auditG; rw [hlo, hba]
      have HR := Lib.hid hr'
      clear hr' hr
      go_enter Tryz.func12, Tryz.ntmps12
      go_wp2_with (go_at_call 7; refine HM.out.mono ?_; rintro e w1 ⟨vm, vl, vb, rfl, o1, o2, o3, hb1⟩; (rw [hm, hG] at o1); (rw [hm, hG, hlo] at o2); (rw [hm, hG, hba] at o3); (obtain ⟨a6, c6, rfl, _, _, _, _⟩ := own_get o2); (obtain ⟨a7, c7, rfl, _, _, _, _⟩ := own_get o3); (obtain ⟨a5, c5, rfl, k51, k52, k53, k54⟩ := own_get o1); have HO := Lib.hid (And.intro k54 hb1); clear o1 o2 o3 k53 k54 hb1)
      go_loopg [46] G.met.length (fun g i wl => ∃ k : Nat, i = .int .i64 (k : Nat) ∧ k ≤ G.met.length ∧ g = G.met.length - k ∧ Below w1.heap.size w1 wl ∧ ∀ (j : Nat) (p : Nat × Nat), j < k → G.met[j]? = some p → farLag ls ss most p = false)
      case atStart => exact ⟨0, rfl, Nat.zero_le _, by omega, Below.refl _ _, fun j p hj => absurd hj (by omega)⟩
      case round =>
        obtain ⟨k, rfl, hk, hg, hbw, hj⟩ := hrel
        by_cases hkn : k = G.met.length
        · have e1 : decide ((k : Int) < (G.met.length : Int)) = false := by rw [hkn]; simp
          have hnone : G.met.find? (farLag ls ss most) = none := by
            rw [List.find?_eq_none]
            intro p hp
            obtain ⟨j, hjl, rfl⟩ := List.getElem_of_mem hp
            rw [hj j _ (by omega) (List.getElem?_eq_getElem hjl)]
            simp
          have hrn : r = none := by rw [HR.out, hnone]
          subst hrn
          have HB := Lib.hid hbw
          clear hbw hj hnone
          go_wp2_with fail
          go_ret2
          exact ⟨_, rfl, rfl, HO.out.2.trans (HB.out.mono HO.out.2.size)⟩
        · have hkl : k < G.met.length := by omega
          obtain ⟨⟨a, b⟩, hp⟩ : ∃ p, G.met[k]? = some p := ⟨G.met[k], List.getElem?_eq_getElem hkl⟩
          obtain ⟨gm, ha5, hgm, hrg⟩ := HO.out.1 (by omega)
          subst ha5
          have hlt5 : gm < w1.heap.size := range_lt hrg (by rw [metC_len _ (mv_len ls ss)]; omega)
          have hr5 := range_part hrg (k * 5) 5
          rw [metC_get _ (mv_len ls ss) _ _ _ hp] at hr5
          obtain ⟨x, y, z, hxyz, hxl⟩ : ∃ x y z : Int, MV ls ss a b = [.int .i64 x, .int .i64 y, .int .i64 z] ∧ x = lagV ls ss (a, b) := ⟨_, _, _, rfl, rfl⟩
          have hr5 : w1.rangeAt gm (0 + k * 5) [.int .i64 (a : Nat), .int .i64 (b : Nat), .int .i64 x, .int .i64 y, .int .i64 z] := by rw [← hxyz]; exact hr5
          have hr5 := range_up hr5 hbw hlt5
          rw [Nat.zero_add] at hr5
          have c0 := hr5 0 _ rfl
          have c1 := hr5 1 _ rfl
          have c2 := hr5 2 _ rfl
          have c3 := hr5 3 _ rfl
          have c4 := hr5 4 _ rfl
          rw [Nat.add_zero] at c0
          have e1 : decide ((k : Int) < (G.met.length : Int)) = true := by simp; omega
          have e2 : (0 : Int) ≤ (k : Int) := by omega
          have e3 : (k : Int) < (G.met.length : Int) := by omega
          have hfar : farLag ls ss most (a, b) = (decide (most < x) || decide (x < -most)) := by rw [hxl]; rfl
          have HJ := Lib.hid (And.intro hj (And.intro hp (And.intro hbw hfar)))
          clear hr5 hrg hxyz hxl hfar hj hp hbw
          cases s1 : decide (most < x) with
          | true =>
            have hrn : r = some (wLag, a, 5) := by
              have hf : G.met.find? (farLag ls ss most) = some (a, b) := find_at HJ.out.2.1 (by rw [HJ.out.2.2.2, s1]; rfl) HJ.out.1
              rw [HR.out, hf]
            subst hrn
            go_wp2_with (go_at_call 35; refine (amiss_w _ _ _ _).mono ?_; rintro e w2 ⟨v, rfl, hA, hb2⟩)
            go_ret2
            exact ⟨v, rfl, hA, bT (bA (bT HO.out.2 HJ.out.2.2.1)) hb2⟩
          | false =>
            cases s2 : decide (x < -most) with
            | true =>
              have hrn : r = some (wLag, a, 5) := by
                have hf : G.met.find? (farLag ls ss most) = some (a, b) := find_at HJ.out.2.1 (by rw [HJ.out.2.2.2, s1, s2]; rfl) HJ.out.1
                rw [HR.out, hf]
              subst hrn
              go_wp2_with (go_at_call 35; refine (amiss_w _ _ _ _).mono ?_; rintro e w2 ⟨v, rfl, hA, hb2⟩)
              go_ret2
              exact ⟨v, rfl, hA, bT (bA (bT HO.out.2 HJ.out.2.2.1)) hb2⟩
            | false =>
              go_wp2_with fail
              go_roundg (G.met.length - (k + 1))
              case measure => omega
              case rel =>
                refine ⟨k + 1, by go_num, by omega, rfl, bA HJ.out.2.2.1, fun j p hj hp => ?_⟩
                by_cases hjk : j = k
                · subst hjk
                  have : p = (a, b) := by rw [HJ.out.2.1] at hp; exact (Option.some.inj hp).symm
                  rw [this, HJ.out.2.2.2, s1, s2]
                  rfl
                · exact HJ.out.1 j p (by omega) hp
end Go.Proofs.YtmnoegfehgoalaaGreatDoor.cx
namespace Go.Proofs.YtmnoegfehgoalaaGreatDoor.cx
open Go.RowKit Go.Extern.Stop Go.Stop Go.Extern Go.Cx
set_option linter.unusedVariables false
def audV : Option (ByteArray × Nat × Int) → Value
  | some (s, a, k) => .tuple #[.string s, .int .i64 (a : Nat), .int .i64 k]
  | none => .tuple #[.string ⟨#[]⟩, .int .i64 0, .int .i64 0]
set_option maxHeartbeats 4000000 in
set_option maxRecDepth 1000000 in
theorem auditR_w (W : World) (lv sv : Value) (ls ss : List (List Value)) (most : Int) (hm0 : 0 ≤ most ∧ most < 9223372036854775808) (hl : ∀ r ∈ ls, RowOk lineK r) (hs : ∀ r ∈ ss, RowOk sampK r) (hlv : Sl W 53 lv ls) (hsv : Sl W 48 sv ss) (n1 : ls.length ≤ 60) (n2 : ss.length ≤ 60) :
    Calls Tryz.prog 19 #[lv, sv, .int .i64 most] W fun e w' => e = .returned (audV (auditG ls ss most ss.length (greed ss.length (TT ls ss) ls.length))) ∧ Below W.heap.size W w' := by
  have hml := (greed_inv ss.length (TT ls ss) ls.length).len
  have HM := Lib.hid (meetR_w W lv sv ls ss hl hs hlv hsv n1 n2)
  clear hl hs hlv hsv
  generalize hG : greed ss.length (TT ls ss) ls.length = G at *
  have hml : G.met.length ≤ 60 := by omega
  generalize hm : ss.length = m at *
  generalize hr : auditG ls ss most m G = r
  cases hlo : G.lost with
  | cons x xs =>
    have hr' : r = some (wLine, x, 4) := by rw [← hr]; unfold auditG; rw [hlo]
    subst hr'
    go_enter Tryz.func19, Tryz.ntmps19
    go_wp2_with (go_at_call 8; refine HM.out.mono ?_; rintro e w1 ⟨vm, vl, vb, rfl, o1, o2, o3, hb1⟩; (rw [hm, hG, hlo] at o2); (obtain ⟨a6, c6, rfl, k61, k62, k63, k64⟩ := own_get o2); (obtain ⟨g6, rfl, _, hr6⟩ := k64 (by simp)); have c0 := range_cell hr6 0 _ (ints_get (l := x :: xs) (i := 0) rfl); have q2 : (0 : Int) < (((x :: xs).length : Nat) : Int) := (by rw [List.length_cons]; omega); have q1 := decide_eq_true q2; rw [Nat.add_zero] at c0; (generalize (x :: xs).length = nl at q1 q2 ⊢); clear o1 o2 o3 hr6 k64)
    go_quiet (fail)
    go_wp2_with fail
    go_ret3
    exact ⟨rfl, Below.trans hb1 ⟨rfl, rfl, rfl, Nat.le_refl _, fun _ _ => rfl⟩⟩
  | nil =>
    cases hba : bare m G with
    | cons y ys =>
      have hr' : r = some (wSample, y, 6) := by rw [← hr]; unfold auditG; rw [hlo, hba]
      subst hr'
      go_enter Tryz.func19, Tryz.ntmps19
      go_wp2_with (go_at_call 8; refine HM.out.mono ?_; rintro e w1 ⟨vm, vl, vb, rfl, o1, o2, o3, hb1⟩; (rw [hm, hG, hlo] at o2); (rw [hm, hG, hba] at o3); (obtain ⟨a6, c6, rfl, k61, k62, k63, k64⟩ := own_get o2); (obtain ⟨a7, c7, rfl, k71, k72, k73, k74⟩ := own_get o3); (obtain ⟨g7, rfl, _, hr7⟩ := k74 (by simp)); have c0 := range_cell hr7 0 _ (ints_get (l := y :: ys) (i := 0) rfl); have q2 : (0 : Int) < (((y :: ys).length : Nat) : Int) := (by rw [List.length_cons]; omega); have q1 := decide_eq_true q2; rw [Nat.add_zero] at c0; (generalize (y :: ys).length = nl at q1 q2 ⊢); clear o1 o2 o3 hr7 k64 k74 k61 k62 k63 k71 k72 k73)
      go_quiet (fail)
      go_wp2_with fail
      go_ret3
      exact ⟨rfl, Below.trans hb1 ⟨rfl, rfl, rfl, Nat.le_refl _, fun _ _ => rfl⟩⟩
    | nil =>
      have hr' : r = match G.met.find? (farLag ls ss most) with
        | some p => some (wLag, p.1, 5)
        | none => none := by rw [← hr]; unfold auditG; rw [hlo, hba]; try rfl
      have HR := Lib.hid hr'
      clear hr' hr
      go_enter Tryz.func19, Tryz.ntmps19
      go_wp2_with (go_at_call 8; refine HM.out.mono ?_; rintro e w1 ⟨vm, vl, vb, rfl, o1, o2, o3, hb1⟩; (rw [hm, hG] at o1); (rw [hm, hG, hlo] at o2); (rw [hm, hG, hba] at o3); (obtain ⟨a6, c6, rfl, _, _, _, _⟩ := own_get o2); (obtain ⟨a7, c7, rfl, _, _, _, _⟩ := own_get o3); (obtain ⟨a5, c5, rfl, k51, k52, k53, k54⟩ := own_get o1); have HO := Lib.hid (And.intro k54 hb1); clear o1 o2 o3 k53 k54 hb1)
      go_loopg [12] G.met.length (fun g i wl => ∃ k : Nat, i = .int .i64 (k : Nat) ∧ k ≤ G.met.length ∧ g = G.met.length - k ∧ Below w1.heap.size w1 wl ∧ ∀ (j : Nat) (p : Nat × Nat), j < k → G.met[j]? = some p → farLag ls ss most p = false)
      case atStart => exact ⟨0, rfl, Nat.zero_le _, by omega, Below.refl _ _, fun j p hj => absurd hj (by omega)⟩
      case round =>
        obtain ⟨k, rfl, hk, hg, hbw, hj⟩ := hrel
        by_cases hkn : k = G.met.length
        · have e1 : decide ((k : Int) < (G.met.length : Int)) = false := by rw [hkn]; simp
          have hnone : G.met.find? (farLag ls ss most) = none := by
            rw [List.find?_eq_none]
            intro p hp
            obtain ⟨j, hjl, rfl⟩ := List.getElem_of_mem hp
            rw [hj j _ (by omega) (List.getElem?_eq_getElem hjl)]
            simp
          have hrn : r = none := by rw [HR.out, hnone]
          subst hrn
          have HB := Lib.hid hbw
          clear hbw hj hnone
          go_wp2_with fail
          go_ret3
          exact ⟨rfl, HO.out.2.trans (HB.out.mono HO.out.2.size)⟩
        · have hkl : k < G.met.length := by omega
          obtain ⟨⟨a, b⟩, hp⟩ : ∃ p, G.met[k]? = some p := ⟨G.met[k], List.getElem?_eq_getElem hkl⟩
          obtain ⟨gm, ha5, hgm, hrg⟩ := HO.out.1 (by omega)
          subst ha5
          have hlt5 : gm < w1.heap.size := range_lt hrg (by rw [metC_len _ (mv_len ls ss)]; omega)
          have hr5 := range_part hrg (k * 5) 5
          rw [metC_get _ (mv_len ls ss) _ _ _ hp] at hr5
          obtain ⟨x, y, z, hxyz, hxl⟩ : ∃ x y z : Int, MV ls ss a b = [.int .i64 x, .int .i64 y, .int .i64 z] ∧ x = lagV ls ss (a, b) := ⟨_, _, _, rfl, rfl⟩
          have hr5 : w1.rangeAt gm (0 + k * 5) [.int .i64 (a : Nat), .int .i64 (b : Nat), .int .i64 x, .int .i64 y, .int .i64 z] := by rw [← hxyz]; exact hr5
          have hr5 := range_up hr5 hbw hlt5
          rw [Nat.zero_add] at hr5
          have c0 := hr5 0 _ rfl
          have c1 := hr5 1 _ rfl
          have c2 := hr5 2 _ rfl
          have c3 := hr5 3 _ rfl
          have c4 := hr5 4 _ rfl
          rw [Nat.add_zero] at c0
          have e1 : decide ((k : Int) < (G.met.length : Int)) = true := by simp; omega
          have e2 : (0 : Int) ≤ (k : Int) := by omega
          have e3 : (k : Int) < (G.met.length : Int) := by omega
          have hfar : farLag ls ss most (a, b) = (decide (most < x) || decide (x < -most)) := by rw [hxl]; rfl
          have HJ := Lib.hid (And.intro hj (And.intro hp (And.intro hbw hfar)))
          clear hr5 hrg hxyz hxl hfar hj hp hbw
          cases s1 : decide (most < x) with
          | true =>
            have hrn : r = some (wLag, a, 5) := by
              have hf : G.met.find? (farLag ls ss most) = some (a, b) := find_at HJ.out.2.1 (by rw [HJ.out.2.2.2, s1]; rfl) HJ.out.1
              rw [HR.out, hf]
            subst hrn
            go_wp2_with fail
            go_quiet (fail)
            go_wp2_with fail
            go_ret3
            exact ⟨rfl, Below.trans (bT HO.out.2 HJ.out.2.2.1) ⟨rfl, rfl, rfl, Nat.le_refl _, fun _ _ => rfl⟩⟩
          | false =>
            cases s2 : decide (x < -most) with
            | true =>
              have hrn : r = some (wLag, a, 5) := by
                have hf : G.met.find? (farLag ls ss most) = some (a, b) := find_at HJ.out.2.1 (by rw [HJ.out.2.2.2, s1, s2]; rfl) HJ.out.1
                rw [HR.out, hf]
              subst hrn
              go_wp2_with fail
              go_quiet (fail)
              go_wp2_with fail
              go_ret3
              exact ⟨rfl, Below.trans (bT HO.out.2 HJ.out.2.2.1) ⟨rfl, rfl, rfl, Nat.le_refl _, fun _ _ => rfl⟩⟩
            | false =>
              go_wp2_with fail
              go_roundg (G.met.length - (k + 1))
              case measure => omega
              case rel =>
                refine ⟨k + 1, by go_num, by omega, rfl, HJ.out.2.2.1, fun j p hj hp => ?_⟩
                by_cases hjk : j = k
                · subst hjk
                  have : p = (a, b) := by rw [HJ.out.2.1] at hp; exact (Option.some.inj hp).symm
                  rw [this, HJ.out.2.2.2, s1, s2]
                  rfl
                · exact HJ.out.1 j p (by omega) hp
end Go.Proofs.YtmnoegfehgoalaaGreatDoor.cx
