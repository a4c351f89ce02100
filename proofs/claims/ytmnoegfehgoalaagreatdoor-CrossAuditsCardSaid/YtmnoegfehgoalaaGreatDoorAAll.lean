/- The row 'CrossAudits' where something is amiss: the walk, over what its calls come to. What is amiss is found again, told, noted, grave or not: as contracts. The row 'CrossAudits', at whatever lines, samples and bound. -/
import Derived.Test.YtmnoegfehgoalaaGreatDoorABase
import Derived.Test.YtmnoegfehgoalaaGreatDoorCxB
import Derived.Test.YtmnoegfehgoalaaGreatDoorARun
import Derived.Test.YtmnoegfehgoalaaGreatDoorCzD
namespace Go.Proofs.YtmnoegfehgoalaaGreatDoor.cx
open Go.RowKit Go.Extern.Stop Go.Stop Go.Extern
open Go.Proofs.YtmnoegfehgoalaaGreatDoor.base (NoteAt sWord)
set_option linter.unusedVariables false
theorem mEr63 (v : Value) (w : World) : (Go.method (249 + Made.depth) 63 v "Error").run Tryz.prog w = .ok (16, v) w := by kernel_rfl
set_option maxHeartbeats 4000000 in
set_option maxRecDepth 1000000 in
theorem some_walk (W : World) (la sa : Option Addr) (nl lc ml sc : Nat) (most : Int) (s dg so : ByteArray) (a : Nat) (k : Int) (P : Nat → World → Prop)
    (d1 : decide ((60 : Int) < (nl : Int)) = false) (d2 : decide ((60 : Int) < (ml : Int)) = false) (d3 : decide (most < 0) = false) (e0 : (k == 0) = false)
    (y1 : ¬ 9223372036854775807 < s.size + 1) (y2 : ¬ 9223372036854775807 < s.size + 1 + dg.size) (y3 : ¬ 9223372036854775807 < s.size + 1 + dg.size + 2) (y4 : ¬ 9223372036854775807 < s.size + 1 + dg.size + 2 + so.size)
    (hup : ∀ g w w', P g w → Below w.heap.size w w' → P g w') (hP : ∀ g w, P g w → Below W.heap.size W w)
    (hA : Calls Tryz.prog 12 #[.slice la nl lc, .slice sa ml sc, .int .i64 most] W fun e w' => ∃ g, e = .returned (.tuple #[.iface 63 (.pointer (some ⟨g, 0, none⟩)), .int .i64 0]) ∧ P g w')
    (hR : ∀ g w, P g w → Calls Tryz.prog 19 #[.slice la nl lc, .slice sa ml sc, .int .i64 most] w fun e w' => e = .returned (.tuple #[.string s, .int .i64 (a : Nat), .int .i64 k]) ∧ Below w.heap.size w w')
    (hW : ∀ g w, P g w → Calls Tryz.prog 14 #[.iface 63 (.pointer (some ⟨g, 0, none⟩)), .string ⟨#[97, 117, 100, 105, 116]⟩] w fun e w' => ∃ g2, e = .returned (.iface 99 (.pointer (some ⟨g2, 0, none⟩))) ∧ NoteAt w' g2 g ∧ Below w.heap.size w w')
    (hN : ∀ g g2 w, P g w → NoteAt w g2 g → Calls Tryz.prog 13 #[.iface 99 (.pointer (some ⟨g2, 0, none⟩))] w fun e w' => e = .returned (.tuple #[.string s, .int .i64 (a : Nat), .bool true]) ∧ Below w.heap.size w w')
    (hF : ∀ g w, P g w → Calls Tryz.prog 13 #[.iface 63 (.pointer (some ⟨g, 0, none⟩))] w fun e w' => e = .returned (.tuple #[.string s, .int .i64 (a : Nat), .bool true]) ∧ Below w.heap.size w w')
    (hKi : ∀ g w, P g w → Calls Tryz.prog 20 #[.iface 63 (.pointer (some ⟨g, 0, none⟩))] w fun e w' => e = .returned (.tuple #[.int .i64 k, .bool true]) ∧ Below w.heap.size w w')
    (hI : ∀ g w, P g w → Calls Tryz.prog 21 #[.iface 63 (.pointer (some ⟨g, 0, none⟩)), .iface 74 (.int .i64 k)] w fun e w' => e = .returned (.bool true) ∧ Below w.heap.size w w')
    (hGr : ∀ g w, P g w → Calls Tryz.prog 18 #[.iface 63 (.pointer (some ⟨g, 0, none⟩))] w fun e w' => e = .returned (.bool (k == 4)) ∧ Below w.heap.size w w')
    (hE : ∀ g w, P g w → Calls Tryz.prog 16 #[.pointer (some ⟨g, 0, none⟩)] w fun e w' => e = .returned (.string (s ++ ⟨#[32]⟩ ++ dg ++ ⟨#[58, 32]⟩ ++ so)) ∧ Below w.heap.size w w')
    (hD : ∀ g w, P g w → Calls Tryz.prog 22 #[.int .i64 (a : Nat)] w fun e w' => e = .returned (.string dg) ∧ Below w.heap.size w w')
    (hS : ∀ g w, P g w → Calls Tryz.prog 23 #[.int .i64 k] w fun e w' => e = .returned (.string so) ∧ Below w.heap.size w w')
    (hK : ∀ g w, P g w → Calls Tryz.prog 6 #[] w fun e w' => e = .returned (.bool true) ∧ Below w.heap.size w w') :
    Calls Tryz.prog 5 #[.slice la nl lc, .slice sa ml sc, .int .i64 most] W fun e w' => e = .returned (.bool true) ∧ Below W.heap.size W w' := by
  have hm := mEr63
  have HU := Lib.hid hup
  have HP := Lib.hid hP
  have HA := Lib.hid hA
  have HR := Lib.hid hR
  have HW := Lib.hid hW
  have HN := Lib.hid hN
  have HF := Lib.hid hF
  have HKi := Lib.hid hKi
  have HI := Lib.hid hI
  have HGr := Lib.hid hGr
  have HE := Lib.hid hE
  have HD := Lib.hid hD
  have HS := Lib.hid hS
  have HK := Lib.hid hK
  clear hup hP hA hR hW hN hF hKi hI hGr hE hD hS hK
  go_enter Tryz.func5, Tryz.ntmps5
  go_wp2_with (first
    | (go_at_call 12; refine HA.out.mono ?_; rintro e w1 ⟨g, rfl, h⟩; have H1 := Lib.hid h; clear h)
    | (go_at_call 19; refine (HR.out _ _ H1.out).mono ?_; rintro e w2 ⟨rfl, hb2⟩; have H2 := Lib.hid (HU.out _ _ _ H1.out hb2); clear hb2)
    | (go_at_call 14; refine (HW.out _ _ H2.out).mono ?_; rintro e w3 ⟨g2, rfl, hn3, hb3⟩; have H3 := Lib.hid (HU.out _ _ _ H2.out hb3); have HN3 := Lib.hid hn3; clear hb3 hn3)
    | (go_at_call 13; (with_reducible refine (HN.out _ _ _ H3.out HN3.out).mono ?_); rintro e w4 ⟨rfl, hb4⟩; have H4 := Lib.hid (HU.out _ _ _ H3.out hb4); clear hb4)
    | (go_at_call 13; (with_reducible refine (HF.out _ _ H4.out).mono ?_); rintro e w5 ⟨rfl, hb5⟩; have H5 := Lib.hid (HU.out _ _ _ H4.out hb5); clear hb5)
    | (go_at_call 20; refine (HKi.out _ _ H5.out).mono ?_; rintro e w6 ⟨rfl, hb6⟩; have H6 := Lib.hid (HU.out _ _ _ H5.out hb6); clear hb6)
    | (go_at_call 21; refine (HI.out _ _ H6.out).mono ?_; rintro e w7 ⟨rfl, hb7⟩; have H7 := Lib.hid (HU.out _ _ _ H6.out hb7); clear hb7)
    | (go_at_call 18; refine (HGr.out _ _ H7.out).mono ?_; rintro e w8 ⟨rfl, hb8⟩; have H8 := Lib.hid (HU.out _ _ _ H7.out hb8); clear hb8)
    | (go_at_call 16; refine (HE.out _ _ H8.out).mono ?_; rintro e w9 ⟨rfl, hb9⟩; have H9 := Lib.hid (HU.out _ _ _ H8.out hb9); clear hb9)
    | (go_at_call 22; refine (HD.out _ _ H9.out).mono ?_; rintro e w10 ⟨rfl, hb10⟩; have H10 := Lib.hid (HU.out _ _ _ H9.out hb10); clear hb10)
    | (go_at_call 23; refine (HS.out _ _ H10.out).mono ?_; rintro e w11 ⟨rfl, hb11⟩; have H11 := Lib.hid (HU.out _ _ _ H10.out hb11); clear hb11)
    | (go_at_call 6; refine (HK.out _ _ H11.out).mono ?_; rintro e w12 ⟨rfl, hb12⟩))
  go_ret
  exact ⟨rfl, (HP.out _ _ (HU.out _ _ _ H11.out hb12))⟩
end Go.Proofs.YtmnoegfehgoalaaGreatDoor.cx
namespace Go.Proofs.YtmnoegfehgoalaaGreatDoor.cx
open Go.RowKit Go.Extern.Stop Go.Stop Go.Extern Go.Cx
open Go.Proofs.YtmnoegfehgoalaaGreatDoor.base
open Go.Dg (embOf Globs)
set_option linter.unusedVariables false
/-- What Audit finds. -/
def Good (s : ByteArray) (a : Nat) (k : Int) : Prop := a < 60 ∧ ((s = sLine ∧ k = 4) ∨ (s = sSample ∧ k = 6) ∨ (s = sLag ∧ k = 5))
section
variable {E : Nat → TypeId} (hG : Globs 10 (embOf (L0 E))) {w : World} (h : At (L0 E) w) {g : Nat} {s : ByteArray} {a : Nat} {k : Int} (hg : Good s a k) (hv : w.heap[g]? = some (.cells #[.string s, .int .i64 (a : Nat), .iface 74 (.int .i64 k)] 67))
include hG h hg hv
theorem find_c : Calls Tryz.prog 13 #[.iface 63 (.pointer (some ⟨g, 0, none⟩))] w fun e w' => e = .returned (.tuple #[.string s, .int .i64 (a : Nat), .bool true]) ∧ Below w.heap.size w w' := by
  obtain ⟨_, ⟨rfl, rfl⟩ | ⟨rfl, rfl⟩ | ⟨rfl, rfl⟩⟩ := hg
  · exact amiss_calls hG h hv 13 rfl [] rfl _ rfl (fa1 E _)
  · exact amiss_calls hG h hv 13 rfl [] rfl _ rfl (fa2 E _)
  · exact amiss_calls hG h hv 13 rfl [] rfl _ rfl (fa3 E _)
theorem findN_c {g2 : Nat} (hn : NoteAt w g2 g) : Calls Tryz.prog 13 #[.iface 99 (.pointer (some ⟨g2, 0, none⟩))] w fun e w' => e = .returned (.tuple #[.string s, .int .i64 (a : Nat), .bool true]) ∧ Below w.heap.size w w' := by
  obtain ⟨_, ⟨rfl, rfl⟩ | ⟨rfl, rfl⟩ | ⟨rfl, rfl⟩⟩ := hg
  · exact note_calls hG h hv hn 13 rfl _ rfl (fn1 E _)
  · exact note_calls hG h hv hn 13 rfl _ rfl (fn2 E _)
  · exact note_calls hG h hv hn 13 rfl _ rfl (fn3 E _)
theorem wrap_c : Calls Tryz.prog 14 #[.iface 63 (.pointer (some ⟨g, 0, none⟩)), .string sWord] w fun e w' => ∃ g2, e = .returned (.iface 99 (.pointer (some ⟨g2, 0, none⟩))) ∧ NoteAt w' g2 g ∧ Below w.heap.size w w' := by
  obtain ⟨_, ⟨rfl, rfl⟩ | ⟨rfl, rfl⟩ | ⟨rfl, rfl⟩⟩ := hg
  · exact wrap_calls hG h hv (wa1 E _)
  · exact wrap_calls hG h hv (wa2 E _)
  · exact wrap_calls hG h hv (wa3 E _)
theorem kind_c : Calls Tryz.prog 20 #[.iface 63 (.pointer (some ⟨g, 0, none⟩))] w fun e w' => e = .returned (.tuple #[.int .i64 k, .bool true]) ∧ Below w.heap.size w w' := by
  obtain ⟨_, ⟨rfl, rfl⟩ | ⟨rfl, rfl⟩ | ⟨rfl, rfl⟩⟩ := hg
  · exact amiss_calls hG h hv 20 rfl [] rfl _ rfl (ka1 E _)
  · exact amiss_calls hG h hv 20 rfl [] rfl _ rfl (ka2 E _)
  · exact amiss_calls hG h hv 20 rfl [] rfl _ rfl (ka3 E _)
theorem is_c : Calls Tryz.prog 21 #[.iface 63 (.pointer (some ⟨g, 0, none⟩)), .iface 74 (.int .i64 k)] w fun e w' => e = .returned (.bool true) ∧ Below w.heap.size w w' := by
  obtain ⟨_, ⟨rfl, rfl⟩ | ⟨rfl, rfl⟩ | ⟨rfl, rfl⟩⟩ := hg
  · exact amiss_calls hG h hv 21 rfl [sortV 4] rfl _ rfl (ia1 E _)
  · exact amiss_calls hG h hv 21 rfl [sortV 6] rfl _ rfl (ia2 E _)
  · exact amiss_calls hG h hv 21 rfl [sortV 5] rfl _ rfl (ia3 E _)
theorem grave_c : Calls Tryz.prog 18 #[.iface 63 (.pointer (some ⟨g, 0, none⟩))] w fun e w' => e = .returned (.bool (decide (k = 4))) ∧ Below w.heap.size w w' := by
  obtain ⟨_, ⟨rfl, rfl⟩ | ⟨rfl, rfl⟩ | ⟨rfl, rfl⟩⟩ := hg
  · exact amiss_calls hG h hv 18 rfl [] rfl _ rfl (ga1 E _)
  · exact amiss_calls hG h hv 18 rfl [] rfl _ rfl (ga2 E _)
  · exact amiss_calls hG h hv 18 rfl [] rfl _ rfl (ga3 E _)
theorem err_c : Calls Tryz.prog 16 #[.pointer (some ⟨g, 0, none⟩)] w fun e w' => e = .returned (.string (saidS s a k.toNat)) ∧ Below w.heap.size w w' := by
  obtain ⟨ha, ⟨rfl, rfl⟩ | ⟨rfl, rfl⟩ | ⟨rfl, rfl⟩⟩ := hg
  · exact value_calls hG h hv 16 rfl pP _ (.ptr (off := 0) rfl) [] rfl _ rfl (List.map_inj_left.1 (er_1 E) a (List.mem_range.2 ha))
  · exact value_calls hG h hv 16 rfl pP _ (.ptr (off := 0) rfl) [] rfl _ rfl (List.map_inj_left.1 (er_2 E) a (List.mem_range.2 ha))
  · exact value_calls hG h hv 16 rfl pP _ (.ptr (off := 0) rfl) [] rfl _ rfl (List.map_inj_left.1 (er_3 E) a (List.mem_range.2 ha))
omit hv in
theorem sort_c : Calls Tryz.prog 23 #[.int .i64 k] w fun e w' => e = .returned (.string (sortS k.toNat)) ∧ Below w.heap.size w w' := by
  obtain ⟨_, ⟨rfl, rfl⟩ | ⟨rfl, rfl⟩ | ⟨rfl, rfl⟩⟩ := hg
  · exact flat_calls hG h 23 rfl [.int .i64 4] rfl _ rfl (so_4 E)
  · exact flat_calls hG h 23 rfl [.int .i64 6] rfl _ rfl (so_6 E)
  · exact flat_calls hG h 23 rfl [.int .i64 5] rfl _ rfl (so_5 E)
omit hv in
theorem dec_c : Calls Tryz.prog 22 #[.int .i64 (a : Nat)] w fun e w' => e = .returned (.string (digs a)) ∧ Below w.heap.size w w' :=
  flat_calls hG h 22 rfl [.int .i64 (a : Nat)] rfl _ rfl (List.map_inj_left.1 (de_all E) a (List.mem_range.2 hg.1))
end
end Go.Proofs.YtmnoegfehgoalaaGreatDoor.cx
namespace Go.Proofs.YtmnoegfehgoalaaGreatDoor.cx
open Go.RowKit Go.Extern.Stop Go.Stop Go.Extern Go.Cx
open Go.Proofs.YtmnoegfehgoalaaGreatDoor.base (L0 At NoteAt saidS sortS digs sWord sLine sSample sLag)
open Go.Dg (embOf Globs)
set_option linter.unusedVariables false
theorem aud_good (ls ss : List (List Value)) (most : Int) (n1 : ls.length ≤ 60) (n2 : ss.length ≤ 60) {s : ByteArray} {a : Nat} {k : Int} (h : auditG ls ss most ss.length (greed ss.length (TT ls ss) ls.length) = some (s, a, k)) : Good s a k := by
  have HI := greed_inv ss.length (TT ls ss) ls.length
  unfold auditG at h
  split at h
  · rename_i x xs hx
    cases h
    exact ⟨Nat.lt_of_lt_of_le (HI.lost_in a (by rw [hx]; exact List.mem_cons_self ..)) n1, .inl ⟨rfl, rfl⟩⟩
  · split at h
    · rename_i y ys hy
      cases h
      exact ⟨Nat.lt_of_lt_of_le (bare_in.1 (by rw [hy]; exact List.mem_cons_self ..)).1 n2, .inr (.inl ⟨rfl, rfl⟩)⟩
    · split at h
      · rename_i p hp
        cases h
        exact ⟨Nat.lt_of_lt_of_le (HI.met_in p (List.mem_of_find?_eq_some hp)).1 n1, .inr (.inr ⟨rfl, rfl⟩)⟩
      · cases h
theorem digs_len (a : Nat) : (digs a).size ≤ 2 := by
  unfold digs
  split <;> simp [ByteArray.size]
/-- Where the walk stands. -/
def AW (W : World) (g : Nat) (s : ByteArray) (a : Nat) (k : Int) (w : World) : Prop := Below W.heap.size W w ∧ w.heap[g]? = some (.cells #[.string s, .int .i64 (a : Nat), .iface 74 (.int .i64 k)] 67)
theorem AW.up {W w w' : World} {g : Nat} {s : ByteArray} {a : Nat} {k : Int} (h : AW W g s a k w) (hb : Below w.heap.size w w') : AW W g s a k w' :=
  ⟨h.1.trans (hb.mono h.1.size), keepB hb h.2⟩
set_option maxRecDepth 1000000 in
theorem audit_neg (W : World) (lv sv : Value) (most : Int) (h : most < 0) : Calls Tryz.prog 12 #[lv, sv, .int .i64 most] W fun e w' => e = .returned (.tuple #[.nilIface, .int .i64 2]) ∧ Below W.heap.size W w' := by
  have d1 := decide_eq_true h
  go_enter Tryz.func12, Tryz.ntmps12
  go_wp2_with fail
  go_ret2
  exact ⟨rfl, Below.refl _ _⟩
set_option maxRecDepth 1000000 in
theorem audits_skip (W : World) (la sa : Option Addr) (n lc m sc : Nat) (most : Int) (h : 60 < n ∨ 60 < m) (hK : ∀ w, Below W.heap.size W w → Calls Tryz.prog 6 #[] w fun e w' => e = .returned (.bool true) ∧ Below w.heap.size w w') :
    Calls Tryz.prog 5 #[.slice la n lc, .slice sa m sc, .int .i64 most] W fun e w' => e = .returned (.bool true) ∧ Below W.heap.size W w' := by
  have HK := Lib.hid hK
  clear hK
  cases d1 : decide ((60 : Int) < (n : Int)) with
  | true =>
    go_enter Tryz.func5, Tryz.ntmps5
    go_wp2_with (go_at_call 6; refine (HK.out _ (Below.refl _ _)).mono ?_; rintro e w9 ⟨rfl, hb9⟩)
    go_ret
    exact ⟨rfl, hb9⟩
  | false =>
    have d2 : decide ((60 : Int) < (m : Int)) = true := by
      rw [decide_eq_false_iff_not] at d1
      exact decide_eq_true (by omega)
    go_enter Tryz.func5, Tryz.ntmps5
    go_wp2_with (go_at_call 6; refine (HK.out _ (Below.refl _ _)).mono ?_; rintro e w9 ⟨rfl, hb9⟩)
    go_ret
    exact ⟨rfl, hb9⟩
set_option maxRecDepth 1000000 in
theorem audits_neg (W : World) (la sa : Option Addr) (n lc m sc : Nat) (most : Int) (n1 : n ≤ 60) (n2 : m ≤ 60) (hm : most < 0) (hK : ∀ w, Below W.heap.size W w → Calls Tryz.prog 6 #[] w fun e w' => e = .returned (.bool true) ∧ Below w.heap.size w w') :
    Calls Tryz.prog 5 #[.slice la n lc, .slice sa m sc, .int .i64 most] W fun e w' => e = .returned (.bool true) ∧ Below W.heap.size W w' := by
  have HK := Lib.hid hK
  clear hK
  have d1 : decide ((60 : Int) < (n : Int)) = false := by simp; omega
  have d2 : decide ((60 : Int) < (m : Int)) = false := by simp; omega
  have d3 := decide_eq_true hm
  go_enter Tryz.func5, Tryz.ntmps5
  go_wp2_with (first
    | (go_at_call 12; refine (audit_neg _ _ _ most hm).mono ?_; rintro e w1 ⟨rfl, hb1⟩)
    | (go_at_call 6; refine (HK.out _ hb1).mono ?_; rintro e w9 ⟨rfl, hb9⟩))
  go_ret
  exact ⟨rfl, hb1.trans (hb9.mono hb1.size)⟩
set_option maxHeartbeats 4000000 in
set_option maxRecDepth 1000000 in
theorem audits_none (W : World) (lv sv : Value) (ls ss : List (List Value)) (most : Int) (hm : 0 ≤ most ∧ most < 9223372036854775808) (hl : ∀ r ∈ ls, RowOk lineK r) (hs : ∀ r ∈ ss, RowOk sampK r) (hlv : Sl W 53 lv ls) (hsv : Sl W 48 sv ss) (n1 : ls.length ≤ 60) (n2 : ss.length ≤ 60)
    (hr : auditG ls ss most ss.length (greed ss.length (TT ls ss) ls.length) = none)
    (hK : ∀ w, Below W.heap.size W w → Calls Tryz.prog 6 #[] w fun e w' => e = .returned (.bool true) ∧ Below w.heap.size w w') :
    Calls Tryz.prog 5 #[lv, sv, .int .i64 most] W fun e w' => e = .returned (.bool true) ∧ Below W.heap.size W w' := by
  have HA := Lib.hid (audit_w W lv sv ls ss most hm hl hs hlv hsv n1 n2)
  have HR := Lib.hid (fun (w : World) (hb : Below W.heap.size W w) => auditR_w w lv sv ls ss most hm hl hs (hlv.up hb) (hsv.up hb) n1 n2)
  have HK := Lib.hid hK
  rw [hr] at HA HR
  simp only [audV] at HR
  obtain ⟨la, lc, rfl, lcap, lmx, lnone⟩ := hlv.form
  obtain ⟨sa, sc, rfl, scap, smx, snone⟩ := hsv.form
  have d1 : decide ((60 : Int) < (ls.length : Int)) = false := by simp; omega
  have d2 : decide ((60 : Int) < (ss.length : Int)) = false := by simp; omega
  have d3 : decide (most < 0) = false := by simp; omega
  clear hl hs hlv hsv lnone snone hK hr
  go_enter Tryz.func5, Tryz.ntmps5
  go_wp2_with (first
    | (go_at_call 12; refine HA.out.mono ?_; rintro e w1 ⟨v, rfl, hv, hb1⟩; (have hv : v = .nilIface := hv); subst hv)
    | (go_at_call 19; refine (HR.out _ hb1).mono ?_; rintro e w2 ⟨rfl, hb2⟩; have HB := Lib.hid (hb1.trans (hb2.mono hb1.size)))
    | (go_at_call 6; refine (HK.out _ HB.out).mono ?_; rintro e w9 ⟨rfl, hb9⟩))
  go_ret
  exact ⟨rfl, HB.out.trans (hb9.mono HB.out.size)⟩
set_option maxHeartbeats 4000000 in
set_option maxRecDepth 1000000 in
theorem audits_some (W : World) (lv sv : Value) (ls ss : List (List Value)) (most : Int) (hm : 0 ≤ most ∧ most < 9223372036854775808) (hl : ∀ r ∈ ls, RowOk lineK r) (hs : ∀ r ∈ ss, RowOk sampK r) (hlv : Sl W 53 lv ls) (hsv : Sl W 48 sv ss) (n1 : ls.length ≤ 60) (n2 : ss.length ≤ 60)
    (s : ByteArray) (a : Nat) (k : Int) (hr : auditG ls ss most ss.length (greed ss.length (TT ls ss) ls.length) = some (s, a, k))
    {E : Nat → TypeId} (hG : Globs 10 (embOf (L0 E))) (hL : At (L0 E) W)
    (hK : ∀ w, Below W.heap.size W w → Calls Tryz.prog 6 #[] w fun e w' => e = .returned (.bool true) ∧ Below w.heap.size w w') :
    Calls Tryz.prog 5 #[lv, sv, .int .i64 most] W fun e w' => e = .returned (.bool true) ∧ Below W.heap.size W w' := by
  have hgood := aud_good ls ss most n1 n2 hr
  have HA := audit_w W lv sv ls ss most hm hl hs hlv hsv n1 n2
  have HR := fun (w : World) (hb : Below W.heap.size W w) => auditR_w w lv sv ls ss most hm hl hs (hlv.up hb) (hsv.up hb) n1 n2
  rw [hr] at HA HR
  simp only [audV] at HR
  have z1 : s.size ≤ 6 := by obtain ⟨_, ⟨rfl, _⟩ | ⟨rfl, _⟩ | ⟨rfl, _⟩⟩ := hgood <;> decide
  have z2 := digs_len a
  have z3 : (sortS k.toNat).size = 6 := rfl
  have e0 : (k == 0) = false := by obtain ⟨_, ⟨_, rfl⟩ | ⟨_, rfl⟩ | ⟨_, rfl⟩⟩ := hgood <;> rfl
  have e4 : decide (k = 4) = (k == 4) := by obtain ⟨_, ⟨_, rfl⟩ | ⟨_, rfl⟩ | ⟨_, rfl⟩⟩ := hgood <;> rfl
  obtain ⟨la, lc, rfl, _⟩ := hlv.form
  obtain ⟨sa, sc, rfl, _⟩ := hsv.form
  refine some_walk W la sa ls.length lc ss.length sc most s (digs a) (sortS k.toNat) a k (fun g w => AW W g s a k w) (by simp; omega) (by simp; omega) (by simp; omega) e0 (by omega) (by omega) (by omega) (by omega)
    (fun g w w' h hb => h.up hb) (fun g w h => h.1) (HA.mono ?_) (fun g w h => HR w h.1)
    (fun g w h => wrap_c hG (hL.up h.1) hgood h.2) (fun g g2 w h hn => findN_c hG (hL.up h.1) hgood h.2 hn) (fun g w h => find_c hG (hL.up h.1) hgood h.2) (fun g w h => kind_c hG (hL.up h.1) hgood h.2)
    (fun g w h => is_c hG (hL.up h.1) hgood h.2) (fun g w h => by rw [← e4]; exact grave_c hG (hL.up h.1) hgood h.2) (fun g w h => err_c hG (hL.up h.1) hgood h.2)
    (fun g w h => dec_c hG (hL.up h.1) hgood) (fun g w h => sort_c hG (hL.up h.1) hgood) (fun g w h => hK w h.1)
  rintro e w1 ⟨v, rfl, ⟨g, rfl, hg⟩, hb1⟩
  exact ⟨g, rfl, hb1, hg⟩
theorem audits_calls (W : World) (lv sv : Value) (ls ss : List (List Value)) (most : Int) (hm : -9223372036854775808 ≤ most ∧ most < 9223372036854775808) (hl : ∀ r ∈ ls, RowOk lineK r) (hs : ∀ r ∈ ss, RowOk sampK r) (hlv : Sl W 53 lv ls) (hsv : Sl W 48 sv ss)
    {E : Nat → TypeId} (hG : Globs 10 (embOf (L0 E))) (hL : At (L0 E) W)
    (hK : ∀ w, Below W.heap.size W w → Calls Tryz.prog 6 #[] w fun e w' => e = .returned (.bool true) ∧ Below w.heap.size w w') :
    Calls Tryz.prog 5 #[lv, sv, .int .i64 most] W fun e w' => e = .returned (.bool true) ∧ Below W.heap.size W w' := by
  by_cases hb : 60 < ls.length ∨ 60 < ss.length
  · obtain ⟨la, lc, rfl, _⟩ := hlv.form
    obtain ⟨sa, sc, rfl, _⟩ := hsv.form
    exact audits_skip W _ _ _ _ _ _ most hb hK
  · have n1 : ls.length ≤ 60 := by omega
    have n2 : ss.length ≤ 60 := by omega
    by_cases h0 : most < 0
    · obtain ⟨la, lc, rfl, _⟩ := hlv.form
      obtain ⟨sa, sc, rfl, _⟩ := hsv.form
      exact audits_neg W _ _ _ _ _ _ most n1 n2 h0 hK
    · have hm' : 0 ≤ most ∧ most < 9223372036854775808 := ⟨by omega, hm.2⟩
      cases hr : auditG ls ss most ss.length (greed ss.length (TT ls ss) ls.length) with
      | none => exact audits_none W lv sv ls ss most hm' hl hs hlv hsv n1 n2 hr hK
      | some r =>
        obtain ⟨s, a, k⟩ := r
        exact audits_some W lv sv ls ss most hm' hl hs hlv hsv n1 n2 s a k hr hG hL hK
end Go.Proofs.YtmnoegfehgoalaaGreatDoor.cx
