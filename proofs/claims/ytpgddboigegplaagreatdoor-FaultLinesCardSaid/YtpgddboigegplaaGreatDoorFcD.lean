/- What an error's text comes to: its notes' words, its fault's kind and place; fault.Line. fault.Line: the text of notes around a fault; nothing of any other error. fault.Wrap around whatever leads to a fault. -/
import Derived.Test.YtpgddboigegplaaGreatDoorRows
import Derived.Test.YtpgddboigegplaaGreatDoorFcA
import Derived.Test.YtpgddboigegplaaGreatDoorFO
import Derived.Deep.RegionHeld3
import Derived.Test.YtpgddboigegplaaGreatDoorFM
import Derived.Lib.ConvBytes
namespace Go.Proofs.YtpgddboigegplaaGreatDoor.base
open Go.RowKit Go.Extern.Stop Go.Stop Go.Extern
set_option linter.unusedVariables false

/-- The text of notes around a fault. -/
def txtL (k o : Int) : List Lk → ByteArray
  | .note s :: l => tN s (txtL k o l)
  | _ => tF (decV k) (decV o)
/-- Notes alone. -/
def allN : List Lk → Bool
  | [] => true
  | .note _ :: l => allN l
  | _ => false
def InR (k : Int) : Prop := -9223372036854775808 ≤ k ∧ k ≤ 9223372036854775807
theorem dec_call (k : Int) (hk : InR k) (W : World) (htab : Tab W) : Calls Tryz.prog 34 #[.int .i64 k] W fun e w' => e = .returned (.string (decV k)) ∧ Below W.heap.size W w' := dec_calls k hk.1 hk.2 W htab
theorem digits_le : ∀ n m : Nat, m < 10 ^ n → 1 ≤ n → (Lib.decDigits m).length ≤ n := by
  intro n
  induction n with
  | zero => intro m _ h; omega
  | succ n ih =>
    intro m hm _
    rw [Lib.decDigits]
    split
    · simp
    · rename_i h
      have hn : 1 ≤ n := by
        cases n with
        | zero => simp at hm; omega
        | succ n => omega
      have := ih (m / 10) (by rw [Nat.pow_succ] at hm; omega) hn
      simp
      omega
theorem dec_size (k : Int) (hk : InR k) : (decV k).size ≤ 21 := by
  obtain ⟨h0, h1⟩ := hk
  have h : ∀ m : Nat, m ≤ 9223372036854775808 → (Lib.decDigits m).length ≤ 20 := fun m hm => digits_le 20 m (by omega) (by omega)
  show (Lib.itoa k).toArray.size ≤ 21
  unfold Lib.itoa
  split
  · have := h k.natAbs (by omega)
    simp; omega
  · have := h k.toNat (by omega)
    simp; omega
set_option maxRecDepth 1000000 in
theorem sort_err (k : Int) (hk : InR k) (W : World) (htab : Tab W) : Calls Tryz.prog 20 #[.int .i64 k] W fun e w' => e = .returned (.string (ksS ++ decV k)) ∧ Below W.heap.size W w' := by
  have hd := dec_size k hk
  have HT := Lib.hid htab
  have HK := Lib.hid hk
  clear htab hk
  go_enter Tryz.func20, Tryz.ntmps20
  go_wp2_with (go_at_call 34; refine (dec_call k HK.out _ HT.out).mono ?_; rintro e w1 ⟨rfl, hb1⟩)
  go_ret
  exact ⟨rfl, hb1⟩
set_option maxRecDepth 1000000 in
theorem fault_err (W : World) (fb fo : Nat) (k o : Int) (hk : InR k) (ho : InR o) (hF : FaultAt W fb fo k o) (htab : Tab W) :
    Calls Tryz.prog 128 #[.pointer (some ⟨fb, fo, none⟩)] W fun e w' => e = .returned (.string (tF (decV k) (decV o))) ∧ Below W.heap.size W w' := by
  have hd := dec_size k hk
  have hd2 := dec_size o ho
  have n1 : ksS.size + (decV k).size ≤ 9223372036854775803 := by rw [szk]; omega
  have n2 : ksS.size + (decV k).size + 4 + (decV o).size ≤ 9223372036854775807 := by rw [szk]; omega
  have m1 : ¬ 9223372036854775807 < ksS.size + (decV k).size + 4 := by omega
  have m2 : ¬ 9223372036854775807 < ksS.size + (decV k).size + 4 + (decV o).size := by omega
  clear hd hd2
  obtain ⟨c1, c2⟩ := hF
  have HK := Lib.hid hk
  have HO := Lib.hid ho
  have HT := Lib.hid htab
  clear htab hk ho
  go_enter Tryz.func128, Tryz.ntmps128
  go_wp2_with fail
  go_region_held3 (fun w' => w'.cell? ⟨fb, fo, none⟩ = some (.int .i64 k) ∧ w'.cell? ⟨fb, fo + 1, none⟩ = some (.int .i64 o) ∧ Below W.heap.size W w')
    (first
      | (refine ⟨?_, ?_, ?_⟩ <;> first | go_keep | (exact (Below.refl _ _).drew))
      | (exact ⟨cell_up hb1 (‹_ ∧ _ ∧ Below W.heap.size W _›).1, cell_up hb1 (‹_ ∧ _ ∧ Below W.heap.size W _›).2.1, (‹_ ∧ _ ∧ Below W.heap.size W _›).2.2.trans (hb1.mono (‹_ ∧ _ ∧ Below W.heap.size W _›).2.2.size)⟩)
      | (exact ⟨cell_up hb2 (‹_ ∧ _ ∧ Below W.heap.size W _›).1, cell_up hb2 (‹_ ∧ _ ∧ Below W.heap.size W _›).2.1, (‹_ ∧ _ ∧ Below W.heap.size W _›).2.2.trans (hb2.mono (‹_ ∧ _ ∧ Below W.heap.size W _›).2.2.size)⟩))
    (first
      | (go_at_call 20; refine (sort_err k HK.out _ ?_).mono ?_; (exact tab_below HT.out (‹_ ∧ _ ∧ Below W.heap.size W _›).2.2); rintro e w1 ⟨rfl, hb1⟩)
      | (go_at_call 34; refine (dec_call o HO.out _ ?_).mono ?_; (exact tab_below HT.out (‹_ ∧ _ ∧ Below W.heap.size W _›).2.2); rintro e w2 ⟨rfl, hb2⟩))
  all_goals go_wp2_with fail
  all_goals (go_ret; exact ⟨rfl, (‹_ ∧ _ ∧ Below W.heap.size W _›).2.2⟩)
theorem txt_size (k o : Int) (hk : InR k) (ho : InR o) (n : Nat) : ∀ l : List Lk, (∀ s, .note s ∈ l → s.size ≤ n) → (txtL k o l).size ≤ 60 + l.length * (n + 2) := by
  have h1 := dec_size k hk
  have h2 := dec_size o ho
  have hb : (tF (decV k) (decV o)).size ≤ 60 := by rw [tF_size]; omega
  intro l
  induction l with
  | nil => intro _; show (tF (decV k) (decV o)).size ≤ _; omega
  | cons x l ih =>
    intro h
    have ih := ih fun s hs => h s (List.mem_cons_of_mem _ hs)
    cases x with
    | note s =>
      have := h s (List.mem_cons_self ..)
      show (tN s (txtL k o l)).size ≤ _
      rw [tN_size, List.length_cons, Nat.succ_mul]
      omega
    | around => show (tF (decV k) (decV o)).size ≤ _; omega
    | join => show (tF (decV k) (decV o)).size ≤ _; omega
set_option maxRecDepth 1000000 in
theorem note_err_67 (W : World) (pb po : Nat) (s x : ByteArray) (v : Value) (c1 : W.cell? ⟨pb, po, none⟩ = some (.string s)) (c2 : W.cell? ⟨pb, po + 1, none⟩ = some (.iface 67 v))
    (hsz : s.size + 2 + x.size ≤ 9223372036854775807) (hin : ∀ W', Below W.heap.size W W' → Calls Tryz.prog 126 #[v] W' fun e w' => e = .returned (.string x) ∧ Below W'.heap.size W' w') :
    Calls Tryz.prog 126 #[.pointer (some ⟨pb, po, none⟩)] W fun e w' => e = .returned (.string (tN s x)) ∧ Below W.heap.size W w' := by
  have hm := mEr67
  have n1 : s.size ≤ 9223372036854775805 := by omega
  have n2 : s.size + 2 + x.size ≤ 9223372036854775807 := hsz
  have m1 : ¬ 9223372036854775807 < s.size + 2 := by omega
  have m2 : ¬ 9223372036854775807 < s.size + 2 + x.size := by omega
  have HI := Lib.hid hin
  clear hin hsz
  go_enter Tryz.func126, Tryz.ntmps126
  go_wp2_with fail
  go_region_held3 (fun w' => w'.cell? ⟨pb, po, none⟩ = some (.string s) ∧ w'.cell? ⟨pb, po + 1, none⟩ = some (.iface 67 v) ∧ Below W.heap.size W w')
    (first
      | (refine ⟨?_, ?_, ?_⟩ <;> first | go_keep | (exact (Below.refl _ _).drew))
      | (exact ⟨cell_up hb1 (‹_ ∧ _ ∧ Below W.heap.size W _›).1, cell_up hb1 (‹_ ∧ _ ∧ Below W.heap.size W _›).2.1, (‹_ ∧ _ ∧ Below W.heap.size W _›).2.2.trans (hb1.mono (‹_ ∧ _ ∧ Below W.heap.size W _›).2.2.size)⟩))
    (first
      | (go_at_call 126; refine (HI.out _ ?_).mono ?_; (exact (‹_ ∧ _ ∧ Below W.heap.size W _›).2.2); rintro e w1 ⟨rfl, hb1⟩))
  all_goals go_wp2_with fail
  all_goals (go_ret; exact ⟨rfl, (‹_ ∧ _ ∧ Below W.heap.size W _›).2.2⟩)
set_option maxRecDepth 1000000 in
theorem note_err_70 (W : World) (pb po : Nat) (s x : ByteArray) (v : Value) (c1 : W.cell? ⟨pb, po, none⟩ = some (.string s)) (c2 : W.cell? ⟨pb, po + 1, none⟩ = some (.iface 70 v))
    (hsz : s.size + 2 + x.size ≤ 9223372036854775807) (hin : ∀ W', Below W.heap.size W W' → Calls Tryz.prog 128 #[v] W' fun e w' => e = .returned (.string x) ∧ Below W'.heap.size W' w') :
    Calls Tryz.prog 126 #[.pointer (some ⟨pb, po, none⟩)] W fun e w' => e = .returned (.string (tN s x)) ∧ Below W.heap.size W w' := by
  have hm := mEr70
  have n1 : s.size ≤ 9223372036854775805 := by omega
  have n2 : s.size + 2 + x.size ≤ 9223372036854775807 := hsz
  have m1 : ¬ 9223372036854775807 < s.size + 2 := by omega
  have m2 : ¬ 9223372036854775807 < s.size + 2 + x.size := by omega
  have HI := Lib.hid hin
  clear hin hsz
  go_enter Tryz.func126, Tryz.ntmps126
  go_wp2_with fail
  go_region_held3 (fun w' => w'.cell? ⟨pb, po, none⟩ = some (.string s) ∧ w'.cell? ⟨pb, po + 1, none⟩ = some (.iface 70 v) ∧ Below W.heap.size W w')
    (first
      | (refine ⟨?_, ?_, ?_⟩ <;> first | go_keep | (exact (Below.refl _ _).drew))
      | (exact ⟨cell_up hb1 (‹_ ∧ _ ∧ Below W.heap.size W _›).1, cell_up hb1 (‹_ ∧ _ ∧ Below W.heap.size W _›).2.1, (‹_ ∧ _ ∧ Below W.heap.size W _›).2.2.trans (hb1.mono (‹_ ∧ _ ∧ Below W.heap.size W _›).2.2.size)⟩))
    (first
      | (go_at_call 128; refine (HI.out _ ?_).mono ?_; (exact (‹_ ∧ _ ∧ Below W.heap.size W _›).2.2); rintro e w1 ⟨rfl, hb1⟩))
  all_goals go_wp2_with fail
  all_goals (go_ret; exact ⟨rfl, (‹_ ∧ _ ∧ Below W.heap.size W _›).2.2⟩)
end Go.Proofs.YtpgddboigegplaaGreatDoor.base

namespace Go.Proofs.YtpgddboigegplaaGreatDoor.base
open Go.RowKit Go.Extern.Stop Go.Stop Go.Extern
set_option linter.unusedVariables false

/-- The notes' words are short. -/
def Short (l : List Lk) : Prop := (∀ s, .note s ∈ l → s.size ≤ 1000000) ∧ l.length ≤ 1000000
theorem Short.tail {x : Lk} {l : List Lk} (h : Short (x :: l)) : Short l := ⟨fun s hs => h.1 s (List.mem_cons_of_mem _ hs), by have := h.2; rw [List.length_cons] at this; omega⟩
theorem Short.size {k o : Int} (hk : InR k) (ho : InR o) {s : ByteArray} {l : List Lk} (h : Short (.note s :: l)) : s.size + 2 + (txtL k o l).size ≤ 9223372036854775807 := by
  have h1 := h.1 s (List.mem_cons_self ..)
  have h2 := txt_size k o hk ho 1000000 l h.tail.1
  have h3 := h.tail.2
  have : l.length * (1000000 + 2) ≤ 1000000 * (1000000 + 2) := Nat.mul_le_mul_right _ h3
  omega
/-- What a note's or a fault's method Error tells. -/
def Tells (W : World) (t : TypeId) (v : Value) (x : ByteArray) : Prop :=
  (t = 67 ∧ ∀ W', Below W.heap.size W W' → Calls Tryz.prog 126 #[v] W' fun e w' => e = .returned (.string x) ∧ Below W'.heap.size W' w') ∨
  (t = 70 ∧ ∀ W', Below W.heap.size W W' → Calls Tryz.prog 128 #[v] W' fun e w' => e = .returned (.string x) ∧ Below W'.heap.size W' w')
theorem err_any (W : World) (fb fo : Nat) (k o : Int) (hk : InR k) (ho : InR o) (hF : FaultAt W fb fo k o) (htab : Tab W) {t : TypeId} {v : Value} {l : List Lk} (hl : Lead W fb fo t v l) :
    allN l = true → Short l → Tells W t v (txtL k o l) := by
  induction hl with
  | fault => exact fun _ _ => .inr ⟨rfl, fun W' hb => fault_err W' fb fo k o hk ho (hF.up hb) (tab_below htab hb)⟩
  | note pb po s t v l h1 h2 h3 ih =>
    intro ha hs
    have hsz := hs.size hk ho
    rcases ih ha hs.tail with ⟨rfl, h⟩ | ⟨rfl, h⟩
    · exact .inl ⟨rfl, fun W' hb => note_err_67 W' pb po s (txtL k o l) v (cell_up hb h1) (cell_up hb h2) hsz fun W2 hb2 => h W2 (hb.trans (hb2.mono hb.size))⟩
    · exact .inl ⟨rfl, fun W' hb => note_err_70 W' pb po s (txtL k o l) v (cell_up hb h1) (cell_up hb h2) hsz fun W2 hb2 => h W2 (hb.trans (hb2.mono hb.size))⟩
  | around t v l _ ih => intro ha; cases ha
  | join jb jo sb so q t v l _ _ _ _ ih => intro ha; cases ha
set_option maxRecDepth 1000000 in
theorem line_any (W : World) (t : TypeId) (v : Value) (x : ByteArray) (h : Tells W t v x) (W' : World) (hb : Below W.heap.size W W') :
    Calls Tryz.prog 30 #[.iface t v] W' fun e w' => e = .returned (.string x) ∧ Below W'.heap.size W' w' := by
  rcases h with ⟨rfl, h⟩ | ⟨rfl, h⟩
  · have hm := mEr67
    have H := Lib.hid h
    have HB := Lib.hid hb
    clear h hb
    go_enter Tryz.func30, Tryz.ntmps30
    go_wp2_with (go_at_call 126; refine (H.out _ HB.out).mono ?_; rintro e w1 ⟨rfl, hb1⟩)
    go_ret
    exact ⟨rfl, hb1⟩
  · have hm := mEr70
    have H := Lib.hid h
    have HB := Lib.hid hb
    clear h hb
    go_enter Tryz.func30, Tryz.ntmps30
    go_wp2_with (go_at_call 128; refine (H.out _ HB.out).mono ?_; rintro e w1 ⟨rfl, hb1⟩)
    go_ret
    exact ⟨rfl, hb1⟩
/-- What fault.Line tells. -/
def lineV (k o : Int) (l : List Lk) : Value := bif allN l then .tuple #[.string (txtL k o l), .bool true] else .tuple #[.string ⟨#[]⟩, .bool false]
def LSt (W : World) (fb fo : Nat) (a : Bool) (g : Nat) (E : Value) (wl : World) : Prop := W = wl ∧ ∃ t v l', E = .iface t v ∧ Lead W fb fo t v l' ∧ l'.length + 1 ≤ g ∧ allN l' = a
set_option maxHeartbeats 1000000 in
set_option maxRecDepth 1000000 in
theorem Line_any (W : World) (fb fo : Nat) (k o : Int) (hk : InR k) (ho : InR o) (hF : FaultAt W fb fo k o) (htab : Tab W) {t : TypeId} {v : Value} {l : List Lk} (hl : Lead W fb fo t v l) (hs : Short l) :
    Calls Tryz.prog 13 #[.iface t v] W fun e w' => e = .returned (lineV k o l) ∧ Below W.heap.size W w' := by
  have HT : Hid (allN l = true → Tells W t v (txtL k o l)) := Lib.hid fun ha => err_any W fb fo k o hk ho hF htab hl ha hs
  have HL := Lib.hid hl
  have a57 := isn67_57
  have a67 := is67_67
  have a70 := isn67_70
  have a94 := isn67_94
  have b57 := isn70_57
  have b70 := is70_70
  have b94 := isn70_94
  clear hl hF htab hs
  go_enter Tryz.func13, Tryz.ntmps13
  go_wp2_with fail
  go_loopg [4] (l.length + 1) (fun g E wl => LSt W fb fo (allN l) g E wl)
  case atStart => exact ⟨rfl, t, v, l, rfl, HL.out, Nat.le_refl _, rfl⟩
  case round =>
    obtain ⟨rfl, t', v', l', rfl, hl', hg, ha⟩ := hrel
    cases hl' with
    | fault =>
      have HA := Lib.hid ha
      clear ha
      go_wp2_with (go_at_call 30; refine (line_any _ _ _ _ (HT.out HA.out.symm) _ (Below.refl _ _)).mono ?_; rintro e w1 ⟨rfl, hb1⟩)
      go_ret2
      refine ⟨?_, hb1⟩
      unfold lineV
      rw [← HA.out]
      rfl
    | note pb po s t v l h1 h2 h3 =>
      have H3 := Lib.hid h3
      have HA := Lib.hid ha
      clear h3 h1 ha
      simp only [List.length_cons] at hg
      go_wp2_with fail
      go_roundg (l.length + 1)
      case measure => omega
      case rel => exact ⟨rfl, t, v, l, rfl, H3.out, Nat.le_refl _, HA.out⟩
    | around t v l h3 =>
      have HA := Lib.hid ha
      clear h3 ha
      go_wp2_with fail
      go_ret2
      refine ⟨?_, Below.refl _ _⟩
      unfold lineV
      rw [← HA.out]
      rfl
    | join jb jo sb so q t v l h1 h2 h3 h4 =>
      have HA := Lib.hid ha
      clear h1 h2 h3 h4 ha
      go_wp2_with fail
      go_ret2
      refine ⟨?_, Below.refl _ _⟩
      unfold lineV
      rw [← HA.out]
      rfl
end Go.Proofs.YtpgddboigegplaaGreatDoor.base

namespace Go.Proofs.YtpgddboigegplaaGreatDoor.base
open Go.RowKit Go.Extern.Stop Go.Stop Go.Extern
set_option linter.unusedVariables false

theorem may_at (s : ByteArray) (b : Bool) (h : mayL s.data.toList = b) (w : World) : Calls Tryz.prog 29 #[.string s] w fun e w' => e = .returned (.bool b) ∧ Below w.heap.size w w' := by
  subst h
  exact (may_flats s).2.2 w
def WrapPost (W : World) (t : TypeId) (v : Value) (s : ByteArray) (e : Ending) (w' : World) : Prop :=
  ∃ B, e = .returned (.iface 67 (.pointer (some ⟨B, 0, none⟩))) ∧ w'.cell? ⟨B, 0, none⟩ = some (.string s) ∧ w'.cell? ⟨B, 1, none⟩ = some (.iface t v) ∧ Below W.heap.size W w'
set_option maxHeartbeats 1000000 in
set_option maxRecDepth 1000000 in
theorem wrap_full (W : World) (t : TypeId) (v : Value) (s : ByteArray) (n : Nat) (hn : 8 ≤ n) (hN : ∀ W', Below W.heap.size W W' → Calls Tryz.prog 28 #[.iface t v] W' fun e w' => e = .returned (.int .i64 (n : Nat)) ∧ Below W'.heap.size W' w') :
    Calls Tryz.prog 10 #[.iface t v, .string s] W fun e w' => e = .returned (.iface t v) ∧ Below W.heap.size W w' := by
  have HN := Lib.hid hN
  clear hN
  go_enter Tryz.func10, Tryz.ntmps10
  go_wp2_with (go_at_call 28; refine (HN.out _ (Below.refl _ _)).mono ?_; rintro e w1 ⟨rfl, hb1⟩)
  go_ret
  exact ⟨rfl, hb1⟩
theorem rune_run (z : Nat) (hz : z < 256) (w : World) : (convert 21 9 (.int .i32 (z : Int))).run Tryz.prog w = .ok (.string (runeS z)) w := by kernel_rfl
theorem two_cells (W : World) (a b : Value) (t : TypeId) : (W.alloc (.cells #[a, b] t)).cell? ⟨W.heap.size, 0, none⟩ = some a ∧ (W.alloc (.cells #[a, b] t)).cell? ⟨W.heap.size, 1, none⟩ = some b := by
  have hn := heap_alloc_new W (.cells #[a, b] t)
  constructor <;> (unfold World.cell?; simp only [hn]; rfl)
theorem wrap_end (W wl : World) (hb : Below W.heap.size W wl) (t : TypeId) (v : Value) (x : ByteArray) : WrapPost W t v x (.returned (.iface 67 (.pointer (some ⟨wl.heap.size, 0, none⟩)))) (wl.alloc (.cells #[.string x, .iface t v] 69)) :=
  ⟨wl.heap.size, rfl, (two_cells wl _ _ 69).1, (two_cells wl _ _ 69).2, hb.trans (((Below.refl _ _).alloc (Nat.le_refl _) _).mono hb.size)⟩
set_option maxHeartbeats 2000000 in
set_option maxRecDepth 1000000 in
theorem wrap_any (W : World) (t : TypeId) (v : Value) (s : ByteArray) (n : Nat) (hn : n < 8) (hs : s.size ≤ 9223372036854775807) (hN : ∀ W', Below W.heap.size W W' → Calls Tryz.prog 28 #[.iface t v] W' fun e w' => e = .returned (.int .i64 (n : Nat)) ∧ Below W'.heap.size W' w') :
    Calls Tryz.prog 10 #[.iface t v, .string s] W (WrapPost W t v (wordOf s)) := by
  have HN := Lib.hid hN
  have hn8 : decide ((8 : Int) ≤ (n : Int)) = false := by simp; omega
  clear hN hn
  go_enter Tryz.func10, Tryz.ntmps10
  go_wp2_with (go_at_call 28; refine (HN.out _ (Below.refl _ _)).mono ?_; rintro e w1 ⟨rfl, hb1⟩; have hcv := Go.Lib.run_convert_string_bytes w1 9 53 5 s Tryz.underlying9 Tryz.underlying53 Tryz.underlying5; have hcells := fun (j : Nat) (hj : j < s.size) => Go.Lib.bytesWorld_cell w1 5 s j hj; have hb2 : Below w1.heap.size w1 (Go.Lib.bytesWorld w1 5 s) := Lib.bytesWorld_below _ _ _; generalize Go.Lib.bytesWorld w1 5 s = W2 at hcv hcells hb2; have HC := Lib.hid hcells; clear hcells)
  go_loopg [1, 18] s.size (fun g x i wl => x = .string s ∧ (∃ j : Nat, i = .int .i64 j ∧ j + g = s.size ∧ allIn (s.data.toList.take j) = true) ∧ Below W2.heap.size W2 wl)
  case atStart => exact ⟨rfl, ⟨0, rfl, by omega, rfl⟩, Below.refl _ _⟩
  case round =>
    obtain ⟨rfl, ⟨j, rfl, hj, hall⟩, hbl⟩ := hrel
    have HA := Lib.hid hall
    have hbW : Below W.heap.size W wr := hb1.trans ((hb2.trans (hbl.mono hb2.size)).mono hb1.size)
    have HBW := Lib.hid hbW
    clear hall hbW
    by_cases hlt : j < s.size
    · have hc := cell_up hbl (HC.out j hlt)
      have hz : (s.data.toList.getD j 0).toNat < 256 := UInt8.toNat_lt _
      have hsn : s.data.toList.take (j + 1) = s.data.toList.take j ++ [s.data.toList.getD j 0] := by
        have hl : j < s.data.toList.length := by simpa using hlt
        rw [List.take_succ_eq_append_getElem hl, List.getD_eq_getElem?_getD, List.getElem?_eq_getElem hl]; rfl
      have HS := Lib.hid hsn
      clear hsn
      generalize hb0 : s.data.toList.getD j 0 = b at hc hz HS
      have hr := rune_run b.toNat hz
      cases hin : inB b.toNat with
      | true =>
        have hm : mayL (runeS (b.toNat : Int)).data.toList = true := (may_rune hz).trans hin
        have HM := Lib.hid hm
        have HI := Lib.hid hin
        clear hb0 hm hin
        go_wp2_with (go_at_call 29; refine (may_at _ true HM.out _).mono ?_; rintro e w3 ⟨rfl, hb3⟩)
        go_roundg (s.size - (j + 1))
        case measure => omega
        case rel =>
          refine ⟨rfl, ⟨j + 1, by go_num, by omega, ?_⟩, hbl.trans (hb3.mono hbl.size)⟩
          rw [HS.out, allIn_app, HA.out, HI.out]; rfl
      | false =>
        have hm : mayL (runeS (b.toNat : Int)).data.toList = false := (may_rune hz).trans hin
        have hw : wordOf s = qm := by
          have : allIn s.data.toList = false := by
            have e : s.data.toList = (s.data.toList.take (j + 1)) ++ s.data.toList.drop (j + 1) := (List.take_append_drop _ _).symm
            rw [e]
            unfold allIn
            rw [List.all_append, HS.out, List.all_append]
            simp [hin]
          unfold wordOf mayL
          rw [this]; simp
        have HW := Lib.hid hw
        have HM := Lib.hid hm
        clear hb0 hm hin hw
        have hq : mayL (⟨#[63]⟩ : ByteArray).data.toList = false := rfl
        have HQ := Lib.hid hq
        clear hq
        go_wp2_with (first | (go_at_call 29; ((with_reducible refine (may_at _ false HM.out _).mono ?_); rintro e w3 ⟨rfl, hb3⟩)) | (go_at_call 29; ((with_reducible refine (may_at ⟨#[63]⟩ false HQ.out _).mono ?_); rintro e w4 ⟨rfl, hb4⟩)))
        go_ret
        rw [HW.out]
        exact wrap_end W w4 (HBW.out.trans ((hb3.trans (hb4.mono hb3.size)).mono HBW.out.size)) t v qm
    · obtain rfl : j = s.size := by omega
      cases hm : mayL s.data.toList with
      | true =>
        have hw : wordOf s = s := by unfold wordOf; rw [hm]; rfl
        have HW := Lib.hid hw
        have HM := Lib.hid hm
        clear hm hw
        go_wp2_with (go_at_call 29; ((with_reducible refine (may_at _ true HM.out _).mono ?_); rintro e w3 ⟨rfl, hb3⟩))
        go_ret
        rw [HW.out]
        exact wrap_end W w3 (HBW.out.trans (hb3.mono HBW.out.size)) t v s
      | false =>
        have hw : wordOf s = qm := by unfold wordOf; rw [hm]; rfl
        have HW := Lib.hid hw
        have HM := Lib.hid hm
        clear hm hw
        go_wp2_with (go_at_call 29; ((with_reducible refine (may_at _ false HM.out _).mono ?_); rintro e w3 ⟨rfl, hb3⟩))
        go_ret
        rw [HW.out]
        exact wrap_end W w3 (HBW.out.trans (hb3.mono HBW.out.size)) t v qm
/-- fault.Wrap around what leads to a fault: eight notes at the most. -/
theorem wrap_lead (W : World) (fb fo : Nat) (k o : Int) (hF : FaultAt W fb fo k o) (t : TypeId) (v : Value) (l : List Lk) (hl : Lead W fb fo t v l) (hn : l.length < 1000000) (s : ByteArray) (hs : s.size ≤ 9223372036854775807) :
    (cntN l < 8 ∧ Calls Tryz.prog 10 #[.iface t v, .string s] W (WrapPost W t v (wordOf s))) ∨ (8 ≤ cntN l ∧ Calls Tryz.prog 10 #[.iface t v, .string s] W fun e w' => e = .returned (.iface t v) ∧ Below W.heap.size W w') := by
  have hN : ∀ W', Below W.heap.size W W' → Calls Tryz.prog 28 #[.iface t v] W' fun e w' => e = .returned (.int .i64 (cntN l : Nat)) ∧ Below W'.heap.size W' w' := fun W' hb => notes_any W' fb fo k o (hF.up hb) t v l (hl.up hb) hn
  rcases Nat.lt_or_ge (cntN l) 8 with h | h
  · exact .inl ⟨h, wrap_any W t v s _ h hs hN⟩
  · exact .inr ⟨h, wrap_full W t v s _ h hN⟩
end Go.Proofs.YtpgddboigegplaaGreatDoor.base
