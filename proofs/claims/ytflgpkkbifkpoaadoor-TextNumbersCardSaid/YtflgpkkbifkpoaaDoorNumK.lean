/- What text.Dec, text.Undec and text.Ununsigned come to in the model: over the kit's contracts of strconv. -/
import Derived.Test.YtflgpkkbifkpoaaDoorRows
import Derived.Test.YtflgpkkbifkpoaaDoorNumShelf
import Derived.Test.YtflgpkkbifkpoaaDoorNumP
import Derived.Lib.AppendIntMem
import Derived.Lib.Walk
import Derived.Lib.AtoiErrMem
import Derived.Lib.ItoaMem
import Derived.WalkKit
import Derived.BigCall
import Derived.BigGuard
namespace Go.Proofs.YtflgpkkbifkpoaaDoor.num
open Go.Shelf Go.RowKit Go.Sort Go.Lib
set_option linter.unusedVariables false

theorem below_grow (w : World) (k : Nat) (os : Array Obj) : Below w.heap.size w (grow (w.drewN k) os) :=
  ⟨rfl, rfl, rfl, by show w.heap.size ≤ (w.heap ++ os).size; rw [Array.size_append]; omega, fun j hj => by
    show (w.heap ++ os)[j]? = w.heap[j]?
    rw [Array.getElem?_append, if_pos hj]⟩
/-- The cells of the table of powers of ten. -/
def Tab (w : World) : Prop := ∀ i, i < 20 → w.cell? ⟨2, i, none⟩ = some (.int .u64 ((10 ^ i : Nat) : Int))
theorem cell_below {w w' : World} {b i : Nat} {v : Value} (hb : Below w.heap.size w w') (h : w.cell? ⟨b, i, none⟩ = some v) : w'.cell? ⟨b, i, none⟩ = some v := by
  rw [← h]
  exact hb.cell (Lib.lt_of_cell h)
theorem tab_below {w w' : World} (h : Tab w) (hb : Below w.heap.size w w') : Tab w' := fun i hi => cell_below hb (h i hi)
theorem numD (u : Nat) (h1 : 1 ≤ u) (h2 : u < 18446744073709551616) (w : World) (htab : Tab w) :
    Calls Tryd.prog 57 #[.int .u64 u] w fun e w' => e = .returned (.int .i64 (Lib.nDigits u)) ∧ w' = w := by
  obtain ⟨hnd, h19⟩ := Lib.numDigits_eq u h1 h2
  have hL : Lib.bitLen u ≤ 64 := Lib.bitLen_le u 64 (Nat.le_refl _) h2
  have hcell := htab (Lib.l10 (Lib.bitLen u)) (by omega)
  have hto : ((u : Int)).toNat = u := by omega
  generalize hq : Lib.l10 (Lib.bitLen u) = q at hnd h19 hcell
  generalize hT : 10 ^ q = T at hnd hcell
  have h20 : q < 20 := by omega
  have Hnd := Lib.hid hnd
  clear hnd htab
  go_enter Tryd.func57, Tryd.ntmps57
  go_wp2_with (first
    | (go_at_call 79; refine (Tryd.bits_Len64 _ _ (by omega) (by omega)).mono ?_; rintro e w' ⟨rfl, rfl⟩)
    | (go_at_call 78; refine (Tryd.internal_strconv_log10Pow2 _ (by first | exact hL | (rw [hto]; exact hL)) _).mono ?_; rintro e w' ⟨rfl, rfl⟩)
    | (go_at_call 80; refine (Tryd.internal_strconv_bool2_int _ _).mono ?_; rintro e w' ⟨rfl, rfl⟩))
  all_goals go_ret
  all_goals (
    refine ⟨?_, rfl⟩
    have hnd := Hnd.out
    congr 2
    split at hnd <;> simp_all <;> omega)
theorem tab_alloc {w : World} (h : Tab w) (o : Obj) : Tab (w.alloc o) := tab_below h ((Below.refl _ _).alloc (Nat.le_refl _) o)
theorem fin_zero (w : World) (o : Obj) (dk : Array UInt8) (k : Nat) : ∃ os, (putRow (fun (b : UInt8) => Value.int .u8 (b.toNat : Int)) (w.alloc o) w.heap.size 0 dk).drewN k = grow (w.drewN k) os := by
  rw [alloc_eq_grow]
  obtain ⟨os', _, e⟩ := putRow_grow_new (fun (b : UInt8) => Value.int .u8 (b.toNat : Int)) w #[o] w.heap.size 0 dk (Nat.le_refl _)
  exact ⟨os', by rw [e]; rfl⟩
set_option maxHeartbeats 6400000 in
set_option maxRecDepth 100000 in
theorem fmtU (u : Nat) (hu64 : u < 18446744073709551616) (w : World) (htab : Tab w) :
    Calls Tryd.prog 39 #[.int .u64 u, .int .i64 10] w fun e w' => e = .returned (.string ⟨(Lib.decDigits u).toArray⟩) ∧ ∃ k os, w' = grow (w.drewN k) os := by
  by_cases hs : u < 100
  · go_enter Tryd.func39, Tryd.ntmps39
    go_wp2_with (first | (go_at_call 56; refine (Tryd.internal_strconv_small u hs _).mono ?_; rintro e w' ⟨rfl, rfl⟩))
    go_ret
    exact ⟨rfl, 0, #[], by simp [World.drewN_zero]⟩
  · have hu1 : 1 ≤ u := by omega
    have hnd20 : Lib.nDigits u ≤ 20 := by have := Lib.numDigits_eq u hu1 hu64; split at this <;> omega
    have hal : Tryd.prog.arrayLen 92 = 24 := by simp [Program.arrayLen, Tryd.underlying92]
    have hsl1 : ∀ W, (Instr.sliceAt 92 (.pointer (some ⟨w.heap.size, 0, none⟩)) none (some (.int .i64 (Lib.nDigits u : Int))) none).run Tryd.prog W = .ok (.slice (some ⟨w.heap.size, 0, none⟩) (Lib.nDigits u) 24) W := fun W => by
      rw [run_sliceAt_array_h W 92 ⟨w.heap.size, 0, none⟩ (by simp [Program.arrayLen, Program.elem, Tryd.underlying92]) .i64 (Lib.nDigits u : Int) (by omega) (by rw [hal]; omega)]
      go_simp
    have hH0 := Lib.holds_zero0 w 92 (Lib.nDigits u) (by omega)
    have hfmt := Tryd.internal_strconv_formatBase10 w.heap.size 0 24 u (Array.replicate (Lib.nDigits u) 0) (w.alloc (.cells Lib.zeros24 92)) hH0 (by rw [Array.size_replicate]; exact Lib.lt_pow_nDigits u) hu64 (by rw [Array.size_replicate]; omega)
    rw [Array.size_replicate] at hfmt
    have HH0 := Lib.hid hH0
    clear hH0 hal
    go_enter Tryd.func39, Tryd.ntmps39
    go_wp2_with (first
      | (go_at_call 57; refine (numD u hu1 hu64 _ (tab_alloc htab _)).mono ?_; rintro e w' ⟨rfl, rfl⟩))
    go_at_call 58
    refine hfmt.mono ?_
    rintro e w' ⟨rfl, k, v', dk, rfl, hF⟩
    have hcv : (convert 22 9 (.slice (some ⟨w.heap.size, 0, none⟩) (Lib.nDigits u) 24)).run Tryd.prog ((putRow (fun (b : UInt8) => Value.int .u8 (b.toNat : Int)) (w.alloc (.cells Lib.zeros24 92)) w.heap.size 0 dk).drewN k) = .ok (.string ⟨(Lib.decDigits u).toArray⟩) ((putRow (fun (b : UInt8) => Value.int .u8 (b.toNat : Int)) (w.alloc (.cells Lib.zeros24 92)) w.heap.size 0 dk).drewN k) := by
      have h := run_convert_bytes_back (P := Tryd.prog) ((putRow (fun (b : UInt8) => Value.int .u8 (b.toNat : Int)) (w.alloc (.cells Lib.zeros24 92)) w.heap.size 0 dk).drewN k) 22 9 5 ⟨w.heap.size, 0, none⟩ 24 (Lib.decDigits u) Tryd.underlying22 Tryd.underlying5 Tryd.underlying9 (fun j hj => by
        rw [Lib.row_is_numeral hF j hj, Lib.add_plain, World.cell?_drewN]
        exact cell?_putRow (fun (b : UInt8) => Value.int .u8 (b.toNat : Int)) _ w.heap.size 0 _ dk HH0.out (by rw [hF.size, Array.size_replicate]) j (by rw [hF.size]; rw [Lib.decDigits_length] at hj; exact hj))
      rw [Lib.decDigits_length] at h
      exact h
    go_wp2
    go_ret
    obtain ⟨os, eo⟩ := fin_zero w (.cells Lib.zeros24 92) dk k
    exact ⟨rfl, k, os, eo⟩
set_option maxHeartbeats 6400000 in
set_option maxRecDepth 100000 in
theorem fmtI (n : Int) (h0 : -9223372036854775808 ≤ n) (h1 : n ≤ 9223372036854775807) (w : World) (htab : Tab w) :
    Calls Tryd.prog 38 #[.int .i64 n, .int .i64 10] w fun e w' => e = .returned (.string ⟨(Lib.itoa n).toArray⟩) ∧ ∃ k os, w' = grow (w.drewN k) os := by
  have hal : Tryd.prog.arrayLen 92 = 24 := by simp [Program.arrayLen, Tryd.underlying92]
  by_cases hs : 0 ≤ n ∧ n < 100
  · obtain ⟨i, rfl⟩ : ∃ i : Nat, n = i := ⟨n.toNat, by omega⟩
    have hi : i < 100 := by omega
    clear hal
    go_enter Tryd.func38, Tryd.ntmps38
    go_wp2_with (first | (go_at_call 56; refine (Tryd.internal_strconv_small i hi _).mono ?_; rintro e w' ⟨rfl, rfl⟩))
    go_ret
    refine ⟨?_, 0, #[], by simp [World.drewN_zero]⟩
    rw [Lib.itoa_nonneg]
    rfl
  by_cases hneg : n < 0
  · obtain ⟨u, rfl⟩ : ∃ u : Nat, n = -(u : Int) := ⟨n.natAbs, by omega⟩
    have hu1 : 1 ≤ u := by omega
    have hu64 : u < 18446744073709551616 := by omega
    have hnd20 : Lib.nDigits u ≤ 20 := by have := Lib.numDigits_eq u hu1 hu64; split at this <;> omega
    have hwr : IntKind.u64.wrap (-IntKind.u64.wrap (-(u : Int))) = (u : Int) := by rw [IntKind.wrap_u64, IntKind.wrap_u64]; omega
    have hsl1 : ∀ W, (Instr.sliceAt 92 (.pointer (some ⟨w.heap.size, 0, none⟩)) (some (.int .i64 1)) (some (.int .i64 (1 + (Lib.nDigits u : Int)))) none).run Tryd.prog W = .ok (.slice (some ⟨w.heap.size, 1, none⟩) (Lib.nDigits u) 23) W := fun W => by
      rw [run_sliceAt_array_lh W 92 ⟨w.heap.size, 0, none⟩ (by simp [Program.arrayLen, Program.elem, Tryd.underlying92]) .i64 .i64 1 (1 + (Lib.nDigits u : Int)) (by omega) (by omega) (by rw [hal]; omega)]
      go_simp
      omega
    have hH0 := Lib.holds_zero w 92 (Lib.nDigits u) (by omega)
    have hfmt := Tryd.internal_strconv_formatBase10 w.heap.size 1 23 u (Array.replicate (Lib.nDigits u) 0) (w.alloc (.cells Lib.zeros24 92)) hH0 (by rw [Array.size_replicate]; exact Lib.lt_pow_nDigits u) hu64 (by rw [Array.size_replicate]; omega)
    rw [Array.size_replicate] at hfmt
    have HH0 := Lib.hid hH0
    have hsl2 : ∀ W, (Instr.sliceAt 92 (.pointer (some ⟨w.heap.size, 0, none⟩)) none (some (.int .i64 (1 + (Lib.nDigits u : Int)))) none).run Tryd.prog W = .ok (.slice (some ⟨w.heap.size, 0, none⟩) (1 + Lib.nDigits u) 24) W := fun W => by
      rw [run_sliceAt_array_h W 92 ⟨w.heap.size, 0, none⟩ (by simp [Program.arrayLen, Program.elem, Tryd.underlying92]) .i64 (1 + (Lib.nDigits u : Int)) (by omega) (by rw [hal]; omega)]
      go_simp
      omega
    clear hH0 hal
    go_enter Tryd.func38, Tryd.ntmps38
    go_wp2_with (first
      | (go_at_call 57; refine (numD u hu1 hu64 _ (tab_alloc htab _)).mono ?_; rintro e w' ⟨rfl, rfl⟩))
    go_at_call 58
    refine hfmt.mono ?_
    rintro e w' ⟨rfl, k, v', dk, rfl, hF⟩
    have hc0 : ((putRow (fun (b : UInt8) => Value.int .u8 (b.toNat : Int)) (w.alloc (.cells Lib.zeros24 92)) w.heap.size 1 dk).drewN k).cell? ⟨w.heap.size, 0, none⟩ = some (.int .u8 0) := by
      rw [World.cell?_drewN, cell?_putRow_other _ _ _ _ _ _ (Or.inr (Or.inl (Nat.zero_lt_one))), World.cell?_alloc_new]
      exact Lib.zeros24_at 0 (by omega)
    have hf0 : ((putRow (fun (b : UInt8) => Value.int .u8 (b.toNat : Int)) (w.alloc (.cells Lib.zeros24 92)) w.heap.size 1 dk).drewN k).frozen? ⟨w.heap.size, 0, none⟩ = false := by
      rw [World.frozen?_drewN, frozen?_putRow]
      exact World.frozen?_alloc_new _ _ _ _
    have hcv := run_convert_bytes_back (P := Tryd.prog) (((putRow (fun (b : UInt8) => Value.int .u8 (b.toNat : Int)) (w.alloc (.cells Lib.zeros24 92)) w.heap.size 1 dk).drewN k).setCell ⟨w.heap.size, 0, none⟩ (.int .u8 45)) 22 9 5 ⟨w.heap.size, 0, none⟩ 24 (45 :: Lib.decDigits u) Tryd.underlying22 Tryd.underlying5 Tryd.underlying9 (fun j hj => by
      rw [Lib.add_plain]
      cases j with
      | zero => exact World.cell?_setCell_same _ _ _ hc0
      | succ i =>
        have hi : i < (Lib.decDigits u).length := by simpa using hj
        rw [World.cell?_setCell_other _ _ _ _ (by simp), List.getElem_cons_succ, Lib.row_is_numeral hF i hi, World.cell?_drewN, show 0 + (i + 1) = 1 + i by omega]
        exact cell?_putRow (fun (b : UInt8) => Value.int .u8 (b.toNat : Int)) _ w.heap.size 1 _ dk HH0.out (by rw [hF.size, Array.size_replicate]) i (by rw [hF.size]; rw [Lib.decDigits_length] at hi; exact hi))
    rw [List.length_cons, Lib.decDigits_length, Nat.add_comm] at hcv
    go_wp2
    go_ret
    obtain ⟨os, eo⟩ := Lib.fin_neg w (.cells Lib.zeros24 92) dk k (.int .u8 45)
    refine ⟨?_, k, os, eo⟩
    rw [Lib.itoa_neg u hu1]
    rfl
  · obtain ⟨u, rfl⟩ : ∃ u : Nat, n = u := ⟨n.toNat, by omega⟩
    have hu1 : 1 ≤ u := by omega
    have hu64 : u < 18446744073709551616 := by omega
    have hnd20 : Lib.nDigits u ≤ 20 := by have := Lib.numDigits_eq u hu1 hu64; split at this <;> omega
    have hsl1 : ∀ W, (Instr.sliceAt 92 (.pointer (some ⟨w.heap.size, 0, none⟩)) (some (.int .i64 1)) (some (.int .i64 (1 + (Lib.nDigits u : Int)))) none).run Tryd.prog W = .ok (.slice (some ⟨w.heap.size, 1, none⟩) (Lib.nDigits u) 23) W := fun W => by
      rw [run_sliceAt_array_lh W 92 ⟨w.heap.size, 0, none⟩ (by simp [Program.arrayLen, Program.elem, Tryd.underlying92]) .i64 .i64 1 (1 + (Lib.nDigits u : Int)) (by omega) (by omega) (by rw [hal]; omega)]
      go_simp
      omega
    have hH0 := Lib.holds_zero w 92 (Lib.nDigits u) (by omega)
    have hfmt := Tryd.internal_strconv_formatBase10 w.heap.size 1 23 u (Array.replicate (Lib.nDigits u) 0) (w.alloc (.cells Lib.zeros24 92)) hH0 (by rw [Array.size_replicate]; exact Lib.lt_pow_nDigits u) hu64 (by rw [Array.size_replicate]; omega)
    rw [Array.size_replicate] at hfmt
    have HH0 := Lib.hid hH0
    clear hH0 hal
    go_enter Tryd.func38, Tryd.ntmps38
    go_wp2_with (first
      | (go_at_call 57; refine (numD u hu1 hu64 _ (tab_alloc htab _)).mono ?_; rintro e w' ⟨rfl, rfl⟩))
    go_at_call 58
    refine hfmt.mono ?_
    rintro e w' ⟨rfl, k, v', dk, rfl, hF⟩
    have hcv := run_convert_bytes_back (P := Tryd.prog) ((putRow (fun (b : UInt8) => Value.int .u8 (b.toNat : Int)) (w.alloc (.cells Lib.zeros24 92)) w.heap.size 1 dk).drewN k) 22 9 5 ⟨w.heap.size, 1, none⟩ 23 (Lib.decDigits u) Tryd.underlying22 Tryd.underlying5 Tryd.underlying9 (fun j hj => by
      rw [Lib.row_is_numeral hF j hj, Lib.add_plain, World.cell?_drewN]
      exact cell?_putRow (fun (b : UInt8) => Value.int .u8 (b.toNat : Int)) _ w.heap.size 1 _ dk HH0.out (by rw [hF.size, Array.size_replicate]) j (by rw [hF.size]; rw [Lib.decDigits_length] at hj; exact hj))
    rw [Lib.decDigits_length] at hcv
    go_wp2
    go_ret
    obtain ⟨os, eo⟩ := Lib.fin_pos w (.cells Lib.zeros24 92) dk k
    refine ⟨?_, k, os, eo⟩
    rw [Lib.itoa_nonneg]
    rfl
theorem dec_calls (n : Int) (h0 : -9223372036854775808 ≤ n) (h1 : n ≤ 9223372036854775807) (w : World) (htab : Tab w) :
    Calls Tryd.prog 10 #[.int .i64 n] w fun e w' => e = .returned (.string ⟨(Lib.itoa n).toArray⟩) ∧ Below w.heap.size w w' := by
  go_enter Tryd.func10, Tryd.ntmps10
  go_wp2_with (first
    | (go_at_call 38; refine (fmtI n h0 h1 _ htab).mono ?_; rintro e w' ⟨rfl, k, os, rfl⟩)
    | go_in)
  go_ret
  exact ⟨rfl, below_grow _ _ _⟩
theorem uns_calls (u : Nat) (hu : u < 18446744073709551616) (w : World) (htab : Tab w) :
    Calls Tryd.prog 13 #[.int .u64 u] w fun e w' => e = .returned (.string ⟨(Lib.decDigits u).toArray⟩) ∧ Below w.heap.size w w' := by
  go_enter Tryd.func13, Tryd.ntmps13
  go_wp2_with (first
    | (go_at_call 39; refine (fmtU u hu _ htab).mono ?_; rintro e w' ⟨rfl, k, os, rfl⟩)
    | go_in)
  go_ret
  exact ⟨rfl, below_grow _ _ _⟩
/-- What a text is read as. -/
def undecV (s : ByteArray) : Int × Bool := match undec s.data.toList with
  | some v => (v, true)
  | none => (0, false)
def ununsV (s : ByteArray) : Nat × Bool := match ununs s.data.toList with
  | some v => (v, true)
  | none => (0, false)
theorem parI_ok (s : ByteArray) (hs : s.size ≤ 281474976710656) (v : Int) (h : Lib.parseIntB 64 s.data.toList = .ok v) (w : World) :
    Calls Tryd.prog 27 #[.string s, .int .i64 10, .int .i64 64] w fun e w' => e = .returned (.tuple #[.int .i64 v, .nilIface]) ∧ Below w.heap.size w w' :=
  (Tryd.strconv_ParseInt_10_at64_ok s (by omega) v h w).mono fun e w' ⟨he, hw⟩ => ⟨he, by
    rcases hw with rfl | ⟨t, rfl⟩
    · exact Below.refl _ _
    · exact Lib.bytesWorld_below _ _ _⟩
theorem parI_bad (s : ByteArray) (hs : s.size ≤ 281474976710656) (h : ∀ v, Lib.parseIntB 64 s.data.toList ≠ .ok v) (w : World) (tp tq : TypeId) (p q : Value) (hE : w.cell? ⟨3, 0, none⟩ = some (.iface tp p)) (hR : w.cell? ⟨4, 0, none⟩ = some (.iface tq q)) :
    Calls Tryd.prog 27 #[.string s, .int .i64 10, .int .i64 64] w fun e w' => (∃ v t x, e = .returned (.tuple #[.int .i64 v, .iface t x])) ∧ Below w.heap.size w w' := by
  cases hp : Lib.parseIntB 64 s.data.toList with
  | ok v => exact absurd hp (h v)
  | range => exact (Tryd.strconv_ParseInt_10_at64_range s hs hp (.iface tq q) w hR (Or.inr ⟨tq, q, rfl⟩)).mono fun e w' ⟨N, he, _, _, hb⟩ => ⟨⟨_, _, _, he⟩, hb⟩
  | _ => exact (Tryd.strconv_ParseInt_10_at64_syntax s hs h (by rw [hp]; intro he; cases he) (.iface tp p) w hE (Or.inr ⟨tp, p, rfl⟩)).mono fun e w' ⟨N, he, _, _, hb⟩ => ⟨⟨_, _, _, he⟩, hb⟩
theorem parU_ok (s : ByteArray) (hs : s.size ≤ 281474976710656) (v : Nat) (h : Lib.parseUintB 64 s.data.toList = .ok v) (w : World) :
    Calls Tryd.prog 31 #[.string s, .int .i64 10, .int .i64 64] w fun e w' => e = .returned (.tuple #[.int .u64 v, .nilIface]) ∧ Below w.heap.size w w' :=
  (Tryd.strconv_ParseUint_10_at64_ok s (by omega) v h w).mono fun e w' ⟨he, hw⟩ => ⟨he, by
    rcases hw with rfl | rfl
    · exact Below.refl _ _
    · exact Lib.bytesWorld_below _ _ _⟩
theorem parU_bad (s : ByteArray) (hs : s.size ≤ 281474976710656) (h : ∀ v, Lib.parseUintB 64 s.data.toList ≠ .ok v) (w : World) (tp tq : TypeId) (p q : Value) (hE : w.cell? ⟨3, 0, none⟩ = some (.iface tp p)) (hR : w.cell? ⟨4, 0, none⟩ = some (.iface tq q)) :
    Calls Tryd.prog 31 #[.string s, .int .i64 10, .int .i64 64] w fun e w' => (∃ v t x, e = .returned (.tuple #[.int .u64 v, .iface t x])) ∧ Below w.heap.size w w' := by
  cases hp : Lib.parseUintB 64 s.data.toList with
  | ok v => exact absurd hp (h v)
  | range => exact (Tryd.strconv_ParseUint_10_at64_range s hs hp (.iface tq q) w hR (Or.inr ⟨tq, q, rfl⟩)).mono fun e w' ⟨N, he, _, _, hb⟩ => ⟨⟨_, _, _, he⟩, hb⟩
  | _ => exact (Tryd.strconv_ParseUint_10_at64_syntax s hs h (by rw [hp]; intro he; cases he) (.iface tp p) w hE (Or.inr ⟨tp, p, rfl⟩)).mono fun e w' ⟨N, he, _, _, hb⟩ => ⟨⟨_, _, _, he⟩, hb⟩
theorem undec_calls (s : ByteArray) (hs : s.size ≤ 281474976710656) (w : World) (htab : Tab w) (tp tq : TypeId) (p q : Value) (hE : w.cell? ⟨3, 0, none⟩ = some (.iface tp p)) (hR : w.cell? ⟨4, 0, none⟩ = some (.iface tq q)) :
    Calls Tryd.prog 15 #[.string s] w fun e w' => e = .returned (.tuple #[.int .i64 (undecV s).1, .bool (undecV s).2]) ∧ Below w.heap.size w w' := by
  by_cases hx : ∃ v, Lib.parseIntB 64 s.data.toList = .ok v
  · obtain ⟨v, hv⟩ := hx
    have hr := parseI_range hv
    have hu : undecV s = if Lib.itoa v = s.data.toList then (v, true) else (0, false) := by
      unfold undecV undec
      rw [hv]
      by_cases h : Lib.itoa v = s.data.toList <;> simp [h]
    rw [hu]
    clear hu
    go_enter Tryd.func15, Tryd.ntmps15
    go_wp2_with (first
      | (go_at_call 27; refine (parI_ok s hs v hv _).mono ?_; rintro e w1 ⟨rfl, hb1⟩)
      | (go_at_call 10; refine (dec_calls v hr.1 hr.2 _ (tab_below htab hb1)).mono ?_; rintro e w2 ⟨rfl, hb2⟩))
    all_goals first
      | (go_ret2; exact ⟨rfl, hb1.trans (hb2.mono hb1.size)⟩)
      | (exfalso; simp_all [ByteArray.toList_eq]; done)
  · have hu : undecV s = (0, false) := by
      unfold undecV undec
      cases hp : Lib.parseIntB 64 s.data.toList with
      | ok v => exact absurd ⟨v, hp⟩ hx
      | range => rfl
      | _ => rfl
    rw [hu]
    clear hu
    go_enter Tryd.func15, Tryd.ntmps15
    go_wp2_with (first
      | (go_at_call 27; refine (parI_bad s hs (fun v hv => hx ⟨v, hv⟩) _ tp tq p q hE hR).mono ?_; rintro e w1 ⟨⟨v, t, x, rfl⟩, hb1⟩))
    all_goals first
      | (go_ret2; exact ⟨rfl, hb1⟩)
      | (exfalso; simp_all [ByteArray.toList_eq]; done)
theorem parseU_range {l : List UInt8} {v : Nat} (h : Lib.parseUintB 64 l = .ok v) : v < 18446744073709551616 := by
  unfold Lib.parseUintB at h
  split at h
  · cases h
  · have := parseM_le _ _ _ (by omega) h
    rw [two64] at this
    omega
theorem ununs_calls (s : ByteArray) (hs : s.size ≤ 281474976710656) (w : World) (htab : Tab w) (tp tq : TypeId) (p q : Value) (hE : w.cell? ⟨3, 0, none⟩ = some (.iface tp p)) (hR : w.cell? ⟨4, 0, none⟩ = some (.iface tq q)) :
    Calls Tryd.prog 18 #[.string s] w fun e w' => e = .returned (.tuple #[.int .u64 ((ununsV s).1 : Int), .bool (ununsV s).2]) ∧ Below w.heap.size w w' := by
  by_cases hx : ∃ v, Lib.parseUintB 64 s.data.toList = .ok v
  · obtain ⟨v, hv⟩ := hx
    have hr := parseU_range hv
    have hu : ununsV s = if Lib.decDigits v = s.data.toList then (v, true) else (0, false) := by
      unfold ununsV ununs
      rw [hv]
      by_cases h : Lib.decDigits v = s.data.toList <;> simp [h]
    rw [hu]
    clear hu
    go_enter Tryd.func18, Tryd.ntmps18
    go_wp2_with (first
      | (go_at_call 31; refine (parU_ok s hs v hv _).mono ?_; rintro e w1 ⟨rfl, hb1⟩)
      | (go_at_call 13; refine (uns_calls v hr _ (tab_below htab hb1)).mono ?_; rintro e w2 ⟨rfl, hb2⟩))
    all_goals first
      | (go_ret2; exact ⟨rfl, hb1.trans (hb2.mono hb1.size)⟩)
      | (exfalso; simp_all [ByteArray.toList_eq]; done)
  · have hu : ununsV s = (0, false) := by
      unfold ununsV ununs
      cases hp : Lib.parseUintB 64 s.data.toList with
      | ok v => exact absurd ⟨v, hp⟩ hx
      | range => rfl
      | _ => rfl
    rw [hu]
    clear hu
    go_enter Tryd.func18, Tryd.ntmps18
    go_wp2_with (first
      | (go_at_call 31; refine (parU_bad s hs (fun v hv => hx ⟨v, hv⟩) _ tp tq p q hE hR).mono ?_; rintro e w1 ⟨⟨v, t, x, rfl⟩, hb1⟩))
    all_goals first
      | (go_ret2; exact ⟨rfl, hb1⟩)
      | (exfalso; simp_all [ByteArray.toList_eq]; done)
end Go.Proofs.YtflgpkkbifkpoaaDoor.num
