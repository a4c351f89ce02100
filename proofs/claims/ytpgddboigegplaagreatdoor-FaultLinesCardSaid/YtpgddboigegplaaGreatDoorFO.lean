/- What text.Dec comes to: in the model, over the kit's contracts of strconv; as a law over whatever heap has the table of powers of ten. The oracle of the row 'FaultBuilds': the chapter's examples as they are run; text.Dec where the table of powers of ten lies; 'may', Word and Number. The texts of notes around a fault. -/
import Derived.Test.YtpgddboigegplaaGreatDoorRows
import Derived.Test.YtpgddboigegplaaGreatDoorShelfA
import Derived.Test.YtpgddboigegplaaGreatDoorFM
import Derived.Lib.AppendIntMem
import Derived.Lib.Walk
import Derived.Lib.ItoaMem
import Derived.Lib.AtoiErrMem
import Derived.WalkKit
import Derived.BigCall
import Derived.BigGuard
import Derived.Test.YtpgddboigegplaaGreatDoorFN
namespace Go.Proofs.YtpgddboigegplaaGreatDoor.base
open Go.Shelf Go.RowKit Go.Sort Go.Lib
set_option linter.unusedVariables false

theorem below_grow (w : World) (k : Nat) (os : Array Obj) : Below w.heap.size w (grow (w.drewN k) os) :=
  ⟨rfl, rfl, rfl, by show w.heap.size ≤ (w.heap ++ os).size; rw [Array.size_append]; omega, fun j hj => by
    show (w.heap ++ os)[j]? = w.heap[j]?
    rw [Array.getElem?_append, if_pos hj]⟩
/-- The cells of the table of powers of ten. -/
def Tab (w : World) : Prop := ∀ i, i < 20 → w.cell? ⟨2, i, none⟩ = some (.int .u64 ((10 ^ i : Nat) : Int))
theorem cell_below {w w' : World} {b i : Nat} {v : Value} (hb : Below w.heap.size w w') (h : w.cell? ⟨b, i, none⟩ = some v) : w'.cell? ⟨b, i, none⟩ = some v := by
  rw [← h]
  exact hb.cell (Lib.lt_of_cell h)
theorem tab_below {w w' : World} (h : Tab w) (hb : Below w.heap.size w w') : Tab w' := fun i hi => cell_below hb (h i hi)
theorem numD (u : Nat) (h1 : 1 ≤ u) (h2 : u < 18446744073709551616) (w : World) (htab : Tab w) :
    Calls Tryz.prog 73 #[.int .u64 u] w fun e w' => e = .returned (.int .i64 (Lib.nDigits u)) ∧ w' = w := by
  obtain ⟨hnd, h19⟩ := Lib.numDigits_eq u h1 h2
  have hL : Lib.bitLen u ≤ 64 := Lib.bitLen_le u 64 (Nat.le_refl _) h2
  have hcell := htab (Lib.l10 (Lib.bitLen u)) (by omega)
  have hto : ((u : Int)).toNat = u := by omega
  generalize hq : Lib.l10 (Lib.bitLen u) = q at hnd h19 hcell
  generalize hT : 10 ^ q = T at hnd hcell
  have h20 : q < 20 := by omega
  have Hnd := Lib.hid hnd
  clear hnd htab
  go_enter Tryz.func73, Tryz.ntmps73
  go_wp2_with (first
    | (go_at_call 91; refine (Tryz.bits_Len64 _ _ (by omega) (by omega)).mono ?_; rintro e w' ⟨rfl, rfl⟩)
    | (go_at_call 90; refine (Tryz.internal_strconv_log10Pow2 _ (by first | exact hL | (rw [hto]; exact hL)) _).mono ?_; rintro e w' ⟨rfl, rfl⟩)
    | (go_at_call 92; refine (Tryz.internal_strconv_bool2_int _ _).mono ?_; rintro e w' ⟨rfl, rfl⟩))
  all_goals go_ret
  all_goals (
    refine ⟨?_, rfl⟩
    have hnd := Hnd.out
    congr 2
    split at hnd <;> simp_all <;> omega)
theorem tab_alloc {w : World} (h : Tab w) (o : Obj) : Tab (w.alloc o) := tab_below h ((Below.refl _ _).alloc (Nat.le_refl _) o)
theorem fin_zero (w : World) (o : Obj) (dk : Array UInt8) (k : Nat) : ∃ os, (putRow (fun (b : UInt8) => Value.int .u8 (b.toNat : Int)) (w.alloc o) w.heap.size 0 dk).drewN k = grow (w.drewN k) os := by
  rw [alloc_eq_grow]
  obtain ⟨os', _, e⟩ := putRow_grow_new (fun (b : UInt8) => Value.int .u8 (b.toNat : Int)) w #[o] w.heap.size 0 dk (Nat.le_refl _)
  exact ⟨os', by rw [e]; rfl⟩
set_option maxHeartbeats 6400000 in
set_option maxRecDepth 100000 in
theorem fmtI (n : Int) (h0 : -9223372036854775808 ≤ n) (h1 : n ≤ 9223372036854775807) (w : World) (htab : Tab w) :
    Calls Tryz.prog 60 #[.int .i64 n, .int .i64 10] w fun e w' => e = .returned (.string ⟨(Lib.itoa n).toArray⟩) ∧ ∃ k os, w' = grow (w.drewN k) os := by
  have hal : Tryz.prog.arrayLen 140 = 24 := by simp [Program.arrayLen, Tryz.underlying140]
  by_cases hs : 0 ≤ n ∧ n < 100
  · obtain ⟨i, rfl⟩ : ∃ i : Nat, n = i := ⟨n.toNat, by omega⟩
    have hi : i < 100 := by omega
    clear hal
    go_enter Tryz.func60, Tryz.ntmps60
    go_wp2_with (first | (go_at_call 72; refine (Tryz.internal_strconv_small i hi _).mono ?_; rintro e w' ⟨rfl, rfl⟩))
    go_ret
    refine ⟨?_, 0, #[], by simp [World.drewN_zero]⟩
    rw [Lib.itoa_nonneg]
    rfl
  by_cases hneg : n < 0
  · obtain ⟨u, rfl⟩ : ∃ u : Nat, n = -(u : Int) := ⟨n.natAbs, by omega⟩
    have hu1 : 1 ≤ u := by omega
    have hu64 : u < 18446744073709551616 := by omega
    have hnd20 : Lib.nDigits u ≤ 20 := by have := Lib.numDigits_eq u hu1 hu64; split at this <;> omega
    have hwr : IntKind.u64.wrap (-IntKind.u64.wrap (-(u : Int))) = (u : Int) := by rw [IntKind.wrap_u64, IntKind.wrap_u64]; omega
    have hsl1 : ∀ W, (Instr.sliceAt 140 (.pointer (some ⟨w.heap.size, 0, none⟩)) (some (.int .i64 1)) (some (.int .i64 (1 + (Lib.nDigits u : Int)))) none).run Tryz.prog W = .ok (.slice (some ⟨w.heap.size, 1, none⟩) (Lib.nDigits u) 23) W := fun W => by
      rw [run_sliceAt_array_lh W 140 ⟨w.heap.size, 0, none⟩ (by simp [Program.arrayLen, Program.elem, Tryz.underlying140]) .i64 .i64 1 (1 + (Lib.nDigits u : Int)) (by omega) (by omega) (by rw [hal]; omega)]
      go_simp
      omega
    have hH0 := Lib.holds_zero w 140 (Lib.nDigits u) (by omega)
    have hfmt := Tryz.internal_strconv_formatBase10 w.heap.size 1 23 u (Array.replicate (Lib.nDigits u) 0) (w.alloc (.cells Lib.zeros24 140)) hH0 (by rw [Array.size_replicate]; exact Lib.lt_pow_nDigits u) hu64 (by rw [Array.size_replicate]; omega)
    rw [Array.size_replicate] at hfmt
    have HH0 := Lib.hid hH0
    have hsl2 : ∀ W, (Instr.sliceAt 140 (.pointer (some ⟨w.heap.size, 0, none⟩)) none (some (.int .i64 (1 + (Lib.nDigits u : Int)))) none).run Tryz.prog W = .ok (.slice (some ⟨w.heap.size, 0, none⟩) (1 + Lib.nDigits u) 24) W := fun W => by
      rw [run_sliceAt_array_h W 140 ⟨w.heap.size, 0, none⟩ (by simp [Program.arrayLen, Program.elem, Tryz.underlying140]) .i64 (1 + (Lib.nDigits u : Int)) (by omega) (by rw [hal]; omega)]
      go_simp
      omega
    clear hH0 hal
    go_enter Tryz.func60, Tryz.ntmps60
    go_wp2_with (first
      | (go_at_call 73; refine (numD u hu1 hu64 _ (tab_alloc htab _)).mono ?_; rintro e w' ⟨rfl, rfl⟩))
    go_at_call 74
    refine hfmt.mono ?_
    rintro e w' ⟨rfl, k, v', dk, rfl, hF⟩
    have hc0 : ((putRow (fun (b : UInt8) => Value.int .u8 (b.toNat : Int)) (w.alloc (.cells Lib.zeros24 140)) w.heap.size 1 dk).drewN k).cell? ⟨w.heap.size, 0, none⟩ = some (.int .u8 0) := by
      rw [World.cell?_drewN, cell?_putRow_other _ _ _ _ _ _ (Or.inr (Or.inl (Nat.zero_lt_one))), World.cell?_alloc_new]
      exact Lib.zeros24_at 0 (by omega)
    have hf0 : ((putRow (fun (b : UInt8) => Value.int .u8 (b.toNat : Int)) (w.alloc (.cells Lib.zeros24 140)) w.heap.size 1 dk).drewN k).frozen? ⟨w.heap.size, 0, none⟩ = false := by
      rw [World.frozen?_drewN, frozen?_putRow]
      exact World.frozen?_alloc_new _ _ _ _
    have hcv := run_convert_bytes_back (P := Tryz.prog) (((putRow (fun (b : UInt8) => Value.int .u8 (b.toNat : Int)) (w.alloc (.cells Lib.zeros24 140)) w.heap.size 1 dk).drewN k).setCell ⟨w.heap.size, 0, none⟩ (.int .u8 45)) 53 9 5 ⟨w.heap.size, 0, none⟩ 24 (45 :: Lib.decDigits u) Tryz.underlying53 Tryz.underlying5 Tryz.underlying9 (fun j hj => by
      rw [Lib.add_plain]
      cases j with
      | zero => exact World.cell?_setCell_same _ _ _ hc0
      | succ i =>
        have hi : i < (Lib.decDigits u).length := by simpa using hj
        rw [World.cell?_setCell_other _ _ _ _ (by simp), List.getElem_cons_succ, Lib.row_is_numeral hF i hi, World.cell?_drewN, show 0 + (i + 1) = 1 + i by omega]
        exact cell?_putRow (fun (b : UInt8) => Value.int .u8 (b.toNat : Int)) _ w.heap.size 1 _ dk HH0.out (by rw [hF.size, Array.size_replicate]) i (by rw [hF.size]; rw [Lib.decDigits_length] at hi; exact hi))
    rw [List.length_cons, Lib.decDigits_length, Nat.add_comm] at hcv
    go_wp2
    go_ret
    obtain ⟨os, eo⟩ := Lib.fin_neg w (.cells Lib.zeros24 140) dk k (.int .u8 45)
    refine ⟨?_, k, os, eo⟩
    rw [Lib.itoa_neg u hu1]
    rfl
  · obtain ⟨u, rfl⟩ : ∃ u : Nat, n = u := ⟨n.toNat, by omega⟩
    have hu1 : 1 ≤ u := by omega
    have hu64 : u < 18446744073709551616 := by omega
    have hnd20 : Lib.nDigits u ≤ 20 := by have := Lib.numDigits_eq u hu1 hu64; split at this <;> omega
    have hsl1 : ∀ W, (Instr.sliceAt 140 (.pointer (some ⟨w.heap.size, 0, none⟩)) (some (.int .i64 1)) (some (.int .i64 (1 + (Lib.nDigits u : Int)))) none).run Tryz.prog W = .ok (.slice (some ⟨w.heap.size, 1, none⟩) (Lib.nDigits u) 23) W := fun W => by
      rw [run_sliceAt_array_lh W 140 ⟨w.heap.size, 0, none⟩ (by simp [Program.arrayLen, Program.elem, Tryz.underlying140]) .i64 .i64 1 (1 + (Lib.nDigits u : Int)) (by omega) (by omega) (by rw [hal]; omega)]
      go_simp
      omega
    have hH0 := Lib.holds_zero w 140 (Lib.nDigits u) (by omega)
    have hfmt := Tryz.internal_strconv_formatBase10 w.heap.size 1 23 u (Array.replicate (Lib.nDigits u) 0) (w.alloc (.cells Lib.zeros24 140)) hH0 (by rw [Array.size_replicate]; exact Lib.lt_pow_nDigits u) hu64 (by rw [Array.size_replicate]; omega)
    rw [Array.size_replicate] at hfmt
    have HH0 := Lib.hid hH0
    clear hH0 hal
    go_enter Tryz.func60, Tryz.ntmps60
    go_wp2_with (first
      | (go_at_call 73; refine (numD u hu1 hu64 _ (tab_alloc htab _)).mono ?_; rintro e w' ⟨rfl, rfl⟩))
    go_at_call 74
    refine hfmt.mono ?_
    rintro e w' ⟨rfl, k, v', dk, rfl, hF⟩
    have hcv := run_convert_bytes_back (P := Tryz.prog) ((putRow (fun (b : UInt8) => Value.int .u8 (b.toNat : Int)) (w.alloc (.cells Lib.zeros24 140)) w.heap.size 1 dk).drewN k) 53 9 5 ⟨w.heap.size, 1, none⟩ 23 (Lib.decDigits u) Tryz.underlying53 Tryz.underlying5 Tryz.underlying9 (fun j hj => by
      rw [Lib.row_is_numeral hF j hj, Lib.add_plain, World.cell?_drewN]
      exact cell?_putRow (fun (b : UInt8) => Value.int .u8 (b.toNat : Int)) _ w.heap.size 1 _ dk HH0.out (by rw [hF.size, Array.size_replicate]) j (by rw [hF.size]; rw [Lib.decDigits_length] at hj; exact hj))
    rw [Lib.decDigits_length] at hcv
    go_wp2
    go_ret
    obtain ⟨os, eo⟩ := Lib.fin_pos w (.cells Lib.zeros24 140) dk k
    refine ⟨?_, k, os, eo⟩
    rw [Lib.itoa_nonneg]
    rfl
theorem dec_calls (n : Int) (h0 : -9223372036854775808 ≤ n) (h1 : n ≤ 9223372036854775807) (w : World) (htab : Tab w) :
    Calls Tryz.prog 34 #[.int .i64 n] w fun e w' => e = .returned (.string ⟨(Lib.itoa n).toArray⟩) ∧ Below w.heap.size w w' := by
  go_enter Tryz.func34, Tryz.ntmps34
  go_wp2_with (first
    | (go_at_call 60; refine (fmtI n h0 h1 _ htab).mono ?_; rintro e w' ⟨rfl, k, os, rfl⟩)
    | go_in)
  go_ret
  exact ⟨rfl, below_grow _ _ _⟩
end Go.Proofs.YtpgddboigegplaaGreatDoor.base

namespace Go.Proofs.YtpgddboigegplaaGreatDoor.base
open Go.Dg (St Ex Ev Hint evCall bodied noOver sbOf Heap AObj SCall Law ofLaw flatOver Flats)
set_option linter.unusedVariables false

/-- The table of powers of ten lies where its variable is. -/
def TabOk (H : Heap) : Prop := ∃ e, H.get 2 = .cells (ui .u64 tab2) e 6 1
def decV (n : Int) : ByteArray := bs (Lib.itoa n)
def CDec : Law := fun args H r => ∃ n : Int, args = [.int .i64 n] ∧ -9223372036854775808 ≤ n ∧ n ≤ 9223372036854775807 ∧ TabOk H ∧ r = (.string (decV n), H, [])
theorem CDec_uniq : ∀ args H r r', CDec args H r → CDec args H r' → r = r' := by
  rintro args H r r' ⟨n, h, _, _, _, rfl⟩ ⟨m, h', _, _, _, rfl⟩
  rw [h] at h'
  injection h' with h1
  injection h1 with h2 h3
  rw [h3]
theorem glob_cell {M : Dg.Emb} {N : Nat} {H : Heap} {w : World} (hg : Dg.Globs 15 M) (hr : Dg.HRel M N H w) {g : Nat} (hg15 : g < 15) {cs : List Value} {e md esz : Nat} (h : H.get g = .cells cs e md esz) {i : Nat} {v : Value} (hv : cs[i]? = some v) :
    ∃ v', w.cell? ⟨g, i, none⟩ = some v' ∧ Dg.VRel M v v' := by
  obtain ⟨b, o, sp, h1, h2⟩ := hr.obj g (by rw [h]; rfl)
  rw [hg g hg15] at h1
  cases h1
  rw [h] at h2
  obtain ⟨C, fz, h3, _, h4, _⟩ := h2
  obtain ⟨v', h5, h6⟩ := h4 i v hv
  refine ⟨v', ?_, h6⟩
  rw [Nat.zero_add] at h5
  simp [World.cell?, h3, h5]
theorem pow10_at : ui .u64 tab2 = (List.range 20).map fun i => Value.int .u64 ((10 ^ i : Nat) : Int) := by kernel_rfl
theorem tab_of {M : Dg.Emb} {N : Nat} {H : Heap} {w : World} (hg : Dg.Globs 15 M) (hr : Dg.HRel M N H w) (h : TabOk H) : Tab w := by
  obtain ⟨e, h⟩ := h
  intro i hi
  obtain ⟨v', h1, h2⟩ := glob_cell hg hr (by decide) h (i := i) (v := .int .u64 ((10 ^ i : Nat) : Int)) (by rw [pow10_at]; simp [hi])
  rw [h1, h2.eq_of_flat rfl]
theorem keep_of {f : FuncId} {args args' : List Value} {v : Value} {M : Dg.Emb} {N : Nat} {H : Heap} {w : World} (hr : Dg.HRel M N H w) (ha : Dg.flatL args = true) (hv : Dg.flat v = true) (hl : Dg.LRel M args args')
    (hc : Calls Tryz.prog f args.toArray w fun e w' => e = .returned v ∧ RowKit.Below w.heap.size w w') : Calls Tryz.prog f args'.toArray w fun e w' => ∃ M' v', e = .returned v' ∧ Dg.VRel M' v v' ∧ Dg.Stp N M H w M' H w' := by
  have e : args' = args := hl.eq_of_flat ha
  rw [e]
  exact hc.mono fun e w' ⟨he, hb⟩ => ⟨M, v, he, Dg.vrel_of_flat _ _ hv, .of_below hr hb⟩
/-- 'may', Word and Number. -/
def oBld (f : FuncId) (args : List Value) : Option Value := match f with
  | 29 => match args with
    | [.string s] => some (.bool (mayL s.data.toList))
    | _ => none
  | 33 => match args with
    | [.string s] => if s.size ≤ 9223372036854775807 then some (.string (wordOf s)) else none
    | _ => none
  | 21 => match args with
    | [.int .i64 n] => if -9223372036854775808 ≤ n ∧ n ≤ 9223372036854775807 then some (.string (decV n)) else none
    | _ => none
  | _ => none
theorem oBld_flats : ∀ f args v, oBld f args = some v → Flats Tryz.prog f args v := by
  intro f args v h
  unfold oBld at h
  split at h
  · split at h
    · cases h; exact may_flats _
    · cases h
  · split at h
    · split at h
      · rename_i hs; cases h; exact word_flats _ hs
      · cases h
    · cases h
  · split at h
    · split at h
      · rename_i hs; cases h; exact num_flats hs.1 hs.2
      · cases h
    · cases h
  · cases h
noncomputable def ovB0 : Ev := fun f args H => match f with
  | 7 => evCall Tryz.prog 15 (bodied Tryz.prog) ovY sbs (0 + 100) 19 7 args H
  | 34 => ofLaw CDec args H
  | f => flatOver oBld f args H
theorem ovB0_ok : Dg.CallOk Tryz.prog 15 ovB0 ∧ Dg.CallLog ovB0 := by
  have hk := Dg.evCall_ok (G := 15) mixed okB ovY_ok.1 ovY_ok.2 sbs (0 + 100) 19
  have hf := Dg.flatOver_ok (P := Tryz.prog) (G := 15) oBld_flats
  constructor
  · intro f args H v H' log he hY N M w args' hg hr hl
    have hl' : Dg.LRel M args args'.toList := hl
    unfold ovB0 at he
    split at he
    · exact hk.1 7 args H v H' log he hY N M w args' hg hr hl
    · obtain ⟨n, rfl, h0, h1, ht, e⟩ := Dg.ofLaw_inv he
      cases e
      exact keep_of hr rfl rfl hl' (dec_calls n h0 h1 w (tab_of hg hr ht))
    · exact hf.1 _ args H v H' log he hY N M w args' hg hr hl
  · intro f args H v H' log he
    unfold ovB0 at he
    split at he
    · exact hk.2.2 7 args H v H' log he
    · obtain ⟨n, rfl, h0, h1, ht, e⟩ := Dg.ofLaw_inv he
      cases e
      exact fun hlen => ⟨hlen, Nat.le_refl _, fun k _ _ => rfl⟩
    · exact hf.2 _ args H v H' log he
/-- The oracle. -/
noncomputable def ovB : Ev := noW ovB0
theorem ovB_ok : Dg.CallOk Tryz.prog 15 ovB ∧ Dg.CallLog ovB := noW_ok ovB0_ok
theorem mayB : MayOk (noW ovB0) := fun _ _ => rfl
noncomputable abbrev evB (lf n : Nat) (f : FuncId) (args : List Value) (H : Heap) : Option (Value × Heap × List Nat) := evCall Tryz.prog 15 (bodied Tryz.prog) ovB sbs lf n f args H
theorem oB_word {s : ByteArray} (hs : s.size ≤ 9223372036854775807) : oBld 33 [.string s] = some (.string (wordOf s)) := if_pos hs
theorem oB_num {n : Int} (h0 : -9223372036854775808 ≤ n ∧ n ≤ 9223372036854775807) : oBld 21 [.int .i64 n] = some (.string (decV n)) := if_pos h0
theorem ov_flat {f : FuncId} {args : List Value} {v : Value} {H : Heap} (h : oBld f args = some v) : flatOver oBld f args H = some (v, H, []) := by
  unfold flatOver; rw [h]; rfl
theorem over33 (args : List Value) (H : Heap) : ovB 33 args H = flatOver oBld 33 args H := by kernel_rfl
theorem over21 (args : List Value) (H : Heap) : ovB 21 args H = flatOver oBld 21 args H := by kernel_rfl
theorem over34 (args : List Value) (H : Heap) : ovB 34 args H = ofLaw CDec args H := by kernel_rfl
theorem over7 (args : List Value) (H : Heap) : ovB 7 args H = evY (0 + 100) 19 7 args H := by kernel_rfl
theorem bDec {lf m : Nat} {n : Int} {H : Heap} (h0 : -9223372036854775808 ≤ n ∧ n ≤ 9223372036854775807) (ht : TabOk H) : evB lf (m + 1) 34 [.int .i64 n] H = some (.string (decV n), H, []) :=
  Dg.evCall_over (by rw [over34]; exact Dg.ofLaw_is CDec_uniq ⟨n, rfl, h0.1, h0.2, ht, rfl⟩)
theorem bWord {lf m : Nat} {s : ByteArray} {H : Heap} (hs : s.size ≤ 9223372036854775807) : evB lf (m + 1) 33 [.string s] H = some (.string (wordOf s), H, []) :=
  Dg.evCall_over (by rw [over33, ov_flat (oB_word hs)])
theorem bNum {lf m : Nat} {n : Int} {H : Heap} (h0 : -9223372036854775808 ≤ n ∧ n ≤ 9223372036854775807) : evB lf (m + 1) 21 [.int .i64 n] H = some (.string (decV n), H, []) :=
  Dg.evCall_over (by rw [over21, ov_flat (oB_num h0)])
theorem bKnown {lf m : Nat} (E : Nat → TypeId) (u3 u4 : TypeId) (x : AObj) : evB lf (m + 1) 7 [] (H0 E u3 u4 [x]) = some (.bool true, H0 E u3 u4 [x], []) :=
  Dg.evCall_over (by rw [over7, known1])
end Go.Proofs.YtpgddboigegplaaGreatDoor.base

namespace Go.Proofs.YtpgddboigegplaaGreatDoor.base
open Go.Dg (junk St Ex Ev Hint evCall evCallS evCode evCodeK innerKp evCodeS evLoop cleanSt ue bodied noOver sbOf headOf tailOf bodyOf rAssign rBody lBody Flats flatOver Heap AObj SCall Law ofLaw Fix)
set_option linter.unusedVariables false
set_option linter.unusedSimpArgs false

def ksS : ByteArray := ⟨#[107, 105, 110, 100, 32]⟩
def atS : ByteArray := ⟨#[32, 97, 116, 32]⟩
def csS : ByteArray := ⟨#[58, 32]⟩
theorem szk : ksS.size = 5 := rfl
theorem sza : atS.size = 4 := rfl
theorem szc : csS.size = 2 := rfl
theorem szk2 : (⟨#[107, 105, 110, 100, 32]⟩ : ByteArray).size = 5 := rfl
theorem sza2 : (⟨#[32, 97, 116, 32]⟩ : ByteArray).size = 4 := rfl
theorem szc2 : (⟨#[58, 32]⟩ : ByteArray).size = 2 := rfl
theorem sz0 : (⟨#[]⟩ : ByteArray).size = 0 := rfl
/-- A fault's text. -/
def tF (dk dO : ByteArray) : ByteArray := ((ksS ++ dk) ++ atS) ++ dO
/-- A note's. -/
def tN (w t : ByteArray) : ByteArray := (w ++ csS) ++ t
theorem tN_size (w t : ByteArray) : (tN w t).size = w.size + 2 + t.size := by unfold tN; rw [ByteArray.size_append, ByteArray.size_append, szc]
theorem tF_size (a b : ByteArray) : (tF a b).size = 5 + a.size + 4 + b.size := by unfold tF; rw [ByteArray.size_append, ByteArray.size_append, ByteArray.size_append, szk, sza]
theorem emp (x : ByteArray) : (⟨#[]⟩ : ByteArray) ++ x = x := by
  rw [show (⟨#[]⟩ : ByteArray) = ByteArray.empty from rfl, ByteArray.empty_append]
theorem neS (d : ByteArray) : Value.bool (!(d.toList == d.toList)) = .bool false := by simp
theorem eqS (d : ByteArray) : Value.bool (d.toList == d.toList) = .bool true := by simp
end Go.Proofs.YtpgddboigegplaaGreatDoor.base
