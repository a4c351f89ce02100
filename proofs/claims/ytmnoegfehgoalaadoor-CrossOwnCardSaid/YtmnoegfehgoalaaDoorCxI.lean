/- The moment of a second of Unix time: era.Unix. A moment that goes on: the closure of trips. Addresses of four bytes may be: addr.May. Days of moments: mjd.Day. Days of moments: mjd.Day, over what is told of its callees. Exchanges that are made, one behind the other: their samples and lines, as rows. Plain. -/
import Derived.Test.YtmnoegfehgoalaaDoorCxH
import Derived.Test.YtmnoegfehgoalaaDoorDRun
import Derived.Test.YtmnoegfehgoalaaDoorCxE
import Derived.Test.YtmnoegfehgoalaaDoorDgLay
import Derived.Test.YtmnoegfehgoalaaDoorCxF
namespace Go.Proofs.YtmnoegfehgoalaaDoor.cx
open Go.RowKit Go.Extern.Stop Go.Stop Go.Extern Go.Cx
open Go.Dg (evCall bodied noOver Flats)
open Go.Proofs.YtmnoegfehgoalaaDoor.base (mixed okB sbs)
set_option linter.unusedVariables false

/-- The moment where Unix time begins, of the era that counts from 1900. -/
theorem mom_run : (evCall Tryd.prog 0 (bodied Tryd.prog) noOver sbs 2000 20 31 [.int .i64 2208988800, .int .u32 0] ⟨0, []⟩).map (·.1) = some (wd 0 9487534653230284800) := by kernel_rfl
theorem mom_flats : Flats Tryd.prog 31 [.int .i64 2208988800, .int .u32 0] (wd 0 9487534653230284800) :=
  Dg.closed_call mixed okB Dg.noOver_ok mom_run rfl rfl
theorem shift_run : (evCall Tryd.prog 0 (bodied Tryd.prog) noOver sbs 2000 20 62 [] ⟨0, []⟩).map (·.1) = some (wd 0 5573699319103488000) := by kernel_rfl
theorem or_none (x : Int) : bits .or .u64 (IntKind.wrap .u64 x) 0 = x % 18446744073709551616 := by
  show IntKind.wrap .u64 (((BitVec.ofInt 64 (IntKind.wrap .u64 x) ||| BitVec.ofInt 64 0).toNat : Nat) : Int) = _
  have e : BitVec.ofInt 64 (IntKind.wrap .u64 x) ||| BitVec.ofInt 64 0 = BitVec.ofInt 64 (IntKind.wrap .u64 x) := by
    rw [show BitVec.ofInt 64 0 = 0#64 from rfl, BitVec.or_zero]
  rw [e, BitVec.toNat_ofInt, Go.Cx.w_u64, Go.Cx.w_u64]
  omega
set_option maxRecDepth 1000000 in
/-- Seconds of Unix time, below 2^33, as moments. -/
theorem unix_w (W : World) (n : Int) (hn : 0 ≤ n ∧ n < 8589934592) : Calls Tryd.prog 17 #[.int .u64 n, .int .u32 0] W fun e w' => e = .returned (wv ((n + 2208988800) * 4294967296)) ∧ Below W.heap.size W w' := by
  have HM := Lib.hid mom_flats.2.2
  have hor := or_none (n * 4294967296)
  have ha : InW (n * 4294967296) := by unfold InW; omega
  have hb : InW 9487534653230284800 := by unfold InW; omega
  have hadd := add_val ha hb
  rw [clamp_id (by unfold InW; omega), show n * 4294967296 / 18446744073709551616 = n / 4294967296 by omega, show (9487534653230284800 : Int) / 18446744073709551616 = 0 by decide, show (9487534653230284800 : Int) % 18446744073709551616 = 9487534653230284800 by decide, show n * 4294967296 + 9487534653230284800 = (n + 2208988800) * 4294967296 by omega] at hadd
  have HA := Lib.hid hadd
  have HO := Lib.hid hor
  clear hadd hor ha hb
  unfold wv
  unfold wv at HA
  go_enter Tryd.func17, Tryd.ntmps17
  go_wp2_with (first
    | (go_at_call 31; refine (HM.out _).mono ?_; rintro e w1 ⟨rfl, hb1⟩; have q := keepA hb1; have hb1 := ((Below.refl W.heap.size W).alloc (Nat.le_refl _) (.cells #[.int .i64 0, .int .u64 0] 55)).trans (hb1.mono (by rw [alloc_size]; omega)))
    | (go_at_call 19; refine (add_w _ _ _ _ _ (by rw [HO.out]; omega) (by decide)).mono ?_; rintro e w2 ⟨he, hb2⟩; rw [HO.out, HA.out] at he; subst he; have q := keepB hb2 q; have hb2 := hb1.trans (hb2.mono hb1.size); have c0 := cell_of (i := 0) q rfl; have c1 := cell_of (i := 1) q rfl; have f0 := frozen_of_row _ _ 0 _ _ q; have f1 := frozen_of_row _ _ 1 _ _ q))
  refine bodyPost_ret (results_cell_row rfl _ _ W.heap.size 55 _ _ _ rfl (heap_setCell_same _ _ 1 _ _ _ (heap_setCell_same _ _ 0 _ _ _ q)) Tryd.underlying55 rfl rfl) rfl ?_
  exact ⟨rfl, below_cell (below_cell hb2 (Nat.le_refl _)) (Nat.le_refl _)⟩
end Go.Proofs.YtmnoegfehgoalaaDoor.cx

namespace Go.Proofs.YtmnoegfehgoalaaDoor.cx
open Go.RowKit Go.Extern.Stop Go.Stop Go.Extern Go.Cx
set_option linter.unusedVariables false

theorem grown_new {W w : World} {b i : Nat} {v : Value} {r : Option Nat} (h : W.grownBy w r) (hb : W.heap.size ≤ b) : W.grownBy (w.setCell ⟨b, i, none⟩ v) r :=
  ⟨h.os, h.tape, h.output, by rw [size_cell]; exact h.size, fun k hk hn => by rw [heap_setCell_other _ _ _ _ (by show k ≠ b; omega)]; exact h.block k hk hn⟩
set_option maxRecDepth 1000000 in
theorem on_w (W : World) (g : Nat) (v n : Int) (hv : 0 ≤ v ∧ v < 73786976294838206464) (hn : 0 ≤ n ∧ n < 4294967296) (hg : W.heap[g]? = some (.cells #[.int .i64 (v / 18446744073709551616), .int .u64 (v % 18446744073709551616)] 55)) :
    Calls Tryd.prog 18 #[.int .u32 n, .pointer (some ⟨g, 0, none⟩)] W fun e w' => e = .returned (wv (v + n)) ∧ w'.heap[g]? = some (.cells #[.int .i64 ((v + n) / 18446744073709551616), .int .u64 ((v + n) % 18446744073709551616)] 55) ∧ W.grownBy w' (some g) := by
  have ha : InW v := by unfold InW; omega
  have hb : InW n := by unfold InW; omega
  have hadd := add_val ha hb
  rw [clamp_id (by unfold InW; omega), show n / 18446744073709551616 = 0 by omega, show n % 18446744073709551616 = n by omega] at hadd
  have HA := Lib.hid hadd
  have hl := lt_of_heap hg
  have hA := (Below.refl W.heap.size W).alloc (Nat.le_refl _) (.cells #[.int .i64 0, .int .u64 0] 55)
  have q0 := keepB hA hg
  have qr := heap_alloc_new W (.cells #[.int .i64 0, .int .u64 0] 55)
  have a0 := cell_of (i := 0) q0 rfl
  have a1 := cell_of (i := 1) q0 rfl
  have HQ := Lib.hid (And.intro q0 (And.intro qr hA))
  clear hadd ha hb q0 qr hA
  unfold wv
  unfold wv at HA
  go_enter Tryd.func18, Tryd.ntmps18
  go_wp2_with (go_at_call 19; refine (add_w _ _ _ _ _ (by omega) (by omega)).mono ?_; rintro e w2 ⟨he, hb2⟩; rw [HA.out] at he; subst he; have q := keepB hb2 HQ.out.1; have qr := keepB hb2 HQ.out.2.1; have hB2 := HQ.out.2.2.trans (hb2.mono HQ.out.2.2.size); have c0 := cell_of (i := 0) q rfl; have c1 := cell_of (i := 1) q rfl; have f0 := frozen_of_row _ _ 0 _ _ q; have f1 := frozen_of_row _ _ 1 _ _ q; have c2 := cell_of (i := 0) qr rfl; have c3 := cell_of (i := 1) qr rfl; have f2 := frozen_of_row _ _ 0 _ _ qr; have f3 := frozen_of_row _ _ 1 _ _ qr; have n1 : g ≠ W.heap.size := (by omega); have n2 : W.heap.size ≠ g := (by omega))
  have z1 := set_two (i := 0) (j := 1) (u := .int .i64 ((v + n) / 18446744073709551616)) (v := .int .u64 ((v + n) % 18446744073709551616)) q
  have zr := set_far (g := g) (i := 0) (j := 1) (u := .int .i64 ((v + n) / 18446744073709551616)) (v := .int .u64 ((v + n) % 18446744073709551616)) qr n2
  refine bodyPost_ret (results_cell_row rfl _ _ W.heap.size 55 _ _ _ rfl (set_two zr) Tryd.underlying55 rfl rfl) rfl ?_
  exact ⟨rfl, set_far z1 n1, grown_new (grown_new (grown_set (grown_set (grown_of hB2 _))) (Nat.le_refl _)) (Nat.le_refl _)⟩
end Go.Proofs.YtmnoegfehgoalaaDoor.cx

namespace Go.Proofs.YtmnoegfehgoalaaDoor.cx
open Go.RowKit Go.Extern.Stop Go.Stop Go.Extern Go.Cx
open Go.Dg (evCall bodied noOver Flats)
open Go.Proofs.YtmnoegfehgoalaaDoor.base (mixed okB sbs)
set_option linter.unusedVariables false

/-- An address whose first byte alone is told. -/
def adr (c : Int) : List Value := [.bool false, .int .u8 c, .int .u8 0, .int .u8 0, .int .u8 0, .int .u8 0, .int .u8 0, .int .u8 0, .int .u8 0, .int .u8 0, .int .u8 0, .int .u8 0, .int .u8 0, .int .u8 0, .int .u8 0, .int .u8 0, .int .u8 0]
theorem may_run (c : Int) : (evCall Tryd.prog 0 (bodied Tryd.prog) noOver sbs 2000 20 52 [.agg ⟨adr c⟩] ⟨0, []⟩).map (·.1) = some (.bool true) := by kernel_rfl
theorem may_w (W : World) (c : Int) : Calls Tryd.prog 52 #[.agg ⟨adr c⟩] W fun e w' => e = .returned (.bool true) ∧ Below W.heap.size W w' :=
  (Dg.closed_call mixed okB Dg.noOver_ok (may_run c) rfl rfl : Flats Tryd.prog 52 [.agg ⟨adr c⟩] (.bool true)).2.2 W
end Go.Proofs.YtmnoegfehgoalaaDoor.cx

namespace Go.Proofs.YtmnoegfehgoalaaDoor.cx
open Go.RowKit Go.Extern.Stop Go.Stop Go.Extern Go.Cx
open Go.Dg (evCall bodied noOver Flats)
open Go.Proofs.YtmnoegfehgoalaaDoor.base (mixed okB sbs)
set_option linter.unusedVariables false

theorem lz_run : (evCall Tryd.prog 0 (bodied Tryd.prog) noOver sbs 2000 20 69 [.int .u64 371085174374400] ⟨0, []⟩).map (·.1) = some (.int .i64 15) := by kernel_rfl
theorem lz_flats : Flats Tryd.prog 69 [.int .u64 371085174374400] (.int .i64 15) :=
  Dg.closed_call mixed okB Dg.noOver_ok lz_run rfl rfl
theorem or_small {a b : Int} (ha : 0 ≤ a ∧ a < 65536) (hb : 0 ≤ b ∧ b < 65536) : 0 ≤ bits .or .u64 a b ∧ bits .or .u64 a b < 65536 := by
  have e : bits .or .u64 a b = (((BitVec.ofInt 64 a ||| BitVec.ofInt 64 b).toNat : Nat) : Int) % 18446744073709551616 := by
    show IntKind.wrap .u64 (((BitVec.ofInt 64 a ||| BitVec.ofInt 64 b).toNat : Nat) : Int) = _
    rw [Go.Cx.w_u64]
  have h1 : (BitVec.ofInt 64 a ||| BitVec.ofInt 64 b).toNat < 2 ^ 16 := by
    rw [BitVec.toNat_or]
    refine Nat.or_lt_two_pow ?_ ?_
    · rw [BitVec.toNat_ofInt]; omega
    · rw [BitVec.toNat_ofInt]; omega
  rw [e]
  omega
theorem lz_and : bits .and .u64 12159718993900339200 4294967295 = 0 := by decide
set_option maxRecDepth 1000000 in
theorem div_w1 (W : World) (lo O U V Q B : Int) (hl : 0 ≤ lo ∧ lo < 18446744073709551616) (hO : bits .or .u64 32768 (lo / 562949953421312) = O) (hU : IntKind.u64.wrap (lo * 32768) / 4294967296 = U)
    (hV : IntKind.wrap .u64 (IntKind.wrap .u64 (IntKind.wrap .u64 (O * 4294967296) + U)) = V) (hQ : IntKind.wrap .u64 (V.tdiv 2831155200) = Q) (hB : bits .and .u64 (IntKind.wrap .u64 (lo * 32768)) 4294967295 = B) :
    (0 ≤ Q ∧ Q ≤ 999999) ∧ Calls Tryd.prog 68 #[.int .u64 1, .int .u64 lo, .int .u64 371085174374400] W fun e w' => e = .returned (.tuple #[.int .u64 (IntKind.u64.wrap Q), .int .u64 (IntKind.u64.wrap (IntKind.u64.wrap (IntKind.u64.wrap (V * 4294967296) + B) - IntKind.u64.wrap (Q * 12159718993900339200)) / 32768)]) ∧ Below W.heap.size W w' := by
  have ho := or_small (a := 32768) (b := lo / 562949953421312) (by decide) (by omega)
  have hu : 0 ≤ IntKind.u64.wrap (lo * 32768) / 4294967296 ∧ IntKind.u64.wrap (lo * 32768) / 4294967296 < 4294967296 := by
    rw [Go.Cx.w_u64]; omega
  have hb : 0 ≤ bits .and .u64 (IntKind.wrap .u64 (lo * 32768)) 4294967295 := by
    show 0 ≤ IntKind.wrap .u64 _
    rw [Go.Cx.w_u64]; omega
  rw [hO] at ho
  rw [hU] at hu
  rw [hB] at hb
  have f1 : IntKind.wrap .u64 (O.tdiv 2831155200) = 0 := by
    rw [Int.tdiv_eq_ediv_of_nonneg ho.1, Go.Cx.w_u64]; omega
  have f2 : IntKind.wrap .u64 (O - IntKind.wrap .u64 (0 * 2831155200)) = O := by
    rw [Go.Cx.w_u64, Go.Cx.w_u64]; omega
  have hn : ¬ IntKind.wrap .u64 (IntKind.wrap .u64 (4294967296 * O) + U) < 0 := by
    rw [Go.Cx.w_u64]; omega
  have hv : 0 ≤ V ∧ V < 281479271677952 := by
    rw [← hV, Go.Cx.w_u64, Go.Cx.w_u64, Go.Cx.w_u64]; omega
  have hq : 0 ≤ Q ∧ Q ≤ 999999 := by
    rw [← hQ, Int.tdiv_eq_ediv_of_nonneg hv.1, Go.Cx.w_u64]; omega
  have hn2 : ∀ R, ¬ IntKind.wrap .u64 (IntKind.wrap .u64 (4294967296 * R) + B) < 0 := by
    intro R; rw [Go.Cx.w_u64]; omega
  refine ⟨hq, ?_⟩
  have hq2 : ¬ 4294967296 ≤ Q := by omega
  have HF := Lib.hid (And.intro hO (And.intro hU (And.intro hV (And.intro hQ hB))))
  have HG := Lib.hid (And.intro f1 (And.intro f2 hn2))
  have HZ := Lib.hid lz_flats.2.2
  clear hO hU hV hQ hB f1 f2 hn2 ho hu hb hv hq hl
  go_enter Tryd.func68, Tryd.ntmps68
  go_wp2_with (first
    | (go_at_call 69; refine (HZ.out _).mono ?_; rintro e w1 ⟨rfl, hb1⟩))
  rw [lz_and, HF.out.1, HF.out.2.1, HF.out.2.2.2.2, HG.out.1, HG.out.2.1]
  refine wp_loop_rounds 1 ?_
  rw [rounds_succ]
  go_wp2_with fail
  rw [HF.out.2.2.1, HF.out.2.2.2.1]
  have hn2 := HG.out.2.2 (IntKind.wrap .u64 (V - IntKind.wrap .u64 (Q * 2831155200)))
  refine wp_loop_rounds 1 ?_
  rw [rounds_succ]
  go_wp2_with fail
  refine bodyPost_ret (results_tmp2 rfl _ _ _) rfl ?_
  exact ⟨rfl, hb1⟩
theorem div_w0 (W : World) (lo : Int) (hl : 0 ≤ lo ∧ lo < 18446744073709551616) : 
    Calls Tryd.prog 68 #[.int .u64 0, .int .u64 lo, .int .u64 371085174374400] W fun e w' => e = .returned (.tuple #[.int .u64 (lo / 371085174374400), .int .u64 (lo % 371085174374400)]) ∧ Below W.heap.size W w' := by
  have f1 : IntKind.wrap .u64 (lo.tdiv 371085174374400) = lo / 371085174374400 := by
    rw [Int.tdiv_eq_ediv_of_nonneg hl.1, Go.Cx.w_u64]; omega
  have f2 : IntKind.wrap .u64 (lo.tmod 371085174374400) = lo % 371085174374400 := by
    rw [Int.tmod_eq_emod_of_nonneg hl.1, Go.Cx.w_u64]; omega
  have HG := Lib.hid (And.intro f1 f2)
  clear f1 f2
  go_enter Tryd.func68, Tryd.ntmps68
  go_wp2_with fail
  go_quiet (fail)
  go_wp2_with fail
  refine bodyPost_ret (results_tmp2 rfl _ _ _) rfl ?_
  exact ⟨rfl, Below.trans (Below.refl _ _) ⟨rfl, rfl, rfl, Nat.le_refl _, fun _ _ => rfl⟩⟩
end Go.Proofs.YtmnoegfehgoalaaDoor.cx

namespace Go.Proofs.YtmnoegfehgoalaaDoor.cx
open Go.RowKit Go.Extern.Stop Go.Stop Go.Extern Go.Cx
open Go.Dg (evCall evCallS bodied noOver Flats flatOver Hint)
open Go.Proofs.YtmnoegfehgoalaaDoor.base (mixed okB sbs)
set_option linter.unusedVariables false

open Classical in
/-- Calls that are told, in a table. -/
noncomputable def tO (L : List FuncId) (T : List (FuncId × List Value × Value)) (f : FuncId) (args : List Value) : Option Value :=
  if L.contains f then (T.find? fun t => decide (t.1 = f ∧ t.2.1 = args)).map fun t => t.2.2 else none
theorem tO_flats {L : List FuncId} {T : List (FuncId × List Value × Value)} (h : ∀ t ∈ T, Flats Tryd.prog t.1 t.2.1 t.2.2) : ∀ f args v, tO L T f args = some v → Flats Tryd.prog f args v := by
  intro f args v hv
  unfold tO at hv
  split at hv
  · rw [Option.map_eq_some_iff] at hv
    obtain ⟨t, ht, rfl⟩ := hv
    have h1 := List.find?_some ht
    have h2 := List.mem_of_find?_eq_some ht
    have h3 : t.1 = f ∧ t.2.1 = args := by simpa using h1
    rw [← h3.1, ← h3.2]
    exact h t h2
  · cases hv
theorem inside_w (W : World) (n : Int) (hn : 0 ≤ n ∧ n ≤ 999999) : Calls Tryd.prog 63 #[.int .i64 n] W fun e w' => e = .returned (.bool true) ∧ Below W.heap.size W w' := by
  have d1 : 0 ≤ n := hn.1
  have d2 : n ≤ 999999 := hn.2
  clear hn
  go_enter Tryd.func63, Tryd.ntmps63
  go_wp2_with fail
  go_ret
  exact ⟨rfl, Below.refl _ _⟩
def LD : List FuncId := [62, 19, 68, 29, 63]
abbrev dayV (q r : Int) : Value := .tuple #[.int .i64 q, .int .u64 r, .int .i64 0]
theorem day_run0 (T : List (FuncId × List Value × Value)) (h l lo q r : Int) (h0 : tO LD T 62 [] = some (wd 0 5573699319103488000)) (h1 : tO LD T 19 [wd h l, wd 0 5573699319103488000] = some (wd 0 lo))
    (h2 : tO LD T 68 [.int .u64 0, .int .u64 lo, .int .u64 371085174374400] = some (.tuple #[.int .u64 q, .int .u64 r])) (h3 : tO LD T 29 [wd 0 q] = some (.int .i64 q)) (h4 : tO LD T 63 [.int .i64 q] = some (.bool true)) :
    evCall Tryd.prog 0 (bodied Tryd.prog) (flatOver (tO LD T)) sbs 2000 20 51 [wd h l] ⟨0, []⟩ = some (dayV q r, ⟨0, []⟩, []) :=
  Dg.evCall_hint (hs' := []) (hs := [Hint.call 62 (wd 0 5573699319103488000) ⟨0, []⟩ [], Hint.call 19 (wd 0 lo) ⟨0, []⟩ [], Hint.call 68 (.tuple #[.int .u64 q, .int .u64 r]) ⟨0, []⟩ [], Hint.call 29 (.int .i64 q) ⟨0, []⟩ [], Hint.call 63 (.bool true) ⟨0, []⟩ []]) 
    [evCall Tryd.prog 0 (bodied Tryd.prog) (flatOver (tO LD T)) sbs 2000 19 62 [] ⟨0, []⟩ = some (wd 0 5573699319103488000, ⟨0, []⟩, []),
     evCall Tryd.prog 0 (bodied Tryd.prog) (flatOver (tO LD T)) sbs 2000 19 19 [wd h l, wd 0 5573699319103488000] ⟨0, []⟩ = some (wd 0 lo, ⟨0, []⟩, []),
     evCall Tryd.prog 0 (bodied Tryd.prog) (flatOver (tO LD T)) sbs 2000 18 68 [.int .u64 0, .int .u64 lo, .int .u64 371085174374400] ⟨0, []⟩ = some (.tuple #[.int .u64 q, .int .u64 r], ⟨0, []⟩, []),
     evCall Tryd.prog 0 (bodied Tryd.prog) (flatOver (tO LD T)) sbs 2000 19 29 [wd 0 q] ⟨0, []⟩ = some (.int .i64 q, ⟨0, []⟩, []),
     evCall Tryd.prog 0 (bodied Tryd.prog) (flatOver (tO LD T)) sbs 2000 19 63 [.int .i64 q] ⟨0, []⟩ = some (.bool true, ⟨0, []⟩, [])] (by kernel_rfl)
    ⟨Dg.evCall_told h0, Dg.evCall_told h1, Dg.evCall_told h2, Dg.evCall_told h3, Dg.evCall_told h4, trivial⟩
theorem day_run1 (T : List (FuncId × List Value × Value)) (h l lo q r : Int) (h0 : tO LD T 62 [] = some (wd 0 5573699319103488000)) (h1 : tO LD T 19 [wd h l, wd 0 5573699319103488000] = some (wd 1 lo))
    (h2 : tO LD T 68 [.int .u64 1, .int .u64 lo, .int .u64 371085174374400] = some (.tuple #[.int .u64 q, .int .u64 r])) (h3 : tO LD T 29 [wd 0 q] = some (.int .i64 q)) (h4 : tO LD T 63 [.int .i64 q] = some (.bool true)) :
    evCall Tryd.prog 0 (bodied Tryd.prog) (flatOver (tO LD T)) sbs 2000 20 51 [wd h l] ⟨0, []⟩ = some (dayV q r, ⟨0, []⟩, []) :=
  Dg.evCall_hint (hs' := []) (hs := [Hint.call 62 (wd 0 5573699319103488000) ⟨0, []⟩ [], Hint.call 19 (wd 1 lo) ⟨0, []⟩ [], Hint.call 68 (.tuple #[.int .u64 q, .int .u64 r]) ⟨0, []⟩ [], Hint.call 29 (.int .i64 q) ⟨0, []⟩ [], Hint.call 63 (.bool true) ⟨0, []⟩ []]) 
    [evCall Tryd.prog 0 (bodied Tryd.prog) (flatOver (tO LD T)) sbs 2000 19 62 [] ⟨0, []⟩ = some (wd 0 5573699319103488000, ⟨0, []⟩, []),
     evCall Tryd.prog 0 (bodied Tryd.prog) (flatOver (tO LD T)) sbs 2000 19 19 [wd h l, wd 0 5573699319103488000] ⟨0, []⟩ = some (wd 1 lo, ⟨0, []⟩, []),
     evCall Tryd.prog 0 (bodied Tryd.prog) (flatOver (tO LD T)) sbs 2000 18 68 [.int .u64 1, .int .u64 lo, .int .u64 371085174374400] ⟨0, []⟩ = some (.tuple #[.int .u64 q, .int .u64 r], ⟨0, []⟩, []),
     evCall Tryd.prog 0 (bodied Tryd.prog) (flatOver (tO LD T)) sbs 2000 19 29 [wd 0 q] ⟨0, []⟩ = some (.int .i64 q, ⟨0, []⟩, []),
     evCall Tryd.prog 0 (bodied Tryd.prog) (flatOver (tO LD T)) sbs 2000 19 63 [.int .i64 q] ⟨0, []⟩ = some (.bool true, ⟨0, []⟩, [])] (by kernel_rfl)
    ⟨Dg.evCall_told h0, Dg.evCall_told h1, Dg.evCall_told h2, Dg.evCall_told h3, Dg.evCall_told h4, trivial⟩
theorem add_flats {a b : Int} (ha : InW a) (hb : InW b) : Flats Tryd.prog 19 [wv a, wv b] (wv (clampW (a + b))) := by
  refine ⟨rfl, rfl, fun w => ?_⟩
  rw [← add_val ha hb]
  exact add_w w _ _ _ _ (by omega) (by omega)
theorem clip_flats (q : Int) (hq : 0 ≤ q ∧ q ≤ 999999) : Flats Tryd.prog 29 [wd 0 q] (.int .i64 q) := by
  refine ⟨rfl, rfl, fun w => ?_⟩
  have h := clip_w w 0 q
  have e : clipV 0 q = q := by
    have := clip_val (v := q) (by unfold InW; omega)
    rw [show q / 18446744073709551616 = 0 by omega, show q % 18446744073709551616 = q by omega] at this
    rw [this]
    unfold clip64
    rw [if_neg (by omega), if_neg (by omega)]
  rw [e] at h
  exact h
theorem day_flats {v : Int} (hv : 0 ≤ v ∧ v < 31319788828309615232) : ∃ q r, Flats Tryd.prog 51 [wv v] (dayV q r) := by
  have h0 : Flats Tryd.prog 62 [] (wd 0 5573699319103488000) := Dg.closed_call mixed okB Dg.noOver_ok shift_run rfl rfl
  have ha := add_flats (a := v) (b := 5573699319103488000) (by unfold InW; omega) (by unfold InW; omega)
  rw [clamp_id (by unfold InW; omega)] at ha
  have key : ∀ (k lo q r : Int), (k = 0 ∨ k = 1) → wv (v + 5573699319103488000) = wd k lo → (0 ≤ q ∧ q ≤ 999999) → Flats Tryd.prog 68 [.int .u64 k, .int .u64 lo, .int .u64 371085174374400] (.tuple #[.int .u64 q, .int .u64 r]) → Flats Tryd.prog 51 [wv v] (dayV q r) := by
    intro k lo q r hk he hq hd
    rw [he] at ha
    have hT : ∀ t ∈ ([(62, [], wd 0 5573699319103488000), (19, [wv v, wv 5573699319103488000], wd k lo), (68, [.int .u64 k, .int .u64 lo, .int .u64 371085174374400], .tuple #[.int .u64 q, .int .u64 r]), (29, [wd 0 q], .int .i64 q), (63, [.int .i64 q], .bool true)] : List (FuncId × List Value × Value)), Flats Tryd.prog t.1 t.2.1 t.2.2 := by
      intro t ht
      simp only [List.mem_cons, List.not_mem_nil, or_false] at ht
      rcases ht with rfl | rfl | rfl | rfl | rfl
      · exact h0
      · exact ha
      · exact hd
      · exact clip_flats q hq
      · exact ⟨rfl, rfl, fun w => inside_w w q hq⟩
    have ho := Dg.flatOver_ok (G := 0) (tO_flats (L := LD) hT)
    rcases hk with rfl | rfl
    · exact Dg.closed_call mixed okB ho (by rw [show wv v = wd (v / 18446744073709551616) (v % 18446744073709551616) from rfl, day_run0 _ _ _ lo q r (by simp [tO, LD]) (by simp [tO, LD]; rfl) (by simp [tO, LD]) (by simp [tO, LD]) (by simp [tO, LD])]; rfl) rfl rfl
    · exact Dg.closed_call mixed okB ho (by rw [show wv v = wd (v / 18446744073709551616) (v % 18446744073709551616) from rfl, day_run1 _ _ _ lo q r (by simp [tO, LD]) (by simp [tO, LD]; rfl) (by simp [tO, LD]) (by simp [tO, LD]) (by simp [tO, LD])]; rfl) rfl rfl
  rcases Int.lt_or_le (v + 5573699319103488000) 18446744073709551616 with h | h
  · refine ⟨_, _, key 0 (v + 5573699319103488000) _ _ (.inl rfl) ?_ ?_ ⟨rfl, rfl, fun w => div_w0 w _ (by omega)⟩⟩
    · unfold wv
      rw [show (v + 5573699319103488000) / 18446744073709551616 = 0 by omega, show (v + 5573699319103488000) % 18446744073709551616 = v + 5573699319103488000 by omega]
    · omega
  · have hd := fun w => div_w1 w (v + 5573699319103488000 - 18446744073709551616) _ _ _ _ _ (by omega) rfl rfl rfl rfl rfl
    refine ⟨_, _, key 1 (v + 5573699319103488000 - 18446744073709551616) _ _ (.inr rfl) ?_ ?_ ⟨rfl, rfl, fun w => (hd w).2⟩⟩
    · unfold wv
      rw [show (v + 5573699319103488000) / 18446744073709551616 = 1 by omega, show (v + 5573699319103488000) % 18446744073709551616 = v + 5573699319103488000 - 18446744073709551616 by omega]
    · obtain ⟨W⟩ : Nonempty World := ⟨default⟩
      have := (hd W).1
      rw [Go.Cx.w_u64]
      omega
/-- A sample of an exchange, its line. -/
abbrev smp (c h1 l1 h2 l2 h3 l3 h4 l4 o d : Int) : List Value := adr c ++ .int .u16 0 :: adr 9 ++ [.int .u16 0, .int .i64 h1, .int .u64 l1, .int .i64 h2, .int .u64 l2, .int .i64 h3, .int .u64 l3, .int .i64 h4, .int .u64 l4, .int .i64 o, .int .i64 d, .int .i64 0, .int .u8 0]
abbrev lin (c l1 l2 l3 h4 l4 : Int) : List Value := [.int .i64 h4, .int .u64 l4] ++ adr 9 ++ adr c ++ [.int .u64 l1, .int .u64 l2, .int .u64 l3, .int .u64 l4, .bool true, .int .u8 0, .int .u8 4, .int .u8 4, .int .u8 2, .int .i8 0, .int .i8 0, .int .i64 0, .int .i64 0, .int .u8 0, .int .u8 0, .int .u8 0, .int .u8 0]
abbrev hed : List Value := [.int .u8 0, .int .u8 4, .int .u8 4, .int .u8 2, .int .i8 0, .int .i8 0, .int .u32 0, .int .u32 0, .int .u8 0, .int .u8 0, .int .u8 0, .int .u8 0, .int .u64 0, .int .u64 0, .int .u64 0, .int .u64 0]
theorem of_run (T : List (FuncId × List Value × Value)) (c h1 l1 h2 l2 h3 l3 h4 l4 o d q r : Int) (hd : tO [51] T 51 [wd h4 l4] = some (dayV q r)) :
    evCall Tryd.prog 0 (bodied Tryd.prog) (flatOver (tO [51] T)) sbs 2000 20 23 [.agg ⟨smp c h1 l1 h2 l2 h3 l3 h4 l4 o d⟩, .agg ⟨hed⟩] ⟨0, []⟩ = some (.tuple #[.agg ⟨lin c l1 l2 l3 h4 l4⟩, .int .i64 0], ⟨0, []⟩, []) :=
  Dg.evCall_hint (hs' := []) (hs := [Hint.call 51 (dayV q r) ⟨0, []⟩ []])
    [evCall Tryd.prog 0 (bodied Tryd.prog) (flatOver (tO [51] T)) sbs 2000 18 51 [wd h4 l4] ⟨0, []⟩ = some (dayV q r, ⟨0, []⟩, [])] (by kernel_rfl)
    ⟨Dg.evCall_told hd, trivial⟩
theorem of_flats (c h1 l1 h2 l2 h3 l3 v o d : Int) (hv : 0 ≤ v ∧ v < 31319788828309615232) : Flats Tryd.prog 23 [.agg ⟨smp c h1 l1 h2 l2 h3 l3 (v / 18446744073709551616) (v % 18446744073709551616) o d⟩, .agg ⟨hed⟩] (.tuple #[.agg ⟨lin c l1 l2 l3 (v / 18446744073709551616) (v % 18446744073709551616)⟩, .int .i64 0]) := by
  obtain ⟨q, r, hd⟩ := day_flats hv
  have hT : ∀ t ∈ ([(51, [wv v], dayV q r)] : List (FuncId × List Value × Value)), Flats Tryd.prog t.1 t.2.1 t.2.2 := by
    intro t ht
    rw [List.mem_singleton] at ht
    rw [ht]
    exact hd
  exact Dg.closed_call mixed okB (Dg.flatOver_ok (G := 0) (tO_flats (L := [51]) hT)) (by rw [of_run _ _ _ _ _ _ _ _ _ _ _ _ q r (by simp [tO, wv])]; rfl) rfl rfl
end Go.Proofs.YtmnoegfehgoalaaDoor.cx

namespace Go.Proofs.YtmnoegfehgoalaaDoor.cx
open Go.RowKit Go.Extern.Stop Go.Stop Go.Extern Go.Cx
set_option linter.unusedVariables false

def tripK : List PK := [.int .u32, .int .u32, .int .u32, .int .u32, .int .u8]
theorem trip_kinds : kinds Tryd.prog 6 75 = some tripK := by kernel_rfl
/-- The moments of an exchange that begins behind a moment. -/
def tA (a : Int) (r : List Value) : Int := a + num r 0 + 100
def tB (a : Int) (r : List Value) : Int := tA a r + num r 1
def tC (a : Int) (r : List Value) : Int := tB a r + num r 2
def tD (a : Int) (r : List Value) : Int := tC a r + num r 3
/-- Where the exchange begins. -/
def atK (b : Int) (ls : List (List Value)) : Nat → Int
  | 0 => (b + 2208988800) * 4294967296
  | k + 1 => tD (atK b ls k) (ls.getD k [])
def samR (a : Int) (r : List Value) : List Value :=
  smp (num r 4) (tA a r / 18446744073709551616) (tA a r % 18446744073709551616) (tB a r / 18446744073709551616) (tB a r % 18446744073709551616) (tC a r / 18446744073709551616) (tC a r % 18446744073709551616) (tD a r / 18446744073709551616) (tD a r % 18446744073709551616)
    (offN (tA a r) (tB a r) (tC a r) (tD a r)) (delN (tA a r) (tB a r) (tC a r) (tD a r))
def linR (a : Int) (r : List Value) : List Value :=
  lin (num r 4) (tA a r % 18446744073709551616) (tB a r % 18446744073709551616) (tC a r % 18446744073709551616) (tD a r / 18446744073709551616) (tD a r % 18446744073709551616)
def samC (b : Int) (ls : List (List Value)) (k : Nat) : List Value := (List.range k).flatMap fun i => samR (atK b ls i) (ls.getD i [])
def linC (b : Int) (ls : List (List Value)) (k : Nat) : List Value := (List.range k).flatMap fun i => linR (atK b ls i) (ls.getD i [])
theorem sam_len (a : Int) (r : List Value) : (samR a r).length = 48 := rfl
theorem lin_len (a : Int) (r : List Value) : (linR a r).length = 53 := rfl
theorem samC_succ (b : Int) (ls : List (List Value)) (k : Nat) : samC b ls (k + 1) = samC b ls k ++ samR (atK b ls k) (ls.getD k []) := by
  unfold samC
  rw [List.range_succ, List.flatMap_append]
  simp
theorem linC_succ (b : Int) (ls : List (List Value)) (k : Nat) : linC b ls (k + 1) = linC b ls k ++ linR (atK b ls k) (ls.getD k []) := by
  unfold linC
  rw [List.range_succ, List.flatMap_append]
  simp
theorem trip_num {r : List Value} (h : RowOk tripK r) : (0 ≤ num r 0 ∧ num r 0 < 4294967296) ∧ (0 ≤ num r 1 ∧ num r 1 < 4294967296) ∧ (0 ≤ num r 2 ∧ num r 2 < 4294967296) ∧ (0 ≤ num r 3 ∧ num r 3 < 4294967296) ∧ (0 ≤ num r 4 ∧ num r 4 < 256) := by
  have g : ∀ (k : IntKind) (n lo hi : Int), k.min = lo → k.max = hi → (Lit.int k n).wf = true → lo ≤ n ∧ n ≤ hi := by
    intro k n lo hi h1 h2 hw
    unfold Lit.wf at hw
    rw [Bool.and_eq_true, decide_eq_true_eq, decide_eq_true_eq, h1, h2] at hw
    exact hw
  have h0 := g .u32 _ 0 4294967295 (by decide) (by decide) (get_num (i := 0) (k := .u32) h rfl).2
  have h1 := g .u32 _ 0 4294967295 (by decide) (by decide) (get_num (i := 1) (k := .u32) h rfl).2
  have h2 := g .u32 _ 0 4294967295 (by decide) (by decide) (get_num (i := 2) (k := .u32) h rfl).2
  have h3 := g .u32 _ 0 4294967295 (by decide) (by decide) (get_num (i := 3) (k := .u32) h rfl).2
  have h4 := g .u8 _ 0 255 (by decide) (by decide) (get_num (i := 4) (k := .u8) h rfl).2
  omega
theorem at_in {b : Int} (hb : 0 ≤ b ∧ b < 4294967296) {ls : List (List Value)} (hl : ∀ r ∈ ls, RowOk tripK r) : ∀ k, k ≤ ls.length → 9487534653230284800 ≤ atK b ls k ∧ atK b ls k ≤ 27934278722692972544 + k * 17179869284 := by
  intro k
  induction k with
  | zero => intro _; unfold atK; omega
  | succ k ih =>
    intro hk
    have h := ih (by omega)
    have hr := trip_num (hl (ls.getD k []) (by rw [List.getD_eq_getElem?_getD, List.getElem?_eq_getElem (by omega : k < ls.length)]; exact List.getElem_mem _))
    unfold atK tD tC tB tA
    omega
end Go.Proofs.YtmnoegfehgoalaaDoor.cx
