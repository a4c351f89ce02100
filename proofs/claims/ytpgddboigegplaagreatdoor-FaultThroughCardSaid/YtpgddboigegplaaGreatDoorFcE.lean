/- errors.Join of two errors. errors.Join of two errors: the walk. The row 'FaultThrough': small facts. -/
import Derived.Test.YtpgddboigegplaaGreatDoorRows
import Derived.Test.YtpgddboigegplaaGreatDoorFcD
import Derived.OwnWalk
import Derived.RangeFuncBox
import Derived.Deep.AppendLies
import Derived.Test.YtpgddboigegplaaGreatDoorFcA
import Derived.Test.YtpgddboigegplaaGreatDoorFcC
namespace Go.Proofs.YtpgddboigegplaaGreatDoor.base
open Go.RowKit Go.Extern.Stop Go.Stop Go.Extern
set_option linter.unusedVariables false

theorem make2 (w : World) : (Instr.makeSlice 93 (.int .i64 0) (.int .i64 2)).run Tryz.prog w = .ok (.slice (some ⟨w.heap.size, 0, none⟩) 0 2) (w.alloc (.cells #[.nilIface, .nilIface] 27)) := by kernel_rfl
theorem info27 : (Tryz.prog.info? 27).map (fun i => (i.zero, i.size, i.bytes)) = some (some .nilIface, 1, 16) := by kernel_rfl
theorem cell_new (W : World) (v : Value) (t : TypeId) : (W.alloc (.cells #[v] t)).cell? ⟨W.heap.size, 0, none⟩ = some v ∧ (W.alloc (.cells #[v] t)).frozen? ⟨W.heap.size, 0, none⟩ = false := by
  have hn := heap_alloc_new W (.cells #[v] t)
  constructor
  · unfold World.cell?; simp only [hn]; rfl
  · unfold World.frozen?; simp only [hn]; rfl
/-- How far the second loop has come. -/
def JInv (W : World) (E : List Value) (j : Nat) (wl : World) : Prop :=
  Below W.heap.size W wl ∧ wl.cell? ⟨W.heap.size + 1, 0, none⟩ = some (.slice (some ⟨W.heap.size, 0, none⟩) j 2) ∧ wl.frozen? ⟨W.heap.size + 1, 0, none⟩ = false ∧
    wl.ownsRow W.heap.size 27 1 (.slice (some ⟨W.heap.size, 0, none⟩) j 2) j (E.take j) ∧ W.heap.size + 1 < wl.heap.size
theorem jinv_start (W : World) (E : List Value) : JInv W E 0 ((W.alloc (.cells #[.nilIface, .nilIface] 27)).alloc (.cells #[.slice (some ⟨W.heap.size, 0, none⟩) 0 2] 96)) := by
  have h1 := (Below.refl W.heap.size W).alloc (Nat.le_refl _) (.cells #[.nilIface, .nilIface] 27)
  have h2 := cell_new (W.alloc (.cells #[.nilIface, .nilIface] 27)) (.slice (some ⟨W.heap.size, 0, none⟩) 0 2) 96
  have hsz : (W.alloc (.cells #[.nilIface, .nilIface] 27)).heap.size = W.heap.size + 1 := by simp
  rw [hsz] at h2
  exact ⟨h1.alloc (by simp) _, h2.1, h2.2, (World.ownsRow_made W #[.nilIface, .nilIface] 2 (Nat.le_refl _) (by decide) (by rfl)).alloc _, by simp⟩
theorem jinv_mid {W wl : World} {E : List Value} {j : Nat} (h : JInv W E j wl) (x : Value) {w2 : World} (hg : (wl.alloc (.cells #[x] 27)).grownBy w2 (some W.heap.size)) :
    w2.cell? ⟨W.heap.size + 1, 0, none⟩ = some (.slice (some ⟨W.heap.size, 0, none⟩) j 2) ∧ w2.frozen? ⟨W.heap.size + 1, 0, none⟩ = false := by
  obtain ⟨h1, h2, h3, h4, h5⟩ := h
  have h6 := (Below.refl wl.heap.size wl).alloc (Nat.le_refl _) (.cells #[x] 27)
  have hs : (wl.alloc (.cells #[x] 27)).heap.size = wl.heap.size + 1 := by simp
  refine ⟨hg.cell (cell_up h6 h2) (by simp), ?_⟩
  rw [hg.frozen_far _ (by rw [hs]; show W.heap.size + 1 < wl.heap.size + 1; omega) (by simp), h6.frozen (p := ⟨W.heap.size + 1, 0, none⟩) h5, h3]
theorem jinv_step {W wl : World} {E : List Value} {j : Nat} (h : JInv W E j wl) (x : Value) (hx : E[j]? = some x) {w2 : World} (hg : (wl.alloc (.cells #[x] 27)).grownBy w2 (some W.heap.size))
    (ho : w2.ownsRow W.heap.size 27 1 (.slice (some ⟨W.heap.size, 0, none⟩) (j + 1) 2) (j + 1) (E.take j ++ [x])) :
    JInv W E (j + 1) (w2.setCell ⟨W.heap.size + 1, 0, none⟩ (.slice (some ⟨W.heap.size, 0, none⟩) (j + 1) 2)) := by
  obtain ⟨m1, m2⟩ := jinv_mid h x hg
  obtain ⟨h1, h2, h3, h4, h5⟩ := h
  have hs : (wl.alloc (.cells #[x] 27)).heap.size = wl.heap.size + 1 := by simp
  have hb : Below W.heap.size W w2 := (h1.alloc (by omega) (.cells #[x] 27)).grown hg (by rw [hs]; omega) (fun k hk => by cases hk; exact Nat.le_refl _)
  have ht : E.take (j + 1) = E.take j ++ [x] := by
    have hl : j < E.length := by
      rcases Nat.lt_or_ge j E.length with h | h
      · exact h
      · rw [List.getElem?_eq_none h] at hx; cases hx
    rw [List.getElem?_eq_getElem hl] at hx
    cases hx
    rw [List.take_succ_eq_append_getElem hl]
  refine ⟨hb.setCell (Nat.le_succ _) _, World.cell?_setCell_same _ _ _ m1, ?_, ?_, ?_⟩
  · rw [← m2]; simp
  · rw [ht]; exact ho.kept (grownBy_setCell' _ _ _) (.inr (by simp [Value.ownBlock]))
  · have := hg.size; simp; omega
theorem join_cells {W wl : World} {E0 E1 : Value} (h : JInv W [E0, E1] 2 wl) : Below W.heap.size W wl ∧ wl.cell? ⟨W.heap.size + 1, 0, none⟩ = some (.slice (some ⟨W.heap.size, 0, none⟩) 2 2) ∧ wl.cell? ⟨W.heap.size, 0, none⟩ = some E0 ∧ wl.cell? ⟨W.heap.size, 1, none⟩ = some E1 := by
  obtain ⟨h1, h2, h3, h4, h5⟩ := h
  exact ⟨h1, h2, h4.cellAt 0 (by decide), h4.cellAt 1 (by decide)⟩
end Go.Proofs.YtpgddboigegplaaGreatDoor.base

namespace Go.Proofs.YtpgddboigegplaaGreatDoor.base
open Go.RowKit Go.Extern.Stop Go.Stop Go.Extern
set_option linter.unusedVariables false

def JoinPost (W : World) (q : Addr) (t : TypeId) (v : Value) (e : Ending) (w' : World) : Prop :=
  ∃ J S, e = .returned (.iface 94 (.pointer (some ⟨J, 0, none⟩))) ∧ w'.cell? ⟨J, 0, none⟩ = some (.slice (some ⟨S, 0, none⟩) 2 2) ∧ w'.cell? ⟨S, 0, none⟩ = some (.iface 62 (.pointer (some q))) ∧ w'.cell? ⟨S, 1, none⟩ = some (.iface t v) ∧ Below W.heap.size W w'
def JSt (W : World) (E : List Value) (g : Nat) (i : Value) (wl : World) : Prop := ∃ j : Nat, i = .int .i64 j ∧ j + g = 2 ∧ JInv W E j wl
set_option maxHeartbeats 2000000 in
set_option maxRecDepth 1000000 in
theorem join_any (W : World) (sb : Nat) (q : Addr) (t : TypeId) (v : Value) (h1 : W.cell? ⟨sb, 0, none⟩ = some (.iface 62 (.pointer (some q)))) (h2 : W.cell? ⟨sb, 1, none⟩ = some (.iface t v)) :
    Calls Tryz.prog 26 #[.slice (some ⟨sb, 0, none⟩) 2 2] W (JoinPost W q t v) := by
  have hmk := make2
  obtain ⟨i0, hi, hz0, hz1, hz2⟩ := info_parts info27
  have H1 := Lib.hid h1
  have H2 := Lib.hid h2
  go_enter Tryz.func26, Tryz.ntmps26
  go_wp2_with fail
  refine wp_loop_rounds 3 ?_
  rw [rounds_succ]
  go_wp2_with fail
  rw [rounds_succ]
  go_wp2_with fail
  rw [rounds_succ]
  go_wp2_with fail
  clear h1 h2 hmk
  go_loopg [28] 2 (fun g i wl => JSt W [.iface 62 (.pointer (some q)), .iface t v] g i wl)
  case atStart => exact ⟨0, rfl, rfl, jinv_start W _⟩
  case round =>
    obtain ⟨j, rfl, hj, hinv⟩ := hrel
    have c1 := cell_up hinv.1 H1.out
    have c2 := cell_up hinv.1 H2.out
    have cJ := hinv.2.1
    have hlt : j = 0 ∨ j = 1 ∨ j = 2 := by omega
    have HI := Lib.hid hinv
    clear hinv
    rcases hlt with rfl | rfl | rfl
    · clear c2
      go_wp2_with (at_builtin; refine wpList_append_fits _ rfl _ _ 93 rfl W.heap.size 27 i0 1 Tryz.underlying93 hi hz1 W.heap.size 0 2 [] rfl (HI.out.2.2.2.1.alloc _) ⟨wr.heap.size, 0, none⟩ 1 1 [.iface 62 (.pointer (some q))] rfl rfl ?c1 ?c2 (by decide) ?_)
      case c1 => exact fun j u h => World.news_of_block (heap_alloc_new wr _) j u h
      case c2 =>
        intro u hu
        rw [List.mem_singleton] at hu
        subst hu; rfl
      intro w5 hown hgrow
      obtain ⟨m1, m2⟩ := jinv_mid HI.out _ hgrow
      have HO := Lib.hid hown
      have HG := Lib.hid hgrow
      clear hown hgrow cJ
      go_wp2_with fail
      go_roundg 1
      case measure => omega
      case rel => exact ⟨1, rfl, rfl, jinv_step HI.out _ rfl HG.out HO.out⟩
    · clear c1
      go_wp2_with (at_builtin; refine wpList_append_fits _ rfl _ _ 93 rfl W.heap.size 27 i0 1 Tryz.underlying93 hi hz1 W.heap.size 1 2 [.iface 62 (.pointer (some q))] rfl (HI.out.2.2.2.1.alloc _) ⟨wr.heap.size, 0, none⟩ 1 1 [.iface t v] rfl rfl ?c1 ?c2 (by decide) ?_)
      case c1 => exact fun j u h => World.news_of_block (heap_alloc_new wr _) j u h
      case c2 =>
        intro u hu
        rw [List.mem_singleton] at hu
        subst hu; rfl
      intro w5 hown hgrow
      obtain ⟨m1, m2⟩ := jinv_mid HI.out _ hgrow
      have HO := Lib.hid hown
      have HG := Lib.hid hgrow
      clear hown hgrow cJ
      go_wp2_with fail
      go_roundg 0
      case measure => omega
      case rel => exact ⟨2, rfl, rfl, jinv_step HI.out _ rfl HG.out HO.out⟩
    · go_wp2_with fail
      go_ret
      obtain ⟨j1, j2, j3, j4⟩ := join_cells HI.out
      exact ⟨_, _, rfl, j2, j3, j4, j1⟩
end Go.Proofs.YtpgddboigegplaaGreatDoor.base

namespace Go.Proofs.YtpgddboigegplaaGreatDoor.base
open Go.RowKit Go.Extern.Stop Go.Stop Go.Extern
set_option linter.unusedVariables false

set_option maxRecDepth 1000000 in
theorem new_any (k o : Int) (hk : (k == 0) = false) (W : World) : Calls Tryz.prog 24 #[.int .i64 k, .int .i64 o] W fun e w' => e = .returned (.iface 70 (.pointer (some ⟨W.heap.size, 0, none⟩))) ∧ w' = W.alloc (.cells #[.int .i64 k, .int .i64 o] 73) := by
  go_enter Tryz.func24, Tryz.ntmps24
  go_wp2_with fail
  go_ret
  exact ⟨rfl, rfl⟩
set_option maxRecDepth 1000000 in
theorem newErr_any (s : ByteArray) (W : World) : Calls Tryz.prog 9 #[.string s] W fun e w' => e = .returned (.iface 62 (.pointer (some ⟨W.heap.size, 0, none⟩))) ∧ w' = W.alloc (.cells #[.string s] 64) := by
  go_enter Tryz.func9, Tryz.ntmps9
  go_wp2_with fail
  go_ret
  exact ⟨rfl, rfl⟩
theorem comp67 : (Tryz.prog.info? 67).map (·.comparable) = some true := by kernel_rfl
theorem size69 : (Tryz.prog.info? 69).map (·.size) = some 2 := by kernel_rfl
theorem run_neq_same {tp te : TypeId} {i j : TypeInfo} (w : World) (a : Addr) (hp : Tryz.prog.underlying tp = some (.pointer te)) (hinfo : Tryz.prog.info? tp = some i) (hcomp : i.comparable = true) (hte : Tryz.prog.info? te = some j) :
    (Go.binOp .neq 27 (.iface tp (.pointer (some a))) (.iface tp (.pointer (some a)))).run Tryz.prog w = .ok (.bool false) w := by
  simp only [Go.binOp]
  simp [Op.equal, Op.maxDepth, run_equalIn_iface_ptr_same w 9998 a errIf hp hinfo hcomp hte]
/-- The package's own errors are pointers. -/
theorem neq_own {W : World} {fb fo : Nat} {t : TypeId} {v : Value} {l : List Lk} (hl : Lead W fb fo t v l) (ha : allN l = true) (w : World) : (Go.binOp .neq 27 (.iface t v) (.iface t v)).run Tryz.prog w = .ok (.bool false) w := by
  obtain ⟨i, hi, hcmp⟩ := Option.map_eq_some_iff.1 comp70
  obtain ⟨j, hj, hjs⟩ := Option.map_eq_some_iff.1 size73
  obtain ⟨i2, hi2, hcmp2⟩ := Option.map_eq_some_iff.1 comp67
  obtain ⟨j2, hj2, hjs2⟩ := Option.map_eq_some_iff.1 size69
  cases hl with
  | fault => exact run_neq_same w _ Tryz.underlying70 hi hcmp hj
  | note => exact run_neq_same w _ Tryz.underlying67 hi2 hcmp2 hj2
  | around => cases ha
  | join => cases ha
def wordB : ByteArray := ⟨#[119, 111, 114, 100]⟩
theorem wordB_is : wordOf wordB = wordB := by
  have h : mayL wordB.data.toList = true := by kernel_rfl
  unfold wordOf
  rw [h]; rfl
/-- What the round's steps keep: what the error leads to; how many notes were counted; whether it is still the package's own. -/
def RSt (fb : Nat) (j : Nat) (e n own : Value) (wl : World) : Prop :=
  ∃ t v l m, e = .iface t v ∧ Lead wl fb 0 t v l ∧ l.length ≤ j ∧ n = .int .i64 (m : Nat) ∧ m ≤ 8 ∧ own = .bool (allN l) ∧ (allN l = true → m = cntN l) ∧ Short l
theorem Short.cons {l : List Lk} (h : Short l) (hl : l.length ≤ 100) (x : Lk) (hx : ∀ s, x = .note s → s.size ≤ 1000000) : Short (x :: l) := by
  refine ⟨fun s hs => ?_, by rw [List.length_cons]; omega⟩
  rcases List.mem_cons.1 hs with h1 | h1
  · exact hx s h1.symm
  · exact h.1 s h1
theorem rst_note {fb j : Nat} {w' : World} {t : TypeId} {v : Value} {l : List Lk} {B : Nat} (hl : Lead w' fb 0 t v l) (hj : l.length ≤ j) (hj2 : j ≤ 100) (hs : Short l) (c0 : w'.cell? ⟨B, 0, none⟩ = some (.string wordB)) (c1 : w'.cell? ⟨B, 1, none⟩ = some (.iface t v)) {m : Nat} (hm : m ≤ 8)
    (ho : allN l = true → m = cntN l + 1) : RSt fb (j + 1) (.iface 67 (.pointer (some ⟨B, 0, none⟩))) (.int .i64 (m : Nat)) (.bool (allN l)) w' :=
  ⟨67, _, .note wordB :: l, m, rfl, .note B 0 wordB t v l c0 c1 hl, by rw [List.length_cons]; omega, rfl, hm, rfl, ho, hs.cons (by omega) _ (fun s h => by cases h; decide)⟩
theorem rst_same {fb j : Nat} {w' : World} {t : TypeId} {v : Value} {l : List Lk} (hl : Lead w' fb 0 t v l) (hj : l.length ≤ j) (hs : Short l) {m : Nat} (hm : m ≤ 8) (ho : allN l = true → m = cntN l) : RSt fb (j + 1) (.iface t v) (.int .i64 (m : Nat)) (.bool (allN l)) w' :=
  ⟨t, v, l, m, rfl, hl, by omega, rfl, hm, rfl, ho, hs⟩
theorem rst_around {fb j : Nat} {w' : World} {t : TypeId} {v : Value} {l : List Lk} (hl : Lead w' fb 0 t v l) (hj : l.length ≤ j) (hj2 : j ≤ 100) (hs : Short l) {m : Nat} (hm : m ≤ 8) : RSt fb (j + 1) (.iface 57 (.agg #[.iface t v])) (.int .i64 (m : Nat)) (.bool false) w' :=
  ⟨57, _, .around :: l, m, rfl, .around t v l hl, by rw [List.length_cons]; omega, rfl, hm, rfl, (fun h => by cases h), hs.cons (by omega) _ (fun s h => by cases h)⟩
theorem rst_join {fb j : Nat} {w' : World} {t : TypeId} {v : Value} {l : List Lk} {J S : Nat} {q : Addr} (hl : Lead w' fb 0 t v l) (hj : l.length ≤ j) (hj2 : j ≤ 100) (hs : Short l) (c0 : w'.cell? ⟨J, 0, none⟩ = some (.slice (some ⟨S, 0, none⟩) 2 2)) (c1 : w'.cell? ⟨S, 0, none⟩ = some (.iface 62 (.pointer (some q)))) (c2 : w'.cell? ⟨S, 1, none⟩ = some (.iface t v))
    {m : Nat} (hm : m ≤ 8) : RSt fb (j + 1) (.iface 94 (.pointer (some ⟨J, 0, none⟩))) (.int .i64 (m : Nat)) (.bool false) w' :=
  ⟨94, _, .join :: l, m, rfl, .join J 0 S 0 q t v l c0 c1 c2 hl, by rw [List.length_cons]; omega, rfl, hm, rfl, (fun h => by cases h), hs.cons (by omega) _ (fun s h => by cases h)⟩
end Go.Proofs.YtpgddboigegplaaGreatDoor.base
