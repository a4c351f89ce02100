/- What the rows need: rows of counts, a make in a region that draws its order, parts of slices. What single operations yield. -/
import Derived.Test.YtmnoegfehgoalaaGreatDoorCxF
import Derived.IntWalk
namespace Go.Proofs.YtmnoegfehgoalaaGreatDoor.cx
open Go.RowKit Go.Extern.Stop Go.Stop Go.Extern Go.Cx
set_option linter.unusedVariables false

/-- A row of counts, as cells. -/
def cntC (n : Nat) (f : Nat → Nat) : Array Value := ((List.range n).map fun k => Value.int .i64 (f k : Nat)).toArray
theorem cntC_get {n k : Nat} (f : Nat → Nat) (h : k < n) : (cntC n f)[k]? = some (.int .i64 (f k : Nat)) := by
  unfold cntC
  simp [h]
theorem cntC_set (n k : Nat) (f : Nat → Nat) (h : k < n) : (cntC n f).setIfInBounds k (.int .i64 ((f k + 1 : Nat) : Int)) = cntC n fun j => if j = k then f j + 1 else f j := by
  unfold cntC
  apply Array.ext_getElem?
  intro i
  by_cases hi : i < n
  · by_cases hk : k = i
    · subst hk
      rw [Array.getElem?_setIfInBounds_self_of_lt (by simpa using h)]
      simp [hi]
    · rw [Array.getElem?_setIfInBounds_ne hk]
      have e : (if i = k then f i + 1 else f i) = f i := if_neg fun h => hk h.symm
      simp [hi, e]
  · rw [Array.getElem?_eq_none (by simp; omega), Array.getElem?_eq_none (by simp; omega)]
theorem cntC_congr {n : Nat} {f g : Nat → Nat} (h : ∀ k, k < n → f k = g k) : cntC n f = cntC n g := by
  unfold cntC
  congr 1
  apply List.map_congr_left
  intro k hk
  rw [h k (List.mem_range.1 hk)]
theorem made_ints (n : Nat) : madeCells #[Value.int .i64 0] n = cntC n fun _ => 0 := by
  unfold cntC
  apply Array.ext
  · simp [madeCells]
  · intro i h1 h2
    simp [madeCells, Nat.mod_one]
theorem take_make {P : Program} {md : Region.Mode} {ops : Array Oper} {Q : Exit → Act → World → Prop} {S : World → Prop} (i : Nat) {o : Oper} {fuel : Nat} {listed : Array Bool} {a : Act} {w : World} {K' : Act → World → Prop} (l : Operand) (t : TypeId)
    (hw : Region.wanted o (yielded ops a.tmps) = true) (ho : o.op = .makeSlice t l l)
    (base : Nat) (e : TypeId) (ti : TypeInfo) (z : Value) (size : Nat) (h1 : P.underlying t = some (.slice e)) (h2 : P.info? e = some ti) (h3 : ti.zero = some z) (h4 : ti.size = size)
    (n : Nat) (hl : a.eval l = .int .i64 (n : Nat)) (b2 : ti.bytes * n ≤ 281474976710656) (b3 : n ≤ maxLen) (b4 : base ≤ w.heap.size)
    (hK : ∀ w', w'.ownsRow base e size (.slice (some ⟨w.heap.size, 0, none⟩) n n) n (madeCells z.cells (n * size)).toList → w.grownBy w' none → K' (a.put o.dst (.slice (some ⟨w.heap.size, 0, none⟩) n n)) w') :
    if Region.wanted o (yielded ops a.tmps) = true then Oper.wp P o a w K' Q else K' (a.put o.dst undef) w := by
  rw [if_pos hw]
  obtain ⟨w', hrun, r1, r2⟩ := run_make_full (P := P) w base t e ti z size h1 h2 h3 h4 .i64 .i64 n b2 b3 b4
  unfold Oper.wp
  simp [execOp, ho, hl, hrun, Result.andThen]
  exact hK w' r1 r2
theorem take_ready {P : Program} {md : Region.Mode} {ops : Array Oper} {Q : Exit → Act → World → Prop} {S : World → Prop} {rs : List Nat} {fuel : Nat} {listed : Array Bool} {a : Act} {w : World} (hr : Region.ready md ops listed = rs) (hne : rs ≠ [])
    (h : ∀ i ∈ rs, ∃ o, ops[i]? = some o ∧ ∀ K' : Act → World → Prop, (∀ a' w', (S w' ∧ wpAnyH P md ops Q S fuel (listed.setIfInBounds i true) a' w') → K' a' w') → if Region.wanted o (yielded ops a.tmps) = true then Oper.wp P o a w K' Q else K' (a.put o.dst undef) w) : wpAnyH P md ops Q S (fuel + 1) listed a w :=
  wpAnyH_all hr hne fun i hi => by
    obtain ⟨o, ho, hk⟩ := h i hi
    exact wpOp_step ho fun K' hK => hk K' hK
/-- A part of one row. -/
theorem Sl.row {w : World} {n b off cap len : Nat} {rows : List (List Value)} {r : List Value} {i : Nat} (h : ∀ i r, rows[i]? = some r → w.rangeAt b (off + i * n) r) (hr : rows[i]? = some r) (hl : i < len) (hc : len ≤ cap) (hm : cap ≤ maxLen) : Sl w n (.slice (some ⟨b, off + i * n, none⟩) 1 (cap - i)) [r] :=
  Sl.one (h i r hr) (by omega) (by omega)
theorem tt_one (ls ss : List (List Value)) (l s : List Value) (i k : Nat) (hl : ls[i]? = some l) (hs : ss[k]? = some s) : TT [l] [s] 0 0 = TT ls ss i k ∧ MV [l] [s] 0 0 = MV ls ss i k := by
  have e1 : ls.getD i [] = l := by rw [List.getD_eq_getElem?_getD, hl]; rfl
  have e2 : ss.getD k [] = s := by rw [List.getD_eq_getElem?_getD, hs]; rfl
  unfold TT MV tellR
  rw [e1, e2]
  exact ⟨rfl, rfl⟩
theorem meet_yes {W w' : World} {l s : List Value} {e : Ending} (h : MeetAt W [l] [s] e w') (hT : TT [l] [s] 0 0 = true) : ∃ g cap vl vb, e = .returned (.tuple #[.slice (some ⟨g, 0, none⟩) 1 cap, vl, vb, .int .i64 0]) ∧ w'.rangeAt g 0 ([.int .i64 0, .int .i64 0] ++ MV [l] [s] 0 0) ∧ 1 ≤ cap ∧ Below W.heap.size W w' := by
  obtain ⟨vm, vl, vb, rfl, h1, h2, h3, hb⟩ := h
  have e1 : greed 1 (TT [l] [s]) 1 = ⟨[(0, 0)], [], fun j => j == 0⟩ := by rw [greed_one, hT]; rfl
  have h1' : w'.ownsRow W.heap.size 78 5 vm (greed 1 (TT [l] [s]) 1).met.length (metC (MV [l] [s]) (greed 1 (TT [l] [s]) 1).met) := h1
  rw [e1] at h1'
  obtain ⟨a, cap, rfl, hc, _, _, hg⟩ := own_get h1'
  obtain ⟨g, rfl, _, hr⟩ := hg (by simp)
  exact ⟨g, cap, vl, vb, rfl, hr, hc, hb⟩
theorem meet_no {W w' : World} {l s : List Value} {e : Ending} (h : MeetAt W [l] [s] e w') (hT : TT [l] [s] 0 0 = false) : ∃ a cap vl vb, e = .returned (.tuple #[.slice a 0 cap, vl, vb, .int .i64 0]) ∧ Below W.heap.size W w' := by
  obtain ⟨vm, vl, vb, rfl, h1, h2, h3, hb⟩ := h
  have e1 : greed 1 (TT [l] [s]) 1 = ⟨[], [0], fun _ => false⟩ := by rw [greed_one, hT]; rfl
  have h1' : w'.ownsRow W.heap.size 78 5 vm (greed 1 (TT [l] [s]) 1).met.length (metC (MV [l] [s]) (greed 1 (TT [l] [s]) 1).met) := h1
  rw [e1] at h1'
  obtain ⟨a, cap, rfl, hc, _, _, hg⟩ := own_get h1'
  exact ⟨a, cap, vl, vb, rfl, hb⟩
end Go.Proofs.YtmnoegfehgoalaaGreatDoor.cx

namespace Go.Proofs.YtmnoegfehgoalaaGreatDoor.cx
open Go.RowKit Go.Extern.Stop Go.Stop Go.Extern Go.Cx
set_option linter.unusedVariables false

section
variable {ev : Operand → Value} {w : World} {d : Nat} {x y : Operand} {t u ty : TypeId} {p : String} {e : Array Edge} {g : Option (Nat × Bool)}
theorem ex_lss {a b : Int} {r : Bool} (hx : ev x = .int .i64 a) (hy : ev y = .int .i64 b) (h : decide (a < b) = r) : (execOp ev ⟨some d, .binOp .lss t x y u, ty, p, e, g⟩).run Tryz.prog w = .ok (.value (.bool r)) w := by
  subst h
  go_simp
theorem ex_geq {a b : Int} {r : Bool} (hx : ev x = .int .i64 a) (hy : ev y = .int .i64 b) (h : decide (b ≤ a) = r) : (execOp ev ⟨some d, .binOp .geq t x y u, ty, p, e, g⟩).run Tryz.prog w = .ok (.value (.bool r)) w := by
  subst h
  go_simp
theorem ex_gtr {a b : Int} {r : Bool} (hx : ev x = .int .i64 a) (hy : ev y = .int .i64 b) (h : decide (b < a) = r) : (execOp ev ⟨some d, .binOp .gtr t x y u, ty, p, e, g⟩).run Tryz.prog w = .ok (.value (.bool r)) w := by
  subst h
  go_simp
theorem ex_nei {a b : Int} {r : Bool} (hx : ev x = .int .i64 a) (hy : ev y = .int .i64 b) (h : (a != b) = r) : (execOp ev ⟨some d, .binOp .neq t x y u, ty, p, e, g⟩).run Tryz.prog w = .ok (.value (.bool r)) w := by
  subst h
  go_simp
theorem ex_sub {a b c : Int} (hx : ev x = .int .i64 a) (hy : ev y = .int .i64 b) (h : wrap64 (a - b) = c) : (execOp ev ⟨some d, .binOp .sub t x y u, ty, p, e, g⟩).run Tryz.prog w = .ok (.value (.int .i64 c)) w := by
  subst h
  go_simp
  exact IntWalk.i64_left _
theorem ex_add {a b c : Int} (hx : ev x = .int .i64 a) (hy : ev y = .int .i64 b) (h : wrap64 (a + b) = c) : (execOp ev ⟨some d, .binOp .add t x y u, ty, p, e, g⟩).run Tryz.prog w = .ok (.value (.int .i64 c)) w := by
  subst h
  go_simp
  exact IntWalk.i64_left _
set_option maxRecDepth 1000000 in
theorem ex_lenL {a : Option Addr} {n c : Nat} (h : ev x = .slice a n c) : (execOp ev ⟨some d, .call { callee := .builtin .len, args := #[x], argTypes := #[22] }, ty, p, e, g⟩).run Tryz.prog w = .ok (.value (.int .i64 (n : Nat))) w := by
  go_simp
set_option maxRecDepth 1000000 in
theorem ex_lenS {a : Option Addr} {n c : Nat} (h : ev x = .slice a n c) : (execOp ev ⟨some d, .call { callee := .builtin .len, args := #[x], argTypes := #[23] }, ty, p, e, g⟩).run Tryz.prog w = .ok (.value (.int .i64 (n : Nat))) w := by
  go_simp
set_option maxRecDepth 1000000 in
theorem ex_lenM {a : Option Addr} {n c : Nat} (h : ev x = .slice a n c) : (execOp ev ⟨some d, .call { callee := .builtin .len, args := #[x], argTypes := #[25] }, ty, p, e, g⟩).run Tryz.prog w = .ok (.value (.int .i64 (n : Nat))) w := by
  go_simp
theorem ex_moveg {v : Value} (h : ev x = v) : (execOp ev ⟨some d, .move x, ty, p, e, g⟩).run Tryz.prog w = .ok (.value v) w := by
  subst h
  rfl
end
section
variable (w : World) (b o : Nat)
set_option maxRecDepth 1000000 in
theorem ld_int (v : Value) (h : w.cell? ⟨b, o, none⟩ = some v) : (Instr.loadAt 3 (.pointer (some ⟨b, o, none⟩))).run Tryz.prog w = .ok v w := by
  go_simp
set_option maxRecDepth 1000000 in
theorem fa_m0 : (Instr.fieldAt 78 (.pointer (some ⟨b, o, none⟩)) 0).run Tryz.prog w = .ok (.pointer (some ⟨b, o, none⟩)) w := by
  go_simp
set_option maxRecDepth 1000000 in
theorem fa_m1 : (Instr.fieldAt 78 (.pointer (some ⟨b, o, none⟩)) 1).run Tryz.prog w = .ok (.pointer (some ⟨b, o + 1, none⟩)) w := by
  go_simp
set_option maxRecDepth 1000000 in
theorem fa_m2 : (Instr.fieldAt 78 (.pointer (some ⟨b, o, none⟩)) 2).run Tryz.prog w = .ok (.pointer (some ⟨b, o + 2, none⟩)) w := by
  go_simp
set_option maxRecDepth 1000000 in
theorem fa_m3 : (Instr.fieldAt 78 (.pointer (some ⟨b, o, none⟩)) 3).run Tryz.prog w = .ok (.pointer (some ⟨b, o + 3, none⟩)) w := by
  go_simp
set_option maxRecDepth 1000000 in
theorem fa_m4 : (Instr.fieldAt 78 (.pointer (some ⟨b, o, none⟩)) 4).run Tryz.prog w = .ok (.pointer (some ⟨b, o + 4, none⟩)) w := by
  go_simp
end
theorem ix_met (gm off nm cap k : Nat) (hk : k < nm) (w : World) : (Instr.indexAt 25 (.slice (some ⟨gm, off, none⟩) nm cap) (.int .i64 (k : Nat))).run Tryz.prog w = .ok (.pointer (some ⟨gm, off + k * 5, none⟩)) w :=
  index_row (P := Tryz.prog) (size := 5) Tryz.underlying25 (fun w => by kernel_rfl) gm off nm cap k hk w
theorem ex_slice {P : Program} {ev : Operand → Value} {d : Option Tmp} {t ty : TypeId} {x lo hi : Operand} {p : String} {e : Array Edge} {g : Option (Nat × Bool)} {A B C V : Value} {w : World} (hx : ev x = A) (hl : ev lo = B) (hh : ev hi = C) (h : (Instr.sliceAt t A (some B) (some C) none).run P w = .ok V w) : (execOp ev ⟨d, .slice t x (some lo) (some hi) none, ty, p, e, g⟩).run P w = .ok (.value V) w := by
  unfold execOp
  simp only [hx, hl, hh, Option.map_some, Option.map_none, Sem.run_bind, h, Result.andThen_ok, Sem.run_pure]
theorem slice_part {P : Program} {t e : TypeId} {size : Nat} (hu : P.underlying t = some (.slice e)) (hz : ∀ w, (sizeOf e).run P w = .ok size w) (b off len cap i : Nat) (hi : i < len) (hc : len ≤ cap) (w : World) :
    (Instr.sliceAt t (.slice (some ⟨b, off, none⟩) len cap) (some (.int .i64 (i : Nat))) (some (.int .i64 ((i : Int) + 1))) none).run P w = .ok (.slice (some ⟨b, off + i * size, none⟩) 1 (cap - i)) w := by
  have he : P.elem t = e := by unfold Program.elem; rw [hu]
  have hu' : P.underlying t = some (.slice (P.elem t)) := by rw [he]; exact hu
  rw [run_sliceAt_slice _ _ _ _ _ _ hu', run_slice_lh _ _ _ _ _ hu' _ _ _ _ (by omega) (by omega) (by omega), he, hz, Result.andThen_ok]
  have h1 : ((i : Int)).toNat = i := by omega
  have h2 : ((i : Int) + 1).toNat = i + 1 := by omega
  have h3 : cap ≠ i := by omega
  have h4 : i + 1 - i = 1 := by omega
  unfold sliced
  rw [h1, h2]
  simp [h3, h4, Addr.add_mid]
end Go.Proofs.YtmnoegfehgoalaaGreatDoor.cx
