/- What the rows need: rows of counts, a make in a region that draws its order, parts of slices. What single operations yield. -/
import Derived.Test.YtmnoegfehgoalaaGreatDoorCxF
import Derived.IntWalk
namespace Go.Proofs.YtmnoegfehgoalaaGreatDoor.cx
open Go.RowKit Go.Extern.Stop Go.Stop Go.Extern Go.Cx
set_option linter.unusedVariables false
/-- A row of counts, as cells. -/
def cntC (n : Nat) (f : Nat → Nat) : Array Value := ((List.range n).map fun k => Value.int .i64 (f k : Nat)).toArray
theorem cntC_get {n k : Nat} (f : Nat → Nat) (h : k < n) : (cntC n f)[k]? = some (.int .i64 (f k : Nat)) := by
  unfold cntC
  simp [h]
theorem made_ints (n : Nat) : madeCells #[Value.int .i64 0] n = cntC n fun _ => 0 := by
  unfold cntC
  apply Array.ext
  · simp [madeCells]
  · intro i h1 h2
    simp [madeCells, Nat.mod_one]
theorem take_ready {P : Program} {md : Region.Mode} {ops : Array Oper} {Q : Exit → Act → World → Prop} {S : World → Prop} {rs : List Nat} {fuel : Nat} {listed : Array Bool} {a : Act} {w : World} (hr : Region.ready md ops listed = rs) (hne : rs ≠ [])
    (h : ∀ i ∈ rs, ∃ o, ops[i]? = some o ∧ ∀ K' : Act → World → Prop, (∀ a' w', (S w' ∧ wpAnyH P md ops Q S fuel (listed.setIfInBounds i true) a' w') → K' a' w') → if Region.wanted o (yielded ops a.tmps) = true then Oper.wp P o a w K' Q else K' (a.put o.dst undef) w) : wpAnyH P md ops Q S (fuel + 1) listed a w :=
  wpAnyH_all hr hne fun i hi => by
    obtain ⟨o, ho, hk⟩ := h i hi
    exact wpOp_step ho fun K' hK => hk K' hK
/-- A part of one row. -/
theorem Sl.row {w : World} {n b off cap len : Nat} {rows : List (List Value)} {r : List Value} {i : Nat} (h : ∀ i r, rows[i]? = some r → w.rangeAt b (off + i * n) r) (hr : rows[i]? = some r) (hl : i < len) (hc : len ≤ cap) (hm : cap ≤ maxLen) : Sl w n (.slice (some ⟨b, off + i * n, none⟩) 1 (cap - i)) [r] :=
  Sl.one (h i r hr) (by omega) (by omega)
end Go.Proofs.YtmnoegfehgoalaaGreatDoor.cx
namespace Go.Proofs.YtmnoegfehgoalaaGreatDoor.cx
open Go.RowKit Go.Extern.Stop Go.Stop Go.Extern Go.Cx
set_option linter.unusedVariables false
section
variable {ev : Operand → Value} {w : World} {d : Nat} {x y : Operand} {t u ty : TypeId} {p : String} {e : Array Edge} {g : Option (Nat × Bool)}
theorem ex_lss {a b : Int} {r : Bool} (hx : ev x = .int .i64 a) (hy : ev y = .int .i64 b) (h : decide (a < b) = r) : (execOp ev ⟨some d, .binOp .lss t x y u, ty, p, e, g⟩).run Tryz.prog w = .ok (.value (.bool r)) w := by
  subst h
  go_simp
theorem ex_gtr {a b : Int} {r : Bool} (hx : ev x = .int .i64 a) (hy : ev y = .int .i64 b) (h : decide (b < a) = r) : (execOp ev ⟨some d, .binOp .gtr t x y u, ty, p, e, g⟩).run Tryz.prog w = .ok (.value (.bool r)) w := by
  subst h
  go_simp
end
section
variable (w : World) (b o : Nat)
set_option maxRecDepth 1000000 in
theorem ld_int (v : Value) (h : w.cell? ⟨b, o, none⟩ = some v) : (Instr.loadAt 3 (.pointer (some ⟨b, o, none⟩))).run Tryz.prog w = .ok v w := by
  go_simp
end
end Go.Proofs.YtmnoegfehgoalaaGreatDoor.cx
