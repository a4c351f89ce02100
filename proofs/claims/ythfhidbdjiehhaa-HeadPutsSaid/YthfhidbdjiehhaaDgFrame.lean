/- Arguments that are structs of integers, opened. -/
import Derived.Test.YthfhidbdjiehhaaDgInts
import Derived.ChangeSame
import Derived.OpenShut
namespace Go.Dg
open Go.ChangeShapes Go.WideShapes
section
variable {H : Type} {enc : TypeId × Value → H} {P : Program} {w : World} {base : Nat} {spare : Nat → Bool} {held : Bool}
/-- A field that is an integer. -/
theorem int_field {fs : Array Field} {cs : List Value} {xs : List (DataW H × List MemPlace)} {n : Nat} (hf : ∀ (i : Nat) (f : Field), fs[i]? = some f → DataW.trod enc P w base spare held n f.type ((cs.drop f.offset).take (P.cellsOf f.type)) = xs[i]?)
    (hlen : xs.length = fs.size) (i : Nat) (f : Field) (hi : fs[i]? = some f) {k : IntKind} (hk : P.underlying f.type = some (.int k)) (hc : P.cellsOf f.type = 1) : ∃ m, (cs.drop f.offset).take 1 = [.int k m] ∧ (Lit.int k m).wf = true := by
  have h := hf i f hi
  rw [hc] at h
  have hlt : i < xs.length := by
    rw [hlen]
    rcases Nat.lt_or_ge i fs.size with h0 | h0
    · exact h0
    · rw [Array.getElem?_eq_none h0] at hi; cases hi
  rw [List.getElem?_eq_getElem hlt] at h
  obtain ⟨m, h1, _, h2⟩ := DataW.trod_int hk h
  exact ⟨m, h1, h2⟩
/-- A field that is an array of integers. -/
theorem ints_field {fs : Array Field} {cs : List Value} {xs : List (DataW H × List MemPlace)} {n : Nat} (hf : ∀ (i : Nat) (f : Field), fs[i]? = some f → DataW.trod enc P w base spare held n f.type ((cs.drop f.offset).take (P.cellsOf f.type)) = xs[i]?)
    (hlen : xs.length = fs.size) (i : Nat) (f : Field) (hi : fs[i]? = some f) {len : Nat} {e : TypeId} {k : IntKind} (hk : P.underlying f.type = some (.array len e)) (he : P.underlying e = some (.int k)) (hc : P.cellsOf f.type = len) (hce : P.cellsOf e = 1)
    (j : Nat) (hj : j < len) : ∃ m, (((cs.drop f.offset).take len).drop j).take 1 = [.int k m] ∧ (Lit.int k m).wf = true := by
  have h := hf i f hi
  rw [hc] at h
  have hlt : i < xs.length := by
    rw [hlen]
    rcases Nat.lt_or_ge i fs.size with h0 | h0
    · exact h0
    · rw [Array.getElem?_eq_none h0] at hi; cases hi
  rw [List.getElem?_eq_getElem hlt] at h
  obtain ⟨ys, m', _, _, _, hl, hy⟩ := DataW.trod_array hk h
  have h2 := hy j hj
  rw [hce, Nat.mul_one] at h2
  have hlt2 : j < ys.length := by omega
  rw [List.getElem?_eq_getElem hlt2] at h2
  obtain ⟨m, h3, _, h4⟩ := DataW.trod_int he h2
  exact ⟨m, h3, h4⟩
end
end Go.Dg
