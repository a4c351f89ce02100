/- Arguments that are structs of integers, opened. -/
import Derived.Test.YtmnoegfehgoalaaGreatDoorDgInts
import Derived.ChangeSame
import Derived.OpenShut
import Derived.ChangeSlices
namespace Go.Dg
open Go.ChangeShapes Go.WideShapes
section
variable {H : Type} {enc : TypeId × Value → H} {P : Program} {w : World} {base : Nat} {spare : Nat → Bool} {held : Bool}
end
/-- Objects that a call finds, and leaves alone. -/
def heapOf (L : List (Nat × Nat × AObj)) : Heap := ⟨L.length, (L.map (·.2.2)).reverse⟩
def embOf (L : List (Nat × Nat × AObj)) : Emb := fun k => (L[k]?).map fun x => (x.1, x.2.1, 0)
theorem heapOf_get (L : List (Nat × Nat × AObj)) (k : Nat) (x : Nat × Nat × AObj) (h : L[k]? = some x) : (heapOf L).get k = x.2.2 := by
  have hk : k < L.length := by
    rcases Nat.lt_or_ge k L.length with h0 | h0
    · exact h0
    · rw [List.getElem?_eq_none h0] at h; cases h
  simp only [heapOf, Heap.get, if_pos hk, List.getD_eq_getElem?_getD]
  rw [List.getElem?_reverse (by simp; omega)]
  have : (L.map (·.2.2)).length - 1 - (L.length - 1 - k) = k := by simp; omega
  rw [this, List.getElem?_map, h]
  rfl
end Go.Dg
