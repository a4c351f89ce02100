/- An argument that is a slice of texts, opened. -/
import Derived.Test.YtpgddboigegplaaGreatDoorDgFrame
import Derived.SliceStrings
namespace Go.Dg
open Go.WideShapes Go.ChangeShapes
set_option linter.unusedVariables false
theorem flat_strs (zs : List ByteArray) : flatL (zs.map Value.string) = true := flatL_of fun v hv => by
  obtain ⟨x, _, rfl⟩ := List.mem_map.1 hv
  rfl
section
variable {H : Type} {enc : TypeId × Value → H} {P : Program} {w : World} {base : Nat}
theorem strs_arg {t e : TypeId} {v : Value} {d : DataW H} {ps : List MemPlace} (ht : P.underlying t = some (.slice e)) (he : P.underlying e = some .string) (hc : P.cellsOf e = 1)
    (hok : Value.okWide P w .any base t v) (h : DataW.Trod enc P w 0 (fun _ => true) true t v d ps) :
    v = .slice none 0 0 ∨ ∃ (b off len cap : Nat) (zs : List ByteArray) (e' : TypeId), v = .slice (some ⟨b, off, none⟩) len cap ∧ len ≤ cap ∧ cap ≤ maxLen ∧ zs.length = cap ∧ (∀ n ∈ zs, n.size ≤ maxLen) ∧
      ∀ M N, ObjRel M N w (.cells (zs.map Value.string) e' 6 1) b off 0 := by
  obtain ⟨a, len, cap, rfl⟩ := okWide_slice ht hok
  obtain ⟨fuel, hf⟩ := h
  rcases Go.ChangeShapes.open_strings ht he hc hf with ⟨hcs, _⟩ | ⟨x, l, c, zs, hcs, _, hl, hm, hz, _, hcell, hwz⟩
  · simp [Value.cells] at hcs
    obtain ⟨rfl, rfl, rfl⟩ := hcs
    exact .inl rfl
  · simp [Value.cells] at hcs
    obtain ⟨rfl, rfl, rfl⟩ := hcs
    right
    have hz' : zs.length = cap := by simpa using hz
    simp only [Value.okWide, ht, Cell.okWide, Cell.ok] at hok
    obtain ⟨_, _, _, hspot, row, cells, hsh, hlies⟩ := hok
    obtain ⟨b, off, spot⟩ := x
    simp only at hspot hsh hlies
    subst hspot
    have hoff := liesAt_le _ _ _ _ _ _ _ hlies
    simp only [World.shape?] at hsh
    split at hsh
    · rename_i C e' fz hb
      simp only [Option.some.injEq, Prod.mk.injEq] at hsh
      obtain ⟨rfl, rfl⟩ := hsh
      have hcell' : ∀ i, i < zs.length → C[off + i]? = some (.string (zs.getD i ByteArray.empty)) := by
        intro i hi
        have := hcell i hi
        by_cases h0 : i = 0
        · subst h0; simpa [World.cell?, Addr.add, hb] using this
        · simpa [World.cell?, Addr.add, hb, h0] using this
      have hsz : off + zs.length ≤ C.size := by
        rcases Nat.eq_zero_or_pos zs.length with h0 | h0
        · have : C.size / P.cellsOf e' * P.cellsOf e' ≤ C.size := Nat.div_mul_le_self _ _
          omega
        · have := hcell' (zs.length - 1) (by omega)
          have hlt : off + (zs.length - 1) < C.size := by
            rcases Nat.lt_or_ge (off + (zs.length - 1)) C.size with h1 | h1
            · exact h1
            · rw [Array.getElem?_eq_none h1] at this; cases this
          omega
      refine ⟨b, off, len, cap, zs, e', rfl, hl, hm, hz', hwz, fun M N => ⟨C, fz, hb, by simp; omega, fun i v hv => ?_, fun h => absurd rfl h, fun _ => rfl, fun _ => flat_strs zs⟩⟩
      rw [List.getElem?_map, Option.map_eq_some_iff] at hv
      obtain ⟨z, hz1, rfl⟩ := hv
      have hi : i < zs.length := by
        rcases Nat.lt_or_ge i zs.length with h1 | h1
        · exact h1
        · rw [List.getElem?_eq_none h1] at hz1; cases hz1
      refine ⟨_, hcell' i hi, ?_⟩
      rw [List.getD_eq_getElem?_getD, hz1]
      exact vrel_of_flat _ _ rfl
    · cases hsh
end
end Go.Dg
