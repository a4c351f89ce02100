/- The signs of a text of bytes, as they are gone over. -/
import Derived.Test.YtflgpkkbifkpoaaDoorRows
import Derived.Test.YtflgpkkbifkpoaaDoorTextRefc
import Derived.Laws.RangeString
namespace Go.Proofs.YtflgpkkbifkpoaaDoor.text
open Go.Dg (Heap AObj)
set_option linter.unusedVariables false
set_option linter.unusedSimpArgs false

theorem txt_size (zs : List Int) : (txt zs).size = zs.length := by simp [txt, ByteArray.size]
theorem txt_get (zs : List Int) (pos : Nat) (h : pos < (txt zs).size) (hz : 0 ≤ zs.getD pos 0 ∧ zs.getD pos 0 < 256) : (((txt zs)[pos]'h).toNat : Int) = zs.getD pos 0 := by
  have h2 : pos < zs.length := by rw [txt_size] at h; exact h
  have e : (txt zs)[pos]'h = UInt8.ofNat (zs.getD pos 0).toNat := by
    simp [txt, ByteArray.getElem_eq_getElem_data, List.getD_eq_getElem?_getD, h2]
  rw [e]
  simp only [UInt8.toNat_ofNat']
  omega
theorem dec_lo (zs : List Int) (pos : Nat) (h : pos < zs.length) (hz : 0 ≤ zs.getD pos 0 ∧ zs.getD pos 0 < 128) : Utf8.decode (txt zs) pos = ((zs.getD pos 0).toNat, 1) := by
  have hs : pos < (txt zs).size := by rw [txt_size]; exact h
  have hg := txt_get zs pos hs ⟨hz.1, by omega⟩
  rw [decode_ascii (txt zs) pos hs (by omega)]
  congr 1
  omega
theorem dec_hi (zs : List Int) (pos : Nat) (h : pos < zs.length) (hz : 128 ≤ zs.getD pos 0 ∧ zs.getD pos 0 < 256) : 128 ≤ (Utf8.decode (txt zs) pos).1 := by
  have hs : pos < (txt zs).size := by rw [txt_size]; exact h
  have hg := txt_get zs pos hs ⟨by omega, hz.2⟩
  have hb : ((txt zs).get! (pos + 0)).toNat = ((txt zs)[pos]'hs).toNat := by
    simp [ByteArray.get!, ByteArray.getElem_eq_getElem_data, hs]
  have hr : Utf8.runeError = 65533 := rfl
  unfold Utf8.decode
  simp only [hb]
  rw [if_neg (by omega)]
  repeat' split
  all_goals first
    | (rename_i hc; simp only [Bool.and_eq_true, decide_eq_true_eq, ge_iff_le] at hc; simp only; omega)
    | (simp only [hr]; omega)
    | (simp only; omega)
/-- The next sign: one below 128. -/
theorem next_lo {H : Heap} {k : Nat} {zs : List Int} {pos : Nat} (hk : H.get k = .iter (txt zs) pos) (h : pos < zs.length) (hz : 0 ≤ zs.getD pos 0 ∧ zs.getD pos 0 < 128) :
    Dg.nextAt H k = some (.tuple #[.bool true, .int .i64 pos, .int .i32 (zs.getD pos 0)], H.set k (.iter (txt zs) (pos + 1)), [k]) := by
  unfold Dg.nextAt
  rw [hk]
  simp only [txt_size, if_pos h, dec_lo zs pos h hz]
  have : (((zs.getD pos 0).toNat : Nat) : Int) = zs.getD pos 0 := by omega
  rw [this]
  rfl
/-- No sign is left. -/
theorem next_end {H : Heap} {k : Nat} {zs : List Int} {pos : Nat} (hk : H.get k = .iter (txt zs) pos) (h : pos = zs.length) : Dg.nextAt H k = some (.tuple #[.bool false], H, []) := by
  unfold Dg.nextAt
  rw [hk]
  simp only [txt_size, h, Nat.lt_irrefl, if_false]
end Go.Proofs.YtflgpkkbifkpoaaDoor.text
