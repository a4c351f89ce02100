/- Appending to rows of open length. -/
import Derived.Test.YtmnoegfehgoalaaGreatDoorDgLoop
namespace Go.Dg
set_option linter.unusedVariables false

/-- Behind a row of our own that has just its cells. -/
theorem evAppend_flex {P : Program} {H : Heap} {t tx e : TypeId} {i : TypeInfo} {z x : Value} {k l n md : Nat} {cs news : List Value} (h1 : someSlice (P.underlying t) = some e) (h2 : srcType (P.underlying tx) = true) (h3 : P.info? e = some i) (h4 : i.zero = some z)
    (h5 : z.cells.size = i.size) (hs : srcCells H i.size x = some (n, news)) (ho : news.all (·.oneCell') = true) (hl : news.length = n * i.size) (hn : 0 < n) (hk : H.get k = .cells cs e md i.size) (hm : md % 4 = 1) (hc : cs.length = l * i.size) (hco : cs.all (·.oneCell') = true)
    (hb : l + n ≤ 1099511627776) (hb2 : (l + n) * i.bytes ≤ 1099511627776) :
    evAppend P H t tx (.slice (some ⟨k, 0, some 0⟩) l l) x = some (.slice (some ⟨H.n, 0, some 0⟩) (l + n) (l + n), (H.set k .dead).push (.cells (cs ++ news) e (keepMd md (srcFlag H x || flatL news)) i.size), [k]) := by
  have hr : H.read k 0 (l * i.size) = some cs := by
    unfold Heap.read
    rw [hk]
    simp only [Nat.zero_add, hc, Nat.le_refl, if_true, List.drop_zero]
    rw [← hc, List.take_length]
  have hne : ¬ (l + n ≤ l) := by omega
  have hbb : (!(decide (l + n ≤ 1099511627776) && decide ((l + n) * i.bytes ≤ 1099511627776))) = false := by simp [hb, hb2]
  have hcond : (!(news.all (·.oneCell') && news.length == n * i.size && z.cells.size == i.size)) = false := by simp only [ho, hl, h5, beq_self_eq_true, Bool.and_self, Bool.not_true]
  unfold evAppend
  simp only [h1, h2, h3, h4, hs, hcond, Bool.not_true, Bool.false_eq_true, if_false, hne, hbb, hr, hco, hk]
  rw [if_pos (by simp [hm, hc])]
/-- Behind nil. -/
theorem evAppend_nil {P : Program} {H : Heap} {t tx e : TypeId} {i : TypeInfo} {z x : Value} {n : Nat} {news : List Value} (h1 : someSlice (P.underlying t) = some e) (h2 : srcType (P.underlying tx) = true) (h3 : P.info? e = some i) (h4 : i.zero = some z)
    (h5 : z.cells.size = i.size) (hs : srcCells H i.size x = some (n, news)) (ho : news.all (·.oneCell') = true) (hl : news.length = n * i.size) (hn : 0 < n) (hb : n ≤ 1099511627776) (hb2 : n * i.bytes ≤ 1099511627776) :
    evAppend P H t tx (.slice none 0 0) x = some (.slice (some ⟨H.n, 0, some 0⟩) n n, H.push (.cells news e (if srcFlag H x then 5 else 1) i.size), []) := by
  have hcond : (!(news.all (·.oneCell') && news.length == n * i.size && z.cells.size == i.size)) = false := by simp only [ho, hl, h5, beq_self_eq_true, Bool.and_self, Bool.not_true]
  have hne : ¬ (n = 0) := by omega
  have hbb : (decide (n ≤ 1099511627776) && decide (n * i.bytes ≤ 1099511627776)) = true := by simp [hb, hb2]
  unfold evAppend
  simp only [h1, h2, h3, h4, hs, hcond, Bool.not_true, Bool.false_eq_true, if_false, hne, hbb, if_true]
end Go.Dg
