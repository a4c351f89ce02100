/- Arguments that are structs of integers, opened. -/
import Derived.Test.YtmnoegfehgoalaaGreatDoorDgInts
import Derived.ChangeSame
import Derived.OpenShut
import Derived.ChangeSlices
namespace Go.Dg
open Go.ChangeShapes Go.WideShapes
section
variable {H : Type} {enc : TypeId × Value → H} {P : Program} {w : World} {base : Nat} {spare : Nat → Bool} {held : Bool}
/-- A field that is an integer. -/
theorem int_field {fs : Array Field} {cs : List Value} {xs : List (DataW H × List MemPlace)} {n : Nat} (hf : ∀ (i : Nat) (f : Field), fs[i]? = some f → DataW.trod enc P w base spare held n f.type ((cs.drop f.offset).take (P.cellsOf f.type)) = xs[i]?)
    (hlen : xs.length = fs.size) (i : Nat) (f : Field) (hi : fs[i]? = some f) {k : IntKind} (hk : P.underlying f.type = some (.int k)) (hc : P.cellsOf f.type = 1) : ∃ m, (cs.drop f.offset).take 1 = [.int k m] ∧ (Lit.int k m).wf = true := by
  have h := hf i f hi
  rw [hc] at h
  have hlt : i < xs.length := by
    rw [hlen]
    rcases Nat.lt_or_ge i fs.size with h0 | h0
    · exact h0
    · rw [Array.getElem?_eq_none h0] at hi; cases hi
  rw [List.getElem?_eq_getElem hlt] at h
  obtain ⟨m, h1, _, h2⟩ := DataW.trod_int hk h
  exact ⟨m, h1, h2⟩
/-- A field that is an array of integers. -/
theorem ints_field {fs : Array Field} {cs : List Value} {xs : List (DataW H × List MemPlace)} {n : Nat} (hf : ∀ (i : Nat) (f : Field), fs[i]? = some f → DataW.trod enc P w base spare held n f.type ((cs.drop f.offset).take (P.cellsOf f.type)) = xs[i]?)
    (hlen : xs.length = fs.size) (i : Nat) (f : Field) (hi : fs[i]? = some f) {len : Nat} {e : TypeId} {k : IntKind} (hk : P.underlying f.type = some (.array len e)) (he : P.underlying e = some (.int k)) (hc : P.cellsOf f.type = len) (hce : P.cellsOf e = 1)
    (j : Nat) (hj : j < len) : ∃ m, (((cs.drop f.offset).take len).drop j).take 1 = [.int k m] ∧ (Lit.int k m).wf = true := by
  have h := hf i f hi
  rw [hc] at h
  have hlt : i < xs.length := by
    rw [hlen]
    rcases Nat.lt_or_ge i fs.size with h0 | h0
    · exact h0
    · rw [Array.getElem?_eq_none h0] at hi; cases hi
  rw [List.getElem?_eq_getElem hlt] at h
  obtain ⟨ys, m', _, _, _, hl, hy⟩ := DataW.trod_array hk h
  have h2 := hy j hj
  rw [hce, Nat.mul_one] at h2
  have hlt2 : j < ys.length := by omega
  rw [List.getElem?_eq_getElem hlt2] at h2
  obtain ⟨m, h3, _, h4⟩ := DataW.trod_int he h2
  exact ⟨m, h3, h4⟩

theorem rowAt_le (p : Program) (fits : TypeId → Bool) (d : Nat) (e : TypeId) (count off n : Nat) (h : rowAt p fits d e count off n = true) : off ≤ count * p.cellsOf e ∧ 0 < p.cellsOf e := by
  cases d with
  | zero => simp [rowAt] at h
  | succ d =>
    unfold rowAt at h
    simp only at h
    split at h
    · cases h
    · rename_i hs
      have hs' : 0 < p.cellsOf e := Nat.pos_of_ne_zero hs
      refine ⟨?_, hs'⟩
      have hdm := Nat.div_add_mod off (p.cellsOf e)
      simp only [Bool.or_eq_true, Bool.and_eq_true, beq_iff_eq, decide_eq_true_eq] at h
      rcases h with ⟨⟨hr, hi⟩, _⟩ | ⟨hi, _⟩
      · rw [hr] at hdm
        have : off / p.cellsOf e * p.cellsOf e ≤ count * p.cellsOf e := Nat.mul_le_mul_right _ (by omega)
        have h2 : p.cellsOf e * (off / p.cellsOf e) = off / p.cellsOf e * p.cellsOf e := Nat.mul_comm _ _
        omega
      · have hm := Nat.mod_lt off hs'
        have : (off / p.cellsOf e + 1) * p.cellsOf e ≤ count * p.cellsOf e := Nat.mul_le_mul_right _ hi
        have h2 : p.cellsOf e * (off / p.cellsOf e) = off / p.cellsOf e * p.cellsOf e := Nat.mul_comm _ _
        rw [Nat.add_mul] at this
        omega
theorem liesAt_le (p : Program) : ∀ (d : Nat) (e : TypeId) (count off : Nat) (u : TypeId) (n : Nat), liesAt p d e count off u n = true → off ≤ count * p.cellsOf e := by
  intro d
  induction d with
  | zero => intro e count off u n h; simp [liesAt] at h
  | succ d ih =>
    intro e count off u n h
    unfold liesAt at h
    rw [Bool.or_eq_true] at h
    rcases h with h | h
    · exact (rowAt_le _ _ _ _ _ _ _ h).1
    · split at h
      · exact ih _ _ _ _ _ h
      · cases h

/-- An argument that is a slice of integers: nil, or a row of cells that lies in the world. -/
theorem flat_ints' {k : IntKind} (zs : List Int) : flatL (zs.map (Value.int k ·)) = true := flatL_of fun v hv => by
  obtain ⟨z, _, rfl⟩ := List.mem_map.1 hv
  rfl
theorem ints_arg {t e : TypeId} {k : IntKind} {v : Value} {d : DataW H} {ps : List MemPlace} (ht : P.underlying t = some (.slice e)) (he : P.underlying e = some (.int k)) (hc : P.cellsOf e = 1)
    (hok : Value.okWide P w .any base t v) (h : DataW.Trod enc P w 0 (fun _ => true) true t v d ps) :
    v = .slice none 0 0 ∨ ∃ (b off len cap : Nat) (zs : List Int) (e' : TypeId), v = .slice (some ⟨b, off, none⟩) len cap ∧ len ≤ cap ∧ cap ≤ maxLen ∧ zs.length = cap ∧ (∀ n ∈ zs, (Lit.int k n).wf = true) ∧
      ∀ M N, ObjRel M N w (.cells (zs.map (Value.int k ·)) e' 6 1) b off 0 := by
  obtain ⟨a, len, cap, rfl⟩ := okWide_slice ht hok
  obtain ⟨fuel, hf⟩ := h
  rcases open_ints ht he hc hf with ⟨hcs, _⟩ | ⟨x, l, c, zs, hcs, _, hl, hm, hz, _, hcell, hwz⟩
  · simp [Value.cells] at hcs
    obtain ⟨rfl, rfl, rfl⟩ := hcs
    exact .inl rfl
  · simp [Value.cells] at hcs
    obtain ⟨rfl, rfl, rfl⟩ := hcs
    right
    have hz' : zs.length = cap := by simpa using hz
    simp only [Value.okWide, ht, Cell.okWide, Cell.ok] at hok
    obtain ⟨_, _, _, hspot, row, cells, hsh, hlies⟩ := hok
    obtain ⟨b, off, spot⟩ := x
    simp only at hspot hsh hlies
    subst hspot
    have hoff := liesAt_le _ _ _ _ _ _ _ hlies
    simp only [World.shape?] at hsh
    split at hsh
    · rename_i C e' fz hb
      simp only [Option.some.injEq, Prod.mk.injEq] at hsh
      obtain ⟨rfl, rfl⟩ := hsh
      have hcell' : ∀ i, i < zs.length → C[off + i]? = some (.int k (zs.getD i 0)) := by
        intro i hi
        have := hcell i hi
        by_cases h0 : i = 0
        · subst h0; simpa [World.cell?, Addr.add, hb] using this
        · simpa [World.cell?, Addr.add, hb, h0] using this
      have hsz : off + zs.length ≤ C.size := by
        rcases Nat.eq_zero_or_pos zs.length with h0 | h0
        · have : C.size / P.cellsOf e' * P.cellsOf e' ≤ C.size := Nat.div_mul_le_self _ _
          omega
        · have := hcell' (zs.length - 1) (by omega)
          have hlt : off + (zs.length - 1) < C.size := by
            rcases Nat.lt_or_ge (off + (zs.length - 1)) C.size with h1 | h1
            · exact h1
            · rw [Array.getElem?_eq_none h1] at this; cases this
          omega
      refine ⟨b, off, len, cap, zs, e', rfl, hl, hm, hz', hwz, fun M N => ⟨C, fz, hb, by simp; omega, fun i v hv => ?_, fun h => absurd rfl h, fun _ => rfl, fun _ => flat_ints' zs⟩⟩
      rw [List.getElem?_map, Option.map_eq_some_iff] at hv
      obtain ⟨z, hz1, rfl⟩ := hv
      have hi : i < zs.length := by
        rcases Nat.lt_or_ge i zs.length with h1 | h1
        · exact h1
        · rw [List.getElem?_eq_none h1] at hz1; cases hz1
      refine ⟨_, hcell' i hi, ?_⟩
      rw [List.getD_eq_getElem?_getD, hz1]
      exact vrel_of_flat _ _ rfl
    · cases hsh
end

/-- Objects that a call finds, and leaves alone. -/
def heapOf (L : List (Nat × Nat × AObj)) : Heap := ⟨L.length, (L.map (·.2.2)).reverse⟩
def embOf (L : List (Nat × Nat × AObj)) : Emb := fun k => (L[k]?).map fun x => (x.1, x.2.1, 0)
theorem heapOf_get (L : List (Nat × Nat × AObj)) (k : Nat) (x : Nat × Nat × AObj) (h : L[k]? = some x) : (heapOf L).get k = x.2.2 := by
  have hk : k < L.length := by
    rcases Nat.lt_or_ge k L.length with h0 | h0
    · exact h0
    · rw [List.getElem?_eq_none h0] at h; cases h
  simp only [heapOf, Heap.get, if_pos hk, List.getD_eq_getElem?_getD]
  rw [List.getElem?_reverse (by simp; omega)]
  have : (L.map (·.2.2)).length - 1 - (L.length - 1 - k) = k := by simp; omega
  rw [this, List.getElem?_map, h]
  rfl
theorem hrel_list {w : World} (L : List (Nat × Nat × AObj)) (hL : ∀ x ∈ L, x.2.2.owned = false ∧ ∀ M N, ObjRel M N w x.2.2 x.1 x.2.1 0) : HRel (embOf L) w.heap.size (heapOf L) w := by
  have hget : ∀ k, k < L.length → ∃ x, L[k]? = some x ∧ x ∈ L ∧ (heapOf L).get k = x.2.2 := by
    intro k hk
    exact ⟨L[k], List.getElem?_eq_getElem hk, List.getElem_mem hk, heapOf_get L k _ (List.getElem?_eq_getElem hk)⟩
  have hown : ∀ k, ((heapOf L).get k).owned = false := by
    intro k
    rcases Nat.lt_or_ge k L.length with h0 | h0
    · obtain ⟨x, _, h1, h2⟩ := hget k h0; rw [h2]; exact (hL x h1).1
    · rw [Heap.get_out _ _ (by simpa [heapOf] using h0)]; rfl
  refine ⟨by simp [heapOf], ?_, ?_, ?_, Nat.le_refl _⟩
  · intro k x h
    simp only [embOf, Option.map_eq_some_iff] at h
    obtain ⟨y, h1, _⟩ := h
    rcases Nat.lt_or_ge k L.length with h0 | h0
    · simpa [heapOf] using h0
    · rw [List.getElem?_eq_none h0] at h1; cases h1
  · intro k hlive
    have hk : k < L.length := by simpa [heapOf] using Heap.lt_of_live hlive
    obtain ⟨x, h0, h1, h2⟩ := hget k hk
    exact ⟨x.1, x.2.1, 0, by simp [embOf, h0], by rw [h2]; exact (hL x h1).2 _ _⟩
  · intro k k' b o sp b' o' sp' _ h
    rw [hown k] at h; cases h

/-- A call that finds objects and leaves them alone; the result holds no address. -/
theorem open_call {P : Program} {ok : List Bool} (hm : P.follows .mixedOrders = true) (hok : BodiesOk P ok) {over : Ev} (hover : CallOk P 0 over ∧ CallLog over) {sb : List Nat} {lf n : Nat} {f : FuncId} {args args' : List Value} {v : Value} {w : World}
    (L : List (Nat × Nat × AObj)) (hL : ∀ x ∈ L, x.2.2.owned = false ∧ ∀ M N, ObjRel M N w x.2.2 x.1 x.2.1 0) (ha : LRel (embOf L) args args')
    (h : (evCall P 0 ok over sb lf n f args (heapOf L)).map (·.1) = some v) (hv : flat v = true) (hfY : Nat.ble Y f = false := by rfl) : Calls P f args'.toArray w fun e w' => e = .returned v ∧ RowKit.Below w.heap.size w w' := by
  rw [Option.map_eq_some_iff] at h
  obtain ⟨⟨v1, H', log⟩, h1, h2⟩ := h
  simp only at h2
  subst h2
  have hr := hrel_list L hL
  refine ((evCall_ok (G := 0) hm hok hover.1 hover.2 sb lf n).1 f args _ v1 H' log h1 (lt_Y hfY) w.heap.size _ w args'.toArray (fun g hg => by omega) hr (by simpa using ha)).mono ?_
  rintro e w' ⟨M', v', rfl, hv', hs⟩
  rw [hv'.eq_of_flat hv]
  exact ⟨rfl, hs.below hr⟩
end Go.Dg
