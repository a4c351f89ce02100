/- Lines take samples, each the first that is free: what is so of any such taking. Plain Lean. Arguments that are slices of structs of numbers: their cells, by kinds. Rows of cells under slices: what is read of them; what lines meet samples at, as cells. -/
import Derived.OpenShut
import Derived.ChangeArms
import Derived.Deep.Slices
import Derived.WideShapes
import Derived.Deep.MidRow
import Derived.Laws.AppendOwn
import Derived.Deep.AppendLies
import Derived.Maps.RangeWalk
import Derived.Maps.AppendAt
namespace Go.Cx
set_option linter.unusedVariables false
def pick (n : Nat) (tk t : Nat → Bool) : Option Nat := (List.range n).find? fun k => !tk k && t k
structure Greed where
  met : List (Nat × Nat)
  lost : List Nat
  tk : Nat → Bool
def gstep (n : Nat) (t : Nat → Bool) (i : Nat) (g : Greed) : Greed := match pick n g.tk t with
  | some k => ⟨g.met ++ [(i, k)], g.lost, fun j => g.tk j || j == k⟩
  | none => ⟨g.met, g.lost ++ [i], g.tk⟩
def greed (n : Nat) (T : Nat → Nat → Bool) : Nat → Greed
  | 0 => ⟨[], [], fun _ => false⟩
  | i + 1 => gstep n (T i) i (greed n T i)
def bare (n : Nat) (g : Greed) : List Nat := (List.range n).filter fun k => !g.tk k
theorem pick_some {n : Nat} {tk t : Nat → Bool} {k : Nat} (h : pick n tk t = some k) : k < n ∧ tk k = false ∧ t k = true := by
  have h1 := List.find?_some h
  have h2 := List.mem_of_find?_eq_some h
  simp at h1 h2
  exact ⟨h2, h1⟩
theorem pick_none {n : Nat} {tk t : Nat → Bool} (h : pick n tk t = none) : ∀ k, k < n → tk k = false → t k = false := by
  intro k hk ht
  have h1 := List.find?_eq_none.1 h k (List.mem_range.2 hk)
  simpa [ht] using h1
theorem countP_set (tk : Nat → Bool) (k : Nat) (ht : tk k = false) : ∀ n, (List.range n).countP (fun j => tk j || j == k) = (List.range n).countP tk + (if k < n then 1 else 0) := by
  intro n
  induction n with
  | zero => simp
  | succ n ih =>
    rw [List.range_succ, List.countP_append, List.countP_append, ih]
    by_cases h : n = k
    · subst h
      simp [ht]
    · have : (n == k) = false := by simpa using h
      have h1 : (List.range n).countP tk + (if k < n then 1 else 0) + List.countP (fun j => tk j || j == k) [n] = (List.range n).countP tk + List.countP tk [n] + (if k < n + 1 then 1 else 0) := by
        have e1 : List.countP (fun j => tk j || j == k) [n] = List.countP tk [n] := by simp [List.countP_cons, this]
        rw [e1]
        by_cases h2 : k < n
        · rw [if_pos h2, if_pos (show k < n + 1 by omega)]; omega
        · rw [if_neg h2, if_neg (show ¬ k < n + 1 by omega)]; omega
      exact h1
structure GInv (n : Nat) (T : Nat → Nat → Bool) (i : Nat) (g : Greed) : Prop where
  met_in : ∀ p ∈ g.met, p.1 < i ∧ p.2 < n ∧ T p.1 p.2 = true
  met_up : (g.met.map (·.1)).Pairwise (· < ·)
  lost_in : ∀ x ∈ g.lost, x < i
  lost_up : g.lost.Pairwise (· < ·)
  len : g.met.length + g.lost.length = i
  lines : ∀ x, (g.met.map (·.1)).count x + g.lost.count x = if x < i then 1 else 0
  samples : ∀ k, (g.met.map (·.2)).count k = if g.tk k then 1 else 0
  far : ∀ x ∈ g.lost, ∀ k, k < n → g.tk k = false → T x k = false
  many : g.met.length = (List.range n).countP g.tk
theorem greed_inv (n : Nat) (T : Nat → Nat → Bool) : ∀ i, GInv n T i (greed n T i) := by
  intro i
  induction i with
  | zero =>
    refine ⟨fun p h => ?_, ?_, fun p h => ?_, ?_, rfl, fun x => ?_, fun k => ?_, fun x h => ?_, ?_⟩
    · simp [greed] at h
    · simp [greed]
    · simp [greed] at h
    · simp [greed]
    · simp [greed]
    · simp [greed]
    · simp [greed] at h
    · simp [greed]
  | succ i ih =>
    rw [greed]
    generalize greed n T i = g at ih
    unfold gstep
    split
    · rename_i k hp
      obtain ⟨h1, h2, h3⟩ := pick_some hp
      refine ⟨fun p h => ?_, ?_, fun x h => Nat.lt_succ_of_lt (ih.lost_in x h), ih.lost_up, ?_, fun x => ?_, fun j => ?_, fun x h j hj ht => ?_, ?_⟩
      · rcases List.mem_append.1 h with h | h
        · obtain ⟨a, b, c⟩ := ih.met_in p h
          exact ⟨Nat.lt_succ_of_lt a, b, c⟩
        · obtain rfl := List.mem_singleton.1 h
          exact ⟨Nat.lt_succ_self _, h1, h3⟩
      · rw [List.map_append, List.pairwise_append]
        refine ⟨ih.met_up, List.pairwise_singleton _ _, fun a ha b hb => ?_⟩
        obtain ⟨p, hpm, rfl⟩ := List.mem_map.1 ha
        obtain rfl := List.mem_singleton.1 hb
        exact (ih.met_in p hpm).1
      · show (g.met ++ [(i, k)]).length + g.lost.length = i + 1
        rw [List.length_append, List.length_singleton]; have := ih.len; omega
      · have := ih.lines x
        rw [List.map_append, List.count_append]
        simp only [List.map_cons, List.map_nil, List.count_cons, List.count_nil]
        by_cases hx : x = i
        · subst hx
          simp at this ⊢
          omega
        · have e : (i == x) = false := by simpa using fun h => hx h.symm
          rw [e]
          by_cases hl : x < i
          · rw [if_pos hl] at this; rw [if_pos (show x < i + 1 by omega)]; simp; omega
          · rw [if_neg hl] at this; rw [if_neg (show ¬ x < i + 1 by omega)]; simp; omega
      · have := ih.samples j
        rw [List.map_append, List.count_append]
        simp only [List.map_cons, List.map_nil, List.count_cons, List.count_nil]
        by_cases hj : j = k
        · subst hj
          rw [h2] at this
          simp at this ⊢
          exact this
        · have e : (k == j) = false := by simpa using fun h => hj h.symm
          have e2 : (j == k) = false := by simpa using hj
          simp only [e, e2, Bool.or_false]
          simpa using this
      · refine ih.far x h j hj ?_
        simp at ht
        exact ht.1
      · rw [List.length_append, List.length_singleton, countP_set _ _ h2, if_pos h1, ih.many]
    · rename_i hp
      refine ⟨fun p h => ?_, ih.met_up, fun x h => ?_, ?_, ?_, fun x => ?_, ih.samples, fun x h k hk ht => ?_, ih.many⟩
      · obtain ⟨a, b, c⟩ := ih.met_in p h
        exact ⟨Nat.lt_succ_of_lt a, b, c⟩
      · rcases List.mem_append.1 h with h | h
        · exact Nat.lt_succ_of_lt (ih.lost_in x h)
        · obtain rfl := List.mem_singleton.1 h
          exact Nat.lt_succ_self _
      · rw [List.pairwise_append]
        refine ⟨ih.lost_up, List.pairwise_singleton _ _, fun a ha b hb => ?_⟩
        obtain rfl := List.mem_singleton.1 hb
        exact ih.lost_in a ha
      · show g.met.length + (g.lost ++ [i]).length = i + 1
        rw [List.length_append, List.length_singleton]; have := ih.len; omega
      · have := ih.lines x
        rw [List.count_append]
        simp only [List.count_cons, List.count_nil]
        by_cases hx : x = i
        · subst hx
          simp at this ⊢
          omega
        · have e : (i == x) = false := by simpa using fun h => hx h.symm
          rw [e]
          by_cases hl : x < i
          · rw [if_pos hl] at this; rw [if_pos (show x < i + 1 by omega)]; simp; omega
          · rw [if_neg hl] at this; rw [if_neg (show ¬ x < i + 1 by omega)]; simp; omega
      · rcases List.mem_append.1 h with h | h
        · exact ih.far x h k hk ht
        · obtain rfl := List.mem_singleton.1 h
          exact pick_none hp k hk ht
theorem bare_in {n : Nat} {g : Greed} {k : Nat} : k ∈ bare n g ↔ k < n ∧ g.tk k = false := by simp [bare]
end Go.Cx
namespace Go.Cx
set_option linter.unusedVariables false
/-- What a plain cell holds: a bool, or a number of a kind. -/
inductive PK | bool | int (k : IntKind)
def PK.ok : PK → Value → Prop
  | .bool, v => ∃ b, v = .bool b
  | .int k, v => ∃ n, v = .int k n ∧ (Lit.int k n).wf = true
def RowOk : List PK → List Value → Prop
  | [], [] => True
  | k :: ks, c :: cs => k.ok c ∧ RowOk ks cs
  | _, _ => False
theorem RowOk.length : ∀ {ks : List PK} {cs : List Value}, RowOk ks cs → cs.length = ks.length
  | [], [], _ => rfl
  | _ :: _, _ :: _, h => by rw [List.length_cons, List.length_cons, RowOk.length h.2]
theorem RowOk.app : ∀ {a b : List PK} {x y : List Value}, RowOk a x → RowOk b y → RowOk (a ++ b) (x ++ y)
  | [], _, [], _, _, h => h
  | _ :: _, _, _ :: _, _, h1, h2 => ⟨h1.1, RowOk.app h1.2 h2⟩
theorem RowOk.get : ∀ {ks : List PK} {cs : List Value}, RowOk ks cs → ∀ (i : Nat) (k : PK), ks[i]? = some k → ∃ v, cs[i]? = some v ∧ k.ok v
  | [], [], _, i, k, h => by simp at h
  | k0 :: ks, c :: cs, hr, 0, k, h => by
    simp at h
    subst h
    exact ⟨c, rfl, hr.1⟩
  | k0 :: ks, c :: cs, hr, i + 1, k, h => RowOk.get hr.2 i k (by simpa using h)
def kFields (P : Program) (go : TypeId → Option (List PK)) : List Field → Nat → Option (List PK)
  | [], _ => some []
  | f :: r, off => if f.offset = off then match go f.type with
      | some l0 => if l0.length = P.cellsOf f.type then match kFields P go r (off + l0.length) with
          | some l1 => some (l0 ++ l1)
          | none => none
        else none
      | none => none
    else none
def kArr : Nat → List PK → List PK
  | 0, _ => []
  | m + 1, l => kArr m l ++ l
theorem kArr_len (l : List PK) : ∀ m, (kArr m l).length = m * l.length
  | 0 => by simp [kArr]
  | m + 1 => by rw [kArr, List.length_append, kArr_len l m, Nat.succ_mul]
/-- The kinds of a type's cells. -/
def kinds (P : Program) : Nat → TypeId → Option (List PK)
  | 0, _ => none
  | n + 1, t => match P.underlying t with
    | some .bool => some [.bool]
    | some (.int k) => some [.int k]
    | some (.struct fs) => match kFields P (kinds P n) fs.toList 0 with
      | some l => if l.length = P.cellsOf t then some l else none
      | none => none
    | some (.array m e) => match kinds P n e with
      | some l => if l.length = P.cellsOf e ∧ (kArr m l).length = P.cellsOf t then some (kArr m l) else none
      | none => none
    | _ => none
section
variable {H : Type} {enc : TypeId × Value → H} {P : Program} {w : World} {base : Nat} {spare : Nat → Bool} {held : Bool}
theorem fields_ok {go : TypeId → Option (List PK)} {cs : List Value} : ∀ (fs : List Field) (off : Nat) (l : List PK), kFields P go fs off = some l →
    (∀ f ∈ fs, ∀ l0, go f.type = some l0 → RowOk l0 ((cs.drop f.offset).take (P.cellsOf f.type))) → RowOk l ((cs.drop off).take l.length) := by
  intro fs
  induction fs with
  | nil =>
    intro off l h _
    simp only [kFields, Option.some.injEq] at h
    subst h
    simp [RowOk]
  | cons f r ih =>
    intro off l h hg
    simp only [kFields] at h
    split at h
    rotate_left
    · cases h
    rename_i hoff
    split at h
    rotate_left
    · cases h
    rename_i l0 hl0
    split at h
    rotate_left
    · cases h
    rename_i hlen
    split at h
    rotate_left
    · cases h
    rename_i l1 hl1
    cases h
    have h1 := hg f (List.mem_cons_self ..) l0 hl0
    have h2 := ih _ _ hl1 fun f' hf' => hg f' (List.mem_cons_of_mem _ hf')
    rw [hoff, ← hlen] at h1
    rw [List.length_append, List.take_add, List.drop_drop]
    exact h1.app h2
theorem arr_ok {cs : List Value} {l : List PK} : ∀ m : Nat, (∀ i, i < m → RowOk l ((cs.drop (i * l.length)).take l.length)) → RowOk (kArr m l) (cs.take (m * l.length)) := by
  intro m
  induction m with
  | zero => intro _; simp [kArr, RowOk]
  | succ m ih =>
    intro h
    rw [kArr, Nat.succ_mul, List.take_add]
    exact (ih fun i hi => h i (by omega)).app (h m (by omega))
theorem kinds_ok : ∀ (n fuel : Nat) (t : TypeId) (cs : List Value) (x : DataW H × List MemPlace) (ks : List PK), kinds P n t = some ks → DataW.trod enc P w base spare held fuel t cs = some x → RowOk ks cs := by
  intro n
  induction n with
  | zero => intro fuel t cs x ks h; cases h
  | succ n ih =>
    intro fuel t cs x ks h hx
    simp only [kinds] at h
    split at h
    · rename_i hu
      cases h
      cases fuel with
      | zero => simp [DataW.trod] at hx
      | succ fuel =>
        unfold DataW.trod at hx
        rw [hu] at hx
        split at hx <;> simp_all [RowOk, PK.ok]
    · rename_i k hu
      cases h
      cases fuel with
      | zero => simp [DataW.trod] at hx
      | succ fuel =>
        unfold DataW.trod at hx
        rw [hu] at hx
        split at hx <;> simp_all [RowOk, PK.ok]
    · rename_i fs hu
      split at h
      rotate_left
      · cases h
      rename_i l hl
      split at h
      rotate_left
      · cases h
      rename_i hlen
      cases h
      obtain ⟨xs, m, rfl, rfl, hcl, hxl, hf⟩ := DataW.trod_struct hu hx
      have := fields_ok (P := P) (cs := cs) fs.toList 0 ks hl fun f hf' l0 hl0 => by
        obtain ⟨i, hi⟩ := List.mem_iff_getElem?.1 hf'
        have h1 := hf i f (by simpa using hi)
        have hil : i < fs.size := by
          rcases Nat.lt_or_ge i fs.size with h | h
          · exact h
          · rw [List.getElem?_eq_none (by simpa using h)] at hi; cases hi
        rw [List.getElem?_eq_getElem (by omega)] at h1
        exact ih _ _ _ _ _ hl0 h1
      rw [List.drop_zero, List.take_of_length_le (by omega)] at this
      exact this
    · rename_i m e hu
      split at h
      rotate_left
      · cases h
      rename_i l hl
      split at h
      rotate_left
      · cases h
      rename_i hlen
      cases h
      obtain ⟨xs, fm, rfl, rfl, hcl, hxl, hf⟩ := DataW.trod_array hu hx
      have := arr_ok (cs := cs) (l := l) m fun i hi => by
        have h1 := hf i hi
        rw [List.getElem?_eq_getElem (by omega)] at h1
        rw [← hlen.1] at h1
        exact ih _ _ _ _ _ hl h1
      rw [List.take_of_length_le (by rw [← kArr_len, hlen.2, hcl]; exact Nat.le_refl _)] at this
      exact this
    · cases h
/-- Rows of cells, one behind the other. -/
def RowsAt (w : World) (b off n : Nat) (rows : List (List Value)) : Prop := ∀ i (hi : i < rows.length), ∀ j (hj : j < rows[i].length), w.cell? ⟨b, off + i * n + j, none⟩ = some rows[i][j]
/-- A slice of structs of plain cells. -/
def Rows (P : Program) (w : World) (n : Nat) (ks : List PK) (v : Value) (rows : List (List Value)) : Prop :=
  (v = .slice none 0 0 ∧ rows = []) ∨ ∃ b off cap, v = .slice (some ⟨b, off, none⟩) rows.length cap ∧ rows.length ≤ cap ∧ cap ≤ maxLen ∧ RowsAt w b off n rows
theorem mapM_get {α β : Type} {f : α → Option β} : ∀ {l : List α} {r : List β}, l.mapM f = some r → r.length = l.length ∧ ∀ (i : Nat) (a : α), l[i]? = some a → f a = r[i]? := by
  intro l
  induction l with
  | nil =>
    intro r h
    simp at h
    subst h
    exact ⟨rfl, fun i a h => by simp at h⟩
  | cons x l ih =>
    intro r h
    simp only [List.mapM_cons, Option.pure_def, Option.bind_eq_bind, Option.bind_eq_some_iff] at h
    obtain ⟨y, h1, ys, h2, h3⟩ := h
    cases h3
    obtain ⟨i1, i2⟩ := ih h2
    refine ⟨by simp [i1], fun i a hi => ?_⟩
    cases i with
    | zero =>
      simp at hi
      subst hi
      simpa using h1
    | succ i => simpa using i2 i a (by simpa using hi)
theorem addr_add (b off x y : Nat) : (((⟨b, off, none⟩ : Addr).add x).add y) = ⟨b, off + x + y, none⟩ := by
  have h : ∀ o z, (⟨b, o, none⟩ : Addr).add z = ⟨b, o + z, none⟩ := by
    intro o z
    unfold Addr.add
    split
    · rename_i h; subst h; rfl
    · rfl
  rw [h, h]
theorem rows_of {b off n : Nat} {ks : List PK} (len : Nat) : (∀ i, i < len → ∃ cs', w.cells? 0 ((⟨b, off, none⟩ : Addr).add (i * n)) n = some cs' ∧ RowOk ks cs') → ∃ rows : List (List Value), rows.length = len ∧ ∀ i (hi : i < rows.length), w.cells? 0 ((⟨b, off, none⟩ : Addr).add (i * n)) n = some rows[i] ∧ RowOk ks rows[i] := by
  induction len with
  | zero => exact fun _ => ⟨[], rfl, fun i hi => by simp at hi⟩
  | succ len ih =>
    intro hex
    obtain ⟨rows, h1, h2⟩ := ih fun i hi => hex i (by omega)
    obtain ⟨cs', h3, h4⟩ := hex len (by omega)
    refine ⟨rows ++ [cs'], by simp [h1], fun i hi => ?_⟩
    by_cases h : i < rows.length
    · rw [List.getElem_append_left h]; exact h2 i h
    · have e : i = len := by simp at hi; omega
      subst e
      rw [List.getElem_append_right (by omega)]
      simp only [h1, Nat.sub_self, List.getElem_cons_zero]
      exact ⟨h3, h4⟩
theorem rows_arg {t e : TypeId} {v : Value} {d : DataW H} {ps : List MemPlace} {n m : Nat} {ks : List PK} (ht : P.underlying t = some (.slice e)) (hc : P.cellsOf e = n) (hk : kinds P m e = some ks)
    (hok : Value.okWide P w .any base t v) (h : DataW.Trod enc P w 0 (fun _ => true) true t v d ps) : ∃ rows, Rows P w n ks v rows ∧ ∀ r ∈ rows, RowOk ks r := by
  obtain ⟨a, len, cap, rfl⟩ := WideShapes.okWide_slice ht hok
  obtain ⟨fuel, hf⟩ := h
  rcases Go.Deep.open_slice ht hf with ⟨hcs, _⟩ | ⟨x, l, c, mm, nn, D, Pl, hcs, _, hl, hm, hmm, _, hel⟩
  · simp [Value.cells] at hcs
    obtain ⟨rfl, rfl, rfl⟩ := hcs
    exact ⟨[], .inl ⟨rfl, rfl⟩, fun r h => by cases h⟩
  · simp [Value.cells] at hcs
    obtain ⟨rfl, rfl, rfl⟩ := hcs
    have hlm : len ≤ mm := by rw [hmm]; simp; omega
    simp only [Value.okWide, ht, Cell.okWide, Cell.ok] at hok
    obtain ⟨_, _, _, hspot, row, cells, hsh, hlies⟩ := hok
    obtain ⟨b, off, spot⟩ := x
    simp only at hspot
    subst hspot
    have hex : ∀ i, i < len → ∃ cs', w.cells? 0 ((⟨b, off, none⟩ : Addr).add (i * n)) n = some cs' ∧ RowOk ks cs' := by
      intro i hi
      obtain ⟨cs', h1, h2⟩ := hel i (by omega)
      rw [hc] at h1
      exact ⟨cs', h1, kinds_ok _ _ _ _ _ _ hk h2⟩
    have hall := rows_of len hex
    obtain ⟨rows, hr1, hr2⟩ := hall
    subst hr1
    refine ⟨rows, .inr ⟨b, off, cap, rfl, hl, hm, fun i hi j hj => ?_⟩, fun r hr => ?_⟩
    · obtain ⟨h1, h2⟩ := hr2 i hi
      unfold World.cells? at h1
      rw [if_pos (Nat.zero_le _)] at h1
      obtain ⟨g1, g2⟩ := mapM_get h1
      have hjn : j < n := by simpa [g1] using hj
      have h3 := g2 j j (by simp [hjn])
      have hadd : ((⟨b, off, none⟩ : Addr).add (i * n)).add j = ⟨b, off + i * n + j, none⟩ := addr_add b off (i * n) j
      rw [hadd, List.getElem?_eq_getElem hj] at h3
      exact h3
    · obtain ⟨i, hi, rfl⟩ := List.getElem_of_mem hr
      exact (hr2 i hi).2
end
end Go.Cx
namespace Go.Cx
set_option linter.unusedVariables false
/-- A slice of rows of n cells each. -/
def Sl (w : World) (n : Nat) (v : Value) (rows : List (List Value)) : Prop :=
  (v = .slice none 0 0 ∧ rows = []) ∨ ∃ b off cap, v = .slice (some ⟨b, off, none⟩) rows.length cap ∧ rows.length ≤ cap ∧ cap ≤ maxLen ∧ ∀ i r, rows[i]? = some r → w.rangeAt b (off + i * n) r
theorem Sl.of_rows {P : Program} {w : World} {n : Nat} {ks : List PK} {v : Value} {rows : List (List Value)} (h : Rows P w n ks v rows) : Sl w n v rows := by
  rcases h with h | ⟨b, off, cap, h1, h2, h3, h4⟩
  · exact .inl h
  · refine .inr ⟨b, off, cap, h1, h2, h3, fun i r hi j v hj => ?_⟩
    obtain ⟨hi', rfl⟩ := List.getElem?_eq_some_iff.1 hi
    obtain ⟨hj', rfl⟩ := List.getElem?_eq_some_iff.1 hj
    exact h4 i hi' j hj'
theorem range_up {B : Nat} {w w' : World} {b o : Nat} {cs : List Value} (h : w.rangeAt b o cs) (hb : RowKit.Below B w w') (hB : b < B) : w'.rangeAt b o cs := fun j v hj => by
  have h1 := h j v hj
  unfold World.cell? at h1 ⊢
  rw [hb.block b hB]
  exact h1
theorem range_lt {w : World} {b o : Nat} {cs : List Value} (h : w.rangeAt b o cs) (hl : 0 < cs.length) : b < w.heap.size := by
  have h1 := h 0 cs[0] (by simp [hl])
  exact World.block_lt_of_cell? w _ h1
theorem Sl.up {w w' : World} {n : Nat} {v : Value} {rows : List (List Value)} (h : Sl w n v rows) (hb : RowKit.Below w.heap.size w w') : Sl w' n v rows := by
  rcases h with h | ⟨b, off, cap, h1, h2, h3, h4⟩
  · exact .inl h
  · refine .inr ⟨b, off, cap, h1, h2, h3, fun i r hi => ?_⟩
    have h5 := h4 i r hi
    by_cases hl : 0 < r.length
    · exact range_up h5 hb (range_lt h5 hl)
    · have : r = [] := List.length_eq_zero_iff.1 (by omega)
      subst this
      exact fun j v hj => by simp at hj
theorem Sl.form {w : World} {n : Nat} {v : Value} {rows : List (List Value)} (h : Sl w n v rows) : ∃ a cap, v = .slice a rows.length cap ∧ rows.length ≤ cap ∧ cap ≤ maxLen ∧ (a = none → rows = [] ∧ cap = 0) := by
  rcases h with ⟨rfl, rfl⟩ | ⟨b, off, cap, rfl, h2, h3, h4⟩
  · exact ⟨none, 0, rfl, Nat.le_refl _, Nat.zero_le _, fun _ => ⟨rfl, rfl⟩⟩
  · exact ⟨_, cap, rfl, h2, h3, fun h => by cases h⟩
/-- Its form, where there is a row. -/
theorem Sl.get {w : World} {n : Nat} {v : Value} {rows : List (List Value)} (h : Sl w n v rows) (h0 : 0 < rows.length) : ∃ b off cap, v = .slice (some ⟨b, off, none⟩) rows.length cap ∧ rows.length ≤ cap ∧ cap ≤ maxLen ∧ ∀ i r, rows[i]? = some r → w.rangeAt b (off + i * n) r := by
  rcases h with ⟨_, rfl⟩ | h
  · simp at h0
  · exact h
theorem Sl.one {w : World} {n b off cap : Nat} {r : List Value} (h : w.rangeAt b off r) (h1 : 1 ≤ cap) (h2 : cap ≤ maxLen) : Sl w n (.slice (some ⟨b, off, none⟩) 1 cap) [r] :=
  .inr ⟨b, off, cap, rfl, h1, h2, fun i r' hi => by
    cases i with
    | zero => simp at hi; subst hi; simpa using h
    | succ i => simp at hi⟩
/-- What is read of a row of one's own. -/
theorem own_get {w : World} {base : Nat} {e : TypeId} {size : Nat} {v : Value} {n : Nat} {xs : List Value} (h : w.ownsRow base e size v n xs) : ∃ a cap, v = .slice a n cap ∧ n ≤ cap ∧ cap ≤ maxLen ∧ (a = none → n = 0 ∧ cap = 0) ∧ (0 < n → ∃ g, a = some ⟨g, 0, none⟩ ∧ base ≤ g ∧ w.rangeAt g 0 xs) := by
  obtain ⟨h1, h2⟩ := h
  rcases h2 with ⟨rfl, rfl⟩ | ⟨g, cap, cur, rfl, hb, hg, hn, hc, hs, ht⟩
  · exact ⟨none, 0, rfl, Nat.le_refl _, Nat.zero_le _, fun _ => ⟨rfl, rfl⟩, fun h => absurd h (by omega)⟩
  · refine ⟨_, cap, rfl, hn, hc, (fun h => by cases h), fun _ => ⟨g, rfl, hb, fun j v hj => ?_⟩⟩
    rw [Nat.zero_add, cell_of_row w g j cur e (0, 0) hg, ← Array.getElem?_toList]
    rw [← ht, List.getElem?_take] at hj
    split at hj
    · exact hj
    · cases hj
/-- A part of a range. -/
theorem range_part {w : World} {b o : Nat} {cs : List Value} (h : w.rangeAt b o cs) (i n : Nat) : w.rangeAt b (o + i) ((cs.drop i).take n) := fun j v hj => by
  rw [List.getElem?_take] at hj
  split at hj
  · rw [List.getElem?_drop] at hj
    have := h (i + j) v hj
    rw [← Nat.add_assoc] at this
    exact this
  · cases hj
theorem range_cell {w : World} {b o : Nat} {cs : List Value} (h : w.rangeAt b o cs) (i : Nat) (v : Value) (hv : cs[i]? = some v) : w.cell? ⟨b, o + i, none⟩ = some v := h i v hv
/-- The cells of meetings. -/
def metC (mv : Nat → Nat → List Value) (M : List (Nat × Nat)) : List Value := M.flatMap fun p => .int .i64 p.1 :: .int .i64 p.2 :: mv p.1 p.2
theorem metC_len (mv : Nat → Nat → List Value) (hm : ∀ i k, (mv i k).length = 3) (M : List (Nat × Nat)) : (metC mv M).length = M.length * 5 := by
  induction M with
  | nil => rfl
  | cons p M ih =>
    unfold metC at ih ⊢
    rw [List.flatMap_cons, List.length_append, ih, List.length_cons, List.length_cons, List.length_cons, hm]
    omega
theorem metC_get (mv : Nat → Nat → List Value) (hm : ∀ i k, (mv i k).length = 3) : ∀ (M : List (Nat × Nat)) (i : Nat) (p : Nat × Nat), M[i]? = some p → ((metC mv M).drop (i * 5)).take 5 = .int .i64 p.1 :: .int .i64 p.2 :: mv p.1 p.2 := by
  intro M
  induction M with
  | nil => intro i p h; simp at h
  | cons q M ih =>
    intro i p h
    have e : metC mv (q :: M) = (.int .i64 q.1 :: .int .i64 q.2 :: mv q.1 q.2) ++ metC mv M := by unfold metC; rw [List.flatMap_cons]
    have l5 : (Value.int .i64 q.1 :: .int .i64 q.2 :: mv q.1 q.2).length = 5 := by rw [List.length_cons, List.length_cons, hm]
    rw [e]
    cases i with
    | zero =>
      simp at h
      subst h
      rw [Nat.zero_mul, List.drop_zero, List.take_append, l5, Nat.sub_self, List.take_zero, List.append_nil, List.take_of_length_le (by omega)]
    | succ i =>
      rw [List.drop_append, l5, List.drop_of_length_le (by omega), List.nil_append, show (i + 1) * 5 - 5 = i * 5 by omega]
      exact ih i p (by simpa using h)
theorem metC_app (mv : Nat → Nat → List Value) (M : List (Nat × Nat)) (i k : Nat) : metC mv (M ++ [(i, k)]) = metC mv M ++ (.int .i64 i :: .int .i64 k :: mv i k) := by
  unfold metC
  rw [List.flatMap_append]
  simp
def ints (l : List Nat) : List Value := l.map fun (x : Nat) => .int .i64 x
theorem ints_get {l : List Nat} {i x : Nat} (h : l[i]? = some x) : (ints l)[i]? = some (.int .i64 (x : Nat)) := by
  unfold ints
  rw [List.getElem?_map, h]
  rfl
end Go.Cx
