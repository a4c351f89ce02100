/- The loops of the reference's Parse of chapter 06, as functions of the text. The words that the reference's Parse of chapter 06 takes off a text. The reference's Parse of chapter 06 as a whole, by what stands behind the words. What the reference's Parse of chapter 06 takes, and what it refuses. What the reference's Parse of chapter 06 takes, and what it refuses: the whole law. The reference's Parse of chapter 06, over whatever heap. -/
import Derived.Test.YtpgddboigegplaaGreatDoorRows
import Derived.Test.YtpgddboigegplaaGreatDoorFR
import Derived.Test.YtpgddboigegplaaGreatDoorFN
namespace Go.Proofs.YtpgddboigegplaaGreatDoor.base
open Go.Dg (junk St Ex Ev Hint evCall evCodeK evLoop cleanSt bodied noOver Flats flatOver Heap AObj)
set_option linter.unusedVariables false

/-- Where the first ':' stands. -/
def colon (l : List UInt8) : Nat := l.findIdx fun b => Nat.beq b.toNat 58
theorem colon_le (l : List UInt8) : colon l ≤ l.length := List.findIdx_le_length
theorem colon_lt {l : List UInt8} {j : Nat} (h : j < colon l) (hj : j < l.length) : l[j].toNat ≠ 58 := by
  have := List.not_of_lt_findIdx h
  intro e
  rw [e] at this
  exact absurd this (by decide)
theorem colon_at {l : List UInt8} (h : colon l < l.length) : l[colon l].toNat = 58 := by
  have := List.findIdx_getElem (w := h)
  exact Nat.eq_of_beq_eq_true this
theorem stQa (lf : Nat) (s : ByteArray) (l : List UInt8) (hl : l.length ≤ 1000) : ∃ g, runQ lf (QIa s (bs l) (colon l)) = some (.exit 2, QEa s (bs l) (colon l) g) := by
  have hs : (bs l).size = l.length := bs_size l
  by_cases h : colon l < l.length
  · have hz : Dg.strAt (bs l) (colon l : Int) = some 58 := by rw [bs_get l _ h, colon_at h]; rfl
    exact ⟨lastTs (runQ lf (QIa s (bs l) (colon l))), by rw [qaB lf s (bs l) (colon l) (by omega) hz (by omega)]; rfl⟩
  · exact ⟨lastTs (runQ lf (QIa s (bs l) (colon l))), by rw [qaA lf s (bs l) (colon l) (by omega) (by omega)]; rfl⟩
theorem innera (lf : Nat) (s : ByteArray) (l : List UInt8) (hl : l.length ≤ 1000) (hf : l.length < lf) : ∃ g, ∀ s0, clQ s0 = QIa s (bs l) 0 → evLoop (runQ lf) clQ lf s0 = some (.exit 2, QEa s (bs l) (colon l) g) := by
  have hs : (bs l).size = l.length := bs_size l
  obtain ⟨g, hg⟩ := stQa lf s l hl
  have hc := colon_le l
  refine ⟨g, fun s0 h0 => Dg.loop_run (S := fun i => QIa s (bs l) i) (n := colon l) (by simp) (fun i hi => ?_) hg (by omega) h0⟩
  have hi2 : i < l.length := by omega
  exact qaR lf s (bs l) i (by omega) _ (bs_get l i hi2) (by omega) (z_rng _) (by have := colon_lt hi hi2; omega)
theorem stQb (lf : Nat) (s : ByteArray) (l : List UInt8) (j : Nat) (xs : List Value) (hl : l.length ≤ 1000) : ∃ g, runQ lf (QIb s (bs l) j xs (colon l)) = some (.exit 2, QEb s (bs l) j xs (colon l) g) := by
  have hs : (bs l).size = l.length := bs_size l
  by_cases h : colon l < l.length
  · have hz : Dg.strAt (bs l) (colon l : Int) = some 58 := by rw [bs_get l _ h, colon_at h]; rfl
    exact ⟨lastTs (runQ lf (QIb s (bs l) j xs (colon l))), by rw [qbB lf s (bs l) j xs (colon l) (by omega) hz (by omega)]; rfl⟩
  · exact ⟨lastTs (runQ lf (QIb s (bs l) j xs (colon l))), by rw [qbA lf s (bs l) j xs (colon l) (by omega) (by omega)]; rfl⟩
theorem innerb (lf : Nat) (s : ByteArray) (l : List UInt8) (j : Nat) (xs : List Value) (hl : l.length ≤ 1000) (hf : l.length < lf) : ∃ g, ∀ s0, clQ s0 = QIb s (bs l) j xs 0 → evLoop (runQ lf) clQ lf s0 = some (.exit 2, QEb s (bs l) j xs (colon l) g) := by
  have hs : (bs l).size = l.length := bs_size l
  obtain ⟨g, hg⟩ := stQb lf s l j xs hl
  have hc := colon_le l
  refine ⟨g, fun s0 h0 => Dg.loop_run (S := fun i => QIb s (bs l) j xs i) (n := colon l) (by simp) (fun i hi => ?_) hg (by omega) h0⟩
  have hi2 : i < l.length := by omega
  exact qbR lf s (bs l) j xs i (by omega) _ (bs_get l i hi2) (by omega) (z_rng _) (by have := colon_lt hi hi2; omega)
/-- Does a word of one's own stand ahead, and ": " behind it? -/
def takes (l : List UInt8) : Bool := match l[colon l + 1]? with
  | some c => Nat.beq c.toNat 32 && decide (wordOf (bs (l.take (colon l))) = bs (l.take (colon l)))
  | none => false
theorem takes_t {l : List UInt8} (h : takes l = true) : ∃ h1 : colon l + 1 < l.length, l[colon l + 1].toNat = 32 ∧ wordOf (bs (l.take (colon l))) = bs (l.take (colon l)) := by
  unfold takes at h
  split at h
  · rename_i c hc
    rw [Bool.and_eq_true, decide_eq_true_eq] at h
    obtain ⟨h1, h2⟩ := List.getElem?_eq_some_iff.1 hc
    exact ⟨h1, by rw [h2]; exact Nat.eq_of_beq_eq_true h.1, h.2⟩
  · cases h
theorem takes_f {l : List UInt8} (h : takes l = false) : l.length ≤ colon l + 1 ∨ ∃ h1 : colon l + 1 < l.length, l[colon l + 1].toNat ≠ 32 ∨ wordOf (bs (l.take (colon l))) ≠ bs (l.take (colon l)) := by
  by_cases h1 : colon l + 1 < l.length
  · refine .inr ⟨h1, ?_⟩
    unfold takes at h
    rw [List.getElem?_eq_getElem h1] at h
    simp only [Bool.and_eq_false_iff, decide_eq_false_iff_not] at h
    rcases h with h | h
    · left; intro e; rw [e] at h; exact absurd h (by decide)
    · exact .inr h
  · exact .inl (by omega)
theorem neB {u w : ByteArray} : Value.bool (!(u.toList == w.toList)) = .bool (!decide (u = w)) := by
  rw [ByteArray.toList_eq, ByteArray.toList_eq]
  by_cases h : u = w
  · simp [h]
  · simp [h]
    exact fun e => h (ByteArray.ext e)
end Go.Proofs.YtpgddboigegplaaGreatDoor.base

namespace Go.Proofs.YtpgddboigegplaaGreatDoor.base
open Go.Dg (junk St Ex Ev Hint evCall evCodeK evLoop cleanSt bodied noOver Flats flatOver Heap AObj)
set_option linter.unusedVariables false

/-- The words ahead, and what is left. -/
def scan : Nat → List UInt8 → List (List UInt8) × List UInt8
  | 0, l => ([], l)
  | k + 1, l => if takes l = true then (l.take (colon l) :: (scan k (l.drop (colon l + 2))).1, (scan k (l.drop (colon l + 2))).2) else ([], l)
theorem stPa (lf : Nat) (l : List UInt8) (hl : l.length ≤ 1000) (hf : 1000 < lf) (ht : takes l = false) : ∃ a g, runP lf (PIa (bs l)) = some (.exit 0, QEa (bs l) (bs l) a g) := by
  have hs : (bs l).size = l.length := bs_size l
  have hc := colon_le l
  obtain ⟨g, hI⟩ := innera lf (bs l) l hl (by omega)
  refine ⟨colon l, lastTs (runP lf (PIa (bs l))), ?_⟩
  rcases takes_f ht with h | ⟨h1, h⟩
  · rw [paE lf (bs l) (bs l) (colon l) (by omega) (by omega) g hI (by omega)]
    rfl
  · have hz := bs_get l (colon l + 1) h1
    have hz' : Dg.strAt (bs l) ((colon l : Int) + 1) = some ((l[colon l + 1].toNat : Nat) : Int) := hz
    by_cases h32 : l[colon l + 1].toNat = 32
    · have hw : wordOf (bs (l.take (colon l))) ≠ bs (l.take (colon l)) := by
        rcases h with h | h
        · exact absurd h32 h
        · exact h
      have hx : (bs l).extract 0 (colon l) = bs (l.take (colon l)) := by rw [bs_ext]; rfl
      have hsz : (bs (l.take (colon l))).size ≤ 1000 := by rw [bs_size, List.length_take]; omega
      rw [paG lf (bs l) (bs l) (colon l) (by omega) (by omega) g hI _ hz' (by omega) (by omega) (by omega) _ _ hx (word_run lf _ (by omega) (by omega)) (by rw [neB]; simp [hw])]
      rfl
    · rw [paF lf (bs l) (bs l) (colon l) (by omega) (by omega) g hI _ hz' (by omega) (z_rng _) (by omega)]
      rfl
theorem stPb (lf : Nat) (l : List UInt8) (s : ByteArray) (j : Nat) (xs : List Value) (a0 : Nat) (hl : l.length ≤ 1000) (hf : 1000 < lf) (ht : takes l = false) : ∃ a g, runP lf (PIb s (bs l) j xs a0) = some (.exit 0, QEb s (bs l) j xs a g) := by
  have hs : (bs l).size = l.length := bs_size l
  have hc := colon_le l
  obtain ⟨g, hI⟩ := innerb lf s l j xs hl (by omega)
  refine ⟨colon l, lastTs (runP lf (PIb s (bs l) j xs a0)), ?_⟩
  rcases takes_f ht with h | ⟨h1, h⟩
  · rw [pbE lf s (bs l) j xs a0 (colon l) (by omega) (by omega) g hI (by omega)]
    rfl
  · have hz := bs_get l (colon l + 1) h1
    have hz' : Dg.strAt (bs l) ((colon l : Int) + 1) = some ((l[colon l + 1].toNat : Nat) : Int) := hz
    by_cases h32 : l[colon l + 1].toNat = 32
    · have hw : wordOf (bs (l.take (colon l))) ≠ bs (l.take (colon l)) := by
        rcases h with h | h
        · exact absurd h32 h
        · exact h
      have hx : (bs l).extract 0 (colon l) = bs (l.take (colon l)) := by rw [bs_ext]; rfl
      have hsz : (bs (l.take (colon l))).size ≤ 1000 := by rw [bs_size, List.length_take]; omega
      rw [pbG lf s (bs l) j xs a0 (colon l) (by omega) (by omega) g hI _ hz' (by omega) (by omega) (by omega) _ _ hx (word_run lf _ (by omega) (by omega)) (by rw [neB]; simp [hw])]
      rfl
    · rw [pbF lf s (bs l) j xs a0 (colon l) (by omega) (by omega) g hI _ hz' (by omega) (z_rng _) (by omega)]
      rfl
theorem drop_len {l : List UInt8} (h : takes l = true) : (l.drop (colon l + 2)).length + 2 ≤ l.length := by
  obtain ⟨h1, _, _⟩ := takes_t h
  rw [List.length_drop]
  omega
def strW (ws : List (List UInt8)) : List Value := ws.map fun w => Value.string (bs w)
theorem outer_b (lf : Nat) (s : ByteArray) (hf : 1000 < lf) : ∀ (k : Nat) (l : List UInt8) (j : Nat) (xs : List Value) (a0 : Nat), l.length ≤ k → l.length ≤ 1000 → (∀ v ∈ xs, ∃ b, v = Value.string b) → j = xs.length → j + l.length ≤ 1000 →
    ∃ a g, ∀ fuel, k < fuel → ∀ s0, clP s0 = PIb s (bs l) j xs a0 → evLoop (runP lf) clP fuel s0 = some (.exit 0, QEb s (bs (scan k l).2) (j + (scan k l).1.length) (xs ++ strW (scan k l).1) a g) := by
  intro k
  induction k with
  | zero =>
    intro l j xs a0 hk hl hx hj hj2
    obtain rfl : l = [] := List.eq_nil_of_length_eq_zero (by omega)
    obtain ⟨a, g, h⟩ := stPb lf [] s j xs a0 (by simp) hf rfl
    refine ⟨a, g, fun fuel hfu s0 h0 => ?_⟩
    obtain ⟨m, rfl⟩ : ∃ m, fuel = m + 1 := ⟨fuel - 1, by omega⟩
    have := Dg.evLoop_stop h0 h (n := m) (by simp)
    rw [this]
    simp [scan, strW]
  | succ k ih =>
    intro l j xs a0 hk hl hx hj hj2
    cases ht : takes l with
    | false =>
      obtain ⟨a, g, h⟩ := stPb lf l s j xs a0 hl hf ht
      refine ⟨a, g, fun fuel hfu s0 h0 => ?_⟩
      obtain ⟨m, rfl⟩ : ∃ m, fuel = m + 1 := ⟨fuel - 1, by omega⟩
      have := Dg.evLoop_stop h0 h (n := m) (by simp)
      rw [this]
      simp [scan, ht, strW]
    | true =>
      have hs : (bs l).size = l.length := bs_size l
      have hc := colon_le l
      have hdl := drop_len ht
      obtain ⟨h1, h32, hw⟩ := takes_t ht
      obtain ⟨g, hI⟩ := innerb lf s l j xs hl (by omega)
      have hz' : Dg.strAt (bs l) ((colon l : Int) + 1) = some ((l[colon l + 1].toNat : Nat) : Int) := bs_get l (colon l + 1) h1
      have hxx : (bs l).extract 0 (colon l) = bs (l.take (colon l)) := by rw [bs_ext]; rfl
      have hsz : (bs (l.take (colon l))).size ≤ 1000 := by rw [bs_size, List.length_take]; omega
      have hr2 : (bs l).extract (colon l + 2) (bs l).size = bs (l.drop (colon l + 2)) := by rw [bs_ext, hs, List.take_of_length_le (Nat.le_refl _)]
      obtain ⟨s', e1, e2⟩ := pbR lf s (bs l) j xs a0 (colon l) (by omega) (by omega) g hI _ hz' (by omega) (by omega) (by omega) _ _ hxx (word_run lf _ (by omega) (by omega)) (by rw [neB]; simp [hw]) hx hj (by omega) _ hr2
      obtain ⟨a, g2, h⟩ := ih (l.drop (colon l + 2)) (j + 1) (xs ++ [.string (bs (l.take (colon l)))]) (colon l) (by omega) (by omega) (fun v hv => by
        rcases List.mem_append.1 hv with hv | hv
        · exact hx v hv
        · exact ⟨_, List.mem_singleton.1 hv⟩) (by simp [hj]) (by omega)
      refine ⟨a, g2, fun fuel hfu s0 h0 => ?_⟩
      obtain ⟨m, rfl⟩ : ∃ m, fuel = m + 1 := ⟨fuel - 1, by omega⟩
      rw [Dg.evLoop_step h0 e1]
      have := h m (by omega) s' e2
      rw [this]
      simp only [scan, ht, if_true, List.length_cons, strW, List.map_cons, List.append_assoc, List.singleton_append]
      rw [show j + 1 + (scan k (l.drop (colon l + 2))).1.length = j + ((scan k (l.drop (colon l + 2))).1.length + 1) by omega]
theorem outer_a (lf : Nat) (hf : 1001 < lf) (l : List UInt8) (hl : l.length ≤ 1000) :
    (takes l = false ∧ ∃ a g, ∀ s0, clP s0 = PIa (bs l) → evLoop (runP lf) clP lf s0 = some (.exit 0, QEa (bs l) (bs l) a g)) ∨
    (takes l = true ∧ ∃ a g, ∀ s0, clP s0 = PIa (bs l) → evLoop (runP lf) clP lf s0 = some (.exit 0, QEb (bs l) (bs (scan (l.length + 1) l).2) (scan (l.length + 1) l).1.length (strW (scan (l.length + 1) l).1) a g)) := by
  obtain ⟨m, rfl⟩ : ∃ m, lf = m + 1 := ⟨lf - 1, by omega⟩
  cases ht : takes l with
  | false =>
    obtain ⟨a, g, h⟩ := stPa (m + 1) l hl (by omega) ht
    exact .inl ⟨rfl, a, g, fun s0 h0 => Dg.evLoop_stop h0 h (by simp)⟩
  | true =>
    have hs : (bs l).size = l.length := bs_size l
    have hc := colon_le l
    have hdl := drop_len ht
    obtain ⟨h1, h32, hw⟩ := takes_t ht
    obtain ⟨g, hI⟩ := innera (m + 1) (bs l) l hl (by omega)
    have hz' : Dg.strAt (bs l) ((colon l : Int) + 1) = some ((l[colon l + 1].toNat : Nat) : Int) := bs_get l (colon l + 1) h1
    have hxx : (bs l).extract 0 (colon l) = bs (l.take (colon l)) := by rw [bs_ext]; rfl
    have hsz : (bs (l.take (colon l))).size ≤ 1000 := by rw [bs_size, List.length_take]; omega
    have hr2 : (bs l).extract (colon l + 2) (bs l).size = bs (l.drop (colon l + 2)) := by rw [bs_ext, hs, List.take_of_length_le (Nat.le_refl _)]
    obtain ⟨s', e1, e2⟩ := paR (m + 1) (bs l) (bs l) (colon l) (by omega) (by omega) g hI _ hz' (by omega) (by omega) (by omega) _ _ hxx (word_run (m + 1) _ (by omega) (by omega)) (by rw [neB]; simp [hw]) _ hr2
    obtain ⟨a, g2, h⟩ := outer_b (m + 1) (bs l) (by omega) l.length (l.drop (colon l + 2)) 1 [.string (bs (l.take (colon l)))] (colon l) (by omega) (by omega) (fun v hv => ⟨_, List.mem_singleton.1 hv⟩) rfl (by omega)
    refine .inr ⟨rfl, a, g2, fun s0 h0 => ?_⟩
    rw [Dg.evLoop_step h0 e1]
    have := h m (by omega) s' e2
    rw [this]
    simp only [scan, ht, if_true, List.length_cons, strW, List.map_cons, List.singleton_append]
    rw [Nat.add_comm 1]
end Go.Proofs.YtpgddboigegplaaGreatDoor.base

namespace Go.Proofs.YtpgddboigegplaaGreatDoor.base
open Go.Dg (junk St Ex Ev Hint evCall evCallS evCode evCodeK innerKp evCodeS evLoop cleanSt ue bodied noOver sbOf headOf tailOf bodyOf rAssign rBody lBody Flats flatOver Heap AObj SCall Law ofLaw Fix)
set_option linter.unusedVariables false
set_option linter.unusedSimpArgs false

def kS5 : ByteArray := ⟨#[107, 105, 110, 100, 32]⟩
def aS4 : ByteArray := ⟨#[32, 97, 116, 32]⟩
--< ra1
theorem ra1 (lf : Nat) (s : ByteArray) (rest : ByteArray) (a : Nat) (g : Nat → Value) (hs : ByteArray.size s ≤ 1000) (hr : ByteArray.size rest ≤ 1000) (hl : ∀ (s0 : St), clP s0 = PIa s → evLoop (runP lf) clP lf s0 = some (Ex.exit 0, QEa s rest a g)) (h6 : ByteArray.size rest < 6) :
    evCall Tryz.prog 0 (bodied Tryz.prog) noOver sbs lf 32 23 [Value.string s] { n := 0, objs := [] } = some (Value.tuple #[Value.slice none 0 0, Value.int IntKind.i64 0, Value.int IntKind.i64 0, Value.bool false], { n := 0, objs := [] }, []) :=
  Dg.evCall_hint (hs' := []) (hs := [Hint.loop 23 (Ex.exit 0) (QEa s rest a g),
    Hint.val 23 60 (Value.bool true)])
    [evLoop (runP lf) clP lf { ts := [Value.string s, undef, Value.slice none 0 0, Value.int IntKind.i64 0, Value.int IntKind.i64 0, Value.bool false, Value.slice none 0 0, Value.string s, undef, undef, undef, undef, undef, Value.string s, undef, undef, undef, undef, undef, undef, undef, undef, undef, undef, undef, undef, undef, undef, undef, undef, undef, undef, undef, undef, undef, undef, undef, undef, undef, undef, undef, undef, undef, undef, undef, undef, undef, undef, undef, undef, undef, undef, undef, undef, undef, undef, undef, undef, undef, undef, undef, undef, undef, undef, undef, undef, undef, undef, undef, undef, undef, undef, undef, undef, undef, undef, undef, undef, undef, undef, undef, undef, undef, undef, undef, undef, undef, undef, undef, undef, undef, undef, undef, undef, undef, undef, undef, undef, undef, undef, undef, undef, undef, undef, undef, undef, undef, undef, undef, undef, undef, undef, undef, undef, undef, undef], H := { n := 0, objs := [] }, log := [] } = some (Ex.exit 0, QEa s rest a g),
    Value.bool (decide ((↑(ByteArray.size rest) : Int) < (6 : Int))) = Value.bool true] (by kernel_rfl)
    ⟨hl _ (by kernel_rfl), Dg.vtrue (by omega), trivial⟩
--> ra1
--< ra2
theorem ra2 (lf : Nat) (s : ByteArray) (rest : ByteArray) (a : Nat) (g : Nat → Value) (hs : ByteArray.size s ≤ 1000) (hr : ByteArray.size rest ≤ 1000) (hl : ∀ (s0 : St), clP s0 = PIa s → evLoop (runP lf) clP lf s0 = some (Ex.exit 0, QEa s rest a g)) (k5 : ByteArray) (h5 : ByteArray.extract rest 0 5 = k5) (h6 : 6 ≤ ByteArray.size rest) (hk : (Value.bool !ByteArray.toList k5 == ByteArray.toList kS5) = Value.bool true) :
    evCall Tryz.prog 0 (bodied Tryz.prog) noOver sbs lf 32 23 [Value.string s] { n := 0, objs := [] } = some (Value.tuple #[Value.slice none 0 0, Value.int IntKind.i64 0, Value.int IntKind.i64 0, Value.bool false], { n := 0, objs := [] }, []) :=
  Dg.evCall_hint (hs' := []) (hs := [Hint.loop 23 (Ex.exit 0) (QEa s rest a g),
    Hint.val 23 60 (Value.bool false),
    Hint.soft 23 63 (Value.string k5),
    Hint.val 23 64 (Value.bool true)])
    [evLoop (runP lf) clP lf { ts := [Value.string s, undef, Value.slice none 0 0, Value.int IntKind.i64 0, Value.int IntKind.i64 0, Value.bool false, Value.slice none 0 0, Value.string s, undef, undef, undef, undef, undef, Value.string s, undef, undef, undef, undef, undef, undef, undef, undef, undef, undef, undef, undef, undef, undef, undef, undef, undef, undef, undef, undef, undef, undef, undef, undef, undef, undef, undef, undef, undef, undef, undef, undef, undef, undef, undef, undef, undef, undef, undef, undef, undef, undef, undef, undef, undef, undef, undef, undef, undef, undef, undef, undef, undef, undef, undef, undef, undef, undef, undef, undef, undef, undef, undef, undef, undef, undef, undef, undef, undef, undef, undef, undef, undef, undef, undef, undef, undef, undef, undef, undef, undef, undef, undef, undef, undef, undef, undef, undef, undef, undef, undef, undef, undef, undef, undef, undef, undef, undef, undef, undef, undef, undef], H := { n := 0, objs := [] }, log := [] } = some (Ex.exit 0, QEa s rest a g),
    Value.bool (decide ((↑(ByteArray.size rest) : Int) < (6 : Int))) = Value.bool false,
    (0 : Int) ≤ (5 : Int),
    (0 : Nat) ≤ Int.toNat (5 : Int) ∧ Int.toNat (5 : Int) ≤ ByteArray.size rest,
    Value.string (ByteArray.extract rest (0 : Nat) (Int.toNat (5 : Int))) = Value.string k5,
    (Value.bool !ByteArray.toList k5 == ByteArray.toList { data := #[(107 : UInt8), (105 : UInt8), (110 : UInt8), (100 : UInt8), (32 : UInt8)] }) = Value.bool true] (by kernel_rfl)
    ⟨hl _ (by kernel_rfl), Dg.vfalse (by omega), by omega, by omega, by simp; omega, hk, trivial⟩
--> ra2
--< ra3
theorem ra3 (lf : Nat) (s : ByteArray) (rest : ByteArray) (a : Nat) (g : Nat → Value) (hs : ByteArray.size s ≤ 1000) (hr : ByteArray.size rest ≤ 1000) (hl : ∀ (s0 : St), clP s0 = PIa s → evLoop (runP lf) clP lf s0 = some (Ex.exit 0, QEa s rest a g)) (k5 : ByteArray) (h5 : ByteArray.extract rest 0 5 = k5) (h6 : 6 ≤ ByteArray.size rest) (hk : (Value.bool !ByteArray.toList k5 == ByteArray.toList kS5) = Value.bool false) (h400 : 400 < ByteArray.size s) :
    evCall Tryz.prog 0 (bodied Tryz.prog) noOver sbs lf 32 23 [Value.string s] { n := 0, objs := [] } = some (Value.tuple #[Value.slice none 0 0, Value.int IntKind.i64 0, Value.int IntKind.i64 0, Value.bool false], { n := 0, objs := [] }, []) :=
  Dg.evCall_hint (hs' := []) (hs := [Hint.loop 23 (Ex.exit 0) (QEa s rest a g),
    Hint.val 23 60 (Value.bool false),
    Hint.soft 23 63 (Value.string k5),
    Hint.val 23 64 (Value.bool false),
    Hint.val 23 69 (Value.bool true)])
    [evLoop (runP lf) clP lf { ts := [Value.string s, undef, Value.slice none 0 0, Value.int IntKind.i64 0, Value.int IntKind.i64 0, Value.bool false, Value.slice none 0 0, Value.string s, undef, undef, undef, undef, undef, Value.string s, undef, undef, undef, undef, undef, undef, undef, undef, undef, undef, undef, undef, undef, undef, undef, undef, undef, undef, undef, undef, undef, undef, undef, undef, undef, undef, undef, undef, undef, undef, undef, undef, undef, undef, undef, undef, undef, undef, undef, undef, undef, undef, undef, undef, undef, undef, undef, undef, undef, undef, undef, undef, undef, undef, undef, undef, undef, undef, undef, undef, undef, undef, undef, undef, undef, undef, undef, undef, undef, undef, undef, undef, undef, undef, undef, undef, undef, undef, undef, undef, undef, undef, undef, undef, undef, undef, undef, undef, undef, undef, undef, undef, undef, undef, undef, undef, undef, undef, undef, undef, undef, undef], H := { n := 0, objs := [] }, log := [] } = some (Ex.exit 0, QEa s rest a g),
    Value.bool (decide ((↑(ByteArray.size rest) : Int) < (6 : Int))) = Value.bool false,
    (0 : Int) ≤ (5 : Int),
    (0 : Nat) ≤ Int.toNat (5 : Int) ∧ Int.toNat (5 : Int) ≤ ByteArray.size rest,
    Value.string (ByteArray.extract rest (0 : Nat) (Int.toNat (5 : Int))) = Value.string k5,
    (Value.bool !ByteArray.toList k5 == ByteArray.toList { data := #[(107 : UInt8), (105 : UInt8), (110 : UInt8), (100 : UInt8), (32 : UInt8)] }) = Value.bool false,
    Value.bool (decide ((↑(ByteArray.size s) : Int) > (400 : Int))) = Value.bool true] (by kernel_rfl)
    ⟨hl _ (by kernel_rfl), Dg.vfalse (by omega), by omega, by omega, by simp; omega, hk, Dg.vtrue (by omega), trivial⟩
--> ra3
--< ra5
theorem ra5 (lf : Nat) (s : ByteArray) (rest : ByteArray) (a : Nat) (g : Nat → Value) (hs : ByteArray.size s ≤ 1000) (hr : ByteArray.size rest ≤ 1000) (hl : ∀ (s0 : St), clP s0 = PIa s → evLoop (runP lf) clP lf s0 = some (Ex.exit 0, QEa s rest a g)) (k5 : ByteArray) (h5 : ByteArray.extract rest 0 5 = k5) (h6 : 6 ≤ ByteArray.size rest) (hk : (Value.bool !ByteArray.toList k5 == ByteArray.toList kS5) = Value.bool false) (h400 : ByteArray.size s ≤ 400) (hr1 : evCall Tryz.prog 0 (bodied Tryz.prog) noOver sbs lf 31 40 [Value.string rest, Value.int IntKind.i64 5] { n := 0, objs := [] } = some (Value.tuple #[Value.int IntKind.i64 0, Value.int IntKind.i64 (-1)], { n := 0, objs := [] }, [])) :
    evCall Tryz.prog 0 (bodied Tryz.prog) noOver sbs lf 32 23 [Value.string s] { n := 0, objs := [] } = some (Value.tuple #[Value.slice none 0 0, Value.int IntKind.i64 0, Value.int IntKind.i64 0, Value.bool false], { n := 0, objs := [] }, []) :=
  Dg.evCall_hint (hs' := []) (hs := [Hint.loop 23 (Ex.exit 0) (QEa s rest a g),
    Hint.val 23 60 (Value.bool false),
    Hint.soft 23 63 (Value.string k5),
    Hint.val 23 64 (Value.bool false),
    Hint.val 23 69 (Value.bool false),
    Hint.call 40 (Value.tuple #[Value.int IntKind.i64 0, Value.int IntKind.i64 (-1)]) { n := 0, objs := [] } []])
    [evLoop (runP lf) clP lf { ts := [Value.string s, undef, Value.slice none 0 0, Value.int IntKind.i64 0, Value.int IntKind.i64 0, Value.bool false, Value.slice none 0 0, Value.string s, undef, undef, undef, undef, undef, Value.string s, undef, undef, undef, undef, undef, undef, undef, undef, undef, undef, undef, undef, undef, undef, undef, undef, undef, undef, undef, undef, undef, undef, undef, undef, undef, undef, undef, undef, undef, undef, undef, undef, undef, undef, undef, undef, undef, undef, undef, undef, undef, undef, undef, undef, undef, undef, undef, undef, undef, undef, undef, undef, undef, undef, undef, undef, undef, undef, undef, undef, undef, undef, undef, undef, undef, undef, undef, undef, undef, undef, undef, undef, undef, undef, undef, undef, undef, undef, undef, undef, undef, undef, undef, undef, undef, undef, undef, undef, undef, undef, undef, undef, undef, undef, undef, undef, undef, undef, undef, undef, undef, undef], H := { n := 0, objs := [] }, log := [] } = some (Ex.exit 0, QEa s rest a g),
    Value.bool (decide ((↑(ByteArray.size rest) : Int) < (6 : Int))) = Value.bool false,
    (0 : Int) ≤ (5 : Int),
    (0 : Nat) ≤ Int.toNat (5 : Int) ∧ Int.toNat (5 : Int) ≤ ByteArray.size rest,
    Value.string (ByteArray.extract rest (0 : Nat) (Int.toNat (5 : Int))) = Value.string k5,
    (Value.bool !ByteArray.toList k5 == ByteArray.toList { data := #[(107 : UInt8), (105 : UInt8), (110 : UInt8), (100 : UInt8), (32 : UInt8)] }) = Value.bool false,
    Value.bool (decide ((↑(ByteArray.size s) : Int) > (400 : Int))) = Value.bool false,
    evCall Tryz.prog 0 (bodied Tryz.prog) noOver sbs lf 31 40 [Value.string rest, Value.int IntKind.i64 5] { n := 0, objs := [] } = some (Value.tuple #[Value.int IntKind.i64 0, Value.int IntKind.i64 (-1)], { n := 0, objs := [] }, [])] (by kernel_rfl)
    ⟨hl _ (by kernel_rfl), Dg.vfalse (by omega), by omega, by omega, by simp; omega, hk, Dg.vfalse (by omega), hr1, trivial⟩
--> ra5
--< ra6
theorem ra6 (lf : Nat) (s : ByteArray) (rest : ByteArray) (a : Nat) (g : Nat → Value) (hs : ByteArray.size s ≤ 1000) (hr : ByteArray.size rest ≤ 1000) (hl : ∀ (s0 : St), clP s0 = PIa s → evLoop (runP lf) clP lf s0 = some (Ex.exit 0, QEa s rest a g)) (k5 : ByteArray) (h5 : ByteArray.extract rest 0 5 = k5) (h6 : 6 ≤ ByteArray.size rest) (hk : (Value.bool !ByteArray.toList k5 == ByteArray.toList kS5) = Value.bool false) (h400 : ByteArray.size s ≤ 400) (e1 : Nat) (hr1 : evCall Tryz.prog 0 (bodied Tryz.prog) noOver sbs lf 31 40 [Value.string rest, Value.int IntKind.i64 5] { n := 0, objs := [] } = some (Value.tuple #[Value.int IntKind.i64 0, Value.int IntKind.i64 (↑e1 : Int)], { n := 0, objs := [] }, [])) :
    evCall Tryz.prog 0 (bodied Tryz.prog) noOver sbs lf 32 23 [Value.string s] { n := 0, objs := [] } = some (Value.tuple #[Value.slice none 0 0, Value.int IntKind.i64 0, Value.int IntKind.i64 0, Value.bool false], { n := 0, objs := [] }, []) :=
  Dg.evCall_hint (hs' := []) (hs := [Hint.loop 23 (Ex.exit 0) (QEa s rest a g),
    Hint.val 23 60 (Value.bool false),
    Hint.soft 23 63 (Value.string k5),
    Hint.val 23 64 (Value.bool false),
    Hint.val 23 69 (Value.bool false),
    Hint.call 40 (Value.tuple #[Value.int IntKind.i64 0, Value.int IntKind.i64 (↑e1 : Int)]) { n := 0, objs := [] } []])
    [evLoop (runP lf) clP lf { ts := [Value.string s, undef, Value.slice none 0 0, Value.int IntKind.i64 0, Value.int IntKind.i64 0, Value.bool false, Value.slice none 0 0, Value.string s, undef, undef, undef, undef, undef, Value.string s, undef, undef, undef, undef, undef, undef, undef, undef, undef, undef, undef, undef, undef, undef, undef, undef, undef, undef, undef, undef, undef, undef, undef, undef, undef, undef, undef, undef, undef, undef, undef, undef, undef, undef, undef, undef, undef, undef, undef, undef, undef, undef, undef, undef, undef, undef, undef, undef, undef, undef, undef, undef, undef, undef, undef, undef, undef, undef, undef, undef, undef, undef, undef, undef, undef, undef, undef, undef, undef, undef, undef, undef, undef, undef, undef, undef, undef, undef, undef, undef, undef, undef, undef, undef, undef, undef, undef, undef, undef, undef, undef, undef, undef, undef, undef, undef, undef, undef, undef, undef, undef, undef], H := { n := 0, objs := [] }, log := [] } = some (Ex.exit 0, QEa s rest a g),
    Value.bool (decide ((↑(ByteArray.size rest) : Int) < (6 : Int))) = Value.bool false,
    (0 : Int) ≤ (5 : Int),
    (0 : Nat) ≤ Int.toNat (5 : Int) ∧ Int.toNat (5 : Int) ≤ ByteArray.size rest,
    Value.string (ByteArray.extract rest (0 : Nat) (Int.toNat (5 : Int))) = Value.string k5,
    (Value.bool !ByteArray.toList k5 == ByteArray.toList { data := #[(107 : UInt8), (105 : UInt8), (110 : UInt8), (100 : UInt8), (32 : UInt8)] }) = Value.bool false,
    Value.bool (decide ((↑(ByteArray.size s) : Int) > (400 : Int))) = Value.bool false,
    evCall Tryz.prog 0 (bodied Tryz.prog) noOver sbs lf 31 40 [Value.string rest, Value.int IntKind.i64 5] { n := 0, objs := [] } = some (Value.tuple #[Value.int IntKind.i64 0, Value.int IntKind.i64 (↑e1 : Int)], { n := 0, objs := [] }, [])] (by kernel_rfl)
    ⟨hl _ (by kernel_rfl), Dg.vfalse (by omega), by omega, by omega, by simp; omega, hk, Dg.vfalse (by omega), hr1, trivial⟩
--> ra6
--< ra7
theorem ra7 (lf : Nat) (s : ByteArray) (rest : ByteArray) (a : Nat) (g : Nat → Value) (hs : ByteArray.size s ≤ 1000) (hr : ByteArray.size rest ≤ 1000) (hl : ∀ (s0 : St), clP s0 = PIa s → evLoop (runP lf) clP lf s0 = some (Ex.exit 0, QEa s rest a g)) (k5 : ByteArray) (h5 : ByteArray.extract rest 0 5 = k5) (h6 : 6 ≤ ByteArray.size rest) (hk : (Value.bool !ByteArray.toList k5 == ByteArray.toList kS5) = Value.bool false) (h400 : ByteArray.size s ≤ 400) (v : Int) (e1 : Nat) (hv : v ≠ 0) (he1 : e1 ≤ 1000) (hr1 : evCall Tryz.prog 0 (bodied Tryz.prog) noOver sbs lf 31 40 [Value.string rest, Value.int IntKind.i64 5] { n := 0, objs := [] } = some (Value.tuple #[Value.int IntKind.i64 v, Value.int IntKind.i64 (↑e1 : Int)], { n := 0, objs := [] }, [])) (h4 : ByteArray.size rest < e1 + 4) :
    evCall Tryz.prog 0 (bodied Tryz.prog) noOver sbs lf 32 23 [Value.string s] { n := 0, objs := [] } = some (Value.tuple #[Value.slice none 0 0, Value.int IntKind.i64 0, Value.int IntKind.i64 0, Value.bool false], { n := 0, objs := [] }, []) :=
  Dg.evCall_hint (hs' := []) (hs := [Hint.loop 23 (Ex.exit 0) (QEa s rest a g),
    Hint.val 23 60 (Value.bool false),
    Hint.soft 23 63 (Value.string k5),
    Hint.val 23 64 (Value.bool false),
    Hint.val 23 69 (Value.bool false),
    Hint.call 40 (Value.tuple #[Value.int IntKind.i64 v, Value.int IntKind.i64 (↑e1 : Int)]) { n := 0, objs := [] } [],
    Hint.val 23 85 (Value.bool false),
    Hint.val 23 91 (Value.int IntKind.i64 ((↑e1 : Int) + 4)),
    Hint.val 23 92 (Value.bool true)])
    [evLoop (runP lf) clP lf { ts := [Value.string s, undef, Value.slice none 0 0, Value.int IntKind.i64 0, Value.int IntKind.i64 0, Value.bool false, Value.slice none 0 0, Value.string s, undef, undef, undef, undef, undef, Value.string s, undef, undef, undef, undef, undef, undef, undef, undef, undef, undef, undef, undef, undef, undef, undef, undef, undef, undef, undef, undef, undef, undef, undef, undef, undef, undef, undef, undef, undef, undef, undef, undef, undef, undef, undef, undef, undef, undef, undef, undef, undef, undef, undef, undef, undef, undef, undef, undef, undef, undef, undef, undef, undef, undef, undef, undef, undef, undef, undef, undef, undef, undef, undef, undef, undef, undef, undef, undef, undef, undef, undef, undef, undef, undef, undef, undef, undef, undef, undef, undef, undef, undef, undef, undef, undef, undef, undef, undef, undef, undef, undef, undef, undef, undef, undef, undef, undef, undef, undef, undef, undef, undef], H := { n := 0, objs := [] }, log := [] } = some (Ex.exit 0, QEa s rest a g),
    Value.bool (decide ((↑(ByteArray.size rest) : Int) < (6 : Int))) = Value.bool false,
    (0 : Int) ≤ (5 : Int),
    (0 : Nat) ≤ Int.toNat (5 : Int) ∧ Int.toNat (5 : Int) ≤ ByteArray.size rest,
    Value.string (ByteArray.extract rest (0 : Nat) (Int.toNat (5 : Int))) = Value.string k5,
    (Value.bool !ByteArray.toList k5 == ByteArray.toList { data := #[(107 : UInt8), (105 : UInt8), (110 : UInt8), (100 : UInt8), (32 : UInt8)] }) = Value.bool false,
    Value.bool (decide ((↑(ByteArray.size s) : Int) > (400 : Int))) = Value.bool false,
    evCall Tryz.prog 0 (bodied Tryz.prog) noOver sbs lf 31 40 [Value.string rest, Value.int IntKind.i64 5] { n := 0, objs := [] } = some (Value.tuple #[Value.int IntKind.i64 v, Value.int IntKind.i64 (↑e1 : Int)], { n := 0, objs := [] }, []),
    Value.bool (v == (0 : Int)) = Value.bool false,
    Value.int IntKind.i64 (IntKind.wrap IntKind.i64 ((↑e1 : Int) + (4 : Int))) = Value.int IntKind.i64 ((↑e1 : Int) + (4 : Int)),
    Value.bool (decide ((↑(ByteArray.size rest) : Int) < (↑e1 : Int) + (4 : Int))) = Value.bool true] (by kernel_rfl)
    ⟨hl _ (by kernel_rfl), Dg.vfalse (by omega), by omega, by omega, by simp; omega, hk, Dg.vfalse (by omega), hr1, Dg.vfalse (by omega), Dg.i64_eq rfl (by omega) (by omega), Dg.vtrue (by omega), trivial⟩
--> ra7
--< ra8
theorem ra8 (lf : Nat) (s : ByteArray) (rest : ByteArray) (a : Nat) (g : Nat → Value) (hs : ByteArray.size s ≤ 1000) (hr : ByteArray.size rest ≤ 1000) (hl : ∀ (s0 : St), clP s0 = PIa s → evLoop (runP lf) clP lf s0 = some (Ex.exit 0, QEa s rest a g)) (k5 : ByteArray) (h5 : ByteArray.extract rest 0 5 = k5) (h6 : 6 ≤ ByteArray.size rest) (hk : (Value.bool !ByteArray.toList k5 == ByteArray.toList kS5) = Value.bool false) (h400 : ByteArray.size s ≤ 400) (v : Int) (e1 : Nat) (hv : v ≠ 0) (he1 : e1 ≤ 1000) (hr1 : evCall Tryz.prog 0 (bodied Tryz.prog) noOver sbs lf 31 40 [Value.string rest, Value.int IntKind.i64 5] { n := 0, objs := [] } = some (Value.tuple #[Value.int IntKind.i64 v, Value.int IntKind.i64 (↑e1 : Int)], { n := 0, objs := [] }, [])) (h4 : e1 + 4 ≤ ByteArray.size rest) (k4 : ByteArray) (hx4 : ByteArray.extract rest e1 (e1 + 4) = k4) (hk4 : (Value.bool !ByteArray.toList k4 == ByteArray.toList aS4) = Value.bool true) :
    evCall Tryz.prog 0 (bodied Tryz.prog) noOver sbs lf 32 23 [Value.string s] { n := 0, objs := [] } = some (Value.tuple #[Value.slice none 0 0, Value.int IntKind.i64 0, Value.int IntKind.i64 0, Value.bool false], { n := 0, objs := [] }, []) :=
  Dg.evCall_hint (hs' := []) (hs := [Hint.loop 23 (Ex.exit 0) (QEa s rest a g),
    Hint.val 23 60 (Value.bool false),
    Hint.soft 23 63 (Value.string k5),
    Hint.val 23 64 (Value.bool false),
    Hint.val 23 69 (Value.bool false),
    Hint.call 40 (Value.tuple #[Value.int IntKind.i64 v, Value.int IntKind.i64 (↑e1 : Int)]) { n := 0, objs := [] } [],
    Hint.val 23 85 (Value.bool false),
    Hint.val 23 91 (Value.int IntKind.i64 ((↑e1 : Int) + 4)),
    Hint.val 23 92 (Value.bool false),
    Hint.val 23 98 (Value.int IntKind.i64 ((↑e1 : Int) + 4)),
    Hint.soft 23 99 (Value.string k4),
    Hint.val 23 100 (Value.bool true)])
    [evLoop (runP lf) clP lf { ts := [Value.string s, undef, Value.slice none 0 0, Value.int IntKind.i64 0, Value.int IntKind.i64 0, Value.bool false, Value.slice none 0 0, Value.string s, undef, undef, undef, undef, undef, Value.string s, undef, undef, undef, undef, undef, undef, undef, undef, undef, undef, undef, undef, undef, undef, undef, undef, undef, undef, undef, undef, undef, undef, undef, undef, undef, undef, undef, undef, undef, undef, undef, undef, undef, undef, undef, undef, undef, undef, undef, undef, undef, undef, undef, undef, undef, undef, undef, undef, undef, undef, undef, undef, undef, undef, undef, undef, undef, undef, undef, undef, undef, undef, undef, undef, undef, undef, undef, undef, undef, undef, undef, undef, undef, undef, undef, undef, undef, undef, undef, undef, undef, undef, undef, undef, undef, undef, undef, undef, undef, undef, undef, undef, undef, undef, undef, undef, undef, undef, undef, undef, undef, undef], H := { n := 0, objs := [] }, log := [] } = some (Ex.exit 0, QEa s rest a g),
    Value.bool (decide ((↑(ByteArray.size rest) : Int) < (6 : Int))) = Value.bool false,
    (0 : Int) ≤ (5 : Int),
    (0 : Nat) ≤ Int.toNat (5 : Int) ∧ Int.toNat (5 : Int) ≤ ByteArray.size rest,
    Value.string (ByteArray.extract rest (0 : Nat) (Int.toNat (5 : Int))) = Value.string k5,
    (Value.bool !ByteArray.toList k5 == ByteArray.toList { data := #[(107 : UInt8), (105 : UInt8), (110 : UInt8), (100 : UInt8), (32 : UInt8)] }) = Value.bool false,
    Value.bool (decide ((↑(ByteArray.size s) : Int) > (400 : Int))) = Value.bool false,
    evCall Tryz.prog 0 (bodied Tryz.prog) noOver sbs lf 31 40 [Value.string rest, Value.int IntKind.i64 5] { n := 0, objs := [] } = some (Value.tuple #[Value.int IntKind.i64 v, Value.int IntKind.i64 (↑e1 : Int)], { n := 0, objs := [] }, []),
    Value.bool (v == (0 : Int)) = Value.bool false,
    Value.int IntKind.i64 (IntKind.wrap IntKind.i64 ((↑e1 : Int) + (4 : Int))) = Value.int IntKind.i64 ((↑e1 : Int) + (4 : Int)),
    Value.bool (decide ((↑(ByteArray.size rest) : Int) < (↑e1 : Int) + (4 : Int))) = Value.bool false,
    Value.int IntKind.i64 (IntKind.wrap IntKind.i64 ((↑e1 : Int) + (4 : Int))) = Value.int IntKind.i64 ((↑e1 : Int) + (4 : Int)),
    (0 : Int) ≤ (↑e1 : Int),
    (0 : Int) ≤ (↑e1 : Int) + (4 : Int),
    Int.toNat (↑e1 : Int) ≤ Int.toNat ((↑e1 : Int) + (4 : Int)) ∧ Int.toNat ((↑e1 : Int) + (4 : Int)) ≤ ByteArray.size rest,
    Value.string (ByteArray.extract rest (Int.toNat (↑e1 : Int)) (Int.toNat ((↑e1 : Int) + (4 : Int)))) = Value.string k4,
    (Value.bool !ByteArray.toList k4 == ByteArray.toList { data := #[(32 : UInt8), (97 : UInt8), (116 : UInt8), (32 : UInt8)] }) = Value.bool true] (by kernel_rfl)
    ⟨hl _ (by kernel_rfl), Dg.vfalse (by omega), by omega, by omega, by simp; omega, hk, Dg.vfalse (by omega), hr1, Dg.vfalse (by omega), Dg.i64_eq rfl (by omega) (by omega), Dg.vfalse (by omega), Dg.i64_eq rfl (by omega) (by omega), by omega, by omega, by omega, by rw [show ((e1 : Int) + 4).toNat = e1 + 4 by omega, Int.toNat_natCast, hx4], hk4, trivial⟩
--> ra8
--< ra9
theorem ra9 (lf : Nat) (s : ByteArray) (rest : ByteArray) (a : Nat) (g : Nat → Value) (hs : ByteArray.size s ≤ 1000) (hr : ByteArray.size rest ≤ 1000) (hl : ∀ (s0 : St), clP s0 = PIa s → evLoop (runP lf) clP lf s0 = some (Ex.exit 0, QEa s rest a g)) (k5 : ByteArray) (h5 : ByteArray.extract rest 0 5 = k5) (h6 : 6 ≤ ByteArray.size rest) (hk : (Value.bool !ByteArray.toList k5 == ByteArray.toList kS5) = Value.bool false) (h400 : ByteArray.size s ≤ 400) (v : Int) (e1 : Nat) (hv : v ≠ 0) (he1 : e1 ≤ 1000) (hr1 : evCall Tryz.prog 0 (bodied Tryz.prog) noOver sbs lf 31 40 [Value.string rest, Value.int IntKind.i64 5] { n := 0, objs := [] } = some (Value.tuple #[Value.int IntKind.i64 v, Value.int IntKind.i64 (↑e1 : Int)], { n := 0, objs := [] }, [])) (h4 : e1 + 4 ≤ ByteArray.size rest) (k4 : ByteArray) (hx4 : ByteArray.extract rest e1 (e1 + 4) = k4) (hk4 : (Value.bool !ByteArray.toList k4 == ByteArray.toList aS4) = Value.bool false) (v2 : Int) (e2 : Int) (hr2 : evCall Tryz.prog 0 (bodied Tryz.prog) noOver sbs lf 31 40 [Value.string rest, Value.int IntKind.i64 ((↑e1 : Int) + 4)] { n := 0, objs := [] } = some (Value.tuple #[Value.int IntKind.i64 v2, Value.int IntKind.i64 e2], { n := 0, objs := [] }, [])) (he2 : e2 ≠ (↑(ByteArray.size rest) : Int)) :
    evCall Tryz.prog 0 (bodied Tryz.prog) noOver sbs lf 32 23 [Value.string s] { n := 0, objs := [] } = some (Value.tuple #[Value.slice none 0 0, Value.int IntKind.i64 0, Value.int IntKind.i64 0, Value.bool false], { n := 0, objs := [] }, []) :=
  Dg.evCall_hint (hs' := []) (hs := [Hint.loop 23 (Ex.exit 0) (QEa s rest a g),
    Hint.val 23 60 (Value.bool false),
    Hint.soft 23 63 (Value.string k5),
    Hint.val 23 64 (Value.bool false),
    Hint.val 23 69 (Value.bool false),
    Hint.call 40 (Value.tuple #[Value.int IntKind.i64 v, Value.int IntKind.i64 (↑e1 : Int)]) { n := 0, objs := [] } [],
    Hint.val 23 85 (Value.bool false),
    Hint.val 23 91 (Value.int IntKind.i64 ((↑e1 : Int) + 4)),
    Hint.val 23 92 (Value.bool false),
    Hint.val 23 98 (Value.int IntKind.i64 ((↑e1 : Int) + 4)),
    Hint.soft 23 99 (Value.string k4),
    Hint.val 23 100 (Value.bool false),
    Hint.val 23 105 (Value.int IntKind.i64 ((↑e1 : Int) + 4)),
    Hint.call 40 (Value.tuple #[Value.int IntKind.i64 v2, Value.int IntKind.i64 e2]) { n := 0, objs := [] } [],
    Hint.val 23 112 (Value.bool true)])
    [evLoop (runP lf) clP lf { ts := [Value.string s, undef, Value.slice none 0 0, Value.int IntKind.i64 0, Value.int IntKind.i64 0, Value.bool false, Value.slice none 0 0, Value.string s, undef, undef, undef, undef, undef, Value.string s, undef, undef, undef, undef, undef, undef, undef, undef, undef, undef, undef, undef, undef, undef, undef, undef, undef, undef, undef, undef, undef, undef, undef, undef, undef, undef, undef, undef, undef, undef, undef, undef, undef, undef, undef, undef, undef, undef, undef, undef, undef, undef, undef, undef, undef, undef, undef, undef, undef, undef, undef, undef, undef, undef, undef, undef, undef, undef, undef, undef, undef, undef, undef, undef, undef, undef, undef, undef, undef, undef, undef, undef, undef, undef, undef, undef, undef, undef, undef, undef, undef, undef, undef, undef, undef, undef, undef, undef, undef, undef, undef, undef, undef, undef, undef, undef, undef, undef, undef, undef, undef, undef], H := { n := 0, objs := [] }, log := [] } = some (Ex.exit 0, QEa s rest a g),
    Value.bool (decide ((↑(ByteArray.size rest) : Int) < (6 : Int))) = Value.bool false,
    (0 : Int) ≤ (5 : Int),
    (0 : Nat) ≤ Int.toNat (5 : Int) ∧ Int.toNat (5 : Int) ≤ ByteArray.size rest,
    Value.string (ByteArray.extract rest (0 : Nat) (Int.toNat (5 : Int))) = Value.string k5,
    (Value.bool !ByteArray.toList k5 == ByteArray.toList { data := #[(107 : UInt8), (105 : UInt8), (110 : UInt8), (100 : UInt8), (32 : UInt8)] }) = Value.bool false,
    Value.bool (decide ((↑(ByteArray.size s) : Int) > (400 : Int))) = Value.bool false,
    evCall Tryz.prog 0 (bodied Tryz.prog) noOver sbs lf 31 40 [Value.string rest, Value.int IntKind.i64 5] { n := 0, objs := [] } = some (Value.tuple #[Value.int IntKind.i64 v, Value.int IntKind.i64 (↑e1 : Int)], { n := 0, objs := [] }, []),
    Value.bool (v == (0 : Int)) = Value.bool false,
    Value.int IntKind.i64 (IntKind.wrap IntKind.i64 ((↑e1 : Int) + (4 : Int))) = Value.int IntKind.i64 ((↑e1 : Int) + (4 : Int)),
    Value.bool (decide ((↑(ByteArray.size rest) : Int) < (↑e1 : Int) + (4 : Int))) = Value.bool false,
    Value.int IntKind.i64 (IntKind.wrap IntKind.i64 ((↑e1 : Int) + (4 : Int))) = Value.int IntKind.i64 ((↑e1 : Int) + (4 : Int)),
    (0 : Int) ≤ (↑e1 : Int),
    (0 : Int) ≤ (↑e1 : Int) + (4 : Int),
    Int.toNat (↑e1 : Int) ≤ Int.toNat ((↑e1 : Int) + (4 : Int)) ∧ Int.toNat ((↑e1 : Int) + (4 : Int)) ≤ ByteArray.size rest,
    Value.string (ByteArray.extract rest (Int.toNat (↑e1 : Int)) (Int.toNat ((↑e1 : Int) + (4 : Int)))) = Value.string k4,
    (Value.bool !ByteArray.toList k4 == ByteArray.toList { data := #[(32 : UInt8), (97 : UInt8), (116 : UInt8), (32 : UInt8)] }) = Value.bool false,
    Value.int IntKind.i64 (IntKind.wrap IntKind.i64 ((↑e1 : Int) + (4 : Int))) = Value.int IntKind.i64 ((↑e1 : Int) + (4 : Int)),
    evCall Tryz.prog 0 (bodied Tryz.prog) noOver sbs lf 31 40 [Value.string rest, Value.int IntKind.i64 ((↑e1 : Int) + 4)] { n := 0, objs := [] } = some (Value.tuple #[Value.int IntKind.i64 v2, Value.int IntKind.i64 e2], { n := 0, objs := [] }, []),
    Value.bool (e2 != (↑(ByteArray.size rest) : Int)) = Value.bool true] (by kernel_rfl)
    ⟨hl _ (by kernel_rfl), Dg.vfalse (by omega), by omega, by omega, by simp; omega, hk, Dg.vfalse (by omega), hr1, Dg.vfalse (by omega), Dg.i64_eq rfl (by omega) (by omega), Dg.vfalse (by omega), Dg.i64_eq rfl (by omega) (by omega), by omega, by omega, by omega, by rw [show ((e1 : Int) + 4).toNat = e1 + 4 by omega, Int.toNat_natCast, hx4], hk4, Dg.i64_eq rfl (by omega) (by omega), hr2, by simp; omega, trivial⟩
--> ra9
--< ra0
theorem ra0 (lf : Nat) (s : ByteArray) (rest : ByteArray) (a : Nat) (g : Nat → Value) (hs : ByteArray.size s ≤ 1000) (hr : ByteArray.size rest ≤ 1000) (hl : ∀ (s0 : St), clP s0 = PIa s → evLoop (runP lf) clP lf s0 = some (Ex.exit 0, QEa s rest a g)) (k5 : ByteArray) (h5 : ByteArray.extract rest 0 5 = k5) (h6 : 6 ≤ ByteArray.size rest) (hk : (Value.bool !ByteArray.toList k5 == ByteArray.toList kS5) = Value.bool false) (h400 : ByteArray.size s ≤ 400) (v : Int) (e1 : Nat) (hv : v ≠ 0) (he1 : e1 ≤ 1000) (hr1 : evCall Tryz.prog 0 (bodied Tryz.prog) noOver sbs lf 31 40 [Value.string rest, Value.int IntKind.i64 5] { n := 0, objs := [] } = some (Value.tuple #[Value.int IntKind.i64 v, Value.int IntKind.i64 (↑e1 : Int)], { n := 0, objs := [] }, [])) (h4 : e1 + 4 ≤ ByteArray.size rest) (k4 : ByteArray) (hx4 : ByteArray.extract rest e1 (e1 + 4) = k4) (hk4 : (Value.bool !ByteArray.toList k4 == ByteArray.toList aS4) = Value.bool false) (v2 : Int) (e2 : Int) (hr2 : evCall Tryz.prog 0 (bodied Tryz.prog) noOver sbs lf 31 40 [Value.string rest, Value.int IntKind.i64 ((↑e1 : Int) + 4)] { n := 0, objs := [] } = some (Value.tuple #[Value.int IntKind.i64 v2, Value.int IntKind.i64 e2], { n := 0, objs := [] }, [])) (he2 : e2 = (↑(ByteArray.size rest) : Int)) :
    evCall Tryz.prog 0 (bodied Tryz.prog) noOver sbs lf 32 23 [Value.string s] { n := 0, objs := [] } = some (Value.tuple #[Value.slice none 0 0, Value.int IntKind.i64 v, Value.int IntKind.i64 v2, Value.bool true], { n := 0, objs := [] }, []) :=
  Dg.evCall_hint (hs' := []) (hs := [Hint.loop 23 (Ex.exit 0) (QEa s rest a g),
    Hint.val 23 60 (Value.bool false),
    Hint.soft 23 63 (Value.string k5),
    Hint.val 23 64 (Value.bool false),
    Hint.val 23 69 (Value.bool false),
    Hint.call 40 (Value.tuple #[Value.int IntKind.i64 v, Value.int IntKind.i64 (↑e1 : Int)]) { n := 0, objs := [] } [],
    Hint.val 23 85 (Value.bool false),
    Hint.val 23 91 (Value.int IntKind.i64 ((↑e1 : Int) + 4)),
    Hint.val 23 92 (Value.bool false),
    Hint.val 23 98 (Value.int IntKind.i64 ((↑e1 : Int) + 4)),
    Hint.soft 23 99 (Value.string k4),
    Hint.val 23 100 (Value.bool false),
    Hint.val 23 105 (Value.int IntKind.i64 ((↑e1 : Int) + 4)),
    Hint.call 40 (Value.tuple #[Value.int IntKind.i64 v2, Value.int IntKind.i64 e2]) { n := 0, objs := [] } [],
    Hint.val 23 112 (Value.bool false)])
    [evLoop (runP lf) clP lf { ts := [Value.string s, undef, Value.slice none 0 0, Value.int IntKind.i64 0, Value.int IntKind.i64 0, Value.bool false, Value.slice none 0 0, Value.string s, undef, undef, undef, undef, undef, Value.string s, undef, undef, undef, undef, undef, undef, undef, undef, undef, undef, undef, undef, undef, undef, undef, undef, undef, undef, undef, undef, undef, undef, undef, undef, undef, undef, undef, undef, undef, undef, undef, undef, undef, undef, undef, undef, undef, undef, undef, undef, undef, undef, undef, undef, undef, undef, undef, undef, undef, undef, undef, undef, undef, undef, undef, undef, undef, undef, undef, undef, undef, undef, undef, undef, undef, undef, undef, undef, undef, undef, undef, undef, undef, undef, undef, undef, undef, undef, undef, undef, undef, undef, undef, undef, undef, undef, undef, undef, undef, undef, undef, undef, undef, undef, undef, undef, undef, undef, undef, undef, undef, undef], H := { n := 0, objs := [] }, log := [] } = some (Ex.exit 0, QEa s rest a g),
    Value.bool (decide ((↑(ByteArray.size rest) : Int) < (6 : Int))) = Value.bool false,
    (0 : Int) ≤ (5 : Int),
    (0 : Nat) ≤ Int.toNat (5 : Int) ∧ Int.toNat (5 : Int) ≤ ByteArray.size rest,
    Value.string (ByteArray.extract rest (0 : Nat) (Int.toNat (5 : Int))) = Value.string k5,
    (Value.bool !ByteArray.toList k5 == ByteArray.toList { data := #[(107 : UInt8), (105 : UInt8), (110 : UInt8), (100 : UInt8), (32 : UInt8)] }) = Value.bool false,
    Value.bool (decide ((↑(ByteArray.size s) : Int) > (400 : Int))) = Value.bool false,
    evCall Tryz.prog 0 (bodied Tryz.prog) noOver sbs lf 31 40 [Value.string rest, Value.int IntKind.i64 5] { n := 0, objs := [] } = some (Value.tuple #[Value.int IntKind.i64 v, Value.int IntKind.i64 (↑e1 : Int)], { n := 0, objs := [] }, []),
    Value.bool (v == (0 : Int)) = Value.bool false,
    Value.int IntKind.i64 (IntKind.wrap IntKind.i64 ((↑e1 : Int) + (4 : Int))) = Value.int IntKind.i64 ((↑e1 : Int) + (4 : Int)),
    Value.bool (decide ((↑(ByteArray.size rest) : Int) < (↑e1 : Int) + (4 : Int))) = Value.bool false,
    Value.int IntKind.i64 (IntKind.wrap IntKind.i64 ((↑e1 : Int) + (4 : Int))) = Value.int IntKind.i64 ((↑e1 : Int) + (4 : Int)),
    (0 : Int) ≤ (↑e1 : Int),
    (0 : Int) ≤ (↑e1 : Int) + (4 : Int),
    Int.toNat (↑e1 : Int) ≤ Int.toNat ((↑e1 : Int) + (4 : Int)) ∧ Int.toNat ((↑e1 : Int) + (4 : Int)) ≤ ByteArray.size rest,
    Value.string (ByteArray.extract rest (Int.toNat (↑e1 : Int)) (Int.toNat ((↑e1 : Int) + (4 : Int)))) = Value.string k4,
    (Value.bool !ByteArray.toList k4 == ByteArray.toList { data := #[(32 : UInt8), (97 : UInt8), (116 : UInt8), (32 : UInt8)] }) = Value.bool false,
    Value.int IntKind.i64 (IntKind.wrap IntKind.i64 ((↑e1 : Int) + (4 : Int))) = Value.int IntKind.i64 ((↑e1 : Int) + (4 : Int)),
    evCall Tryz.prog 0 (bodied Tryz.prog) noOver sbs lf 31 40 [Value.string rest, Value.int IntKind.i64 ((↑e1 : Int) + 4)] { n := 0, objs := [] } = some (Value.tuple #[Value.int IntKind.i64 v2, Value.int IntKind.i64 e2], { n := 0, objs := [] }, []),
    Value.bool (e2 != (↑(ByteArray.size rest) : Int)) = Value.bool false] (by kernel_rfl)
    ⟨hl _ (by kernel_rfl), Dg.vfalse (by omega), by omega, by omega, by simp; omega, hk, Dg.vfalse (by omega), hr1, Dg.vfalse (by omega), Dg.i64_eq rfl (by omega) (by omega), Dg.vfalse (by omega), Dg.i64_eq rfl (by omega) (by omega), by omega, by omega, by omega, by rw [show ((e1 : Int) + 4).toNat = e1 + 4 by omega, Int.toNat_natCast, hx4], hk4, Dg.i64_eq rfl (by omega) (by omega), hr2, by simp; omega, trivial⟩
--> ra0
--< rb1
theorem rb1 (lf : Nat) (s : ByteArray) (rest : ByteArray) (j : Nat) (xs : List Value) (a : Nat) (g : Nat → Value) (hs : ByteArray.size s ≤ 1000) (hr : ByteArray.size rest ≤ 1000) (hl : ∀ (s0 : St), clP s0 = PIa s → evLoop (runP lf) clP lf s0 = some (Ex.exit 0, QEb s rest j xs a g)) (h6 : ByteArray.size rest < 6) :
    evCall Tryz.prog 0 (bodied Tryz.prog) noOver sbs lf 32 23 [Value.string s] { n := 0, objs := [] } = some (Value.tuple #[Value.slice none 0 0, Value.int IntKind.i64 0, Value.int IntKind.i64 0, Value.bool false], { n := 0, objs := [] }, []) :=
  Dg.evCall_hint (hs' := []) (hs := [Hint.loop 23 (Ex.exit 0) (QEb s rest j xs a g),
    Hint.val 23 60 (Value.bool true)])
    [evLoop (runP lf) clP lf { ts := [Value.string s, undef, Value.slice none 0 0, Value.int IntKind.i64 0, Value.int IntKind.i64 0, Value.bool false, Value.slice none 0 0, Value.string s, undef, undef, undef, undef, undef, Value.string s, undef, undef, undef, undef, undef, undef, undef, undef, undef, undef, undef, undef, undef, undef, undef, undef, undef, undef, undef, undef, undef, undef, undef, undef, undef, undef, undef, undef, undef, undef, undef, undef, undef, undef, undef, undef, undef, undef, undef, undef, undef, undef, undef, undef, undef, undef, undef, undef, undef, undef, undef, undef, undef, undef, undef, undef, undef, undef, undef, undef, undef, undef, undef, undef, undef, undef, undef, undef, undef, undef, undef, undef, undef, undef, undef, undef, undef, undef, undef, undef, undef, undef, undef, undef, undef, undef, undef, undef, undef, undef, undef, undef, undef, undef, undef, undef, undef, undef, undef, undef, undef, undef], H := { n := 0, objs := [] }, log := [] } = some (Ex.exit 0, QEb s rest j xs a g),
    Value.bool (decide ((↑(ByteArray.size rest) : Int) < (6 : Int))) = Value.bool true] (by kernel_rfl)
    ⟨hl _ (by kernel_rfl), Dg.vtrue (by omega), trivial⟩
--> rb1
--< rb2
theorem rb2 (lf : Nat) (s : ByteArray) (rest : ByteArray) (j : Nat) (xs : List Value) (a : Nat) (g : Nat → Value) (hs : ByteArray.size s ≤ 1000) (hr : ByteArray.size rest ≤ 1000) (hl : ∀ (s0 : St), clP s0 = PIa s → evLoop (runP lf) clP lf s0 = some (Ex.exit 0, QEb s rest j xs a g)) (k5 : ByteArray) (h5 : ByteArray.extract rest 0 5 = k5) (h6 : 6 ≤ ByteArray.size rest) (hk : (Value.bool !ByteArray.toList k5 == ByteArray.toList kS5) = Value.bool true) :
    evCall Tryz.prog 0 (bodied Tryz.prog) noOver sbs lf 32 23 [Value.string s] { n := 0, objs := [] } = some (Value.tuple #[Value.slice none 0 0, Value.int IntKind.i64 0, Value.int IntKind.i64 0, Value.bool false], { n := 0, objs := [] }, []) :=
  Dg.evCall_hint (hs' := []) (hs := [Hint.loop 23 (Ex.exit 0) (QEb s rest j xs a g),
    Hint.val 23 60 (Value.bool false),
    Hint.soft 23 63 (Value.string k5),
    Hint.val 23 64 (Value.bool true)])
    [evLoop (runP lf) clP lf { ts := [Value.string s, undef, Value.slice none 0 0, Value.int IntKind.i64 0, Value.int IntKind.i64 0, Value.bool false, Value.slice none 0 0, Value.string s, undef, undef, undef, undef, undef, Value.string s, undef, undef, undef, undef, undef, undef, undef, undef, undef, undef, undef, undef, undef, undef, undef, undef, undef, undef, undef, undef, undef, undef, undef, undef, undef, undef, undef, undef, undef, undef, undef, undef, undef, undef, undef, undef, undef, undef, undef, undef, undef, undef, undef, undef, undef, undef, undef, undef, undef, undef, undef, undef, undef, undef, undef, undef, undef, undef, undef, undef, undef, undef, undef, undef, undef, undef, undef, undef, undef, undef, undef, undef, undef, undef, undef, undef, undef, undef, undef, undef, undef, undef, undef, undef, undef, undef, undef, undef, undef, undef, undef, undef, undef, undef, undef, undef, undef, undef, undef, undef, undef, undef], H := { n := 0, objs := [] }, log := [] } = some (Ex.exit 0, QEb s rest j xs a g),
    Value.bool (decide ((↑(ByteArray.size rest) : Int) < (6 : Int))) = Value.bool false,
    (0 : Int) ≤ (5 : Int),
    (0 : Nat) ≤ Int.toNat (5 : Int) ∧ Int.toNat (5 : Int) ≤ ByteArray.size rest,
    Value.string (ByteArray.extract rest (0 : Nat) (Int.toNat (5 : Int))) = Value.string k5,
    (Value.bool !ByteArray.toList k5 == ByteArray.toList { data := #[(107 : UInt8), (105 : UInt8), (110 : UInt8), (100 : UInt8), (32 : UInt8)] }) = Value.bool true] (by kernel_rfl)
    ⟨hl _ (by kernel_rfl), Dg.vfalse (by omega), by omega, by omega, by simp; omega, hk, trivial⟩
--> rb2
--< rb3
theorem rb3 (lf : Nat) (s : ByteArray) (rest : ByteArray) (j : Nat) (xs : List Value) (a : Nat) (g : Nat → Value) (hs : ByteArray.size s ≤ 1000) (hr : ByteArray.size rest ≤ 1000) (hl : ∀ (s0 : St), clP s0 = PIa s → evLoop (runP lf) clP lf s0 = some (Ex.exit 0, QEb s rest j xs a g)) (k5 : ByteArray) (h5 : ByteArray.extract rest 0 5 = k5) (h6 : 6 ≤ ByteArray.size rest) (hk : (Value.bool !ByteArray.toList k5 == ByteArray.toList kS5) = Value.bool false) (h400 : 400 < ByteArray.size s) :
    evCall Tryz.prog 0 (bodied Tryz.prog) noOver sbs lf 32 23 [Value.string s] { n := 0, objs := [] } = some (Value.tuple #[Value.slice none 0 0, Value.int IntKind.i64 0, Value.int IntKind.i64 0, Value.bool false], { n := 0, objs := [] }, []) :=
  Dg.evCall_hint (hs' := []) (hs := [Hint.loop 23 (Ex.exit 0) (QEb s rest j xs a g),
    Hint.val 23 60 (Value.bool false),
    Hint.soft 23 63 (Value.string k5),
    Hint.val 23 64 (Value.bool false),
    Hint.val 23 69 (Value.bool true)])
    [evLoop (runP lf) clP lf { ts := [Value.string s, undef, Value.slice none 0 0, Value.int IntKind.i64 0, Value.int IntKind.i64 0, Value.bool false, Value.slice none 0 0, Value.string s, undef, undef, undef, undef, undef, Value.string s, undef, undef, undef, undef, undef, undef, undef, undef, undef, undef, undef, undef, undef, undef, undef, undef, undef, undef, undef, undef, undef, undef, undef, undef, undef, undef, undef, undef, undef, undef, undef, undef, undef, undef, undef, undef, undef, undef, undef, undef, undef, undef, undef, undef, undef, undef, undef, undef, undef, undef, undef, undef, undef, undef, undef, undef, undef, undef, undef, undef, undef, undef, undef, undef, undef, undef, undef, undef, undef, undef, undef, undef, undef, undef, undef, undef, undef, undef, undef, undef, undef, undef, undef, undef, undef, undef, undef, undef, undef, undef, undef, undef, undef, undef, undef, undef, undef, undef, undef, undef, undef, undef], H := { n := 0, objs := [] }, log := [] } = some (Ex.exit 0, QEb s rest j xs a g),
    Value.bool (decide ((↑(ByteArray.size rest) : Int) < (6 : Int))) = Value.bool false,
    (0 : Int) ≤ (5 : Int),
    (0 : Nat) ≤ Int.toNat (5 : Int) ∧ Int.toNat (5 : Int) ≤ ByteArray.size rest,
    Value.string (ByteArray.extract rest (0 : Nat) (Int.toNat (5 : Int))) = Value.string k5,
    (Value.bool !ByteArray.toList k5 == ByteArray.toList { data := #[(107 : UInt8), (105 : UInt8), (110 : UInt8), (100 : UInt8), (32 : UInt8)] }) = Value.bool false,
    Value.bool (decide ((↑(ByteArray.size s) : Int) > (400 : Int))) = Value.bool true] (by kernel_rfl)
    ⟨hl _ (by kernel_rfl), Dg.vfalse (by omega), by omega, by omega, by simp; omega, hk, Dg.vtrue (by omega), trivial⟩
--> rb3
--< rb4
theorem rb4 (lf : Nat) (s : ByteArray) (rest : ByteArray) (j : Nat) (xs : List Value) (a : Nat) (g : Nat → Value) (hs : ByteArray.size s ≤ 1000) (hr : ByteArray.size rest ≤ 1000) (hl : ∀ (s0 : St), clP s0 = PIa s → evLoop (runP lf) clP lf s0 = some (Ex.exit 0, QEb s rest j xs a g)) (k5 : ByteArray) (h5 : ByteArray.extract rest 0 5 = k5) (h6 : 6 ≤ ByteArray.size rest) (hk : (Value.bool !ByteArray.toList k5 == ByteArray.toList kS5) = Value.bool false) (h400 : ByteArray.size s ≤ 400) (hj : 8 < j) :
    evCall Tryz.prog 0 (bodied Tryz.prog) noOver sbs lf 32 23 [Value.string s] { n := 0, objs := [] } = some (Value.tuple #[Value.slice none 0 0, Value.int IntKind.i64 0, Value.int IntKind.i64 0, Value.bool false], { n := 0, objs := [] }, []) :=
  Dg.evCall_hint (hs' := []) (hs := [Hint.loop 23 (Ex.exit 0) (QEb s rest j xs a g),
    Hint.val 23 60 (Value.bool false),
    Hint.soft 23 63 (Value.string k5),
    Hint.val 23 64 (Value.bool false),
    Hint.val 23 69 (Value.bool false),
    Hint.val 23 74 (Value.bool true)])
    [evLoop (runP lf) clP lf { ts := [Value.string s, undef, Value.slice none 0 0, Value.int IntKind.i64 0, Value.int IntKind.i64 0, Value.bool false, Value.slice none 0 0, Value.string s, undef, undef, undef, undef, undef, Value.string s, undef, undef, undef, undef, undef, undef, undef, undef, undef, undef, undef, undef, undef, undef, undef, undef, undef, undef, undef, undef, undef, undef, undef, undef, undef, undef, undef, undef, undef, undef, undef, undef, undef, undef, undef, undef, undef, undef, undef, undef, undef, undef, undef, undef, undef, undef, undef, undef, undef, undef, undef, undef, undef, undef, undef, undef, undef, undef, undef, undef, undef, undef, undef, undef, undef, undef, undef, undef, undef, undef, undef, undef, undef, undef, undef, undef, undef, undef, undef, undef, undef, undef, undef, undef, undef, undef, undef, undef, undef, undef, undef, undef, undef, undef, undef, undef, undef, undef, undef, undef, undef, undef], H := { n := 0, objs := [] }, log := [] } = some (Ex.exit 0, QEb s rest j xs a g),
    Value.bool (decide ((↑(ByteArray.size rest) : Int) < (6 : Int))) = Value.bool false,
    (0 : Int) ≤ (5 : Int),
    (0 : Nat) ≤ Int.toNat (5 : Int) ∧ Int.toNat (5 : Int) ≤ ByteArray.size rest,
    Value.string (ByteArray.extract rest (0 : Nat) (Int.toNat (5 : Int))) = Value.string k5,
    (Value.bool !ByteArray.toList k5 == ByteArray.toList { data := #[(107 : UInt8), (105 : UInt8), (110 : UInt8), (100 : UInt8), (32 : UInt8)] }) = Value.bool false,
    Value.bool (decide ((↑(ByteArray.size s) : Int) > (400 : Int))) = Value.bool false,
    Value.bool (decide ((↑j : Int) > (8 : Int))) = Value.bool true] (by kernel_rfl)
    ⟨hl _ (by kernel_rfl), Dg.vfalse (by omega), by omega, by omega, by simp; omega, hk, Dg.vfalse (by omega), Dg.vtrue (by omega), trivial⟩
--> rb4
--< rb5
theorem rb5 (lf : Nat) (s : ByteArray) (rest : ByteArray) (j : Nat) (xs : List Value) (a : Nat) (g : Nat → Value) (hs : ByteArray.size s ≤ 1000) (hr : ByteArray.size rest ≤ 1000) (hl : ∀ (s0 : St), clP s0 = PIa s → evLoop (runP lf) clP lf s0 = some (Ex.exit 0, QEb s rest j xs a g)) (k5 : ByteArray) (h5 : ByteArray.extract rest 0 5 = k5) (h6 : 6 ≤ ByteArray.size rest) (hk : (Value.bool !ByteArray.toList k5 == ByteArray.toList kS5) = Value.bool false) (h400 : ByteArray.size s ≤ 400) (hj : j ≤ 8) (hr1 : evCall Tryz.prog 0 (bodied Tryz.prog) noOver sbs lf 31 40 [Value.string rest, Value.int IntKind.i64 5] { n := 0, objs := [] } = some (Value.tuple #[Value.int IntKind.i64 0, Value.int IntKind.i64 (-1)], { n := 0, objs := [] }, [])) :
    evCall Tryz.prog 0 (bodied Tryz.prog) noOver sbs lf 32 23 [Value.string s] { n := 0, objs := [] } = some (Value.tuple #[Value.slice none 0 0, Value.int IntKind.i64 0, Value.int IntKind.i64 0, Value.bool false], { n := 0, objs := [] }, []) :=
  Dg.evCall_hint (hs' := []) (hs := [Hint.loop 23 (Ex.exit 0) (QEb s rest j xs a g),
    Hint.val 23 60 (Value.bool false),
    Hint.soft 23 63 (Value.string k5),
    Hint.val 23 64 (Value.bool false),
    Hint.val 23 69 (Value.bool false),
    Hint.val 23 74 (Value.bool false),
    Hint.call 40 (Value.tuple #[Value.int IntKind.i64 0, Value.int IntKind.i64 (-1)]) { n := 0, objs := [] } []])
    [evLoop (runP lf) clP lf { ts := [Value.string s, undef, Value.slice none 0 0, Value.int IntKind.i64 0, Value.int IntKind.i64 0, Value.bool false, Value.slice none 0 0, Value.string s, undef, undef, undef, undef, undef, Value.string s, undef, undef, undef, undef, undef, undef, undef, undef, undef, undef, undef, undef, undef, undef, undef, undef, undef, undef, undef, undef, undef, undef, undef, undef, undef, undef, undef, undef, undef, undef, undef, undef, undef, undef, undef, undef, undef, undef, undef, undef, undef, undef, undef, undef, undef, undef, undef, undef, undef, undef, undef, undef, undef, undef, undef, undef, undef, undef, undef, undef, undef, undef, undef, undef, undef, undef, undef, undef, undef, undef, undef, undef, undef, undef, undef, undef, undef, undef, undef, undef, undef, undef, undef, undef, undef, undef, undef, undef, undef, undef, undef, undef, undef, undef, undef, undef, undef, undef, undef, undef, undef, undef], H := { n := 0, objs := [] }, log := [] } = some (Ex.exit 0, QEb s rest j xs a g),
    Value.bool (decide ((↑(ByteArray.size rest) : Int) < (6 : Int))) = Value.bool false,
    (0 : Int) ≤ (5 : Int),
    (0 : Nat) ≤ Int.toNat (5 : Int) ∧ Int.toNat (5 : Int) ≤ ByteArray.size rest,
    Value.string (ByteArray.extract rest (0 : Nat) (Int.toNat (5 : Int))) = Value.string k5,
    (Value.bool !ByteArray.toList k5 == ByteArray.toList { data := #[(107 : UInt8), (105 : UInt8), (110 : UInt8), (100 : UInt8), (32 : UInt8)] }) = Value.bool false,
    Value.bool (decide ((↑(ByteArray.size s) : Int) > (400 : Int))) = Value.bool false,
    Value.bool (decide ((↑j : Int) > (8 : Int))) = Value.bool false,
    evCall Tryz.prog 0 (bodied Tryz.prog) noOver sbs lf 31 40 [Value.string rest, Value.int IntKind.i64 5] { n := 0, objs := [] } = some (Value.tuple #[Value.int IntKind.i64 0, Value.int IntKind.i64 (-1)], { n := 0, objs := [] }, [])] (by kernel_rfl)
    ⟨hl _ (by kernel_rfl), Dg.vfalse (by omega), by omega, by omega, by simp; omega, hk, Dg.vfalse (by omega), Dg.vfalse (by omega), hr1, trivial⟩
--> rb5
--< rb6
theorem rb6 (lf : Nat) (s : ByteArray) (rest : ByteArray) (j : Nat) (xs : List Value) (a : Nat) (g : Nat → Value) (hs : ByteArray.size s ≤ 1000) (hr : ByteArray.size rest ≤ 1000) (hl : ∀ (s0 : St), clP s0 = PIa s → evLoop (runP lf) clP lf s0 = some (Ex.exit 0, QEb s rest j xs a g)) (k5 : ByteArray) (h5 : ByteArray.extract rest 0 5 = k5) (h6 : 6 ≤ ByteArray.size rest) (hk : (Value.bool !ByteArray.toList k5 == ByteArray.toList kS5) = Value.bool false) (h400 : ByteArray.size s ≤ 400) (hj : j ≤ 8) (e1 : Nat) (hr1 : evCall Tryz.prog 0 (bodied Tryz.prog) noOver sbs lf 31 40 [Value.string rest, Value.int IntKind.i64 5] { n := 0, objs := [] } = some (Value.tuple #[Value.int IntKind.i64 0, Value.int IntKind.i64 (↑e1 : Int)], { n := 0, objs := [] }, [])) :
    evCall Tryz.prog 0 (bodied Tryz.prog) noOver sbs lf 32 23 [Value.string s] { n := 0, objs := [] } = some (Value.tuple #[Value.slice none 0 0, Value.int IntKind.i64 0, Value.int IntKind.i64 0, Value.bool false], { n := 0, objs := [] }, []) :=
  Dg.evCall_hint (hs' := []) (hs := [Hint.loop 23 (Ex.exit 0) (QEb s rest j xs a g),
    Hint.val 23 60 (Value.bool false),
    Hint.soft 23 63 (Value.string k5),
    Hint.val 23 64 (Value.bool false),
    Hint.val 23 69 (Value.bool false),
    Hint.val 23 74 (Value.bool false),
    Hint.call 40 (Value.tuple #[Value.int IntKind.i64 0, Value.int IntKind.i64 (↑e1 : Int)]) { n := 0, objs := [] } []])
    [evLoop (runP lf) clP lf { ts := [Value.string s, undef, Value.slice none 0 0, Value.int IntKind.i64 0, Value.int IntKind.i64 0, Value.bool false, Value.slice none 0 0, Value.string s, undef, undef, undef, undef, undef, Value.string s, undef, undef, undef, undef, undef, undef, undef, undef, undef, undef, undef, undef, undef, undef, undef, undef, undef, undef, undef, undef, undef, undef, undef, undef, undef, undef, undef, undef, undef, undef, undef, undef, undef, undef, undef, undef, undef, undef, undef, undef, undef, undef, undef, undef, undef, undef, undef, undef, undef, undef, undef, undef, undef, undef, undef, undef, undef, undef, undef, undef, undef, undef, undef, undef, undef, undef, undef, undef, undef, undef, undef, undef, undef, undef, undef, undef, undef, undef, undef, undef, undef, undef, undef, undef, undef, undef, undef, undef, undef, undef, undef, undef, undef, undef, undef, undef, undef, undef, undef, undef, undef, undef], H := { n := 0, objs := [] }, log := [] } = some (Ex.exit 0, QEb s rest j xs a g),
    Value.bool (decide ((↑(ByteArray.size rest) : Int) < (6 : Int))) = Value.bool false,
    (0 : Int) ≤ (5 : Int),
    (0 : Nat) ≤ Int.toNat (5 : Int) ∧ Int.toNat (5 : Int) ≤ ByteArray.size rest,
    Value.string (ByteArray.extract rest (0 : Nat) (Int.toNat (5 : Int))) = Value.string k5,
    (Value.bool !ByteArray.toList k5 == ByteArray.toList { data := #[(107 : UInt8), (105 : UInt8), (110 : UInt8), (100 : UInt8), (32 : UInt8)] }) = Value.bool false,
    Value.bool (decide ((↑(ByteArray.size s) : Int) > (400 : Int))) = Value.bool false,
    Value.bool (decide ((↑j : Int) > (8 : Int))) = Value.bool false,
    evCall Tryz.prog 0 (bodied Tryz.prog) noOver sbs lf 31 40 [Value.string rest, Value.int IntKind.i64 5] { n := 0, objs := [] } = some (Value.tuple #[Value.int IntKind.i64 0, Value.int IntKind.i64 (↑e1 : Int)], { n := 0, objs := [] }, [])] (by kernel_rfl)
    ⟨hl _ (by kernel_rfl), Dg.vfalse (by omega), by omega, by omega, by simp; omega, hk, Dg.vfalse (by omega), Dg.vfalse (by omega), hr1, trivial⟩
--> rb6
--< rb7
theorem rb7 (lf : Nat) (s : ByteArray) (rest : ByteArray) (j : Nat) (xs : List Value) (a : Nat) (g : Nat → Value) (hs : ByteArray.size s ≤ 1000) (hr : ByteArray.size rest ≤ 1000) (hl : ∀ (s0 : St), clP s0 = PIa s → evLoop (runP lf) clP lf s0 = some (Ex.exit 0, QEb s rest j xs a g)) (k5 : ByteArray) (h5 : ByteArray.extract rest 0 5 = k5) (h6 : 6 ≤ ByteArray.size rest) (hk : (Value.bool !ByteArray.toList k5 == ByteArray.toList kS5) = Value.bool false) (h400 : ByteArray.size s ≤ 400) (hj : j ≤ 8) (v : Int) (e1 : Nat) (hv : v ≠ 0) (he1 : e1 ≤ 1000) (hr1 : evCall Tryz.prog 0 (bodied Tryz.prog) noOver sbs lf 31 40 [Value.string rest, Value.int IntKind.i64 5] { n := 0, objs := [] } = some (Value.tuple #[Value.int IntKind.i64 v, Value.int IntKind.i64 (↑e1 : Int)], { n := 0, objs := [] }, [])) (h4 : ByteArray.size rest < e1 + 4) :
    evCall Tryz.prog 0 (bodied Tryz.prog) noOver sbs lf 32 23 [Value.string s] { n := 0, objs := [] } = some (Value.tuple #[Value.slice none 0 0, Value.int IntKind.i64 0, Value.int IntKind.i64 0, Value.bool false], { n := 0, objs := [] }, []) :=
  Dg.evCall_hint (hs' := []) (hs := [Hint.loop 23 (Ex.exit 0) (QEb s rest j xs a g),
    Hint.val 23 60 (Value.bool false),
    Hint.soft 23 63 (Value.string k5),
    Hint.val 23 64 (Value.bool false),
    Hint.val 23 69 (Value.bool false),
    Hint.val 23 74 (Value.bool false),
    Hint.call 40 (Value.tuple #[Value.int IntKind.i64 v, Value.int IntKind.i64 (↑e1 : Int)]) { n := 0, objs := [] } [],
    Hint.val 23 85 (Value.bool false),
    Hint.val 23 91 (Value.int IntKind.i64 ((↑e1 : Int) + 4)),
    Hint.val 23 92 (Value.bool true)])
    [evLoop (runP lf) clP lf { ts := [Value.string s, undef, Value.slice none 0 0, Value.int IntKind.i64 0, Value.int IntKind.i64 0, Value.bool false, Value.slice none 0 0, Value.string s, undef, undef, undef, undef, undef, Value.string s, undef, undef, undef, undef, undef, undef, undef, undef, undef, undef, undef, undef, undef, undef, undef, undef, undef, undef, undef, undef, undef, undef, undef, undef, undef, undef, undef, undef, undef, undef, undef, undef, undef, undef, undef, undef, undef, undef, undef, undef, undef, undef, undef, undef, undef, undef, undef, undef, undef, undef, undef, undef, undef, undef, undef, undef, undef, undef, undef, undef, undef, undef, undef, undef, undef, undef, undef, undef, undef, undef, undef, undef, undef, undef, undef, undef, undef, undef, undef, undef, undef, undef, undef, undef, undef, undef, undef, undef, undef, undef, undef, undef, undef, undef, undef, undef, undef, undef, undef, undef, undef, undef], H := { n := 0, objs := [] }, log := [] } = some (Ex.exit 0, QEb s rest j xs a g),
    Value.bool (decide ((↑(ByteArray.size rest) : Int) < (6 : Int))) = Value.bool false,
    (0 : Int) ≤ (5 : Int),
    (0 : Nat) ≤ Int.toNat (5 : Int) ∧ Int.toNat (5 : Int) ≤ ByteArray.size rest,
    Value.string (ByteArray.extract rest (0 : Nat) (Int.toNat (5 : Int))) = Value.string k5,
    (Value.bool !ByteArray.toList k5 == ByteArray.toList { data := #[(107 : UInt8), (105 : UInt8), (110 : UInt8), (100 : UInt8), (32 : UInt8)] }) = Value.bool false,
    Value.bool (decide ((↑(ByteArray.size s) : Int) > (400 : Int))) = Value.bool false,
    Value.bool (decide ((↑j : Int) > (8 : Int))) = Value.bool false,
    evCall Tryz.prog 0 (bodied Tryz.prog) noOver sbs lf 31 40 [Value.string rest, Value.int IntKind.i64 5] { n := 0, objs := [] } = some (Value.tuple #[Value.int IntKind.i64 v, Value.int IntKind.i64 (↑e1 : Int)], { n := 0, objs := [] }, []),
    Value.bool (v == (0 : Int)) = Value.bool false,
    Value.int IntKind.i64 (IntKind.wrap IntKind.i64 ((↑e1 : Int) + (4 : Int))) = Value.int IntKind.i64 ((↑e1 : Int) + (4 : Int)),
    Value.bool (decide ((↑(ByteArray.size rest) : Int) < (↑e1 : Int) + (4 : Int))) = Value.bool true] (by kernel_rfl)
    ⟨hl _ (by kernel_rfl), Dg.vfalse (by omega), by omega, by omega, by simp; omega, hk, Dg.vfalse (by omega), Dg.vfalse (by omega), hr1, Dg.vfalse (by omega), Dg.i64_eq rfl (by omega) (by omega), Dg.vtrue (by omega), trivial⟩
--> rb7
--< rb8
theorem rb8 (lf : Nat) (s : ByteArray) (rest : ByteArray) (j : Nat) (xs : List Value) (a : Nat) (g : Nat → Value) (hs : ByteArray.size s ≤ 1000) (hr : ByteArray.size rest ≤ 1000) (hl : ∀ (s0 : St), clP s0 = PIa s → evLoop (runP lf) clP lf s0 = some (Ex.exit 0, QEb s rest j xs a g)) (k5 : ByteArray) (h5 : ByteArray.extract rest 0 5 = k5) (h6 : 6 ≤ ByteArray.size rest) (hk : (Value.bool !ByteArray.toList k5 == ByteArray.toList kS5) = Value.bool false) (h400 : ByteArray.size s ≤ 400) (hj : j ≤ 8) (v : Int) (e1 : Nat) (hv : v ≠ 0) (he1 : e1 ≤ 1000) (hr1 : evCall Tryz.prog 0 (bodied Tryz.prog) noOver sbs lf 31 40 [Value.string rest, Value.int IntKind.i64 5] { n := 0, objs := [] } = some (Value.tuple #[Value.int IntKind.i64 v, Value.int IntKind.i64 (↑e1 : Int)], { n := 0, objs := [] }, [])) (h4 : e1 + 4 ≤ ByteArray.size rest) (k4 : ByteArray) (hx4 : ByteArray.extract rest e1 (e1 + 4) = k4) (hk4 : (Value.bool !ByteArray.toList k4 == ByteArray.toList aS4) = Value.bool true) :
    evCall Tryz.prog 0 (bodied Tryz.prog) noOver sbs lf 32 23 [Value.string s] { n := 0, objs := [] } = some (Value.tuple #[Value.slice none 0 0, Value.int IntKind.i64 0, Value.int IntKind.i64 0, Value.bool false], { n := 0, objs := [] }, []) :=
  Dg.evCall_hint (hs' := []) (hs := [Hint.loop 23 (Ex.exit 0) (QEb s rest j xs a g),
    Hint.val 23 60 (Value.bool false),
    Hint.soft 23 63 (Value.string k5),
    Hint.val 23 64 (Value.bool false),
    Hint.val 23 69 (Value.bool false),
    Hint.val 23 74 (Value.bool false),
    Hint.call 40 (Value.tuple #[Value.int IntKind.i64 v, Value.int IntKind.i64 (↑e1 : Int)]) { n := 0, objs := [] } [],
    Hint.val 23 85 (Value.bool false),
    Hint.val 23 91 (Value.int IntKind.i64 ((↑e1 : Int) + 4)),
    Hint.val 23 92 (Value.bool false),
    Hint.val 23 98 (Value.int IntKind.i64 ((↑e1 : Int) + 4)),
    Hint.soft 23 99 (Value.string k4),
    Hint.val 23 100 (Value.bool true)])
    [evLoop (runP lf) clP lf { ts := [Value.string s, undef, Value.slice none 0 0, Value.int IntKind.i64 0, Value.int IntKind.i64 0, Value.bool false, Value.slice none 0 0, Value.string s, undef, undef, undef, undef, undef, Value.string s, undef, undef, undef, undef, undef, undef, undef, undef, undef, undef, undef, undef, undef, undef, undef, undef, undef, undef, undef, undef, undef, undef, undef, undef, undef, undef, undef, undef, undef, undef, undef, undef, undef, undef, undef, undef, undef, undef, undef, undef, undef, undef, undef, undef, undef, undef, undef, undef, undef, undef, undef, undef, undef, undef, undef, undef, undef, undef, undef, undef, undef, undef, undef, undef, undef, undef, undef, undef, undef, undef, undef, undef, undef, undef, undef, undef, undef, undef, undef, undef, undef, undef, undef, undef, undef, undef, undef, undef, undef, undef, undef, undef, undef, undef, undef, undef, undef, undef, undef, undef, undef, undef], H := { n := 0, objs := [] }, log := [] } = some (Ex.exit 0, QEb s rest j xs a g),
    Value.bool (decide ((↑(ByteArray.size rest) : Int) < (6 : Int))) = Value.bool false,
    (0 : Int) ≤ (5 : Int),
    (0 : Nat) ≤ Int.toNat (5 : Int) ∧ Int.toNat (5 : Int) ≤ ByteArray.size rest,
    Value.string (ByteArray.extract rest (0 : Nat) (Int.toNat (5 : Int))) = Value.string k5,
    (Value.bool !ByteArray.toList k5 == ByteArray.toList { data := #[(107 : UInt8), (105 : UInt8), (110 : UInt8), (100 : UInt8), (32 : UInt8)] }) = Value.bool false,
    Value.bool (decide ((↑(ByteArray.size s) : Int) > (400 : Int))) = Value.bool false,
    Value.bool (decide ((↑j : Int) > (8 : Int))) = Value.bool false,
    evCall Tryz.prog 0 (bodied Tryz.prog) noOver sbs lf 31 40 [Value.string rest, Value.int IntKind.i64 5] { n := 0, objs := [] } = some (Value.tuple #[Value.int IntKind.i64 v, Value.int IntKind.i64 (↑e1 : Int)], { n := 0, objs := [] }, []),
    Value.bool (v == (0 : Int)) = Value.bool false,
    Value.int IntKind.i64 (IntKind.wrap IntKind.i64 ((↑e1 : Int) + (4 : Int))) = Value.int IntKind.i64 ((↑e1 : Int) + (4 : Int)),
    Value.bool (decide ((↑(ByteArray.size rest) : Int) < (↑e1 : Int) + (4 : Int))) = Value.bool false,
    Value.int IntKind.i64 (IntKind.wrap IntKind.i64 ((↑e1 : Int) + (4 : Int))) = Value.int IntKind.i64 ((↑e1 : Int) + (4 : Int)),
    (0 : Int) ≤ (↑e1 : Int),
    (0 : Int) ≤ (↑e1 : Int) + (4 : Int),
    Int.toNat (↑e1 : Int) ≤ Int.toNat ((↑e1 : Int) + (4 : Int)) ∧ Int.toNat ((↑e1 : Int) + (4 : Int)) ≤ ByteArray.size rest,
    Value.string (ByteArray.extract rest (Int.toNat (↑e1 : Int)) (Int.toNat ((↑e1 : Int) + (4 : Int)))) = Value.string k4,
    (Value.bool !ByteArray.toList k4 == ByteArray.toList { data := #[(32 : UInt8), (97 : UInt8), (116 : UInt8), (32 : UInt8)] }) = Value.bool true] (by kernel_rfl)
    ⟨hl _ (by kernel_rfl), Dg.vfalse (by omega), by omega, by omega, by simp; omega, hk, Dg.vfalse (by omega), Dg.vfalse (by omega), hr1, Dg.vfalse (by omega), Dg.i64_eq rfl (by omega) (by omega), Dg.vfalse (by omega), Dg.i64_eq rfl (by omega) (by omega), by omega, by omega, by omega, by rw [show ((e1 : Int) + 4).toNat = e1 + 4 by omega, Int.toNat_natCast, hx4], hk4, trivial⟩
--> rb8
--< rb9
theorem rb9 (lf : Nat) (s : ByteArray) (rest : ByteArray) (j : Nat) (xs : List Value) (a : Nat) (g : Nat → Value) (hs : ByteArray.size s ≤ 1000) (hr : ByteArray.size rest ≤ 1000) (hl : ∀ (s0 : St), clP s0 = PIa s → evLoop (runP lf) clP lf s0 = some (Ex.exit 0, QEb s rest j xs a g)) (k5 : ByteArray) (h5 : ByteArray.extract rest 0 5 = k5) (h6 : 6 ≤ ByteArray.size rest) (hk : (Value.bool !ByteArray.toList k5 == ByteArray.toList kS5) = Value.bool false) (h400 : ByteArray.size s ≤ 400) (hj : j ≤ 8) (v : Int) (e1 : Nat) (hv : v ≠ 0) (he1 : e1 ≤ 1000) (hr1 : evCall Tryz.prog 0 (bodied Tryz.prog) noOver sbs lf 31 40 [Value.string rest, Value.int IntKind.i64 5] { n := 0, objs := [] } = some (Value.tuple #[Value.int IntKind.i64 v, Value.int IntKind.i64 (↑e1 : Int)], { n := 0, objs := [] }, [])) (h4 : e1 + 4 ≤ ByteArray.size rest) (k4 : ByteArray) (hx4 : ByteArray.extract rest e1 (e1 + 4) = k4) (hk4 : (Value.bool !ByteArray.toList k4 == ByteArray.toList aS4) = Value.bool false) (v2 : Int) (e2 : Int) (hr2 : evCall Tryz.prog 0 (bodied Tryz.prog) noOver sbs lf 31 40 [Value.string rest, Value.int IntKind.i64 ((↑e1 : Int) + 4)] { n := 0, objs := [] } = some (Value.tuple #[Value.int IntKind.i64 v2, Value.int IntKind.i64 e2], { n := 0, objs := [] }, [])) (he2 : e2 ≠ (↑(ByteArray.size rest) : Int)) :
    evCall Tryz.prog 0 (bodied Tryz.prog) noOver sbs lf 32 23 [Value.string s] { n := 0, objs := [] } = some (Value.tuple #[Value.slice none 0 0, Value.int IntKind.i64 0, Value.int IntKind.i64 0, Value.bool false], { n := 0, objs := [] }, []) :=
  Dg.evCall_hint (hs' := []) (hs := [Hint.loop 23 (Ex.exit 0) (QEb s rest j xs a g),
    Hint.val 23 60 (Value.bool false),
    Hint.soft 23 63 (Value.string k5),
    Hint.val 23 64 (Value.bool false),
    Hint.val 23 69 (Value.bool false),
    Hint.val 23 74 (Value.bool false),
    Hint.call 40 (Value.tuple #[Value.int IntKind.i64 v, Value.int IntKind.i64 (↑e1 : Int)]) { n := 0, objs := [] } [],
    Hint.val 23 85 (Value.bool false),
    Hint.val 23 91 (Value.int IntKind.i64 ((↑e1 : Int) + 4)),
    Hint.val 23 92 (Value.bool false),
    Hint.val 23 98 (Value.int IntKind.i64 ((↑e1 : Int) + 4)),
    Hint.soft 23 99 (Value.string k4),
    Hint.val 23 100 (Value.bool false),
    Hint.val 23 105 (Value.int IntKind.i64 ((↑e1 : Int) + 4)),
    Hint.call 40 (Value.tuple #[Value.int IntKind.i64 v2, Value.int IntKind.i64 e2]) { n := 0, objs := [] } [],
    Hint.val 23 112 (Value.bool true)])
    [evLoop (runP lf) clP lf { ts := [Value.string s, undef, Value.slice none 0 0, Value.int IntKind.i64 0, Value.int IntKind.i64 0, Value.bool false, Value.slice none 0 0, Value.string s, undef, undef, undef, undef, undef, Value.string s, undef, undef, undef, undef, undef, undef, undef, undef, undef, undef, undef, undef, undef, undef, undef, undef, undef, undef, undef, undef, undef, undef, undef, undef, undef, undef, undef, undef, undef, undef, undef, undef, undef, undef, undef, undef, undef, undef, undef, undef, undef, undef, undef, undef, undef, undef, undef, undef, undef, undef, undef, undef, undef, undef, undef, undef, undef, undef, undef, undef, undef, undef, undef, undef, undef, undef, undef, undef, undef, undef, undef, undef, undef, undef, undef, undef, undef, undef, undef, undef, undef, undef, undef, undef, undef, undef, undef, undef, undef, undef, undef, undef, undef, undef, undef, undef, undef, undef, undef, undef, undef, undef], H := { n := 0, objs := [] }, log := [] } = some (Ex.exit 0, QEb s rest j xs a g),
    Value.bool (decide ((↑(ByteArray.size rest) : Int) < (6 : Int))) = Value.bool false,
    (0 : Int) ≤ (5 : Int),
    (0 : Nat) ≤ Int.toNat (5 : Int) ∧ Int.toNat (5 : Int) ≤ ByteArray.size rest,
    Value.string (ByteArray.extract rest (0 : Nat) (Int.toNat (5 : Int))) = Value.string k5,
    (Value.bool !ByteArray.toList k5 == ByteArray.toList { data := #[(107 : UInt8), (105 : UInt8), (110 : UInt8), (100 : UInt8), (32 : UInt8)] }) = Value.bool false,
    Value.bool (decide ((↑(ByteArray.size s) : Int) > (400 : Int))) = Value.bool false,
    Value.bool (decide ((↑j : Int) > (8 : Int))) = Value.bool false,
    evCall Tryz.prog 0 (bodied Tryz.prog) noOver sbs lf 31 40 [Value.string rest, Value.int IntKind.i64 5] { n := 0, objs := [] } = some (Value.tuple #[Value.int IntKind.i64 v, Value.int IntKind.i64 (↑e1 : Int)], { n := 0, objs := [] }, []),
    Value.bool (v == (0 : Int)) = Value.bool false,
    Value.int IntKind.i64 (IntKind.wrap IntKind.i64 ((↑e1 : Int) + (4 : Int))) = Value.int IntKind.i64 ((↑e1 : Int) + (4 : Int)),
    Value.bool (decide ((↑(ByteArray.size rest) : Int) < (↑e1 : Int) + (4 : Int))) = Value.bool false,
    Value.int IntKind.i64 (IntKind.wrap IntKind.i64 ((↑e1 : Int) + (4 : Int))) = Value.int IntKind.i64 ((↑e1 : Int) + (4 : Int)),
    (0 : Int) ≤ (↑e1 : Int),
    (0 : Int) ≤ (↑e1 : Int) + (4 : Int),
    Int.toNat (↑e1 : Int) ≤ Int.toNat ((↑e1 : Int) + (4 : Int)) ∧ Int.toNat ((↑e1 : Int) + (4 : Int)) ≤ ByteArray.size rest,
    Value.string (ByteArray.extract rest (Int.toNat (↑e1 : Int)) (Int.toNat ((↑e1 : Int) + (4 : Int)))) = Value.string k4,
    (Value.bool !ByteArray.toList k4 == ByteArray.toList { data := #[(32 : UInt8), (97 : UInt8), (116 : UInt8), (32 : UInt8)] }) = Value.bool false,
    Value.int IntKind.i64 (IntKind.wrap IntKind.i64 ((↑e1 : Int) + (4 : Int))) = Value.int IntKind.i64 ((↑e1 : Int) + (4 : Int)),
    evCall Tryz.prog 0 (bodied Tryz.prog) noOver sbs lf 31 40 [Value.string rest, Value.int IntKind.i64 ((↑e1 : Int) + 4)] { n := 0, objs := [] } = some (Value.tuple #[Value.int IntKind.i64 v2, Value.int IntKind.i64 e2], { n := 0, objs := [] }, []),
    Value.bool (e2 != (↑(ByteArray.size rest) : Int)) = Value.bool true] (by kernel_rfl)
    ⟨hl _ (by kernel_rfl), Dg.vfalse (by omega), by omega, by omega, by simp; omega, hk, Dg.vfalse (by omega), Dg.vfalse (by omega), hr1, Dg.vfalse (by omega), Dg.i64_eq rfl (by omega) (by omega), Dg.vfalse (by omega), Dg.i64_eq rfl (by omega) (by omega), by omega, by omega, by omega, by rw [show ((e1 : Int) + 4).toNat = e1 + 4 by omega, Int.toNat_natCast, hx4], hk4, Dg.i64_eq rfl (by omega) (by omega), hr2, by simp; omega, trivial⟩
--> rb9
--< rb0
theorem rb0 (lf : Nat) (s : ByteArray) (rest : ByteArray) (j : Nat) (xs : List Value) (a : Nat) (g : Nat → Value) (hs : ByteArray.size s ≤ 1000) (hr : ByteArray.size rest ≤ 1000) (hl : ∀ (s0 : St), clP s0 = PIa s → evLoop (runP lf) clP lf s0 = some (Ex.exit 0, QEb s rest j xs a g)) (k5 : ByteArray) (h5 : ByteArray.extract rest 0 5 = k5) (h6 : 6 ≤ ByteArray.size rest) (hk : (Value.bool !ByteArray.toList k5 == ByteArray.toList kS5) = Value.bool false) (h400 : ByteArray.size s ≤ 400) (hj : j ≤ 8) (v : Int) (e1 : Nat) (hv : v ≠ 0) (he1 : e1 ≤ 1000) (hr1 : evCall Tryz.prog 0 (bodied Tryz.prog) noOver sbs lf 31 40 [Value.string rest, Value.int IntKind.i64 5] { n := 0, objs := [] } = some (Value.tuple #[Value.int IntKind.i64 v, Value.int IntKind.i64 (↑e1 : Int)], { n := 0, objs := [] }, [])) (h4 : e1 + 4 ≤ ByteArray.size rest) (k4 : ByteArray) (hx4 : ByteArray.extract rest e1 (e1 + 4) = k4) (hk4 : (Value.bool !ByteArray.toList k4 == ByteArray.toList aS4) = Value.bool false) (v2 : Int) (e2 : Int) (hr2 : evCall Tryz.prog 0 (bodied Tryz.prog) noOver sbs lf 31 40 [Value.string rest, Value.int IntKind.i64 ((↑e1 : Int) + 4)] { n := 0, objs := [] } = some (Value.tuple #[Value.int IntKind.i64 v2, Value.int IntKind.i64 e2], { n := 0, objs := [] }, [])) (he2 : e2 = (↑(ByteArray.size rest) : Int)) :
    evCall Tryz.prog 0 (bodied Tryz.prog) noOver sbs lf 32 23 [Value.string s] { n := 0, objs := [] } = some (Value.tuple { toList := [Value.slice (some { block := 0, off := 0, spot := some 0 }) j j, Value.int IntKind.i64 v, Value.int IntKind.i64 v2, Value.bool true] }, { n := 1, objs := [AObj.cells xs 9 5 1] }, []) :=
  Dg.evCall_hint (hs' := []) (hs := [Hint.loop 23 (Ex.exit 0) (QEb s rest j xs a g),
    Hint.val 23 60 (Value.bool false),
    Hint.soft 23 63 (Value.string k5),
    Hint.val 23 64 (Value.bool false),
    Hint.val 23 69 (Value.bool false),
    Hint.val 23 74 (Value.bool false),
    Hint.call 40 (Value.tuple #[Value.int IntKind.i64 v, Value.int IntKind.i64 (↑e1 : Int)]) { n := 0, objs := [] } [],
    Hint.val 23 85 (Value.bool false),
    Hint.val 23 91 (Value.int IntKind.i64 ((↑e1 : Int) + 4)),
    Hint.val 23 92 (Value.bool false),
    Hint.val 23 98 (Value.int IntKind.i64 ((↑e1 : Int) + 4)),
    Hint.soft 23 99 (Value.string k4),
    Hint.val 23 100 (Value.bool false),
    Hint.val 23 105 (Value.int IntKind.i64 ((↑e1 : Int) + 4)),
    Hint.call 40 (Value.tuple #[Value.int IntKind.i64 v2, Value.int IntKind.i64 e2]) { n := 0, objs := [] } [],
    Hint.val 23 112 (Value.bool false)])
    [evLoop (runP lf) clP lf { ts := [Value.string s, undef, Value.slice none 0 0, Value.int IntKind.i64 0, Value.int IntKind.i64 0, Value.bool false, Value.slice none 0 0, Value.string s, undef, undef, undef, undef, undef, Value.string s, undef, undef, undef, undef, undef, undef, undef, undef, undef, undef, undef, undef, undef, undef, undef, undef, undef, undef, undef, undef, undef, undef, undef, undef, undef, undef, undef, undef, undef, undef, undef, undef, undef, undef, undef, undef, undef, undef, undef, undef, undef, undef, undef, undef, undef, undef, undef, undef, undef, undef, undef, undef, undef, undef, undef, undef, undef, undef, undef, undef, undef, undef, undef, undef, undef, undef, undef, undef, undef, undef, undef, undef, undef, undef, undef, undef, undef, undef, undef, undef, undef, undef, undef, undef, undef, undef, undef, undef, undef, undef, undef, undef, undef, undef, undef, undef, undef, undef, undef, undef, undef, undef], H := { n := 0, objs := [] }, log := [] } = some (Ex.exit 0, QEb s rest j xs a g),
    Value.bool (decide ((↑(ByteArray.size rest) : Int) < (6 : Int))) = Value.bool false,
    (0 : Int) ≤ (5 : Int),
    (0 : Nat) ≤ Int.toNat (5 : Int) ∧ Int.toNat (5 : Int) ≤ ByteArray.size rest,
    Value.string (ByteArray.extract rest (0 : Nat) (Int.toNat (5 : Int))) = Value.string k5,
    (Value.bool !ByteArray.toList k5 == ByteArray.toList { data := #[(107 : UInt8), (105 : UInt8), (110 : UInt8), (100 : UInt8), (32 : UInt8)] }) = Value.bool false,
    Value.bool (decide ((↑(ByteArray.size s) : Int) > (400 : Int))) = Value.bool false,
    Value.bool (decide ((↑j : Int) > (8 : Int))) = Value.bool false,
    evCall Tryz.prog 0 (bodied Tryz.prog) noOver sbs lf 31 40 [Value.string rest, Value.int IntKind.i64 5] { n := 0, objs := [] } = some (Value.tuple #[Value.int IntKind.i64 v, Value.int IntKind.i64 (↑e1 : Int)], { n := 0, objs := [] }, []),
    Value.bool (v == (0 : Int)) = Value.bool false,
    Value.int IntKind.i64 (IntKind.wrap IntKind.i64 ((↑e1 : Int) + (4 : Int))) = Value.int IntKind.i64 ((↑e1 : Int) + (4 : Int)),
    Value.bool (decide ((↑(ByteArray.size rest) : Int) < (↑e1 : Int) + (4 : Int))) = Value.bool false,
    Value.int IntKind.i64 (IntKind.wrap IntKind.i64 ((↑e1 : Int) + (4 : Int))) = Value.int IntKind.i64 ((↑e1 : Int) + (4 : Int)),
    (0 : Int) ≤ (↑e1 : Int),
    (0 : Int) ≤ (↑e1 : Int) + (4 : Int),
    Int.toNat (↑e1 : Int) ≤ Int.toNat ((↑e1 : Int) + (4 : Int)) ∧ Int.toNat ((↑e1 : Int) + (4 : Int)) ≤ ByteArray.size rest,
    Value.string (ByteArray.extract rest (Int.toNat (↑e1 : Int)) (Int.toNat ((↑e1 : Int) + (4 : Int)))) = Value.string k4,
    (Value.bool !ByteArray.toList k4 == ByteArray.toList { data := #[(32 : UInt8), (97 : UInt8), (116 : UInt8), (32 : UInt8)] }) = Value.bool false,
    Value.int IntKind.i64 (IntKind.wrap IntKind.i64 ((↑e1 : Int) + (4 : Int))) = Value.int IntKind.i64 ((↑e1 : Int) + (4 : Int)),
    evCall Tryz.prog 0 (bodied Tryz.prog) noOver sbs lf 31 40 [Value.string rest, Value.int IntKind.i64 ((↑e1 : Int) + 4)] { n := 0, objs := [] } = some (Value.tuple #[Value.int IntKind.i64 v2, Value.int IntKind.i64 e2], { n := 0, objs := [] }, []),
    Value.bool (e2 != (↑(ByteArray.size rest) : Int)) = Value.bool false] (by kernel_rfl)
    ⟨hl _ (by kernel_rfl), Dg.vfalse (by omega), by omega, by omega, by simp; omega, hk, Dg.vfalse (by omega), Dg.vfalse (by omega), hr1, Dg.vfalse (by omega), Dg.i64_eq rfl (by omega) (by omega), Dg.vfalse (by omega), Dg.i64_eq rfl (by omega) (by omega), by omega, by omega, by omega, by rw [show ((e1 : Int) + 4).toNat = e1 + 4 by omega, Int.toNat_natCast, hx4], hk4, Dg.i64_eq rfl (by omega) (by omega), hr2, by simp; omega, trivial⟩
--> rb0
end Go.Proofs.YtpgddboigegplaaGreatDoor.base

namespace Go.Proofs.YtpgddboigegplaaGreatDoor.base
open Go.Dg (junk St Ex Ev Hint evCall evCodeK evLoop cleanSt bodied noOver Flats flatOver Heap AObj)
set_option linter.unusedVariables false

def kL : List UInt8 := [107, 105, 110, 100, 32]
def aL : List UInt8 := [32, 97, 116, 32]
/-- What stands behind the words. -/
def kindT (k o : Int) : List UInt8 := kL ++ (Lib.itoa k ++ (aL ++ Lib.itoa o))
noncomputable abbrev evF (lf : Nat) (l : List UInt8) : Option (Value × Heap × List Nat) := evCall Tryz.prog 0 (bodied Tryz.prog) noOver sbs lf 32 23 [.string (bs l)] ⟨0, []⟩
def refusal : Option (Value × Heap × List Nat) := some (.tuple #[.slice none 0 0, .int .i64 0, .int .i64 0, .bool false], ⟨0, []⟩, [])
def taken (ws : List (List UInt8)) (k o : Int) : Option (Value × Heap × List Nat) := match ws with
  | [] => some (.tuple #[.slice none 0 0, .int .i64 k, .int .i64 o, .bool true], ⟨0, []⟩, [])
  | _ :: _ => some (.tuple #[.slice (some ⟨0, 0, some 0⟩) ws.length ws.length, .int .i64 k, .int .i64 o, .bool true], ⟨1, [rowP (strW ws)]⟩, [])
theorem neBs (u w : List UInt8) : Value.bool (!((bs u).toList == (bs w).toList)) = .bool (!decide (u = w)) := bs_ne u w
theorem itoa_head (o : Int) : ∀ c r, aL ++ Lib.itoa o = c :: r → isD c.toNat = false := by
  intro c r h
  injection h with h1 h2
  rw [← h1]; rfl
theorem itoa_pos (k : Int) : 1 ≤ (Lib.itoa k).length := by
  unfold Lib.itoa
  split
  · simp
  · rw [Lib.decDigits_length]; exact Lib.nDigits_pos _
/-- The text behind the words is a kind's and a place's: what the checks find. -/
theorem kind_reads (lf : Nat) (hlf : 100 ≤ lf) {k o : Int} (hk : InI k) (ho : InI o) (hl : (kindT k o).length ≤ 1000) :
    6 ≤ (kindT k o).length ∧ (kindT k o).take 5 = kL ∧ evR lf (kindT k o) 5 = some (.tuple #[.int .i64 k, .int .i64 ((5 + (Lib.itoa k).length : Nat) : Int)], ⟨0, []⟩, []) ∧ 5 + (Lib.itoa k).length + 4 ≤ (kindT k o).length ∧
    ((kindT k o).take (5 + (Lib.itoa k).length + 4)).drop (5 + (Lib.itoa k).length) = aL ∧ evR lf (kindT k o) (5 + (Lib.itoa k).length + 4) = some (.tuple #[.int .i64 o, .int .i64 ((kindT k o).length : Int)], ⟨0, []⟩, []) := by
  have h1 := itoa_pos k
  have h2 := itoa_pos o
  have hL : (kindT k o).length = 5 + ((Lib.itoa k).length + (4 + (Lib.itoa o).length)) := by
    unfold kindT
    simp [kL, aL]
    omega
  refine ⟨by omega, rfl, ?_, by omega, ?_, ?_⟩
  · exact read_ok lf hlf kL (aL ++ Lib.itoa o) k hk (itoa_head o) hl
  · unfold kindT
    rw [show kL ++ (Lib.itoa k ++ (aL ++ Lib.itoa o)) = (kL ++ Lib.itoa k) ++ (aL ++ Lib.itoa o) by simp]
    rw [show 5 + (Lib.itoa k).length = (kL ++ Lib.itoa k).length by simp [kL]; omega]
    rw [show (kL ++ Lib.itoa k).length + 4 = (kL ++ Lib.itoa k).length + aL.length from rfl, ← List.take_drop, List.drop_left, List.take_left]
  · have e : kindT k o = ((kL ++ Lib.itoa k) ++ aL) ++ (Lib.itoa o ++ []) := by unfold kindT; simp
    have hlen : ((kL ++ Lib.itoa k) ++ aL).length = 5 + (Lib.itoa k).length + 4 := by simp [kL, aL]; omega
    have := read_ok lf hlf ((kL ++ Lib.itoa k) ++ aL) [] o ho (fun c r h => by cases h) (by rw [← e]; exact hl)
    rw [← e, hlen] at this
    rw [this]
    have e2 : 5 + (Lib.itoa k).length + 4 + (Lib.itoa o).length = (kindT k o).length := by omega
    rw [e2]
end Go.Proofs.YtpgddboigegplaaGreatDoor.base

namespace Go.Proofs.YtpgddboigegplaaGreatDoor.base
open Go.Dg (junk St Ex Ev Hint evCall evCodeK evLoop cleanSt bodied noOver Flats flatOver Heap AObj)
set_option linter.unusedVariables false

/-- A text behind the words that is taken. -/
def IsKind (t : List UInt8) (k o : Int) : Prop := InI k ∧ k ≠ 0 ∧ InI o ∧ t = kindT k o
def rdS (v e : Int) : Option (Value × Heap × List Nat) := some (.tuple #[.int .i64 v, .int .i64 e], ⟨0, []⟩, [])
theorem rdS_inj {v e v' e' : Int} (h : rdS v e = rdS v' e') : v = v' ∧ e = e' := by
  unfold rdS at h
  simp only [Option.some.injEq, Prod.mk.injEq, Value.tuple.injEq, and_true] at h
  have h0 := congrArg (fun a : Array Value => a[0]?) h
  have h1 := congrArg (fun a : Array Value => a[1]?) h
  simp at h0 h1
  exact ⟨h0, h1⟩
theorem tail_cases (lf : Nat) (hlf : 100 ≤ lf) (t : List UInt8) (ht : t.length ≤ 1000) :
    (∃ k o, IsKind t k o) ∨ ((∀ k o, ¬ IsKind t k o) ∧ (t.length < 6 ∨ 6 ≤ t.length ∧ (t.take 5 ≠ kL ∨ t.take 5 = kL ∧ (evR lf t 5 = rdS 0 (-1) ∨ (∃ e : Nat, evR lf t 5 = rdS 0 e) ∨
      ∃ (v : Int) (e : Nat), v ≠ 0 ∧ e ≤ 1000 ∧ evR lf t 5 = rdS v e ∧ (t.length < e + 4 ∨ e + 4 ≤ t.length ∧ ((t.take (e + 4)).drop e ≠ aL ∨ (t.take (e + 4)).drop e = aL ∧
        ∃ v2 e2 : Int, evR lf t (e + 4) = rdS v2 e2 ∧ e2 ≠ (t.length : Int))))))) := by
  by_cases hK : ∃ k o, IsKind t k o
  · exact .inl hK
  refine .inr ⟨fun k o h => hK ⟨k, o, h⟩, ?_⟩
  by_cases h6 : t.length < 6
  · exact .inl h6
  refine .inr ⟨by omega, ?_⟩
  by_cases h5 : t.take 5 = kL
  · refine .inr ⟨h5, ?_⟩
    rcases read_any lf hlf t 5 (by omega) ht with h | ⟨v, e, hv, hpe, hel, hd, h⟩
    · exact .inl h
    by_cases hv0 : v = 0
    · subst hv0
      exact .inr (.inl ⟨e, h⟩)
    refine .inr (.inr ⟨v, e, hv0, by omega, h, ?_⟩)
    by_cases h4 : t.length < e + 4
    · exact .inl h4
    refine .inr ⟨by omega, ?_⟩
    by_cases hx : (t.take (e + 4)).drop e = aL
    · refine .inr ⟨hx, ?_⟩
      rcases read_any lf hlf t (e + 4) (by omega) ht with h2 | ⟨v2, e2, hv2, hpe2, hel2, hd2, h2⟩
      · exact ⟨0, -1, h2, by omega⟩
      · refine ⟨v2, e2, h2, fun he => hK ⟨v, v2, hv, hv0, hv2, ?_⟩⟩
        have he2 : e2 = t.length := by omega
        rw [he2, List.take_length] at hd2
        unfold kindT
        rw [← h5, ← hd, ← hx, ← hd2]
        have a1 : (t.take (e + 4)).drop e ++ t.drop (e + 4) = t.drop e := by
          have := List.take_append_drop 4 (t.drop e)
          rw [List.drop_drop, List.take_drop] at this
          exact this
        have a2 : (t.take e).drop 5 ++ t.drop e = t.drop 5 := by
          have := List.take_append_drop (e - 5) (t.drop 5)
          rw [List.drop_drop, List.take_drop, show 5 + (e - 5) = e by omega] at this
          exact this
        rw [a1, a2, List.take_append_drop]
    · exact .inl hx
  · exact .inl h5
theorem scan_len : ∀ (k : Nat) (l : List UInt8), (scan k l).2.length ≤ l.length := by
  intro k
  induction k with
  | zero => intro l; exact Nat.le_refl _
  | succ k ih =>
    intro l
    unfold scan
    split
    · exact Nat.le_trans (ih _) (by simp)
    · exact Nat.le_refl _
theorem tail_a (lf : Nat) (hlf : 100 ≤ lf) (l t : List UInt8)  (a : Nat) (g : Nat → Value) (hl : l.length ≤ 1000) (ht : t.length ≤ 1000)
    (hr : ∀ (s0 : St), clP s0 = PIa (bs l) → evLoop (runP lf) clP lf s0 = some (Ex.exit 0, QEa (bs l) (bs t) a g)) :
    (∃ k o, IsKind t k o ∧ l.length ≤ 400 ∧ evF lf l = taken [] k o) ∨ ((∀ k o, ¬ (IsKind t k o ∧ l.length ≤ 400)) ∧ evF lf l = refusal) := by
  have hs : (bs l).size ≤ 1000 := by rw [bs_size]; exact hl
  have hz : (bs t).size = t.length := bs_size t
  have hrr : (bs t).size ≤ 1000 := by omega
  have hsl : (bs l).size = l.length := bs_size l
  have hx5 : (bs t).extract 0 5 = bs (t.take 5) := by rw [bs_ext]; rfl
  have hyes : ∀ u w : List UInt8, u = w → (Value.bool (!((bs u).toList == (bs w).toList))) = .bool false := fun u w h => by rw [neBs]; simp [h]
  have hno : ∀ u w : List UInt8, u ≠ w → (Value.bool (!((bs u).toList == (bs w).toList))) = .bool true := fun u w h => by rw [neBs]; simp [h]
  rcases tail_cases lf hlf t ht with ⟨k, o, hK⟩ | ⟨hn, h⟩
  · obtain ⟨hk, hk0, ho, rfl⟩ := hK
    obtain ⟨q1, q2, q3, q4, q5, q6⟩ := kind_reads lf hlf hk ho ht
    by_cases h400 : l.length ≤ 400
    · refine .inl ⟨k, o, ⟨hk, hk0, ho, rfl⟩, h400, ?_⟩
      exact ra0 lf (bs l) (bs (kindT k o)) a g hs hrr hr (bs kL) (by rw [hx5, q2]) (by omega) (hyes kL kL rfl) (by omega) k (5 + (Lib.itoa k).length) hk0 (by omega) q3 (by omega) (bs aL) (by rw [bs_ext, q5]) (hyes aL aL rfl) o _ q6 (by rw [hz])
      
    · refine .inr ⟨fun k o h => h400 h.2, ?_⟩
      exact ra3 lf (bs l) (bs (kindT k o)) a g hs hrr hr (bs kL) (by rw [hx5, q2]) (by omega) (hyes kL kL rfl) (by omega)
  · refine .inr ⟨fun k o h => hn k o h.1, ?_⟩
    rcases h with h6 | ⟨h6, h⟩
    · exact ra1 lf (bs l) (bs t) a g hs hrr hr (by omega)
    rcases h with h5 | ⟨h5, h⟩
    · exact ra2 lf (bs l) (bs t) a g hs hrr hr (bs (t.take 5)) hx5 (by omega) (hno _ kL h5)
    by_cases h400 : l.length ≤ 400
    case neg => exact ra3 lf (bs l) (bs t) a g hs hrr hr (bs (t.take 5)) hx5 (by omega) (hyes _ kL h5) (by omega)
    rcases h with h | ⟨e, h⟩ | ⟨v, e, hv, he, h, h'⟩
    · exact ra5 lf (bs l) (bs t) a g hs hrr hr (bs (t.take 5)) hx5 (by omega) (hyes _ kL h5) (by omega) h
    · exact ra6 lf (bs l) (bs t) a g hs hrr hr (bs (t.take 5)) hx5 (by omega) (hyes _ kL h5) (by omega) e h
    rcases h' with h4 | ⟨h4, h'⟩
    · exact ra7 lf (bs l) (bs t) a g hs hrr hr (bs (t.take 5)) hx5 (by omega) (hyes _ kL h5) (by omega) v e hv he h (by omega)
    rcases h' with hx | ⟨hx, v2, e2, h2, hne⟩
    · exact ra8 lf (bs l) (bs t) a g hs hrr hr (bs (t.take 5)) hx5 (by omega) (hyes _ kL h5) (by omega) v e hv he h (by omega) (bs ((t.take (e + 4)).drop e)) (bs_ext ..) (hno _ aL hx)
    · exact ra9 lf (bs l) (bs t) a g hs hrr hr (bs (t.take 5)) hx5 (by omega) (hyes _ kL h5) (by omega) v e hv he h (by omega) (bs ((t.take (e + 4)).drop e)) (bs_ext ..) (hyes _ aL hx) v2 e2 h2 (by rw [hz]; exact hne)
theorem taken_ne (ws : List (List UInt8)) (hws : ws ≠ []) (k o : Int) : taken ws k o = some (.tuple #[.slice (some ⟨0, 0, some 0⟩) ws.length ws.length, .int .i64 k, .int .i64 o, .bool true], ⟨1, [rowP (strW ws)]⟩, []) := by
  cases ws with
  | nil => exact absurd rfl hws
  | cons a r => rfl
theorem tail_b (lf : Nat) (hlf : 100 ≤ lf) (l t : List UInt8) (ws : List (List UInt8)) (hws : ws ≠ []) (a : Nat) (g : Nat → Value) (hl : l.length ≤ 1000) (ht : t.length ≤ 1000)
    (hr : ∀ (s0 : St), clP s0 = PIa (bs l) → evLoop (runP lf) clP lf s0 = some (Ex.exit 0, QEb (bs l) (bs t) ws.length (strW ws) a g)) :
    (∃ k o, IsKind t k o ∧ l.length ≤ 400 ∧ ws.length ≤ 8 ∧ evF lf l = taken ws k o) ∨ ((∀ k o, ¬ (IsKind t k o ∧ l.length ≤ 400 ∧ ws.length ≤ 8)) ∧ evF lf l = refusal) := by
  have hs : (bs l).size ≤ 1000 := by rw [bs_size]; exact hl
  have hz : (bs t).size = t.length := bs_size t
  have hrr : (bs t).size ≤ 1000 := by omega
  have hsl : (bs l).size = l.length := bs_size l
  have hx5 : (bs t).extract 0 5 = bs (t.take 5) := by rw [bs_ext]; rfl
  have hyes : ∀ u w : List UInt8, u = w → (Value.bool (!((bs u).toList == (bs w).toList))) = .bool false := fun u w h => by rw [neBs]; simp [h]
  have hno : ∀ u w : List UInt8, u ≠ w → (Value.bool (!((bs u).toList == (bs w).toList))) = .bool true := fun u w h => by rw [neBs]; simp [h]
  rcases tail_cases lf hlf t ht with ⟨k, o, hK⟩ | ⟨hn, h⟩
  · obtain ⟨hk, hk0, ho, rfl⟩ := hK
    obtain ⟨q1, q2, q3, q4, q5, q6⟩ := kind_reads lf hlf hk ho ht
    by_cases h400 : l.length ≤ 400
    · by_cases hj : ws.length ≤ 8
      case neg => exact .inr ⟨fun k o h => hj h.2.2, rb4 lf (bs l) (bs (kindT k o)) ws.length (strW ws) a g hs hrr hr (bs kL) (by rw [hx5, q2]) (by omega) (hyes kL kL rfl) (by omega) (by omega)⟩
      refine .inl ⟨k, o, ⟨hk, hk0, ho, rfl⟩, h400, hj, ?_⟩
      rw [taken_ne ws hws]
      exact rb0 lf (bs l) (bs (kindT k o)) ws.length (strW ws) a g hs hrr hr (bs kL) (by rw [hx5, q2]) (by omega) (hyes kL kL rfl) (by omega) hj k (5 + (Lib.itoa k).length) hk0 (by omega) q3 (by omega) (bs aL) (by rw [bs_ext, q5]) (hyes aL aL rfl) o _ q6 (by rw [hz])
      
    · refine .inr ⟨fun k o h => h400 h.2.1, ?_⟩
      exact rb3 lf (bs l) (bs (kindT k o)) ws.length (strW ws) a g hs hrr hr (bs kL) (by rw [hx5, q2]) (by omega) (hyes kL kL rfl) (by omega)
  · refine .inr ⟨fun k o h => hn k o h.1, ?_⟩
    rcases h with h6 | ⟨h6, h⟩
    · exact rb1 lf (bs l) (bs t) ws.length (strW ws) a g hs hrr hr (by omega)
    rcases h with h5 | ⟨h5, h⟩
    · exact rb2 lf (bs l) (bs t) ws.length (strW ws) a g hs hrr hr (bs (t.take 5)) hx5 (by omega) (hno _ kL h5)
    by_cases h400 : l.length ≤ 400
    case neg => exact rb3 lf (bs l) (bs t) ws.length (strW ws) a g hs hrr hr (bs (t.take 5)) hx5 (by omega) (hyes _ kL h5) (by omega)
    by_cases hj : ws.length ≤ 8
    case neg => exact rb4 lf (bs l) (bs t) ws.length (strW ws) a g hs hrr hr (bs (t.take 5)) hx5 (by omega) (hyes _ kL h5) (by omega) (by omega)
    rcases h with h | ⟨e, h⟩ | ⟨v, e, hv, he, h, h'⟩
    · exact rb5 lf (bs l) (bs t) ws.length (strW ws) a g hs hrr hr (bs (t.take 5)) hx5 (by omega) (hyes _ kL h5) (by omega) hj h
    · exact rb6 lf (bs l) (bs t) ws.length (strW ws) a g hs hrr hr (bs (t.take 5)) hx5 (by omega) (hyes _ kL h5) (by omega) hj e h
    rcases h' with h4 | ⟨h4, h'⟩
    · exact rb7 lf (bs l) (bs t) ws.length (strW ws) a g hs hrr hr (bs (t.take 5)) hx5 (by omega) (hyes _ kL h5) (by omega) hj v e hv he h (by omega)
    rcases h' with hx | ⟨hx, v2, e2, h2, hne⟩
    · exact rb8 lf (bs l) (bs t) ws.length (strW ws) a g hs hrr hr (bs (t.take 5)) hx5 (by omega) (hyes _ kL h5) (by omega) hj v e hv he h (by omega) (bs ((t.take (e + 4)).drop e)) (bs_ext ..) (hno _ aL hx)
    · exact rb9 lf (bs l) (bs t) ws.length (strW ws) a g hs hrr hr (bs (t.take 5)) hx5 (by omega) (hyes _ kL h5) (by omega) hj v e hv he h (by omega) (bs ((t.take (e + 4)).drop e)) (bs_ext ..) (hyes _ aL hx) v2 e2 h2 (by rw [hz]; exact hne)
/-- What the reference's Parse comes to: the words, the kind and the place; or a refusal. -/
theorem ref_spec (lf : Nat) (hlf : 1001 < lf) (l : List UInt8) (hl : l.length ≤ 1000) :
    (∃ k o, IsKind (scan (l.length + 1) l).2 k o ∧ l.length ≤ 400 ∧ (scan (l.length + 1) l).1.length ≤ 8 ∧ evF lf l = taken (scan (l.length + 1) l).1 k o) ∨
    ((∀ k o, ¬ (IsKind (scan (l.length + 1) l).2 k o ∧ l.length ≤ 400 ∧ (scan (l.length + 1) l).1.length ≤ 8)) ∧ evF lf l = refusal) := by
  rcases outer_a lf hlf l hl with ⟨ht, a, g, h⟩ | ⟨ht, a, g, h⟩
  · have e : scan (l.length + 1) l = ([], l) := by unfold scan; rw [if_neg (by simp [ht])]
    rw [e]
    rcases tail_a lf (by omega) l l a g hl hl h with ⟨k, o, h1, h2, h3⟩ | ⟨h1, h2⟩
    · exact .inl ⟨k, o, h1, h2, by simp, h3⟩
    · exact .inr ⟨fun k o h => h1 k o ⟨h.1, h.2.1⟩, h2⟩
  · have hne : (scan (l.length + 1) l).1 ≠ [] := by unfold scan; rw [if_pos ht]; simp
    have hlen : (scan (l.length + 1) l).2.length ≤ 1000 := Nat.le_trans (scan_len _ _) hl
    exact tail_b lf (by omega) l _ _ hne a g hl hlen h
end Go.Proofs.YtpgddboigegplaaGreatDoor.base

namespace Go.Proofs.YtpgddboigegplaaGreatDoor.base
open Go.Dg (St Ex Ev evCall bodied noOver Heap AObj SCall Law ofLaw Fix)
set_option linter.unusedVariables false

def noneV : Value := .tuple #[.slice none 0 0, .int .i64 0, .int .i64 0, .bool false]
def someV (n : Nat) (ws : List (List UInt8)) (k o : Int) : Value := match ws with
  | [] => .tuple #[.slice none 0 0, .int .i64 k, .int .i64 o, .bool true]
  | _ :: _ => .tuple #[.slice (some ⟨n, 0, some 0⟩) ws.length ws.length, .int .i64 k, .int .i64 o, .bool true]
def someH (H : Heap) (ws : List (List UInt8)) : Heap := match ws with
  | [] => H
  | _ :: _ => H.push (rowP (strW ws))
theorem strW_flat (ws : List (List UInt8)) : Dg.flatL (strW ws) = true := Dg.flatL_of fun v hv => by
  obtain ⟨x, _, rfl⟩ := List.mem_map.1 hv
  rfl
theorem ref_no (l : List UInt8) (h : evF 2000 l = refusal) (H : Heap) : SCall Tryz.prog 23 [.string (bs l)] H noneV H [] :=
  (SCall.of_ev mixed okB Dg.noOver_ok h).keeps [] (by simp) rfl rfl (by simp) (by simp [Dg.renL, Dg.renV]) (by simp [Dg.idsOfL, Dg.idsOf]) (fun _ => rfl)
theorem ref_yes (l : List UInt8) (ws : List (List UInt8)) (k o : Int) (h : evF 2000 l = taken ws k o) (H : Heap) : SCall Tryz.prog 23 [.string (bs l)] H (someV H.n ws k o) (someH H ws) [] := by
  cases ws with
  | nil => exact (SCall.of_ev mixed okB Dg.noOver_ok h).keeps [] (by simp) rfl rfl (by simp) (by simp [Dg.renL, Dg.renV]) (by simp [Dg.idsOfL, Dg.idsOf]) (fun _ => rfl)
  | cons w r =>
    have h0 : SCall Tryz.prog 23 [.string (bs l)] ⟨0, []⟩ (someV 0 (w :: r) k o) ((⟨0, []⟩ : Heap).push (rowP (strW (w :: r)))) [] := SCall.of_ev mixed okB Dg.noOver_ok h
    exact h0.pushes (Dg.Fix.mk' (md := 1)) rfl [] (by simp) rfl rfl (by simp) (by simp [Dg.renL, Dg.renV]) (by simp [Dg.idsOfL, Dg.idsOf]) rfl
end Go.Proofs.YtpgddboigegplaaGreatDoor.base
