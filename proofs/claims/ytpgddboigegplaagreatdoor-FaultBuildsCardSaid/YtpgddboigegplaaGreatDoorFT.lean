/- The texts of notes around a fault. Names for the heaps of 'build' of chapter 06; short names for what is printed. -/
import Derived.Test.YtpgddboigegplaaGreatDoorRows
import Derived.Test.YtpgddboigegplaaGreatDoorFO
import Derived.Test.YtpgddboigegplaaGreatDoorFHeavy
namespace Go.Proofs.YtpgddboigegplaaGreatDoor.base
open Go.Dg (junk St Ex Ev Hint evCall evCallS evCode evCodeK innerKp evCodeS evLoop cleanSt ue bodied noOver sbOf headOf tailOf bodyOf rAssign rBody lBody Flats flatOver Heap AObj SCall Law ofLaw Fix)
set_option linter.unusedVariables false
set_option linter.unusedSimpArgs false

def ksS : ByteArray := ⟨#[107, 105, 110, 100, 32]⟩
def atS : ByteArray := ⟨#[32, 97, 116, 32]⟩
def csS : ByteArray := ⟨#[58, 32]⟩
theorem szk : ksS.size = 5 := rfl
theorem sza : atS.size = 4 := rfl
theorem szc : csS.size = 2 := rfl
theorem szk2 : (⟨#[107, 105, 110, 100, 32]⟩ : ByteArray).size = 5 := rfl
theorem sza2 : (⟨#[32, 97, 116, 32]⟩ : ByteArray).size = 4 := rfl
theorem szc2 : (⟨#[58, 32]⟩ : ByteArray).size = 2 := rfl
theorem sz0 : (⟨#[]⟩ : ByteArray).size = 0 := rfl
/-- A fault's text. -/
def tF (dk dO : ByteArray) : ByteArray := ((ksS ++ dk) ++ atS) ++ dO
/-- A note's. -/
def tN (w t : ByteArray) : ByteArray := (w ++ csS) ++ t
theorem tN_size (w t : ByteArray) : (tN w t).size = w.size + 2 + t.size := by unfold tN; rw [ByteArray.size_append, ByteArray.size_append, szc]
theorem tF_size (a b : ByteArray) : (tF a b).size = 5 + a.size + 4 + b.size := by unfold tF; rw [ByteArray.size_append, ByteArray.size_append, ByteArray.size_append, szk, sza]
theorem emp (x : ByteArray) : (⟨#[]⟩ : ByteArray) ++ x = x := by
  rw [show (⟨#[]⟩ : ByteArray) = ByteArray.empty from rfl, ByteArray.empty_append]
theorem neS (d : ByteArray) : Value.bool (!(d.toList == d.toList)) = .bool false := by simp
theorem eqS (d : ByteArray) : Value.bool (d.toList == d.toList) = .bool true := by simp
end Go.Proofs.YtpgddboigegplaaGreatDoor.base

namespace Go.Proofs.YtpgddboigegplaaGreatDoor.base
open Go.Dg (St Ex Ev evCall bodied Heap AObj Hint)

abbrev pt (k : Nat) : Value := .pointer (some ⟨k, 0, none⟩)
abbrev vi (n : Int) : Value := .int .i64 n
abbrev vs (s : ByteArray) : Value := .string s
abbrev dH : Heap := ⟨15, [.dead, .dead, .dead, .dead, .dead, .dead, .dead, .dead, .dead, .dead, .dead, .dead, .dead, .dead, .dead]⟩
abbrev hZ (ys : List Value) (e : Nat) (r0 : List AObj) : Heap := ⟨18, .cells ys e 6 1 :: r0⟩
abbrev e0 : ByteArray := ⟨#[]⟩
abbrev sp (k l c : Nat) : Value := .slice (some ⟨k, 0, some 0⟩) l c
abbrev sq (k l c : Nat) : Value := .slice (some ⟨k, 0, none⟩) l c
abbrev po (k o : Nat) : Value := .pointer (some ⟨k, o, none⟩)
abbrev v8 (n : Int) : Value := .int .u8 n
abbrev v32 (n : Int) : Value := .int .i32 n
abbrev vb (b : Bool) : Value := .bool b
abbrev vf (t : TypeId) (v : Value) : Value := .iface t v
abbrev zI (s : ByteArray) : Int := (s.size : Int)
abbrev qv (f t : Nat) (v : Value) : Hint := .val f t v
abbrev qs (f t : Nat) (v : Value) : Hint := .soft f t v
abbrev qc (g : FuncId) (v : Value) (H : Heap) (l : List Nat) : Hint := .call g v H l
abbrev ob (cs : List Value) (e md z : Nat) : AObj := .cells cs e md z
theorem y1 {a b : ByteArray} : (a ++ b).size = a.size + b.size := ByteArray.size_append
theorem y2 (w t : ByteArray) : (tN w t).size = w.size + 2 + t.size := tN_size w t
theorem y3 (a b : ByteArray) : (tF a b).size = 5 + a.size + 4 + b.size := tF_size a b
theorem y4 : ksS.size = 5 := rfl
theorem y5 : atS.size = 4 := rfl
theorem y6 : csS.size = 2 := rfl
theorem y7 : e0.size = 0 := rfl
noncomputable abbrev evO (ov : Ev) (lf n : Nat) (f : FuncId) (args : List Value) (H : Heap) : Option (Value × Heap × List Nat) := evCall Tryz.prog 15 (bodied Tryz.prog) ov sbs lf n f args H
/-- What stands in the slots where a sign may not be. -/
def gW (n i : Nat) (z : Int) : List Value := [.bool true, .pointer (some ⟨n, i, none⟩), .int .u8 z, .int .u8 z, .int .i32 z, .string (runeS z), .bool false, .bool true]
/-- The loop over a word's bytes, whatever the states: a sign that may not be makes the word strange. -/
theorem loopW_gen {run : St → Option (Ex × St)} {cl : St → St} {lf : Nat} {Wa : St} {Wb : Nat → Int → St} {EW : ByteArray → Value → Int → (Nat → Value) → St} {l : List UInt8} (hl : l.length < lf)
    (c0 : l = [] → ∃ c i g, run Wa = some (.exit 0, EW (bs l) c i g))
    (aT : ∀ h : 0 < l.length, inB l[0].toNat = true → ∃ s', run Wa = some (.normal, s') ∧ cl s' = Wb 1 ((l[0].toNat : Nat) : Int))
    (aF : ∀ h : 0 < l.length, inB l[0].toNat = false → ∃ c i g, run Wa = some (.exit 0, EW qm c i g))
    (bT : ∀ (i : Nat) (z0 : Int) (h : i + 1 < l.length), inB l[i + 1].toNat = true → ∃ s', run (Wb (i + 1) z0) = some (.normal, s') ∧ cl s' = Wb (i + 1 + 1) ((l[i + 1].toNat : Nat) : Int))
    (bF : ∀ (i : Nat) (z0 : Int) (h : i + 1 < l.length), inB l[i + 1].toNat = false → ∃ c j g, run (Wb (i + 1) z0) = some (.exit 0, EW qm c j g))
    (bC : ∀ (i : Nat) (z0 : Int), l.length = i + 1 → ∃ c j g, run (Wb (i + 1) z0) = some (.exit 0, EW (bs l) c j g)) :
    ∃ w c i g, (∀ s0, cl s0 = Wa → Dg.evLoop run cl lf s0 = some (.exit 0, EW w c i g)) ∧ (allIn l = true ∧ w = bs l ∨ allIn l = false ∧ w = qm) := by
  obtain ⟨m, rfl⟩ : ∃ m, lf = m + 1 := ⟨lf - 1, by omega⟩
  by_cases h0 : l = []
  · obtain ⟨c, i, g, h⟩ := c0 h0
    exact ⟨bs l, c, i, g, fun s0 hs => Dg.evLoop_stop hs h (by simp), .inl ⟨by rw [h0]; rfl, rfl⟩⟩
  have h0l : 0 < l.length := List.length_pos_iff.2 h0
  have bad : ∀ (j : Nat) (hj : j < l.length), inB l[j].toNat = false → allIn l = false := by
    intro j hj hb
    cases hA : allIn l with
    | false => rfl
    | true =>
      have := List.all_eq_true.1 hA _ (List.getElem_mem hj)
      rw [hb] at this; cases this
  -- whatever has been gone through is what a word may have
  have key : ∀ (k i : Nat), i + 1 + k = l.length → (∀ x ∈ l.take (i + 1), inB x.toNat = true) → ∀ z0, ∃ w c j g, (∀ fuel, k < fuel → ∀ s0, cl s0 = Wb (i + 1) z0 → Dg.evLoop run cl fuel s0 = some (.exit 0, EW w c j g)) ∧
      (allIn l = true ∧ w = bs l ∨ allIn l = false ∧ w = qm) := by
    intro k
    induction k with
    | zero =>
      intro i hik hall z0
      obtain ⟨c, j, g, h⟩ := bC i z0 (by omega)
      refine ⟨bs l, c, j, g, fun fuel hf s0 hs => ?_, .inl ⟨?_, rfl⟩⟩
      · obtain ⟨m, rfl⟩ : ∃ m, fuel = m + 1 := ⟨fuel - 1, by omega⟩
        exact Dg.evLoop_stop hs h (by simp)
      · rw [List.take_of_length_le (by omega)] at hall
        exact List.all_eq_true.2 hall
    | succ k ih =>
      intro i hik hall z0
      have hlt : i + 1 < l.length := by omega
      cases hb : inB l[i + 1].toNat with
      | true =>
        obtain ⟨s', e1, e2⟩ := bT i z0 hlt hb
        obtain ⟨w, c, j, g, h1, h2⟩ := ih (i + 1) (by omega) (fun x hx => by
          rw [List.take_succ_eq_append_getElem hlt] at hx
          rcases List.mem_append.1 hx with h | h
          · exact hall x h
          · rw [List.mem_singleton.1 h]; exact hb) ((l[i + 1].toNat : Nat) : Int)
        refine ⟨w, c, j, g, fun fuel hf s0 hs => ?_, h2⟩
        obtain ⟨m, rfl⟩ : ∃ m, fuel = m + 1 := ⟨fuel - 1, by omega⟩
        rw [Dg.evLoop_step hs e1]
        exact h1 m (by omega) s' e2
      | false =>
        obtain ⟨c, j, g, h⟩ := bF i z0 hlt hb
        refine ⟨qm, c, j, g, fun fuel hf s0 hs => ?_, .inr ⟨bad _ hlt hb, rfl⟩⟩
        obtain ⟨m, rfl⟩ : ∃ m, fuel = m + 1 := ⟨fuel - 1, by omega⟩
        exact Dg.evLoop_stop hs h (by simp)
  cases hb : inB l[0].toNat with
  | true =>
    obtain ⟨s', e1, e2⟩ := aT h0l hb
    obtain ⟨w, c, i, g, h1, h2⟩ := key (l.length - 1) 0 (by omega) (fun x hx => by
      rw [List.take_succ_eq_append_getElem h0l] at hx
      simp at hx
      rw [hx]; exact hb) ((l[0].toNat : Nat) : Int)
    refine ⟨w, c, i, g, fun s0 hs => ?_, h2⟩
    rw [Dg.evLoop_step hs e1]
    exact h1 m (by omega) s' e2
  | false =>
    obtain ⟨c, i, g, h⟩ := aF h0l hb
    exact ⟨qm, c, i, g, fun s0 hs => Dg.evLoop_stop hs h (by simp), .inr ⟨bad _ h0l hb, rfl⟩⟩
def kpH0 (kind off : Int) (r0 : List AObj) (W : AObj) : Heap := (⟨19, .cells [.int .i64 kind, .int .i64 off] 73 4 1 :: W :: r0⟩ : Heap)
def kpH1 (kind off : Int) (r0 : List AObj) (W : AObj) (w1 : ByteArray) : Heap := (⟨21, .cells [.string w1] 9 4 1 :: .cells [.int .i64 kind, .int .i64 off] 73 4 1 :: .cells [.string w1, .iface 70 (.pointer (some ⟨19, 0, none⟩))] 69 0 1 :: W :: r0⟩ : Heap)
def kpN1 (kind off : Int) (r0 : List AObj) (W : AObj) (w1 : ByteArray) : Heap := (⟨22, .cells [.string w1] 9 5 1 :: .cells [.string w1] 9 4 1 :: .cells [.int .i64 kind, .int .i64 off] 73 4 1 :: .cells [.string w1, .iface 70 (.pointer (some ⟨19, 0, none⟩))] 69 0 1 :: W :: r0⟩ : Heap)
def kpH2 (kind off : Int) (r0 : List AObj) (W : AObj) (w1 w2 : ByteArray) : Heap := (⟨22, .cells [.string w2, .string w1] 9 5 1 :: .cells [.int .i64 kind, .int .i64 off] 73 4 1 :: .cells [.string w1, .iface 70 (.pointer (some ⟨20, 0, none⟩))] 69 0 1 :: .cells [.string w2, .iface 67 (.pointer (some ⟨19, 0, none⟩))] 69 0 1 :: W :: r0⟩ : Heap)
def kpN2 (kind off : Int) (r0 : List AObj) (W : AObj) (w1 w2 : ByteArray) : Heap := (⟨23, .cells [.string w2, .string w1] 9 5 1 :: .cells [.string w2, .string w1] 9 5 1 :: .cells [.int .i64 kind, .int .i64 off] 73 4 1 :: .cells [.string w1, .iface 70 (.pointer (some ⟨20, 0, none⟩))] 69 0 1 :: .cells [.string w2, .iface 67 (.pointer (some ⟨19, 0, none⟩))] 69 0 1 :: W :: r0⟩ : Heap)
def kpH3 (kind off : Int) (r0 : List AObj) (W : AObj) (w1 w2 w3 : ByteArray) : Heap := (⟨23, .cells [.string w3, .string w2, .string w1] 9 5 1 :: .cells [.int .i64 kind, .int .i64 off] 73 4 1 :: .cells [.string w1, .iface 70 (.pointer (some ⟨21, 0, none⟩))] 69 0 1 :: .cells [.string w2, .iface 67 (.pointer (some ⟨20, 0, none⟩))] 69 0 1 :: .cells [.string w3, .iface 67 (.pointer (some ⟨19, 0, none⟩))] 69 0 1 :: W :: r0⟩ : Heap)
def kpN3 (kind off : Int) (r0 : List AObj) (W : AObj) (w1 w2 w3 : ByteArray) : Heap := (⟨24, .cells [.string w3, .string w2, .string w1] 9 5 1 :: .cells [.string w3, .string w2, .string w1] 9 5 1 :: .cells [.int .i64 kind, .int .i64 off] 73 4 1 :: .cells [.string w1, .iface 70 (.pointer (some ⟨21, 0, none⟩))] 69 0 1 :: .cells [.string w2, .iface 67 (.pointer (some ⟨20, 0, none⟩))] 69 0 1 :: .cells [.string w3, .iface 67 (.pointer (some ⟨19, 0, none⟩))] 69 0 1 :: W :: r0⟩ : Heap)
def kpH4 (kind off : Int) (r0 : List AObj) (W : AObj) (w1 w2 w3 w4 : ByteArray) : Heap := (⟨24, .cells [.string w4, .string w3, .string w2, .string w1] 9 5 1 :: .cells [.int .i64 kind, .int .i64 off] 73 4 1 :: .cells [.string w1, .iface 70 (.pointer (some ⟨22, 0, none⟩))] 69 0 1 :: .cells [.string w2, .iface 67 (.pointer (some ⟨21, 0, none⟩))] 69 0 1 :: .cells [.string w3, .iface 67 (.pointer (some ⟨20, 0, none⟩))] 69 0 1 :: .cells [.string w4, .iface 67 (.pointer (some ⟨19, 0, none⟩))] 69 0 1 :: W :: r0⟩ : Heap)
def kpN4 (kind off : Int) (r0 : List AObj) (W : AObj) (w1 w2 w3 w4 : ByteArray) : Heap := (⟨25, .cells [.string w4, .string w3, .string w2, .string w1] 9 5 1 :: .cells [.string w4, .string w3, .string w2, .string w1] 9 5 1 :: .cells [.int .i64 kind, .int .i64 off] 73 4 1 :: .cells [.string w1, .iface 70 (.pointer (some ⟨22, 0, none⟩))] 69 0 1 :: .cells [.string w2, .iface 67 (.pointer (some ⟨21, 0, none⟩))] 69 0 1 :: .cells [.string w3, .iface 67 (.pointer (some ⟨20, 0, none⟩))] 69 0 1 :: .cells [.string w4, .iface 67 (.pointer (some ⟨19, 0, none⟩))] 69 0 1 :: W :: r0⟩ : Heap)
def kpH5 (kind off : Int) (r0 : List AObj) (W : AObj) (w1 w2 w3 w4 w5 : ByteArray) : Heap := (⟨25, .cells [.string w5, .string w4, .string w3, .string w2, .string w1] 9 5 1 :: .cells [.int .i64 kind, .int .i64 off] 73 4 1 :: .cells [.string w1, .iface 70 (.pointer (some ⟨23, 0, none⟩))] 69 0 1 :: .cells [.string w2, .iface 67 (.pointer (some ⟨22, 0, none⟩))] 69 0 1 :: .cells [.string w3, .iface 67 (.pointer (some ⟨21, 0, none⟩))] 69 0 1 :: .cells [.string w4, .iface 67 (.pointer (some ⟨20, 0, none⟩))] 69 0 1 :: .cells [.string w5, .iface 67 (.pointer (some ⟨19, 0, none⟩))] 69 0 1 :: W :: r0⟩ : Heap)
def kpN5 (kind off : Int) (r0 : List AObj) (W : AObj) (w1 w2 w3 w4 w5 : ByteArray) : Heap := (⟨26, .cells [.string w5, .string w4, .string w3, .string w2, .string w1] 9 5 1 :: .cells [.string w5, .string w4, .string w3, .string w2, .string w1] 9 5 1 :: .cells [.int .i64 kind, .int .i64 off] 73 4 1 :: .cells [.string w1, .iface 70 (.pointer (some ⟨23, 0, none⟩))] 69 0 1 :: .cells [.string w2, .iface 67 (.pointer (some ⟨22, 0, none⟩))] 69 0 1 :: .cells [.string w3, .iface 67 (.pointer (some ⟨21, 0, none⟩))] 69 0 1 :: .cells [.string w4, .iface 67 (.pointer (some ⟨20, 0, none⟩))] 69 0 1 :: .cells [.string w5, .iface 67 (.pointer (some ⟨19, 0, none⟩))] 69 0 1 :: W :: r0⟩ : Heap)
def kpH6 (kind off : Int) (r0 : List AObj) (W : AObj) (w1 w2 w3 w4 w5 w6 : ByteArray) : Heap := (⟨26, .cells [.string w6, .string w5, .string w4, .string w3, .string w2, .string w1] 9 5 1 :: .cells [.int .i64 kind, .int .i64 off] 73 4 1 :: .cells [.string w1, .iface 70 (.pointer (some ⟨24, 0, none⟩))] 69 0 1 :: .cells [.string w2, .iface 67 (.pointer (some ⟨23, 0, none⟩))] 69 0 1 :: .cells [.string w3, .iface 67 (.pointer (some ⟨22, 0, none⟩))] 69 0 1 :: .cells [.string w4, .iface 67 (.pointer (some ⟨21, 0, none⟩))] 69 0 1 :: .cells [.string w5, .iface 67 (.pointer (some ⟨20, 0, none⟩))] 69 0 1 :: .cells [.string w6, .iface 67 (.pointer (some ⟨19, 0, none⟩))] 69 0 1 :: W :: r0⟩ : Heap)
def kpN6 (kind off : Int) (r0 : List AObj) (W : AObj) (w1 w2 w3 w4 w5 w6 : ByteArray) : Heap := (⟨27, .cells [.string w6, .string w5, .string w4, .string w3, .string w2, .string w1] 9 5 1 :: .cells [.string w6, .string w5, .string w4, .string w3, .string w2, .string w1] 9 5 1 :: .cells [.int .i64 kind, .int .i64 off] 73 4 1 :: .cells [.string w1, .iface 70 (.pointer (some ⟨24, 0, none⟩))] 69 0 1 :: .cells [.string w2, .iface 67 (.pointer (some ⟨23, 0, none⟩))] 69 0 1 :: .cells [.string w3, .iface 67 (.pointer (some ⟨22, 0, none⟩))] 69 0 1 :: .cells [.string w4, .iface 67 (.pointer (some ⟨21, 0, none⟩))] 69 0 1 :: .cells [.string w5, .iface 67 (.pointer (some ⟨20, 0, none⟩))] 69 0 1 :: .cells [.string w6, .iface 67 (.pointer (some ⟨19, 0, none⟩))] 69 0 1 :: W :: r0⟩ : Heap)
def kpH7 (kind off : Int) (r0 : List AObj) (W : AObj) (w1 w2 w3 w4 w5 w6 w7 : ByteArray) : Heap := (⟨27, .cells [.string w7, .string w6, .string w5, .string w4, .string w3, .string w2, .string w1] 9 5 1 :: .cells [.int .i64 kind, .int .i64 off] 73 4 1 :: .cells [.string w1, .iface 70 (.pointer (some ⟨25, 0, none⟩))] 69 0 1 :: .cells [.string w2, .iface 67 (.pointer (some ⟨24, 0, none⟩))] 69 0 1 :: .cells [.string w3, .iface 67 (.pointer (some ⟨23, 0, none⟩))] 69 0 1 :: .cells [.string w4, .iface 67 (.pointer (some ⟨22, 0, none⟩))] 69 0 1 :: .cells [.string w5, .iface 67 (.pointer (some ⟨21, 0, none⟩))] 69 0 1 :: .cells [.string w6, .iface 67 (.pointer (some ⟨20, 0, none⟩))] 69 0 1 :: .cells [.string w7, .iface 67 (.pointer (some ⟨19, 0, none⟩))] 69 0 1 :: W :: r0⟩ : Heap)
def kpN7 (kind off : Int) (r0 : List AObj) (W : AObj) (w1 w2 w3 w4 w5 w6 w7 : ByteArray) : Heap := (⟨28, .cells [.string w7, .string w6, .string w5, .string w4, .string w3, .string w2, .string w1] 9 5 1 :: .cells [.string w7, .string w6, .string w5, .string w4, .string w3, .string w2, .string w1] 9 5 1 :: .cells [.int .i64 kind, .int .i64 off] 73 4 1 :: .cells [.string w1, .iface 70 (.pointer (some ⟨25, 0, none⟩))] 69 0 1 :: .cells [.string w2, .iface 67 (.pointer (some ⟨24, 0, none⟩))] 69 0 1 :: .cells [.string w3, .iface 67 (.pointer (some ⟨23, 0, none⟩))] 69 0 1 :: .cells [.string w4, .iface 67 (.pointer (some ⟨22, 0, none⟩))] 69 0 1 :: .cells [.string w5, .iface 67 (.pointer (some ⟨21, 0, none⟩))] 69 0 1 :: .cells [.string w6, .iface 67 (.pointer (some ⟨20, 0, none⟩))] 69 0 1 :: .cells [.string w7, .iface 67 (.pointer (some ⟨19, 0, none⟩))] 69 0 1 :: W :: r0⟩ : Heap)
def kpH8 (kind off : Int) (r0 : List AObj) (W : AObj) (w1 w2 w3 w4 w5 w6 w7 w8 : ByteArray) : Heap := (⟨28, .cells [.string w8, .string w7, .string w6, .string w5, .string w4, .string w3, .string w2, .string w1] 9 5 1 :: .cells [.int .i64 kind, .int .i64 off] 73 4 1 :: .cells [.string w1, .iface 70 (.pointer (some ⟨26, 0, none⟩))] 69 0 1 :: .cells [.string w2, .iface 67 (.pointer (some ⟨25, 0, none⟩))] 69 0 1 :: .cells [.string w3, .iface 67 (.pointer (some ⟨24, 0, none⟩))] 69 0 1 :: .cells [.string w4, .iface 67 (.pointer (some ⟨23, 0, none⟩))] 69 0 1 :: .cells [.string w5, .iface 67 (.pointer (some ⟨22, 0, none⟩))] 69 0 1 :: .cells [.string w6, .iface 67 (.pointer (some ⟨21, 0, none⟩))] 69 0 1 :: .cells [.string w7, .iface 67 (.pointer (some ⟨20, 0, none⟩))] 69 0 1 :: .cells [.string w8, .iface 67 (.pointer (some ⟨19, 0, none⟩))] 69 0 1 :: W :: r0⟩ : Heap)
def kpN8 (kind off : Int) (r0 : List AObj) (W : AObj) (w1 w2 w3 w4 w5 w6 w7 w8 : ByteArray) : Heap := (⟨29, .cells [.string w8, .string w7, .string w6, .string w5, .string w4, .string w3, .string w2, .string w1] 9 5 1 :: .cells [.string w8, .string w7, .string w6, .string w5, .string w4, .string w3, .string w2, .string w1] 9 5 1 :: .cells [.int .i64 kind, .int .i64 off] 73 4 1 :: .cells [.string w1, .iface 70 (.pointer (some ⟨26, 0, none⟩))] 69 0 1 :: .cells [.string w2, .iface 67 (.pointer (some ⟨25, 0, none⟩))] 69 0 1 :: .cells [.string w3, .iface 67 (.pointer (some ⟨24, 0, none⟩))] 69 0 1 :: .cells [.string w4, .iface 67 (.pointer (some ⟨23, 0, none⟩))] 69 0 1 :: .cells [.string w5, .iface 67 (.pointer (some ⟨22, 0, none⟩))] 69 0 1 :: .cells [.string w6, .iface 67 (.pointer (some ⟨21, 0, none⟩))] 69 0 1 :: .cells [.string w7, .iface 67 (.pointer (some ⟨20, 0, none⟩))] 69 0 1 :: .cells [.string w8, .iface 67 (.pointer (some ⟨19, 0, none⟩))] 69 0 1 :: W :: r0⟩ : Heap)
end Go.Proofs.YtpgddboigegplaaGreatDoor.base
