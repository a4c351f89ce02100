/- The rounds of strings.Trim over a set of signs. Which words may be a note's: strings.Trim and fault.may over any text. Small facts for fault.Wrap: a sign's text; slots left open. 'known' of chapter 06, as it is run. -/
import Derived.Test.YtpgddboigegplaaGreatDoorRows
import Derived.Test.YtpgddboigegplaaGreatDoorFBase
namespace Go.Proofs.YtpgddboigegplaaGreatDoor.base
open Go.Dg (junk St Ex Ev Hint evCall evCallS evCode evCodeK innerKp evCodeS evLoop cleanSt ue bodied noOver sbOf headOf tailOf bodyOf rAssign rBody lBody Flats flatOver Heap AObj SCall Law ofLaw Fix)
set_option linter.unusedVariables false
set_option linter.unusedSimpArgs false

noncomputable def lR : Code := lBody ((Tryz.f57.body).getD .skip)
noncomputable def lL : Code := lBody ((Tryz.f56.body).getD .skip)
noncomputable abbrev runR : St → Option (Ex × St) := evCode Tryz.prog 0 (bodied Tryz.prog) (evCall Tryz.prog 0 (bodied Tryz.prog) noOver sbs 100 17) 1 5 100 lR
noncomputable abbrev clR : St → St := cleanSt 1 5 (ue lR [] []).1
noncomputable abbrev runL : St → Option (Ex × St) := evCode Tryz.prog 0 (bodied Tryz.prog) (evCall Tryz.prog 0 (bodied Tryz.prog) noOver sbs 100 17) 1 5 100 lL
noncomputable abbrev clL : St → St := cleanSt 1 5 (ue lL [] []).1
abbrev js (n : Nat) : List Value := List.replicate n junk
def SR (cs : List Value) (e md : Nat) (s : ByteArray) : St := ⟨[.string s, .pointer (some ⟨0, 0, none⟩), undef, undef, .string ⟨#[]⟩] ++ js 17, ⟨1, [.cells cs e md 1]⟩, []⟩
def SL (cs : List Value) (e md : Nat) (s : ByteArray) : St := ⟨[.string s, .pointer (some ⟨0, 0, none⟩), undef, undef, .string ⟨#[]⟩] ++ js 11, ⟨1, [.cells cs e md 1]⟩, []⟩
--< trA
theorem trA (cs : List Value) (e : Nat) (md : Nat) (s : ByteArray) (s2 : ByteArray) (z : Int) (h0 : 0 < ByteArray.size s) (h1 : ByteArray.size s ≤ 32) (hz : Dg.strAt s ((↑(ByteArray.size s) : Int) - 1) = some z) (hr : 0 ≤ z ∧ z < 256) (hb : cs[Int.toNat z]? = some (Value.bool true)) (hs : ByteArray.extract s 0 (ByteArray.size s - 1) = s2) :
    ∃ s', runR (SR cs e md s) = some (Ex.normal, s') ∧ clR s' = SR cs e md s2 :=
  Dg.code_round (f := 57) clR (hs := [Hint.val 57 7 (Value.bool true),
    Hint.val 57 12 (Value.int IntKind.i64 ((↑(ByteArray.size s) : Int) - 1)),
    Hint.soft 57 13 (Value.int IntKind.u8 z),
    Hint.soft 68 8 (Value.pointer (some { block := 0, off := Int.toNat z })),
    Hint.soft 68 9 (Value.bool true),
    Hint.val 57 19 (Value.int IntKind.i64 ((↑(ByteArray.size s) : Int) - 1)),
    Hint.soft 57 20 (Value.string s2)])
    [Value.bool (decide ((↑(ByteArray.size s) : Int) > (0 : Int))) = Value.bool true,
    Value.int IntKind.i64 (IntKind.wrap IntKind.i64 ((↑(ByteArray.size s) : Int) - (1 : Int))) = Value.int IntKind.i64 ((↑(ByteArray.size s) : Int) - (1 : Int)),
    Dg.strAt s ((↑(ByteArray.size s) : Int) - (1 : Int)) = some z,
    (0 : Int) ≤ z ∧ z < (↑(256 : Nat) : Int),
    Value.pointer (some { block := (0 : Nat), off := (0 : Nat) + Int.toNat z * (1 : Nat) }) = Value.pointer (some { block := (0 : Nat), off := Int.toNat z }),
    cs[Int.toNat z]? = some (Value.bool true),
    Value.int IntKind.i64 (IntKind.wrap IntKind.i64 ((↑(ByteArray.size s) : Int) - (1 : Int))) = Value.int IntKind.i64 ((↑(ByteArray.size s) : Int) - (1 : Int)),
    (0 : Int) ≤ (↑(ByteArray.size s) : Int) - (1 : Int),
    (0 : Nat) ≤ Int.toNat ((↑(ByteArray.size s) : Int) - (1 : Int)) ∧ Int.toNat ((↑(ByteArray.size s) : Int) - (1 : Int)) ≤ ByteArray.size s,
    Value.string (ByteArray.extract s (0 : Nat) (Int.toNat ((↑(ByteArray.size s) : Int) - (1 : Int)))) = Value.string s2] (by kernel_rfl)
    ⟨Dg.vtrue (by omega), Dg.i64_eq rfl (by omega) (by omega), hz, by omega, Dg.ptr_eq (by omega), hb, Dg.i64_eq rfl (by omega) (by omega), by omega, by omega, by rw [show ((s.size : Int) - 1).toNat = s.size - 1 by omega, hs], trivial⟩
--> trA
--< trB
theorem trB (cs : List Value) (e : Nat) (md : Nat) (s : ByteArray) (z : Int) (h0 : 0 < ByteArray.size s) (h1 : ByteArray.size s ≤ 32) (hz : Dg.strAt s ((↑(ByteArray.size s) : Int) - 1) = some z) (hr : 0 ≤ z ∧ z < 256) (hb : cs[Int.toNat z]? = some (Value.bool false)) :
    runR (SR cs e md s) = some (Ex.exit 0, ({ ts := [Value.string s, Value.pointer (some { block := 0, off := 0 }), undef, undef, Value.string { data := #[] }, Value.string s, Value.int IntKind.i64 (↑(ByteArray.size s) : Int), Value.bool true, Value.pointer (some { block := 0, off := 0 }), Value.string s, Value.string s, Value.int IntKind.i64 (↑(ByteArray.size s) : Int), Value.int IntKind.i64 ((↑(ByteArray.size s) : Int) - 1), Value.int IntKind.u8 z, Value.bool false, Value.bool true, junk, junk, junk, junk, junk, junk], H := { n := 1, objs := [AObj.cells cs e md 1] }, log := [] } : St)) :=
  Dg.evCode_hint (f := 57) (hs' := []) (hs := [Hint.val 57 7 (Value.bool true),
    Hint.val 57 12 (Value.int IntKind.i64 ((↑(ByteArray.size s) : Int) - 1)),
    Hint.soft 57 13 (Value.int IntKind.u8 z),
    Hint.soft 68 8 (Value.pointer (some { block := 0, off := Int.toNat z })),
    Hint.soft 68 9 (Value.bool false)])
    [Value.bool (decide ((↑(ByteArray.size s) : Int) > (0 : Int))) = Value.bool true,
    Value.int IntKind.i64 (IntKind.wrap IntKind.i64 ((↑(ByteArray.size s) : Int) - (1 : Int))) = Value.int IntKind.i64 ((↑(ByteArray.size s) : Int) - (1 : Int)),
    Dg.strAt s ((↑(ByteArray.size s) : Int) - (1 : Int)) = some z,
    (0 : Int) ≤ z ∧ z < (↑(256 : Nat) : Int),
    Value.pointer (some { block := (0 : Nat), off := (0 : Nat) + Int.toNat z * (1 : Nat) }) = Value.pointer (some { block := (0 : Nat), off := Int.toNat z }),
    cs[Int.toNat z]? = some (Value.bool false)] (by kernel_rfl)
    ⟨Dg.vtrue (by omega), Dg.i64_eq rfl (by omega) (by omega), hz, by omega, Dg.ptr_eq (by omega), hb, trivial⟩
--> trB
--< trC
theorem trC (cs : List Value) (e : Nat) (md : Nat) (s : ByteArray) (h0 : ByteArray.size s = 0) :
    runR (SR cs e md s) = some (Ex.exit 0, ({ ts := [Value.string s, Value.pointer (some { block := 0, off := 0 }), undef, undef, Value.string { data := #[] }, Value.string s, Value.int IntKind.i64 (↑(ByteArray.size s) : Int), Value.bool false, junk, junk, junk, junk, junk, junk, junk, junk, junk, junk, junk, junk, junk, junk], H := { n := 1, objs := [AObj.cells cs e md 1] }, log := [] } : St)) :=
  Dg.evCode_hint (f := 57) (hs' := []) (hs := [Hint.val 57 7 (Value.bool false)])
    [Value.bool (decide ((↑(ByteArray.size s) : Int) > (0 : Int))) = Value.bool false] (by kernel_rfl)
    ⟨Dg.vfalse (by omega), trivial⟩
--> trC
--< tlA
theorem tlA (cs : List Value) (e : Nat) (md : Nat) (s : ByteArray) (s2 : ByteArray) (z : Int) (h0 : 0 < ByteArray.size s) (h1 : ByteArray.size s ≤ 32) (hz : Dg.strAt s 0 = some z) (hr : 0 ≤ z ∧ z < 256) (hb : cs[Int.toNat z]? = some (Value.bool true)) (hs : ByteArray.extract s 1 (ByteArray.size s) = s2) :
    ∃ s', runL (SL cs e md s) = some (Ex.normal, s') ∧ clL s' = SL cs e md s2 :=
  Dg.code_round (f := 56) clL (hs := [Hint.val 56 7 (Value.bool true),
    Hint.soft 56 10 (Value.int IntKind.u8 z),
    Hint.soft 68 8 (Value.pointer (some { block := 0, off := Int.toNat z })),
    Hint.soft 68 9 (Value.bool true),
    Hint.soft 56 14 (Value.string s2)])
    [Value.bool (decide ((↑(ByteArray.size s) : Int) > (0 : Int))) = Value.bool true,
    Dg.strAt s (0 : Int) = some z,
    (0 : Int) ≤ z ∧ z < (↑(256 : Nat) : Int),
    Value.pointer (some { block := (0 : Nat), off := (0 : Nat) + Int.toNat z * (1 : Nat) }) = Value.pointer (some { block := (0 : Nat), off := Int.toNat z }),
    cs[Int.toNat z]? = some (Value.bool true),
    (0 : Int) ≤ (1 : Int),
    Int.toNat (1 : Int) ≤ ByteArray.size s ∧ ByteArray.size s ≤ ByteArray.size s,
    Value.string (ByteArray.extract s (Int.toNat (1 : Int)) (ByteArray.size s)) = Value.string s2] (by kernel_rfl)
    ⟨Dg.vtrue (by omega), hz, by omega, Dg.ptr_eq (by omega), hb, by omega, by omega, by rw [show Int.toNat 1 = 1 from rfl, hs], trivial⟩
--> tlA
--< tlB
theorem tlB (cs : List Value) (e : Nat) (md : Nat) (s : ByteArray) (z : Int) (h0 : 0 < ByteArray.size s) (h1 : ByteArray.size s ≤ 32) (hz : Dg.strAt s 0 = some z) (hr : 0 ≤ z ∧ z < 256) (hb : cs[Int.toNat z]? = some (Value.bool false)) :
    runL (SL cs e md s) = some (Ex.exit 0, ({ ts := [Value.string s, Value.pointer (some { block := 0, off := 0 }), undef, undef, Value.string { data := #[] }, Value.string s, Value.int IntKind.i64 (↑(ByteArray.size s) : Int), Value.bool true, Value.pointer (some { block := 0, off := 0 }), Value.string s, Value.int IntKind.u8 z, Value.bool false, Value.bool true, junk, junk, junk], H := { n := 1, objs := [AObj.cells cs e md 1] }, log := [] } : St)) :=
  Dg.evCode_hint (f := 56) (hs' := []) (hs := [Hint.val 56 7 (Value.bool true),
    Hint.soft 56 10 (Value.int IntKind.u8 z),
    Hint.soft 68 8 (Value.pointer (some { block := 0, off := Int.toNat z })),
    Hint.soft 68 9 (Value.bool false)])
    [Value.bool (decide ((↑(ByteArray.size s) : Int) > (0 : Int))) = Value.bool true,
    Dg.strAt s (0 : Int) = some z,
    (0 : Int) ≤ z ∧ z < (↑(256 : Nat) : Int),
    Value.pointer (some { block := (0 : Nat), off := (0 : Nat) + Int.toNat z * (1 : Nat) }) = Value.pointer (some { block := (0 : Nat), off := Int.toNat z }),
    cs[Int.toNat z]? = some (Value.bool false)] (by kernel_rfl)
    ⟨Dg.vtrue (by omega), hz, by omega, Dg.ptr_eq (by omega), hb, trivial⟩
--> tlB
--< tlC
theorem tlC (cs : List Value) (e : Nat) (md : Nat) (s : ByteArray) (h0 : ByteArray.size s = 0) :
    runL (SL cs e md s) = some (Ex.exit 0, ({ ts := [Value.string s, Value.pointer (some { block := 0, off := 0 }), undef, undef, Value.string { data := #[] }, Value.string s, Value.int IntKind.i64 (↑(ByteArray.size s) : Int), Value.bool false, junk, junk, junk, junk, junk, junk, junk, junk], H := { n := 1, objs := [AObj.cells cs e md 1] }, log := [] } : St)) :=
  Dg.evCode_hint (f := 56) (hs' := []) (hs := [Hint.val 56 7 (Value.bool false)])
    [Value.bool (decide ((↑(ByteArray.size s) : Int) > (0 : Int))) = Value.bool false] (by kernel_rfl)
    ⟨Dg.vfalse (by omega), trivial⟩
--> tlC
end Go.Proofs.YtpgddboigegplaaGreatDoor.base

namespace Go.Proofs.YtpgddboigegplaaGreatDoor.base
open Go.Dg (junk St Ex Ev Hint evCall evCallS evCode evCodeK innerKp evCodeS evLoop cleanSt ue bodied noOver sbOf headOf tailOf bodyOf rAssign rBody lBody Flats flatOver Heap AObj SCall Law ofLaw Fix)
set_option linter.unusedVariables false
set_option linter.unusedSimpArgs false

/-- A text of these bytes. -/
def bs (l : List UInt8) : ByteArray := ⟨l.toArray⟩
theorem bs_size (l : List UInt8) : (bs l).size = l.length := by simp [bs, ByteArray.size]
theorem bs_of (s : ByteArray) : bs s.data.toList = s := by cases s; simp [bs]
theorem bs_get (l : List UInt8) (i : Nat) (h : i < l.length) : Dg.strAt (bs l) (i : Int) = some ((l[i].toNat : Nat) : Int) := by
  unfold Dg.strAt
  have hs : i < (bs l).size := by rw [bs_size]; exact h
  rw [if_pos (by omega), Int.toNat_natCast, getElem?_pos (bs l) i hs]
  rfl
theorem bs_ext (l : List UInt8) (a b : Nat) : (bs l).extract a b = bs ((l.take b).drop a) := by
  apply ByteArray.ext
  apply Array.ext'
  simp [bs, ByteArray.data_extract, List.extract_eq_take_drop, List.drop_take]
/-- The signs that a word may have. -/
def inB (n : Nat) : Bool := (Nat.ble 97 n && Nat.ble n 122) || ((Nat.ble 48 n && Nat.ble n 57) || Nat.beq n 45)
def allIn (l : List UInt8) : Bool := l.all fun b => inB b.toNat
def kpAs : List Value := (List.range 256).map fun n => .bool (inB n)
theorem as_get (b : UInt8) : kpAs[b.toNat]? = some (.bool (inB b.toNat)) := by
  have h : b.toNat < 256 := b.toNat_lt
  simp [kpAs, List.getElem?_map, List.getElem?_range h]
def setS : ByteArray := ⟨#[97, 98, 99, 100, 101, 102, 103, 104, 105, 106, 107, 108, 109, 110, 111, 112, 113, 114, 115, 116, 117, 118, 119, 120, 121, 122, 48, 49, 50, 51, 52, 53, 54, 55, 56, 57, 45]⟩
def ERB (cs : List Value) (e md : Nat) (s : ByteArray) (z : Int) : St := { ts := [Value.string s, Value.pointer (some { block := 0, off := 0 }), undef, undef, Value.string { data := #[] }, Value.string s, Value.int IntKind.i64 (↑(ByteArray.size s) : Int), Value.bool true, Value.pointer (some { block := 0, off := 0 }), Value.string s, Value.string s, Value.int IntKind.i64 (↑(ByteArray.size s) : Int), Value.int IntKind.i64 ((↑(ByteArray.size s) : Int) - 1), Value.int IntKind.u8 z, Value.bool false, Value.bool true, junk, junk, junk, junk, junk, junk], H := { n := 1, objs := [AObj.cells cs e md 1] }, log := [] }
def ERC (cs : List Value) (e md : Nat) (s : ByteArray) : St := { ts := [Value.string s, Value.pointer (some { block := 0, off := 0 }), undef, undef, Value.string { data := #[] }, Value.string s, Value.int IntKind.i64 (↑(ByteArray.size s) : Int), Value.bool false, junk, junk, junk, junk, junk, junk, junk, junk, junk, junk, junk, junk, junk, junk], H := { n := 1, objs := [AObj.cells cs e md 1] }, log := [] }
def ELB (cs : List Value) (e md : Nat) (s : ByteArray) (z : Int) : St := { ts := [Value.string s, Value.pointer (some { block := 0, off := 0 }), undef, undef, Value.string { data := #[] }, Value.string s, Value.int IntKind.i64 (↑(ByteArray.size s) : Int), Value.bool true, Value.pointer (some { block := 0, off := 0 }), Value.string s, Value.int IntKind.u8 z, Value.bool false, Value.bool true, junk, junk, junk], H := { n := 1, objs := [AObj.cells cs e md 1] }, log := [] }
def ELC (cs : List Value) (e md : Nat) (s : ByteArray) : St := { ts := [Value.string s, Value.pointer (some { block := 0, off := 0 }), undef, undef, Value.string { data := #[] }, Value.string s, Value.int IntKind.i64 (↑(ByteArray.size s) : Int), Value.bool false, junk, junk, junk, junk, junk, junk, junk, junk], H := { n := 1, objs := [AObj.cells cs e md 1] }, log := [] }
theorem evLoop_same {body : St → Option (Ex × St)} {clean : St → St} (n : Nat) {s0 s1 : St} (h : clean s0 = clean s1) : evLoop body clean n s0 = evLoop body clean n s1 := by
  cases n with
  | zero => rfl
  | succ n => simp only [evLoop, h]
theorem z_rng (b : UInt8) : 0 ≤ ((b.toNat : Nat) : Int) ∧ ((b.toNat : Nat) : Int) < 256 := by
  have h : b.toNat < 256 := b.toNat_lt
  omega
theorem as_at (b : UInt8) {t : Bool} (h : inB b.toNat = t) : kpAs[((b.toNat : Nat) : Int).toNat]? = some (.bool t) := by rw [Int.toNat_natCast, as_get, h]
theorem allIn_app (l : List UInt8) (b : UInt8) : allIn (l ++ [b]) = (allIn l && inB b.toNat) := by simp [allIn]
/-- What is trimmed off at the end. -/
theorem loopR (e md : Nat) : ∀ (n : Nat) (l : List UInt8), l.length = n → n ≤ 32 → ∀ fuel, n < fuel → ∀ s0, clR s0 = SR kpAs e md (bs l) →
    (allIn l = true ∧ evLoop runR clR fuel s0 = some (.exit 0, ERC kpAs e md (bs []))) ∨ (allIn l = false ∧ ∃ l' b, inB b.toNat = false ∧ (l' ++ [b]).length ≤ 32 ∧ evLoop runR clR fuel s0 = some (.exit 0, ERB kpAs e md (bs (l' ++ [b])) ((b.toNat : Nat) : Int))) := by
  intro n
  induction n with
  | zero =>
    intro l hl hn fuel hf s0 h0
    obtain rfl : l = [] := List.eq_nil_of_length_eq_zero hl
    obtain ⟨m, rfl⟩ : ∃ m, fuel = m + 1 := ⟨fuel - 1, by omega⟩
    exact .inl ⟨rfl, Dg.evLoop_stop h0 (trC kpAs e md (bs []) rfl) (by simp)⟩
  | succ n ih =>
    intro l hl hn fuel hf s0 h0
    obtain ⟨m, rfl⟩ : ∃ m, fuel = m + 1 := ⟨fuel - 1, by omega⟩
    obtain ⟨l', b, rfl⟩ : ∃ l' b, l = l' ++ [b] := by
      rcases List.eq_nil_or_concat l with rfl | ⟨l', b, rfl⟩
      · simp at hl
      · exact ⟨l', b, by simp⟩
    have hl' : l'.length = n := by simpa using hl
    have hsz : (bs (l' ++ [b])).size = n + 1 := by rw [bs_size]; exact hl
    have hz : Dg.strAt (bs (l' ++ [b])) (((bs (l' ++ [b])).size : Int) - 1) = some ((b.toNat : Nat) : Int) := by
      rw [hsz, show ((n + 1 : Nat) : Int) - 1 = (n : Int) by omega, bs_get _ n (by simp [hl'])]
      simp [← hl']
    cases hb : inB b.toNat with
    | false =>
      refine .inr ⟨by rw [allIn_app, hb, Bool.and_false], l', b, hb, by omega, ?_⟩
      exact Dg.evLoop_stop h0 (trB kpAs e md _ _ (by omega) (by omega) hz (z_rng b) (as_at b hb)) (by simp)
    | true =>
      obtain ⟨s', h1, h2⟩ := trA kpAs e md (bs (l' ++ [b])) (bs l') _ (by omega) (by omega) hz (z_rng b) (as_at b hb) (by rw [hsz, bs_ext]; congr 1; simp [← hl'])
      rw [Dg.evLoop_step h0 h1]
      rw [allIn_app, hb, Bool.and_true]
      exact ih l' hl' (by omega) m (by omega) s' h2
/-- What is trimmed off at the front, where something is left at the end. -/
theorem loopL (e md : Nat) (c : UInt8) (hc : inB c.toNat = false) : ∀ (l : List UInt8), (l ++ [c]).length ≤ 32 → ∀ fuel, l.length < fuel → ∀ s0, clL s0 = SL kpAs e md (bs (l ++ [c])) →
    ∃ l' b, evLoop runL clL fuel s0 = some (.exit 0, ELB kpAs e md (bs (b :: l')) ((b.toNat : Nat) : Int)) := by
  intro l
  induction l with
  | nil =>
    intro hn fuel hf s0 h0
    obtain ⟨m, rfl⟩ : ∃ m, fuel = m + 1 := ⟨fuel - 1, by omega⟩
    exact ⟨[], c, Dg.evLoop_stop h0 (tlB kpAs e md _ _ (by rw [bs_size]; simp) (by rw [bs_size]; exact hn) (bs_get [c] 0 (by simp)) (z_rng c) (as_at c hc)) (by simp)⟩
  | cons a r ih =>
    intro hn fuel hf s0 h0
    obtain ⟨m, rfl⟩ : ∃ m, fuel = m + 1 := ⟨fuel - 1, by omega⟩
    have hz : Dg.strAt (bs (a :: r ++ [c])) 0 = some ((a.toNat : Nat) : Int) := bs_get (a :: r ++ [c]) 0 (by simp)
    cases hb : inB a.toNat with
    | false => exact ⟨r ++ [c], a, Dg.evLoop_stop h0 (tlB kpAs e md _ _ (by rw [bs_size]; simp) (by rw [bs_size]; exact hn) hz (z_rng a) (as_at a hb)) (by simp)⟩
    | true =>
      obtain ⟨s', h1, h2⟩ := tlA kpAs e md _ (bs (r ++ [c])) _ (by rw [bs_size]; simp) (by rw [bs_size]; exact hn) hz (z_rng a) (as_at a hb) (by rw [bs_ext, bs_size, List.take_of_length_le (Nat.le_refl _)]; rfl)
      rw [Dg.evLoop_step h0 h1]
      exact ih (by simp at hn ⊢; omega) m (by simp at hf; omega) s' h2
noncomputable abbrev ev0 (n : Nat) (f : FuncId) (args : List Value) (H : Heap) : Option (Value × Heap × List Nat) := evCall Tryz.prog 0 (bodied Tryz.prog) noOver sbs 100 n f args H
theorem mk_is : ev0 18 55 [.string setS] ⟨0, []⟩ = some (.tuple #[.agg ⟨kpAs⟩, .bool true], ⟨0, []⟩, []) := by kernel_rfl
--< trW
theorem trW (e : Nat) (md : Nat) (s : ByteArray) (r : ByteArray) (z : Int) (h : ∀ (s0 : St), clR s0 = SR kpAs e md s → evLoop runR clR 100 s0 = some (Ex.exit 0, ERB kpAs e md r z)) :
    evCall Tryz.prog 0 (bodied Tryz.prog) noOver sbs 100 18 57 [Value.string s, Value.pointer (some { block := 0, off := 0 })] { n := 1, objs := [AObj.cells kpAs e md 1] } = some (Value.string r, { n := 1, objs := [AObj.cells kpAs e md 1] }, []) :=
  Dg.evCall_hint (hs' := []) (hs := [Hint.loop 57 (Ex.exit 0) (ERB kpAs e md r z)])
    [evLoop runR clR 100 { ts := [Value.string s, Value.pointer (some { block := 0, off := 0 }), undef, undef, Value.string { data := #[] }, undef, undef, undef, undef, undef, undef, undef, undef, undef, undef, undef, undef, undef, undef, undef, undef, undef], H := { n := 1, objs := [AObj.cells kpAs e md 1] }, log := [] } = some (Ex.exit 0, ERB kpAs e md r z)] (by kernel_rfl)
    ⟨h _ (by kernel_rfl), trivial⟩
--> trW
--< trE
theorem trE (e : Nat) (md : Nat) (s : ByteArray) (r : ByteArray) (h : ∀ (s0 : St), clR s0 = SR kpAs e md s → evLoop runR clR 100 s0 = some (Ex.exit 0, ERC kpAs e md r)) :
    evCall Tryz.prog 0 (bodied Tryz.prog) noOver sbs 100 18 57 [Value.string s, Value.pointer (some { block := 0, off := 0 })] { n := 1, objs := [AObj.cells kpAs e md 1] } = some (Value.string r, { n := 1, objs := [AObj.cells kpAs e md 1] }, []) :=
  Dg.evCall_hint (hs' := []) (hs := [Hint.loop 57 (Ex.exit 0) (ERC kpAs e md r)])
    [evLoop runR clR 100 { ts := [Value.string s, Value.pointer (some { block := 0, off := 0 }), undef, undef, Value.string { data := #[] }, undef, undef, undef, undef, undef, undef, undef, undef, undef, undef, undef, undef, undef, undef, undef, undef, undef], H := { n := 1, objs := [AObj.cells kpAs e md 1] }, log := [] } = some (Ex.exit 0, ERC kpAs e md r)] (by kernel_rfl)
    ⟨h _ (by kernel_rfl), trivial⟩
--> trE
--< tlW
theorem tlW (e : Nat) (md : Nat) (s : ByteArray) (r : ByteArray) (z : Int) (h : ∀ (s0 : St), clL s0 = SL kpAs e md s → evLoop runL clL 100 s0 = some (Ex.exit 0, ELB kpAs e md r z)) :
    evCall Tryz.prog 0 (bodied Tryz.prog) noOver sbs 100 18 56 [Value.string s, Value.pointer (some { block := 0, off := 0 })] { n := 1, objs := [AObj.cells kpAs e md 1] } = some (Value.string r, { n := 1, objs := [AObj.cells kpAs e md 1] }, []) :=
  Dg.evCall_hint (hs' := []) (hs := [Hint.loop 56 (Ex.exit 0) (ELB kpAs e md r z)])
    [evLoop runL clL 100 { ts := [Value.string s, Value.pointer (some { block := 0, off := 0 }), undef, undef, Value.string { data := #[] }, undef, undef, undef, undef, undef, undef, undef, undef, undef, undef, undef], H := { n := 1, objs := [AObj.cells kpAs e md 1] }, log := [] } = some (Ex.exit 0, ELB kpAs e md r z)] (by kernel_rfl)
    ⟨h _ (by kernel_rfl), trivial⟩
--> tlW
--< tlE
theorem tlE (e : Nat) (md : Nat) (s : ByteArray) (h0 : ByteArray.size s = 0) :
    evCall Tryz.prog 0 (bodied Tryz.prog) noOver sbs 100 18 56 [Value.string s, Value.pointer (some { block := 0, off := 0 })] { n := 1, objs := [AObj.cells kpAs e md 1] } = some (Value.string s, { n := 1, objs := [AObj.cells kpAs e md 1] }, []) :=
  Dg.evCall_hint (hs' := []) (hs := [Hint.val 56 7 (Value.bool false)])
    [Value.bool (decide ((↑(ByteArray.size s) : Int) > (0 : Int))) = Value.bool false] (by kernel_rfl)
    ⟨Dg.vfalse (by omega), trivial⟩
--> tlE
--< tmA
theorem tmA (s : ByteArray) (r : ByteArray) (t : ByteArray) (hs : Value.bool (ByteArray.toList s == ByteArray.toList { data := #[] }) = Value.bool false) (h1 : ev0 18 57 [Value.string s, Value.pointer (some { block := 0, off := 0 })] { n := 1, objs := [AObj.cells kpAs 126 0 1] } = some (Value.string r, { n := 1, objs := [AObj.cells kpAs 126 0 1] }, [])) (h2 : ev0 18 56 [Value.string r, Value.pointer (some { block := 0, off := 0 })] { n := 1, objs := [AObj.cells kpAs 126 0 1] } = some (Value.string t, { n := 1, objs := [AObj.cells kpAs 126 0 1] }, [])) :
    evCall Tryz.prog 0 (bodied Tryz.prog) noOver sbs 100 19 45 [Value.string s, Value.string setS] { n := 0, objs := [] } = some (Value.string t, { n := 0, objs := [] }, []) :=
  Dg.evCall_hint (hs' := []) (hs := [Hint.val 45 8 (Value.bool false),
    Hint.call 55 (Value.tuple { toList := [Value.agg { toList := kpAs }, Value.bool true] }) { n := 0, objs := [] } [],
    Hint.call 57 (Value.string r) { n := 1, objs := [AObj.cells kpAs 126 0 1] } [],
    Hint.call 56 (Value.string t) { n := 1, objs := [AObj.cells kpAs 126 0 1] } []])
    [Value.bool (ByteArray.toList s == ByteArray.toList { data := #[] }) = Value.bool false,
    evCall Tryz.prog 0 (bodied Tryz.prog) noOver sbs 100 18 55 [Value.string setS] { n := 0, objs := [] } = some (Value.tuple { toList := [Value.agg { toList := kpAs }, Value.bool true] }, { n := 0, objs := [] }, []),
    evCall Tryz.prog 0 (bodied Tryz.prog) noOver sbs 100 18 57 [Value.string s, Value.pointer (some { block := 0, off := 0 })] { n := 1, objs := [AObj.cells kpAs 126 0 1] } = some (Value.string r, { n := 1, objs := [AObj.cells kpAs 126 0 1] }, []),
    evCall Tryz.prog 0 (bodied Tryz.prog) noOver sbs 100 18 56 [Value.string r, Value.pointer (some { block := 0, off := 0 })] { n := 1, objs := [AObj.cells kpAs 126 0 1] } = some (Value.string t, { n := 1, objs := [AObj.cells kpAs 126 0 1] }, [])] (by kernel_rfl)
    ⟨hs, mk_is, h1, h2, trivial⟩
--> tmA
--< myE
theorem myE (s : ByteArray) (hs : (Value.bool !ByteArray.toList s == ByteArray.toList { data := #[] }) = Value.bool false) :
    evCall Tryz.prog 0 (bodied Tryz.prog) noOver sbs 100 20 29 [Value.string s] { n := 0, objs := [] } = some (Value.bool false, { n := 0, objs := [] }, []) :=
  Dg.evCall_hint (hs' := []) (hs := [Hint.val 29 4 (Value.bool false)])
    [(Value.bool !ByteArray.toList s == ByteArray.toList { data := #[] }) = Value.bool false] (by kernel_rfl)
    ⟨hs, trivial⟩
--> myE
--< myL
theorem myL (s : ByteArray) (hs : (Value.bool !ByteArray.toList s == ByteArray.toList { data := #[] }) = Value.bool true) (h1 : 32 < ByteArray.size s) :
    evCall Tryz.prog 0 (bodied Tryz.prog) noOver sbs 100 20 29 [Value.string s] { n := 0, objs := [] } = some (Value.bool false, { n := 0, objs := [] }, []) :=
  Dg.evCall_hint (hs' := []) (hs := [Hint.val 29 4 (Value.bool true),
    Hint.val 29 8 (Value.bool false)])
    [(Value.bool !ByteArray.toList s == ByteArray.toList { data := #[] }) = Value.bool true,
    Value.bool (decide ((↑(ByteArray.size s) : Int) ≤ (32 : Int))) = Value.bool false] (by kernel_rfl)
    ⟨hs, Dg.vfalse (by omega), trivial⟩
--> myL
--< myT
theorem myT (s : ByteArray) (t : ByteArray) (b : Bool) (hs : (Value.bool !ByteArray.toList s == ByteArray.toList { data := #[] }) = Value.bool true) (h1 : ByteArray.size s ≤ 32) (h2 : ev0 19 45 [Value.string s, Value.string setS] { n := 0, objs := [] } = some (Value.string t, { n := 0, objs := [] }, [])) (h3 : Value.bool (ByteArray.toList t == ByteArray.toList { data := #[] }) = Value.bool b) :
    evCall Tryz.prog 0 (bodied Tryz.prog) noOver sbs 100 20 29 [Value.string s] { n := 0, objs := [] } = some (Value.bool b, { n := 0, objs := [] }, []) :=
  Dg.evCall_hint (hs' := []) (hs := [Hint.val 29 4 (Value.bool true),
    Hint.val 29 8 (Value.bool true),
    Hint.call 45 (Value.string t) { n := 0, objs := [] } [],
    Hint.val 29 13 (Value.bool b)])
    [(Value.bool !ByteArray.toList s == ByteArray.toList { data := #[] }) = Value.bool true,
    Value.bool (decide ((↑(ByteArray.size s) : Int) ≤ (32 : Int))) = Value.bool true,
    evCall Tryz.prog 0 (bodied Tryz.prog) noOver sbs 100 19 45 [Value.string s, Value.string { data := #[97, 98, 99, 100, 101, 102, 103, 104, 105, 106, 107, 108, 109, 110, 111, 112, 113, 114, 115, 116, 117, 118, 119, 120, 121, 122, 48, 49, 50, 51, 52, 53, 54, 55, 56, 57, 45] }] { n := 0, objs := [] } = some (Value.string t, { n := 0, objs := [] }, []),
    Value.bool (ByteArray.toList t == ByteArray.toList { data := #[] }) = Value.bool b] (by kernel_rfl)
    ⟨hs, Dg.vtrue (by omega), h2, h3, trivial⟩
--> myT

/-- Is it a note's word? -/
def mayL (l : List UInt8) : Bool := Nat.ble 1 l.length && (Nat.ble l.length 32 && allIn l)
theorem eq_nil {l : List UInt8} : ((bs l).toList == ByteArray.toList ⟨#[]⟩) = Nat.beq l.length 0 := by
  cases l with
  | nil =>
    rw [ByteArray.toList_eq, ByteArray.toList_eq]
    rfl
  | cons a r =>
    rw [show Nat.beq (a :: r).length 0 = false from rfl]
    rw [beq_eq_false_iff_ne, ByteArray.toList_eq, ByteArray.toList_eq]
    simp [bs]
theorem may_run (l : List UInt8) : ev0 20 29 [.string (bs l)] ⟨0, []⟩ = some (.bool (mayL l), ⟨0, []⟩, []) := by
  cases l with
  | nil => exact myE _ (by rw [eq_nil]; rfl)
  | cons a r =>
    have hne : Value.bool (!((bs (a :: r)).toList == ByteArray.toList ⟨#[]⟩)) = .bool true := by rw [eq_nil]; rfl
    have hne2 : Value.bool ((bs (a :: r)).toList == ByteArray.toList ⟨#[]⟩) = .bool false := by rw [eq_nil]; rfl
    by_cases hl : (a :: r).length ≤ 32
    · have hsz : (bs (a :: r)).size ≤ 32 := by rw [bs_size]; exact hl
      have e1 : mayL (a :: r) = allIn (a :: r) := by
        unfold mayL
        rw [Nat.ble_eq_true_of_le hl, show Nat.ble 1 (a :: r).length = true from Nat.ble_eq_true_of_le (by simp)]
        rfl
      rw [e1]
      cases hA : allIn (a :: r) with
      | true =>
        have hR : ev0 18 57 [.string (bs (a :: r)), .pointer (some ⟨0, 0, none⟩)] ⟨1, [.cells kpAs 126 0 1]⟩ = some (.string (bs []), ⟨1, [.cells kpAs 126 0 1]⟩, []) := trE 126 0 _ _ fun s0 h0 => by
          rcases loopR 126 0 _ _ rfl hl 100 (by omega) s0 h0 with ⟨_, h⟩ | ⟨h, _⟩
          · exact h
          · rw [hA] at h; cases h
        exact myT _ _ true hne hsz (tmA _ _ _ hne2 hR (tlE 126 0 _ (by rw [bs_size]; rfl))) (by rw [eq_nil]; rfl)
      | false =>
        have kR : ∃ l' c, inB c.toNat = false ∧ (l' ++ [c]).length ≤ 32 ∧ ∀ s0, clR s0 = SR kpAs 126 0 (bs (a :: r)) → evLoop runR clR 100 s0 = some (.exit 0, ERB kpAs 126 0 (bs (l' ++ [c])) ((c.toNat : Nat) : Int)) := by
          have hX : ∀ s0 s1, clR s0 = SR kpAs 126 0 (bs (a :: r)) → clR s1 = SR kpAs 126 0 (bs (a :: r)) → evLoop runR clR 100 s0 = evLoop runR clR 100 s1 := fun s0 s1 h0 h1 => evLoop_same 100 (h0.trans h1.symm)
          by_cases hs0 : ∃ s0, clR s0 = SR kpAs 126 0 (bs (a :: r))
          · obtain ⟨s0, h0⟩ := hs0
            rcases loopR 126 0 _ _ rfl hl 100 (by omega) s0 h0 with ⟨h, _⟩ | ⟨_, l', c, h1, h2, h3⟩
            · rw [hA] at h; cases h
            · exact ⟨l', c, h1, h2, fun s1 h4 => by rw [hX s1 s0 h4 h0]; exact h3⟩
          · exact ⟨[], 0, by decide, by simp, fun s1 h => absurd ⟨s1, h⟩ hs0⟩
        obtain ⟨l', c, hc, hl', hR⟩ := kR
        have hlen : l'.length < 100 := by simp at hl'; omega
        have kL : ∃ l2 b, ∀ s0, clL s0 = SL kpAs 126 0 (bs (l' ++ [c])) → evLoop runL clL 100 s0 = some (.exit 0, ELB kpAs 126 0 (bs (b :: l2)) ((b.toNat : Nat) : Int)) := by
          have hX : ∀ s0 s1, clL s0 = SL kpAs 126 0 (bs (l' ++ [c])) → clL s1 = SL kpAs 126 0 (bs (l' ++ [c])) → evLoop runL clL 100 s0 = evLoop runL clL 100 s1 := fun s0 s1 h0 h1 => evLoop_same 100 (h0.trans h1.symm)
          by_cases hs0 : ∃ s0, clL s0 = SL kpAs 126 0 (bs (l' ++ [c]))
          · obtain ⟨s0, h0⟩ := hs0
            obtain ⟨l2, b, h3⟩ := loopL 126 0 c hc l' hl' 100 hlen s0 h0
            exact ⟨l2, b, fun s1 h4 => by rw [hX s1 s0 h4 h0]; exact h3⟩
          · exact ⟨[], 0, fun s1 h => absurd ⟨s1, h⟩ hs0⟩
        obtain ⟨l2, b, hL⟩ := kL
        exact myT _ _ false hne hsz (tmA _ _ _ hne2 (trW 126 0 _ _ _ hR) (tlW 126 0 _ _ _ hL)) (by rw [eq_nil]; rfl)
    · have e1 : mayL (a :: r) = false := by
        unfold mayL
        have : Nat.ble (a :: r).length 32 = false := by
          cases h : Nat.ble (a :: r).length 32 with
          | false => rfl
          | true => exact absurd (Nat.le_of_ble_eq_true h) hl
        rw [this]; simp
      rw [e1]
      exact myL _ hne (by rw [bs_size]; omega)
theorem may_flats (s : ByteArray) : Flats Tryz.prog 29 [.string s] (.bool (mayL s.data.toList)) := by
  have h := may_run s.data.toList
  rw [bs_of] at h
  exact Dg.closed_call mixed okB Dg.noOver_ok (by show (ev0 20 29 [.string s] ⟨0, []⟩).map (·.1) = _; rw [h]; rfl) rfl rfl
/-- 'may' as an oracle. -/
def oMay (f : FuncId) (args : List Value) : Option Value := match f, args with
  | 29, [.string s] => some (.bool (mayL s.data.toList))
  | _, _ => none
theorem oMay_flats : ∀ f args v, oMay f args = some v → Flats Tryz.prog f args v := by
  intro f args v h
  unfold oMay at h
  split at h
  · cases h; exact may_flats _
  · cases h
end Go.Proofs.YtpgddboigegplaaGreatDoor.base

namespace Go.Proofs.YtpgddboigegplaaGreatDoor.base
open Go.Dg (junk St Ex Ev Hint evCall evCallS evCode evLoop cleanSt ue bodied noOver sbOf lBody Flats flatOver Heap AObj)
set_option linter.unusedVariables false

def qm : ByteArray := ⟨#[63]⟩
/-- A sign's text. -/
def runeS (z : Int) : ByteArray := Utf8.encode z
/-- Slots by a row. -/
def gOf (l : List Value) (n : Nat) : Value := l.getD (n - 19) junk
def oMayS (z : Int) : Bool := mayL (runeS z).data.toList
theorem may_all : ((List.range 256).all fun n => oMayS (n : Int) == inB n) = true := by kernel_rfl
theorem may_rune {n : Nat} (h : n < 256) : oMayS (n : Int) = inB n := eq_of_beq (List.all_eq_true.1 may_all n (List.mem_range.2 h))
theorem bc_get (l : List UInt8) (i : Nat) (h : i < l.length) : (byteCells (bs l))[i]? = some (.int .u8 ((l[i].toNat : Nat) : Int)) := by
  simp [byteCells, bs, h]
/-- The word that a note has. -/
def wordOf (s : ByteArray) : ByteArray := if mayL s.data.toList then s else qm
/-- An oracle that says nothing of fault.Wrap. -/
def noW (o : Ev) : Ev := fun f args H => bif Nat.beq f 10 then none else o f args H
/-- An oracle that knows 'may'. -/
def MayOk (ov : Ev) : Prop := ∀ (s : ByteArray) (H : Heap), ov 29 [.string s] H = some (.bool (mayL s.data.toList), H, [])
theorem may_call {ov : Ev} (ho : MayOk ov) {G lf m : Nat} {s : ByteArray} {b : Bool} (h : mayL s.data.toList = b) (H : Heap) : evCall Tryz.prog G (bodied Tryz.prog) ov sbs lf (m + 1) 29 [.string s] H = some (.bool b, H, []) :=
  Dg.evCall_over (by rw [← h]; exact ho s H)
theorem mayOk : MayOk (noW (flatOver oMay)) := fun _ _ => rfl
theorem noW_ok {G : Nat} {o : Ev} (h : Dg.CallOk Tryz.prog G o ∧ Dg.CallLog o) : Dg.CallOk Tryz.prog G (noW o) ∧ Dg.CallLog (noW o) := by
  have key : ∀ f args H r, noW o f args H = some r → o f args H = some r := by
    intro f args H r he
    unfold noW at he
    cases hb : Nat.beq f 10 with
    | true => rw [hb, cond_true] at he; cases he
    | false => rwa [hb, cond_false] at he
  exact ⟨fun f args H v H' log he => h.1 f args H v H' log (key _ _ _ _ he), fun f args H v H' log he => h.2 f args H v H' log (key _ _ _ _ he)⟩
/-- The oracle of this chapter's rows. -/
def ovY : Ev := noW (flatOver oMay)
theorem ovY_ok : Dg.CallOk Tryz.prog 15 ovY ∧ Dg.CallLog ovY := noW_ok (Dg.flatOver_ok oMay_flats)
noncomputable abbrev evY (lf n : Nat) (f : FuncId) (args : List Value) (H : Heap) : Option (Value × Heap × List Nat) := evCall Tryz.prog 15 (bodied Tryz.prog) ovY sbs lf n f args H
def eS (x : ByteArray) : AObj := .cells [.string x] 64 4 1
end Go.Proofs.YtpgddboigegplaaGreatDoor.base

namespace Go.Proofs.YtpgddboigegplaaGreatDoor.base
open Go.Dg (junk St Ex Ev Hint evCall evCallS evLoop bodied noOver Flats flatOver Heap AObj)
set_option linter.unusedVariables false

/-- The document's examples. -/
theorem known1 (lf : Nat) (E : Nat → TypeId) (u3 u4 : TypeId) (x : AObj) : evY (lf + 100) 19 7 [] (H0 E u3 u4 [x]) = some (.bool true, H0 E u3 u4 [x], []) := by kernel_rfl
end Go.Proofs.YtpgddboigegplaaGreatDoor.base
