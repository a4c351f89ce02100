/- The reference's Parse of chapter 06: its loops, over any text. -/
import Derived.Test.YtpgddboigegplaaGreatDoorRows
import Derived.Test.YtpgddboigegplaaGreatDoorFV
namespace Go.Proofs.YtpgddboigegplaaGreatDoor.base
open Go.Dg (junk St Ex Ev Hint evCall evCallS evCode evCodeK innerKp evCodeS evLoop cleanSt ue bodied noOver sbOf headOf tailOf bodyOf rAssign rBody lBody Flats flatOver Heap AObj SCall Law ofLaw Fix)
set_option linter.unusedVariables false
set_option linter.unusedSimpArgs false

noncomputable def lP : Code := lBody ((Tryz.f23.body).getD .skip)
noncomputable def kP : List Nat := innerKp lP []
noncomputable def lQ : Code := lBody lP
noncomputable abbrev runP (lf : Nat) : St → Option (Ex × St) := evCodeK Tryz.prog 0 (bodied Tryz.prog) (evCall Tryz.prog 0 (bodied Tryz.prog) noOver sbs lf 31) 0 13 lf lP kP
noncomputable abbrev clP : St → St := cleanSt 0 13 (ue lP [] []).1
noncomputable abbrev runQ (lf : Nat) : St → Option (Ex × St) := evCodeK Tryz.prog 0 (bodied Tryz.prog) (evCall Tryz.prog 0 (bodied Tryz.prog) noOver sbs lf 31) 0 13 lf lQ []
noncomputable abbrev clQ : St → St := cleanSt 0 13 (ue lQ kP []).1
/-- The words so far, as an object. -/
def rowP (xs : List Value) : AObj := .cells xs 9 5 1
def TP (s rest : ByteArray) (W : Value) (a : Value) : List Value := [.string s, undef, .slice none 0 0, .int .i64 0, .int .i64 0, .bool false, W, .string rest, a, undef, undef, undef, undef]
def QIa (s rest : ByteArray) (a : Nat) : St := ⟨TP s rest (.slice none 0 0) (.int .i64 (a : Int)) ++ js 103, ⟨0, []⟩, []⟩
def QEa (s rest : ByteArray) (a : Nat) (g : Nat → Value) : St := ⟨TP s rest (.slice none 0 0) (.int .i64 (a : Int)) ++ [g 13, g 14, g 15, g 16, g 17, g 18, g 19, g 20, g 21, g 22, g 23, g 24, g 25, g 26, g 27, g 28, g 29, g 30, g 31, g 32, g 33, g 34, g 35, g 36, g 37, g 38, g 39, g 40, g 41, g 42, g 43, g 44, g 45, g 46, g 47, g 48, g 49, g 50, g 51, g 52, g 53, g 54, g 55, g 56, g 57, g 58, g 59, g 60, g 61, g 62, g 63, g 64, g 65, g 66, g 67, g 68, g 69, g 70, g 71, g 72, g 73, g 74, g 75, g 76, g 77, g 78, g 79, g 80, g 81, g 82, g 83, g 84, g 85, g 86, g 87, g 88, g 89, g 90, g 91, g 92, g 93, g 94, g 95, g 96, g 97, g 98, g 99, g 100, g 101, g 102, g 103, g 104, g 105, g 106, g 107, g 108, g 109, g 110, g 111, g 112, g 113, g 114, g 115], ⟨0, []⟩, []⟩
def QIb (s rest : ByteArray) (j : Nat) (xs : List Value) (a : Nat) : St := ⟨TP s rest (.slice (some ⟨0, 0, some 0⟩) j j) (.int .i64 (a : Int)) ++ js 103, ⟨1, [rowP xs]⟩, []⟩
def QEb (s rest : ByteArray) (j : Nat) (xs : List Value) (a : Nat) (g : Nat → Value) : St := ⟨TP s rest (.slice (some ⟨0, 0, some 0⟩) j j) (.int .i64 (a : Int)) ++ [g 13, g 14, g 15, g 16, g 17, g 18, g 19, g 20, g 21, g 22, g 23, g 24, g 25, g 26, g 27, g 28, g 29, g 30, g 31, g 32, g 33, g 34, g 35, g 36, g 37, g 38, g 39, g 40, g 41, g 42, g 43, g 44, g 45, g 46, g 47, g 48, g 49, g 50, g 51, g 52, g 53, g 54, g 55, g 56, g 57, g 58, g 59, g 60, g 61, g 62, g 63, g 64, g 65, g 66, g 67, g 68, g 69, g 70, g 71, g 72, g 73, g 74, g 75, g 76, g 77, g 78, g 79, g 80, g 81, g 82, g 83, g 84, g 85, g 86, g 87, g 88, g 89, g 90, g 91, g 92, g 93, g 94, g 95, g 96, g 97, g 98, g 99, g 100, g 101, g 102, g 103, g 104, g 105, g 106, g 107, g 108, g 109, g 110, g 111, g 112, g 113, g 114, g 115], ⟨1, [rowP xs]⟩, []⟩
def PIa (s : ByteArray) : St := ⟨TP s s (.slice none 0 0) undef ++ js 103, ⟨0, []⟩, []⟩
def PIb (s rest : ByteArray) (j : Nat) (xs : List Value) (a : Nat) : St := ⟨TP s rest (.slice (some ⟨0, 0, some 0⟩) j j) (.int .i64 (a : Int)) ++ js 103, ⟨1, [rowP xs]⟩, []⟩
--< qaR
theorem qaR (lf : Nat) (s : ByteArray) (rest : ByteArray) (a : Nat) (hs : ByteArray.size rest ≤ 1000) (z : Int) (hz : Dg.strAt rest (↑a : Int) = some z) (ha : a < ByteArray.size rest) (hr : 0 ≤ z ∧ z < 256) (hd : z ≠ 58) :
    ∃ s', (runQ lf) (QIa s rest a) = some (Ex.normal, s') ∧ clQ s' = QIa s rest (a + 1) :=
  Dg.code_round (f := 23) clQ (hs := [Hint.val 23 17 (Value.bool true),
    Hint.soft 23 21 (Value.int IntKind.u8 z),
    Hint.val 23 22 (Value.bool true),
    Hint.val 23 25 (Value.int IntKind.i64 ((↑a : Int) + 1))])
    [Value.bool (decide ((↑a : Int) < (↑(ByteArray.size rest) : Int))) = Value.bool true,
    Dg.strAt rest (↑a : Int) = some z,
    Value.bool (z != (58 : Int)) = Value.bool true,
    Value.int IntKind.i64 (IntKind.wrap IntKind.i64 ((↑a : Int) + (1 : Int))) = Value.int IntKind.i64 ((↑a : Int) + (1 : Int))] (by kernel_rfl)
    ⟨Dg.vtrue (by omega), hz, by simp; omega, Dg.i64_eq rfl (by omega) (by omega), trivial⟩
--> qaR
--< qaA
theorem qaA (lf : Nat) (s : ByteArray) (rest : ByteArray) (a : Nat) (hs : ByteArray.size rest ≤ 1000) (h0 : ByteArray.size rest ≤ a) :
    (runQ lf) (QIa s rest a) = some (Ex.exit 2, ({ ts := [Value.string s, undef, Value.slice none 0 0, Value.int IntKind.i64 0, Value.int IntKind.i64 0, Value.bool false, Value.slice none 0 0, Value.string rest, Value.int IntKind.i64 (↑a : Int), undef, undef, undef, undef, junk, Value.int IntKind.i64 (↑a : Int), Value.string rest, Value.int IntKind.i64 (↑(ByteArray.size rest) : Int), Value.bool false, Value.bool false, undef, undef, undef, undef, Value.bool false, junk, junk, junk, junk, junk, junk, junk, junk, junk, junk, junk, junk, junk, junk, junk, junk, junk, junk, junk, junk, junk, junk, junk, junk, junk, junk, junk, junk, junk, junk, junk, junk, junk, junk, junk, junk, junk, junk, junk, junk, junk, junk, junk, junk, junk, junk, junk, junk, junk, junk, junk, junk, junk, junk, junk, junk, junk, junk, junk, junk, junk, junk, junk, junk, junk, junk, junk, junk, junk, junk, junk, junk, junk, junk, junk, junk, junk, junk, junk, junk, junk, junk, junk, junk, junk, junk, junk, junk, junk, junk, junk, junk], H := { n := 0, objs := [] }, log := [] } : St)) :=
  Dg.evCode_hint (f := 23) (hs' := []) (hs := [Hint.val 23 17 (Value.bool false)])
    [Value.bool (decide ((↑a : Int) < (↑(ByteArray.size rest) : Int))) = Value.bool false] (by kernel_rfl)
    ⟨Dg.vfalse (by omega), trivial⟩
--> qaA
--< qaB
theorem qaB (lf : Nat) (s : ByteArray) (rest : ByteArray) (a : Nat) (hs : ByteArray.size rest ≤ 1000) (hz : Dg.strAt rest (↑a : Int) = some 58) (ha : a < ByteArray.size rest) :
    (runQ lf) (QIa s rest a) = some (Ex.exit 2, ({ ts := [Value.string s, undef, Value.slice none 0 0, Value.int IntKind.i64 0, Value.int IntKind.i64 0, Value.bool false, Value.slice none 0 0, Value.string rest, Value.int IntKind.i64 (↑a : Int), undef, undef, undef, undef, junk, Value.int IntKind.i64 (↑a : Int), Value.string rest, Value.int IntKind.i64 (↑(ByteArray.size rest) : Int), Value.bool true, Value.bool true, Value.string rest, Value.int IntKind.i64 (↑a : Int), Value.int IntKind.u8 58, Value.bool false, Value.bool false, junk, junk, junk, junk, junk, junk, junk, junk, junk, junk, junk, junk, junk, junk, junk, junk, junk, junk, junk, junk, junk, junk, junk, junk, junk, junk, junk, junk, junk, junk, junk, junk, junk, junk, junk, junk, junk, junk, junk, junk, junk, junk, junk, junk, junk, junk, junk, junk, junk, junk, junk, junk, junk, junk, junk, junk, junk, junk, junk, junk, junk, junk, junk, junk, junk, junk, junk, junk, junk, junk, junk, junk, junk, junk, junk, junk, junk, junk, junk, junk, junk, junk, junk, junk, junk, junk, junk, junk, junk, junk, junk, junk], H := { n := 0, objs := [] }, log := [] } : St)) :=
  Dg.evCode_hint (f := 23) (hs' := []) (hs := [Hint.val 23 17 (Value.bool true),
    Hint.soft 23 21 (Value.int IntKind.u8 58)])
    [Value.bool (decide ((↑a : Int) < (↑(ByteArray.size rest) : Int))) = Value.bool true,
    Dg.strAt rest (↑a : Int) = some (58 : Int)] (by kernel_rfl)
    ⟨Dg.vtrue (by omega), hz, trivial⟩
--> qaB
--< qbR
theorem qbR (lf : Nat) (s : ByteArray) (rest : ByteArray) (j : Nat) (xs : List Value) (a : Nat) (hs : ByteArray.size rest ≤ 1000) (z : Int) (hz : Dg.strAt rest (↑a : Int) = some z) (ha : a < ByteArray.size rest) (hr : 0 ≤ z ∧ z < 256) (hd : z ≠ 58) :
    ∃ s', (runQ lf) (QIb s rest j xs a) = some (Ex.normal, s') ∧ clQ s' = QIb s rest j xs (a + 1) :=
  Dg.code_round (f := 23) clQ (hs := [Hint.val 23 17 (Value.bool true),
    Hint.soft 23 21 (Value.int IntKind.u8 z),
    Hint.val 23 22 (Value.bool true),
    Hint.val 23 25 (Value.int IntKind.i64 ((↑a : Int) + 1))])
    [Value.bool (decide ((↑a : Int) < (↑(ByteArray.size rest) : Int))) = Value.bool true,
    Dg.strAt rest (↑a : Int) = some z,
    Value.bool (z != (58 : Int)) = Value.bool true,
    Value.int IntKind.i64 (IntKind.wrap IntKind.i64 ((↑a : Int) + (1 : Int))) = Value.int IntKind.i64 ((↑a : Int) + (1 : Int))] (by kernel_rfl)
    ⟨Dg.vtrue (by omega), hz, by simp; omega, Dg.i64_eq rfl (by omega) (by omega), trivial⟩
--> qbR
--< qbA
theorem qbA (lf : Nat) (s : ByteArray) (rest : ByteArray) (j : Nat) (xs : List Value) (a : Nat) (hs : ByteArray.size rest ≤ 1000) (h0 : ByteArray.size rest ≤ a) :
    (runQ lf) (QIb s rest j xs a) = some (Ex.exit 2, ({ ts := [Value.string s, undef, Value.slice none 0 0, Value.int IntKind.i64 0, Value.int IntKind.i64 0, Value.bool false, Value.slice (some { block := 0, off := 0, spot := some 0 }) j j, Value.string rest, Value.int IntKind.i64 (↑a : Int), undef, undef, undef, undef, junk, Value.int IntKind.i64 (↑a : Int), Value.string rest, Value.int IntKind.i64 (↑(ByteArray.size rest) : Int), Value.bool false, Value.bool false, undef, undef, undef, undef, Value.bool false, junk, junk, junk, junk, junk, junk, junk, junk, junk, junk, junk, junk, junk, junk, junk, junk, junk, junk, junk, junk, junk, junk, junk, junk, junk, junk, junk, junk, junk, junk, junk, junk, junk, junk, junk, junk, junk, junk, junk, junk, junk, junk, junk, junk, junk, junk, junk, junk, junk, junk, junk, junk, junk, junk, junk, junk, junk, junk, junk, junk, junk, junk, junk, junk, junk, junk, junk, junk, junk, junk, junk, junk, junk, junk, junk, junk, junk, junk, junk, junk, junk, junk, junk, junk, junk, junk, junk, junk, junk, junk, junk, junk], H := { n := 1, objs := [AObj.cells xs 9 5 1] }, log := [] } : St)) :=
  Dg.evCode_hint (f := 23) (hs' := []) (hs := [Hint.val 23 17 (Value.bool false)])
    [Value.bool (decide ((↑a : Int) < (↑(ByteArray.size rest) : Int))) = Value.bool false] (by kernel_rfl)
    ⟨Dg.vfalse (by omega), trivial⟩
--> qbA
--< qbB
theorem qbB (lf : Nat) (s : ByteArray) (rest : ByteArray) (j : Nat) (xs : List Value) (a : Nat) (hs : ByteArray.size rest ≤ 1000) (hz : Dg.strAt rest (↑a : Int) = some 58) (ha : a < ByteArray.size rest) :
    (runQ lf) (QIb s rest j xs a) = some (Ex.exit 2, ({ ts := [Value.string s, undef, Value.slice none 0 0, Value.int IntKind.i64 0, Value.int IntKind.i64 0, Value.bool false, Value.slice (some { block := 0, off := 0, spot := some 0 }) j j, Value.string rest, Value.int IntKind.i64 (↑a : Int), undef, undef, undef, undef, junk, Value.int IntKind.i64 (↑a : Int), Value.string rest, Value.int IntKind.i64 (↑(ByteArray.size rest) : Int), Value.bool true, Value.bool true, Value.string rest, Value.int IntKind.i64 (↑a : Int), Value.int IntKind.u8 58, Value.bool false, Value.bool false, junk, junk, junk, junk, junk, junk, junk, junk, junk, junk, junk, junk, junk, junk, junk, junk, junk, junk, junk, junk, junk, junk, junk, junk, junk, junk, junk, junk, junk, junk, junk, junk, junk, junk, junk, junk, junk, junk, junk, junk, junk, junk, junk, junk, junk, junk, junk, junk, junk, junk, junk, junk, junk, junk, junk, junk, junk, junk, junk, junk, junk, junk, junk, junk, junk, junk, junk, junk, junk, junk, junk, junk, junk, junk, junk, junk, junk, junk, junk, junk, junk, junk, junk, junk, junk, junk, junk, junk, junk, junk, junk, junk], H := { n := 1, objs := [AObj.cells xs 9 5 1] }, log := [] } : St)) :=
  Dg.evCode_hint (f := 23) (hs' := []) (hs := [Hint.val 23 17 (Value.bool true),
    Hint.soft 23 21 (Value.int IntKind.u8 58)])
    [Value.bool (decide ((↑a : Int) < (↑(ByteArray.size rest) : Int))) = Value.bool true,
    Dg.strAt rest (↑a : Int) = some (58 : Int)] (by kernel_rfl)
    ⟨Dg.vtrue (by omega), hz, trivial⟩
--> qbB
theorem infoS' : (Tryz.prog.info? 9).map (fun i => (i.zero, i.size, i.bytes)) = some (some (.string ⟨#[]⟩), 1, 16) := by kernel_rfl
theorem infoS : ∃ i, Tryz.prog.info? 9 = some i ∧ i.zero = some (.string ⟨#[]⟩) ∧ i.size = 1 ∧ i.bytes = 16 := by
  have h := infoS'
  rw [Option.map_eq_some_iff] at h
  obtain ⟨i, h1, h2⟩ := h
  simp only [Prod.mk.injEq] at h2
  exact ⟨i, h1, h2.1, h2.2.1, h2.2.2⟩
theorem appS {H H' : Heap} {k k2 l l' m : Nat} {os : List Value} {x : ByteArray} (hk : H.get k = rowP os) (hf : ∀ v ∈ os, ∃ b, v = Value.string b) (hl : l = os.length) (h2 : Dg.srcCells H 1 (.slice (some ⟨k2, 0, none⟩) 1 1) = some (1, [.string x])) (hb : l ≤ 100000) (hl' : l' = l + 1) (hH : H' = (H.set k .dead).push (rowP (os ++ [.string x]))) (hn : H.n = m) :
    Dg.evAppend Tryz.prog H 22 22 (.slice (some ⟨k, 0, some 0⟩) l l) (.slice (some ⟨k2, 0, none⟩) 1 1) = some (.slice (some ⟨m, 0, some 0⟩) l' l', H', [k]) := by
  obtain ⟨i, hi, hz, hs, hby⟩ := infoS
  have one : os.all (·.oneCell') = true := List.all_eq_true.2 fun v hv => by obtain ⟨b, rfl⟩ := hf v hv; rfl
  have h := Dg.evAppend_flex (P := Tryz.prog) (H := H) (t := 22) (tx := 22) (e := 9) (i := i) (k := k) (l := l) (md := 5) (cs := os) (x := .slice (some ⟨k2, 0, none⟩) 1 1) (n := 1) (news := [.string x]) (by kernel_rfl) (by kernel_rfl) hi hz (by rw [hs]; rfl) (by rw [hs]; exact h2) rfl (by rw [hs]; rfl) (by omega)
    (by rw [hs]; exact hk) rfl (by rw [hs, hl]; omega) one (by omega) (by rw [hby]; omega)
  have hkm : Dg.keepMd 5 (Dg.srcFlag H (.slice (some ⟨k2, 0, none⟩) 1 1) || Dg.flatL [Value.string x]) = 5 := by simp [Dg.keepMd, Dg.flatL, Dg.flat]
  rw [h, hkm, hs, hH, hl', hn, rowP]
--< paE
theorem paE (lf : Nat) (s : ByteArray) (rest : ByteArray) (a : Nat) (hs : ByteArray.size rest ≤ 1000) (ha : a ≤ ByteArray.size rest) (g : Nat → Value) (hI : ∀ (s0 : St), clQ s0 = QIa rest rest 0 → evLoop (runQ lf) clQ lf s0 = some (Ex.exit 2, QEa rest rest a g)) (h0 : ByteArray.size rest ≤ a + 1) :
    (runP lf) (PIa rest) = some (Ex.exit 0, ({ ts := [Value.string rest, undef, Value.slice none 0 0, Value.int IntKind.i64 0, Value.int IntKind.i64 0, Value.bool false, Value.slice none 0 0, Value.string rest, Value.int IntKind.i64 (↑a : Int), undef, undef, undef, undef, g 13, g 14, g 15, g 16, g 17, g 18, g 19, g 20, g 21, g 22, g 23, g 24, g 25, Value.int IntKind.i64 (↑a : Int), Value.int IntKind.i64 ((↑a : Int) + 1), Value.string rest, Value.int IntKind.i64 (↑(ByteArray.size rest) : Int), Value.bool true, Value.bool true, undef, undef, undef, undef, undef, Value.bool true, Value.bool true, undef, undef, undef, undef, undef, undef, undef, undef, Value.bool true, g 48, g 49, g 50, g 51, g 52, g 53, g 54, g 55, g 56, g 57, g 58, g 59, g 60, g 61, g 62, g 63, g 64, g 65, g 66, g 67, g 68, g 69, g 70, g 71, g 72, g 73, g 74, g 75, g 76, g 77, g 78, g 79, g 80, g 81, g 82, g 83, g 84, g 85, g 86, g 87, g 88, g 89, g 90, g 91, g 92, g 93, g 94, g 95, g 96, g 97, g 98, g 99, g 100, g 101, g 102, g 103, g 104, g 105, g 106, g 107, g 108, g 109, g 110, g 111, g 112, g 113, g 114, g 115], H := { n := 0, objs := [] }, log := [] } : St)) :=
  Dg.evCode_hint (f := 23) (hs' := []) (hs := [Hint.loop 23 (Ex.exit 2) (QEa rest rest a g),
    Hint.val 23 27 (Value.int IntKind.i64 ((↑a : Int) + 1)),
    Hint.val 23 30 (Value.bool true)])
    [evLoop (runQ lf) clQ lf { ts := [Value.string rest, undef, Value.slice none 0 0, Value.int IntKind.i64 0, Value.int IntKind.i64 0, Value.bool false, Value.slice none 0 0, Value.string rest, Value.int IntKind.i64 0, undef, undef, undef, undef, junk, junk, junk, junk, junk, junk, junk, junk, junk, junk, junk, junk, junk, junk, junk, junk, junk, junk, junk, junk, junk, junk, junk, junk, junk, junk, junk, junk, junk, junk, junk, junk, junk, junk, junk, junk, junk, junk, junk, junk, junk, junk, junk, junk, junk, junk, junk, junk, junk, junk, junk, junk, junk, junk, junk, junk, junk, junk, junk, junk, junk, junk, junk, junk, junk, junk, junk, junk, junk, junk, junk, junk, junk, junk, junk, junk, junk, junk, junk, junk, junk, junk, junk, junk, junk, junk, junk, junk, junk, junk, junk, junk, junk, junk, junk, junk, junk, junk, junk, junk, junk, junk, junk], H := { n := 0, objs := [] }, log := [] } = some (Ex.exit 2, QEa rest rest a g),
    Value.int IntKind.i64 (IntKind.wrap IntKind.i64 ((↑a : Int) + (1 : Int))) = Value.int IntKind.i64 ((↑a : Int) + (1 : Int)),
    Value.bool (decide ((↑a : Int) + (1 : Int) ≥ (↑(ByteArray.size rest) : Int))) = Value.bool true] (by kernel_rfl)
    ⟨hI _ (by kernel_rfl), Dg.i64_eq rfl (by omega) (by omega), Dg.vtrue (by omega), trivial⟩
--> paE
--< paF
theorem paF (lf : Nat) (s : ByteArray) (rest : ByteArray) (a : Nat) (hs : ByteArray.size rest ≤ 1000) (ha : a ≤ ByteArray.size rest) (g : Nat → Value) (hI : ∀ (s0 : St), clQ s0 = QIa rest rest 0 → evLoop (runQ lf) clQ lf s0 = some (Ex.exit 2, QEa rest rest a g)) (z : Int) (hz : Dg.strAt rest ((↑a : Int) + 1) = some z) (h1 : a + 1 < ByteArray.size rest) (hr : 0 ≤ z ∧ z < 256) (hd : z ≠ 32) :
    (runP lf) (PIa rest) = some (Ex.exit 0, ({ ts := [Value.string rest, undef, Value.slice none 0 0, Value.int IntKind.i64 0, Value.int IntKind.i64 0, Value.bool false, Value.slice none 0 0, Value.string rest, Value.int IntKind.i64 (↑a : Int), undef, undef, undef, undef, g 13, g 14, g 15, g 16, g 17, g 18, g 19, g 20, g 21, g 22, g 23, g 24, g 25, Value.int IntKind.i64 (↑a : Int), Value.int IntKind.i64 ((↑a : Int) + 1), Value.string rest, Value.int IntKind.i64 (↑(ByteArray.size rest) : Int), Value.bool false, Value.bool false, Value.string rest, Value.int IntKind.i64 (↑a : Int), Value.int IntKind.i64 ((↑a : Int) + 1), Value.int IntKind.u8 z, Value.bool true, Value.bool true, Value.bool true, undef, undef, undef, undef, undef, undef, undef, undef, Value.bool true, g 48, g 49, g 50, g 51, g 52, g 53, g 54, g 55, g 56, g 57, g 58, g 59, g 60, g 61, g 62, g 63, g 64, g 65, g 66, g 67, g 68, g 69, g 70, g 71, g 72, g 73, g 74, g 75, g 76, g 77, g 78, g 79, g 80, g 81, g 82, g 83, g 84, g 85, g 86, g 87, g 88, g 89, g 90, g 91, g 92, g 93, g 94, g 95, g 96, g 97, g 98, g 99, g 100, g 101, g 102, g 103, g 104, g 105, g 106, g 107, g 108, g 109, g 110, g 111, g 112, g 113, g 114, g 115], H := { n := 0, objs := [] }, log := [] } : St)) :=
  Dg.evCode_hint (f := 23) (hs' := []) (hs := [Hint.loop 23 (Ex.exit 2) (QEa rest rest a g),
    Hint.val 23 27 (Value.int IntKind.i64 ((↑a : Int) + 1)),
    Hint.val 23 30 (Value.bool false),
    Hint.val 23 34 (Value.int IntKind.i64 ((↑a : Int) + 1)),
    Hint.soft 23 35 (Value.int IntKind.u8 z),
    Hint.val 23 36 (Value.bool true)])
    [evLoop (runQ lf) clQ lf { ts := [Value.string rest, undef, Value.slice none 0 0, Value.int IntKind.i64 0, Value.int IntKind.i64 0, Value.bool false, Value.slice none 0 0, Value.string rest, Value.int IntKind.i64 0, undef, undef, undef, undef, junk, junk, junk, junk, junk, junk, junk, junk, junk, junk, junk, junk, junk, junk, junk, junk, junk, junk, junk, junk, junk, junk, junk, junk, junk, junk, junk, junk, junk, junk, junk, junk, junk, junk, junk, junk, junk, junk, junk, junk, junk, junk, junk, junk, junk, junk, junk, junk, junk, junk, junk, junk, junk, junk, junk, junk, junk, junk, junk, junk, junk, junk, junk, junk, junk, junk, junk, junk, junk, junk, junk, junk, junk, junk, junk, junk, junk, junk, junk, junk, junk, junk, junk, junk, junk, junk, junk, junk, junk, junk, junk, junk, junk, junk, junk, junk, junk, junk, junk, junk, junk, junk, junk], H := { n := 0, objs := [] }, log := [] } = some (Ex.exit 2, QEa rest rest a g),
    Value.int IntKind.i64 (IntKind.wrap IntKind.i64 ((↑a : Int) + (1 : Int))) = Value.int IntKind.i64 ((↑a : Int) + (1 : Int)),
    Value.bool (decide ((↑a : Int) + (1 : Int) ≥ (↑(ByteArray.size rest) : Int))) = Value.bool false,
    Value.int IntKind.i64 (IntKind.wrap IntKind.i64 ((↑a : Int) + (1 : Int))) = Value.int IntKind.i64 ((↑a : Int) + (1 : Int)),
    Dg.strAt rest ((↑a : Int) + (1 : Int)) = some z,
    Value.bool (z != (32 : Int)) = Value.bool true] (by kernel_rfl)
    ⟨hI _ (by kernel_rfl), Dg.i64_eq rfl (by omega) (by omega), Dg.vfalse (by omega), Dg.i64_eq rfl (by omega) (by omega), hz, by simp; omega, trivial⟩
--> paF
--< paG
theorem paG (lf : Nat) (s : ByteArray) (rest : ByteArray) (a : Nat) (hs : ByteArray.size rest ≤ 1000) (ha : a ≤ ByteArray.size rest) (g : Nat → Value) (hI : ∀ (s0 : St), clQ s0 = QIa rest rest 0 → evLoop (runQ lf) clQ lf s0 = some (Ex.exit 2, QEa rest rest a g)) (z : Int) (hz : Dg.strAt rest ((↑a : Int) + 1) = some z) (h1 : a + 1 < ByteArray.size rest) (hr : 0 ≤ z ∧ z < 256) (hd : z = 32) (w : ByteArray) (w2 : ByteArray) (hw : ByteArray.extract rest 0 a = w) (h33 : evCall Tryz.prog 0 (bodied Tryz.prog) noOver sbs lf 31 33 [Value.string w] { n := 0, objs := [] } = some (Value.string w2, { n := 0, objs := [] }, [])) (hne : (Value.bool !ByteArray.toList w2 == ByteArray.toList w) = Value.bool true) :
    (runP lf) (PIa rest) = some (Ex.exit 0, ({ ts := [Value.string rest, undef, Value.slice none 0 0, Value.int IntKind.i64 0, Value.int IntKind.i64 0, Value.bool false, Value.slice none 0 0, Value.string rest, Value.int IntKind.i64 (↑a : Int), undef, undef, undef, undef, g 13, g 14, g 15, g 16, g 17, g 18, g 19, g 20, g 21, g 22, g 23, g 24, g 25, Value.int IntKind.i64 (↑a : Int), Value.int IntKind.i64 ((↑a : Int) + 1), Value.string rest, Value.int IntKind.i64 (↑(ByteArray.size rest) : Int), Value.bool false, Value.bool false, Value.string rest, Value.int IntKind.i64 (↑a : Int), Value.int IntKind.i64 ((↑a : Int) + 1), Value.int IntKind.u8 z, Value.bool false, Value.bool false, Value.bool false, Value.string rest, Value.int IntKind.i64 (↑a : Int), Value.string w, Value.string w2, Value.string rest, Value.int IntKind.i64 (↑a : Int), Value.string w, Value.bool true, Value.bool true, g 48, g 49, g 50, g 51, g 52, g 53, g 54, g 55, g 56, g 57, g 58, g 59, g 60, g 61, g 62, g 63, g 64, g 65, g 66, g 67, g 68, g 69, g 70, g 71, g 72, g 73, g 74, g 75, g 76, g 77, g 78, g 79, g 80, g 81, g 82, g 83, g 84, g 85, g 86, g 87, g 88, g 89, g 90, g 91, g 92, g 93, g 94, g 95, g 96, g 97, g 98, g 99, g 100, g 101, g 102, g 103, g 104, g 105, g 106, g 107, g 108, g 109, g 110, g 111, g 112, g 113, g 114, g 115], H := { n := 0, objs := [] }, log := [] } : St)) :=
  Dg.evCode_hint (f := 23) (hs' := []) (hs := [Hint.loop 23 (Ex.exit 2) (QEa rest rest a g),
    Hint.val 23 27 (Value.int IntKind.i64 ((↑a : Int) + 1)),
    Hint.val 23 30 (Value.bool false),
    Hint.val 23 34 (Value.int IntKind.i64 ((↑a : Int) + 1)),
    Hint.soft 23 35 (Value.int IntKind.u8 z),
    Hint.val 23 36 (Value.bool false),
    Hint.soft 23 41 (Value.string w),
    Hint.call 33 (Value.string w2) { n := 0, objs := [] } [],
    Hint.soft 23 45 (Value.string w),
    Hint.val 23 46 (Value.bool true)])
    [evLoop (runQ lf) clQ lf { ts := [Value.string rest, undef, Value.slice none 0 0, Value.int IntKind.i64 0, Value.int IntKind.i64 0, Value.bool false, Value.slice none 0 0, Value.string rest, Value.int IntKind.i64 0, undef, undef, undef, undef, junk, junk, junk, junk, junk, junk, junk, junk, junk, junk, junk, junk, junk, junk, junk, junk, junk, junk, junk, junk, junk, junk, junk, junk, junk, junk, junk, junk, junk, junk, junk, junk, junk, junk, junk, junk, junk, junk, junk, junk, junk, junk, junk, junk, junk, junk, junk, junk, junk, junk, junk, junk, junk, junk, junk, junk, junk, junk, junk, junk, junk, junk, junk, junk, junk, junk, junk, junk, junk, junk, junk, junk, junk, junk, junk, junk, junk, junk, junk, junk, junk, junk, junk, junk, junk, junk, junk, junk, junk, junk, junk, junk, junk, junk, junk, junk, junk, junk, junk, junk, junk, junk, junk], H := { n := 0, objs := [] }, log := [] } = some (Ex.exit 2, QEa rest rest a g),
    Value.int IntKind.i64 (IntKind.wrap IntKind.i64 ((↑a : Int) + (1 : Int))) = Value.int IntKind.i64 ((↑a : Int) + (1 : Int)),
    Value.bool (decide ((↑a : Int) + (1 : Int) ≥ (↑(ByteArray.size rest) : Int))) = Value.bool false,
    Value.int IntKind.i64 (IntKind.wrap IntKind.i64 ((↑a : Int) + (1 : Int))) = Value.int IntKind.i64 ((↑a : Int) + (1 : Int)),
    Dg.strAt rest ((↑a : Int) + (1 : Int)) = some z,
    Value.bool (z != (32 : Int)) = Value.bool false,
    (0 : Int) ≤ (↑a : Int),
    (0 : Nat) ≤ Int.toNat (↑a : Int) ∧ Int.toNat (↑a : Int) ≤ ByteArray.size rest,
    Value.string (ByteArray.extract rest (0 : Nat) (Int.toNat (↑a : Int))) = Value.string w,
    evCall Tryz.prog 0 (bodied Tryz.prog) noOver sbs lf 31 33 [Value.string w] { n := 0, objs := [] } = some (Value.string w2, { n := 0, objs := [] }, []),
    (0 : Int) ≤ (↑a : Int),
    (0 : Nat) ≤ Int.toNat (↑a : Int) ∧ Int.toNat (↑a : Int) ≤ ByteArray.size rest,
    Value.string (ByteArray.extract rest (0 : Nat) (Int.toNat (↑a : Int))) = Value.string w,
    (Value.bool !ByteArray.toList w2 == ByteArray.toList w) = Value.bool true] (by kernel_rfl)
    ⟨hI _ (by kernel_rfl), Dg.i64_eq rfl (by omega) (by omega), Dg.vfalse (by omega), Dg.i64_eq rfl (by omega) (by omega), hz, by simp; omega, by omega, by omega, by simp only [Int.toNat_natCast]; rw [hw], h33, by omega, by omega, by simp only [Int.toNat_natCast]; rw [hw], hne, trivial⟩
--> paG
--< paR
theorem paR (lf : Nat) (s : ByteArray) (rest : ByteArray) (a : Nat) (hs : ByteArray.size rest ≤ 1000) (ha : a ≤ ByteArray.size rest) (g : Nat → Value) (hI : ∀ (s0 : St), clQ s0 = QIa rest rest 0 → evLoop (runQ lf) clQ lf s0 = some (Ex.exit 2, QEa rest rest a g)) (z : Int) (hz : Dg.strAt rest ((↑a : Int) + 1) = some z) (h1 : a + 1 < ByteArray.size rest) (hr : 0 ≤ z ∧ z < 256) (hd : z = 32) (w : ByteArray) (w2 : ByteArray) (hw : ByteArray.extract rest 0 a = w) (h33 : evCall Tryz.prog 0 (bodied Tryz.prog) noOver sbs lf 31 33 [Value.string w] { n := 0, objs := [] } = some (Value.string w2, { n := 0, objs := [] }, [])) (hne : (Value.bool !ByteArray.toList w2 == ByteArray.toList w) = Value.bool false) (r2 : ByteArray) (hr2 : ByteArray.extract rest (a + 2) (ByteArray.size rest) = r2) :
    ∃ s', (runP lf) (PIa rest) = some (Ex.normal, s') ∧ clP s' = PIb rest r2 1 [Value.string w] a :=
  Dg.code_round (f := 23) clP (hs := [Hint.loop 23 (Ex.exit 2) (QEa rest rest a g),
    Hint.val 23 27 (Value.int IntKind.i64 ((↑a : Int) + 1)),
    Hint.val 23 30 (Value.bool false),
    Hint.val 23 34 (Value.int IntKind.i64 ((↑a : Int) + 1)),
    Hint.soft 23 35 (Value.int IntKind.u8 z),
    Hint.val 23 36 (Value.bool false),
    Hint.soft 23 41 (Value.string w),
    Hint.call 33 (Value.string w2) { n := 0, objs := [] } [],
    Hint.soft 23 45 (Value.string w),
    Hint.val 23 46 (Value.bool false),
    Hint.soft 23 51 (Value.string w),
    Hint.val 23 56 (Value.int IntKind.i64 ((↑a : Int) + 2)),
    Hint.soft 23 57 (Value.string r2)])
    [evLoop (runQ lf) clQ lf { ts := [Value.string rest, undef, Value.slice none 0 0, Value.int IntKind.i64 0, Value.int IntKind.i64 0, Value.bool false, Value.slice none 0 0, Value.string rest, Value.int IntKind.i64 0, undef, undef, undef, undef, junk, junk, junk, junk, junk, junk, junk, junk, junk, junk, junk, junk, junk, junk, junk, junk, junk, junk, junk, junk, junk, junk, junk, junk, junk, junk, junk, junk, junk, junk, junk, junk, junk, junk, junk, junk, junk, junk, junk, junk, junk, junk, junk, junk, junk, junk, junk, junk, junk, junk, junk, junk, junk, junk, junk, junk, junk, junk, junk, junk, junk, junk, junk, junk, junk, junk, junk, junk, junk, junk, junk, junk, junk, junk, junk, junk, junk, junk, junk, junk, junk, junk, junk, junk, junk, junk, junk, junk, junk, junk, junk, junk, junk, junk, junk, junk, junk, junk, junk, junk, junk, junk, junk], H := { n := 0, objs := [] }, log := [] } = some (Ex.exit 2, QEa rest rest a g),
    Value.int IntKind.i64 (IntKind.wrap IntKind.i64 ((↑a : Int) + (1 : Int))) = Value.int IntKind.i64 ((↑a : Int) + (1 : Int)),
    Value.bool (decide ((↑a : Int) + (1 : Int) ≥ (↑(ByteArray.size rest) : Int))) = Value.bool false,
    Value.int IntKind.i64 (IntKind.wrap IntKind.i64 ((↑a : Int) + (1 : Int))) = Value.int IntKind.i64 ((↑a : Int) + (1 : Int)),
    Dg.strAt rest ((↑a : Int) + (1 : Int)) = some z,
    Value.bool (z != (32 : Int)) = Value.bool false,
    (0 : Int) ≤ (↑a : Int),
    (0 : Nat) ≤ Int.toNat (↑a : Int) ∧ Int.toNat (↑a : Int) ≤ ByteArray.size rest,
    Value.string (ByteArray.extract rest (0 : Nat) (Int.toNat (↑a : Int))) = Value.string w,
    evCall Tryz.prog 0 (bodied Tryz.prog) noOver sbs lf 31 33 [Value.string w] { n := 0, objs := [] } = some (Value.string w2, { n := 0, objs := [] }, []),
    (0 : Int) ≤ (↑a : Int),
    (0 : Nat) ≤ Int.toNat (↑a : Int) ∧ Int.toNat (↑a : Int) ≤ ByteArray.size rest,
    Value.string (ByteArray.extract rest (0 : Nat) (Int.toNat (↑a : Int))) = Value.string w,
    (Value.bool !ByteArray.toList w2 == ByteArray.toList w) = Value.bool false,
    (0 : Int) ≤ (↑a : Int),
    (0 : Nat) ≤ Int.toNat (↑a : Int) ∧ Int.toNat (↑a : Int) ≤ ByteArray.size rest,
    Value.string (ByteArray.extract rest (0 : Nat) (Int.toNat (↑a : Int))) = Value.string w,
    Value.int IntKind.i64 (IntKind.wrap IntKind.i64 ((↑a : Int) + (2 : Int))) = Value.int IntKind.i64 ((↑a : Int) + (2 : Int)),
    (0 : Int) ≤ (↑a : Int) + (2 : Int),
    Int.toNat ((↑a : Int) + (2 : Int)) ≤ ByteArray.size rest ∧ ByteArray.size rest ≤ ByteArray.size rest,
    Value.string (ByteArray.extract rest (Int.toNat ((↑a : Int) + (2 : Int))) (ByteArray.size rest)) = Value.string r2] (by kernel_rfl)
    ⟨hI _ (by kernel_rfl), Dg.i64_eq rfl (by omega) (by omega), Dg.vfalse (by omega), Dg.i64_eq rfl (by omega) (by omega), hz, by simp; omega, by omega, by omega, by first | (simp only [Int.toNat_natCast]; rw [hw]) | (rw [show ((a : Int) + 2).toNat = a + 2 by omega, hr2]), h33, by omega, by omega, by first | (simp only [Int.toNat_natCast]; rw [hw]) | (rw [show ((a : Int) + 2).toNat = a + 2 by omega, hr2]), hne, by omega, by omega, by first | (simp only [Int.toNat_natCast]; rw [hw]) | (rw [show ((a : Int) + 2).toNat = a + 2 by omega, hr2]), Dg.i64_eq rfl (by omega) (by omega), by omega, by omega, by first | (simp only [Int.toNat_natCast]; rw [hw]) | (rw [show ((a : Int) + 2).toNat = a + 2 by omega, hr2]), trivial⟩
--> paR
--< pbE
theorem pbE (lf : Nat) (s : ByteArray) (rest : ByteArray) (j : Nat) (xs : List Value) (a0 : Nat) (a : Nat) (hs : ByteArray.size rest ≤ 1000) (ha : a ≤ ByteArray.size rest) (g : Nat → Value) (hI : ∀ (s0 : St), clQ s0 = QIb s rest j xs 0 → evLoop (runQ lf) clQ lf s0 = some (Ex.exit 2, QEb s rest j xs a g)) (h0 : ByteArray.size rest ≤ a + 1) :
    (runP lf) (PIb s rest j xs a0) = some (Ex.exit 0, ({ ts := [Value.string s, undef, Value.slice none 0 0, Value.int IntKind.i64 0, Value.int IntKind.i64 0, Value.bool false, Value.slice (some { block := 0, off := 0, spot := some 0 }) j j, Value.string rest, Value.int IntKind.i64 (↑a : Int), undef, undef, undef, undef, g 13, g 14, g 15, g 16, g 17, g 18, g 19, g 20, g 21, g 22, g 23, g 24, g 25, Value.int IntKind.i64 (↑a : Int), Value.int IntKind.i64 ((↑a : Int) + 1), Value.string rest, Value.int IntKind.i64 (↑(ByteArray.size rest) : Int), Value.bool true, Value.bool true, undef, undef, undef, undef, undef, Value.bool true, Value.bool true, undef, undef, undef, undef, undef, undef, undef, undef, Value.bool true, g 48, g 49, g 50, g 51, g 52, g 53, g 54, g 55, g 56, g 57, g 58, g 59, g 60, g 61, g 62, g 63, g 64, g 65, g 66, g 67, g 68, g 69, g 70, g 71, g 72, g 73, g 74, g 75, g 76, g 77, g 78, g 79, g 80, g 81, g 82, g 83, g 84, g 85, g 86, g 87, g 88, g 89, g 90, g 91, g 92, g 93, g 94, g 95, g 96, g 97, g 98, g 99, g 100, g 101, g 102, g 103, g 104, g 105, g 106, g 107, g 108, g 109, g 110, g 111, g 112, g 113, g 114, g 115], H := { n := 1, objs := [AObj.cells xs 9 5 1] }, log := [] } : St)) :=
  Dg.evCode_hint (f := 23) (hs' := []) (hs := [Hint.loop 23 (Ex.exit 2) (QEb s rest j xs a g),
    Hint.val 23 27 (Value.int IntKind.i64 ((↑a : Int) + 1)),
    Hint.val 23 30 (Value.bool true)])
    [evLoop (runQ lf) clQ lf { ts := [Value.string s, undef, Value.slice none 0 0, Value.int IntKind.i64 0, Value.int IntKind.i64 0, Value.bool false, Value.slice (some { block := 0, off := 0, spot := some 0 }) j j, Value.string rest, Value.int IntKind.i64 0, undef, undef, undef, undef, junk, junk, junk, junk, junk, junk, junk, junk, junk, junk, junk, junk, junk, junk, junk, junk, junk, junk, junk, junk, junk, junk, junk, junk, junk, junk, junk, junk, junk, junk, junk, junk, junk, junk, junk, junk, junk, junk, junk, junk, junk, junk, junk, junk, junk, junk, junk, junk, junk, junk, junk, junk, junk, junk, junk, junk, junk, junk, junk, junk, junk, junk, junk, junk, junk, junk, junk, junk, junk, junk, junk, junk, junk, junk, junk, junk, junk, junk, junk, junk, junk, junk, junk, junk, junk, junk, junk, junk, junk, junk, junk, junk, junk, junk, junk, junk, junk, junk, junk, junk, junk, junk, junk], H := { n := 1, objs := [AObj.cells xs 9 5 1] }, log := [] } = some (Ex.exit 2, QEb s rest j xs a g),
    Value.int IntKind.i64 (IntKind.wrap IntKind.i64 ((↑a : Int) + (1 : Int))) = Value.int IntKind.i64 ((↑a : Int) + (1 : Int)),
    Value.bool (decide ((↑a : Int) + (1 : Int) ≥ (↑(ByteArray.size rest) : Int))) = Value.bool true] (by kernel_rfl)
    ⟨hI _ (by kernel_rfl), Dg.i64_eq rfl (by omega) (by omega), Dg.vtrue (by omega), trivial⟩
--> pbE
--< pbF
theorem pbF (lf : Nat) (s : ByteArray) (rest : ByteArray) (j : Nat) (xs : List Value) (a0 : Nat) (a : Nat) (hs : ByteArray.size rest ≤ 1000) (ha : a ≤ ByteArray.size rest) (g : Nat → Value) (hI : ∀ (s0 : St), clQ s0 = QIb s rest j xs 0 → evLoop (runQ lf) clQ lf s0 = some (Ex.exit 2, QEb s rest j xs a g)) (z : Int) (hz : Dg.strAt rest ((↑a : Int) + 1) = some z) (h1 : a + 1 < ByteArray.size rest) (hr : 0 ≤ z ∧ z < 256) (hd : z ≠ 32) :
    (runP lf) (PIb s rest j xs a0) = some (Ex.exit 0, ({ ts := [Value.string s, undef, Value.slice none 0 0, Value.int IntKind.i64 0, Value.int IntKind.i64 0, Value.bool false, Value.slice (some { block := 0, off := 0, spot := some 0 }) j j, Value.string rest, Value.int IntKind.i64 (↑a : Int), undef, undef, undef, undef, g 13, g 14, g 15, g 16, g 17, g 18, g 19, g 20, g 21, g 22, g 23, g 24, g 25, Value.int IntKind.i64 (↑a : Int), Value.int IntKind.i64 ((↑a : Int) + 1), Value.string rest, Value.int IntKind.i64 (↑(ByteArray.size rest) : Int), Value.bool false, Value.bool false, Value.string rest, Value.int IntKind.i64 (↑a : Int), Value.int IntKind.i64 ((↑a : Int) + 1), Value.int IntKind.u8 z, Value.bool true, Value.bool true, Value.bool true, undef, undef, undef, undef, undef, undef, undef, undef, Value.bool true, g 48, g 49, g 50, g 51, g 52, g 53, g 54, g 55, g 56, g 57, g 58, g 59, g 60, g 61, g 62, g 63, g 64, g 65, g 66, g 67, g 68, g 69, g 70, g 71, g 72, g 73, g 74, g 75, g 76, g 77, g 78, g 79, g 80, g 81, g 82, g 83, g 84, g 85, g 86, g 87, g 88, g 89, g 90, g 91, g 92, g 93, g 94, g 95, g 96, g 97, g 98, g 99, g 100, g 101, g 102, g 103, g 104, g 105, g 106, g 107, g 108, g 109, g 110, g 111, g 112, g 113, g 114, g 115], H := { n := 1, objs := [AObj.cells xs 9 5 1] }, log := [] } : St)) :=
  Dg.evCode_hint (f := 23) (hs' := []) (hs := [Hint.loop 23 (Ex.exit 2) (QEb s rest j xs a g),
    Hint.val 23 27 (Value.int IntKind.i64 ((↑a : Int) + 1)),
    Hint.val 23 30 (Value.bool false),
    Hint.val 23 34 (Value.int IntKind.i64 ((↑a : Int) + 1)),
    Hint.soft 23 35 (Value.int IntKind.u8 z),
    Hint.val 23 36 (Value.bool true)])
    [evLoop (runQ lf) clQ lf { ts := [Value.string s, undef, Value.slice none 0 0, Value.int IntKind.i64 0, Value.int IntKind.i64 0, Value.bool false, Value.slice (some { block := 0, off := 0, spot := some 0 }) j j, Value.string rest, Value.int IntKind.i64 0, undef, undef, undef, undef, junk, junk, junk, junk, junk, junk, junk, junk, junk, junk, junk, junk, junk, junk, junk, junk, junk, junk, junk, junk, junk, junk, junk, junk, junk, junk, junk, junk, junk, junk, junk, junk, junk, junk, junk, junk, junk, junk, junk, junk, junk, junk, junk, junk, junk, junk, junk, junk, junk, junk, junk, junk, junk, junk, junk, junk, junk, junk, junk, junk, junk, junk, junk, junk, junk, junk, junk, junk, junk, junk, junk, junk, junk, junk, junk, junk, junk, junk, junk, junk, junk, junk, junk, junk, junk, junk, junk, junk, junk, junk, junk, junk, junk, junk, junk, junk, junk, junk, junk, junk, junk, junk, junk], H := { n := 1, objs := [AObj.cells xs 9 5 1] }, log := [] } = some (Ex.exit 2, QEb s rest j xs a g),
    Value.int IntKind.i64 (IntKind.wrap IntKind.i64 ((↑a : Int) + (1 : Int))) = Value.int IntKind.i64 ((↑a : Int) + (1 : Int)),
    Value.bool (decide ((↑a : Int) + (1 : Int) ≥ (↑(ByteArray.size rest) : Int))) = Value.bool false,
    Value.int IntKind.i64 (IntKind.wrap IntKind.i64 ((↑a : Int) + (1 : Int))) = Value.int IntKind.i64 ((↑a : Int) + (1 : Int)),
    Dg.strAt rest ((↑a : Int) + (1 : Int)) = some z,
    Value.bool (z != (32 : Int)) = Value.bool true] (by kernel_rfl)
    ⟨hI _ (by kernel_rfl), Dg.i64_eq rfl (by omega) (by omega), Dg.vfalse (by omega), Dg.i64_eq rfl (by omega) (by omega), hz, by simp; omega, trivial⟩
--> pbF
--< pbG
theorem pbG (lf : Nat) (s : ByteArray) (rest : ByteArray) (j : Nat) (xs : List Value) (a0 : Nat) (a : Nat) (hs : ByteArray.size rest ≤ 1000) (ha : a ≤ ByteArray.size rest) (g : Nat → Value) (hI : ∀ (s0 : St), clQ s0 = QIb s rest j xs 0 → evLoop (runQ lf) clQ lf s0 = some (Ex.exit 2, QEb s rest j xs a g)) (z : Int) (hz : Dg.strAt rest ((↑a : Int) + 1) = some z) (h1 : a + 1 < ByteArray.size rest) (hr : 0 ≤ z ∧ z < 256) (hd : z = 32) (w : ByteArray) (w2 : ByteArray) (hw : ByteArray.extract rest 0 a = w) (h33 : evCall Tryz.prog 0 (bodied Tryz.prog) noOver sbs lf 31 33 [Value.string w] { n := 0, objs := [] } = some (Value.string w2, { n := 0, objs := [] }, [])) (hne : (Value.bool !ByteArray.toList w2 == ByteArray.toList w) = Value.bool true) :
    (runP lf) (PIb s rest j xs a0) = some (Ex.exit 0, ({ ts := [Value.string s, undef, Value.slice none 0 0, Value.int IntKind.i64 0, Value.int IntKind.i64 0, Value.bool false, Value.slice (some { block := 0, off := 0, spot := some 0 }) j j, Value.string rest, Value.int IntKind.i64 (↑a : Int), undef, undef, undef, undef, g 13, g 14, g 15, g 16, g 17, g 18, g 19, g 20, g 21, g 22, g 23, g 24, g 25, Value.int IntKind.i64 (↑a : Int), Value.int IntKind.i64 ((↑a : Int) + 1), Value.string rest, Value.int IntKind.i64 (↑(ByteArray.size rest) : Int), Value.bool false, Value.bool false, Value.string rest, Value.int IntKind.i64 (↑a : Int), Value.int IntKind.i64 ((↑a : Int) + 1), Value.int IntKind.u8 z, Value.bool false, Value.bool false, Value.bool false, Value.string rest, Value.int IntKind.i64 (↑a : Int), Value.string w, Value.string w2, Value.string rest, Value.int IntKind.i64 (↑a : Int), Value.string w, Value.bool true, Value.bool true, g 48, g 49, g 50, g 51, g 52, g 53, g 54, g 55, g 56, g 57, g 58, g 59, g 60, g 61, g 62, g 63, g 64, g 65, g 66, g 67, g 68, g 69, g 70, g 71, g 72, g 73, g 74, g 75, g 76, g 77, g 78, g 79, g 80, g 81, g 82, g 83, g 84, g 85, g 86, g 87, g 88, g 89, g 90, g 91, g 92, g 93, g 94, g 95, g 96, g 97, g 98, g 99, g 100, g 101, g 102, g 103, g 104, g 105, g 106, g 107, g 108, g 109, g 110, g 111, g 112, g 113, g 114, g 115], H := { n := 1, objs := [AObj.cells xs 9 5 1] }, log := [] } : St)) :=
  Dg.evCode_hint (f := 23) (hs' := []) (hs := [Hint.loop 23 (Ex.exit 2) (QEb s rest j xs a g),
    Hint.val 23 27 (Value.int IntKind.i64 ((↑a : Int) + 1)),
    Hint.val 23 30 (Value.bool false),
    Hint.val 23 34 (Value.int IntKind.i64 ((↑a : Int) + 1)),
    Hint.soft 23 35 (Value.int IntKind.u8 z),
    Hint.val 23 36 (Value.bool false),
    Hint.soft 23 41 (Value.string w),
    Hint.call 33 (Value.string w2) { n := 0, objs := [] } [],
    Hint.soft 23 45 (Value.string w),
    Hint.val 23 46 (Value.bool true)])
    [evLoop (runQ lf) clQ lf { ts := [Value.string s, undef, Value.slice none 0 0, Value.int IntKind.i64 0, Value.int IntKind.i64 0, Value.bool false, Value.slice (some { block := 0, off := 0, spot := some 0 }) j j, Value.string rest, Value.int IntKind.i64 0, undef, undef, undef, undef, junk, junk, junk, junk, junk, junk, junk, junk, junk, junk, junk, junk, junk, junk, junk, junk, junk, junk, junk, junk, junk, junk, junk, junk, junk, junk, junk, junk, junk, junk, junk, junk, junk, junk, junk, junk, junk, junk, junk, junk, junk, junk, junk, junk, junk, junk, junk, junk, junk, junk, junk, junk, junk, junk, junk, junk, junk, junk, junk, junk, junk, junk, junk, junk, junk, junk, junk, junk, junk, junk, junk, junk, junk, junk, junk, junk, junk, junk, junk, junk, junk, junk, junk, junk, junk, junk, junk, junk, junk, junk, junk, junk, junk, junk, junk, junk, junk, junk, junk, junk, junk, junk, junk], H := { n := 1, objs := [AObj.cells xs 9 5 1] }, log := [] } = some (Ex.exit 2, QEb s rest j xs a g),
    Value.int IntKind.i64 (IntKind.wrap IntKind.i64 ((↑a : Int) + (1 : Int))) = Value.int IntKind.i64 ((↑a : Int) + (1 : Int)),
    Value.bool (decide ((↑a : Int) + (1 : Int) ≥ (↑(ByteArray.size rest) : Int))) = Value.bool false,
    Value.int IntKind.i64 (IntKind.wrap IntKind.i64 ((↑a : Int) + (1 : Int))) = Value.int IntKind.i64 ((↑a : Int) + (1 : Int)),
    Dg.strAt rest ((↑a : Int) + (1 : Int)) = some z,
    Value.bool (z != (32 : Int)) = Value.bool false,
    (0 : Int) ≤ (↑a : Int),
    (0 : Nat) ≤ Int.toNat (↑a : Int) ∧ Int.toNat (↑a : Int) ≤ ByteArray.size rest,
    Value.string (ByteArray.extract rest (0 : Nat) (Int.toNat (↑a : Int))) = Value.string w,
    evCall Tryz.prog 0 (bodied Tryz.prog) noOver sbs lf 31 33 [Value.string w] { n := 0, objs := [] } = some (Value.string w2, { n := 0, objs := [] }, []),
    (0 : Int) ≤ (↑a : Int),
    (0 : Nat) ≤ Int.toNat (↑a : Int) ∧ Int.toNat (↑a : Int) ≤ ByteArray.size rest,
    Value.string (ByteArray.extract rest (0 : Nat) (Int.toNat (↑a : Int))) = Value.string w,
    (Value.bool !ByteArray.toList w2 == ByteArray.toList w) = Value.bool true] (by kernel_rfl)
    ⟨hI _ (by kernel_rfl), Dg.i64_eq rfl (by omega) (by omega), Dg.vfalse (by omega), Dg.i64_eq rfl (by omega) (by omega), hz, by simp; omega, by omega, by omega, by simp only [Int.toNat_natCast]; rw [hw], h33, by omega, by omega, by simp only [Int.toNat_natCast]; rw [hw], hne, trivial⟩
--> pbG
--< pbR
theorem pbR (lf : Nat) (s : ByteArray) (rest : ByteArray) (j : Nat) (xs : List Value) (a0 : Nat) (a : Nat) (hs : ByteArray.size rest ≤ 1000) (ha : a ≤ ByteArray.size rest) (g : Nat → Value) (hI : ∀ (s0 : St), clQ s0 = QIb s rest j xs 0 → evLoop (runQ lf) clQ lf s0 = some (Ex.exit 2, QEb s rest j xs a g)) (z : Int) (hz : Dg.strAt rest ((↑a : Int) + 1) = some z) (h1 : a + 1 < ByteArray.size rest) (hr : 0 ≤ z ∧ z < 256) (hd : z = 32) (w : ByteArray) (w2 : ByteArray) (hw : ByteArray.extract rest 0 a = w) (h33 : evCall Tryz.prog 0 (bodied Tryz.prog) noOver sbs lf 31 33 [Value.string w] { n := 0, objs := [] } = some (Value.string w2, { n := 0, objs := [] }, [])) (hne : (Value.bool !ByteArray.toList w2 == ByteArray.toList w) = Value.bool false) (hx : ∀ (v : Value), v ∈ xs → ∃ b, v = Value.string b) (hj : j = List.length xs) (hj2 : j ≤ 1000) (r2 : ByteArray) (hr2 : ByteArray.extract rest (a + 2) (ByteArray.size rest) = r2) :
    ∃ s', (runP lf) (PIb s rest j xs a0) = some (Ex.normal, s') ∧ clP s' = PIb s r2 (j + 1) (xs ++ [Value.string w]) a :=
  Dg.code_round (f := 23) clP (hs := [Hint.loop 23 (Ex.exit 2) (QEb s rest j xs a g),
    Hint.val 23 27 (Value.int IntKind.i64 ((↑a : Int) + 1)),
    Hint.val 23 30 (Value.bool false),
    Hint.val 23 34 (Value.int IntKind.i64 ((↑a : Int) + 1)),
    Hint.soft 23 35 (Value.int IntKind.u8 z),
    Hint.val 23 36 (Value.bool false),
    Hint.soft 23 41 (Value.string w),
    Hint.call 33 (Value.string w2) { n := 0, objs := [] } [],
    Hint.soft 23 45 (Value.string w),
    Hint.val 23 46 (Value.bool false),
    Hint.soft 23 51 (Value.string w),
    Hint.softH 23 53 (Value.slice (some { block := 2, off := 0, spot := some 0 }) (j + 1) (j + 1)) { n := 3, objs := [AObj.cells (xs ++ [Value.string w]) 9 5 1, AObj.cells [Value.string w] 9 0 1, AObj.dead] } [0],
    Hint.val 23 56 (Value.int IntKind.i64 ((↑a : Int) + 2)),
    Hint.soft 23 57 (Value.string r2)])
    [evLoop (runQ lf) clQ lf { ts := [Value.string s, undef, Value.slice none 0 0, Value.int IntKind.i64 0, Value.int IntKind.i64 0, Value.bool false, Value.slice (some { block := 0, off := 0, spot := some 0 }) j j, Value.string rest, Value.int IntKind.i64 0, undef, undef, undef, undef, junk, junk, junk, junk, junk, junk, junk, junk, junk, junk, junk, junk, junk, junk, junk, junk, junk, junk, junk, junk, junk, junk, junk, junk, junk, junk, junk, junk, junk, junk, junk, junk, junk, junk, junk, junk, junk, junk, junk, junk, junk, junk, junk, junk, junk, junk, junk, junk, junk, junk, junk, junk, junk, junk, junk, junk, junk, junk, junk, junk, junk, junk, junk, junk, junk, junk, junk, junk, junk, junk, junk, junk, junk, junk, junk, junk, junk, junk, junk, junk, junk, junk, junk, junk, junk, junk, junk, junk, junk, junk, junk, junk, junk, junk, junk, junk, junk, junk, junk, junk, junk, junk, junk], H := { n := 1, objs := [AObj.cells xs 9 5 1] }, log := [] } = some (Ex.exit 2, QEb s rest j xs a g),
    Value.int IntKind.i64 (IntKind.wrap IntKind.i64 ((↑a : Int) + (1 : Int))) = Value.int IntKind.i64 ((↑a : Int) + (1 : Int)),
    Value.bool (decide ((↑a : Int) + (1 : Int) ≥ (↑(ByteArray.size rest) : Int))) = Value.bool false,
    Value.int IntKind.i64 (IntKind.wrap IntKind.i64 ((↑a : Int) + (1 : Int))) = Value.int IntKind.i64 ((↑a : Int) + (1 : Int)),
    Dg.strAt rest ((↑a : Int) + (1 : Int)) = some z,
    Value.bool (z != (32 : Int)) = Value.bool false,
    (0 : Int) ≤ (↑a : Int),
    (0 : Nat) ≤ Int.toNat (↑a : Int) ∧ Int.toNat (↑a : Int) ≤ ByteArray.size rest,
    Value.string (ByteArray.extract rest (0 : Nat) (Int.toNat (↑a : Int))) = Value.string w,
    evCall Tryz.prog 0 (bodied Tryz.prog) noOver sbs lf 31 33 [Value.string w] { n := 0, objs := [] } = some (Value.string w2, { n := 0, objs := [] }, []),
    (0 : Int) ≤ (↑a : Int),
    (0 : Nat) ≤ Int.toNat (↑a : Int) ∧ Int.toNat (↑a : Int) ≤ ByteArray.size rest,
    Value.string (ByteArray.extract rest (0 : Nat) (Int.toNat (↑a : Int))) = Value.string w,
    (Value.bool !ByteArray.toList w2 == ByteArray.toList w) = Value.bool false,
    (0 : Int) ≤ (↑a : Int),
    (0 : Nat) ≤ Int.toNat (↑a : Int) ∧ Int.toNat (↑a : Int) ≤ ByteArray.size rest,
    Value.string (ByteArray.extract rest (0 : Nat) (Int.toNat (↑a : Int))) = Value.string w,
    Dg.evAppend Tryz.prog { n := (2 : Nat), objs := [AObj.cells [Value.string w] (9 : Nat) (0 : Nat) (1 : Nat), AObj.cells xs (9 : Nat) (5 : Nat) (1 : Nat)] } (22 : Nat) (22 : Nat) (Value.slice (some { block := (0 : Nat), off := (0 : Nat), spot := some (0 : Nat) }) j j) (Value.slice (some { block := (1 : Nat), off := (0 : Nat) }) (1 : Nat) (1 : Nat)) = some (Value.slice (some { block := (2 : Nat), off := (0 : Nat), spot := some (0 : Nat) }) (j + (1 : Nat)) (j + (1 : Nat)), { n := (3 : Nat), objs := [AObj.cells (xs ++ [Value.string w]) (9 : Nat) (5 : Nat) (1 : Nat), AObj.cells [Value.string w] (9 : Nat) (0 : Nat) (1 : Nat), AObj.dead] }, [(0 : Nat)]),
    Value.int IntKind.i64 (IntKind.wrap IntKind.i64 ((↑a : Int) + (2 : Int))) = Value.int IntKind.i64 ((↑a : Int) + (2 : Int)),
    (0 : Int) ≤ (↑a : Int) + (2 : Int),
    Int.toNat ((↑a : Int) + (2 : Int)) ≤ ByteArray.size rest ∧ ByteArray.size rest ≤ ByteArray.size rest,
    Value.string (ByteArray.extract rest (Int.toNat ((↑a : Int) + (2 : Int))) (ByteArray.size rest)) = Value.string r2] (by kernel_rfl)
    ⟨hI _ (by kernel_rfl), Dg.i64_eq rfl (by omega) (by omega), Dg.vfalse (by omega), Dg.i64_eq rfl (by omega) (by omega), hz, by simp; omega, by omega, by omega, by first | (simp only [Int.toNat_natCast]; rw [hw]) | (rw [show ((a : Int) + 2).toNat = a + 2 by omega, hr2]), h33, by omega, by omega, by first | (simp only [Int.toNat_natCast]; rw [hw]) | (rw [show ((a : Int) + 2).toNat = a + 2 by omega, hr2]), hne, by omega, by omega, by first | (simp only [Int.toNat_natCast]; rw [hw]) | (rw [show ((a : Int) + 2).toNat = a + 2 by omega, hr2]), appS (os := xs) (x := w) rfl hx hj rfl (by omega) rfl rfl rfl, Dg.i64_eq rfl (by omega) (by omega), by omega, by omega, by first | (simp only [Int.toNat_natCast]; rw [hw]) | (rw [show ((a : Int) + 2).toNat = a + 2 by omega, hr2]), trivial⟩
--> pbR
end Go.Proofs.YtpgddboigegplaaGreatDoor.base
