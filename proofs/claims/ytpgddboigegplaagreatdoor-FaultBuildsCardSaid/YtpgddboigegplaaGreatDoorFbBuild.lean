/- 'build' of chapter 06 as it is run, by the number of notes. -/
import Derived.Test.YtpgddboigegplaaGreatDoorRows
import Derived.Test.YtpgddboigegplaaGreatDoorFT
namespace Go.Proofs.YtpgddboigegplaaGreatDoor.base
open Go.Dg (junk St Ex Ev Hint evCall evCallS evCode evCodeK innerKp evCodeS evLoop cleanSt ue bodied noOver sbOf headOf tailOf bodyOf rAssign rBody lBody Flats flatOver Heap AObj SCall Law ofLaw Fix)
set_option linter.unusedVariables false
set_option linter.unusedSimpArgs false

noncomputable def lB : Code := lBody ((Tryz.f17.body).getD .skip)
noncomputable abbrev runB (lf : Nat) : St → Option (Ex × St) := evCode Tryz.prog 15 (bodied Tryz.prog) (evB lf 18) 18 12 lf lB
noncomputable abbrev clB : St → St := cleanSt 18 12 (ue lB [] []).1
def TB (kind off : Int) (a err hs ix w : Value) (l : Nat) (i : Int) : List Value := [.int .i64 kind, .int .i64 off, a, undef, undef, undef, .nilIface, .slice none 0 0, err, hs, ix, w] ++ (js 3 ++ [a, .int .i64 l, .int .i64 i])
def HB0 (kind off : Int) (r0 : List AObj) (ys : List Value) (e l cap : Nat) : St := ⟨TB kind off (aW l cap) (.iface 70 (.pointer (some ⟨18, 0, none⟩))) (.slice none 0 0) undef undef l 0 ++ js 17, (⟨19, .cells [.int .i64 kind, .int .i64 off] 73 4 1 :: oW ys e :: r0⟩ : Heap), []⟩
def EB0 (kind off : Int) (r0 : List AObj) (ys : List Value) (e l cap : Nat) : St := ⟨TB kind off (aW l cap) (.iface 70 (.pointer (some ⟨18, 0, none⟩))) (.slice none 0 0) undef undef l 0 ++ (.bool false :: js 16), (⟨19, .cells [.int .i64 kind, .int .i64 off] 73 4 1 :: oW ys e :: r0⟩ : Heap), []⟩
def HB1 (kind off : Int) (r0 : List AObj) (ys : List Value) (e l cap : Nat) (i j : Int) (w : ByteArray) (w1 : ByteArray) : St := ⟨TB kind off (aW l cap) (.iface 67 (.pointer (some ⟨18, 0, none⟩))) (.slice (some ⟨20, 0, none⟩) 1 1) (.int .i64 j) (.string w) l i ++ js 17, (⟨21, .cells [.string w1] 9 4 1 :: .cells [.int .i64 kind, .int .i64 off] 73 4 1 :: .cells [.string w1, .iface 70 (.pointer (some ⟨19, 0, none⟩))] 69 0 1 :: oW ys e :: r0⟩ : Heap), []⟩
def EB1 (kind off : Int) (r0 : List AObj) (ys : List Value) (e l cap : Nat) (i j : Int) (w : ByteArray) (w1 : ByteArray) : St := ⟨TB kind off (aW l cap) (.iface 67 (.pointer (some ⟨18, 0, none⟩))) (.slice (some ⟨20, 0, none⟩) 1 1) (.int .i64 j) (.string w) l i ++ (.bool false :: js 16), (⟨21, .cells [.string w1] 9 4 1 :: .cells [.int .i64 kind, .int .i64 off] 73 4 1 :: .cells [.string w1, .iface 70 (.pointer (some ⟨19, 0, none⟩))] 69 0 1 :: oW ys e :: r0⟩ : Heap), []⟩
def HB2 (kind off : Int) (r0 : List AObj) (ys : List Value) (e l cap : Nat) (i j : Int) (w : ByteArray) (w1 w2 : ByteArray) : St := ⟨TB kind off (aW l cap) (.iface 67 (.pointer (some ⟨18, 0, none⟩))) (.slice (some ⟨21, 0, some 0⟩) 2 2) (.int .i64 j) (.string w) l i ++ js 17, (⟨22, .cells [.string w2, .string w1] 9 5 1 :: .cells [.int .i64 kind, .int .i64 off] 73 4 1 :: .cells [.string w1, .iface 70 (.pointer (some ⟨20, 0, none⟩))] 69 0 1 :: .cells [.string w2, .iface 67 (.pointer (some ⟨19, 0, none⟩))] 69 0 1 :: oW ys e :: r0⟩ : Heap), []⟩
def EB2 (kind off : Int) (r0 : List AObj) (ys : List Value) (e l cap : Nat) (i j : Int) (w : ByteArray) (w1 w2 : ByteArray) : St := ⟨TB kind off (aW l cap) (.iface 67 (.pointer (some ⟨18, 0, none⟩))) (.slice (some ⟨21, 0, some 0⟩) 2 2) (.int .i64 j) (.string w) l i ++ (.bool false :: js 16), (⟨22, .cells [.string w2, .string w1] 9 5 1 :: .cells [.int .i64 kind, .int .i64 off] 73 4 1 :: .cells [.string w1, .iface 70 (.pointer (some ⟨20, 0, none⟩))] 69 0 1 :: .cells [.string w2, .iface 67 (.pointer (some ⟨19, 0, none⟩))] 69 0 1 :: oW ys e :: r0⟩ : Heap), []⟩
def HB3 (kind off : Int) (r0 : List AObj) (ys : List Value) (e l cap : Nat) (i j : Int) (w : ByteArray) (w1 w2 w3 : ByteArray) : St := ⟨TB kind off (aW l cap) (.iface 67 (.pointer (some ⟨18, 0, none⟩))) (.slice (some ⟨22, 0, some 0⟩) 3 3) (.int .i64 j) (.string w) l i ++ js 17, (⟨23, .cells [.string w3, .string w2, .string w1] 9 5 1 :: .cells [.int .i64 kind, .int .i64 off] 73 4 1 :: .cells [.string w1, .iface 70 (.pointer (some ⟨21, 0, none⟩))] 69 0 1 :: .cells [.string w2, .iface 67 (.pointer (some ⟨20, 0, none⟩))] 69 0 1 :: .cells [.string w3, .iface 67 (.pointer (some ⟨19, 0, none⟩))] 69 0 1 :: oW ys e :: r0⟩ : Heap), []⟩
def EB3 (kind off : Int) (r0 : List AObj) (ys : List Value) (e l cap : Nat) (i j : Int) (w : ByteArray) (w1 w2 w3 : ByteArray) : St := ⟨TB kind off (aW l cap) (.iface 67 (.pointer (some ⟨18, 0, none⟩))) (.slice (some ⟨22, 0, some 0⟩) 3 3) (.int .i64 j) (.string w) l i ++ (.bool false :: js 16), (⟨23, .cells [.string w3, .string w2, .string w1] 9 5 1 :: .cells [.int .i64 kind, .int .i64 off] 73 4 1 :: .cells [.string w1, .iface 70 (.pointer (some ⟨21, 0, none⟩))] 69 0 1 :: .cells [.string w2, .iface 67 (.pointer (some ⟨20, 0, none⟩))] 69 0 1 :: .cells [.string w3, .iface 67 (.pointer (some ⟨19, 0, none⟩))] 69 0 1 :: oW ys e :: r0⟩ : Heap), []⟩
def HB4 (kind off : Int) (r0 : List AObj) (ys : List Value) (e l cap : Nat) (i j : Int) (w : ByteArray) (w1 w2 w3 w4 : ByteArray) : St := ⟨TB kind off (aW l cap) (.iface 67 (.pointer (some ⟨18, 0, none⟩))) (.slice (some ⟨23, 0, some 0⟩) 4 4) (.int .i64 j) (.string w) l i ++ js 17, (⟨24, .cells [.string w4, .string w3, .string w2, .string w1] 9 5 1 :: .cells [.int .i64 kind, .int .i64 off] 73 4 1 :: .cells [.string w1, .iface 70 (.pointer (some ⟨22, 0, none⟩))] 69 0 1 :: .cells [.string w2, .iface 67 (.pointer (some ⟨21, 0, none⟩))] 69 0 1 :: .cells [.string w3, .iface 67 (.pointer (some ⟨20, 0, none⟩))] 69 0 1 :: .cells [.string w4, .iface 67 (.pointer (some ⟨19, 0, none⟩))] 69 0 1 :: oW ys e :: r0⟩ : Heap), []⟩
def EB4 (kind off : Int) (r0 : List AObj) (ys : List Value) (e l cap : Nat) (i j : Int) (w : ByteArray) (w1 w2 w3 w4 : ByteArray) : St := ⟨TB kind off (aW l cap) (.iface 67 (.pointer (some ⟨18, 0, none⟩))) (.slice (some ⟨23, 0, some 0⟩) 4 4) (.int .i64 j) (.string w) l i ++ (.bool false :: js 16), (⟨24, .cells [.string w4, .string w3, .string w2, .string w1] 9 5 1 :: .cells [.int .i64 kind, .int .i64 off] 73 4 1 :: .cells [.string w1, .iface 70 (.pointer (some ⟨22, 0, none⟩))] 69 0 1 :: .cells [.string w2, .iface 67 (.pointer (some ⟨21, 0, none⟩))] 69 0 1 :: .cells [.string w3, .iface 67 (.pointer (some ⟨20, 0, none⟩))] 69 0 1 :: .cells [.string w4, .iface 67 (.pointer (some ⟨19, 0, none⟩))] 69 0 1 :: oW ys e :: r0⟩ : Heap), []⟩
def HB5 (kind off : Int) (r0 : List AObj) (ys : List Value) (e l cap : Nat) (i j : Int) (w : ByteArray) (w1 w2 w3 w4 w5 : ByteArray) : St := ⟨TB kind off (aW l cap) (.iface 67 (.pointer (some ⟨18, 0, none⟩))) (.slice (some ⟨24, 0, some 0⟩) 5 5) (.int .i64 j) (.string w) l i ++ js 17, (⟨25, .cells [.string w5, .string w4, .string w3, .string w2, .string w1] 9 5 1 :: .cells [.int .i64 kind, .int .i64 off] 73 4 1 :: .cells [.string w1, .iface 70 (.pointer (some ⟨23, 0, none⟩))] 69 0 1 :: .cells [.string w2, .iface 67 (.pointer (some ⟨22, 0, none⟩))] 69 0 1 :: .cells [.string w3, .iface 67 (.pointer (some ⟨21, 0, none⟩))] 69 0 1 :: .cells [.string w4, .iface 67 (.pointer (some ⟨20, 0, none⟩))] 69 0 1 :: .cells [.string w5, .iface 67 (.pointer (some ⟨19, 0, none⟩))] 69 0 1 :: oW ys e :: r0⟩ : Heap), []⟩
def EB5 (kind off : Int) (r0 : List AObj) (ys : List Value) (e l cap : Nat) (i j : Int) (w : ByteArray) (w1 w2 w3 w4 w5 : ByteArray) : St := ⟨TB kind off (aW l cap) (.iface 67 (.pointer (some ⟨18, 0, none⟩))) (.slice (some ⟨24, 0, some 0⟩) 5 5) (.int .i64 j) (.string w) l i ++ (.bool false :: js 16), (⟨25, .cells [.string w5, .string w4, .string w3, .string w2, .string w1] 9 5 1 :: .cells [.int .i64 kind, .int .i64 off] 73 4 1 :: .cells [.string w1, .iface 70 (.pointer (some ⟨23, 0, none⟩))] 69 0 1 :: .cells [.string w2, .iface 67 (.pointer (some ⟨22, 0, none⟩))] 69 0 1 :: .cells [.string w3, .iface 67 (.pointer (some ⟨21, 0, none⟩))] 69 0 1 :: .cells [.string w4, .iface 67 (.pointer (some ⟨20, 0, none⟩))] 69 0 1 :: .cells [.string w5, .iface 67 (.pointer (some ⟨19, 0, none⟩))] 69 0 1 :: oW ys e :: r0⟩ : Heap), []⟩
def HB6 (kind off : Int) (r0 : List AObj) (ys : List Value) (e l cap : Nat) (i j : Int) (w : ByteArray) (w1 w2 w3 w4 w5 w6 : ByteArray) : St := ⟨TB kind off (aW l cap) (.iface 67 (.pointer (some ⟨18, 0, none⟩))) (.slice (some ⟨25, 0, some 0⟩) 6 6) (.int .i64 j) (.string w) l i ++ js 17, (⟨26, .cells [.string w6, .string w5, .string w4, .string w3, .string w2, .string w1] 9 5 1 :: .cells [.int .i64 kind, .int .i64 off] 73 4 1 :: .cells [.string w1, .iface 70 (.pointer (some ⟨24, 0, none⟩))] 69 0 1 :: .cells [.string w2, .iface 67 (.pointer (some ⟨23, 0, none⟩))] 69 0 1 :: .cells [.string w3, .iface 67 (.pointer (some ⟨22, 0, none⟩))] 69 0 1 :: .cells [.string w4, .iface 67 (.pointer (some ⟨21, 0, none⟩))] 69 0 1 :: .cells [.string w5, .iface 67 (.pointer (some ⟨20, 0, none⟩))] 69 0 1 :: .cells [.string w6, .iface 67 (.pointer (some ⟨19, 0, none⟩))] 69 0 1 :: oW ys e :: r0⟩ : Heap), []⟩
def EB6 (kind off : Int) (r0 : List AObj) (ys : List Value) (e l cap : Nat) (i j : Int) (w : ByteArray) (w1 w2 w3 w4 w5 w6 : ByteArray) : St := ⟨TB kind off (aW l cap) (.iface 67 (.pointer (some ⟨18, 0, none⟩))) (.slice (some ⟨25, 0, some 0⟩) 6 6) (.int .i64 j) (.string w) l i ++ (.bool false :: js 16), (⟨26, .cells [.string w6, .string w5, .string w4, .string w3, .string w2, .string w1] 9 5 1 :: .cells [.int .i64 kind, .int .i64 off] 73 4 1 :: .cells [.string w1, .iface 70 (.pointer (some ⟨24, 0, none⟩))] 69 0 1 :: .cells [.string w2, .iface 67 (.pointer (some ⟨23, 0, none⟩))] 69 0 1 :: .cells [.string w3, .iface 67 (.pointer (some ⟨22, 0, none⟩))] 69 0 1 :: .cells [.string w4, .iface 67 (.pointer (some ⟨21, 0, none⟩))] 69 0 1 :: .cells [.string w5, .iface 67 (.pointer (some ⟨20, 0, none⟩))] 69 0 1 :: .cells [.string w6, .iface 67 (.pointer (some ⟨19, 0, none⟩))] 69 0 1 :: oW ys e :: r0⟩ : Heap), []⟩
def HB7 (kind off : Int) (r0 : List AObj) (ys : List Value) (e l cap : Nat) (i j : Int) (w : ByteArray) (w1 w2 w3 w4 w5 w6 w7 : ByteArray) : St := ⟨TB kind off (aW l cap) (.iface 67 (.pointer (some ⟨18, 0, none⟩))) (.slice (some ⟨26, 0, some 0⟩) 7 7) (.int .i64 j) (.string w) l i ++ js 17, (⟨27, .cells [.string w7, .string w6, .string w5, .string w4, .string w3, .string w2, .string w1] 9 5 1 :: .cells [.int .i64 kind, .int .i64 off] 73 4 1 :: .cells [.string w1, .iface 70 (.pointer (some ⟨25, 0, none⟩))] 69 0 1 :: .cells [.string w2, .iface 67 (.pointer (some ⟨24, 0, none⟩))] 69 0 1 :: .cells [.string w3, .iface 67 (.pointer (some ⟨23, 0, none⟩))] 69 0 1 :: .cells [.string w4, .iface 67 (.pointer (some ⟨22, 0, none⟩))] 69 0 1 :: .cells [.string w5, .iface 67 (.pointer (some ⟨21, 0, none⟩))] 69 0 1 :: .cells [.string w6, .iface 67 (.pointer (some ⟨20, 0, none⟩))] 69 0 1 :: .cells [.string w7, .iface 67 (.pointer (some ⟨19, 0, none⟩))] 69 0 1 :: oW ys e :: r0⟩ : Heap), []⟩
def EB7 (kind off : Int) (r0 : List AObj) (ys : List Value) (e l cap : Nat) (i j : Int) (w : ByteArray) (w1 w2 w3 w4 w5 w6 w7 : ByteArray) : St := ⟨TB kind off (aW l cap) (.iface 67 (.pointer (some ⟨18, 0, none⟩))) (.slice (some ⟨26, 0, some 0⟩) 7 7) (.int .i64 j) (.string w) l i ++ (.bool false :: js 16), (⟨27, .cells [.string w7, .string w6, .string w5, .string w4, .string w3, .string w2, .string w1] 9 5 1 :: .cells [.int .i64 kind, .int .i64 off] 73 4 1 :: .cells [.string w1, .iface 70 (.pointer (some ⟨25, 0, none⟩))] 69 0 1 :: .cells [.string w2, .iface 67 (.pointer (some ⟨24, 0, none⟩))] 69 0 1 :: .cells [.string w3, .iface 67 (.pointer (some ⟨23, 0, none⟩))] 69 0 1 :: .cells [.string w4, .iface 67 (.pointer (some ⟨22, 0, none⟩))] 69 0 1 :: .cells [.string w5, .iface 67 (.pointer (some ⟨21, 0, none⟩))] 69 0 1 :: .cells [.string w6, .iface 67 (.pointer (some ⟨20, 0, none⟩))] 69 0 1 :: .cells [.string w7, .iface 67 (.pointer (some ⟨19, 0, none⟩))] 69 0 1 :: oW ys e :: r0⟩ : Heap), []⟩
def HB8 (kind off : Int) (r0 : List AObj) (ys : List Value) (e l cap : Nat) (i j : Int) (w : ByteArray) (w1 w2 w3 w4 w5 w6 w7 w8 : ByteArray) : St := ⟨TB kind off (aW l cap) (.iface 67 (.pointer (some ⟨18, 0, none⟩))) (.slice (some ⟨27, 0, some 0⟩) 8 8) (.int .i64 j) (.string w) l i ++ js 17, (⟨28, .cells [.string w8, .string w7, .string w6, .string w5, .string w4, .string w3, .string w2, .string w1] 9 5 1 :: .cells [.int .i64 kind, .int .i64 off] 73 4 1 :: .cells [.string w1, .iface 70 (.pointer (some ⟨26, 0, none⟩))] 69 0 1 :: .cells [.string w2, .iface 67 (.pointer (some ⟨25, 0, none⟩))] 69 0 1 :: .cells [.string w3, .iface 67 (.pointer (some ⟨24, 0, none⟩))] 69 0 1 :: .cells [.string w4, .iface 67 (.pointer (some ⟨23, 0, none⟩))] 69 0 1 :: .cells [.string w5, .iface 67 (.pointer (some ⟨22, 0, none⟩))] 69 0 1 :: .cells [.string w6, .iface 67 (.pointer (some ⟨21, 0, none⟩))] 69 0 1 :: .cells [.string w7, .iface 67 (.pointer (some ⟨20, 0, none⟩))] 69 0 1 :: .cells [.string w8, .iface 67 (.pointer (some ⟨19, 0, none⟩))] 69 0 1 :: oW ys e :: r0⟩ : Heap), []⟩
def EB8 (kind off : Int) (r0 : List AObj) (ys : List Value) (e l cap : Nat) (i j : Int) (w : ByteArray) (w1 w2 w3 w4 w5 w6 w7 w8 : ByteArray) : St := ⟨TB kind off (aW l cap) (.iface 67 (.pointer (some ⟨18, 0, none⟩))) (.slice (some ⟨27, 0, some 0⟩) 8 8) (.int .i64 j) (.string w) l i ++ (.bool false :: js 16), (⟨28, .cells [.string w8, .string w7, .string w6, .string w5, .string w4, .string w3, .string w2, .string w1] 9 5 1 :: .cells [.int .i64 kind, .int .i64 off] 73 4 1 :: .cells [.string w1, .iface 70 (.pointer (some ⟨26, 0, none⟩))] 69 0 1 :: .cells [.string w2, .iface 67 (.pointer (some ⟨25, 0, none⟩))] 69 0 1 :: .cells [.string w3, .iface 67 (.pointer (some ⟨24, 0, none⟩))] 69 0 1 :: .cells [.string w4, .iface 67 (.pointer (some ⟨23, 0, none⟩))] 69 0 1 :: .cells [.string w5, .iface 67 (.pointer (some ⟨22, 0, none⟩))] 69 0 1 :: .cells [.string w6, .iface 67 (.pointer (some ⟨21, 0, none⟩))] 69 0 1 :: .cells [.string w7, .iface 67 (.pointer (some ⟨20, 0, none⟩))] 69 0 1 :: .cells [.string w8, .iface 67 (.pointer (some ⟨19, 0, none⟩))] 69 0 1 :: oW ys e :: r0⟩ : Heap), []⟩
def HBn (kind off : Int) (r0 : List AObj) (X : AObj) : St := ⟨TB kind off (.slice none 0 0) (.iface 70 (.pointer (some ⟨18, 0, none⟩))) (.slice none 0 0) undef undef 0 0 ++ js 17, (⟨19, .cells [.int .i64 kind, .int .i64 off] 73 4 1 :: X :: r0⟩ : Heap), []⟩
def EBn (kind off : Int) (r0 : List AObj) (X : AObj) : St := ⟨TB kind off (.slice none 0 0) (.iface 70 (.pointer (some ⟨18, 0, none⟩))) (.slice none 0 0) undef undef 0 0 ++ (.bool false :: js 16), (⟨19, .cells [.int .i64 kind, .int .i64 off] 73 4 1 :: X :: r0⟩ : Heap), []⟩
def HBz0 (kind off : Int) (r0 : List AObj) (ys : List Value) (e l cap : Nat) : St := ⟨TB kind off (aW l cap) (.nilIface) (.slice none 0 0) undef undef l 0 ++ js 17, (⟨18, oW ys e :: r0⟩ : Heap), []⟩
def EBz0 (kind off : Int) (r0 : List AObj) (ys : List Value) (e l cap : Nat) : St := ⟨TB kind off (aW l cap) (.nilIface) (.slice none 0 0) undef undef l 0 ++ (.bool false :: js 16), (⟨18, oW ys e :: r0⟩ : Heap), []⟩
def HBz1 (kind off : Int) (r0 : List AObj) (ys : List Value) (e l cap : Nat) (i j : Int) (w : ByteArray) (w1 : ByteArray) : St := ⟨TB kind off (aW l cap) (.nilIface) (.slice (some ⟨18, 0, none⟩) 1 1) (.int .i64 j) (.string w) l i ++ js 17, (⟨19, .cells [.string w1] 9 4 1 :: oW ys e :: r0⟩ : Heap), []⟩
def EBz1 (kind off : Int) (r0 : List AObj) (ys : List Value) (e l cap : Nat) (i j : Int) (w : ByteArray) (w1 : ByteArray) : St := ⟨TB kind off (aW l cap) (.nilIface) (.slice (some ⟨18, 0, none⟩) 1 1) (.int .i64 j) (.string w) l i ++ (.bool false :: js 16), (⟨19, .cells [.string w1] 9 4 1 :: oW ys e :: r0⟩ : Heap), []⟩
def HBz2 (kind off : Int) (r0 : List AObj) (ys : List Value) (e l cap : Nat) (i j : Int) (w : ByteArray) (w1 w2 : ByteArray) : St := ⟨TB kind off (aW l cap) (.nilIface) (.slice (some ⟨18, 0, some 0⟩) 2 2) (.int .i64 j) (.string w) l i ++ js 17, (⟨19, .cells [.string w2, .string w1] 9 5 1 :: oW ys e :: r0⟩ : Heap), []⟩
def EBz2 (kind off : Int) (r0 : List AObj) (ys : List Value) (e l cap : Nat) (i j : Int) (w : ByteArray) (w1 w2 : ByteArray) : St := ⟨TB kind off (aW l cap) (.nilIface) (.slice (some ⟨18, 0, some 0⟩) 2 2) (.int .i64 j) (.string w) l i ++ (.bool false :: js 16), (⟨19, .cells [.string w2, .string w1] 9 5 1 :: oW ys e :: r0⟩ : Heap), []⟩
def HBz3 (kind off : Int) (r0 : List AObj) (ys : List Value) (e l cap : Nat) (i j : Int) (w : ByteArray) (w1 w2 w3 : ByteArray) : St := ⟨TB kind off (aW l cap) (.nilIface) (.slice (some ⟨18, 0, some 0⟩) 3 3) (.int .i64 j) (.string w) l i ++ js 17, (⟨19, .cells [.string w3, .string w2, .string w1] 9 5 1 :: oW ys e :: r0⟩ : Heap), []⟩
def EBz3 (kind off : Int) (r0 : List AObj) (ys : List Value) (e l cap : Nat) (i j : Int) (w : ByteArray) (w1 w2 w3 : ByteArray) : St := ⟨TB kind off (aW l cap) (.nilIface) (.slice (some ⟨18, 0, some 0⟩) 3 3) (.int .i64 j) (.string w) l i ++ (.bool false :: js 16), (⟨19, .cells [.string w3, .string w2, .string w1] 9 5 1 :: oW ys e :: r0⟩ : Heap), []⟩
def HBz4 (kind off : Int) (r0 : List AObj) (ys : List Value) (e l cap : Nat) (i j : Int) (w : ByteArray) (w1 w2 w3 w4 : ByteArray) : St := ⟨TB kind off (aW l cap) (.nilIface) (.slice (some ⟨18, 0, some 0⟩) 4 4) (.int .i64 j) (.string w) l i ++ js 17, (⟨19, .cells [.string w4, .string w3, .string w2, .string w1] 9 5 1 :: oW ys e :: r0⟩ : Heap), []⟩
def EBz4 (kind off : Int) (r0 : List AObj) (ys : List Value) (e l cap : Nat) (i j : Int) (w : ByteArray) (w1 w2 w3 w4 : ByteArray) : St := ⟨TB kind off (aW l cap) (.nilIface) (.slice (some ⟨18, 0, some 0⟩) 4 4) (.int .i64 j) (.string w) l i ++ (.bool false :: js 16), (⟨19, .cells [.string w4, .string w3, .string w2, .string w1] 9 5 1 :: oW ys e :: r0⟩ : Heap), []⟩
def HBz5 (kind off : Int) (r0 : List AObj) (ys : List Value) (e l cap : Nat) (i j : Int) (w : ByteArray) (w1 w2 w3 w4 w5 : ByteArray) : St := ⟨TB kind off (aW l cap) (.nilIface) (.slice (some ⟨18, 0, some 0⟩) 5 5) (.int .i64 j) (.string w) l i ++ js 17, (⟨19, .cells [.string w5, .string w4, .string w3, .string w2, .string w1] 9 5 1 :: oW ys e :: r0⟩ : Heap), []⟩
def EBz5 (kind off : Int) (r0 : List AObj) (ys : List Value) (e l cap : Nat) (i j : Int) (w : ByteArray) (w1 w2 w3 w4 w5 : ByteArray) : St := ⟨TB kind off (aW l cap) (.nilIface) (.slice (some ⟨18, 0, some 0⟩) 5 5) (.int .i64 j) (.string w) l i ++ (.bool false :: js 16), (⟨19, .cells [.string w5, .string w4, .string w3, .string w2, .string w1] 9 5 1 :: oW ys e :: r0⟩ : Heap), []⟩
def HBz6 (kind off : Int) (r0 : List AObj) (ys : List Value) (e l cap : Nat) (i j : Int) (w : ByteArray) (w1 w2 w3 w4 w5 w6 : ByteArray) : St := ⟨TB kind off (aW l cap) (.nilIface) (.slice (some ⟨18, 0, some 0⟩) 6 6) (.int .i64 j) (.string w) l i ++ js 17, (⟨19, .cells [.string w6, .string w5, .string w4, .string w3, .string w2, .string w1] 9 5 1 :: oW ys e :: r0⟩ : Heap), []⟩
def EBz6 (kind off : Int) (r0 : List AObj) (ys : List Value) (e l cap : Nat) (i j : Int) (w : ByteArray) (w1 w2 w3 w4 w5 w6 : ByteArray) : St := ⟨TB kind off (aW l cap) (.nilIface) (.slice (some ⟨18, 0, some 0⟩) 6 6) (.int .i64 j) (.string w) l i ++ (.bool false :: js 16), (⟨19, .cells [.string w6, .string w5, .string w4, .string w3, .string w2, .string w1] 9 5 1 :: oW ys e :: r0⟩ : Heap), []⟩
def HBz7 (kind off : Int) (r0 : List AObj) (ys : List Value) (e l cap : Nat) (i j : Int) (w : ByteArray) (w1 w2 w3 w4 w5 w6 w7 : ByteArray) : St := ⟨TB kind off (aW l cap) (.nilIface) (.slice (some ⟨18, 0, some 0⟩) 7 7) (.int .i64 j) (.string w) l i ++ js 17, (⟨19, .cells [.string w7, .string w6, .string w5, .string w4, .string w3, .string w2, .string w1] 9 5 1 :: oW ys e :: r0⟩ : Heap), []⟩
def EBz7 (kind off : Int) (r0 : List AObj) (ys : List Value) (e l cap : Nat) (i j : Int) (w : ByteArray) (w1 w2 w3 w4 w5 w6 w7 : ByteArray) : St := ⟨TB kind off (aW l cap) (.nilIface) (.slice (some ⟨18, 0, some 0⟩) 7 7) (.int .i64 j) (.string w) l i ++ (.bool false :: js 16), (⟨19, .cells [.string w7, .string w6, .string w5, .string w4, .string w3, .string w2, .string w1] 9 5 1 :: oW ys e :: r0⟩ : Heap), []⟩
def HBz8 (kind off : Int) (r0 : List AObj) (ys : List Value) (e l cap : Nat) (i j : Int) (w : ByteArray) (w1 w2 w3 w4 w5 w6 w7 w8 : ByteArray) : St := ⟨TB kind off (aW l cap) (.nilIface) (.slice (some ⟨18, 0, some 0⟩) 8 8) (.int .i64 j) (.string w) l i ++ js 17, (⟨19, .cells [.string w8, .string w7, .string w6, .string w5, .string w4, .string w3, .string w2, .string w1] 9 5 1 :: oW ys e :: r0⟩ : Heap), []⟩
def EBz8 (kind off : Int) (r0 : List AObj) (ys : List Value) (e l cap : Nat) (i j : Int) (w : ByteArray) (w1 w2 w3 w4 w5 w6 w7 w8 : ByteArray) : St := ⟨TB kind off (aW l cap) (.nilIface) (.slice (some ⟨18, 0, some 0⟩) 8 8) (.int .i64 j) (.string w) l i ++ (.bool false :: js 16), (⟨19, .cells [.string w8, .string w7, .string w6, .string w5, .string w4, .string w3, .string w2, .string w1] 9 5 1 :: oW ys e :: r0⟩ : Heap), []⟩
def HBzn (kind off : Int) (r0 : List AObj) (X : AObj) : St := ⟨TB kind off (.slice none 0 0) (.nilIface) (.slice none 0 0) undef undef 0 0 ++ js 17, (⟨18, X :: r0⟩ : Heap), []⟩
def EBzn (kind off : Int) (r0 : List AObj) (X : AObj) : St := ⟨TB kind off (.slice none 0 0) (.nilIface) (.slice none 0 0) undef undef 0 0 ++ (.bool false :: js 16), (⟨18, X :: r0⟩ : Heap), []⟩
--< bR0
theorem bR0 (lf : Nat) (kind : Int) (off : Int) (r0 : List AObj) (ys : List Value) (e : Nat) (l : Nat) (cap : Nat) (w : ByteArray) (v : ByteArray) (hw : ys[0]? = some (vs w)) (hi : 0 < l) (hl : l ≤ 20) (hc : evB lf 18 10 [vf 70 (pt 18), vs w] (kpH0 kind off r0 (oW ys e)) = some (vf 67 (pt 19), { n := 20, objs := ob [vs v, vf 70 (pt 18)] 69 0 1 :: ob [vi kind, vi off] 73 4 1 :: oW ys e :: r0 }, [])) (h33 : ∀ (H : Heap), evB lf 18 33 [vs w] H = some (vs v, H, [])) :
    ∃ s', (runB lf) (HB0 kind off r0 ys e l cap) = some (Ex.normal, s') ∧ clB s' = HB1 kind off r0 ys e l cap 1 0 w v :=
  Dg.code_round (f := 17) clB (hs := [qv 17 18 (vb true),
    qs 17 20 (pt 17),
    qs 17 21 (vs w),
    qc 10 (vf 67 (pt 19)) { n := 20, objs := ob [vs v, vf 70 (pt 18)] 69 0 1 :: ob [vi kind, vi off] 73 4 1 :: ob ys e 6 1 :: r0 } [],
    qc 33 (vs v) dH []])
    [vb (decide ((0 : Int) < (↑l : Int))) = vb true,
    (0 : Int) ≤ (0 : Int) ∧ (0 : Int) < (↑l : Int),
    Value.pointer (some { block := (17 : Nat), off := (0 : Nat) }) = Value.pointer (some { block := (17 : Nat), off := (0 : Nat) }),
    ys[(0 : Nat)]? = some (vs w),
    evB lf 18 10 [vf 70 (pt 18), vs w] (kpH0 kind off r0 (oW ys e)) = some (vf 67 (pt 19), { n := 20, objs := ob [vs v, vf 70 (pt 18)] 69 0 1 :: ob [vi kind, vi off] 73 4 1 :: ob ys e 6 1 :: r0 }, []),
    evB lf 18 33 [vs w] dH = some (vs v, dH, [])] (by kernel_rfl)
    ⟨Dg.vtrue (by omega), by omega, rfl, hw, hc, h33 _, trivial⟩
--> bR0
--< bR1
theorem bR1 (lf : Nat) (kind : Int) (off : Int) (r0 : List AObj) (ys : List Value) (e : Nat) (l : Nat) (cap : Nat) (pw : ByteArray) (w1 : ByteArray) (w : ByteArray) (v : ByteArray) (hw : ys[1]? = some (vs w)) (hi : 1 < l) (hl : l ≤ 20) (hc : evB lf 18 10 [vf 67 (pt 18), vs w] (kpH1 kind off r0 (oW ys e) w1) = some (vf 67 (pt 21), { n := 22, objs := ob [vs v, vf 67 (pt 18)] 69 0 1 :: ob [vs w1] 9 4 1 :: ob [vi kind, vi off] 73 4 1 :: ob [vs w1, vf 70 (pt 19)] 69 0 1 :: oW ys e :: r0 }, [])) (h33 : ∀ (H : Heap), evB lf 18 33 [vs w] H = some (vs v, H, [])) :
    ∃ s', (runB lf) (HB1 kind off r0 ys e l cap 1 0 pw w1) = some (Ex.normal, s') ∧ clB s' = HB2 kind off r0 ys e l cap 2 1 w w1 v :=
  Dg.code_round (f := 17) clB (hs := [qv 17 18 (vb true),
    qs 17 20 (po 17 (1)),
    qs 17 21 (vs w),
    qc 10 (vf 67 (pt 21)) { n := 22, objs := ob [vs v, vf 67 (pt 18)] 69 0 1 :: ob [vs w1] 9 4 1 :: ob [vi kind, vi off] 73 4 1 :: ob [vs w1, vf 70 (pt 19)] 69 0 1 :: ob ys e 6 1 :: r0 } [],
    qc 33 (vs v) dH []])
    [vb (decide ((1 : Int) < (↑l : Int))) = vb true,
    (0 : Int) ≤ (1 : Int) ∧ (1 : Int) < (↑l : Int),
    Value.pointer (some { block := (17 : Nat), off := (1 : Nat) }) = Value.pointer (some { block := (17 : Nat), off := (1 : Nat) }),
    ys[(1 : Nat)]? = some (vs w),
    evB lf 18 10 [vf 67 (pt 18), vs w] (kpH1 kind off r0 (oW ys e) w1) = some (vf 67 (pt 21), { n := 22, objs := ob [vs v, vf 67 (pt 18)] 69 0 1 :: ob [vs w1] 9 4 1 :: ob [vi kind, vi off] 73 4 1 :: ob [vs w1, vf 70 (pt 19)] 69 0 1 :: ob ys e 6 1 :: r0 }, []),
    evB lf 18 33 [vs w] dH = some (vs v, dH, [])] (by kernel_rfl)
    ⟨Dg.vtrue (by omega), by omega, rfl, hw, hc, h33 _, trivial⟩
--> bR1
--< bR2
theorem bR2 (lf : Nat) (kind : Int) (off : Int) (r0 : List AObj) (ys : List Value) (e : Nat) (l : Nat) (cap : Nat) (pw : ByteArray) (w1 : ByteArray) (w2 : ByteArray) (w : ByteArray) (v : ByteArray) (hw : ys[2]? = some (vs w)) (hi : 2 < l) (hl : l ≤ 20) (hc : evB lf 18 10 [vf 67 (pt 18), vs w] (kpH2 kind off r0 (oW ys e) w1 w2) = some (vf 67 (pt 22), { n := 23, objs := ob [vs v, vf 67 (pt 18)] 69 0 1 :: ob [vs w2, vs w1] 9 5 1 :: ob [vi kind, vi off] 73 4 1 :: ob [vs w1, vf 70 (pt 20)] 69 0 1 :: ob [vs w2, vf 67 (pt 19)] 69 0 1 :: oW ys e :: r0 }, [])) (h33 : ∀ (H : Heap), evB lf 18 33 [vs w] H = some (vs v, H, [])) :
    ∃ s', (runB lf) (HB2 kind off r0 ys e l cap 2 1 pw w1 w2) = some (Ex.normal, s') ∧ clB s' = HB3 kind off r0 ys e l cap 3 2 w w1 w2 v :=
  Dg.code_round (f := 17) clB (hs := [qv 17 18 (vb true),
    qs 17 20 (po 17 (2)),
    qs 17 21 (vs w),
    qc 10 (vf 67 (pt 22)) { n := 23, objs := ob [vs v, vf 67 (pt 18)] 69 0 1 :: ob [vs w2, vs w1] 9 5 1 :: ob [vi kind, vi off] 73 4 1 :: ob [vs w1, vf 70 (pt 20)] 69 0 1 :: ob [vs w2, vf 67 (pt 19)] 69 0 1 :: ob ys e 6 1 :: r0 } [],
    qc 33 (vs v) dH []])
    [vb (decide ((2 : Int) < (↑l : Int))) = vb true,
    (0 : Int) ≤ (2 : Int) ∧ (2 : Int) < (↑l : Int),
    Value.pointer (some { block := (17 : Nat), off := (2 : Nat) }) = Value.pointer (some { block := (17 : Nat), off := (2 : Nat) }),
    ys[(2 : Nat)]? = some (vs w),
    evB lf 18 10 [vf 67 (pt 18), vs w] (kpH2 kind off r0 (oW ys e) w1 w2) = some (vf 67 (pt 22), { n := 23, objs := ob [vs v, vf 67 (pt 18)] 69 0 1 :: ob [vs w2, vs w1] 9 5 1 :: ob [vi kind, vi off] 73 4 1 :: ob [vs w1, vf 70 (pt 20)] 69 0 1 :: ob [vs w2, vf 67 (pt 19)] 69 0 1 :: ob ys e 6 1 :: r0 }, []),
    evB lf 18 33 [vs w] dH = some (vs v, dH, [])] (by kernel_rfl)
    ⟨Dg.vtrue (by omega), by omega, rfl, hw, hc, h33 _, trivial⟩
--> bR2
--< bR3
theorem bR3 (lf : Nat) (kind : Int) (off : Int) (r0 : List AObj) (ys : List Value) (e : Nat) (l : Nat) (cap : Nat) (pw : ByteArray) (w1 : ByteArray) (w2 : ByteArray) (w3 : ByteArray) (w : ByteArray) (v : ByteArray) (hw : ys[3]? = some (vs w)) (hi : 3 < l) (hl : l ≤ 20) (hc : evB lf 18 10 [vf 67 (pt 18), vs w] (kpH3 kind off r0 (oW ys e) w1 w2 w3) = some (vf 67 (pt 23), { n := 24, objs := ob [vs v, vf 67 (pt 18)] 69 0 1 :: ob [vs w3, vs w2, vs w1] 9 5 1 :: ob [vi kind, vi off] 73 4 1 :: ob [vs w1, vf 70 (pt 21)] 69 0 1 :: ob [vs w2, vf 67 (pt 20)] 69 0 1 :: ob [vs w3, vf 67 (pt 19)] 69 0 1 :: oW ys e :: r0 }, [])) (h33 : ∀ (H : Heap), evB lf 18 33 [vs w] H = some (vs v, H, [])) :
    ∃ s', (runB lf) (HB3 kind off r0 ys e l cap 3 2 pw w1 w2 w3) = some (Ex.normal, s') ∧ clB s' = HB4 kind off r0 ys e l cap 4 3 w w1 w2 w3 v :=
  Dg.code_round (f := 17) clB (hs := [qv 17 18 (vb true),
    qs 17 20 (po 17 (3)),
    qs 17 21 (vs w),
    qc 10 (vf 67 (pt 23)) { n := 24, objs := ob [vs v, vf 67 (pt 18)] 69 0 1 :: ob [vs w3, vs w2, vs w1] 9 5 1 :: ob [vi kind, vi off] 73 4 1 :: ob [vs w1, vf 70 (pt 21)] 69 0 1 :: ob [vs w2, vf 67 (pt 20)] 69 0 1 :: ob [vs w3, vf 67 (pt 19)] 69 0 1 :: ob ys e 6 1 :: r0 } [],
    qc 33 (vs v) dH []])
    [vb (decide ((3 : Int) < (↑l : Int))) = vb true,
    (0 : Int) ≤ (3 : Int) ∧ (3 : Int) < (↑l : Int),
    Value.pointer (some { block := (17 : Nat), off := (3 : Nat) }) = Value.pointer (some { block := (17 : Nat), off := (3 : Nat) }),
    ys[(3 : Nat)]? = some (vs w),
    evB lf 18 10 [vf 67 (pt 18), vs w] (kpH3 kind off r0 (oW ys e) w1 w2 w3) = some (vf 67 (pt 23), { n := 24, objs := ob [vs v, vf 67 (pt 18)] 69 0 1 :: ob [vs w3, vs w2, vs w1] 9 5 1 :: ob [vi kind, vi off] 73 4 1 :: ob [vs w1, vf 70 (pt 21)] 69 0 1 :: ob [vs w2, vf 67 (pt 20)] 69 0 1 :: ob [vs w3, vf 67 (pt 19)] 69 0 1 :: ob ys e 6 1 :: r0 }, []),
    evB lf 18 33 [vs w] dH = some (vs v, dH, [])] (by kernel_rfl)
    ⟨Dg.vtrue (by omega), by omega, rfl, hw, hc, h33 _, trivial⟩
--> bR3
--< bR4
theorem bR4 (lf : Nat) (kind : Int) (off : Int) (r0 : List AObj) (ys : List Value) (e : Nat) (l : Nat) (cap : Nat) (pw : ByteArray) (w1 : ByteArray) (w2 : ByteArray) (w3 : ByteArray) (w4 : ByteArray) (w : ByteArray) (v : ByteArray) (hw : ys[4]? = some (vs w)) (hi : 4 < l) (hl : l ≤ 20) (hc : evB lf 18 10 [vf 67 (pt 18), vs w] (kpH4 kind off r0 (oW ys e) w1 w2 w3 w4) = some (vf 67 (pt 24), { n := 25, objs := ob [vs v, vf 67 (pt 18)] 69 0 1 :: ob [vs w4, vs w3, vs w2, vs w1] 9 5 1 :: ob [vi kind, vi off] 73 4 1 :: ob [vs w1, vf 70 (pt 22)] 69 0 1 :: ob [vs w2, vf 67 (pt 21)] 69 0 1 :: ob [vs w3, vf 67 (pt 20)] 69 0 1 :: ob [vs w4, vf 67 (pt 19)] 69 0 1 :: oW ys e :: r0 }, [])) (h33 : ∀ (H : Heap), evB lf 18 33 [vs w] H = some (vs v, H, [])) :
    ∃ s', (runB lf) (HB4 kind off r0 ys e l cap 4 3 pw w1 w2 w3 w4) = some (Ex.normal, s') ∧ clB s' = HB5 kind off r0 ys e l cap 5 4 w w1 w2 w3 w4 v :=
  Dg.code_round (f := 17) clB (hs := [qv 17 18 (vb true),
    qs 17 20 (po 17 (4)),
    qs 17 21 (vs w),
    qc 10 (vf 67 (pt 24)) { n := 25, objs := ob [vs v, vf 67 (pt 18)] 69 0 1 :: ob [vs w4, vs w3, vs w2, vs w1] 9 5 1 :: ob [vi kind, vi off] 73 4 1 :: ob [vs w1, vf 70 (pt 22)] 69 0 1 :: ob [vs w2, vf 67 (pt 21)] 69 0 1 :: ob [vs w3, vf 67 (pt 20)] 69 0 1 :: ob [vs w4, vf 67 (pt 19)] 69 0 1 :: ob ys e 6 1 :: r0 } [],
    qc 33 (vs v) dH []])
    [vb (decide ((4 : Int) < (↑l : Int))) = vb true,
    (0 : Int) ≤ (4 : Int) ∧ (4 : Int) < (↑l : Int),
    Value.pointer (some { block := (17 : Nat), off := (4 : Nat) }) = Value.pointer (some { block := (17 : Nat), off := (4 : Nat) }),
    ys[(4 : Nat)]? = some (vs w),
    evB lf 18 10 [vf 67 (pt 18), vs w] (kpH4 kind off r0 (oW ys e) w1 w2 w3 w4) = some (vf 67 (pt 24), { n := 25, objs := ob [vs v, vf 67 (pt 18)] 69 0 1 :: ob [vs w4, vs w3, vs w2, vs w1] 9 5 1 :: ob [vi kind, vi off] 73 4 1 :: ob [vs w1, vf 70 (pt 22)] 69 0 1 :: ob [vs w2, vf 67 (pt 21)] 69 0 1 :: ob [vs w3, vf 67 (pt 20)] 69 0 1 :: ob [vs w4, vf 67 (pt 19)] 69 0 1 :: ob ys e 6 1 :: r0 }, []),
    evB lf 18 33 [vs w] dH = some (vs v, dH, [])] (by kernel_rfl)
    ⟨Dg.vtrue (by omega), by omega, rfl, hw, hc, h33 _, trivial⟩
--> bR4
--< bR5
theorem bR5 (lf : Nat) (kind : Int) (off : Int) (r0 : List AObj) (ys : List Value) (e : Nat) (l : Nat) (cap : Nat) (pw : ByteArray) (w1 : ByteArray) (w2 : ByteArray) (w3 : ByteArray) (w4 : ByteArray) (w5 : ByteArray) (w : ByteArray) (v : ByteArray) (hw : ys[5]? = some (vs w)) (hi : 5 < l) (hl : l ≤ 20) (hc : evB lf 18 10 [vf 67 (pt 18), vs w] (kpH5 kind off r0 (oW ys e) w1 w2 w3 w4 w5) = some (vf 67 (pt 25), { n := 26, objs := ob [vs v, vf 67 (pt 18)] 69 0 1 :: ob [vs w5, vs w4, vs w3, vs w2, vs w1] 9 5 1 :: ob [vi kind, vi off] 73 4 1 :: ob [vs w1, vf 70 (pt 23)] 69 0 1 :: ob [vs w2, vf 67 (pt 22)] 69 0 1 :: ob [vs w3, vf 67 (pt 21)] 69 0 1 :: ob [vs w4, vf 67 (pt 20)] 69 0 1 :: ob [vs w5, vf 67 (pt 19)] 69 0 1 :: oW ys e :: r0 }, [])) (h33 : ∀ (H : Heap), evB lf 18 33 [vs w] H = some (vs v, H, [])) :
    ∃ s', (runB lf) (HB5 kind off r0 ys e l cap 5 4 pw w1 w2 w3 w4 w5) = some (Ex.normal, s') ∧ clB s' = HB6 kind off r0 ys e l cap 6 5 w w1 w2 w3 w4 w5 v :=
  Dg.code_round (f := 17) clB (hs := [qv 17 18 (vb true),
    qs 17 20 (po 17 (5)),
    qs 17 21 (vs w),
    qc 10 (vf 67 (pt 25)) { n := 26, objs := ob [vs v, vf 67 (pt 18)] 69 0 1 :: ob [vs w5, vs w4, vs w3, vs w2, vs w1] 9 5 1 :: ob [vi kind, vi off] 73 4 1 :: ob [vs w1, vf 70 (pt 23)] 69 0 1 :: ob [vs w2, vf 67 (pt 22)] 69 0 1 :: ob [vs w3, vf 67 (pt 21)] 69 0 1 :: ob [vs w4, vf 67 (pt 20)] 69 0 1 :: ob [vs w5, vf 67 (pt 19)] 69 0 1 :: ob ys e 6 1 :: r0 } [],
    qc 33 (vs v) dH []])
    [vb (decide ((5 : Int) < (↑l : Int))) = vb true,
    (0 : Int) ≤ (5 : Int) ∧ (5 : Int) < (↑l : Int),
    Value.pointer (some { block := (17 : Nat), off := (5 : Nat) }) = Value.pointer (some { block := (17 : Nat), off := (5 : Nat) }),
    ys[(5 : Nat)]? = some (vs w),
    evB lf 18 10 [vf 67 (pt 18), vs w] (kpH5 kind off r0 (oW ys e) w1 w2 w3 w4 w5) = some (vf 67 (pt 25), { n := 26, objs := ob [vs v, vf 67 (pt 18)] 69 0 1 :: ob [vs w5, vs w4, vs w3, vs w2, vs w1] 9 5 1 :: ob [vi kind, vi off] 73 4 1 :: ob [vs w1, vf 70 (pt 23)] 69 0 1 :: ob [vs w2, vf 67 (pt 22)] 69 0 1 :: ob [vs w3, vf 67 (pt 21)] 69 0 1 :: ob [vs w4, vf 67 (pt 20)] 69 0 1 :: ob [vs w5, vf 67 (pt 19)] 69 0 1 :: ob ys e 6 1 :: r0 }, []),
    evB lf 18 33 [vs w] dH = some (vs v, dH, [])] (by kernel_rfl)
    ⟨Dg.vtrue (by omega), by omega, rfl, hw, hc, h33 _, trivial⟩
--> bR5
--< bR6
theorem bR6 (lf : Nat) (kind : Int) (off : Int) (r0 : List AObj) (ys : List Value) (e : Nat) (l : Nat) (cap : Nat) (pw : ByteArray) (w1 : ByteArray) (w2 : ByteArray) (w3 : ByteArray) (w4 : ByteArray) (w5 : ByteArray) (w6 : ByteArray) (w : ByteArray) (v : ByteArray) (hw : ys[6]? = some (vs w)) (hi : 6 < l) (hl : l ≤ 20) (hc : evB lf 18 10 [vf 67 (pt 18), vs w] (kpH6 kind off r0 (oW ys e) w1 w2 w3 w4 w5 w6) = some (vf 67 (pt 26), { n := 27, objs := ob [vs v, vf 67 (pt 18)] 69 0 1 :: ob [vs w6, vs w5, vs w4, vs w3, vs w2, vs w1] 9 5 1 :: ob [vi kind, vi off] 73 4 1 :: ob [vs w1, vf 70 (pt 24)] 69 0 1 :: ob [vs w2, vf 67 (pt 23)] 69 0 1 :: ob [vs w3, vf 67 (pt 22)] 69 0 1 :: ob [vs w4, vf 67 (pt 21)] 69 0 1 :: ob [vs w5, vf 67 (pt 20)] 69 0 1 :: ob [vs w6, vf 67 (pt 19)] 69 0 1 :: oW ys e :: r0 }, [])) (h33 : ∀ (H : Heap), evB lf 18 33 [vs w] H = some (vs v, H, [])) :
    ∃ s', (runB lf) (HB6 kind off r0 ys e l cap 6 5 pw w1 w2 w3 w4 w5 w6) = some (Ex.normal, s') ∧ clB s' = HB7 kind off r0 ys e l cap 7 6 w w1 w2 w3 w4 w5 w6 v :=
  Dg.code_round (f := 17) clB (hs := [qv 17 18 (vb true),
    qs 17 20 (po 17 (6)),
    qs 17 21 (vs w),
    qc 10 (vf 67 (pt 26)) { n := 27, objs := ob [vs v, vf 67 (pt 18)] 69 0 1 :: ob [vs w6, vs w5, vs w4, vs w3, vs w2, vs w1] 9 5 1 :: ob [vi kind, vi off] 73 4 1 :: ob [vs w1, vf 70 (pt 24)] 69 0 1 :: ob [vs w2, vf 67 (pt 23)] 69 0 1 :: ob [vs w3, vf 67 (pt 22)] 69 0 1 :: ob [vs w4, vf 67 (pt 21)] 69 0 1 :: ob [vs w5, vf 67 (pt 20)] 69 0 1 :: ob [vs w6, vf 67 (pt 19)] 69 0 1 :: ob ys e 6 1 :: r0 } [],
    qc 33 (vs v) dH []])
    [vb (decide ((6 : Int) < (↑l : Int))) = vb true,
    (0 : Int) ≤ (6 : Int) ∧ (6 : Int) < (↑l : Int),
    Value.pointer (some { block := (17 : Nat), off := (6 : Nat) }) = Value.pointer (some { block := (17 : Nat), off := (6 : Nat) }),
    ys[(6 : Nat)]? = some (vs w),
    evB lf 18 10 [vf 67 (pt 18), vs w] (kpH6 kind off r0 (oW ys e) w1 w2 w3 w4 w5 w6) = some (vf 67 (pt 26), { n := 27, objs := ob [vs v, vf 67 (pt 18)] 69 0 1 :: ob [vs w6, vs w5, vs w4, vs w3, vs w2, vs w1] 9 5 1 :: ob [vi kind, vi off] 73 4 1 :: ob [vs w1, vf 70 (pt 24)] 69 0 1 :: ob [vs w2, vf 67 (pt 23)] 69 0 1 :: ob [vs w3, vf 67 (pt 22)] 69 0 1 :: ob [vs w4, vf 67 (pt 21)] 69 0 1 :: ob [vs w5, vf 67 (pt 20)] 69 0 1 :: ob [vs w6, vf 67 (pt 19)] 69 0 1 :: ob ys e 6 1 :: r0 }, []),
    evB lf 18 33 [vs w] dH = some (vs v, dH, [])] (by kernel_rfl)
    ⟨Dg.vtrue (by omega), by omega, rfl, hw, hc, h33 _, trivial⟩
--> bR6
--< bR7
theorem bR7 (lf : Nat) (kind : Int) (off : Int) (r0 : List AObj) (ys : List Value) (e : Nat) (l : Nat) (cap : Nat) (pw : ByteArray) (w1 : ByteArray) (w2 : ByteArray) (w3 : ByteArray) (w4 : ByteArray) (w5 : ByteArray) (w6 : ByteArray) (w7 : ByteArray) (w : ByteArray) (v : ByteArray) (hw : ys[7]? = some (vs w)) (hi : 7 < l) (hl : l ≤ 20) (hc : evB lf 18 10 [vf 67 (pt 18), vs w] (kpH7 kind off r0 (oW ys e) w1 w2 w3 w4 w5 w6 w7) = some (vf 67 (pt 27), { n := 28, objs := ob [vs v, vf 67 (pt 18)] 69 0 1 :: ob [vs w7, vs w6, vs w5, vs w4, vs w3, vs w2, vs w1] 9 5 1 :: ob [vi kind, vi off] 73 4 1 :: ob [vs w1, vf 70 (pt 25)] 69 0 1 :: ob [vs w2, vf 67 (pt 24)] 69 0 1 :: ob [vs w3, vf 67 (pt 23)] 69 0 1 :: ob [vs w4, vf 67 (pt 22)] 69 0 1 :: ob [vs w5, vf 67 (pt 21)] 69 0 1 :: ob [vs w6, vf 67 (pt 20)] 69 0 1 :: ob [vs w7, vf 67 (pt 19)] 69 0 1 :: oW ys e :: r0 }, [])) (h33 : ∀ (H : Heap), evB lf 18 33 [vs w] H = some (vs v, H, [])) :
    ∃ s', (runB lf) (HB7 kind off r0 ys e l cap 7 6 pw w1 w2 w3 w4 w5 w6 w7) = some (Ex.normal, s') ∧ clB s' = HB8 kind off r0 ys e l cap 8 7 w w1 w2 w3 w4 w5 w6 w7 v :=
  Dg.code_round (f := 17) clB (hs := [qv 17 18 (vb true),
    qs 17 20 (po 17 (7)),
    qs 17 21 (vs w),
    qc 10 (vf 67 (pt 27)) { n := 28, objs := ob [vs v, vf 67 (pt 18)] 69 0 1 :: ob [vs w7, vs w6, vs w5, vs w4, vs w3, vs w2, vs w1] 9 5 1 :: ob [vi kind, vi off] 73 4 1 :: ob [vs w1, vf 70 (pt 25)] 69 0 1 :: ob [vs w2, vf 67 (pt 24)] 69 0 1 :: ob [vs w3, vf 67 (pt 23)] 69 0 1 :: ob [vs w4, vf 67 (pt 22)] 69 0 1 :: ob [vs w5, vf 67 (pt 21)] 69 0 1 :: ob [vs w6, vf 67 (pt 20)] 69 0 1 :: ob [vs w7, vf 67 (pt 19)] 69 0 1 :: ob ys e 6 1 :: r0 } [],
    qc 33 (vs v) dH []])
    [vb (decide ((7 : Int) < (↑l : Int))) = vb true,
    (0 : Int) ≤ (7 : Int) ∧ (7 : Int) < (↑l : Int),
    Value.pointer (some { block := (17 : Nat), off := (7 : Nat) }) = Value.pointer (some { block := (17 : Nat), off := (7 : Nat) }),
    ys[(7 : Nat)]? = some (vs w),
    evB lf 18 10 [vf 67 (pt 18), vs w] (kpH7 kind off r0 (oW ys e) w1 w2 w3 w4 w5 w6 w7) = some (vf 67 (pt 27), { n := 28, objs := ob [vs v, vf 67 (pt 18)] 69 0 1 :: ob [vs w7, vs w6, vs w5, vs w4, vs w3, vs w2, vs w1] 9 5 1 :: ob [vi kind, vi off] 73 4 1 :: ob [vs w1, vf 70 (pt 25)] 69 0 1 :: ob [vs w2, vf 67 (pt 24)] 69 0 1 :: ob [vs w3, vf 67 (pt 23)] 69 0 1 :: ob [vs w4, vf 67 (pt 22)] 69 0 1 :: ob [vs w5, vf 67 (pt 21)] 69 0 1 :: ob [vs w6, vf 67 (pt 20)] 69 0 1 :: ob [vs w7, vf 67 (pt 19)] 69 0 1 :: ob ys e 6 1 :: r0 }, []),
    evB lf 18 33 [vs w] dH = some (vs v, dH, [])] (by kernel_rfl)
    ⟨Dg.vtrue (by omega), by omega, rfl, hw, hc, h33 _, trivial⟩
--> bR7
--< bR8
theorem bR8 (lf : Nat) (kind : Int) (off : Int) (r0 : List AObj) (ys : List Value) (e : Nat) (l : Nat) (cap : Nat) (i : Nat) (j : Int) (pw : ByteArray) (w1 : ByteArray) (w2 : ByteArray) (w3 : ByteArray) (w4 : ByteArray) (w5 : ByteArray) (w6 : ByteArray) (w7 : ByteArray) (w8 : ByteArray) (w : ByteArray) (hw : ys[i]? = some (vs w)) (h8 : 8 ≤ i) (hi : i < l) (hl : l ≤ 20) (hc : evB lf 18 10 [vf 67 (pt 18), vs w] (kpH8 kind off r0 (oW ys e) w1 w2 w3 w4 w5 w6 w7 w8) = some (vf 67 (pt 18), (kpH8 kind off r0 (oW ys e) w1 w2 w3 w4 w5 w6 w7 w8), [])) :
    ∃ s', (runB lf) (HB8 kind off r0 ys e l cap (↑i : Int) j pw w1 w2 w3 w4 w5 w6 w7 w8) = some (Ex.normal, s') ∧ clB s' = HB8 kind off r0 ys e l cap ((↑i : Int) + 1) (↑i : Int) w w1 w2 w3 w4 w5 w6 w7 w8 :=
  Dg.code_round (f := 17) clB (hs := [qv 17 18 (vb true),
    qs 17 20 (po 17 (i)),
    qs 17 21 (vs w),
    qc 10 (vf 67 (pt 18)) (kpH8 kind off r0 (oW ys e) w1 w2 w3 w4 w5 w6 w7 w8) [],
    qv 17 26 (vb false),
    qv 17 32 (vi ((↑i : Int) + 1))])
    [vb (decide ((↑i : Int) < (↑l : Int))) = vb true,
    (0 : Int) ≤ (↑i : Int) ∧ (↑i : Int) < (↑l : Int),
    Value.pointer (some { block := (17 : Nat), off := (0 : Nat) + Int.toNat (↑i : Int) * (1 : Nat) }) = Value.pointer (some { block := (17 : Nat), off := i }),
    ys[i]? = some (vs w),
    evB lf 18 10 [vf 67 (pt 18), vs w] (kpH8 kind off r0 (oW ys e) w1 w2 w3 w4 w5 w6 w7 w8) = some (vf 67 (pt 18), (kpH8 kind off r0 (oW ys e) w1 w2 w3 w4 w5 w6 w7 w8), []),
    vb (decide ((↑i : Int) < (8 : Int))) = vb false,
    vi (IntKind.wrap IntKind.i64 ((↑i : Int) + (1 : Int))) = vi ((↑i : Int) + (1 : Int))] (by kernel_rfl)
    ⟨Dg.vtrue (by omega), by omega, Dg.ptr_eq (by omega), hw, hc, Dg.vfalse (by omega), Dg.i64_eq rfl (by omega) (by omega), trivial⟩
--> bR8
--< bC0
theorem bC0 (lf : Nat) (kind : Int) (off : Int) (r0 : List AObj) (ys : List Value) (e : Nat) (l : Nat) (cap : Nat) (h : l = 0) (hl : l ≤ 20) :
    (runB lf) (HB0 kind off r0 ys e l cap) = some (Ex.exit 0, ({ ts := [vi kind, vi off, aW l cap, undef, undef, undef, Value.nilIface, Value.slice none 0 0, vf 70 (pt 18), Value.slice none 0 0, undef, undef, junk, junk, junk, aW l cap, vi (↑l : Int), vi 0, vb false, junk, junk, junk, junk, junk, junk, junk, junk, junk, junk, junk, junk, junk, junk, junk, junk], H := (kpH0 kind off r0 (oW ys e)), log := [] } : St)) :=
  Dg.evCode_hint (f := 17) (hs' := []) (hs := [qv 17 18 (vb false)])
    [vb (decide ((0 : Int) < (↑l : Int))) = vb false] (by kernel_rfl)
    ⟨Dg.vfalse (by omega), trivial⟩
--> bC0
--< bC1
theorem bC1 (lf : Nat) (kind : Int) (off : Int) (r0 : List AObj) (ys : List Value) (e : Nat) (l : Nat) (cap : Nat) (j : Int) (pw : ByteArray) (w1 : ByteArray) (h : l = 1) (hl : l ≤ 20) :
    (runB lf) (HB1 kind off r0 ys e l cap 1 j pw w1) = some (Ex.exit 0, ({ ts := [vi kind, vi off, aW l cap, undef, undef, undef, Value.nilIface, Value.slice none 0 0, vf 67 (pt 18), sq 20 1 1, vi j, vs pw, junk, junk, junk, aW l cap, vi (↑l : Int), vi 1, vb false, junk, junk, junk, junk, junk, junk, junk, junk, junk, junk, junk, junk, junk, junk, junk, junk], H := (kpH1 kind off r0 (oW ys e) w1), log := [] } : St)) :=
  Dg.evCode_hint (f := 17) (hs' := []) (hs := [qv 17 18 (vb false)])
    [vb (decide ((1 : Int) < (↑l : Int))) = vb false] (by kernel_rfl)
    ⟨Dg.vfalse (by omega), trivial⟩
--> bC1
--< bC2
theorem bC2 (lf : Nat) (kind : Int) (off : Int) (r0 : List AObj) (ys : List Value) (e : Nat) (l : Nat) (cap : Nat) (j : Int) (pw : ByteArray) (w1 : ByteArray) (w2 : ByteArray) (h : l = 2) (hl : l ≤ 20) :
    (runB lf) (HB2 kind off r0 ys e l cap 2 j pw w1 w2) = some (Ex.exit 0, ({ ts := [vi kind, vi off, aW l cap, undef, undef, undef, Value.nilIface, Value.slice none 0 0, vf 67 (pt 18), sp 21 2 2, vi j, vs pw, junk, junk, junk, aW l cap, vi (↑l : Int), vi 2, vb false, junk, junk, junk, junk, junk, junk, junk, junk, junk, junk, junk, junk, junk, junk, junk, junk], H := (kpH2 kind off r0 (oW ys e) w1 w2), log := [] } : St)) :=
  Dg.evCode_hint (f := 17) (hs' := []) (hs := [qv 17 18 (vb false)])
    [vb (decide ((2 : Int) < (↑l : Int))) = vb false] (by kernel_rfl)
    ⟨Dg.vfalse (by omega), trivial⟩
--> bC2
--< bC3
theorem bC3 (lf : Nat) (kind : Int) (off : Int) (r0 : List AObj) (ys : List Value) (e : Nat) (l : Nat) (cap : Nat) (j : Int) (pw : ByteArray) (w1 : ByteArray) (w2 : ByteArray) (w3 : ByteArray) (h : l = 3) (hl : l ≤ 20) :
    (runB lf) (HB3 kind off r0 ys e l cap 3 j pw w1 w2 w3) = some (Ex.exit 0, ({ ts := [vi kind, vi off, aW l cap, undef, undef, undef, Value.nilIface, Value.slice none 0 0, vf 67 (pt 18), sp 22 3 3, vi j, vs pw, junk, junk, junk, aW l cap, vi (↑l : Int), vi 3, vb false, junk, junk, junk, junk, junk, junk, junk, junk, junk, junk, junk, junk, junk, junk, junk, junk], H := (kpH3 kind off r0 (oW ys e) w1 w2 w3), log := [] } : St)) :=
  Dg.evCode_hint (f := 17) (hs' := []) (hs := [qv 17 18 (vb false)])
    [vb (decide ((3 : Int) < (↑l : Int))) = vb false] (by kernel_rfl)
    ⟨Dg.vfalse (by omega), trivial⟩
--> bC3
--< bC4
theorem bC4 (lf : Nat) (kind : Int) (off : Int) (r0 : List AObj) (ys : List Value) (e : Nat) (l : Nat) (cap : Nat) (j : Int) (pw : ByteArray) (w1 : ByteArray) (w2 : ByteArray) (w3 : ByteArray) (w4 : ByteArray) (h : l = 4) (hl : l ≤ 20) :
    (runB lf) (HB4 kind off r0 ys e l cap 4 j pw w1 w2 w3 w4) = some (Ex.exit 0, ({ ts := [vi kind, vi off, aW l cap, undef, undef, undef, Value.nilIface, Value.slice none 0 0, vf 67 (pt 18), sp 23 4 4, vi j, vs pw, junk, junk, junk, aW l cap, vi (↑l : Int), vi 4, vb false, junk, junk, junk, junk, junk, junk, junk, junk, junk, junk, junk, junk, junk, junk, junk, junk], H := (kpH4 kind off r0 (oW ys e) w1 w2 w3 w4), log := [] } : St)) :=
  Dg.evCode_hint (f := 17) (hs' := []) (hs := [qv 17 18 (vb false)])
    [vb (decide ((4 : Int) < (↑l : Int))) = vb false] (by kernel_rfl)
    ⟨Dg.vfalse (by omega), trivial⟩
--> bC4
--< bC5
theorem bC5 (lf : Nat) (kind : Int) (off : Int) (r0 : List AObj) (ys : List Value) (e : Nat) (l : Nat) (cap : Nat) (j : Int) (pw : ByteArray) (w1 : ByteArray) (w2 : ByteArray) (w3 : ByteArray) (w4 : ByteArray) (w5 : ByteArray) (h : l = 5) (hl : l ≤ 20) :
    (runB lf) (HB5 kind off r0 ys e l cap 5 j pw w1 w2 w3 w4 w5) = some (Ex.exit 0, ({ ts := [vi kind, vi off, aW l cap, undef, undef, undef, Value.nilIface, Value.slice none 0 0, vf 67 (pt 18), sp 24 5 5, vi j, vs pw, junk, junk, junk, aW l cap, vi (↑l : Int), vi 5, vb false, junk, junk, junk, junk, junk, junk, junk, junk, junk, junk, junk, junk, junk, junk, junk, junk], H := (kpH5 kind off r0 (oW ys e) w1 w2 w3 w4 w5), log := [] } : St)) :=
  Dg.evCode_hint (f := 17) (hs' := []) (hs := [qv 17 18 (vb false)])
    [vb (decide ((5 : Int) < (↑l : Int))) = vb false] (by kernel_rfl)
    ⟨Dg.vfalse (by omega), trivial⟩
--> bC5
--< bC6
theorem bC6 (lf : Nat) (kind : Int) (off : Int) (r0 : List AObj) (ys : List Value) (e : Nat) (l : Nat) (cap : Nat) (j : Int) (pw : ByteArray) (w1 : ByteArray) (w2 : ByteArray) (w3 : ByteArray) (w4 : ByteArray) (w5 : ByteArray) (w6 : ByteArray) (h : l = 6) (hl : l ≤ 20) :
    (runB lf) (HB6 kind off r0 ys e l cap 6 j pw w1 w2 w3 w4 w5 w6) = some (Ex.exit 0, ({ ts := [vi kind, vi off, aW l cap, undef, undef, undef, Value.nilIface, Value.slice none 0 0, vf 67 (pt 18), sp 25 6 6, vi j, vs pw, junk, junk, junk, aW l cap, vi (↑l : Int), vi 6, vb false, junk, junk, junk, junk, junk, junk, junk, junk, junk, junk, junk, junk, junk, junk, junk, junk], H := (kpH6 kind off r0 (oW ys e) w1 w2 w3 w4 w5 w6), log := [] } : St)) :=
  Dg.evCode_hint (f := 17) (hs' := []) (hs := [qv 17 18 (vb false)])
    [vb (decide ((6 : Int) < (↑l : Int))) = vb false] (by kernel_rfl)
    ⟨Dg.vfalse (by omega), trivial⟩
--> bC6
--< bC7
theorem bC7 (lf : Nat) (kind : Int) (off : Int) (r0 : List AObj) (ys : List Value) (e : Nat) (l : Nat) (cap : Nat) (j : Int) (pw : ByteArray) (w1 : ByteArray) (w2 : ByteArray) (w3 : ByteArray) (w4 : ByteArray) (w5 : ByteArray) (w6 : ByteArray) (w7 : ByteArray) (h : l = 7) (hl : l ≤ 20) :
    (runB lf) (HB7 kind off r0 ys e l cap 7 j pw w1 w2 w3 w4 w5 w6 w7) = some (Ex.exit 0, ({ ts := [vi kind, vi off, aW l cap, undef, undef, undef, Value.nilIface, Value.slice none 0 0, vf 67 (pt 18), sp 26 7 7, vi j, vs pw, junk, junk, junk, aW l cap, vi (↑l : Int), vi 7, vb false, junk, junk, junk, junk, junk, junk, junk, junk, junk, junk, junk, junk, junk, junk, junk, junk], H := (kpH7 kind off r0 (oW ys e) w1 w2 w3 w4 w5 w6 w7), log := [] } : St)) :=
  Dg.evCode_hint (f := 17) (hs' := []) (hs := [qv 17 18 (vb false)])
    [vb (decide ((7 : Int) < (↑l : Int))) = vb false] (by kernel_rfl)
    ⟨Dg.vfalse (by omega), trivial⟩
--> bC7
--< bC8
theorem bC8 (lf : Nat) (kind : Int) (off : Int) (r0 : List AObj) (ys : List Value) (e : Nat) (l : Nat) (cap : Nat) (j : Int) (pw : ByteArray) (w1 : ByteArray) (w2 : ByteArray) (w3 : ByteArray) (w4 : ByteArray) (w5 : ByteArray) (w6 : ByteArray) (w7 : ByteArray) (w8 : ByteArray) (i : Nat) (h : l = i) (hl : l ≤ 20) :
    (runB lf) (HB8 kind off r0 ys e l cap (↑i : Int) j pw w1 w2 w3 w4 w5 w6 w7 w8) = some (Ex.exit 0, ({ ts := [vi kind, vi off, aW l cap, undef, undef, undef, Value.nilIface, Value.slice none 0 0, vf 67 (pt 18), sp 27 8 8, vi j, vs pw, junk, junk, junk, aW l cap, vi (↑l : Int), vi (↑i : Int), vb false, junk, junk, junk, junk, junk, junk, junk, junk, junk, junk, junk, junk, junk, junk, junk, junk], H := (kpH8 kind off r0 (oW ys e) w1 w2 w3 w4 w5 w6 w7 w8), log := [] } : St)) :=
  Dg.evCode_hint (f := 17) (hs' := []) (hs := [qv 17 18 (vb false)])
    [vb (decide ((↑i : Int) < (↑l : Int))) = vb false] (by kernel_rfl)
    ⟨Dg.vfalse (by omega), trivial⟩
--> bC8
--< bCn
theorem bCn (lf : Nat) (kind : Int) (off : Int) (r0 : List AObj) (X : AObj) :
    (runB lf) (HBn kind off r0 X) = some (Ex.exit 0, ({ ts := [vi kind, vi off, Value.slice none 0 0, undef, undef, undef, Value.nilIface, Value.slice none 0 0, vf 70 (pt 18), Value.slice none 0 0, undef, undef, junk, junk, junk, Value.slice none 0 0, vi 0, vi 0, vb false, junk, junk, junk, junk, junk, junk, junk, junk, junk, junk, junk, junk, junk, junk, junk, junk], H := (kpH0 kind off r0 X), log := [] } : St)) :=
  Dg.evCode_hint (f := 17) (hs' := []) (hs := [])
    [] (by kernel_rfl)
    trivial
--> bCn
--< bW0
theorem bW0 (lf : Nat) (kind : Int) (off : Int) (r0 : List AObj) (ys : List Value) (e : Nat) (l : Nat) (cap : Nat) (hk : kind ≠ 0) (hl : ∀ (s0 : St), clB s0 = HB0 kind off r0 ys e l cap → evLoop (runB lf) clB lf s0 = some (Ex.exit 0, EB0 kind off r0 ys e l cap)) :
    evB lf 19 17 [vi kind, vi off, aW l cap] (hZ ys e r0) = some (Value.tuple { toList := [vf 70 (pt 18), Value.slice none 0 0] }, (kpH0 kind off r0 (oW ys e)), []) :=
  Dg.evCall_hint (hs' := []) (hs := [qv 24 6 (vb false),
    Hint.loop 17 (Ex.exit 0) (EB0 kind off r0 ys e l cap)])
    [vb (kind == (0 : Int)) = vb false,
    evLoop (runB lf) clB lf { ts := [vi kind, vi off, aW l cap, undef, undef, undef, Value.nilIface, Value.slice none 0 0, vf 70 (pt 18), Value.slice none 0 0, undef, undef, vi kind, vi off, vf 70 (pt 18), aW l cap, vi (↑l : Int), vi 0, undef, undef, undef, undef, undef, undef, undef, undef, undef, undef, undef, undef, undef, undef, undef, undef, undef], H := (kpH0 kind off r0 (oW ys e)), log := [] } = some (Ex.exit 0, EB0 kind off r0 ys e l cap)] (by kernel_rfl)
    ⟨Dg.vfalse (by omega), hl _ (by kernel_rfl), trivial⟩
--> bW0
--< bW1
theorem bW1 (lf : Nat) (kind : Int) (off : Int) (r0 : List AObj) (ys : List Value) (e : Nat) (l : Nat) (cap : Nat) (j : Int) (w : ByteArray) (w1 : ByteArray) (hk : kind ≠ 0) (hl : ∀ (s0 : St), clB s0 = HB0 kind off r0 ys e l cap → evLoop (runB lf) clB lf s0 = some (Ex.exit 0, EB1 kind off r0 ys e l cap (↑l : Int) j w w1)) :
    evB lf 19 17 [vi kind, vi off, aW l cap] (hZ ys e r0) = some (Value.tuple { toList := [vf 67 (pt 18), sq 20 1 1] }, (kpH1 kind off r0 (oW ys e) w1), []) :=
  Dg.evCall_hint (hs' := []) (hs := [qv 24 6 (vb false),
    Hint.loop 17 (Ex.exit 0) (EB1 kind off r0 ys e l cap (↑l : Int) j w w1)])
    [vb (kind == (0 : Int)) = vb false,
    evLoop (runB lf) clB lf { ts := [vi kind, vi off, aW l cap, undef, undef, undef, Value.nilIface, Value.slice none 0 0, vf 70 (pt 18), Value.slice none 0 0, undef, undef, vi kind, vi off, vf 70 (pt 18), aW l cap, vi (↑l : Int), vi 0, undef, undef, undef, undef, undef, undef, undef, undef, undef, undef, undef, undef, undef, undef, undef, undef, undef], H := (kpH0 kind off r0 (oW ys e)), log := [] } = some (Ex.exit 0, EB1 kind off r0 ys e l cap (↑l : Int) j w w1)] (by kernel_rfl)
    ⟨Dg.vfalse (by omega), hl _ (by kernel_rfl), trivial⟩
--> bW1
--< bW2
theorem bW2 (lf : Nat) (kind : Int) (off : Int) (r0 : List AObj) (ys : List Value) (e : Nat) (l : Nat) (cap : Nat) (j : Int) (w : ByteArray) (w1 : ByteArray) (w2 : ByteArray) (hk : kind ≠ 0) (hl : ∀ (s0 : St), clB s0 = HB0 kind off r0 ys e l cap → evLoop (runB lf) clB lf s0 = some (Ex.exit 0, EB2 kind off r0 ys e l cap (↑l : Int) j w w1 w2)) :
    evB lf 19 17 [vi kind, vi off, aW l cap] (hZ ys e r0) = some (Value.tuple { toList := [vf 67 (pt 18), sp 21 2 2] }, (kpH2 kind off r0 (oW ys e) w1 w2), []) :=
  Dg.evCall_hint (hs' := []) (hs := [qv 24 6 (vb false),
    Hint.loop 17 (Ex.exit 0) (EB2 kind off r0 ys e l cap (↑l : Int) j w w1 w2)])
    [vb (kind == (0 : Int)) = vb false,
    evLoop (runB lf) clB lf { ts := [vi kind, vi off, aW l cap, undef, undef, undef, Value.nilIface, Value.slice none 0 0, vf 70 (pt 18), Value.slice none 0 0, undef, undef, vi kind, vi off, vf 70 (pt 18), aW l cap, vi (↑l : Int), vi 0, undef, undef, undef, undef, undef, undef, undef, undef, undef, undef, undef, undef, undef, undef, undef, undef, undef], H := (kpH0 kind off r0 (oW ys e)), log := [] } = some (Ex.exit 0, EB2 kind off r0 ys e l cap (↑l : Int) j w w1 w2)] (by kernel_rfl)
    ⟨Dg.vfalse (by omega), hl _ (by kernel_rfl), trivial⟩
--> bW2
--< bW3
theorem bW3 (lf : Nat) (kind : Int) (off : Int) (r0 : List AObj) (ys : List Value) (e : Nat) (l : Nat) (cap : Nat) (j : Int) (w : ByteArray) (w1 : ByteArray) (w2 : ByteArray) (w3 : ByteArray) (hk : kind ≠ 0) (hl : ∀ (s0 : St), clB s0 = HB0 kind off r0 ys e l cap → evLoop (runB lf) clB lf s0 = some (Ex.exit 0, EB3 kind off r0 ys e l cap (↑l : Int) j w w1 w2 w3)) :
    evB lf 19 17 [vi kind, vi off, aW l cap] (hZ ys e r0) = some (Value.tuple { toList := [vf 67 (pt 18), sp 22 3 3] }, (kpH3 kind off r0 (oW ys e) w1 w2 w3), []) :=
  Dg.evCall_hint (hs' := []) (hs := [qv 24 6 (vb false),
    Hint.loop 17 (Ex.exit 0) (EB3 kind off r0 ys e l cap (↑l : Int) j w w1 w2 w3)])
    [vb (kind == (0 : Int)) = vb false,
    evLoop (runB lf) clB lf { ts := [vi kind, vi off, aW l cap, undef, undef, undef, Value.nilIface, Value.slice none 0 0, vf 70 (pt 18), Value.slice none 0 0, undef, undef, vi kind, vi off, vf 70 (pt 18), aW l cap, vi (↑l : Int), vi 0, undef, undef, undef, undef, undef, undef, undef, undef, undef, undef, undef, undef, undef, undef, undef, undef, undef], H := (kpH0 kind off r0 (oW ys e)), log := [] } = some (Ex.exit 0, EB3 kind off r0 ys e l cap (↑l : Int) j w w1 w2 w3)] (by kernel_rfl)
    ⟨Dg.vfalse (by omega), hl _ (by kernel_rfl), trivial⟩
--> bW3
--< bW4
theorem bW4 (lf : Nat) (kind : Int) (off : Int) (r0 : List AObj) (ys : List Value) (e : Nat) (l : Nat) (cap : Nat) (j : Int) (w : ByteArray) (w1 : ByteArray) (w2 : ByteArray) (w3 : ByteArray) (w4 : ByteArray) (hk : kind ≠ 0) (hl : ∀ (s0 : St), clB s0 = HB0 kind off r0 ys e l cap → evLoop (runB lf) clB lf s0 = some (Ex.exit 0, EB4 kind off r0 ys e l cap (↑l : Int) j w w1 w2 w3 w4)) :
    evB lf 19 17 [vi kind, vi off, aW l cap] (hZ ys e r0) = some (Value.tuple { toList := [vf 67 (pt 18), sp 23 4 4] }, (kpH4 kind off r0 (oW ys e) w1 w2 w3 w4), []) :=
  Dg.evCall_hint (hs' := []) (hs := [qv 24 6 (vb false),
    Hint.loop 17 (Ex.exit 0) (EB4 kind off r0 ys e l cap (↑l : Int) j w w1 w2 w3 w4)])
    [vb (kind == (0 : Int)) = vb false,
    evLoop (runB lf) clB lf { ts := [vi kind, vi off, aW l cap, undef, undef, undef, Value.nilIface, Value.slice none 0 0, vf 70 (pt 18), Value.slice none 0 0, undef, undef, vi kind, vi off, vf 70 (pt 18), aW l cap, vi (↑l : Int), vi 0, undef, undef, undef, undef, undef, undef, undef, undef, undef, undef, undef, undef, undef, undef, undef, undef, undef], H := (kpH0 kind off r0 (oW ys e)), log := [] } = some (Ex.exit 0, EB4 kind off r0 ys e l cap (↑l : Int) j w w1 w2 w3 w4)] (by kernel_rfl)
    ⟨Dg.vfalse (by omega), hl _ (by kernel_rfl), trivial⟩
--> bW4
--< bW5
theorem bW5 (lf : Nat) (kind : Int) (off : Int) (r0 : List AObj) (ys : List Value) (e : Nat) (l : Nat) (cap : Nat) (j : Int) (w : ByteArray) (w1 : ByteArray) (w2 : ByteArray) (w3 : ByteArray) (w4 : ByteArray) (w5 : ByteArray) (hk : kind ≠ 0) (hl : ∀ (s0 : St), clB s0 = HB0 kind off r0 ys e l cap → evLoop (runB lf) clB lf s0 = some (Ex.exit 0, EB5 kind off r0 ys e l cap (↑l : Int) j w w1 w2 w3 w4 w5)) :
    evB lf 19 17 [vi kind, vi off, aW l cap] (hZ ys e r0) = some (Value.tuple { toList := [vf 67 (pt 18), sp 24 5 5] }, (kpH5 kind off r0 (oW ys e) w1 w2 w3 w4 w5), []) :=
  Dg.evCall_hint (hs' := []) (hs := [qv 24 6 (vb false),
    Hint.loop 17 (Ex.exit 0) (EB5 kind off r0 ys e l cap (↑l : Int) j w w1 w2 w3 w4 w5)])
    [vb (kind == (0 : Int)) = vb false,
    evLoop (runB lf) clB lf { ts := [vi kind, vi off, aW l cap, undef, undef, undef, Value.nilIface, Value.slice none 0 0, vf 70 (pt 18), Value.slice none 0 0, undef, undef, vi kind, vi off, vf 70 (pt 18), aW l cap, vi (↑l : Int), vi 0, undef, undef, undef, undef, undef, undef, undef, undef, undef, undef, undef, undef, undef, undef, undef, undef, undef], H := (kpH0 kind off r0 (oW ys e)), log := [] } = some (Ex.exit 0, EB5 kind off r0 ys e l cap (↑l : Int) j w w1 w2 w3 w4 w5)] (by kernel_rfl)
    ⟨Dg.vfalse (by omega), hl _ (by kernel_rfl), trivial⟩
--> bW5
--< bW6
theorem bW6 (lf : Nat) (kind : Int) (off : Int) (r0 : List AObj) (ys : List Value) (e : Nat) (l : Nat) (cap : Nat) (j : Int) (w : ByteArray) (w1 : ByteArray) (w2 : ByteArray) (w3 : ByteArray) (w4 : ByteArray) (w5 : ByteArray) (w6 : ByteArray) (hk : kind ≠ 0) (hl : ∀ (s0 : St), clB s0 = HB0 kind off r0 ys e l cap → evLoop (runB lf) clB lf s0 = some (Ex.exit 0, EB6 kind off r0 ys e l cap (↑l : Int) j w w1 w2 w3 w4 w5 w6)) :
    evB lf 19 17 [vi kind, vi off, aW l cap] (hZ ys e r0) = some (Value.tuple { toList := [vf 67 (pt 18), sp 25 6 6] }, (kpH6 kind off r0 (oW ys e) w1 w2 w3 w4 w5 w6), []) :=
  Dg.evCall_hint (hs' := []) (hs := [qv 24 6 (vb false),
    Hint.loop 17 (Ex.exit 0) (EB6 kind off r0 ys e l cap (↑l : Int) j w w1 w2 w3 w4 w5 w6)])
    [vb (kind == (0 : Int)) = vb false,
    evLoop (runB lf) clB lf { ts := [vi kind, vi off, aW l cap, undef, undef, undef, Value.nilIface, Value.slice none 0 0, vf 70 (pt 18), Value.slice none 0 0, undef, undef, vi kind, vi off, vf 70 (pt 18), aW l cap, vi (↑l : Int), vi 0, undef, undef, undef, undef, undef, undef, undef, undef, undef, undef, undef, undef, undef, undef, undef, undef, undef], H := (kpH0 kind off r0 (oW ys e)), log := [] } = some (Ex.exit 0, EB6 kind off r0 ys e l cap (↑l : Int) j w w1 w2 w3 w4 w5 w6)] (by kernel_rfl)
    ⟨Dg.vfalse (by omega), hl _ (by kernel_rfl), trivial⟩
--> bW6
--< bW7
theorem bW7 (lf : Nat) (kind : Int) (off : Int) (r0 : List AObj) (ys : List Value) (e : Nat) (l : Nat) (cap : Nat) (j : Int) (w : ByteArray) (w1 : ByteArray) (w2 : ByteArray) (w3 : ByteArray) (w4 : ByteArray) (w5 : ByteArray) (w6 : ByteArray) (w7 : ByteArray) (hk : kind ≠ 0) (hl : ∀ (s0 : St), clB s0 = HB0 kind off r0 ys e l cap → evLoop (runB lf) clB lf s0 = some (Ex.exit 0, EB7 kind off r0 ys e l cap (↑l : Int) j w w1 w2 w3 w4 w5 w6 w7)) :
    evB lf 19 17 [vi kind, vi off, aW l cap] (hZ ys e r0) = some (Value.tuple { toList := [vf 67 (pt 18), sp 26 7 7] }, (kpH7 kind off r0 (oW ys e) w1 w2 w3 w4 w5 w6 w7), []) :=
  Dg.evCall_hint (hs' := []) (hs := [qv 24 6 (vb false),
    Hint.loop 17 (Ex.exit 0) (EB7 kind off r0 ys e l cap (↑l : Int) j w w1 w2 w3 w4 w5 w6 w7)])
    [vb (kind == (0 : Int)) = vb false,
    evLoop (runB lf) clB lf { ts := [vi kind, vi off, aW l cap, undef, undef, undef, Value.nilIface, Value.slice none 0 0, vf 70 (pt 18), Value.slice none 0 0, undef, undef, vi kind, vi off, vf 70 (pt 18), aW l cap, vi (↑l : Int), vi 0, undef, undef, undef, undef, undef, undef, undef, undef, undef, undef, undef, undef, undef, undef, undef, undef, undef], H := (kpH0 kind off r0 (oW ys e)), log := [] } = some (Ex.exit 0, EB7 kind off r0 ys e l cap (↑l : Int) j w w1 w2 w3 w4 w5 w6 w7)] (by kernel_rfl)
    ⟨Dg.vfalse (by omega), hl _ (by kernel_rfl), trivial⟩
--> bW7
--< bW8
theorem bW8 (lf : Nat) (kind : Int) (off : Int) (r0 : List AObj) (ys : List Value) (e : Nat) (l : Nat) (cap : Nat) (j : Int) (w : ByteArray) (w1 : ByteArray) (w2 : ByteArray) (w3 : ByteArray) (w4 : ByteArray) (w5 : ByteArray) (w6 : ByteArray) (w7 : ByteArray) (w8 : ByteArray) (hk : kind ≠ 0) (hl : ∀ (s0 : St), clB s0 = HB0 kind off r0 ys e l cap → evLoop (runB lf) clB lf s0 = some (Ex.exit 0, EB8 kind off r0 ys e l cap (↑l : Int) j w w1 w2 w3 w4 w5 w6 w7 w8)) :
    evB lf 19 17 [vi kind, vi off, aW l cap] (hZ ys e r0) = some (Value.tuple { toList := [vf 67 (pt 18), sp 27 8 8] }, (kpH8 kind off r0 (oW ys e) w1 w2 w3 w4 w5 w6 w7 w8), []) :=
  Dg.evCall_hint (hs' := []) (hs := [qv 24 6 (vb false),
    Hint.loop 17 (Ex.exit 0) (EB8 kind off r0 ys e l cap (↑l : Int) j w w1 w2 w3 w4 w5 w6 w7 w8)])
    [vb (kind == (0 : Int)) = vb false,
    evLoop (runB lf) clB lf { ts := [vi kind, vi off, aW l cap, undef, undef, undef, Value.nilIface, Value.slice none 0 0, vf 70 (pt 18), Value.slice none 0 0, undef, undef, vi kind, vi off, vf 70 (pt 18), aW l cap, vi (↑l : Int), vi 0, undef, undef, undef, undef, undef, undef, undef, undef, undef, undef, undef, undef, undef, undef, undef, undef, undef], H := (kpH0 kind off r0 (oW ys e)), log := [] } = some (Ex.exit 0, EB8 kind off r0 ys e l cap (↑l : Int) j w w1 w2 w3 w4 w5 w6 w7 w8)] (by kernel_rfl)
    ⟨Dg.vfalse (by omega), hl _ (by kernel_rfl), trivial⟩
--> bW8
--< bWn
theorem bWn (lf : Nat) (kind : Int) (off : Int) (r0 : List AObj) (X : AObj) (hk : kind ≠ 0) (hl : ∀ (s0 : St), clB s0 = HBn kind off r0 X → evLoop (runB lf) clB lf s0 = some (Ex.exit 0, EBn kind off r0 X)) :
    evB lf 19 17 [vi kind, vi off, Value.slice none 0 0] { n := 18, objs := X :: r0 } = some (Value.tuple { toList := [vf 70 (pt 18), Value.slice none 0 0] }, (kpH0 kind off r0 X), []) :=
  Dg.evCall_hint (hs' := []) (hs := [qv 24 6 (vb false),
    Hint.loop 17 (Ex.exit 0) (EBn kind off r0 X)])
    [vb (kind == (0 : Int)) = vb false,
    evLoop (runB lf) clB lf { ts := [vi kind, vi off, Value.slice none 0 0, undef, undef, undef, Value.nilIface, Value.slice none 0 0, vf 70 (pt 18), Value.slice none 0 0, undef, undef, vi kind, vi off, vf 70 (pt 18), Value.slice none 0 0, vi 0, vi 0, undef, undef, undef, undef, undef, undef, undef, undef, undef, undef, undef, undef, undef, undef, undef, undef, undef], H := (kpH0 kind off r0 X), log := [] } = some (Ex.exit 0, EBn kind off r0 X)] (by kernel_rfl)
    ⟨Dg.vfalse (by omega), hl _ (by kernel_rfl), trivial⟩
--> bWn
--< bzR0
theorem bzR0 (lf : Nat) (kind : Int) (off : Int) (r0 : List AObj) (ys : List Value) (e : Nat) (l : Nat) (cap : Nat) (w : ByteArray) (v : ByteArray) (hw : ys[0]? = some (vs w)) (hi : 0 < l) (hl : l ≤ 20) (hc : evB lf 18 10 [Value.nilIface, vs w] (hZ ys e r0) = some (Value.nilIface, (hZ ys e r0), [])) (h33 : ∀ (H : Heap), evB lf 18 33 [vs w] H = some (vs v, H, [])) :
    ∃ s', (runB lf) (HBz0 kind off r0 ys e l cap) = some (Ex.normal, s') ∧ clB s' = HBz1 kind off r0 ys e l cap 1 0 w v :=
  Dg.code_round (f := 17) clB (hs := [qv 17 18 (vb true),
    qs 17 20 (pt 17),
    qs 17 21 (vs w),
    qc 10 Value.nilIface (hZ ys e r0) [],
    qc 33 (vs v) dH []])
    [vb (decide ((0 : Int) < (↑l : Int))) = vb true,
    (0 : Int) ≤ (0 : Int) ∧ (0 : Int) < (↑l : Int),
    Value.pointer (some { block := (17 : Nat), off := (0 : Nat) }) = Value.pointer (some { block := (17 : Nat), off := (0 : Nat) }),
    ys[(0 : Nat)]? = some (vs w),
    evB lf 18 10 [Value.nilIface, vs w] (hZ ys e r0) = some (Value.nilIface, (hZ ys e r0), []),
    evB lf 18 33 [vs w] dH = some (vs v, dH, [])] (by kernel_rfl)
    ⟨Dg.vtrue (by omega), by omega, rfl, hw, hc, h33 _, trivial⟩
--> bzR0
--< bzR1
theorem bzR1 (lf : Nat) (kind : Int) (off : Int) (r0 : List AObj) (ys : List Value) (e : Nat) (l : Nat) (cap : Nat) (pw : ByteArray) (w1 : ByteArray) (w : ByteArray) (v : ByteArray) (hw : ys[1]? = some (vs w)) (hi : 1 < l) (hl : l ≤ 20) (hc : evB lf 18 10 [Value.nilIface, vs w] { n := 19, objs := ob [vs w1] 9 4 1 :: oW ys e :: r0 } = some (Value.nilIface, { n := 19, objs := ob [vs w1] 9 4 1 :: oW ys e :: r0 }, [])) (h33 : ∀ (H : Heap), evB lf 18 33 [vs w] H = some (vs v, H, [])) :
    ∃ s', (runB lf) (HBz1 kind off r0 ys e l cap 1 0 pw w1) = some (Ex.normal, s') ∧ clB s' = HBz2 kind off r0 ys e l cap 2 1 w w1 v :=
  Dg.code_round (f := 17) clB (hs := [qv 17 18 (vb true),
    qs 17 20 (po 17 (1)),
    qs 17 21 (vs w),
    qc 10 Value.nilIface { n := 19, objs := ob [vs w1] 9 4 1 :: ob ys e 6 1 :: r0 } [],
    qc 33 (vs v) dH []])
    [vb (decide ((1 : Int) < (↑l : Int))) = vb true,
    (0 : Int) ≤ (1 : Int) ∧ (1 : Int) < (↑l : Int),
    Value.pointer (some { block := (17 : Nat), off := (1 : Nat) }) = Value.pointer (some { block := (17 : Nat), off := (1 : Nat) }),
    ys[(1 : Nat)]? = some (vs w),
    evB lf 18 10 [Value.nilIface, vs w] { n := 19, objs := ob [vs w1] 9 4 1 :: ob ys e 6 1 :: r0 } = some (Value.nilIface, { n := 19, objs := ob [vs w1] 9 4 1 :: ob ys e 6 1 :: r0 }, []),
    evB lf 18 33 [vs w] dH = some (vs v, dH, [])] (by kernel_rfl)
    ⟨Dg.vtrue (by omega), by omega, rfl, hw, hc, h33 _, trivial⟩
--> bzR1
--< bzR2
theorem bzR2 (lf : Nat) (kind : Int) (off : Int) (r0 : List AObj) (ys : List Value) (e : Nat) (l : Nat) (cap : Nat) (pw : ByteArray) (w1 : ByteArray) (w2 : ByteArray) (w : ByteArray) (v : ByteArray) (hw : ys[2]? = some (vs w)) (hi : 2 < l) (hl : l ≤ 20) (hc : evB lf 18 10 [Value.nilIface, vs w] { n := 19, objs := ob [vs w2, vs w1] 9 5 1 :: oW ys e :: r0 } = some (Value.nilIface, { n := 19, objs := ob [vs w2, vs w1] 9 5 1 :: oW ys e :: r0 }, [])) (h33 : ∀ (H : Heap), evB lf 18 33 [vs w] H = some (vs v, H, [])) :
    ∃ s', (runB lf) (HBz2 kind off r0 ys e l cap 2 1 pw w1 w2) = some (Ex.normal, s') ∧ clB s' = HBz3 kind off r0 ys e l cap 3 2 w w1 w2 v :=
  Dg.code_round (f := 17) clB (hs := [qv 17 18 (vb true),
    qs 17 20 (po 17 (2)),
    qs 17 21 (vs w),
    qc 10 Value.nilIface { n := 19, objs := ob [vs w2, vs w1] 9 5 1 :: ob ys e 6 1 :: r0 } [],
    qc 33 (vs v) dH []])
    [vb (decide ((2 : Int) < (↑l : Int))) = vb true,
    (0 : Int) ≤ (2 : Int) ∧ (2 : Int) < (↑l : Int),
    Value.pointer (some { block := (17 : Nat), off := (2 : Nat) }) = Value.pointer (some { block := (17 : Nat), off := (2 : Nat) }),
    ys[(2 : Nat)]? = some (vs w),
    evB lf 18 10 [Value.nilIface, vs w] { n := 19, objs := ob [vs w2, vs w1] 9 5 1 :: ob ys e 6 1 :: r0 } = some (Value.nilIface, { n := 19, objs := ob [vs w2, vs w1] 9 5 1 :: ob ys e 6 1 :: r0 }, []),
    evB lf 18 33 [vs w] dH = some (vs v, dH, [])] (by kernel_rfl)
    ⟨Dg.vtrue (by omega), by omega, rfl, hw, hc, h33 _, trivial⟩
--> bzR2
--< bzR3
theorem bzR3 (lf : Nat) (kind : Int) (off : Int) (r0 : List AObj) (ys : List Value) (e : Nat) (l : Nat) (cap : Nat) (pw : ByteArray) (w1 : ByteArray) (w2 : ByteArray) (w3 : ByteArray) (w : ByteArray) (v : ByteArray) (hw : ys[3]? = some (vs w)) (hi : 3 < l) (hl : l ≤ 20) (hc : evB lf 18 10 [Value.nilIface, vs w] { n := 19, objs := ob [vs w3, vs w2, vs w1] 9 5 1 :: oW ys e :: r0 } = some (Value.nilIface, { n := 19, objs := ob [vs w3, vs w2, vs w1] 9 5 1 :: oW ys e :: r0 }, [])) (h33 : ∀ (H : Heap), evB lf 18 33 [vs w] H = some (vs v, H, [])) :
    ∃ s', (runB lf) (HBz3 kind off r0 ys e l cap 3 2 pw w1 w2 w3) = some (Ex.normal, s') ∧ clB s' = HBz4 kind off r0 ys e l cap 4 3 w w1 w2 w3 v :=
  Dg.code_round (f := 17) clB (hs := [qv 17 18 (vb true),
    qs 17 20 (po 17 (3)),
    qs 17 21 (vs w),
    qc 10 Value.nilIface { n := 19, objs := ob [vs w3, vs w2, vs w1] 9 5 1 :: ob ys e 6 1 :: r0 } [],
    qc 33 (vs v) dH []])
    [vb (decide ((3 : Int) < (↑l : Int))) = vb true,
    (0 : Int) ≤ (3 : Int) ∧ (3 : Int) < (↑l : Int),
    Value.pointer (some { block := (17 : Nat), off := (3 : Nat) }) = Value.pointer (some { block := (17 : Nat), off := (3 : Nat) }),
    ys[(3 : Nat)]? = some (vs w),
    evB lf 18 10 [Value.nilIface, vs w] { n := 19, objs := ob [vs w3, vs w2, vs w1] 9 5 1 :: ob ys e 6 1 :: r0 } = some (Value.nilIface, { n := 19, objs := ob [vs w3, vs w2, vs w1] 9 5 1 :: ob ys e 6 1 :: r0 }, []),
    evB lf 18 33 [vs w] dH = some (vs v, dH, [])] (by kernel_rfl)
    ⟨Dg.vtrue (by omega), by omega, rfl, hw, hc, h33 _, trivial⟩
--> bzR3
--< bzR4
theorem bzR4 (lf : Nat) (kind : Int) (off : Int) (r0 : List AObj) (ys : List Value) (e : Nat) (l : Nat) (cap : Nat) (pw : ByteArray) (w1 : ByteArray) (w2 : ByteArray) (w3 : ByteArray) (w4 : ByteArray) (w : ByteArray) (v : ByteArray) (hw : ys[4]? = some (vs w)) (hi : 4 < l) (hl : l ≤ 20) (hc : evB lf 18 10 [Value.nilIface, vs w] { n := 19, objs := ob [vs w4, vs w3, vs w2, vs w1] 9 5 1 :: oW ys e :: r0 } = some (Value.nilIface, { n := 19, objs := ob [vs w4, vs w3, vs w2, vs w1] 9 5 1 :: oW ys e :: r0 }, [])) (h33 : ∀ (H : Heap), evB lf 18 33 [vs w] H = some (vs v, H, [])) :
    ∃ s', (runB lf) (HBz4 kind off r0 ys e l cap 4 3 pw w1 w2 w3 w4) = some (Ex.normal, s') ∧ clB s' = HBz5 kind off r0 ys e l cap 5 4 w w1 w2 w3 w4 v :=
  Dg.code_round (f := 17) clB (hs := [qv 17 18 (vb true),
    qs 17 20 (po 17 (4)),
    qs 17 21 (vs w),
    qc 10 Value.nilIface { n := 19, objs := ob [vs w4, vs w3, vs w2, vs w1] 9 5 1 :: ob ys e 6 1 :: r0 } [],
    qc 33 (vs v) dH []])
    [vb (decide ((4 : Int) < (↑l : Int))) = vb true,
    (0 : Int) ≤ (4 : Int) ∧ (4 : Int) < (↑l : Int),
    Value.pointer (some { block := (17 : Nat), off := (4 : Nat) }) = Value.pointer (some { block := (17 : Nat), off := (4 : Nat) }),
    ys[(4 : Nat)]? = some (vs w),
    evB lf 18 10 [Value.nilIface, vs w] { n := 19, objs := ob [vs w4, vs w3, vs w2, vs w1] 9 5 1 :: ob ys e 6 1 :: r0 } = some (Value.nilIface, { n := 19, objs := ob [vs w4, vs w3, vs w2, vs w1] 9 5 1 :: ob ys e 6 1 :: r0 }, []),
    evB lf 18 33 [vs w] dH = some (vs v, dH, [])] (by kernel_rfl)
    ⟨Dg.vtrue (by omega), by omega, rfl, hw, hc, h33 _, trivial⟩
--> bzR4
--< bzR5
theorem bzR5 (lf : Nat) (kind : Int) (off : Int) (r0 : List AObj) (ys : List Value) (e : Nat) (l : Nat) (cap : Nat) (pw : ByteArray) (w1 : ByteArray) (w2 : ByteArray) (w3 : ByteArray) (w4 : ByteArray) (w5 : ByteArray) (w : ByteArray) (v : ByteArray) (hw : ys[5]? = some (vs w)) (hi : 5 < l) (hl : l ≤ 20) (hc : evB lf 18 10 [Value.nilIface, vs w] { n := 19, objs := ob [vs w5, vs w4, vs w3, vs w2, vs w1] 9 5 1 :: oW ys e :: r0 } = some (Value.nilIface, { n := 19, objs := ob [vs w5, vs w4, vs w3, vs w2, vs w1] 9 5 1 :: oW ys e :: r0 }, [])) (h33 : ∀ (H : Heap), evB lf 18 33 [vs w] H = some (vs v, H, [])) :
    ∃ s', (runB lf) (HBz5 kind off r0 ys e l cap 5 4 pw w1 w2 w3 w4 w5) = some (Ex.normal, s') ∧ clB s' = HBz6 kind off r0 ys e l cap 6 5 w w1 w2 w3 w4 w5 v :=
  Dg.code_round (f := 17) clB (hs := [qv 17 18 (vb true),
    qs 17 20 (po 17 (5)),
    qs 17 21 (vs w),
    qc 10 Value.nilIface { n := 19, objs := ob [vs w5, vs w4, vs w3, vs w2, vs w1] 9 5 1 :: ob ys e 6 1 :: r0 } [],
    qc 33 (vs v) dH []])
    [vb (decide ((5 : Int) < (↑l : Int))) = vb true,
    (0 : Int) ≤ (5 : Int) ∧ (5 : Int) < (↑l : Int),
    Value.pointer (some { block := (17 : Nat), off := (5 : Nat) }) = Value.pointer (some { block := (17 : Nat), off := (5 : Nat) }),
    ys[(5 : Nat)]? = some (vs w),
    evB lf 18 10 [Value.nilIface, vs w] { n := 19, objs := ob [vs w5, vs w4, vs w3, vs w2, vs w1] 9 5 1 :: ob ys e 6 1 :: r0 } = some (Value.nilIface, { n := 19, objs := ob [vs w5, vs w4, vs w3, vs w2, vs w1] 9 5 1 :: ob ys e 6 1 :: r0 }, []),
    evB lf 18 33 [vs w] dH = some (vs v, dH, [])] (by kernel_rfl)
    ⟨Dg.vtrue (by omega), by omega, rfl, hw, hc, h33 _, trivial⟩
--> bzR5
--< bzR6
theorem bzR6 (lf : Nat) (kind : Int) (off : Int) (r0 : List AObj) (ys : List Value) (e : Nat) (l : Nat) (cap : Nat) (pw : ByteArray) (w1 : ByteArray) (w2 : ByteArray) (w3 : ByteArray) (w4 : ByteArray) (w5 : ByteArray) (w6 : ByteArray) (w : ByteArray) (v : ByteArray) (hw : ys[6]? = some (vs w)) (hi : 6 < l) (hl : l ≤ 20) (hc : evB lf 18 10 [Value.nilIface, vs w] { n := 19, objs := ob [vs w6, vs w5, vs w4, vs w3, vs w2, vs w1] 9 5 1 :: oW ys e :: r0 } = some (Value.nilIface, { n := 19, objs := ob [vs w6, vs w5, vs w4, vs w3, vs w2, vs w1] 9 5 1 :: oW ys e :: r0 }, [])) (h33 : ∀ (H : Heap), evB lf 18 33 [vs w] H = some (vs v, H, [])) :
    ∃ s', (runB lf) (HBz6 kind off r0 ys e l cap 6 5 pw w1 w2 w3 w4 w5 w6) = some (Ex.normal, s') ∧ clB s' = HBz7 kind off r0 ys e l cap 7 6 w w1 w2 w3 w4 w5 w6 v :=
  Dg.code_round (f := 17) clB (hs := [qv 17 18 (vb true),
    qs 17 20 (po 17 (6)),
    qs 17 21 (vs w),
    qc 10 Value.nilIface { n := 19, objs := ob [vs w6, vs w5, vs w4, vs w3, vs w2, vs w1] 9 5 1 :: ob ys e 6 1 :: r0 } [],
    qc 33 (vs v) dH []])
    [vb (decide ((6 : Int) < (↑l : Int))) = vb true,
    (0 : Int) ≤ (6 : Int) ∧ (6 : Int) < (↑l : Int),
    Value.pointer (some { block := (17 : Nat), off := (6 : Nat) }) = Value.pointer (some { block := (17 : Nat), off := (6 : Nat) }),
    ys[(6 : Nat)]? = some (vs w),
    evB lf 18 10 [Value.nilIface, vs w] { n := 19, objs := ob [vs w6, vs w5, vs w4, vs w3, vs w2, vs w1] 9 5 1 :: ob ys e 6 1 :: r0 } = some (Value.nilIface, { n := 19, objs := ob [vs w6, vs w5, vs w4, vs w3, vs w2, vs w1] 9 5 1 :: ob ys e 6 1 :: r0 }, []),
    evB lf 18 33 [vs w] dH = some (vs v, dH, [])] (by kernel_rfl)
    ⟨Dg.vtrue (by omega), by omega, rfl, hw, hc, h33 _, trivial⟩
--> bzR6
--< bzR7
theorem bzR7 (lf : Nat) (kind : Int) (off : Int) (r0 : List AObj) (ys : List Value) (e : Nat) (l : Nat) (cap : Nat) (pw : ByteArray) (w1 : ByteArray) (w2 : ByteArray) (w3 : ByteArray) (w4 : ByteArray) (w5 : ByteArray) (w6 : ByteArray) (w7 : ByteArray) (w : ByteArray) (v : ByteArray) (hw : ys[7]? = some (vs w)) (hi : 7 < l) (hl : l ≤ 20) (hc : evB lf 18 10 [Value.nilIface, vs w] { n := 19, objs := ob [vs w7, vs w6, vs w5, vs w4, vs w3, vs w2, vs w1] 9 5 1 :: oW ys e :: r0 } = some (Value.nilIface, { n := 19, objs := ob [vs w7, vs w6, vs w5, vs w4, vs w3, vs w2, vs w1] 9 5 1 :: oW ys e :: r0 }, [])) (h33 : ∀ (H : Heap), evB lf 18 33 [vs w] H = some (vs v, H, [])) :
    ∃ s', (runB lf) (HBz7 kind off r0 ys e l cap 7 6 pw w1 w2 w3 w4 w5 w6 w7) = some (Ex.normal, s') ∧ clB s' = HBz8 kind off r0 ys e l cap 8 7 w w1 w2 w3 w4 w5 w6 w7 v :=
  Dg.code_round (f := 17) clB (hs := [qv 17 18 (vb true),
    qs 17 20 (po 17 (7)),
    qs 17 21 (vs w),
    qc 10 Value.nilIface { n := 19, objs := ob [vs w7, vs w6, vs w5, vs w4, vs w3, vs w2, vs w1] 9 5 1 :: ob ys e 6 1 :: r0 } [],
    qc 33 (vs v) dH []])
    [vb (decide ((7 : Int) < (↑l : Int))) = vb true,
    (0 : Int) ≤ (7 : Int) ∧ (7 : Int) < (↑l : Int),
    Value.pointer (some { block := (17 : Nat), off := (7 : Nat) }) = Value.pointer (some { block := (17 : Nat), off := (7 : Nat) }),
    ys[(7 : Nat)]? = some (vs w),
    evB lf 18 10 [Value.nilIface, vs w] { n := 19, objs := ob [vs w7, vs w6, vs w5, vs w4, vs w3, vs w2, vs w1] 9 5 1 :: ob ys e 6 1 :: r0 } = some (Value.nilIface, { n := 19, objs := ob [vs w7, vs w6, vs w5, vs w4, vs w3, vs w2, vs w1] 9 5 1 :: ob ys e 6 1 :: r0 }, []),
    evB lf 18 33 [vs w] dH = some (vs v, dH, [])] (by kernel_rfl)
    ⟨Dg.vtrue (by omega), by omega, rfl, hw, hc, h33 _, trivial⟩
--> bzR7
--< bzR8
theorem bzR8 (lf : Nat) (kind : Int) (off : Int) (r0 : List AObj) (ys : List Value) (e : Nat) (l : Nat) (cap : Nat) (i : Nat) (j : Int) (pw : ByteArray) (w1 : ByteArray) (w2 : ByteArray) (w3 : ByteArray) (w4 : ByteArray) (w5 : ByteArray) (w6 : ByteArray) (w7 : ByteArray) (w8 : ByteArray) (w : ByteArray) (hw : ys[i]? = some (vs w)) (h8 : 8 ≤ i) (hi : i < l) (hl : l ≤ 20) (hc : evB lf 18 10 [Value.nilIface, vs w] { n := 19, objs := ob [vs w8, vs w7, vs w6, vs w5, vs w4, vs w3, vs w2, vs w1] 9 5 1 :: oW ys e :: r0 } = some (Value.nilIface, { n := 19, objs := ob [vs w8, vs w7, vs w6, vs w5, vs w4, vs w3, vs w2, vs w1] 9 5 1 :: oW ys e :: r0 }, [])) :
    ∃ s', (runB lf) (HBz8 kind off r0 ys e l cap (↑i : Int) j pw w1 w2 w3 w4 w5 w6 w7 w8) = some (Ex.normal, s') ∧ clB s' = HBz8 kind off r0 ys e l cap ((↑i : Int) + 1) (↑i : Int) w w1 w2 w3 w4 w5 w6 w7 w8 :=
  Dg.code_round (f := 17) clB (hs := [qv 17 18 (vb true),
    qs 17 20 (po 17 (i)),
    qs 17 21 (vs w),
    qc 10 Value.nilIface { n := 19, objs := ob [vs w8, vs w7, vs w6, vs w5, vs w4, vs w3, vs w2, vs w1] 9 5 1 :: ob ys e 6 1 :: r0 } [],
    qv 17 26 (vb false),
    qv 17 32 (vi ((↑i : Int) + 1))])
    [vb (decide ((↑i : Int) < (↑l : Int))) = vb true,
    (0 : Int) ≤ (↑i : Int) ∧ (↑i : Int) < (↑l : Int),
    Value.pointer (some { block := (17 : Nat), off := (0 : Nat) + Int.toNat (↑i : Int) * (1 : Nat) }) = Value.pointer (some { block := (17 : Nat), off := i }),
    ys[i]? = some (vs w),
    evB lf 18 10 [Value.nilIface, vs w] { n := 19, objs := ob [vs w8, vs w7, vs w6, vs w5, vs w4, vs w3, vs w2, vs w1] 9 5 1 :: ob ys e 6 1 :: r0 } = some (Value.nilIface, { n := 19, objs := ob [vs w8, vs w7, vs w6, vs w5, vs w4, vs w3, vs w2, vs w1] 9 5 1 :: ob ys e 6 1 :: r0 }, []),
    vb (decide ((↑i : Int) < (8 : Int))) = vb false,
    vi (IntKind.wrap IntKind.i64 ((↑i : Int) + (1 : Int))) = vi ((↑i : Int) + (1 : Int))] (by kernel_rfl)
    ⟨Dg.vtrue (by omega), by omega, Dg.ptr_eq (by omega), hw, hc, Dg.vfalse (by omega), Dg.i64_eq rfl (by omega) (by omega), trivial⟩
--> bzR8
--< bzC0
theorem bzC0 (lf : Nat) (kind : Int) (off : Int) (r0 : List AObj) (ys : List Value) (e : Nat) (l : Nat) (cap : Nat) (h : l = 0) (hl : l ≤ 20) :
    (runB lf) (HBz0 kind off r0 ys e l cap) = some (Ex.exit 0, ({ ts := [vi kind, vi off, aW l cap, undef, undef, undef, Value.nilIface, Value.slice none 0 0, Value.nilIface, Value.slice none 0 0, undef, undef, junk, junk, junk, aW l cap, vi (↑l : Int), vi 0, vb false, junk, junk, junk, junk, junk, junk, junk, junk, junk, junk, junk, junk, junk, junk, junk, junk], H := (hZ ys e r0), log := [] } : St)) :=
  Dg.evCode_hint (f := 17) (hs' := []) (hs := [qv 17 18 (vb false)])
    [vb (decide ((0 : Int) < (↑l : Int))) = vb false] (by kernel_rfl)
    ⟨Dg.vfalse (by omega), trivial⟩
--> bzC0
--< bzC1
theorem bzC1 (lf : Nat) (kind : Int) (off : Int) (r0 : List AObj) (ys : List Value) (e : Nat) (l : Nat) (cap : Nat) (j : Int) (pw : ByteArray) (w1 : ByteArray) (h : l = 1) (hl : l ≤ 20) :
    (runB lf) (HBz1 kind off r0 ys e l cap 1 j pw w1) = some (Ex.exit 0, ({ ts := [vi kind, vi off, aW l cap, undef, undef, undef, Value.nilIface, Value.slice none 0 0, Value.nilIface, sq 18 1 1, vi j, vs pw, junk, junk, junk, aW l cap, vi (↑l : Int), vi 1, vb false, junk, junk, junk, junk, junk, junk, junk, junk, junk, junk, junk, junk, junk, junk, junk, junk], H := { n := 19, objs := ob [vs w1] 9 4 1 :: ob ys e 6 1 :: r0 }, log := [] } : St)) :=
  Dg.evCode_hint (f := 17) (hs' := []) (hs := [qv 17 18 (vb false)])
    [vb (decide ((1 : Int) < (↑l : Int))) = vb false] (by kernel_rfl)
    ⟨Dg.vfalse (by omega), trivial⟩
--> bzC1
--< bzC2
theorem bzC2 (lf : Nat) (kind : Int) (off : Int) (r0 : List AObj) (ys : List Value) (e : Nat) (l : Nat) (cap : Nat) (j : Int) (pw : ByteArray) (w1 : ByteArray) (w2 : ByteArray) (h : l = 2) (hl : l ≤ 20) :
    (runB lf) (HBz2 kind off r0 ys e l cap 2 j pw w1 w2) = some (Ex.exit 0, ({ ts := [vi kind, vi off, aW l cap, undef, undef, undef, Value.nilIface, Value.slice none 0 0, Value.nilIface, sp 18 2 2, vi j, vs pw, junk, junk, junk, aW l cap, vi (↑l : Int), vi 2, vb false, junk, junk, junk, junk, junk, junk, junk, junk, junk, junk, junk, junk, junk, junk, junk, junk], H := { n := 19, objs := ob [vs w2, vs w1] 9 5 1 :: ob ys e 6 1 :: r0 }, log := [] } : St)) :=
  Dg.evCode_hint (f := 17) (hs' := []) (hs := [qv 17 18 (vb false)])
    [vb (decide ((2 : Int) < (↑l : Int))) = vb false] (by kernel_rfl)
    ⟨Dg.vfalse (by omega), trivial⟩
--> bzC2
--< bzC3
theorem bzC3 (lf : Nat) (kind : Int) (off : Int) (r0 : List AObj) (ys : List Value) (e : Nat) (l : Nat) (cap : Nat) (j : Int) (pw : ByteArray) (w1 : ByteArray) (w2 : ByteArray) (w3 : ByteArray) (h : l = 3) (hl : l ≤ 20) :
    (runB lf) (HBz3 kind off r0 ys e l cap 3 j pw w1 w2 w3) = some (Ex.exit 0, ({ ts := [vi kind, vi off, aW l cap, undef, undef, undef, Value.nilIface, Value.slice none 0 0, Value.nilIface, sp 18 3 3, vi j, vs pw, junk, junk, junk, aW l cap, vi (↑l : Int), vi 3, vb false, junk, junk, junk, junk, junk, junk, junk, junk, junk, junk, junk, junk, junk, junk, junk, junk], H := { n := 19, objs := ob [vs w3, vs w2, vs w1] 9 5 1 :: ob ys e 6 1 :: r0 }, log := [] } : St)) :=
  Dg.evCode_hint (f := 17) (hs' := []) (hs := [qv 17 18 (vb false)])
    [vb (decide ((3 : Int) < (↑l : Int))) = vb false] (by kernel_rfl)
    ⟨Dg.vfalse (by omega), trivial⟩
--> bzC3
--< bzC4
theorem bzC4 (lf : Nat) (kind : Int) (off : Int) (r0 : List AObj) (ys : List Value) (e : Nat) (l : Nat) (cap : Nat) (j : Int) (pw : ByteArray) (w1 : ByteArray) (w2 : ByteArray) (w3 : ByteArray) (w4 : ByteArray) (h : l = 4) (hl : l ≤ 20) :
    (runB lf) (HBz4 kind off r0 ys e l cap 4 j pw w1 w2 w3 w4) = some (Ex.exit 0, ({ ts := [vi kind, vi off, aW l cap, undef, undef, undef, Value.nilIface, Value.slice none 0 0, Value.nilIface, sp 18 4 4, vi j, vs pw, junk, junk, junk, aW l cap, vi (↑l : Int), vi 4, vb false, junk, junk, junk, junk, junk, junk, junk, junk, junk, junk, junk, junk, junk, junk, junk, junk], H := { n := 19, objs := ob [vs w4, vs w3, vs w2, vs w1] 9 5 1 :: ob ys e 6 1 :: r0 }, log := [] } : St)) :=
  Dg.evCode_hint (f := 17) (hs' := []) (hs := [qv 17 18 (vb false)])
    [vb (decide ((4 : Int) < (↑l : Int))) = vb false] (by kernel_rfl)
    ⟨Dg.vfalse (by omega), trivial⟩
--> bzC4
--< bzC5
theorem bzC5 (lf : Nat) (kind : Int) (off : Int) (r0 : List AObj) (ys : List Value) (e : Nat) (l : Nat) (cap : Nat) (j : Int) (pw : ByteArray) (w1 : ByteArray) (w2 : ByteArray) (w3 : ByteArray) (w4 : ByteArray) (w5 : ByteArray) (h : l = 5) (hl : l ≤ 20) :
    (runB lf) (HBz5 kind off r0 ys e l cap 5 j pw w1 w2 w3 w4 w5) = some (Ex.exit 0, ({ ts := [vi kind, vi off, aW l cap, undef, undef, undef, Value.nilIface, Value.slice none 0 0, Value.nilIface, sp 18 5 5, vi j, vs pw, junk, junk, junk, aW l cap, vi (↑l : Int), vi 5, vb false, junk, junk, junk, junk, junk, junk, junk, junk, junk, junk, junk, junk, junk, junk, junk, junk], H := { n := 19, objs := ob [vs w5, vs w4, vs w3, vs w2, vs w1] 9 5 1 :: ob ys e 6 1 :: r0 }, log := [] } : St)) :=
  Dg.evCode_hint (f := 17) (hs' := []) (hs := [qv 17 18 (vb false)])
    [vb (decide ((5 : Int) < (↑l : Int))) = vb false] (by kernel_rfl)
    ⟨Dg.vfalse (by omega), trivial⟩
--> bzC5
--< bzC6
theorem bzC6 (lf : Nat) (kind : Int) (off : Int) (r0 : List AObj) (ys : List Value) (e : Nat) (l : Nat) (cap : Nat) (j : Int) (pw : ByteArray) (w1 : ByteArray) (w2 : ByteArray) (w3 : ByteArray) (w4 : ByteArray) (w5 : ByteArray) (w6 : ByteArray) (h : l = 6) (hl : l ≤ 20) :
    (runB lf) (HBz6 kind off r0 ys e l cap 6 j pw w1 w2 w3 w4 w5 w6) = some (Ex.exit 0, ({ ts := [vi kind, vi off, aW l cap, undef, undef, undef, Value.nilIface, Value.slice none 0 0, Value.nilIface, sp 18 6 6, vi j, vs pw, junk, junk, junk, aW l cap, vi (↑l : Int), vi 6, vb false, junk, junk, junk, junk, junk, junk, junk, junk, junk, junk, junk, junk, junk, junk, junk, junk], H := { n := 19, objs := ob [vs w6, vs w5, vs w4, vs w3, vs w2, vs w1] 9 5 1 :: ob ys e 6 1 :: r0 }, log := [] } : St)) :=
  Dg.evCode_hint (f := 17) (hs' := []) (hs := [qv 17 18 (vb false)])
    [vb (decide ((6 : Int) < (↑l : Int))) = vb false] (by kernel_rfl)
    ⟨Dg.vfalse (by omega), trivial⟩
--> bzC6
--< bzC7
theorem bzC7 (lf : Nat) (kind : Int) (off : Int) (r0 : List AObj) (ys : List Value) (e : Nat) (l : Nat) (cap : Nat) (j : Int) (pw : ByteArray) (w1 : ByteArray) (w2 : ByteArray) (w3 : ByteArray) (w4 : ByteArray) (w5 : ByteArray) (w6 : ByteArray) (w7 : ByteArray) (h : l = 7) (hl : l ≤ 20) :
    (runB lf) (HBz7 kind off r0 ys e l cap 7 j pw w1 w2 w3 w4 w5 w6 w7) = some (Ex.exit 0, ({ ts := [vi kind, vi off, aW l cap, undef, undef, undef, Value.nilIface, Value.slice none 0 0, Value.nilIface, sp 18 7 7, vi j, vs pw, junk, junk, junk, aW l cap, vi (↑l : Int), vi 7, vb false, junk, junk, junk, junk, junk, junk, junk, junk, junk, junk, junk, junk, junk, junk, junk, junk], H := { n := 19, objs := ob [vs w7, vs w6, vs w5, vs w4, vs w3, vs w2, vs w1] 9 5 1 :: ob ys e 6 1 :: r0 }, log := [] } : St)) :=
  Dg.evCode_hint (f := 17) (hs' := []) (hs := [qv 17 18 (vb false)])
    [vb (decide ((7 : Int) < (↑l : Int))) = vb false] (by kernel_rfl)
    ⟨Dg.vfalse (by omega), trivial⟩
--> bzC7
--< bzC8
theorem bzC8 (lf : Nat) (kind : Int) (off : Int) (r0 : List AObj) (ys : List Value) (e : Nat) (l : Nat) (cap : Nat) (j : Int) (pw : ByteArray) (w1 : ByteArray) (w2 : ByteArray) (w3 : ByteArray) (w4 : ByteArray) (w5 : ByteArray) (w6 : ByteArray) (w7 : ByteArray) (w8 : ByteArray) (i : Nat) (h : l = i) (hl : l ≤ 20) :
    (runB lf) (HBz8 kind off r0 ys e l cap (↑i : Int) j pw w1 w2 w3 w4 w5 w6 w7 w8) = some (Ex.exit 0, ({ ts := [vi kind, vi off, aW l cap, undef, undef, undef, Value.nilIface, Value.slice none 0 0, Value.nilIface, sp 18 8 8, vi j, vs pw, junk, junk, junk, aW l cap, vi (↑l : Int), vi (↑i : Int), vb false, junk, junk, junk, junk, junk, junk, junk, junk, junk, junk, junk, junk, junk, junk, junk, junk], H := { n := 19, objs := ob [vs w8, vs w7, vs w6, vs w5, vs w4, vs w3, vs w2, vs w1] 9 5 1 :: ob ys e 6 1 :: r0 }, log := [] } : St)) :=
  Dg.evCode_hint (f := 17) (hs' := []) (hs := [qv 17 18 (vb false)])
    [vb (decide ((↑i : Int) < (↑l : Int))) = vb false] (by kernel_rfl)
    ⟨Dg.vfalse (by omega), trivial⟩
--> bzC8
--< bzCn
theorem bzCn (lf : Nat) (kind : Int) (off : Int) (r0 : List AObj) (X : AObj) :
    (runB lf) (HBzn kind off r0 X) = some (Ex.exit 0, ({ ts := [vi kind, vi off, Value.slice none 0 0, undef, undef, undef, Value.nilIface, Value.slice none 0 0, Value.nilIface, Value.slice none 0 0, undef, undef, junk, junk, junk, Value.slice none 0 0, vi 0, vi 0, vb false, junk, junk, junk, junk, junk, junk, junk, junk, junk, junk, junk, junk, junk, junk, junk, junk], H := { n := 18, objs := X :: r0 }, log := [] } : St)) :=
  Dg.evCode_hint (f := 17) (hs' := []) (hs := [])
    [] (by kernel_rfl)
    trivial
--> bzCn
--< bzW0
theorem bzW0 (lf : Nat) (kind : Int) (off : Int) (r0 : List AObj) (ys : List Value) (e : Nat) (l : Nat) (cap : Nat) (hk : kind = 0) (hl : ∀ (s0 : St), clB s0 = HBz0 kind off r0 ys e l cap → evLoop (runB lf) clB lf s0 = some (Ex.exit 0, EBz0 kind off r0 ys e l cap)) :
    evB lf 19 17 [vi kind, vi off, aW l cap] (hZ ys e r0) = some (Value.tuple #[Value.nilIface, Value.slice none 0 0], (hZ ys e r0), []) :=
  Dg.evCall_hint (hs' := []) (hs := [qv 24 6 (vb true),
    Hint.loop 17 (Ex.exit 0) (EBz0 kind off r0 ys e l cap)])
    [vb (kind == (0 : Int)) = vb true,
    evLoop (runB lf) clB lf { ts := [vi kind, vi off, aW l cap, undef, undef, undef, Value.nilIface, Value.slice none 0 0, Value.nilIface, Value.slice none 0 0, undef, undef, vi kind, vi off, Value.nilIface, aW l cap, vi (↑l : Int), vi 0, undef, undef, undef, undef, undef, undef, undef, undef, undef, undef, undef, undef, undef, undef, undef, undef, undef], H := (hZ ys e r0), log := [] } = some (Ex.exit 0, EBz0 kind off r0 ys e l cap)] (by kernel_rfl)
    ⟨Dg.vtrue (by omega), hl _ (by kernel_rfl), trivial⟩
--> bzW0
--< bzW1
theorem bzW1 (lf : Nat) (kind : Int) (off : Int) (r0 : List AObj) (ys : List Value) (e : Nat) (l : Nat) (cap : Nat) (j : Int) (w : ByteArray) (w1 : ByteArray) (hk : kind = 0) (hl : ∀ (s0 : St), clB s0 = HBz0 kind off r0 ys e l cap → evLoop (runB lf) clB lf s0 = some (Ex.exit 0, EBz1 kind off r0 ys e l cap (↑l : Int) j w w1)) :
    evB lf 19 17 [vi kind, vi off, aW l cap] (hZ ys e r0) = some (Value.tuple { toList := [Value.nilIface, sq 18 1 1] }, { n := 19, objs := ob [vs w1] 9 4 1 :: ob ys e 6 1 :: r0 }, []) :=
  Dg.evCall_hint (hs' := []) (hs := [qv 24 6 (vb true),
    Hint.loop 17 (Ex.exit 0) (EBz1 kind off r0 ys e l cap (↑l : Int) j w w1)])
    [vb (kind == (0 : Int)) = vb true,
    evLoop (runB lf) clB lf { ts := [vi kind, vi off, aW l cap, undef, undef, undef, Value.nilIface, Value.slice none 0 0, Value.nilIface, Value.slice none 0 0, undef, undef, vi kind, vi off, Value.nilIface, aW l cap, vi (↑l : Int), vi 0, undef, undef, undef, undef, undef, undef, undef, undef, undef, undef, undef, undef, undef, undef, undef, undef, undef], H := (hZ ys e r0), log := [] } = some (Ex.exit 0, EBz1 kind off r0 ys e l cap (↑l : Int) j w w1)] (by kernel_rfl)
    ⟨Dg.vtrue (by omega), hl _ (by kernel_rfl), trivial⟩
--> bzW1
--< bzW2
theorem bzW2 (lf : Nat) (kind : Int) (off : Int) (r0 : List AObj) (ys : List Value) (e : Nat) (l : Nat) (cap : Nat) (j : Int) (w : ByteArray) (w1 : ByteArray) (w2 : ByteArray) (hk : kind = 0) (hl : ∀ (s0 : St), clB s0 = HBz0 kind off r0 ys e l cap → evLoop (runB lf) clB lf s0 = some (Ex.exit 0, EBz2 kind off r0 ys e l cap (↑l : Int) j w w1 w2)) :
    evB lf 19 17 [vi kind, vi off, aW l cap] (hZ ys e r0) = some (Value.tuple { toList := [Value.nilIface, sp 18 2 2] }, { n := 19, objs := ob [vs w2, vs w1] 9 5 1 :: ob ys e 6 1 :: r0 }, []) :=
  Dg.evCall_hint (hs' := []) (hs := [qv 24 6 (vb true),
    Hint.loop 17 (Ex.exit 0) (EBz2 kind off r0 ys e l cap (↑l : Int) j w w1 w2)])
    [vb (kind == (0 : Int)) = vb true,
    evLoop (runB lf) clB lf { ts := [vi kind, vi off, aW l cap, undef, undef, undef, Value.nilIface, Value.slice none 0 0, Value.nilIface, Value.slice none 0 0, undef, undef, vi kind, vi off, Value.nilIface, aW l cap, vi (↑l : Int), vi 0, undef, undef, undef, undef, undef, undef, undef, undef, undef, undef, undef, undef, undef, undef, undef, undef, undef], H := (hZ ys e r0), log := [] } = some (Ex.exit 0, EBz2 kind off r0 ys e l cap (↑l : Int) j w w1 w2)] (by kernel_rfl)
    ⟨Dg.vtrue (by omega), hl _ (by kernel_rfl), trivial⟩
--> bzW2
--< bzW3
theorem bzW3 (lf : Nat) (kind : Int) (off : Int) (r0 : List AObj) (ys : List Value) (e : Nat) (l : Nat) (cap : Nat) (j : Int) (w : ByteArray) (w1 : ByteArray) (w2 : ByteArray) (w3 : ByteArray) (hk : kind = 0) (hl : ∀ (s0 : St), clB s0 = HBz0 kind off r0 ys e l cap → evLoop (runB lf) clB lf s0 = some (Ex.exit 0, EBz3 kind off r0 ys e l cap (↑l : Int) j w w1 w2 w3)) :
    evB lf 19 17 [vi kind, vi off, aW l cap] (hZ ys e r0) = some (Value.tuple { toList := [Value.nilIface, sp 18 3 3] }, { n := 19, objs := ob [vs w3, vs w2, vs w1] 9 5 1 :: ob ys e 6 1 :: r0 }, []) :=
  Dg.evCall_hint (hs' := []) (hs := [qv 24 6 (vb true),
    Hint.loop 17 (Ex.exit 0) (EBz3 kind off r0 ys e l cap (↑l : Int) j w w1 w2 w3)])
    [vb (kind == (0 : Int)) = vb true,
    evLoop (runB lf) clB lf { ts := [vi kind, vi off, aW l cap, undef, undef, undef, Value.nilIface, Value.slice none 0 0, Value.nilIface, Value.slice none 0 0, undef, undef, vi kind, vi off, Value.nilIface, aW l cap, vi (↑l : Int), vi 0, undef, undef, undef, undef, undef, undef, undef, undef, undef, undef, undef, undef, undef, undef, undef, undef, undef], H := (hZ ys e r0), log := [] } = some (Ex.exit 0, EBz3 kind off r0 ys e l cap (↑l : Int) j w w1 w2 w3)] (by kernel_rfl)
    ⟨Dg.vtrue (by omega), hl _ (by kernel_rfl), trivial⟩
--> bzW3
--< bzW4
theorem bzW4 (lf : Nat) (kind : Int) (off : Int) (r0 : List AObj) (ys : List Value) (e : Nat) (l : Nat) (cap : Nat) (j : Int) (w : ByteArray) (w1 : ByteArray) (w2 : ByteArray) (w3 : ByteArray) (w4 : ByteArray) (hk : kind = 0) (hl : ∀ (s0 : St), clB s0 = HBz0 kind off r0 ys e l cap → evLoop (runB lf) clB lf s0 = some (Ex.exit 0, EBz4 kind off r0 ys e l cap (↑l : Int) j w w1 w2 w3 w4)) :
    evB lf 19 17 [vi kind, vi off, aW l cap] (hZ ys e r0) = some (Value.tuple { toList := [Value.nilIface, sp 18 4 4] }, { n := 19, objs := ob [vs w4, vs w3, vs w2, vs w1] 9 5 1 :: ob ys e 6 1 :: r0 }, []) :=
  Dg.evCall_hint (hs' := []) (hs := [qv 24 6 (vb true),
    Hint.loop 17 (Ex.exit 0) (EBz4 kind off r0 ys e l cap (↑l : Int) j w w1 w2 w3 w4)])
    [vb (kind == (0 : Int)) = vb true,
    evLoop (runB lf) clB lf { ts := [vi kind, vi off, aW l cap, undef, undef, undef, Value.nilIface, Value.slice none 0 0, Value.nilIface, Value.slice none 0 0, undef, undef, vi kind, vi off, Value.nilIface, aW l cap, vi (↑l : Int), vi 0, undef, undef, undef, undef, undef, undef, undef, undef, undef, undef, undef, undef, undef, undef, undef, undef, undef], H := (hZ ys e r0), log := [] } = some (Ex.exit 0, EBz4 kind off r0 ys e l cap (↑l : Int) j w w1 w2 w3 w4)] (by kernel_rfl)
    ⟨Dg.vtrue (by omega), hl _ (by kernel_rfl), trivial⟩
--> bzW4
--< bzW5
theorem bzW5 (lf : Nat) (kind : Int) (off : Int) (r0 : List AObj) (ys : List Value) (e : Nat) (l : Nat) (cap : Nat) (j : Int) (w : ByteArray) (w1 : ByteArray) (w2 : ByteArray) (w3 : ByteArray) (w4 : ByteArray) (w5 : ByteArray) (hk : kind = 0) (hl : ∀ (s0 : St), clB s0 = HBz0 kind off r0 ys e l cap → evLoop (runB lf) clB lf s0 = some (Ex.exit 0, EBz5 kind off r0 ys e l cap (↑l : Int) j w w1 w2 w3 w4 w5)) :
    evB lf 19 17 [vi kind, vi off, aW l cap] (hZ ys e r0) = some (Value.tuple { toList := [Value.nilIface, sp 18 5 5] }, { n := 19, objs := ob [vs w5, vs w4, vs w3, vs w2, vs w1] 9 5 1 :: ob ys e 6 1 :: r0 }, []) :=
  Dg.evCall_hint (hs' := []) (hs := [qv 24 6 (vb true),
    Hint.loop 17 (Ex.exit 0) (EBz5 kind off r0 ys e l cap (↑l : Int) j w w1 w2 w3 w4 w5)])
    [vb (kind == (0 : Int)) = vb true,
    evLoop (runB lf) clB lf { ts := [vi kind, vi off, aW l cap, undef, undef, undef, Value.nilIface, Value.slice none 0 0, Value.nilIface, Value.slice none 0 0, undef, undef, vi kind, vi off, Value.nilIface, aW l cap, vi (↑l : Int), vi 0, undef, undef, undef, undef, undef, undef, undef, undef, undef, undef, undef, undef, undef, undef, undef, undef, undef], H := (hZ ys e r0), log := [] } = some (Ex.exit 0, EBz5 kind off r0 ys e l cap (↑l : Int) j w w1 w2 w3 w4 w5)] (by kernel_rfl)
    ⟨Dg.vtrue (by omega), hl _ (by kernel_rfl), trivial⟩
--> bzW5
--< bzW6
theorem bzW6 (lf : Nat) (kind : Int) (off : Int) (r0 : List AObj) (ys : List Value) (e : Nat) (l : Nat) (cap : Nat) (j : Int) (w : ByteArray) (w1 : ByteArray) (w2 : ByteArray) (w3 : ByteArray) (w4 : ByteArray) (w5 : ByteArray) (w6 : ByteArray) (hk : kind = 0) (hl : ∀ (s0 : St), clB s0 = HBz0 kind off r0 ys e l cap → evLoop (runB lf) clB lf s0 = some (Ex.exit 0, EBz6 kind off r0 ys e l cap (↑l : Int) j w w1 w2 w3 w4 w5 w6)) :
    evB lf 19 17 [vi kind, vi off, aW l cap] (hZ ys e r0) = some (Value.tuple { toList := [Value.nilIface, sp 18 6 6] }, { n := 19, objs := ob [vs w6, vs w5, vs w4, vs w3, vs w2, vs w1] 9 5 1 :: ob ys e 6 1 :: r0 }, []) :=
  Dg.evCall_hint (hs' := []) (hs := [qv 24 6 (vb true),
    Hint.loop 17 (Ex.exit 0) (EBz6 kind off r0 ys e l cap (↑l : Int) j w w1 w2 w3 w4 w5 w6)])
    [vb (kind == (0 : Int)) = vb true,
    evLoop (runB lf) clB lf { ts := [vi kind, vi off, aW l cap, undef, undef, undef, Value.nilIface, Value.slice none 0 0, Value.nilIface, Value.slice none 0 0, undef, undef, vi kind, vi off, Value.nilIface, aW l cap, vi (↑l : Int), vi 0, undef, undef, undef, undef, undef, undef, undef, undef, undef, undef, undef, undef, undef, undef, undef, undef, undef], H := (hZ ys e r0), log := [] } = some (Ex.exit 0, EBz6 kind off r0 ys e l cap (↑l : Int) j w w1 w2 w3 w4 w5 w6)] (by kernel_rfl)
    ⟨Dg.vtrue (by omega), hl _ (by kernel_rfl), trivial⟩
--> bzW6
--< bzW7
theorem bzW7 (lf : Nat) (kind : Int) (off : Int) (r0 : List AObj) (ys : List Value) (e : Nat) (l : Nat) (cap : Nat) (j : Int) (w : ByteArray) (w1 : ByteArray) (w2 : ByteArray) (w3 : ByteArray) (w4 : ByteArray) (w5 : ByteArray) (w6 : ByteArray) (w7 : ByteArray) (hk : kind = 0) (hl : ∀ (s0 : St), clB s0 = HBz0 kind off r0 ys e l cap → evLoop (runB lf) clB lf s0 = some (Ex.exit 0, EBz7 kind off r0 ys e l cap (↑l : Int) j w w1 w2 w3 w4 w5 w6 w7)) :
    evB lf 19 17 [vi kind, vi off, aW l cap] (hZ ys e r0) = some (Value.tuple { toList := [Value.nilIface, sp 18 7 7] }, { n := 19, objs := ob [vs w7, vs w6, vs w5, vs w4, vs w3, vs w2, vs w1] 9 5 1 :: ob ys e 6 1 :: r0 }, []) :=
  Dg.evCall_hint (hs' := []) (hs := [qv 24 6 (vb true),
    Hint.loop 17 (Ex.exit 0) (EBz7 kind off r0 ys e l cap (↑l : Int) j w w1 w2 w3 w4 w5 w6 w7)])
    [vb (kind == (0 : Int)) = vb true,
    evLoop (runB lf) clB lf { ts := [vi kind, vi off, aW l cap, undef, undef, undef, Value.nilIface, Value.slice none 0 0, Value.nilIface, Value.slice none 0 0, undef, undef, vi kind, vi off, Value.nilIface, aW l cap, vi (↑l : Int), vi 0, undef, undef, undef, undef, undef, undef, undef, undef, undef, undef, undef, undef, undef, undef, undef, undef, undef], H := (hZ ys e r0), log := [] } = some (Ex.exit 0, EBz7 kind off r0 ys e l cap (↑l : Int) j w w1 w2 w3 w4 w5 w6 w7)] (by kernel_rfl)
    ⟨Dg.vtrue (by omega), hl _ (by kernel_rfl), trivial⟩
--> bzW7
--< bzW8
theorem bzW8 (lf : Nat) (kind : Int) (off : Int) (r0 : List AObj) (ys : List Value) (e : Nat) (l : Nat) (cap : Nat) (j : Int) (w : ByteArray) (w1 : ByteArray) (w2 : ByteArray) (w3 : ByteArray) (w4 : ByteArray) (w5 : ByteArray) (w6 : ByteArray) (w7 : ByteArray) (w8 : ByteArray) (hk : kind = 0) (hl : ∀ (s0 : St), clB s0 = HBz0 kind off r0 ys e l cap → evLoop (runB lf) clB lf s0 = some (Ex.exit 0, EBz8 kind off r0 ys e l cap (↑l : Int) j w w1 w2 w3 w4 w5 w6 w7 w8)) :
    evB lf 19 17 [vi kind, vi off, aW l cap] (hZ ys e r0) = some (Value.tuple { toList := [Value.nilIface, sp 18 8 8] }, { n := 19, objs := ob [vs w8, vs w7, vs w6, vs w5, vs w4, vs w3, vs w2, vs w1] 9 5 1 :: ob ys e 6 1 :: r0 }, []) :=
  Dg.evCall_hint (hs' := []) (hs := [qv 24 6 (vb true),
    Hint.loop 17 (Ex.exit 0) (EBz8 kind off r0 ys e l cap (↑l : Int) j w w1 w2 w3 w4 w5 w6 w7 w8)])
    [vb (kind == (0 : Int)) = vb true,
    evLoop (runB lf) clB lf { ts := [vi kind, vi off, aW l cap, undef, undef, undef, Value.nilIface, Value.slice none 0 0, Value.nilIface, Value.slice none 0 0, undef, undef, vi kind, vi off, Value.nilIface, aW l cap, vi (↑l : Int), vi 0, undef, undef, undef, undef, undef, undef, undef, undef, undef, undef, undef, undef, undef, undef, undef, undef, undef], H := (hZ ys e r0), log := [] } = some (Ex.exit 0, EBz8 kind off r0 ys e l cap (↑l : Int) j w w1 w2 w3 w4 w5 w6 w7 w8)] (by kernel_rfl)
    ⟨Dg.vtrue (by omega), hl _ (by kernel_rfl), trivial⟩
--> bzW8
--< bzWn
theorem bzWn (lf : Nat) (kind : Int) (off : Int) (r0 : List AObj) (X : AObj) (hk : kind = 0) (hl : ∀ (s0 : St), clB s0 = HBzn kind off r0 X → evLoop (runB lf) clB lf s0 = some (Ex.exit 0, EBzn kind off r0 X)) :
    evB lf 19 17 [vi kind, vi off, Value.slice none 0 0] { n := 18, objs := X :: r0 } = some (Value.tuple #[Value.nilIface, Value.slice none 0 0], { n := 18, objs := X :: r0 }, []) :=
  Dg.evCall_hint (hs' := []) (hs := [qv 24 6 (vb true),
    Hint.loop 17 (Ex.exit 0) (EBzn kind off r0 X)])
    [vb (kind == (0 : Int)) = vb true,
    evLoop (runB lf) clB lf { ts := [vi kind, vi off, Value.slice none 0 0, undef, undef, undef, Value.nilIface, Value.slice none 0 0, Value.nilIface, Value.slice none 0 0, undef, undef, vi kind, vi off, Value.nilIface, Value.slice none 0 0, vi 0, vi 0, undef, undef, undef, undef, undef, undef, undef, undef, undef, undef, undef, undef, undef, undef, undef, undef, undef], H := { n := 18, objs := X :: r0 }, log := [] } = some (Ex.exit 0, EBzn kind off r0 X)] (by kernel_rfl)
    ⟨Dg.vtrue (by omega), hl _ (by kernel_rfl), trivial⟩
--> bzWn
end Go.Proofs.YtpgddboigegplaaGreatDoor.base
