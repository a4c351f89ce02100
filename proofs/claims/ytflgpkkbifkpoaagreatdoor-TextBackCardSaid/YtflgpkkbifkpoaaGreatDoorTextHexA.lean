/- 'text.Hex' of layer 4, over any row of bytes. 'text.Hex' of layer 4 as a contract, over whatever memory holds the bytes. 'text.Hex' of layer 4, over a row of bytes that 'text.Unhex' has laid. The signs of a text of bytes, as they are gone over. -/
import Derived.Test.YtflgpkkbifkpoaaGreatDoorRows
import Derived.Test.YtflgpkkbifkpoaaGreatDoorTextBase
import Derived.Laws.RangeString
namespace Go.Proofs.YtflgpkkbifkpoaaGreatDoor.text
open Go.Dg (junk St Ex Ev Hint evCall evCallS evCode evCodeK innerKp evCodeS evLoop cleanSt ue bodied noOver sbOf headOf tailOf bodyOf rAssign rBody lBody Flats flatOver Heap AObj SCall Law ofLaw Fix)
set_option linter.unusedVariables false
set_option linter.unusedSimpArgs false

def u8s (zs : List Int) : List Value := zs.map (Value.int .u8 ·)
theorem u8_load (zs : List Int) (i : Nat) (h : i < zs.length) : (u8s zs)[i]? = some (.int .u8 (zs.getD i 0)) := by
  simp [u8s, List.getD_eq_getElem?_getD, h]
theorem u8s_len (zs : List Int) : (u8s zs).length = zs.length := by simp [u8s]
theorem u8s_one (zs : List Int) : (u8s zs).all (·.oneCell') = true := by
  rw [List.all_eq_true]
  intro v hv
  obtain ⟨p, _, rfl⟩ := List.mem_map.1 hv
  rfl
def js (n : Nat) : List Value := List.replicate n junk
def aB (lz cz : Nat) : Value := .slice (some ⟨0, 0, none⟩) lz cz
def oB (zs : List Int) (e : Nat) : AObj := .cells (u8s zs) e 6 1
/-- A row of bytes that grows. -/
def rowU (zs : List Int) : AObj := .cells (u8s zs) 5 5 1
theorem infoU' : (Tryz.prog.info? 5).map (fun i => (i.zero, i.size, i.bytes)) = some (some (.int .u8 0), 1, 1) := by kernel_rfl
theorem infoU : ∃ i, Tryz.prog.info? 5 = some i ∧ i.zero = some (.int .u8 0) ∧ i.size = 1 ∧ i.bytes = 1 := by
  have h := infoU'
  rw [Option.map_eq_some_iff] at h
  obtain ⟨i, h1, h2⟩ := h
  simp only [Prod.mk.injEq] at h2
  exact ⟨i, h1, h2.1, h2.2.1, h2.2.2⟩
theorem appU {H H' : Heap} {k k2 l l' m : Nat} {os : List Int} {x : Int} (hk : H.get k = rowU os) (hl : l = os.length) (h2 : Dg.srcCells H 1 (.slice (some ⟨k2, 0, none⟩) 1 1) = some (1, u8s [x])) (hb : l ≤ 100000) (hl' : l' = l + 1) (hH : H' = (H.set k .dead).push (rowU (os ++ [x]))) (hn : H.n = m) :
    Dg.evAppend Tryz.prog H 41 41 (.slice (some ⟨k, 0, some 0⟩) l l) (.slice (some ⟨k2, 0, none⟩) 1 1) = some (.slice (some ⟨m, 0, some 0⟩) l' l', H', [k]) := by
  obtain ⟨i, hi, hz, hs, hby⟩ := infoU
  have h := Dg.evAppend_flex (P := Tryz.prog) (H := H) (t := 41) (tx := 41) (e := 5) (i := i) (k := k) (l := l) (md := 5) (cs := u8s os) (x := .slice (some ⟨k2, 0, none⟩) 1 1) (n := 1) (news := u8s [x]) (by kernel_rfl) (by kernel_rfl) hi hz (by rw [hs]; rfl) (by rw [hs]; exact h2) (u8s_one _) (by rw [u8s_len, hs]; rfl) (by omega)
    (by rw [hs]; exact hk) rfl (by rw [u8s_len, hs, hl]; omega) (u8s_one _) (by omega) (by rw [hby]; omega)
  have hkm : Dg.keepMd 5 (Dg.srcFlag H (.slice (some ⟨k2, 0, none⟩) 1 1) || Dg.flatL (u8s [x])) = 5 := by simp [Dg.keepMd, u8s, Dg.flatL, Dg.flat]
  have ha : u8s (os ++ [x]) = u8s os ++ u8s [x] := by simp [u8s]
  rw [h, hkm, hs, hH, hl', hn, rowU, ha]
/-- A digit's sign. -/
def hexd (k : Int) : Int := if k < 10 then 48 + k else 87 + k
def hexs : ByteArray := ⟨#[48, 49, 50, 51, 52, 53, 54, 55, 56, 57, 97, 98, 99, 100, 101, 102]⟩
theorem hex_all : ((List.range 256).all fun n => Dg.strAt hexs (Int.fdiv (n : Int) ((2 : Int) ^ (4 : Nat))) == some (hexd ((n : Int) / 16)) && (Dg.strAt hexs (((BitVec.toNat (BitVec.ofInt 8 (n : Int) &&& BitVec.ofInt 8 15) : Nat) : Int)) == some (hexd ((n : Int) % 16)))) = true := by decide +kernel
theorem hex_of {z : Int} (h : 0 ≤ z ∧ z < 256) : Dg.strAt hexs (Int.fdiv z ((2 : Int) ^ (4 : Nat))) = some (hexd (z / 16)) ∧ Dg.strAt hexs (((BitVec.toNat (BitVec.ofInt 8 z &&& BitVec.ofInt 8 15) : Nat) : Int)) = some (hexd (z % 16)) := by
  obtain ⟨n, rfl⟩ : ∃ n : Nat, z = (n : Int) := ⟨z.toNat, by omega⟩
  have := List.all_eq_true.1 hex_all n (List.mem_range.2 (by omega))
  simp only [Bool.and_eq_true, beq_iff_eq] at this
  exact this
noncomputable def lH : Code := lBody ((Tryz.f18.body).getD .skip)
noncomputable abbrev runH : St → Option (Ex × St) := evCode Tryz.prog 0 (bodied Tryz.prog) (evCall Tryz.prog 0 (bodied Tryz.prog) noOver sbs 2000 19) 1 6 2000 lH
noncomputable abbrev clH : St → St := cleanSt 1 6 (ue lH [] []).1
def TH (lz cz i : Nat) (c : Value) (rest : List Value) : List Value := [aB lz cz, undef, .string ⟨#[]⟩, .pointer (some ⟨1, 0, none⟩), undef, c, aB lz cz, .int .i64 lz, .int .i64 i] ++ rest
def BH (n : Nat) : AObj := .cells [.pointer (some ⟨1, 0, none⟩), .slice (some ⟨2, 0, some 0⟩) n n] 82 0 1
def H6a (lz cz : Nat) (zs : List Int) (e : Nat) : St := ⟨TH lz cz 0 undef (js 13), ⟨2, [.cells [.pointer none, .slice none 0 0] 82 4 1, oB zs e]⟩, []⟩
def H6b (lz cz : Nat) (zs : List Int) (e i : Nat) (c : Int) (os : List Int) : St := ⟨TH lz cz i (.int .u8 c) (js 13), ⟨3, [rowU os, BH os.length, oB zs e]⟩, []⟩
def H6e (lz cz : Nat) (zs : List Int) (e i : Nat) (c : Int) (os : List Int) : St := ⟨TH lz cz i (.int .u8 c) (.bool false :: js 12), ⟨3, [rowU os, BH os.length, oB zs e]⟩, []⟩
--< h6a
theorem h6a (lz : Nat) (cz : Nat) (zs : List Int) (e : Nat) (hi : 0 < lz) (hl : lz ≤ 1000) (hc : lz ≤ cz) (hzl : List.length zs = cz) (h0 : 0 ≤ List.getD zs 0 0 ∧ List.getD zs 0 0 < 256) :
    ∃ s', runH (H6a lz cz zs e) = some (Ex.normal, s') ∧ clH s' = H6b lz cz zs e 1 (List.getD zs 0 0) [hexd (List.getD zs 0 0 / 16), hexd (List.getD zs 0 0 % 16)] :=
  Dg.code_round (f := 18) clH (hs := [Hint.val 18 9 (Value.bool true),
    Hint.soft 18 10 (Value.pointer (some { block := 0, off := 0 })),
    Hint.soft 18 11 (Value.int IntKind.u8 (List.getD zs 0 0)),
    Hint.soft 18 14 (Value.int IntKind.u8 (hexd (List.getD zs 0 0 / 16))),
    Hint.val 18 17 (Value.int IntKind.u8 (↑(BitVec.toNat (BitVec.ofInt 8 (List.getD zs 0 0) &&& BitVec.ofInt 8 15)) : Int)),
    Hint.soft 18 18 (Value.int IntKind.u8 (hexd (List.getD zs 0 0 % 16)))])
    [Value.bool (decide ((↑(0 : Nat) : Int) < (↑lz : Int))) = Value.bool true,
    (0 : Int) ≤ (↑(0 : Nat) : Int) ∧ (↑(0 : Nat) : Int) < (↑lz : Int),
    Value.pointer (some { block := (0 : Nat), off := (0 : Nat) }) = Value.pointer (some { block := (0 : Nat), off := (0 : Nat) }),
    (u8s zs)[(0 : Nat)]? = some (Value.int IntKind.u8 (List.getD zs (0 : Nat) (0 : Int))),
    Dg.strAt { data := #[(48 : UInt8), (49 : UInt8), (50 : UInt8), (51 : UInt8), (52 : UInt8), (53 : UInt8), (54 : UInt8), (55 : UInt8), (56 : UInt8), (57 : UInt8), (97 : UInt8), (98 : UInt8), (99 : UInt8), (100 : UInt8), (101 : UInt8), (102 : UInt8)] } (Int.fdiv (List.getD zs (0 : Nat) (0 : Int)) ((2 : Int) ^ (4 : Nat))) = some (hexd (List.getD zs (0 : Nat) (0 : Int) / (16 : Int))),
    Value.int IntKind.u8 (IntKind.wrap IntKind.u8 (↑(BitVec.toNat (BitVec.ofInt (8 : Nat) (List.getD zs (0 : Nat) (0 : Int)) &&& BitVec.ofInt (8 : Nat) (15 : Int))) : Int)) = Value.int IntKind.u8 (↑(BitVec.toNat (BitVec.ofInt (8 : Nat) (List.getD zs (0 : Nat) (0 : Int)) &&& BitVec.ofInt (8 : Nat) (15 : Int))) : Int),
    Dg.strAt { data := #[(48 : UInt8), (49 : UInt8), (50 : UInt8), (51 : UInt8), (52 : UInt8), (53 : UInt8), (54 : UInt8), (55 : UInt8), (56 : UInt8), (57 : UInt8), (97 : UInt8), (98 : UInt8), (99 : UInt8), (100 : UInt8), (101 : UInt8), (102 : UInt8)] } (↑(BitVec.toNat (BitVec.ofInt (8 : Nat) (List.getD zs (0 : Nat) (0 : Int)) &&& BitVec.ofInt (8 : Nat) (15 : Int))) : Int) = some (hexd (List.getD zs (0 : Nat) (0 : Int) % (16 : Int)))] (by kernel_rfl)
    ⟨Dg.vtrue (by omega), by omega, rfl, u8_load zs 0 (by omega), (hex_of h0).1, by simp only [Dg.w_u8, Dg.w_u16, Dg.w_u32, Dg.w_i8, Dg.w_i32, Value.int.injEq, true_and]; omega, (hex_of h0).2, trivial⟩
--> h6a
--< h6b
theorem h6b (lz : Nat) (cz : Nat) (zs : List Int) (e : Nat) (i : Nat) (c : Int) (os : List Int) (ho : List.length os = 2 * i) (i1 : 1 ≤ i) (hi : i < lz) (hl : lz ≤ 1000) (hc : lz ≤ cz) (hzl : List.length zs = cz) (h0 : 0 ≤ List.getD zs i 0 ∧ List.getD zs i 0 < 256) :
    ∃ s', runH (H6b lz cz zs e i c os) = some (Ex.normal, s') ∧ clH s' = H6b lz cz zs e (i + 1) (List.getD zs i 0) (os ++ [hexd (List.getD zs i 0 / 16)] ++ [hexd (List.getD zs i 0 % 16)]) :=
  Dg.code_round (f := 18) clH (hs := [Hint.val 18 9 (Value.bool true),
    Hint.soft 18 10 (Value.pointer (some { block := 0, off := i })),
    Hint.soft 18 11 (Value.int IntKind.u8 (List.getD zs i 0)),
    Hint.soft 18 14 (Value.int IntKind.u8 (hexd (List.getD zs i 0 / 16))),
    Hint.softH 40 14 (Value.slice (some { block := 4, off := 0, spot := some 0 }) (List.length (os ++ [hexd (List.getD zs i 0 / 16)])) (List.length (os ++ [hexd (List.getD zs i 0 / 16)]))) { n := 5, objs := [AObj.cells (u8s (os ++ [hexd (List.getD zs i 0 / 16)])) 5 5 1, AObj.cells [Value.int IntKind.u8 (hexd (List.getD zs i 0 / 16))] 5 0 1, AObj.dead, AObj.cells [Value.pointer (some { block := 1, off := 0 }), Value.slice (some { block := 2, off := 0, spot := some 0 }) (List.length os) (List.length os)] 82 0 1, AObj.cells (u8s zs) e 6 1] } [2],
    Hint.val 18 17 (Value.int IntKind.u8 (↑(BitVec.toNat (BitVec.ofInt 8 (List.getD zs i 0) &&& BitVec.ofInt 8 15)) : Int)),
    Hint.soft 18 18 (Value.int IntKind.u8 (hexd (List.getD zs i 0 % 16))),
    Hint.softH 40 14 (Value.slice (some { block := 5, off := 0, spot := some 0 }) (List.length (os ++ [hexd (List.getD zs i 0 / 16)] ++ [hexd (List.getD zs i 0 % 16)])) (List.length (os ++ [hexd (List.getD zs i 0 / 16)] ++ [hexd (List.getD zs i 0 % 16)]))) { n := 6, objs := [AObj.cells (u8s (os ++ [hexd (List.getD zs i 0 / 16)] ++ [hexd (List.getD zs i 0 % 16)])) 5 5 1, AObj.cells [Value.int IntKind.u8 (hexd (List.getD zs i 0 % 16))] 5 0 1, AObj.dead, AObj.dead, AObj.cells [Value.pointer (some { block := 1, off := 0 }), Value.slice (some { block := 3, off := 0, spot := some 0 }) (List.length (os ++ [hexd (List.getD zs i 0 / 16)])) (List.length (os ++ [hexd (List.getD zs i 0 / 16)]))] 82 0 1, AObj.cells (u8s zs) e 6 1] } [3],
    Hint.val 18 20 (Value.int IntKind.i64 ((↑i : Int) + 1))])
    [Value.bool (decide ((↑i : Int) < (↑lz : Int))) = Value.bool true,
    (0 : Int) ≤ (↑i : Int) ∧ (↑i : Int) < (↑lz : Int),
    Value.pointer (some { block := (0 : Nat), off := (0 : Nat) + Int.toNat (↑i : Int) * (1 : Nat) }) = Value.pointer (some { block := (0 : Nat), off := i }),
    (u8s zs)[i]? = some (Value.int IntKind.u8 (List.getD zs i (0 : Int))),
    Dg.strAt { data := #[(48 : UInt8), (49 : UInt8), (50 : UInt8), (51 : UInt8), (52 : UInt8), (53 : UInt8), (54 : UInt8), (55 : UInt8), (56 : UInt8), (57 : UInt8), (97 : UInt8), (98 : UInt8), (99 : UInt8), (100 : UInt8), (101 : UInt8), (102 : UInt8)] } (Int.fdiv (List.getD zs i (0 : Int)) ((2 : Int) ^ (4 : Nat))) = some (hexd (List.getD zs i (0 : Int) / (16 : Int))),
    Dg.evAppend Tryz.prog { n := (4 : Nat), objs := [AObj.cells [Value.int IntKind.u8 (hexd (List.getD zs i (0 : Int) / (16 : Int)))] (5 : Nat) (0 : Nat) (1 : Nat), AObj.cells (u8s os) (5 : Nat) (5 : Nat) (1 : Nat), AObj.cells [Value.pointer (some { block := (1 : Nat), off := (0 : Nat) }), Value.slice (some { block := (2 : Nat), off := (0 : Nat), spot := some (0 : Nat) }) (List.length os) (List.length os)] (82 : Nat) (0 : Nat) (1 : Nat), AObj.cells (u8s zs) e (6 : Nat) (1 : Nat)] } (41 : Nat) (41 : Nat) (Value.slice (some { block := (2 : Nat), off := (0 : Nat), spot := some (0 : Nat) }) (List.length os) (List.length os)) (Value.slice (some { block := (3 : Nat), off := (0 : Nat) }) (1 : Nat) (1 : Nat)) = some (Value.slice (some { block := (4 : Nat), off := (0 : Nat), spot := some (0 : Nat) }) (List.length (os ++ [hexd (List.getD zs i (0 : Int) / (16 : Int))])) (List.length (os ++ [hexd (List.getD zs i (0 : Int) / (16 : Int))])), { n := (5 : Nat), objs := [AObj.cells (u8s (os ++ [hexd (List.getD zs i (0 : Int) / (16 : Int))])) (5 : Nat) (5 : Nat) (1 : Nat), AObj.cells [Value.int IntKind.u8 (hexd (List.getD zs i (0 : Int) / (16 : Int)))] (5 : Nat) (0 : Nat) (1 : Nat), AObj.dead, AObj.cells [Value.pointer (some { block := (1 : Nat), off := (0 : Nat) }), Value.slice (some { block := (2 : Nat), off := (0 : Nat), spot := some (0 : Nat) }) (List.length os) (List.length os)] (82 : Nat) (0 : Nat) (1 : Nat), AObj.cells (u8s zs) e (6 : Nat) (1 : Nat)] }, [(2 : Nat)]),
    Value.int IntKind.u8 (IntKind.wrap IntKind.u8 (↑(BitVec.toNat (BitVec.ofInt (8 : Nat) (List.getD zs i (0 : Int)) &&& BitVec.ofInt (8 : Nat) (15 : Int))) : Int)) = Value.int IntKind.u8 (↑(BitVec.toNat (BitVec.ofInt (8 : Nat) (List.getD zs i (0 : Int)) &&& BitVec.ofInt (8 : Nat) (15 : Int))) : Int),
    Dg.strAt { data := #[(48 : UInt8), (49 : UInt8), (50 : UInt8), (51 : UInt8), (52 : UInt8), (53 : UInt8), (54 : UInt8), (55 : UInt8), (56 : UInt8), (57 : UInt8), (97 : UInt8), (98 : UInt8), (99 : UInt8), (100 : UInt8), (101 : UInt8), (102 : UInt8)] } (↑(BitVec.toNat (BitVec.ofInt (8 : Nat) (List.getD zs i (0 : Int)) &&& BitVec.ofInt (8 : Nat) (15 : Int))) : Int) = some (hexd (List.getD zs i (0 : Int) % (16 : Int))),
    Dg.evAppend Tryz.prog { n := (5 : Nat), objs := [AObj.cells [Value.int IntKind.u8 (hexd (List.getD zs i (0 : Int) % (16 : Int)))] (5 : Nat) (0 : Nat) (1 : Nat), AObj.cells (u8s (os ++ [hexd (List.getD zs i (0 : Int) / (16 : Int))])) (5 : Nat) (5 : Nat) (1 : Nat), AObj.dead, AObj.cells [Value.pointer (some { block := (1 : Nat), off := (0 : Nat) }), Value.slice (some { block := (3 : Nat), off := (0 : Nat), spot := some (0 : Nat) }) (List.length (os ++ [hexd (List.getD zs i (0 : Int) / (16 : Int))])) (List.length (os ++ [hexd (List.getD zs i (0 : Int) / (16 : Int))]))] (82 : Nat) (0 : Nat) (1 : Nat), AObj.cells (u8s zs) e (6 : Nat) (1 : Nat)] } (41 : Nat) (41 : Nat) (Value.slice (some { block := (3 : Nat), off := (0 : Nat), spot := some (0 : Nat) }) (List.length (os ++ [hexd (List.getD zs i (0 : Int) / (16 : Int))])) (List.length (os ++ [hexd (List.getD zs i (0 : Int) / (16 : Int))]))) (Value.slice (some { block := (4 : Nat), off := (0 : Nat) }) (1 : Nat) (1 : Nat)) = some (Value.slice (some { block := (5 : Nat), off := (0 : Nat), spot := some (0 : Nat) }) (List.length (os ++ [hexd (List.getD zs i (0 : Int) / (16 : Int))] ++ [hexd (List.getD zs i (0 : Int) % (16 : Int))])) (List.length (os ++ [hexd (List.getD zs i (0 : Int) / (16 : Int))] ++ [hexd (List.getD zs i (0 : Int) % (16 : Int))])), { n := (6 : Nat), objs := [AObj.cells (u8s (os ++ [hexd (List.getD zs i (0 : Int) / (16 : Int))] ++ [hexd (List.getD zs i (0 : Int) % (16 : Int))])) (5 : Nat) (5 : Nat) (1 : Nat), AObj.cells [Value.int IntKind.u8 (hexd (List.getD zs i (0 : Int) % (16 : Int)))] (5 : Nat) (0 : Nat) (1 : Nat), AObj.dead, AObj.dead, AObj.cells [Value.pointer (some { block := (1 : Nat), off := (0 : Nat) }), Value.slice (some { block := (3 : Nat), off := (0 : Nat), spot := some (0 : Nat) }) (List.length (os ++ [hexd (List.getD zs i (0 : Int) / (16 : Int))])) (List.length (os ++ [hexd (List.getD zs i (0 : Int) / (16 : Int))]))] (82 : Nat) (0 : Nat) (1 : Nat), AObj.cells (u8s zs) e (6 : Nat) (1 : Nat)] }, [(3 : Nat)]),
    Value.int IntKind.i64 (IntKind.wrap IntKind.i64 ((↑i : Int) + (1 : Int))) = Value.int IntKind.i64 ((↑i : Int) + (1 : Int))] (by kernel_rfl)
    ⟨Dg.vtrue (by omega), by omega, Dg.ptr_eq (by omega), u8_load zs i (by omega), (hex_of h0).1, appU (os := os) (x := hexd (zs.getD i 0 / 16)) rfl rfl rfl (by omega) (by simp) rfl rfl, by simp only [Dg.w_u8, Dg.w_u16, Dg.w_u32, Dg.w_i8, Dg.w_i32, Value.int.injEq, true_and]; omega, (hex_of h0).2, appU (os := os ++ [hexd (zs.getD i 0 / 16)]) (x := hexd (zs.getD i 0 % 16)) rfl rfl rfl (by simp; omega) (by simp) rfl rfl, Dg.i64_eq rfl (by omega) (by omega), trivial⟩
--> h6b
--< h6e
theorem h6e (lz : Nat) (cz : Nat) (zs : List Int) (e : Nat) (c : Int) (os : List Int) :
    runH (H6b lz cz zs e lz c os) = some (Ex.exit 0, ({ ts := [Value.slice (some { block := 0, off := 0 }) lz cz, undef, Value.string { data := #[] }, Value.pointer (some { block := 1, off := 0 }), undef, Value.int IntKind.u8 c, Value.slice (some { block := 0, off := 0 }) lz cz, Value.int IntKind.i64 (↑lz : Int), Value.int IntKind.i64 (↑lz : Int), Value.bool false, junk, junk, junk, junk, junk, junk, junk, junk, junk, junk, junk, junk], H := { n := 3, objs := [AObj.cells (u8s os) 5 5 1, AObj.cells [Value.pointer (some { block := 1, off := 0 }), Value.slice (some { block := 2, off := 0, spot := some 0 }) (List.length os) (List.length os)] 82 0 1, AObj.cells (u8s zs) e 6 1] }, log := [] } : St)) :=
  Dg.evCode_hint (f := 18) (hs' := []) (hs := [Hint.val 18 9 (Value.bool false)])
    [Value.bool (decide ((↑lz : Int) < (↑lz : Int))) = Value.bool false] (by kernel_rfl)
    ⟨Dg.vfalse (by omega), trivial⟩
--> h6e
end Go.Proofs.YtflgpkkbifkpoaaGreatDoor.text

namespace Go.Proofs.YtflgpkkbifkpoaaGreatDoor.text
open Go.Dg (junk St Ex Ev Hint evCall evCallS evCode evCodeK innerKp evCodeS evLoop cleanSt ue bodied noOver sbOf headOf tailOf bodyOf rAssign rBody lBody Flats flatOver Heap AObj SCall Law ofLaw Fix)
set_option linter.unusedVariables false
set_option linter.unusedSimpArgs false

/-- The signs of the first i bytes. -/
def hexL (zs : List Int) : Nat → List Int
  | 0 => []
  | i + 1 => hexL zs i ++ [hexd (zs.getD i 0 / 16)] ++ [hexd (zs.getD i 0 % 16)]
theorem hexL_len (zs : List Int) : ∀ i, (hexL zs i).length = 2 * i := by
  intro i
  induction i with
  | zero => rfl
  | succ i ih => simp [hexL, ih]; omega
def txt (zs : List Int) : ByteArray := ⟨(zs.map fun n => UInt8.ofNat n.toNat).toArray⟩
theorem headStr_u8s (zs : List Int) (n : Nat) (h : zs.length = n) : Dg.headStr (u8s zs) n = some (txt zs) := by
  unfold Dg.headStr
  rw [List.take_of_length_le (by rw [u8s_len]; omega)]
  unfold u8s
  rw [Dg.cellInts_map]
  rfl
def HH (lz cz : Nat) (zs : List Int) (e : Nat) : Nat → St
  | 0 => H6a lz cz zs e
  | i + 1 => H6b lz cz zs e (i + 1) (zs.getD i 0) (hexL zs (i + 1))
theorem loopH (lz cz : Nat) (zs : List Int) (e : Nat) (hl : lz ≤ 1000) (hc : lz ≤ cz) (hzl : zs.length = cz) (hz : ∀ j, 0 ≤ zs.getD j 0 ∧ zs.getD j 0 < 256) (i : Nat) (hi : lz = i + 1) {s0 : St} (h0 : clH s0 = H6a lz cz zs e) :
    evLoop runH clH 2000 s0 = some (.exit 0, H6e lz cz zs e lz (zs.getD i 0) (hexL zs lz)) := by
  refine Dg.loop_run (S := HH lz cz zs e) (n := lz) (by simp) (fun j hj => ?_) ?_ (by omega) h0
  · cases j with
    | zero => exact h6a lz cz zs e hj hl hc hzl (hz 0)
    | succ j => exact h6b lz cz zs e (j + 1) (zs.getD j 0) (hexL zs (j + 1)) (hexL_len ..) (by omega) hj hl hc hzl (hz _)
  · have e1 : HH lz cz zs e lz = H6b lz cz zs e lz (zs.getD i 0) (hexL zs lz) := by
      clear h0
      subst hi
      rfl
    rw [e1]
    exact h6e lz cz zs e _ _
--< hex0
theorem hex0 (cz : Nat) (zs : List Int) (e : Nat) :
    evCall Tryz.prog 0 (bodied Tryz.prog) noOver sbs 2000 20 18 [aB 0 cz] { n := 1, objs := [oB zs e] } = some (Value.string ByteArray.empty, { n := 1, objs := [AObj.cells (u8s zs) e 6 1] }, []) :=
  Dg.evCall_hint (hs' := []) (hs := [Hint.val 18 9 (Value.bool false)])
    [Value.bool false = Value.bool false] (by kernel_rfl)
    ⟨rfl, trivial⟩
--> hex0
--< hexp
theorem hexp (lz : Nat) (cz : Nat) (zs : List Int) (e : Nat) (hl : lz ≤ 1000) (hc : lz ≤ cz) (hzl : List.length zs = cz) (hz : ∀ (j : Nat), 0 ≤ List.getD zs j 0 ∧ List.getD zs j 0 < 256) (i : Nat) (hi : lz = i + 1) :
    evCall Tryz.prog 0 (bodied Tryz.prog) noOver sbs 2000 20 18 [aB lz cz] { n := 1, objs := [oB zs e] } = some (Value.string (txt (hexL zs lz)), { n := 1, objs := [AObj.cells (u8s zs) e 6 1] }, []) :=
  Dg.evCall_hint (hs' := []) (hs := [Hint.loop 18 (Ex.exit 0) (H6e lz cz zs e lz (List.getD zs i 0) (hexL zs lz)),
    Hint.softH 41 7 (Value.pointer (some { block := 2, off := 0 })) { n := 3, objs := [AObj.cells (u8s (hexL zs lz)) 5 5 1, AObj.cells [Value.pointer (some { block := 1, off := 0 }), Value.slice (some { block := 2, off := 0, spot := some 0 }) (List.length (hexL zs lz)) (List.length (hexL zs lz))] 82 0 1, AObj.cells (u8s zs) e 6 1] } [],
    Hint.softH 41 13 (Value.string (txt (hexL zs lz))) { n := 3, objs := [AObj.dead, AObj.cells [Value.pointer (some { block := 1, off := 0 }), Value.slice (some { block := 2, off := 0, spot := some 0 }) (List.length (hexL zs lz)) (List.length (hexL zs lz))] 82 0 1, AObj.cells (u8s zs) e 6 1] } [2]])
    [evLoop runH clH 2000 { ts := [Value.slice (some { block := 0, off := 0 }) lz cz, undef, Value.string { data := #[] }, Value.pointer (some { block := 1, off := 0 }), undef, undef, Value.slice (some { block := 0, off := 0 }) lz cz, Value.int IntKind.i64 (↑lz : Int), Value.int IntKind.i64 0, undef, undef, undef, undef, undef, undef, undef, undef, undef, undef, undef, undef, undef], H := { n := 2, objs := [AObj.cells [Value.pointer none, Value.slice none 0 0] 82 0 1, AObj.cells (u8s zs) e 6 1] }, log := [] } = some (Ex.exit 0, H6e lz cz zs e lz (List.getD zs i 0) (hexL zs lz)),
    List.length (hexL zs lz) ≠ (0 : Nat),
    Value.pointer (some { block := (2 : Nat), off := (0 : Nat) }) = Value.pointer (some { block := (2 : Nat), off := (0 : Nat) }),
    ({ n := (3 : Nat), objs := [AObj.cells (u8s (hexL zs lz)) (5 : Nat) (5 : Nat) (1 : Nat), AObj.cells [Value.pointer (some { block := (1 : Nat), off := (0 : Nat) }), Value.slice (some { block := (2 : Nat), off := (0 : Nat), spot := some (0 : Nat) }) (List.length (hexL zs lz)) (List.length (hexL zs lz))] (82 : Nat) (0 : Nat) (1 : Nat), AObj.cells (u8s zs) e (6 : Nat) (1 : Nat)] } : Go.Dg.Heap) = { n := (3 : Nat), objs := [AObj.cells (u8s (hexL zs lz)) (5 : Nat) (5 : Nat) (1 : Nat), AObj.cells [Value.pointer (some { block := (1 : Nat), off := (0 : Nat) }), Value.slice (some { block := (2 : Nat), off := (0 : Nat), spot := some (0 : Nat) }) (List.length (hexL zs lz)) (List.length (hexL zs lz))] (82 : Nat) (0 : Nat) (1 : Nat), AObj.cells (u8s zs) e (6 : Nat) (1 : Nat)] },
    ([] : List Nat) = [],
    (0 : Int) < (↑(List.length (hexL zs lz)) : Int) ∧ Int.toNat (↑(List.length (hexL zs lz)) : Int) ≤ List.length (u8s (hexL zs lz)) ∧ (↑(List.length (hexL zs lz)) : Int) ≤ (9223372036854775807 : Int),
    Dg.headStr (u8s (hexL zs lz)) (Int.toNat (↑(List.length (hexL zs lz)) : Int)) = some (txt (hexL zs lz)),
    ({ n := (3 : Nat), objs := [AObj.dead, AObj.cells [Value.pointer (some { block := (1 : Nat), off := (0 : Nat) }), Value.slice (some { block := (2 : Nat), off := (0 : Nat), spot := some (0 : Nat) }) (List.length (hexL zs lz)) (List.length (hexL zs lz))] (82 : Nat) (0 : Nat) (1 : Nat), AObj.cells (u8s zs) e (6 : Nat) (1 : Nat)] } : Go.Dg.Heap) = { n := (3 : Nat), objs := [AObj.dead, AObj.cells [Value.pointer (some { block := (1 : Nat), off := (0 : Nat) }), Value.slice (some { block := (2 : Nat), off := (0 : Nat), spot := some (0 : Nat) }) (List.length (hexL zs lz)) (List.length (hexL zs lz))] (82 : Nat) (0 : Nat) (1 : Nat), AObj.cells (u8s zs) e (6 : Nat) (1 : Nat)] },
    ([(2 : Nat)] : List Nat) = [(2 : Nat)]] (by kernel_rfl)
    ⟨loopH lz cz zs e hl hc hzl hz i hi (by kernel_rfl), (by first | rfl | (rw [hexL_len]; omega)), (by first | rfl | (rw [hexL_len]; omega)), (by first | rfl | (rw [hexL_len]; omega)), (by first | rfl | (rw [hexL_len]; omega)), (by first | rfl | (simp only [u8s_len, hexL_len]; omega) | (simp only [hexL_len, Int.toNat_natCast]; exact headStr_u8s _ _ (hexL_len _ _))), (by first | rfl | (simp only [u8s_len, hexL_len]; omega) | (simp only [hexL_len, Int.toNat_natCast]; exact headStr_u8s _ _ (hexL_len _ _))), (by first | rfl | (simp only [u8s_len, hexL_len]; omega) | (simp only [hexL_len, Int.toNat_natCast]; exact headStr_u8s _ _ (hexL_len _ _))), (by first | rfl | (simp only [u8s_len, hexL_len]; omega) | (simp only [hexL_len, Int.toNat_natCast]; exact headStr_u8s _ _ (hexL_len _ _))), trivial⟩
--> hexp
--< hexn
theorem hexn :
    evCall Tryz.prog 0 (bodied Tryz.prog) noOver sbs 2000 20 18 [Value.slice none 0 0] { n := 0, objs := [] } = some (Value.string ByteArray.empty, { n := 0, objs := [] }, []) :=
  Dg.evCall_hint (hs' := []) (hs := [Hint.val 18 9 (Value.bool false)])
    [Value.bool false = Value.bool false] (by kernel_rfl)
    ⟨rfl, trivial⟩
--> hexn
end Go.Proofs.YtflgpkkbifkpoaaGreatDoor.text

namespace Go.Proofs.YtflgpkkbifkpoaaGreatDoor.text
open Go.Dg (junk St Ex Ev Hint evCall evCallS evCode evCodeK innerKp evCodeS evLoop cleanSt ue bodied noOver sbOf headOf tailOf bodyOf rAssign rBody lBody Flats flatOver Heap AObj SCall Law ofLaw Fix)
set_option linter.unusedVariables false
set_option linter.unusedSimpArgs false

def aU (l : Nat) : Value := .slice (some ⟨0, 0, some 0⟩) l l
def TX (l i : Nat) (c : Value) (rest : List Value) : List Value := [aU l, undef, .string ⟨#[]⟩, .pointer (some ⟨1, 0, none⟩), undef, c, aU l, .int .i64 l, .int .i64 i] ++ rest
def X6a (l : Nat) (zs : List Int) : St := ⟨TX l 0 undef (js 13), ⟨2, [.cells [.pointer none, .slice none 0 0] 82 4 1, rowU zs]⟩, []⟩
def X6b (l : Nat) (zs : List Int) (i : Nat) (c : Int) (os : List Int) : St := ⟨TX l i (.int .u8 c) (js 13), ⟨3, [rowU os, BH os.length, rowU zs]⟩, []⟩
def X6e (l : Nat) (zs : List Int) (i : Nat) (c : Int) (os : List Int) : St := ⟨TX l i (.int .u8 c) (.bool false :: js 12), ⟨3, [rowU os, BH os.length, rowU zs]⟩, []⟩
--< x6a
theorem x6a (l : Nat) (zs : List Int) (hi : 0 < l) (hl : l ≤ 1000) (hzl : List.length zs = l) (h0 : 0 ≤ List.getD zs 0 0 ∧ List.getD zs 0 0 < 256) :
    ∃ s', runH (X6a l zs) = some (Ex.normal, s') ∧ clH s' = X6b l zs 1 (List.getD zs 0 0) [hexd (List.getD zs 0 0 / 16), hexd (List.getD zs 0 0 % 16)] :=
  Dg.code_round (f := 18) clH (hs := [Hint.val 18 9 (Value.bool true),
    Hint.soft 18 10 (Value.pointer (some { block := 0, off := 0 })),
    Hint.soft 18 11 (Value.int IntKind.u8 (List.getD zs 0 0)),
    Hint.soft 18 14 (Value.int IntKind.u8 (hexd (List.getD zs 0 0 / 16))),
    Hint.val 18 17 (Value.int IntKind.u8 (↑(BitVec.toNat (BitVec.ofInt 8 (List.getD zs 0 0) &&& BitVec.ofInt 8 15)) : Int)),
    Hint.soft 18 18 (Value.int IntKind.u8 (hexd (List.getD zs 0 0 % 16)))])
    [Value.bool (decide ((↑(0 : Nat) : Int) < (↑l : Int))) = Value.bool true,
    (0 : Int) ≤ (↑(0 : Nat) : Int) ∧ (↑(0 : Nat) : Int) < (↑l : Int),
    Value.pointer (some { block := (0 : Nat), off := (0 : Nat) }) = Value.pointer (some { block := (0 : Nat), off := (0 : Nat) }),
    (u8s zs)[(0 : Nat)]? = some (Value.int IntKind.u8 (List.getD zs (0 : Nat) (0 : Int))),
    Dg.strAt { data := #[(48 : UInt8), (49 : UInt8), (50 : UInt8), (51 : UInt8), (52 : UInt8), (53 : UInt8), (54 : UInt8), (55 : UInt8), (56 : UInt8), (57 : UInt8), (97 : UInt8), (98 : UInt8), (99 : UInt8), (100 : UInt8), (101 : UInt8), (102 : UInt8)] } (Int.fdiv (List.getD zs (0 : Nat) (0 : Int)) ((2 : Int) ^ (4 : Nat))) = some (hexd (List.getD zs (0 : Nat) (0 : Int) / (16 : Int))),
    Value.int IntKind.u8 (IntKind.wrap IntKind.u8 (↑(BitVec.toNat (BitVec.ofInt (8 : Nat) (List.getD zs (0 : Nat) (0 : Int)) &&& BitVec.ofInt (8 : Nat) (15 : Int))) : Int)) = Value.int IntKind.u8 (↑(BitVec.toNat (BitVec.ofInt (8 : Nat) (List.getD zs (0 : Nat) (0 : Int)) &&& BitVec.ofInt (8 : Nat) (15 : Int))) : Int),
    Dg.strAt { data := #[(48 : UInt8), (49 : UInt8), (50 : UInt8), (51 : UInt8), (52 : UInt8), (53 : UInt8), (54 : UInt8), (55 : UInt8), (56 : UInt8), (57 : UInt8), (97 : UInt8), (98 : UInt8), (99 : UInt8), (100 : UInt8), (101 : UInt8), (102 : UInt8)] } (↑(BitVec.toNat (BitVec.ofInt (8 : Nat) (List.getD zs (0 : Nat) (0 : Int)) &&& BitVec.ofInt (8 : Nat) (15 : Int))) : Int) = some (hexd (List.getD zs (0 : Nat) (0 : Int) % (16 : Int)))] (by kernel_rfl)
    ⟨Dg.vtrue (by omega), by omega, rfl, u8_load zs 0 (by omega), (hex_of h0).1, by simp only [Dg.w_u8, Dg.w_u16, Dg.w_u32, Dg.w_i8, Dg.w_i32, Value.int.injEq, true_and]; omega, (hex_of h0).2, trivial⟩
--> x6a
--< x6b
theorem x6b (l : Nat) (zs : List Int) (i : Nat) (c : Int) (os : List Int) (ho : List.length os = 2 * i) (i1 : 1 ≤ i) (hi : i < l) (hl : l ≤ 1000) (hzl : List.length zs = l) (h0 : 0 ≤ List.getD zs i 0 ∧ List.getD zs i 0 < 256) :
    ∃ s', runH (X6b l zs i c os) = some (Ex.normal, s') ∧ clH s' = X6b l zs (i + 1) (List.getD zs i 0) (os ++ [hexd (List.getD zs i 0 / 16)] ++ [hexd (List.getD zs i 0 % 16)]) :=
  Dg.code_round (f := 18) clH (hs := [Hint.val 18 9 (Value.bool true),
    Hint.soft 18 10 (Value.pointer (some { block := 0, off := i })),
    Hint.soft 18 11 (Value.int IntKind.u8 (List.getD zs i 0)),
    Hint.soft 18 14 (Value.int IntKind.u8 (hexd (List.getD zs i 0 / 16))),
    Hint.softH 40 14 (Value.slice (some { block := 4, off := 0, spot := some 0 }) (List.length (os ++ [hexd (List.getD zs i 0 / 16)])) (List.length (os ++ [hexd (List.getD zs i 0 / 16)]))) { n := 5, objs := [AObj.cells (u8s (os ++ [hexd (List.getD zs i 0 / 16)])) 5 5 1, AObj.cells [Value.int IntKind.u8 (hexd (List.getD zs i 0 / 16))] 5 0 1, AObj.dead, AObj.cells [Value.pointer (some { block := 1, off := 0 }), Value.slice (some { block := 2, off := 0, spot := some 0 }) (List.length os) (List.length os)] 82 0 1, AObj.cells (u8s zs) 5 5 1] } [2],
    Hint.val 18 17 (Value.int IntKind.u8 (↑(BitVec.toNat (BitVec.ofInt 8 (List.getD zs i 0) &&& BitVec.ofInt 8 15)) : Int)),
    Hint.soft 18 18 (Value.int IntKind.u8 (hexd (List.getD zs i 0 % 16))),
    Hint.softH 40 14 (Value.slice (some { block := 5, off := 0, spot := some 0 }) (List.length (os ++ [hexd (List.getD zs i 0 / 16)] ++ [hexd (List.getD zs i 0 % 16)])) (List.length (os ++ [hexd (List.getD zs i 0 / 16)] ++ [hexd (List.getD zs i 0 % 16)]))) { n := 6, objs := [AObj.cells (u8s (os ++ [hexd (List.getD zs i 0 / 16)] ++ [hexd (List.getD zs i 0 % 16)])) 5 5 1, AObj.cells [Value.int IntKind.u8 (hexd (List.getD zs i 0 % 16))] 5 0 1, AObj.dead, AObj.dead, AObj.cells [Value.pointer (some { block := 1, off := 0 }), Value.slice (some { block := 3, off := 0, spot := some 0 }) (List.length (os ++ [hexd (List.getD zs i 0 / 16)])) (List.length (os ++ [hexd (List.getD zs i 0 / 16)]))] 82 0 1, AObj.cells (u8s zs) 5 5 1] } [3],
    Hint.val 18 20 (Value.int IntKind.i64 ((↑i : Int) + 1))])
    [Value.bool (decide ((↑i : Int) < (↑l : Int))) = Value.bool true,
    (0 : Int) ≤ (↑i : Int) ∧ (↑i : Int) < (↑l : Int),
    Value.pointer (some { block := (0 : Nat), off := (0 : Nat) + Int.toNat (↑i : Int) * (1 : Nat) }) = Value.pointer (some { block := (0 : Nat), off := i }),
    (u8s zs)[i]? = some (Value.int IntKind.u8 (List.getD zs i (0 : Int))),
    Dg.strAt { data := #[(48 : UInt8), (49 : UInt8), (50 : UInt8), (51 : UInt8), (52 : UInt8), (53 : UInt8), (54 : UInt8), (55 : UInt8), (56 : UInt8), (57 : UInt8), (97 : UInt8), (98 : UInt8), (99 : UInt8), (100 : UInt8), (101 : UInt8), (102 : UInt8)] } (Int.fdiv (List.getD zs i (0 : Int)) ((2 : Int) ^ (4 : Nat))) = some (hexd (List.getD zs i (0 : Int) / (16 : Int))),
    Dg.evAppend Tryz.prog { n := (4 : Nat), objs := [AObj.cells [Value.int IntKind.u8 (hexd (List.getD zs i (0 : Int) / (16 : Int)))] (5 : Nat) (0 : Nat) (1 : Nat), AObj.cells (u8s os) (5 : Nat) (5 : Nat) (1 : Nat), AObj.cells [Value.pointer (some { block := (1 : Nat), off := (0 : Nat) }), Value.slice (some { block := (2 : Nat), off := (0 : Nat), spot := some (0 : Nat) }) (List.length os) (List.length os)] (82 : Nat) (0 : Nat) (1 : Nat), AObj.cells (u8s zs) (5 : Nat) (5 : Nat) (1 : Nat)] } (41 : Nat) (41 : Nat) (Value.slice (some { block := (2 : Nat), off := (0 : Nat), spot := some (0 : Nat) }) (List.length os) (List.length os)) (Value.slice (some { block := (3 : Nat), off := (0 : Nat) }) (1 : Nat) (1 : Nat)) = some (Value.slice (some { block := (4 : Nat), off := (0 : Nat), spot := some (0 : Nat) }) (List.length (os ++ [hexd (List.getD zs i (0 : Int) / (16 : Int))])) (List.length (os ++ [hexd (List.getD zs i (0 : Int) / (16 : Int))])), { n := (5 : Nat), objs := [AObj.cells (u8s (os ++ [hexd (List.getD zs i (0 : Int) / (16 : Int))])) (5 : Nat) (5 : Nat) (1 : Nat), AObj.cells [Value.int IntKind.u8 (hexd (List.getD zs i (0 : Int) / (16 : Int)))] (5 : Nat) (0 : Nat) (1 : Nat), AObj.dead, AObj.cells [Value.pointer (some { block := (1 : Nat), off := (0 : Nat) }), Value.slice (some { block := (2 : Nat), off := (0 : Nat), spot := some (0 : Nat) }) (List.length os) (List.length os)] (82 : Nat) (0 : Nat) (1 : Nat), AObj.cells (u8s zs) (5 : Nat) (5 : Nat) (1 : Nat)] }, [(2 : Nat)]),
    Value.int IntKind.u8 (IntKind.wrap IntKind.u8 (↑(BitVec.toNat (BitVec.ofInt (8 : Nat) (List.getD zs i (0 : Int)) &&& BitVec.ofInt (8 : Nat) (15 : Int))) : Int)) = Value.int IntKind.u8 (↑(BitVec.toNat (BitVec.ofInt (8 : Nat) (List.getD zs i (0 : Int)) &&& BitVec.ofInt (8 : Nat) (15 : Int))) : Int),
    Dg.strAt { data := #[(48 : UInt8), (49 : UInt8), (50 : UInt8), (51 : UInt8), (52 : UInt8), (53 : UInt8), (54 : UInt8), (55 : UInt8), (56 : UInt8), (57 : UInt8), (97 : UInt8), (98 : UInt8), (99 : UInt8), (100 : UInt8), (101 : UInt8), (102 : UInt8)] } (↑(BitVec.toNat (BitVec.ofInt (8 : Nat) (List.getD zs i (0 : Int)) &&& BitVec.ofInt (8 : Nat) (15 : Int))) : Int) = some (hexd (List.getD zs i (0 : Int) % (16 : Int))),
    Dg.evAppend Tryz.prog { n := (5 : Nat), objs := [AObj.cells [Value.int IntKind.u8 (hexd (List.getD zs i (0 : Int) % (16 : Int)))] (5 : Nat) (0 : Nat) (1 : Nat), AObj.cells (u8s (os ++ [hexd (List.getD zs i (0 : Int) / (16 : Int))])) (5 : Nat) (5 : Nat) (1 : Nat), AObj.dead, AObj.cells [Value.pointer (some { block := (1 : Nat), off := (0 : Nat) }), Value.slice (some { block := (3 : Nat), off := (0 : Nat), spot := some (0 : Nat) }) (List.length (os ++ [hexd (List.getD zs i (0 : Int) / (16 : Int))])) (List.length (os ++ [hexd (List.getD zs i (0 : Int) / (16 : Int))]))] (82 : Nat) (0 : Nat) (1 : Nat), AObj.cells (u8s zs) (5 : Nat) (5 : Nat) (1 : Nat)] } (41 : Nat) (41 : Nat) (Value.slice (some { block := (3 : Nat), off := (0 : Nat), spot := some (0 : Nat) }) (List.length (os ++ [hexd (List.getD zs i (0 : Int) / (16 : Int))])) (List.length (os ++ [hexd (List.getD zs i (0 : Int) / (16 : Int))]))) (Value.slice (some { block := (4 : Nat), off := (0 : Nat) }) (1 : Nat) (1 : Nat)) = some (Value.slice (some { block := (5 : Nat), off := (0 : Nat), spot := some (0 : Nat) }) (List.length (os ++ [hexd (List.getD zs i (0 : Int) / (16 : Int))] ++ [hexd (List.getD zs i (0 : Int) % (16 : Int))])) (List.length (os ++ [hexd (List.getD zs i (0 : Int) / (16 : Int))] ++ [hexd (List.getD zs i (0 : Int) % (16 : Int))])), { n := (6 : Nat), objs := [AObj.cells (u8s (os ++ [hexd (List.getD zs i (0 : Int) / (16 : Int))] ++ [hexd (List.getD zs i (0 : Int) % (16 : Int))])) (5 : Nat) (5 : Nat) (1 : Nat), AObj.cells [Value.int IntKind.u8 (hexd (List.getD zs i (0 : Int) % (16 : Int)))] (5 : Nat) (0 : Nat) (1 : Nat), AObj.dead, AObj.dead, AObj.cells [Value.pointer (some { block := (1 : Nat), off := (0 : Nat) }), Value.slice (some { block := (3 : Nat), off := (0 : Nat), spot := some (0 : Nat) }) (List.length (os ++ [hexd (List.getD zs i (0 : Int) / (16 : Int))])) (List.length (os ++ [hexd (List.getD zs i (0 : Int) / (16 : Int))]))] (82 : Nat) (0 : Nat) (1 : Nat), AObj.cells (u8s zs) (5 : Nat) (5 : Nat) (1 : Nat)] }, [(3 : Nat)]),
    Value.int IntKind.i64 (IntKind.wrap IntKind.i64 ((↑i : Int) + (1 : Int))) = Value.int IntKind.i64 ((↑i : Int) + (1 : Int))] (by kernel_rfl)
    ⟨Dg.vtrue (by omega), by omega, Dg.ptr_eq (by omega), u8_load zs i (by omega), (hex_of h0).1, appU (os := os) (x := hexd (zs.getD i 0 / 16)) rfl rfl rfl (by omega) (by simp) rfl rfl, by simp only [Dg.w_u8, Dg.w_u16, Dg.w_u32, Dg.w_i8, Dg.w_i32, Value.int.injEq, true_and]; omega, (hex_of h0).2, appU (os := os ++ [hexd (zs.getD i 0 / 16)]) (x := hexd (zs.getD i 0 % 16)) rfl rfl rfl (by simp; omega) (by simp) rfl rfl, Dg.i64_eq rfl (by omega) (by omega), trivial⟩
--> x6b
--< x6e
theorem x6e (l : Nat) (zs : List Int) (c : Int) (os : List Int) :
    runH (X6b l zs l c os) = some (Ex.exit 0, ({ ts := [Value.slice (some { block := 0, off := 0, spot := some 0 }) l l, undef, Value.string { data := #[] }, Value.pointer (some { block := 1, off := 0 }), undef, Value.int IntKind.u8 c, Value.slice (some { block := 0, off := 0, spot := some 0 }) l l, Value.int IntKind.i64 (↑l : Int), Value.int IntKind.i64 (↑l : Int), Value.bool false, junk, junk, junk, junk, junk, junk, junk, junk, junk, junk, junk, junk], H := { n := 3, objs := [AObj.cells (u8s os) 5 5 1, AObj.cells [Value.pointer (some { block := 1, off := 0 }), Value.slice (some { block := 2, off := 0, spot := some 0 }) (List.length os) (List.length os)] 82 0 1, AObj.cells (u8s zs) 5 5 1] }, log := [] } : St)) :=
  Dg.evCode_hint (f := 18) (hs' := []) (hs := [Hint.val 18 9 (Value.bool false)])
    [Value.bool (decide ((↑l : Int) < (↑l : Int))) = Value.bool false] (by kernel_rfl)
    ⟨Dg.vfalse (by omega), trivial⟩
--> x6e
def HX (l : Nat) (zs : List Int) : Nat → St
  | 0 => X6a l zs
  | i + 1 => X6b l zs (i + 1) (zs.getD i 0) (hexL zs (i + 1))
theorem loopX (l : Nat) (zs : List Int) (hl : l ≤ 1000) (hzl : zs.length = l) (hz : ∀ j, 0 ≤ zs.getD j 0 ∧ zs.getD j 0 < 256) (i : Nat) (hi : l = i + 1) {s0 : St} (h0 : clH s0 = X6a l zs) :
    evLoop runH clH 2000 s0 = some (.exit 0, X6e l zs l (zs.getD i 0) (hexL zs l)) := by
  refine Dg.loop_run (S := HX l zs) (n := l) (by simp) (fun j hj => ?_) ?_ (by omega) h0
  · cases j with
    | zero => exact x6a l zs hj hl hzl (hz 0)
    | succ j => exact x6b l zs (j + 1) (zs.getD j 0) (hexL zs (j + 1)) (hexL_len ..) (by omega) hj hl hzl (hz _)
  · have e1 : HX l zs l = X6b l zs l (zs.getD i 0) (hexL zs l) := by
      clear h0
      subst hi
      rfl
    rw [e1]
    exact x6e l zs _ _
--< hexu
theorem hexu (l : Nat) (zs : List Int) (hl : l ≤ 1000) (hzl : List.length zs = l) (hz : ∀ (j : Nat), 0 ≤ List.getD zs j 0 ∧ List.getD zs j 0 < 256) (i : Nat) (hi : l = i + 1) :
    evCall Tryz.prog 0 (bodied Tryz.prog) noOver sbs 2000 20 18 [aU l] { n := 1, objs := [rowU zs] } = some (Value.string (txt (hexL zs l)), { n := 1, objs := [AObj.cells (u8s zs) 5 5 1] }, []) :=
  Dg.evCall_hint (hs' := []) (hs := [Hint.loop 18 (Ex.exit 0) (X6e l zs l (List.getD zs i 0) (hexL zs l)),
    Hint.softH 41 7 (Value.pointer (some { block := 2, off := 0 })) { n := 3, objs := [AObj.cells (u8s (hexL zs l)) 5 5 1, AObj.cells [Value.pointer (some { block := 1, off := 0 }), Value.slice (some { block := 2, off := 0, spot := some 0 }) (List.length (hexL zs l)) (List.length (hexL zs l))] 82 0 1, AObj.cells (u8s zs) 5 5 1] } [],
    Hint.softH 41 13 (Value.string (txt (hexL zs l))) { n := 3, objs := [AObj.dead, AObj.cells [Value.pointer (some { block := 1, off := 0 }), Value.slice (some { block := 2, off := 0, spot := some 0 }) (List.length (hexL zs l)) (List.length (hexL zs l))] 82 0 1, AObj.cells (u8s zs) 5 5 1] } [2]])
    [evLoop runH clH 2000 { ts := [Value.slice (some { block := 0, off := 0, spot := some 0 }) l l, undef, Value.string { data := #[] }, Value.pointer (some { block := 1, off := 0 }), undef, undef, Value.slice (some { block := 0, off := 0, spot := some 0 }) l l, Value.int IntKind.i64 (↑l : Int), Value.int IntKind.i64 0, undef, undef, undef, undef, undef, undef, undef, undef, undef, undef, undef, undef, undef], H := { n := 2, objs := [AObj.cells [Value.pointer none, Value.slice none 0 0] 82 0 1, AObj.cells (u8s zs) 5 5 1] }, log := [] } = some (Ex.exit 0, X6e l zs l (List.getD zs i 0) (hexL zs l)),
    List.length (hexL zs l) ≠ (0 : Nat),
    Value.pointer (some { block := (2 : Nat), off := (0 : Nat) }) = Value.pointer (some { block := (2 : Nat), off := (0 : Nat) }),
    ({ n := (3 : Nat), objs := [AObj.cells (u8s (hexL zs l)) (5 : Nat) (5 : Nat) (1 : Nat), AObj.cells [Value.pointer (some { block := (1 : Nat), off := (0 : Nat) }), Value.slice (some { block := (2 : Nat), off := (0 : Nat), spot := some (0 : Nat) }) (List.length (hexL zs l)) (List.length (hexL zs l))] (82 : Nat) (0 : Nat) (1 : Nat), AObj.cells (u8s zs) (5 : Nat) (5 : Nat) (1 : Nat)] } : Go.Dg.Heap) = { n := (3 : Nat), objs := [AObj.cells (u8s (hexL zs l)) (5 : Nat) (5 : Nat) (1 : Nat), AObj.cells [Value.pointer (some { block := (1 : Nat), off := (0 : Nat) }), Value.slice (some { block := (2 : Nat), off := (0 : Nat), spot := some (0 : Nat) }) (List.length (hexL zs l)) (List.length (hexL zs l))] (82 : Nat) (0 : Nat) (1 : Nat), AObj.cells (u8s zs) (5 : Nat) (5 : Nat) (1 : Nat)] },
    ([] : List Nat) = [],
    (0 : Int) < (↑(List.length (hexL zs l)) : Int) ∧ Int.toNat (↑(List.length (hexL zs l)) : Int) ≤ List.length (u8s (hexL zs l)) ∧ (↑(List.length (hexL zs l)) : Int) ≤ (9223372036854775807 : Int),
    Dg.headStr (u8s (hexL zs l)) (Int.toNat (↑(List.length (hexL zs l)) : Int)) = some (txt (hexL zs l)),
    ({ n := (3 : Nat), objs := [AObj.dead, AObj.cells [Value.pointer (some { block := (1 : Nat), off := (0 : Nat) }), Value.slice (some { block := (2 : Nat), off := (0 : Nat), spot := some (0 : Nat) }) (List.length (hexL zs l)) (List.length (hexL zs l))] (82 : Nat) (0 : Nat) (1 : Nat), AObj.cells (u8s zs) (5 : Nat) (5 : Nat) (1 : Nat)] } : Go.Dg.Heap) = { n := (3 : Nat), objs := [AObj.dead, AObj.cells [Value.pointer (some { block := (1 : Nat), off := (0 : Nat) }), Value.slice (some { block := (2 : Nat), off := (0 : Nat), spot := some (0 : Nat) }) (List.length (hexL zs l)) (List.length (hexL zs l))] (82 : Nat) (0 : Nat) (1 : Nat), AObj.cells (u8s zs) (5 : Nat) (5 : Nat) (1 : Nat)] },
    ([(2 : Nat)] : List Nat) = [(2 : Nat)]] (by kernel_rfl)
    ⟨loopX l zs hl hzl hz i hi (by kernel_rfl), (by first | rfl | (rw [hexL_len]; omega)), (by first | rfl | (rw [hexL_len]; omega)), (by first | rfl | (rw [hexL_len]; omega)), (by first | rfl | (rw [hexL_len]; omega)), (by first | rfl | (simp only [u8s_len, hexL_len]; omega) | (simp only [hexL_len, Int.toNat_natCast]; exact headStr_u8s _ _ (hexL_len _ _))), (by first | rfl | (simp only [u8s_len, hexL_len]; omega) | (simp only [hexL_len, Int.toNat_natCast]; exact headStr_u8s _ _ (hexL_len _ _))), (by first | rfl | (simp only [u8s_len, hexL_len]; omega) | (simp only [hexL_len, Int.toNat_natCast]; exact headStr_u8s _ _ (hexL_len _ _))), (by first | rfl | (simp only [u8s_len, hexL_len]; omega) | (simp only [hexL_len, Int.toNat_natCast]; exact headStr_u8s _ _ (hexL_len _ _))), trivial⟩
--> hexu
end Go.Proofs.YtflgpkkbifkpoaaGreatDoor.text

namespace Go.Proofs.YtflgpkkbifkpoaaGreatDoor.text
open Go.Dg (Heap AObj)
set_option linter.unusedVariables false
set_option linter.unusedSimpArgs false

theorem txt_size (zs : List Int) : (txt zs).size = zs.length := by simp [txt, ByteArray.size]
theorem txt_get (zs : List Int) (pos : Nat) (h : pos < (txt zs).size) (hz : 0 ≤ zs.getD pos 0 ∧ zs.getD pos 0 < 256) : (((txt zs)[pos]'h).toNat : Int) = zs.getD pos 0 := by
  have h2 : pos < zs.length := by rw [txt_size] at h; exact h
  have e : (txt zs)[pos]'h = UInt8.ofNat (zs.getD pos 0).toNat := by
    simp [txt, ByteArray.getElem_eq_getElem_data, List.getD_eq_getElem?_getD, h2]
  rw [e]
  simp only [UInt8.toNat_ofNat']
  omega
theorem dec_lo (zs : List Int) (pos : Nat) (h : pos < zs.length) (hz : 0 ≤ zs.getD pos 0 ∧ zs.getD pos 0 < 128) : Utf8.decode (txt zs) pos = ((zs.getD pos 0).toNat, 1) := by
  have hs : pos < (txt zs).size := by rw [txt_size]; exact h
  have hg := txt_get zs pos hs ⟨hz.1, by omega⟩
  rw [decode_ascii (txt zs) pos hs (by omega)]
  congr 1
  omega
theorem dec_hi (zs : List Int) (pos : Nat) (h : pos < zs.length) (hz : 128 ≤ zs.getD pos 0 ∧ zs.getD pos 0 < 256) : 128 ≤ (Utf8.decode (txt zs) pos).1 := by
  have hs : pos < (txt zs).size := by rw [txt_size]; exact h
  have hg := txt_get zs pos hs ⟨by omega, hz.2⟩
  have hb : ((txt zs).get! (pos + 0)).toNat = ((txt zs)[pos]'hs).toNat := by
    simp [ByteArray.get!, ByteArray.getElem_eq_getElem_data, hs]
  have hr : Utf8.runeError = 65533 := rfl
  unfold Utf8.decode
  simp only [hb]
  rw [if_neg (by omega)]
  repeat' split
  all_goals first
    | (rename_i hc; simp only [Bool.and_eq_true, decide_eq_true_eq, ge_iff_le] at hc; simp only; omega)
    | (simp only [hr]; omega)
    | (simp only; omega)
/-- The next sign: one below 128. -/
theorem next_lo {H : Heap} {k : Nat} {zs : List Int} {pos : Nat} (hk : H.get k = .iter (txt zs) pos) (h : pos < zs.length) (hz : 0 ≤ zs.getD pos 0 ∧ zs.getD pos 0 < 128) :
    Dg.nextAt H k = some (.tuple #[.bool true, .int .i64 pos, .int .i32 (zs.getD pos 0)], H.set k (.iter (txt zs) (pos + 1)), [k]) := by
  unfold Dg.nextAt
  rw [hk]
  simp only [txt_size, if_pos h, dec_lo zs pos h hz]
  have : (((zs.getD pos 0).toNat : Nat) : Int) = zs.getD pos 0 := by omega
  rw [this]
  rfl
/-- No sign is left. -/
theorem next_end {H : Heap} {k : Nat} {zs : List Int} {pos : Nat} (hk : H.get k = .iter (txt zs) pos) (h : pos = zs.length) : Dg.nextAt H k = some (.tuple #[.bool false], H, []) := by
  unfold Dg.nextAt
  rw [hk]
  simp only [txt_size, h, Nat.lt_irrefl, if_false]
end Go.Proofs.YtflgpkkbifkpoaaGreatDoor.text
