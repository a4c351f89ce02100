/- 'text.Hex' of layer 4 as a contract, over whatever memory holds the bytes. -/
import Derived.Test.YtflgpkkbifkpoaaDoorRows
import Derived.Test.YtflgpkkbifkpoaaDoorTextHex
namespace Go.Proofs.YtflgpkkbifkpoaaDoor.text
open Go.Dg (junk St Ex Ev Hint evCall evCallS evCode evCodeK innerKp evCodeS evLoop cleanSt ue bodied noOver sbOf headOf tailOf bodyOf rAssign rBody lBody Flats flatOver Heap AObj SCall Law ofLaw Fix)
set_option linter.unusedVariables false
set_option linter.unusedSimpArgs false

/-- The signs of the first i bytes. -/
def hexL (zs : List Int) : Nat → List Int
  | 0 => []
  | i + 1 => hexL zs i ++ [hexd (zs.getD i 0 / 16)] ++ [hexd (zs.getD i 0 % 16)]
theorem hexL_len (zs : List Int) : ∀ i, (hexL zs i).length = 2 * i := by
  intro i
  induction i with
  | zero => rfl
  | succ i ih => simp [hexL, ih]; omega
def txt (zs : List Int) : ByteArray := ⟨(zs.map fun n => UInt8.ofNat n.toNat).toArray⟩
theorem headStr_u8s (zs : List Int) (n : Nat) (h : zs.length = n) : Dg.headStr (u8s zs) n = some (txt zs) := by
  unfold Dg.headStr
  rw [List.take_of_length_le (by rw [u8s_len]; omega)]
  unfold u8s
  rw [Dg.cellInts_map]
  rfl
def HH (lz cz : Nat) (zs : List Int) (e : Nat) : Nat → St
  | 0 => H6a lz cz zs e
  | i + 1 => H6b lz cz zs e (i + 1) (zs.getD i 0) (hexL zs (i + 1))
theorem loopH (lz cz : Nat) (zs : List Int) (e : Nat) (hl : lz ≤ 1000) (hc : lz ≤ cz) (hzl : zs.length = cz) (hz : ∀ j, 0 ≤ zs.getD j 0 ∧ zs.getD j 0 < 256) (i : Nat) (hi : lz = i + 1) {s0 : St} (h0 : clH s0 = H6a lz cz zs e) :
    evLoop runH clH 2000 s0 = some (.exit 0, H6e lz cz zs e lz (zs.getD i 0) (hexL zs lz)) := by
  refine Dg.loop_run (S := HH lz cz zs e) (n := lz) (by simp) (fun j hj => ?_) ?_ (by omega) h0
  · cases j with
    | zero => exact h6a lz cz zs e hj hl hc hzl (hz 0)
    | succ j => exact h6b lz cz zs e (j + 1) (zs.getD j 0) (hexL zs (j + 1)) (hexL_len ..) (by omega) hj hl hc hzl (hz _)
  · have e1 : HH lz cz zs e lz = H6b lz cz zs e lz (zs.getD i 0) (hexL zs lz) := by
      clear h0
      subst hi
      rfl
    rw [e1]
    exact h6e lz cz zs e _ _
--< hex0
theorem hex0 (cz : Nat) (zs : List Int) (e : Nat) :
    evCall Tryd.prog 0 (bodied Tryd.prog) noOver sbs 2000 20 6 [aB 0 cz] { n := 1, objs := [oB zs e] } = some (Value.string ByteArray.empty, { n := 1, objs := [AObj.cells (u8s zs) e 6 1] }, []) :=
  Dg.evCall_hint (hs' := []) (hs := [Hint.val 6 9 (Value.bool false)])
    [Value.bool false = Value.bool false] (by kernel_rfl)
    ⟨rfl, trivial⟩
--> hex0
--< hexp
theorem hexp (lz : Nat) (cz : Nat) (zs : List Int) (e : Nat) (hl : lz ≤ 1000) (hc : lz ≤ cz) (hzl : List.length zs = cz) (hz : ∀ (j : Nat), 0 ≤ List.getD zs j 0 ∧ List.getD zs j 0 < 256) (i : Nat) (hi : lz = i + 1) :
    evCall Tryd.prog 0 (bodied Tryd.prog) noOver sbs 2000 20 6 [aB lz cz] { n := 1, objs := [oB zs e] } = some (Value.string (txt (hexL zs lz)), { n := 1, objs := [AObj.cells (u8s zs) e 6 1] }, []) :=
  Dg.evCall_hint (hs' := []) (hs := [Hint.loop 6 (Ex.exit 0) (H6e lz cz zs e lz (List.getD zs i 0) (hexL zs lz)),
    Hint.softH 22 7 (Value.pointer (some { block := 2, off := 0 })) { n := 3, objs := [AObj.cells (u8s (hexL zs lz)) 5 5 1, AObj.cells [Value.pointer (some { block := 1, off := 0 }), Value.slice (some { block := 2, off := 0, spot := some 0 }) (List.length (hexL zs lz)) (List.length (hexL zs lz))] 52 0 1, AObj.cells (u8s zs) e 6 1] } [],
    Hint.softH 22 13 (Value.string (txt (hexL zs lz))) { n := 3, objs := [AObj.dead, AObj.cells [Value.pointer (some { block := 1, off := 0 }), Value.slice (some { block := 2, off := 0, spot := some 0 }) (List.length (hexL zs lz)) (List.length (hexL zs lz))] 52 0 1, AObj.cells (u8s zs) e 6 1] } [2]])
    [evLoop runH clH 2000 { ts := [Value.slice (some { block := 0, off := 0 }) lz cz, undef, Value.string { data := #[] }, Value.pointer (some { block := 1, off := 0 }), undef, undef, Value.slice (some { block := 0, off := 0 }) lz cz, Value.int IntKind.i64 (↑lz : Int), Value.int IntKind.i64 0, undef, undef, undef, undef, undef, undef, undef, undef, undef, undef, undef, undef, undef], H := { n := 2, objs := [AObj.cells [Value.pointer none, Value.slice none 0 0] 52 0 1, AObj.cells (u8s zs) e 6 1] }, log := [] } = some (Ex.exit 0, H6e lz cz zs e lz (List.getD zs i 0) (hexL zs lz)),
    List.length (hexL zs lz) ≠ (0 : Nat),
    Value.pointer (some { block := (2 : Nat), off := (0 : Nat) }) = Value.pointer (some { block := (2 : Nat), off := (0 : Nat) }),
    ({ n := (3 : Nat), objs := [AObj.cells (u8s (hexL zs lz)) (5 : Nat) (5 : Nat) (1 : Nat), AObj.cells [Value.pointer (some { block := (1 : Nat), off := (0 : Nat) }), Value.slice (some { block := (2 : Nat), off := (0 : Nat), spot := some (0 : Nat) }) (List.length (hexL zs lz)) (List.length (hexL zs lz))] (52 : Nat) (0 : Nat) (1 : Nat), AObj.cells (u8s zs) e (6 : Nat) (1 : Nat)] } : Go.Dg.Heap) = { n := (3 : Nat), objs := [AObj.cells (u8s (hexL zs lz)) (5 : Nat) (5 : Nat) (1 : Nat), AObj.cells [Value.pointer (some { block := (1 : Nat), off := (0 : Nat) }), Value.slice (some { block := (2 : Nat), off := (0 : Nat), spot := some (0 : Nat) }) (List.length (hexL zs lz)) (List.length (hexL zs lz))] (52 : Nat) (0 : Nat) (1 : Nat), AObj.cells (u8s zs) e (6 : Nat) (1 : Nat)] },
    ([] : List Nat) = [],
    (0 : Int) < (↑(List.length (hexL zs lz)) : Int) ∧ Int.toNat (↑(List.length (hexL zs lz)) : Int) ≤ List.length (u8s (hexL zs lz)) ∧ (↑(List.length (hexL zs lz)) : Int) ≤ (9223372036854775807 : Int),
    Dg.headStr (u8s (hexL zs lz)) (Int.toNat (↑(List.length (hexL zs lz)) : Int)) = some (txt (hexL zs lz)),
    ({ n := (3 : Nat), objs := [AObj.dead, AObj.cells [Value.pointer (some { block := (1 : Nat), off := (0 : Nat) }), Value.slice (some { block := (2 : Nat), off := (0 : Nat), spot := some (0 : Nat) }) (List.length (hexL zs lz)) (List.length (hexL zs lz))] (52 : Nat) (0 : Nat) (1 : Nat), AObj.cells (u8s zs) e (6 : Nat) (1 : Nat)] } : Go.Dg.Heap) = { n := (3 : Nat), objs := [AObj.dead, AObj.cells [Value.pointer (some { block := (1 : Nat), off := (0 : Nat) }), Value.slice (some { block := (2 : Nat), off := (0 : Nat), spot := some (0 : Nat) }) (List.length (hexL zs lz)) (List.length (hexL zs lz))] (52 : Nat) (0 : Nat) (1 : Nat), AObj.cells (u8s zs) e (6 : Nat) (1 : Nat)] },
    ([(2 : Nat)] : List Nat) = [(2 : Nat)]] (by kernel_rfl)
    ⟨loopH lz cz zs e hl hc hzl hz i hi (by kernel_rfl), (by first | rfl | (rw [hexL_len]; omega)), (by first | rfl | (rw [hexL_len]; omega)), (by first | rfl | (rw [hexL_len]; omega)), (by first | rfl | (rw [hexL_len]; omega)), (by first | rfl | (simp only [u8s_len, hexL_len]; omega) | (simp only [hexL_len, Int.toNat_natCast]; exact headStr_u8s _ _ (hexL_len _ _))), (by first | rfl | (simp only [u8s_len, hexL_len]; omega) | (simp only [hexL_len, Int.toNat_natCast]; exact headStr_u8s _ _ (hexL_len _ _))), (by first | rfl | (simp only [u8s_len, hexL_len]; omega) | (simp only [hexL_len, Int.toNat_natCast]; exact headStr_u8s _ _ (hexL_len _ _))), (by first | rfl | (simp only [u8s_len, hexL_len]; omega) | (simp only [hexL_len, Int.toNat_natCast]; exact headStr_u8s _ _ (hexL_len _ _))), trivial⟩
--> hexp
--< hexn
theorem hexn :
    evCall Tryd.prog 0 (bodied Tryd.prog) noOver sbs 2000 20 6 [Value.slice none 0 0] { n := 0, objs := [] } = some (Value.string ByteArray.empty, { n := 0, objs := [] }, []) :=
  Dg.evCall_hint (hs' := []) (hs := [Hint.val 6 9 (Value.bool false)])
    [Value.bool false = Value.bool false] (by kernel_rfl)
    ⟨rfl, trivial⟩
--> hexn
end Go.Proofs.YtflgpkkbifkpoaaDoor.text
