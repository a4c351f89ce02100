/- What the reference's 'Unhex' of layer 4 comes to. -/
import Derived.Test.YtflgpkkbifkpoaaDoorRows
import Derived.Test.YtflgpkkbifkpoaaDoorTextV
import Derived.Test.YtflgpkkbifkpoaaDoorTextUnc
namespace Go.Proofs.YtflgpkkbifkpoaaDoor.text
open Go.Dg (junk St Ex Ev Hint evCall evCallS evCode evCodeK innerKp evCodeS evLoop cleanSt ue bodied noOver sbOf headOf tailOf bodyOf rAssign rBody lBody Flats flatOver Heap AObj SCall Law ofLaw Fix)
set_option linter.unusedVariables false
set_option linter.unusedSimpArgs false

theorem dv_b {z : Int} (h : 97 ≤ z ∧ z ≤ 102) : dv z = z - 87 := by rw [dv_a h]; omega
def outV (zs : List Int) (i : Nat) : List Int := if i % 2 = 0 then outL zs (i / 2) else outL zs (i / 2) ++ [16 * dv (zs.getD (i - 1) 0)]
def SV (zs : List Int) : Nat → St
  | 0 => Va zs
  | i + 1 => Vb zs (i + 1) (dv (zs.getD i 0)) ((i + 2) / 2) (outV zs (i + 1))
theorem roundV (zs : List Int) (hl : zs.length ≤ 2000) (hz : ∀ j, 0 ≤ zs.getD j 0 ∧ zs.getD j 0 < 256) (i : Nat) (hi : i < zs.length) (hx : ∀ j, j ≤ i → isHex (zs.getD j 0)) : ∃ s', runV (SV zs i) = some (.normal, s') ∧ clV s' = SV zs (i + 1) := by
  match i, hi, hx with
  | 0, hi, hx =>
    show ∃ s', runV (Va zs) = _ ∧ clV s' = Vb zs 1 (dv (zs.getD 0 0)) 1 [16 * dv (zs.getD 0 0)]
    rcases hx 0 (Nat.le_refl _) with h | h
    · rw [dv_d h]; exact vad zs hi hl (hz 0) h
    · rw [dv_b h]; exact vaa zs hi hl (hz 0) h
  | k + 1, hi, hx =>
    show ∃ s', runV (Vb zs (k + 1) (dv (zs.getD k 0)) ((k + 2) / 2) (outV zs (k + 1))) = _ ∧ clV s' = Vb zs (k + 1 + 1) (dv (zs.getD (k + 1) 0)) ((k + 3) / 2) (outV zs (k + 2))
    rcases Nat.mod_two_eq_zero_or_one (k + 1) with hp | hp
    · have e1 : outV zs (k + 1) = outL zs ((k + 1) / 2) := if_pos hp
      have e2 : outV zs (k + 2) = outL zs ((k + 1) / 2) ++ [16 * dv (zs.getD (k + 1) 0)] := by
        unfold outV
        rw [if_neg (by omega), show (k + 2) / 2 = (k + 1) / 2 by omega]
        rfl
      rw [e1, e2, show (k + 3) / 2 = (k + 2) / 2 + 1 by omega]
      rcases hx (k + 1) (Nat.le_refl _) with h | h
      · rw [dv_d h]; exact vbd zs (k + 1) _ _ _ hp (by rw [outL_len]; omega) (by rw [outL_len]; omega) hi hl (hz _) h
      · rw [dv_b h]; exact vba zs (k + 1) _ _ _ hp (by rw [outL_len]; omega) (by rw [outL_len]; omega) hi hl (hz _) h
    · have e1 : outV zs (k + 1) = outL zs ((k + 1) / 2) ++ [16 * dv (zs.getD k 0)] := if_neg (by omega)
      have e2 : outV zs (k + 2) = outL zs ((k + 1) / 2) ++ [16 * dv (zs.getD k 0) + dv (zs.getD (k + 1) 0)] := by
        unfold outV
        rw [if_pos (by omega), show (k + 2) / 2 = (k + 1) / 2 + 1 by omega]
        simp only [outL, show 2 * ((k + 1) / 2) = k by omega]
      have hd := dv_rng (hx k (by omega))
      rw [e1, e2, show (k + 3) / 2 = (k + 2) / 2 by omega]
      rcases hx (k + 1) (Nat.le_refl _) with h | h
      · rw [dv_d h]; exact vod zs (k + 1) _ _ _ _ hp (by rw [outL_len]; omega) (by rw [outL_len]; omega) (by omega) hi hl (hz _) h
      · rw [dv_b h]; exact voa zs (k + 1) _ _ _ _ hp (by rw [outL_len]; omega) (by rw [outL_len]; omega) (by omega) hi hl (hz _) h
def TE9 (zs : List Int) (out : Value) (i : Nat) (n : Value) : List Value := [.string (txt zs), undef, .slice none 0 0, .bool false, out, .int .i64 i, n] ++ (js 4 ++ ([.int .i64 i, .string (txt zs), .int .i64 (txt zs).size, .bool false] ++ js 58))
def Eb9 (zs : List Int) (i : Nat) (n : Int) (l : Nat) (os : List Int) : St := ⟨TE9 zs (.slice (some ⟨0, 0, some 0⟩) l l) i (.int .i64 n), ⟨1, [rowU os]⟩, []⟩
theorem veE (zs : List Int) (i : Nat) (d0 : Int) (l : Nat) (os : List Int) (hi : zs.length = i) : runV (Vb zs i d0 l os) = some (.exit 0, Eb9 zs i d0 l os) := (veb zs i d0 l os hi).trans (by kernel_rfl)
theorem loopVc (zs : List Int) (i : Nat) (hl : zs.length = i + 1) (hb : zs.length ≤ 2000) (hz : ∀ j, 0 ≤ zs.getD j 0 ∧ zs.getD j 0 < 256) (hx : ∀ j, j < zs.length → isHex (zs.getD j 0)) {s0 : St} (h0 : clV s0 = Va zs) :
    evLoop runV clV 4000 s0 = some (.exit 0, Eb9 zs (i + 1) (dv (zs.getD i 0)) ((i + 2) / 2) (outV zs (i + 1))) :=
  Dg.loop_run (S := SV zs) (n := i + 1) (by simp) (fun j hj => roundV zs hb hz j (by omega) (fun k hk => hx k (by omega))) (veE zs (i + 1) _ _ _ hl) (by omega) h0
theorem loopVz (zs : List Int) (hb : zs.length ≤ 2000) (hz : ∀ j, 0 ≤ zs.getD j 0 ∧ zs.getD j 0 < 256) (n : Nat) (hn : n < zs.length) (hx : ∀ j, j < n → isHex (zs.getD j 0)) (hnx : ¬ isHex (zs.getD n 0)) :
    ∃ rest, (∀ s0, clV s0 = Va zs → evLoop runV clV 4000 s0 = some (.ret, Z8 zs rest ⟨0, []⟩)) ∨ ∃ os, ∀ s0, clV s0 = Va zs → evLoop runV clV 4000 s0 = some (.ret, Z8 zs rest ⟨1, [rowU os]⟩) := by
  have hr : zs.getD n 0 < 48 ∨ (57 < zs.getD n 0 ∧ zs.getD n 0 < 97) ∨ 102 < zs.getD n 0 := by
    unfold isHex at hnx
    omega
  have run : ∀ E : St, runV (SV zs n) = some (.ret, E) → ∀ s0, clV s0 = Va zs → evLoop runV clV 4000 s0 = some (.ret, E) := fun E hs s0 h0 =>
    Dg.loop_run (S := SV zs) (n := n) (by simp) (fun j hj => roundV zs hb hz j (by omega) (fun k hk => hx k (by omega))) hs (by omega) h0
  cases n with
  | zero =>
    rcases hr with h | ⟨h, h'⟩ | h
    · exact ⟨_, .inl (run _ (vzal zs hn hb (hz 0) h))⟩
    · exact ⟨_, .inl (run _ (vzam zs hn hb (hz 0) h h'))⟩
    · exact ⟨_, .inl (run _ (vzah zs hn hb (hz 0) h))⟩
  | succ i =>
    rcases hr with h | ⟨h, h'⟩ | h
    · exact ⟨_, .inr ⟨_, run _ (vzbl zs (i + 1) _ _ _ hn hb (hz _) h)⟩⟩
    · exact ⟨_, .inr ⟨_, run _ (vzbm zs (i + 1) _ _ _ hn hb (hz _) h h')⟩⟩
    · exact ⟨_, .inr ⟨_, run _ (vzbh zs (i + 1) _ _ _ hn hb (hz _) h)⟩⟩
--< vno
theorem vno (zs : List Int) (hp : List.length zs % 2 = 1) :
    evCall Tryd.prog 0 (bodied Tryd.prog) noOver sbs 4000 20 9 [Value.string (txt zs)] { n := 0, objs := [] } = some (Value.tuple #[Value.slice none 0 0, Value.bool false], { n := 0, objs := [] }, []) :=
  Dg.evCall_hint (hs' := []) (hs := [Hint.val 9 10 (Value.bool true)])
    [Value.bool (decide (Int.tmod (↑(ByteArray.size (txt zs)) : Int) (2 : Int) > (0 : Int))) = Value.bool true] (by kernel_rfl)
    ⟨Dg.vtrue (by rw [txt_size, Int.tmod_eq_emod_of_nonneg (by omega)]; omega), trivial⟩
--> vno
--< vnc
theorem vnc (zs : List Int) (i : Nat) (hl : List.length zs = i + 1) (hp : i % 2 = 1) (hb : List.length zs ≤ 2000) (hz : ∀ (j : Nat), 0 ≤ List.getD zs j 0 ∧ List.getD zs j 0 < 256) (hx : ∀ (j : Nat), j < List.length zs → isHex (List.getD zs j 0)) :
    evCall Tryd.prog 0 (bodied Tryd.prog) noOver sbs 4000 20 9 [Value.string (txt zs)] { n := 0, objs := [] } = some (Value.tuple { toList := [Value.slice (some { block := 0, off := 0, spot := some 0 }) ((i + 2) / 2) ((i + 2) / 2), Value.bool true] }, { n := 1, objs := [AObj.cells (u8s (outV zs (i + 1))) 5 5 1] }, []) :=
  Dg.evCall_hint (hs' := []) (hs := [Hint.val 9 10 (Value.bool false),
    Hint.loop 9 (Ex.exit 0) (Eb9 zs (i + 1) (dv (List.getD zs i 0)) ((i + 2) / 2) (outV zs (i + 1)))])
    [Value.bool (decide (Int.tmod (↑(ByteArray.size (txt zs)) : Int) (2 : Int) > (0 : Int))) = Value.bool false,
    evLoop runV clV 4000 { ts := [Value.string (txt zs), undef, Value.slice none 0 0, Value.bool false, Value.slice none 0 0, Value.int IntKind.i64 0, undef, Value.string (txt zs), Value.int IntKind.i64 (↑(ByteArray.size (txt zs)) : Int), Value.int IntKind.i64 (Int.tmod (↑(ByteArray.size (txt zs)) : Int) 2), Value.bool false, undef, undef, undef, undef, undef, undef, undef, undef, undef, undef, undef, undef, undef, undef, undef, undef, undef, undef, undef, undef, undef, undef, undef, undef, undef, undef, undef, undef, undef, undef, undef, undef, undef, undef, undef, undef, undef, undef, undef, undef, undef, undef, undef, undef, undef, undef, undef, undef, undef, undef, undef, undef, undef, undef, undef, undef, undef, undef, undef, undef, undef, undef], H := { n := 0, objs := [] }, log := [] } = some (Ex.exit 0, Eb9 zs (i + 1) (dv (List.getD zs i 0)) ((i + 2) / 2) (outV zs (i + 1)))] (by kernel_rfl)
    ⟨Dg.vfalse (by rw [txt_size, Int.tmod_eq_emod_of_nonneg (by omega)]; omega), loopVc zs i hl hb hz hx (by kernel_rfl), trivial⟩
--> vnc
--< vny
theorem vny (zs : List Int) (hp : List.length zs % 2 = 0) (rest : List Value) (hy : ∀ (s0 : St), clV s0 = Va zs → evLoop runV clV 4000 s0 = some (Ex.ret, Z8 zs rest { n := 0, objs := [] })) :
    evCall Tryd.prog 0 (bodied Tryd.prog) noOver sbs 4000 20 9 [Value.string (txt zs)] { n := 0, objs := [] } = some (Value.tuple #[Value.slice none 0 0, Value.bool false], { n := 0, objs := [] }, []) :=
  Dg.evCall_hint (hs' := []) (hs := [Hint.val 9 10 (Value.bool false),
    Hint.loop 9 Ex.ret (Z8 zs rest { n := 0, objs := [] })])
    [Value.bool (decide (Int.tmod (↑(ByteArray.size (txt zs)) : Int) (2 : Int) > (0 : Int))) = Value.bool false,
    evLoop runV clV 4000 { ts := [Value.string (txt zs), undef, Value.slice none 0 0, Value.bool false, Value.slice none 0 0, Value.int IntKind.i64 0, undef, Value.string (txt zs), Value.int IntKind.i64 (↑(ByteArray.size (txt zs)) : Int), Value.int IntKind.i64 (Int.tmod (↑(ByteArray.size (txt zs)) : Int) 2), Value.bool false, undef, undef, undef, undef, undef, undef, undef, undef, undef, undef, undef, undef, undef, undef, undef, undef, undef, undef, undef, undef, undef, undef, undef, undef, undef, undef, undef, undef, undef, undef, undef, undef, undef, undef, undef, undef, undef, undef, undef, undef, undef, undef, undef, undef, undef, undef, undef, undef, undef, undef, undef, undef, undef, undef, undef, undef, undef, undef, undef, undef, undef, undef], H := { n := 0, objs := [] }, log := [] } = some (Ex.ret, Z8 zs rest { n := 0, objs := [] })] (by kernel_rfl)
    ⟨Dg.vfalse (by rw [txt_size, Int.tmod_eq_emod_of_nonneg (by omega)]; omega), hy _ (by kernel_rfl), trivial⟩
--> vny
--< vnz
theorem vnz (zs : List Int) (hp : List.length zs % 2 = 0) (rest : List Value) (os : List Int) (hy : ∀ (s0 : St), clV s0 = Va zs → evLoop runV clV 4000 s0 = some (Ex.ret, Z8 zs rest { n := 1, objs := [rowU os] })) :
    evCall Tryd.prog 0 (bodied Tryd.prog) noOver sbs 4000 20 9 [Value.string (txt zs)] { n := 0, objs := [] } = some (Value.tuple #[Value.slice none 0 0, Value.bool false], { n := 0, objs := [] }, []) :=
  Dg.evCall_hint (hs' := []) (hs := [Hint.val 9 10 (Value.bool false),
    Hint.loop 9 Ex.ret (Z8 zs rest { n := 1, objs := [rowU os] })])
    [Value.bool (decide (Int.tmod (↑(ByteArray.size (txt zs)) : Int) (2 : Int) > (0 : Int))) = Value.bool false,
    evLoop runV clV 4000 { ts := [Value.string (txt zs), undef, Value.slice none 0 0, Value.bool false, Value.slice none 0 0, Value.int IntKind.i64 0, undef, Value.string (txt zs), Value.int IntKind.i64 (↑(ByteArray.size (txt zs)) : Int), Value.int IntKind.i64 (Int.tmod (↑(ByteArray.size (txt zs)) : Int) 2), Value.bool false, undef, undef, undef, undef, undef, undef, undef, undef, undef, undef, undef, undef, undef, undef, undef, undef, undef, undef, undef, undef, undef, undef, undef, undef, undef, undef, undef, undef, undef, undef, undef, undef, undef, undef, undef, undef, undef, undef, undef, undef, undef, undef, undef, undef, undef, undef, undef, undef, undef, undef, undef, undef, undef, undef, undef, undef, undef, undef, undef, undef, undef, undef], H := { n := 0, objs := [] }, log := [] } = some (Ex.ret, Z8 zs rest { n := 1, objs := [rowU os] })] (by kernel_rfl)
    ⟨Dg.vfalse (by rw [txt_size, Int.tmod_eq_emod_of_nonneg (by omega)]; omega), hy _ (by kernel_rfl), trivial⟩
--> vnz
--< vn0
theorem vn0 :
    evCall Tryd.prog 0 (bodied Tryd.prog) noOver sbs 4000 20 9 [Value.string { data := #[] }] { n := 0, objs := [] } = some (Value.tuple #[Value.slice none 0 0, Value.bool true], { n := 0, objs := [] }, []) :=
  Dg.evCall_hint (hs' := []) (hs := [])
    [] (by kernel_rfl)
    trivial
--> vn0
end Go.Proofs.YtflgpkkbifkpoaaDoor.text
