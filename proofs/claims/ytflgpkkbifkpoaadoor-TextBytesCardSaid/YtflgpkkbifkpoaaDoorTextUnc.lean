/- What 'text.Unhex' of layer 4 comes to. -/
import Derived.Test.YtflgpkkbifkpoaaDoorRows
import Derived.Test.YtflgpkkbifkpoaaDoorTextUnl
namespace Go.Proofs.YtflgpkkbifkpoaaDoor.text
open Go.Dg (junk St Ex Ev Hint evCall evCallS evCode evCodeK innerKp evCodeS evLoop cleanSt ue bodied noOver sbOf headOf tailOf bodyOf rAssign rBody lBody Flats flatOver Heap AObj SCall Law ofLaw Fix)
set_option linter.unusedVariables false
set_option linter.unusedSimpArgs false

def TE8 (zs : List Int) (out : Value) (h : Int) (r : List Value) (k : Nat) : List Value := [.string (txt zs), undef, .slice none 0 0, .bool false, out, .int .i64 h] ++ (r ++ ([junk, .pointer (some ⟨k, 0, none⟩), .tuple #[.bool false], .bool false] ++ js 26))
def Eb8 (zs : List Int) (h z : Int) : St := ⟨TE8 zs (.slice none 0 0) h (rU 0 z h) 0, ⟨1, [.iter (txt zs) 1]⟩, []⟩
def Ec8 (zs : List Int) (i : Nat) (h z d : Int) (os : List Int) : St := ⟨TE8 zs (.slice (some ⟨0, 0, some 0⟩) os.length os.length) h (rU i z d) 1, ⟨2, [.iter (txt zs) (i + 1), rowU os]⟩, []⟩
theorem loopEb (zs : List Int) (hl : zs.length = 1) (hx : ∀ j, j < zs.length → isHex (zs.getD j 0)) {s0 : St} (h0 : clU s0 = Ua zs) :
    evLoop runU clU 4000 s0 = some (.exit 0, Eb8 zs (dv (zs.getD 0 0)) (zs.getD 0 0)) :=
  Dg.loop_run (S := SU zs) (n := 1) (by simp) (fun j hj => roundU zs (by omega) j (by omega) (fun k hk => hx k (by omega))) (ueb zs _ _ hl) (by omega) h0
theorem loopEc (zs : List Int) (i : Nat) (hl : zs.length = i + 2) (hb : zs.length ≤ 2000) (hx : ∀ j, j < zs.length → isHex (zs.getD j 0)) {s0 : St} (h0 : clU s0 = Ua zs) :
    evLoop runU clU 4000 s0 = some (.exit 0, Ec8 zs (i + 1) (dv (zs.getD (2 * ((i + 1) / 2)) 0)) (zs.getD (i + 1) 0) (dv (zs.getD (i + 1) 0)) (outL zs ((i + 2) / 2))) :=
  Dg.loop_run (S := SU zs) (n := i + 2) (by simp) (fun j hj => roundU zs hb j (by omega) (fun k hk => hx k (by omega))) (uec zs (i + 1) _ _ _ _ (by omega)) (by omega) h0
/-- The state behind a sign that is none's. -/
def Z8 (zs : List Int) (rest : List Value) (h : Heap) : St := ⟨.string (txt zs) :: undef :: .slice none 0 0 :: .bool false :: rest, h, []⟩
theorem dec_le (zs : List Int) (pos : Nat) : (Utf8.decode (txt zs) pos).1 ≤ 1114111 := by
  generalize txt zs = s
  have hb : ∀ k, (s.get! (pos + k)).toNat < 256 := fun k => (s.get! (pos + k)).toNat_lt
  have h0 := hb 0; have h1 := hb 1; have h2 := hb 2; have h3 := hb 3
  simp only [Utf8.decode]
  repeat' split
  all_goals simp_all [Utf8.runeError, Utf8.valid]
  all_goals omega
theorem loopZ (zs : List Int) (hb : zs.length ≤ 2000) (hz : ∀ j, 0 ≤ zs.getD j 0 ∧ zs.getD j 0 < 256) (n : Nat) (hn : n < zs.length) (hx : ∀ j, j < n → isHex (zs.getD j 0)) (hnx : ¬ isHex (zs.getD n 0)) :
    ∃ rest p, (∀ s0, clU s0 = Ua zs → evLoop runU clU 4000 s0 = some (.ret, Z8 zs rest ⟨1, [.iter (txt zs) p]⟩)) ∨ ∃ os, ∀ s0, clU s0 = Ua zs → evLoop runU clU 4000 s0 = some (.ret, Z8 zs rest ⟨2, [.iter (txt zs) p, rowU os]⟩) := by
  obtain ⟨r, x, hd⟩ : ∃ r x, Utf8.decode (txt zs) n = (r, x) := ⟨_, _, rfl⟩
  have hr : r < 48 ∨ (57 < r ∧ r < 97) ∨ (102 < r ∧ r ≤ 1114111) := by
    have hle := dec_le zs n
    rw [hd] at hle
    unfold isHex at hnx
    rcases Int.lt_or_le (zs.getD n 0) 128 with h1 | h1
    · have := dec_lo zs n hn ⟨(hz n).1, h1⟩
      rw [hd] at this
      have h2 : r = (zs.getD n 0).toNat := congrArg Prod.fst this
      have := hz n
      omega
    · have := dec_hi zs n hn ⟨h1, (hz n).2⟩
      rw [hd] at this
      have h2 : 128 ≤ r := this
      have h3 : r ≤ 1114111 := hle
      omega
  have run : ∀ E : St, runU (SU zs n) = some (.ret, E) → ∀ s0, clU s0 = Ua zs → evLoop runU clU 4000 s0 = some (.ret, E) := fun E hs s0 h0 =>
    Dg.loop_run (S := SU zs) (n := n) (by simp) (fun j hj => roundU zs hb j (by omega) (fun k hk => hx k (by omega))) hs (by omega) h0
  match n, hn, hd, run with
  | 0, hn, hd, run =>
    rcases hr with h | ⟨h, h'⟩ | ⟨h, h'⟩
    · exact ⟨_, _, .inl (run _ (uzal zs r x hn hd h))⟩
    · exact ⟨_, _, .inl (run _ (uzam zs r x hn hd h h'))⟩
    · exact ⟨_, _, .inl (run _ (uzah zs r x hn hd h h'))⟩
  | 1, hn, hd, run =>
    rcases hr with h | ⟨h, h'⟩ | ⟨h, h'⟩
    · exact ⟨_, _, .inl (run _ (uzbl zs _ _ r x hn hd h))⟩
    · exact ⟨_, _, .inl (run _ (uzbm zs _ _ r x hn hd h h'))⟩
    · exact ⟨_, _, .inl (run _ (uzbh zs _ _ r x hn hd h h'))⟩
  | i + 2, hn, hd, run =>
    rcases hr with h | ⟨h, h'⟩ | ⟨h, h'⟩
    · exact ⟨_, _, .inr ⟨_, run _ (uzcl zs (i + 1) _ _ _ _ r x hn hd h)⟩⟩
    · exact ⟨_, _, .inr ⟨_, run _ (uzcm zs (i + 1) _ _ _ _ r x hn hd h h')⟩⟩
    · exact ⟨_, _, .inr ⟨_, run _ (uzch zs (i + 1) _ _ _ _ r x hn hd h h')⟩⟩
--< un1
theorem un1 (zs : List Int) (hl : List.length zs = 1) (hx : ∀ (j : Nat), j < List.length zs → isHex (List.getD zs j 0)) :
    evCall Tryd.prog 0 (bodied Tryd.prog) noOver sbs 4000 20 8 [Value.string (txt zs)] { n := 0, objs := [] } = some (Value.tuple #[Value.slice none 0 0, Value.bool false], { n := 0, objs := [] }, []) :=
  Dg.evCall_hint (hs' := []) (hs := [Hint.loop 8 (Ex.exit 0) (Eb8 zs (dv (List.getD zs 0 0)) (List.getD zs 0 0)),
    Hint.val 8 38 (Value.bool true)])
    [evLoop runU clU 4000 { ts := [Value.string (txt zs), undef, Value.slice none 0 0, Value.bool false, Value.slice none 0 0, Value.int IntKind.i64 0, undef, undef, undef, undef, Value.string (txt zs), Value.pointer (some { block := 0, off := 0 }), undef, undef, undef, undef, undef, undef, undef, undef, undef, undef, undef, undef, undef, undef, undef, undef, undef, undef, undef, undef, undef, undef, undef, undef, undef, undef, undef, undef], H := { n := 1, objs := [AObj.iter (txt zs) 0] }, log := [] } = some (Ex.exit 0, Eb8 zs (dv (List.getD zs 0 0)) (List.getD zs 0 0)),
    Value.bool (decide (Int.tmod (↑(ByteArray.size (txt zs)) : Int) (2 : Int) > (0 : Int))) = Value.bool true] (by kernel_rfl)
    ⟨loopEb zs hl hx (by kernel_rfl), Dg.vtrue (by rw [txt_size, Int.tmod_eq_emod_of_nonneg (by omega)]; omega), trivial⟩
--> un1
--< unc
theorem unc (zs : List Int) (i : Nat) (hl : List.length zs = i + 2) (hb : List.length zs ≤ 2000) (hp : i % 2 = 0) (hx : ∀ (j : Nat), j < List.length zs → isHex (List.getD zs j 0)) :
    evCall Tryd.prog 0 (bodied Tryd.prog) noOver sbs 4000 20 8 [Value.string (txt zs)] { n := 0, objs := [] } = some (Value.tuple { toList := [Value.slice (some { block := 0, off := 0, spot := some 0 }) (List.length (outL zs ((i + 2) / 2))) (List.length (outL zs ((i + 2) / 2))), Value.bool true] }, { n := 1, objs := [AObj.cells (u8s (outL zs ((i + 2) / 2))) 5 5 1] }, []) :=
  Dg.evCall_hint (hs' := []) (hs := [Hint.loop 8 (Ex.exit 0) (Ec8 zs (i + 1) (dv (List.getD zs (2 * ((i + 1) / 2)) 0)) (List.getD zs (i + 1) 0) (dv (List.getD zs (i + 1) 0)) (outL zs ((i + 2) / 2))),
    Hint.val 8 38 (Value.bool false)])
    [evLoop runU clU 4000 { ts := [Value.string (txt zs), undef, Value.slice none 0 0, Value.bool false, Value.slice none 0 0, Value.int IntKind.i64 0, undef, undef, undef, undef, Value.string (txt zs), Value.pointer (some { block := 0, off := 0 }), undef, undef, undef, undef, undef, undef, undef, undef, undef, undef, undef, undef, undef, undef, undef, undef, undef, undef, undef, undef, undef, undef, undef, undef, undef, undef, undef, undef], H := { n := 1, objs := [AObj.iter (txt zs) 0] }, log := [] } = some (Ex.exit 0, Ec8 zs (i + 1) (dv (List.getD zs (2 * ((i + 1) / 2)) 0)) (List.getD zs (i + 1) 0) (dv (List.getD zs (i + 1) 0)) (outL zs ((i + 2) / 2))),
    Value.bool (decide (Int.tmod (↑(ByteArray.size (txt zs)) : Int) (2 : Int) > (0 : Int))) = Value.bool false] (by kernel_rfl)
    ⟨loopEc zs i hl hb hx (by kernel_rfl), Dg.vfalse (by rw [txt_size, Int.tmod_eq_emod_of_nonneg (by omega)]; omega), trivial⟩
--> unc
--< uno
theorem uno (zs : List Int) (i : Nat) (hl : List.length zs = i + 2) (hb : List.length zs ≤ 2000) (hp : i % 2 = 1) (hx : ∀ (j : Nat), j < List.length zs → isHex (List.getD zs j 0)) :
    evCall Tryd.prog 0 (bodied Tryd.prog) noOver sbs 4000 20 8 [Value.string (txt zs)] { n := 0, objs := [] } = some (Value.tuple #[Value.slice none 0 0, Value.bool false], { n := 0, objs := [] }, []) :=
  Dg.evCall_hint (hs' := []) (hs := [Hint.loop 8 (Ex.exit 0) (Ec8 zs (i + 1) (dv (List.getD zs (2 * ((i + 1) / 2)) 0)) (List.getD zs (i + 1) 0) (dv (List.getD zs (i + 1) 0)) (outL zs ((i + 2) / 2))),
    Hint.val 8 38 (Value.bool true)])
    [evLoop runU clU 4000 { ts := [Value.string (txt zs), undef, Value.slice none 0 0, Value.bool false, Value.slice none 0 0, Value.int IntKind.i64 0, undef, undef, undef, undef, Value.string (txt zs), Value.pointer (some { block := 0, off := 0 }), undef, undef, undef, undef, undef, undef, undef, undef, undef, undef, undef, undef, undef, undef, undef, undef, undef, undef, undef, undef, undef, undef, undef, undef, undef, undef, undef, undef], H := { n := 1, objs := [AObj.iter (txt zs) 0] }, log := [] } = some (Ex.exit 0, Ec8 zs (i + 1) (dv (List.getD zs (2 * ((i + 1) / 2)) 0)) (List.getD zs (i + 1) 0) (dv (List.getD zs (i + 1) 0)) (outL zs ((i + 2) / 2))),
    Value.bool (decide (Int.tmod (↑(ByteArray.size (txt zs)) : Int) (2 : Int) > (0 : Int))) = Value.bool true] (by kernel_rfl)
    ⟨loopEc zs i hl hb hx (by kernel_rfl), Dg.vtrue (by rw [txt_size, Int.tmod_eq_emod_of_nonneg (by omega)]; omega), trivial⟩
--> uno
--< uny
theorem uny (zs : List Int) (rest : List Value) (p : Nat) (hz : ∀ (s0 : St), clU s0 = Ua zs → evLoop runU clU 4000 s0 = some (Ex.ret, Z8 zs rest { n := 1, objs := [AObj.iter (txt zs) p] })) :
    evCall Tryd.prog 0 (bodied Tryd.prog) noOver sbs 4000 20 8 [Value.string (txt zs)] { n := 0, objs := [] } = some (Value.tuple #[Value.slice none 0 0, Value.bool false], { n := 0, objs := [] }, []) :=
  Dg.evCall_hint (hs' := []) (hs := [Hint.loop 8 Ex.ret (Z8 zs rest { n := 1, objs := [AObj.iter (txt zs) p] })])
    [evLoop runU clU 4000 { ts := [Value.string (txt zs), undef, Value.slice none 0 0, Value.bool false, Value.slice none 0 0, Value.int IntKind.i64 0, undef, undef, undef, undef, Value.string (txt zs), Value.pointer (some { block := 0, off := 0 }), undef, undef, undef, undef, undef, undef, undef, undef, undef, undef, undef, undef, undef, undef, undef, undef, undef, undef, undef, undef, undef, undef, undef, undef, undef, undef, undef, undef], H := { n := 1, objs := [AObj.iter (txt zs) 0] }, log := [] } = some (Ex.ret, Z8 zs rest { n := 1, objs := [AObj.iter (txt zs) p] })] (by kernel_rfl)
    ⟨hz _ (by kernel_rfl), trivial⟩
--> uny
--< unz
theorem unz (zs : List Int) (rest : List Value) (p : Nat) (os : List Int) (hz : ∀ (s0 : St), clU s0 = Ua zs → evLoop runU clU 4000 s0 = some (Ex.ret, Z8 zs rest { n := 2, objs := [AObj.iter (txt zs) p, rowU os] })) :
    evCall Tryd.prog 0 (bodied Tryd.prog) noOver sbs 4000 20 8 [Value.string (txt zs)] { n := 0, objs := [] } = some (Value.tuple #[Value.slice none 0 0, Value.bool false], { n := 0, objs := [] }, []) :=
  Dg.evCall_hint (hs' := []) (hs := [Hint.loop 8 Ex.ret (Z8 zs rest { n := 2, objs := [AObj.iter (txt zs) p, rowU os] })])
    [evLoop runU clU 4000 { ts := [Value.string (txt zs), undef, Value.slice none 0 0, Value.bool false, Value.slice none 0 0, Value.int IntKind.i64 0, undef, undef, undef, undef, Value.string (txt zs), Value.pointer (some { block := 0, off := 0 }), undef, undef, undef, undef, undef, undef, undef, undef, undef, undef, undef, undef, undef, undef, undef, undef, undef, undef, undef, undef, undef, undef, undef, undef, undef, undef, undef, undef], H := { n := 1, objs := [AObj.iter (txt zs) 0] }, log := [] } = some (Ex.ret, Z8 zs rest { n := 2, objs := [AObj.iter (txt zs) p, rowU os] })] (by kernel_rfl)
    ⟨hz _ (by kernel_rfl), trivial⟩
--> unz
--< un0
theorem un0 :
    evCall Tryd.prog 0 (bodied Tryd.prog) noOver sbs 4000 20 8 [Value.string { data := #[] }] { n := 0, objs := [] } = some (Value.tuple #[Value.slice none 0 0, Value.bool true], { n := 0, objs := [] }, []) :=
  Dg.evCall_hint (hs' := []) (hs := [])
    [] (by kernel_rfl)
    trivial
--> un0
end Go.Proofs.YtflgpkkbifkpoaaDoor.text
