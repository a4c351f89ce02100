/- The reference's 'Hex' of layer 4: what it comes to. -/
import Derived.Test.YtflgpkkbifkpoaaDoorRows
import Derived.Test.YtflgpkkbifkpoaaDoorTextRef
namespace Go.Proofs.YtflgpkkbifkpoaaDoor.text
open Go.Dg (junk St Ex Ev Hint evCall evCallS evCode evCodeK innerKp evCodeS evLoop cleanSt ue bodied noOver sbOf headOf tailOf bodyOf rAssign rBody lBody Flats flatOver Heap AObj SCall Law ofLaw Fix)
set_option linter.unusedVariables false
set_option linter.unusedSimpArgs false

def HR (lz cz : Nat) (zs : List Int) (e : Nat) : Nat → St
  | 0 => R7a lz cz zs e
  | i + 1 => R7b lz cz zs e (i + 1) (zs.getD i 0 % 16) (hexd (zs.getD i 0 % 16)) (hexL zs (i + 1))
theorem hexd_l {k : Int} (h : k ≤ 9) : hexd k = 48 + k := if_pos (by omega)
theorem hexd_h {k : Int} (h : 9 < k) : hexd k = 87 + k := if_neg (by omega)
theorem roundR (lz cz : Nat) (zs : List Int) (e : Nat) (hl : lz ≤ 1000) (hc : lz ≤ cz) (hzl : zs.length = cz) (hz : ∀ j, 0 ≤ zs.getD j 0 ∧ zs.getD j 0 < 256) (i : Nat) (hi : i < lz) : ∃ s', runR (HR lz cz zs e i) = some (.normal, s') ∧ clR s' = HR lz cz zs e (i + 1) := by
  show ∃ s', runR (HR lz cz zs e i) = some (.normal, s') ∧ clR s' = R7b lz cz zs e (i + 1) (zs.getD i 0 % 16) (hexd (zs.getD i 0 % 16)) (hexL zs i ++ [hexd (zs.getD i 0 / 16)] ++ [hexd (zs.getD i 0 % 16)])
  rcases Int.lt_or_le 9 (zs.getD i 0 / 16) with h1 | h1
  · rcases Int.lt_or_le 9 (zs.getD i 0 % 16) with h2 | h2
    · rw [hexd_h h1, hexd_h h2]
      cases i with
      | zero => exact r7hha lz cz zs e hi hl hc hzl (hz _) h1 h2
      | succ i => exact r7hhb lz cz zs e (i + 1) _ _ (hexL zs (i + 1)) (hexL_len ..) hi hl hc hzl (hz _) h1 h2
    · rw [hexd_h h1, hexd_l h2]
      cases i with
      | zero => exact r7hla lz cz zs e hi hl hc hzl (hz _) h1 h2
      | succ i => exact r7hlb lz cz zs e (i + 1) _ _ (hexL zs (i + 1)) (hexL_len ..) hi hl hc hzl (hz _) h1 h2
  · rcases Int.lt_or_le 9 (zs.getD i 0 % 16) with h2 | h2
    · rw [hexd_l h1, hexd_h h2]
      cases i with
      | zero => exact r7lha lz cz zs e hi hl hc hzl (hz _) h1 h2
      | succ i => exact r7lhb lz cz zs e (i + 1) _ _ (hexL zs (i + 1)) (hexL_len ..) hi hl hc hzl (hz _) h1 h2
    · rw [hexd_l h1, hexd_l h2]
      cases i with
      | zero => exact r7lla lz cz zs e hi hl hc hzl (hz _) h1 h2
      | succ i => exact r7llb lz cz zs e (i + 1) _ _ (hexL zs (i + 1)) (hexL_len ..) hi hl hc hzl (hz _) h1 h2
def R7e (lz cz : Nat) (zs : List Int) (e i : Nat) (n c : Int) (os : List Int) : St := ⟨[aB lz cz, undef, .string ⟨#[]⟩, .slice (some ⟨1, 0, some 0⟩) os.length os.length, .int .i64 i, .int .i64 2, .int .u8 n, .int .u8 c, .int .i64 i, aB lz cz, .int .i64 lz, .bool false] ++ js 30, ⟨2, [rowU os, oB zs e]⟩, []⟩
theorem loopR (lz cz : Nat) (zs : List Int) (e : Nat) (hl : lz ≤ 1000) (hc : lz ≤ cz) (hzl : zs.length = cz) (hz : ∀ j, 0 ≤ zs.getD j 0 ∧ zs.getD j 0 < 256) (i : Nat) (hi : lz = i + 1) {s0 : St} (h0 : clR s0 = R7a lz cz zs e) :
    evLoop runR clR 2000 s0 = some (.exit 0, R7e lz cz zs e lz (zs.getD i 0 % 16) (hexd (zs.getD i 0 % 16)) (hexL zs lz)) := by
  refine Dg.loop_run (S := HR lz cz zs e) (n := lz) (by simp) (fun j hj => roundR lz cz zs e hl hc hzl hz j hj) ?_ (by omega) h0
  have e1 : HR lz cz zs e lz = R7b lz cz zs e lz (zs.getD i 0 % 16) (hexd (zs.getD i 0 % 16)) (hexL zs lz) := by
    clear h0
    subst hi
    rfl
  rw [e1]
  exact r7e lz cz zs e _ _ _
theorem strOf_u8s (zs : List Int) : Dg.strOf (u8s zs) 0 zs.length = some (txt zs) := by
  unfold u8s
  rw [Dg.strOf_ints zs 0 zs.length (by omega), List.drop_zero, List.take_length]
  rfl
--< ref0
theorem ref0 (cz : Nat) (zs : List Int) (e : Nat) :
    evCall Tryd.prog 0 (bodied Tryd.prog) noOver sbs 2000 20 7 [aB 0 cz] { n := 1, objs := [oB zs e] } = some (Value.string ByteArray.empty, { n := 1, objs := [AObj.cells (u8s zs) e 6 1] }, []) :=
  Dg.evCall_hint (hs' := []) (hs := [Hint.val 7 11 (Value.bool false)])
    [Value.bool false = Value.bool false] (by kernel_rfl)
    ⟨rfl, trivial⟩
--> ref0
--< refp
theorem refp (lz : Nat) (cz : Nat) (zs : List Int) (e : Nat) (hl : lz ≤ 1000) (hc : lz ≤ cz) (hzl : List.length zs = cz) (hz : ∀ (j : Nat), 0 ≤ List.getD zs j 0 ∧ List.getD zs j 0 < 256) (i : Nat) (hi : lz = i + 1) :
    evCall Tryd.prog 0 (bodied Tryd.prog) noOver sbs 2000 20 7 [aB lz cz] { n := 1, objs := [oB zs e] } = some (Value.string (txt (hexL zs lz)), { n := 1, objs := [AObj.cells (u8s zs) e 6 1] }, []) :=
  Dg.evCall_hint (hs' := []) (hs := [Hint.loop 7 (Ex.exit 0) (R7e lz cz zs e lz (List.getD zs i 0 % 16) (hexd (List.getD zs i 0 % 16)) (hexL zs lz)),
    Hint.soft 7 41 (Value.string (txt (hexL zs lz)))])
    [evLoop runR clR 2000 { ts := [Value.slice (some { block := 0, off := 0 }) lz cz, undef, Value.string { data := #[] }, Value.slice none 0 0, Value.int IntKind.i64 0, undef, undef, undef, undef, undef, undef, undef, undef, undef, undef, undef, undef, undef, undef, undef, undef, undef, undef, undef, undef, undef, undef, undef, undef, undef, undef, undef, undef, undef, undef, undef, undef, undef, undef, undef, undef, undef], H := { n := 1, objs := [AObj.cells (u8s zs) e 6 1] }, log := [] } = some (Ex.exit 0, R7e lz cz zs e lz (List.getD zs i 0 % 16) (hexd (List.getD zs i 0 % 16)) (hexL zs lz)),
    Dg.strOf (u8s (hexL zs lz)) (0 : Nat) (List.length (hexL zs lz)) = some (txt (hexL zs lz))] (by kernel_rfl)
    ⟨loopR lz cz zs e hl hc hzl hz i hi (by kernel_rfl), strOf_u8s _, trivial⟩
--> refp
--< refn
theorem refn :
    evCall Tryd.prog 0 (bodied Tryd.prog) noOver sbs 2000 20 7 [Value.slice none 0 0] { n := 0, objs := [] } = some (Value.string ByteArray.empty, { n := 0, objs := [] }, []) :=
  Dg.evCall_hint (hs' := []) (hs := [Hint.val 7 11 (Value.bool false)])
    [Value.bool false = Value.bool false] (by kernel_rfl)
    ⟨rfl, trivial⟩
--> refn
end Go.Proofs.YtflgpkkbifkpoaaDoor.text
