/- The texts of notes around a fault; comparisons. The texts of notes around a fault; comparisons. The texts of notes around a fault; comparisons. The texts of notes around a fault; comparisons. -/
import Derived.Test.YtpgddboigegplaaGreatDoorRows
import Derived.Test.YtpgddboigegplaaGreatDoorFT
namespace Go.Proofs.YtpgddboigegplaaGreatDoor.base
open Go.Dg (junk St Ex Ev Hint evCall evCallS evCode evCodeK innerKp evCodeS evLoop cleanSt ue bodied noOver sbOf headOf tailOf bodyOf rAssign rBody lBody Flats flatOver Heap AObj SCall Law ofLaw Fix)
set_option linter.unusedVariables false
set_option linter.unusedSimpArgs false

--< err0
theorem err0 (lf : Nat) (kind : Int) (off : Int) (r0 : List AObj) (W : AObj) (dk : ByteArray) (dO : ByteArray) (hk : ByteArray.size dk ≤ 20) (ho : ByteArray.size dO ≤ 20) (hdk : ∀ (m : Nat), evB (lf + 100) (m + 1) 34 [vi kind] (kpH0 kind off r0 W) = some (vs dk, (kpH0 kind off r0 W), [])) (hdo : ∀ (m : Nat), evB (lf + 100) (m + 1) 34 [vi off] (kpH0 kind off r0 W) = some (vs dO, (kpH0 kind off r0 W), [])) :
    evB (lf + 100) 19 128 [pt 18] (kpH0 kind off r0 W) = some (vs (tF dk dO), (kpH0 kind off r0 W), []) :=
  Dg.evCall_hint (hs' := []) (hs := [qc 34 (vs dk) (kpH0 kind off r0 W) [],
    qs 20 5 (vs (ksS ++ dk)),
    qs 128 8 (vs (ksS ++ dk ++ atS)),
    qc 34 (vs dO) (kpH0 kind off r0 W) [],
    qs 128 14 (vs (tF dk dO))])
    [evB (lf + 100) 17 34 [vi kind] (kpH0 kind off r0 W) = some (vs dk, (kpH0 kind off r0 W), []),
    ByteArray.size ksS + ByteArray.size dk ≤ (9223372036854775807 : Nat),
    vs (ksS ++ dk) = vs (ksS ++ dk),
    ByteArray.size (ksS ++ dk) + ByteArray.size atS ≤ (9223372036854775807 : Nat),
    vs (ksS ++ dk ++ atS) = vs (ksS ++ dk ++ atS),
    evB (lf + 100) 18 34 [vi off] (kpH0 kind off r0 W) = some (vs dO, (kpH0 kind off r0 W), []),
    ByteArray.size (ksS ++ dk ++ atS) + ByteArray.size dO ≤ (9223372036854775807 : Nat),
    vs (ksS ++ dk ++ atS ++ dO) = vs (tF dk dO)] (by kernel_rfl)
    ⟨hdk _, by (try simp only [y1, y2, y3, y4, y5, y6, y7]); omega, rfl, by (try simp only [y1, y2, y3, y4, y5, y6, y7]); omega, rfl, hdo _, by (try simp only [y1, y2, y3, y4, y5, y6, y7]); omega, rfl, trivial⟩
--> err0
--< ln0
theorem ln0 (lf : Nat) (kind : Int) (off : Int) (r0 : List AObj) (W : AObj) (dk : ByteArray) (dO : ByteArray) (hk : ByteArray.size dk ≤ 20) (ho : ByteArray.size dO ≤ 20) (hdk : ∀ (m : Nat), evB (lf + 100) (m + 1) 34 [vi kind] (kpH0 kind off r0 W) = some (vs dk, (kpH0 kind off r0 W), [])) (hdo : ∀ (m : Nat), evB (lf + 100) (m + 1) 34 [vi off] (kpH0 kind off r0 W) = some (vs dO, (kpH0 kind off r0 W), [])) :
    evB (lf + 100) 19 13 [vf 70 (pt 18)] (kpH0 kind off r0 W) = some (Value.tuple #[vs (tF dk dO), vb true], (kpH0 kind off r0 W), []) :=
  Dg.evCall_hint (hs' := []) (hs := [qc 34 (vs dk) (kpH0 kind off r0 W) [],
    qs 20 5 (vs (ksS ++ dk)),
    qs 128 8 (vs (ksS ++ dk ++ atS)),
    qc 34 (vs dO) (kpH0 kind off r0 W) [],
    qs 128 14 (vs (tF dk dO))])
    [evB (lf + 100) 15 34 [vi kind] (kpH0 kind off r0 W) = some (vs dk, (kpH0 kind off r0 W), []),
    ByteArray.size ksS + ByteArray.size dk ≤ (9223372036854775807 : Nat),
    vs (ksS ++ dk) = vs (ksS ++ dk),
    ByteArray.size (ksS ++ dk) + ByteArray.size atS ≤ (9223372036854775807 : Nat),
    vs (ksS ++ dk ++ atS) = vs (ksS ++ dk ++ atS),
    evB (lf + 100) 16 34 [vi off] (kpH0 kind off r0 W) = some (vs dO, (kpH0 kind off r0 W), []),
    ByteArray.size (ksS ++ dk ++ atS) + ByteArray.size dO ≤ (9223372036854775807 : Nat),
    vs (ksS ++ dk ++ atS ++ dO) = vs (tF dk dO)] (by kernel_rfl)
    ⟨hdk _, by (try simp only [y1, y2, y3, y4, y5, y6, y7]); omega, rfl, by (try simp only [y1, y2, y3, y4, y5, y6, y7]); omega, rfl, hdo _, by (try simp only [y1, y2, y3, y4, y5, y6, y7]); omega, rfl, trivial⟩
--> ln0
--< isT0
theorem isT0 (lf : Nat) (kind : Int) (off : Int) (r0 : List AObj) (W : AObj) :
    evB (lf + 100) 19 15 [vf 70 (pt 18), vi kind] (kpH0 kind off r0 W) = some (vb true, (kpH0 kind off r0 W), []) :=
  Dg.evCall_hint (hs' := []) (hs := [qv 32 18 (vb false),
    qv 32 18 (vb true)])
    [vb false = vb false,
    vb (if true = true then kind == kind else !kind == kind) = vb true] (by kernel_rfl)
    ⟨rfl, Dg.vtrue (by omega), trivial⟩
--> isT0
--< isF0
theorem isF0 (lf : Nat) (kind : Int) (off : Int) (other : Int) (hne : other ≠ kind) (r0 : List AObj) (W : AObj) :
    evB (lf + 100) 19 15 [vf 70 (pt 18), vi other] (kpH0 kind off r0 W) = some (vb false, (kpH0 kind off r0 W), []) :=
  Dg.evCall_hint (hs' := []) (hs := [qv 32 18 (vb false),
    qv 32 18 (vb false)])
    [vb false = vb false,
    vb (if true = true then kind == other else !kind == other) = vb false] (by kernel_rfl)
    ⟨rfl, Dg.vfalse (by omega), trivial⟩
--> isF0
--< rl0
theorem rl0 (lf : Nat) (kind : Int) (off : Int) (r0 : List AObj) (W : AObj) (dk : ByteArray) (dO : ByteArray) (hk : ByteArray.size dk ≤ 20) (ho : ByteArray.size dO ≤ 20) (hdk : ∀ (m : Nat) (H : Heap), evB (lf + 100) (m + 1) 21 [vi kind] H = some (vs dk, H, [])) (hdo : ∀ (m : Nat) (H : Heap), evB (lf + 100) (m + 1) 21 [vi off] H = some (vs dO, H, [])) :
    evB (lf + 100) 19 18 [Value.slice none 0 0, vi kind, vi off] (kpH0 kind off r0 W) = some (vs (e0 ++ ksS ++ dk ++ atS ++ dO), (kpH0 kind off r0 W), []) :=
  Dg.evCall_hint (hs' := []) (hs := [qs 18 23 (vs (e0 ++ ksS)),
    qc 21 (vs dk) (kpH0 kind off r0 W) [],
    qs 18 26 (vs (e0 ++ ksS ++ dk)),
    qs 18 27 (vs (e0 ++ ksS ++ dk ++ atS)),
    qc 21 (vs dO) (kpH0 kind off r0 W) [],
    qs 18 30 (vs (e0 ++ ksS ++ dk ++ atS ++ dO))])
    [ByteArray.size e0 + ByteArray.size ksS ≤ (9223372036854775807 : Nat),
    vs (e0 ++ ksS) = vs (e0 ++ ksS),
    evB (lf + 100) 18 21 [vi kind] (kpH0 kind off r0 W) = some (vs dk, (kpH0 kind off r0 W), []),
    ByteArray.size (e0 ++ ksS) + ByteArray.size dk ≤ (9223372036854775807 : Nat),
    vs (e0 ++ ksS ++ dk) = vs (e0 ++ ksS ++ dk),
    ByteArray.size (e0 ++ ksS ++ dk) + ByteArray.size atS ≤ (9223372036854775807 : Nat),
    vs (e0 ++ ksS ++ dk ++ atS) = vs (e0 ++ ksS ++ dk ++ atS),
    evB (lf + 100) 18 21 [vi off] (kpH0 kind off r0 W) = some (vs dO, (kpH0 kind off r0 W), []),
    ByteArray.size (e0 ++ ksS ++ dk ++ atS) + ByteArray.size dO ≤ (9223372036854775807 : Nat),
    vs (e0 ++ ksS ++ dk ++ atS ++ dO) = vs (e0 ++ ksS ++ dk ++ atS ++ dO)] (by kernel_rfl)
    ⟨by (try simp only [y1, y2, y3, y4, y5, y6, y7]); omega, rfl, hdk _ _, by (try simp only [y1, y2, y3, y4, y5, y6, y7]); omega, rfl, by (try simp only [y1, y2, y3, y4, y5, y6, y7]); omega, rfl, hdo _ _, by (try simp only [y1, y2, y3, y4, y5, y6, y7]); omega, rfl, trivial⟩
--> rl0
theorem rl_is0 (dk dO : ByteArray) : (((((⟨#[]⟩ : ByteArray) ++ ksS) ++ dk) ++ atS) ++ dO) = tF dk dO := by
  unfold tF; rw [emp]
--< err1
theorem err1 (lf : Nat) (kind : Int) (off : Int) (r0 : List AObj) (W : AObj) (w1 : ByteArray) (dk : ByteArray) (dO : ByteArray) (hk : ByteArray.size dk ≤ 20) (ho : ByteArray.size dO ≤ 20) (z1 : ByteArray.size w1 ≤ 32) (hdk : ∀ (m : Nat), evB (lf + 100) (m + 1) 34 [vi kind] (kpH1 kind off r0 W w1) = some (vs dk, (kpH1 kind off r0 W w1), [])) (hdo : ∀ (m : Nat), evB (lf + 100) (m + 1) 34 [vi off] (kpH1 kind off r0 W w1) = some (vs dO, (kpH1 kind off r0 W w1), [])) :
    evB (lf + 100) 19 126 [pt 18] (kpH1 kind off r0 W w1) = some (vs (tN w1 (tF dk dO)), (kpH1 kind off r0 W w1), []) :=
  Dg.evCall_hint (hs' := []) (hs := [qs 126 7 (vs (w1 ++ csS)),
    qc 34 (vs dk) (kpH1 kind off r0 W w1) [],
    qs 20 5 (vs (ksS ++ dk)),
    qs 128 8 (vs (ksS ++ dk ++ atS)),
    qc 34 (vs dO) (kpH1 kind off r0 W w1) [],
    qs 128 14 (vs (tF dk dO)),
    qs 126 13 (vs (tN w1 (tF dk dO)))])
    [ByteArray.size w1 + ByteArray.size csS ≤ (9223372036854775807 : Nat),
    vs (w1 ++ csS) = vs (w1 ++ csS),
    evB (lf + 100) 16 34 [vi kind] (kpH1 kind off r0 W w1) = some (vs dk, (kpH1 kind off r0 W w1), []),
    ByteArray.size ksS + ByteArray.size dk ≤ (9223372036854775807 : Nat),
    vs (ksS ++ dk) = vs (ksS ++ dk),
    ByteArray.size (ksS ++ dk) + ByteArray.size atS ≤ (9223372036854775807 : Nat),
    vs (ksS ++ dk ++ atS) = vs (ksS ++ dk ++ atS),
    evB (lf + 100) 17 34 [vi off] (kpH1 kind off r0 W w1) = some (vs dO, (kpH1 kind off r0 W w1), []),
    ByteArray.size (ksS ++ dk ++ atS) + ByteArray.size dO ≤ (9223372036854775807 : Nat),
    vs (ksS ++ dk ++ atS ++ dO) = vs (tF dk dO),
    ByteArray.size (w1 ++ csS) + ByteArray.size (tF dk dO) ≤ (9223372036854775807 : Nat),
    vs (w1 ++ csS ++ tF dk dO) = vs (tN w1 (tF dk dO))] (by kernel_rfl)
    ⟨by (try simp only [y1, y2, y3, y4, y5, y6, y7]); omega, rfl, hdk _, by (try simp only [y1, y2, y3, y4, y5, y6, y7]); omega, rfl, by (try simp only [y1, y2, y3, y4, y5, y6, y7]); omega, rfl, hdo _, by (try simp only [y1, y2, y3, y4, y5, y6, y7]); omega, rfl, by (try simp only [y1, y2, y3, y4, y5, y6, y7]); omega, rfl, trivial⟩
--> err1
--< ln1
theorem ln1 (lf : Nat) (kind : Int) (off : Int) (r0 : List AObj) (W : AObj) (w1 : ByteArray) (dk : ByteArray) (dO : ByteArray) (hk : ByteArray.size dk ≤ 20) (ho : ByteArray.size dO ≤ 20) (z1 : ByteArray.size w1 ≤ 32) (hdk : ∀ (m : Nat), evB (lf + 100) (m + 1) 34 [vi kind] (kpH1 kind off r0 W w1) = some (vs dk, (kpH1 kind off r0 W w1), [])) (hdo : ∀ (m : Nat), evB (lf + 100) (m + 1) 34 [vi off] (kpH1 kind off r0 W w1) = some (vs dO, (kpH1 kind off r0 W w1), [])) :
    evB (lf + 100) 19 13 [vf 67 (pt 18)] (kpH1 kind off r0 W w1) = some (Value.tuple #[vs (tN w1 (tF dk dO)), vb true], (kpH1 kind off r0 W w1), []) :=
  Dg.evCall_hint (hs' := []) (hs := [qs 126 7 (vs (w1 ++ csS)),
    qc 34 (vs dk) (kpH1 kind off r0 W w1) [],
    qs 20 5 (vs (ksS ++ dk)),
    qs 128 8 (vs (ksS ++ dk ++ atS)),
    qc 34 (vs dO) (kpH1 kind off r0 W w1) [],
    qs 128 14 (vs (tF dk dO)),
    qs 126 13 (vs (tN w1 (tF dk dO)))])
    [ByteArray.size w1 + ByteArray.size csS ≤ (9223372036854775807 : Nat),
    vs (w1 ++ csS) = vs (w1 ++ csS),
    evB (lf + 100) 14 34 [vi kind] (kpH1 kind off r0 W w1) = some (vs dk, (kpH1 kind off r0 W w1), []),
    ByteArray.size ksS + ByteArray.size dk ≤ (9223372036854775807 : Nat),
    vs (ksS ++ dk) = vs (ksS ++ dk),
    ByteArray.size (ksS ++ dk) + ByteArray.size atS ≤ (9223372036854775807 : Nat),
    vs (ksS ++ dk ++ atS) = vs (ksS ++ dk ++ atS),
    evB (lf + 100) 15 34 [vi off] (kpH1 kind off r0 W w1) = some (vs dO, (kpH1 kind off r0 W w1), []),
    ByteArray.size (ksS ++ dk ++ atS) + ByteArray.size dO ≤ (9223372036854775807 : Nat),
    vs (ksS ++ dk ++ atS ++ dO) = vs (tF dk dO),
    ByteArray.size (w1 ++ csS) + ByteArray.size (tF dk dO) ≤ (9223372036854775807 : Nat),
    vs (w1 ++ csS ++ tF dk dO) = vs (tN w1 (tF dk dO))] (by kernel_rfl)
    ⟨by (try simp only [y1, y2, y3, y4, y5, y6, y7]); omega, rfl, hdk _, by (try simp only [y1, y2, y3, y4, y5, y6, y7]); omega, rfl, by (try simp only [y1, y2, y3, y4, y5, y6, y7]); omega, rfl, hdo _, by (try simp only [y1, y2, y3, y4, y5, y6, y7]); omega, rfl, by (try simp only [y1, y2, y3, y4, y5, y6, y7]); omega, rfl, trivial⟩
--> ln1
--< isT1
theorem isT1 (lf : Nat) (kind : Int) (off : Int) (r0 : List AObj) (W : AObj) (w1 : ByteArray) :
    evB (lf + 100) 19 15 [vf 67 (pt 18), vi kind] (kpN1 kind off r0 W w1) = some (vb true, (kpN1 kind off r0 W w1), []) :=
  Dg.evCall_hint (hs' := []) (hs := [qv 32 18 (vb false),
    qv 32 18 (vb false),
    qv 32 18 (vb true)])
    [vb false = vb false,
    vb false = vb false,
    vb (if true = true then kind == kind else !kind == kind) = vb true] (by kernel_rfl)
    ⟨rfl, rfl, Dg.vtrue (by omega), trivial⟩
--> isT1
--< isF1
theorem isF1 (lf : Nat) (kind : Int) (off : Int) (other : Int) (hne : other ≠ kind) (r0 : List AObj) (W : AObj) (w1 : ByteArray) :
    evB (lf + 100) 19 15 [vf 67 (pt 18), vi other] (kpN1 kind off r0 W w1) = some (vb false, (kpN1 kind off r0 W w1), []) :=
  Dg.evCall_hint (hs' := []) (hs := [qv 32 18 (vb false),
    qv 32 18 (vb false),
    qv 32 18 (vb false)])
    [vb false = vb false,
    vb false = vb false,
    vb (if true = true then kind == other else !kind == other) = vb false] (by kernel_rfl)
    ⟨rfl, rfl, Dg.vfalse (by omega), trivial⟩
--> isF1
--< rl1
theorem rl1 (lf : Nat) (kind : Int) (off : Int) (r0 : List AObj) (W : AObj) (w1 : ByteArray) (dk : ByteArray) (dO : ByteArray) (hk : ByteArray.size dk ≤ 20) (ho : ByteArray.size dO ≤ 20) (z1 : ByteArray.size w1 ≤ 32) (hdk : ∀ (m : Nat) (H : Heap), evB (lf + 100) (m + 1) 21 [vi kind] H = some (vs dk, H, [])) (hdo : ∀ (m : Nat) (H : Heap), evB (lf + 100) (m + 1) 21 [vi off] H = some (vs dO, H, [])) :
    evB (lf + 100) 19 18 [sq 20 1 1, vi kind, vi off] (kpH1 kind off r0 W w1) = some (vs (e0 ++ w1 ++ csS ++ ksS ++ dk ++ atS ++ dO), (kpH1 kind off r0 W w1), []) :=
  Dg.evCall_hint (hs' := []) (hs := [qs 18 20 (vs (e0 ++ w1)),
    qs 18 21 (vs (e0 ++ w1 ++ csS)),
    qs 18 23 (vs (e0 ++ w1 ++ csS ++ ksS)),
    qc 21 (vs dk) (kpH1 kind off r0 W w1) [],
    qs 18 26 (vs (e0 ++ w1 ++ csS ++ ksS ++ dk)),
    qs 18 27 (vs (e0 ++ w1 ++ csS ++ ksS ++ dk ++ atS)),
    qc 21 (vs dO) (kpH1 kind off r0 W w1) [],
    qs 18 30 (vs (e0 ++ w1 ++ csS ++ ksS ++ dk ++ atS ++ dO))])
    [ByteArray.size e0 + ByteArray.size w1 ≤ (9223372036854775807 : Nat),
    vs (e0 ++ w1) = vs (e0 ++ w1),
    ByteArray.size (e0 ++ w1) + ByteArray.size csS ≤ (9223372036854775807 : Nat),
    vs (e0 ++ w1 ++ csS) = vs (e0 ++ w1 ++ csS),
    ByteArray.size (e0 ++ w1 ++ csS) + ByteArray.size ksS ≤ (9223372036854775807 : Nat),
    vs (e0 ++ w1 ++ csS ++ ksS) = vs (e0 ++ w1 ++ csS ++ ksS),
    evB (lf + 100) 18 21 [vi kind] (kpH1 kind off r0 W w1) = some (vs dk, (kpH1 kind off r0 W w1), []),
    ByteArray.size (e0 ++ w1 ++ csS ++ ksS) + ByteArray.size dk ≤ (9223372036854775807 : Nat),
    vs (e0 ++ w1 ++ csS ++ ksS ++ dk) = vs (e0 ++ w1 ++ csS ++ ksS ++ dk),
    ByteArray.size (e0 ++ w1 ++ csS ++ ksS ++ dk) + ByteArray.size atS ≤ (9223372036854775807 : Nat),
    vs (e0 ++ w1 ++ csS ++ ksS ++ dk ++ atS) = vs (e0 ++ w1 ++ csS ++ ksS ++ dk ++ atS),
    evB (lf + 100) 18 21 [vi off] (kpH1 kind off r0 W w1) = some (vs dO, (kpH1 kind off r0 W w1), []),
    ByteArray.size (e0 ++ w1 ++ csS ++ ksS ++ dk ++ atS) + ByteArray.size dO ≤ (9223372036854775807 : Nat),
    vs (e0 ++ w1 ++ csS ++ ksS ++ dk ++ atS ++ dO) = vs (e0 ++ w1 ++ csS ++ ksS ++ dk ++ atS ++ dO)] (by kernel_rfl)
    ⟨by (try simp only [y1, y2, y3, y4, y5, y6, y7]); omega, rfl, by (try simp only [y1, y2, y3, y4, y5, y6, y7]); omega, rfl, by (try simp only [y1, y2, y3, y4, y5, y6, y7]); omega, rfl, hdk _ _, by (try simp only [y1, y2, y3, y4, y5, y6, y7]); omega, rfl, by (try simp only [y1, y2, y3, y4, y5, y6, y7]); omega, rfl, hdo _ _, by (try simp only [y1, y2, y3, y4, y5, y6, y7]); omega, rfl, trivial⟩
--> rl1
theorem rl_is1 (w1 : ByteArray) (dk dO : ByteArray) : (((((((⟨#[]⟩ : ByteArray) ++ w1) ++ csS) ++ ksS) ++ dk) ++ atS) ++ dO) = tN w1 (tF dk dO) := by
  unfold tF; simp only [tN, ByteArray.append_assoc, emp]
--< eq1
theorem eq1 (lf : Nat) (kind : Int) (off : Int) (r0 : List AObj) (W : AObj) (w1 : ByteArray) :
    evB (lf + 100) 19 19 [sp 21 1 1, sq 20 1 1] (kpN1 kind off r0 W w1) = some (vb true, (kpN1 kind off r0 W w1), []) :=
  Dg.evCall_hint (hs' := []) (hs := [qv 19 24 (vb false)])
    [(vb !ByteArray.toList w1 == ByteArray.toList w1) = vb false] (by kernel_rfl)
    ⟨neS _, trivial⟩
--> eq1
--< err2
theorem err2 (lf : Nat) (kind : Int) (off : Int) (r0 : List AObj) (W : AObj) (w1 : ByteArray) (w2 : ByteArray) (dk : ByteArray) (dO : ByteArray) (hk : ByteArray.size dk ≤ 20) (ho : ByteArray.size dO ≤ 20) (z1 : ByteArray.size w1 ≤ 32) (z2 : ByteArray.size w2 ≤ 32) (hdk : ∀ (m : Nat), evB (lf + 100) (m + 1) 34 [vi kind] (kpH2 kind off r0 W w1 w2) = some (vs dk, (kpH2 kind off r0 W w1 w2), [])) (hdo : ∀ (m : Nat), evB (lf + 100) (m + 1) 34 [vi off] (kpH2 kind off r0 W w1 w2) = some (vs dO, (kpH2 kind off r0 W w1 w2), [])) :
    evB (lf + 100) 19 126 [pt 18] (kpH2 kind off r0 W w1 w2) = some (vs (tN w2 (tN w1 (tF dk dO))), (kpH2 kind off r0 W w1 w2), []) :=
  Dg.evCall_hint (hs' := []) (hs := [qs 126 7 (vs (w2 ++ csS)),
    qs 126 7 (vs (w1 ++ csS)),
    qc 34 (vs dk) (kpH2 kind off r0 W w1 w2) [],
    qs 20 5 (vs (ksS ++ dk)),
    qs 128 8 (vs (ksS ++ dk ++ atS)),
    qc 34 (vs dO) (kpH2 kind off r0 W w1 w2) [],
    qs 128 14 (vs (tF dk dO)),
    qs 126 13 (vs (tN w1 (tF dk dO))),
    qs 126 13 (vs (tN w2 (tN w1 (tF dk dO))))])
    [ByteArray.size w2 + ByteArray.size csS ≤ (9223372036854775807 : Nat),
    vs (w2 ++ csS) = vs (w2 ++ csS),
    ByteArray.size w1 + ByteArray.size csS ≤ (9223372036854775807 : Nat),
    vs (w1 ++ csS) = vs (w1 ++ csS),
    evB (lf + 100) 15 34 [vi kind] (kpH2 kind off r0 W w1 w2) = some (vs dk, (kpH2 kind off r0 W w1 w2), []),
    ByteArray.size ksS + ByteArray.size dk ≤ (9223372036854775807 : Nat),
    vs (ksS ++ dk) = vs (ksS ++ dk),
    ByteArray.size (ksS ++ dk) + ByteArray.size atS ≤ (9223372036854775807 : Nat),
    vs (ksS ++ dk ++ atS) = vs (ksS ++ dk ++ atS),
    evB (lf + 100) 16 34 [vi off] (kpH2 kind off r0 W w1 w2) = some (vs dO, (kpH2 kind off r0 W w1 w2), []),
    ByteArray.size (ksS ++ dk ++ atS) + ByteArray.size dO ≤ (9223372036854775807 : Nat),
    vs (ksS ++ dk ++ atS ++ dO) = vs (tF dk dO),
    ByteArray.size (w1 ++ csS) + ByteArray.size (tF dk dO) ≤ (9223372036854775807 : Nat),
    vs (w1 ++ csS ++ tF dk dO) = vs (tN w1 (tF dk dO)),
    ByteArray.size (w2 ++ csS) + ByteArray.size (tN w1 (tF dk dO)) ≤ (9223372036854775807 : Nat),
    vs (w2 ++ csS ++ tN w1 (tF dk dO)) = vs (tN w2 (tN w1 (tF dk dO)))] (by kernel_rfl)
    ⟨by (try simp only [y1, y2, y3, y4, y5, y6, y7]); omega, rfl, by (try simp only [y1, y2, y3, y4, y5, y6, y7]); omega, rfl, hdk _, by (try simp only [y1, y2, y3, y4, y5, y6, y7]); omega, rfl, by (try simp only [y1, y2, y3, y4, y5, y6, y7]); omega, rfl, hdo _, by (try simp only [y1, y2, y3, y4, y5, y6, y7]); omega, rfl, by (try simp only [y1, y2, y3, y4, y5, y6, y7]); omega, rfl, by (try simp only [y1, y2, y3, y4, y5, y6, y7]); omega, rfl, trivial⟩
--> err2
--< ln2
theorem ln2 (lf : Nat) (kind : Int) (off : Int) (r0 : List AObj) (W : AObj) (w1 : ByteArray) (w2 : ByteArray) (dk : ByteArray) (dO : ByteArray) (hk : ByteArray.size dk ≤ 20) (ho : ByteArray.size dO ≤ 20) (z1 : ByteArray.size w1 ≤ 32) (z2 : ByteArray.size w2 ≤ 32) (hdk : ∀ (m : Nat), evB (lf + 100) (m + 1) 34 [vi kind] (kpH2 kind off r0 W w1 w2) = some (vs dk, (kpH2 kind off r0 W w1 w2), [])) (hdo : ∀ (m : Nat), evB (lf + 100) (m + 1) 34 [vi off] (kpH2 kind off r0 W w1 w2) = some (vs dO, (kpH2 kind off r0 W w1 w2), [])) :
    evB (lf + 100) 19 13 [vf 67 (pt 18)] (kpH2 kind off r0 W w1 w2) = some (Value.tuple #[vs (tN w2 (tN w1 (tF dk dO))), vb true], (kpH2 kind off r0 W w1 w2), []) :=
  Dg.evCall_hint (hs' := []) (hs := [qs 126 7 (vs (w2 ++ csS)),
    qs 126 7 (vs (w1 ++ csS)),
    qc 34 (vs dk) (kpH2 kind off r0 W w1 w2) [],
    qs 20 5 (vs (ksS ++ dk)),
    qs 128 8 (vs (ksS ++ dk ++ atS)),
    qc 34 (vs dO) (kpH2 kind off r0 W w1 w2) [],
    qs 128 14 (vs (tF dk dO)),
    qs 126 13 (vs (tN w1 (tF dk dO))),
    qs 126 13 (vs (tN w2 (tN w1 (tF dk dO))))])
    [ByteArray.size w2 + ByteArray.size csS ≤ (9223372036854775807 : Nat),
    vs (w2 ++ csS) = vs (w2 ++ csS),
    ByteArray.size w1 + ByteArray.size csS ≤ (9223372036854775807 : Nat),
    vs (w1 ++ csS) = vs (w1 ++ csS),
    evB (lf + 100) 13 34 [vi kind] (kpH2 kind off r0 W w1 w2) = some (vs dk, (kpH2 kind off r0 W w1 w2), []),
    ByteArray.size ksS + ByteArray.size dk ≤ (9223372036854775807 : Nat),
    vs (ksS ++ dk) = vs (ksS ++ dk),
    ByteArray.size (ksS ++ dk) + ByteArray.size atS ≤ (9223372036854775807 : Nat),
    vs (ksS ++ dk ++ atS) = vs (ksS ++ dk ++ atS),
    evB (lf + 100) 14 34 [vi off] (kpH2 kind off r0 W w1 w2) = some (vs dO, (kpH2 kind off r0 W w1 w2), []),
    ByteArray.size (ksS ++ dk ++ atS) + ByteArray.size dO ≤ (9223372036854775807 : Nat),
    vs (ksS ++ dk ++ atS ++ dO) = vs (tF dk dO),
    ByteArray.size (w1 ++ csS) + ByteArray.size (tF dk dO) ≤ (9223372036854775807 : Nat),
    vs (w1 ++ csS ++ tF dk dO) = vs (tN w1 (tF dk dO)),
    ByteArray.size (w2 ++ csS) + ByteArray.size (tN w1 (tF dk dO)) ≤ (9223372036854775807 : Nat),
    vs (w2 ++ csS ++ tN w1 (tF dk dO)) = vs (tN w2 (tN w1 (tF dk dO)))] (by kernel_rfl)
    ⟨by (try simp only [y1, y2, y3, y4, y5, y6, y7]); omega, rfl, by (try simp only [y1, y2, y3, y4, y5, y6, y7]); omega, rfl, hdk _, by (try simp only [y1, y2, y3, y4, y5, y6, y7]); omega, rfl, by (try simp only [y1, y2, y3, y4, y5, y6, y7]); omega, rfl, hdo _, by (try simp only [y1, y2, y3, y4, y5, y6, y7]); omega, rfl, by (try simp only [y1, y2, y3, y4, y5, y6, y7]); omega, rfl, by (try simp only [y1, y2, y3, y4, y5, y6, y7]); omega, rfl, trivial⟩
--> ln2
--< isT2
theorem isT2 (lf : Nat) (kind : Int) (off : Int) (r0 : List AObj) (W : AObj) (w1 : ByteArray) (w2 : ByteArray) :
    evB (lf + 100) 19 15 [vf 67 (pt 18), vi kind] (kpN2 kind off r0 W w1 w2) = some (vb true, (kpN2 kind off r0 W w1 w2), []) :=
  Dg.evCall_hint (hs' := []) (hs := [qv 32 18 (vb false),
    qv 32 18 (vb false),
    qv 32 18 (vb false),
    qv 32 18 (vb true)])
    [vb false = vb false,
    vb false = vb false,
    vb false = vb false,
    vb (if true = true then kind == kind else !kind == kind) = vb true] (by kernel_rfl)
    ⟨rfl, rfl, rfl, Dg.vtrue (by omega), trivial⟩
--> isT2
--< isF2
theorem isF2 (lf : Nat) (kind : Int) (off : Int) (other : Int) (hne : other ≠ kind) (r0 : List AObj) (W : AObj) (w1 : ByteArray) (w2 : ByteArray) :
    evB (lf + 100) 19 15 [vf 67 (pt 18), vi other] (kpN2 kind off r0 W w1 w2) = some (vb false, (kpN2 kind off r0 W w1 w2), []) :=
  Dg.evCall_hint (hs' := []) (hs := [qv 32 18 (vb false),
    qv 32 18 (vb false),
    qv 32 18 (vb false),
    qv 32 18 (vb false)])
    [vb false = vb false,
    vb false = vb false,
    vb false = vb false,
    vb (if true = true then kind == other else !kind == other) = vb false] (by kernel_rfl)
    ⟨rfl, rfl, rfl, Dg.vfalse (by omega), trivial⟩
--> isF2
--< rl2
theorem rl2 (lf : Nat) (kind : Int) (off : Int) (r0 : List AObj) (W : AObj) (w1 : ByteArray) (w2 : ByteArray) (dk : ByteArray) (dO : ByteArray) (hk : ByteArray.size dk ≤ 20) (ho : ByteArray.size dO ≤ 20) (z1 : ByteArray.size w1 ≤ 32) (z2 : ByteArray.size w2 ≤ 32) (hdk : ∀ (m : Nat) (H : Heap), evB (lf + 100) (m + 1) 21 [vi kind] H = some (vs dk, H, [])) (hdo : ∀ (m : Nat) (H : Heap), evB (lf + 100) (m + 1) 21 [vi off] H = some (vs dO, H, [])) :
    evB (lf + 100) 19 18 [sp 21 2 2, vi kind, vi off] (kpH2 kind off r0 W w1 w2) = some (vs (e0 ++ w2 ++ csS ++ w1 ++ csS ++ ksS ++ dk ++ atS ++ dO), (kpH2 kind off r0 W w1 w2), []) :=
  Dg.evCall_hint (hs' := []) (hs := [qs 18 20 (vs (e0 ++ w2)),
    qs 18 21 (vs (e0 ++ w2 ++ csS)),
    qs 18 20 (vs (e0 ++ w2 ++ csS ++ w1)),
    qs 18 21 (vs (e0 ++ w2 ++ csS ++ w1 ++ csS)),
    qs 18 23 (vs (e0 ++ w2 ++ csS ++ w1 ++ csS ++ ksS)),
    qc 21 (vs dk) (kpH2 kind off r0 W w1 w2) [],
    qs 18 26 (vs (e0 ++ w2 ++ csS ++ w1 ++ csS ++ ksS ++ dk)),
    qs 18 27 (vs (e0 ++ w2 ++ csS ++ w1 ++ csS ++ ksS ++ dk ++ atS)),
    qc 21 (vs dO) (kpH2 kind off r0 W w1 w2) [],
    qs 18 30 (vs (e0 ++ w2 ++ csS ++ w1 ++ csS ++ ksS ++ dk ++ atS ++ dO))])
    [ByteArray.size e0 + ByteArray.size w2 ≤ (9223372036854775807 : Nat),
    vs (e0 ++ w2) = vs (e0 ++ w2),
    ByteArray.size (e0 ++ w2) + ByteArray.size csS ≤ (9223372036854775807 : Nat),
    vs (e0 ++ w2 ++ csS) = vs (e0 ++ w2 ++ csS),
    ByteArray.size (e0 ++ w2 ++ csS) + ByteArray.size w1 ≤ (9223372036854775807 : Nat),
    vs (e0 ++ w2 ++ csS ++ w1) = vs (e0 ++ w2 ++ csS ++ w1),
    ByteArray.size (e0 ++ w2 ++ csS ++ w1) + ByteArray.size csS ≤ (9223372036854775807 : Nat),
    vs (e0 ++ w2 ++ csS ++ w1 ++ csS) = vs (e0 ++ w2 ++ csS ++ w1 ++ csS),
    ByteArray.size (e0 ++ w2 ++ csS ++ w1 ++ csS) + ByteArray.size ksS ≤ (9223372036854775807 : Nat),
    vs (e0 ++ w2 ++ csS ++ w1 ++ csS ++ ksS) = vs (e0 ++ w2 ++ csS ++ w1 ++ csS ++ ksS),
    evB (lf + 100) 18 21 [vi kind] (kpH2 kind off r0 W w1 w2) = some (vs dk, (kpH2 kind off r0 W w1 w2), []),
    ByteArray.size (e0 ++ w2 ++ csS ++ w1 ++ csS ++ ksS) + ByteArray.size dk ≤ (9223372036854775807 : Nat),
    vs (e0 ++ w2 ++ csS ++ w1 ++ csS ++ ksS ++ dk) = vs (e0 ++ w2 ++ csS ++ w1 ++ csS ++ ksS ++ dk),
    ByteArray.size (e0 ++ w2 ++ csS ++ w1 ++ csS ++ ksS ++ dk) + ByteArray.size atS ≤ (9223372036854775807 : Nat),
    vs (e0 ++ w2 ++ csS ++ w1 ++ csS ++ ksS ++ dk ++ atS) = vs (e0 ++ w2 ++ csS ++ w1 ++ csS ++ ksS ++ dk ++ atS),
    evB (lf + 100) 18 21 [vi off] (kpH2 kind off r0 W w1 w2) = some (vs dO, (kpH2 kind off r0 W w1 w2), []),
    ByteArray.size (e0 ++ w2 ++ csS ++ w1 ++ csS ++ ksS ++ dk ++ atS) + ByteArray.size dO ≤ (9223372036854775807 : Nat),
    vs (e0 ++ w2 ++ csS ++ w1 ++ csS ++ ksS ++ dk ++ atS ++ dO) = vs (e0 ++ w2 ++ csS ++ w1 ++ csS ++ ksS ++ dk ++ atS ++ dO)] (by kernel_rfl)
    ⟨by (try simp only [y1, y2, y3, y4, y5, y6, y7]); omega, rfl, by (try simp only [y1, y2, y3, y4, y5, y6, y7]); omega, rfl, by (try simp only [y1, y2, y3, y4, y5, y6, y7]); omega, rfl, by (try simp only [y1, y2, y3, y4, y5, y6, y7]); omega, rfl, by (try simp only [y1, y2, y3, y4, y5, y6, y7]); omega, rfl, hdk _ _, by (try simp only [y1, y2, y3, y4, y5, y6, y7]); omega, rfl, by (try simp only [y1, y2, y3, y4, y5, y6, y7]); omega, rfl, hdo _ _, by (try simp only [y1, y2, y3, y4, y5, y6, y7]); omega, rfl, trivial⟩
--> rl2
theorem rl_is2 (w1 w2 : ByteArray) (dk dO : ByteArray) : (((((((((⟨#[]⟩ : ByteArray) ++ w2) ++ csS) ++ w1) ++ csS) ++ ksS) ++ dk) ++ atS) ++ dO) = tN w2 (tN w1 (tF dk dO)) := by
  unfold tF; simp only [tN, ByteArray.append_assoc, emp]
--< eq2
theorem eq2 (lf : Nat) (kind : Int) (off : Int) (r0 : List AObj) (W : AObj) (w1 : ByteArray) (w2 : ByteArray) :
    evB (lf + 100) 19 19 [sp 22 2 2, sp 21 2 2] (kpN2 kind off r0 W w1 w2) = some (vb true, (kpN2 kind off r0 W w1 w2), []) :=
  Dg.evCall_hint (hs' := []) (hs := [qv 19 24 (vb false),
    qv 19 24 (vb false)])
    [(vb !ByteArray.toList w2 == ByteArray.toList w2) = vb false,
    (vb !ByteArray.toList w1 == ByteArray.toList w1) = vb false] (by kernel_rfl)
    ⟨neS _, neS _, trivial⟩
--> eq2
--< err3
theorem err3 (lf : Nat) (kind : Int) (off : Int) (r0 : List AObj) (W : AObj) (w1 : ByteArray) (w2 : ByteArray) (w3 : ByteArray) (dk : ByteArray) (dO : ByteArray) (hk : ByteArray.size dk ≤ 20) (ho : ByteArray.size dO ≤ 20) (z1 : ByteArray.size w1 ≤ 32) (z2 : ByteArray.size w2 ≤ 32) (z3 : ByteArray.size w3 ≤ 32) (hdk : ∀ (m : Nat), evB (lf + 100) (m + 1) 34 [vi kind] (kpH3 kind off r0 W w1 w2 w3) = some (vs dk, (kpH3 kind off r0 W w1 w2 w3), [])) (hdo : ∀ (m : Nat), evB (lf + 100) (m + 1) 34 [vi off] (kpH3 kind off r0 W w1 w2 w3) = some (vs dO, (kpH3 kind off r0 W w1 w2 w3), [])) :
    evB (lf + 100) 19 126 [pt 18] (kpH3 kind off r0 W w1 w2 w3) = some (vs (tN w3 (tN w2 (tN w1 (tF dk dO)))), (kpH3 kind off r0 W w1 w2 w3), []) :=
  Dg.evCall_hint (hs' := []) (hs := [qs 126 7 (vs (w3 ++ csS)),
    qs 126 7 (vs (w2 ++ csS)),
    qs 126 7 (vs (w1 ++ csS)),
    qc 34 (vs dk) (kpH3 kind off r0 W w1 w2 w3) [],
    qs 20 5 (vs (ksS ++ dk)),
    qs 128 8 (vs (ksS ++ dk ++ atS)),
    qc 34 (vs dO) (kpH3 kind off r0 W w1 w2 w3) [],
    qs 128 14 (vs (tF dk dO)),
    qs 126 13 (vs (tN w1 (tF dk dO))),
    qs 126 13 (vs (tN w2 (tN w1 (tF dk dO)))),
    qs 126 13 (vs (tN w3 (tN w2 (tN w1 (tF dk dO)))))])
    [ByteArray.size w3 + ByteArray.size csS ≤ (9223372036854775807 : Nat),
    vs (w3 ++ csS) = vs (w3 ++ csS),
    ByteArray.size w2 + ByteArray.size csS ≤ (9223372036854775807 : Nat),
    vs (w2 ++ csS) = vs (w2 ++ csS),
    ByteArray.size w1 + ByteArray.size csS ≤ (9223372036854775807 : Nat),
    vs (w1 ++ csS) = vs (w1 ++ csS),
    evB (lf + 100) 14 34 [vi kind] (kpH3 kind off r0 W w1 w2 w3) = some (vs dk, (kpH3 kind off r0 W w1 w2 w3), []),
    ByteArray.size ksS + ByteArray.size dk ≤ (9223372036854775807 : Nat),
    vs (ksS ++ dk) = vs (ksS ++ dk),
    ByteArray.size (ksS ++ dk) + ByteArray.size atS ≤ (9223372036854775807 : Nat),
    vs (ksS ++ dk ++ atS) = vs (ksS ++ dk ++ atS),
    evB (lf + 100) 15 34 [vi off] (kpH3 kind off r0 W w1 w2 w3) = some (vs dO, (kpH3 kind off r0 W w1 w2 w3), []),
    ByteArray.size (ksS ++ dk ++ atS) + ByteArray.size dO ≤ (9223372036854775807 : Nat),
    vs (ksS ++ dk ++ atS ++ dO) = vs (tF dk dO),
    ByteArray.size (w1 ++ csS) + ByteArray.size (tF dk dO) ≤ (9223372036854775807 : Nat),
    vs (w1 ++ csS ++ tF dk dO) = vs (tN w1 (tF dk dO)),
    ByteArray.size (w2 ++ csS) + ByteArray.size (tN w1 (tF dk dO)) ≤ (9223372036854775807 : Nat),
    vs (w2 ++ csS ++ tN w1 (tF dk dO)) = vs (tN w2 (tN w1 (tF dk dO))),
    ByteArray.size (w3 ++ csS) + ByteArray.size (tN w2 (tN w1 (tF dk dO))) ≤ (9223372036854775807 : Nat),
    vs (w3 ++ csS ++ tN w2 (tN w1 (tF dk dO))) = vs (tN w3 (tN w2 (tN w1 (tF dk dO))))] (by kernel_rfl)
    ⟨by (try simp only [y1, y2, y3, y4, y5, y6, y7]); omega, rfl, by (try simp only [y1, y2, y3, y4, y5, y6, y7]); omega, rfl, by (try simp only [y1, y2, y3, y4, y5, y6, y7]); omega, rfl, hdk _, by (try simp only [y1, y2, y3, y4, y5, y6, y7]); omega, rfl, by (try simp only [y1, y2, y3, y4, y5, y6, y7]); omega, rfl, hdo _, by (try simp only [y1, y2, y3, y4, y5, y6, y7]); omega, rfl, by (try simp only [y1, y2, y3, y4, y5, y6, y7]); omega, rfl, by (try simp only [y1, y2, y3, y4, y5, y6, y7]); omega, rfl, by (try simp only [y1, y2, y3, y4, y5, y6, y7]); omega, rfl, trivial⟩
--> err3
--< ln3
theorem ln3 (lf : Nat) (kind : Int) (off : Int) (r0 : List AObj) (W : AObj) (w1 : ByteArray) (w2 : ByteArray) (w3 : ByteArray) (dk : ByteArray) (dO : ByteArray) (hk : ByteArray.size dk ≤ 20) (ho : ByteArray.size dO ≤ 20) (z1 : ByteArray.size w1 ≤ 32) (z2 : ByteArray.size w2 ≤ 32) (z3 : ByteArray.size w3 ≤ 32) (hdk : ∀ (m : Nat), evB (lf + 100) (m + 1) 34 [vi kind] (kpH3 kind off r0 W w1 w2 w3) = some (vs dk, (kpH3 kind off r0 W w1 w2 w3), [])) (hdo : ∀ (m : Nat), evB (lf + 100) (m + 1) 34 [vi off] (kpH3 kind off r0 W w1 w2 w3) = some (vs dO, (kpH3 kind off r0 W w1 w2 w3), [])) :
    evB (lf + 100) 19 13 [vf 67 (pt 18)] (kpH3 kind off r0 W w1 w2 w3) = some (Value.tuple #[vs (tN w3 (tN w2 (tN w1 (tF dk dO)))), vb true], (kpH3 kind off r0 W w1 w2 w3), []) :=
  Dg.evCall_hint (hs' := []) (hs := [qs 126 7 (vs (w3 ++ csS)),
    qs 126 7 (vs (w2 ++ csS)),
    qs 126 7 (vs (w1 ++ csS)),
    qc 34 (vs dk) (kpH3 kind off r0 W w1 w2 w3) [],
    qs 20 5 (vs (ksS ++ dk)),
    qs 128 8 (vs (ksS ++ dk ++ atS)),
    qc 34 (vs dO) (kpH3 kind off r0 W w1 w2 w3) [],
    qs 128 14 (vs (tF dk dO)),
    qs 126 13 (vs (tN w1 (tF dk dO))),
    qs 126 13 (vs (tN w2 (tN w1 (tF dk dO)))),
    qs 126 13 (vs (tN w3 (tN w2 (tN w1 (tF dk dO)))))])
    [ByteArray.size w3 + ByteArray.size csS ≤ (9223372036854775807 : Nat),
    vs (w3 ++ csS) = vs (w3 ++ csS),
    ByteArray.size w2 + ByteArray.size csS ≤ (9223372036854775807 : Nat),
    vs (w2 ++ csS) = vs (w2 ++ csS),
    ByteArray.size w1 + ByteArray.size csS ≤ (9223372036854775807 : Nat),
    vs (w1 ++ csS) = vs (w1 ++ csS),
    evB (lf + 100) 12 34 [vi kind] (kpH3 kind off r0 W w1 w2 w3) = some (vs dk, (kpH3 kind off r0 W w1 w2 w3), []),
    ByteArray.size ksS + ByteArray.size dk ≤ (9223372036854775807 : Nat),
    vs (ksS ++ dk) = vs (ksS ++ dk),
    ByteArray.size (ksS ++ dk) + ByteArray.size atS ≤ (9223372036854775807 : Nat),
    vs (ksS ++ dk ++ atS) = vs (ksS ++ dk ++ atS),
    evB (lf + 100) 13 34 [vi off] (kpH3 kind off r0 W w1 w2 w3) = some (vs dO, (kpH3 kind off r0 W w1 w2 w3), []),
    ByteArray.size (ksS ++ dk ++ atS) + ByteArray.size dO ≤ (9223372036854775807 : Nat),
    vs (ksS ++ dk ++ atS ++ dO) = vs (tF dk dO),
    ByteArray.size (w1 ++ csS) + ByteArray.size (tF dk dO) ≤ (9223372036854775807 : Nat),
    vs (w1 ++ csS ++ tF dk dO) = vs (tN w1 (tF dk dO)),
    ByteArray.size (w2 ++ csS) + ByteArray.size (tN w1 (tF dk dO)) ≤ (9223372036854775807 : Nat),
    vs (w2 ++ csS ++ tN w1 (tF dk dO)) = vs (tN w2 (tN w1 (tF dk dO))),
    ByteArray.size (w3 ++ csS) + ByteArray.size (tN w2 (tN w1 (tF dk dO))) ≤ (9223372036854775807 : Nat),
    vs (w3 ++ csS ++ tN w2 (tN w1 (tF dk dO))) = vs (tN w3 (tN w2 (tN w1 (tF dk dO))))] (by kernel_rfl)
    ⟨by (try simp only [y1, y2, y3, y4, y5, y6, y7]); omega, rfl, by (try simp only [y1, y2, y3, y4, y5, y6, y7]); omega, rfl, by (try simp only [y1, y2, y3, y4, y5, y6, y7]); omega, rfl, hdk _, by (try simp only [y1, y2, y3, y4, y5, y6, y7]); omega, rfl, by (try simp only [y1, y2, y3, y4, y5, y6, y7]); omega, rfl, hdo _, by (try simp only [y1, y2, y3, y4, y5, y6, y7]); omega, rfl, by (try simp only [y1, y2, y3, y4, y5, y6, y7]); omega, rfl, by (try simp only [y1, y2, y3, y4, y5, y6, y7]); omega, rfl, by (try simp only [y1, y2, y3, y4, y5, y6, y7]); omega, rfl, trivial⟩
--> ln3
--< isT3
theorem isT3 (lf : Nat) (kind : Int) (off : Int) (r0 : List AObj) (W : AObj) (w1 : ByteArray) (w2 : ByteArray) (w3 : ByteArray) :
    evB (lf + 100) 19 15 [vf 67 (pt 18), vi kind] (kpN3 kind off r0 W w1 w2 w3) = some (vb true, (kpN3 kind off r0 W w1 w2 w3), []) :=
  Dg.evCall_hint (hs' := []) (hs := [qv 32 18 (vb false),
    qv 32 18 (vb false),
    qv 32 18 (vb false),
    qv 32 18 (vb false),
    qv 32 18 (vb true)])
    [vb false = vb false,
    vb false = vb false,
    vb false = vb false,
    vb false = vb false,
    vb (if true = true then kind == kind else !kind == kind) = vb true] (by kernel_rfl)
    ⟨rfl, rfl, rfl, rfl, Dg.vtrue (by omega), trivial⟩
--> isT3
--< isF3
theorem isF3 (lf : Nat) (kind : Int) (off : Int) (other : Int) (hne : other ≠ kind) (r0 : List AObj) (W : AObj) (w1 : ByteArray) (w2 : ByteArray) (w3 : ByteArray) :
    evB (lf + 100) 19 15 [vf 67 (pt 18), vi other] (kpN3 kind off r0 W w1 w2 w3) = some (vb false, (kpN3 kind off r0 W w1 w2 w3), []) :=
  Dg.evCall_hint (hs' := []) (hs := [qv 32 18 (vb false),
    qv 32 18 (vb false),
    qv 32 18 (vb false),
    qv 32 18 (vb false),
    qv 32 18 (vb false)])
    [vb false = vb false,
    vb false = vb false,
    vb false = vb false,
    vb false = vb false,
    vb (if true = true then kind == other else !kind == other) = vb false] (by kernel_rfl)
    ⟨rfl, rfl, rfl, rfl, Dg.vfalse (by omega), trivial⟩
--> isF3
--< rl3
theorem rl3 (lf : Nat) (kind : Int) (off : Int) (r0 : List AObj) (W : AObj) (w1 : ByteArray) (w2 : ByteArray) (w3 : ByteArray) (dk : ByteArray) (dO : ByteArray) (hk : ByteArray.size dk ≤ 20) (ho : ByteArray.size dO ≤ 20) (z1 : ByteArray.size w1 ≤ 32) (z2 : ByteArray.size w2 ≤ 32) (z3 : ByteArray.size w3 ≤ 32) (hdk : ∀ (m : Nat) (H : Heap), evB (lf + 100) (m + 1) 21 [vi kind] H = some (vs dk, H, [])) (hdo : ∀ (m : Nat) (H : Heap), evB (lf + 100) (m + 1) 21 [vi off] H = some (vs dO, H, [])) :
    evB (lf + 100) 19 18 [sp 22 3 3, vi kind, vi off] (kpH3 kind off r0 W w1 w2 w3) = some (vs (e0 ++ w3 ++ csS ++ w2 ++ csS ++ w1 ++ csS ++ ksS ++ dk ++ atS ++ dO), (kpH3 kind off r0 W w1 w2 w3), []) :=
  Dg.evCall_hint (hs' := []) (hs := [qs 18 20 (vs (e0 ++ w3)),
    qs 18 21 (vs (e0 ++ w3 ++ csS)),
    qs 18 20 (vs (e0 ++ w3 ++ csS ++ w2)),
    qs 18 21 (vs (e0 ++ w3 ++ csS ++ w2 ++ csS)),
    qs 18 20 (vs (e0 ++ w3 ++ csS ++ w2 ++ csS ++ w1)),
    qs 18 21 (vs (e0 ++ w3 ++ csS ++ w2 ++ csS ++ w1 ++ csS)),
    qs 18 23 (vs (e0 ++ w3 ++ csS ++ w2 ++ csS ++ w1 ++ csS ++ ksS)),
    qc 21 (vs dk) (kpH3 kind off r0 W w1 w2 w3) [],
    qs 18 26 (vs (e0 ++ w3 ++ csS ++ w2 ++ csS ++ w1 ++ csS ++ ksS ++ dk)),
    qs 18 27 (vs (e0 ++ w3 ++ csS ++ w2 ++ csS ++ w1 ++ csS ++ ksS ++ dk ++ atS)),
    qc 21 (vs dO) (kpH3 kind off r0 W w1 w2 w3) [],
    qs 18 30 (vs (e0 ++ w3 ++ csS ++ w2 ++ csS ++ w1 ++ csS ++ ksS ++ dk ++ atS ++ dO))])
    [ByteArray.size e0 + ByteArray.size w3 ≤ (9223372036854775807 : Nat),
    vs (e0 ++ w3) = vs (e0 ++ w3),
    ByteArray.size (e0 ++ w3) + ByteArray.size csS ≤ (9223372036854775807 : Nat),
    vs (e0 ++ w3 ++ csS) = vs (e0 ++ w3 ++ csS),
    ByteArray.size (e0 ++ w3 ++ csS) + ByteArray.size w2 ≤ (9223372036854775807 : Nat),
    vs (e0 ++ w3 ++ csS ++ w2) = vs (e0 ++ w3 ++ csS ++ w2),
    ByteArray.size (e0 ++ w3 ++ csS ++ w2) + ByteArray.size csS ≤ (9223372036854775807 : Nat),
    vs (e0 ++ w3 ++ csS ++ w2 ++ csS) = vs (e0 ++ w3 ++ csS ++ w2 ++ csS),
    ByteArray.size (e0 ++ w3 ++ csS ++ w2 ++ csS) + ByteArray.size w1 ≤ (9223372036854775807 : Nat),
    vs (e0 ++ w3 ++ csS ++ w2 ++ csS ++ w1) = vs (e0 ++ w3 ++ csS ++ w2 ++ csS ++ w1),
    ByteArray.size (e0 ++ w3 ++ csS ++ w2 ++ csS ++ w1) + ByteArray.size csS ≤ (9223372036854775807 : Nat),
    vs (e0 ++ w3 ++ csS ++ w2 ++ csS ++ w1 ++ csS) = vs (e0 ++ w3 ++ csS ++ w2 ++ csS ++ w1 ++ csS),
    ByteArray.size (e0 ++ w3 ++ csS ++ w2 ++ csS ++ w1 ++ csS) + ByteArray.size ksS ≤ (9223372036854775807 : Nat),
    vs (e0 ++ w3 ++ csS ++ w2 ++ csS ++ w1 ++ csS ++ ksS) = vs (e0 ++ w3 ++ csS ++ w2 ++ csS ++ w1 ++ csS ++ ksS),
    evB (lf + 100) 18 21 [vi kind] (kpH3 kind off r0 W w1 w2 w3) = some (vs dk, (kpH3 kind off r0 W w1 w2 w3), []),
    ByteArray.size (e0 ++ w3 ++ csS ++ w2 ++ csS ++ w1 ++ csS ++ ksS) + ByteArray.size dk ≤ (9223372036854775807 : Nat),
    vs (e0 ++ w3 ++ csS ++ w2 ++ csS ++ w1 ++ csS ++ ksS ++ dk) = vs (e0 ++ w3 ++ csS ++ w2 ++ csS ++ w1 ++ csS ++ ksS ++ dk),
    ByteArray.size (e0 ++ w3 ++ csS ++ w2 ++ csS ++ w1 ++ csS ++ ksS ++ dk) + ByteArray.size atS ≤ (9223372036854775807 : Nat),
    vs (e0 ++ w3 ++ csS ++ w2 ++ csS ++ w1 ++ csS ++ ksS ++ dk ++ atS) = vs (e0 ++ w3 ++ csS ++ w2 ++ csS ++ w1 ++ csS ++ ksS ++ dk ++ atS),
    evB (lf + 100) 18 21 [vi off] (kpH3 kind off r0 W w1 w2 w3) = some (vs dO, (kpH3 kind off r0 W w1 w2 w3), []),
    ByteArray.size (e0 ++ w3 ++ csS ++ w2 ++ csS ++ w1 ++ csS ++ ksS ++ dk ++ atS) + ByteArray.size dO ≤ (9223372036854775807 : Nat),
    vs (e0 ++ w3 ++ csS ++ w2 ++ csS ++ w1 ++ csS ++ ksS ++ dk ++ atS ++ dO) = vs (e0 ++ w3 ++ csS ++ w2 ++ csS ++ w1 ++ csS ++ ksS ++ dk ++ atS ++ dO)] (by kernel_rfl)
    ⟨by (try simp only [y1, y2, y3, y4, y5, y6, y7]); omega, rfl, by (try simp only [y1, y2, y3, y4, y5, y6, y7]); omega, rfl, by (try simp only [y1, y2, y3, y4, y5, y6, y7]); omega, rfl, by (try simp only [y1, y2, y3, y4, y5, y6, y7]); omega, rfl, by (try simp only [y1, y2, y3, y4, y5, y6, y7]); omega, rfl, by (try simp only [y1, y2, y3, y4, y5, y6, y7]); omega, rfl, by (try simp only [y1, y2, y3, y4, y5, y6, y7]); omega, rfl, hdk _ _, by (try simp only [y1, y2, y3, y4, y5, y6, y7]); omega, rfl, by (try simp only [y1, y2, y3, y4, y5, y6, y7]); omega, rfl, hdo _ _, by (try simp only [y1, y2, y3, y4, y5, y6, y7]); omega, rfl, trivial⟩
--> rl3
theorem rl_is3 (w1 w2 w3 : ByteArray) (dk dO : ByteArray) : (((((((((((⟨#[]⟩ : ByteArray) ++ w3) ++ csS) ++ w2) ++ csS) ++ w1) ++ csS) ++ ksS) ++ dk) ++ atS) ++ dO) = tN w3 (tN w2 (tN w1 (tF dk dO))) := by
  unfold tF; simp only [tN, ByteArray.append_assoc, emp]
--< eq3
theorem eq3 (lf : Nat) (kind : Int) (off : Int) (r0 : List AObj) (W : AObj) (w1 : ByteArray) (w2 : ByteArray) (w3 : ByteArray) :
    evB (lf + 100) 19 19 [sp 23 3 3, sp 22 3 3] (kpN3 kind off r0 W w1 w2 w3) = some (vb true, (kpN3 kind off r0 W w1 w2 w3), []) :=
  Dg.evCall_hint (hs' := []) (hs := [qv 19 24 (vb false),
    qv 19 24 (vb false),
    qv 19 24 (vb false)])
    [(vb !ByteArray.toList w3 == ByteArray.toList w3) = vb false,
    (vb !ByteArray.toList w2 == ByteArray.toList w2) = vb false,
    (vb !ByteArray.toList w1 == ByteArray.toList w1) = vb false] (by kernel_rfl)
    ⟨neS _, neS _, neS _, trivial⟩
--> eq3
--< srt0
theorem srt0 (lf : Nat) (kind : Int) (off : Int) (n : Int) (r0 : List AObj) (W : AObj) (d : ByteArray) (hd : ByteArray.size d ≤ 20) (hs : ∀ (m : Nat), evB lf (m + 1) 34 [vi n] (kpH0 kind off r0 W) = some (vs d, (kpH0 kind off r0 W), [])) :
    evB lf 19 20 [vi n] (kpH0 kind off r0 W) = some (vs (ksS ++ d), (kpH0 kind off r0 W), []) :=
  Dg.evCall_hint (hs' := []) (hs := [qc 34 (vs d) (kpH0 kind off r0 W) [],
    qs 20 5 (vs (ksS ++ d))])
    [evB lf 18 34 [vi n] (kpH0 kind off r0 W) = some (vs d, (kpH0 kind off r0 W), []),
    ByteArray.size ksS + ByteArray.size d ≤ (9223372036854775807 : Nat),
    vs (ksS ++ d) = vs (ksS ++ d)] (by kernel_rfl)
    ⟨hs _, by (try simp only [y1, y2, y3, y4, y5, y6, y7]); omega, rfl, trivial⟩
--> srt0
--< srt1
theorem srt1 (lf : Nat) (kind : Int) (off : Int) (n : Int) (r0 : List AObj) (W : AObj) (w1 : ByteArray) (d : ByteArray) (hd : ByteArray.size d ≤ 20) (hs : ∀ (m : Nat), evB lf (m + 1) 34 [vi n] (kpN1 kind off r0 W w1) = some (vs d, (kpN1 kind off r0 W w1), [])) :
    evB lf 19 20 [vi n] (kpN1 kind off r0 W w1) = some (vs (ksS ++ d), (kpN1 kind off r0 W w1), []) :=
  Dg.evCall_hint (hs' := []) (hs := [qc 34 (vs d) (kpN1 kind off r0 W w1) [],
    qs 20 5 (vs (ksS ++ d))])
    [evB lf 18 34 [vi n] (kpN1 kind off r0 W w1) = some (vs d, (kpN1 kind off r0 W w1), []),
    ByteArray.size ksS + ByteArray.size d ≤ (9223372036854775807 : Nat),
    vs (ksS ++ d) = vs (ksS ++ d)] (by kernel_rfl)
    ⟨hs _, by (try simp only [y1, y2, y3, y4, y5, y6, y7]); omega, rfl, trivial⟩
--> srt1
--< srt2
theorem srt2 (lf : Nat) (kind : Int) (off : Int) (n : Int) (r0 : List AObj) (W : AObj) (w1 : ByteArray) (w2 : ByteArray) (d : ByteArray) (hd : ByteArray.size d ≤ 20) (hs : ∀ (m : Nat), evB lf (m + 1) 34 [vi n] (kpN2 kind off r0 W w1 w2) = some (vs d, (kpN2 kind off r0 W w1 w2), [])) :
    evB lf 19 20 [vi n] (kpN2 kind off r0 W w1 w2) = some (vs (ksS ++ d), (kpN2 kind off r0 W w1 w2), []) :=
  Dg.evCall_hint (hs' := []) (hs := [qc 34 (vs d) (kpN2 kind off r0 W w1 w2) [],
    qs 20 5 (vs (ksS ++ d))])
    [evB lf 18 34 [vi n] (kpN2 kind off r0 W w1 w2) = some (vs d, (kpN2 kind off r0 W w1 w2), []),
    ByteArray.size ksS + ByteArray.size d ≤ (9223372036854775807 : Nat),
    vs (ksS ++ d) = vs (ksS ++ d)] (by kernel_rfl)
    ⟨hs _, by (try simp only [y1, y2, y3, y4, y5, y6, y7]); omega, rfl, trivial⟩
--> srt2
--< srt3
theorem srt3 (lf : Nat) (kind : Int) (off : Int) (n : Int) (r0 : List AObj) (W : AObj) (w1 : ByteArray) (w2 : ByteArray) (w3 : ByteArray) (d : ByteArray) (hd : ByteArray.size d ≤ 20) (hs : ∀ (m : Nat), evB lf (m + 1) 34 [vi n] (kpN3 kind off r0 W w1 w2 w3) = some (vs d, (kpN3 kind off r0 W w1 w2 w3), [])) :
    evB lf 19 20 [vi n] (kpN3 kind off r0 W w1 w2 w3) = some (vs (ksS ++ d), (kpN3 kind off r0 W w1 w2 w3), []) :=
  Dg.evCall_hint (hs' := []) (hs := [qc 34 (vs d) (kpN3 kind off r0 W w1 w2 w3) [],
    qs 20 5 (vs (ksS ++ d))])
    [evB lf 18 34 [vi n] (kpN3 kind off r0 W w1 w2 w3) = some (vs d, (kpN3 kind off r0 W w1 w2 w3), []),
    ByteArray.size ksS + ByteArray.size d ≤ (9223372036854775807 : Nat),
    vs (ksS ++ d) = vs (ksS ++ d)] (by kernel_rfl)
    ⟨hs _, by (try simp only [y1, y2, y3, y4, y5, y6, y7]); omega, rfl, trivial⟩
--> srt3
end Go.Proofs.YtpgddboigegplaaGreatDoor.base

namespace Go.Proofs.YtpgddboigegplaaGreatDoor.base
open Go.Dg (junk St Ex Ev Hint evCall evCallS evCode evCodeK innerKp evCodeS evLoop cleanSt ue bodied noOver sbOf headOf tailOf bodyOf rAssign rBody lBody Flats flatOver Heap AObj SCall Law ofLaw Fix)
set_option linter.unusedVariables false
set_option linter.unusedSimpArgs false

--< err4
theorem err4 (lf : Nat) (kind : Int) (off : Int) (r0 : List AObj) (W : AObj) (w1 : ByteArray) (w2 : ByteArray) (w3 : ByteArray) (w4 : ByteArray) (dk : ByteArray) (dO : ByteArray) (hk : ByteArray.size dk ≤ 20) (ho : ByteArray.size dO ≤ 20) (z1 : ByteArray.size w1 ≤ 32) (z2 : ByteArray.size w2 ≤ 32) (z3 : ByteArray.size w3 ≤ 32) (z4 : ByteArray.size w4 ≤ 32) (hdk : ∀ (m : Nat), evB (lf + 100) (m + 1) 34 [vi kind] (kpH4 kind off r0 W w1 w2 w3 w4) = some (vs dk, (kpH4 kind off r0 W w1 w2 w3 w4), [])) (hdo : ∀ (m : Nat), evB (lf + 100) (m + 1) 34 [vi off] (kpH4 kind off r0 W w1 w2 w3 w4) = some (vs dO, (kpH4 kind off r0 W w1 w2 w3 w4), [])) :
    evB (lf + 100) 19 126 [pt 18] (kpH4 kind off r0 W w1 w2 w3 w4) = some (vs (tN w4 (tN w3 (tN w2 (tN w1 (tF dk dO))))), (kpH4 kind off r0 W w1 w2 w3 w4), []) :=
  Dg.evCall_hint (hs' := []) (hs := [qs 126 7 (vs (w4 ++ csS)),
    qs 126 7 (vs (w3 ++ csS)),
    qs 126 7 (vs (w2 ++ csS)),
    qs 126 7 (vs (w1 ++ csS)),
    qc 34 (vs dk) (kpH4 kind off r0 W w1 w2 w3 w4) [],
    qs 20 5 (vs (ksS ++ dk)),
    qs 128 8 (vs (ksS ++ dk ++ atS)),
    qc 34 (vs dO) (kpH4 kind off r0 W w1 w2 w3 w4) [],
    qs 128 14 (vs (tF dk dO)),
    qs 126 13 (vs (tN w1 (tF dk dO))),
    qs 126 13 (vs (tN w2 (tN w1 (tF dk dO)))),
    qs 126 13 (vs (tN w3 (tN w2 (tN w1 (tF dk dO))))),
    qs 126 13 (vs (tN w4 (tN w3 (tN w2 (tN w1 (tF dk dO))))))])
    [ByteArray.size w4 + ByteArray.size csS ≤ (9223372036854775807 : Nat),
    vs (w4 ++ csS) = vs (w4 ++ csS),
    ByteArray.size w3 + ByteArray.size csS ≤ (9223372036854775807 : Nat),
    vs (w3 ++ csS) = vs (w3 ++ csS),
    ByteArray.size w2 + ByteArray.size csS ≤ (9223372036854775807 : Nat),
    vs (w2 ++ csS) = vs (w2 ++ csS),
    ByteArray.size w1 + ByteArray.size csS ≤ (9223372036854775807 : Nat),
    vs (w1 ++ csS) = vs (w1 ++ csS),
    evB (lf + 100) 13 34 [vi kind] (kpH4 kind off r0 W w1 w2 w3 w4) = some (vs dk, (kpH4 kind off r0 W w1 w2 w3 w4), []),
    ByteArray.size ksS + ByteArray.size dk ≤ (9223372036854775807 : Nat),
    vs (ksS ++ dk) = vs (ksS ++ dk),
    ByteArray.size (ksS ++ dk) + ByteArray.size atS ≤ (9223372036854775807 : Nat),
    vs (ksS ++ dk ++ atS) = vs (ksS ++ dk ++ atS),
    evB (lf + 100) 14 34 [vi off] (kpH4 kind off r0 W w1 w2 w3 w4) = some (vs dO, (kpH4 kind off r0 W w1 w2 w3 w4), []),
    ByteArray.size (ksS ++ dk ++ atS) + ByteArray.size dO ≤ (9223372036854775807 : Nat),
    vs (ksS ++ dk ++ atS ++ dO) = vs (tF dk dO),
    ByteArray.size (w1 ++ csS) + ByteArray.size (tF dk dO) ≤ (9223372036854775807 : Nat),
    vs (w1 ++ csS ++ tF dk dO) = vs (tN w1 (tF dk dO)),
    ByteArray.size (w2 ++ csS) + ByteArray.size (tN w1 (tF dk dO)) ≤ (9223372036854775807 : Nat),
    vs (w2 ++ csS ++ tN w1 (tF dk dO)) = vs (tN w2 (tN w1 (tF dk dO))),
    ByteArray.size (w3 ++ csS) + ByteArray.size (tN w2 (tN w1 (tF dk dO))) ≤ (9223372036854775807 : Nat),
    vs (w3 ++ csS ++ tN w2 (tN w1 (tF dk dO))) = vs (tN w3 (tN w2 (tN w1 (tF dk dO)))),
    ByteArray.size (w4 ++ csS) + ByteArray.size (tN w3 (tN w2 (tN w1 (tF dk dO)))) ≤ (9223372036854775807 : Nat),
    vs (w4 ++ csS ++ tN w3 (tN w2 (tN w1 (tF dk dO)))) = vs (tN w4 (tN w3 (tN w2 (tN w1 (tF dk dO)))))] (by kernel_rfl)
    ⟨by (try simp only [y1, y2, y3, y4, y5, y6, y7]); omega, rfl, by (try simp only [y1, y2, y3, y4, y5, y6, y7]); omega, rfl, by (try simp only [y1, y2, y3, y4, y5, y6, y7]); omega, rfl, by (try simp only [y1, y2, y3, y4, y5, y6, y7]); omega, rfl, hdk _, by (try simp only [y1, y2, y3, y4, y5, y6, y7]); omega, rfl, by (try simp only [y1, y2, y3, y4, y5, y6, y7]); omega, rfl, hdo _, by (try simp only [y1, y2, y3, y4, y5, y6, y7]); omega, rfl, by (try simp only [y1, y2, y3, y4, y5, y6, y7]); omega, rfl, by (try simp only [y1, y2, y3, y4, y5, y6, y7]); omega, rfl, by (try simp only [y1, y2, y3, y4, y5, y6, y7]); omega, rfl, by (try simp only [y1, y2, y3, y4, y5, y6, y7]); omega, rfl, trivial⟩
--> err4
--< ln4
theorem ln4 (lf : Nat) (kind : Int) (off : Int) (r0 : List AObj) (W : AObj) (w1 : ByteArray) (w2 : ByteArray) (w3 : ByteArray) (w4 : ByteArray) (dk : ByteArray) (dO : ByteArray) (hk : ByteArray.size dk ≤ 20) (ho : ByteArray.size dO ≤ 20) (z1 : ByteArray.size w1 ≤ 32) (z2 : ByteArray.size w2 ≤ 32) (z3 : ByteArray.size w3 ≤ 32) (z4 : ByteArray.size w4 ≤ 32) (hdk : ∀ (m : Nat), evB (lf + 100) (m + 1) 34 [vi kind] (kpH4 kind off r0 W w1 w2 w3 w4) = some (vs dk, (kpH4 kind off r0 W w1 w2 w3 w4), [])) (hdo : ∀ (m : Nat), evB (lf + 100) (m + 1) 34 [vi off] (kpH4 kind off r0 W w1 w2 w3 w4) = some (vs dO, (kpH4 kind off r0 W w1 w2 w3 w4), [])) :
    evB (lf + 100) 19 13 [vf 67 (pt 18)] (kpH4 kind off r0 W w1 w2 w3 w4) = some (Value.tuple #[vs (tN w4 (tN w3 (tN w2 (tN w1 (tF dk dO))))), vb true], (kpH4 kind off r0 W w1 w2 w3 w4), []) :=
  Dg.evCall_hint (hs' := []) (hs := [qs 126 7 (vs (w4 ++ csS)),
    qs 126 7 (vs (w3 ++ csS)),
    qs 126 7 (vs (w2 ++ csS)),
    qs 126 7 (vs (w1 ++ csS)),
    qc 34 (vs dk) (kpH4 kind off r0 W w1 w2 w3 w4) [],
    qs 20 5 (vs (ksS ++ dk)),
    qs 128 8 (vs (ksS ++ dk ++ atS)),
    qc 34 (vs dO) (kpH4 kind off r0 W w1 w2 w3 w4) [],
    qs 128 14 (vs (tF dk dO)),
    qs 126 13 (vs (tN w1 (tF dk dO))),
    qs 126 13 (vs (tN w2 (tN w1 (tF dk dO)))),
    qs 126 13 (vs (tN w3 (tN w2 (tN w1 (tF dk dO))))),
    qs 126 13 (vs (tN w4 (tN w3 (tN w2 (tN w1 (tF dk dO))))))])
    [ByteArray.size w4 + ByteArray.size csS ≤ (9223372036854775807 : Nat),
    vs (w4 ++ csS) = vs (w4 ++ csS),
    ByteArray.size w3 + ByteArray.size csS ≤ (9223372036854775807 : Nat),
    vs (w3 ++ csS) = vs (w3 ++ csS),
    ByteArray.size w2 + ByteArray.size csS ≤ (9223372036854775807 : Nat),
    vs (w2 ++ csS) = vs (w2 ++ csS),
    ByteArray.size w1 + ByteArray.size csS ≤ (9223372036854775807 : Nat),
    vs (w1 ++ csS) = vs (w1 ++ csS),
    evB (lf + 100) 11 34 [vi kind] (kpH4 kind off r0 W w1 w2 w3 w4) = some (vs dk, (kpH4 kind off r0 W w1 w2 w3 w4), []),
    ByteArray.size ksS + ByteArray.size dk ≤ (9223372036854775807 : Nat),
    vs (ksS ++ dk) = vs (ksS ++ dk),
    ByteArray.size (ksS ++ dk) + ByteArray.size atS ≤ (9223372036854775807 : Nat),
    vs (ksS ++ dk ++ atS) = vs (ksS ++ dk ++ atS),
    evB (lf + 100) 12 34 [vi off] (kpH4 kind off r0 W w1 w2 w3 w4) = some (vs dO, (kpH4 kind off r0 W w1 w2 w3 w4), []),
    ByteArray.size (ksS ++ dk ++ atS) + ByteArray.size dO ≤ (9223372036854775807 : Nat),
    vs (ksS ++ dk ++ atS ++ dO) = vs (tF dk dO),
    ByteArray.size (w1 ++ csS) + ByteArray.size (tF dk dO) ≤ (9223372036854775807 : Nat),
    vs (w1 ++ csS ++ tF dk dO) = vs (tN w1 (tF dk dO)),
    ByteArray.size (w2 ++ csS) + ByteArray.size (tN w1 (tF dk dO)) ≤ (9223372036854775807 : Nat),
    vs (w2 ++ csS ++ tN w1 (tF dk dO)) = vs (tN w2 (tN w1 (tF dk dO))),
    ByteArray.size (w3 ++ csS) + ByteArray.size (tN w2 (tN w1 (tF dk dO))) ≤ (9223372036854775807 : Nat),
    vs (w3 ++ csS ++ tN w2 (tN w1 (tF dk dO))) = vs (tN w3 (tN w2 (tN w1 (tF dk dO)))),
    ByteArray.size (w4 ++ csS) + ByteArray.size (tN w3 (tN w2 (tN w1 (tF dk dO)))) ≤ (9223372036854775807 : Nat),
    vs (w4 ++ csS ++ tN w3 (tN w2 (tN w1 (tF dk dO)))) = vs (tN w4 (tN w3 (tN w2 (tN w1 (tF dk dO)))))] (by kernel_rfl)
    ⟨by (try simp only [y1, y2, y3, y4, y5, y6, y7]); omega, rfl, by (try simp only [y1, y2, y3, y4, y5, y6, y7]); omega, rfl, by (try simp only [y1, y2, y3, y4, y5, y6, y7]); omega, rfl, by (try simp only [y1, y2, y3, y4, y5, y6, y7]); omega, rfl, hdk _, by (try simp only [y1, y2, y3, y4, y5, y6, y7]); omega, rfl, by (try simp only [y1, y2, y3, y4, y5, y6, y7]); omega, rfl, hdo _, by (try simp only [y1, y2, y3, y4, y5, y6, y7]); omega, rfl, by (try simp only [y1, y2, y3, y4, y5, y6, y7]); omega, rfl, by (try simp only [y1, y2, y3, y4, y5, y6, y7]); omega, rfl, by (try simp only [y1, y2, y3, y4, y5, y6, y7]); omega, rfl, by (try simp only [y1, y2, y3, y4, y5, y6, y7]); omega, rfl, trivial⟩
--> ln4
--< isT4
theorem isT4 (lf : Nat) (kind : Int) (off : Int) (r0 : List AObj) (W : AObj) (w1 : ByteArray) (w2 : ByteArray) (w3 : ByteArray) (w4 : ByteArray) :
    evB (lf + 100) 19 15 [vf 67 (pt 18), vi kind] (kpN4 kind off r0 W w1 w2 w3 w4) = some (vb true, (kpN4 kind off r0 W w1 w2 w3 w4), []) :=
  Dg.evCall_hint (hs' := []) (hs := [qv 32 18 (vb false),
    qv 32 18 (vb false),
    qv 32 18 (vb false),
    qv 32 18 (vb false),
    qv 32 18 (vb false),
    qv 32 18 (vb true)])
    [vb false = vb false,
    vb false = vb false,
    vb false = vb false,
    vb false = vb false,
    vb false = vb false,
    vb (if true = true then kind == kind else !kind == kind) = vb true] (by kernel_rfl)
    ⟨rfl, rfl, rfl, rfl, rfl, Dg.vtrue (by omega), trivial⟩
--> isT4
--< isF4
theorem isF4 (lf : Nat) (kind : Int) (off : Int) (other : Int) (hne : other ≠ kind) (r0 : List AObj) (W : AObj) (w1 : ByteArray) (w2 : ByteArray) (w3 : ByteArray) (w4 : ByteArray) :
    evB (lf + 100) 19 15 [vf 67 (pt 18), vi other] (kpN4 kind off r0 W w1 w2 w3 w4) = some (vb false, (kpN4 kind off r0 W w1 w2 w3 w4), []) :=
  Dg.evCall_hint (hs' := []) (hs := [qv 32 18 (vb false),
    qv 32 18 (vb false),
    qv 32 18 (vb false),
    qv 32 18 (vb false),
    qv 32 18 (vb false),
    qv 32 18 (vb false)])
    [vb false = vb false,
    vb false = vb false,
    vb false = vb false,
    vb false = vb false,
    vb false = vb false,
    vb (if true = true then kind == other else !kind == other) = vb false] (by kernel_rfl)
    ⟨rfl, rfl, rfl, rfl, rfl, Dg.vfalse (by omega), trivial⟩
--> isF4
--< rl4
theorem rl4 (lf : Nat) (kind : Int) (off : Int) (r0 : List AObj) (W : AObj) (w1 : ByteArray) (w2 : ByteArray) (w3 : ByteArray) (w4 : ByteArray) (dk : ByteArray) (dO : ByteArray) (hk : ByteArray.size dk ≤ 20) (ho : ByteArray.size dO ≤ 20) (z1 : ByteArray.size w1 ≤ 32) (z2 : ByteArray.size w2 ≤ 32) (z3 : ByteArray.size w3 ≤ 32) (z4 : ByteArray.size w4 ≤ 32) (hdk : ∀ (m : Nat) (H : Heap), evB (lf + 100) (m + 1) 21 [vi kind] H = some (vs dk, H, [])) (hdo : ∀ (m : Nat) (H : Heap), evB (lf + 100) (m + 1) 21 [vi off] H = some (vs dO, H, [])) :
    evB (lf + 100) 19 18 [sp 23 4 4, vi kind, vi off] (kpH4 kind off r0 W w1 w2 w3 w4) = some (vs (e0 ++ w4 ++ csS ++ w3 ++ csS ++ w2 ++ csS ++ w1 ++ csS ++ ksS ++ dk ++ atS ++ dO), (kpH4 kind off r0 W w1 w2 w3 w4), []) :=
  Dg.evCall_hint (hs' := []) (hs := [qs 18 20 (vs (e0 ++ w4)),
    qs 18 21 (vs (e0 ++ w4 ++ csS)),
    qs 18 20 (vs (e0 ++ w4 ++ csS ++ w3)),
    qs 18 21 (vs (e0 ++ w4 ++ csS ++ w3 ++ csS)),
    qs 18 20 (vs (e0 ++ w4 ++ csS ++ w3 ++ csS ++ w2)),
    qs 18 21 (vs (e0 ++ w4 ++ csS ++ w3 ++ csS ++ w2 ++ csS)),
    qs 18 20 (vs (e0 ++ w4 ++ csS ++ w3 ++ csS ++ w2 ++ csS ++ w1)),
    qs 18 21 (vs (e0 ++ w4 ++ csS ++ w3 ++ csS ++ w2 ++ csS ++ w1 ++ csS)),
    qs 18 23 (vs (e0 ++ w4 ++ csS ++ w3 ++ csS ++ w2 ++ csS ++ w1 ++ csS ++ ksS)),
    qc 21 (vs dk) (kpH4 kind off r0 W w1 w2 w3 w4) [],
    qs 18 26 (vs (e0 ++ w4 ++ csS ++ w3 ++ csS ++ w2 ++ csS ++ w1 ++ csS ++ ksS ++ dk)),
    qs 18 27 (vs (e0 ++ w4 ++ csS ++ w3 ++ csS ++ w2 ++ csS ++ w1 ++ csS ++ ksS ++ dk ++ atS)),
    qc 21 (vs dO) (kpH4 kind off r0 W w1 w2 w3 w4) [],
    qs 18 30 (vs (e0 ++ w4 ++ csS ++ w3 ++ csS ++ w2 ++ csS ++ w1 ++ csS ++ ksS ++ dk ++ atS ++ dO))])
    [ByteArray.size e0 + ByteArray.size w4 ≤ (9223372036854775807 : Nat),
    vs (e0 ++ w4) = vs (e0 ++ w4),
    ByteArray.size (e0 ++ w4) + ByteArray.size csS ≤ (9223372036854775807 : Nat),
    vs (e0 ++ w4 ++ csS) = vs (e0 ++ w4 ++ csS),
    ByteArray.size (e0 ++ w4 ++ csS) + ByteArray.size w3 ≤ (9223372036854775807 : Nat),
    vs (e0 ++ w4 ++ csS ++ w3) = vs (e0 ++ w4 ++ csS ++ w3),
    ByteArray.size (e0 ++ w4 ++ csS ++ w3) + ByteArray.size csS ≤ (9223372036854775807 : Nat),
    vs (e0 ++ w4 ++ csS ++ w3 ++ csS) = vs (e0 ++ w4 ++ csS ++ w3 ++ csS),
    ByteArray.size (e0 ++ w4 ++ csS ++ w3 ++ csS) + ByteArray.size w2 ≤ (9223372036854775807 : Nat),
    vs (e0 ++ w4 ++ csS ++ w3 ++ csS ++ w2) = vs (e0 ++ w4 ++ csS ++ w3 ++ csS ++ w2),
    ByteArray.size (e0 ++ w4 ++ csS ++ w3 ++ csS ++ w2) + ByteArray.size csS ≤ (9223372036854775807 : Nat),
    vs (e0 ++ w4 ++ csS ++ w3 ++ csS ++ w2 ++ csS) = vs (e0 ++ w4 ++ csS ++ w3 ++ csS ++ w2 ++ csS),
    ByteArray.size (e0 ++ w4 ++ csS ++ w3 ++ csS ++ w2 ++ csS) + ByteArray.size w1 ≤ (9223372036854775807 : Nat),
    vs (e0 ++ w4 ++ csS ++ w3 ++ csS ++ w2 ++ csS ++ w1) = vs (e0 ++ w4 ++ csS ++ w3 ++ csS ++ w2 ++ csS ++ w1),
    ByteArray.size (e0 ++ w4 ++ csS ++ w3 ++ csS ++ w2 ++ csS ++ w1) + ByteArray.size csS ≤ (9223372036854775807 : Nat),
    vs (e0 ++ w4 ++ csS ++ w3 ++ csS ++ w2 ++ csS ++ w1 ++ csS) = vs (e0 ++ w4 ++ csS ++ w3 ++ csS ++ w2 ++ csS ++ w1 ++ csS),
    ByteArray.size (e0 ++ w4 ++ csS ++ w3 ++ csS ++ w2 ++ csS ++ w1 ++ csS) + ByteArray.size ksS ≤ (9223372036854775807 : Nat),
    vs (e0 ++ w4 ++ csS ++ w3 ++ csS ++ w2 ++ csS ++ w1 ++ csS ++ ksS) = vs (e0 ++ w4 ++ csS ++ w3 ++ csS ++ w2 ++ csS ++ w1 ++ csS ++ ksS),
    evB (lf + 100) 18 21 [vi kind] (kpH4 kind off r0 W w1 w2 w3 w4) = some (vs dk, (kpH4 kind off r0 W w1 w2 w3 w4), []),
    ByteArray.size (e0 ++ w4 ++ csS ++ w3 ++ csS ++ w2 ++ csS ++ w1 ++ csS ++ ksS) + ByteArray.size dk ≤ (9223372036854775807 : Nat),
    vs (e0 ++ w4 ++ csS ++ w3 ++ csS ++ w2 ++ csS ++ w1 ++ csS ++ ksS ++ dk) = vs (e0 ++ w4 ++ csS ++ w3 ++ csS ++ w2 ++ csS ++ w1 ++ csS ++ ksS ++ dk),
    ByteArray.size (e0 ++ w4 ++ csS ++ w3 ++ csS ++ w2 ++ csS ++ w1 ++ csS ++ ksS ++ dk) + ByteArray.size atS ≤ (9223372036854775807 : Nat),
    vs (e0 ++ w4 ++ csS ++ w3 ++ csS ++ w2 ++ csS ++ w1 ++ csS ++ ksS ++ dk ++ atS) = vs (e0 ++ w4 ++ csS ++ w3 ++ csS ++ w2 ++ csS ++ w1 ++ csS ++ ksS ++ dk ++ atS),
    evB (lf + 100) 18 21 [vi off] (kpH4 kind off r0 W w1 w2 w3 w4) = some (vs dO, (kpH4 kind off r0 W w1 w2 w3 w4), []),
    ByteArray.size (e0 ++ w4 ++ csS ++ w3 ++ csS ++ w2 ++ csS ++ w1 ++ csS ++ ksS ++ dk ++ atS) + ByteArray.size dO ≤ (9223372036854775807 : Nat),
    vs (e0 ++ w4 ++ csS ++ w3 ++ csS ++ w2 ++ csS ++ w1 ++ csS ++ ksS ++ dk ++ atS ++ dO) = vs (e0 ++ w4 ++ csS ++ w3 ++ csS ++ w2 ++ csS ++ w1 ++ csS ++ ksS ++ dk ++ atS ++ dO)] (by kernel_rfl)
    ⟨by (try simp only [y1, y2, y3, y4, y5, y6, y7]); omega, rfl, by (try simp only [y1, y2, y3, y4, y5, y6, y7]); omega, rfl, by (try simp only [y1, y2, y3, y4, y5, y6, y7]); omega, rfl, by (try simp only [y1, y2, y3, y4, y5, y6, y7]); omega, rfl, by (try simp only [y1, y2, y3, y4, y5, y6, y7]); omega, rfl, by (try simp only [y1, y2, y3, y4, y5, y6, y7]); omega, rfl, by (try simp only [y1, y2, y3, y4, y5, y6, y7]); omega, rfl, by (try simp only [y1, y2, y3, y4, y5, y6, y7]); omega, rfl, by (try simp only [y1, y2, y3, y4, y5, y6, y7]); omega, rfl, hdk _ _, by (try simp only [y1, y2, y3, y4, y5, y6, y7]); omega, rfl, by (try simp only [y1, y2, y3, y4, y5, y6, y7]); omega, rfl, hdo _ _, by (try simp only [y1, y2, y3, y4, y5, y6, y7]); omega, rfl, trivial⟩
--> rl4
theorem rl_is4 (w1 w2 w3 w4 : ByteArray) (dk dO : ByteArray) : (((((((((((((⟨#[]⟩ : ByteArray) ++ w4) ++ csS) ++ w3) ++ csS) ++ w2) ++ csS) ++ w1) ++ csS) ++ ksS) ++ dk) ++ atS) ++ dO) = tN w4 (tN w3 (tN w2 (tN w1 (tF dk dO)))) := by
  unfold tF; simp only [tN, ByteArray.append_assoc, emp]
--< eq4
theorem eq4 (lf : Nat) (kind : Int) (off : Int) (r0 : List AObj) (W : AObj) (w1 : ByteArray) (w2 : ByteArray) (w3 : ByteArray) (w4 : ByteArray) :
    evB (lf + 100) 19 19 [sp 24 4 4, sp 23 4 4] (kpN4 kind off r0 W w1 w2 w3 w4) = some (vb true, (kpN4 kind off r0 W w1 w2 w3 w4), []) :=
  Dg.evCall_hint (hs' := []) (hs := [qv 19 24 (vb false),
    qv 19 24 (vb false),
    qv 19 24 (vb false),
    qv 19 24 (vb false)])
    [(vb !ByteArray.toList w4 == ByteArray.toList w4) = vb false,
    (vb !ByteArray.toList w3 == ByteArray.toList w3) = vb false,
    (vb !ByteArray.toList w2 == ByteArray.toList w2) = vb false,
    (vb !ByteArray.toList w1 == ByteArray.toList w1) = vb false] (by kernel_rfl)
    ⟨neS _, neS _, neS _, neS _, trivial⟩
--> eq4
--< err5
theorem err5 (lf : Nat) (kind : Int) (off : Int) (r0 : List AObj) (W : AObj) (w1 : ByteArray) (w2 : ByteArray) (w3 : ByteArray) (w4 : ByteArray) (w5 : ByteArray) (dk : ByteArray) (dO : ByteArray) (hk : ByteArray.size dk ≤ 20) (ho : ByteArray.size dO ≤ 20) (z1 : ByteArray.size w1 ≤ 32) (z2 : ByteArray.size w2 ≤ 32) (z3 : ByteArray.size w3 ≤ 32) (z4 : ByteArray.size w4 ≤ 32) (z5 : ByteArray.size w5 ≤ 32) (hdk : ∀ (m : Nat), evB (lf + 100) (m + 1) 34 [vi kind] (kpH5 kind off r0 W w1 w2 w3 w4 w5) = some (vs dk, (kpH5 kind off r0 W w1 w2 w3 w4 w5), [])) (hdo : ∀ (m : Nat), evB (lf + 100) (m + 1) 34 [vi off] (kpH5 kind off r0 W w1 w2 w3 w4 w5) = some (vs dO, (kpH5 kind off r0 W w1 w2 w3 w4 w5), [])) :
    evB (lf + 100) 19 126 [pt 18] (kpH5 kind off r0 W w1 w2 w3 w4 w5) = some (vs (tN w5 (tN w4 (tN w3 (tN w2 (tN w1 (tF dk dO)))))), (kpH5 kind off r0 W w1 w2 w3 w4 w5), []) :=
  Dg.evCall_hint (hs' := []) (hs := [qs 126 7 (vs (w5 ++ csS)),
    qs 126 7 (vs (w4 ++ csS)),
    qs 126 7 (vs (w3 ++ csS)),
    qs 126 7 (vs (w2 ++ csS)),
    qs 126 7 (vs (w1 ++ csS)),
    qc 34 (vs dk) (kpH5 kind off r0 W w1 w2 w3 w4 w5) [],
    qs 20 5 (vs (ksS ++ dk)),
    qs 128 8 (vs (ksS ++ dk ++ atS)),
    qc 34 (vs dO) (kpH5 kind off r0 W w1 w2 w3 w4 w5) [],
    qs 128 14 (vs (tF dk dO)),
    qs 126 13 (vs (tN w1 (tF dk dO))),
    qs 126 13 (vs (tN w2 (tN w1 (tF dk dO)))),
    qs 126 13 (vs (tN w3 (tN w2 (tN w1 (tF dk dO))))),
    qs 126 13 (vs (tN w4 (tN w3 (tN w2 (tN w1 (tF dk dO)))))),
    qs 126 13 (vs (tN w5 (tN w4 (tN w3 (tN w2 (tN w1 (tF dk dO)))))))])
    [ByteArray.size w5 + ByteArray.size csS ≤ (9223372036854775807 : Nat),
    vs (w5 ++ csS) = vs (w5 ++ csS),
    ByteArray.size w4 + ByteArray.size csS ≤ (9223372036854775807 : Nat),
    vs (w4 ++ csS) = vs (w4 ++ csS),
    ByteArray.size w3 + ByteArray.size csS ≤ (9223372036854775807 : Nat),
    vs (w3 ++ csS) = vs (w3 ++ csS),
    ByteArray.size w2 + ByteArray.size csS ≤ (9223372036854775807 : Nat),
    vs (w2 ++ csS) = vs (w2 ++ csS),
    ByteArray.size w1 + ByteArray.size csS ≤ (9223372036854775807 : Nat),
    vs (w1 ++ csS) = vs (w1 ++ csS),
    evB (lf + 100) 12 34 [vi kind] (kpH5 kind off r0 W w1 w2 w3 w4 w5) = some (vs dk, (kpH5 kind off r0 W w1 w2 w3 w4 w5), []),
    ByteArray.size ksS + ByteArray.size dk ≤ (9223372036854775807 : Nat),
    vs (ksS ++ dk) = vs (ksS ++ dk),
    ByteArray.size (ksS ++ dk) + ByteArray.size atS ≤ (9223372036854775807 : Nat),
    vs (ksS ++ dk ++ atS) = vs (ksS ++ dk ++ atS),
    evB (lf + 100) 13 34 [vi off] (kpH5 kind off r0 W w1 w2 w3 w4 w5) = some (vs dO, (kpH5 kind off r0 W w1 w2 w3 w4 w5), []),
    ByteArray.size (ksS ++ dk ++ atS) + ByteArray.size dO ≤ (9223372036854775807 : Nat),
    vs (ksS ++ dk ++ atS ++ dO) = vs (tF dk dO),
    ByteArray.size (w1 ++ csS) + ByteArray.size (tF dk dO) ≤ (9223372036854775807 : Nat),
    vs (w1 ++ csS ++ tF dk dO) = vs (tN w1 (tF dk dO)),
    ByteArray.size (w2 ++ csS) + ByteArray.size (tN w1 (tF dk dO)) ≤ (9223372036854775807 : Nat),
    vs (w2 ++ csS ++ tN w1 (tF dk dO)) = vs (tN w2 (tN w1 (tF dk dO))),
    ByteArray.size (w3 ++ csS) + ByteArray.size (tN w2 (tN w1 (tF dk dO))) ≤ (9223372036854775807 : Nat),
    vs (w3 ++ csS ++ tN w2 (tN w1 (tF dk dO))) = vs (tN w3 (tN w2 (tN w1 (tF dk dO)))),
    ByteArray.size (w4 ++ csS) + ByteArray.size (tN w3 (tN w2 (tN w1 (tF dk dO)))) ≤ (9223372036854775807 : Nat),
    vs (w4 ++ csS ++ tN w3 (tN w2 (tN w1 (tF dk dO)))) = vs (tN w4 (tN w3 (tN w2 (tN w1 (tF dk dO))))),
    ByteArray.size (w5 ++ csS) + ByteArray.size (tN w4 (tN w3 (tN w2 (tN w1 (tF dk dO))))) ≤ (9223372036854775807 : Nat),
    vs (w5 ++ csS ++ tN w4 (tN w3 (tN w2 (tN w1 (tF dk dO))))) = vs (tN w5 (tN w4 (tN w3 (tN w2 (tN w1 (tF dk dO))))))] (by kernel_rfl)
    ⟨by (try simp only [y1, y2, y3, y4, y5, y6, y7]); omega, rfl, by (try simp only [y1, y2, y3, y4, y5, y6, y7]); omega, rfl, by (try simp only [y1, y2, y3, y4, y5, y6, y7]); omega, rfl, by (try simp only [y1, y2, y3, y4, y5, y6, y7]); omega, rfl, by (try simp only [y1, y2, y3, y4, y5, y6, y7]); omega, rfl, hdk _, by (try simp only [y1, y2, y3, y4, y5, y6, y7]); omega, rfl, by (try simp only [y1, y2, y3, y4, y5, y6, y7]); omega, rfl, hdo _, by (try simp only [y1, y2, y3, y4, y5, y6, y7]); omega, rfl, by (try simp only [y1, y2, y3, y4, y5, y6, y7]); omega, rfl, by (try simp only [y1, y2, y3, y4, y5, y6, y7]); omega, rfl, by (try simp only [y1, y2, y3, y4, y5, y6, y7]); omega, rfl, by (try simp only [y1, y2, y3, y4, y5, y6, y7]); omega, rfl, by (try simp only [y1, y2, y3, y4, y5, y6, y7]); omega, rfl, trivial⟩
--> err5
--< ln5
theorem ln5 (lf : Nat) (kind : Int) (off : Int) (r0 : List AObj) (W : AObj) (w1 : ByteArray) (w2 : ByteArray) (w3 : ByteArray) (w4 : ByteArray) (w5 : ByteArray) (dk : ByteArray) (dO : ByteArray) (hk : ByteArray.size dk ≤ 20) (ho : ByteArray.size dO ≤ 20) (z1 : ByteArray.size w1 ≤ 32) (z2 : ByteArray.size w2 ≤ 32) (z3 : ByteArray.size w3 ≤ 32) (z4 : ByteArray.size w4 ≤ 32) (z5 : ByteArray.size w5 ≤ 32) (hdk : ∀ (m : Nat), evB (lf + 100) (m + 1) 34 [vi kind] (kpH5 kind off r0 W w1 w2 w3 w4 w5) = some (vs dk, (kpH5 kind off r0 W w1 w2 w3 w4 w5), [])) (hdo : ∀ (m : Nat), evB (lf + 100) (m + 1) 34 [vi off] (kpH5 kind off r0 W w1 w2 w3 w4 w5) = some (vs dO, (kpH5 kind off r0 W w1 w2 w3 w4 w5), [])) :
    evB (lf + 100) 19 13 [vf 67 (pt 18)] (kpH5 kind off r0 W w1 w2 w3 w4 w5) = some (Value.tuple #[vs (tN w5 (tN w4 (tN w3 (tN w2 (tN w1 (tF dk dO)))))), vb true], (kpH5 kind off r0 W w1 w2 w3 w4 w5), []) :=
  Dg.evCall_hint (hs' := []) (hs := [qs 126 7 (vs (w5 ++ csS)),
    qs 126 7 (vs (w4 ++ csS)),
    qs 126 7 (vs (w3 ++ csS)),
    qs 126 7 (vs (w2 ++ csS)),
    qs 126 7 (vs (w1 ++ csS)),
    qc 34 (vs dk) (kpH5 kind off r0 W w1 w2 w3 w4 w5) [],
    qs 20 5 (vs (ksS ++ dk)),
    qs 128 8 (vs (ksS ++ dk ++ atS)),
    qc 34 (vs dO) (kpH5 kind off r0 W w1 w2 w3 w4 w5) [],
    qs 128 14 (vs (tF dk dO)),
    qs 126 13 (vs (tN w1 (tF dk dO))),
    qs 126 13 (vs (tN w2 (tN w1 (tF dk dO)))),
    qs 126 13 (vs (tN w3 (tN w2 (tN w1 (tF dk dO))))),
    qs 126 13 (vs (tN w4 (tN w3 (tN w2 (tN w1 (tF dk dO)))))),
    qs 126 13 (vs (tN w5 (tN w4 (tN w3 (tN w2 (tN w1 (tF dk dO)))))))])
    [ByteArray.size w5 + ByteArray.size csS ≤ (9223372036854775807 : Nat),
    vs (w5 ++ csS) = vs (w5 ++ csS),
    ByteArray.size w4 + ByteArray.size csS ≤ (9223372036854775807 : Nat),
    vs (w4 ++ csS) = vs (w4 ++ csS),
    ByteArray.size w3 + ByteArray.size csS ≤ (9223372036854775807 : Nat),
    vs (w3 ++ csS) = vs (w3 ++ csS),
    ByteArray.size w2 + ByteArray.size csS ≤ (9223372036854775807 : Nat),
    vs (w2 ++ csS) = vs (w2 ++ csS),
    ByteArray.size w1 + ByteArray.size csS ≤ (9223372036854775807 : Nat),
    vs (w1 ++ csS) = vs (w1 ++ csS),
    evB (lf + 100) 10 34 [vi kind] (kpH5 kind off r0 W w1 w2 w3 w4 w5) = some (vs dk, (kpH5 kind off r0 W w1 w2 w3 w4 w5), []),
    ByteArray.size ksS + ByteArray.size dk ≤ (9223372036854775807 : Nat),
    vs (ksS ++ dk) = vs (ksS ++ dk),
    ByteArray.size (ksS ++ dk) + ByteArray.size atS ≤ (9223372036854775807 : Nat),
    vs (ksS ++ dk ++ atS) = vs (ksS ++ dk ++ atS),
    evB (lf + 100) 11 34 [vi off] (kpH5 kind off r0 W w1 w2 w3 w4 w5) = some (vs dO, (kpH5 kind off r0 W w1 w2 w3 w4 w5), []),
    ByteArray.size (ksS ++ dk ++ atS) + ByteArray.size dO ≤ (9223372036854775807 : Nat),
    vs (ksS ++ dk ++ atS ++ dO) = vs (tF dk dO),
    ByteArray.size (w1 ++ csS) + ByteArray.size (tF dk dO) ≤ (9223372036854775807 : Nat),
    vs (w1 ++ csS ++ tF dk dO) = vs (tN w1 (tF dk dO)),
    ByteArray.size (w2 ++ csS) + ByteArray.size (tN w1 (tF dk dO)) ≤ (9223372036854775807 : Nat),
    vs (w2 ++ csS ++ tN w1 (tF dk dO)) = vs (tN w2 (tN w1 (tF dk dO))),
    ByteArray.size (w3 ++ csS) + ByteArray.size (tN w2 (tN w1 (tF dk dO))) ≤ (9223372036854775807 : Nat),
    vs (w3 ++ csS ++ tN w2 (tN w1 (tF dk dO))) = vs (tN w3 (tN w2 (tN w1 (tF dk dO)))),
    ByteArray.size (w4 ++ csS) + ByteArray.size (tN w3 (tN w2 (tN w1 (tF dk dO)))) ≤ (9223372036854775807 : Nat),
    vs (w4 ++ csS ++ tN w3 (tN w2 (tN w1 (tF dk dO)))) = vs (tN w4 (tN w3 (tN w2 (tN w1 (tF dk dO))))),
    ByteArray.size (w5 ++ csS) + ByteArray.size (tN w4 (tN w3 (tN w2 (tN w1 (tF dk dO))))) ≤ (9223372036854775807 : Nat),
    vs (w5 ++ csS ++ tN w4 (tN w3 (tN w2 (tN w1 (tF dk dO))))) = vs (tN w5 (tN w4 (tN w3 (tN w2 (tN w1 (tF dk dO))))))] (by kernel_rfl)
    ⟨by (try simp only [y1, y2, y3, y4, y5, y6, y7]); omega, rfl, by (try simp only [y1, y2, y3, y4, y5, y6, y7]); omega, rfl, by (try simp only [y1, y2, y3, y4, y5, y6, y7]); omega, rfl, by (try simp only [y1, y2, y3, y4, y5, y6, y7]); omega, rfl, by (try simp only [y1, y2, y3, y4, y5, y6, y7]); omega, rfl, hdk _, by (try simp only [y1, y2, y3, y4, y5, y6, y7]); omega, rfl, by (try simp only [y1, y2, y3, y4, y5, y6, y7]); omega, rfl, hdo _, by (try simp only [y1, y2, y3, y4, y5, y6, y7]); omega, rfl, by (try simp only [y1, y2, y3, y4, y5, y6, y7]); omega, rfl, by (try simp only [y1, y2, y3, y4, y5, y6, y7]); omega, rfl, by (try simp only [y1, y2, y3, y4, y5, y6, y7]); omega, rfl, by (try simp only [y1, y2, y3, y4, y5, y6, y7]); omega, rfl, by (try simp only [y1, y2, y3, y4, y5, y6, y7]); omega, rfl, trivial⟩
--> ln5
--< isT5
theorem isT5 (lf : Nat) (kind : Int) (off : Int) (r0 : List AObj) (W : AObj) (w1 : ByteArray) (w2 : ByteArray) (w3 : ByteArray) (w4 : ByteArray) (w5 : ByteArray) :
    evB (lf + 100) 19 15 [vf 67 (pt 18), vi kind] (kpN5 kind off r0 W w1 w2 w3 w4 w5) = some (vb true, (kpN5 kind off r0 W w1 w2 w3 w4 w5), []) :=
  Dg.evCall_hint (hs' := []) (hs := [qv 32 18 (vb false),
    qv 32 18 (vb false),
    qv 32 18 (vb false),
    qv 32 18 (vb false),
    qv 32 18 (vb false),
    qv 32 18 (vb false),
    qv 32 18 (vb true)])
    [vb false = vb false,
    vb false = vb false,
    vb false = vb false,
    vb false = vb false,
    vb false = vb false,
    vb false = vb false,
    vb (if true = true then kind == kind else !kind == kind) = vb true] (by kernel_rfl)
    ⟨rfl, rfl, rfl, rfl, rfl, rfl, Dg.vtrue (by omega), trivial⟩
--> isT5
--< isF5
theorem isF5 (lf : Nat) (kind : Int) (off : Int) (other : Int) (hne : other ≠ kind) (r0 : List AObj) (W : AObj) (w1 : ByteArray) (w2 : ByteArray) (w3 : ByteArray) (w4 : ByteArray) (w5 : ByteArray) :
    evB (lf + 100) 19 15 [vf 67 (pt 18), vi other] (kpN5 kind off r0 W w1 w2 w3 w4 w5) = some (vb false, (kpN5 kind off r0 W w1 w2 w3 w4 w5), []) :=
  Dg.evCall_hint (hs' := []) (hs := [qv 32 18 (vb false),
    qv 32 18 (vb false),
    qv 32 18 (vb false),
    qv 32 18 (vb false),
    qv 32 18 (vb false),
    qv 32 18 (vb false),
    qv 32 18 (vb false)])
    [vb false = vb false,
    vb false = vb false,
    vb false = vb false,
    vb false = vb false,
    vb false = vb false,
    vb false = vb false,
    vb (if true = true then kind == other else !kind == other) = vb false] (by kernel_rfl)
    ⟨rfl, rfl, rfl, rfl, rfl, rfl, Dg.vfalse (by omega), trivial⟩
--> isF5
--< rl5
theorem rl5 (lf : Nat) (kind : Int) (off : Int) (r0 : List AObj) (W : AObj) (w1 : ByteArray) (w2 : ByteArray) (w3 : ByteArray) (w4 : ByteArray) (w5 : ByteArray) (dk : ByteArray) (dO : ByteArray) (hk : ByteArray.size dk ≤ 20) (ho : ByteArray.size dO ≤ 20) (z1 : ByteArray.size w1 ≤ 32) (z2 : ByteArray.size w2 ≤ 32) (z3 : ByteArray.size w3 ≤ 32) (z4 : ByteArray.size w4 ≤ 32) (z5 : ByteArray.size w5 ≤ 32) (hdk : ∀ (m : Nat) (H : Heap), evB (lf + 100) (m + 1) 21 [vi kind] H = some (vs dk, H, [])) (hdo : ∀ (m : Nat) (H : Heap), evB (lf + 100) (m + 1) 21 [vi off] H = some (vs dO, H, [])) :
    evB (lf + 100) 19 18 [sp 24 5 5, vi kind, vi off] (kpH5 kind off r0 W w1 w2 w3 w4 w5) = some (vs (e0 ++ w5 ++ csS ++ w4 ++ csS ++ w3 ++ csS ++ w2 ++ csS ++ w1 ++ csS ++ ksS ++ dk ++ atS ++ dO), (kpH5 kind off r0 W w1 w2 w3 w4 w5), []) :=
  Dg.evCall_hint (hs' := []) (hs := [qs 18 20 (vs (e0 ++ w5)),
    qs 18 21 (vs (e0 ++ w5 ++ csS)),
    qs 18 20 (vs (e0 ++ w5 ++ csS ++ w4)),
    qs 18 21 (vs (e0 ++ w5 ++ csS ++ w4 ++ csS)),
    qs 18 20 (vs (e0 ++ w5 ++ csS ++ w4 ++ csS ++ w3)),
    qs 18 21 (vs (e0 ++ w5 ++ csS ++ w4 ++ csS ++ w3 ++ csS)),
    qs 18 20 (vs (e0 ++ w5 ++ csS ++ w4 ++ csS ++ w3 ++ csS ++ w2)),
    qs 18 21 (vs (e0 ++ w5 ++ csS ++ w4 ++ csS ++ w3 ++ csS ++ w2 ++ csS)),
    qs 18 20 (vs (e0 ++ w5 ++ csS ++ w4 ++ csS ++ w3 ++ csS ++ w2 ++ csS ++ w1)),
    qs 18 21 (vs (e0 ++ w5 ++ csS ++ w4 ++ csS ++ w3 ++ csS ++ w2 ++ csS ++ w1 ++ csS)),
    qs 18 23 (vs (e0 ++ w5 ++ csS ++ w4 ++ csS ++ w3 ++ csS ++ w2 ++ csS ++ w1 ++ csS ++ ksS)),
    qc 21 (vs dk) (kpH5 kind off r0 W w1 w2 w3 w4 w5) [],
    qs 18 26 (vs (e0 ++ w5 ++ csS ++ w4 ++ csS ++ w3 ++ csS ++ w2 ++ csS ++ w1 ++ csS ++ ksS ++ dk)),
    qs 18 27 (vs (e0 ++ w5 ++ csS ++ w4 ++ csS ++ w3 ++ csS ++ w2 ++ csS ++ w1 ++ csS ++ ksS ++ dk ++ atS)),
    qc 21 (vs dO) (kpH5 kind off r0 W w1 w2 w3 w4 w5) [],
    qs 18 30 (vs (e0 ++ w5 ++ csS ++ w4 ++ csS ++ w3 ++ csS ++ w2 ++ csS ++ w1 ++ csS ++ ksS ++ dk ++ atS ++ dO))])
    [ByteArray.size e0 + ByteArray.size w5 ≤ (9223372036854775807 : Nat),
    vs (e0 ++ w5) = vs (e0 ++ w5),
    ByteArray.size (e0 ++ w5) + ByteArray.size csS ≤ (9223372036854775807 : Nat),
    vs (e0 ++ w5 ++ csS) = vs (e0 ++ w5 ++ csS),
    ByteArray.size (e0 ++ w5 ++ csS) + ByteArray.size w4 ≤ (9223372036854775807 : Nat),
    vs (e0 ++ w5 ++ csS ++ w4) = vs (e0 ++ w5 ++ csS ++ w4),
    ByteArray.size (e0 ++ w5 ++ csS ++ w4) + ByteArray.size csS ≤ (9223372036854775807 : Nat),
    vs (e0 ++ w5 ++ csS ++ w4 ++ csS) = vs (e0 ++ w5 ++ csS ++ w4 ++ csS),
    ByteArray.size (e0 ++ w5 ++ csS ++ w4 ++ csS) + ByteArray.size w3 ≤ (9223372036854775807 : Nat),
    vs (e0 ++ w5 ++ csS ++ w4 ++ csS ++ w3) = vs (e0 ++ w5 ++ csS ++ w4 ++ csS ++ w3),
    ByteArray.size (e0 ++ w5 ++ csS ++ w4 ++ csS ++ w3) + ByteArray.size csS ≤ (9223372036854775807 : Nat),
    vs (e0 ++ w5 ++ csS ++ w4 ++ csS ++ w3 ++ csS) = vs (e0 ++ w5 ++ csS ++ w4 ++ csS ++ w3 ++ csS),
    ByteArray.size (e0 ++ w5 ++ csS ++ w4 ++ csS ++ w3 ++ csS) + ByteArray.size w2 ≤ (9223372036854775807 : Nat),
    vs (e0 ++ w5 ++ csS ++ w4 ++ csS ++ w3 ++ csS ++ w2) = vs (e0 ++ w5 ++ csS ++ w4 ++ csS ++ w3 ++ csS ++ w2),
    ByteArray.size (e0 ++ w5 ++ csS ++ w4 ++ csS ++ w3 ++ csS ++ w2) + ByteArray.size csS ≤ (9223372036854775807 : Nat),
    vs (e0 ++ w5 ++ csS ++ w4 ++ csS ++ w3 ++ csS ++ w2 ++ csS) = vs (e0 ++ w5 ++ csS ++ w4 ++ csS ++ w3 ++ csS ++ w2 ++ csS),
    ByteArray.size (e0 ++ w5 ++ csS ++ w4 ++ csS ++ w3 ++ csS ++ w2 ++ csS) + ByteArray.size w1 ≤ (9223372036854775807 : Nat),
    vs (e0 ++ w5 ++ csS ++ w4 ++ csS ++ w3 ++ csS ++ w2 ++ csS ++ w1) = vs (e0 ++ w5 ++ csS ++ w4 ++ csS ++ w3 ++ csS ++ w2 ++ csS ++ w1),
    ByteArray.size (e0 ++ w5 ++ csS ++ w4 ++ csS ++ w3 ++ csS ++ w2 ++ csS ++ w1) + ByteArray.size csS ≤ (9223372036854775807 : Nat),
    vs (e0 ++ w5 ++ csS ++ w4 ++ csS ++ w3 ++ csS ++ w2 ++ csS ++ w1 ++ csS) = vs (e0 ++ w5 ++ csS ++ w4 ++ csS ++ w3 ++ csS ++ w2 ++ csS ++ w1 ++ csS),
    ByteArray.size (e0 ++ w5 ++ csS ++ w4 ++ csS ++ w3 ++ csS ++ w2 ++ csS ++ w1 ++ csS) + ByteArray.size ksS ≤ (9223372036854775807 : Nat),
    vs (e0 ++ w5 ++ csS ++ w4 ++ csS ++ w3 ++ csS ++ w2 ++ csS ++ w1 ++ csS ++ ksS) = vs (e0 ++ w5 ++ csS ++ w4 ++ csS ++ w3 ++ csS ++ w2 ++ csS ++ w1 ++ csS ++ ksS),
    evB (lf + 100) 18 21 [vi kind] (kpH5 kind off r0 W w1 w2 w3 w4 w5) = some (vs dk, (kpH5 kind off r0 W w1 w2 w3 w4 w5), []),
    ByteArray.size (e0 ++ w5 ++ csS ++ w4 ++ csS ++ w3 ++ csS ++ w2 ++ csS ++ w1 ++ csS ++ ksS) + ByteArray.size dk ≤ (9223372036854775807 : Nat),
    vs (e0 ++ w5 ++ csS ++ w4 ++ csS ++ w3 ++ csS ++ w2 ++ csS ++ w1 ++ csS ++ ksS ++ dk) = vs (e0 ++ w5 ++ csS ++ w4 ++ csS ++ w3 ++ csS ++ w2 ++ csS ++ w1 ++ csS ++ ksS ++ dk),
    ByteArray.size (e0 ++ w5 ++ csS ++ w4 ++ csS ++ w3 ++ csS ++ w2 ++ csS ++ w1 ++ csS ++ ksS ++ dk) + ByteArray.size atS ≤ (9223372036854775807 : Nat),
    vs (e0 ++ w5 ++ csS ++ w4 ++ csS ++ w3 ++ csS ++ w2 ++ csS ++ w1 ++ csS ++ ksS ++ dk ++ atS) = vs (e0 ++ w5 ++ csS ++ w4 ++ csS ++ w3 ++ csS ++ w2 ++ csS ++ w1 ++ csS ++ ksS ++ dk ++ atS),
    evB (lf + 100) 18 21 [vi off] (kpH5 kind off r0 W w1 w2 w3 w4 w5) = some (vs dO, (kpH5 kind off r0 W w1 w2 w3 w4 w5), []),
    ByteArray.size (e0 ++ w5 ++ csS ++ w4 ++ csS ++ w3 ++ csS ++ w2 ++ csS ++ w1 ++ csS ++ ksS ++ dk ++ atS) + ByteArray.size dO ≤ (9223372036854775807 : Nat),
    vs (e0 ++ w5 ++ csS ++ w4 ++ csS ++ w3 ++ csS ++ w2 ++ csS ++ w1 ++ csS ++ ksS ++ dk ++ atS ++ dO) = vs (e0 ++ w5 ++ csS ++ w4 ++ csS ++ w3 ++ csS ++ w2 ++ csS ++ w1 ++ csS ++ ksS ++ dk ++ atS ++ dO)] (by kernel_rfl)
    ⟨by (try simp only [y1, y2, y3, y4, y5, y6, y7]); omega, rfl, by (try simp only [y1, y2, y3, y4, y5, y6, y7]); omega, rfl, by (try simp only [y1, y2, y3, y4, y5, y6, y7]); omega, rfl, by (try simp only [y1, y2, y3, y4, y5, y6, y7]); omega, rfl, by (try simp only [y1, y2, y3, y4, y5, y6, y7]); omega, rfl, by (try simp only [y1, y2, y3, y4, y5, y6, y7]); omega, rfl, by (try simp only [y1, y2, y3, y4, y5, y6, y7]); omega, rfl, by (try simp only [y1, y2, y3, y4, y5, y6, y7]); omega, rfl, by (try simp only [y1, y2, y3, y4, y5, y6, y7]); omega, rfl, by (try simp only [y1, y2, y3, y4, y5, y6, y7]); omega, rfl, by (try simp only [y1, y2, y3, y4, y5, y6, y7]); omega, rfl, hdk _ _, by (try simp only [y1, y2, y3, y4, y5, y6, y7]); omega, rfl, by (try simp only [y1, y2, y3, y4, y5, y6, y7]); omega, rfl, hdo _ _, by (try simp only [y1, y2, y3, y4, y5, y6, y7]); omega, rfl, trivial⟩
--> rl5
theorem rl_is5 (w1 w2 w3 w4 w5 : ByteArray) (dk dO : ByteArray) : (((((((((((((((⟨#[]⟩ : ByteArray) ++ w5) ++ csS) ++ w4) ++ csS) ++ w3) ++ csS) ++ w2) ++ csS) ++ w1) ++ csS) ++ ksS) ++ dk) ++ atS) ++ dO) = tN w5 (tN w4 (tN w3 (tN w2 (tN w1 (tF dk dO))))) := by
  unfold tF; simp only [tN, ByteArray.append_assoc, emp]
--< eq5
theorem eq5 (lf : Nat) (kind : Int) (off : Int) (r0 : List AObj) (W : AObj) (w1 : ByteArray) (w2 : ByteArray) (w3 : ByteArray) (w4 : ByteArray) (w5 : ByteArray) :
    evB (lf + 100) 19 19 [sp 25 5 5, sp 24 5 5] (kpN5 kind off r0 W w1 w2 w3 w4 w5) = some (vb true, (kpN5 kind off r0 W w1 w2 w3 w4 w5), []) :=
  Dg.evCall_hint (hs' := []) (hs := [qv 19 24 (vb false),
    qv 19 24 (vb false),
    qv 19 24 (vb false),
    qv 19 24 (vb false),
    qv 19 24 (vb false)])
    [(vb !ByteArray.toList w5 == ByteArray.toList w5) = vb false,
    (vb !ByteArray.toList w4 == ByteArray.toList w4) = vb false,
    (vb !ByteArray.toList w3 == ByteArray.toList w3) = vb false,
    (vb !ByteArray.toList w2 == ByteArray.toList w2) = vb false,
    (vb !ByteArray.toList w1 == ByteArray.toList w1) = vb false] (by kernel_rfl)
    ⟨neS _, neS _, neS _, neS _, neS _, trivial⟩
--> eq5
--< srt4
theorem srt4 (lf : Nat) (kind : Int) (off : Int) (n : Int) (r0 : List AObj) (W : AObj) (w1 : ByteArray) (w2 : ByteArray) (w3 : ByteArray) (w4 : ByteArray) (d : ByteArray) (hd : ByteArray.size d ≤ 20) (hs : ∀ (m : Nat), evB lf (m + 1) 34 [vi n] (kpN4 kind off r0 W w1 w2 w3 w4) = some (vs d, (kpN4 kind off r0 W w1 w2 w3 w4), [])) :
    evB lf 19 20 [vi n] (kpN4 kind off r0 W w1 w2 w3 w4) = some (vs (ksS ++ d), (kpN4 kind off r0 W w1 w2 w3 w4), []) :=
  Dg.evCall_hint (hs' := []) (hs := [qc 34 (vs d) (kpN4 kind off r0 W w1 w2 w3 w4) [],
    qs 20 5 (vs (ksS ++ d))])
    [evB lf 18 34 [vi n] (kpN4 kind off r0 W w1 w2 w3 w4) = some (vs d, (kpN4 kind off r0 W w1 w2 w3 w4), []),
    ByteArray.size ksS + ByteArray.size d ≤ (9223372036854775807 : Nat),
    vs (ksS ++ d) = vs (ksS ++ d)] (by kernel_rfl)
    ⟨hs _, by (try simp only [y1, y2, y3, y4, y5, y6, y7]); omega, rfl, trivial⟩
--> srt4
--< srt5
theorem srt5 (lf : Nat) (kind : Int) (off : Int) (n : Int) (r0 : List AObj) (W : AObj) (w1 : ByteArray) (w2 : ByteArray) (w3 : ByteArray) (w4 : ByteArray) (w5 : ByteArray) (d : ByteArray) (hd : ByteArray.size d ≤ 20) (hs : ∀ (m : Nat), evB lf (m + 1) 34 [vi n] (kpN5 kind off r0 W w1 w2 w3 w4 w5) = some (vs d, (kpN5 kind off r0 W w1 w2 w3 w4 w5), [])) :
    evB lf 19 20 [vi n] (kpN5 kind off r0 W w1 w2 w3 w4 w5) = some (vs (ksS ++ d), (kpN5 kind off r0 W w1 w2 w3 w4 w5), []) :=
  Dg.evCall_hint (hs' := []) (hs := [qc 34 (vs d) (kpN5 kind off r0 W w1 w2 w3 w4 w5) [],
    qs 20 5 (vs (ksS ++ d))])
    [evB lf 18 34 [vi n] (kpN5 kind off r0 W w1 w2 w3 w4 w5) = some (vs d, (kpN5 kind off r0 W w1 w2 w3 w4 w5), []),
    ByteArray.size ksS + ByteArray.size d ≤ (9223372036854775807 : Nat),
    vs (ksS ++ d) = vs (ksS ++ d)] (by kernel_rfl)
    ⟨hs _, by (try simp only [y1, y2, y3, y4, y5, y6, y7]); omega, rfl, trivial⟩
--> srt5
end Go.Proofs.YtpgddboigegplaaGreatDoor.base

namespace Go.Proofs.YtpgddboigegplaaGreatDoor.base
open Go.Dg (junk St Ex Ev Hint evCall evCallS evCode evCodeK innerKp evCodeS evLoop cleanSt ue bodied noOver sbOf headOf tailOf bodyOf rAssign rBody lBody Flats flatOver Heap AObj SCall Law ofLaw Fix)
set_option linter.unusedVariables false
set_option linter.unusedSimpArgs false

--< err6
theorem err6 (lf : Nat) (kind : Int) (off : Int) (r0 : List AObj) (W : AObj) (w1 : ByteArray) (w2 : ByteArray) (w3 : ByteArray) (w4 : ByteArray) (w5 : ByteArray) (w6 : ByteArray) (dk : ByteArray) (dO : ByteArray) (hk : ByteArray.size dk ≤ 20) (ho : ByteArray.size dO ≤ 20) (z1 : ByteArray.size w1 ≤ 32) (z2 : ByteArray.size w2 ≤ 32) (z3 : ByteArray.size w3 ≤ 32) (z4 : ByteArray.size w4 ≤ 32) (z5 : ByteArray.size w5 ≤ 32) (z6 : ByteArray.size w6 ≤ 32) (hdk : ∀ (m : Nat), evB (lf + 100) (m + 1) 34 [vi kind] (kpH6 kind off r0 W w1 w2 w3 w4 w5 w6) = some (vs dk, (kpH6 kind off r0 W w1 w2 w3 w4 w5 w6), [])) (hdo : ∀ (m : Nat), evB (lf + 100) (m + 1) 34 [vi off] (kpH6 kind off r0 W w1 w2 w3 w4 w5 w6) = some (vs dO, (kpH6 kind off r0 W w1 w2 w3 w4 w5 w6), [])) :
    evB (lf + 100) 19 126 [pt 18] (kpH6 kind off r0 W w1 w2 w3 w4 w5 w6) = some (vs (tN w6 (tN w5 (tN w4 (tN w3 (tN w2 (tN w1 (tF dk dO))))))), (kpH6 kind off r0 W w1 w2 w3 w4 w5 w6), []) :=
  Dg.evCall_hint (hs' := []) (hs := [qs 126 7 (vs (w6 ++ csS)),
    qs 126 7 (vs (w5 ++ csS)),
    qs 126 7 (vs (w4 ++ csS)),
    qs 126 7 (vs (w3 ++ csS)),
    qs 126 7 (vs (w2 ++ csS)),
    qs 126 7 (vs (w1 ++ csS)),
    qc 34 (vs dk) (kpH6 kind off r0 W w1 w2 w3 w4 w5 w6) [],
    qs 20 5 (vs (ksS ++ dk)),
    qs 128 8 (vs (ksS ++ dk ++ atS)),
    qc 34 (vs dO) (kpH6 kind off r0 W w1 w2 w3 w4 w5 w6) [],
    qs 128 14 (vs (tF dk dO)),
    qs 126 13 (vs (tN w1 (tF dk dO))),
    qs 126 13 (vs (tN w2 (tN w1 (tF dk dO)))),
    qs 126 13 (vs (tN w3 (tN w2 (tN w1 (tF dk dO))))),
    qs 126 13 (vs (tN w4 (tN w3 (tN w2 (tN w1 (tF dk dO)))))),
    qs 126 13 (vs (tN w5 (tN w4 (tN w3 (tN w2 (tN w1 (tF dk dO))))))),
    qs 126 13 (vs (tN w6 (tN w5 (tN w4 (tN w3 (tN w2 (tN w1 (tF dk dO))))))))])
    [ByteArray.size w6 + ByteArray.size csS ≤ (9223372036854775807 : Nat),
    vs (w6 ++ csS) = vs (w6 ++ csS),
    ByteArray.size w5 + ByteArray.size csS ≤ (9223372036854775807 : Nat),
    vs (w5 ++ csS) = vs (w5 ++ csS),
    ByteArray.size w4 + ByteArray.size csS ≤ (9223372036854775807 : Nat),
    vs (w4 ++ csS) = vs (w4 ++ csS),
    ByteArray.size w3 + ByteArray.size csS ≤ (9223372036854775807 : Nat),
    vs (w3 ++ csS) = vs (w3 ++ csS),
    ByteArray.size w2 + ByteArray.size csS ≤ (9223372036854775807 : Nat),
    vs (w2 ++ csS) = vs (w2 ++ csS),
    ByteArray.size w1 + ByteArray.size csS ≤ (9223372036854775807 : Nat),
    vs (w1 ++ csS) = vs (w1 ++ csS),
    evB (lf + 100) 11 34 [vi kind] (kpH6 kind off r0 W w1 w2 w3 w4 w5 w6) = some (vs dk, (kpH6 kind off r0 W w1 w2 w3 w4 w5 w6), []),
    ByteArray.size ksS + ByteArray.size dk ≤ (9223372036854775807 : Nat),
    vs (ksS ++ dk) = vs (ksS ++ dk),
    ByteArray.size (ksS ++ dk) + ByteArray.size atS ≤ (9223372036854775807 : Nat),
    vs (ksS ++ dk ++ atS) = vs (ksS ++ dk ++ atS),
    evB (lf + 100) 12 34 [vi off] (kpH6 kind off r0 W w1 w2 w3 w4 w5 w6) = some (vs dO, (kpH6 kind off r0 W w1 w2 w3 w4 w5 w6), []),
    ByteArray.size (ksS ++ dk ++ atS) + ByteArray.size dO ≤ (9223372036854775807 : Nat),
    vs (ksS ++ dk ++ atS ++ dO) = vs (tF dk dO),
    ByteArray.size (w1 ++ csS) + ByteArray.size (tF dk dO) ≤ (9223372036854775807 : Nat),
    vs (w1 ++ csS ++ tF dk dO) = vs (tN w1 (tF dk dO)),
    ByteArray.size (w2 ++ csS) + ByteArray.size (tN w1 (tF dk dO)) ≤ (9223372036854775807 : Nat),
    vs (w2 ++ csS ++ tN w1 (tF dk dO)) = vs (tN w2 (tN w1 (tF dk dO))),
    ByteArray.size (w3 ++ csS) + ByteArray.size (tN w2 (tN w1 (tF dk dO))) ≤ (9223372036854775807 : Nat),
    vs (w3 ++ csS ++ tN w2 (tN w1 (tF dk dO))) = vs (tN w3 (tN w2 (tN w1 (tF dk dO)))),
    ByteArray.size (w4 ++ csS) + ByteArray.size (tN w3 (tN w2 (tN w1 (tF dk dO)))) ≤ (9223372036854775807 : Nat),
    vs (w4 ++ csS ++ tN w3 (tN w2 (tN w1 (tF dk dO)))) = vs (tN w4 (tN w3 (tN w2 (tN w1 (tF dk dO))))),
    ByteArray.size (w5 ++ csS) + ByteArray.size (tN w4 (tN w3 (tN w2 (tN w1 (tF dk dO))))) ≤ (9223372036854775807 : Nat),
    vs (w5 ++ csS ++ tN w4 (tN w3 (tN w2 (tN w1 (tF dk dO))))) = vs (tN w5 (tN w4 (tN w3 (tN w2 (tN w1 (tF dk dO)))))),
    ByteArray.size (w6 ++ csS) + ByteArray.size (tN w5 (tN w4 (tN w3 (tN w2 (tN w1 (tF dk dO)))))) ≤ (9223372036854775807 : Nat),
    vs (w6 ++ csS ++ tN w5 (tN w4 (tN w3 (tN w2 (tN w1 (tF dk dO)))))) = vs (tN w6 (tN w5 (tN w4 (tN w3 (tN w2 (tN w1 (tF dk dO)))))))] (by kernel_rfl)
    ⟨by (try simp only [y1, y2, y3, y4, y5, y6, y7]); omega, rfl, by (try simp only [y1, y2, y3, y4, y5, y6, y7]); omega, rfl, by (try simp only [y1, y2, y3, y4, y5, y6, y7]); omega, rfl, by (try simp only [y1, y2, y3, y4, y5, y6, y7]); omega, rfl, by (try simp only [y1, y2, y3, y4, y5, y6, y7]); omega, rfl, by (try simp only [y1, y2, y3, y4, y5, y6, y7]); omega, rfl, hdk _, by (try simp only [y1, y2, y3, y4, y5, y6, y7]); omega, rfl, by (try simp only [y1, y2, y3, y4, y5, y6, y7]); omega, rfl, hdo _, by (try simp only [y1, y2, y3, y4, y5, y6, y7]); omega, rfl, by (try simp only [y1, y2, y3, y4, y5, y6, y7]); omega, rfl, by (try simp only [y1, y2, y3, y4, y5, y6, y7]); omega, rfl, by (try simp only [y1, y2, y3, y4, y5, y6, y7]); omega, rfl, by (try simp only [y1, y2, y3, y4, y5, y6, y7]); omega, rfl, by (try simp only [y1, y2, y3, y4, y5, y6, y7]); omega, rfl, by (try simp only [y1, y2, y3, y4, y5, y6, y7]); omega, rfl, trivial⟩
--> err6
--< ln6
theorem ln6 (lf : Nat) (kind : Int) (off : Int) (r0 : List AObj) (W : AObj) (w1 : ByteArray) (w2 : ByteArray) (w3 : ByteArray) (w4 : ByteArray) (w5 : ByteArray) (w6 : ByteArray) (dk : ByteArray) (dO : ByteArray) (hk : ByteArray.size dk ≤ 20) (ho : ByteArray.size dO ≤ 20) (z1 : ByteArray.size w1 ≤ 32) (z2 : ByteArray.size w2 ≤ 32) (z3 : ByteArray.size w3 ≤ 32) (z4 : ByteArray.size w4 ≤ 32) (z5 : ByteArray.size w5 ≤ 32) (z6 : ByteArray.size w6 ≤ 32) (hdk : ∀ (m : Nat), evB (lf + 100) (m + 1) 34 [vi kind] (kpH6 kind off r0 W w1 w2 w3 w4 w5 w6) = some (vs dk, (kpH6 kind off r0 W w1 w2 w3 w4 w5 w6), [])) (hdo : ∀ (m : Nat), evB (lf + 100) (m + 1) 34 [vi off] (kpH6 kind off r0 W w1 w2 w3 w4 w5 w6) = some (vs dO, (kpH6 kind off r0 W w1 w2 w3 w4 w5 w6), [])) :
    evB (lf + 100) 19 13 [vf 67 (pt 18)] (kpH6 kind off r0 W w1 w2 w3 w4 w5 w6) = some (Value.tuple #[vs (tN w6 (tN w5 (tN w4 (tN w3 (tN w2 (tN w1 (tF dk dO))))))), vb true], (kpH6 kind off r0 W w1 w2 w3 w4 w5 w6), []) :=
  Dg.evCall_hint (hs' := []) (hs := [qs 126 7 (vs (w6 ++ csS)),
    qs 126 7 (vs (w5 ++ csS)),
    qs 126 7 (vs (w4 ++ csS)),
    qs 126 7 (vs (w3 ++ csS)),
    qs 126 7 (vs (w2 ++ csS)),
    qs 126 7 (vs (w1 ++ csS)),
    qc 34 (vs dk) (kpH6 kind off r0 W w1 w2 w3 w4 w5 w6) [],
    qs 20 5 (vs (ksS ++ dk)),
    qs 128 8 (vs (ksS ++ dk ++ atS)),
    qc 34 (vs dO) (kpH6 kind off r0 W w1 w2 w3 w4 w5 w6) [],
    qs 128 14 (vs (tF dk dO)),
    qs 126 13 (vs (tN w1 (tF dk dO))),
    qs 126 13 (vs (tN w2 (tN w1 (tF dk dO)))),
    qs 126 13 (vs (tN w3 (tN w2 (tN w1 (tF dk dO))))),
    qs 126 13 (vs (tN w4 (tN w3 (tN w2 (tN w1 (tF dk dO)))))),
    qs 126 13 (vs (tN w5 (tN w4 (tN w3 (tN w2 (tN w1 (tF dk dO))))))),
    qs 126 13 (vs (tN w6 (tN w5 (tN w4 (tN w3 (tN w2 (tN w1 (tF dk dO))))))))])
    [ByteArray.size w6 + ByteArray.size csS ≤ (9223372036854775807 : Nat),
    vs (w6 ++ csS) = vs (w6 ++ csS),
    ByteArray.size w5 + ByteArray.size csS ≤ (9223372036854775807 : Nat),
    vs (w5 ++ csS) = vs (w5 ++ csS),
    ByteArray.size w4 + ByteArray.size csS ≤ (9223372036854775807 : Nat),
    vs (w4 ++ csS) = vs (w4 ++ csS),
    ByteArray.size w3 + ByteArray.size csS ≤ (9223372036854775807 : Nat),
    vs (w3 ++ csS) = vs (w3 ++ csS),
    ByteArray.size w2 + ByteArray.size csS ≤ (9223372036854775807 : Nat),
    vs (w2 ++ csS) = vs (w2 ++ csS),
    ByteArray.size w1 + ByteArray.size csS ≤ (9223372036854775807 : Nat),
    vs (w1 ++ csS) = vs (w1 ++ csS),
    evB (lf + 100) 9 34 [vi kind] (kpH6 kind off r0 W w1 w2 w3 w4 w5 w6) = some (vs dk, (kpH6 kind off r0 W w1 w2 w3 w4 w5 w6), []),
    ByteArray.size ksS + ByteArray.size dk ≤ (9223372036854775807 : Nat),
    vs (ksS ++ dk) = vs (ksS ++ dk),
    ByteArray.size (ksS ++ dk) + ByteArray.size atS ≤ (9223372036854775807 : Nat),
    vs (ksS ++ dk ++ atS) = vs (ksS ++ dk ++ atS),
    evB (lf + 100) 10 34 [vi off] (kpH6 kind off r0 W w1 w2 w3 w4 w5 w6) = some (vs dO, (kpH6 kind off r0 W w1 w2 w3 w4 w5 w6), []),
    ByteArray.size (ksS ++ dk ++ atS) + ByteArray.size dO ≤ (9223372036854775807 : Nat),
    vs (ksS ++ dk ++ atS ++ dO) = vs (tF dk dO),
    ByteArray.size (w1 ++ csS) + ByteArray.size (tF dk dO) ≤ (9223372036854775807 : Nat),
    vs (w1 ++ csS ++ tF dk dO) = vs (tN w1 (tF dk dO)),
    ByteArray.size (w2 ++ csS) + ByteArray.size (tN w1 (tF dk dO)) ≤ (9223372036854775807 : Nat),
    vs (w2 ++ csS ++ tN w1 (tF dk dO)) = vs (tN w2 (tN w1 (tF dk dO))),
    ByteArray.size (w3 ++ csS) + ByteArray.size (tN w2 (tN w1 (tF dk dO))) ≤ (9223372036854775807 : Nat),
    vs (w3 ++ csS ++ tN w2 (tN w1 (tF dk dO))) = vs (tN w3 (tN w2 (tN w1 (tF dk dO)))),
    ByteArray.size (w4 ++ csS) + ByteArray.size (tN w3 (tN w2 (tN w1 (tF dk dO)))) ≤ (9223372036854775807 : Nat),
    vs (w4 ++ csS ++ tN w3 (tN w2 (tN w1 (tF dk dO)))) = vs (tN w4 (tN w3 (tN w2 (tN w1 (tF dk dO))))),
    ByteArray.size (w5 ++ csS) + ByteArray.size (tN w4 (tN w3 (tN w2 (tN w1 (tF dk dO))))) ≤ (9223372036854775807 : Nat),
    vs (w5 ++ csS ++ tN w4 (tN w3 (tN w2 (tN w1 (tF dk dO))))) = vs (tN w5 (tN w4 (tN w3 (tN w2 (tN w1 (tF dk dO)))))),
    ByteArray.size (w6 ++ csS) + ByteArray.size (tN w5 (tN w4 (tN w3 (tN w2 (tN w1 (tF dk dO)))))) ≤ (9223372036854775807 : Nat),
    vs (w6 ++ csS ++ tN w5 (tN w4 (tN w3 (tN w2 (tN w1 (tF dk dO)))))) = vs (tN w6 (tN w5 (tN w4 (tN w3 (tN w2 (tN w1 (tF dk dO)))))))] (by kernel_rfl)
    ⟨by (try simp only [y1, y2, y3, y4, y5, y6, y7]); omega, rfl, by (try simp only [y1, y2, y3, y4, y5, y6, y7]); omega, rfl, by (try simp only [y1, y2, y3, y4, y5, y6, y7]); omega, rfl, by (try simp only [y1, y2, y3, y4, y5, y6, y7]); omega, rfl, by (try simp only [y1, y2, y3, y4, y5, y6, y7]); omega, rfl, by (try simp only [y1, y2, y3, y4, y5, y6, y7]); omega, rfl, hdk _, by (try simp only [y1, y2, y3, y4, y5, y6, y7]); omega, rfl, by (try simp only [y1, y2, y3, y4, y5, y6, y7]); omega, rfl, hdo _, by (try simp only [y1, y2, y3, y4, y5, y6, y7]); omega, rfl, by (try simp only [y1, y2, y3, y4, y5, y6, y7]); omega, rfl, by (try simp only [y1, y2, y3, y4, y5, y6, y7]); omega, rfl, by (try simp only [y1, y2, y3, y4, y5, y6, y7]); omega, rfl, by (try simp only [y1, y2, y3, y4, y5, y6, y7]); omega, rfl, by (try simp only [y1, y2, y3, y4, y5, y6, y7]); omega, rfl, by (try simp only [y1, y2, y3, y4, y5, y6, y7]); omega, rfl, trivial⟩
--> ln6
--< isT6
theorem isT6 (lf : Nat) (kind : Int) (off : Int) (r0 : List AObj) (W : AObj) (w1 : ByteArray) (w2 : ByteArray) (w3 : ByteArray) (w4 : ByteArray) (w5 : ByteArray) (w6 : ByteArray) :
    evB (lf + 100) 19 15 [vf 67 (pt 18), vi kind] (kpN6 kind off r0 W w1 w2 w3 w4 w5 w6) = some (vb true, (kpN6 kind off r0 W w1 w2 w3 w4 w5 w6), []) :=
  Dg.evCall_hint (hs' := []) (hs := [qv 32 18 (vb false),
    qv 32 18 (vb false),
    qv 32 18 (vb false),
    qv 32 18 (vb false),
    qv 32 18 (vb false),
    qv 32 18 (vb false),
    qv 32 18 (vb false),
    qv 32 18 (vb true)])
    [vb false = vb false,
    vb false = vb false,
    vb false = vb false,
    vb false = vb false,
    vb false = vb false,
    vb false = vb false,
    vb false = vb false,
    vb (if true = true then kind == kind else !kind == kind) = vb true] (by kernel_rfl)
    ⟨rfl, rfl, rfl, rfl, rfl, rfl, rfl, Dg.vtrue (by omega), trivial⟩
--> isT6
--< isF6
theorem isF6 (lf : Nat) (kind : Int) (off : Int) (other : Int) (hne : other ≠ kind) (r0 : List AObj) (W : AObj) (w1 : ByteArray) (w2 : ByteArray) (w3 : ByteArray) (w4 : ByteArray) (w5 : ByteArray) (w6 : ByteArray) :
    evB (lf + 100) 19 15 [vf 67 (pt 18), vi other] (kpN6 kind off r0 W w1 w2 w3 w4 w5 w6) = some (vb false, (kpN6 kind off r0 W w1 w2 w3 w4 w5 w6), []) :=
  Dg.evCall_hint (hs' := []) (hs := [qv 32 18 (vb false),
    qv 32 18 (vb false),
    qv 32 18 (vb false),
    qv 32 18 (vb false),
    qv 32 18 (vb false),
    qv 32 18 (vb false),
    qv 32 18 (vb false),
    qv 32 18 (vb false)])
    [vb false = vb false,
    vb false = vb false,
    vb false = vb false,
    vb false = vb false,
    vb false = vb false,
    vb false = vb false,
    vb false = vb false,
    vb (if true = true then kind == other else !kind == other) = vb false] (by kernel_rfl)
    ⟨rfl, rfl, rfl, rfl, rfl, rfl, rfl, Dg.vfalse (by omega), trivial⟩
--> isF6
--< rl6
theorem rl6 (lf : Nat) (kind : Int) (off : Int) (r0 : List AObj) (W : AObj) (w1 : ByteArray) (w2 : ByteArray) (w3 : ByteArray) (w4 : ByteArray) (w5 : ByteArray) (w6 : ByteArray) (dk : ByteArray) (dO : ByteArray) (hk : ByteArray.size dk ≤ 20) (ho : ByteArray.size dO ≤ 20) (z1 : ByteArray.size w1 ≤ 32) (z2 : ByteArray.size w2 ≤ 32) (z3 : ByteArray.size w3 ≤ 32) (z4 : ByteArray.size w4 ≤ 32) (z5 : ByteArray.size w5 ≤ 32) (z6 : ByteArray.size w6 ≤ 32) (hdk : ∀ (m : Nat) (H : Heap), evB (lf + 100) (m + 1) 21 [vi kind] H = some (vs dk, H, [])) (hdo : ∀ (m : Nat) (H : Heap), evB (lf + 100) (m + 1) 21 [vi off] H = some (vs dO, H, [])) :
    evB (lf + 100) 19 18 [sp 25 6 6, vi kind, vi off] (kpH6 kind off r0 W w1 w2 w3 w4 w5 w6) = some (vs (e0 ++ w6 ++ csS ++ w5 ++ csS ++ w4 ++ csS ++ w3 ++ csS ++ w2 ++ csS ++ w1 ++ csS ++ ksS ++ dk ++ atS ++ dO), (kpH6 kind off r0 W w1 w2 w3 w4 w5 w6), []) :=
  Dg.evCall_hint (hs' := []) (hs := [qs 18 20 (vs (e0 ++ w6)),
    qs 18 21 (vs (e0 ++ w6 ++ csS)),
    qs 18 20 (vs (e0 ++ w6 ++ csS ++ w5)),
    qs 18 21 (vs (e0 ++ w6 ++ csS ++ w5 ++ csS)),
    qs 18 20 (vs (e0 ++ w6 ++ csS ++ w5 ++ csS ++ w4)),
    qs 18 21 (vs (e0 ++ w6 ++ csS ++ w5 ++ csS ++ w4 ++ csS)),
    qs 18 20 (vs (e0 ++ w6 ++ csS ++ w5 ++ csS ++ w4 ++ csS ++ w3)),
    qs 18 21 (vs (e0 ++ w6 ++ csS ++ w5 ++ csS ++ w4 ++ csS ++ w3 ++ csS)),
    qs 18 20 (vs (e0 ++ w6 ++ csS ++ w5 ++ csS ++ w4 ++ csS ++ w3 ++ csS ++ w2)),
    qs 18 21 (vs (e0 ++ w6 ++ csS ++ w5 ++ csS ++ w4 ++ csS ++ w3 ++ csS ++ w2 ++ csS)),
    qs 18 20 (vs (e0 ++ w6 ++ csS ++ w5 ++ csS ++ w4 ++ csS ++ w3 ++ csS ++ w2 ++ csS ++ w1)),
    qs 18 21 (vs (e0 ++ w6 ++ csS ++ w5 ++ csS ++ w4 ++ csS ++ w3 ++ csS ++ w2 ++ csS ++ w1 ++ csS)),
    qs 18 23 (vs (e0 ++ w6 ++ csS ++ w5 ++ csS ++ w4 ++ csS ++ w3 ++ csS ++ w2 ++ csS ++ w1 ++ csS ++ ksS)),
    qc 21 (vs dk) (kpH6 kind off r0 W w1 w2 w3 w4 w5 w6) [],
    qs 18 26 (vs (e0 ++ w6 ++ csS ++ w5 ++ csS ++ w4 ++ csS ++ w3 ++ csS ++ w2 ++ csS ++ w1 ++ csS ++ ksS ++ dk)),
    qs 18 27 (vs (e0 ++ w6 ++ csS ++ w5 ++ csS ++ w4 ++ csS ++ w3 ++ csS ++ w2 ++ csS ++ w1 ++ csS ++ ksS ++ dk ++ atS)),
    qc 21 (vs dO) (kpH6 kind off r0 W w1 w2 w3 w4 w5 w6) [],
    qs 18 30 (vs (e0 ++ w6 ++ csS ++ w5 ++ csS ++ w4 ++ csS ++ w3 ++ csS ++ w2 ++ csS ++ w1 ++ csS ++ ksS ++ dk ++ atS ++ dO))])
    [ByteArray.size e0 + ByteArray.size w6 ≤ (9223372036854775807 : Nat),
    vs (e0 ++ w6) = vs (e0 ++ w6),
    ByteArray.size (e0 ++ w6) + ByteArray.size csS ≤ (9223372036854775807 : Nat),
    vs (e0 ++ w6 ++ csS) = vs (e0 ++ w6 ++ csS),
    ByteArray.size (e0 ++ w6 ++ csS) + ByteArray.size w5 ≤ (9223372036854775807 : Nat),
    vs (e0 ++ w6 ++ csS ++ w5) = vs (e0 ++ w6 ++ csS ++ w5),
    ByteArray.size (e0 ++ w6 ++ csS ++ w5) + ByteArray.size csS ≤ (9223372036854775807 : Nat),
    vs (e0 ++ w6 ++ csS ++ w5 ++ csS) = vs (e0 ++ w6 ++ csS ++ w5 ++ csS),
    ByteArray.size (e0 ++ w6 ++ csS ++ w5 ++ csS) + ByteArray.size w4 ≤ (9223372036854775807 : Nat),
    vs (e0 ++ w6 ++ csS ++ w5 ++ csS ++ w4) = vs (e0 ++ w6 ++ csS ++ w5 ++ csS ++ w4),
    ByteArray.size (e0 ++ w6 ++ csS ++ w5 ++ csS ++ w4) + ByteArray.size csS ≤ (9223372036854775807 : Nat),
    vs (e0 ++ w6 ++ csS ++ w5 ++ csS ++ w4 ++ csS) = vs (e0 ++ w6 ++ csS ++ w5 ++ csS ++ w4 ++ csS),
    ByteArray.size (e0 ++ w6 ++ csS ++ w5 ++ csS ++ w4 ++ csS) + ByteArray.size w3 ≤ (9223372036854775807 : Nat),
    vs (e0 ++ w6 ++ csS ++ w5 ++ csS ++ w4 ++ csS ++ w3) = vs (e0 ++ w6 ++ csS ++ w5 ++ csS ++ w4 ++ csS ++ w3),
    ByteArray.size (e0 ++ w6 ++ csS ++ w5 ++ csS ++ w4 ++ csS ++ w3) + ByteArray.size csS ≤ (9223372036854775807 : Nat),
    vs (e0 ++ w6 ++ csS ++ w5 ++ csS ++ w4 ++ csS ++ w3 ++ csS) = vs (e0 ++ w6 ++ csS ++ w5 ++ csS ++ w4 ++ csS ++ w3 ++ csS),
    ByteArray.size (e0 ++ w6 ++ csS ++ w5 ++ csS ++ w4 ++ csS ++ w3 ++ csS) + ByteArray.size w2 ≤ (9223372036854775807 : Nat),
    vs (e0 ++ w6 ++ csS ++ w5 ++ csS ++ w4 ++ csS ++ w3 ++ csS ++ w2) = vs (e0 ++ w6 ++ csS ++ w5 ++ csS ++ w4 ++ csS ++ w3 ++ csS ++ w2),
    ByteArray.size (e0 ++ w6 ++ csS ++ w5 ++ csS ++ w4 ++ csS ++ w3 ++ csS ++ w2) + ByteArray.size csS ≤ (9223372036854775807 : Nat),
    vs (e0 ++ w6 ++ csS ++ w5 ++ csS ++ w4 ++ csS ++ w3 ++ csS ++ w2 ++ csS) = vs (e0 ++ w6 ++ csS ++ w5 ++ csS ++ w4 ++ csS ++ w3 ++ csS ++ w2 ++ csS),
    ByteArray.size (e0 ++ w6 ++ csS ++ w5 ++ csS ++ w4 ++ csS ++ w3 ++ csS ++ w2 ++ csS) + ByteArray.size w1 ≤ (9223372036854775807 : Nat),
    vs (e0 ++ w6 ++ csS ++ w5 ++ csS ++ w4 ++ csS ++ w3 ++ csS ++ w2 ++ csS ++ w1) = vs (e0 ++ w6 ++ csS ++ w5 ++ csS ++ w4 ++ csS ++ w3 ++ csS ++ w2 ++ csS ++ w1),
    ByteArray.size (e0 ++ w6 ++ csS ++ w5 ++ csS ++ w4 ++ csS ++ w3 ++ csS ++ w2 ++ csS ++ w1) + ByteArray.size csS ≤ (9223372036854775807 : Nat),
    vs (e0 ++ w6 ++ csS ++ w5 ++ csS ++ w4 ++ csS ++ w3 ++ csS ++ w2 ++ csS ++ w1 ++ csS) = vs (e0 ++ w6 ++ csS ++ w5 ++ csS ++ w4 ++ csS ++ w3 ++ csS ++ w2 ++ csS ++ w1 ++ csS),
    ByteArray.size (e0 ++ w6 ++ csS ++ w5 ++ csS ++ w4 ++ csS ++ w3 ++ csS ++ w2 ++ csS ++ w1 ++ csS) + ByteArray.size ksS ≤ (9223372036854775807 : Nat),
    vs (e0 ++ w6 ++ csS ++ w5 ++ csS ++ w4 ++ csS ++ w3 ++ csS ++ w2 ++ csS ++ w1 ++ csS ++ ksS) = vs (e0 ++ w6 ++ csS ++ w5 ++ csS ++ w4 ++ csS ++ w3 ++ csS ++ w2 ++ csS ++ w1 ++ csS ++ ksS),
    evB (lf + 100) 18 21 [vi kind] (kpH6 kind off r0 W w1 w2 w3 w4 w5 w6) = some (vs dk, (kpH6 kind off r0 W w1 w2 w3 w4 w5 w6), []),
    ByteArray.size (e0 ++ w6 ++ csS ++ w5 ++ csS ++ w4 ++ csS ++ w3 ++ csS ++ w2 ++ csS ++ w1 ++ csS ++ ksS) + ByteArray.size dk ≤ (9223372036854775807 : Nat),
    vs (e0 ++ w6 ++ csS ++ w5 ++ csS ++ w4 ++ csS ++ w3 ++ csS ++ w2 ++ csS ++ w1 ++ csS ++ ksS ++ dk) = vs (e0 ++ w6 ++ csS ++ w5 ++ csS ++ w4 ++ csS ++ w3 ++ csS ++ w2 ++ csS ++ w1 ++ csS ++ ksS ++ dk),
    ByteArray.size (e0 ++ w6 ++ csS ++ w5 ++ csS ++ w4 ++ csS ++ w3 ++ csS ++ w2 ++ csS ++ w1 ++ csS ++ ksS ++ dk) + ByteArray.size atS ≤ (9223372036854775807 : Nat),
    vs (e0 ++ w6 ++ csS ++ w5 ++ csS ++ w4 ++ csS ++ w3 ++ csS ++ w2 ++ csS ++ w1 ++ csS ++ ksS ++ dk ++ atS) = vs (e0 ++ w6 ++ csS ++ w5 ++ csS ++ w4 ++ csS ++ w3 ++ csS ++ w2 ++ csS ++ w1 ++ csS ++ ksS ++ dk ++ atS),
    evB (lf + 100) 18 21 [vi off] (kpH6 kind off r0 W w1 w2 w3 w4 w5 w6) = some (vs dO, (kpH6 kind off r0 W w1 w2 w3 w4 w5 w6), []),
    ByteArray.size (e0 ++ w6 ++ csS ++ w5 ++ csS ++ w4 ++ csS ++ w3 ++ csS ++ w2 ++ csS ++ w1 ++ csS ++ ksS ++ dk ++ atS) + ByteArray.size dO ≤ (9223372036854775807 : Nat),
    vs (e0 ++ w6 ++ csS ++ w5 ++ csS ++ w4 ++ csS ++ w3 ++ csS ++ w2 ++ csS ++ w1 ++ csS ++ ksS ++ dk ++ atS ++ dO) = vs (e0 ++ w6 ++ csS ++ w5 ++ csS ++ w4 ++ csS ++ w3 ++ csS ++ w2 ++ csS ++ w1 ++ csS ++ ksS ++ dk ++ atS ++ dO)] (by kernel_rfl)
    ⟨by (try simp only [y1, y2, y3, y4, y5, y6, y7]); omega, rfl, by (try simp only [y1, y2, y3, y4, y5, y6, y7]); omega, rfl, by (try simp only [y1, y2, y3, y4, y5, y6, y7]); omega, rfl, by (try simp only [y1, y2, y3, y4, y5, y6, y7]); omega, rfl, by (try simp only [y1, y2, y3, y4, y5, y6, y7]); omega, rfl, by (try simp only [y1, y2, y3, y4, y5, y6, y7]); omega, rfl, by (try simp only [y1, y2, y3, y4, y5, y6, y7]); omega, rfl, by (try simp only [y1, y2, y3, y4, y5, y6, y7]); omega, rfl, by (try simp only [y1, y2, y3, y4, y5, y6, y7]); omega, rfl, by (try simp only [y1, y2, y3, y4, y5, y6, y7]); omega, rfl, by (try simp only [y1, y2, y3, y4, y5, y6, y7]); omega, rfl, by (try simp only [y1, y2, y3, y4, y5, y6, y7]); omega, rfl, by (try simp only [y1, y2, y3, y4, y5, y6, y7]); omega, rfl, hdk _ _, by (try simp only [y1, y2, y3, y4, y5, y6, y7]); omega, rfl, by (try simp only [y1, y2, y3, y4, y5, y6, y7]); omega, rfl, hdo _ _, by (try simp only [y1, y2, y3, y4, y5, y6, y7]); omega, rfl, trivial⟩
--> rl6
theorem rl_is6 (w1 w2 w3 w4 w5 w6 : ByteArray) (dk dO : ByteArray) : (((((((((((((((((⟨#[]⟩ : ByteArray) ++ w6) ++ csS) ++ w5) ++ csS) ++ w4) ++ csS) ++ w3) ++ csS) ++ w2) ++ csS) ++ w1) ++ csS) ++ ksS) ++ dk) ++ atS) ++ dO) = tN w6 (tN w5 (tN w4 (tN w3 (tN w2 (tN w1 (tF dk dO)))))) := by
  unfold tF; simp only [tN, ByteArray.append_assoc, emp]
--< eq6
theorem eq6 (lf : Nat) (kind : Int) (off : Int) (r0 : List AObj) (W : AObj) (w1 : ByteArray) (w2 : ByteArray) (w3 : ByteArray) (w4 : ByteArray) (w5 : ByteArray) (w6 : ByteArray) :
    evB (lf + 100) 19 19 [sp 26 6 6, sp 25 6 6] (kpN6 kind off r0 W w1 w2 w3 w4 w5 w6) = some (vb true, (kpN6 kind off r0 W w1 w2 w3 w4 w5 w6), []) :=
  Dg.evCall_hint (hs' := []) (hs := [qv 19 24 (vb false),
    qv 19 24 (vb false),
    qv 19 24 (vb false),
    qv 19 24 (vb false),
    qv 19 24 (vb false),
    qv 19 24 (vb false)])
    [(vb !ByteArray.toList w6 == ByteArray.toList w6) = vb false,
    (vb !ByteArray.toList w5 == ByteArray.toList w5) = vb false,
    (vb !ByteArray.toList w4 == ByteArray.toList w4) = vb false,
    (vb !ByteArray.toList w3 == ByteArray.toList w3) = vb false,
    (vb !ByteArray.toList w2 == ByteArray.toList w2) = vb false,
    (vb !ByteArray.toList w1 == ByteArray.toList w1) = vb false] (by kernel_rfl)
    ⟨neS _, neS _, neS _, neS _, neS _, neS _, trivial⟩
--> eq6
--< err7
theorem err7 (lf : Nat) (kind : Int) (off : Int) (r0 : List AObj) (W : AObj) (w1 : ByteArray) (w2 : ByteArray) (w3 : ByteArray) (w4 : ByteArray) (w5 : ByteArray) (w6 : ByteArray) (w7 : ByteArray) (dk : ByteArray) (dO : ByteArray) (hk : ByteArray.size dk ≤ 20) (ho : ByteArray.size dO ≤ 20) (z1 : ByteArray.size w1 ≤ 32) (z2 : ByteArray.size w2 ≤ 32) (z3 : ByteArray.size w3 ≤ 32) (z4 : ByteArray.size w4 ≤ 32) (z5 : ByteArray.size w5 ≤ 32) (z6 : ByteArray.size w6 ≤ 32) (z7 : ByteArray.size w7 ≤ 32) (hdk : ∀ (m : Nat), evB (lf + 100) (m + 1) 34 [vi kind] (kpH7 kind off r0 W w1 w2 w3 w4 w5 w6 w7) = some (vs dk, (kpH7 kind off r0 W w1 w2 w3 w4 w5 w6 w7), [])) (hdo : ∀ (m : Nat), evB (lf + 100) (m + 1) 34 [vi off] (kpH7 kind off r0 W w1 w2 w3 w4 w5 w6 w7) = some (vs dO, (kpH7 kind off r0 W w1 w2 w3 w4 w5 w6 w7), [])) :
    evB (lf + 100) 19 126 [pt 18] (kpH7 kind off r0 W w1 w2 w3 w4 w5 w6 w7) = some (vs (tN w7 (tN w6 (tN w5 (tN w4 (tN w3 (tN w2 (tN w1 (tF dk dO)))))))), (kpH7 kind off r0 W w1 w2 w3 w4 w5 w6 w7), []) :=
  Dg.evCall_hint (hs' := []) (hs := [qs 126 7 (vs (w7 ++ csS)),
    qs 126 7 (vs (w6 ++ csS)),
    qs 126 7 (vs (w5 ++ csS)),
    qs 126 7 (vs (w4 ++ csS)),
    qs 126 7 (vs (w3 ++ csS)),
    qs 126 7 (vs (w2 ++ csS)),
    qs 126 7 (vs (w1 ++ csS)),
    qc 34 (vs dk) (kpH7 kind off r0 W w1 w2 w3 w4 w5 w6 w7) [],
    qs 20 5 (vs (ksS ++ dk)),
    qs 128 8 (vs (ksS ++ dk ++ atS)),
    qc 34 (vs dO) (kpH7 kind off r0 W w1 w2 w3 w4 w5 w6 w7) [],
    qs 128 14 (vs (tF dk dO)),
    qs 126 13 (vs (tN w1 (tF dk dO))),
    qs 126 13 (vs (tN w2 (tN w1 (tF dk dO)))),
    qs 126 13 (vs (tN w3 (tN w2 (tN w1 (tF dk dO))))),
    qs 126 13 (vs (tN w4 (tN w3 (tN w2 (tN w1 (tF dk dO)))))),
    qs 126 13 (vs (tN w5 (tN w4 (tN w3 (tN w2 (tN w1 (tF dk dO))))))),
    qs 126 13 (vs (tN w6 (tN w5 (tN w4 (tN w3 (tN w2 (tN w1 (tF dk dO)))))))),
    qs 126 13 (vs (tN w7 (tN w6 (tN w5 (tN w4 (tN w3 (tN w2 (tN w1 (tF dk dO)))))))))])
    [ByteArray.size w7 + ByteArray.size csS ≤ (9223372036854775807 : Nat),
    vs (w7 ++ csS) = vs (w7 ++ csS),
    ByteArray.size w6 + ByteArray.size csS ≤ (9223372036854775807 : Nat),
    vs (w6 ++ csS) = vs (w6 ++ csS),
    ByteArray.size w5 + ByteArray.size csS ≤ (9223372036854775807 : Nat),
    vs (w5 ++ csS) = vs (w5 ++ csS),
    ByteArray.size w4 + ByteArray.size csS ≤ (9223372036854775807 : Nat),
    vs (w4 ++ csS) = vs (w4 ++ csS),
    ByteArray.size w3 + ByteArray.size csS ≤ (9223372036854775807 : Nat),
    vs (w3 ++ csS) = vs (w3 ++ csS),
    ByteArray.size w2 + ByteArray.size csS ≤ (9223372036854775807 : Nat),
    vs (w2 ++ csS) = vs (w2 ++ csS),
    ByteArray.size w1 + ByteArray.size csS ≤ (9223372036854775807 : Nat),
    vs (w1 ++ csS) = vs (w1 ++ csS),
    evB (lf + 100) 10 34 [vi kind] (kpH7 kind off r0 W w1 w2 w3 w4 w5 w6 w7) = some (vs dk, (kpH7 kind off r0 W w1 w2 w3 w4 w5 w6 w7), []),
    ByteArray.size ksS + ByteArray.size dk ≤ (9223372036854775807 : Nat),
    vs (ksS ++ dk) = vs (ksS ++ dk),
    ByteArray.size (ksS ++ dk) + ByteArray.size atS ≤ (9223372036854775807 : Nat),
    vs (ksS ++ dk ++ atS) = vs (ksS ++ dk ++ atS),
    evB (lf + 100) 11 34 [vi off] (kpH7 kind off r0 W w1 w2 w3 w4 w5 w6 w7) = some (vs dO, (kpH7 kind off r0 W w1 w2 w3 w4 w5 w6 w7), []),
    ByteArray.size (ksS ++ dk ++ atS) + ByteArray.size dO ≤ (9223372036854775807 : Nat),
    vs (ksS ++ dk ++ atS ++ dO) = vs (tF dk dO),
    ByteArray.size (w1 ++ csS) + ByteArray.size (tF dk dO) ≤ (9223372036854775807 : Nat),
    vs (w1 ++ csS ++ tF dk dO) = vs (tN w1 (tF dk dO)),
    ByteArray.size (w2 ++ csS) + ByteArray.size (tN w1 (tF dk dO)) ≤ (9223372036854775807 : Nat),
    vs (w2 ++ csS ++ tN w1 (tF dk dO)) = vs (tN w2 (tN w1 (tF dk dO))),
    ByteArray.size (w3 ++ csS) + ByteArray.size (tN w2 (tN w1 (tF dk dO))) ≤ (9223372036854775807 : Nat),
    vs (w3 ++ csS ++ tN w2 (tN w1 (tF dk dO))) = vs (tN w3 (tN w2 (tN w1 (tF dk dO)))),
    ByteArray.size (w4 ++ csS) + ByteArray.size (tN w3 (tN w2 (tN w1 (tF dk dO)))) ≤ (9223372036854775807 : Nat),
    vs (w4 ++ csS ++ tN w3 (tN w2 (tN w1 (tF dk dO)))) = vs (tN w4 (tN w3 (tN w2 (tN w1 (tF dk dO))))),
    ByteArray.size (w5 ++ csS) + ByteArray.size (tN w4 (tN w3 (tN w2 (tN w1 (tF dk dO))))) ≤ (9223372036854775807 : Nat),
    vs (w5 ++ csS ++ tN w4 (tN w3 (tN w2 (tN w1 (tF dk dO))))) = vs (tN w5 (tN w4 (tN w3 (tN w2 (tN w1 (tF dk dO)))))),
    ByteArray.size (w6 ++ csS) + ByteArray.size (tN w5 (tN w4 (tN w3 (tN w2 (tN w1 (tF dk dO)))))) ≤ (9223372036854775807 : Nat),
    vs (w6 ++ csS ++ tN w5 (tN w4 (tN w3 (tN w2 (tN w1 (tF dk dO)))))) = vs (tN w6 (tN w5 (tN w4 (tN w3 (tN w2 (tN w1 (tF dk dO))))))),
    ByteArray.size (w7 ++ csS) + ByteArray.size (tN w6 (tN w5 (tN w4 (tN w3 (tN w2 (tN w1 (tF dk dO))))))) ≤ (9223372036854775807 : Nat),
    vs (w7 ++ csS ++ tN w6 (tN w5 (tN w4 (tN w3 (tN w2 (tN w1 (tF dk dO))))))) = vs (tN w7 (tN w6 (tN w5 (tN w4 (tN w3 (tN w2 (tN w1 (tF dk dO))))))))] (by kernel_rfl)
    ⟨by (try simp only [y1, y2, y3, y4, y5, y6, y7]); omega, rfl, by (try simp only [y1, y2, y3, y4, y5, y6, y7]); omega, rfl, by (try simp only [y1, y2, y3, y4, y5, y6, y7]); omega, rfl, by (try simp only [y1, y2, y3, y4, y5, y6, y7]); omega, rfl, by (try simp only [y1, y2, y3, y4, y5, y6, y7]); omega, rfl, by (try simp only [y1, y2, y3, y4, y5, y6, y7]); omega, rfl, by (try simp only [y1, y2, y3, y4, y5, y6, y7]); omega, rfl, hdk _, by (try simp only [y1, y2, y3, y4, y5, y6, y7]); omega, rfl, by (try simp only [y1, y2, y3, y4, y5, y6, y7]); omega, rfl, hdo _, by (try simp only [y1, y2, y3, y4, y5, y6, y7]); omega, rfl, by (try simp only [y1, y2, y3, y4, y5, y6, y7]); omega, rfl, by (try simp only [y1, y2, y3, y4, y5, y6, y7]); omega, rfl, by (try simp only [y1, y2, y3, y4, y5, y6, y7]); omega, rfl, by (try simp only [y1, y2, y3, y4, y5, y6, y7]); omega, rfl, by (try simp only [y1, y2, y3, y4, y5, y6, y7]); omega, rfl, by (try simp only [y1, y2, y3, y4, y5, y6, y7]); omega, rfl, by (try simp only [y1, y2, y3, y4, y5, y6, y7]); omega, rfl, trivial⟩
--> err7
--< ln7
theorem ln7 (lf : Nat) (kind : Int) (off : Int) (r0 : List AObj) (W : AObj) (w1 : ByteArray) (w2 : ByteArray) (w3 : ByteArray) (w4 : ByteArray) (w5 : ByteArray) (w6 : ByteArray) (w7 : ByteArray) (dk : ByteArray) (dO : ByteArray) (hk : ByteArray.size dk ≤ 20) (ho : ByteArray.size dO ≤ 20) (z1 : ByteArray.size w1 ≤ 32) (z2 : ByteArray.size w2 ≤ 32) (z3 : ByteArray.size w3 ≤ 32) (z4 : ByteArray.size w4 ≤ 32) (z5 : ByteArray.size w5 ≤ 32) (z6 : ByteArray.size w6 ≤ 32) (z7 : ByteArray.size w7 ≤ 32) (hdk : ∀ (m : Nat), evB (lf + 100) (m + 1) 34 [vi kind] (kpH7 kind off r0 W w1 w2 w3 w4 w5 w6 w7) = some (vs dk, (kpH7 kind off r0 W w1 w2 w3 w4 w5 w6 w7), [])) (hdo : ∀ (m : Nat), evB (lf + 100) (m + 1) 34 [vi off] (kpH7 kind off r0 W w1 w2 w3 w4 w5 w6 w7) = some (vs dO, (kpH7 kind off r0 W w1 w2 w3 w4 w5 w6 w7), [])) :
    evB (lf + 100) 19 13 [vf 67 (pt 18)] (kpH7 kind off r0 W w1 w2 w3 w4 w5 w6 w7) = some (Value.tuple #[vs (tN w7 (tN w6 (tN w5 (tN w4 (tN w3 (tN w2 (tN w1 (tF dk dO)))))))), vb true], (kpH7 kind off r0 W w1 w2 w3 w4 w5 w6 w7), []) :=
  Dg.evCall_hint (hs' := []) (hs := [qs 126 7 (vs (w7 ++ csS)),
    qs 126 7 (vs (w6 ++ csS)),
    qs 126 7 (vs (w5 ++ csS)),
    qs 126 7 (vs (w4 ++ csS)),
    qs 126 7 (vs (w3 ++ csS)),
    qs 126 7 (vs (w2 ++ csS)),
    qs 126 7 (vs (w1 ++ csS)),
    qc 34 (vs dk) (kpH7 kind off r0 W w1 w2 w3 w4 w5 w6 w7) [],
    qs 20 5 (vs (ksS ++ dk)),
    qs 128 8 (vs (ksS ++ dk ++ atS)),
    qc 34 (vs dO) (kpH7 kind off r0 W w1 w2 w3 w4 w5 w6 w7) [],
    qs 128 14 (vs (tF dk dO)),
    qs 126 13 (vs (tN w1 (tF dk dO))),
    qs 126 13 (vs (tN w2 (tN w1 (tF dk dO)))),
    qs 126 13 (vs (tN w3 (tN w2 (tN w1 (tF dk dO))))),
    qs 126 13 (vs (tN w4 (tN w3 (tN w2 (tN w1 (tF dk dO)))))),
    qs 126 13 (vs (tN w5 (tN w4 (tN w3 (tN w2 (tN w1 (tF dk dO))))))),
    qs 126 13 (vs (tN w6 (tN w5 (tN w4 (tN w3 (tN w2 (tN w1 (tF dk dO)))))))),
    qs 126 13 (vs (tN w7 (tN w6 (tN w5 (tN w4 (tN w3 (tN w2 (tN w1 (tF dk dO)))))))))])
    [ByteArray.size w7 + ByteArray.size csS ≤ (9223372036854775807 : Nat),
    vs (w7 ++ csS) = vs (w7 ++ csS),
    ByteArray.size w6 + ByteArray.size csS ≤ (9223372036854775807 : Nat),
    vs (w6 ++ csS) = vs (w6 ++ csS),
    ByteArray.size w5 + ByteArray.size csS ≤ (9223372036854775807 : Nat),
    vs (w5 ++ csS) = vs (w5 ++ csS),
    ByteArray.size w4 + ByteArray.size csS ≤ (9223372036854775807 : Nat),
    vs (w4 ++ csS) = vs (w4 ++ csS),
    ByteArray.size w3 + ByteArray.size csS ≤ (9223372036854775807 : Nat),
    vs (w3 ++ csS) = vs (w3 ++ csS),
    ByteArray.size w2 + ByteArray.size csS ≤ (9223372036854775807 : Nat),
    vs (w2 ++ csS) = vs (w2 ++ csS),
    ByteArray.size w1 + ByteArray.size csS ≤ (9223372036854775807 : Nat),
    vs (w1 ++ csS) = vs (w1 ++ csS),
    evB (lf + 100) 8 34 [vi kind] (kpH7 kind off r0 W w1 w2 w3 w4 w5 w6 w7) = some (vs dk, (kpH7 kind off r0 W w1 w2 w3 w4 w5 w6 w7), []),
    ByteArray.size ksS + ByteArray.size dk ≤ (9223372036854775807 : Nat),
    vs (ksS ++ dk) = vs (ksS ++ dk),
    ByteArray.size (ksS ++ dk) + ByteArray.size atS ≤ (9223372036854775807 : Nat),
    vs (ksS ++ dk ++ atS) = vs (ksS ++ dk ++ atS),
    evB (lf + 100) 9 34 [vi off] (kpH7 kind off r0 W w1 w2 w3 w4 w5 w6 w7) = some (vs dO, (kpH7 kind off r0 W w1 w2 w3 w4 w5 w6 w7), []),
    ByteArray.size (ksS ++ dk ++ atS) + ByteArray.size dO ≤ (9223372036854775807 : Nat),
    vs (ksS ++ dk ++ atS ++ dO) = vs (tF dk dO),
    ByteArray.size (w1 ++ csS) + ByteArray.size (tF dk dO) ≤ (9223372036854775807 : Nat),
    vs (w1 ++ csS ++ tF dk dO) = vs (tN w1 (tF dk dO)),
    ByteArray.size (w2 ++ csS) + ByteArray.size (tN w1 (tF dk dO)) ≤ (9223372036854775807 : Nat),
    vs (w2 ++ csS ++ tN w1 (tF dk dO)) = vs (tN w2 (tN w1 (tF dk dO))),
    ByteArray.size (w3 ++ csS) + ByteArray.size (tN w2 (tN w1 (tF dk dO))) ≤ (9223372036854775807 : Nat),
    vs (w3 ++ csS ++ tN w2 (tN w1 (tF dk dO))) = vs (tN w3 (tN w2 (tN w1 (tF dk dO)))),
    ByteArray.size (w4 ++ csS) + ByteArray.size (tN w3 (tN w2 (tN w1 (tF dk dO)))) ≤ (9223372036854775807 : Nat),
    vs (w4 ++ csS ++ tN w3 (tN w2 (tN w1 (tF dk dO)))) = vs (tN w4 (tN w3 (tN w2 (tN w1 (tF dk dO))))),
    ByteArray.size (w5 ++ csS) + ByteArray.size (tN w4 (tN w3 (tN w2 (tN w1 (tF dk dO))))) ≤ (9223372036854775807 : Nat),
    vs (w5 ++ csS ++ tN w4 (tN w3 (tN w2 (tN w1 (tF dk dO))))) = vs (tN w5 (tN w4 (tN w3 (tN w2 (tN w1 (tF dk dO)))))),
    ByteArray.size (w6 ++ csS) + ByteArray.size (tN w5 (tN w4 (tN w3 (tN w2 (tN w1 (tF dk dO)))))) ≤ (9223372036854775807 : Nat),
    vs (w6 ++ csS ++ tN w5 (tN w4 (tN w3 (tN w2 (tN w1 (tF dk dO)))))) = vs (tN w6 (tN w5 (tN w4 (tN w3 (tN w2 (tN w1 (tF dk dO))))))),
    ByteArray.size (w7 ++ csS) + ByteArray.size (tN w6 (tN w5 (tN w4 (tN w3 (tN w2 (tN w1 (tF dk dO))))))) ≤ (9223372036854775807 : Nat),
    vs (w7 ++ csS ++ tN w6 (tN w5 (tN w4 (tN w3 (tN w2 (tN w1 (tF dk dO))))))) = vs (tN w7 (tN w6 (tN w5 (tN w4 (tN w3 (tN w2 (tN w1 (tF dk dO))))))))] (by kernel_rfl)
    ⟨by (try simp only [y1, y2, y3, y4, y5, y6, y7]); omega, rfl, by (try simp only [y1, y2, y3, y4, y5, y6, y7]); omega, rfl, by (try simp only [y1, y2, y3, y4, y5, y6, y7]); omega, rfl, by (try simp only [y1, y2, y3, y4, y5, y6, y7]); omega, rfl, by (try simp only [y1, y2, y3, y4, y5, y6, y7]); omega, rfl, by (try simp only [y1, y2, y3, y4, y5, y6, y7]); omega, rfl, by (try simp only [y1, y2, y3, y4, y5, y6, y7]); omega, rfl, hdk _, by (try simp only [y1, y2, y3, y4, y5, y6, y7]); omega, rfl, by (try simp only [y1, y2, y3, y4, y5, y6, y7]); omega, rfl, hdo _, by (try simp only [y1, y2, y3, y4, y5, y6, y7]); omega, rfl, by (try simp only [y1, y2, y3, y4, y5, y6, y7]); omega, rfl, by (try simp only [y1, y2, y3, y4, y5, y6, y7]); omega, rfl, by (try simp only [y1, y2, y3, y4, y5, y6, y7]); omega, rfl, by (try simp only [y1, y2, y3, y4, y5, y6, y7]); omega, rfl, by (try simp only [y1, y2, y3, y4, y5, y6, y7]); omega, rfl, by (try simp only [y1, y2, y3, y4, y5, y6, y7]); omega, rfl, by (try simp only [y1, y2, y3, y4, y5, y6, y7]); omega, rfl, trivial⟩
--> ln7
--< isT7
theorem isT7 (lf : Nat) (kind : Int) (off : Int) (r0 : List AObj) (W : AObj) (w1 : ByteArray) (w2 : ByteArray) (w3 : ByteArray) (w4 : ByteArray) (w5 : ByteArray) (w6 : ByteArray) (w7 : ByteArray) :
    evB (lf + 100) 19 15 [vf 67 (pt 18), vi kind] (kpN7 kind off r0 W w1 w2 w3 w4 w5 w6 w7) = some (vb true, (kpN7 kind off r0 W w1 w2 w3 w4 w5 w6 w7), []) :=
  Dg.evCall_hint (hs' := []) (hs := [qv 32 18 (vb false),
    qv 32 18 (vb false),
    qv 32 18 (vb false),
    qv 32 18 (vb false),
    qv 32 18 (vb false),
    qv 32 18 (vb false),
    qv 32 18 (vb false),
    qv 32 18 (vb false),
    qv 32 18 (vb true)])
    [vb false = vb false,
    vb false = vb false,
    vb false = vb false,
    vb false = vb false,
    vb false = vb false,
    vb false = vb false,
    vb false = vb false,
    vb false = vb false,
    vb (if true = true then kind == kind else !kind == kind) = vb true] (by kernel_rfl)
    ⟨rfl, rfl, rfl, rfl, rfl, rfl, rfl, rfl, Dg.vtrue (by omega), trivial⟩
--> isT7
--< isF7
theorem isF7 (lf : Nat) (kind : Int) (off : Int) (other : Int) (hne : other ≠ kind) (r0 : List AObj) (W : AObj) (w1 : ByteArray) (w2 : ByteArray) (w3 : ByteArray) (w4 : ByteArray) (w5 : ByteArray) (w6 : ByteArray) (w7 : ByteArray) :
    evB (lf + 100) 19 15 [vf 67 (pt 18), vi other] (kpN7 kind off r0 W w1 w2 w3 w4 w5 w6 w7) = some (vb false, (kpN7 kind off r0 W w1 w2 w3 w4 w5 w6 w7), []) :=
  Dg.evCall_hint (hs' := []) (hs := [qv 32 18 (vb false),
    qv 32 18 (vb false),
    qv 32 18 (vb false),
    qv 32 18 (vb false),
    qv 32 18 (vb false),
    qv 32 18 (vb false),
    qv 32 18 (vb false),
    qv 32 18 (vb false),
    qv 32 18 (vb false)])
    [vb false = vb false,
    vb false = vb false,
    vb false = vb false,
    vb false = vb false,
    vb false = vb false,
    vb false = vb false,
    vb false = vb false,
    vb false = vb false,
    vb (if true = true then kind == other else !kind == other) = vb false] (by kernel_rfl)
    ⟨rfl, rfl, rfl, rfl, rfl, rfl, rfl, rfl, Dg.vfalse (by omega), trivial⟩
--> isF7
--< rl7
theorem rl7 (lf : Nat) (kind : Int) (off : Int) (r0 : List AObj) (W : AObj) (w1 : ByteArray) (w2 : ByteArray) (w3 : ByteArray) (w4 : ByteArray) (w5 : ByteArray) (w6 : ByteArray) (w7 : ByteArray) (dk : ByteArray) (dO : ByteArray) (hk : ByteArray.size dk ≤ 20) (ho : ByteArray.size dO ≤ 20) (z1 : ByteArray.size w1 ≤ 32) (z2 : ByteArray.size w2 ≤ 32) (z3 : ByteArray.size w3 ≤ 32) (z4 : ByteArray.size w4 ≤ 32) (z5 : ByteArray.size w5 ≤ 32) (z6 : ByteArray.size w6 ≤ 32) (z7 : ByteArray.size w7 ≤ 32) (hdk : ∀ (m : Nat) (H : Heap), evB (lf + 100) (m + 1) 21 [vi kind] H = some (vs dk, H, [])) (hdo : ∀ (m : Nat) (H : Heap), evB (lf + 100) (m + 1) 21 [vi off] H = some (vs dO, H, [])) :
    evB (lf + 100) 19 18 [sp 26 7 7, vi kind, vi off] (kpH7 kind off r0 W w1 w2 w3 w4 w5 w6 w7) = some (vs (e0 ++ w7 ++ csS ++ w6 ++ csS ++ w5 ++ csS ++ w4 ++ csS ++ w3 ++ csS ++ w2 ++ csS ++ w1 ++ csS ++ ksS ++ dk ++ atS ++ dO), (kpH7 kind off r0 W w1 w2 w3 w4 w5 w6 w7), []) :=
  Dg.evCall_hint (hs' := []) (hs := [qs 18 20 (vs (e0 ++ w7)),
    qs 18 21 (vs (e0 ++ w7 ++ csS)),
    qs 18 20 (vs (e0 ++ w7 ++ csS ++ w6)),
    qs 18 21 (vs (e0 ++ w7 ++ csS ++ w6 ++ csS)),
    qs 18 20 (vs (e0 ++ w7 ++ csS ++ w6 ++ csS ++ w5)),
    qs 18 21 (vs (e0 ++ w7 ++ csS ++ w6 ++ csS ++ w5 ++ csS)),
    qs 18 20 (vs (e0 ++ w7 ++ csS ++ w6 ++ csS ++ w5 ++ csS ++ w4)),
    qs 18 21 (vs (e0 ++ w7 ++ csS ++ w6 ++ csS ++ w5 ++ csS ++ w4 ++ csS)),
    qs 18 20 (vs (e0 ++ w7 ++ csS ++ w6 ++ csS ++ w5 ++ csS ++ w4 ++ csS ++ w3)),
    qs 18 21 (vs (e0 ++ w7 ++ csS ++ w6 ++ csS ++ w5 ++ csS ++ w4 ++ csS ++ w3 ++ csS)),
    qs 18 20 (vs (e0 ++ w7 ++ csS ++ w6 ++ csS ++ w5 ++ csS ++ w4 ++ csS ++ w3 ++ csS ++ w2)),
    qs 18 21 (vs (e0 ++ w7 ++ csS ++ w6 ++ csS ++ w5 ++ csS ++ w4 ++ csS ++ w3 ++ csS ++ w2 ++ csS)),
    qs 18 20 (vs (e0 ++ w7 ++ csS ++ w6 ++ csS ++ w5 ++ csS ++ w4 ++ csS ++ w3 ++ csS ++ w2 ++ csS ++ w1)),
    qs 18 21 (vs (e0 ++ w7 ++ csS ++ w6 ++ csS ++ w5 ++ csS ++ w4 ++ csS ++ w3 ++ csS ++ w2 ++ csS ++ w1 ++ csS)),
    qs 18 23 (vs (e0 ++ w7 ++ csS ++ w6 ++ csS ++ w5 ++ csS ++ w4 ++ csS ++ w3 ++ csS ++ w2 ++ csS ++ w1 ++ csS ++ ksS)),
    qc 21 (vs dk) (kpH7 kind off r0 W w1 w2 w3 w4 w5 w6 w7) [],
    qs 18 26 (vs (e0 ++ w7 ++ csS ++ w6 ++ csS ++ w5 ++ csS ++ w4 ++ csS ++ w3 ++ csS ++ w2 ++ csS ++ w1 ++ csS ++ ksS ++ dk)),
    qs 18 27 (vs (e0 ++ w7 ++ csS ++ w6 ++ csS ++ w5 ++ csS ++ w4 ++ csS ++ w3 ++ csS ++ w2 ++ csS ++ w1 ++ csS ++ ksS ++ dk ++ atS)),
    qc 21 (vs dO) (kpH7 kind off r0 W w1 w2 w3 w4 w5 w6 w7) [],
    qs 18 30 (vs (e0 ++ w7 ++ csS ++ w6 ++ csS ++ w5 ++ csS ++ w4 ++ csS ++ w3 ++ csS ++ w2 ++ csS ++ w1 ++ csS ++ ksS ++ dk ++ atS ++ dO))])
    [ByteArray.size e0 + ByteArray.size w7 ≤ (9223372036854775807 : Nat),
    vs (e0 ++ w7) = vs (e0 ++ w7),
    ByteArray.size (e0 ++ w7) + ByteArray.size csS ≤ (9223372036854775807 : Nat),
    vs (e0 ++ w7 ++ csS) = vs (e0 ++ w7 ++ csS),
    ByteArray.size (e0 ++ w7 ++ csS) + ByteArray.size w6 ≤ (9223372036854775807 : Nat),
    vs (e0 ++ w7 ++ csS ++ w6) = vs (e0 ++ w7 ++ csS ++ w6),
    ByteArray.size (e0 ++ w7 ++ csS ++ w6) + ByteArray.size csS ≤ (9223372036854775807 : Nat),
    vs (e0 ++ w7 ++ csS ++ w6 ++ csS) = vs (e0 ++ w7 ++ csS ++ w6 ++ csS),
    ByteArray.size (e0 ++ w7 ++ csS ++ w6 ++ csS) + ByteArray.size w5 ≤ (9223372036854775807 : Nat),
    vs (e0 ++ w7 ++ csS ++ w6 ++ csS ++ w5) = vs (e0 ++ w7 ++ csS ++ w6 ++ csS ++ w5),
    ByteArray.size (e0 ++ w7 ++ csS ++ w6 ++ csS ++ w5) + ByteArray.size csS ≤ (9223372036854775807 : Nat),
    vs (e0 ++ w7 ++ csS ++ w6 ++ csS ++ w5 ++ csS) = vs (e0 ++ w7 ++ csS ++ w6 ++ csS ++ w5 ++ csS),
    ByteArray.size (e0 ++ w7 ++ csS ++ w6 ++ csS ++ w5 ++ csS) + ByteArray.size w4 ≤ (9223372036854775807 : Nat),
    vs (e0 ++ w7 ++ csS ++ w6 ++ csS ++ w5 ++ csS ++ w4) = vs (e0 ++ w7 ++ csS ++ w6 ++ csS ++ w5 ++ csS ++ w4),
    ByteArray.size (e0 ++ w7 ++ csS ++ w6 ++ csS ++ w5 ++ csS ++ w4) + ByteArray.size csS ≤ (9223372036854775807 : Nat),
    vs (e0 ++ w7 ++ csS ++ w6 ++ csS ++ w5 ++ csS ++ w4 ++ csS) = vs (e0 ++ w7 ++ csS ++ w6 ++ csS ++ w5 ++ csS ++ w4 ++ csS),
    ByteArray.size (e0 ++ w7 ++ csS ++ w6 ++ csS ++ w5 ++ csS ++ w4 ++ csS) + ByteArray.size w3 ≤ (9223372036854775807 : Nat),
    vs (e0 ++ w7 ++ csS ++ w6 ++ csS ++ w5 ++ csS ++ w4 ++ csS ++ w3) = vs (e0 ++ w7 ++ csS ++ w6 ++ csS ++ w5 ++ csS ++ w4 ++ csS ++ w3),
    ByteArray.size (e0 ++ w7 ++ csS ++ w6 ++ csS ++ w5 ++ csS ++ w4 ++ csS ++ w3) + ByteArray.size csS ≤ (9223372036854775807 : Nat),
    vs (e0 ++ w7 ++ csS ++ w6 ++ csS ++ w5 ++ csS ++ w4 ++ csS ++ w3 ++ csS) = vs (e0 ++ w7 ++ csS ++ w6 ++ csS ++ w5 ++ csS ++ w4 ++ csS ++ w3 ++ csS),
    ByteArray.size (e0 ++ w7 ++ csS ++ w6 ++ csS ++ w5 ++ csS ++ w4 ++ csS ++ w3 ++ csS) + ByteArray.size w2 ≤ (9223372036854775807 : Nat),
    vs (e0 ++ w7 ++ csS ++ w6 ++ csS ++ w5 ++ csS ++ w4 ++ csS ++ w3 ++ csS ++ w2) = vs (e0 ++ w7 ++ csS ++ w6 ++ csS ++ w5 ++ csS ++ w4 ++ csS ++ w3 ++ csS ++ w2),
    ByteArray.size (e0 ++ w7 ++ csS ++ w6 ++ csS ++ w5 ++ csS ++ w4 ++ csS ++ w3 ++ csS ++ w2) + ByteArray.size csS ≤ (9223372036854775807 : Nat),
    vs (e0 ++ w7 ++ csS ++ w6 ++ csS ++ w5 ++ csS ++ w4 ++ csS ++ w3 ++ csS ++ w2 ++ csS) = vs (e0 ++ w7 ++ csS ++ w6 ++ csS ++ w5 ++ csS ++ w4 ++ csS ++ w3 ++ csS ++ w2 ++ csS),
    ByteArray.size (e0 ++ w7 ++ csS ++ w6 ++ csS ++ w5 ++ csS ++ w4 ++ csS ++ w3 ++ csS ++ w2 ++ csS) + ByteArray.size w1 ≤ (9223372036854775807 : Nat),
    vs (e0 ++ w7 ++ csS ++ w6 ++ csS ++ w5 ++ csS ++ w4 ++ csS ++ w3 ++ csS ++ w2 ++ csS ++ w1) = vs (e0 ++ w7 ++ csS ++ w6 ++ csS ++ w5 ++ csS ++ w4 ++ csS ++ w3 ++ csS ++ w2 ++ csS ++ w1),
    ByteArray.size (e0 ++ w7 ++ csS ++ w6 ++ csS ++ w5 ++ csS ++ w4 ++ csS ++ w3 ++ csS ++ w2 ++ csS ++ w1) + ByteArray.size csS ≤ (9223372036854775807 : Nat),
    vs (e0 ++ w7 ++ csS ++ w6 ++ csS ++ w5 ++ csS ++ w4 ++ csS ++ w3 ++ csS ++ w2 ++ csS ++ w1 ++ csS) = vs (e0 ++ w7 ++ csS ++ w6 ++ csS ++ w5 ++ csS ++ w4 ++ csS ++ w3 ++ csS ++ w2 ++ csS ++ w1 ++ csS),
    ByteArray.size (e0 ++ w7 ++ csS ++ w6 ++ csS ++ w5 ++ csS ++ w4 ++ csS ++ w3 ++ csS ++ w2 ++ csS ++ w1 ++ csS) + ByteArray.size ksS ≤ (9223372036854775807 : Nat),
    vs (e0 ++ w7 ++ csS ++ w6 ++ csS ++ w5 ++ csS ++ w4 ++ csS ++ w3 ++ csS ++ w2 ++ csS ++ w1 ++ csS ++ ksS) = vs (e0 ++ w7 ++ csS ++ w6 ++ csS ++ w5 ++ csS ++ w4 ++ csS ++ w3 ++ csS ++ w2 ++ csS ++ w1 ++ csS ++ ksS),
    evB (lf + 100) 18 21 [vi kind] (kpH7 kind off r0 W w1 w2 w3 w4 w5 w6 w7) = some (vs dk, (kpH7 kind off r0 W w1 w2 w3 w4 w5 w6 w7), []),
    ByteArray.size (e0 ++ w7 ++ csS ++ w6 ++ csS ++ w5 ++ csS ++ w4 ++ csS ++ w3 ++ csS ++ w2 ++ csS ++ w1 ++ csS ++ ksS) + ByteArray.size dk ≤ (9223372036854775807 : Nat),
    vs (e0 ++ w7 ++ csS ++ w6 ++ csS ++ w5 ++ csS ++ w4 ++ csS ++ w3 ++ csS ++ w2 ++ csS ++ w1 ++ csS ++ ksS ++ dk) = vs (e0 ++ w7 ++ csS ++ w6 ++ csS ++ w5 ++ csS ++ w4 ++ csS ++ w3 ++ csS ++ w2 ++ csS ++ w1 ++ csS ++ ksS ++ dk),
    ByteArray.size (e0 ++ w7 ++ csS ++ w6 ++ csS ++ w5 ++ csS ++ w4 ++ csS ++ w3 ++ csS ++ w2 ++ csS ++ w1 ++ csS ++ ksS ++ dk) + ByteArray.size atS ≤ (9223372036854775807 : Nat),
    vs (e0 ++ w7 ++ csS ++ w6 ++ csS ++ w5 ++ csS ++ w4 ++ csS ++ w3 ++ csS ++ w2 ++ csS ++ w1 ++ csS ++ ksS ++ dk ++ atS) = vs (e0 ++ w7 ++ csS ++ w6 ++ csS ++ w5 ++ csS ++ w4 ++ csS ++ w3 ++ csS ++ w2 ++ csS ++ w1 ++ csS ++ ksS ++ dk ++ atS),
    evB (lf + 100) 18 21 [vi off] (kpH7 kind off r0 W w1 w2 w3 w4 w5 w6 w7) = some (vs dO, (kpH7 kind off r0 W w1 w2 w3 w4 w5 w6 w7), []),
    ByteArray.size (e0 ++ w7 ++ csS ++ w6 ++ csS ++ w5 ++ csS ++ w4 ++ csS ++ w3 ++ csS ++ w2 ++ csS ++ w1 ++ csS ++ ksS ++ dk ++ atS) + ByteArray.size dO ≤ (9223372036854775807 : Nat),
    vs (e0 ++ w7 ++ csS ++ w6 ++ csS ++ w5 ++ csS ++ w4 ++ csS ++ w3 ++ csS ++ w2 ++ csS ++ w1 ++ csS ++ ksS ++ dk ++ atS ++ dO) = vs (e0 ++ w7 ++ csS ++ w6 ++ csS ++ w5 ++ csS ++ w4 ++ csS ++ w3 ++ csS ++ w2 ++ csS ++ w1 ++ csS ++ ksS ++ dk ++ atS ++ dO)] (by kernel_rfl)
    ⟨by (try simp only [y1, y2, y3, y4, y5, y6, y7]); omega, rfl, by (try simp only [y1, y2, y3, y4, y5, y6, y7]); omega, rfl, by (try simp only [y1, y2, y3, y4, y5, y6, y7]); omega, rfl, by (try simp only [y1, y2, y3, y4, y5, y6, y7]); omega, rfl, by (try simp only [y1, y2, y3, y4, y5, y6, y7]); omega, rfl, by (try simp only [y1, y2, y3, y4, y5, y6, y7]); omega, rfl, by (try simp only [y1, y2, y3, y4, y5, y6, y7]); omega, rfl, by (try simp only [y1, y2, y3, y4, y5, y6, y7]); omega, rfl, by (try simp only [y1, y2, y3, y4, y5, y6, y7]); omega, rfl, by (try simp only [y1, y2, y3, y4, y5, y6, y7]); omega, rfl, by (try simp only [y1, y2, y3, y4, y5, y6, y7]); omega, rfl, by (try simp only [y1, y2, y3, y4, y5, y6, y7]); omega, rfl, by (try simp only [y1, y2, y3, y4, y5, y6, y7]); omega, rfl, by (try simp only [y1, y2, y3, y4, y5, y6, y7]); omega, rfl, by (try simp only [y1, y2, y3, y4, y5, y6, y7]); omega, rfl, hdk _ _, by (try simp only [y1, y2, y3, y4, y5, y6, y7]); omega, rfl, by (try simp only [y1, y2, y3, y4, y5, y6, y7]); omega, rfl, hdo _ _, by (try simp only [y1, y2, y3, y4, y5, y6, y7]); omega, rfl, trivial⟩
--> rl7
theorem rl_is7 (w1 w2 w3 w4 w5 w6 w7 : ByteArray) (dk dO : ByteArray) : (((((((((((((((((((⟨#[]⟩ : ByteArray) ++ w7) ++ csS) ++ w6) ++ csS) ++ w5) ++ csS) ++ w4) ++ csS) ++ w3) ++ csS) ++ w2) ++ csS) ++ w1) ++ csS) ++ ksS) ++ dk) ++ atS) ++ dO) = tN w7 (tN w6 (tN w5 (tN w4 (tN w3 (tN w2 (tN w1 (tF dk dO))))))) := by
  unfold tF; simp only [tN, ByteArray.append_assoc, emp]
--< eq7
theorem eq7 (lf : Nat) (kind : Int) (off : Int) (r0 : List AObj) (W : AObj) (w1 : ByteArray) (w2 : ByteArray) (w3 : ByteArray) (w4 : ByteArray) (w5 : ByteArray) (w6 : ByteArray) (w7 : ByteArray) :
    evB (lf + 100) 19 19 [sp 27 7 7, sp 26 7 7] (kpN7 kind off r0 W w1 w2 w3 w4 w5 w6 w7) = some (vb true, (kpN7 kind off r0 W w1 w2 w3 w4 w5 w6 w7), []) :=
  Dg.evCall_hint (hs' := []) (hs := [qv 19 24 (vb false),
    qv 19 24 (vb false),
    qv 19 24 (vb false),
    qv 19 24 (vb false),
    qv 19 24 (vb false),
    qv 19 24 (vb false),
    qv 19 24 (vb false)])
    [(vb !ByteArray.toList w7 == ByteArray.toList w7) = vb false,
    (vb !ByteArray.toList w6 == ByteArray.toList w6) = vb false,
    (vb !ByteArray.toList w5 == ByteArray.toList w5) = vb false,
    (vb !ByteArray.toList w4 == ByteArray.toList w4) = vb false,
    (vb !ByteArray.toList w3 == ByteArray.toList w3) = vb false,
    (vb !ByteArray.toList w2 == ByteArray.toList w2) = vb false,
    (vb !ByteArray.toList w1 == ByteArray.toList w1) = vb false] (by kernel_rfl)
    ⟨neS _, neS _, neS _, neS _, neS _, neS _, neS _, trivial⟩
--> eq7
--< srt6
theorem srt6 (lf : Nat) (kind : Int) (off : Int) (n : Int) (r0 : List AObj) (W : AObj) (w1 : ByteArray) (w2 : ByteArray) (w3 : ByteArray) (w4 : ByteArray) (w5 : ByteArray) (w6 : ByteArray) (d : ByteArray) (hd : ByteArray.size d ≤ 20) (hs : ∀ (m : Nat), evB lf (m + 1) 34 [vi n] (kpN6 kind off r0 W w1 w2 w3 w4 w5 w6) = some (vs d, (kpN6 kind off r0 W w1 w2 w3 w4 w5 w6), [])) :
    evB lf 19 20 [vi n] (kpN6 kind off r0 W w1 w2 w3 w4 w5 w6) = some (vs (ksS ++ d), (kpN6 kind off r0 W w1 w2 w3 w4 w5 w6), []) :=
  Dg.evCall_hint (hs' := []) (hs := [qc 34 (vs d) (kpN6 kind off r0 W w1 w2 w3 w4 w5 w6) [],
    qs 20 5 (vs (ksS ++ d))])
    [evB lf 18 34 [vi n] (kpN6 kind off r0 W w1 w2 w3 w4 w5 w6) = some (vs d, (kpN6 kind off r0 W w1 w2 w3 w4 w5 w6), []),
    ByteArray.size ksS + ByteArray.size d ≤ (9223372036854775807 : Nat),
    vs (ksS ++ d) = vs (ksS ++ d)] (by kernel_rfl)
    ⟨hs _, by (try simp only [y1, y2, y3, y4, y5, y6, y7]); omega, rfl, trivial⟩
--> srt6
--< srt7
theorem srt7 (lf : Nat) (kind : Int) (off : Int) (n : Int) (r0 : List AObj) (W : AObj) (w1 : ByteArray) (w2 : ByteArray) (w3 : ByteArray) (w4 : ByteArray) (w5 : ByteArray) (w6 : ByteArray) (w7 : ByteArray) (d : ByteArray) (hd : ByteArray.size d ≤ 20) (hs : ∀ (m : Nat), evB lf (m + 1) 34 [vi n] (kpN7 kind off r0 W w1 w2 w3 w4 w5 w6 w7) = some (vs d, (kpN7 kind off r0 W w1 w2 w3 w4 w5 w6 w7), [])) :
    evB lf 19 20 [vi n] (kpN7 kind off r0 W w1 w2 w3 w4 w5 w6 w7) = some (vs (ksS ++ d), (kpN7 kind off r0 W w1 w2 w3 w4 w5 w6 w7), []) :=
  Dg.evCall_hint (hs' := []) (hs := [qc 34 (vs d) (kpN7 kind off r0 W w1 w2 w3 w4 w5 w6 w7) [],
    qs 20 5 (vs (ksS ++ d))])
    [evB lf 18 34 [vi n] (kpN7 kind off r0 W w1 w2 w3 w4 w5 w6 w7) = some (vs d, (kpN7 kind off r0 W w1 w2 w3 w4 w5 w6 w7), []),
    ByteArray.size ksS + ByteArray.size d ≤ (9223372036854775807 : Nat),
    vs (ksS ++ d) = vs (ksS ++ d)] (by kernel_rfl)
    ⟨hs _, by (try simp only [y1, y2, y3, y4, y5, y6, y7]); omega, rfl, trivial⟩
--> srt7
end Go.Proofs.YtpgddboigegplaaGreatDoor.base

namespace Go.Proofs.YtpgddboigegplaaGreatDoor.base
open Go.Dg (junk St Ex Ev Hint evCall evCallS evCode evCodeK innerKp evCodeS evLoop cleanSt ue bodied noOver sbOf headOf tailOf bodyOf rAssign rBody lBody Flats flatOver Heap AObj SCall Law ofLaw Fix)
set_option linter.unusedVariables false
set_option linter.unusedSimpArgs false

--< err8
theorem err8 (lf : Nat) (kind : Int) (off : Int) (r0 : List AObj) (W : AObj) (w1 : ByteArray) (w2 : ByteArray) (w3 : ByteArray) (w4 : ByteArray) (w5 : ByteArray) (w6 : ByteArray) (w7 : ByteArray) (w8 : ByteArray) (dk : ByteArray) (dO : ByteArray) (hk : ByteArray.size dk ≤ 20) (ho : ByteArray.size dO ≤ 20) (z1 : ByteArray.size w1 ≤ 32) (z2 : ByteArray.size w2 ≤ 32) (z3 : ByteArray.size w3 ≤ 32) (z4 : ByteArray.size w4 ≤ 32) (z5 : ByteArray.size w5 ≤ 32) (z6 : ByteArray.size w6 ≤ 32) (z7 : ByteArray.size w7 ≤ 32) (z8 : ByteArray.size w8 ≤ 32) (hdk : ∀ (m : Nat), evB (lf + 100) (m + 1) 34 [vi kind] (kpH8 kind off r0 W w1 w2 w3 w4 w5 w6 w7 w8) = some (vs dk, (kpH8 kind off r0 W w1 w2 w3 w4 w5 w6 w7 w8), [])) (hdo : ∀ (m : Nat), evB (lf + 100) (m + 1) 34 [vi off] (kpH8 kind off r0 W w1 w2 w3 w4 w5 w6 w7 w8) = some (vs dO, (kpH8 kind off r0 W w1 w2 w3 w4 w5 w6 w7 w8), [])) :
    evB (lf + 100) 19 126 [pt 18] (kpH8 kind off r0 W w1 w2 w3 w4 w5 w6 w7 w8) = some (vs (tN w8 (tN w7 (tN w6 (tN w5 (tN w4 (tN w3 (tN w2 (tN w1 (tF dk dO))))))))), (kpH8 kind off r0 W w1 w2 w3 w4 w5 w6 w7 w8), []) :=
  Dg.evCall_hint (hs' := []) (hs := [qs 126 7 (vs (w8 ++ csS)),
    qs 126 7 (vs (w7 ++ csS)),
    qs 126 7 (vs (w6 ++ csS)),
    qs 126 7 (vs (w5 ++ csS)),
    qs 126 7 (vs (w4 ++ csS)),
    qs 126 7 (vs (w3 ++ csS)),
    qs 126 7 (vs (w2 ++ csS)),
    qs 126 7 (vs (w1 ++ csS)),
    qc 34 (vs dk) (kpH8 kind off r0 W w1 w2 w3 w4 w5 w6 w7 w8) [],
    qs 20 5 (vs (ksS ++ dk)),
    qs 128 8 (vs (ksS ++ dk ++ atS)),
    qc 34 (vs dO) (kpH8 kind off r0 W w1 w2 w3 w4 w5 w6 w7 w8) [],
    qs 128 14 (vs (tF dk dO)),
    qs 126 13 (vs (tN w1 (tF dk dO))),
    qs 126 13 (vs (tN w2 (tN w1 (tF dk dO)))),
    qs 126 13 (vs (tN w3 (tN w2 (tN w1 (tF dk dO))))),
    qs 126 13 (vs (tN w4 (tN w3 (tN w2 (tN w1 (tF dk dO)))))),
    qs 126 13 (vs (tN w5 (tN w4 (tN w3 (tN w2 (tN w1 (tF dk dO))))))),
    qs 126 13 (vs (tN w6 (tN w5 (tN w4 (tN w3 (tN w2 (tN w1 (tF dk dO)))))))),
    qs 126 13 (vs (tN w7 (tN w6 (tN w5 (tN w4 (tN w3 (tN w2 (tN w1 (tF dk dO))))))))),
    qs 126 13 (vs (tN w8 (tN w7 (tN w6 (tN w5 (tN w4 (tN w3 (tN w2 (tN w1 (tF dk dO))))))))))])
    [ByteArray.size w8 + ByteArray.size csS ≤ (9223372036854775807 : Nat),
    vs (w8 ++ csS) = vs (w8 ++ csS),
    ByteArray.size w7 + ByteArray.size csS ≤ (9223372036854775807 : Nat),
    vs (w7 ++ csS) = vs (w7 ++ csS),
    ByteArray.size w6 + ByteArray.size csS ≤ (9223372036854775807 : Nat),
    vs (w6 ++ csS) = vs (w6 ++ csS),
    ByteArray.size w5 + ByteArray.size csS ≤ (9223372036854775807 : Nat),
    vs (w5 ++ csS) = vs (w5 ++ csS),
    ByteArray.size w4 + ByteArray.size csS ≤ (9223372036854775807 : Nat),
    vs (w4 ++ csS) = vs (w4 ++ csS),
    ByteArray.size w3 + ByteArray.size csS ≤ (9223372036854775807 : Nat),
    vs (w3 ++ csS) = vs (w3 ++ csS),
    ByteArray.size w2 + ByteArray.size csS ≤ (9223372036854775807 : Nat),
    vs (w2 ++ csS) = vs (w2 ++ csS),
    ByteArray.size w1 + ByteArray.size csS ≤ (9223372036854775807 : Nat),
    vs (w1 ++ csS) = vs (w1 ++ csS),
    evB (lf + 100) 9 34 [vi kind] (kpH8 kind off r0 W w1 w2 w3 w4 w5 w6 w7 w8) = some (vs dk, (kpH8 kind off r0 W w1 w2 w3 w4 w5 w6 w7 w8), []),
    ByteArray.size ksS + ByteArray.size dk ≤ (9223372036854775807 : Nat),
    vs (ksS ++ dk) = vs (ksS ++ dk),
    ByteArray.size (ksS ++ dk) + ByteArray.size atS ≤ (9223372036854775807 : Nat),
    vs (ksS ++ dk ++ atS) = vs (ksS ++ dk ++ atS),
    evB (lf + 100) 10 34 [vi off] (kpH8 kind off r0 W w1 w2 w3 w4 w5 w6 w7 w8) = some (vs dO, (kpH8 kind off r0 W w1 w2 w3 w4 w5 w6 w7 w8), []),
    ByteArray.size (ksS ++ dk ++ atS) + ByteArray.size dO ≤ (9223372036854775807 : Nat),
    vs (ksS ++ dk ++ atS ++ dO) = vs (tF dk dO),
    ByteArray.size (w1 ++ csS) + ByteArray.size (tF dk dO) ≤ (9223372036854775807 : Nat),
    vs (w1 ++ csS ++ tF dk dO) = vs (tN w1 (tF dk dO)),
    ByteArray.size (w2 ++ csS) + ByteArray.size (tN w1 (tF dk dO)) ≤ (9223372036854775807 : Nat),
    vs (w2 ++ csS ++ tN w1 (tF dk dO)) = vs (tN w2 (tN w1 (tF dk dO))),
    ByteArray.size (w3 ++ csS) + ByteArray.size (tN w2 (tN w1 (tF dk dO))) ≤ (9223372036854775807 : Nat),
    vs (w3 ++ csS ++ tN w2 (tN w1 (tF dk dO))) = vs (tN w3 (tN w2 (tN w1 (tF dk dO)))),
    ByteArray.size (w4 ++ csS) + ByteArray.size (tN w3 (tN w2 (tN w1 (tF dk dO)))) ≤ (9223372036854775807 : Nat),
    vs (w4 ++ csS ++ tN w3 (tN w2 (tN w1 (tF dk dO)))) = vs (tN w4 (tN w3 (tN w2 (tN w1 (tF dk dO))))),
    ByteArray.size (w5 ++ csS) + ByteArray.size (tN w4 (tN w3 (tN w2 (tN w1 (tF dk dO))))) ≤ (9223372036854775807 : Nat),
    vs (w5 ++ csS ++ tN w4 (tN w3 (tN w2 (tN w1 (tF dk dO))))) = vs (tN w5 (tN w4 (tN w3 (tN w2 (tN w1 (tF dk dO)))))),
    ByteArray.size (w6 ++ csS) + ByteArray.size (tN w5 (tN w4 (tN w3 (tN w2 (tN w1 (tF dk dO)))))) ≤ (9223372036854775807 : Nat),
    vs (w6 ++ csS ++ tN w5 (tN w4 (tN w3 (tN w2 (tN w1 (tF dk dO)))))) = vs (tN w6 (tN w5 (tN w4 (tN w3 (tN w2 (tN w1 (tF dk dO))))))),
    ByteArray.size (w7 ++ csS) + ByteArray.size (tN w6 (tN w5 (tN w4 (tN w3 (tN w2 (tN w1 (tF dk dO))))))) ≤ (9223372036854775807 : Nat),
    vs (w7 ++ csS ++ tN w6 (tN w5 (tN w4 (tN w3 (tN w2 (tN w1 (tF dk dO))))))) = vs (tN w7 (tN w6 (tN w5 (tN w4 (tN w3 (tN w2 (tN w1 (tF dk dO)))))))),
    ByteArray.size (w8 ++ csS) + ByteArray.size (tN w7 (tN w6 (tN w5 (tN w4 (tN w3 (tN w2 (tN w1 (tF dk dO)))))))) ≤ (9223372036854775807 : Nat),
    vs (w8 ++ csS ++ tN w7 (tN w6 (tN w5 (tN w4 (tN w3 (tN w2 (tN w1 (tF dk dO)))))))) = vs (tN w8 (tN w7 (tN w6 (tN w5 (tN w4 (tN w3 (tN w2 (tN w1 (tF dk dO)))))))))] (by kernel_rfl)
    ⟨by (try simp only [y1, y2, y3, y4, y5, y6, y7]); omega, rfl, by (try simp only [y1, y2, y3, y4, y5, y6, y7]); omega, rfl, by (try simp only [y1, y2, y3, y4, y5, y6, y7]); omega, rfl, by (try simp only [y1, y2, y3, y4, y5, y6, y7]); omega, rfl, by (try simp only [y1, y2, y3, y4, y5, y6, y7]); omega, rfl, by (try simp only [y1, y2, y3, y4, y5, y6, y7]); omega, rfl, by (try simp only [y1, y2, y3, y4, y5, y6, y7]); omega, rfl, by (try simp only [y1, y2, y3, y4, y5, y6, y7]); omega, rfl, hdk _, by (try simp only [y1, y2, y3, y4, y5, y6, y7]); omega, rfl, by (try simp only [y1, y2, y3, y4, y5, y6, y7]); omega, rfl, hdo _, by (try simp only [y1, y2, y3, y4, y5, y6, y7]); omega, rfl, by (try simp only [y1, y2, y3, y4, y5, y6, y7]); omega, rfl, by (try simp only [y1, y2, y3, y4, y5, y6, y7]); omega, rfl, by (try simp only [y1, y2, y3, y4, y5, y6, y7]); omega, rfl, by (try simp only [y1, y2, y3, y4, y5, y6, y7]); omega, rfl, by (try simp only [y1, y2, y3, y4, y5, y6, y7]); omega, rfl, by (try simp only [y1, y2, y3, y4, y5, y6, y7]); omega, rfl, by (try simp only [y1, y2, y3, y4, y5, y6, y7]); omega, rfl, by (try simp only [y1, y2, y3, y4, y5, y6, y7]); omega, rfl, trivial⟩
--> err8
--< ln8
theorem ln8 (lf : Nat) (kind : Int) (off : Int) (r0 : List AObj) (W : AObj) (w1 : ByteArray) (w2 : ByteArray) (w3 : ByteArray) (w4 : ByteArray) (w5 : ByteArray) (w6 : ByteArray) (w7 : ByteArray) (w8 : ByteArray) (dk : ByteArray) (dO : ByteArray) (hk : ByteArray.size dk ≤ 20) (ho : ByteArray.size dO ≤ 20) (z1 : ByteArray.size w1 ≤ 32) (z2 : ByteArray.size w2 ≤ 32) (z3 : ByteArray.size w3 ≤ 32) (z4 : ByteArray.size w4 ≤ 32) (z5 : ByteArray.size w5 ≤ 32) (z6 : ByteArray.size w6 ≤ 32) (z7 : ByteArray.size w7 ≤ 32) (z8 : ByteArray.size w8 ≤ 32) (hdk : ∀ (m : Nat), evB (lf + 100) (m + 1) 34 [vi kind] (kpH8 kind off r0 W w1 w2 w3 w4 w5 w6 w7 w8) = some (vs dk, (kpH8 kind off r0 W w1 w2 w3 w4 w5 w6 w7 w8), [])) (hdo : ∀ (m : Nat), evB (lf + 100) (m + 1) 34 [vi off] (kpH8 kind off r0 W w1 w2 w3 w4 w5 w6 w7 w8) = some (vs dO, (kpH8 kind off r0 W w1 w2 w3 w4 w5 w6 w7 w8), [])) :
    evB (lf + 100) 19 13 [vf 67 (pt 18)] (kpH8 kind off r0 W w1 w2 w3 w4 w5 w6 w7 w8) = some (Value.tuple #[vs (tN w8 (tN w7 (tN w6 (tN w5 (tN w4 (tN w3 (tN w2 (tN w1 (tF dk dO))))))))), vb true], (kpH8 kind off r0 W w1 w2 w3 w4 w5 w6 w7 w8), []) :=
  Dg.evCall_hint (hs' := []) (hs := [qs 126 7 (vs (w8 ++ csS)),
    qs 126 7 (vs (w7 ++ csS)),
    qs 126 7 (vs (w6 ++ csS)),
    qs 126 7 (vs (w5 ++ csS)),
    qs 126 7 (vs (w4 ++ csS)),
    qs 126 7 (vs (w3 ++ csS)),
    qs 126 7 (vs (w2 ++ csS)),
    qs 126 7 (vs (w1 ++ csS)),
    qc 34 (vs dk) (kpH8 kind off r0 W w1 w2 w3 w4 w5 w6 w7 w8) [],
    qs 20 5 (vs (ksS ++ dk)),
    qs 128 8 (vs (ksS ++ dk ++ atS)),
    qc 34 (vs dO) (kpH8 kind off r0 W w1 w2 w3 w4 w5 w6 w7 w8) [],
    qs 128 14 (vs (tF dk dO)),
    qs 126 13 (vs (tN w1 (tF dk dO))),
    qs 126 13 (vs (tN w2 (tN w1 (tF dk dO)))),
    qs 126 13 (vs (tN w3 (tN w2 (tN w1 (tF dk dO))))),
    qs 126 13 (vs (tN w4 (tN w3 (tN w2 (tN w1 (tF dk dO)))))),
    qs 126 13 (vs (tN w5 (tN w4 (tN w3 (tN w2 (tN w1 (tF dk dO))))))),
    qs 126 13 (vs (tN w6 (tN w5 (tN w4 (tN w3 (tN w2 (tN w1 (tF dk dO)))))))),
    qs 126 13 (vs (tN w7 (tN w6 (tN w5 (tN w4 (tN w3 (tN w2 (tN w1 (tF dk dO))))))))),
    qs 126 13 (vs (tN w8 (tN w7 (tN w6 (tN w5 (tN w4 (tN w3 (tN w2 (tN w1 (tF dk dO))))))))))])
    [ByteArray.size w8 + ByteArray.size csS ≤ (9223372036854775807 : Nat),
    vs (w8 ++ csS) = vs (w8 ++ csS),
    ByteArray.size w7 + ByteArray.size csS ≤ (9223372036854775807 : Nat),
    vs (w7 ++ csS) = vs (w7 ++ csS),
    ByteArray.size w6 + ByteArray.size csS ≤ (9223372036854775807 : Nat),
    vs (w6 ++ csS) = vs (w6 ++ csS),
    ByteArray.size w5 + ByteArray.size csS ≤ (9223372036854775807 : Nat),
    vs (w5 ++ csS) = vs (w5 ++ csS),
    ByteArray.size w4 + ByteArray.size csS ≤ (9223372036854775807 : Nat),
    vs (w4 ++ csS) = vs (w4 ++ csS),
    ByteArray.size w3 + ByteArray.size csS ≤ (9223372036854775807 : Nat),
    vs (w3 ++ csS) = vs (w3 ++ csS),
    ByteArray.size w2 + ByteArray.size csS ≤ (9223372036854775807 : Nat),
    vs (w2 ++ csS) = vs (w2 ++ csS),
    ByteArray.size w1 + ByteArray.size csS ≤ (9223372036854775807 : Nat),
    vs (w1 ++ csS) = vs (w1 ++ csS),
    evB (lf + 100) 7 34 [vi kind] (kpH8 kind off r0 W w1 w2 w3 w4 w5 w6 w7 w8) = some (vs dk, (kpH8 kind off r0 W w1 w2 w3 w4 w5 w6 w7 w8), []),
    ByteArray.size ksS + ByteArray.size dk ≤ (9223372036854775807 : Nat),
    vs (ksS ++ dk) = vs (ksS ++ dk),
    ByteArray.size (ksS ++ dk) + ByteArray.size atS ≤ (9223372036854775807 : Nat),
    vs (ksS ++ dk ++ atS) = vs (ksS ++ dk ++ atS),
    evB (lf + 100) 8 34 [vi off] (kpH8 kind off r0 W w1 w2 w3 w4 w5 w6 w7 w8) = some (vs dO, (kpH8 kind off r0 W w1 w2 w3 w4 w5 w6 w7 w8), []),
    ByteArray.size (ksS ++ dk ++ atS) + ByteArray.size dO ≤ (9223372036854775807 : Nat),
    vs (ksS ++ dk ++ atS ++ dO) = vs (tF dk dO),
    ByteArray.size (w1 ++ csS) + ByteArray.size (tF dk dO) ≤ (9223372036854775807 : Nat),
    vs (w1 ++ csS ++ tF dk dO) = vs (tN w1 (tF dk dO)),
    ByteArray.size (w2 ++ csS) + ByteArray.size (tN w1 (tF dk dO)) ≤ (9223372036854775807 : Nat),
    vs (w2 ++ csS ++ tN w1 (tF dk dO)) = vs (tN w2 (tN w1 (tF dk dO))),
    ByteArray.size (w3 ++ csS) + ByteArray.size (tN w2 (tN w1 (tF dk dO))) ≤ (9223372036854775807 : Nat),
    vs (w3 ++ csS ++ tN w2 (tN w1 (tF dk dO))) = vs (tN w3 (tN w2 (tN w1 (tF dk dO)))),
    ByteArray.size (w4 ++ csS) + ByteArray.size (tN w3 (tN w2 (tN w1 (tF dk dO)))) ≤ (9223372036854775807 : Nat),
    vs (w4 ++ csS ++ tN w3 (tN w2 (tN w1 (tF dk dO)))) = vs (tN w4 (tN w3 (tN w2 (tN w1 (tF dk dO))))),
    ByteArray.size (w5 ++ csS) + ByteArray.size (tN w4 (tN w3 (tN w2 (tN w1 (tF dk dO))))) ≤ (9223372036854775807 : Nat),
    vs (w5 ++ csS ++ tN w4 (tN w3 (tN w2 (tN w1 (tF dk dO))))) = vs (tN w5 (tN w4 (tN w3 (tN w2 (tN w1 (tF dk dO)))))),
    ByteArray.size (w6 ++ csS) + ByteArray.size (tN w5 (tN w4 (tN w3 (tN w2 (tN w1 (tF dk dO)))))) ≤ (9223372036854775807 : Nat),
    vs (w6 ++ csS ++ tN w5 (tN w4 (tN w3 (tN w2 (tN w1 (tF dk dO)))))) = vs (tN w6 (tN w5 (tN w4 (tN w3 (tN w2 (tN w1 (tF dk dO))))))),
    ByteArray.size (w7 ++ csS) + ByteArray.size (tN w6 (tN w5 (tN w4 (tN w3 (tN w2 (tN w1 (tF dk dO))))))) ≤ (9223372036854775807 : Nat),
    vs (w7 ++ csS ++ tN w6 (tN w5 (tN w4 (tN w3 (tN w2 (tN w1 (tF dk dO))))))) = vs (tN w7 (tN w6 (tN w5 (tN w4 (tN w3 (tN w2 (tN w1 (tF dk dO)))))))),
    ByteArray.size (w8 ++ csS) + ByteArray.size (tN w7 (tN w6 (tN w5 (tN w4 (tN w3 (tN w2 (tN w1 (tF dk dO)))))))) ≤ (9223372036854775807 : Nat),
    vs (w8 ++ csS ++ tN w7 (tN w6 (tN w5 (tN w4 (tN w3 (tN w2 (tN w1 (tF dk dO)))))))) = vs (tN w8 (tN w7 (tN w6 (tN w5 (tN w4 (tN w3 (tN w2 (tN w1 (tF dk dO)))))))))] (by kernel_rfl)
    ⟨by (try simp only [y1, y2, y3, y4, y5, y6, y7]); omega, rfl, by (try simp only [y1, y2, y3, y4, y5, y6, y7]); omega, rfl, by (try simp only [y1, y2, y3, y4, y5, y6, y7]); omega, rfl, by (try simp only [y1, y2, y3, y4, y5, y6, y7]); omega, rfl, by (try simp only [y1, y2, y3, y4, y5, y6, y7]); omega, rfl, by (try simp only [y1, y2, y3, y4, y5, y6, y7]); omega, rfl, by (try simp only [y1, y2, y3, y4, y5, y6, y7]); omega, rfl, by (try simp only [y1, y2, y3, y4, y5, y6, y7]); omega, rfl, hdk _, by (try simp only [y1, y2, y3, y4, y5, y6, y7]); omega, rfl, by (try simp only [y1, y2, y3, y4, y5, y6, y7]); omega, rfl, hdo _, by (try simp only [y1, y2, y3, y4, y5, y6, y7]); omega, rfl, by (try simp only [y1, y2, y3, y4, y5, y6, y7]); omega, rfl, by (try simp only [y1, y2, y3, y4, y5, y6, y7]); omega, rfl, by (try simp only [y1, y2, y3, y4, y5, y6, y7]); omega, rfl, by (try simp only [y1, y2, y3, y4, y5, y6, y7]); omega, rfl, by (try simp only [y1, y2, y3, y4, y5, y6, y7]); omega, rfl, by (try simp only [y1, y2, y3, y4, y5, y6, y7]); omega, rfl, by (try simp only [y1, y2, y3, y4, y5, y6, y7]); omega, rfl, by (try simp only [y1, y2, y3, y4, y5, y6, y7]); omega, rfl, trivial⟩
--> ln8
--< isT8
theorem isT8 (lf : Nat) (kind : Int) (off : Int) (r0 : List AObj) (W : AObj) (w1 : ByteArray) (w2 : ByteArray) (w3 : ByteArray) (w4 : ByteArray) (w5 : ByteArray) (w6 : ByteArray) (w7 : ByteArray) (w8 : ByteArray) :
    evB (lf + 100) 19 15 [vf 67 (pt 18), vi kind] (kpN8 kind off r0 W w1 w2 w3 w4 w5 w6 w7 w8) = some (vb true, (kpN8 kind off r0 W w1 w2 w3 w4 w5 w6 w7 w8), []) :=
  Dg.evCall_hint (hs' := []) (hs := [qv 32 18 (vb false),
    qv 32 18 (vb false),
    qv 32 18 (vb false),
    qv 32 18 (vb false),
    qv 32 18 (vb false),
    qv 32 18 (vb false),
    qv 32 18 (vb false),
    qv 32 18 (vb false),
    qv 32 18 (vb false),
    qv 32 18 (vb true)])
    [vb false = vb false,
    vb false = vb false,
    vb false = vb false,
    vb false = vb false,
    vb false = vb false,
    vb false = vb false,
    vb false = vb false,
    vb false = vb false,
    vb false = vb false,
    vb (if true = true then kind == kind else !kind == kind) = vb true] (by kernel_rfl)
    ⟨rfl, rfl, rfl, rfl, rfl, rfl, rfl, rfl, rfl, Dg.vtrue (by omega), trivial⟩
--> isT8
--< isF8
theorem isF8 (lf : Nat) (kind : Int) (off : Int) (other : Int) (hne : other ≠ kind) (r0 : List AObj) (W : AObj) (w1 : ByteArray) (w2 : ByteArray) (w3 : ByteArray) (w4 : ByteArray) (w5 : ByteArray) (w6 : ByteArray) (w7 : ByteArray) (w8 : ByteArray) :
    evB (lf + 100) 19 15 [vf 67 (pt 18), vi other] (kpN8 kind off r0 W w1 w2 w3 w4 w5 w6 w7 w8) = some (vb false, (kpN8 kind off r0 W w1 w2 w3 w4 w5 w6 w7 w8), []) :=
  Dg.evCall_hint (hs' := []) (hs := [qv 32 18 (vb false),
    qv 32 18 (vb false),
    qv 32 18 (vb false),
    qv 32 18 (vb false),
    qv 32 18 (vb false),
    qv 32 18 (vb false),
    qv 32 18 (vb false),
    qv 32 18 (vb false),
    qv 32 18 (vb false),
    qv 32 18 (vb false)])
    [vb false = vb false,
    vb false = vb false,
    vb false = vb false,
    vb false = vb false,
    vb false = vb false,
    vb false = vb false,
    vb false = vb false,
    vb false = vb false,
    vb false = vb false,
    vb (if true = true then kind == other else !kind == other) = vb false] (by kernel_rfl)
    ⟨rfl, rfl, rfl, rfl, rfl, rfl, rfl, rfl, rfl, Dg.vfalse (by omega), trivial⟩
--> isF8
--< rl8
theorem rl8 (lf : Nat) (kind : Int) (off : Int) (r0 : List AObj) (W : AObj) (w1 : ByteArray) (w2 : ByteArray) (w3 : ByteArray) (w4 : ByteArray) (w5 : ByteArray) (w6 : ByteArray) (w7 : ByteArray) (w8 : ByteArray) (dk : ByteArray) (dO : ByteArray) (hk : ByteArray.size dk ≤ 20) (ho : ByteArray.size dO ≤ 20) (z1 : ByteArray.size w1 ≤ 32) (z2 : ByteArray.size w2 ≤ 32) (z3 : ByteArray.size w3 ≤ 32) (z4 : ByteArray.size w4 ≤ 32) (z5 : ByteArray.size w5 ≤ 32) (z6 : ByteArray.size w6 ≤ 32) (z7 : ByteArray.size w7 ≤ 32) (z8 : ByteArray.size w8 ≤ 32) (hdk : ∀ (m : Nat) (H : Heap), evB (lf + 100) (m + 1) 21 [vi kind] H = some (vs dk, H, [])) (hdo : ∀ (m : Nat) (H : Heap), evB (lf + 100) (m + 1) 21 [vi off] H = some (vs dO, H, [])) :
    evB (lf + 100) 19 18 [sp 27 8 8, vi kind, vi off] (kpH8 kind off r0 W w1 w2 w3 w4 w5 w6 w7 w8) = some (vs (e0 ++ w8 ++ csS ++ w7 ++ csS ++ w6 ++ csS ++ w5 ++ csS ++ w4 ++ csS ++ w3 ++ csS ++ w2 ++ csS ++ w1 ++ csS ++ ksS ++ dk ++ atS ++ dO), (kpH8 kind off r0 W w1 w2 w3 w4 w5 w6 w7 w8), []) :=
  Dg.evCall_hint (hs' := []) (hs := [qs 18 20 (vs (e0 ++ w8)),
    qs 18 21 (vs (e0 ++ w8 ++ csS)),
    qs 18 20 (vs (e0 ++ w8 ++ csS ++ w7)),
    qs 18 21 (vs (e0 ++ w8 ++ csS ++ w7 ++ csS)),
    qs 18 20 (vs (e0 ++ w8 ++ csS ++ w7 ++ csS ++ w6)),
    qs 18 21 (vs (e0 ++ w8 ++ csS ++ w7 ++ csS ++ w6 ++ csS)),
    qs 18 20 (vs (e0 ++ w8 ++ csS ++ w7 ++ csS ++ w6 ++ csS ++ w5)),
    qs 18 21 (vs (e0 ++ w8 ++ csS ++ w7 ++ csS ++ w6 ++ csS ++ w5 ++ csS)),
    qs 18 20 (vs (e0 ++ w8 ++ csS ++ w7 ++ csS ++ w6 ++ csS ++ w5 ++ csS ++ w4)),
    qs 18 21 (vs (e0 ++ w8 ++ csS ++ w7 ++ csS ++ w6 ++ csS ++ w5 ++ csS ++ w4 ++ csS)),
    qs 18 20 (vs (e0 ++ w8 ++ csS ++ w7 ++ csS ++ w6 ++ csS ++ w5 ++ csS ++ w4 ++ csS ++ w3)),
    qs 18 21 (vs (e0 ++ w8 ++ csS ++ w7 ++ csS ++ w6 ++ csS ++ w5 ++ csS ++ w4 ++ csS ++ w3 ++ csS)),
    qs 18 20 (vs (e0 ++ w8 ++ csS ++ w7 ++ csS ++ w6 ++ csS ++ w5 ++ csS ++ w4 ++ csS ++ w3 ++ csS ++ w2)),
    qs 18 21 (vs (e0 ++ w8 ++ csS ++ w7 ++ csS ++ w6 ++ csS ++ w5 ++ csS ++ w4 ++ csS ++ w3 ++ csS ++ w2 ++ csS)),
    qs 18 20 (vs (e0 ++ w8 ++ csS ++ w7 ++ csS ++ w6 ++ csS ++ w5 ++ csS ++ w4 ++ csS ++ w3 ++ csS ++ w2 ++ csS ++ w1)),
    qs 18 21 (vs (e0 ++ w8 ++ csS ++ w7 ++ csS ++ w6 ++ csS ++ w5 ++ csS ++ w4 ++ csS ++ w3 ++ csS ++ w2 ++ csS ++ w1 ++ csS)),
    qs 18 23 (vs (e0 ++ w8 ++ csS ++ w7 ++ csS ++ w6 ++ csS ++ w5 ++ csS ++ w4 ++ csS ++ w3 ++ csS ++ w2 ++ csS ++ w1 ++ csS ++ ksS)),
    qc 21 (vs dk) (kpH8 kind off r0 W w1 w2 w3 w4 w5 w6 w7 w8) [],
    qs 18 26 (vs (e0 ++ w8 ++ csS ++ w7 ++ csS ++ w6 ++ csS ++ w5 ++ csS ++ w4 ++ csS ++ w3 ++ csS ++ w2 ++ csS ++ w1 ++ csS ++ ksS ++ dk)),
    qs 18 27 (vs (e0 ++ w8 ++ csS ++ w7 ++ csS ++ w6 ++ csS ++ w5 ++ csS ++ w4 ++ csS ++ w3 ++ csS ++ w2 ++ csS ++ w1 ++ csS ++ ksS ++ dk ++ atS)),
    qc 21 (vs dO) (kpH8 kind off r0 W w1 w2 w3 w4 w5 w6 w7 w8) [],
    qs 18 30 (vs (e0 ++ w8 ++ csS ++ w7 ++ csS ++ w6 ++ csS ++ w5 ++ csS ++ w4 ++ csS ++ w3 ++ csS ++ w2 ++ csS ++ w1 ++ csS ++ ksS ++ dk ++ atS ++ dO))])
    [ByteArray.size e0 + ByteArray.size w8 ≤ (9223372036854775807 : Nat),
    vs (e0 ++ w8) = vs (e0 ++ w8),
    ByteArray.size (e0 ++ w8) + ByteArray.size csS ≤ (9223372036854775807 : Nat),
    vs (e0 ++ w8 ++ csS) = vs (e0 ++ w8 ++ csS),
    ByteArray.size (e0 ++ w8 ++ csS) + ByteArray.size w7 ≤ (9223372036854775807 : Nat),
    vs (e0 ++ w8 ++ csS ++ w7) = vs (e0 ++ w8 ++ csS ++ w7),
    ByteArray.size (e0 ++ w8 ++ csS ++ w7) + ByteArray.size csS ≤ (9223372036854775807 : Nat),
    vs (e0 ++ w8 ++ csS ++ w7 ++ csS) = vs (e0 ++ w8 ++ csS ++ w7 ++ csS),
    ByteArray.size (e0 ++ w8 ++ csS ++ w7 ++ csS) + ByteArray.size w6 ≤ (9223372036854775807 : Nat),
    vs (e0 ++ w8 ++ csS ++ w7 ++ csS ++ w6) = vs (e0 ++ w8 ++ csS ++ w7 ++ csS ++ w6),
    ByteArray.size (e0 ++ w8 ++ csS ++ w7 ++ csS ++ w6) + ByteArray.size csS ≤ (9223372036854775807 : Nat),
    vs (e0 ++ w8 ++ csS ++ w7 ++ csS ++ w6 ++ csS) = vs (e0 ++ w8 ++ csS ++ w7 ++ csS ++ w6 ++ csS),
    ByteArray.size (e0 ++ w8 ++ csS ++ w7 ++ csS ++ w6 ++ csS) + ByteArray.size w5 ≤ (9223372036854775807 : Nat),
    vs (e0 ++ w8 ++ csS ++ w7 ++ csS ++ w6 ++ csS ++ w5) = vs (e0 ++ w8 ++ csS ++ w7 ++ csS ++ w6 ++ csS ++ w5),
    ByteArray.size (e0 ++ w8 ++ csS ++ w7 ++ csS ++ w6 ++ csS ++ w5) + ByteArray.size csS ≤ (9223372036854775807 : Nat),
    vs (e0 ++ w8 ++ csS ++ w7 ++ csS ++ w6 ++ csS ++ w5 ++ csS) = vs (e0 ++ w8 ++ csS ++ w7 ++ csS ++ w6 ++ csS ++ w5 ++ csS),
    ByteArray.size (e0 ++ w8 ++ csS ++ w7 ++ csS ++ w6 ++ csS ++ w5 ++ csS) + ByteArray.size w4 ≤ (9223372036854775807 : Nat),
    vs (e0 ++ w8 ++ csS ++ w7 ++ csS ++ w6 ++ csS ++ w5 ++ csS ++ w4) = vs (e0 ++ w8 ++ csS ++ w7 ++ csS ++ w6 ++ csS ++ w5 ++ csS ++ w4),
    ByteArray.size (e0 ++ w8 ++ csS ++ w7 ++ csS ++ w6 ++ csS ++ w5 ++ csS ++ w4) + ByteArray.size csS ≤ (9223372036854775807 : Nat),
    vs (e0 ++ w8 ++ csS ++ w7 ++ csS ++ w6 ++ csS ++ w5 ++ csS ++ w4 ++ csS) = vs (e0 ++ w8 ++ csS ++ w7 ++ csS ++ w6 ++ csS ++ w5 ++ csS ++ w4 ++ csS),
    ByteArray.size (e0 ++ w8 ++ csS ++ w7 ++ csS ++ w6 ++ csS ++ w5 ++ csS ++ w4 ++ csS) + ByteArray.size w3 ≤ (9223372036854775807 : Nat),
    vs (e0 ++ w8 ++ csS ++ w7 ++ csS ++ w6 ++ csS ++ w5 ++ csS ++ w4 ++ csS ++ w3) = vs (e0 ++ w8 ++ csS ++ w7 ++ csS ++ w6 ++ csS ++ w5 ++ csS ++ w4 ++ csS ++ w3),
    ByteArray.size (e0 ++ w8 ++ csS ++ w7 ++ csS ++ w6 ++ csS ++ w5 ++ csS ++ w4 ++ csS ++ w3) + ByteArray.size csS ≤ (9223372036854775807 : Nat),
    vs (e0 ++ w8 ++ csS ++ w7 ++ csS ++ w6 ++ csS ++ w5 ++ csS ++ w4 ++ csS ++ w3 ++ csS) = vs (e0 ++ w8 ++ csS ++ w7 ++ csS ++ w6 ++ csS ++ w5 ++ csS ++ w4 ++ csS ++ w3 ++ csS),
    ByteArray.size (e0 ++ w8 ++ csS ++ w7 ++ csS ++ w6 ++ csS ++ w5 ++ csS ++ w4 ++ csS ++ w3 ++ csS) + ByteArray.size w2 ≤ (9223372036854775807 : Nat),
    vs (e0 ++ w8 ++ csS ++ w7 ++ csS ++ w6 ++ csS ++ w5 ++ csS ++ w4 ++ csS ++ w3 ++ csS ++ w2) = vs (e0 ++ w8 ++ csS ++ w7 ++ csS ++ w6 ++ csS ++ w5 ++ csS ++ w4 ++ csS ++ w3 ++ csS ++ w2),
    ByteArray.size (e0 ++ w8 ++ csS ++ w7 ++ csS ++ w6 ++ csS ++ w5 ++ csS ++ w4 ++ csS ++ w3 ++ csS ++ w2) + ByteArray.size csS ≤ (9223372036854775807 : Nat),
    vs (e0 ++ w8 ++ csS ++ w7 ++ csS ++ w6 ++ csS ++ w5 ++ csS ++ w4 ++ csS ++ w3 ++ csS ++ w2 ++ csS) = vs (e0 ++ w8 ++ csS ++ w7 ++ csS ++ w6 ++ csS ++ w5 ++ csS ++ w4 ++ csS ++ w3 ++ csS ++ w2 ++ csS),
    ByteArray.size (e0 ++ w8 ++ csS ++ w7 ++ csS ++ w6 ++ csS ++ w5 ++ csS ++ w4 ++ csS ++ w3 ++ csS ++ w2 ++ csS) + ByteArray.size w1 ≤ (9223372036854775807 : Nat),
    vs (e0 ++ w8 ++ csS ++ w7 ++ csS ++ w6 ++ csS ++ w5 ++ csS ++ w4 ++ csS ++ w3 ++ csS ++ w2 ++ csS ++ w1) = vs (e0 ++ w8 ++ csS ++ w7 ++ csS ++ w6 ++ csS ++ w5 ++ csS ++ w4 ++ csS ++ w3 ++ csS ++ w2 ++ csS ++ w1),
    ByteArray.size (e0 ++ w8 ++ csS ++ w7 ++ csS ++ w6 ++ csS ++ w5 ++ csS ++ w4 ++ csS ++ w3 ++ csS ++ w2 ++ csS ++ w1) + ByteArray.size csS ≤ (9223372036854775807 : Nat),
    vs (e0 ++ w8 ++ csS ++ w7 ++ csS ++ w6 ++ csS ++ w5 ++ csS ++ w4 ++ csS ++ w3 ++ csS ++ w2 ++ csS ++ w1 ++ csS) = vs (e0 ++ w8 ++ csS ++ w7 ++ csS ++ w6 ++ csS ++ w5 ++ csS ++ w4 ++ csS ++ w3 ++ csS ++ w2 ++ csS ++ w1 ++ csS),
    ByteArray.size (e0 ++ w8 ++ csS ++ w7 ++ csS ++ w6 ++ csS ++ w5 ++ csS ++ w4 ++ csS ++ w3 ++ csS ++ w2 ++ csS ++ w1 ++ csS) + ByteArray.size ksS ≤ (9223372036854775807 : Nat),
    vs (e0 ++ w8 ++ csS ++ w7 ++ csS ++ w6 ++ csS ++ w5 ++ csS ++ w4 ++ csS ++ w3 ++ csS ++ w2 ++ csS ++ w1 ++ csS ++ ksS) = vs (e0 ++ w8 ++ csS ++ w7 ++ csS ++ w6 ++ csS ++ w5 ++ csS ++ w4 ++ csS ++ w3 ++ csS ++ w2 ++ csS ++ w1 ++ csS ++ ksS),
    evB (lf + 100) 18 21 [vi kind] (kpH8 kind off r0 W w1 w2 w3 w4 w5 w6 w7 w8) = some (vs dk, (kpH8 kind off r0 W w1 w2 w3 w4 w5 w6 w7 w8), []),
    ByteArray.size (e0 ++ w8 ++ csS ++ w7 ++ csS ++ w6 ++ csS ++ w5 ++ csS ++ w4 ++ csS ++ w3 ++ csS ++ w2 ++ csS ++ w1 ++ csS ++ ksS) + ByteArray.size dk ≤ (9223372036854775807 : Nat),
    vs (e0 ++ w8 ++ csS ++ w7 ++ csS ++ w6 ++ csS ++ w5 ++ csS ++ w4 ++ csS ++ w3 ++ csS ++ w2 ++ csS ++ w1 ++ csS ++ ksS ++ dk) = vs (e0 ++ w8 ++ csS ++ w7 ++ csS ++ w6 ++ csS ++ w5 ++ csS ++ w4 ++ csS ++ w3 ++ csS ++ w2 ++ csS ++ w1 ++ csS ++ ksS ++ dk),
    ByteArray.size (e0 ++ w8 ++ csS ++ w7 ++ csS ++ w6 ++ csS ++ w5 ++ csS ++ w4 ++ csS ++ w3 ++ csS ++ w2 ++ csS ++ w1 ++ csS ++ ksS ++ dk) + ByteArray.size atS ≤ (9223372036854775807 : Nat),
    vs (e0 ++ w8 ++ csS ++ w7 ++ csS ++ w6 ++ csS ++ w5 ++ csS ++ w4 ++ csS ++ w3 ++ csS ++ w2 ++ csS ++ w1 ++ csS ++ ksS ++ dk ++ atS) = vs (e0 ++ w8 ++ csS ++ w7 ++ csS ++ w6 ++ csS ++ w5 ++ csS ++ w4 ++ csS ++ w3 ++ csS ++ w2 ++ csS ++ w1 ++ csS ++ ksS ++ dk ++ atS),
    evB (lf + 100) 18 21 [vi off] (kpH8 kind off r0 W w1 w2 w3 w4 w5 w6 w7 w8) = some (vs dO, (kpH8 kind off r0 W w1 w2 w3 w4 w5 w6 w7 w8), []),
    ByteArray.size (e0 ++ w8 ++ csS ++ w7 ++ csS ++ w6 ++ csS ++ w5 ++ csS ++ w4 ++ csS ++ w3 ++ csS ++ w2 ++ csS ++ w1 ++ csS ++ ksS ++ dk ++ atS) + ByteArray.size dO ≤ (9223372036854775807 : Nat),
    vs (e0 ++ w8 ++ csS ++ w7 ++ csS ++ w6 ++ csS ++ w5 ++ csS ++ w4 ++ csS ++ w3 ++ csS ++ w2 ++ csS ++ w1 ++ csS ++ ksS ++ dk ++ atS ++ dO) = vs (e0 ++ w8 ++ csS ++ w7 ++ csS ++ w6 ++ csS ++ w5 ++ csS ++ w4 ++ csS ++ w3 ++ csS ++ w2 ++ csS ++ w1 ++ csS ++ ksS ++ dk ++ atS ++ dO)] (by kernel_rfl)
    ⟨by (try simp only [y1, y2, y3, y4, y5, y6, y7]); omega, rfl, by (try simp only [y1, y2, y3, y4, y5, y6, y7]); omega, rfl, by (try simp only [y1, y2, y3, y4, y5, y6, y7]); omega, rfl, by (try simp only [y1, y2, y3, y4, y5, y6, y7]); omega, rfl, by (try simp only [y1, y2, y3, y4, y5, y6, y7]); omega, rfl, by (try simp only [y1, y2, y3, y4, y5, y6, y7]); omega, rfl, by (try simp only [y1, y2, y3, y4, y5, y6, y7]); omega, rfl, by (try simp only [y1, y2, y3, y4, y5, y6, y7]); omega, rfl, by (try simp only [y1, y2, y3, y4, y5, y6, y7]); omega, rfl, by (try simp only [y1, y2, y3, y4, y5, y6, y7]); omega, rfl, by (try simp only [y1, y2, y3, y4, y5, y6, y7]); omega, rfl, by (try simp only [y1, y2, y3, y4, y5, y6, y7]); omega, rfl, by (try simp only [y1, y2, y3, y4, y5, y6, y7]); omega, rfl, by (try simp only [y1, y2, y3, y4, y5, y6, y7]); omega, rfl, by (try simp only [y1, y2, y3, y4, y5, y6, y7]); omega, rfl, by (try simp only [y1, y2, y3, y4, y5, y6, y7]); omega, rfl, by (try simp only [y1, y2, y3, y4, y5, y6, y7]); omega, rfl, hdk _ _, by (try simp only [y1, y2, y3, y4, y5, y6, y7]); omega, rfl, by (try simp only [y1, y2, y3, y4, y5, y6, y7]); omega, rfl, hdo _ _, by (try simp only [y1, y2, y3, y4, y5, y6, y7]); omega, rfl, trivial⟩
--> rl8
theorem rl_is8 (w1 w2 w3 w4 w5 w6 w7 w8 : ByteArray) (dk dO : ByteArray) : (((((((((((((((((((((⟨#[]⟩ : ByteArray) ++ w8) ++ csS) ++ w7) ++ csS) ++ w6) ++ csS) ++ w5) ++ csS) ++ w4) ++ csS) ++ w3) ++ csS) ++ w2) ++ csS) ++ w1) ++ csS) ++ ksS) ++ dk) ++ atS) ++ dO) = tN w8 (tN w7 (tN w6 (tN w5 (tN w4 (tN w3 (tN w2 (tN w1 (tF dk dO)))))))) := by
  unfold tF; simp only [tN, ByteArray.append_assoc, emp]
--< eq8
theorem eq8 (lf : Nat) (kind : Int) (off : Int) (r0 : List AObj) (W : AObj) (w1 : ByteArray) (w2 : ByteArray) (w3 : ByteArray) (w4 : ByteArray) (w5 : ByteArray) (w6 : ByteArray) (w7 : ByteArray) (w8 : ByteArray) :
    evB (lf + 100) 19 19 [sp 28 8 8, sp 27 8 8] (kpN8 kind off r0 W w1 w2 w3 w4 w5 w6 w7 w8) = some (vb true, (kpN8 kind off r0 W w1 w2 w3 w4 w5 w6 w7 w8), []) :=
  Dg.evCall_hint (hs' := []) (hs := [qv 19 24 (vb false),
    qv 19 24 (vb false),
    qv 19 24 (vb false),
    qv 19 24 (vb false),
    qv 19 24 (vb false),
    qv 19 24 (vb false),
    qv 19 24 (vb false),
    qv 19 24 (vb false)])
    [(vb !ByteArray.toList w8 == ByteArray.toList w8) = vb false,
    (vb !ByteArray.toList w7 == ByteArray.toList w7) = vb false,
    (vb !ByteArray.toList w6 == ByteArray.toList w6) = vb false,
    (vb !ByteArray.toList w5 == ByteArray.toList w5) = vb false,
    (vb !ByteArray.toList w4 == ByteArray.toList w4) = vb false,
    (vb !ByteArray.toList w3 == ByteArray.toList w3) = vb false,
    (vb !ByteArray.toList w2 == ByteArray.toList w2) = vb false,
    (vb !ByteArray.toList w1 == ByteArray.toList w1) = vb false] (by kernel_rfl)
    ⟨neS _, neS _, neS _, neS _, neS _, neS _, neS _, neS _, trivial⟩
--> eq8
--< srt8
theorem srt8 (lf : Nat) (kind : Int) (off : Int) (n : Int) (r0 : List AObj) (W : AObj) (w1 : ByteArray) (w2 : ByteArray) (w3 : ByteArray) (w4 : ByteArray) (w5 : ByteArray) (w6 : ByteArray) (w7 : ByteArray) (w8 : ByteArray) (d : ByteArray) (hd : ByteArray.size d ≤ 20) (hs : ∀ (m : Nat), evB lf (m + 1) 34 [vi n] (kpN8 kind off r0 W w1 w2 w3 w4 w5 w6 w7 w8) = some (vs d, (kpN8 kind off r0 W w1 w2 w3 w4 w5 w6 w7 w8), [])) :
    evB lf 19 20 [vi n] (kpN8 kind off r0 W w1 w2 w3 w4 w5 w6 w7 w8) = some (vs (ksS ++ d), (kpN8 kind off r0 W w1 w2 w3 w4 w5 w6 w7 w8), []) :=
  Dg.evCall_hint (hs' := []) (hs := [qc 34 (vs d) (kpN8 kind off r0 W w1 w2 w3 w4 w5 w6 w7 w8) [],
    qs 20 5 (vs (ksS ++ d))])
    [evB lf 18 34 [vi n] (kpN8 kind off r0 W w1 w2 w3 w4 w5 w6 w7 w8) = some (vs d, (kpN8 kind off r0 W w1 w2 w3 w4 w5 w6 w7 w8), []),
    ByteArray.size ksS + ByteArray.size d ≤ (9223372036854775807 : Nat),
    vs (ksS ++ d) = vs (ksS ++ d)] (by kernel_rfl)
    ⟨hs _, by (try simp only [y1, y2, y3, y4, y5, y6, y7]); omega, rfl, trivial⟩
--> srt8
end Go.Proofs.YtpgddboigegplaaGreatDoor.base
