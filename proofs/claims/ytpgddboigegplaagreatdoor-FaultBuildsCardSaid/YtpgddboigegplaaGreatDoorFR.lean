/- The row 'FaultBuilds' as it is run, by the number of notes. The row 'FaultBuilds' as it is run, by the number of notes. -/
import Derived.Test.YtpgddboigegplaaGreatDoorRows
import Derived.Test.YtpgddboigegplaaGreatDoorFT
namespace Go.Proofs.YtpgddboigegplaaGreatDoor.base
open Go.Dg (junk St Ex Ev Hint evCall evCallS evCode evCodeK innerKp evCodeS evLoop cleanSt ue bodied noOver sbOf headOf tailOf bodyOf rAssign rBody lBody Flats flatOver Heap AObj SCall Law ofLaw Fix)
set_option linter.unusedVariables false
set_option linter.unusedSimpArgs false

--< fbt0
theorem fbt0 (lf : Nat) (kind : Int) (off : Int) (other : Int) (r0 : List AObj) (ys : List Value) (e : Nat) (l : Nat) (cap : Nat) (t : ByteArray) (d : ByteArray) (hk : kind ≠ 0) (ho : other = kind) (hkn : evB lf 19 7 [] (hZ ys e r0) = some (vb true, (hZ ys e r0), [])) (hh : evB lf 19 8 [aW l cap] (hZ ys e r0) = some (vb false, (hZ ys e r0), [])) (hb : evB lf 19 17 [vi kind, vi off, aW l cap] (hZ ys e r0) = some (Value.tuple #[vf 70 (pt 18), Value.slice none 0 0], kpH0 kind off r0 (oW ys e), [])) (h11 : evB lf 19 11 [vf 70 (pt 18)] (kpH0 kind off r0 (oW ys e)) = some (Value.tuple #[vi kind, vb true], kpH0 kind off r0 (oW ys e), [])) (h12 : evB lf 19 12 [vf 70 (pt 18)] (kpH0 kind off r0 (oW ys e)) = some (Value.tuple #[vi off, vb true], kpH0 kind off r0 (oW ys e), [])) (h13 : evB lf 19 13 [vf 70 (pt 18)] (kpH0 kind off r0 (oW ys e)) = some (Value.tuple #[vs t, vb true], kpH0 kind off r0 (oW ys e), [])) (h18 : evB lf 19 18 [Value.slice none 0 0, vi kind, vi off] (kpH0 kind off r0 (oW ys e)) = some (vs t, kpH0 kind off r0 (oW ys e), [])) (hE : evB lf 19 128 [pt 18] (kpH0 kind off r0 (oW ys e)) = some (vs t, kpH0 kind off r0 (oW ys e), [])) (h16 : evB lf 19 16 [vf 70 (pt 18)] (kpH0 kind off r0 (oW ys e)) = some (Value.slice none 0 0, kpH0 kind off r0 (oW ys e), [])) (h19 : evB lf 19 19 [Value.slice none 0 0, Value.slice none 0 0] dH = some (vb true, dH, [])) (hi1 : evB lf 19 15 [vf 70 (pt 18), vi kind] (kpH0 kind off r0 (oW ys e)) = some (vb true, kpH0 kind off r0 (oW ys e), [])) (hi2 : evB lf 19 15 [vf 70 (pt 18), vi other] (kpH0 kind off r0 (oW ys e)) = some (vb true, kpH0 kind off r0 (oW ys e), [])) (hS : evB lf 19 20 [vi other] (kpH0 kind off r0 (oW ys e)) = some (vs (ksS ++ d), kpH0 kind off r0 (oW ys e), [])) (hN : ∀ (H : Heap), evB lf 19 21 [vi other] H = some (vs d, H, [])) (hd : ByteArray.size d ≤ 20) :
    evB lf 20 4 [vi kind, vi other, vi off, aW l cap] (hZ ys e r0) = some (vb true, (hZ ys e r0), []) :=
  Dg.evCall_hint (hs' := []) (hs := [qc 7 (vb true) (hZ ys e r0) [],
    qc 8 (vb false) (hZ ys e r0) [],
    qc 17 (Value.tuple { toList := [vf 70 (pt 18), Value.slice none 0 0] }) (kpH0 kind off r0 (oW ys e)) [],
    qv 4 30 (vb false),
    qc 11 (Value.tuple #[vi kind, vb true]) (kpH0 kind off r0 (oW ys e)) [],
    qc 12 (Value.tuple #[vi off, vb true]) (kpH0 kind off r0 (oW ys e)) [],
    qc 13 (Value.tuple #[vs t, vb true]) (kpH0 kind off r0 (oW ys e)) [],
    qc 18 (vs t) (kpH0 kind off r0 (oW ys e)) [],
    qv 4 56 (vb true),
    qv 4 63 (vb true),
    qv 4 74 (vb true),
    qc 128 (vs t) (kpH0 kind off r0 (oW ys e)) [],
    qv 4 80 (vb true),
    qc 16 (Value.slice none 0 0) (kpH0 kind off r0 (oW ys e)) [],
    qc 19 (vb true) dH [],
    qc 15 (vb true) (kpH0 kind off r0 (oW ys e)) [],
    qc 15 (vb true) (kpH0 kind off r0 (oW ys e)) [],
    qv 4 99 (vb true),
    qc 20 (vs (ksS ++ d)) (kpH0 kind off r0 (oW ys e)) [],
    qc 21 (vs d) (kpH0 kind off r0 (oW ys e)) [],
    qs 4 107 (vs (ksS ++ d)),
    qv 4 108 (vb true)])
    [evB lf 19 7 [] (hZ ys e r0) = some (vb true, (hZ ys e r0), []),
    evB lf 19 8 [aW l cap] (hZ ys e r0) = some (vb false, (hZ ys e r0), []),
    evB lf 19 17 [vi kind, vi off, aW l cap] (hZ ys e r0) = some (Value.tuple { toList := [vf 70 (pt 18), Value.slice none 0 0] }, kpH0 kind off r0 (oW ys e), []),
    vb (kind == (0 : Int)) = vb false,
    evB lf 19 11 [vf 70 (pt 18)] (kpH0 kind off r0 (oW ys e)) = some (Value.tuple #[vi kind, vb true], kpH0 kind off r0 (oW ys e), []),
    evB lf 19 12 [vf 70 (pt 18)] (kpH0 kind off r0 (oW ys e)) = some (Value.tuple #[vi off, vb true], kpH0 kind off r0 (oW ys e), []),
    evB lf 19 13 [vf 70 (pt 18)] (kpH0 kind off r0 (oW ys e)) = some (Value.tuple #[vs t, vb true], kpH0 kind off r0 (oW ys e), []),
    evB lf 19 18 [Value.slice none 0 0, vi kind, vi off] (kpH0 kind off r0 (oW ys e)) = some (vs t, kpH0 kind off r0 (oW ys e), []),
    vb (kind == kind) = vb true,
    vb (off == off) = vb true,
    vb (ByteArray.toList t == ByteArray.toList t) = vb true,
    evB lf 19 128 [pt 18] (kpH0 kind off r0 (oW ys e)) = some (vs t, kpH0 kind off r0 (oW ys e), []),
    vb (ByteArray.toList t == ByteArray.toList t) = vb true,
    evB lf 19 16 [vf 70 (pt 18)] (kpH0 kind off r0 (oW ys e)) = some (Value.slice none 0 0, kpH0 kind off r0 (oW ys e), []),
    evB lf 19 19 [Value.slice none 0 0, Value.slice none 0 0] dH = some (vb true, dH, []),
    evB lf 19 15 [vf 70 (pt 18), vi kind] (kpH0 kind off r0 (oW ys e)) = some (vb true, kpH0 kind off r0 (oW ys e), []),
    evB lf 19 15 [vf 70 (pt 18), vi other] (kpH0 kind off r0 (oW ys e)) = some (vb true, kpH0 kind off r0 (oW ys e), []),
    vb (other == kind) = vb true,
    evB lf 19 20 [vi other] (kpH0 kind off r0 (oW ys e)) = some (vs (ksS ++ d), kpH0 kind off r0 (oW ys e), []),
    evB lf 19 21 [vi other] (kpH0 kind off r0 (oW ys e)) = some (vs d, kpH0 kind off r0 (oW ys e), []),
    ByteArray.size ksS + ByteArray.size d ≤ (9223372036854775807 : Nat),
    vs (ksS ++ d) = vs (ksS ++ d),
    vb (ByteArray.toList (ksS ++ d) == ByteArray.toList (ksS ++ d)) = vb true] (by kernel_rfl)
    ⟨hkn, hh, hb, Dg.vfalse (by omega), h11, h12, h13, h18, Dg.vtrue (by omega), Dg.vtrue (by omega), eqS _, hE, eqS _, h16, h19, hi1, hi2, Dg.vtrue (by omega), hS, hN _, by (try simp only [y1, y4]); omega, rfl, eqS _, trivial⟩
--> fbt0
--< fbt1
theorem fbt1 (lf : Nat) (kind : Int) (off : Int) (other : Int) (r0 : List AObj) (ys : List Value) (e : Nat) (l : Nat) (cap : Nat) (w1 : ByteArray) (t : ByteArray) (d : ByteArray) (hk : kind ≠ 0) (ho : other = kind) (hkn : evB lf 19 7 [] (hZ ys e r0) = some (vb true, (hZ ys e r0), [])) (hh : evB lf 19 8 [aW l cap] (hZ ys e r0) = some (vb false, (hZ ys e r0), [])) (hb : evB lf 19 17 [vi kind, vi off, aW l cap] (hZ ys e r0) = some (Value.tuple #[vf 67 (pt 18), sq 20 1 1], kpH1 kind off r0 (oW ys e) w1, [])) (h11 : evB lf 19 11 [vf 67 (pt 18)] (kpH1 kind off r0 (oW ys e) w1) = some (Value.tuple #[vi kind, vb true], kpH1 kind off r0 (oW ys e) w1, [])) (h12 : evB lf 19 12 [vf 67 (pt 18)] (kpH1 kind off r0 (oW ys e) w1) = some (Value.tuple #[vi off, vb true], kpH1 kind off r0 (oW ys e) w1, [])) (h13 : evB lf 19 13 [vf 67 (pt 18)] (kpH1 kind off r0 (oW ys e) w1) = some (Value.tuple #[vs t, vb true], kpH1 kind off r0 (oW ys e) w1, [])) (h18 : evB lf 19 18 [sq 20 1 1, vi kind, vi off] (kpH1 kind off r0 (oW ys e) w1) = some (vs t, kpH1 kind off r0 (oW ys e) w1, [])) (hE : evB lf 19 126 [pt 18] (kpH1 kind off r0 (oW ys e) w1) = some (vs t, kpH1 kind off r0 (oW ys e) w1, [])) (h16 : evB lf 19 16 [vf 67 (pt 18)] (kpH1 kind off r0 (oW ys e) w1) = some (sp 21 1 1, kpN1 kind off r0 (oW ys e) w1, [])) (h19 : evB lf 19 19 [sp 21 1 1, sq 20 1 1] (kpN1 kind off r0 (oW ys e) w1) = some (vb true, kpN1 kind off r0 (oW ys e) w1, [])) (hi1 : evB lf 19 15 [vf 67 (pt 18), vi kind] (kpN1 kind off r0 (oW ys e) w1) = some (vb true, kpN1 kind off r0 (oW ys e) w1, [])) (hi2 : evB lf 19 15 [vf 67 (pt 18), vi other] (kpN1 kind off r0 (oW ys e) w1) = some (vb true, kpN1 kind off r0 (oW ys e) w1, [])) (hS : evB lf 19 20 [vi other] (kpN1 kind off r0 (oW ys e) w1) = some (vs (ksS ++ d), kpN1 kind off r0 (oW ys e) w1, [])) (hN : ∀ (H : Heap), evB lf 19 21 [vi other] H = some (vs d, H, [])) (hd : ByteArray.size d ≤ 20) :
    evB lf 20 4 [vi kind, vi other, vi off, aW l cap] (hZ ys e r0) = some (vb true, (hZ ys e r0), []) :=
  Dg.evCall_hint (hs' := []) (hs := [qc 7 (vb true) (hZ ys e r0) [],
    qc 8 (vb false) (hZ ys e r0) [],
    qc 17 (Value.tuple { toList := [vf 67 (pt 18), sq 20 1 1] }) (kpH1 kind off r0 (oW ys e) w1) [],
    qv 4 30 (vb false),
    qc 11 (Value.tuple #[vi kind, vb true]) (kpH1 kind off r0 (oW ys e) w1) [],
    qc 12 (Value.tuple #[vi off, vb true]) (kpH1 kind off r0 (oW ys e) w1) [],
    qc 13 (Value.tuple #[vs t, vb true]) (kpH1 kind off r0 (oW ys e) w1) [],
    qc 18 (vs t) (kpH1 kind off r0 (oW ys e) w1) [],
    qv 4 56 (vb true),
    qv 4 63 (vb true),
    qv 4 74 (vb true),
    qc 126 (vs t) (kpH1 kind off r0 (oW ys e) w1) [],
    qv 4 80 (vb true),
    qc 16 (sp 21 1 1) (kpN1 kind off r0 (oW ys e) w1) [],
    qc 19 (vb true) (kpN1 kind off r0 (oW ys e) w1) [],
    qc 15 (vb true) (kpN1 kind off r0 (oW ys e) w1) [],
    qc 15 (vb true) (kpN1 kind off r0 (oW ys e) w1) [],
    qv 4 99 (vb true),
    qc 20 (vs (ksS ++ d)) (kpN1 kind off r0 (oW ys e) w1) [],
    qc 21 (vs d) (kpN1 kind off r0 (oW ys e) w1) [],
    qs 4 107 (vs (ksS ++ d)),
    qv 4 108 (vb true)])
    [evB lf 19 7 [] (hZ ys e r0) = some (vb true, (hZ ys e r0), []),
    evB lf 19 8 [aW l cap] (hZ ys e r0) = some (vb false, (hZ ys e r0), []),
    evB lf 19 17 [vi kind, vi off, aW l cap] (hZ ys e r0) = some (Value.tuple { toList := [vf 67 (pt 18), sq 20 1 1] }, kpH1 kind off r0 (oW ys e) w1, []),
    vb (kind == (0 : Int)) = vb false,
    evB lf 19 11 [vf 67 (pt 18)] (kpH1 kind off r0 (oW ys e) w1) = some (Value.tuple #[vi kind, vb true], kpH1 kind off r0 (oW ys e) w1, []),
    evB lf 19 12 [vf 67 (pt 18)] (kpH1 kind off r0 (oW ys e) w1) = some (Value.tuple #[vi off, vb true], kpH1 kind off r0 (oW ys e) w1, []),
    evB lf 19 13 [vf 67 (pt 18)] (kpH1 kind off r0 (oW ys e) w1) = some (Value.tuple #[vs t, vb true], kpH1 kind off r0 (oW ys e) w1, []),
    evB lf 19 18 [sq 20 1 1, vi kind, vi off] (kpH1 kind off r0 (oW ys e) w1) = some (vs t, kpH1 kind off r0 (oW ys e) w1, []),
    vb (kind == kind) = vb true,
    vb (off == off) = vb true,
    vb (ByteArray.toList t == ByteArray.toList t) = vb true,
    evB lf 19 126 [pt 18] (kpH1 kind off r0 (oW ys e) w1) = some (vs t, kpH1 kind off r0 (oW ys e) w1, []),
    vb (ByteArray.toList t == ByteArray.toList t) = vb true,
    evB lf 19 16 [vf 67 (pt 18)] (kpH1 kind off r0 (oW ys e) w1) = some (sp 21 1 1, kpN1 kind off r0 (oW ys e) w1, []),
    evB lf 19 19 [sp 21 1 1, sq 20 1 1] (kpN1 kind off r0 (oW ys e) w1) = some (vb true, kpN1 kind off r0 (oW ys e) w1, []),
    evB lf 19 15 [vf 67 (pt 18), vi kind] (kpN1 kind off r0 (oW ys e) w1) = some (vb true, kpN1 kind off r0 (oW ys e) w1, []),
    evB lf 19 15 [vf 67 (pt 18), vi other] (kpN1 kind off r0 (oW ys e) w1) = some (vb true, kpN1 kind off r0 (oW ys e) w1, []),
    vb (other == kind) = vb true,
    evB lf 19 20 [vi other] (kpN1 kind off r0 (oW ys e) w1) = some (vs (ksS ++ d), kpN1 kind off r0 (oW ys e) w1, []),
    evB lf 19 21 [vi other] (kpN1 kind off r0 (oW ys e) w1) = some (vs d, kpN1 kind off r0 (oW ys e) w1, []),
    ByteArray.size ksS + ByteArray.size d ≤ (9223372036854775807 : Nat),
    vs (ksS ++ d) = vs (ksS ++ d),
    vb (ByteArray.toList (ksS ++ d) == ByteArray.toList (ksS ++ d)) = vb true] (by kernel_rfl)
    ⟨hkn, hh, hb, Dg.vfalse (by omega), h11, h12, h13, h18, Dg.vtrue (by omega), Dg.vtrue (by omega), eqS _, hE, eqS _, h16, h19, hi1, hi2, Dg.vtrue (by omega), hS, hN _, by (try simp only [y1, y4]); omega, rfl, eqS _, trivial⟩
--> fbt1
--< fbt2
theorem fbt2 (lf : Nat) (kind : Int) (off : Int) (other : Int) (r0 : List AObj) (ys : List Value) (e : Nat) (l : Nat) (cap : Nat) (w1 : ByteArray) (w2 : ByteArray) (t : ByteArray) (d : ByteArray) (hk : kind ≠ 0) (ho : other = kind) (hkn : evB lf 19 7 [] (hZ ys e r0) = some (vb true, (hZ ys e r0), [])) (hh : evB lf 19 8 [aW l cap] (hZ ys e r0) = some (vb false, (hZ ys e r0), [])) (hb : evB lf 19 17 [vi kind, vi off, aW l cap] (hZ ys e r0) = some (Value.tuple #[vf 67 (pt 18), sp 21 2 2], kpH2 kind off r0 (oW ys e) w1 w2, [])) (h11 : evB lf 19 11 [vf 67 (pt 18)] (kpH2 kind off r0 (oW ys e) w1 w2) = some (Value.tuple #[vi kind, vb true], kpH2 kind off r0 (oW ys e) w1 w2, [])) (h12 : evB lf 19 12 [vf 67 (pt 18)] (kpH2 kind off r0 (oW ys e) w1 w2) = some (Value.tuple #[vi off, vb true], kpH2 kind off r0 (oW ys e) w1 w2, [])) (h13 : evB lf 19 13 [vf 67 (pt 18)] (kpH2 kind off r0 (oW ys e) w1 w2) = some (Value.tuple #[vs t, vb true], kpH2 kind off r0 (oW ys e) w1 w2, [])) (h18 : evB lf 19 18 [sp 21 2 2, vi kind, vi off] (kpH2 kind off r0 (oW ys e) w1 w2) = some (vs t, kpH2 kind off r0 (oW ys e) w1 w2, [])) (hE : evB lf 19 126 [pt 18] (kpH2 kind off r0 (oW ys e) w1 w2) = some (vs t, kpH2 kind off r0 (oW ys e) w1 w2, [])) (h16 : evB lf 19 16 [vf 67 (pt 18)] (kpH2 kind off r0 (oW ys e) w1 w2) = some (sp 22 2 2, kpN2 kind off r0 (oW ys e) w1 w2, [])) (h19 : evB lf 19 19 [sp 22 2 2, sp 21 2 2] (kpN2 kind off r0 (oW ys e) w1 w2) = some (vb true, kpN2 kind off r0 (oW ys e) w1 w2, [])) (hi1 : evB lf 19 15 [vf 67 (pt 18), vi kind] (kpN2 kind off r0 (oW ys e) w1 w2) = some (vb true, kpN2 kind off r0 (oW ys e) w1 w2, [])) (hi2 : evB lf 19 15 [vf 67 (pt 18), vi other] (kpN2 kind off r0 (oW ys e) w1 w2) = some (vb true, kpN2 kind off r0 (oW ys e) w1 w2, [])) (hS : evB lf 19 20 [vi other] (kpN2 kind off r0 (oW ys e) w1 w2) = some (vs (ksS ++ d), kpN2 kind off r0 (oW ys e) w1 w2, [])) (hN : ∀ (H : Heap), evB lf 19 21 [vi other] H = some (vs d, H, [])) (hd : ByteArray.size d ≤ 20) :
    evB lf 20 4 [vi kind, vi other, vi off, aW l cap] (hZ ys e r0) = some (vb true, (hZ ys e r0), []) :=
  Dg.evCall_hint (hs' := []) (hs := [qc 7 (vb true) (hZ ys e r0) [],
    qc 8 (vb false) (hZ ys e r0) [],
    qc 17 (Value.tuple { toList := [vf 67 (pt 18), sp 21 2 2] }) (kpH2 kind off r0 (oW ys e) w1 w2) [],
    qv 4 30 (vb false),
    qc 11 (Value.tuple #[vi kind, vb true]) (kpH2 kind off r0 (oW ys e) w1 w2) [],
    qc 12 (Value.tuple #[vi off, vb true]) (kpH2 kind off r0 (oW ys e) w1 w2) [],
    qc 13 (Value.tuple #[vs t, vb true]) (kpH2 kind off r0 (oW ys e) w1 w2) [],
    qc 18 (vs t) (kpH2 kind off r0 (oW ys e) w1 w2) [],
    qv 4 56 (vb true),
    qv 4 63 (vb true),
    qv 4 74 (vb true),
    qc 126 (vs t) (kpH2 kind off r0 (oW ys e) w1 w2) [],
    qv 4 80 (vb true),
    qc 16 (sp 22 2 2) (kpN2 kind off r0 (oW ys e) w1 w2) [],
    qc 19 (vb true) (kpN2 kind off r0 (oW ys e) w1 w2) [],
    qc 15 (vb true) (kpN2 kind off r0 (oW ys e) w1 w2) [],
    qc 15 (vb true) (kpN2 kind off r0 (oW ys e) w1 w2) [],
    qv 4 99 (vb true),
    qc 20 (vs (ksS ++ d)) (kpN2 kind off r0 (oW ys e) w1 w2) [],
    qc 21 (vs d) (kpN2 kind off r0 (oW ys e) w1 w2) [],
    qs 4 107 (vs (ksS ++ d)),
    qv 4 108 (vb true)])
    [evB lf 19 7 [] (hZ ys e r0) = some (vb true, (hZ ys e r0), []),
    evB lf 19 8 [aW l cap] (hZ ys e r0) = some (vb false, (hZ ys e r0), []),
    evB lf 19 17 [vi kind, vi off, aW l cap] (hZ ys e r0) = some (Value.tuple { toList := [vf 67 (pt 18), sp 21 2 2] }, kpH2 kind off r0 (oW ys e) w1 w2, []),
    vb (kind == (0 : Int)) = vb false,
    evB lf 19 11 [vf 67 (pt 18)] (kpH2 kind off r0 (oW ys e) w1 w2) = some (Value.tuple #[vi kind, vb true], kpH2 kind off r0 (oW ys e) w1 w2, []),
    evB lf 19 12 [vf 67 (pt 18)] (kpH2 kind off r0 (oW ys e) w1 w2) = some (Value.tuple #[vi off, vb true], kpH2 kind off r0 (oW ys e) w1 w2, []),
    evB lf 19 13 [vf 67 (pt 18)] (kpH2 kind off r0 (oW ys e) w1 w2) = some (Value.tuple #[vs t, vb true], kpH2 kind off r0 (oW ys e) w1 w2, []),
    evB lf 19 18 [sp 21 2 2, vi kind, vi off] (kpH2 kind off r0 (oW ys e) w1 w2) = some (vs t, kpH2 kind off r0 (oW ys e) w1 w2, []),
    vb (kind == kind) = vb true,
    vb (off == off) = vb true,
    vb (ByteArray.toList t == ByteArray.toList t) = vb true,
    evB lf 19 126 [pt 18] (kpH2 kind off r0 (oW ys e) w1 w2) = some (vs t, kpH2 kind off r0 (oW ys e) w1 w2, []),
    vb (ByteArray.toList t == ByteArray.toList t) = vb true,
    evB lf 19 16 [vf 67 (pt 18)] (kpH2 kind off r0 (oW ys e) w1 w2) = some (sp 22 2 2, kpN2 kind off r0 (oW ys e) w1 w2, []),
    evB lf 19 19 [sp 22 2 2, sp 21 2 2] (kpN2 kind off r0 (oW ys e) w1 w2) = some (vb true, kpN2 kind off r0 (oW ys e) w1 w2, []),
    evB lf 19 15 [vf 67 (pt 18), vi kind] (kpN2 kind off r0 (oW ys e) w1 w2) = some (vb true, kpN2 kind off r0 (oW ys e) w1 w2, []),
    evB lf 19 15 [vf 67 (pt 18), vi other] (kpN2 kind off r0 (oW ys e) w1 w2) = some (vb true, kpN2 kind off r0 (oW ys e) w1 w2, []),
    vb (other == kind) = vb true,
    evB lf 19 20 [vi other] (kpN2 kind off r0 (oW ys e) w1 w2) = some (vs (ksS ++ d), kpN2 kind off r0 (oW ys e) w1 w2, []),
    evB lf 19 21 [vi other] (kpN2 kind off r0 (oW ys e) w1 w2) = some (vs d, kpN2 kind off r0 (oW ys e) w1 w2, []),
    ByteArray.size ksS + ByteArray.size d ≤ (9223372036854775807 : Nat),
    vs (ksS ++ d) = vs (ksS ++ d),
    vb (ByteArray.toList (ksS ++ d) == ByteArray.toList (ksS ++ d)) = vb true] (by kernel_rfl)
    ⟨hkn, hh, hb, Dg.vfalse (by omega), h11, h12, h13, h18, Dg.vtrue (by omega), Dg.vtrue (by omega), eqS _, hE, eqS _, h16, h19, hi1, hi2, Dg.vtrue (by omega), hS, hN _, by (try simp only [y1, y4]); omega, rfl, eqS _, trivial⟩
--> fbt2
--< fbt3
theorem fbt3 (lf : Nat) (kind : Int) (off : Int) (other : Int) (r0 : List AObj) (ys : List Value) (e : Nat) (l : Nat) (cap : Nat) (w1 : ByteArray) (w2 : ByteArray) (w3 : ByteArray) (t : ByteArray) (d : ByteArray) (hk : kind ≠ 0) (ho : other = kind) (hkn : evB lf 19 7 [] (hZ ys e r0) = some (vb true, (hZ ys e r0), [])) (hh : evB lf 19 8 [aW l cap] (hZ ys e r0) = some (vb false, (hZ ys e r0), [])) (hb : evB lf 19 17 [vi kind, vi off, aW l cap] (hZ ys e r0) = some (Value.tuple #[vf 67 (pt 18), sp 22 3 3], kpH3 kind off r0 (oW ys e) w1 w2 w3, [])) (h11 : evB lf 19 11 [vf 67 (pt 18)] (kpH3 kind off r0 (oW ys e) w1 w2 w3) = some (Value.tuple #[vi kind, vb true], kpH3 kind off r0 (oW ys e) w1 w2 w3, [])) (h12 : evB lf 19 12 [vf 67 (pt 18)] (kpH3 kind off r0 (oW ys e) w1 w2 w3) = some (Value.tuple #[vi off, vb true], kpH3 kind off r0 (oW ys e) w1 w2 w3, [])) (h13 : evB lf 19 13 [vf 67 (pt 18)] (kpH3 kind off r0 (oW ys e) w1 w2 w3) = some (Value.tuple #[vs t, vb true], kpH3 kind off r0 (oW ys e) w1 w2 w3, [])) (h18 : evB lf 19 18 [sp 22 3 3, vi kind, vi off] (kpH3 kind off r0 (oW ys e) w1 w2 w3) = some (vs t, kpH3 kind off r0 (oW ys e) w1 w2 w3, [])) (hE : evB lf 19 126 [pt 18] (kpH3 kind off r0 (oW ys e) w1 w2 w3) = some (vs t, kpH3 kind off r0 (oW ys e) w1 w2 w3, [])) (h16 : evB lf 19 16 [vf 67 (pt 18)] (kpH3 kind off r0 (oW ys e) w1 w2 w3) = some (sp 23 3 3, kpN3 kind off r0 (oW ys e) w1 w2 w3, [])) (h19 : evB lf 19 19 [sp 23 3 3, sp 22 3 3] (kpN3 kind off r0 (oW ys e) w1 w2 w3) = some (vb true, kpN3 kind off r0 (oW ys e) w1 w2 w3, [])) (hi1 : evB lf 19 15 [vf 67 (pt 18), vi kind] (kpN3 kind off r0 (oW ys e) w1 w2 w3) = some (vb true, kpN3 kind off r0 (oW ys e) w1 w2 w3, [])) (hi2 : evB lf 19 15 [vf 67 (pt 18), vi other] (kpN3 kind off r0 (oW ys e) w1 w2 w3) = some (vb true, kpN3 kind off r0 (oW ys e) w1 w2 w3, [])) (hS : evB lf 19 20 [vi other] (kpN3 kind off r0 (oW ys e) w1 w2 w3) = some (vs (ksS ++ d), kpN3 kind off r0 (oW ys e) w1 w2 w3, [])) (hN : ∀ (H : Heap), evB lf 19 21 [vi other] H = some (vs d, H, [])) (hd : ByteArray.size d ≤ 20) :
    evB lf 20 4 [vi kind, vi other, vi off, aW l cap] (hZ ys e r0) = some (vb true, (hZ ys e r0), []) :=
  Dg.evCall_hint (hs' := []) (hs := [qc 7 (vb true) (hZ ys e r0) [],
    qc 8 (vb false) (hZ ys e r0) [],
    qc 17 (Value.tuple { toList := [vf 67 (pt 18), sp 22 3 3] }) (kpH3 kind off r0 (oW ys e) w1 w2 w3) [],
    qv 4 30 (vb false),
    qc 11 (Value.tuple #[vi kind, vb true]) (kpH3 kind off r0 (oW ys e) w1 w2 w3) [],
    qc 12 (Value.tuple #[vi off, vb true]) (kpH3 kind off r0 (oW ys e) w1 w2 w3) [],
    qc 13 (Value.tuple #[vs t, vb true]) (kpH3 kind off r0 (oW ys e) w1 w2 w3) [],
    qc 18 (vs t) (kpH3 kind off r0 (oW ys e) w1 w2 w3) [],
    qv 4 56 (vb true),
    qv 4 63 (vb true),
    qv 4 74 (vb true),
    qc 126 (vs t) (kpH3 kind off r0 (oW ys e) w1 w2 w3) [],
    qv 4 80 (vb true),
    qc 16 (sp 23 3 3) (kpN3 kind off r0 (oW ys e) w1 w2 w3) [],
    qc 19 (vb true) (kpN3 kind off r0 (oW ys e) w1 w2 w3) [],
    qc 15 (vb true) (kpN3 kind off r0 (oW ys e) w1 w2 w3) [],
    qc 15 (vb true) (kpN3 kind off r0 (oW ys e) w1 w2 w3) [],
    qv 4 99 (vb true),
    qc 20 (vs (ksS ++ d)) (kpN3 kind off r0 (oW ys e) w1 w2 w3) [],
    qc 21 (vs d) (kpN3 kind off r0 (oW ys e) w1 w2 w3) [],
    qs 4 107 (vs (ksS ++ d)),
    qv 4 108 (vb true)])
    [evB lf 19 7 [] (hZ ys e r0) = some (vb true, (hZ ys e r0), []),
    evB lf 19 8 [aW l cap] (hZ ys e r0) = some (vb false, (hZ ys e r0), []),
    evB lf 19 17 [vi kind, vi off, aW l cap] (hZ ys e r0) = some (Value.tuple { toList := [vf 67 (pt 18), sp 22 3 3] }, kpH3 kind off r0 (oW ys e) w1 w2 w3, []),
    vb (kind == (0 : Int)) = vb false,
    evB lf 19 11 [vf 67 (pt 18)] (kpH3 kind off r0 (oW ys e) w1 w2 w3) = some (Value.tuple #[vi kind, vb true], kpH3 kind off r0 (oW ys e) w1 w2 w3, []),
    evB lf 19 12 [vf 67 (pt 18)] (kpH3 kind off r0 (oW ys e) w1 w2 w3) = some (Value.tuple #[vi off, vb true], kpH3 kind off r0 (oW ys e) w1 w2 w3, []),
    evB lf 19 13 [vf 67 (pt 18)] (kpH3 kind off r0 (oW ys e) w1 w2 w3) = some (Value.tuple #[vs t, vb true], kpH3 kind off r0 (oW ys e) w1 w2 w3, []),
    evB lf 19 18 [sp 22 3 3, vi kind, vi off] (kpH3 kind off r0 (oW ys e) w1 w2 w3) = some (vs t, kpH3 kind off r0 (oW ys e) w1 w2 w3, []),
    vb (kind == kind) = vb true,
    vb (off == off) = vb true,
    vb (ByteArray.toList t == ByteArray.toList t) = vb true,
    evB lf 19 126 [pt 18] (kpH3 kind off r0 (oW ys e) w1 w2 w3) = some (vs t, kpH3 kind off r0 (oW ys e) w1 w2 w3, []),
    vb (ByteArray.toList t == ByteArray.toList t) = vb true,
    evB lf 19 16 [vf 67 (pt 18)] (kpH3 kind off r0 (oW ys e) w1 w2 w3) = some (sp 23 3 3, kpN3 kind off r0 (oW ys e) w1 w2 w3, []),
    evB lf 19 19 [sp 23 3 3, sp 22 3 3] (kpN3 kind off r0 (oW ys e) w1 w2 w3) = some (vb true, kpN3 kind off r0 (oW ys e) w1 w2 w3, []),
    evB lf 19 15 [vf 67 (pt 18), vi kind] (kpN3 kind off r0 (oW ys e) w1 w2 w3) = some (vb true, kpN3 kind off r0 (oW ys e) w1 w2 w3, []),
    evB lf 19 15 [vf 67 (pt 18), vi other] (kpN3 kind off r0 (oW ys e) w1 w2 w3) = some (vb true, kpN3 kind off r0 (oW ys e) w1 w2 w3, []),
    vb (other == kind) = vb true,
    evB lf 19 20 [vi other] (kpN3 kind off r0 (oW ys e) w1 w2 w3) = some (vs (ksS ++ d), kpN3 kind off r0 (oW ys e) w1 w2 w3, []),
    evB lf 19 21 [vi other] (kpN3 kind off r0 (oW ys e) w1 w2 w3) = some (vs d, kpN3 kind off r0 (oW ys e) w1 w2 w3, []),
    ByteArray.size ksS + ByteArray.size d ≤ (9223372036854775807 : Nat),
    vs (ksS ++ d) = vs (ksS ++ d),
    vb (ByteArray.toList (ksS ++ d) == ByteArray.toList (ksS ++ d)) = vb true] (by kernel_rfl)
    ⟨hkn, hh, hb, Dg.vfalse (by omega), h11, h12, h13, h18, Dg.vtrue (by omega), Dg.vtrue (by omega), eqS _, hE, eqS _, h16, h19, hi1, hi2, Dg.vtrue (by omega), hS, hN _, by (try simp only [y1, y4]); omega, rfl, eqS _, trivial⟩
--> fbt3
--< fbt4
theorem fbt4 (lf : Nat) (kind : Int) (off : Int) (other : Int) (r0 : List AObj) (ys : List Value) (e : Nat) (l : Nat) (cap : Nat) (w1 : ByteArray) (w2 : ByteArray) (w3 : ByteArray) (w4 : ByteArray) (t : ByteArray) (d : ByteArray) (hk : kind ≠ 0) (ho : other = kind) (hkn : evB lf 19 7 [] (hZ ys e r0) = some (vb true, (hZ ys e r0), [])) (hh : evB lf 19 8 [aW l cap] (hZ ys e r0) = some (vb false, (hZ ys e r0), [])) (hb : evB lf 19 17 [vi kind, vi off, aW l cap] (hZ ys e r0) = some (Value.tuple #[vf 67 (pt 18), sp 23 4 4], kpH4 kind off r0 (oW ys e) w1 w2 w3 w4, [])) (h11 : evB lf 19 11 [vf 67 (pt 18)] (kpH4 kind off r0 (oW ys e) w1 w2 w3 w4) = some (Value.tuple #[vi kind, vb true], kpH4 kind off r0 (oW ys e) w1 w2 w3 w4, [])) (h12 : evB lf 19 12 [vf 67 (pt 18)] (kpH4 kind off r0 (oW ys e) w1 w2 w3 w4) = some (Value.tuple #[vi off, vb true], kpH4 kind off r0 (oW ys e) w1 w2 w3 w4, [])) (h13 : evB lf 19 13 [vf 67 (pt 18)] (kpH4 kind off r0 (oW ys e) w1 w2 w3 w4) = some (Value.tuple #[vs t, vb true], kpH4 kind off r0 (oW ys e) w1 w2 w3 w4, [])) (h18 : evB lf 19 18 [sp 23 4 4, vi kind, vi off] (kpH4 kind off r0 (oW ys e) w1 w2 w3 w4) = some (vs t, kpH4 kind off r0 (oW ys e) w1 w2 w3 w4, [])) (hE : evB lf 19 126 [pt 18] (kpH4 kind off r0 (oW ys e) w1 w2 w3 w4) = some (vs t, kpH4 kind off r0 (oW ys e) w1 w2 w3 w4, [])) (h16 : evB lf 19 16 [vf 67 (pt 18)] (kpH4 kind off r0 (oW ys e) w1 w2 w3 w4) = some (sp 24 4 4, kpN4 kind off r0 (oW ys e) w1 w2 w3 w4, [])) (h19 : evB lf 19 19 [sp 24 4 4, sp 23 4 4] (kpN4 kind off r0 (oW ys e) w1 w2 w3 w4) = some (vb true, kpN4 kind off r0 (oW ys e) w1 w2 w3 w4, [])) (hi1 : evB lf 19 15 [vf 67 (pt 18), vi kind] (kpN4 kind off r0 (oW ys e) w1 w2 w3 w4) = some (vb true, kpN4 kind off r0 (oW ys e) w1 w2 w3 w4, [])) (hi2 : evB lf 19 15 [vf 67 (pt 18), vi other] (kpN4 kind off r0 (oW ys e) w1 w2 w3 w4) = some (vb true, kpN4 kind off r0 (oW ys e) w1 w2 w3 w4, [])) (hS : evB lf 19 20 [vi other] (kpN4 kind off r0 (oW ys e) w1 w2 w3 w4) = some (vs (ksS ++ d), kpN4 kind off r0 (oW ys e) w1 w2 w3 w4, [])) (hN : ∀ (H : Heap), evB lf 19 21 [vi other] H = some (vs d, H, [])) (hd : ByteArray.size d ≤ 20) :
    evB lf 20 4 [vi kind, vi other, vi off, aW l cap] (hZ ys e r0) = some (vb true, (hZ ys e r0), []) :=
  Dg.evCall_hint (hs' := []) (hs := [qc 7 (vb true) (hZ ys e r0) [],
    qc 8 (vb false) (hZ ys e r0) [],
    qc 17 (Value.tuple { toList := [vf 67 (pt 18), sp 23 4 4] }) (kpH4 kind off r0 (oW ys e) w1 w2 w3 w4) [],
    qv 4 30 (vb false),
    qc 11 (Value.tuple #[vi kind, vb true]) (kpH4 kind off r0 (oW ys e) w1 w2 w3 w4) [],
    qc 12 (Value.tuple #[vi off, vb true]) (kpH4 kind off r0 (oW ys e) w1 w2 w3 w4) [],
    qc 13 (Value.tuple #[vs t, vb true]) (kpH4 kind off r0 (oW ys e) w1 w2 w3 w4) [],
    qc 18 (vs t) (kpH4 kind off r0 (oW ys e) w1 w2 w3 w4) [],
    qv 4 56 (vb true),
    qv 4 63 (vb true),
    qv 4 74 (vb true),
    qc 126 (vs t) (kpH4 kind off r0 (oW ys e) w1 w2 w3 w4) [],
    qv 4 80 (vb true),
    qc 16 (sp 24 4 4) (kpN4 kind off r0 (oW ys e) w1 w2 w3 w4) [],
    qc 19 (vb true) (kpN4 kind off r0 (oW ys e) w1 w2 w3 w4) [],
    qc 15 (vb true) (kpN4 kind off r0 (oW ys e) w1 w2 w3 w4) [],
    qc 15 (vb true) (kpN4 kind off r0 (oW ys e) w1 w2 w3 w4) [],
    qv 4 99 (vb true),
    qc 20 (vs (ksS ++ d)) (kpN4 kind off r0 (oW ys e) w1 w2 w3 w4) [],
    qc 21 (vs d) (kpN4 kind off r0 (oW ys e) w1 w2 w3 w4) [],
    qs 4 107 (vs (ksS ++ d)),
    qv 4 108 (vb true)])
    [evB lf 19 7 [] (hZ ys e r0) = some (vb true, (hZ ys e r0), []),
    evB lf 19 8 [aW l cap] (hZ ys e r0) = some (vb false, (hZ ys e r0), []),
    evB lf 19 17 [vi kind, vi off, aW l cap] (hZ ys e r0) = some (Value.tuple { toList := [vf 67 (pt 18), sp 23 4 4] }, kpH4 kind off r0 (oW ys e) w1 w2 w3 w4, []),
    vb (kind == (0 : Int)) = vb false,
    evB lf 19 11 [vf 67 (pt 18)] (kpH4 kind off r0 (oW ys e) w1 w2 w3 w4) = some (Value.tuple #[vi kind, vb true], kpH4 kind off r0 (oW ys e) w1 w2 w3 w4, []),
    evB lf 19 12 [vf 67 (pt 18)] (kpH4 kind off r0 (oW ys e) w1 w2 w3 w4) = some (Value.tuple #[vi off, vb true], kpH4 kind off r0 (oW ys e) w1 w2 w3 w4, []),
    evB lf 19 13 [vf 67 (pt 18)] (kpH4 kind off r0 (oW ys e) w1 w2 w3 w4) = some (Value.tuple #[vs t, vb true], kpH4 kind off r0 (oW ys e) w1 w2 w3 w4, []),
    evB lf 19 18 [sp 23 4 4, vi kind, vi off] (kpH4 kind off r0 (oW ys e) w1 w2 w3 w4) = some (vs t, kpH4 kind off r0 (oW ys e) w1 w2 w3 w4, []),
    vb (kind == kind) = vb true,
    vb (off == off) = vb true,
    vb (ByteArray.toList t == ByteArray.toList t) = vb true,
    evB lf 19 126 [pt 18] (kpH4 kind off r0 (oW ys e) w1 w2 w3 w4) = some (vs t, kpH4 kind off r0 (oW ys e) w1 w2 w3 w4, []),
    vb (ByteArray.toList t == ByteArray.toList t) = vb true,
    evB lf 19 16 [vf 67 (pt 18)] (kpH4 kind off r0 (oW ys e) w1 w2 w3 w4) = some (sp 24 4 4, kpN4 kind off r0 (oW ys e) w1 w2 w3 w4, []),
    evB lf 19 19 [sp 24 4 4, sp 23 4 4] (kpN4 kind off r0 (oW ys e) w1 w2 w3 w4) = some (vb true, kpN4 kind off r0 (oW ys e) w1 w2 w3 w4, []),
    evB lf 19 15 [vf 67 (pt 18), vi kind] (kpN4 kind off r0 (oW ys e) w1 w2 w3 w4) = some (vb true, kpN4 kind off r0 (oW ys e) w1 w2 w3 w4, []),
    evB lf 19 15 [vf 67 (pt 18), vi other] (kpN4 kind off r0 (oW ys e) w1 w2 w3 w4) = some (vb true, kpN4 kind off r0 (oW ys e) w1 w2 w3 w4, []),
    vb (other == kind) = vb true,
    evB lf 19 20 [vi other] (kpN4 kind off r0 (oW ys e) w1 w2 w3 w4) = some (vs (ksS ++ d), kpN4 kind off r0 (oW ys e) w1 w2 w3 w4, []),
    evB lf 19 21 [vi other] (kpN4 kind off r0 (oW ys e) w1 w2 w3 w4) = some (vs d, kpN4 kind off r0 (oW ys e) w1 w2 w3 w4, []),
    ByteArray.size ksS + ByteArray.size d ≤ (9223372036854775807 : Nat),
    vs (ksS ++ d) = vs (ksS ++ d),
    vb (ByteArray.toList (ksS ++ d) == ByteArray.toList (ksS ++ d)) = vb true] (by kernel_rfl)
    ⟨hkn, hh, hb, Dg.vfalse (by omega), h11, h12, h13, h18, Dg.vtrue (by omega), Dg.vtrue (by omega), eqS _, hE, eqS _, h16, h19, hi1, hi2, Dg.vtrue (by omega), hS, hN _, by (try simp only [y1, y4]); omega, rfl, eqS _, trivial⟩
--> fbt4
--< fbt5
theorem fbt5 (lf : Nat) (kind : Int) (off : Int) (other : Int) (r0 : List AObj) (ys : List Value) (e : Nat) (l : Nat) (cap : Nat) (w1 : ByteArray) (w2 : ByteArray) (w3 : ByteArray) (w4 : ByteArray) (w5 : ByteArray) (t : ByteArray) (d : ByteArray) (hk : kind ≠ 0) (ho : other = kind) (hkn : evB lf 19 7 [] (hZ ys e r0) = some (vb true, (hZ ys e r0), [])) (hh : evB lf 19 8 [aW l cap] (hZ ys e r0) = some (vb false, (hZ ys e r0), [])) (hb : evB lf 19 17 [vi kind, vi off, aW l cap] (hZ ys e r0) = some (Value.tuple #[vf 67 (pt 18), sp 24 5 5], kpH5 kind off r0 (oW ys e) w1 w2 w3 w4 w5, [])) (h11 : evB lf 19 11 [vf 67 (pt 18)] (kpH5 kind off r0 (oW ys e) w1 w2 w3 w4 w5) = some (Value.tuple #[vi kind, vb true], kpH5 kind off r0 (oW ys e) w1 w2 w3 w4 w5, [])) (h12 : evB lf 19 12 [vf 67 (pt 18)] (kpH5 kind off r0 (oW ys e) w1 w2 w3 w4 w5) = some (Value.tuple #[vi off, vb true], kpH5 kind off r0 (oW ys e) w1 w2 w3 w4 w5, [])) (h13 : evB lf 19 13 [vf 67 (pt 18)] (kpH5 kind off r0 (oW ys e) w1 w2 w3 w4 w5) = some (Value.tuple #[vs t, vb true], kpH5 kind off r0 (oW ys e) w1 w2 w3 w4 w5, [])) (h18 : evB lf 19 18 [sp 24 5 5, vi kind, vi off] (kpH5 kind off r0 (oW ys e) w1 w2 w3 w4 w5) = some (vs t, kpH5 kind off r0 (oW ys e) w1 w2 w3 w4 w5, [])) (hE : evB lf 19 126 [pt 18] (kpH5 kind off r0 (oW ys e) w1 w2 w3 w4 w5) = some (vs t, kpH5 kind off r0 (oW ys e) w1 w2 w3 w4 w5, [])) (h16 : evB lf 19 16 [vf 67 (pt 18)] (kpH5 kind off r0 (oW ys e) w1 w2 w3 w4 w5) = some (sp 25 5 5, kpN5 kind off r0 (oW ys e) w1 w2 w3 w4 w5, [])) (h19 : evB lf 19 19 [sp 25 5 5, sp 24 5 5] (kpN5 kind off r0 (oW ys e) w1 w2 w3 w4 w5) = some (vb true, kpN5 kind off r0 (oW ys e) w1 w2 w3 w4 w5, [])) (hi1 : evB lf 19 15 [vf 67 (pt 18), vi kind] (kpN5 kind off r0 (oW ys e) w1 w2 w3 w4 w5) = some (vb true, kpN5 kind off r0 (oW ys e) w1 w2 w3 w4 w5, [])) (hi2 : evB lf 19 15 [vf 67 (pt 18), vi other] (kpN5 kind off r0 (oW ys e) w1 w2 w3 w4 w5) = some (vb true, kpN5 kind off r0 (oW ys e) w1 w2 w3 w4 w5, [])) (hS : evB lf 19 20 [vi other] (kpN5 kind off r0 (oW ys e) w1 w2 w3 w4 w5) = some (vs (ksS ++ d), kpN5 kind off r0 (oW ys e) w1 w2 w3 w4 w5, [])) (hN : ∀ (H : Heap), evB lf 19 21 [vi other] H = some (vs d, H, [])) (hd : ByteArray.size d ≤ 20) :
    evB lf 20 4 [vi kind, vi other, vi off, aW l cap] (hZ ys e r0) = some (vb true, (hZ ys e r0), []) :=
  Dg.evCall_hint (hs' := []) (hs := [qc 7 (vb true) (hZ ys e r0) [],
    qc 8 (vb false) (hZ ys e r0) [],
    qc 17 (Value.tuple { toList := [vf 67 (pt 18), sp 24 5 5] }) (kpH5 kind off r0 (oW ys e) w1 w2 w3 w4 w5) [],
    qv 4 30 (vb false),
    qc 11 (Value.tuple #[vi kind, vb true]) (kpH5 kind off r0 (oW ys e) w1 w2 w3 w4 w5) [],
    qc 12 (Value.tuple #[vi off, vb true]) (kpH5 kind off r0 (oW ys e) w1 w2 w3 w4 w5) [],
    qc 13 (Value.tuple #[vs t, vb true]) (kpH5 kind off r0 (oW ys e) w1 w2 w3 w4 w5) [],
    qc 18 (vs t) (kpH5 kind off r0 (oW ys e) w1 w2 w3 w4 w5) [],
    qv 4 56 (vb true),
    qv 4 63 (vb true),
    qv 4 74 (vb true),
    qc 126 (vs t) (kpH5 kind off r0 (oW ys e) w1 w2 w3 w4 w5) [],
    qv 4 80 (vb true),
    qc 16 (sp 25 5 5) (kpN5 kind off r0 (oW ys e) w1 w2 w3 w4 w5) [],
    qc 19 (vb true) (kpN5 kind off r0 (oW ys e) w1 w2 w3 w4 w5) [],
    qc 15 (vb true) (kpN5 kind off r0 (oW ys e) w1 w2 w3 w4 w5) [],
    qc 15 (vb true) (kpN5 kind off r0 (oW ys e) w1 w2 w3 w4 w5) [],
    qv 4 99 (vb true),
    qc 20 (vs (ksS ++ d)) (kpN5 kind off r0 (oW ys e) w1 w2 w3 w4 w5) [],
    qc 21 (vs d) (kpN5 kind off r0 (oW ys e) w1 w2 w3 w4 w5) [],
    qs 4 107 (vs (ksS ++ d)),
    qv 4 108 (vb true)])
    [evB lf 19 7 [] (hZ ys e r0) = some (vb true, (hZ ys e r0), []),
    evB lf 19 8 [aW l cap] (hZ ys e r0) = some (vb false, (hZ ys e r0), []),
    evB lf 19 17 [vi kind, vi off, aW l cap] (hZ ys e r0) = some (Value.tuple { toList := [vf 67 (pt 18), sp 24 5 5] }, kpH5 kind off r0 (oW ys e) w1 w2 w3 w4 w5, []),
    vb (kind == (0 : Int)) = vb false,
    evB lf 19 11 [vf 67 (pt 18)] (kpH5 kind off r0 (oW ys e) w1 w2 w3 w4 w5) = some (Value.tuple #[vi kind, vb true], kpH5 kind off r0 (oW ys e) w1 w2 w3 w4 w5, []),
    evB lf 19 12 [vf 67 (pt 18)] (kpH5 kind off r0 (oW ys e) w1 w2 w3 w4 w5) = some (Value.tuple #[vi off, vb true], kpH5 kind off r0 (oW ys e) w1 w2 w3 w4 w5, []),
    evB lf 19 13 [vf 67 (pt 18)] (kpH5 kind off r0 (oW ys e) w1 w2 w3 w4 w5) = some (Value.tuple #[vs t, vb true], kpH5 kind off r0 (oW ys e) w1 w2 w3 w4 w5, []),
    evB lf 19 18 [sp 24 5 5, vi kind, vi off] (kpH5 kind off r0 (oW ys e) w1 w2 w3 w4 w5) = some (vs t, kpH5 kind off r0 (oW ys e) w1 w2 w3 w4 w5, []),
    vb (kind == kind) = vb true,
    vb (off == off) = vb true,
    vb (ByteArray.toList t == ByteArray.toList t) = vb true,
    evB lf 19 126 [pt 18] (kpH5 kind off r0 (oW ys e) w1 w2 w3 w4 w5) = some (vs t, kpH5 kind off r0 (oW ys e) w1 w2 w3 w4 w5, []),
    vb (ByteArray.toList t == ByteArray.toList t) = vb true,
    evB lf 19 16 [vf 67 (pt 18)] (kpH5 kind off r0 (oW ys e) w1 w2 w3 w4 w5) = some (sp 25 5 5, kpN5 kind off r0 (oW ys e) w1 w2 w3 w4 w5, []),
    evB lf 19 19 [sp 25 5 5, sp 24 5 5] (kpN5 kind off r0 (oW ys e) w1 w2 w3 w4 w5) = some (vb true, kpN5 kind off r0 (oW ys e) w1 w2 w3 w4 w5, []),
    evB lf 19 15 [vf 67 (pt 18), vi kind] (kpN5 kind off r0 (oW ys e) w1 w2 w3 w4 w5) = some (vb true, kpN5 kind off r0 (oW ys e) w1 w2 w3 w4 w5, []),
    evB lf 19 15 [vf 67 (pt 18), vi other] (kpN5 kind off r0 (oW ys e) w1 w2 w3 w4 w5) = some (vb true, kpN5 kind off r0 (oW ys e) w1 w2 w3 w4 w5, []),
    vb (other == kind) = vb true,
    evB lf 19 20 [vi other] (kpN5 kind off r0 (oW ys e) w1 w2 w3 w4 w5) = some (vs (ksS ++ d), kpN5 kind off r0 (oW ys e) w1 w2 w3 w4 w5, []),
    evB lf 19 21 [vi other] (kpN5 kind off r0 (oW ys e) w1 w2 w3 w4 w5) = some (vs d, kpN5 kind off r0 (oW ys e) w1 w2 w3 w4 w5, []),
    ByteArray.size ksS + ByteArray.size d ≤ (9223372036854775807 : Nat),
    vs (ksS ++ d) = vs (ksS ++ d),
    vb (ByteArray.toList (ksS ++ d) == ByteArray.toList (ksS ++ d)) = vb true] (by kernel_rfl)
    ⟨hkn, hh, hb, Dg.vfalse (by omega), h11, h12, h13, h18, Dg.vtrue (by omega), Dg.vtrue (by omega), eqS _, hE, eqS _, h16, h19, hi1, hi2, Dg.vtrue (by omega), hS, hN _, by (try simp only [y1, y4]); omega, rfl, eqS _, trivial⟩
--> fbt5
--< fbt6
theorem fbt6 (lf : Nat) (kind : Int) (off : Int) (other : Int) (r0 : List AObj) (ys : List Value) (e : Nat) (l : Nat) (cap : Nat) (w1 : ByteArray) (w2 : ByteArray) (w3 : ByteArray) (w4 : ByteArray) (w5 : ByteArray) (w6 : ByteArray) (t : ByteArray) (d : ByteArray) (hk : kind ≠ 0) (ho : other = kind) (hkn : evB lf 19 7 [] (hZ ys e r0) = some (vb true, (hZ ys e r0), [])) (hh : evB lf 19 8 [aW l cap] (hZ ys e r0) = some (vb false, (hZ ys e r0), [])) (hb : evB lf 19 17 [vi kind, vi off, aW l cap] (hZ ys e r0) = some (Value.tuple #[vf 67 (pt 18), sp 25 6 6], kpH6 kind off r0 (oW ys e) w1 w2 w3 w4 w5 w6, [])) (h11 : evB lf 19 11 [vf 67 (pt 18)] (kpH6 kind off r0 (oW ys e) w1 w2 w3 w4 w5 w6) = some (Value.tuple #[vi kind, vb true], kpH6 kind off r0 (oW ys e) w1 w2 w3 w4 w5 w6, [])) (h12 : evB lf 19 12 [vf 67 (pt 18)] (kpH6 kind off r0 (oW ys e) w1 w2 w3 w4 w5 w6) = some (Value.tuple #[vi off, vb true], kpH6 kind off r0 (oW ys e) w1 w2 w3 w4 w5 w6, [])) (h13 : evB lf 19 13 [vf 67 (pt 18)] (kpH6 kind off r0 (oW ys e) w1 w2 w3 w4 w5 w6) = some (Value.tuple #[vs t, vb true], kpH6 kind off r0 (oW ys e) w1 w2 w3 w4 w5 w6, [])) (h18 : evB lf 19 18 [sp 25 6 6, vi kind, vi off] (kpH6 kind off r0 (oW ys e) w1 w2 w3 w4 w5 w6) = some (vs t, kpH6 kind off r0 (oW ys e) w1 w2 w3 w4 w5 w6, [])) (hE : evB lf 19 126 [pt 18] (kpH6 kind off r0 (oW ys e) w1 w2 w3 w4 w5 w6) = some (vs t, kpH6 kind off r0 (oW ys e) w1 w2 w3 w4 w5 w6, [])) (h16 : evB lf 19 16 [vf 67 (pt 18)] (kpH6 kind off r0 (oW ys e) w1 w2 w3 w4 w5 w6) = some (sp 26 6 6, kpN6 kind off r0 (oW ys e) w1 w2 w3 w4 w5 w6, [])) (h19 : evB lf 19 19 [sp 26 6 6, sp 25 6 6] (kpN6 kind off r0 (oW ys e) w1 w2 w3 w4 w5 w6) = some (vb true, kpN6 kind off r0 (oW ys e) w1 w2 w3 w4 w5 w6, [])) (hi1 : evB lf 19 15 [vf 67 (pt 18), vi kind] (kpN6 kind off r0 (oW ys e) w1 w2 w3 w4 w5 w6) = some (vb true, kpN6 kind off r0 (oW ys e) w1 w2 w3 w4 w5 w6, [])) (hi2 : evB lf 19 15 [vf 67 (pt 18), vi other] (kpN6 kind off r0 (oW ys e) w1 w2 w3 w4 w5 w6) = some (vb true, kpN6 kind off r0 (oW ys e) w1 w2 w3 w4 w5 w6, [])) (hS : evB lf 19 20 [vi other] (kpN6 kind off r0 (oW ys e) w1 w2 w3 w4 w5 w6) = some (vs (ksS ++ d), kpN6 kind off r0 (oW ys e) w1 w2 w3 w4 w5 w6, [])) (hN : ∀ (H : Heap), evB lf 19 21 [vi other] H = some (vs d, H, [])) (hd : ByteArray.size d ≤ 20) :
    evB lf 20 4 [vi kind, vi other, vi off, aW l cap] (hZ ys e r0) = some (vb true, (hZ ys e r0), []) :=
  Dg.evCall_hint (hs' := []) (hs := [qc 7 (vb true) (hZ ys e r0) [],
    qc 8 (vb false) (hZ ys e r0) [],
    qc 17 (Value.tuple { toList := [vf 67 (pt 18), sp 25 6 6] }) (kpH6 kind off r0 (oW ys e) w1 w2 w3 w4 w5 w6) [],
    qv 4 30 (vb false),
    qc 11 (Value.tuple #[vi kind, vb true]) (kpH6 kind off r0 (oW ys e) w1 w2 w3 w4 w5 w6) [],
    qc 12 (Value.tuple #[vi off, vb true]) (kpH6 kind off r0 (oW ys e) w1 w2 w3 w4 w5 w6) [],
    qc 13 (Value.tuple #[vs t, vb true]) (kpH6 kind off r0 (oW ys e) w1 w2 w3 w4 w5 w6) [],
    qc 18 (vs t) (kpH6 kind off r0 (oW ys e) w1 w2 w3 w4 w5 w6) [],
    qv 4 56 (vb true),
    qv 4 63 (vb true),
    qv 4 74 (vb true),
    qc 126 (vs t) (kpH6 kind off r0 (oW ys e) w1 w2 w3 w4 w5 w6) [],
    qv 4 80 (vb true),
    qc 16 (sp 26 6 6) (kpN6 kind off r0 (oW ys e) w1 w2 w3 w4 w5 w6) [],
    qc 19 (vb true) (kpN6 kind off r0 (oW ys e) w1 w2 w3 w4 w5 w6) [],
    qc 15 (vb true) (kpN6 kind off r0 (oW ys e) w1 w2 w3 w4 w5 w6) [],
    qc 15 (vb true) (kpN6 kind off r0 (oW ys e) w1 w2 w3 w4 w5 w6) [],
    qv 4 99 (vb true),
    qc 20 (vs (ksS ++ d)) (kpN6 kind off r0 (oW ys e) w1 w2 w3 w4 w5 w6) [],
    qc 21 (vs d) (kpN6 kind off r0 (oW ys e) w1 w2 w3 w4 w5 w6) [],
    qs 4 107 (vs (ksS ++ d)),
    qv 4 108 (vb true)])
    [evB lf 19 7 [] (hZ ys e r0) = some (vb true, (hZ ys e r0), []),
    evB lf 19 8 [aW l cap] (hZ ys e r0) = some (vb false, (hZ ys e r0), []),
    evB lf 19 17 [vi kind, vi off, aW l cap] (hZ ys e r0) = some (Value.tuple { toList := [vf 67 (pt 18), sp 25 6 6] }, kpH6 kind off r0 (oW ys e) w1 w2 w3 w4 w5 w6, []),
    vb (kind == (0 : Int)) = vb false,
    evB lf 19 11 [vf 67 (pt 18)] (kpH6 kind off r0 (oW ys e) w1 w2 w3 w4 w5 w6) = some (Value.tuple #[vi kind, vb true], kpH6 kind off r0 (oW ys e) w1 w2 w3 w4 w5 w6, []),
    evB lf 19 12 [vf 67 (pt 18)] (kpH6 kind off r0 (oW ys e) w1 w2 w3 w4 w5 w6) = some (Value.tuple #[vi off, vb true], kpH6 kind off r0 (oW ys e) w1 w2 w3 w4 w5 w6, []),
    evB lf 19 13 [vf 67 (pt 18)] (kpH6 kind off r0 (oW ys e) w1 w2 w3 w4 w5 w6) = some (Value.tuple #[vs t, vb true], kpH6 kind off r0 (oW ys e) w1 w2 w3 w4 w5 w6, []),
    evB lf 19 18 [sp 25 6 6, vi kind, vi off] (kpH6 kind off r0 (oW ys e) w1 w2 w3 w4 w5 w6) = some (vs t, kpH6 kind off r0 (oW ys e) w1 w2 w3 w4 w5 w6, []),
    vb (kind == kind) = vb true,
    vb (off == off) = vb true,
    vb (ByteArray.toList t == ByteArray.toList t) = vb true,
    evB lf 19 126 [pt 18] (kpH6 kind off r0 (oW ys e) w1 w2 w3 w4 w5 w6) = some (vs t, kpH6 kind off r0 (oW ys e) w1 w2 w3 w4 w5 w6, []),
    vb (ByteArray.toList t == ByteArray.toList t) = vb true,
    evB lf 19 16 [vf 67 (pt 18)] (kpH6 kind off r0 (oW ys e) w1 w2 w3 w4 w5 w6) = some (sp 26 6 6, kpN6 kind off r0 (oW ys e) w1 w2 w3 w4 w5 w6, []),
    evB lf 19 19 [sp 26 6 6, sp 25 6 6] (kpN6 kind off r0 (oW ys e) w1 w2 w3 w4 w5 w6) = some (vb true, kpN6 kind off r0 (oW ys e) w1 w2 w3 w4 w5 w6, []),
    evB lf 19 15 [vf 67 (pt 18), vi kind] (kpN6 kind off r0 (oW ys e) w1 w2 w3 w4 w5 w6) = some (vb true, kpN6 kind off r0 (oW ys e) w1 w2 w3 w4 w5 w6, []),
    evB lf 19 15 [vf 67 (pt 18), vi other] (kpN6 kind off r0 (oW ys e) w1 w2 w3 w4 w5 w6) = some (vb true, kpN6 kind off r0 (oW ys e) w1 w2 w3 w4 w5 w6, []),
    vb (other == kind) = vb true,
    evB lf 19 20 [vi other] (kpN6 kind off r0 (oW ys e) w1 w2 w3 w4 w5 w6) = some (vs (ksS ++ d), kpN6 kind off r0 (oW ys e) w1 w2 w3 w4 w5 w6, []),
    evB lf 19 21 [vi other] (kpN6 kind off r0 (oW ys e) w1 w2 w3 w4 w5 w6) = some (vs d, kpN6 kind off r0 (oW ys e) w1 w2 w3 w4 w5 w6, []),
    ByteArray.size ksS + ByteArray.size d ≤ (9223372036854775807 : Nat),
    vs (ksS ++ d) = vs (ksS ++ d),
    vb (ByteArray.toList (ksS ++ d) == ByteArray.toList (ksS ++ d)) = vb true] (by kernel_rfl)
    ⟨hkn, hh, hb, Dg.vfalse (by omega), h11, h12, h13, h18, Dg.vtrue (by omega), Dg.vtrue (by omega), eqS _, hE, eqS _, h16, h19, hi1, hi2, Dg.vtrue (by omega), hS, hN _, by (try simp only [y1, y4]); omega, rfl, eqS _, trivial⟩
--> fbt6
--< fbt7
theorem fbt7 (lf : Nat) (kind : Int) (off : Int) (other : Int) (r0 : List AObj) (ys : List Value) (e : Nat) (l : Nat) (cap : Nat) (w1 : ByteArray) (w2 : ByteArray) (w3 : ByteArray) (w4 : ByteArray) (w5 : ByteArray) (w6 : ByteArray) (w7 : ByteArray) (t : ByteArray) (d : ByteArray) (hk : kind ≠ 0) (ho : other = kind) (hkn : evB lf 19 7 [] (hZ ys e r0) = some (vb true, (hZ ys e r0), [])) (hh : evB lf 19 8 [aW l cap] (hZ ys e r0) = some (vb false, (hZ ys e r0), [])) (hb : evB lf 19 17 [vi kind, vi off, aW l cap] (hZ ys e r0) = some (Value.tuple #[vf 67 (pt 18), sp 26 7 7], kpH7 kind off r0 (oW ys e) w1 w2 w3 w4 w5 w6 w7, [])) (h11 : evB lf 19 11 [vf 67 (pt 18)] (kpH7 kind off r0 (oW ys e) w1 w2 w3 w4 w5 w6 w7) = some (Value.tuple #[vi kind, vb true], kpH7 kind off r0 (oW ys e) w1 w2 w3 w4 w5 w6 w7, [])) (h12 : evB lf 19 12 [vf 67 (pt 18)] (kpH7 kind off r0 (oW ys e) w1 w2 w3 w4 w5 w6 w7) = some (Value.tuple #[vi off, vb true], kpH7 kind off r0 (oW ys e) w1 w2 w3 w4 w5 w6 w7, [])) (h13 : evB lf 19 13 [vf 67 (pt 18)] (kpH7 kind off r0 (oW ys e) w1 w2 w3 w4 w5 w6 w7) = some (Value.tuple #[vs t, vb true], kpH7 kind off r0 (oW ys e) w1 w2 w3 w4 w5 w6 w7, [])) (h18 : evB lf 19 18 [sp 26 7 7, vi kind, vi off] (kpH7 kind off r0 (oW ys e) w1 w2 w3 w4 w5 w6 w7) = some (vs t, kpH7 kind off r0 (oW ys e) w1 w2 w3 w4 w5 w6 w7, [])) (hE : evB lf 19 126 [pt 18] (kpH7 kind off r0 (oW ys e) w1 w2 w3 w4 w5 w6 w7) = some (vs t, kpH7 kind off r0 (oW ys e) w1 w2 w3 w4 w5 w6 w7, [])) (h16 : evB lf 19 16 [vf 67 (pt 18)] (kpH7 kind off r0 (oW ys e) w1 w2 w3 w4 w5 w6 w7) = some (sp 27 7 7, kpN7 kind off r0 (oW ys e) w1 w2 w3 w4 w5 w6 w7, [])) (h19 : evB lf 19 19 [sp 27 7 7, sp 26 7 7] (kpN7 kind off r0 (oW ys e) w1 w2 w3 w4 w5 w6 w7) = some (vb true, kpN7 kind off r0 (oW ys e) w1 w2 w3 w4 w5 w6 w7, [])) (hi1 : evB lf 19 15 [vf 67 (pt 18), vi kind] (kpN7 kind off r0 (oW ys e) w1 w2 w3 w4 w5 w6 w7) = some (vb true, kpN7 kind off r0 (oW ys e) w1 w2 w3 w4 w5 w6 w7, [])) (hi2 : evB lf 19 15 [vf 67 (pt 18), vi other] (kpN7 kind off r0 (oW ys e) w1 w2 w3 w4 w5 w6 w7) = some (vb true, kpN7 kind off r0 (oW ys e) w1 w2 w3 w4 w5 w6 w7, [])) (hS : evB lf 19 20 [vi other] (kpN7 kind off r0 (oW ys e) w1 w2 w3 w4 w5 w6 w7) = some (vs (ksS ++ d), kpN7 kind off r0 (oW ys e) w1 w2 w3 w4 w5 w6 w7, [])) (hN : ∀ (H : Heap), evB lf 19 21 [vi other] H = some (vs d, H, [])) (hd : ByteArray.size d ≤ 20) :
    evB lf 20 4 [vi kind, vi other, vi off, aW l cap] (hZ ys e r0) = some (vb true, (hZ ys e r0), []) :=
  Dg.evCall_hint (hs' := []) (hs := [qc 7 (vb true) (hZ ys e r0) [],
    qc 8 (vb false) (hZ ys e r0) [],
    qc 17 (Value.tuple { toList := [vf 67 (pt 18), sp 26 7 7] }) (kpH7 kind off r0 (oW ys e) w1 w2 w3 w4 w5 w6 w7) [],
    qv 4 30 (vb false),
    qc 11 (Value.tuple #[vi kind, vb true]) (kpH7 kind off r0 (oW ys e) w1 w2 w3 w4 w5 w6 w7) [],
    qc 12 (Value.tuple #[vi off, vb true]) (kpH7 kind off r0 (oW ys e) w1 w2 w3 w4 w5 w6 w7) [],
    qc 13 (Value.tuple #[vs t, vb true]) (kpH7 kind off r0 (oW ys e) w1 w2 w3 w4 w5 w6 w7) [],
    qc 18 (vs t) (kpH7 kind off r0 (oW ys e) w1 w2 w3 w4 w5 w6 w7) [],
    qv 4 56 (vb true),
    qv 4 63 (vb true),
    qv 4 74 (vb true),
    qc 126 (vs t) (kpH7 kind off r0 (oW ys e) w1 w2 w3 w4 w5 w6 w7) [],
    qv 4 80 (vb true),
    qc 16 (sp 27 7 7) (kpN7 kind off r0 (oW ys e) w1 w2 w3 w4 w5 w6 w7) [],
    qc 19 (vb true) (kpN7 kind off r0 (oW ys e) w1 w2 w3 w4 w5 w6 w7) [],
    qc 15 (vb true) (kpN7 kind off r0 (oW ys e) w1 w2 w3 w4 w5 w6 w7) [],
    qc 15 (vb true) (kpN7 kind off r0 (oW ys e) w1 w2 w3 w4 w5 w6 w7) [],
    qv 4 99 (vb true),
    qc 20 (vs (ksS ++ d)) (kpN7 kind off r0 (oW ys e) w1 w2 w3 w4 w5 w6 w7) [],
    qc 21 (vs d) (kpN7 kind off r0 (oW ys e) w1 w2 w3 w4 w5 w6 w7) [],
    qs 4 107 (vs (ksS ++ d)),
    qv 4 108 (vb true)])
    [evB lf 19 7 [] (hZ ys e r0) = some (vb true, (hZ ys e r0), []),
    evB lf 19 8 [aW l cap] (hZ ys e r0) = some (vb false, (hZ ys e r0), []),
    evB lf 19 17 [vi kind, vi off, aW l cap] (hZ ys e r0) = some (Value.tuple { toList := [vf 67 (pt 18), sp 26 7 7] }, kpH7 kind off r0 (oW ys e) w1 w2 w3 w4 w5 w6 w7, []),
    vb (kind == (0 : Int)) = vb false,
    evB lf 19 11 [vf 67 (pt 18)] (kpH7 kind off r0 (oW ys e) w1 w2 w3 w4 w5 w6 w7) = some (Value.tuple #[vi kind, vb true], kpH7 kind off r0 (oW ys e) w1 w2 w3 w4 w5 w6 w7, []),
    evB lf 19 12 [vf 67 (pt 18)] (kpH7 kind off r0 (oW ys e) w1 w2 w3 w4 w5 w6 w7) = some (Value.tuple #[vi off, vb true], kpH7 kind off r0 (oW ys e) w1 w2 w3 w4 w5 w6 w7, []),
    evB lf 19 13 [vf 67 (pt 18)] (kpH7 kind off r0 (oW ys e) w1 w2 w3 w4 w5 w6 w7) = some (Value.tuple #[vs t, vb true], kpH7 kind off r0 (oW ys e) w1 w2 w3 w4 w5 w6 w7, []),
    evB lf 19 18 [sp 26 7 7, vi kind, vi off] (kpH7 kind off r0 (oW ys e) w1 w2 w3 w4 w5 w6 w7) = some (vs t, kpH7 kind off r0 (oW ys e) w1 w2 w3 w4 w5 w6 w7, []),
    vb (kind == kind) = vb true,
    vb (off == off) = vb true,
    vb (ByteArray.toList t == ByteArray.toList t) = vb true,
    evB lf 19 126 [pt 18] (kpH7 kind off r0 (oW ys e) w1 w2 w3 w4 w5 w6 w7) = some (vs t, kpH7 kind off r0 (oW ys e) w1 w2 w3 w4 w5 w6 w7, []),
    vb (ByteArray.toList t == ByteArray.toList t) = vb true,
    evB lf 19 16 [vf 67 (pt 18)] (kpH7 kind off r0 (oW ys e) w1 w2 w3 w4 w5 w6 w7) = some (sp 27 7 7, kpN7 kind off r0 (oW ys e) w1 w2 w3 w4 w5 w6 w7, []),
    evB lf 19 19 [sp 27 7 7, sp 26 7 7] (kpN7 kind off r0 (oW ys e) w1 w2 w3 w4 w5 w6 w7) = some (vb true, kpN7 kind off r0 (oW ys e) w1 w2 w3 w4 w5 w6 w7, []),
    evB lf 19 15 [vf 67 (pt 18), vi kind] (kpN7 kind off r0 (oW ys e) w1 w2 w3 w4 w5 w6 w7) = some (vb true, kpN7 kind off r0 (oW ys e) w1 w2 w3 w4 w5 w6 w7, []),
    evB lf 19 15 [vf 67 (pt 18), vi other] (kpN7 kind off r0 (oW ys e) w1 w2 w3 w4 w5 w6 w7) = some (vb true, kpN7 kind off r0 (oW ys e) w1 w2 w3 w4 w5 w6 w7, []),
    vb (other == kind) = vb true,
    evB lf 19 20 [vi other] (kpN7 kind off r0 (oW ys e) w1 w2 w3 w4 w5 w6 w7) = some (vs (ksS ++ d), kpN7 kind off r0 (oW ys e) w1 w2 w3 w4 w5 w6 w7, []),
    evB lf 19 21 [vi other] (kpN7 kind off r0 (oW ys e) w1 w2 w3 w4 w5 w6 w7) = some (vs d, kpN7 kind off r0 (oW ys e) w1 w2 w3 w4 w5 w6 w7, []),
    ByteArray.size ksS + ByteArray.size d ≤ (9223372036854775807 : Nat),
    vs (ksS ++ d) = vs (ksS ++ d),
    vb (ByteArray.toList (ksS ++ d) == ByteArray.toList (ksS ++ d)) = vb true] (by kernel_rfl)
    ⟨hkn, hh, hb, Dg.vfalse (by omega), h11, h12, h13, h18, Dg.vtrue (by omega), Dg.vtrue (by omega), eqS _, hE, eqS _, h16, h19, hi1, hi2, Dg.vtrue (by omega), hS, hN _, by (try simp only [y1, y4]); omega, rfl, eqS _, trivial⟩
--> fbt7
--< fbt8
theorem fbt8 (lf : Nat) (kind : Int) (off : Int) (other : Int) (r0 : List AObj) (ys : List Value) (e : Nat) (l : Nat) (cap : Nat) (w1 : ByteArray) (w2 : ByteArray) (w3 : ByteArray) (w4 : ByteArray) (w5 : ByteArray) (w6 : ByteArray) (w7 : ByteArray) (w8 : ByteArray) (t : ByteArray) (d : ByteArray) (hk : kind ≠ 0) (ho : other = kind) (hkn : evB lf 19 7 [] (hZ ys e r0) = some (vb true, (hZ ys e r0), [])) (hh : evB lf 19 8 [aW l cap] (hZ ys e r0) = some (vb false, (hZ ys e r0), [])) (hb : evB lf 19 17 [vi kind, vi off, aW l cap] (hZ ys e r0) = some (Value.tuple #[vf 67 (pt 18), sp 27 8 8], kpH8 kind off r0 (oW ys e) w1 w2 w3 w4 w5 w6 w7 w8, [])) (h11 : evB lf 19 11 [vf 67 (pt 18)] (kpH8 kind off r0 (oW ys e) w1 w2 w3 w4 w5 w6 w7 w8) = some (Value.tuple #[vi kind, vb true], kpH8 kind off r0 (oW ys e) w1 w2 w3 w4 w5 w6 w7 w8, [])) (h12 : evB lf 19 12 [vf 67 (pt 18)] (kpH8 kind off r0 (oW ys e) w1 w2 w3 w4 w5 w6 w7 w8) = some (Value.tuple #[vi off, vb true], kpH8 kind off r0 (oW ys e) w1 w2 w3 w4 w5 w6 w7 w8, [])) (h13 : evB lf 19 13 [vf 67 (pt 18)] (kpH8 kind off r0 (oW ys e) w1 w2 w3 w4 w5 w6 w7 w8) = some (Value.tuple #[vs t, vb true], kpH8 kind off r0 (oW ys e) w1 w2 w3 w4 w5 w6 w7 w8, [])) (h18 : evB lf 19 18 [sp 27 8 8, vi kind, vi off] (kpH8 kind off r0 (oW ys e) w1 w2 w3 w4 w5 w6 w7 w8) = some (vs t, kpH8 kind off r0 (oW ys e) w1 w2 w3 w4 w5 w6 w7 w8, [])) (hE : evB lf 19 126 [pt 18] (kpH8 kind off r0 (oW ys e) w1 w2 w3 w4 w5 w6 w7 w8) = some (vs t, kpH8 kind off r0 (oW ys e) w1 w2 w3 w4 w5 w6 w7 w8, [])) (h16 : evB lf 19 16 [vf 67 (pt 18)] (kpH8 kind off r0 (oW ys e) w1 w2 w3 w4 w5 w6 w7 w8) = some (sp 28 8 8, kpN8 kind off r0 (oW ys e) w1 w2 w3 w4 w5 w6 w7 w8, [])) (h19 : evB lf 19 19 [sp 28 8 8, sp 27 8 8] (kpN8 kind off r0 (oW ys e) w1 w2 w3 w4 w5 w6 w7 w8) = some (vb true, kpN8 kind off r0 (oW ys e) w1 w2 w3 w4 w5 w6 w7 w8, [])) (hi1 : evB lf 19 15 [vf 67 (pt 18), vi kind] (kpN8 kind off r0 (oW ys e) w1 w2 w3 w4 w5 w6 w7 w8) = some (vb true, kpN8 kind off r0 (oW ys e) w1 w2 w3 w4 w5 w6 w7 w8, [])) (hi2 : evB lf 19 15 [vf 67 (pt 18), vi other] (kpN8 kind off r0 (oW ys e) w1 w2 w3 w4 w5 w6 w7 w8) = some (vb true, kpN8 kind off r0 (oW ys e) w1 w2 w3 w4 w5 w6 w7 w8, [])) (hS : evB lf 19 20 [vi other] (kpN8 kind off r0 (oW ys e) w1 w2 w3 w4 w5 w6 w7 w8) = some (vs (ksS ++ d), kpN8 kind off r0 (oW ys e) w1 w2 w3 w4 w5 w6 w7 w8, [])) (hN : ∀ (H : Heap), evB lf 19 21 [vi other] H = some (vs d, H, [])) (hd : ByteArray.size d ≤ 20) :
    evB lf 20 4 [vi kind, vi other, vi off, aW l cap] (hZ ys e r0) = some (vb true, (hZ ys e r0), []) :=
  Dg.evCall_hint (hs' := []) (hs := [qc 7 (vb true) (hZ ys e r0) [],
    qc 8 (vb false) (hZ ys e r0) [],
    qc 17 (Value.tuple { toList := [vf 67 (pt 18), sp 27 8 8] }) (kpH8 kind off r0 (oW ys e) w1 w2 w3 w4 w5 w6 w7 w8) [],
    qv 4 30 (vb false),
    qc 11 (Value.tuple #[vi kind, vb true]) (kpH8 kind off r0 (oW ys e) w1 w2 w3 w4 w5 w6 w7 w8) [],
    qc 12 (Value.tuple #[vi off, vb true]) (kpH8 kind off r0 (oW ys e) w1 w2 w3 w4 w5 w6 w7 w8) [],
    qc 13 (Value.tuple #[vs t, vb true]) (kpH8 kind off r0 (oW ys e) w1 w2 w3 w4 w5 w6 w7 w8) [],
    qc 18 (vs t) (kpH8 kind off r0 (oW ys e) w1 w2 w3 w4 w5 w6 w7 w8) [],
    qv 4 56 (vb true),
    qv 4 63 (vb true),
    qv 4 74 (vb true),
    qc 126 (vs t) (kpH8 kind off r0 (oW ys e) w1 w2 w3 w4 w5 w6 w7 w8) [],
    qv 4 80 (vb true),
    qc 16 (sp 28 8 8) (kpN8 kind off r0 (oW ys e) w1 w2 w3 w4 w5 w6 w7 w8) [],
    qc 19 (vb true) (kpN8 kind off r0 (oW ys e) w1 w2 w3 w4 w5 w6 w7 w8) [],
    qc 15 (vb true) (kpN8 kind off r0 (oW ys e) w1 w2 w3 w4 w5 w6 w7 w8) [],
    qc 15 (vb true) (kpN8 kind off r0 (oW ys e) w1 w2 w3 w4 w5 w6 w7 w8) [],
    qv 4 99 (vb true),
    qc 20 (vs (ksS ++ d)) (kpN8 kind off r0 (oW ys e) w1 w2 w3 w4 w5 w6 w7 w8) [],
    qc 21 (vs d) (kpN8 kind off r0 (oW ys e) w1 w2 w3 w4 w5 w6 w7 w8) [],
    qs 4 107 (vs (ksS ++ d)),
    qv 4 108 (vb true)])
    [evB lf 19 7 [] (hZ ys e r0) = some (vb true, (hZ ys e r0), []),
    evB lf 19 8 [aW l cap] (hZ ys e r0) = some (vb false, (hZ ys e r0), []),
    evB lf 19 17 [vi kind, vi off, aW l cap] (hZ ys e r0) = some (Value.tuple { toList := [vf 67 (pt 18), sp 27 8 8] }, kpH8 kind off r0 (oW ys e) w1 w2 w3 w4 w5 w6 w7 w8, []),
    vb (kind == (0 : Int)) = vb false,
    evB lf 19 11 [vf 67 (pt 18)] (kpH8 kind off r0 (oW ys e) w1 w2 w3 w4 w5 w6 w7 w8) = some (Value.tuple #[vi kind, vb true], kpH8 kind off r0 (oW ys e) w1 w2 w3 w4 w5 w6 w7 w8, []),
    evB lf 19 12 [vf 67 (pt 18)] (kpH8 kind off r0 (oW ys e) w1 w2 w3 w4 w5 w6 w7 w8) = some (Value.tuple #[vi off, vb true], kpH8 kind off r0 (oW ys e) w1 w2 w3 w4 w5 w6 w7 w8, []),
    evB lf 19 13 [vf 67 (pt 18)] (kpH8 kind off r0 (oW ys e) w1 w2 w3 w4 w5 w6 w7 w8) = some (Value.tuple #[vs t, vb true], kpH8 kind off r0 (oW ys e) w1 w2 w3 w4 w5 w6 w7 w8, []),
    evB lf 19 18 [sp 27 8 8, vi kind, vi off] (kpH8 kind off r0 (oW ys e) w1 w2 w3 w4 w5 w6 w7 w8) = some (vs t, kpH8 kind off r0 (oW ys e) w1 w2 w3 w4 w5 w6 w7 w8, []),
    vb (kind == kind) = vb true,
    vb (off == off) = vb true,
    vb (ByteArray.toList t == ByteArray.toList t) = vb true,
    evB lf 19 126 [pt 18] (kpH8 kind off r0 (oW ys e) w1 w2 w3 w4 w5 w6 w7 w8) = some (vs t, kpH8 kind off r0 (oW ys e) w1 w2 w3 w4 w5 w6 w7 w8, []),
    vb (ByteArray.toList t == ByteArray.toList t) = vb true,
    evB lf 19 16 [vf 67 (pt 18)] (kpH8 kind off r0 (oW ys e) w1 w2 w3 w4 w5 w6 w7 w8) = some (sp 28 8 8, kpN8 kind off r0 (oW ys e) w1 w2 w3 w4 w5 w6 w7 w8, []),
    evB lf 19 19 [sp 28 8 8, sp 27 8 8] (kpN8 kind off r0 (oW ys e) w1 w2 w3 w4 w5 w6 w7 w8) = some (vb true, kpN8 kind off r0 (oW ys e) w1 w2 w3 w4 w5 w6 w7 w8, []),
    evB lf 19 15 [vf 67 (pt 18), vi kind] (kpN8 kind off r0 (oW ys e) w1 w2 w3 w4 w5 w6 w7 w8) = some (vb true, kpN8 kind off r0 (oW ys e) w1 w2 w3 w4 w5 w6 w7 w8, []),
    evB lf 19 15 [vf 67 (pt 18), vi other] (kpN8 kind off r0 (oW ys e) w1 w2 w3 w4 w5 w6 w7 w8) = some (vb true, kpN8 kind off r0 (oW ys e) w1 w2 w3 w4 w5 w6 w7 w8, []),
    vb (other == kind) = vb true,
    evB lf 19 20 [vi other] (kpN8 kind off r0 (oW ys e) w1 w2 w3 w4 w5 w6 w7 w8) = some (vs (ksS ++ d), kpN8 kind off r0 (oW ys e) w1 w2 w3 w4 w5 w6 w7 w8, []),
    evB lf 19 21 [vi other] (kpN8 kind off r0 (oW ys e) w1 w2 w3 w4 w5 w6 w7 w8) = some (vs d, kpN8 kind off r0 (oW ys e) w1 w2 w3 w4 w5 w6 w7 w8, []),
    ByteArray.size ksS + ByteArray.size d ≤ (9223372036854775807 : Nat),
    vs (ksS ++ d) = vs (ksS ++ d),
    vb (ByteArray.toList (ksS ++ d) == ByteArray.toList (ksS ++ d)) = vb true] (by kernel_rfl)
    ⟨hkn, hh, hb, Dg.vfalse (by omega), h11, h12, h13, h18, Dg.vtrue (by omega), Dg.vtrue (by omega), eqS _, hE, eqS _, h16, h19, hi1, hi2, Dg.vtrue (by omega), hS, hN _, by (try simp only [y1, y4]); omega, rfl, eqS _, trivial⟩
--> fbt8
--< fbtn
theorem fbtn (lf : Nat) (kind : Int) (off : Int) (other : Int) (r0 : List AObj) (X : AObj) (t : ByteArray) (d : ByteArray) (hk : kind ≠ 0) (ho : other = kind) (hkn : evB lf 19 7 [] { n := 18, objs := X :: r0 } = some (vb true, { n := 18, objs := X :: r0 }, [])) (hh : evB lf 19 8 [Value.slice none 0 0] dH = some (vb false, dH, [])) (hb : evB lf 19 17 [vi kind, vi off, Value.slice none 0 0] { n := 18, objs := X :: r0 } = some (Value.tuple #[vf 70 (pt 18), Value.slice none 0 0], kpH0 kind off r0 X, [])) (h11 : evB lf 19 11 [vf 70 (pt 18)] (kpH0 kind off r0 X) = some (Value.tuple #[vi kind, vb true], kpH0 kind off r0 X, [])) (h12 : evB lf 19 12 [vf 70 (pt 18)] (kpH0 kind off r0 X) = some (Value.tuple #[vi off, vb true], kpH0 kind off r0 X, [])) (h13 : evB lf 19 13 [vf 70 (pt 18)] (kpH0 kind off r0 X) = some (Value.tuple #[vs t, vb true], kpH0 kind off r0 X, [])) (h18 : evB lf 19 18 [Value.slice none 0 0, vi kind, vi off] (kpH0 kind off r0 X) = some (vs t, kpH0 kind off r0 X, [])) (hE : evB lf 19 128 [pt 18] (kpH0 kind off r0 X) = some (vs t, kpH0 kind off r0 X, [])) (h16 : evB lf 19 16 [vf 70 (pt 18)] (kpH0 kind off r0 X) = some (Value.slice none 0 0, kpH0 kind off r0 X, [])) (h19 : evB lf 19 19 [Value.slice none 0 0, Value.slice none 0 0] dH = some (vb true, dH, [])) (hi1 : evB lf 19 15 [vf 70 (pt 18), vi kind] (kpH0 kind off r0 X) = some (vb true, kpH0 kind off r0 X, [])) (hi2 : evB lf 19 15 [vf 70 (pt 18), vi other] (kpH0 kind off r0 X) = some (vb true, kpH0 kind off r0 X, [])) (hS : evB lf 19 20 [vi other] (kpH0 kind off r0 X) = some (vs (ksS ++ d), kpH0 kind off r0 X, [])) (hN : ∀ (H : Heap), evB lf 19 21 [vi other] H = some (vs d, H, [])) (hd : ByteArray.size d ≤ 20) :
    evB lf 20 4 [vi kind, vi other, vi off, Value.slice none 0 0] { n := 18, objs := X :: r0 } = some (vb true, { n := 18, objs := X :: r0 }, []) :=
  Dg.evCall_hint (hs' := []) (hs := [qc 7 (vb true) { n := 18, objs := X :: r0 } [],
    qc 8 (vb false) dH [],
    qc 17 (Value.tuple { toList := [vf 70 (pt 18), Value.slice none 0 0] }) (kpH0 kind off r0 X) [],
    qv 4 30 (vb false),
    qc 11 (Value.tuple #[vi kind, vb true]) (kpH0 kind off r0 X) [],
    qc 12 (Value.tuple #[vi off, vb true]) (kpH0 kind off r0 X) [],
    qc 13 (Value.tuple #[vs t, vb true]) (kpH0 kind off r0 X) [],
    qc 18 (vs t) (kpH0 kind off r0 X) [],
    qv 4 56 (vb true),
    qv 4 63 (vb true),
    qv 4 74 (vb true),
    qc 128 (vs t) (kpH0 kind off r0 X) [],
    qv 4 80 (vb true),
    qc 16 (Value.slice none 0 0) (kpH0 kind off r0 X) [],
    qc 19 (vb true) dH [],
    qc 15 (vb true) (kpH0 kind off r0 X) [],
    qc 15 (vb true) (kpH0 kind off r0 X) [],
    qv 4 99 (vb true),
    qc 20 (vs (ksS ++ d)) (kpH0 kind off r0 X) [],
    qc 21 (vs d) (kpH0 kind off r0 X) [],
    qs 4 107 (vs (ksS ++ d)),
    qv 4 108 (vb true)])
    [evB lf 19 7 [] { n := 18, objs := X :: r0 } = some (vb true, { n := 18, objs := X :: r0 }, []),
    evB lf 19 8 [Value.slice none 0 0] dH = some (vb false, dH, []),
    evB lf 19 17 [vi kind, vi off, Value.slice none 0 0] { n := 18, objs := X :: r0 } = some (Value.tuple { toList := [vf 70 (pt 18), Value.slice none 0 0] }, kpH0 kind off r0 X, []),
    vb (kind == (0 : Int)) = vb false,
    evB lf 19 11 [vf 70 (pt 18)] (kpH0 kind off r0 X) = some (Value.tuple #[vi kind, vb true], kpH0 kind off r0 X, []),
    evB lf 19 12 [vf 70 (pt 18)] (kpH0 kind off r0 X) = some (Value.tuple #[vi off, vb true], kpH0 kind off r0 X, []),
    evB lf 19 13 [vf 70 (pt 18)] (kpH0 kind off r0 X) = some (Value.tuple #[vs t, vb true], kpH0 kind off r0 X, []),
    evB lf 19 18 [Value.slice none 0 0, vi kind, vi off] (kpH0 kind off r0 X) = some (vs t, kpH0 kind off r0 X, []),
    vb (kind == kind) = vb true,
    vb (off == off) = vb true,
    vb (ByteArray.toList t == ByteArray.toList t) = vb true,
    evB lf 19 128 [pt 18] (kpH0 kind off r0 X) = some (vs t, kpH0 kind off r0 X, []),
    vb (ByteArray.toList t == ByteArray.toList t) = vb true,
    evB lf 19 16 [vf 70 (pt 18)] (kpH0 kind off r0 X) = some (Value.slice none 0 0, kpH0 kind off r0 X, []),
    evB lf 19 19 [Value.slice none 0 0, Value.slice none 0 0] dH = some (vb true, dH, []),
    evB lf 19 15 [vf 70 (pt 18), vi kind] (kpH0 kind off r0 X) = some (vb true, kpH0 kind off r0 X, []),
    evB lf 19 15 [vf 70 (pt 18), vi other] (kpH0 kind off r0 X) = some (vb true, kpH0 kind off r0 X, []),
    vb (other == kind) = vb true,
    evB lf 19 20 [vi other] (kpH0 kind off r0 X) = some (vs (ksS ++ d), kpH0 kind off r0 X, []),
    evB lf 19 21 [vi other] (kpH0 kind off r0 X) = some (vs d, kpH0 kind off r0 X, []),
    ByteArray.size ksS + ByteArray.size d ≤ (9223372036854775807 : Nat),
    vs (ksS ++ d) = vs (ksS ++ d),
    vb (ByteArray.toList (ksS ++ d) == ByteArray.toList (ksS ++ d)) = vb true] (by kernel_rfl)
    ⟨hkn, hh, hb, Dg.vfalse (by omega), h11, h12, h13, h18, Dg.vtrue (by omega), Dg.vtrue (by omega), eqS _, hE, eqS _, h16, h19, hi1, hi2, Dg.vtrue (by omega), hS, hN _, by (try simp only [y1, y4]); omega, rfl, eqS _, trivial⟩
--> fbtn
end Go.Proofs.YtpgddboigegplaaGreatDoor.base

namespace Go.Proofs.YtpgddboigegplaaGreatDoor.base
open Go.Dg (junk St Ex Ev Hint evCall evCallS evCode evCodeK innerKp evCodeS evLoop cleanSt ue bodied noOver sbOf headOf tailOf bodyOf rAssign rBody lBody Flats flatOver Heap AObj SCall Law ofLaw Fix)
set_option linter.unusedVariables false
set_option linter.unusedSimpArgs false

--< fbf0
theorem fbf0 (lf : Nat) (kind : Int) (off : Int) (other : Int) (r0 : List AObj) (ys : List Value) (e : Nat) (l : Nat) (cap : Nat) (t : ByteArray) (d : ByteArray) (hk : kind ≠ 0) (ho : other ≠ kind) (hkn : evB lf 19 7 [] (hZ ys e r0) = some (vb true, (hZ ys e r0), [])) (hh : evB lf 19 8 [aW l cap] (hZ ys e r0) = some (vb false, (hZ ys e r0), [])) (hb : evB lf 19 17 [vi kind, vi off, aW l cap] (hZ ys e r0) = some (Value.tuple #[vf 70 (pt 18), Value.slice none 0 0], kpH0 kind off r0 (oW ys e), [])) (h11 : evB lf 19 11 [vf 70 (pt 18)] (kpH0 kind off r0 (oW ys e)) = some (Value.tuple #[vi kind, vb true], kpH0 kind off r0 (oW ys e), [])) (h12 : evB lf 19 12 [vf 70 (pt 18)] (kpH0 kind off r0 (oW ys e)) = some (Value.tuple #[vi off, vb true], kpH0 kind off r0 (oW ys e), [])) (h13 : evB lf 19 13 [vf 70 (pt 18)] (kpH0 kind off r0 (oW ys e)) = some (Value.tuple #[vs t, vb true], kpH0 kind off r0 (oW ys e), [])) (h18 : evB lf 19 18 [Value.slice none 0 0, vi kind, vi off] (kpH0 kind off r0 (oW ys e)) = some (vs t, kpH0 kind off r0 (oW ys e), [])) (hE : evB lf 19 128 [pt 18] (kpH0 kind off r0 (oW ys e)) = some (vs t, kpH0 kind off r0 (oW ys e), [])) (h16 : evB lf 19 16 [vf 70 (pt 18)] (kpH0 kind off r0 (oW ys e)) = some (Value.slice none 0 0, kpH0 kind off r0 (oW ys e), [])) (h19 : evB lf 19 19 [Value.slice none 0 0, Value.slice none 0 0] dH = some (vb true, dH, [])) (hi1 : evB lf 19 15 [vf 70 (pt 18), vi kind] (kpH0 kind off r0 (oW ys e)) = some (vb true, kpH0 kind off r0 (oW ys e), [])) (hi2 : evB lf 19 15 [vf 70 (pt 18), vi other] (kpH0 kind off r0 (oW ys e)) = some (vb false, kpH0 kind off r0 (oW ys e), [])) (hS : evB lf 19 20 [vi other] (kpH0 kind off r0 (oW ys e)) = some (vs (ksS ++ d), kpH0 kind off r0 (oW ys e), [])) (hN : ∀ (H : Heap), evB lf 19 21 [vi other] H = some (vs d, H, [])) (hd : ByteArray.size d ≤ 20) :
    evB lf 20 4 [vi kind, vi other, vi off, aW l cap] (hZ ys e r0) = some (vb true, (hZ ys e r0), []) :=
  Dg.evCall_hint (hs' := []) (hs := [qc 7 (vb true) (hZ ys e r0) [],
    qc 8 (vb false) (hZ ys e r0) [],
    qc 17 (Value.tuple { toList := [vf 70 (pt 18), Value.slice none 0 0] }) (kpH0 kind off r0 (oW ys e)) [],
    qv 4 30 (vb false),
    qc 11 (Value.tuple #[vi kind, vb true]) (kpH0 kind off r0 (oW ys e)) [],
    qc 12 (Value.tuple #[vi off, vb true]) (kpH0 kind off r0 (oW ys e)) [],
    qc 13 (Value.tuple #[vs t, vb true]) (kpH0 kind off r0 (oW ys e)) [],
    qc 18 (vs t) (kpH0 kind off r0 (oW ys e)) [],
    qv 4 56 (vb true),
    qv 4 63 (vb true),
    qv 4 74 (vb true),
    qc 128 (vs t) (kpH0 kind off r0 (oW ys e)) [],
    qv 4 80 (vb true),
    qc 16 (Value.slice none 0 0) (kpH0 kind off r0 (oW ys e)) [],
    qc 19 (vb true) dH [],
    qc 15 (vb true) (kpH0 kind off r0 (oW ys e)) [],
    qc 15 (vb false) (kpH0 kind off r0 (oW ys e)) [],
    qv 4 99 (vb false),
    qc 20 (vs (ksS ++ d)) (kpH0 kind off r0 (oW ys e)) [],
    qc 21 (vs d) (kpH0 kind off r0 (oW ys e)) [],
    qs 4 107 (vs (ksS ++ d)),
    qv 4 108 (vb true)])
    [evB lf 19 7 [] (hZ ys e r0) = some (vb true, (hZ ys e r0), []),
    evB lf 19 8 [aW l cap] (hZ ys e r0) = some (vb false, (hZ ys e r0), []),
    evB lf 19 17 [vi kind, vi off, aW l cap] (hZ ys e r0) = some (Value.tuple { toList := [vf 70 (pt 18), Value.slice none 0 0] }, kpH0 kind off r0 (oW ys e), []),
    vb (kind == (0 : Int)) = vb false,
    evB lf 19 11 [vf 70 (pt 18)] (kpH0 kind off r0 (oW ys e)) = some (Value.tuple #[vi kind, vb true], kpH0 kind off r0 (oW ys e), []),
    evB lf 19 12 [vf 70 (pt 18)] (kpH0 kind off r0 (oW ys e)) = some (Value.tuple #[vi off, vb true], kpH0 kind off r0 (oW ys e), []),
    evB lf 19 13 [vf 70 (pt 18)] (kpH0 kind off r0 (oW ys e)) = some (Value.tuple #[vs t, vb true], kpH0 kind off r0 (oW ys e), []),
    evB lf 19 18 [Value.slice none 0 0, vi kind, vi off] (kpH0 kind off r0 (oW ys e)) = some (vs t, kpH0 kind off r0 (oW ys e), []),
    vb (kind == kind) = vb true,
    vb (off == off) = vb true,
    vb (ByteArray.toList t == ByteArray.toList t) = vb true,
    evB lf 19 128 [pt 18] (kpH0 kind off r0 (oW ys e)) = some (vs t, kpH0 kind off r0 (oW ys e), []),
    vb (ByteArray.toList t == ByteArray.toList t) = vb true,
    evB lf 19 16 [vf 70 (pt 18)] (kpH0 kind off r0 (oW ys e)) = some (Value.slice none 0 0, kpH0 kind off r0 (oW ys e), []),
    evB lf 19 19 [Value.slice none 0 0, Value.slice none 0 0] dH = some (vb true, dH, []),
    evB lf 19 15 [vf 70 (pt 18), vi kind] (kpH0 kind off r0 (oW ys e)) = some (vb true, kpH0 kind off r0 (oW ys e), []),
    evB lf 19 15 [vf 70 (pt 18), vi other] (kpH0 kind off r0 (oW ys e)) = some (vb false, kpH0 kind off r0 (oW ys e), []),
    vb (other == kind) = vb false,
    evB lf 19 20 [vi other] (kpH0 kind off r0 (oW ys e)) = some (vs (ksS ++ d), kpH0 kind off r0 (oW ys e), []),
    evB lf 19 21 [vi other] (kpH0 kind off r0 (oW ys e)) = some (vs d, kpH0 kind off r0 (oW ys e), []),
    ByteArray.size ksS + ByteArray.size d ≤ (9223372036854775807 : Nat),
    vs (ksS ++ d) = vs (ksS ++ d),
    vb (ByteArray.toList (ksS ++ d) == ByteArray.toList (ksS ++ d)) = vb true] (by kernel_rfl)
    ⟨hkn, hh, hb, Dg.vfalse (by omega), h11, h12, h13, h18, Dg.vtrue (by omega), Dg.vtrue (by omega), eqS _, hE, eqS _, h16, h19, hi1, hi2, Dg.vfalse (by omega), hS, hN _, by (try simp only [y1, y4]); omega, rfl, eqS _, trivial⟩
--> fbf0
--< fbf1
theorem fbf1 (lf : Nat) (kind : Int) (off : Int) (other : Int) (r0 : List AObj) (ys : List Value) (e : Nat) (l : Nat) (cap : Nat) (w1 : ByteArray) (t : ByteArray) (d : ByteArray) (hk : kind ≠ 0) (ho : other ≠ kind) (hkn : evB lf 19 7 [] (hZ ys e r0) = some (vb true, (hZ ys e r0), [])) (hh : evB lf 19 8 [aW l cap] (hZ ys e r0) = some (vb false, (hZ ys e r0), [])) (hb : evB lf 19 17 [vi kind, vi off, aW l cap] (hZ ys e r0) = some (Value.tuple #[vf 67 (pt 18), sq 20 1 1], kpH1 kind off r0 (oW ys e) w1, [])) (h11 : evB lf 19 11 [vf 67 (pt 18)] (kpH1 kind off r0 (oW ys e) w1) = some (Value.tuple #[vi kind, vb true], kpH1 kind off r0 (oW ys e) w1, [])) (h12 : evB lf 19 12 [vf 67 (pt 18)] (kpH1 kind off r0 (oW ys e) w1) = some (Value.tuple #[vi off, vb true], kpH1 kind off r0 (oW ys e) w1, [])) (h13 : evB lf 19 13 [vf 67 (pt 18)] (kpH1 kind off r0 (oW ys e) w1) = some (Value.tuple #[vs t, vb true], kpH1 kind off r0 (oW ys e) w1, [])) (h18 : evB lf 19 18 [sq 20 1 1, vi kind, vi off] (kpH1 kind off r0 (oW ys e) w1) = some (vs t, kpH1 kind off r0 (oW ys e) w1, [])) (hE : evB lf 19 126 [pt 18] (kpH1 kind off r0 (oW ys e) w1) = some (vs t, kpH1 kind off r0 (oW ys e) w1, [])) (h16 : evB lf 19 16 [vf 67 (pt 18)] (kpH1 kind off r0 (oW ys e) w1) = some (sp 21 1 1, kpN1 kind off r0 (oW ys e) w1, [])) (h19 : evB lf 19 19 [sp 21 1 1, sq 20 1 1] (kpN1 kind off r0 (oW ys e) w1) = some (vb true, kpN1 kind off r0 (oW ys e) w1, [])) (hi1 : evB lf 19 15 [vf 67 (pt 18), vi kind] (kpN1 kind off r0 (oW ys e) w1) = some (vb true, kpN1 kind off r0 (oW ys e) w1, [])) (hi2 : evB lf 19 15 [vf 67 (pt 18), vi other] (kpN1 kind off r0 (oW ys e) w1) = some (vb false, kpN1 kind off r0 (oW ys e) w1, [])) (hS : evB lf 19 20 [vi other] (kpN1 kind off r0 (oW ys e) w1) = some (vs (ksS ++ d), kpN1 kind off r0 (oW ys e) w1, [])) (hN : ∀ (H : Heap), evB lf 19 21 [vi other] H = some (vs d, H, [])) (hd : ByteArray.size d ≤ 20) :
    evB lf 20 4 [vi kind, vi other, vi off, aW l cap] (hZ ys e r0) = some (vb true, (hZ ys e r0), []) :=
  Dg.evCall_hint (hs' := []) (hs := [qc 7 (vb true) (hZ ys e r0) [],
    qc 8 (vb false) (hZ ys e r0) [],
    qc 17 (Value.tuple { toList := [vf 67 (pt 18), sq 20 1 1] }) (kpH1 kind off r0 (oW ys e) w1) [],
    qv 4 30 (vb false),
    qc 11 (Value.tuple #[vi kind, vb true]) (kpH1 kind off r0 (oW ys e) w1) [],
    qc 12 (Value.tuple #[vi off, vb true]) (kpH1 kind off r0 (oW ys e) w1) [],
    qc 13 (Value.tuple #[vs t, vb true]) (kpH1 kind off r0 (oW ys e) w1) [],
    qc 18 (vs t) (kpH1 kind off r0 (oW ys e) w1) [],
    qv 4 56 (vb true),
    qv 4 63 (vb true),
    qv 4 74 (vb true),
    qc 126 (vs t) (kpH1 kind off r0 (oW ys e) w1) [],
    qv 4 80 (vb true),
    qc 16 (sp 21 1 1) (kpN1 kind off r0 (oW ys e) w1) [],
    qc 19 (vb true) (kpN1 kind off r0 (oW ys e) w1) [],
    qc 15 (vb true) (kpN1 kind off r0 (oW ys e) w1) [],
    qc 15 (vb false) (kpN1 kind off r0 (oW ys e) w1) [],
    qv 4 99 (vb false),
    qc 20 (vs (ksS ++ d)) (kpN1 kind off r0 (oW ys e) w1) [],
    qc 21 (vs d) (kpN1 kind off r0 (oW ys e) w1) [],
    qs 4 107 (vs (ksS ++ d)),
    qv 4 108 (vb true)])
    [evB lf 19 7 [] (hZ ys e r0) = some (vb true, (hZ ys e r0), []),
    evB lf 19 8 [aW l cap] (hZ ys e r0) = some (vb false, (hZ ys e r0), []),
    evB lf 19 17 [vi kind, vi off, aW l cap] (hZ ys e r0) = some (Value.tuple { toList := [vf 67 (pt 18), sq 20 1 1] }, kpH1 kind off r0 (oW ys e) w1, []),
    vb (kind == (0 : Int)) = vb false,
    evB lf 19 11 [vf 67 (pt 18)] (kpH1 kind off r0 (oW ys e) w1) = some (Value.tuple #[vi kind, vb true], kpH1 kind off r0 (oW ys e) w1, []),
    evB lf 19 12 [vf 67 (pt 18)] (kpH1 kind off r0 (oW ys e) w1) = some (Value.tuple #[vi off, vb true], kpH1 kind off r0 (oW ys e) w1, []),
    evB lf 19 13 [vf 67 (pt 18)] (kpH1 kind off r0 (oW ys e) w1) = some (Value.tuple #[vs t, vb true], kpH1 kind off r0 (oW ys e) w1, []),
    evB lf 19 18 [sq 20 1 1, vi kind, vi off] (kpH1 kind off r0 (oW ys e) w1) = some (vs t, kpH1 kind off r0 (oW ys e) w1, []),
    vb (kind == kind) = vb true,
    vb (off == off) = vb true,
    vb (ByteArray.toList t == ByteArray.toList t) = vb true,
    evB lf 19 126 [pt 18] (kpH1 kind off r0 (oW ys e) w1) = some (vs t, kpH1 kind off r0 (oW ys e) w1, []),
    vb (ByteArray.toList t == ByteArray.toList t) = vb true,
    evB lf 19 16 [vf 67 (pt 18)] (kpH1 kind off r0 (oW ys e) w1) = some (sp 21 1 1, kpN1 kind off r0 (oW ys e) w1, []),
    evB lf 19 19 [sp 21 1 1, sq 20 1 1] (kpN1 kind off r0 (oW ys e) w1) = some (vb true, kpN1 kind off r0 (oW ys e) w1, []),
    evB lf 19 15 [vf 67 (pt 18), vi kind] (kpN1 kind off r0 (oW ys e) w1) = some (vb true, kpN1 kind off r0 (oW ys e) w1, []),
    evB lf 19 15 [vf 67 (pt 18), vi other] (kpN1 kind off r0 (oW ys e) w1) = some (vb false, kpN1 kind off r0 (oW ys e) w1, []),
    vb (other == kind) = vb false,
    evB lf 19 20 [vi other] (kpN1 kind off r0 (oW ys e) w1) = some (vs (ksS ++ d), kpN1 kind off r0 (oW ys e) w1, []),
    evB lf 19 21 [vi other] (kpN1 kind off r0 (oW ys e) w1) = some (vs d, kpN1 kind off r0 (oW ys e) w1, []),
    ByteArray.size ksS + ByteArray.size d ≤ (9223372036854775807 : Nat),
    vs (ksS ++ d) = vs (ksS ++ d),
    vb (ByteArray.toList (ksS ++ d) == ByteArray.toList (ksS ++ d)) = vb true] (by kernel_rfl)
    ⟨hkn, hh, hb, Dg.vfalse (by omega), h11, h12, h13, h18, Dg.vtrue (by omega), Dg.vtrue (by omega), eqS _, hE, eqS _, h16, h19, hi1, hi2, Dg.vfalse (by omega), hS, hN _, by (try simp only [y1, y4]); omega, rfl, eqS _, trivial⟩
--> fbf1
--< fbf2
theorem fbf2 (lf : Nat) (kind : Int) (off : Int) (other : Int) (r0 : List AObj) (ys : List Value) (e : Nat) (l : Nat) (cap : Nat) (w1 : ByteArray) (w2 : ByteArray) (t : ByteArray) (d : ByteArray) (hk : kind ≠ 0) (ho : other ≠ kind) (hkn : evB lf 19 7 [] (hZ ys e r0) = some (vb true, (hZ ys e r0), [])) (hh : evB lf 19 8 [aW l cap] (hZ ys e r0) = some (vb false, (hZ ys e r0), [])) (hb : evB lf 19 17 [vi kind, vi off, aW l cap] (hZ ys e r0) = some (Value.tuple #[vf 67 (pt 18), sp 21 2 2], kpH2 kind off r0 (oW ys e) w1 w2, [])) (h11 : evB lf 19 11 [vf 67 (pt 18)] (kpH2 kind off r0 (oW ys e) w1 w2) = some (Value.tuple #[vi kind, vb true], kpH2 kind off r0 (oW ys e) w1 w2, [])) (h12 : evB lf 19 12 [vf 67 (pt 18)] (kpH2 kind off r0 (oW ys e) w1 w2) = some (Value.tuple #[vi off, vb true], kpH2 kind off r0 (oW ys e) w1 w2, [])) (h13 : evB lf 19 13 [vf 67 (pt 18)] (kpH2 kind off r0 (oW ys e) w1 w2) = some (Value.tuple #[vs t, vb true], kpH2 kind off r0 (oW ys e) w1 w2, [])) (h18 : evB lf 19 18 [sp 21 2 2, vi kind, vi off] (kpH2 kind off r0 (oW ys e) w1 w2) = some (vs t, kpH2 kind off r0 (oW ys e) w1 w2, [])) (hE : evB lf 19 126 [pt 18] (kpH2 kind off r0 (oW ys e) w1 w2) = some (vs t, kpH2 kind off r0 (oW ys e) w1 w2, [])) (h16 : evB lf 19 16 [vf 67 (pt 18)] (kpH2 kind off r0 (oW ys e) w1 w2) = some (sp 22 2 2, kpN2 kind off r0 (oW ys e) w1 w2, [])) (h19 : evB lf 19 19 [sp 22 2 2, sp 21 2 2] (kpN2 kind off r0 (oW ys e) w1 w2) = some (vb true, kpN2 kind off r0 (oW ys e) w1 w2, [])) (hi1 : evB lf 19 15 [vf 67 (pt 18), vi kind] (kpN2 kind off r0 (oW ys e) w1 w2) = some (vb true, kpN2 kind off r0 (oW ys e) w1 w2, [])) (hi2 : evB lf 19 15 [vf 67 (pt 18), vi other] (kpN2 kind off r0 (oW ys e) w1 w2) = some (vb false, kpN2 kind off r0 (oW ys e) w1 w2, [])) (hS : evB lf 19 20 [vi other] (kpN2 kind off r0 (oW ys e) w1 w2) = some (vs (ksS ++ d), kpN2 kind off r0 (oW ys e) w1 w2, [])) (hN : ∀ (H : Heap), evB lf 19 21 [vi other] H = some (vs d, H, [])) (hd : ByteArray.size d ≤ 20) :
    evB lf 20 4 [vi kind, vi other, vi off, aW l cap] (hZ ys e r0) = some (vb true, (hZ ys e r0), []) :=
  Dg.evCall_hint (hs' := []) (hs := [qc 7 (vb true) (hZ ys e r0) [],
    qc 8 (vb false) (hZ ys e r0) [],
    qc 17 (Value.tuple { toList := [vf 67 (pt 18), sp 21 2 2] }) (kpH2 kind off r0 (oW ys e) w1 w2) [],
    qv 4 30 (vb false),
    qc 11 (Value.tuple #[vi kind, vb true]) (kpH2 kind off r0 (oW ys e) w1 w2) [],
    qc 12 (Value.tuple #[vi off, vb true]) (kpH2 kind off r0 (oW ys e) w1 w2) [],
    qc 13 (Value.tuple #[vs t, vb true]) (kpH2 kind off r0 (oW ys e) w1 w2) [],
    qc 18 (vs t) (kpH2 kind off r0 (oW ys e) w1 w2) [],
    qv 4 56 (vb true),
    qv 4 63 (vb true),
    qv 4 74 (vb true),
    qc 126 (vs t) (kpH2 kind off r0 (oW ys e) w1 w2) [],
    qv 4 80 (vb true),
    qc 16 (sp 22 2 2) (kpN2 kind off r0 (oW ys e) w1 w2) [],
    qc 19 (vb true) (kpN2 kind off r0 (oW ys e) w1 w2) [],
    qc 15 (vb true) (kpN2 kind off r0 (oW ys e) w1 w2) [],
    qc 15 (vb false) (kpN2 kind off r0 (oW ys e) w1 w2) [],
    qv 4 99 (vb false),
    qc 20 (vs (ksS ++ d)) (kpN2 kind off r0 (oW ys e) w1 w2) [],
    qc 21 (vs d) (kpN2 kind off r0 (oW ys e) w1 w2) [],
    qs 4 107 (vs (ksS ++ d)),
    qv 4 108 (vb true)])
    [evB lf 19 7 [] (hZ ys e r0) = some (vb true, (hZ ys e r0), []),
    evB lf 19 8 [aW l cap] (hZ ys e r0) = some (vb false, (hZ ys e r0), []),
    evB lf 19 17 [vi kind, vi off, aW l cap] (hZ ys e r0) = some (Value.tuple { toList := [vf 67 (pt 18), sp 21 2 2] }, kpH2 kind off r0 (oW ys e) w1 w2, []),
    vb (kind == (0 : Int)) = vb false,
    evB lf 19 11 [vf 67 (pt 18)] (kpH2 kind off r0 (oW ys e) w1 w2) = some (Value.tuple #[vi kind, vb true], kpH2 kind off r0 (oW ys e) w1 w2, []),
    evB lf 19 12 [vf 67 (pt 18)] (kpH2 kind off r0 (oW ys e) w1 w2) = some (Value.tuple #[vi off, vb true], kpH2 kind off r0 (oW ys e) w1 w2, []),
    evB lf 19 13 [vf 67 (pt 18)] (kpH2 kind off r0 (oW ys e) w1 w2) = some (Value.tuple #[vs t, vb true], kpH2 kind off r0 (oW ys e) w1 w2, []),
    evB lf 19 18 [sp 21 2 2, vi kind, vi off] (kpH2 kind off r0 (oW ys e) w1 w2) = some (vs t, kpH2 kind off r0 (oW ys e) w1 w2, []),
    vb (kind == kind) = vb true,
    vb (off == off) = vb true,
    vb (ByteArray.toList t == ByteArray.toList t) = vb true,
    evB lf 19 126 [pt 18] (kpH2 kind off r0 (oW ys e) w1 w2) = some (vs t, kpH2 kind off r0 (oW ys e) w1 w2, []),
    vb (ByteArray.toList t == ByteArray.toList t) = vb true,
    evB lf 19 16 [vf 67 (pt 18)] (kpH2 kind off r0 (oW ys e) w1 w2) = some (sp 22 2 2, kpN2 kind off r0 (oW ys e) w1 w2, []),
    evB lf 19 19 [sp 22 2 2, sp 21 2 2] (kpN2 kind off r0 (oW ys e) w1 w2) = some (vb true, kpN2 kind off r0 (oW ys e) w1 w2, []),
    evB lf 19 15 [vf 67 (pt 18), vi kind] (kpN2 kind off r0 (oW ys e) w1 w2) = some (vb true, kpN2 kind off r0 (oW ys e) w1 w2, []),
    evB lf 19 15 [vf 67 (pt 18), vi other] (kpN2 kind off r0 (oW ys e) w1 w2) = some (vb false, kpN2 kind off r0 (oW ys e) w1 w2, []),
    vb (other == kind) = vb false,
    evB lf 19 20 [vi other] (kpN2 kind off r0 (oW ys e) w1 w2) = some (vs (ksS ++ d), kpN2 kind off r0 (oW ys e) w1 w2, []),
    evB lf 19 21 [vi other] (kpN2 kind off r0 (oW ys e) w1 w2) = some (vs d, kpN2 kind off r0 (oW ys e) w1 w2, []),
    ByteArray.size ksS + ByteArray.size d ≤ (9223372036854775807 : Nat),
    vs (ksS ++ d) = vs (ksS ++ d),
    vb (ByteArray.toList (ksS ++ d) == ByteArray.toList (ksS ++ d)) = vb true] (by kernel_rfl)
    ⟨hkn, hh, hb, Dg.vfalse (by omega), h11, h12, h13, h18, Dg.vtrue (by omega), Dg.vtrue (by omega), eqS _, hE, eqS _, h16, h19, hi1, hi2, Dg.vfalse (by omega), hS, hN _, by (try simp only [y1, y4]); omega, rfl, eqS _, trivial⟩
--> fbf2
--< fbf3
theorem fbf3 (lf : Nat) (kind : Int) (off : Int) (other : Int) (r0 : List AObj) (ys : List Value) (e : Nat) (l : Nat) (cap : Nat) (w1 : ByteArray) (w2 : ByteArray) (w3 : ByteArray) (t : ByteArray) (d : ByteArray) (hk : kind ≠ 0) (ho : other ≠ kind) (hkn : evB lf 19 7 [] (hZ ys e r0) = some (vb true, (hZ ys e r0), [])) (hh : evB lf 19 8 [aW l cap] (hZ ys e r0) = some (vb false, (hZ ys e r0), [])) (hb : evB lf 19 17 [vi kind, vi off, aW l cap] (hZ ys e r0) = some (Value.tuple #[vf 67 (pt 18), sp 22 3 3], kpH3 kind off r0 (oW ys e) w1 w2 w3, [])) (h11 : evB lf 19 11 [vf 67 (pt 18)] (kpH3 kind off r0 (oW ys e) w1 w2 w3) = some (Value.tuple #[vi kind, vb true], kpH3 kind off r0 (oW ys e) w1 w2 w3, [])) (h12 : evB lf 19 12 [vf 67 (pt 18)] (kpH3 kind off r0 (oW ys e) w1 w2 w3) = some (Value.tuple #[vi off, vb true], kpH3 kind off r0 (oW ys e) w1 w2 w3, [])) (h13 : evB lf 19 13 [vf 67 (pt 18)] (kpH3 kind off r0 (oW ys e) w1 w2 w3) = some (Value.tuple #[vs t, vb true], kpH3 kind off r0 (oW ys e) w1 w2 w3, [])) (h18 : evB lf 19 18 [sp 22 3 3, vi kind, vi off] (kpH3 kind off r0 (oW ys e) w1 w2 w3) = some (vs t, kpH3 kind off r0 (oW ys e) w1 w2 w3, [])) (hE : evB lf 19 126 [pt 18] (kpH3 kind off r0 (oW ys e) w1 w2 w3) = some (vs t, kpH3 kind off r0 (oW ys e) w1 w2 w3, [])) (h16 : evB lf 19 16 [vf 67 (pt 18)] (kpH3 kind off r0 (oW ys e) w1 w2 w3) = some (sp 23 3 3, kpN3 kind off r0 (oW ys e) w1 w2 w3, [])) (h19 : evB lf 19 19 [sp 23 3 3, sp 22 3 3] (kpN3 kind off r0 (oW ys e) w1 w2 w3) = some (vb true, kpN3 kind off r0 (oW ys e) w1 w2 w3, [])) (hi1 : evB lf 19 15 [vf 67 (pt 18), vi kind] (kpN3 kind off r0 (oW ys e) w1 w2 w3) = some (vb true, kpN3 kind off r0 (oW ys e) w1 w2 w3, [])) (hi2 : evB lf 19 15 [vf 67 (pt 18), vi other] (kpN3 kind off r0 (oW ys e) w1 w2 w3) = some (vb false, kpN3 kind off r0 (oW ys e) w1 w2 w3, [])) (hS : evB lf 19 20 [vi other] (kpN3 kind off r0 (oW ys e) w1 w2 w3) = some (vs (ksS ++ d), kpN3 kind off r0 (oW ys e) w1 w2 w3, [])) (hN : ∀ (H : Heap), evB lf 19 21 [vi other] H = some (vs d, H, [])) (hd : ByteArray.size d ≤ 20) :
    evB lf 20 4 [vi kind, vi other, vi off, aW l cap] (hZ ys e r0) = some (vb true, (hZ ys e r0), []) :=
  Dg.evCall_hint (hs' := []) (hs := [qc 7 (vb true) (hZ ys e r0) [],
    qc 8 (vb false) (hZ ys e r0) [],
    qc 17 (Value.tuple { toList := [vf 67 (pt 18), sp 22 3 3] }) (kpH3 kind off r0 (oW ys e) w1 w2 w3) [],
    qv 4 30 (vb false),
    qc 11 (Value.tuple #[vi kind, vb true]) (kpH3 kind off r0 (oW ys e) w1 w2 w3) [],
    qc 12 (Value.tuple #[vi off, vb true]) (kpH3 kind off r0 (oW ys e) w1 w2 w3) [],
    qc 13 (Value.tuple #[vs t, vb true]) (kpH3 kind off r0 (oW ys e) w1 w2 w3) [],
    qc 18 (vs t) (kpH3 kind off r0 (oW ys e) w1 w2 w3) [],
    qv 4 56 (vb true),
    qv 4 63 (vb true),
    qv 4 74 (vb true),
    qc 126 (vs t) (kpH3 kind off r0 (oW ys e) w1 w2 w3) [],
    qv 4 80 (vb true),
    qc 16 (sp 23 3 3) (kpN3 kind off r0 (oW ys e) w1 w2 w3) [],
    qc 19 (vb true) (kpN3 kind off r0 (oW ys e) w1 w2 w3) [],
    qc 15 (vb true) (kpN3 kind off r0 (oW ys e) w1 w2 w3) [],
    qc 15 (vb false) (kpN3 kind off r0 (oW ys e) w1 w2 w3) [],
    qv 4 99 (vb false),
    qc 20 (vs (ksS ++ d)) (kpN3 kind off r0 (oW ys e) w1 w2 w3) [],
    qc 21 (vs d) (kpN3 kind off r0 (oW ys e) w1 w2 w3) [],
    qs 4 107 (vs (ksS ++ d)),
    qv 4 108 (vb true)])
    [evB lf 19 7 [] (hZ ys e r0) = some (vb true, (hZ ys e r0), []),
    evB lf 19 8 [aW l cap] (hZ ys e r0) = some (vb false, (hZ ys e r0), []),
    evB lf 19 17 [vi kind, vi off, aW l cap] (hZ ys e r0) = some (Value.tuple { toList := [vf 67 (pt 18), sp 22 3 3] }, kpH3 kind off r0 (oW ys e) w1 w2 w3, []),
    vb (kind == (0 : Int)) = vb false,
    evB lf 19 11 [vf 67 (pt 18)] (kpH3 kind off r0 (oW ys e) w1 w2 w3) = some (Value.tuple #[vi kind, vb true], kpH3 kind off r0 (oW ys e) w1 w2 w3, []),
    evB lf 19 12 [vf 67 (pt 18)] (kpH3 kind off r0 (oW ys e) w1 w2 w3) = some (Value.tuple #[vi off, vb true], kpH3 kind off r0 (oW ys e) w1 w2 w3, []),
    evB lf 19 13 [vf 67 (pt 18)] (kpH3 kind off r0 (oW ys e) w1 w2 w3) = some (Value.tuple #[vs t, vb true], kpH3 kind off r0 (oW ys e) w1 w2 w3, []),
    evB lf 19 18 [sp 22 3 3, vi kind, vi off] (kpH3 kind off r0 (oW ys e) w1 w2 w3) = some (vs t, kpH3 kind off r0 (oW ys e) w1 w2 w3, []),
    vb (kind == kind) = vb true,
    vb (off == off) = vb true,
    vb (ByteArray.toList t == ByteArray.toList t) = vb true,
    evB lf 19 126 [pt 18] (kpH3 kind off r0 (oW ys e) w1 w2 w3) = some (vs t, kpH3 kind off r0 (oW ys e) w1 w2 w3, []),
    vb (ByteArray.toList t == ByteArray.toList t) = vb true,
    evB lf 19 16 [vf 67 (pt 18)] (kpH3 kind off r0 (oW ys e) w1 w2 w3) = some (sp 23 3 3, kpN3 kind off r0 (oW ys e) w1 w2 w3, []),
    evB lf 19 19 [sp 23 3 3, sp 22 3 3] (kpN3 kind off r0 (oW ys e) w1 w2 w3) = some (vb true, kpN3 kind off r0 (oW ys e) w1 w2 w3, []),
    evB lf 19 15 [vf 67 (pt 18), vi kind] (kpN3 kind off r0 (oW ys e) w1 w2 w3) = some (vb true, kpN3 kind off r0 (oW ys e) w1 w2 w3, []),
    evB lf 19 15 [vf 67 (pt 18), vi other] (kpN3 kind off r0 (oW ys e) w1 w2 w3) = some (vb false, kpN3 kind off r0 (oW ys e) w1 w2 w3, []),
    vb (other == kind) = vb false,
    evB lf 19 20 [vi other] (kpN3 kind off r0 (oW ys e) w1 w2 w3) = some (vs (ksS ++ d), kpN3 kind off r0 (oW ys e) w1 w2 w3, []),
    evB lf 19 21 [vi other] (kpN3 kind off r0 (oW ys e) w1 w2 w3) = some (vs d, kpN3 kind off r0 (oW ys e) w1 w2 w3, []),
    ByteArray.size ksS + ByteArray.size d ≤ (9223372036854775807 : Nat),
    vs (ksS ++ d) = vs (ksS ++ d),
    vb (ByteArray.toList (ksS ++ d) == ByteArray.toList (ksS ++ d)) = vb true] (by kernel_rfl)
    ⟨hkn, hh, hb, Dg.vfalse (by omega), h11, h12, h13, h18, Dg.vtrue (by omega), Dg.vtrue (by omega), eqS _, hE, eqS _, h16, h19, hi1, hi2, Dg.vfalse (by omega), hS, hN _, by (try simp only [y1, y4]); omega, rfl, eqS _, trivial⟩
--> fbf3
--< fbf4
theorem fbf4 (lf : Nat) (kind : Int) (off : Int) (other : Int) (r0 : List AObj) (ys : List Value) (e : Nat) (l : Nat) (cap : Nat) (w1 : ByteArray) (w2 : ByteArray) (w3 : ByteArray) (w4 : ByteArray) (t : ByteArray) (d : ByteArray) (hk : kind ≠ 0) (ho : other ≠ kind) (hkn : evB lf 19 7 [] (hZ ys e r0) = some (vb true, (hZ ys e r0), [])) (hh : evB lf 19 8 [aW l cap] (hZ ys e r0) = some (vb false, (hZ ys e r0), [])) (hb : evB lf 19 17 [vi kind, vi off, aW l cap] (hZ ys e r0) = some (Value.tuple #[vf 67 (pt 18), sp 23 4 4], kpH4 kind off r0 (oW ys e) w1 w2 w3 w4, [])) (h11 : evB lf 19 11 [vf 67 (pt 18)] (kpH4 kind off r0 (oW ys e) w1 w2 w3 w4) = some (Value.tuple #[vi kind, vb true], kpH4 kind off r0 (oW ys e) w1 w2 w3 w4, [])) (h12 : evB lf 19 12 [vf 67 (pt 18)] (kpH4 kind off r0 (oW ys e) w1 w2 w3 w4) = some (Value.tuple #[vi off, vb true], kpH4 kind off r0 (oW ys e) w1 w2 w3 w4, [])) (h13 : evB lf 19 13 [vf 67 (pt 18)] (kpH4 kind off r0 (oW ys e) w1 w2 w3 w4) = some (Value.tuple #[vs t, vb true], kpH4 kind off r0 (oW ys e) w1 w2 w3 w4, [])) (h18 : evB lf 19 18 [sp 23 4 4, vi kind, vi off] (kpH4 kind off r0 (oW ys e) w1 w2 w3 w4) = some (vs t, kpH4 kind off r0 (oW ys e) w1 w2 w3 w4, [])) (hE : evB lf 19 126 [pt 18] (kpH4 kind off r0 (oW ys e) w1 w2 w3 w4) = some (vs t, kpH4 kind off r0 (oW ys e) w1 w2 w3 w4, [])) (h16 : evB lf 19 16 [vf 67 (pt 18)] (kpH4 kind off r0 (oW ys e) w1 w2 w3 w4) = some (sp 24 4 4, kpN4 kind off r0 (oW ys e) w1 w2 w3 w4, [])) (h19 : evB lf 19 19 [sp 24 4 4, sp 23 4 4] (kpN4 kind off r0 (oW ys e) w1 w2 w3 w4) = some (vb true, kpN4 kind off r0 (oW ys e) w1 w2 w3 w4, [])) (hi1 : evB lf 19 15 [vf 67 (pt 18), vi kind] (kpN4 kind off r0 (oW ys e) w1 w2 w3 w4) = some (vb true, kpN4 kind off r0 (oW ys e) w1 w2 w3 w4, [])) (hi2 : evB lf 19 15 [vf 67 (pt 18), vi other] (kpN4 kind off r0 (oW ys e) w1 w2 w3 w4) = some (vb false, kpN4 kind off r0 (oW ys e) w1 w2 w3 w4, [])) (hS : evB lf 19 20 [vi other] (kpN4 kind off r0 (oW ys e) w1 w2 w3 w4) = some (vs (ksS ++ d), kpN4 kind off r0 (oW ys e) w1 w2 w3 w4, [])) (hN : ∀ (H : Heap), evB lf 19 21 [vi other] H = some (vs d, H, [])) (hd : ByteArray.size d ≤ 20) :
    evB lf 20 4 [vi kind, vi other, vi off, aW l cap] (hZ ys e r0) = some (vb true, (hZ ys e r0), []) :=
  Dg.evCall_hint (hs' := []) (hs := [qc 7 (vb true) (hZ ys e r0) [],
    qc 8 (vb false) (hZ ys e r0) [],
    qc 17 (Value.tuple { toList := [vf 67 (pt 18), sp 23 4 4] }) (kpH4 kind off r0 (oW ys e) w1 w2 w3 w4) [],
    qv 4 30 (vb false),
    qc 11 (Value.tuple #[vi kind, vb true]) (kpH4 kind off r0 (oW ys e) w1 w2 w3 w4) [],
    qc 12 (Value.tuple #[vi off, vb true]) (kpH4 kind off r0 (oW ys e) w1 w2 w3 w4) [],
    qc 13 (Value.tuple #[vs t, vb true]) (kpH4 kind off r0 (oW ys e) w1 w2 w3 w4) [],
    qc 18 (vs t) (kpH4 kind off r0 (oW ys e) w1 w2 w3 w4) [],
    qv 4 56 (vb true),
    qv 4 63 (vb true),
    qv 4 74 (vb true),
    qc 126 (vs t) (kpH4 kind off r0 (oW ys e) w1 w2 w3 w4) [],
    qv 4 80 (vb true),
    qc 16 (sp 24 4 4) (kpN4 kind off r0 (oW ys e) w1 w2 w3 w4) [],
    qc 19 (vb true) (kpN4 kind off r0 (oW ys e) w1 w2 w3 w4) [],
    qc 15 (vb true) (kpN4 kind off r0 (oW ys e) w1 w2 w3 w4) [],
    qc 15 (vb false) (kpN4 kind off r0 (oW ys e) w1 w2 w3 w4) [],
    qv 4 99 (vb false),
    qc 20 (vs (ksS ++ d)) (kpN4 kind off r0 (oW ys e) w1 w2 w3 w4) [],
    qc 21 (vs d) (kpN4 kind off r0 (oW ys e) w1 w2 w3 w4) [],
    qs 4 107 (vs (ksS ++ d)),
    qv 4 108 (vb true)])
    [evB lf 19 7 [] (hZ ys e r0) = some (vb true, (hZ ys e r0), []),
    evB lf 19 8 [aW l cap] (hZ ys e r0) = some (vb false, (hZ ys e r0), []),
    evB lf 19 17 [vi kind, vi off, aW l cap] (hZ ys e r0) = some (Value.tuple { toList := [vf 67 (pt 18), sp 23 4 4] }, kpH4 kind off r0 (oW ys e) w1 w2 w3 w4, []),
    vb (kind == (0 : Int)) = vb false,
    evB lf 19 11 [vf 67 (pt 18)] (kpH4 kind off r0 (oW ys e) w1 w2 w3 w4) = some (Value.tuple #[vi kind, vb true], kpH4 kind off r0 (oW ys e) w1 w2 w3 w4, []),
    evB lf 19 12 [vf 67 (pt 18)] (kpH4 kind off r0 (oW ys e) w1 w2 w3 w4) = some (Value.tuple #[vi off, vb true], kpH4 kind off r0 (oW ys e) w1 w2 w3 w4, []),
    evB lf 19 13 [vf 67 (pt 18)] (kpH4 kind off r0 (oW ys e) w1 w2 w3 w4) = some (Value.tuple #[vs t, vb true], kpH4 kind off r0 (oW ys e) w1 w2 w3 w4, []),
    evB lf 19 18 [sp 23 4 4, vi kind, vi off] (kpH4 kind off r0 (oW ys e) w1 w2 w3 w4) = some (vs t, kpH4 kind off r0 (oW ys e) w1 w2 w3 w4, []),
    vb (kind == kind) = vb true,
    vb (off == off) = vb true,
    vb (ByteArray.toList t == ByteArray.toList t) = vb true,
    evB lf 19 126 [pt 18] (kpH4 kind off r0 (oW ys e) w1 w2 w3 w4) = some (vs t, kpH4 kind off r0 (oW ys e) w1 w2 w3 w4, []),
    vb (ByteArray.toList t == ByteArray.toList t) = vb true,
    evB lf 19 16 [vf 67 (pt 18)] (kpH4 kind off r0 (oW ys e) w1 w2 w3 w4) = some (sp 24 4 4, kpN4 kind off r0 (oW ys e) w1 w2 w3 w4, []),
    evB lf 19 19 [sp 24 4 4, sp 23 4 4] (kpN4 kind off r0 (oW ys e) w1 w2 w3 w4) = some (vb true, kpN4 kind off r0 (oW ys e) w1 w2 w3 w4, []),
    evB lf 19 15 [vf 67 (pt 18), vi kind] (kpN4 kind off r0 (oW ys e) w1 w2 w3 w4) = some (vb true, kpN4 kind off r0 (oW ys e) w1 w2 w3 w4, []),
    evB lf 19 15 [vf 67 (pt 18), vi other] (kpN4 kind off r0 (oW ys e) w1 w2 w3 w4) = some (vb false, kpN4 kind off r0 (oW ys e) w1 w2 w3 w4, []),
    vb (other == kind) = vb false,
    evB lf 19 20 [vi other] (kpN4 kind off r0 (oW ys e) w1 w2 w3 w4) = some (vs (ksS ++ d), kpN4 kind off r0 (oW ys e) w1 w2 w3 w4, []),
    evB lf 19 21 [vi other] (kpN4 kind off r0 (oW ys e) w1 w2 w3 w4) = some (vs d, kpN4 kind off r0 (oW ys e) w1 w2 w3 w4, []),
    ByteArray.size ksS + ByteArray.size d ≤ (9223372036854775807 : Nat),
    vs (ksS ++ d) = vs (ksS ++ d),
    vb (ByteArray.toList (ksS ++ d) == ByteArray.toList (ksS ++ d)) = vb true] (by kernel_rfl)
    ⟨hkn, hh, hb, Dg.vfalse (by omega), h11, h12, h13, h18, Dg.vtrue (by omega), Dg.vtrue (by omega), eqS _, hE, eqS _, h16, h19, hi1, hi2, Dg.vfalse (by omega), hS, hN _, by (try simp only [y1, y4]); omega, rfl, eqS _, trivial⟩
--> fbf4
--< fbf5
theorem fbf5 (lf : Nat) (kind : Int) (off : Int) (other : Int) (r0 : List AObj) (ys : List Value) (e : Nat) (l : Nat) (cap : Nat) (w1 : ByteArray) (w2 : ByteArray) (w3 : ByteArray) (w4 : ByteArray) (w5 : ByteArray) (t : ByteArray) (d : ByteArray) (hk : kind ≠ 0) (ho : other ≠ kind) (hkn : evB lf 19 7 [] (hZ ys e r0) = some (vb true, (hZ ys e r0), [])) (hh : evB lf 19 8 [aW l cap] (hZ ys e r0) = some (vb false, (hZ ys e r0), [])) (hb : evB lf 19 17 [vi kind, vi off, aW l cap] (hZ ys e r0) = some (Value.tuple #[vf 67 (pt 18), sp 24 5 5], kpH5 kind off r0 (oW ys e) w1 w2 w3 w4 w5, [])) (h11 : evB lf 19 11 [vf 67 (pt 18)] (kpH5 kind off r0 (oW ys e) w1 w2 w3 w4 w5) = some (Value.tuple #[vi kind, vb true], kpH5 kind off r0 (oW ys e) w1 w2 w3 w4 w5, [])) (h12 : evB lf 19 12 [vf 67 (pt 18)] (kpH5 kind off r0 (oW ys e) w1 w2 w3 w4 w5) = some (Value.tuple #[vi off, vb true], kpH5 kind off r0 (oW ys e) w1 w2 w3 w4 w5, [])) (h13 : evB lf 19 13 [vf 67 (pt 18)] (kpH5 kind off r0 (oW ys e) w1 w2 w3 w4 w5) = some (Value.tuple #[vs t, vb true], kpH5 kind off r0 (oW ys e) w1 w2 w3 w4 w5, [])) (h18 : evB lf 19 18 [sp 24 5 5, vi kind, vi off] (kpH5 kind off r0 (oW ys e) w1 w2 w3 w4 w5) = some (vs t, kpH5 kind off r0 (oW ys e) w1 w2 w3 w4 w5, [])) (hE : evB lf 19 126 [pt 18] (kpH5 kind off r0 (oW ys e) w1 w2 w3 w4 w5) = some (vs t, kpH5 kind off r0 (oW ys e) w1 w2 w3 w4 w5, [])) (h16 : evB lf 19 16 [vf 67 (pt 18)] (kpH5 kind off r0 (oW ys e) w1 w2 w3 w4 w5) = some (sp 25 5 5, kpN5 kind off r0 (oW ys e) w1 w2 w3 w4 w5, [])) (h19 : evB lf 19 19 [sp 25 5 5, sp 24 5 5] (kpN5 kind off r0 (oW ys e) w1 w2 w3 w4 w5) = some (vb true, kpN5 kind off r0 (oW ys e) w1 w2 w3 w4 w5, [])) (hi1 : evB lf 19 15 [vf 67 (pt 18), vi kind] (kpN5 kind off r0 (oW ys e) w1 w2 w3 w4 w5) = some (vb true, kpN5 kind off r0 (oW ys e) w1 w2 w3 w4 w5, [])) (hi2 : evB lf 19 15 [vf 67 (pt 18), vi other] (kpN5 kind off r0 (oW ys e) w1 w2 w3 w4 w5) = some (vb false, kpN5 kind off r0 (oW ys e) w1 w2 w3 w4 w5, [])) (hS : evB lf 19 20 [vi other] (kpN5 kind off r0 (oW ys e) w1 w2 w3 w4 w5) = some (vs (ksS ++ d), kpN5 kind off r0 (oW ys e) w1 w2 w3 w4 w5, [])) (hN : ∀ (H : Heap), evB lf 19 21 [vi other] H = some (vs d, H, [])) (hd : ByteArray.size d ≤ 20) :
    evB lf 20 4 [vi kind, vi other, vi off, aW l cap] (hZ ys e r0) = some (vb true, (hZ ys e r0), []) :=
  Dg.evCall_hint (hs' := []) (hs := [qc 7 (vb true) (hZ ys e r0) [],
    qc 8 (vb false) (hZ ys e r0) [],
    qc 17 (Value.tuple { toList := [vf 67 (pt 18), sp 24 5 5] }) (kpH5 kind off r0 (oW ys e) w1 w2 w3 w4 w5) [],
    qv 4 30 (vb false),
    qc 11 (Value.tuple #[vi kind, vb true]) (kpH5 kind off r0 (oW ys e) w1 w2 w3 w4 w5) [],
    qc 12 (Value.tuple #[vi off, vb true]) (kpH5 kind off r0 (oW ys e) w1 w2 w3 w4 w5) [],
    qc 13 (Value.tuple #[vs t, vb true]) (kpH5 kind off r0 (oW ys e) w1 w2 w3 w4 w5) [],
    qc 18 (vs t) (kpH5 kind off r0 (oW ys e) w1 w2 w3 w4 w5) [],
    qv 4 56 (vb true),
    qv 4 63 (vb true),
    qv 4 74 (vb true),
    qc 126 (vs t) (kpH5 kind off r0 (oW ys e) w1 w2 w3 w4 w5) [],
    qv 4 80 (vb true),
    qc 16 (sp 25 5 5) (kpN5 kind off r0 (oW ys e) w1 w2 w3 w4 w5) [],
    qc 19 (vb true) (kpN5 kind off r0 (oW ys e) w1 w2 w3 w4 w5) [],
    qc 15 (vb true) (kpN5 kind off r0 (oW ys e) w1 w2 w3 w4 w5) [],
    qc 15 (vb false) (kpN5 kind off r0 (oW ys e) w1 w2 w3 w4 w5) [],
    qv 4 99 (vb false),
    qc 20 (vs (ksS ++ d)) (kpN5 kind off r0 (oW ys e) w1 w2 w3 w4 w5) [],
    qc 21 (vs d) (kpN5 kind off r0 (oW ys e) w1 w2 w3 w4 w5) [],
    qs 4 107 (vs (ksS ++ d)),
    qv 4 108 (vb true)])
    [evB lf 19 7 [] (hZ ys e r0) = some (vb true, (hZ ys e r0), []),
    evB lf 19 8 [aW l cap] (hZ ys e r0) = some (vb false, (hZ ys e r0), []),
    evB lf 19 17 [vi kind, vi off, aW l cap] (hZ ys e r0) = some (Value.tuple { toList := [vf 67 (pt 18), sp 24 5 5] }, kpH5 kind off r0 (oW ys e) w1 w2 w3 w4 w5, []),
    vb (kind == (0 : Int)) = vb false,
    evB lf 19 11 [vf 67 (pt 18)] (kpH5 kind off r0 (oW ys e) w1 w2 w3 w4 w5) = some (Value.tuple #[vi kind, vb true], kpH5 kind off r0 (oW ys e) w1 w2 w3 w4 w5, []),
    evB lf 19 12 [vf 67 (pt 18)] (kpH5 kind off r0 (oW ys e) w1 w2 w3 w4 w5) = some (Value.tuple #[vi off, vb true], kpH5 kind off r0 (oW ys e) w1 w2 w3 w4 w5, []),
    evB lf 19 13 [vf 67 (pt 18)] (kpH5 kind off r0 (oW ys e) w1 w2 w3 w4 w5) = some (Value.tuple #[vs t, vb true], kpH5 kind off r0 (oW ys e) w1 w2 w3 w4 w5, []),
    evB lf 19 18 [sp 24 5 5, vi kind, vi off] (kpH5 kind off r0 (oW ys e) w1 w2 w3 w4 w5) = some (vs t, kpH5 kind off r0 (oW ys e) w1 w2 w3 w4 w5, []),
    vb (kind == kind) = vb true,
    vb (off == off) = vb true,
    vb (ByteArray.toList t == ByteArray.toList t) = vb true,
    evB lf 19 126 [pt 18] (kpH5 kind off r0 (oW ys e) w1 w2 w3 w4 w5) = some (vs t, kpH5 kind off r0 (oW ys e) w1 w2 w3 w4 w5, []),
    vb (ByteArray.toList t == ByteArray.toList t) = vb true,
    evB lf 19 16 [vf 67 (pt 18)] (kpH5 kind off r0 (oW ys e) w1 w2 w3 w4 w5) = some (sp 25 5 5, kpN5 kind off r0 (oW ys e) w1 w2 w3 w4 w5, []),
    evB lf 19 19 [sp 25 5 5, sp 24 5 5] (kpN5 kind off r0 (oW ys e) w1 w2 w3 w4 w5) = some (vb true, kpN5 kind off r0 (oW ys e) w1 w2 w3 w4 w5, []),
    evB lf 19 15 [vf 67 (pt 18), vi kind] (kpN5 kind off r0 (oW ys e) w1 w2 w3 w4 w5) = some (vb true, kpN5 kind off r0 (oW ys e) w1 w2 w3 w4 w5, []),
    evB lf 19 15 [vf 67 (pt 18), vi other] (kpN5 kind off r0 (oW ys e) w1 w2 w3 w4 w5) = some (vb false, kpN5 kind off r0 (oW ys e) w1 w2 w3 w4 w5, []),
    vb (other == kind) = vb false,
    evB lf 19 20 [vi other] (kpN5 kind off r0 (oW ys e) w1 w2 w3 w4 w5) = some (vs (ksS ++ d), kpN5 kind off r0 (oW ys e) w1 w2 w3 w4 w5, []),
    evB lf 19 21 [vi other] (kpN5 kind off r0 (oW ys e) w1 w2 w3 w4 w5) = some (vs d, kpN5 kind off r0 (oW ys e) w1 w2 w3 w4 w5, []),
    ByteArray.size ksS + ByteArray.size d ≤ (9223372036854775807 : Nat),
    vs (ksS ++ d) = vs (ksS ++ d),
    vb (ByteArray.toList (ksS ++ d) == ByteArray.toList (ksS ++ d)) = vb true] (by kernel_rfl)
    ⟨hkn, hh, hb, Dg.vfalse (by omega), h11, h12, h13, h18, Dg.vtrue (by omega), Dg.vtrue (by omega), eqS _, hE, eqS _, h16, h19, hi1, hi2, Dg.vfalse (by omega), hS, hN _, by (try simp only [y1, y4]); omega, rfl, eqS _, trivial⟩
--> fbf5
--< fbf6
theorem fbf6 (lf : Nat) (kind : Int) (off : Int) (other : Int) (r0 : List AObj) (ys : List Value) (e : Nat) (l : Nat) (cap : Nat) (w1 : ByteArray) (w2 : ByteArray) (w3 : ByteArray) (w4 : ByteArray) (w5 : ByteArray) (w6 : ByteArray) (t : ByteArray) (d : ByteArray) (hk : kind ≠ 0) (ho : other ≠ kind) (hkn : evB lf 19 7 [] (hZ ys e r0) = some (vb true, (hZ ys e r0), [])) (hh : evB lf 19 8 [aW l cap] (hZ ys e r0) = some (vb false, (hZ ys e r0), [])) (hb : evB lf 19 17 [vi kind, vi off, aW l cap] (hZ ys e r0) = some (Value.tuple #[vf 67 (pt 18), sp 25 6 6], kpH6 kind off r0 (oW ys e) w1 w2 w3 w4 w5 w6, [])) (h11 : evB lf 19 11 [vf 67 (pt 18)] (kpH6 kind off r0 (oW ys e) w1 w2 w3 w4 w5 w6) = some (Value.tuple #[vi kind, vb true], kpH6 kind off r0 (oW ys e) w1 w2 w3 w4 w5 w6, [])) (h12 : evB lf 19 12 [vf 67 (pt 18)] (kpH6 kind off r0 (oW ys e) w1 w2 w3 w4 w5 w6) = some (Value.tuple #[vi off, vb true], kpH6 kind off r0 (oW ys e) w1 w2 w3 w4 w5 w6, [])) (h13 : evB lf 19 13 [vf 67 (pt 18)] (kpH6 kind off r0 (oW ys e) w1 w2 w3 w4 w5 w6) = some (Value.tuple #[vs t, vb true], kpH6 kind off r0 (oW ys e) w1 w2 w3 w4 w5 w6, [])) (h18 : evB lf 19 18 [sp 25 6 6, vi kind, vi off] (kpH6 kind off r0 (oW ys e) w1 w2 w3 w4 w5 w6) = some (vs t, kpH6 kind off r0 (oW ys e) w1 w2 w3 w4 w5 w6, [])) (hE : evB lf 19 126 [pt 18] (kpH6 kind off r0 (oW ys e) w1 w2 w3 w4 w5 w6) = some (vs t, kpH6 kind off r0 (oW ys e) w1 w2 w3 w4 w5 w6, [])) (h16 : evB lf 19 16 [vf 67 (pt 18)] (kpH6 kind off r0 (oW ys e) w1 w2 w3 w4 w5 w6) = some (sp 26 6 6, kpN6 kind off r0 (oW ys e) w1 w2 w3 w4 w5 w6, [])) (h19 : evB lf 19 19 [sp 26 6 6, sp 25 6 6] (kpN6 kind off r0 (oW ys e) w1 w2 w3 w4 w5 w6) = some (vb true, kpN6 kind off r0 (oW ys e) w1 w2 w3 w4 w5 w6, [])) (hi1 : evB lf 19 15 [vf 67 (pt 18), vi kind] (kpN6 kind off r0 (oW ys e) w1 w2 w3 w4 w5 w6) = some (vb true, kpN6 kind off r0 (oW ys e) w1 w2 w3 w4 w5 w6, [])) (hi2 : evB lf 19 15 [vf 67 (pt 18), vi other] (kpN6 kind off r0 (oW ys e) w1 w2 w3 w4 w5 w6) = some (vb false, kpN6 kind off r0 (oW ys e) w1 w2 w3 w4 w5 w6, [])) (hS : evB lf 19 20 [vi other] (kpN6 kind off r0 (oW ys e) w1 w2 w3 w4 w5 w6) = some (vs (ksS ++ d), kpN6 kind off r0 (oW ys e) w1 w2 w3 w4 w5 w6, [])) (hN : ∀ (H : Heap), evB lf 19 21 [vi other] H = some (vs d, H, [])) (hd : ByteArray.size d ≤ 20) :
    evB lf 20 4 [vi kind, vi other, vi off, aW l cap] (hZ ys e r0) = some (vb true, (hZ ys e r0), []) :=
  Dg.evCall_hint (hs' := []) (hs := [qc 7 (vb true) (hZ ys e r0) [],
    qc 8 (vb false) (hZ ys e r0) [],
    qc 17 (Value.tuple { toList := [vf 67 (pt 18), sp 25 6 6] }) (kpH6 kind off r0 (oW ys e) w1 w2 w3 w4 w5 w6) [],
    qv 4 30 (vb false),
    qc 11 (Value.tuple #[vi kind, vb true]) (kpH6 kind off r0 (oW ys e) w1 w2 w3 w4 w5 w6) [],
    qc 12 (Value.tuple #[vi off, vb true]) (kpH6 kind off r0 (oW ys e) w1 w2 w3 w4 w5 w6) [],
    qc 13 (Value.tuple #[vs t, vb true]) (kpH6 kind off r0 (oW ys e) w1 w2 w3 w4 w5 w6) [],
    qc 18 (vs t) (kpH6 kind off r0 (oW ys e) w1 w2 w3 w4 w5 w6) [],
    qv 4 56 (vb true),
    qv 4 63 (vb true),
    qv 4 74 (vb true),
    qc 126 (vs t) (kpH6 kind off r0 (oW ys e) w1 w2 w3 w4 w5 w6) [],
    qv 4 80 (vb true),
    qc 16 (sp 26 6 6) (kpN6 kind off r0 (oW ys e) w1 w2 w3 w4 w5 w6) [],
    qc 19 (vb true) (kpN6 kind off r0 (oW ys e) w1 w2 w3 w4 w5 w6) [],
    qc 15 (vb true) (kpN6 kind off r0 (oW ys e) w1 w2 w3 w4 w5 w6) [],
    qc 15 (vb false) (kpN6 kind off r0 (oW ys e) w1 w2 w3 w4 w5 w6) [],
    qv 4 99 (vb false),
    qc 20 (vs (ksS ++ d)) (kpN6 kind off r0 (oW ys e) w1 w2 w3 w4 w5 w6) [],
    qc 21 (vs d) (kpN6 kind off r0 (oW ys e) w1 w2 w3 w4 w5 w6) [],
    qs 4 107 (vs (ksS ++ d)),
    qv 4 108 (vb true)])
    [evB lf 19 7 [] (hZ ys e r0) = some (vb true, (hZ ys e r0), []),
    evB lf 19 8 [aW l cap] (hZ ys e r0) = some (vb false, (hZ ys e r0), []),
    evB lf 19 17 [vi kind, vi off, aW l cap] (hZ ys e r0) = some (Value.tuple { toList := [vf 67 (pt 18), sp 25 6 6] }, kpH6 kind off r0 (oW ys e) w1 w2 w3 w4 w5 w6, []),
    vb (kind == (0 : Int)) = vb false,
    evB lf 19 11 [vf 67 (pt 18)] (kpH6 kind off r0 (oW ys e) w1 w2 w3 w4 w5 w6) = some (Value.tuple #[vi kind, vb true], kpH6 kind off r0 (oW ys e) w1 w2 w3 w4 w5 w6, []),
    evB lf 19 12 [vf 67 (pt 18)] (kpH6 kind off r0 (oW ys e) w1 w2 w3 w4 w5 w6) = some (Value.tuple #[vi off, vb true], kpH6 kind off r0 (oW ys e) w1 w2 w3 w4 w5 w6, []),
    evB lf 19 13 [vf 67 (pt 18)] (kpH6 kind off r0 (oW ys e) w1 w2 w3 w4 w5 w6) = some (Value.tuple #[vs t, vb true], kpH6 kind off r0 (oW ys e) w1 w2 w3 w4 w5 w6, []),
    evB lf 19 18 [sp 25 6 6, vi kind, vi off] (kpH6 kind off r0 (oW ys e) w1 w2 w3 w4 w5 w6) = some (vs t, kpH6 kind off r0 (oW ys e) w1 w2 w3 w4 w5 w6, []),
    vb (kind == kind) = vb true,
    vb (off == off) = vb true,
    vb (ByteArray.toList t == ByteArray.toList t) = vb true,
    evB lf 19 126 [pt 18] (kpH6 kind off r0 (oW ys e) w1 w2 w3 w4 w5 w6) = some (vs t, kpH6 kind off r0 (oW ys e) w1 w2 w3 w4 w5 w6, []),
    vb (ByteArray.toList t == ByteArray.toList t) = vb true,
    evB lf 19 16 [vf 67 (pt 18)] (kpH6 kind off r0 (oW ys e) w1 w2 w3 w4 w5 w6) = some (sp 26 6 6, kpN6 kind off r0 (oW ys e) w1 w2 w3 w4 w5 w6, []),
    evB lf 19 19 [sp 26 6 6, sp 25 6 6] (kpN6 kind off r0 (oW ys e) w1 w2 w3 w4 w5 w6) = some (vb true, kpN6 kind off r0 (oW ys e) w1 w2 w3 w4 w5 w6, []),
    evB lf 19 15 [vf 67 (pt 18), vi kind] (kpN6 kind off r0 (oW ys e) w1 w2 w3 w4 w5 w6) = some (vb true, kpN6 kind off r0 (oW ys e) w1 w2 w3 w4 w5 w6, []),
    evB lf 19 15 [vf 67 (pt 18), vi other] (kpN6 kind off r0 (oW ys e) w1 w2 w3 w4 w5 w6) = some (vb false, kpN6 kind off r0 (oW ys e) w1 w2 w3 w4 w5 w6, []),
    vb (other == kind) = vb false,
    evB lf 19 20 [vi other] (kpN6 kind off r0 (oW ys e) w1 w2 w3 w4 w5 w6) = some (vs (ksS ++ d), kpN6 kind off r0 (oW ys e) w1 w2 w3 w4 w5 w6, []),
    evB lf 19 21 [vi other] (kpN6 kind off r0 (oW ys e) w1 w2 w3 w4 w5 w6) = some (vs d, kpN6 kind off r0 (oW ys e) w1 w2 w3 w4 w5 w6, []),
    ByteArray.size ksS + ByteArray.size d ≤ (9223372036854775807 : Nat),
    vs (ksS ++ d) = vs (ksS ++ d),
    vb (ByteArray.toList (ksS ++ d) == ByteArray.toList (ksS ++ d)) = vb true] (by kernel_rfl)
    ⟨hkn, hh, hb, Dg.vfalse (by omega), h11, h12, h13, h18, Dg.vtrue (by omega), Dg.vtrue (by omega), eqS _, hE, eqS _, h16, h19, hi1, hi2, Dg.vfalse (by omega), hS, hN _, by (try simp only [y1, y4]); omega, rfl, eqS _, trivial⟩
--> fbf6
--< fbf7
theorem fbf7 (lf : Nat) (kind : Int) (off : Int) (other : Int) (r0 : List AObj) (ys : List Value) (e : Nat) (l : Nat) (cap : Nat) (w1 : ByteArray) (w2 : ByteArray) (w3 : ByteArray) (w4 : ByteArray) (w5 : ByteArray) (w6 : ByteArray) (w7 : ByteArray) (t : ByteArray) (d : ByteArray) (hk : kind ≠ 0) (ho : other ≠ kind) (hkn : evB lf 19 7 [] (hZ ys e r0) = some (vb true, (hZ ys e r0), [])) (hh : evB lf 19 8 [aW l cap] (hZ ys e r0) = some (vb false, (hZ ys e r0), [])) (hb : evB lf 19 17 [vi kind, vi off, aW l cap] (hZ ys e r0) = some (Value.tuple #[vf 67 (pt 18), sp 26 7 7], kpH7 kind off r0 (oW ys e) w1 w2 w3 w4 w5 w6 w7, [])) (h11 : evB lf 19 11 [vf 67 (pt 18)] (kpH7 kind off r0 (oW ys e) w1 w2 w3 w4 w5 w6 w7) = some (Value.tuple #[vi kind, vb true], kpH7 kind off r0 (oW ys e) w1 w2 w3 w4 w5 w6 w7, [])) (h12 : evB lf 19 12 [vf 67 (pt 18)] (kpH7 kind off r0 (oW ys e) w1 w2 w3 w4 w5 w6 w7) = some (Value.tuple #[vi off, vb true], kpH7 kind off r0 (oW ys e) w1 w2 w3 w4 w5 w6 w7, [])) (h13 : evB lf 19 13 [vf 67 (pt 18)] (kpH7 kind off r0 (oW ys e) w1 w2 w3 w4 w5 w6 w7) = some (Value.tuple #[vs t, vb true], kpH7 kind off r0 (oW ys e) w1 w2 w3 w4 w5 w6 w7, [])) (h18 : evB lf 19 18 [sp 26 7 7, vi kind, vi off] (kpH7 kind off r0 (oW ys e) w1 w2 w3 w4 w5 w6 w7) = some (vs t, kpH7 kind off r0 (oW ys e) w1 w2 w3 w4 w5 w6 w7, [])) (hE : evB lf 19 126 [pt 18] (kpH7 kind off r0 (oW ys e) w1 w2 w3 w4 w5 w6 w7) = some (vs t, kpH7 kind off r0 (oW ys e) w1 w2 w3 w4 w5 w6 w7, [])) (h16 : evB lf 19 16 [vf 67 (pt 18)] (kpH7 kind off r0 (oW ys e) w1 w2 w3 w4 w5 w6 w7) = some (sp 27 7 7, kpN7 kind off r0 (oW ys e) w1 w2 w3 w4 w5 w6 w7, [])) (h19 : evB lf 19 19 [sp 27 7 7, sp 26 7 7] (kpN7 kind off r0 (oW ys e) w1 w2 w3 w4 w5 w6 w7) = some (vb true, kpN7 kind off r0 (oW ys e) w1 w2 w3 w4 w5 w6 w7, [])) (hi1 : evB lf 19 15 [vf 67 (pt 18), vi kind] (kpN7 kind off r0 (oW ys e) w1 w2 w3 w4 w5 w6 w7) = some (vb true, kpN7 kind off r0 (oW ys e) w1 w2 w3 w4 w5 w6 w7, [])) (hi2 : evB lf 19 15 [vf 67 (pt 18), vi other] (kpN7 kind off r0 (oW ys e) w1 w2 w3 w4 w5 w6 w7) = some (vb false, kpN7 kind off r0 (oW ys e) w1 w2 w3 w4 w5 w6 w7, [])) (hS : evB lf 19 20 [vi other] (kpN7 kind off r0 (oW ys e) w1 w2 w3 w4 w5 w6 w7) = some (vs (ksS ++ d), kpN7 kind off r0 (oW ys e) w1 w2 w3 w4 w5 w6 w7, [])) (hN : ∀ (H : Heap), evB lf 19 21 [vi other] H = some (vs d, H, [])) (hd : ByteArray.size d ≤ 20) :
    evB lf 20 4 [vi kind, vi other, vi off, aW l cap] (hZ ys e r0) = some (vb true, (hZ ys e r0), []) :=
  Dg.evCall_hint (hs' := []) (hs := [qc 7 (vb true) (hZ ys e r0) [],
    qc 8 (vb false) (hZ ys e r0) [],
    qc 17 (Value.tuple { toList := [vf 67 (pt 18), sp 26 7 7] }) (kpH7 kind off r0 (oW ys e) w1 w2 w3 w4 w5 w6 w7) [],
    qv 4 30 (vb false),
    qc 11 (Value.tuple #[vi kind, vb true]) (kpH7 kind off r0 (oW ys e) w1 w2 w3 w4 w5 w6 w7) [],
    qc 12 (Value.tuple #[vi off, vb true]) (kpH7 kind off r0 (oW ys e) w1 w2 w3 w4 w5 w6 w7) [],
    qc 13 (Value.tuple #[vs t, vb true]) (kpH7 kind off r0 (oW ys e) w1 w2 w3 w4 w5 w6 w7) [],
    qc 18 (vs t) (kpH7 kind off r0 (oW ys e) w1 w2 w3 w4 w5 w6 w7) [],
    qv 4 56 (vb true),
    qv 4 63 (vb true),
    qv 4 74 (vb true),
    qc 126 (vs t) (kpH7 kind off r0 (oW ys e) w1 w2 w3 w4 w5 w6 w7) [],
    qv 4 80 (vb true),
    qc 16 (sp 27 7 7) (kpN7 kind off r0 (oW ys e) w1 w2 w3 w4 w5 w6 w7) [],
    qc 19 (vb true) (kpN7 kind off r0 (oW ys e) w1 w2 w3 w4 w5 w6 w7) [],
    qc 15 (vb true) (kpN7 kind off r0 (oW ys e) w1 w2 w3 w4 w5 w6 w7) [],
    qc 15 (vb false) (kpN7 kind off r0 (oW ys e) w1 w2 w3 w4 w5 w6 w7) [],
    qv 4 99 (vb false),
    qc 20 (vs (ksS ++ d)) (kpN7 kind off r0 (oW ys e) w1 w2 w3 w4 w5 w6 w7) [],
    qc 21 (vs d) (kpN7 kind off r0 (oW ys e) w1 w2 w3 w4 w5 w6 w7) [],
    qs 4 107 (vs (ksS ++ d)),
    qv 4 108 (vb true)])
    [evB lf 19 7 [] (hZ ys e r0) = some (vb true, (hZ ys e r0), []),
    evB lf 19 8 [aW l cap] (hZ ys e r0) = some (vb false, (hZ ys e r0), []),
    evB lf 19 17 [vi kind, vi off, aW l cap] (hZ ys e r0) = some (Value.tuple { toList := [vf 67 (pt 18), sp 26 7 7] }, kpH7 kind off r0 (oW ys e) w1 w2 w3 w4 w5 w6 w7, []),
    vb (kind == (0 : Int)) = vb false,
    evB lf 19 11 [vf 67 (pt 18)] (kpH7 kind off r0 (oW ys e) w1 w2 w3 w4 w5 w6 w7) = some (Value.tuple #[vi kind, vb true], kpH7 kind off r0 (oW ys e) w1 w2 w3 w4 w5 w6 w7, []),
    evB lf 19 12 [vf 67 (pt 18)] (kpH7 kind off r0 (oW ys e) w1 w2 w3 w4 w5 w6 w7) = some (Value.tuple #[vi off, vb true], kpH7 kind off r0 (oW ys e) w1 w2 w3 w4 w5 w6 w7, []),
    evB lf 19 13 [vf 67 (pt 18)] (kpH7 kind off r0 (oW ys e) w1 w2 w3 w4 w5 w6 w7) = some (Value.tuple #[vs t, vb true], kpH7 kind off r0 (oW ys e) w1 w2 w3 w4 w5 w6 w7, []),
    evB lf 19 18 [sp 26 7 7, vi kind, vi off] (kpH7 kind off r0 (oW ys e) w1 w2 w3 w4 w5 w6 w7) = some (vs t, kpH7 kind off r0 (oW ys e) w1 w2 w3 w4 w5 w6 w7, []),
    vb (kind == kind) = vb true,
    vb (off == off) = vb true,
    vb (ByteArray.toList t == ByteArray.toList t) = vb true,
    evB lf 19 126 [pt 18] (kpH7 kind off r0 (oW ys e) w1 w2 w3 w4 w5 w6 w7) = some (vs t, kpH7 kind off r0 (oW ys e) w1 w2 w3 w4 w5 w6 w7, []),
    vb (ByteArray.toList t == ByteArray.toList t) = vb true,
    evB lf 19 16 [vf 67 (pt 18)] (kpH7 kind off r0 (oW ys e) w1 w2 w3 w4 w5 w6 w7) = some (sp 27 7 7, kpN7 kind off r0 (oW ys e) w1 w2 w3 w4 w5 w6 w7, []),
    evB lf 19 19 [sp 27 7 7, sp 26 7 7] (kpN7 kind off r0 (oW ys e) w1 w2 w3 w4 w5 w6 w7) = some (vb true, kpN7 kind off r0 (oW ys e) w1 w2 w3 w4 w5 w6 w7, []),
    evB lf 19 15 [vf 67 (pt 18), vi kind] (kpN7 kind off r0 (oW ys e) w1 w2 w3 w4 w5 w6 w7) = some (vb true, kpN7 kind off r0 (oW ys e) w1 w2 w3 w4 w5 w6 w7, []),
    evB lf 19 15 [vf 67 (pt 18), vi other] (kpN7 kind off r0 (oW ys e) w1 w2 w3 w4 w5 w6 w7) = some (vb false, kpN7 kind off r0 (oW ys e) w1 w2 w3 w4 w5 w6 w7, []),
    vb (other == kind) = vb false,
    evB lf 19 20 [vi other] (kpN7 kind off r0 (oW ys e) w1 w2 w3 w4 w5 w6 w7) = some (vs (ksS ++ d), kpN7 kind off r0 (oW ys e) w1 w2 w3 w4 w5 w6 w7, []),
    evB lf 19 21 [vi other] (kpN7 kind off r0 (oW ys e) w1 w2 w3 w4 w5 w6 w7) = some (vs d, kpN7 kind off r0 (oW ys e) w1 w2 w3 w4 w5 w6 w7, []),
    ByteArray.size ksS + ByteArray.size d ≤ (9223372036854775807 : Nat),
    vs (ksS ++ d) = vs (ksS ++ d),
    vb (ByteArray.toList (ksS ++ d) == ByteArray.toList (ksS ++ d)) = vb true] (by kernel_rfl)
    ⟨hkn, hh, hb, Dg.vfalse (by omega), h11, h12, h13, h18, Dg.vtrue (by omega), Dg.vtrue (by omega), eqS _, hE, eqS _, h16, h19, hi1, hi2, Dg.vfalse (by omega), hS, hN _, by (try simp only [y1, y4]); omega, rfl, eqS _, trivial⟩
--> fbf7
--< fbf8
theorem fbf8 (lf : Nat) (kind : Int) (off : Int) (other : Int) (r0 : List AObj) (ys : List Value) (e : Nat) (l : Nat) (cap : Nat) (w1 : ByteArray) (w2 : ByteArray) (w3 : ByteArray) (w4 : ByteArray) (w5 : ByteArray) (w6 : ByteArray) (w7 : ByteArray) (w8 : ByteArray) (t : ByteArray) (d : ByteArray) (hk : kind ≠ 0) (ho : other ≠ kind) (hkn : evB lf 19 7 [] (hZ ys e r0) = some (vb true, (hZ ys e r0), [])) (hh : evB lf 19 8 [aW l cap] (hZ ys e r0) = some (vb false, (hZ ys e r0), [])) (hb : evB lf 19 17 [vi kind, vi off, aW l cap] (hZ ys e r0) = some (Value.tuple #[vf 67 (pt 18), sp 27 8 8], kpH8 kind off r0 (oW ys e) w1 w2 w3 w4 w5 w6 w7 w8, [])) (h11 : evB lf 19 11 [vf 67 (pt 18)] (kpH8 kind off r0 (oW ys e) w1 w2 w3 w4 w5 w6 w7 w8) = some (Value.tuple #[vi kind, vb true], kpH8 kind off r0 (oW ys e) w1 w2 w3 w4 w5 w6 w7 w8, [])) (h12 : evB lf 19 12 [vf 67 (pt 18)] (kpH8 kind off r0 (oW ys e) w1 w2 w3 w4 w5 w6 w7 w8) = some (Value.tuple #[vi off, vb true], kpH8 kind off r0 (oW ys e) w1 w2 w3 w4 w5 w6 w7 w8, [])) (h13 : evB lf 19 13 [vf 67 (pt 18)] (kpH8 kind off r0 (oW ys e) w1 w2 w3 w4 w5 w6 w7 w8) = some (Value.tuple #[vs t, vb true], kpH8 kind off r0 (oW ys e) w1 w2 w3 w4 w5 w6 w7 w8, [])) (h18 : evB lf 19 18 [sp 27 8 8, vi kind, vi off] (kpH8 kind off r0 (oW ys e) w1 w2 w3 w4 w5 w6 w7 w8) = some (vs t, kpH8 kind off r0 (oW ys e) w1 w2 w3 w4 w5 w6 w7 w8, [])) (hE : evB lf 19 126 [pt 18] (kpH8 kind off r0 (oW ys e) w1 w2 w3 w4 w5 w6 w7 w8) = some (vs t, kpH8 kind off r0 (oW ys e) w1 w2 w3 w4 w5 w6 w7 w8, [])) (h16 : evB lf 19 16 [vf 67 (pt 18)] (kpH8 kind off r0 (oW ys e) w1 w2 w3 w4 w5 w6 w7 w8) = some (sp 28 8 8, kpN8 kind off r0 (oW ys e) w1 w2 w3 w4 w5 w6 w7 w8, [])) (h19 : evB lf 19 19 [sp 28 8 8, sp 27 8 8] (kpN8 kind off r0 (oW ys e) w1 w2 w3 w4 w5 w6 w7 w8) = some (vb true, kpN8 kind off r0 (oW ys e) w1 w2 w3 w4 w5 w6 w7 w8, [])) (hi1 : evB lf 19 15 [vf 67 (pt 18), vi kind] (kpN8 kind off r0 (oW ys e) w1 w2 w3 w4 w5 w6 w7 w8) = some (vb true, kpN8 kind off r0 (oW ys e) w1 w2 w3 w4 w5 w6 w7 w8, [])) (hi2 : evB lf 19 15 [vf 67 (pt 18), vi other] (kpN8 kind off r0 (oW ys e) w1 w2 w3 w4 w5 w6 w7 w8) = some (vb false, kpN8 kind off r0 (oW ys e) w1 w2 w3 w4 w5 w6 w7 w8, [])) (hS : evB lf 19 20 [vi other] (kpN8 kind off r0 (oW ys e) w1 w2 w3 w4 w5 w6 w7 w8) = some (vs (ksS ++ d), kpN8 kind off r0 (oW ys e) w1 w2 w3 w4 w5 w6 w7 w8, [])) (hN : ∀ (H : Heap), evB lf 19 21 [vi other] H = some (vs d, H, [])) (hd : ByteArray.size d ≤ 20) :
    evB lf 20 4 [vi kind, vi other, vi off, aW l cap] (hZ ys e r0) = some (vb true, (hZ ys e r0), []) :=
  Dg.evCall_hint (hs' := []) (hs := [qc 7 (vb true) (hZ ys e r0) [],
    qc 8 (vb false) (hZ ys e r0) [],
    qc 17 (Value.tuple { toList := [vf 67 (pt 18), sp 27 8 8] }) (kpH8 kind off r0 (oW ys e) w1 w2 w3 w4 w5 w6 w7 w8) [],
    qv 4 30 (vb false),
    qc 11 (Value.tuple #[vi kind, vb true]) (kpH8 kind off r0 (oW ys e) w1 w2 w3 w4 w5 w6 w7 w8) [],
    qc 12 (Value.tuple #[vi off, vb true]) (kpH8 kind off r0 (oW ys e) w1 w2 w3 w4 w5 w6 w7 w8) [],
    qc 13 (Value.tuple #[vs t, vb true]) (kpH8 kind off r0 (oW ys e) w1 w2 w3 w4 w5 w6 w7 w8) [],
    qc 18 (vs t) (kpH8 kind off r0 (oW ys e) w1 w2 w3 w4 w5 w6 w7 w8) [],
    qv 4 56 (vb true),
    qv 4 63 (vb true),
    qv 4 74 (vb true),
    qc 126 (vs t) (kpH8 kind off r0 (oW ys e) w1 w2 w3 w4 w5 w6 w7 w8) [],
    qv 4 80 (vb true),
    qc 16 (sp 28 8 8) (kpN8 kind off r0 (oW ys e) w1 w2 w3 w4 w5 w6 w7 w8) [],
    qc 19 (vb true) (kpN8 kind off r0 (oW ys e) w1 w2 w3 w4 w5 w6 w7 w8) [],
    qc 15 (vb true) (kpN8 kind off r0 (oW ys e) w1 w2 w3 w4 w5 w6 w7 w8) [],
    qc 15 (vb false) (kpN8 kind off r0 (oW ys e) w1 w2 w3 w4 w5 w6 w7 w8) [],
    qv 4 99 (vb false),
    qc 20 (vs (ksS ++ d)) (kpN8 kind off r0 (oW ys e) w1 w2 w3 w4 w5 w6 w7 w8) [],
    qc 21 (vs d) (kpN8 kind off r0 (oW ys e) w1 w2 w3 w4 w5 w6 w7 w8) [],
    qs 4 107 (vs (ksS ++ d)),
    qv 4 108 (vb true)])
    [evB lf 19 7 [] (hZ ys e r0) = some (vb true, (hZ ys e r0), []),
    evB lf 19 8 [aW l cap] (hZ ys e r0) = some (vb false, (hZ ys e r0), []),
    evB lf 19 17 [vi kind, vi off, aW l cap] (hZ ys e r0) = some (Value.tuple { toList := [vf 67 (pt 18), sp 27 8 8] }, kpH8 kind off r0 (oW ys e) w1 w2 w3 w4 w5 w6 w7 w8, []),
    vb (kind == (0 : Int)) = vb false,
    evB lf 19 11 [vf 67 (pt 18)] (kpH8 kind off r0 (oW ys e) w1 w2 w3 w4 w5 w6 w7 w8) = some (Value.tuple #[vi kind, vb true], kpH8 kind off r0 (oW ys e) w1 w2 w3 w4 w5 w6 w7 w8, []),
    evB lf 19 12 [vf 67 (pt 18)] (kpH8 kind off r0 (oW ys e) w1 w2 w3 w4 w5 w6 w7 w8) = some (Value.tuple #[vi off, vb true], kpH8 kind off r0 (oW ys e) w1 w2 w3 w4 w5 w6 w7 w8, []),
    evB lf 19 13 [vf 67 (pt 18)] (kpH8 kind off r0 (oW ys e) w1 w2 w3 w4 w5 w6 w7 w8) = some (Value.tuple #[vs t, vb true], kpH8 kind off r0 (oW ys e) w1 w2 w3 w4 w5 w6 w7 w8, []),
    evB lf 19 18 [sp 27 8 8, vi kind, vi off] (kpH8 kind off r0 (oW ys e) w1 w2 w3 w4 w5 w6 w7 w8) = some (vs t, kpH8 kind off r0 (oW ys e) w1 w2 w3 w4 w5 w6 w7 w8, []),
    vb (kind == kind) = vb true,
    vb (off == off) = vb true,
    vb (ByteArray.toList t == ByteArray.toList t) = vb true,
    evB lf 19 126 [pt 18] (kpH8 kind off r0 (oW ys e) w1 w2 w3 w4 w5 w6 w7 w8) = some (vs t, kpH8 kind off r0 (oW ys e) w1 w2 w3 w4 w5 w6 w7 w8, []),
    vb (ByteArray.toList t == ByteArray.toList t) = vb true,
    evB lf 19 16 [vf 67 (pt 18)] (kpH8 kind off r0 (oW ys e) w1 w2 w3 w4 w5 w6 w7 w8) = some (sp 28 8 8, kpN8 kind off r0 (oW ys e) w1 w2 w3 w4 w5 w6 w7 w8, []),
    evB lf 19 19 [sp 28 8 8, sp 27 8 8] (kpN8 kind off r0 (oW ys e) w1 w2 w3 w4 w5 w6 w7 w8) = some (vb true, kpN8 kind off r0 (oW ys e) w1 w2 w3 w4 w5 w6 w7 w8, []),
    evB lf 19 15 [vf 67 (pt 18), vi kind] (kpN8 kind off r0 (oW ys e) w1 w2 w3 w4 w5 w6 w7 w8) = some (vb true, kpN8 kind off r0 (oW ys e) w1 w2 w3 w4 w5 w6 w7 w8, []),
    evB lf 19 15 [vf 67 (pt 18), vi other] (kpN8 kind off r0 (oW ys e) w1 w2 w3 w4 w5 w6 w7 w8) = some (vb false, kpN8 kind off r0 (oW ys e) w1 w2 w3 w4 w5 w6 w7 w8, []),
    vb (other == kind) = vb false,
    evB lf 19 20 [vi other] (kpN8 kind off r0 (oW ys e) w1 w2 w3 w4 w5 w6 w7 w8) = some (vs (ksS ++ d), kpN8 kind off r0 (oW ys e) w1 w2 w3 w4 w5 w6 w7 w8, []),
    evB lf 19 21 [vi other] (kpN8 kind off r0 (oW ys e) w1 w2 w3 w4 w5 w6 w7 w8) = some (vs d, kpN8 kind off r0 (oW ys e) w1 w2 w3 w4 w5 w6 w7 w8, []),
    ByteArray.size ksS + ByteArray.size d ≤ (9223372036854775807 : Nat),
    vs (ksS ++ d) = vs (ksS ++ d),
    vb (ByteArray.toList (ksS ++ d) == ByteArray.toList (ksS ++ d)) = vb true] (by kernel_rfl)
    ⟨hkn, hh, hb, Dg.vfalse (by omega), h11, h12, h13, h18, Dg.vtrue (by omega), Dg.vtrue (by omega), eqS _, hE, eqS _, h16, h19, hi1, hi2, Dg.vfalse (by omega), hS, hN _, by (try simp only [y1, y4]); omega, rfl, eqS _, trivial⟩
--> fbf8
--< fbfn
theorem fbfn (lf : Nat) (kind : Int) (off : Int) (other : Int) (r0 : List AObj) (X : AObj) (t : ByteArray) (d : ByteArray) (hk : kind ≠ 0) (ho : other ≠ kind) (hkn : evB lf 19 7 [] { n := 18, objs := X :: r0 } = some (vb true, { n := 18, objs := X :: r0 }, [])) (hh : evB lf 19 8 [Value.slice none 0 0] dH = some (vb false, dH, [])) (hb : evB lf 19 17 [vi kind, vi off, Value.slice none 0 0] { n := 18, objs := X :: r0 } = some (Value.tuple #[vf 70 (pt 18), Value.slice none 0 0], kpH0 kind off r0 X, [])) (h11 : evB lf 19 11 [vf 70 (pt 18)] (kpH0 kind off r0 X) = some (Value.tuple #[vi kind, vb true], kpH0 kind off r0 X, [])) (h12 : evB lf 19 12 [vf 70 (pt 18)] (kpH0 kind off r0 X) = some (Value.tuple #[vi off, vb true], kpH0 kind off r0 X, [])) (h13 : evB lf 19 13 [vf 70 (pt 18)] (kpH0 kind off r0 X) = some (Value.tuple #[vs t, vb true], kpH0 kind off r0 X, [])) (h18 : evB lf 19 18 [Value.slice none 0 0, vi kind, vi off] (kpH0 kind off r0 X) = some (vs t, kpH0 kind off r0 X, [])) (hE : evB lf 19 128 [pt 18] (kpH0 kind off r0 X) = some (vs t, kpH0 kind off r0 X, [])) (h16 : evB lf 19 16 [vf 70 (pt 18)] (kpH0 kind off r0 X) = some (Value.slice none 0 0, kpH0 kind off r0 X, [])) (h19 : evB lf 19 19 [Value.slice none 0 0, Value.slice none 0 0] dH = some (vb true, dH, [])) (hi1 : evB lf 19 15 [vf 70 (pt 18), vi kind] (kpH0 kind off r0 X) = some (vb true, kpH0 kind off r0 X, [])) (hi2 : evB lf 19 15 [vf 70 (pt 18), vi other] (kpH0 kind off r0 X) = some (vb false, kpH0 kind off r0 X, [])) (hS : evB lf 19 20 [vi other] (kpH0 kind off r0 X) = some (vs (ksS ++ d), kpH0 kind off r0 X, [])) (hN : ∀ (H : Heap), evB lf 19 21 [vi other] H = some (vs d, H, [])) (hd : ByteArray.size d ≤ 20) :
    evB lf 20 4 [vi kind, vi other, vi off, Value.slice none 0 0] { n := 18, objs := X :: r0 } = some (vb true, { n := 18, objs := X :: r0 }, []) :=
  Dg.evCall_hint (hs' := []) (hs := [qc 7 (vb true) { n := 18, objs := X :: r0 } [],
    qc 8 (vb false) dH [],
    qc 17 (Value.tuple { toList := [vf 70 (pt 18), Value.slice none 0 0] }) (kpH0 kind off r0 X) [],
    qv 4 30 (vb false),
    qc 11 (Value.tuple #[vi kind, vb true]) (kpH0 kind off r0 X) [],
    qc 12 (Value.tuple #[vi off, vb true]) (kpH0 kind off r0 X) [],
    qc 13 (Value.tuple #[vs t, vb true]) (kpH0 kind off r0 X) [],
    qc 18 (vs t) (kpH0 kind off r0 X) [],
    qv 4 56 (vb true),
    qv 4 63 (vb true),
    qv 4 74 (vb true),
    qc 128 (vs t) (kpH0 kind off r0 X) [],
    qv 4 80 (vb true),
    qc 16 (Value.slice none 0 0) (kpH0 kind off r0 X) [],
    qc 19 (vb true) dH [],
    qc 15 (vb true) (kpH0 kind off r0 X) [],
    qc 15 (vb false) (kpH0 kind off r0 X) [],
    qv 4 99 (vb false),
    qc 20 (vs (ksS ++ d)) (kpH0 kind off r0 X) [],
    qc 21 (vs d) (kpH0 kind off r0 X) [],
    qs 4 107 (vs (ksS ++ d)),
    qv 4 108 (vb true)])
    [evB lf 19 7 [] { n := 18, objs := X :: r0 } = some (vb true, { n := 18, objs := X :: r0 }, []),
    evB lf 19 8 [Value.slice none 0 0] dH = some (vb false, dH, []),
    evB lf 19 17 [vi kind, vi off, Value.slice none 0 0] { n := 18, objs := X :: r0 } = some (Value.tuple { toList := [vf 70 (pt 18), Value.slice none 0 0] }, kpH0 kind off r0 X, []),
    vb (kind == (0 : Int)) = vb false,
    evB lf 19 11 [vf 70 (pt 18)] (kpH0 kind off r0 X) = some (Value.tuple #[vi kind, vb true], kpH0 kind off r0 X, []),
    evB lf 19 12 [vf 70 (pt 18)] (kpH0 kind off r0 X) = some (Value.tuple #[vi off, vb true], kpH0 kind off r0 X, []),
    evB lf 19 13 [vf 70 (pt 18)] (kpH0 kind off r0 X) = some (Value.tuple #[vs t, vb true], kpH0 kind off r0 X, []),
    evB lf 19 18 [Value.slice none 0 0, vi kind, vi off] (kpH0 kind off r0 X) = some (vs t, kpH0 kind off r0 X, []),
    vb (kind == kind) = vb true,
    vb (off == off) = vb true,
    vb (ByteArray.toList t == ByteArray.toList t) = vb true,
    evB lf 19 128 [pt 18] (kpH0 kind off r0 X) = some (vs t, kpH0 kind off r0 X, []),
    vb (ByteArray.toList t == ByteArray.toList t) = vb true,
    evB lf 19 16 [vf 70 (pt 18)] (kpH0 kind off r0 X) = some (Value.slice none 0 0, kpH0 kind off r0 X, []),
    evB lf 19 19 [Value.slice none 0 0, Value.slice none 0 0] dH = some (vb true, dH, []),
    evB lf 19 15 [vf 70 (pt 18), vi kind] (kpH0 kind off r0 X) = some (vb true, kpH0 kind off r0 X, []),
    evB lf 19 15 [vf 70 (pt 18), vi other] (kpH0 kind off r0 X) = some (vb false, kpH0 kind off r0 X, []),
    vb (other == kind) = vb false,
    evB lf 19 20 [vi other] (kpH0 kind off r0 X) = some (vs (ksS ++ d), kpH0 kind off r0 X, []),
    evB lf 19 21 [vi other] (kpH0 kind off r0 X) = some (vs d, kpH0 kind off r0 X, []),
    ByteArray.size ksS + ByteArray.size d ≤ (9223372036854775807 : Nat),
    vs (ksS ++ d) = vs (ksS ++ d),
    vb (ByteArray.toList (ksS ++ d) == ByteArray.toList (ksS ++ d)) = vb true] (by kernel_rfl)
    ⟨hkn, hh, hb, Dg.vfalse (by omega), h11, h12, h13, h18, Dg.vtrue (by omega), Dg.vtrue (by omega), eqS _, hE, eqS _, h16, h19, hi1, hi2, Dg.vfalse (by omega), hS, hN _, by (try simp only [y1, y4]); omega, rfl, eqS _, trivial⟩
--> fbfn
--< fbz0
theorem fbz0 (lf : Nat) (kind : Int) (off : Int) (other : Int) (r0 : List AObj) (ys : List Value) (e : Nat) (l : Nat) (cap : Nat) (hk : kind = 0) (hkn : evB lf 19 7 [] (hZ ys e r0) = some (vb true, (hZ ys e r0), [])) (hh : evB lf 19 8 [aW l cap] (hZ ys e r0) = some (vb false, (hZ ys e r0), [])) (hb : evB lf 19 17 [vi kind, vi off, aW l cap] (hZ ys e r0) = some (Value.tuple #[Value.nilIface, Value.slice none 0 0], (hZ ys e r0), [])) :
    evB lf 20 4 [vi kind, vi other, vi off, aW l cap] (hZ ys e r0) = some (vb true, (hZ ys e r0), []) :=
  Dg.evCall_hint (hs' := []) (hs := [qc 7 (vb true) (hZ ys e r0) [],
    qc 8 (vb false) (hZ ys e r0) [],
    qc 17 (Value.tuple #[Value.nilIface, Value.slice none 0 0]) (hZ ys e r0) [],
    qv 4 30 (vb true)])
    [evB lf 19 7 [] (hZ ys e r0) = some (vb true, (hZ ys e r0), []),
    evB lf 19 8 [aW l cap] (hZ ys e r0) = some (vb false, (hZ ys e r0), []),
    evB lf 19 17 [vi kind, vi off, aW l cap] (hZ ys e r0) = some (Value.tuple #[Value.nilIface, Value.slice none 0 0], (hZ ys e r0), []),
    vb (kind == (0 : Int)) = vb true] (by kernel_rfl)
    ⟨hkn, hh, hb, Dg.vtrue (by omega), trivial⟩
--> fbz0
--< fbz1
theorem fbz1 (lf : Nat) (kind : Int) (off : Int) (other : Int) (r0 : List AObj) (ys : List Value) (e : Nat) (l : Nat) (cap : Nat) (w1 : ByteArray) (hk : kind = 0) (hkn : evB lf 19 7 [] (hZ ys e r0) = some (vb true, (hZ ys e r0), [])) (hh : evB lf 19 8 [aW l cap] (hZ ys e r0) = some (vb false, (hZ ys e r0), [])) (hb : evB lf 19 17 [vi kind, vi off, aW l cap] (hZ ys e r0) = some (Value.tuple #[Value.nilIface, sq 18 1 1], { n := 19, objs := ob [vs w1] 9 4 1 :: oW ys e :: r0 }, [])) :
    evB lf 20 4 [vi kind, vi other, vi off, aW l cap] (hZ ys e r0) = some (vb true, (hZ ys e r0), []) :=
  Dg.evCall_hint (hs' := []) (hs := [qc 7 (vb true) (hZ ys e r0) [],
    qc 8 (vb false) (hZ ys e r0) [],
    qc 17 (Value.tuple { toList := [Value.nilIface, sq 18 1 1] }) { n := 19, objs := ob [vs w1] 9 4 1 :: ob ys e 6 1 :: r0 } [],
    qv 4 30 (vb true)])
    [evB lf 19 7 [] (hZ ys e r0) = some (vb true, (hZ ys e r0), []),
    evB lf 19 8 [aW l cap] (hZ ys e r0) = some (vb false, (hZ ys e r0), []),
    evB lf 19 17 [vi kind, vi off, aW l cap] (hZ ys e r0) = some (Value.tuple { toList := [Value.nilIface, sq 18 1 1] }, { n := 19, objs := ob [vs w1] 9 4 1 :: ob ys e 6 1 :: r0 }, []),
    vb (kind == (0 : Int)) = vb true] (by kernel_rfl)
    ⟨hkn, hh, hb, Dg.vtrue (by omega), trivial⟩
--> fbz1
--< fbz2
theorem fbz2 (lf : Nat) (kind : Int) (off : Int) (other : Int) (r0 : List AObj) (ys : List Value) (e : Nat) (l : Nat) (cap : Nat) (w1 : ByteArray) (w2 : ByteArray) (hk : kind = 0) (hkn : evB lf 19 7 [] (hZ ys e r0) = some (vb true, (hZ ys e r0), [])) (hh : evB lf 19 8 [aW l cap] (hZ ys e r0) = some (vb false, (hZ ys e r0), [])) (hb : evB lf 19 17 [vi kind, vi off, aW l cap] (hZ ys e r0) = some (Value.tuple #[Value.nilIface, sp 18 2 2], { n := 19, objs := ob [vs w2, vs w1] 9 5 1 :: oW ys e :: r0 }, [])) :
    evB lf 20 4 [vi kind, vi other, vi off, aW l cap] (hZ ys e r0) = some (vb true, (hZ ys e r0), []) :=
  Dg.evCall_hint (hs' := []) (hs := [qc 7 (vb true) (hZ ys e r0) [],
    qc 8 (vb false) (hZ ys e r0) [],
    qc 17 (Value.tuple { toList := [Value.nilIface, sp 18 2 2] }) { n := 19, objs := ob [vs w2, vs w1] 9 5 1 :: ob ys e 6 1 :: r0 } [],
    qv 4 30 (vb true)])
    [evB lf 19 7 [] (hZ ys e r0) = some (vb true, (hZ ys e r0), []),
    evB lf 19 8 [aW l cap] (hZ ys e r0) = some (vb false, (hZ ys e r0), []),
    evB lf 19 17 [vi kind, vi off, aW l cap] (hZ ys e r0) = some (Value.tuple { toList := [Value.nilIface, sp 18 2 2] }, { n := 19, objs := ob [vs w2, vs w1] 9 5 1 :: ob ys e 6 1 :: r0 }, []),
    vb (kind == (0 : Int)) = vb true] (by kernel_rfl)
    ⟨hkn, hh, hb, Dg.vtrue (by omega), trivial⟩
--> fbz2
--< fbz3
theorem fbz3 (lf : Nat) (kind : Int) (off : Int) (other : Int) (r0 : List AObj) (ys : List Value) (e : Nat) (l : Nat) (cap : Nat) (w1 : ByteArray) (w2 : ByteArray) (w3 : ByteArray) (hk : kind = 0) (hkn : evB lf 19 7 [] (hZ ys e r0) = some (vb true, (hZ ys e r0), [])) (hh : evB lf 19 8 [aW l cap] (hZ ys e r0) = some (vb false, (hZ ys e r0), [])) (hb : evB lf 19 17 [vi kind, vi off, aW l cap] (hZ ys e r0) = some (Value.tuple #[Value.nilIface, sp 18 3 3], { n := 19, objs := ob [vs w3, vs w2, vs w1] 9 5 1 :: oW ys e :: r0 }, [])) :
    evB lf 20 4 [vi kind, vi other, vi off, aW l cap] (hZ ys e r0) = some (vb true, (hZ ys e r0), []) :=
  Dg.evCall_hint (hs' := []) (hs := [qc 7 (vb true) (hZ ys e r0) [],
    qc 8 (vb false) (hZ ys e r0) [],
    qc 17 (Value.tuple { toList := [Value.nilIface, sp 18 3 3] }) { n := 19, objs := ob [vs w3, vs w2, vs w1] 9 5 1 :: ob ys e 6 1 :: r0 } [],
    qv 4 30 (vb true)])
    [evB lf 19 7 [] (hZ ys e r0) = some (vb true, (hZ ys e r0), []),
    evB lf 19 8 [aW l cap] (hZ ys e r0) = some (vb false, (hZ ys e r0), []),
    evB lf 19 17 [vi kind, vi off, aW l cap] (hZ ys e r0) = some (Value.tuple { toList := [Value.nilIface, sp 18 3 3] }, { n := 19, objs := ob [vs w3, vs w2, vs w1] 9 5 1 :: ob ys e 6 1 :: r0 }, []),
    vb (kind == (0 : Int)) = vb true] (by kernel_rfl)
    ⟨hkn, hh, hb, Dg.vtrue (by omega), trivial⟩
--> fbz3
--< fbz4
theorem fbz4 (lf : Nat) (kind : Int) (off : Int) (other : Int) (r0 : List AObj) (ys : List Value) (e : Nat) (l : Nat) (cap : Nat) (w1 : ByteArray) (w2 : ByteArray) (w3 : ByteArray) (w4 : ByteArray) (hk : kind = 0) (hkn : evB lf 19 7 [] (hZ ys e r0) = some (vb true, (hZ ys e r0), [])) (hh : evB lf 19 8 [aW l cap] (hZ ys e r0) = some (vb false, (hZ ys e r0), [])) (hb : evB lf 19 17 [vi kind, vi off, aW l cap] (hZ ys e r0) = some (Value.tuple #[Value.nilIface, sp 18 4 4], { n := 19, objs := ob [vs w4, vs w3, vs w2, vs w1] 9 5 1 :: oW ys e :: r0 }, [])) :
    evB lf 20 4 [vi kind, vi other, vi off, aW l cap] (hZ ys e r0) = some (vb true, (hZ ys e r0), []) :=
  Dg.evCall_hint (hs' := []) (hs := [qc 7 (vb true) (hZ ys e r0) [],
    qc 8 (vb false) (hZ ys e r0) [],
    qc 17 (Value.tuple { toList := [Value.nilIface, sp 18 4 4] }) { n := 19, objs := ob [vs w4, vs w3, vs w2, vs w1] 9 5 1 :: ob ys e 6 1 :: r0 } [],
    qv 4 30 (vb true)])
    [evB lf 19 7 [] (hZ ys e r0) = some (vb true, (hZ ys e r0), []),
    evB lf 19 8 [aW l cap] (hZ ys e r0) = some (vb false, (hZ ys e r0), []),
    evB lf 19 17 [vi kind, vi off, aW l cap] (hZ ys e r0) = some (Value.tuple { toList := [Value.nilIface, sp 18 4 4] }, { n := 19, objs := ob [vs w4, vs w3, vs w2, vs w1] 9 5 1 :: ob ys e 6 1 :: r0 }, []),
    vb (kind == (0 : Int)) = vb true] (by kernel_rfl)
    ⟨hkn, hh, hb, Dg.vtrue (by omega), trivial⟩
--> fbz4
--< fbz5
theorem fbz5 (lf : Nat) (kind : Int) (off : Int) (other : Int) (r0 : List AObj) (ys : List Value) (e : Nat) (l : Nat) (cap : Nat) (w1 : ByteArray) (w2 : ByteArray) (w3 : ByteArray) (w4 : ByteArray) (w5 : ByteArray) (hk : kind = 0) (hkn : evB lf 19 7 [] (hZ ys e r0) = some (vb true, (hZ ys e r0), [])) (hh : evB lf 19 8 [aW l cap] (hZ ys e r0) = some (vb false, (hZ ys e r0), [])) (hb : evB lf 19 17 [vi kind, vi off, aW l cap] (hZ ys e r0) = some (Value.tuple #[Value.nilIface, sp 18 5 5], { n := 19, objs := ob [vs w5, vs w4, vs w3, vs w2, vs w1] 9 5 1 :: oW ys e :: r0 }, [])) :
    evB lf 20 4 [vi kind, vi other, vi off, aW l cap] (hZ ys e r0) = some (vb true, (hZ ys e r0), []) :=
  Dg.evCall_hint (hs' := []) (hs := [qc 7 (vb true) (hZ ys e r0) [],
    qc 8 (vb false) (hZ ys e r0) [],
    qc 17 (Value.tuple { toList := [Value.nilIface, sp 18 5 5] }) { n := 19, objs := ob [vs w5, vs w4, vs w3, vs w2, vs w1] 9 5 1 :: ob ys e 6 1 :: r0 } [],
    qv 4 30 (vb true)])
    [evB lf 19 7 [] (hZ ys e r0) = some (vb true, (hZ ys e r0), []),
    evB lf 19 8 [aW l cap] (hZ ys e r0) = some (vb false, (hZ ys e r0), []),
    evB lf 19 17 [vi kind, vi off, aW l cap] (hZ ys e r0) = some (Value.tuple { toList := [Value.nilIface, sp 18 5 5] }, { n := 19, objs := ob [vs w5, vs w4, vs w3, vs w2, vs w1] 9 5 1 :: ob ys e 6 1 :: r0 }, []),
    vb (kind == (0 : Int)) = vb true] (by kernel_rfl)
    ⟨hkn, hh, hb, Dg.vtrue (by omega), trivial⟩
--> fbz5
--< fbz6
theorem fbz6 (lf : Nat) (kind : Int) (off : Int) (other : Int) (r0 : List AObj) (ys : List Value) (e : Nat) (l : Nat) (cap : Nat) (w1 : ByteArray) (w2 : ByteArray) (w3 : ByteArray) (w4 : ByteArray) (w5 : ByteArray) (w6 : ByteArray) (hk : kind = 0) (hkn : evB lf 19 7 [] (hZ ys e r0) = some (vb true, (hZ ys e r0), [])) (hh : evB lf 19 8 [aW l cap] (hZ ys e r0) = some (vb false, (hZ ys e r0), [])) (hb : evB lf 19 17 [vi kind, vi off, aW l cap] (hZ ys e r0) = some (Value.tuple #[Value.nilIface, sp 18 6 6], { n := 19, objs := ob [vs w6, vs w5, vs w4, vs w3, vs w2, vs w1] 9 5 1 :: oW ys e :: r0 }, [])) :
    evB lf 20 4 [vi kind, vi other, vi off, aW l cap] (hZ ys e r0) = some (vb true, (hZ ys e r0), []) :=
  Dg.evCall_hint (hs' := []) (hs := [qc 7 (vb true) (hZ ys e r0) [],
    qc 8 (vb false) (hZ ys e r0) [],
    qc 17 (Value.tuple { toList := [Value.nilIface, sp 18 6 6] }) { n := 19, objs := ob [vs w6, vs w5, vs w4, vs w3, vs w2, vs w1] 9 5 1 :: ob ys e 6 1 :: r0 } [],
    qv 4 30 (vb true)])
    [evB lf 19 7 [] (hZ ys e r0) = some (vb true, (hZ ys e r0), []),
    evB lf 19 8 [aW l cap] (hZ ys e r0) = some (vb false, (hZ ys e r0), []),
    evB lf 19 17 [vi kind, vi off, aW l cap] (hZ ys e r0) = some (Value.tuple { toList := [Value.nilIface, sp 18 6 6] }, { n := 19, objs := ob [vs w6, vs w5, vs w4, vs w3, vs w2, vs w1] 9 5 1 :: ob ys e 6 1 :: r0 }, []),
    vb (kind == (0 : Int)) = vb true] (by kernel_rfl)
    ⟨hkn, hh, hb, Dg.vtrue (by omega), trivial⟩
--> fbz6
--< fbz7
theorem fbz7 (lf : Nat) (kind : Int) (off : Int) (other : Int) (r0 : List AObj) (ys : List Value) (e : Nat) (l : Nat) (cap : Nat) (w1 : ByteArray) (w2 : ByteArray) (w3 : ByteArray) (w4 : ByteArray) (w5 : ByteArray) (w6 : ByteArray) (w7 : ByteArray) (hk : kind = 0) (hkn : evB lf 19 7 [] (hZ ys e r0) = some (vb true, (hZ ys e r0), [])) (hh : evB lf 19 8 [aW l cap] (hZ ys e r0) = some (vb false, (hZ ys e r0), [])) (hb : evB lf 19 17 [vi kind, vi off, aW l cap] (hZ ys e r0) = some (Value.tuple #[Value.nilIface, sp 18 7 7], { n := 19, objs := ob [vs w7, vs w6, vs w5, vs w4, vs w3, vs w2, vs w1] 9 5 1 :: oW ys e :: r0 }, [])) :
    evB lf 20 4 [vi kind, vi other, vi off, aW l cap] (hZ ys e r0) = some (vb true, (hZ ys e r0), []) :=
  Dg.evCall_hint (hs' := []) (hs := [qc 7 (vb true) (hZ ys e r0) [],
    qc 8 (vb false) (hZ ys e r0) [],
    qc 17 (Value.tuple { toList := [Value.nilIface, sp 18 7 7] }) { n := 19, objs := ob [vs w7, vs w6, vs w5, vs w4, vs w3, vs w2, vs w1] 9 5 1 :: ob ys e 6 1 :: r0 } [],
    qv 4 30 (vb true)])
    [evB lf 19 7 [] (hZ ys e r0) = some (vb true, (hZ ys e r0), []),
    evB lf 19 8 [aW l cap] (hZ ys e r0) = some (vb false, (hZ ys e r0), []),
    evB lf 19 17 [vi kind, vi off, aW l cap] (hZ ys e r0) = some (Value.tuple { toList := [Value.nilIface, sp 18 7 7] }, { n := 19, objs := ob [vs w7, vs w6, vs w5, vs w4, vs w3, vs w2, vs w1] 9 5 1 :: ob ys e 6 1 :: r0 }, []),
    vb (kind == (0 : Int)) = vb true] (by kernel_rfl)
    ⟨hkn, hh, hb, Dg.vtrue (by omega), trivial⟩
--> fbz7
--< fbz8
theorem fbz8 (lf : Nat) (kind : Int) (off : Int) (other : Int) (r0 : List AObj) (ys : List Value) (e : Nat) (l : Nat) (cap : Nat) (w1 : ByteArray) (w2 : ByteArray) (w3 : ByteArray) (w4 : ByteArray) (w5 : ByteArray) (w6 : ByteArray) (w7 : ByteArray) (w8 : ByteArray) (hk : kind = 0) (hkn : evB lf 19 7 [] (hZ ys e r0) = some (vb true, (hZ ys e r0), [])) (hh : evB lf 19 8 [aW l cap] (hZ ys e r0) = some (vb false, (hZ ys e r0), [])) (hb : evB lf 19 17 [vi kind, vi off, aW l cap] (hZ ys e r0) = some (Value.tuple #[Value.nilIface, sp 18 8 8], { n := 19, objs := ob [vs w8, vs w7, vs w6, vs w5, vs w4, vs w3, vs w2, vs w1] 9 5 1 :: oW ys e :: r0 }, [])) :
    evB lf 20 4 [vi kind, vi other, vi off, aW l cap] (hZ ys e r0) = some (vb true, (hZ ys e r0), []) :=
  Dg.evCall_hint (hs' := []) (hs := [qc 7 (vb true) (hZ ys e r0) [],
    qc 8 (vb false) (hZ ys e r0) [],
    qc 17 (Value.tuple { toList := [Value.nilIface, sp 18 8 8] }) { n := 19, objs := ob [vs w8, vs w7, vs w6, vs w5, vs w4, vs w3, vs w2, vs w1] 9 5 1 :: ob ys e 6 1 :: r0 } [],
    qv 4 30 (vb true)])
    [evB lf 19 7 [] (hZ ys e r0) = some (vb true, (hZ ys e r0), []),
    evB lf 19 8 [aW l cap] (hZ ys e r0) = some (vb false, (hZ ys e r0), []),
    evB lf 19 17 [vi kind, vi off, aW l cap] (hZ ys e r0) = some (Value.tuple { toList := [Value.nilIface, sp 18 8 8] }, { n := 19, objs := ob [vs w8, vs w7, vs w6, vs w5, vs w4, vs w3, vs w2, vs w1] 9 5 1 :: ob ys e 6 1 :: r0 }, []),
    vb (kind == (0 : Int)) = vb true] (by kernel_rfl)
    ⟨hkn, hh, hb, Dg.vtrue (by omega), trivial⟩
--> fbz8
--< fbzn
theorem fbzn (lf : Nat) (kind : Int) (off : Int) (other : Int) (r0 : List AObj) (X : AObj) (hk : kind = 0) (hkn : evB lf 19 7 [] { n := 18, objs := X :: r0 } = some (vb true, { n := 18, objs := X :: r0 }, [])) (hh : evB lf 19 8 [Value.slice none 0 0] dH = some (vb false, dH, [])) (hb : evB lf 19 17 [vi kind, vi off, Value.slice none 0 0] { n := 18, objs := X :: r0 } = some (Value.tuple #[Value.nilIface, Value.slice none 0 0], { n := 18, objs := X :: r0 }, [])) :
    evB lf 20 4 [vi kind, vi other, vi off, Value.slice none 0 0] { n := 18, objs := X :: r0 } = some (vb true, { n := 18, objs := X :: r0 }, []) :=
  Dg.evCall_hint (hs' := []) (hs := [qc 7 (vb true) { n := 18, objs := X :: r0 } [],
    qc 8 (vb false) dH [],
    qc 17 (Value.tuple #[Value.nilIface, Value.slice none 0 0]) { n := 18, objs := X :: r0 } [],
    qv 4 30 (vb true)])
    [evB lf 19 7 [] { n := 18, objs := X :: r0 } = some (vb true, { n := 18, objs := X :: r0 }, []),
    evB lf 19 8 [Value.slice none 0 0] dH = some (vb false, dH, []),
    evB lf 19 17 [vi kind, vi off, Value.slice none 0 0] { n := 18, objs := X :: r0 } = some (Value.tuple #[Value.nilIface, Value.slice none 0 0], { n := 18, objs := X :: r0 }, []),
    vb (kind == (0 : Int)) = vb true] (by kernel_rfl)
    ⟨hkn, hh, hb, Dg.vtrue (by omega), trivial⟩
--> fbzn
--< fbH
theorem fbH (lf : Nat) (kind : Int) (off : Int) (other : Int) (r0 : List AObj) (ys : List Value) (e : Nat) (l : Nat) (cap : Nat) (hkn : evB lf 19 7 [] (hZ ys e r0) = some (vb true, (hZ ys e r0), [])) (hh : evB lf 19 8 [aW l cap] (hZ ys e r0) = some (vb true, (hZ ys e r0), [])) :
    evB lf 20 4 [vi kind, vi other, vi off, aW l cap] (hZ ys e r0) = some (vb true, (hZ ys e r0), []) :=
  Dg.evCall_hint (hs' := []) (hs := [qc 7 (vb true) (hZ ys e r0) [],
    qc 8 (vb true) (hZ ys e r0) []])
    [evB lf 19 7 [] (hZ ys e r0) = some (vb true, (hZ ys e r0), []),
    evB lf 19 8 [aW l cap] (hZ ys e r0) = some (vb true, (hZ ys e r0), [])] (by kernel_rfl)
    ⟨hkn, hh, trivial⟩
--> fbH
end Go.Proofs.YtpgddboigegplaaGreatDoor.base
