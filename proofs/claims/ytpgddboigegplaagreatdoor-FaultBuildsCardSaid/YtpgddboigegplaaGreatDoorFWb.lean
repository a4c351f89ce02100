/- fault.Wrap where the notes of the error are known. -/
import Derived.Test.YtpgddboigegplaaGreatDoorRows
import Derived.Test.YtpgddboigegplaaGreatDoorFT
import Derived.Test.YtpgddboigegplaaGreatDoorFM
namespace Go.Proofs.YtpgddboigegplaaGreatDoor.base
open Go.Dg (junk St Ex Ev Hint evCall evCallS evCode evCodeK innerKp evCodeS evLoop cleanSt ue bodied noOver sbOf headOf tailOf bodyOf rAssign rBody lBody Flats flatOver Heap AObj SCall Law ofLaw Fix)
set_option linter.unusedVariables false
set_option linter.unusedSimpArgs false

noncomputable def lW : Code := lBody ((Tryz.f10.body).getD .skip)

/-! ### n objects: 19; the error's: 18. -/
noncomputable abbrev runW_19 (ov : Ev) (lf : Nat) : St → Option (Ex × St) := evCode Tryz.prog 15 (bodied Tryz.prog) (evO ov lf 17) 19 7 lf lW
noncomputable abbrev clW_19 : St → St := cleanSt 19 7 (ue lW [] []).1
def TW_19 (t : TypeId) (s w : ByteArray) (c : Value) (i : Int) : List Value := [.iface t (.pointer (some ⟨18, 0, none⟩)), .string w, undef, undef, .nilIface, undef, c] ++ (js 9 ++ ([.slice (some ⟨19, 0, some 0⟩) s.size s.size, .int .i64 s.size, .int .i64 i] ++ js 17))
def HW_19 (s : ByteArray) (r : List AObj) : Heap := ⟨20, .cells (byteCells s) 5 5 1 :: r⟩
def Wa_19 (t : TypeId) (s : ByteArray) (r : List AObj) : St := ⟨TW_19 t s s undef 0, HW_19 s r, []⟩
def Wb_19 (t : TypeId) (s : ByteArray) (r : List AObj) (i : Nat) (z : Int) : St := ⟨TW_19 t s s (.int .u8 z) (i : Int), HW_19 s r, []⟩
/-- The state behind the loop; what nothing reads any more is left open. -/
def EW_19 (t : TypeId) (s : ByteArray) (r : List AObj) (w : ByteArray) (c : Value) (i : Int) (g : Nat → Value) : St := ⟨[.iface t (.pointer (some ⟨18, 0, none⟩)), .string w, undef, undef, .nilIface, undef, c] ++ (js 9 ++ ([.slice (some ⟨19, 0, some 0⟩) s.size s.size, .int .i64 s.size, .int .i64 i] ++ [g 19, g 20, g 21, g 22, g 23, g 24, g 25, g 26, g 27, g 28, g 29, g 30, g 31, g 32, g 33, g 34, g 35])), HW_19 s r, []⟩
--< waA_19
theorem waA_19 (ov : Ev) (lf : Nat) (t : TypeId) (s : ByteArray) (r : List AObj) (z : Int) (hz : (byteCells s)[0]? = some (v8 z)) (hr : 0 ≤ z ∧ z < 256) (hi : 0 < ByteArray.size s) (hsz : ByteArray.size s ≤ 9223372036854775807) (hm : ∀ (H : Heap), evO ov lf 17 29 [vs (runeS z)] H = some (vb true, H, [])) :
    ∃ s', (runW_19 ov lf) (Wa_19 t s r) = some (Ex.normal, s') ∧ clW_19 s' = Wb_19 t s r 1 z :=
  Dg.code_round (f := 10) clW_19 (hs := [qv 10 19 (vb true),
    qs 10 20 (pt 19),
    qs 10 21 (v8 z),
    qv 10 23 (v32 z),
    qv 10 24 (vs (runeS z)),
    qc 29 (vb true) { n := 20, objs := ob (byteCells s) 5 5 1 :: r } []])
    [vb (decide ((0 : Int) < (↑(ByteArray.size s) : Int))) = vb true,
    (0 : Int) ≤ (0 : Int) ∧ (0 : Int) < (↑(ByteArray.size s) : Int),
    Value.pointer (some { block := (19 : Nat), off := (0 : Nat) }) = Value.pointer (some { block := (19 : Nat), off := (0 : Nat) }),
    (byteCells s)[(0 : Nat)]? = some (v8 z),
    v32 (IntKind.wrap IntKind.i32 z) = v32 z,
    vs (Utf8.encode z) = vs (runeS z),
    evO ov lf 17 29 [vs (runeS z)] { n := 20, objs := ob (byteCells s) 5 5 1 :: r } = some (vb true, { n := 20, objs := ob (byteCells s) 5 5 1 :: r }, [])] (by kernel_rfl)
    ⟨Dg.vtrue (by omega), by omega, rfl, hz, by simp only [Dg.w_u8, Dg.w_u16, Dg.w_u32, Dg.w_i8, Dg.w_i32, Value.int.injEq, true_and]; omega, rfl, hm _, trivial⟩
--> waA_19
--< waB_19
theorem waB_19 (ov : Ev) (lf : Nat) (t : TypeId) (s : ByteArray) (r : List AObj) (z : Int) (hz : (byteCells s)[0]? = some (v8 z)) (hr : 0 ≤ z ∧ z < 256) (hi : 0 < ByteArray.size s) (hsz : ByteArray.size s ≤ 9223372036854775807) (hm : ∀ (H : Heap), evO ov lf 17 29 [vs (runeS z)] H = some (vb false, H, [])) :
    (runW_19 ov lf) (Wa_19 t s r) = some (Ex.exit 0, ({ ts := [vf t (pt 18), vs { data := #[63] }, undef, undef, Value.nilIface, undef, v8 z, junk, junk, junk, junk, junk, junk, junk, junk, junk, sp 19 (ByteArray.size s) (ByteArray.size s), vi (↑(ByteArray.size s) : Int), vi 0, vb true, pt 19, v8 z, v8 z, v32 z, vs (runeS z), vb false, vb true, junk, junk, junk, junk, junk, junk, junk, junk, junk], H := { n := 20, objs := ob (byteCells s) 5 5 1 :: r }, log := [] } : St)) :=
  Dg.evCode_hint (f := 10) (hs' := []) (hs := [qv 10 19 (vb true),
    qs 10 20 (pt 19),
    qs 10 21 (v8 z),
    qv 10 23 (v32 z),
    qv 10 24 (vs (runeS z)),
    qc 29 (vb false) { n := 20, objs := ob (byteCells s) 5 5 1 :: r } []])
    [vb (decide ((0 : Int) < (↑(ByteArray.size s) : Int))) = vb true,
    (0 : Int) ≤ (0 : Int) ∧ (0 : Int) < (↑(ByteArray.size s) : Int),
    Value.pointer (some { block := (19 : Nat), off := (0 : Nat) }) = Value.pointer (some { block := (19 : Nat), off := (0 : Nat) }),
    (byteCells s)[(0 : Nat)]? = some (v8 z),
    v32 (IntKind.wrap IntKind.i32 z) = v32 z,
    vs (Utf8.encode z) = vs (runeS z),
    evO ov lf 17 29 [vs (runeS z)] { n := 20, objs := ob (byteCells s) 5 5 1 :: r } = some (vb false, { n := 20, objs := ob (byteCells s) 5 5 1 :: r }, [])] (by kernel_rfl)
    ⟨Dg.vtrue (by omega), by omega, rfl, hz, by simp only [Dg.w_u8, Dg.w_u16, Dg.w_u32, Dg.w_i8, Dg.w_i32, Value.int.injEq, true_and]; omega, rfl, hm _, trivial⟩
--> waB_19
--< wbA_19
theorem wbA_19 (ov : Ev) (lf : Nat) (t : TypeId) (s : ByteArray) (r : List AObj) (i : Nat) (z0 : Int) (z : Int) (hz : (byteCells s)[i + 1]? = some (v8 z)) (hr : 0 ≤ z ∧ z < 256) (hi : i + 1 < ByteArray.size s) (hsz : ByteArray.size s ≤ 9223372036854775807) (hm : ∀ (H : Heap), evO ov lf 17 29 [vs (runeS z)] H = some (vb true, H, [])) :
    ∃ s', (runW_19 ov lf) (Wb_19 t s r (i + 1) z0) = some (Ex.normal, s') ∧ clW_19 s' = Wb_19 t s r (i + 1 + 1) z :=
  Dg.code_round (f := 10) clW_19 (hs := [qv 10 19 (vb true),
    qs 10 20 (po 19 (i + 1)),
    qs 10 21 (v8 z),
    qv 10 23 (v32 z),
    qv 10 24 (vs (runeS z)),
    qc 29 (vb true) { n := 20, objs := ob (byteCells s) 5 5 1 :: r } [],
    qv 10 27 (vi ((↑(i + 1) : Int) + 1))])
    [vb (decide ((↑(i + (1 : Nat)) : Int) < (↑(ByteArray.size s) : Int))) = vb true,
    (0 : Int) ≤ (↑(i + (1 : Nat)) : Int) ∧ (↑(i + (1 : Nat)) : Int) < (↑(ByteArray.size s) : Int),
    Value.pointer (some { block := (19 : Nat), off := (0 : Nat) + Int.toNat (↑(i + (1 : Nat)) : Int) * (1 : Nat) }) = Value.pointer (some { block := (19 : Nat), off := i + (1 : Nat) }),
    (byteCells s)[i + (1 : Nat)]? = some (v8 z),
    v32 (IntKind.wrap IntKind.i32 z) = v32 z,
    vs (Utf8.encode z) = vs (runeS z),
    evO ov lf 17 29 [vs (runeS z)] { n := 20, objs := ob (byteCells s) 5 5 1 :: r } = some (vb true, { n := 20, objs := ob (byteCells s) 5 5 1 :: r }, []),
    vi (IntKind.wrap IntKind.i64 ((↑(i + (1 : Nat)) : Int) + (1 : Int))) = vi ((↑(i + (1 : Nat)) : Int) + (1 : Int))] (by kernel_rfl)
    ⟨Dg.vtrue (by omega), by omega, Dg.ptr_eq (by omega), hz, by simp only [Dg.w_u8, Dg.w_u16, Dg.w_u32, Dg.w_i8, Dg.w_i32, Value.int.injEq, true_and]; omega, rfl, hm _, Dg.i64_eq rfl (by omega) (by omega), trivial⟩
--> wbA_19
--< wbB_19
theorem wbB_19 (ov : Ev) (lf : Nat) (t : TypeId) (s : ByteArray) (r : List AObj) (i : Nat) (z0 : Int) (z : Int) (hz : (byteCells s)[i + 1]? = some (v8 z)) (hr : 0 ≤ z ∧ z < 256) (hi : i + 1 < ByteArray.size s) (hsz : ByteArray.size s ≤ 9223372036854775807) (hm : ∀ (H : Heap), evO ov lf 17 29 [vs (runeS z)] H = some (vb false, H, [])) :
    (runW_19 ov lf) (Wb_19 t s r (i + 1) z0) = some (Ex.exit 0, ({ ts := [vf t (pt 18), vs { data := #[63] }, undef, undef, Value.nilIface, undef, v8 z, junk, junk, junk, junk, junk, junk, junk, junk, junk, sp 19 (ByteArray.size s) (ByteArray.size s), vi (↑(ByteArray.size s) : Int), vi (↑(i + 1) : Int), vb true, po 19 (i + 1), v8 z, v8 z, v32 z, vs (runeS z), vb false, vb true, junk, junk, junk, junk, junk, junk, junk, junk, junk], H := { n := 20, objs := ob (byteCells s) 5 5 1 :: r }, log := [] } : St)) :=
  Dg.evCode_hint (f := 10) (hs' := []) (hs := [qv 10 19 (vb true),
    qs 10 20 (po 19 (i + 1)),
    qs 10 21 (v8 z),
    qv 10 23 (v32 z),
    qv 10 24 (vs (runeS z)),
    qc 29 (vb false) { n := 20, objs := ob (byteCells s) 5 5 1 :: r } []])
    [vb (decide ((↑(i + (1 : Nat)) : Int) < (↑(ByteArray.size s) : Int))) = vb true,
    (0 : Int) ≤ (↑(i + (1 : Nat)) : Int) ∧ (↑(i + (1 : Nat)) : Int) < (↑(ByteArray.size s) : Int),
    Value.pointer (some { block := (19 : Nat), off := (0 : Nat) + Int.toNat (↑(i + (1 : Nat)) : Int) * (1 : Nat) }) = Value.pointer (some { block := (19 : Nat), off := i + (1 : Nat) }),
    (byteCells s)[i + (1 : Nat)]? = some (v8 z),
    v32 (IntKind.wrap IntKind.i32 z) = v32 z,
    vs (Utf8.encode z) = vs (runeS z),
    evO ov lf 17 29 [vs (runeS z)] { n := 20, objs := ob (byteCells s) 5 5 1 :: r } = some (vb false, { n := 20, objs := ob (byteCells s) 5 5 1 :: r }, [])] (by kernel_rfl)
    ⟨Dg.vtrue (by omega), by omega, Dg.ptr_eq (by omega), hz, by simp only [Dg.w_u8, Dg.w_u16, Dg.w_u32, Dg.w_i8, Dg.w_i32, Value.int.injEq, true_and]; omega, rfl, hm _, trivial⟩
--> wbB_19
--< waC_19
theorem waC_19 (ov : Ev) (lf : Nat) (t : TypeId) (s : ByteArray) (r : List AObj) (h0 : ByteArray.size s = 0) :
    (runW_19 ov lf) (Wa_19 t s r) = some (Ex.exit 0, ({ ts := [vf t (pt 18), vs s, undef, undef, Value.nilIface, undef, undef, junk, junk, junk, junk, junk, junk, junk, junk, junk, sp 19 (ByteArray.size s) (ByteArray.size s), vi (↑(ByteArray.size s) : Int), vi 0, vb false, junk, junk, junk, junk, junk, junk, junk, junk, junk, junk, junk, junk, junk, junk, junk, junk], H := { n := 20, objs := ob (byteCells s) 5 5 1 :: r }, log := [] } : St)) :=
  Dg.evCode_hint (f := 10) (hs' := []) (hs := [qv 10 19 (vb false)])
    [vb (decide ((0 : Int) < (↑(ByteArray.size s) : Int))) = vb false] (by kernel_rfl)
    ⟨Dg.vfalse (by omega), trivial⟩
--> waC_19
--< wbC_19
theorem wbC_19 (ov : Ev) (lf : Nat) (t : TypeId) (s : ByteArray) (r : List AObj) (i : Nat) (z0 : Int) (h0 : ByteArray.size s = i) :
    (runW_19 ov lf) (Wb_19 t s r i z0) = some (Ex.exit 0, ({ ts := [vf t (pt 18), vs s, undef, undef, Value.nilIface, undef, v8 z0, junk, junk, junk, junk, junk, junk, junk, junk, junk, sp 19 (ByteArray.size s) (ByteArray.size s), vi (↑(ByteArray.size s) : Int), vi (↑i : Int), vb false, junk, junk, junk, junk, junk, junk, junk, junk, junk, junk, junk, junk, junk, junk, junk, junk], H := { n := 20, objs := ob (byteCells s) 5 5 1 :: r }, log := [] } : St)) :=
  Dg.evCode_hint (f := 10) (hs' := []) (hs := [qv 10 19 (vb false)])
    [vb (decide ((↑i : Int) < (↑(ByteArray.size s) : Int))) = vb false] (by kernel_rfl)
    ⟨Dg.vfalse (by omega), trivial⟩
--> wbC_19
/-- The loop: a sign that may not be makes the word strange. -/
theorem loopW_19 (ov : Ev) (ho : MayOk ov) (lf : Nat) (t : TypeId) (l : List UInt8) (r : List AObj) (hl : l.length < lf) (hsz : l.length ≤ 9223372036854775807) :
    ∃ w c i g, (∀ s0, clW_19 s0 = Wa_19 t (bs l) r → evLoop (runW_19 ov lf) clW_19 lf s0 = some (.exit 0, EW_19 t (bs l) r w c i g)) ∧ (allIn l = true ∧ w = bs l ∨ allIn l = false ∧ w = qm) := by
  have hs : (bs l).size = l.length := bs_size l
  have step : ∀ j (hj : j < l.length) (b : Bool), inB l[j].toNat = b → ∀ H, evO ov lf 17 29 [.string (runeS ((l[j].toNat : Nat) : Int))] H = some (.bool b, H, []) := fun j hj b hb H => by
    refine may_call ho (m := 16) ?_ H
    show oMayS _ = b
    rw [may_rune (l[j].toNat_lt), hb]
  refine loopW_gen (Wb := Wb_19 t (bs l) r) (EW := EW_19 t (bs l) r) hl (fun h => ?_) (fun h hb => ?_) (fun h hb => ?_) (fun i z0 h hb => ?_) (fun i z0 h hb => ?_) (fun i z0 h => ?_)
  · exact ⟨undef, 0, gOf [.bool false], waC_19 ov lf t (bs l) r (by rw [h]; rfl)⟩
  · exact waA_19 ov lf t (bs l) r _ (bc_get _ _ h) (z_rng _) (by rw [hs]; exact h) (by rw [hs]; exact hsz) (step 0 h true hb)
  · exact ⟨.int .u8 ((l[0].toNat : Nat) : Int), 0, gOf (gW 19 0 ((l[0].toNat : Nat) : Int)), waB_19 ov lf t (bs l) r _ (bc_get _ _ h) (z_rng _) (by rw [hs]; exact h) (by rw [hs]; exact hsz) (step 0 h false hb)⟩
  · exact wbA_19 ov lf t (bs l) r i z0 _ (bc_get _ _ h) (z_rng _) (by rw [hs]; exact h) (by rw [hs]; exact hsz) (step (i + 1) h true hb)
  · exact ⟨.int .u8 ((l[i + 1].toNat : Nat) : Int), ((i + 1 : Nat) : Int), gOf (gW 19 (i + 1) ((l[i + 1].toNat : Nat) : Int)), wbB_19 ov lf t (bs l) r i z0 _ (bc_get _ _ h) (z_rng _) (by rw [hs]; exact h) (by rw [hs]; exact hsz) (step (i + 1) h false hb)⟩
  · exact ⟨.int .u8 z0, ((i + 1 : Nat) : Int), gOf [.bool false], wbC_19 ov lf t (bs l) r (i + 1) z0 (by rw [hs]; exact h)⟩
--< wrt_19
theorem wrt_19 (o : Ev) (lf : Nat) (t : TypeId) (s : ByteArray) (r : List AObj) (c0 : Int) (hk : evO (noW o) lf 17 28 [vf t (pt 18)] { n := 19, objs := r } = some (vi c0, { n := 19, objs := r }, [])) (h8 : c0 < 8) (w : ByteArray) (c : Value) (i : Int) (g : Nat → Value) (hl : ∀ (s0 : St), clW_19 s0 = Wa_19 t s r → evLoop (runW_19 (noW o) lf) clW_19 lf s0 = some (Ex.exit 0, EW_19 t s r w c i g)) (hm : ∀ (H : Heap), evO (noW o) lf 17 29 [vs w] H = some (vb true, H, [])) :
    evO (noW o) lf 18 10 [vf t (pt 18), vs s] { n := 19, objs := r } = some (vf 67 (pt 19), { n := 20, objs := ob [vs w, vf t (pt 18)] 69 0 1 :: r }, []) :=
  Dg.evCall_hint (hs' := []) (hs := [qc 28 (vi c0) { n := 19, objs := r } [],
    qv 10 12 (vb false),
    Hint.loop 10 (Ex.exit 0) (EW_19 t s r w c i g),
    qc 29 (vb true) { n := 20, objs := ob (byteCells s) 5 5 1 :: r } []])
    [evO (noW o) lf 17 28 [vf t (pt 18)] { n := 19, objs := r } = some (vi c0, { n := 19, objs := r }, []),
    vb (decide (c0 ≥ (8 : Int))) = vb false,
    evLoop (runW_19 (noW o) lf) clW_19 lf { ts := [vf t (pt 18), vs s, undef, undef, Value.nilIface, undef, undef, vf t (pt 18), vb false, vb false, vf t (pt 18), vi c0, vb false, vb false, undef, vs s, sp 19 (ByteArray.size s) (ByteArray.size s), vi (↑(ByteArray.size s) : Int), vi 0, undef, undef, undef, undef, undef, undef, undef, undef, undef, undef, undef, undef, undef, undef, undef, undef, undef], H := { n := 20, objs := ob (byteCells s) 5 5 1 :: r }, log := [] } = some (Ex.exit 0, EW_19 t s r w c i g),
    evO (noW o) lf 17 29 [vs w] { n := 20, objs := ob (byteCells s) 5 5 1 :: r } = some (vb true, { n := 20, objs := ob (byteCells s) 5 5 1 :: r }, [])] (by kernel_rfl)
    ⟨hk, Dg.vfalse (by omega), hl _ (by kernel_rfl), hm _, trivial⟩
--> wrt_19
--< wrf_19
theorem wrf_19 (o : Ev) (lf : Nat) (t : TypeId) (s : ByteArray) (r : List AObj) (c0 : Int) (hk : evO (noW o) lf 17 28 [vf t (pt 18)] { n := 19, objs := r } = some (vi c0, { n := 19, objs := r }, [])) (h8 : c0 < 8) (w : ByteArray) (c : Value) (i : Int) (g : Nat → Value) (hl : ∀ (s0 : St), clW_19 s0 = Wa_19 t s r → evLoop (runW_19 (noW o) lf) clW_19 lf s0 = some (Ex.exit 0, EW_19 t s r w c i g)) (hm : ∀ (H : Heap), evO (noW o) lf 17 29 [vs w] H = some (vb false, H, [])) :
    evO (noW o) lf 18 10 [vf t (pt 18), vs s] { n := 19, objs := r } = some (vf 67 (pt 19), { n := 20, objs := ob [vs { data := #[63] }, vf t (pt 18)] 69 0 1 :: r }, []) :=
  Dg.evCall_hint (hs' := []) (hs := [qc 28 (vi c0) { n := 19, objs := r } [],
    qv 10 12 (vb false),
    Hint.loop 10 (Ex.exit 0) (EW_19 t s r w c i g),
    qc 29 (vb false) { n := 20, objs := ob (byteCells s) 5 5 1 :: r } []])
    [evO (noW o) lf 17 28 [vf t (pt 18)] { n := 19, objs := r } = some (vi c0, { n := 19, objs := r }, []),
    vb (decide (c0 ≥ (8 : Int))) = vb false,
    evLoop (runW_19 (noW o) lf) clW_19 lf { ts := [vf t (pt 18), vs s, undef, undef, Value.nilIface, undef, undef, vf t (pt 18), vb false, vb false, vf t (pt 18), vi c0, vb false, vb false, undef, vs s, sp 19 (ByteArray.size s) (ByteArray.size s), vi (↑(ByteArray.size s) : Int), vi 0, undef, undef, undef, undef, undef, undef, undef, undef, undef, undef, undef, undef, undef, undef, undef, undef, undef], H := { n := 20, objs := ob (byteCells s) 5 5 1 :: r }, log := [] } = some (Ex.exit 0, EW_19 t s r w c i g),
    evO (noW o) lf 17 29 [vs w] { n := 20, objs := ob (byteCells s) 5 5 1 :: r } = some (vb false, { n := 20, objs := ob (byteCells s) 5 5 1 :: r }, [])] (by kernel_rfl)
    ⟨hk, Dg.vfalse (by omega), hl _ (by kernel_rfl), hm _, trivial⟩
--> wrf_19
theorem wr_19 (o : Ev) (ho : MayOk (noW o)) (lf : Nat) (t : TypeId) (s : ByteArray) (r : List AObj) (c0 : Int) (hk : evO (noW o) lf 17 28 [.iface t (.pointer (some ⟨18, 0, none⟩))] ⟨19, r⟩ = some (.int .i64 c0, ⟨19, r⟩, [])) (h8 : c0 < 8) (hl : s.size < lf) (hsz : s.size ≤ 9223372036854775807) :
    evO (noW o) lf 18 10 [.iface t (.pointer (some ⟨18, 0, none⟩)), .string s] ⟨19, r⟩ = some (.iface 67 (.pointer (some ⟨19, 0, none⟩)), ⟨20, .cells [.string (wordOf s), .iface t (.pointer (some ⟨18, 0, none⟩))] 69 0 1 :: r⟩, []) := by
  have hlen : s.data.toList.length = s.size := by rw [← bs_size s.data.toList, bs_of]
  obtain ⟨w, c, i, g, h1, h2⟩ := loopW_19 (noW o) ho lf t s.data.toList r (by omega) (by omega)
  rw [bs_of] at h1 h2
  unfold wordOf
  rcases h2 with ⟨hA, rfl⟩ | ⟨hA, rfl⟩
  · cases hm : mayL w.data.toList with
    | true => exact wrt_19 o lf t w r c0 hk h8 w c i g h1 (may_call ho (m := 16) hm)
    | false => exact wrf_19 o lf t w r c0 hk h8 w c i g h1 (may_call ho (m := 16) hm)
  · have hm : mayL s.data.toList = false := by unfold mayL; rw [hA]; simp
    rw [hm]
    exact wrf_19 o lf t s r c0 hk h8 qm c i g h1 (may_call ho (m := 16) (by kernel_rfl))

/-! ### n objects: 21; the error's: 18. -/
noncomputable abbrev runW_21 (ov : Ev) (lf : Nat) : St → Option (Ex × St) := evCode Tryz.prog 15 (bodied Tryz.prog) (evO ov lf 17) 21 7 lf lW
noncomputable abbrev clW_21 : St → St := cleanSt 21 7 (ue lW [] []).1
def TW_21 (t : TypeId) (s w : ByteArray) (c : Value) (i : Int) : List Value := [.iface t (.pointer (some ⟨18, 0, none⟩)), .string w, undef, undef, .nilIface, undef, c] ++ (js 9 ++ ([.slice (some ⟨21, 0, some 0⟩) s.size s.size, .int .i64 s.size, .int .i64 i] ++ js 17))
def HW_21 (s : ByteArray) (r : List AObj) : Heap := ⟨22, .cells (byteCells s) 5 5 1 :: r⟩
def Wa_21 (t : TypeId) (s : ByteArray) (r : List AObj) : St := ⟨TW_21 t s s undef 0, HW_21 s r, []⟩
def Wb_21 (t : TypeId) (s : ByteArray) (r : List AObj) (i : Nat) (z : Int) : St := ⟨TW_21 t s s (.int .u8 z) (i : Int), HW_21 s r, []⟩
/-- The state behind the loop; what nothing reads any more is left open. -/
def EW_21 (t : TypeId) (s : ByteArray) (r : List AObj) (w : ByteArray) (c : Value) (i : Int) (g : Nat → Value) : St := ⟨[.iface t (.pointer (some ⟨18, 0, none⟩)), .string w, undef, undef, .nilIface, undef, c] ++ (js 9 ++ ([.slice (some ⟨21, 0, some 0⟩) s.size s.size, .int .i64 s.size, .int .i64 i] ++ [g 19, g 20, g 21, g 22, g 23, g 24, g 25, g 26, g 27, g 28, g 29, g 30, g 31, g 32, g 33, g 34, g 35])), HW_21 s r, []⟩
--< waA_21
theorem waA_21 (ov : Ev) (lf : Nat) (t : TypeId) (s : ByteArray) (r : List AObj) (z : Int) (hz : (byteCells s)[0]? = some (v8 z)) (hr : 0 ≤ z ∧ z < 256) (hi : 0 < ByteArray.size s) (hsz : ByteArray.size s ≤ 9223372036854775807) (hm : ∀ (H : Heap), evO ov lf 17 29 [vs (runeS z)] H = some (vb true, H, [])) :
    ∃ s', (runW_21 ov lf) (Wa_21 t s r) = some (Ex.normal, s') ∧ clW_21 s' = Wb_21 t s r 1 z :=
  Dg.code_round (f := 10) clW_21 (hs := [qv 10 19 (vb true),
    qs 10 20 (pt 21),
    qs 10 21 (v8 z),
    qv 10 23 (v32 z),
    qv 10 24 (vs (runeS z)),
    qc 29 (vb true) { n := 22, objs := ob (byteCells s) 5 5 1 :: r } []])
    [vb (decide ((0 : Int) < (↑(ByteArray.size s) : Int))) = vb true,
    (0 : Int) ≤ (0 : Int) ∧ (0 : Int) < (↑(ByteArray.size s) : Int),
    Value.pointer (some { block := (21 : Nat), off := (0 : Nat) }) = Value.pointer (some { block := (21 : Nat), off := (0 : Nat) }),
    (byteCells s)[(0 : Nat)]? = some (v8 z),
    v32 (IntKind.wrap IntKind.i32 z) = v32 z,
    vs (Utf8.encode z) = vs (runeS z),
    evO ov lf 17 29 [vs (runeS z)] { n := 22, objs := ob (byteCells s) 5 5 1 :: r } = some (vb true, { n := 22, objs := ob (byteCells s) 5 5 1 :: r }, [])] (by kernel_rfl)
    ⟨Dg.vtrue (by omega), by omega, rfl, hz, by simp only [Dg.w_u8, Dg.w_u16, Dg.w_u32, Dg.w_i8, Dg.w_i32, Value.int.injEq, true_and]; omega, rfl, hm _, trivial⟩
--> waA_21
--< waB_21
theorem waB_21 (ov : Ev) (lf : Nat) (t : TypeId) (s : ByteArray) (r : List AObj) (z : Int) (hz : (byteCells s)[0]? = some (v8 z)) (hr : 0 ≤ z ∧ z < 256) (hi : 0 < ByteArray.size s) (hsz : ByteArray.size s ≤ 9223372036854775807) (hm : ∀ (H : Heap), evO ov lf 17 29 [vs (runeS z)] H = some (vb false, H, [])) :
    (runW_21 ov lf) (Wa_21 t s r) = some (Ex.exit 0, ({ ts := [vf t (pt 18), vs { data := #[63] }, undef, undef, Value.nilIface, undef, v8 z, junk, junk, junk, junk, junk, junk, junk, junk, junk, sp 21 (ByteArray.size s) (ByteArray.size s), vi (↑(ByteArray.size s) : Int), vi 0, vb true, pt 21, v8 z, v8 z, v32 z, vs (runeS z), vb false, vb true, junk, junk, junk, junk, junk, junk, junk, junk, junk], H := { n := 22, objs := ob (byteCells s) 5 5 1 :: r }, log := [] } : St)) :=
  Dg.evCode_hint (f := 10) (hs' := []) (hs := [qv 10 19 (vb true),
    qs 10 20 (pt 21),
    qs 10 21 (v8 z),
    qv 10 23 (v32 z),
    qv 10 24 (vs (runeS z)),
    qc 29 (vb false) { n := 22, objs := ob (byteCells s) 5 5 1 :: r } []])
    [vb (decide ((0 : Int) < (↑(ByteArray.size s) : Int))) = vb true,
    (0 : Int) ≤ (0 : Int) ∧ (0 : Int) < (↑(ByteArray.size s) : Int),
    Value.pointer (some { block := (21 : Nat), off := (0 : Nat) }) = Value.pointer (some { block := (21 : Nat), off := (0 : Nat) }),
    (byteCells s)[(0 : Nat)]? = some (v8 z),
    v32 (IntKind.wrap IntKind.i32 z) = v32 z,
    vs (Utf8.encode z) = vs (runeS z),
    evO ov lf 17 29 [vs (runeS z)] { n := 22, objs := ob (byteCells s) 5 5 1 :: r } = some (vb false, { n := 22, objs := ob (byteCells s) 5 5 1 :: r }, [])] (by kernel_rfl)
    ⟨Dg.vtrue (by omega), by omega, rfl, hz, by simp only [Dg.w_u8, Dg.w_u16, Dg.w_u32, Dg.w_i8, Dg.w_i32, Value.int.injEq, true_and]; omega, rfl, hm _, trivial⟩
--> waB_21
--< wbA_21
theorem wbA_21 (ov : Ev) (lf : Nat) (t : TypeId) (s : ByteArray) (r : List AObj) (i : Nat) (z0 : Int) (z : Int) (hz : (byteCells s)[i + 1]? = some (v8 z)) (hr : 0 ≤ z ∧ z < 256) (hi : i + 1 < ByteArray.size s) (hsz : ByteArray.size s ≤ 9223372036854775807) (hm : ∀ (H : Heap), evO ov lf 17 29 [vs (runeS z)] H = some (vb true, H, [])) :
    ∃ s', (runW_21 ov lf) (Wb_21 t s r (i + 1) z0) = some (Ex.normal, s') ∧ clW_21 s' = Wb_21 t s r (i + 1 + 1) z :=
  Dg.code_round (f := 10) clW_21 (hs := [qv 10 19 (vb true),
    qs 10 20 (po 21 (i + 1)),
    qs 10 21 (v8 z),
    qv 10 23 (v32 z),
    qv 10 24 (vs (runeS z)),
    qc 29 (vb true) { n := 22, objs := ob (byteCells s) 5 5 1 :: r } [],
    qv 10 27 (vi ((↑(i + 1) : Int) + 1))])
    [vb (decide ((↑(i + (1 : Nat)) : Int) < (↑(ByteArray.size s) : Int))) = vb true,
    (0 : Int) ≤ (↑(i + (1 : Nat)) : Int) ∧ (↑(i + (1 : Nat)) : Int) < (↑(ByteArray.size s) : Int),
    Value.pointer (some { block := (21 : Nat), off := (0 : Nat) + Int.toNat (↑(i + (1 : Nat)) : Int) * (1 : Nat) }) = Value.pointer (some { block := (21 : Nat), off := i + (1 : Nat) }),
    (byteCells s)[i + (1 : Nat)]? = some (v8 z),
    v32 (IntKind.wrap IntKind.i32 z) = v32 z,
    vs (Utf8.encode z) = vs (runeS z),
    evO ov lf 17 29 [vs (runeS z)] { n := 22, objs := ob (byteCells s) 5 5 1 :: r } = some (vb true, { n := 22, objs := ob (byteCells s) 5 5 1 :: r }, []),
    vi (IntKind.wrap IntKind.i64 ((↑(i + (1 : Nat)) : Int) + (1 : Int))) = vi ((↑(i + (1 : Nat)) : Int) + (1 : Int))] (by kernel_rfl)
    ⟨Dg.vtrue (by omega), by omega, Dg.ptr_eq (by omega), hz, by simp only [Dg.w_u8, Dg.w_u16, Dg.w_u32, Dg.w_i8, Dg.w_i32, Value.int.injEq, true_and]; omega, rfl, hm _, Dg.i64_eq rfl (by omega) (by omega), trivial⟩
--> wbA_21
--< wbB_21
theorem wbB_21 (ov : Ev) (lf : Nat) (t : TypeId) (s : ByteArray) (r : List AObj) (i : Nat) (z0 : Int) (z : Int) (hz : (byteCells s)[i + 1]? = some (v8 z)) (hr : 0 ≤ z ∧ z < 256) (hi : i + 1 < ByteArray.size s) (hsz : ByteArray.size s ≤ 9223372036854775807) (hm : ∀ (H : Heap), evO ov lf 17 29 [vs (runeS z)] H = some (vb false, H, [])) :
    (runW_21 ov lf) (Wb_21 t s r (i + 1) z0) = some (Ex.exit 0, ({ ts := [vf t (pt 18), vs { data := #[63] }, undef, undef, Value.nilIface, undef, v8 z, junk, junk, junk, junk, junk, junk, junk, junk, junk, sp 21 (ByteArray.size s) (ByteArray.size s), vi (↑(ByteArray.size s) : Int), vi (↑(i + 1) : Int), vb true, po 21 (i + 1), v8 z, v8 z, v32 z, vs (runeS z), vb false, vb true, junk, junk, junk, junk, junk, junk, junk, junk, junk], H := { n := 22, objs := ob (byteCells s) 5 5 1 :: r }, log := [] } : St)) :=
  Dg.evCode_hint (f := 10) (hs' := []) (hs := [qv 10 19 (vb true),
    qs 10 20 (po 21 (i + 1)),
    qs 10 21 (v8 z),
    qv 10 23 (v32 z),
    qv 10 24 (vs (runeS z)),
    qc 29 (vb false) { n := 22, objs := ob (byteCells s) 5 5 1 :: r } []])
    [vb (decide ((↑(i + (1 : Nat)) : Int) < (↑(ByteArray.size s) : Int))) = vb true,
    (0 : Int) ≤ (↑(i + (1 : Nat)) : Int) ∧ (↑(i + (1 : Nat)) : Int) < (↑(ByteArray.size s) : Int),
    Value.pointer (some { block := (21 : Nat), off := (0 : Nat) + Int.toNat (↑(i + (1 : Nat)) : Int) * (1 : Nat) }) = Value.pointer (some { block := (21 : Nat), off := i + (1 : Nat) }),
    (byteCells s)[i + (1 : Nat)]? = some (v8 z),
    v32 (IntKind.wrap IntKind.i32 z) = v32 z,
    vs (Utf8.encode z) = vs (runeS z),
    evO ov lf 17 29 [vs (runeS z)] { n := 22, objs := ob (byteCells s) 5 5 1 :: r } = some (vb false, { n := 22, objs := ob (byteCells s) 5 5 1 :: r }, [])] (by kernel_rfl)
    ⟨Dg.vtrue (by omega), by omega, Dg.ptr_eq (by omega), hz, by simp only [Dg.w_u8, Dg.w_u16, Dg.w_u32, Dg.w_i8, Dg.w_i32, Value.int.injEq, true_and]; omega, rfl, hm _, trivial⟩
--> wbB_21
--< waC_21
theorem waC_21 (ov : Ev) (lf : Nat) (t : TypeId) (s : ByteArray) (r : List AObj) (h0 : ByteArray.size s = 0) :
    (runW_21 ov lf) (Wa_21 t s r) = some (Ex.exit 0, ({ ts := [vf t (pt 18), vs s, undef, undef, Value.nilIface, undef, undef, junk, junk, junk, junk, junk, junk, junk, junk, junk, sp 21 (ByteArray.size s) (ByteArray.size s), vi (↑(ByteArray.size s) : Int), vi 0, vb false, junk, junk, junk, junk, junk, junk, junk, junk, junk, junk, junk, junk, junk, junk, junk, junk], H := { n := 22, objs := ob (byteCells s) 5 5 1 :: r }, log := [] } : St)) :=
  Dg.evCode_hint (f := 10) (hs' := []) (hs := [qv 10 19 (vb false)])
    [vb (decide ((0 : Int) < (↑(ByteArray.size s) : Int))) = vb false] (by kernel_rfl)
    ⟨Dg.vfalse (by omega), trivial⟩
--> waC_21
--< wbC_21
theorem wbC_21 (ov : Ev) (lf : Nat) (t : TypeId) (s : ByteArray) (r : List AObj) (i : Nat) (z0 : Int) (h0 : ByteArray.size s = i) :
    (runW_21 ov lf) (Wb_21 t s r i z0) = some (Ex.exit 0, ({ ts := [vf t (pt 18), vs s, undef, undef, Value.nilIface, undef, v8 z0, junk, junk, junk, junk, junk, junk, junk, junk, junk, sp 21 (ByteArray.size s) (ByteArray.size s), vi (↑(ByteArray.size s) : Int), vi (↑i : Int), vb false, junk, junk, junk, junk, junk, junk, junk, junk, junk, junk, junk, junk, junk, junk, junk, junk], H := { n := 22, objs := ob (byteCells s) 5 5 1 :: r }, log := [] } : St)) :=
  Dg.evCode_hint (f := 10) (hs' := []) (hs := [qv 10 19 (vb false)])
    [vb (decide ((↑i : Int) < (↑(ByteArray.size s) : Int))) = vb false] (by kernel_rfl)
    ⟨Dg.vfalse (by omega), trivial⟩
--> wbC_21
/-- The loop: a sign that may not be makes the word strange. -/
theorem loopW_21 (ov : Ev) (ho : MayOk ov) (lf : Nat) (t : TypeId) (l : List UInt8) (r : List AObj) (hl : l.length < lf) (hsz : l.length ≤ 9223372036854775807) :
    ∃ w c i g, (∀ s0, clW_21 s0 = Wa_21 t (bs l) r → evLoop (runW_21 ov lf) clW_21 lf s0 = some (.exit 0, EW_21 t (bs l) r w c i g)) ∧ (allIn l = true ∧ w = bs l ∨ allIn l = false ∧ w = qm) := by
  have hs : (bs l).size = l.length := bs_size l
  have step : ∀ j (hj : j < l.length) (b : Bool), inB l[j].toNat = b → ∀ H, evO ov lf 17 29 [.string (runeS ((l[j].toNat : Nat) : Int))] H = some (.bool b, H, []) := fun j hj b hb H => by
    refine may_call ho (m := 16) ?_ H
    show oMayS _ = b
    rw [may_rune (l[j].toNat_lt), hb]
  refine loopW_gen (Wb := Wb_21 t (bs l) r) (EW := EW_21 t (bs l) r) hl (fun h => ?_) (fun h hb => ?_) (fun h hb => ?_) (fun i z0 h hb => ?_) (fun i z0 h hb => ?_) (fun i z0 h => ?_)
  · exact ⟨undef, 0, gOf [.bool false], waC_21 ov lf t (bs l) r (by rw [h]; rfl)⟩
  · exact waA_21 ov lf t (bs l) r _ (bc_get _ _ h) (z_rng _) (by rw [hs]; exact h) (by rw [hs]; exact hsz) (step 0 h true hb)
  · exact ⟨.int .u8 ((l[0].toNat : Nat) : Int), 0, gOf (gW 21 0 ((l[0].toNat : Nat) : Int)), waB_21 ov lf t (bs l) r _ (bc_get _ _ h) (z_rng _) (by rw [hs]; exact h) (by rw [hs]; exact hsz) (step 0 h false hb)⟩
  · exact wbA_21 ov lf t (bs l) r i z0 _ (bc_get _ _ h) (z_rng _) (by rw [hs]; exact h) (by rw [hs]; exact hsz) (step (i + 1) h true hb)
  · exact ⟨.int .u8 ((l[i + 1].toNat : Nat) : Int), ((i + 1 : Nat) : Int), gOf (gW 21 (i + 1) ((l[i + 1].toNat : Nat) : Int)), wbB_21 ov lf t (bs l) r i z0 _ (bc_get _ _ h) (z_rng _) (by rw [hs]; exact h) (by rw [hs]; exact hsz) (step (i + 1) h false hb)⟩
  · exact ⟨.int .u8 z0, ((i + 1 : Nat) : Int), gOf [.bool false], wbC_21 ov lf t (bs l) r (i + 1) z0 (by rw [hs]; exact h)⟩
--< wrt_21
theorem wrt_21 (o : Ev) (lf : Nat) (t : TypeId) (s : ByteArray) (r : List AObj) (c0 : Int) (hk : evO (noW o) lf 17 28 [vf t (pt 18)] { n := 21, objs := r } = some (vi c0, { n := 21, objs := r }, [])) (h8 : c0 < 8) (w : ByteArray) (c : Value) (i : Int) (g : Nat → Value) (hl : ∀ (s0 : St), clW_21 s0 = Wa_21 t s r → evLoop (runW_21 (noW o) lf) clW_21 lf s0 = some (Ex.exit 0, EW_21 t s r w c i g)) (hm : ∀ (H : Heap), evO (noW o) lf 17 29 [vs w] H = some (vb true, H, [])) :
    evO (noW o) lf 18 10 [vf t (pt 18), vs s] { n := 21, objs := r } = some (vf 67 (pt 21), { n := 22, objs := ob [vs w, vf t (pt 18)] 69 0 1 :: r }, []) :=
  Dg.evCall_hint (hs' := []) (hs := [qc 28 (vi c0) { n := 21, objs := r } [],
    qv 10 12 (vb false),
    Hint.loop 10 (Ex.exit 0) (EW_21 t s r w c i g),
    qc 29 (vb true) { n := 22, objs := ob (byteCells s) 5 5 1 :: r } []])
    [evO (noW o) lf 17 28 [vf t (pt 18)] { n := 21, objs := r } = some (vi c0, { n := 21, objs := r }, []),
    vb (decide (c0 ≥ (8 : Int))) = vb false,
    evLoop (runW_21 (noW o) lf) clW_21 lf { ts := [vf t (pt 18), vs s, undef, undef, Value.nilIface, undef, undef, vf t (pt 18), vb false, vb false, vf t (pt 18), vi c0, vb false, vb false, undef, vs s, sp 21 (ByteArray.size s) (ByteArray.size s), vi (↑(ByteArray.size s) : Int), vi 0, undef, undef, undef, undef, undef, undef, undef, undef, undef, undef, undef, undef, undef, undef, undef, undef, undef], H := { n := 22, objs := ob (byteCells s) 5 5 1 :: r }, log := [] } = some (Ex.exit 0, EW_21 t s r w c i g),
    evO (noW o) lf 17 29 [vs w] { n := 22, objs := ob (byteCells s) 5 5 1 :: r } = some (vb true, { n := 22, objs := ob (byteCells s) 5 5 1 :: r }, [])] (by kernel_rfl)
    ⟨hk, Dg.vfalse (by omega), hl _ (by kernel_rfl), hm _, trivial⟩
--> wrt_21
--< wrf_21
theorem wrf_21 (o : Ev) (lf : Nat) (t : TypeId) (s : ByteArray) (r : List AObj) (c0 : Int) (hk : evO (noW o) lf 17 28 [vf t (pt 18)] { n := 21, objs := r } = some (vi c0, { n := 21, objs := r }, [])) (h8 : c0 < 8) (w : ByteArray) (c : Value) (i : Int) (g : Nat → Value) (hl : ∀ (s0 : St), clW_21 s0 = Wa_21 t s r → evLoop (runW_21 (noW o) lf) clW_21 lf s0 = some (Ex.exit 0, EW_21 t s r w c i g)) (hm : ∀ (H : Heap), evO (noW o) lf 17 29 [vs w] H = some (vb false, H, [])) :
    evO (noW o) lf 18 10 [vf t (pt 18), vs s] { n := 21, objs := r } = some (vf 67 (pt 21), { n := 22, objs := ob [vs { data := #[63] }, vf t (pt 18)] 69 0 1 :: r }, []) :=
  Dg.evCall_hint (hs' := []) (hs := [qc 28 (vi c0) { n := 21, objs := r } [],
    qv 10 12 (vb false),
    Hint.loop 10 (Ex.exit 0) (EW_21 t s r w c i g),
    qc 29 (vb false) { n := 22, objs := ob (byteCells s) 5 5 1 :: r } []])
    [evO (noW o) lf 17 28 [vf t (pt 18)] { n := 21, objs := r } = some (vi c0, { n := 21, objs := r }, []),
    vb (decide (c0 ≥ (8 : Int))) = vb false,
    evLoop (runW_21 (noW o) lf) clW_21 lf { ts := [vf t (pt 18), vs s, undef, undef, Value.nilIface, undef, undef, vf t (pt 18), vb false, vb false, vf t (pt 18), vi c0, vb false, vb false, undef, vs s, sp 21 (ByteArray.size s) (ByteArray.size s), vi (↑(ByteArray.size s) : Int), vi 0, undef, undef, undef, undef, undef, undef, undef, undef, undef, undef, undef, undef, undef, undef, undef, undef, undef], H := { n := 22, objs := ob (byteCells s) 5 5 1 :: r }, log := [] } = some (Ex.exit 0, EW_21 t s r w c i g),
    evO (noW o) lf 17 29 [vs w] { n := 22, objs := ob (byteCells s) 5 5 1 :: r } = some (vb false, { n := 22, objs := ob (byteCells s) 5 5 1 :: r }, [])] (by kernel_rfl)
    ⟨hk, Dg.vfalse (by omega), hl _ (by kernel_rfl), hm _, trivial⟩
--> wrf_21
theorem wr_21 (o : Ev) (ho : MayOk (noW o)) (lf : Nat) (t : TypeId) (s : ByteArray) (r : List AObj) (c0 : Int) (hk : evO (noW o) lf 17 28 [.iface t (.pointer (some ⟨18, 0, none⟩))] ⟨21, r⟩ = some (.int .i64 c0, ⟨21, r⟩, [])) (h8 : c0 < 8) (hl : s.size < lf) (hsz : s.size ≤ 9223372036854775807) :
    evO (noW o) lf 18 10 [.iface t (.pointer (some ⟨18, 0, none⟩)), .string s] ⟨21, r⟩ = some (.iface 67 (.pointer (some ⟨21, 0, none⟩)), ⟨22, .cells [.string (wordOf s), .iface t (.pointer (some ⟨18, 0, none⟩))] 69 0 1 :: r⟩, []) := by
  have hlen : s.data.toList.length = s.size := by rw [← bs_size s.data.toList, bs_of]
  obtain ⟨w, c, i, g, h1, h2⟩ := loopW_21 (noW o) ho lf t s.data.toList r (by omega) (by omega)
  rw [bs_of] at h1 h2
  unfold wordOf
  rcases h2 with ⟨hA, rfl⟩ | ⟨hA, rfl⟩
  · cases hm : mayL w.data.toList with
    | true => exact wrt_21 o lf t w r c0 hk h8 w c i g h1 (may_call ho (m := 16) hm)
    | false => exact wrf_21 o lf t w r c0 hk h8 w c i g h1 (may_call ho (m := 16) hm)
  · have hm : mayL s.data.toList = false := by unfold mayL; rw [hA]; simp
    rw [hm]
    exact wrf_21 o lf t s r c0 hk h8 qm c i g h1 (may_call ho (m := 16) (by kernel_rfl))

/-! ### n objects: 22; the error's: 18. -/
noncomputable abbrev runW_22 (ov : Ev) (lf : Nat) : St → Option (Ex × St) := evCode Tryz.prog 15 (bodied Tryz.prog) (evO ov lf 17) 22 7 lf lW
noncomputable abbrev clW_22 : St → St := cleanSt 22 7 (ue lW [] []).1
def TW_22 (t : TypeId) (s w : ByteArray) (c : Value) (i : Int) : List Value := [.iface t (.pointer (some ⟨18, 0, none⟩)), .string w, undef, undef, .nilIface, undef, c] ++ (js 9 ++ ([.slice (some ⟨22, 0, some 0⟩) s.size s.size, .int .i64 s.size, .int .i64 i] ++ js 17))
def HW_22 (s : ByteArray) (r : List AObj) : Heap := ⟨23, .cells (byteCells s) 5 5 1 :: r⟩
def Wa_22 (t : TypeId) (s : ByteArray) (r : List AObj) : St := ⟨TW_22 t s s undef 0, HW_22 s r, []⟩
def Wb_22 (t : TypeId) (s : ByteArray) (r : List AObj) (i : Nat) (z : Int) : St := ⟨TW_22 t s s (.int .u8 z) (i : Int), HW_22 s r, []⟩
/-- The state behind the loop; what nothing reads any more is left open. -/
def EW_22 (t : TypeId) (s : ByteArray) (r : List AObj) (w : ByteArray) (c : Value) (i : Int) (g : Nat → Value) : St := ⟨[.iface t (.pointer (some ⟨18, 0, none⟩)), .string w, undef, undef, .nilIface, undef, c] ++ (js 9 ++ ([.slice (some ⟨22, 0, some 0⟩) s.size s.size, .int .i64 s.size, .int .i64 i] ++ [g 19, g 20, g 21, g 22, g 23, g 24, g 25, g 26, g 27, g 28, g 29, g 30, g 31, g 32, g 33, g 34, g 35])), HW_22 s r, []⟩
--< waA_22
theorem waA_22 (ov : Ev) (lf : Nat) (t : TypeId) (s : ByteArray) (r : List AObj) (z : Int) (hz : (byteCells s)[0]? = some (v8 z)) (hr : 0 ≤ z ∧ z < 256) (hi : 0 < ByteArray.size s) (hsz : ByteArray.size s ≤ 9223372036854775807) (hm : ∀ (H : Heap), evO ov lf 17 29 [vs (runeS z)] H = some (vb true, H, [])) :
    ∃ s', (runW_22 ov lf) (Wa_22 t s r) = some (Ex.normal, s') ∧ clW_22 s' = Wb_22 t s r 1 z :=
  Dg.code_round (f := 10) clW_22 (hs := [qv 10 19 (vb true),
    qs 10 20 (pt 22),
    qs 10 21 (v8 z),
    qv 10 23 (v32 z),
    qv 10 24 (vs (runeS z)),
    qc 29 (vb true) { n := 23, objs := ob (byteCells s) 5 5 1 :: r } []])
    [vb (decide ((0 : Int) < (↑(ByteArray.size s) : Int))) = vb true,
    (0 : Int) ≤ (0 : Int) ∧ (0 : Int) < (↑(ByteArray.size s) : Int),
    Value.pointer (some { block := (22 : Nat), off := (0 : Nat) }) = Value.pointer (some { block := (22 : Nat), off := (0 : Nat) }),
    (byteCells s)[(0 : Nat)]? = some (v8 z),
    v32 (IntKind.wrap IntKind.i32 z) = v32 z,
    vs (Utf8.encode z) = vs (runeS z),
    evO ov lf 17 29 [vs (runeS z)] { n := 23, objs := ob (byteCells s) 5 5 1 :: r } = some (vb true, { n := 23, objs := ob (byteCells s) 5 5 1 :: r }, [])] (by kernel_rfl)
    ⟨Dg.vtrue (by omega), by omega, rfl, hz, by simp only [Dg.w_u8, Dg.w_u16, Dg.w_u32, Dg.w_i8, Dg.w_i32, Value.int.injEq, true_and]; omega, rfl, hm _, trivial⟩
--> waA_22
--< waB_22
theorem waB_22 (ov : Ev) (lf : Nat) (t : TypeId) (s : ByteArray) (r : List AObj) (z : Int) (hz : (byteCells s)[0]? = some (v8 z)) (hr : 0 ≤ z ∧ z < 256) (hi : 0 < ByteArray.size s) (hsz : ByteArray.size s ≤ 9223372036854775807) (hm : ∀ (H : Heap), evO ov lf 17 29 [vs (runeS z)] H = some (vb false, H, [])) :
    (runW_22 ov lf) (Wa_22 t s r) = some (Ex.exit 0, ({ ts := [vf t (pt 18), vs { data := #[63] }, undef, undef, Value.nilIface, undef, v8 z, junk, junk, junk, junk, junk, junk, junk, junk, junk, sp 22 (ByteArray.size s) (ByteArray.size s), vi (↑(ByteArray.size s) : Int), vi 0, vb true, pt 22, v8 z, v8 z, v32 z, vs (runeS z), vb false, vb true, junk, junk, junk, junk, junk, junk, junk, junk, junk], H := { n := 23, objs := ob (byteCells s) 5 5 1 :: r }, log := [] } : St)) :=
  Dg.evCode_hint (f := 10) (hs' := []) (hs := [qv 10 19 (vb true),
    qs 10 20 (pt 22),
    qs 10 21 (v8 z),
    qv 10 23 (v32 z),
    qv 10 24 (vs (runeS z)),
    qc 29 (vb false) { n := 23, objs := ob (byteCells s) 5 5 1 :: r } []])
    [vb (decide ((0 : Int) < (↑(ByteArray.size s) : Int))) = vb true,
    (0 : Int) ≤ (0 : Int) ∧ (0 : Int) < (↑(ByteArray.size s) : Int),
    Value.pointer (some { block := (22 : Nat), off := (0 : Nat) }) = Value.pointer (some { block := (22 : Nat), off := (0 : Nat) }),
    (byteCells s)[(0 : Nat)]? = some (v8 z),
    v32 (IntKind.wrap IntKind.i32 z) = v32 z,
    vs (Utf8.encode z) = vs (runeS z),
    evO ov lf 17 29 [vs (runeS z)] { n := 23, objs := ob (byteCells s) 5 5 1 :: r } = some (vb false, { n := 23, objs := ob (byteCells s) 5 5 1 :: r }, [])] (by kernel_rfl)
    ⟨Dg.vtrue (by omega), by omega, rfl, hz, by simp only [Dg.w_u8, Dg.w_u16, Dg.w_u32, Dg.w_i8, Dg.w_i32, Value.int.injEq, true_and]; omega, rfl, hm _, trivial⟩
--> waB_22
--< wbA_22
theorem wbA_22 (ov : Ev) (lf : Nat) (t : TypeId) (s : ByteArray) (r : List AObj) (i : Nat) (z0 : Int) (z : Int) (hz : (byteCells s)[i + 1]? = some (v8 z)) (hr : 0 ≤ z ∧ z < 256) (hi : i + 1 < ByteArray.size s) (hsz : ByteArray.size s ≤ 9223372036854775807) (hm : ∀ (H : Heap), evO ov lf 17 29 [vs (runeS z)] H = some (vb true, H, [])) :
    ∃ s', (runW_22 ov lf) (Wb_22 t s r (i + 1) z0) = some (Ex.normal, s') ∧ clW_22 s' = Wb_22 t s r (i + 1 + 1) z :=
  Dg.code_round (f := 10) clW_22 (hs := [qv 10 19 (vb true),
    qs 10 20 (po 22 (i + 1)),
    qs 10 21 (v8 z),
    qv 10 23 (v32 z),
    qv 10 24 (vs (runeS z)),
    qc 29 (vb true) { n := 23, objs := ob (byteCells s) 5 5 1 :: r } [],
    qv 10 27 (vi ((↑(i + 1) : Int) + 1))])
    [vb (decide ((↑(i + (1 : Nat)) : Int) < (↑(ByteArray.size s) : Int))) = vb true,
    (0 : Int) ≤ (↑(i + (1 : Nat)) : Int) ∧ (↑(i + (1 : Nat)) : Int) < (↑(ByteArray.size s) : Int),
    Value.pointer (some { block := (22 : Nat), off := (0 : Nat) + Int.toNat (↑(i + (1 : Nat)) : Int) * (1 : Nat) }) = Value.pointer (some { block := (22 : Nat), off := i + (1 : Nat) }),
    (byteCells s)[i + (1 : Nat)]? = some (v8 z),
    v32 (IntKind.wrap IntKind.i32 z) = v32 z,
    vs (Utf8.encode z) = vs (runeS z),
    evO ov lf 17 29 [vs (runeS z)] { n := 23, objs := ob (byteCells s) 5 5 1 :: r } = some (vb true, { n := 23, objs := ob (byteCells s) 5 5 1 :: r }, []),
    vi (IntKind.wrap IntKind.i64 ((↑(i + (1 : Nat)) : Int) + (1 : Int))) = vi ((↑(i + (1 : Nat)) : Int) + (1 : Int))] (by kernel_rfl)
    ⟨Dg.vtrue (by omega), by omega, Dg.ptr_eq (by omega), hz, by simp only [Dg.w_u8, Dg.w_u16, Dg.w_u32, Dg.w_i8, Dg.w_i32, Value.int.injEq, true_and]; omega, rfl, hm _, Dg.i64_eq rfl (by omega) (by omega), trivial⟩
--> wbA_22
--< wbB_22
theorem wbB_22 (ov : Ev) (lf : Nat) (t : TypeId) (s : ByteArray) (r : List AObj) (i : Nat) (z0 : Int) (z : Int) (hz : (byteCells s)[i + 1]? = some (v8 z)) (hr : 0 ≤ z ∧ z < 256) (hi : i + 1 < ByteArray.size s) (hsz : ByteArray.size s ≤ 9223372036854775807) (hm : ∀ (H : Heap), evO ov lf 17 29 [vs (runeS z)] H = some (vb false, H, [])) :
    (runW_22 ov lf) (Wb_22 t s r (i + 1) z0) = some (Ex.exit 0, ({ ts := [vf t (pt 18), vs { data := #[63] }, undef, undef, Value.nilIface, undef, v8 z, junk, junk, junk, junk, junk, junk, junk, junk, junk, sp 22 (ByteArray.size s) (ByteArray.size s), vi (↑(ByteArray.size s) : Int), vi (↑(i + 1) : Int), vb true, po 22 (i + 1), v8 z, v8 z, v32 z, vs (runeS z), vb false, vb true, junk, junk, junk, junk, junk, junk, junk, junk, junk], H := { n := 23, objs := ob (byteCells s) 5 5 1 :: r }, log := [] } : St)) :=
  Dg.evCode_hint (f := 10) (hs' := []) (hs := [qv 10 19 (vb true),
    qs 10 20 (po 22 (i + 1)),
    qs 10 21 (v8 z),
    qv 10 23 (v32 z),
    qv 10 24 (vs (runeS z)),
    qc 29 (vb false) { n := 23, objs := ob (byteCells s) 5 5 1 :: r } []])
    [vb (decide ((↑(i + (1 : Nat)) : Int) < (↑(ByteArray.size s) : Int))) = vb true,
    (0 : Int) ≤ (↑(i + (1 : Nat)) : Int) ∧ (↑(i + (1 : Nat)) : Int) < (↑(ByteArray.size s) : Int),
    Value.pointer (some { block := (22 : Nat), off := (0 : Nat) + Int.toNat (↑(i + (1 : Nat)) : Int) * (1 : Nat) }) = Value.pointer (some { block := (22 : Nat), off := i + (1 : Nat) }),
    (byteCells s)[i + (1 : Nat)]? = some (v8 z),
    v32 (IntKind.wrap IntKind.i32 z) = v32 z,
    vs (Utf8.encode z) = vs (runeS z),
    evO ov lf 17 29 [vs (runeS z)] { n := 23, objs := ob (byteCells s) 5 5 1 :: r } = some (vb false, { n := 23, objs := ob (byteCells s) 5 5 1 :: r }, [])] (by kernel_rfl)
    ⟨Dg.vtrue (by omega), by omega, Dg.ptr_eq (by omega), hz, by simp only [Dg.w_u8, Dg.w_u16, Dg.w_u32, Dg.w_i8, Dg.w_i32, Value.int.injEq, true_and]; omega, rfl, hm _, trivial⟩
--> wbB_22
--< waC_22
theorem waC_22 (ov : Ev) (lf : Nat) (t : TypeId) (s : ByteArray) (r : List AObj) (h0 : ByteArray.size s = 0) :
    (runW_22 ov lf) (Wa_22 t s r) = some (Ex.exit 0, ({ ts := [vf t (pt 18), vs s, undef, undef, Value.nilIface, undef, undef, junk, junk, junk, junk, junk, junk, junk, junk, junk, sp 22 (ByteArray.size s) (ByteArray.size s), vi (↑(ByteArray.size s) : Int), vi 0, vb false, junk, junk, junk, junk, junk, junk, junk, junk, junk, junk, junk, junk, junk, junk, junk, junk], H := { n := 23, objs := ob (byteCells s) 5 5 1 :: r }, log := [] } : St)) :=
  Dg.evCode_hint (f := 10) (hs' := []) (hs := [qv 10 19 (vb false)])
    [vb (decide ((0 : Int) < (↑(ByteArray.size s) : Int))) = vb false] (by kernel_rfl)
    ⟨Dg.vfalse (by omega), trivial⟩
--> waC_22
--< wbC_22
theorem wbC_22 (ov : Ev) (lf : Nat) (t : TypeId) (s : ByteArray) (r : List AObj) (i : Nat) (z0 : Int) (h0 : ByteArray.size s = i) :
    (runW_22 ov lf) (Wb_22 t s r i z0) = some (Ex.exit 0, ({ ts := [vf t (pt 18), vs s, undef, undef, Value.nilIface, undef, v8 z0, junk, junk, junk, junk, junk, junk, junk, junk, junk, sp 22 (ByteArray.size s) (ByteArray.size s), vi (↑(ByteArray.size s) : Int), vi (↑i : Int), vb false, junk, junk, junk, junk, junk, junk, junk, junk, junk, junk, junk, junk, junk, junk, junk, junk], H := { n := 23, objs := ob (byteCells s) 5 5 1 :: r }, log := [] } : St)) :=
  Dg.evCode_hint (f := 10) (hs' := []) (hs := [qv 10 19 (vb false)])
    [vb (decide ((↑i : Int) < (↑(ByteArray.size s) : Int))) = vb false] (by kernel_rfl)
    ⟨Dg.vfalse (by omega), trivial⟩
--> wbC_22
/-- The loop: a sign that may not be makes the word strange. -/
theorem loopW_22 (ov : Ev) (ho : MayOk ov) (lf : Nat) (t : TypeId) (l : List UInt8) (r : List AObj) (hl : l.length < lf) (hsz : l.length ≤ 9223372036854775807) :
    ∃ w c i g, (∀ s0, clW_22 s0 = Wa_22 t (bs l) r → evLoop (runW_22 ov lf) clW_22 lf s0 = some (.exit 0, EW_22 t (bs l) r w c i g)) ∧ (allIn l = true ∧ w = bs l ∨ allIn l = false ∧ w = qm) := by
  have hs : (bs l).size = l.length := bs_size l
  have step : ∀ j (hj : j < l.length) (b : Bool), inB l[j].toNat = b → ∀ H, evO ov lf 17 29 [.string (runeS ((l[j].toNat : Nat) : Int))] H = some (.bool b, H, []) := fun j hj b hb H => by
    refine may_call ho (m := 16) ?_ H
    show oMayS _ = b
    rw [may_rune (l[j].toNat_lt), hb]
  refine loopW_gen (Wb := Wb_22 t (bs l) r) (EW := EW_22 t (bs l) r) hl (fun h => ?_) (fun h hb => ?_) (fun h hb => ?_) (fun i z0 h hb => ?_) (fun i z0 h hb => ?_) (fun i z0 h => ?_)
  · exact ⟨undef, 0, gOf [.bool false], waC_22 ov lf t (bs l) r (by rw [h]; rfl)⟩
  · exact waA_22 ov lf t (bs l) r _ (bc_get _ _ h) (z_rng _) (by rw [hs]; exact h) (by rw [hs]; exact hsz) (step 0 h true hb)
  · exact ⟨.int .u8 ((l[0].toNat : Nat) : Int), 0, gOf (gW 22 0 ((l[0].toNat : Nat) : Int)), waB_22 ov lf t (bs l) r _ (bc_get _ _ h) (z_rng _) (by rw [hs]; exact h) (by rw [hs]; exact hsz) (step 0 h false hb)⟩
  · exact wbA_22 ov lf t (bs l) r i z0 _ (bc_get _ _ h) (z_rng _) (by rw [hs]; exact h) (by rw [hs]; exact hsz) (step (i + 1) h true hb)
  · exact ⟨.int .u8 ((l[i + 1].toNat : Nat) : Int), ((i + 1 : Nat) : Int), gOf (gW 22 (i + 1) ((l[i + 1].toNat : Nat) : Int)), wbB_22 ov lf t (bs l) r i z0 _ (bc_get _ _ h) (z_rng _) (by rw [hs]; exact h) (by rw [hs]; exact hsz) (step (i + 1) h false hb)⟩
  · exact ⟨.int .u8 z0, ((i + 1 : Nat) : Int), gOf [.bool false], wbC_22 ov lf t (bs l) r (i + 1) z0 (by rw [hs]; exact h)⟩
--< wrt_22
theorem wrt_22 (o : Ev) (lf : Nat) (t : TypeId) (s : ByteArray) (r : List AObj) (c0 : Int) (hk : evO (noW o) lf 17 28 [vf t (pt 18)] { n := 22, objs := r } = some (vi c0, { n := 22, objs := r }, [])) (h8 : c0 < 8) (w : ByteArray) (c : Value) (i : Int) (g : Nat → Value) (hl : ∀ (s0 : St), clW_22 s0 = Wa_22 t s r → evLoop (runW_22 (noW o) lf) clW_22 lf s0 = some (Ex.exit 0, EW_22 t s r w c i g)) (hm : ∀ (H : Heap), evO (noW o) lf 17 29 [vs w] H = some (vb true, H, [])) :
    evO (noW o) lf 18 10 [vf t (pt 18), vs s] { n := 22, objs := r } = some (vf 67 (pt 22), { n := 23, objs := ob [vs w, vf t (pt 18)] 69 0 1 :: r }, []) :=
  Dg.evCall_hint (hs' := []) (hs := [qc 28 (vi c0) { n := 22, objs := r } [],
    qv 10 12 (vb false),
    Hint.loop 10 (Ex.exit 0) (EW_22 t s r w c i g),
    qc 29 (vb true) { n := 23, objs := ob (byteCells s) 5 5 1 :: r } []])
    [evO (noW o) lf 17 28 [vf t (pt 18)] { n := 22, objs := r } = some (vi c0, { n := 22, objs := r }, []),
    vb (decide (c0 ≥ (8 : Int))) = vb false,
    evLoop (runW_22 (noW o) lf) clW_22 lf { ts := [vf t (pt 18), vs s, undef, undef, Value.nilIface, undef, undef, vf t (pt 18), vb false, vb false, vf t (pt 18), vi c0, vb false, vb false, undef, vs s, sp 22 (ByteArray.size s) (ByteArray.size s), vi (↑(ByteArray.size s) : Int), vi 0, undef, undef, undef, undef, undef, undef, undef, undef, undef, undef, undef, undef, undef, undef, undef, undef, undef], H := { n := 23, objs := ob (byteCells s) 5 5 1 :: r }, log := [] } = some (Ex.exit 0, EW_22 t s r w c i g),
    evO (noW o) lf 17 29 [vs w] { n := 23, objs := ob (byteCells s) 5 5 1 :: r } = some (vb true, { n := 23, objs := ob (byteCells s) 5 5 1 :: r }, [])] (by kernel_rfl)
    ⟨hk, Dg.vfalse (by omega), hl _ (by kernel_rfl), hm _, trivial⟩
--> wrt_22
--< wrf_22
theorem wrf_22 (o : Ev) (lf : Nat) (t : TypeId) (s : ByteArray) (r : List AObj) (c0 : Int) (hk : evO (noW o) lf 17 28 [vf t (pt 18)] { n := 22, objs := r } = some (vi c0, { n := 22, objs := r }, [])) (h8 : c0 < 8) (w : ByteArray) (c : Value) (i : Int) (g : Nat → Value) (hl : ∀ (s0 : St), clW_22 s0 = Wa_22 t s r → evLoop (runW_22 (noW o) lf) clW_22 lf s0 = some (Ex.exit 0, EW_22 t s r w c i g)) (hm : ∀ (H : Heap), evO (noW o) lf 17 29 [vs w] H = some (vb false, H, [])) :
    evO (noW o) lf 18 10 [vf t (pt 18), vs s] { n := 22, objs := r } = some (vf 67 (pt 22), { n := 23, objs := ob [vs { data := #[63] }, vf t (pt 18)] 69 0 1 :: r }, []) :=
  Dg.evCall_hint (hs' := []) (hs := [qc 28 (vi c0) { n := 22, objs := r } [],
    qv 10 12 (vb false),
    Hint.loop 10 (Ex.exit 0) (EW_22 t s r w c i g),
    qc 29 (vb false) { n := 23, objs := ob (byteCells s) 5 5 1 :: r } []])
    [evO (noW o) lf 17 28 [vf t (pt 18)] { n := 22, objs := r } = some (vi c0, { n := 22, objs := r }, []),
    vb (decide (c0 ≥ (8 : Int))) = vb false,
    evLoop (runW_22 (noW o) lf) clW_22 lf { ts := [vf t (pt 18), vs s, undef, undef, Value.nilIface, undef, undef, vf t (pt 18), vb false, vb false, vf t (pt 18), vi c0, vb false, vb false, undef, vs s, sp 22 (ByteArray.size s) (ByteArray.size s), vi (↑(ByteArray.size s) : Int), vi 0, undef, undef, undef, undef, undef, undef, undef, undef, undef, undef, undef, undef, undef, undef, undef, undef, undef], H := { n := 23, objs := ob (byteCells s) 5 5 1 :: r }, log := [] } = some (Ex.exit 0, EW_22 t s r w c i g),
    evO (noW o) lf 17 29 [vs w] { n := 23, objs := ob (byteCells s) 5 5 1 :: r } = some (vb false, { n := 23, objs := ob (byteCells s) 5 5 1 :: r }, [])] (by kernel_rfl)
    ⟨hk, Dg.vfalse (by omega), hl _ (by kernel_rfl), hm _, trivial⟩
--> wrf_22
theorem wr_22 (o : Ev) (ho : MayOk (noW o)) (lf : Nat) (t : TypeId) (s : ByteArray) (r : List AObj) (c0 : Int) (hk : evO (noW o) lf 17 28 [.iface t (.pointer (some ⟨18, 0, none⟩))] ⟨22, r⟩ = some (.int .i64 c0, ⟨22, r⟩, [])) (h8 : c0 < 8) (hl : s.size < lf) (hsz : s.size ≤ 9223372036854775807) :
    evO (noW o) lf 18 10 [.iface t (.pointer (some ⟨18, 0, none⟩)), .string s] ⟨22, r⟩ = some (.iface 67 (.pointer (some ⟨22, 0, none⟩)), ⟨23, .cells [.string (wordOf s), .iface t (.pointer (some ⟨18, 0, none⟩))] 69 0 1 :: r⟩, []) := by
  have hlen : s.data.toList.length = s.size := by rw [← bs_size s.data.toList, bs_of]
  obtain ⟨w, c, i, g, h1, h2⟩ := loopW_22 (noW o) ho lf t s.data.toList r (by omega) (by omega)
  rw [bs_of] at h1 h2
  unfold wordOf
  rcases h2 with ⟨hA, rfl⟩ | ⟨hA, rfl⟩
  · cases hm : mayL w.data.toList with
    | true => exact wrt_22 o lf t w r c0 hk h8 w c i g h1 (may_call ho (m := 16) hm)
    | false => exact wrf_22 o lf t w r c0 hk h8 w c i g h1 (may_call ho (m := 16) hm)
  · have hm : mayL s.data.toList = false := by unfold mayL; rw [hA]; simp
    rw [hm]
    exact wrf_22 o lf t s r c0 hk h8 qm c i g h1 (may_call ho (m := 16) (by kernel_rfl))

/-! ### n objects: 23; the error's: 18. -/
noncomputable abbrev runW_23 (ov : Ev) (lf : Nat) : St → Option (Ex × St) := evCode Tryz.prog 15 (bodied Tryz.prog) (evO ov lf 17) 23 7 lf lW
noncomputable abbrev clW_23 : St → St := cleanSt 23 7 (ue lW [] []).1
def TW_23 (t : TypeId) (s w : ByteArray) (c : Value) (i : Int) : List Value := [.iface t (.pointer (some ⟨18, 0, none⟩)), .string w, undef, undef, .nilIface, undef, c] ++ (js 9 ++ ([.slice (some ⟨23, 0, some 0⟩) s.size s.size, .int .i64 s.size, .int .i64 i] ++ js 17))
def HW_23 (s : ByteArray) (r : List AObj) : Heap := ⟨24, .cells (byteCells s) 5 5 1 :: r⟩
def Wa_23 (t : TypeId) (s : ByteArray) (r : List AObj) : St := ⟨TW_23 t s s undef 0, HW_23 s r, []⟩
def Wb_23 (t : TypeId) (s : ByteArray) (r : List AObj) (i : Nat) (z : Int) : St := ⟨TW_23 t s s (.int .u8 z) (i : Int), HW_23 s r, []⟩
/-- The state behind the loop; what nothing reads any more is left open. -/
def EW_23 (t : TypeId) (s : ByteArray) (r : List AObj) (w : ByteArray) (c : Value) (i : Int) (g : Nat → Value) : St := ⟨[.iface t (.pointer (some ⟨18, 0, none⟩)), .string w, undef, undef, .nilIface, undef, c] ++ (js 9 ++ ([.slice (some ⟨23, 0, some 0⟩) s.size s.size, .int .i64 s.size, .int .i64 i] ++ [g 19, g 20, g 21, g 22, g 23, g 24, g 25, g 26, g 27, g 28, g 29, g 30, g 31, g 32, g 33, g 34, g 35])), HW_23 s r, []⟩
--< waA_23
theorem waA_23 (ov : Ev) (lf : Nat) (t : TypeId) (s : ByteArray) (r : List AObj) (z : Int) (hz : (byteCells s)[0]? = some (v8 z)) (hr : 0 ≤ z ∧ z < 256) (hi : 0 < ByteArray.size s) (hsz : ByteArray.size s ≤ 9223372036854775807) (hm : ∀ (H : Heap), evO ov lf 17 29 [vs (runeS z)] H = some (vb true, H, [])) :
    ∃ s', (runW_23 ov lf) (Wa_23 t s r) = some (Ex.normal, s') ∧ clW_23 s' = Wb_23 t s r 1 z :=
  Dg.code_round (f := 10) clW_23 (hs := [qv 10 19 (vb true),
    qs 10 20 (pt 23),
    qs 10 21 (v8 z),
    qv 10 23 (v32 z),
    qv 10 24 (vs (runeS z)),
    qc 29 (vb true) { n := 24, objs := ob (byteCells s) 5 5 1 :: r } []])
    [vb (decide ((0 : Int) < (↑(ByteArray.size s) : Int))) = vb true,
    (0 : Int) ≤ (0 : Int) ∧ (0 : Int) < (↑(ByteArray.size s) : Int),
    Value.pointer (some { block := (23 : Nat), off := (0 : Nat) }) = Value.pointer (some { block := (23 : Nat), off := (0 : Nat) }),
    (byteCells s)[(0 : Nat)]? = some (v8 z),
    v32 (IntKind.wrap IntKind.i32 z) = v32 z,
    vs (Utf8.encode z) = vs (runeS z),
    evO ov lf 17 29 [vs (runeS z)] { n := 24, objs := ob (byteCells s) 5 5 1 :: r } = some (vb true, { n := 24, objs := ob (byteCells s) 5 5 1 :: r }, [])] (by kernel_rfl)
    ⟨Dg.vtrue (by omega), by omega, rfl, hz, by simp only [Dg.w_u8, Dg.w_u16, Dg.w_u32, Dg.w_i8, Dg.w_i32, Value.int.injEq, true_and]; omega, rfl, hm _, trivial⟩
--> waA_23
--< waB_23
theorem waB_23 (ov : Ev) (lf : Nat) (t : TypeId) (s : ByteArray) (r : List AObj) (z : Int) (hz : (byteCells s)[0]? = some (v8 z)) (hr : 0 ≤ z ∧ z < 256) (hi : 0 < ByteArray.size s) (hsz : ByteArray.size s ≤ 9223372036854775807) (hm : ∀ (H : Heap), evO ov lf 17 29 [vs (runeS z)] H = some (vb false, H, [])) :
    (runW_23 ov lf) (Wa_23 t s r) = some (Ex.exit 0, ({ ts := [vf t (pt 18), vs { data := #[63] }, undef, undef, Value.nilIface, undef, v8 z, junk, junk, junk, junk, junk, junk, junk, junk, junk, sp 23 (ByteArray.size s) (ByteArray.size s), vi (↑(ByteArray.size s) : Int), vi 0, vb true, pt 23, v8 z, v8 z, v32 z, vs (runeS z), vb false, vb true, junk, junk, junk, junk, junk, junk, junk, junk, junk], H := { n := 24, objs := ob (byteCells s) 5 5 1 :: r }, log := [] } : St)) :=
  Dg.evCode_hint (f := 10) (hs' := []) (hs := [qv 10 19 (vb true),
    qs 10 20 (pt 23),
    qs 10 21 (v8 z),
    qv 10 23 (v32 z),
    qv 10 24 (vs (runeS z)),
    qc 29 (vb false) { n := 24, objs := ob (byteCells s) 5 5 1 :: r } []])
    [vb (decide ((0 : Int) < (↑(ByteArray.size s) : Int))) = vb true,
    (0 : Int) ≤ (0 : Int) ∧ (0 : Int) < (↑(ByteArray.size s) : Int),
    Value.pointer (some { block := (23 : Nat), off := (0 : Nat) }) = Value.pointer (some { block := (23 : Nat), off := (0 : Nat) }),
    (byteCells s)[(0 : Nat)]? = some (v8 z),
    v32 (IntKind.wrap IntKind.i32 z) = v32 z,
    vs (Utf8.encode z) = vs (runeS z),
    evO ov lf 17 29 [vs (runeS z)] { n := 24, objs := ob (byteCells s) 5 5 1 :: r } = some (vb false, { n := 24, objs := ob (byteCells s) 5 5 1 :: r }, [])] (by kernel_rfl)
    ⟨Dg.vtrue (by omega), by omega, rfl, hz, by simp only [Dg.w_u8, Dg.w_u16, Dg.w_u32, Dg.w_i8, Dg.w_i32, Value.int.injEq, true_and]; omega, rfl, hm _, trivial⟩
--> waB_23
--< wbA_23
theorem wbA_23 (ov : Ev) (lf : Nat) (t : TypeId) (s : ByteArray) (r : List AObj) (i : Nat) (z0 : Int) (z : Int) (hz : (byteCells s)[i + 1]? = some (v8 z)) (hr : 0 ≤ z ∧ z < 256) (hi : i + 1 < ByteArray.size s) (hsz : ByteArray.size s ≤ 9223372036854775807) (hm : ∀ (H : Heap), evO ov lf 17 29 [vs (runeS z)] H = some (vb true, H, [])) :
    ∃ s', (runW_23 ov lf) (Wb_23 t s r (i + 1) z0) = some (Ex.normal, s') ∧ clW_23 s' = Wb_23 t s r (i + 1 + 1) z :=
  Dg.code_round (f := 10) clW_23 (hs := [qv 10 19 (vb true),
    qs 10 20 (po 23 (i + 1)),
    qs 10 21 (v8 z),
    qv 10 23 (v32 z),
    qv 10 24 (vs (runeS z)),
    qc 29 (vb true) { n := 24, objs := ob (byteCells s) 5 5 1 :: r } [],
    qv 10 27 (vi ((↑(i + 1) : Int) + 1))])
    [vb (decide ((↑(i + (1 : Nat)) : Int) < (↑(ByteArray.size s) : Int))) = vb true,
    (0 : Int) ≤ (↑(i + (1 : Nat)) : Int) ∧ (↑(i + (1 : Nat)) : Int) < (↑(ByteArray.size s) : Int),
    Value.pointer (some { block := (23 : Nat), off := (0 : Nat) + Int.toNat (↑(i + (1 : Nat)) : Int) * (1 : Nat) }) = Value.pointer (some { block := (23 : Nat), off := i + (1 : Nat) }),
    (byteCells s)[i + (1 : Nat)]? = some (v8 z),
    v32 (IntKind.wrap IntKind.i32 z) = v32 z,
    vs (Utf8.encode z) = vs (runeS z),
    evO ov lf 17 29 [vs (runeS z)] { n := 24, objs := ob (byteCells s) 5 5 1 :: r } = some (vb true, { n := 24, objs := ob (byteCells s) 5 5 1 :: r }, []),
    vi (IntKind.wrap IntKind.i64 ((↑(i + (1 : Nat)) : Int) + (1 : Int))) = vi ((↑(i + (1 : Nat)) : Int) + (1 : Int))] (by kernel_rfl)
    ⟨Dg.vtrue (by omega), by omega, Dg.ptr_eq (by omega), hz, by simp only [Dg.w_u8, Dg.w_u16, Dg.w_u32, Dg.w_i8, Dg.w_i32, Value.int.injEq, true_and]; omega, rfl, hm _, Dg.i64_eq rfl (by omega) (by omega), trivial⟩
--> wbA_23
--< wbB_23
theorem wbB_23 (ov : Ev) (lf : Nat) (t : TypeId) (s : ByteArray) (r : List AObj) (i : Nat) (z0 : Int) (z : Int) (hz : (byteCells s)[i + 1]? = some (v8 z)) (hr : 0 ≤ z ∧ z < 256) (hi : i + 1 < ByteArray.size s) (hsz : ByteArray.size s ≤ 9223372036854775807) (hm : ∀ (H : Heap), evO ov lf 17 29 [vs (runeS z)] H = some (vb false, H, [])) :
    (runW_23 ov lf) (Wb_23 t s r (i + 1) z0) = some (Ex.exit 0, ({ ts := [vf t (pt 18), vs { data := #[63] }, undef, undef, Value.nilIface, undef, v8 z, junk, junk, junk, junk, junk, junk, junk, junk, junk, sp 23 (ByteArray.size s) (ByteArray.size s), vi (↑(ByteArray.size s) : Int), vi (↑(i + 1) : Int), vb true, po 23 (i + 1), v8 z, v8 z, v32 z, vs (runeS z), vb false, vb true, junk, junk, junk, junk, junk, junk, junk, junk, junk], H := { n := 24, objs := ob (byteCells s) 5 5 1 :: r }, log := [] } : St)) :=
  Dg.evCode_hint (f := 10) (hs' := []) (hs := [qv 10 19 (vb true),
    qs 10 20 (po 23 (i + 1)),
    qs 10 21 (v8 z),
    qv 10 23 (v32 z),
    qv 10 24 (vs (runeS z)),
    qc 29 (vb false) { n := 24, objs := ob (byteCells s) 5 5 1 :: r } []])
    [vb (decide ((↑(i + (1 : Nat)) : Int) < (↑(ByteArray.size s) : Int))) = vb true,
    (0 : Int) ≤ (↑(i + (1 : Nat)) : Int) ∧ (↑(i + (1 : Nat)) : Int) < (↑(ByteArray.size s) : Int),
    Value.pointer (some { block := (23 : Nat), off := (0 : Nat) + Int.toNat (↑(i + (1 : Nat)) : Int) * (1 : Nat) }) = Value.pointer (some { block := (23 : Nat), off := i + (1 : Nat) }),
    (byteCells s)[i + (1 : Nat)]? = some (v8 z),
    v32 (IntKind.wrap IntKind.i32 z) = v32 z,
    vs (Utf8.encode z) = vs (runeS z),
    evO ov lf 17 29 [vs (runeS z)] { n := 24, objs := ob (byteCells s) 5 5 1 :: r } = some (vb false, { n := 24, objs := ob (byteCells s) 5 5 1 :: r }, [])] (by kernel_rfl)
    ⟨Dg.vtrue (by omega), by omega, Dg.ptr_eq (by omega), hz, by simp only [Dg.w_u8, Dg.w_u16, Dg.w_u32, Dg.w_i8, Dg.w_i32, Value.int.injEq, true_and]; omega, rfl, hm _, trivial⟩
--> wbB_23
--< waC_23
theorem waC_23 (ov : Ev) (lf : Nat) (t : TypeId) (s : ByteArray) (r : List AObj) (h0 : ByteArray.size s = 0) :
    (runW_23 ov lf) (Wa_23 t s r) = some (Ex.exit 0, ({ ts := [vf t (pt 18), vs s, undef, undef, Value.nilIface, undef, undef, junk, junk, junk, junk, junk, junk, junk, junk, junk, sp 23 (ByteArray.size s) (ByteArray.size s), vi (↑(ByteArray.size s) : Int), vi 0, vb false, junk, junk, junk, junk, junk, junk, junk, junk, junk, junk, junk, junk, junk, junk, junk, junk], H := { n := 24, objs := ob (byteCells s) 5 5 1 :: r }, log := [] } : St)) :=
  Dg.evCode_hint (f := 10) (hs' := []) (hs := [qv 10 19 (vb false)])
    [vb (decide ((0 : Int) < (↑(ByteArray.size s) : Int))) = vb false] (by kernel_rfl)
    ⟨Dg.vfalse (by omega), trivial⟩
--> waC_23
--< wbC_23
theorem wbC_23 (ov : Ev) (lf : Nat) (t : TypeId) (s : ByteArray) (r : List AObj) (i : Nat) (z0 : Int) (h0 : ByteArray.size s = i) :
    (runW_23 ov lf) (Wb_23 t s r i z0) = some (Ex.exit 0, ({ ts := [vf t (pt 18), vs s, undef, undef, Value.nilIface, undef, v8 z0, junk, junk, junk, junk, junk, junk, junk, junk, junk, sp 23 (ByteArray.size s) (ByteArray.size s), vi (↑(ByteArray.size s) : Int), vi (↑i : Int), vb false, junk, junk, junk, junk, junk, junk, junk, junk, junk, junk, junk, junk, junk, junk, junk, junk], H := { n := 24, objs := ob (byteCells s) 5 5 1 :: r }, log := [] } : St)) :=
  Dg.evCode_hint (f := 10) (hs' := []) (hs := [qv 10 19 (vb false)])
    [vb (decide ((↑i : Int) < (↑(ByteArray.size s) : Int))) = vb false] (by kernel_rfl)
    ⟨Dg.vfalse (by omega), trivial⟩
--> wbC_23
/-- The loop: a sign that may not be makes the word strange. -/
theorem loopW_23 (ov : Ev) (ho : MayOk ov) (lf : Nat) (t : TypeId) (l : List UInt8) (r : List AObj) (hl : l.length < lf) (hsz : l.length ≤ 9223372036854775807) :
    ∃ w c i g, (∀ s0, clW_23 s0 = Wa_23 t (bs l) r → evLoop (runW_23 ov lf) clW_23 lf s0 = some (.exit 0, EW_23 t (bs l) r w c i g)) ∧ (allIn l = true ∧ w = bs l ∨ allIn l = false ∧ w = qm) := by
  have hs : (bs l).size = l.length := bs_size l
  have step : ∀ j (hj : j < l.length) (b : Bool), inB l[j].toNat = b → ∀ H, evO ov lf 17 29 [.string (runeS ((l[j].toNat : Nat) : Int))] H = some (.bool b, H, []) := fun j hj b hb H => by
    refine may_call ho (m := 16) ?_ H
    show oMayS _ = b
    rw [may_rune (l[j].toNat_lt), hb]
  refine loopW_gen (Wb := Wb_23 t (bs l) r) (EW := EW_23 t (bs l) r) hl (fun h => ?_) (fun h hb => ?_) (fun h hb => ?_) (fun i z0 h hb => ?_) (fun i z0 h hb => ?_) (fun i z0 h => ?_)
  · exact ⟨undef, 0, gOf [.bool false], waC_23 ov lf t (bs l) r (by rw [h]; rfl)⟩
  · exact waA_23 ov lf t (bs l) r _ (bc_get _ _ h) (z_rng _) (by rw [hs]; exact h) (by rw [hs]; exact hsz) (step 0 h true hb)
  · exact ⟨.int .u8 ((l[0].toNat : Nat) : Int), 0, gOf (gW 23 0 ((l[0].toNat : Nat) : Int)), waB_23 ov lf t (bs l) r _ (bc_get _ _ h) (z_rng _) (by rw [hs]; exact h) (by rw [hs]; exact hsz) (step 0 h false hb)⟩
  · exact wbA_23 ov lf t (bs l) r i z0 _ (bc_get _ _ h) (z_rng _) (by rw [hs]; exact h) (by rw [hs]; exact hsz) (step (i + 1) h true hb)
  · exact ⟨.int .u8 ((l[i + 1].toNat : Nat) : Int), ((i + 1 : Nat) : Int), gOf (gW 23 (i + 1) ((l[i + 1].toNat : Nat) : Int)), wbB_23 ov lf t (bs l) r i z0 _ (bc_get _ _ h) (z_rng _) (by rw [hs]; exact h) (by rw [hs]; exact hsz) (step (i + 1) h false hb)⟩
  · exact ⟨.int .u8 z0, ((i + 1 : Nat) : Int), gOf [.bool false], wbC_23 ov lf t (bs l) r (i + 1) z0 (by rw [hs]; exact h)⟩
--< wrt_23
theorem wrt_23 (o : Ev) (lf : Nat) (t : TypeId) (s : ByteArray) (r : List AObj) (c0 : Int) (hk : evO (noW o) lf 17 28 [vf t (pt 18)] { n := 23, objs := r } = some (vi c0, { n := 23, objs := r }, [])) (h8 : c0 < 8) (w : ByteArray) (c : Value) (i : Int) (g : Nat → Value) (hl : ∀ (s0 : St), clW_23 s0 = Wa_23 t s r → evLoop (runW_23 (noW o) lf) clW_23 lf s0 = some (Ex.exit 0, EW_23 t s r w c i g)) (hm : ∀ (H : Heap), evO (noW o) lf 17 29 [vs w] H = some (vb true, H, [])) :
    evO (noW o) lf 18 10 [vf t (pt 18), vs s] { n := 23, objs := r } = some (vf 67 (pt 23), { n := 24, objs := ob [vs w, vf t (pt 18)] 69 0 1 :: r }, []) :=
  Dg.evCall_hint (hs' := []) (hs := [qc 28 (vi c0) { n := 23, objs := r } [],
    qv 10 12 (vb false),
    Hint.loop 10 (Ex.exit 0) (EW_23 t s r w c i g),
    qc 29 (vb true) { n := 24, objs := ob (byteCells s) 5 5 1 :: r } []])
    [evO (noW o) lf 17 28 [vf t (pt 18)] { n := 23, objs := r } = some (vi c0, { n := 23, objs := r }, []),
    vb (decide (c0 ≥ (8 : Int))) = vb false,
    evLoop (runW_23 (noW o) lf) clW_23 lf { ts := [vf t (pt 18), vs s, undef, undef, Value.nilIface, undef, undef, vf t (pt 18), vb false, vb false, vf t (pt 18), vi c0, vb false, vb false, undef, vs s, sp 23 (ByteArray.size s) (ByteArray.size s), vi (↑(ByteArray.size s) : Int), vi 0, undef, undef, undef, undef, undef, undef, undef, undef, undef, undef, undef, undef, undef, undef, undef, undef, undef], H := { n := 24, objs := ob (byteCells s) 5 5 1 :: r }, log := [] } = some (Ex.exit 0, EW_23 t s r w c i g),
    evO (noW o) lf 17 29 [vs w] { n := 24, objs := ob (byteCells s) 5 5 1 :: r } = some (vb true, { n := 24, objs := ob (byteCells s) 5 5 1 :: r }, [])] (by kernel_rfl)
    ⟨hk, Dg.vfalse (by omega), hl _ (by kernel_rfl), hm _, trivial⟩
--> wrt_23
--< wrf_23
theorem wrf_23 (o : Ev) (lf : Nat) (t : TypeId) (s : ByteArray) (r : List AObj) (c0 : Int) (hk : evO (noW o) lf 17 28 [vf t (pt 18)] { n := 23, objs := r } = some (vi c0, { n := 23, objs := r }, [])) (h8 : c0 < 8) (w : ByteArray) (c : Value) (i : Int) (g : Nat → Value) (hl : ∀ (s0 : St), clW_23 s0 = Wa_23 t s r → evLoop (runW_23 (noW o) lf) clW_23 lf s0 = some (Ex.exit 0, EW_23 t s r w c i g)) (hm : ∀ (H : Heap), evO (noW o) lf 17 29 [vs w] H = some (vb false, H, [])) :
    evO (noW o) lf 18 10 [vf t (pt 18), vs s] { n := 23, objs := r } = some (vf 67 (pt 23), { n := 24, objs := ob [vs { data := #[63] }, vf t (pt 18)] 69 0 1 :: r }, []) :=
  Dg.evCall_hint (hs' := []) (hs := [qc 28 (vi c0) { n := 23, objs := r } [],
    qv 10 12 (vb false),
    Hint.loop 10 (Ex.exit 0) (EW_23 t s r w c i g),
    qc 29 (vb false) { n := 24, objs := ob (byteCells s) 5 5 1 :: r } []])
    [evO (noW o) lf 17 28 [vf t (pt 18)] { n := 23, objs := r } = some (vi c0, { n := 23, objs := r }, []),
    vb (decide (c0 ≥ (8 : Int))) = vb false,
    evLoop (runW_23 (noW o) lf) clW_23 lf { ts := [vf t (pt 18), vs s, undef, undef, Value.nilIface, undef, undef, vf t (pt 18), vb false, vb false, vf t (pt 18), vi c0, vb false, vb false, undef, vs s, sp 23 (ByteArray.size s) (ByteArray.size s), vi (↑(ByteArray.size s) : Int), vi 0, undef, undef, undef, undef, undef, undef, undef, undef, undef, undef, undef, undef, undef, undef, undef, undef, undef], H := { n := 24, objs := ob (byteCells s) 5 5 1 :: r }, log := [] } = some (Ex.exit 0, EW_23 t s r w c i g),
    evO (noW o) lf 17 29 [vs w] { n := 24, objs := ob (byteCells s) 5 5 1 :: r } = some (vb false, { n := 24, objs := ob (byteCells s) 5 5 1 :: r }, [])] (by kernel_rfl)
    ⟨hk, Dg.vfalse (by omega), hl _ (by kernel_rfl), hm _, trivial⟩
--> wrf_23
theorem wr_23 (o : Ev) (ho : MayOk (noW o)) (lf : Nat) (t : TypeId) (s : ByteArray) (r : List AObj) (c0 : Int) (hk : evO (noW o) lf 17 28 [.iface t (.pointer (some ⟨18, 0, none⟩))] ⟨23, r⟩ = some (.int .i64 c0, ⟨23, r⟩, [])) (h8 : c0 < 8) (hl : s.size < lf) (hsz : s.size ≤ 9223372036854775807) :
    evO (noW o) lf 18 10 [.iface t (.pointer (some ⟨18, 0, none⟩)), .string s] ⟨23, r⟩ = some (.iface 67 (.pointer (some ⟨23, 0, none⟩)), ⟨24, .cells [.string (wordOf s), .iface t (.pointer (some ⟨18, 0, none⟩))] 69 0 1 :: r⟩, []) := by
  have hlen : s.data.toList.length = s.size := by rw [← bs_size s.data.toList, bs_of]
  obtain ⟨w, c, i, g, h1, h2⟩ := loopW_23 (noW o) ho lf t s.data.toList r (by omega) (by omega)
  rw [bs_of] at h1 h2
  unfold wordOf
  rcases h2 with ⟨hA, rfl⟩ | ⟨hA, rfl⟩
  · cases hm : mayL w.data.toList with
    | true => exact wrt_23 o lf t w r c0 hk h8 w c i g h1 (may_call ho (m := 16) hm)
    | false => exact wrf_23 o lf t w r c0 hk h8 w c i g h1 (may_call ho (m := 16) hm)
  · have hm : mayL s.data.toList = false := by unfold mayL; rw [hA]; simp
    rw [hm]
    exact wrf_23 o lf t s r c0 hk h8 qm c i g h1 (may_call ho (m := 16) (by kernel_rfl))

/-! ### n objects: 24; the error's: 18. -/
noncomputable abbrev runW_24 (ov : Ev) (lf : Nat) : St → Option (Ex × St) := evCode Tryz.prog 15 (bodied Tryz.prog) (evO ov lf 17) 24 7 lf lW
noncomputable abbrev clW_24 : St → St := cleanSt 24 7 (ue lW [] []).1
def TW_24 (t : TypeId) (s w : ByteArray) (c : Value) (i : Int) : List Value := [.iface t (.pointer (some ⟨18, 0, none⟩)), .string w, undef, undef, .nilIface, undef, c] ++ (js 9 ++ ([.slice (some ⟨24, 0, some 0⟩) s.size s.size, .int .i64 s.size, .int .i64 i] ++ js 17))
def HW_24 (s : ByteArray) (r : List AObj) : Heap := ⟨25, .cells (byteCells s) 5 5 1 :: r⟩
def Wa_24 (t : TypeId) (s : ByteArray) (r : List AObj) : St := ⟨TW_24 t s s undef 0, HW_24 s r, []⟩
def Wb_24 (t : TypeId) (s : ByteArray) (r : List AObj) (i : Nat) (z : Int) : St := ⟨TW_24 t s s (.int .u8 z) (i : Int), HW_24 s r, []⟩
/-- The state behind the loop; what nothing reads any more is left open. -/
def EW_24 (t : TypeId) (s : ByteArray) (r : List AObj) (w : ByteArray) (c : Value) (i : Int) (g : Nat → Value) : St := ⟨[.iface t (.pointer (some ⟨18, 0, none⟩)), .string w, undef, undef, .nilIface, undef, c] ++ (js 9 ++ ([.slice (some ⟨24, 0, some 0⟩) s.size s.size, .int .i64 s.size, .int .i64 i] ++ [g 19, g 20, g 21, g 22, g 23, g 24, g 25, g 26, g 27, g 28, g 29, g 30, g 31, g 32, g 33, g 34, g 35])), HW_24 s r, []⟩
--< waA_24
theorem waA_24 (ov : Ev) (lf : Nat) (t : TypeId) (s : ByteArray) (r : List AObj) (z : Int) (hz : (byteCells s)[0]? = some (v8 z)) (hr : 0 ≤ z ∧ z < 256) (hi : 0 < ByteArray.size s) (hsz : ByteArray.size s ≤ 9223372036854775807) (hm : ∀ (H : Heap), evO ov lf 17 29 [vs (runeS z)] H = some (vb true, H, [])) :
    ∃ s', (runW_24 ov lf) (Wa_24 t s r) = some (Ex.normal, s') ∧ clW_24 s' = Wb_24 t s r 1 z :=
  Dg.code_round (f := 10) clW_24 (hs := [qv 10 19 (vb true),
    qs 10 20 (pt 24),
    qs 10 21 (v8 z),
    qv 10 23 (v32 z),
    qv 10 24 (vs (runeS z)),
    qc 29 (vb true) { n := 25, objs := ob (byteCells s) 5 5 1 :: r } []])
    [vb (decide ((0 : Int) < (↑(ByteArray.size s) : Int))) = vb true,
    (0 : Int) ≤ (0 : Int) ∧ (0 : Int) < (↑(ByteArray.size s) : Int),
    Value.pointer (some { block := (24 : Nat), off := (0 : Nat) }) = Value.pointer (some { block := (24 : Nat), off := (0 : Nat) }),
    (byteCells s)[(0 : Nat)]? = some (v8 z),
    v32 (IntKind.wrap IntKind.i32 z) = v32 z,
    vs (Utf8.encode z) = vs (runeS z),
    evO ov lf 17 29 [vs (runeS z)] { n := 25, objs := ob (byteCells s) 5 5 1 :: r } = some (vb true, { n := 25, objs := ob (byteCells s) 5 5 1 :: r }, [])] (by kernel_rfl)
    ⟨Dg.vtrue (by omega), by omega, rfl, hz, by simp only [Dg.w_u8, Dg.w_u16, Dg.w_u32, Dg.w_i8, Dg.w_i32, Value.int.injEq, true_and]; omega, rfl, hm _, trivial⟩
--> waA_24
--< waB_24
theorem waB_24 (ov : Ev) (lf : Nat) (t : TypeId) (s : ByteArray) (r : List AObj) (z : Int) (hz : (byteCells s)[0]? = some (v8 z)) (hr : 0 ≤ z ∧ z < 256) (hi : 0 < ByteArray.size s) (hsz : ByteArray.size s ≤ 9223372036854775807) (hm : ∀ (H : Heap), evO ov lf 17 29 [vs (runeS z)] H = some (vb false, H, [])) :
    (runW_24 ov lf) (Wa_24 t s r) = some (Ex.exit 0, ({ ts := [vf t (pt 18), vs { data := #[63] }, undef, undef, Value.nilIface, undef, v8 z, junk, junk, junk, junk, junk, junk, junk, junk, junk, sp 24 (ByteArray.size s) (ByteArray.size s), vi (↑(ByteArray.size s) : Int), vi 0, vb true, pt 24, v8 z, v8 z, v32 z, vs (runeS z), vb false, vb true, junk, junk, junk, junk, junk, junk, junk, junk, junk], H := { n := 25, objs := ob (byteCells s) 5 5 1 :: r }, log := [] } : St)) :=
  Dg.evCode_hint (f := 10) (hs' := []) (hs := [qv 10 19 (vb true),
    qs 10 20 (pt 24),
    qs 10 21 (v8 z),
    qv 10 23 (v32 z),
    qv 10 24 (vs (runeS z)),
    qc 29 (vb false) { n := 25, objs := ob (byteCells s) 5 5 1 :: r } []])
    [vb (decide ((0 : Int) < (↑(ByteArray.size s) : Int))) = vb true,
    (0 : Int) ≤ (0 : Int) ∧ (0 : Int) < (↑(ByteArray.size s) : Int),
    Value.pointer (some { block := (24 : Nat), off := (0 : Nat) }) = Value.pointer (some { block := (24 : Nat), off := (0 : Nat) }),
    (byteCells s)[(0 : Nat)]? = some (v8 z),
    v32 (IntKind.wrap IntKind.i32 z) = v32 z,
    vs (Utf8.encode z) = vs (runeS z),
    evO ov lf 17 29 [vs (runeS z)] { n := 25, objs := ob (byteCells s) 5 5 1 :: r } = some (vb false, { n := 25, objs := ob (byteCells s) 5 5 1 :: r }, [])] (by kernel_rfl)
    ⟨Dg.vtrue (by omega), by omega, rfl, hz, by simp only [Dg.w_u8, Dg.w_u16, Dg.w_u32, Dg.w_i8, Dg.w_i32, Value.int.injEq, true_and]; omega, rfl, hm _, trivial⟩
--> waB_24
--< wbA_24
theorem wbA_24 (ov : Ev) (lf : Nat) (t : TypeId) (s : ByteArray) (r : List AObj) (i : Nat) (z0 : Int) (z : Int) (hz : (byteCells s)[i + 1]? = some (v8 z)) (hr : 0 ≤ z ∧ z < 256) (hi : i + 1 < ByteArray.size s) (hsz : ByteArray.size s ≤ 9223372036854775807) (hm : ∀ (H : Heap), evO ov lf 17 29 [vs (runeS z)] H = some (vb true, H, [])) :
    ∃ s', (runW_24 ov lf) (Wb_24 t s r (i + 1) z0) = some (Ex.normal, s') ∧ clW_24 s' = Wb_24 t s r (i + 1 + 1) z :=
  Dg.code_round (f := 10) clW_24 (hs := [qv 10 19 (vb true),
    qs 10 20 (po 24 (i + 1)),
    qs 10 21 (v8 z),
    qv 10 23 (v32 z),
    qv 10 24 (vs (runeS z)),
    qc 29 (vb true) { n := 25, objs := ob (byteCells s) 5 5 1 :: r } [],
    qv 10 27 (vi ((↑(i + 1) : Int) + 1))])
    [vb (decide ((↑(i + (1 : Nat)) : Int) < (↑(ByteArray.size s) : Int))) = vb true,
    (0 : Int) ≤ (↑(i + (1 : Nat)) : Int) ∧ (↑(i + (1 : Nat)) : Int) < (↑(ByteArray.size s) : Int),
    Value.pointer (some { block := (24 : Nat), off := (0 : Nat) + Int.toNat (↑(i + (1 : Nat)) : Int) * (1 : Nat) }) = Value.pointer (some { block := (24 : Nat), off := i + (1 : Nat) }),
    (byteCells s)[i + (1 : Nat)]? = some (v8 z),
    v32 (IntKind.wrap IntKind.i32 z) = v32 z,
    vs (Utf8.encode z) = vs (runeS z),
    evO ov lf 17 29 [vs (runeS z)] { n := 25, objs := ob (byteCells s) 5 5 1 :: r } = some (vb true, { n := 25, objs := ob (byteCells s) 5 5 1 :: r }, []),
    vi (IntKind.wrap IntKind.i64 ((↑(i + (1 : Nat)) : Int) + (1 : Int))) = vi ((↑(i + (1 : Nat)) : Int) + (1 : Int))] (by kernel_rfl)
    ⟨Dg.vtrue (by omega), by omega, Dg.ptr_eq (by omega), hz, by simp only [Dg.w_u8, Dg.w_u16, Dg.w_u32, Dg.w_i8, Dg.w_i32, Value.int.injEq, true_and]; omega, rfl, hm _, Dg.i64_eq rfl (by omega) (by omega), trivial⟩
--> wbA_24
--< wbB_24
theorem wbB_24 (ov : Ev) (lf : Nat) (t : TypeId) (s : ByteArray) (r : List AObj) (i : Nat) (z0 : Int) (z : Int) (hz : (byteCells s)[i + 1]? = some (v8 z)) (hr : 0 ≤ z ∧ z < 256) (hi : i + 1 < ByteArray.size s) (hsz : ByteArray.size s ≤ 9223372036854775807) (hm : ∀ (H : Heap), evO ov lf 17 29 [vs (runeS z)] H = some (vb false, H, [])) :
    (runW_24 ov lf) (Wb_24 t s r (i + 1) z0) = some (Ex.exit 0, ({ ts := [vf t (pt 18), vs { data := #[63] }, undef, undef, Value.nilIface, undef, v8 z, junk, junk, junk, junk, junk, junk, junk, junk, junk, sp 24 (ByteArray.size s) (ByteArray.size s), vi (↑(ByteArray.size s) : Int), vi (↑(i + 1) : Int), vb true, po 24 (i + 1), v8 z, v8 z, v32 z, vs (runeS z), vb false, vb true, junk, junk, junk, junk, junk, junk, junk, junk, junk], H := { n := 25, objs := ob (byteCells s) 5 5 1 :: r }, log := [] } : St)) :=
  Dg.evCode_hint (f := 10) (hs' := []) (hs := [qv 10 19 (vb true),
    qs 10 20 (po 24 (i + 1)),
    qs 10 21 (v8 z),
    qv 10 23 (v32 z),
    qv 10 24 (vs (runeS z)),
    qc 29 (vb false) { n := 25, objs := ob (byteCells s) 5 5 1 :: r } []])
    [vb (decide ((↑(i + (1 : Nat)) : Int) < (↑(ByteArray.size s) : Int))) = vb true,
    (0 : Int) ≤ (↑(i + (1 : Nat)) : Int) ∧ (↑(i + (1 : Nat)) : Int) < (↑(ByteArray.size s) : Int),
    Value.pointer (some { block := (24 : Nat), off := (0 : Nat) + Int.toNat (↑(i + (1 : Nat)) : Int) * (1 : Nat) }) = Value.pointer (some { block := (24 : Nat), off := i + (1 : Nat) }),
    (byteCells s)[i + (1 : Nat)]? = some (v8 z),
    v32 (IntKind.wrap IntKind.i32 z) = v32 z,
    vs (Utf8.encode z) = vs (runeS z),
    evO ov lf 17 29 [vs (runeS z)] { n := 25, objs := ob (byteCells s) 5 5 1 :: r } = some (vb false, { n := 25, objs := ob (byteCells s) 5 5 1 :: r }, [])] (by kernel_rfl)
    ⟨Dg.vtrue (by omega), by omega, Dg.ptr_eq (by omega), hz, by simp only [Dg.w_u8, Dg.w_u16, Dg.w_u32, Dg.w_i8, Dg.w_i32, Value.int.injEq, true_and]; omega, rfl, hm _, trivial⟩
--> wbB_24
--< waC_24
theorem waC_24 (ov : Ev) (lf : Nat) (t : TypeId) (s : ByteArray) (r : List AObj) (h0 : ByteArray.size s = 0) :
    (runW_24 ov lf) (Wa_24 t s r) = some (Ex.exit 0, ({ ts := [vf t (pt 18), vs s, undef, undef, Value.nilIface, undef, undef, junk, junk, junk, junk, junk, junk, junk, junk, junk, sp 24 (ByteArray.size s) (ByteArray.size s), vi (↑(ByteArray.size s) : Int), vi 0, vb false, junk, junk, junk, junk, junk, junk, junk, junk, junk, junk, junk, junk, junk, junk, junk, junk], H := { n := 25, objs := ob (byteCells s) 5 5 1 :: r }, log := [] } : St)) :=
  Dg.evCode_hint (f := 10) (hs' := []) (hs := [qv 10 19 (vb false)])
    [vb (decide ((0 : Int) < (↑(ByteArray.size s) : Int))) = vb false] (by kernel_rfl)
    ⟨Dg.vfalse (by omega), trivial⟩
--> waC_24
--< wbC_24
theorem wbC_24 (ov : Ev) (lf : Nat) (t : TypeId) (s : ByteArray) (r : List AObj) (i : Nat) (z0 : Int) (h0 : ByteArray.size s = i) :
    (runW_24 ov lf) (Wb_24 t s r i z0) = some (Ex.exit 0, ({ ts := [vf t (pt 18), vs s, undef, undef, Value.nilIface, undef, v8 z0, junk, junk, junk, junk, junk, junk, junk, junk, junk, sp 24 (ByteArray.size s) (ByteArray.size s), vi (↑(ByteArray.size s) : Int), vi (↑i : Int), vb false, junk, junk, junk, junk, junk, junk, junk, junk, junk, junk, junk, junk, junk, junk, junk, junk], H := { n := 25, objs := ob (byteCells s) 5 5 1 :: r }, log := [] } : St)) :=
  Dg.evCode_hint (f := 10) (hs' := []) (hs := [qv 10 19 (vb false)])
    [vb (decide ((↑i : Int) < (↑(ByteArray.size s) : Int))) = vb false] (by kernel_rfl)
    ⟨Dg.vfalse (by omega), trivial⟩
--> wbC_24
/-- The loop: a sign that may not be makes the word strange. -/
theorem loopW_24 (ov : Ev) (ho : MayOk ov) (lf : Nat) (t : TypeId) (l : List UInt8) (r : List AObj) (hl : l.length < lf) (hsz : l.length ≤ 9223372036854775807) :
    ∃ w c i g, (∀ s0, clW_24 s0 = Wa_24 t (bs l) r → evLoop (runW_24 ov lf) clW_24 lf s0 = some (.exit 0, EW_24 t (bs l) r w c i g)) ∧ (allIn l = true ∧ w = bs l ∨ allIn l = false ∧ w = qm) := by
  have hs : (bs l).size = l.length := bs_size l
  have step : ∀ j (hj : j < l.length) (b : Bool), inB l[j].toNat = b → ∀ H, evO ov lf 17 29 [.string (runeS ((l[j].toNat : Nat) : Int))] H = some (.bool b, H, []) := fun j hj b hb H => by
    refine may_call ho (m := 16) ?_ H
    show oMayS _ = b
    rw [may_rune (l[j].toNat_lt), hb]
  refine loopW_gen (Wb := Wb_24 t (bs l) r) (EW := EW_24 t (bs l) r) hl (fun h => ?_) (fun h hb => ?_) (fun h hb => ?_) (fun i z0 h hb => ?_) (fun i z0 h hb => ?_) (fun i z0 h => ?_)
  · exact ⟨undef, 0, gOf [.bool false], waC_24 ov lf t (bs l) r (by rw [h]; rfl)⟩
  · exact waA_24 ov lf t (bs l) r _ (bc_get _ _ h) (z_rng _) (by rw [hs]; exact h) (by rw [hs]; exact hsz) (step 0 h true hb)
  · exact ⟨.int .u8 ((l[0].toNat : Nat) : Int), 0, gOf (gW 24 0 ((l[0].toNat : Nat) : Int)), waB_24 ov lf t (bs l) r _ (bc_get _ _ h) (z_rng _) (by rw [hs]; exact h) (by rw [hs]; exact hsz) (step 0 h false hb)⟩
  · exact wbA_24 ov lf t (bs l) r i z0 _ (bc_get _ _ h) (z_rng _) (by rw [hs]; exact h) (by rw [hs]; exact hsz) (step (i + 1) h true hb)
  · exact ⟨.int .u8 ((l[i + 1].toNat : Nat) : Int), ((i + 1 : Nat) : Int), gOf (gW 24 (i + 1) ((l[i + 1].toNat : Nat) : Int)), wbB_24 ov lf t (bs l) r i z0 _ (bc_get _ _ h) (z_rng _) (by rw [hs]; exact h) (by rw [hs]; exact hsz) (step (i + 1) h false hb)⟩
  · exact ⟨.int .u8 z0, ((i + 1 : Nat) : Int), gOf [.bool false], wbC_24 ov lf t (bs l) r (i + 1) z0 (by rw [hs]; exact h)⟩
--< wrt_24
theorem wrt_24 (o : Ev) (lf : Nat) (t : TypeId) (s : ByteArray) (r : List AObj) (c0 : Int) (hk : evO (noW o) lf 17 28 [vf t (pt 18)] { n := 24, objs := r } = some (vi c0, { n := 24, objs := r }, [])) (h8 : c0 < 8) (w : ByteArray) (c : Value) (i : Int) (g : Nat → Value) (hl : ∀ (s0 : St), clW_24 s0 = Wa_24 t s r → evLoop (runW_24 (noW o) lf) clW_24 lf s0 = some (Ex.exit 0, EW_24 t s r w c i g)) (hm : ∀ (H : Heap), evO (noW o) lf 17 29 [vs w] H = some (vb true, H, [])) :
    evO (noW o) lf 18 10 [vf t (pt 18), vs s] { n := 24, objs := r } = some (vf 67 (pt 24), { n := 25, objs := ob [vs w, vf t (pt 18)] 69 0 1 :: r }, []) :=
  Dg.evCall_hint (hs' := []) (hs := [qc 28 (vi c0) { n := 24, objs := r } [],
    qv 10 12 (vb false),
    Hint.loop 10 (Ex.exit 0) (EW_24 t s r w c i g),
    qc 29 (vb true) { n := 25, objs := ob (byteCells s) 5 5 1 :: r } []])
    [evO (noW o) lf 17 28 [vf t (pt 18)] { n := 24, objs := r } = some (vi c0, { n := 24, objs := r }, []),
    vb (decide (c0 ≥ (8 : Int))) = vb false,
    evLoop (runW_24 (noW o) lf) clW_24 lf { ts := [vf t (pt 18), vs s, undef, undef, Value.nilIface, undef, undef, vf t (pt 18), vb false, vb false, vf t (pt 18), vi c0, vb false, vb false, undef, vs s, sp 24 (ByteArray.size s) (ByteArray.size s), vi (↑(ByteArray.size s) : Int), vi 0, undef, undef, undef, undef, undef, undef, undef, undef, undef, undef, undef, undef, undef, undef, undef, undef, undef], H := { n := 25, objs := ob (byteCells s) 5 5 1 :: r }, log := [] } = some (Ex.exit 0, EW_24 t s r w c i g),
    evO (noW o) lf 17 29 [vs w] { n := 25, objs := ob (byteCells s) 5 5 1 :: r } = some (vb true, { n := 25, objs := ob (byteCells s) 5 5 1 :: r }, [])] (by kernel_rfl)
    ⟨hk, Dg.vfalse (by omega), hl _ (by kernel_rfl), hm _, trivial⟩
--> wrt_24
--< wrf_24
theorem wrf_24 (o : Ev) (lf : Nat) (t : TypeId) (s : ByteArray) (r : List AObj) (c0 : Int) (hk : evO (noW o) lf 17 28 [vf t (pt 18)] { n := 24, objs := r } = some (vi c0, { n := 24, objs := r }, [])) (h8 : c0 < 8) (w : ByteArray) (c : Value) (i : Int) (g : Nat → Value) (hl : ∀ (s0 : St), clW_24 s0 = Wa_24 t s r → evLoop (runW_24 (noW o) lf) clW_24 lf s0 = some (Ex.exit 0, EW_24 t s r w c i g)) (hm : ∀ (H : Heap), evO (noW o) lf 17 29 [vs w] H = some (vb false, H, [])) :
    evO (noW o) lf 18 10 [vf t (pt 18), vs s] { n := 24, objs := r } = some (vf 67 (pt 24), { n := 25, objs := ob [vs { data := #[63] }, vf t (pt 18)] 69 0 1 :: r }, []) :=
  Dg.evCall_hint (hs' := []) (hs := [qc 28 (vi c0) { n := 24, objs := r } [],
    qv 10 12 (vb false),
    Hint.loop 10 (Ex.exit 0) (EW_24 t s r w c i g),
    qc 29 (vb false) { n := 25, objs := ob (byteCells s) 5 5 1 :: r } []])
    [evO (noW o) lf 17 28 [vf t (pt 18)] { n := 24, objs := r } = some (vi c0, { n := 24, objs := r }, []),
    vb (decide (c0 ≥ (8 : Int))) = vb false,
    evLoop (runW_24 (noW o) lf) clW_24 lf { ts := [vf t (pt 18), vs s, undef, undef, Value.nilIface, undef, undef, vf t (pt 18), vb false, vb false, vf t (pt 18), vi c0, vb false, vb false, undef, vs s, sp 24 (ByteArray.size s) (ByteArray.size s), vi (↑(ByteArray.size s) : Int), vi 0, undef, undef, undef, undef, undef, undef, undef, undef, undef, undef, undef, undef, undef, undef, undef, undef, undef], H := { n := 25, objs := ob (byteCells s) 5 5 1 :: r }, log := [] } = some (Ex.exit 0, EW_24 t s r w c i g),
    evO (noW o) lf 17 29 [vs w] { n := 25, objs := ob (byteCells s) 5 5 1 :: r } = some (vb false, { n := 25, objs := ob (byteCells s) 5 5 1 :: r }, [])] (by kernel_rfl)
    ⟨hk, Dg.vfalse (by omega), hl _ (by kernel_rfl), hm _, trivial⟩
--> wrf_24
theorem wr_24 (o : Ev) (ho : MayOk (noW o)) (lf : Nat) (t : TypeId) (s : ByteArray) (r : List AObj) (c0 : Int) (hk : evO (noW o) lf 17 28 [.iface t (.pointer (some ⟨18, 0, none⟩))] ⟨24, r⟩ = some (.int .i64 c0, ⟨24, r⟩, [])) (h8 : c0 < 8) (hl : s.size < lf) (hsz : s.size ≤ 9223372036854775807) :
    evO (noW o) lf 18 10 [.iface t (.pointer (some ⟨18, 0, none⟩)), .string s] ⟨24, r⟩ = some (.iface 67 (.pointer (some ⟨24, 0, none⟩)), ⟨25, .cells [.string (wordOf s), .iface t (.pointer (some ⟨18, 0, none⟩))] 69 0 1 :: r⟩, []) := by
  have hlen : s.data.toList.length = s.size := by rw [← bs_size s.data.toList, bs_of]
  obtain ⟨w, c, i, g, h1, h2⟩ := loopW_24 (noW o) ho lf t s.data.toList r (by omega) (by omega)
  rw [bs_of] at h1 h2
  unfold wordOf
  rcases h2 with ⟨hA, rfl⟩ | ⟨hA, rfl⟩
  · cases hm : mayL w.data.toList with
    | true => exact wrt_24 o lf t w r c0 hk h8 w c i g h1 (may_call ho (m := 16) hm)
    | false => exact wrf_24 o lf t w r c0 hk h8 w c i g h1 (may_call ho (m := 16) hm)
  · have hm : mayL s.data.toList = false := by unfold mayL; rw [hA]; simp
    rw [hm]
    exact wrf_24 o lf t s r c0 hk h8 qm c i g h1 (may_call ho (m := 16) (by kernel_rfl))

/-! ### n objects: 25; the error's: 18. -/
noncomputable abbrev runW_25 (ov : Ev) (lf : Nat) : St → Option (Ex × St) := evCode Tryz.prog 15 (bodied Tryz.prog) (evO ov lf 17) 25 7 lf lW
noncomputable abbrev clW_25 : St → St := cleanSt 25 7 (ue lW [] []).1
def TW_25 (t : TypeId) (s w : ByteArray) (c : Value) (i : Int) : List Value := [.iface t (.pointer (some ⟨18, 0, none⟩)), .string w, undef, undef, .nilIface, undef, c] ++ (js 9 ++ ([.slice (some ⟨25, 0, some 0⟩) s.size s.size, .int .i64 s.size, .int .i64 i] ++ js 17))
def HW_25 (s : ByteArray) (r : List AObj) : Heap := ⟨26, .cells (byteCells s) 5 5 1 :: r⟩
def Wa_25 (t : TypeId) (s : ByteArray) (r : List AObj) : St := ⟨TW_25 t s s undef 0, HW_25 s r, []⟩
def Wb_25 (t : TypeId) (s : ByteArray) (r : List AObj) (i : Nat) (z : Int) : St := ⟨TW_25 t s s (.int .u8 z) (i : Int), HW_25 s r, []⟩
/-- The state behind the loop; what nothing reads any more is left open. -/
def EW_25 (t : TypeId) (s : ByteArray) (r : List AObj) (w : ByteArray) (c : Value) (i : Int) (g : Nat → Value) : St := ⟨[.iface t (.pointer (some ⟨18, 0, none⟩)), .string w, undef, undef, .nilIface, undef, c] ++ (js 9 ++ ([.slice (some ⟨25, 0, some 0⟩) s.size s.size, .int .i64 s.size, .int .i64 i] ++ [g 19, g 20, g 21, g 22, g 23, g 24, g 25, g 26, g 27, g 28, g 29, g 30, g 31, g 32, g 33, g 34, g 35])), HW_25 s r, []⟩
--< waA_25
theorem waA_25 (ov : Ev) (lf : Nat) (t : TypeId) (s : ByteArray) (r : List AObj) (z : Int) (hz : (byteCells s)[0]? = some (v8 z)) (hr : 0 ≤ z ∧ z < 256) (hi : 0 < ByteArray.size s) (hsz : ByteArray.size s ≤ 9223372036854775807) (hm : ∀ (H : Heap), evO ov lf 17 29 [vs (runeS z)] H = some (vb true, H, [])) :
    ∃ s', (runW_25 ov lf) (Wa_25 t s r) = some (Ex.normal, s') ∧ clW_25 s' = Wb_25 t s r 1 z :=
  Dg.code_round (f := 10) clW_25 (hs := [qv 10 19 (vb true),
    qs 10 20 (pt 25),
    qs 10 21 (v8 z),
    qv 10 23 (v32 z),
    qv 10 24 (vs (runeS z)),
    qc 29 (vb true) { n := 26, objs := ob (byteCells s) 5 5 1 :: r } []])
    [vb (decide ((0 : Int) < (↑(ByteArray.size s) : Int))) = vb true,
    (0 : Int) ≤ (0 : Int) ∧ (0 : Int) < (↑(ByteArray.size s) : Int),
    Value.pointer (some { block := (25 : Nat), off := (0 : Nat) }) = Value.pointer (some { block := (25 : Nat), off := (0 : Nat) }),
    (byteCells s)[(0 : Nat)]? = some (v8 z),
    v32 (IntKind.wrap IntKind.i32 z) = v32 z,
    vs (Utf8.encode z) = vs (runeS z),
    evO ov lf 17 29 [vs (runeS z)] { n := 26, objs := ob (byteCells s) 5 5 1 :: r } = some (vb true, { n := 26, objs := ob (byteCells s) 5 5 1 :: r }, [])] (by kernel_rfl)
    ⟨Dg.vtrue (by omega), by omega, rfl, hz, by simp only [Dg.w_u8, Dg.w_u16, Dg.w_u32, Dg.w_i8, Dg.w_i32, Value.int.injEq, true_and]; omega, rfl, hm _, trivial⟩
--> waA_25
--< waB_25
theorem waB_25 (ov : Ev) (lf : Nat) (t : TypeId) (s : ByteArray) (r : List AObj) (z : Int) (hz : (byteCells s)[0]? = some (v8 z)) (hr : 0 ≤ z ∧ z < 256) (hi : 0 < ByteArray.size s) (hsz : ByteArray.size s ≤ 9223372036854775807) (hm : ∀ (H : Heap), evO ov lf 17 29 [vs (runeS z)] H = some (vb false, H, [])) :
    (runW_25 ov lf) (Wa_25 t s r) = some (Ex.exit 0, ({ ts := [vf t (pt 18), vs { data := #[63] }, undef, undef, Value.nilIface, undef, v8 z, junk, junk, junk, junk, junk, junk, junk, junk, junk, sp 25 (ByteArray.size s) (ByteArray.size s), vi (↑(ByteArray.size s) : Int), vi 0, vb true, pt 25, v8 z, v8 z, v32 z, vs (runeS z), vb false, vb true, junk, junk, junk, junk, junk, junk, junk, junk, junk], H := { n := 26, objs := ob (byteCells s) 5 5 1 :: r }, log := [] } : St)) :=
  Dg.evCode_hint (f := 10) (hs' := []) (hs := [qv 10 19 (vb true),
    qs 10 20 (pt 25),
    qs 10 21 (v8 z),
    qv 10 23 (v32 z),
    qv 10 24 (vs (runeS z)),
    qc 29 (vb false) { n := 26, objs := ob (byteCells s) 5 5 1 :: r } []])
    [vb (decide ((0 : Int) < (↑(ByteArray.size s) : Int))) = vb true,
    (0 : Int) ≤ (0 : Int) ∧ (0 : Int) < (↑(ByteArray.size s) : Int),
    Value.pointer (some { block := (25 : Nat), off := (0 : Nat) }) = Value.pointer (some { block := (25 : Nat), off := (0 : Nat) }),
    (byteCells s)[(0 : Nat)]? = some (v8 z),
    v32 (IntKind.wrap IntKind.i32 z) = v32 z,
    vs (Utf8.encode z) = vs (runeS z),
    evO ov lf 17 29 [vs (runeS z)] { n := 26, objs := ob (byteCells s) 5 5 1 :: r } = some (vb false, { n := 26, objs := ob (byteCells s) 5 5 1 :: r }, [])] (by kernel_rfl)
    ⟨Dg.vtrue (by omega), by omega, rfl, hz, by simp only [Dg.w_u8, Dg.w_u16, Dg.w_u32, Dg.w_i8, Dg.w_i32, Value.int.injEq, true_and]; omega, rfl, hm _, trivial⟩
--> waB_25
--< wbA_25
theorem wbA_25 (ov : Ev) (lf : Nat) (t : TypeId) (s : ByteArray) (r : List AObj) (i : Nat) (z0 : Int) (z : Int) (hz : (byteCells s)[i + 1]? = some (v8 z)) (hr : 0 ≤ z ∧ z < 256) (hi : i + 1 < ByteArray.size s) (hsz : ByteArray.size s ≤ 9223372036854775807) (hm : ∀ (H : Heap), evO ov lf 17 29 [vs (runeS z)] H = some (vb true, H, [])) :
    ∃ s', (runW_25 ov lf) (Wb_25 t s r (i + 1) z0) = some (Ex.normal, s') ∧ clW_25 s' = Wb_25 t s r (i + 1 + 1) z :=
  Dg.code_round (f := 10) clW_25 (hs := [qv 10 19 (vb true),
    qs 10 20 (po 25 (i + 1)),
    qs 10 21 (v8 z),
    qv 10 23 (v32 z),
    qv 10 24 (vs (runeS z)),
    qc 29 (vb true) { n := 26, objs := ob (byteCells s) 5 5 1 :: r } [],
    qv 10 27 (vi ((↑(i + 1) : Int) + 1))])
    [vb (decide ((↑(i + (1 : Nat)) : Int) < (↑(ByteArray.size s) : Int))) = vb true,
    (0 : Int) ≤ (↑(i + (1 : Nat)) : Int) ∧ (↑(i + (1 : Nat)) : Int) < (↑(ByteArray.size s) : Int),
    Value.pointer (some { block := (25 : Nat), off := (0 : Nat) + Int.toNat (↑(i + (1 : Nat)) : Int) * (1 : Nat) }) = Value.pointer (some { block := (25 : Nat), off := i + (1 : Nat) }),
    (byteCells s)[i + (1 : Nat)]? = some (v8 z),
    v32 (IntKind.wrap IntKind.i32 z) = v32 z,
    vs (Utf8.encode z) = vs (runeS z),
    evO ov lf 17 29 [vs (runeS z)] { n := 26, objs := ob (byteCells s) 5 5 1 :: r } = some (vb true, { n := 26, objs := ob (byteCells s) 5 5 1 :: r }, []),
    vi (IntKind.wrap IntKind.i64 ((↑(i + (1 : Nat)) : Int) + (1 : Int))) = vi ((↑(i + (1 : Nat)) : Int) + (1 : Int))] (by kernel_rfl)
    ⟨Dg.vtrue (by omega), by omega, Dg.ptr_eq (by omega), hz, by simp only [Dg.w_u8, Dg.w_u16, Dg.w_u32, Dg.w_i8, Dg.w_i32, Value.int.injEq, true_and]; omega, rfl, hm _, Dg.i64_eq rfl (by omega) (by omega), trivial⟩
--> wbA_25
--< wbB_25
theorem wbB_25 (ov : Ev) (lf : Nat) (t : TypeId) (s : ByteArray) (r : List AObj) (i : Nat) (z0 : Int) (z : Int) (hz : (byteCells s)[i + 1]? = some (v8 z)) (hr : 0 ≤ z ∧ z < 256) (hi : i + 1 < ByteArray.size s) (hsz : ByteArray.size s ≤ 9223372036854775807) (hm : ∀ (H : Heap), evO ov lf 17 29 [vs (runeS z)] H = some (vb false, H, [])) :
    (runW_25 ov lf) (Wb_25 t s r (i + 1) z0) = some (Ex.exit 0, ({ ts := [vf t (pt 18), vs { data := #[63] }, undef, undef, Value.nilIface, undef, v8 z, junk, junk, junk, junk, junk, junk, junk, junk, junk, sp 25 (ByteArray.size s) (ByteArray.size s), vi (↑(ByteArray.size s) : Int), vi (↑(i + 1) : Int), vb true, po 25 (i + 1), v8 z, v8 z, v32 z, vs (runeS z), vb false, vb true, junk, junk, junk, junk, junk, junk, junk, junk, junk], H := { n := 26, objs := ob (byteCells s) 5 5 1 :: r }, log := [] } : St)) :=
  Dg.evCode_hint (f := 10) (hs' := []) (hs := [qv 10 19 (vb true),
    qs 10 20 (po 25 (i + 1)),
    qs 10 21 (v8 z),
    qv 10 23 (v32 z),
    qv 10 24 (vs (runeS z)),
    qc 29 (vb false) { n := 26, objs := ob (byteCells s) 5 5 1 :: r } []])
    [vb (decide ((↑(i + (1 : Nat)) : Int) < (↑(ByteArray.size s) : Int))) = vb true,
    (0 : Int) ≤ (↑(i + (1 : Nat)) : Int) ∧ (↑(i + (1 : Nat)) : Int) < (↑(ByteArray.size s) : Int),
    Value.pointer (some { block := (25 : Nat), off := (0 : Nat) + Int.toNat (↑(i + (1 : Nat)) : Int) * (1 : Nat) }) = Value.pointer (some { block := (25 : Nat), off := i + (1 : Nat) }),
    (byteCells s)[i + (1 : Nat)]? = some (v8 z),
    v32 (IntKind.wrap IntKind.i32 z) = v32 z,
    vs (Utf8.encode z) = vs (runeS z),
    evO ov lf 17 29 [vs (runeS z)] { n := 26, objs := ob (byteCells s) 5 5 1 :: r } = some (vb false, { n := 26, objs := ob (byteCells s) 5 5 1 :: r }, [])] (by kernel_rfl)
    ⟨Dg.vtrue (by omega), by omega, Dg.ptr_eq (by omega), hz, by simp only [Dg.w_u8, Dg.w_u16, Dg.w_u32, Dg.w_i8, Dg.w_i32, Value.int.injEq, true_and]; omega, rfl, hm _, trivial⟩
--> wbB_25
--< waC_25
theorem waC_25 (ov : Ev) (lf : Nat) (t : TypeId) (s : ByteArray) (r : List AObj) (h0 : ByteArray.size s = 0) :
    (runW_25 ov lf) (Wa_25 t s r) = some (Ex.exit 0, ({ ts := [vf t (pt 18), vs s, undef, undef, Value.nilIface, undef, undef, junk, junk, junk, junk, junk, junk, junk, junk, junk, sp 25 (ByteArray.size s) (ByteArray.size s), vi (↑(ByteArray.size s) : Int), vi 0, vb false, junk, junk, junk, junk, junk, junk, junk, junk, junk, junk, junk, junk, junk, junk, junk, junk], H := { n := 26, objs := ob (byteCells s) 5 5 1 :: r }, log := [] } : St)) :=
  Dg.evCode_hint (f := 10) (hs' := []) (hs := [qv 10 19 (vb false)])
    [vb (decide ((0 : Int) < (↑(ByteArray.size s) : Int))) = vb false] (by kernel_rfl)
    ⟨Dg.vfalse (by omega), trivial⟩
--> waC_25
--< wbC_25
theorem wbC_25 (ov : Ev) (lf : Nat) (t : TypeId) (s : ByteArray) (r : List AObj) (i : Nat) (z0 : Int) (h0 : ByteArray.size s = i) :
    (runW_25 ov lf) (Wb_25 t s r i z0) = some (Ex.exit 0, ({ ts := [vf t (pt 18), vs s, undef, undef, Value.nilIface, undef, v8 z0, junk, junk, junk, junk, junk, junk, junk, junk, junk, sp 25 (ByteArray.size s) (ByteArray.size s), vi (↑(ByteArray.size s) : Int), vi (↑i : Int), vb false, junk, junk, junk, junk, junk, junk, junk, junk, junk, junk, junk, junk, junk, junk, junk, junk], H := { n := 26, objs := ob (byteCells s) 5 5 1 :: r }, log := [] } : St)) :=
  Dg.evCode_hint (f := 10) (hs' := []) (hs := [qv 10 19 (vb false)])
    [vb (decide ((↑i : Int) < (↑(ByteArray.size s) : Int))) = vb false] (by kernel_rfl)
    ⟨Dg.vfalse (by omega), trivial⟩
--> wbC_25
/-- The loop: a sign that may not be makes the word strange. -/
theorem loopW_25 (ov : Ev) (ho : MayOk ov) (lf : Nat) (t : TypeId) (l : List UInt8) (r : List AObj) (hl : l.length < lf) (hsz : l.length ≤ 9223372036854775807) :
    ∃ w c i g, (∀ s0, clW_25 s0 = Wa_25 t (bs l) r → evLoop (runW_25 ov lf) clW_25 lf s0 = some (.exit 0, EW_25 t (bs l) r w c i g)) ∧ (allIn l = true ∧ w = bs l ∨ allIn l = false ∧ w = qm) := by
  have hs : (bs l).size = l.length := bs_size l
  have step : ∀ j (hj : j < l.length) (b : Bool), inB l[j].toNat = b → ∀ H, evO ov lf 17 29 [.string (runeS ((l[j].toNat : Nat) : Int))] H = some (.bool b, H, []) := fun j hj b hb H => by
    refine may_call ho (m := 16) ?_ H
    show oMayS _ = b
    rw [may_rune (l[j].toNat_lt), hb]
  refine loopW_gen (Wb := Wb_25 t (bs l) r) (EW := EW_25 t (bs l) r) hl (fun h => ?_) (fun h hb => ?_) (fun h hb => ?_) (fun i z0 h hb => ?_) (fun i z0 h hb => ?_) (fun i z0 h => ?_)
  · exact ⟨undef, 0, gOf [.bool false], waC_25 ov lf t (bs l) r (by rw [h]; rfl)⟩
  · exact waA_25 ov lf t (bs l) r _ (bc_get _ _ h) (z_rng _) (by rw [hs]; exact h) (by rw [hs]; exact hsz) (step 0 h true hb)
  · exact ⟨.int .u8 ((l[0].toNat : Nat) : Int), 0, gOf (gW 25 0 ((l[0].toNat : Nat) : Int)), waB_25 ov lf t (bs l) r _ (bc_get _ _ h) (z_rng _) (by rw [hs]; exact h) (by rw [hs]; exact hsz) (step 0 h false hb)⟩
  · exact wbA_25 ov lf t (bs l) r i z0 _ (bc_get _ _ h) (z_rng _) (by rw [hs]; exact h) (by rw [hs]; exact hsz) (step (i + 1) h true hb)
  · exact ⟨.int .u8 ((l[i + 1].toNat : Nat) : Int), ((i + 1 : Nat) : Int), gOf (gW 25 (i + 1) ((l[i + 1].toNat : Nat) : Int)), wbB_25 ov lf t (bs l) r i z0 _ (bc_get _ _ h) (z_rng _) (by rw [hs]; exact h) (by rw [hs]; exact hsz) (step (i + 1) h false hb)⟩
  · exact ⟨.int .u8 z0, ((i + 1 : Nat) : Int), gOf [.bool false], wbC_25 ov lf t (bs l) r (i + 1) z0 (by rw [hs]; exact h)⟩
--< wrt_25
theorem wrt_25 (o : Ev) (lf : Nat) (t : TypeId) (s : ByteArray) (r : List AObj) (c0 : Int) (hk : evO (noW o) lf 17 28 [vf t (pt 18)] { n := 25, objs := r } = some (vi c0, { n := 25, objs := r }, [])) (h8 : c0 < 8) (w : ByteArray) (c : Value) (i : Int) (g : Nat → Value) (hl : ∀ (s0 : St), clW_25 s0 = Wa_25 t s r → evLoop (runW_25 (noW o) lf) clW_25 lf s0 = some (Ex.exit 0, EW_25 t s r w c i g)) (hm : ∀ (H : Heap), evO (noW o) lf 17 29 [vs w] H = some (vb true, H, [])) :
    evO (noW o) lf 18 10 [vf t (pt 18), vs s] { n := 25, objs := r } = some (vf 67 (pt 25), { n := 26, objs := ob [vs w, vf t (pt 18)] 69 0 1 :: r }, []) :=
  Dg.evCall_hint (hs' := []) (hs := [qc 28 (vi c0) { n := 25, objs := r } [],
    qv 10 12 (vb false),
    Hint.loop 10 (Ex.exit 0) (EW_25 t s r w c i g),
    qc 29 (vb true) { n := 26, objs := ob (byteCells s) 5 5 1 :: r } []])
    [evO (noW o) lf 17 28 [vf t (pt 18)] { n := 25, objs := r } = some (vi c0, { n := 25, objs := r }, []),
    vb (decide (c0 ≥ (8 : Int))) = vb false,
    evLoop (runW_25 (noW o) lf) clW_25 lf { ts := [vf t (pt 18), vs s, undef, undef, Value.nilIface, undef, undef, vf t (pt 18), vb false, vb false, vf t (pt 18), vi c0, vb false, vb false, undef, vs s, sp 25 (ByteArray.size s) (ByteArray.size s), vi (↑(ByteArray.size s) : Int), vi 0, undef, undef, undef, undef, undef, undef, undef, undef, undef, undef, undef, undef, undef, undef, undef, undef, undef], H := { n := 26, objs := ob (byteCells s) 5 5 1 :: r }, log := [] } = some (Ex.exit 0, EW_25 t s r w c i g),
    evO (noW o) lf 17 29 [vs w] { n := 26, objs := ob (byteCells s) 5 5 1 :: r } = some (vb true, { n := 26, objs := ob (byteCells s) 5 5 1 :: r }, [])] (by kernel_rfl)
    ⟨hk, Dg.vfalse (by omega), hl _ (by kernel_rfl), hm _, trivial⟩
--> wrt_25
--< wrf_25
theorem wrf_25 (o : Ev) (lf : Nat) (t : TypeId) (s : ByteArray) (r : List AObj) (c0 : Int) (hk : evO (noW o) lf 17 28 [vf t (pt 18)] { n := 25, objs := r } = some (vi c0, { n := 25, objs := r }, [])) (h8 : c0 < 8) (w : ByteArray) (c : Value) (i : Int) (g : Nat → Value) (hl : ∀ (s0 : St), clW_25 s0 = Wa_25 t s r → evLoop (runW_25 (noW o) lf) clW_25 lf s0 = some (Ex.exit 0, EW_25 t s r w c i g)) (hm : ∀ (H : Heap), evO (noW o) lf 17 29 [vs w] H = some (vb false, H, [])) :
    evO (noW o) lf 18 10 [vf t (pt 18), vs s] { n := 25, objs := r } = some (vf 67 (pt 25), { n := 26, objs := ob [vs { data := #[63] }, vf t (pt 18)] 69 0 1 :: r }, []) :=
  Dg.evCall_hint (hs' := []) (hs := [qc 28 (vi c0) { n := 25, objs := r } [],
    qv 10 12 (vb false),
    Hint.loop 10 (Ex.exit 0) (EW_25 t s r w c i g),
    qc 29 (vb false) { n := 26, objs := ob (byteCells s) 5 5 1 :: r } []])
    [evO (noW o) lf 17 28 [vf t (pt 18)] { n := 25, objs := r } = some (vi c0, { n := 25, objs := r }, []),
    vb (decide (c0 ≥ (8 : Int))) = vb false,
    evLoop (runW_25 (noW o) lf) clW_25 lf { ts := [vf t (pt 18), vs s, undef, undef, Value.nilIface, undef, undef, vf t (pt 18), vb false, vb false, vf t (pt 18), vi c0, vb false, vb false, undef, vs s, sp 25 (ByteArray.size s) (ByteArray.size s), vi (↑(ByteArray.size s) : Int), vi 0, undef, undef, undef, undef, undef, undef, undef, undef, undef, undef, undef, undef, undef, undef, undef, undef, undef], H := { n := 26, objs := ob (byteCells s) 5 5 1 :: r }, log := [] } = some (Ex.exit 0, EW_25 t s r w c i g),
    evO (noW o) lf 17 29 [vs w] { n := 26, objs := ob (byteCells s) 5 5 1 :: r } = some (vb false, { n := 26, objs := ob (byteCells s) 5 5 1 :: r }, [])] (by kernel_rfl)
    ⟨hk, Dg.vfalse (by omega), hl _ (by kernel_rfl), hm _, trivial⟩
--> wrf_25
theorem wr_25 (o : Ev) (ho : MayOk (noW o)) (lf : Nat) (t : TypeId) (s : ByteArray) (r : List AObj) (c0 : Int) (hk : evO (noW o) lf 17 28 [.iface t (.pointer (some ⟨18, 0, none⟩))] ⟨25, r⟩ = some (.int .i64 c0, ⟨25, r⟩, [])) (h8 : c0 < 8) (hl : s.size < lf) (hsz : s.size ≤ 9223372036854775807) :
    evO (noW o) lf 18 10 [.iface t (.pointer (some ⟨18, 0, none⟩)), .string s] ⟨25, r⟩ = some (.iface 67 (.pointer (some ⟨25, 0, none⟩)), ⟨26, .cells [.string (wordOf s), .iface t (.pointer (some ⟨18, 0, none⟩))] 69 0 1 :: r⟩, []) := by
  have hlen : s.data.toList.length = s.size := by rw [← bs_size s.data.toList, bs_of]
  obtain ⟨w, c, i, g, h1, h2⟩ := loopW_25 (noW o) ho lf t s.data.toList r (by omega) (by omega)
  rw [bs_of] at h1 h2
  unfold wordOf
  rcases h2 with ⟨hA, rfl⟩ | ⟨hA, rfl⟩
  · cases hm : mayL w.data.toList with
    | true => exact wrt_25 o lf t w r c0 hk h8 w c i g h1 (may_call ho (m := 16) hm)
    | false => exact wrf_25 o lf t w r c0 hk h8 w c i g h1 (may_call ho (m := 16) hm)
  · have hm : mayL s.data.toList = false := by unfold mayL; rw [hA]; simp
    rw [hm]
    exact wrf_25 o lf t s r c0 hk h8 qm c i g h1 (may_call ho (m := 16) (by kernel_rfl))

/-! ### n objects: 26; the error's: 18. -/
noncomputable abbrev runW_26 (ov : Ev) (lf : Nat) : St → Option (Ex × St) := evCode Tryz.prog 15 (bodied Tryz.prog) (evO ov lf 17) 26 7 lf lW
noncomputable abbrev clW_26 : St → St := cleanSt 26 7 (ue lW [] []).1
def TW_26 (t : TypeId) (s w : ByteArray) (c : Value) (i : Int) : List Value := [.iface t (.pointer (some ⟨18, 0, none⟩)), .string w, undef, undef, .nilIface, undef, c] ++ (js 9 ++ ([.slice (some ⟨26, 0, some 0⟩) s.size s.size, .int .i64 s.size, .int .i64 i] ++ js 17))
def HW_26 (s : ByteArray) (r : List AObj) : Heap := ⟨27, .cells (byteCells s) 5 5 1 :: r⟩
def Wa_26 (t : TypeId) (s : ByteArray) (r : List AObj) : St := ⟨TW_26 t s s undef 0, HW_26 s r, []⟩
def Wb_26 (t : TypeId) (s : ByteArray) (r : List AObj) (i : Nat) (z : Int) : St := ⟨TW_26 t s s (.int .u8 z) (i : Int), HW_26 s r, []⟩
/-- The state behind the loop; what nothing reads any more is left open. -/
def EW_26 (t : TypeId) (s : ByteArray) (r : List AObj) (w : ByteArray) (c : Value) (i : Int) (g : Nat → Value) : St := ⟨[.iface t (.pointer (some ⟨18, 0, none⟩)), .string w, undef, undef, .nilIface, undef, c] ++ (js 9 ++ ([.slice (some ⟨26, 0, some 0⟩) s.size s.size, .int .i64 s.size, .int .i64 i] ++ [g 19, g 20, g 21, g 22, g 23, g 24, g 25, g 26, g 27, g 28, g 29, g 30, g 31, g 32, g 33, g 34, g 35])), HW_26 s r, []⟩
--< waA_26
theorem waA_26 (ov : Ev) (lf : Nat) (t : TypeId) (s : ByteArray) (r : List AObj) (z : Int) (hz : (byteCells s)[0]? = some (v8 z)) (hr : 0 ≤ z ∧ z < 256) (hi : 0 < ByteArray.size s) (hsz : ByteArray.size s ≤ 9223372036854775807) (hm : ∀ (H : Heap), evO ov lf 17 29 [vs (runeS z)] H = some (vb true, H, [])) :
    ∃ s', (runW_26 ov lf) (Wa_26 t s r) = some (Ex.normal, s') ∧ clW_26 s' = Wb_26 t s r 1 z :=
  Dg.code_round (f := 10) clW_26 (hs := [qv 10 19 (vb true),
    qs 10 20 (pt 26),
    qs 10 21 (v8 z),
    qv 10 23 (v32 z),
    qv 10 24 (vs (runeS z)),
    qc 29 (vb true) { n := 27, objs := ob (byteCells s) 5 5 1 :: r } []])
    [vb (decide ((0 : Int) < (↑(ByteArray.size s) : Int))) = vb true,
    (0 : Int) ≤ (0 : Int) ∧ (0 : Int) < (↑(ByteArray.size s) : Int),
    Value.pointer (some { block := (26 : Nat), off := (0 : Nat) }) = Value.pointer (some { block := (26 : Nat), off := (0 : Nat) }),
    (byteCells s)[(0 : Nat)]? = some (v8 z),
    v32 (IntKind.wrap IntKind.i32 z) = v32 z,
    vs (Utf8.encode z) = vs (runeS z),
    evO ov lf 17 29 [vs (runeS z)] { n := 27, objs := ob (byteCells s) 5 5 1 :: r } = some (vb true, { n := 27, objs := ob (byteCells s) 5 5 1 :: r }, [])] (by kernel_rfl)
    ⟨Dg.vtrue (by omega), by omega, rfl, hz, by simp only [Dg.w_u8, Dg.w_u16, Dg.w_u32, Dg.w_i8, Dg.w_i32, Value.int.injEq, true_and]; omega, rfl, hm _, trivial⟩
--> waA_26
--< waB_26
theorem waB_26 (ov : Ev) (lf : Nat) (t : TypeId) (s : ByteArray) (r : List AObj) (z : Int) (hz : (byteCells s)[0]? = some (v8 z)) (hr : 0 ≤ z ∧ z < 256) (hi : 0 < ByteArray.size s) (hsz : ByteArray.size s ≤ 9223372036854775807) (hm : ∀ (H : Heap), evO ov lf 17 29 [vs (runeS z)] H = some (vb false, H, [])) :
    (runW_26 ov lf) (Wa_26 t s r) = some (Ex.exit 0, ({ ts := [vf t (pt 18), vs { data := #[63] }, undef, undef, Value.nilIface, undef, v8 z, junk, junk, junk, junk, junk, junk, junk, junk, junk, sp 26 (ByteArray.size s) (ByteArray.size s), vi (↑(ByteArray.size s) : Int), vi 0, vb true, pt 26, v8 z, v8 z, v32 z, vs (runeS z), vb false, vb true, junk, junk, junk, junk, junk, junk, junk, junk, junk], H := { n := 27, objs := ob (byteCells s) 5 5 1 :: r }, log := [] } : St)) :=
  Dg.evCode_hint (f := 10) (hs' := []) (hs := [qv 10 19 (vb true),
    qs 10 20 (pt 26),
    qs 10 21 (v8 z),
    qv 10 23 (v32 z),
    qv 10 24 (vs (runeS z)),
    qc 29 (vb false) { n := 27, objs := ob (byteCells s) 5 5 1 :: r } []])
    [vb (decide ((0 : Int) < (↑(ByteArray.size s) : Int))) = vb true,
    (0 : Int) ≤ (0 : Int) ∧ (0 : Int) < (↑(ByteArray.size s) : Int),
    Value.pointer (some { block := (26 : Nat), off := (0 : Nat) }) = Value.pointer (some { block := (26 : Nat), off := (0 : Nat) }),
    (byteCells s)[(0 : Nat)]? = some (v8 z),
    v32 (IntKind.wrap IntKind.i32 z) = v32 z,
    vs (Utf8.encode z) = vs (runeS z),
    evO ov lf 17 29 [vs (runeS z)] { n := 27, objs := ob (byteCells s) 5 5 1 :: r } = some (vb false, { n := 27, objs := ob (byteCells s) 5 5 1 :: r }, [])] (by kernel_rfl)
    ⟨Dg.vtrue (by omega), by omega, rfl, hz, by simp only [Dg.w_u8, Dg.w_u16, Dg.w_u32, Dg.w_i8, Dg.w_i32, Value.int.injEq, true_and]; omega, rfl, hm _, trivial⟩
--> waB_26
--< wbA_26
theorem wbA_26 (ov : Ev) (lf : Nat) (t : TypeId) (s : ByteArray) (r : List AObj) (i : Nat) (z0 : Int) (z : Int) (hz : (byteCells s)[i + 1]? = some (v8 z)) (hr : 0 ≤ z ∧ z < 256) (hi : i + 1 < ByteArray.size s) (hsz : ByteArray.size s ≤ 9223372036854775807) (hm : ∀ (H : Heap), evO ov lf 17 29 [vs (runeS z)] H = some (vb true, H, [])) :
    ∃ s', (runW_26 ov lf) (Wb_26 t s r (i + 1) z0) = some (Ex.normal, s') ∧ clW_26 s' = Wb_26 t s r (i + 1 + 1) z :=
  Dg.code_round (f := 10) clW_26 (hs := [qv 10 19 (vb true),
    qs 10 20 (po 26 (i + 1)),
    qs 10 21 (v8 z),
    qv 10 23 (v32 z),
    qv 10 24 (vs (runeS z)),
    qc 29 (vb true) { n := 27, objs := ob (byteCells s) 5 5 1 :: r } [],
    qv 10 27 (vi ((↑(i + 1) : Int) + 1))])
    [vb (decide ((↑(i + (1 : Nat)) : Int) < (↑(ByteArray.size s) : Int))) = vb true,
    (0 : Int) ≤ (↑(i + (1 : Nat)) : Int) ∧ (↑(i + (1 : Nat)) : Int) < (↑(ByteArray.size s) : Int),
    Value.pointer (some { block := (26 : Nat), off := (0 : Nat) + Int.toNat (↑(i + (1 : Nat)) : Int) * (1 : Nat) }) = Value.pointer (some { block := (26 : Nat), off := i + (1 : Nat) }),
    (byteCells s)[i + (1 : Nat)]? = some (v8 z),
    v32 (IntKind.wrap IntKind.i32 z) = v32 z,
    vs (Utf8.encode z) = vs (runeS z),
    evO ov lf 17 29 [vs (runeS z)] { n := 27, objs := ob (byteCells s) 5 5 1 :: r } = some (vb true, { n := 27, objs := ob (byteCells s) 5 5 1 :: r }, []),
    vi (IntKind.wrap IntKind.i64 ((↑(i + (1 : Nat)) : Int) + (1 : Int))) = vi ((↑(i + (1 : Nat)) : Int) + (1 : Int))] (by kernel_rfl)
    ⟨Dg.vtrue (by omega), by omega, Dg.ptr_eq (by omega), hz, by simp only [Dg.w_u8, Dg.w_u16, Dg.w_u32, Dg.w_i8, Dg.w_i32, Value.int.injEq, true_and]; omega, rfl, hm _, Dg.i64_eq rfl (by omega) (by omega), trivial⟩
--> wbA_26
--< wbB_26
theorem wbB_26 (ov : Ev) (lf : Nat) (t : TypeId) (s : ByteArray) (r : List AObj) (i : Nat) (z0 : Int) (z : Int) (hz : (byteCells s)[i + 1]? = some (v8 z)) (hr : 0 ≤ z ∧ z < 256) (hi : i + 1 < ByteArray.size s) (hsz : ByteArray.size s ≤ 9223372036854775807) (hm : ∀ (H : Heap), evO ov lf 17 29 [vs (runeS z)] H = some (vb false, H, [])) :
    (runW_26 ov lf) (Wb_26 t s r (i + 1) z0) = some (Ex.exit 0, ({ ts := [vf t (pt 18), vs { data := #[63] }, undef, undef, Value.nilIface, undef, v8 z, junk, junk, junk, junk, junk, junk, junk, junk, junk, sp 26 (ByteArray.size s) (ByteArray.size s), vi (↑(ByteArray.size s) : Int), vi (↑(i + 1) : Int), vb true, po 26 (i + 1), v8 z, v8 z, v32 z, vs (runeS z), vb false, vb true, junk, junk, junk, junk, junk, junk, junk, junk, junk], H := { n := 27, objs := ob (byteCells s) 5 5 1 :: r }, log := [] } : St)) :=
  Dg.evCode_hint (f := 10) (hs' := []) (hs := [qv 10 19 (vb true),
    qs 10 20 (po 26 (i + 1)),
    qs 10 21 (v8 z),
    qv 10 23 (v32 z),
    qv 10 24 (vs (runeS z)),
    qc 29 (vb false) { n := 27, objs := ob (byteCells s) 5 5 1 :: r } []])
    [vb (decide ((↑(i + (1 : Nat)) : Int) < (↑(ByteArray.size s) : Int))) = vb true,
    (0 : Int) ≤ (↑(i + (1 : Nat)) : Int) ∧ (↑(i + (1 : Nat)) : Int) < (↑(ByteArray.size s) : Int),
    Value.pointer (some { block := (26 : Nat), off := (0 : Nat) + Int.toNat (↑(i + (1 : Nat)) : Int) * (1 : Nat) }) = Value.pointer (some { block := (26 : Nat), off := i + (1 : Nat) }),
    (byteCells s)[i + (1 : Nat)]? = some (v8 z),
    v32 (IntKind.wrap IntKind.i32 z) = v32 z,
    vs (Utf8.encode z) = vs (runeS z),
    evO ov lf 17 29 [vs (runeS z)] { n := 27, objs := ob (byteCells s) 5 5 1 :: r } = some (vb false, { n := 27, objs := ob (byteCells s) 5 5 1 :: r }, [])] (by kernel_rfl)
    ⟨Dg.vtrue (by omega), by omega, Dg.ptr_eq (by omega), hz, by simp only [Dg.w_u8, Dg.w_u16, Dg.w_u32, Dg.w_i8, Dg.w_i32, Value.int.injEq, true_and]; omega, rfl, hm _, trivial⟩
--> wbB_26
--< waC_26
theorem waC_26 (ov : Ev) (lf : Nat) (t : TypeId) (s : ByteArray) (r : List AObj) (h0 : ByteArray.size s = 0) :
    (runW_26 ov lf) (Wa_26 t s r) = some (Ex.exit 0, ({ ts := [vf t (pt 18), vs s, undef, undef, Value.nilIface, undef, undef, junk, junk, junk, junk, junk, junk, junk, junk, junk, sp 26 (ByteArray.size s) (ByteArray.size s), vi (↑(ByteArray.size s) : Int), vi 0, vb false, junk, junk, junk, junk, junk, junk, junk, junk, junk, junk, junk, junk, junk, junk, junk, junk], H := { n := 27, objs := ob (byteCells s) 5 5 1 :: r }, log := [] } : St)) :=
  Dg.evCode_hint (f := 10) (hs' := []) (hs := [qv 10 19 (vb false)])
    [vb (decide ((0 : Int) < (↑(ByteArray.size s) : Int))) = vb false] (by kernel_rfl)
    ⟨Dg.vfalse (by omega), trivial⟩
--> waC_26
--< wbC_26
theorem wbC_26 (ov : Ev) (lf : Nat) (t : TypeId) (s : ByteArray) (r : List AObj) (i : Nat) (z0 : Int) (h0 : ByteArray.size s = i) :
    (runW_26 ov lf) (Wb_26 t s r i z0) = some (Ex.exit 0, ({ ts := [vf t (pt 18), vs s, undef, undef, Value.nilIface, undef, v8 z0, junk, junk, junk, junk, junk, junk, junk, junk, junk, sp 26 (ByteArray.size s) (ByteArray.size s), vi (↑(ByteArray.size s) : Int), vi (↑i : Int), vb false, junk, junk, junk, junk, junk, junk, junk, junk, junk, junk, junk, junk, junk, junk, junk, junk], H := { n := 27, objs := ob (byteCells s) 5 5 1 :: r }, log := [] } : St)) :=
  Dg.evCode_hint (f := 10) (hs' := []) (hs := [qv 10 19 (vb false)])
    [vb (decide ((↑i : Int) < (↑(ByteArray.size s) : Int))) = vb false] (by kernel_rfl)
    ⟨Dg.vfalse (by omega), trivial⟩
--> wbC_26
/-- The loop: a sign that may not be makes the word strange. -/
theorem loopW_26 (ov : Ev) (ho : MayOk ov) (lf : Nat) (t : TypeId) (l : List UInt8) (r : List AObj) (hl : l.length < lf) (hsz : l.length ≤ 9223372036854775807) :
    ∃ w c i g, (∀ s0, clW_26 s0 = Wa_26 t (bs l) r → evLoop (runW_26 ov lf) clW_26 lf s0 = some (.exit 0, EW_26 t (bs l) r w c i g)) ∧ (allIn l = true ∧ w = bs l ∨ allIn l = false ∧ w = qm) := by
  have hs : (bs l).size = l.length := bs_size l
  have step : ∀ j (hj : j < l.length) (b : Bool), inB l[j].toNat = b → ∀ H, evO ov lf 17 29 [.string (runeS ((l[j].toNat : Nat) : Int))] H = some (.bool b, H, []) := fun j hj b hb H => by
    refine may_call ho (m := 16) ?_ H
    show oMayS _ = b
    rw [may_rune (l[j].toNat_lt), hb]
  refine loopW_gen (Wb := Wb_26 t (bs l) r) (EW := EW_26 t (bs l) r) hl (fun h => ?_) (fun h hb => ?_) (fun h hb => ?_) (fun i z0 h hb => ?_) (fun i z0 h hb => ?_) (fun i z0 h => ?_)
  · exact ⟨undef, 0, gOf [.bool false], waC_26 ov lf t (bs l) r (by rw [h]; rfl)⟩
  · exact waA_26 ov lf t (bs l) r _ (bc_get _ _ h) (z_rng _) (by rw [hs]; exact h) (by rw [hs]; exact hsz) (step 0 h true hb)
  · exact ⟨.int .u8 ((l[0].toNat : Nat) : Int), 0, gOf (gW 26 0 ((l[0].toNat : Nat) : Int)), waB_26 ov lf t (bs l) r _ (bc_get _ _ h) (z_rng _) (by rw [hs]; exact h) (by rw [hs]; exact hsz) (step 0 h false hb)⟩
  · exact wbA_26 ov lf t (bs l) r i z0 _ (bc_get _ _ h) (z_rng _) (by rw [hs]; exact h) (by rw [hs]; exact hsz) (step (i + 1) h true hb)
  · exact ⟨.int .u8 ((l[i + 1].toNat : Nat) : Int), ((i + 1 : Nat) : Int), gOf (gW 26 (i + 1) ((l[i + 1].toNat : Nat) : Int)), wbB_26 ov lf t (bs l) r i z0 _ (bc_get _ _ h) (z_rng _) (by rw [hs]; exact h) (by rw [hs]; exact hsz) (step (i + 1) h false hb)⟩
  · exact ⟨.int .u8 z0, ((i + 1 : Nat) : Int), gOf [.bool false], wbC_26 ov lf t (bs l) r (i + 1) z0 (by rw [hs]; exact h)⟩
--< wrt_26
theorem wrt_26 (o : Ev) (lf : Nat) (t : TypeId) (s : ByteArray) (r : List AObj) (c0 : Int) (hk : evO (noW o) lf 17 28 [vf t (pt 18)] { n := 26, objs := r } = some (vi c0, { n := 26, objs := r }, [])) (h8 : c0 < 8) (w : ByteArray) (c : Value) (i : Int) (g : Nat → Value) (hl : ∀ (s0 : St), clW_26 s0 = Wa_26 t s r → evLoop (runW_26 (noW o) lf) clW_26 lf s0 = some (Ex.exit 0, EW_26 t s r w c i g)) (hm : ∀ (H : Heap), evO (noW o) lf 17 29 [vs w] H = some (vb true, H, [])) :
    evO (noW o) lf 18 10 [vf t (pt 18), vs s] { n := 26, objs := r } = some (vf 67 (pt 26), { n := 27, objs := ob [vs w, vf t (pt 18)] 69 0 1 :: r }, []) :=
  Dg.evCall_hint (hs' := []) (hs := [qc 28 (vi c0) { n := 26, objs := r } [],
    qv 10 12 (vb false),
    Hint.loop 10 (Ex.exit 0) (EW_26 t s r w c i g),
    qc 29 (vb true) { n := 27, objs := ob (byteCells s) 5 5 1 :: r } []])
    [evO (noW o) lf 17 28 [vf t (pt 18)] { n := 26, objs := r } = some (vi c0, { n := 26, objs := r }, []),
    vb (decide (c0 ≥ (8 : Int))) = vb false,
    evLoop (runW_26 (noW o) lf) clW_26 lf { ts := [vf t (pt 18), vs s, undef, undef, Value.nilIface, undef, undef, vf t (pt 18), vb false, vb false, vf t (pt 18), vi c0, vb false, vb false, undef, vs s, sp 26 (ByteArray.size s) (ByteArray.size s), vi (↑(ByteArray.size s) : Int), vi 0, undef, undef, undef, undef, undef, undef, undef, undef, undef, undef, undef, undef, undef, undef, undef, undef, undef], H := { n := 27, objs := ob (byteCells s) 5 5 1 :: r }, log := [] } = some (Ex.exit 0, EW_26 t s r w c i g),
    evO (noW o) lf 17 29 [vs w] { n := 27, objs := ob (byteCells s) 5 5 1 :: r } = some (vb true, { n := 27, objs := ob (byteCells s) 5 5 1 :: r }, [])] (by kernel_rfl)
    ⟨hk, Dg.vfalse (by omega), hl _ (by kernel_rfl), hm _, trivial⟩
--> wrt_26
--< wrf_26
theorem wrf_26 (o : Ev) (lf : Nat) (t : TypeId) (s : ByteArray) (r : List AObj) (c0 : Int) (hk : evO (noW o) lf 17 28 [vf t (pt 18)] { n := 26, objs := r } = some (vi c0, { n := 26, objs := r }, [])) (h8 : c0 < 8) (w : ByteArray) (c : Value) (i : Int) (g : Nat → Value) (hl : ∀ (s0 : St), clW_26 s0 = Wa_26 t s r → evLoop (runW_26 (noW o) lf) clW_26 lf s0 = some (Ex.exit 0, EW_26 t s r w c i g)) (hm : ∀ (H : Heap), evO (noW o) lf 17 29 [vs w] H = some (vb false, H, [])) :
    evO (noW o) lf 18 10 [vf t (pt 18), vs s] { n := 26, objs := r } = some (vf 67 (pt 26), { n := 27, objs := ob [vs { data := #[63] }, vf t (pt 18)] 69 0 1 :: r }, []) :=
  Dg.evCall_hint (hs' := []) (hs := [qc 28 (vi c0) { n := 26, objs := r } [],
    qv 10 12 (vb false),
    Hint.loop 10 (Ex.exit 0) (EW_26 t s r w c i g),
    qc 29 (vb false) { n := 27, objs := ob (byteCells s) 5 5 1 :: r } []])
    [evO (noW o) lf 17 28 [vf t (pt 18)] { n := 26, objs := r } = some (vi c0, { n := 26, objs := r }, []),
    vb (decide (c0 ≥ (8 : Int))) = vb false,
    evLoop (runW_26 (noW o) lf) clW_26 lf { ts := [vf t (pt 18), vs s, undef, undef, Value.nilIface, undef, undef, vf t (pt 18), vb false, vb false, vf t (pt 18), vi c0, vb false, vb false, undef, vs s, sp 26 (ByteArray.size s) (ByteArray.size s), vi (↑(ByteArray.size s) : Int), vi 0, undef, undef, undef, undef, undef, undef, undef, undef, undef, undef, undef, undef, undef, undef, undef, undef, undef], H := { n := 27, objs := ob (byteCells s) 5 5 1 :: r }, log := [] } = some (Ex.exit 0, EW_26 t s r w c i g),
    evO (noW o) lf 17 29 [vs w] { n := 27, objs := ob (byteCells s) 5 5 1 :: r } = some (vb false, { n := 27, objs := ob (byteCells s) 5 5 1 :: r }, [])] (by kernel_rfl)
    ⟨hk, Dg.vfalse (by omega), hl _ (by kernel_rfl), hm _, trivial⟩
--> wrf_26
theorem wr_26 (o : Ev) (ho : MayOk (noW o)) (lf : Nat) (t : TypeId) (s : ByteArray) (r : List AObj) (c0 : Int) (hk : evO (noW o) lf 17 28 [.iface t (.pointer (some ⟨18, 0, none⟩))] ⟨26, r⟩ = some (.int .i64 c0, ⟨26, r⟩, [])) (h8 : c0 < 8) (hl : s.size < lf) (hsz : s.size ≤ 9223372036854775807) :
    evO (noW o) lf 18 10 [.iface t (.pointer (some ⟨18, 0, none⟩)), .string s] ⟨26, r⟩ = some (.iface 67 (.pointer (some ⟨26, 0, none⟩)), ⟨27, .cells [.string (wordOf s), .iface t (.pointer (some ⟨18, 0, none⟩))] 69 0 1 :: r⟩, []) := by
  have hlen : s.data.toList.length = s.size := by rw [← bs_size s.data.toList, bs_of]
  obtain ⟨w, c, i, g, h1, h2⟩ := loopW_26 (noW o) ho lf t s.data.toList r (by omega) (by omega)
  rw [bs_of] at h1 h2
  unfold wordOf
  rcases h2 with ⟨hA, rfl⟩ | ⟨hA, rfl⟩
  · cases hm : mayL w.data.toList with
    | true => exact wrt_26 o lf t w r c0 hk h8 w c i g h1 (may_call ho (m := 16) hm)
    | false => exact wrf_26 o lf t w r c0 hk h8 w c i g h1 (may_call ho (m := 16) hm)
  · have hm : mayL s.data.toList = false := by unfold mayL; rw [hA]; simp
    rw [hm]
    exact wrf_26 o lf t s r c0 hk h8 qm c i g h1 (may_call ho (m := 16) (by kernel_rfl))

/-! ### n objects: 27; the error's: 18. -/
noncomputable abbrev runW_27 (ov : Ev) (lf : Nat) : St → Option (Ex × St) := evCode Tryz.prog 15 (bodied Tryz.prog) (evO ov lf 17) 27 7 lf lW
noncomputable abbrev clW_27 : St → St := cleanSt 27 7 (ue lW [] []).1
def TW_27 (t : TypeId) (s w : ByteArray) (c : Value) (i : Int) : List Value := [.iface t (.pointer (some ⟨18, 0, none⟩)), .string w, undef, undef, .nilIface, undef, c] ++ (js 9 ++ ([.slice (some ⟨27, 0, some 0⟩) s.size s.size, .int .i64 s.size, .int .i64 i] ++ js 17))
def HW_27 (s : ByteArray) (r : List AObj) : Heap := ⟨28, .cells (byteCells s) 5 5 1 :: r⟩
def Wa_27 (t : TypeId) (s : ByteArray) (r : List AObj) : St := ⟨TW_27 t s s undef 0, HW_27 s r, []⟩
def Wb_27 (t : TypeId) (s : ByteArray) (r : List AObj) (i : Nat) (z : Int) : St := ⟨TW_27 t s s (.int .u8 z) (i : Int), HW_27 s r, []⟩
/-- The state behind the loop; what nothing reads any more is left open. -/
def EW_27 (t : TypeId) (s : ByteArray) (r : List AObj) (w : ByteArray) (c : Value) (i : Int) (g : Nat → Value) : St := ⟨[.iface t (.pointer (some ⟨18, 0, none⟩)), .string w, undef, undef, .nilIface, undef, c] ++ (js 9 ++ ([.slice (some ⟨27, 0, some 0⟩) s.size s.size, .int .i64 s.size, .int .i64 i] ++ [g 19, g 20, g 21, g 22, g 23, g 24, g 25, g 26, g 27, g 28, g 29, g 30, g 31, g 32, g 33, g 34, g 35])), HW_27 s r, []⟩
--< waA_27
theorem waA_27 (ov : Ev) (lf : Nat) (t : TypeId) (s : ByteArray) (r : List AObj) (z : Int) (hz : (byteCells s)[0]? = some (v8 z)) (hr : 0 ≤ z ∧ z < 256) (hi : 0 < ByteArray.size s) (hsz : ByteArray.size s ≤ 9223372036854775807) (hm : ∀ (H : Heap), evO ov lf 17 29 [vs (runeS z)] H = some (vb true, H, [])) :
    ∃ s', (runW_27 ov lf) (Wa_27 t s r) = some (Ex.normal, s') ∧ clW_27 s' = Wb_27 t s r 1 z :=
  Dg.code_round (f := 10) clW_27 (hs := [qv 10 19 (vb true),
    qs 10 20 (pt 27),
    qs 10 21 (v8 z),
    qv 10 23 (v32 z),
    qv 10 24 (vs (runeS z)),
    qc 29 (vb true) { n := 28, objs := ob (byteCells s) 5 5 1 :: r } []])
    [vb (decide ((0 : Int) < (↑(ByteArray.size s) : Int))) = vb true,
    (0 : Int) ≤ (0 : Int) ∧ (0 : Int) < (↑(ByteArray.size s) : Int),
    Value.pointer (some { block := (27 : Nat), off := (0 : Nat) }) = Value.pointer (some { block := (27 : Nat), off := (0 : Nat) }),
    (byteCells s)[(0 : Nat)]? = some (v8 z),
    v32 (IntKind.wrap IntKind.i32 z) = v32 z,
    vs (Utf8.encode z) = vs (runeS z),
    evO ov lf 17 29 [vs (runeS z)] { n := 28, objs := ob (byteCells s) 5 5 1 :: r } = some (vb true, { n := 28, objs := ob (byteCells s) 5 5 1 :: r }, [])] (by kernel_rfl)
    ⟨Dg.vtrue (by omega), by omega, rfl, hz, by simp only [Dg.w_u8, Dg.w_u16, Dg.w_u32, Dg.w_i8, Dg.w_i32, Value.int.injEq, true_and]; omega, rfl, hm _, trivial⟩
--> waA_27
--< waB_27
theorem waB_27 (ov : Ev) (lf : Nat) (t : TypeId) (s : ByteArray) (r : List AObj) (z : Int) (hz : (byteCells s)[0]? = some (v8 z)) (hr : 0 ≤ z ∧ z < 256) (hi : 0 < ByteArray.size s) (hsz : ByteArray.size s ≤ 9223372036854775807) (hm : ∀ (H : Heap), evO ov lf 17 29 [vs (runeS z)] H = some (vb false, H, [])) :
    (runW_27 ov lf) (Wa_27 t s r) = some (Ex.exit 0, ({ ts := [vf t (pt 18), vs { data := #[63] }, undef, undef, Value.nilIface, undef, v8 z, junk, junk, junk, junk, junk, junk, junk, junk, junk, sp 27 (ByteArray.size s) (ByteArray.size s), vi (↑(ByteArray.size s) : Int), vi 0, vb true, pt 27, v8 z, v8 z, v32 z, vs (runeS z), vb false, vb true, junk, junk, junk, junk, junk, junk, junk, junk, junk], H := { n := 28, objs := ob (byteCells s) 5 5 1 :: r }, log := [] } : St)) :=
  Dg.evCode_hint (f := 10) (hs' := []) (hs := [qv 10 19 (vb true),
    qs 10 20 (pt 27),
    qs 10 21 (v8 z),
    qv 10 23 (v32 z),
    qv 10 24 (vs (runeS z)),
    qc 29 (vb false) { n := 28, objs := ob (byteCells s) 5 5 1 :: r } []])
    [vb (decide ((0 : Int) < (↑(ByteArray.size s) : Int))) = vb true,
    (0 : Int) ≤ (0 : Int) ∧ (0 : Int) < (↑(ByteArray.size s) : Int),
    Value.pointer (some { block := (27 : Nat), off := (0 : Nat) }) = Value.pointer (some { block := (27 : Nat), off := (0 : Nat) }),
    (byteCells s)[(0 : Nat)]? = some (v8 z),
    v32 (IntKind.wrap IntKind.i32 z) = v32 z,
    vs (Utf8.encode z) = vs (runeS z),
    evO ov lf 17 29 [vs (runeS z)] { n := 28, objs := ob (byteCells s) 5 5 1 :: r } = some (vb false, { n := 28, objs := ob (byteCells s) 5 5 1 :: r }, [])] (by kernel_rfl)
    ⟨Dg.vtrue (by omega), by omega, rfl, hz, by simp only [Dg.w_u8, Dg.w_u16, Dg.w_u32, Dg.w_i8, Dg.w_i32, Value.int.injEq, true_and]; omega, rfl, hm _, trivial⟩
--> waB_27
--< wbA_27
theorem wbA_27 (ov : Ev) (lf : Nat) (t : TypeId) (s : ByteArray) (r : List AObj) (i : Nat) (z0 : Int) (z : Int) (hz : (byteCells s)[i + 1]? = some (v8 z)) (hr : 0 ≤ z ∧ z < 256) (hi : i + 1 < ByteArray.size s) (hsz : ByteArray.size s ≤ 9223372036854775807) (hm : ∀ (H : Heap), evO ov lf 17 29 [vs (runeS z)] H = some (vb true, H, [])) :
    ∃ s', (runW_27 ov lf) (Wb_27 t s r (i + 1) z0) = some (Ex.normal, s') ∧ clW_27 s' = Wb_27 t s r (i + 1 + 1) z :=
  Dg.code_round (f := 10) clW_27 (hs := [qv 10 19 (vb true),
    qs 10 20 (po 27 (i + 1)),
    qs 10 21 (v8 z),
    qv 10 23 (v32 z),
    qv 10 24 (vs (runeS z)),
    qc 29 (vb true) { n := 28, objs := ob (byteCells s) 5 5 1 :: r } [],
    qv 10 27 (vi ((↑(i + 1) : Int) + 1))])
    [vb (decide ((↑(i + (1 : Nat)) : Int) < (↑(ByteArray.size s) : Int))) = vb true,
    (0 : Int) ≤ (↑(i + (1 : Nat)) : Int) ∧ (↑(i + (1 : Nat)) : Int) < (↑(ByteArray.size s) : Int),
    Value.pointer (some { block := (27 : Nat), off := (0 : Nat) + Int.toNat (↑(i + (1 : Nat)) : Int) * (1 : Nat) }) = Value.pointer (some { block := (27 : Nat), off := i + (1 : Nat) }),
    (byteCells s)[i + (1 : Nat)]? = some (v8 z),
    v32 (IntKind.wrap IntKind.i32 z) = v32 z,
    vs (Utf8.encode z) = vs (runeS z),
    evO ov lf 17 29 [vs (runeS z)] { n := 28, objs := ob (byteCells s) 5 5 1 :: r } = some (vb true, { n := 28, objs := ob (byteCells s) 5 5 1 :: r }, []),
    vi (IntKind.wrap IntKind.i64 ((↑(i + (1 : Nat)) : Int) + (1 : Int))) = vi ((↑(i + (1 : Nat)) : Int) + (1 : Int))] (by kernel_rfl)
    ⟨Dg.vtrue (by omega), by omega, Dg.ptr_eq (by omega), hz, by simp only [Dg.w_u8, Dg.w_u16, Dg.w_u32, Dg.w_i8, Dg.w_i32, Value.int.injEq, true_and]; omega, rfl, hm _, Dg.i64_eq rfl (by omega) (by omega), trivial⟩
--> wbA_27
--< wbB_27
theorem wbB_27 (ov : Ev) (lf : Nat) (t : TypeId) (s : ByteArray) (r : List AObj) (i : Nat) (z0 : Int) (z : Int) (hz : (byteCells s)[i + 1]? = some (v8 z)) (hr : 0 ≤ z ∧ z < 256) (hi : i + 1 < ByteArray.size s) (hsz : ByteArray.size s ≤ 9223372036854775807) (hm : ∀ (H : Heap), evO ov lf 17 29 [vs (runeS z)] H = some (vb false, H, [])) :
    (runW_27 ov lf) (Wb_27 t s r (i + 1) z0) = some (Ex.exit 0, ({ ts := [vf t (pt 18), vs { data := #[63] }, undef, undef, Value.nilIface, undef, v8 z, junk, junk, junk, junk, junk, junk, junk, junk, junk, sp 27 (ByteArray.size s) (ByteArray.size s), vi (↑(ByteArray.size s) : Int), vi (↑(i + 1) : Int), vb true, po 27 (i + 1), v8 z, v8 z, v32 z, vs (runeS z), vb false, vb true, junk, junk, junk, junk, junk, junk, junk, junk, junk], H := { n := 28, objs := ob (byteCells s) 5 5 1 :: r }, log := [] } : St)) :=
  Dg.evCode_hint (f := 10) (hs' := []) (hs := [qv 10 19 (vb true),
    qs 10 20 (po 27 (i + 1)),
    qs 10 21 (v8 z),
    qv 10 23 (v32 z),
    qv 10 24 (vs (runeS z)),
    qc 29 (vb false) { n := 28, objs := ob (byteCells s) 5 5 1 :: r } []])
    [vb (decide ((↑(i + (1 : Nat)) : Int) < (↑(ByteArray.size s) : Int))) = vb true,
    (0 : Int) ≤ (↑(i + (1 : Nat)) : Int) ∧ (↑(i + (1 : Nat)) : Int) < (↑(ByteArray.size s) : Int),
    Value.pointer (some { block := (27 : Nat), off := (0 : Nat) + Int.toNat (↑(i + (1 : Nat)) : Int) * (1 : Nat) }) = Value.pointer (some { block := (27 : Nat), off := i + (1 : Nat) }),
    (byteCells s)[i + (1 : Nat)]? = some (v8 z),
    v32 (IntKind.wrap IntKind.i32 z) = v32 z,
    vs (Utf8.encode z) = vs (runeS z),
    evO ov lf 17 29 [vs (runeS z)] { n := 28, objs := ob (byteCells s) 5 5 1 :: r } = some (vb false, { n := 28, objs := ob (byteCells s) 5 5 1 :: r }, [])] (by kernel_rfl)
    ⟨Dg.vtrue (by omega), by omega, Dg.ptr_eq (by omega), hz, by simp only [Dg.w_u8, Dg.w_u16, Dg.w_u32, Dg.w_i8, Dg.w_i32, Value.int.injEq, true_and]; omega, rfl, hm _, trivial⟩
--> wbB_27
--< waC_27
theorem waC_27 (ov : Ev) (lf : Nat) (t : TypeId) (s : ByteArray) (r : List AObj) (h0 : ByteArray.size s = 0) :
    (runW_27 ov lf) (Wa_27 t s r) = some (Ex.exit 0, ({ ts := [vf t (pt 18), vs s, undef, undef, Value.nilIface, undef, undef, junk, junk, junk, junk, junk, junk, junk, junk, junk, sp 27 (ByteArray.size s) (ByteArray.size s), vi (↑(ByteArray.size s) : Int), vi 0, vb false, junk, junk, junk, junk, junk, junk, junk, junk, junk, junk, junk, junk, junk, junk, junk, junk], H := { n := 28, objs := ob (byteCells s) 5 5 1 :: r }, log := [] } : St)) :=
  Dg.evCode_hint (f := 10) (hs' := []) (hs := [qv 10 19 (vb false)])
    [vb (decide ((0 : Int) < (↑(ByteArray.size s) : Int))) = vb false] (by kernel_rfl)
    ⟨Dg.vfalse (by omega), trivial⟩
--> waC_27
--< wbC_27
theorem wbC_27 (ov : Ev) (lf : Nat) (t : TypeId) (s : ByteArray) (r : List AObj) (i : Nat) (z0 : Int) (h0 : ByteArray.size s = i) :
    (runW_27 ov lf) (Wb_27 t s r i z0) = some (Ex.exit 0, ({ ts := [vf t (pt 18), vs s, undef, undef, Value.nilIface, undef, v8 z0, junk, junk, junk, junk, junk, junk, junk, junk, junk, sp 27 (ByteArray.size s) (ByteArray.size s), vi (↑(ByteArray.size s) : Int), vi (↑i : Int), vb false, junk, junk, junk, junk, junk, junk, junk, junk, junk, junk, junk, junk, junk, junk, junk, junk], H := { n := 28, objs := ob (byteCells s) 5 5 1 :: r }, log := [] } : St)) :=
  Dg.evCode_hint (f := 10) (hs' := []) (hs := [qv 10 19 (vb false)])
    [vb (decide ((↑i : Int) < (↑(ByteArray.size s) : Int))) = vb false] (by kernel_rfl)
    ⟨Dg.vfalse (by omega), trivial⟩
--> wbC_27
/-- The loop: a sign that may not be makes the word strange. -/
theorem loopW_27 (ov : Ev) (ho : MayOk ov) (lf : Nat) (t : TypeId) (l : List UInt8) (r : List AObj) (hl : l.length < lf) (hsz : l.length ≤ 9223372036854775807) :
    ∃ w c i g, (∀ s0, clW_27 s0 = Wa_27 t (bs l) r → evLoop (runW_27 ov lf) clW_27 lf s0 = some (.exit 0, EW_27 t (bs l) r w c i g)) ∧ (allIn l = true ∧ w = bs l ∨ allIn l = false ∧ w = qm) := by
  have hs : (bs l).size = l.length := bs_size l
  have step : ∀ j (hj : j < l.length) (b : Bool), inB l[j].toNat = b → ∀ H, evO ov lf 17 29 [.string (runeS ((l[j].toNat : Nat) : Int))] H = some (.bool b, H, []) := fun j hj b hb H => by
    refine may_call ho (m := 16) ?_ H
    show oMayS _ = b
    rw [may_rune (l[j].toNat_lt), hb]
  refine loopW_gen (Wb := Wb_27 t (bs l) r) (EW := EW_27 t (bs l) r) hl (fun h => ?_) (fun h hb => ?_) (fun h hb => ?_) (fun i z0 h hb => ?_) (fun i z0 h hb => ?_) (fun i z0 h => ?_)
  · exact ⟨undef, 0, gOf [.bool false], waC_27 ov lf t (bs l) r (by rw [h]; rfl)⟩
  · exact waA_27 ov lf t (bs l) r _ (bc_get _ _ h) (z_rng _) (by rw [hs]; exact h) (by rw [hs]; exact hsz) (step 0 h true hb)
  · exact ⟨.int .u8 ((l[0].toNat : Nat) : Int), 0, gOf (gW 27 0 ((l[0].toNat : Nat) : Int)), waB_27 ov lf t (bs l) r _ (bc_get _ _ h) (z_rng _) (by rw [hs]; exact h) (by rw [hs]; exact hsz) (step 0 h false hb)⟩
  · exact wbA_27 ov lf t (bs l) r i z0 _ (bc_get _ _ h) (z_rng _) (by rw [hs]; exact h) (by rw [hs]; exact hsz) (step (i + 1) h true hb)
  · exact ⟨.int .u8 ((l[i + 1].toNat : Nat) : Int), ((i + 1 : Nat) : Int), gOf (gW 27 (i + 1) ((l[i + 1].toNat : Nat) : Int)), wbB_27 ov lf t (bs l) r i z0 _ (bc_get _ _ h) (z_rng _) (by rw [hs]; exact h) (by rw [hs]; exact hsz) (step (i + 1) h false hb)⟩
  · exact ⟨.int .u8 z0, ((i + 1 : Nat) : Int), gOf [.bool false], wbC_27 ov lf t (bs l) r (i + 1) z0 (by rw [hs]; exact h)⟩
--< wrt_27
theorem wrt_27 (o : Ev) (lf : Nat) (t : TypeId) (s : ByteArray) (r : List AObj) (c0 : Int) (hk : evO (noW o) lf 17 28 [vf t (pt 18)] { n := 27, objs := r } = some (vi c0, { n := 27, objs := r }, [])) (h8 : c0 < 8) (w : ByteArray) (c : Value) (i : Int) (g : Nat → Value) (hl : ∀ (s0 : St), clW_27 s0 = Wa_27 t s r → evLoop (runW_27 (noW o) lf) clW_27 lf s0 = some (Ex.exit 0, EW_27 t s r w c i g)) (hm : ∀ (H : Heap), evO (noW o) lf 17 29 [vs w] H = some (vb true, H, [])) :
    evO (noW o) lf 18 10 [vf t (pt 18), vs s] { n := 27, objs := r } = some (vf 67 (pt 27), { n := 28, objs := ob [vs w, vf t (pt 18)] 69 0 1 :: r }, []) :=
  Dg.evCall_hint (hs' := []) (hs := [qc 28 (vi c0) { n := 27, objs := r } [],
    qv 10 12 (vb false),
    Hint.loop 10 (Ex.exit 0) (EW_27 t s r w c i g),
    qc 29 (vb true) { n := 28, objs := ob (byteCells s) 5 5 1 :: r } []])
    [evO (noW o) lf 17 28 [vf t (pt 18)] { n := 27, objs := r } = some (vi c0, { n := 27, objs := r }, []),
    vb (decide (c0 ≥ (8 : Int))) = vb false,
    evLoop (runW_27 (noW o) lf) clW_27 lf { ts := [vf t (pt 18), vs s, undef, undef, Value.nilIface, undef, undef, vf t (pt 18), vb false, vb false, vf t (pt 18), vi c0, vb false, vb false, undef, vs s, sp 27 (ByteArray.size s) (ByteArray.size s), vi (↑(ByteArray.size s) : Int), vi 0, undef, undef, undef, undef, undef, undef, undef, undef, undef, undef, undef, undef, undef, undef, undef, undef, undef], H := { n := 28, objs := ob (byteCells s) 5 5 1 :: r }, log := [] } = some (Ex.exit 0, EW_27 t s r w c i g),
    evO (noW o) lf 17 29 [vs w] { n := 28, objs := ob (byteCells s) 5 5 1 :: r } = some (vb true, { n := 28, objs := ob (byteCells s) 5 5 1 :: r }, [])] (by kernel_rfl)
    ⟨hk, Dg.vfalse (by omega), hl _ (by kernel_rfl), hm _, trivial⟩
--> wrt_27
--< wrf_27
theorem wrf_27 (o : Ev) (lf : Nat) (t : TypeId) (s : ByteArray) (r : List AObj) (c0 : Int) (hk : evO (noW o) lf 17 28 [vf t (pt 18)] { n := 27, objs := r } = some (vi c0, { n := 27, objs := r }, [])) (h8 : c0 < 8) (w : ByteArray) (c : Value) (i : Int) (g : Nat → Value) (hl : ∀ (s0 : St), clW_27 s0 = Wa_27 t s r → evLoop (runW_27 (noW o) lf) clW_27 lf s0 = some (Ex.exit 0, EW_27 t s r w c i g)) (hm : ∀ (H : Heap), evO (noW o) lf 17 29 [vs w] H = some (vb false, H, [])) :
    evO (noW o) lf 18 10 [vf t (pt 18), vs s] { n := 27, objs := r } = some (vf 67 (pt 27), { n := 28, objs := ob [vs { data := #[63] }, vf t (pt 18)] 69 0 1 :: r }, []) :=
  Dg.evCall_hint (hs' := []) (hs := [qc 28 (vi c0) { n := 27, objs := r } [],
    qv 10 12 (vb false),
    Hint.loop 10 (Ex.exit 0) (EW_27 t s r w c i g),
    qc 29 (vb false) { n := 28, objs := ob (byteCells s) 5 5 1 :: r } []])
    [evO (noW o) lf 17 28 [vf t (pt 18)] { n := 27, objs := r } = some (vi c0, { n := 27, objs := r }, []),
    vb (decide (c0 ≥ (8 : Int))) = vb false,
    evLoop (runW_27 (noW o) lf) clW_27 lf { ts := [vf t (pt 18), vs s, undef, undef, Value.nilIface, undef, undef, vf t (pt 18), vb false, vb false, vf t (pt 18), vi c0, vb false, vb false, undef, vs s, sp 27 (ByteArray.size s) (ByteArray.size s), vi (↑(ByteArray.size s) : Int), vi 0, undef, undef, undef, undef, undef, undef, undef, undef, undef, undef, undef, undef, undef, undef, undef, undef, undef], H := { n := 28, objs := ob (byteCells s) 5 5 1 :: r }, log := [] } = some (Ex.exit 0, EW_27 t s r w c i g),
    evO (noW o) lf 17 29 [vs w] { n := 28, objs := ob (byteCells s) 5 5 1 :: r } = some (vb false, { n := 28, objs := ob (byteCells s) 5 5 1 :: r }, [])] (by kernel_rfl)
    ⟨hk, Dg.vfalse (by omega), hl _ (by kernel_rfl), hm _, trivial⟩
--> wrf_27
theorem wr_27 (o : Ev) (ho : MayOk (noW o)) (lf : Nat) (t : TypeId) (s : ByteArray) (r : List AObj) (c0 : Int) (hk : evO (noW o) lf 17 28 [.iface t (.pointer (some ⟨18, 0, none⟩))] ⟨27, r⟩ = some (.int .i64 c0, ⟨27, r⟩, [])) (h8 : c0 < 8) (hl : s.size < lf) (hsz : s.size ≤ 9223372036854775807) :
    evO (noW o) lf 18 10 [.iface t (.pointer (some ⟨18, 0, none⟩)), .string s] ⟨27, r⟩ = some (.iface 67 (.pointer (some ⟨27, 0, none⟩)), ⟨28, .cells [.string (wordOf s), .iface t (.pointer (some ⟨18, 0, none⟩))] 69 0 1 :: r⟩, []) := by
  have hlen : s.data.toList.length = s.size := by rw [← bs_size s.data.toList, bs_of]
  obtain ⟨w, c, i, g, h1, h2⟩ := loopW_27 (noW o) ho lf t s.data.toList r (by omega) (by omega)
  rw [bs_of] at h1 h2
  unfold wordOf
  rcases h2 with ⟨hA, rfl⟩ | ⟨hA, rfl⟩
  · cases hm : mayL w.data.toList with
    | true => exact wrt_27 o lf t w r c0 hk h8 w c i g h1 (may_call ho (m := 16) hm)
    | false => exact wrf_27 o lf t w r c0 hk h8 w c i g h1 (may_call ho (m := 16) hm)
  · have hm : mayL s.data.toList = false := by unfold mayL; rw [hA]; simp
    rw [hm]
    exact wrf_27 o lf t s r c0 hk h8 qm c i g h1 (may_call ho (m := 16) (by kernel_rfl))

--< wr8_28
theorem wr8_28 (o : Ev) (lf : Nat) (t : TypeId) (s : ByteArray) (r : List AObj) (c0 : Int) (hk : evO (noW o) lf 17 28 [vf t (pt 18)] { n := 28, objs := r } = some (vi c0, { n := 28, objs := r }, [])) (h8 : 8 ≤ c0) :
    evO (noW o) lf 18 10 [vf t (pt 18), vs s] { n := 28, objs := r } = some (vf t (pt 18), { n := 28, objs := r }, []) :=
  Dg.evCall_hint (hs' := []) (hs := [qc 28 (vi c0) { n := 28, objs := r } [],
    qv 10 12 (vb true)])
    [evO (noW o) lf 17 28 [vf t (pt 18)] { n := 28, objs := r } = some (vi c0, { n := 28, objs := r }, []),
    vb (decide (c0 ≥ (8 : Int))) = vb true] (by kernel_rfl)
    ⟨hk, Dg.vtrue (by omega), trivial⟩
--> wr8_28
end Go.Proofs.YtpgddboigegplaaGreatDoor.base
