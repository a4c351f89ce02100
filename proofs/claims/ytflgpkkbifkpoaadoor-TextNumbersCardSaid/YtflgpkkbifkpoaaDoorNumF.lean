/- The decimal text of the reference's numbers. -/
import Derived.Test.YtflgpkkbifkpoaaDoorRows
import Derived.Test.YtflgpkkbifkpoaaDoorNumG
import Derived.Laws.Strings
namespace Go.Proofs.YtflgpkkbifkpoaaDoor.num
open Go.Dg (junk St Ex Ev Hint evCall evCallS evCode evCodeK innerKp evCodeS evLoop cleanSt ue bodied noOver sbOf headOf tailOf bodyOf rAssign rBody lBody Flats flatOver Heap AObj SCall Law ofLaw Fix)
set_option linter.unusedVariables false
set_option linter.unusedSimpArgs false

/-- A text of bytes. -/
def txt (zs : List Int) : ByteArray := ⟨(zs.map fun n => UInt8.ofNat n.toNat).toArray⟩
theorem txt_app (a b : List Int) : txt a ++ txt b = txt (a ++ b) := by
  apply ByteArray.ext
  simp [txt, ByteArray.data_append]
theorem txt_size (zs : List Int) : (txt zs).size = zs.length := by simp [txt, ByteArray.size]
theorem txt_list (zs : List Int) : (txt zs).toList = zs.map fun n => UInt8.ofNat n.toNat := by rw [ByteArray.toList_eq]; simp [txt]
theorem siz_one {z : Int} {zs : List Int} (h : zs.length ≤ 1000) : (txt [z]).size + (txt zs).size ≤ 9223372036854775807 := by
  rw [txt_size, txt_size]
  simp only [List.length_cons, List.length_nil]
  omega
theorem str_emp {zs : List Int} (h : zs = []) : Value.bool (ByteArray.toList (txt zs) == ByteArray.toList { data := #[] }) = .bool true := by subst h; rw [txt_list, ByteArray.toList_eq]; rfl
theorem str_nem {zs : List Int} (h : zs ≠ []) : Value.bool (ByteArray.toList (txt zs) == ByteArray.toList { data := #[] }) = .bool false := by
  rw [txt_list, ByteArray.toList_eq]
  cases zs with
  | nil => exact absurd rfl h
  | cons z r => rfl
theorem str_one (z : Int) : Dg.strOf [Value.int .u8 z] 0 1 = some (txt [z]) := Dg.strOf_ints [z] 0 1 (by simp)
theorem cat_one (z : Int) (zs : List Int) : Value.string (txt [z] ++ txt zs) = .string (txt (z :: zs)) := by rw [txt_app]; rfl
/-- The pieces amid a division by ten. -/
def dvK (m k : Nat) : Nat → Nat := fun t => if k ≤ t then limb (m / 10) t else limb m t
theorem dvK_start (m : Nat) : ∀ t, t < 20 → dvK m 20 t = limb m t := fun t ht => by unfold dvK; rw [if_neg (by omega)]
theorem dvK_end (m : Nat) : ∀ t, t < 20 → dvK m 0 t = limb (m / 10) t := fun t ht => by unfold dvK; rw [if_pos (by omega)]
theorem dv_at (m i : Nat) : limN (dvK m (i + 1)) i = ((limb m i : Nat) : Int) := by
  have : ¬ i + 1 ≤ i := by omega
  simp [limN, dvK, this]
theorem dv_is (m i : Nat) : ∀ s, s < 20 → limN (dvK m i) s = if s = i then ((limb (m / 10) i : Nat) : Int) else limN (dvK m (i + 1)) s := limN_if fun s _ => by
  unfold dvK
  by_cases h : s = i
  · subst h; rw [if_pos (Nat.le_refl _), if_pos rfl]
  · rw [if_neg h]
    by_cases h1 : i ≤ s
    · rw [if_pos h1, if_pos (by omega)]
    · rw [if_neg h1, if_neg (by omega)]
def dvx (m i : Nat) : Nat := 65536 * (m / B ^ (i + 1) % 10) + limb m i
theorem dvx_lt (m i : Nat) : dvx m i < 655360 := by
  have : limb m i < 65536 := limb_lt m i
  unfold dvx
  omega
theorem dvx_eq (m i : Nat) : dvx m i = B * (m / B ^ i / B % 10) + m / B ^ i % B := by
  unfold dvx
  rw [Nat.pow_succ, Nat.div_div_eq_div_mul]
  rfl
theorem tmv10 {x d : Nat} (h : d = x % 10) : Value.int .u64 (Int.tmod (x : Int) 10) = .int .u64 (d : Int) := by
  rw [h, Int.tmod_eq_emod_of_nonneg (by omega)]; rfl
theorem tdv10 {x d : Nat} (h : d = x / 10) (hx : x < 18446744073709551616) : Value.int .u64 (IntKind.wrap .u64 (Int.tdiv (x : Int) 10)) = .int .u64 (d : Int) := by
  rw [h, Int.tdiv_eq_ediv_of_nonneg (by omega), Dg.w_u64]
  congr 1
  omega
theorem u8_nat {x : Int} {a : Nat} (h : x = (a : Int)) (hb : a < 256) : Value.int .u8 (IntKind.wrap .u8 x) = .int .u8 (a : Int) := by
  rw [h, Dg.w_u8]; congr 1; omega
theorem dv_q (m i : Nat) : limb (m / 10) i = dvx m i / 10 := by rw [limb_div, ← ten_div, ← dvx_eq]
theorem dv_r (m i : Nat) : m / B ^ i % 10 = dvx m i % 10 := by rw [← ten_mod, ← dvx_eq]
noncomputable def lN : Code := lBody ((Tryd.f11.body).getD .skip)
noncomputable def lD : Code := lBody lN
noncomputable def kN : List Nat := innerKp lN []
noncomputable abbrev runN (d : Nat) (l : Code) (kp : List Nat) : St → Option (Ex × St) := evCodeK Tryd.prog 0 (bodied Tryd.prog) (evCall Tryd.prog 0 (bodied Tryd.prog) ov2 sbs 1000 d) 0 5 1000 l (innerKp l kp)
noncomputable abbrev clN (l : Code) (kp : List Nat) : St → St := cleanSt 0 5 (ue l kp []).1
def TN (b : Bool) (M : Nat) (zs : List Int) (r : List Value) : List Value := [num b M, ptr 0, .string ⟨#[]⟩, .string (txt zs)] ++ r
def oM (b : Bool) (F : Nat → Int) : Heap := ⟨1, [oN b F]⟩
def SD (b : Bool) (M : Nat) (zs : List Int) (F : Nat → Int) (w : Nat) (x : Int) : St := ⟨TN b M zs ([.int .u64 (w : Int), .int .i64 x] ++ js 45), oM b F, []⟩
def ED (b : Bool) (M : Nat) (zs : List Int) (F : Nat → Int) (w : Nat) : St := ⟨TN b M zs ([.int .u64 (w : Int), .int .i64 (-1)] ++ (js 19 ++ ([.int .i64 (-1), .bool false] ++ js 24))), oM b F, []⟩
def SN (b : Bool) (M : Nat) (zs : List Int) (F : Nat → Int) (x4 : Option Nat) : St := ⟨TN b M zs ((match x4 with | none => undef | some w => .int .u64 (w : Int)) :: js 46), oM b F, []⟩
--< dr19
theorem dr19 (b : Bool) (M : Nat) (zs : List Int) (F : Nat → Int) (F' : Nat → Int) (i : Nat) (p : Nat) (q : Nat) (w : Nat) (w' : Nat) (r : Nat) (t : Nat) (x : Int) (hi : i < 20) (hx : x = (↑i : Int) - 1) (hp : F i = (↑p : Int)) (p1 : p < 65536) (w1 : w < 10) (hr : r = 65536 * w) (ht : t = r + p) (hq : q = t / 10) (hw : w' = t % 10) (hF : ∀ (s : Nat), s < 20 → F' s = if s = i then (↑q : Int) else F s) :
    ∃ s', runN 19 lD kN (SD b M zs F w (↑i : Int)) = some (Ex.normal, s') ∧ (clN lD kN) s' = SD b M zs F' w' x :=
  Dg.code_round (f := 11) (clN lD kN) (hs := [Hint.val 11 30 (Value.int IntKind.u64 (↑r : Int)),
    Hint.soft 11 33 (Value.pointer (some { block := 0, off := i + 1 })),
    Hint.soft 11 34 (Value.int IntKind.u64 (↑p : Int)),
    Hint.val 11 35 (Value.int IntKind.u64 (↑t : Int)),
    Hint.soft 11 38 (Value.int IntKind.u64 (↑q : Int)),
    Hint.soft 11 40 (Value.pointer (some { block := 0, off := i + 1 })),
    Hint.softH 11 0 (undef) { n := 1, objs := [AObj.cells (kpN b F') 34 4 1] } [0],
    Hint.soft 11 42 (Value.int IntKind.u64 (↑w' : Int)),
    Hint.val 11 28 (Value.int IntKind.i64 x)])
    [Value.int IntKind.u64 (IntKind.wrap IntKind.u64 ((65536 : Int) * (↑w : Int))) = Value.int IntKind.u64 (↑r : Int),
    (0 : Int) ≤ (↑i : Int) ∧ (↑i : Int) < (↑(20 : Nat) : Int),
    Value.pointer (some { block := (0 : Nat), off := (1 : Nat) + Int.toNat (↑i : Int) * (1 : Nat) }) = Value.pointer (some { block := (0 : Nat), off := i + (1 : Nat) }),
    (kpN b F)[i + (1 : Nat)]? = some (Value.int IntKind.u64 (↑p : Int)),
    Value.int IntKind.u64 (IntKind.wrap IntKind.u64 ((↑r : Int) + (↑p : Int))) = Value.int IntKind.u64 (↑t : Int),
    (10 : Int) ≠ (0 : Int),
    Value.int IntKind.u64 (IntKind.wrap IntKind.u64 (Int.tdiv (↑t : Int) (10 : Int))) = Value.int IntKind.u64 (↑q : Int),
    (0 : Int) ≤ (↑i : Int) ∧ (↑i : Int) < (↑(20 : Nat) : Int),
    Value.pointer (some { block := (0 : Nat), off := (1 : Nat) + Int.toNat (↑i : Int) * (1 : Nat) }) = Value.pointer (some { block := (0 : Nat), off := i + (1 : Nat) }),
    Heap.write { n := (1 : Nat), objs := [AObj.cells (kpN b F) (34 : Nat) (4 : Nat) (1 : Nat)] } (0 : Nat) (i + (1 : Nat)) [Value.int IntKind.u64 (↑q : Int)] = some { n := (1 : Nat), objs := [AObj.cells (kpN b F') (34 : Nat) (4 : Nat) (1 : Nat)] },
    undef = undef,
    ([(0 : Nat)] : List Nat) = [(0 : Nat)],
    (10 : Int) ≠ (0 : Int),
    Value.int IntKind.u64 (Int.tmod (↑t : Int) (10 : Int)) = Value.int IntKind.u64 (↑w' : Int),
    Value.int IntKind.i64 (IntKind.wrap IntKind.i64 ((↑i : Int) - (1 : Int))) = Value.int IntKind.i64 x] (by kernel_rfl)
    ⟨u64_nat (by omega) (by omega), by omega, Dg.ptr_eq (by omega), kpN_getv hi rfl hp, u64_nat (by omega) (by omega), by decide, tdv10 hq (by omega), by omega, Dg.ptr_eq (by omega), by first | exact wrN rfl hi rfl hF | rfl, by first | exact wrN rfl hi rfl hF | rfl, by first | exact wrN rfl hi rfl hF | rfl, by decide, tmv10 hw, Dg.i64_eq (by omega) (by omega) (by omega), trivial⟩
--> dr19
--< de19
theorem de19 (b : Bool) (M : Nat) (zs : List Int) (F : Nat → Int) (w : Nat) :
    runN 19 lD kN (SD b M zs F w (-1)) = some (Ex.exit 2, ({ ts := [Value.agg { toList := kpN b (lim M) }, Value.pointer (some { block := 0, off := 0 }), Value.string { data := #[] }, Value.string (txt zs), Value.int IntKind.u64 (↑w : Int), Value.int IntKind.i64 (-1), junk, junk, junk, junk, junk, junk, junk, junk, junk, junk, junk, junk, junk, junk, junk, junk, junk, junk, junk, Value.int IntKind.i64 (-1), Value.bool false, junk, junk, junk, junk, junk, junk, junk, junk, junk, junk, junk, junk, junk, junk, junk, junk, junk, junk, junk, junk, junk, junk, junk, junk], H := { n := 1, objs := [AObj.cells (kpN b F) 34 4 1] }, log := [] } : St)) :=
  Dg.evCode_hint (f := 11) (hs' := []) (hs := [])
    [] (by kernel_rfl)
    trivial
--> de19
/-- The loop over the pieces. -/
theorem loopD19 (b : Bool) (M : Nat) (zs : List Int) (m : Nat) (hm : m < B ^ 20) {s0 : St} (h0 : clN lD kN s0 = SD b M zs (lim m) 0 19) : evLoop (runN 19 lD kN) (clN lD kN) 1000 s0 = some (.exit 2, ED b M zs (lim (m / 10)) (m % 10)) := by
  have h1 : clN lD kN s0 = SD b M zs (limN (dvK m 20)) (m / B ^ 20 % 10) ((19 : Int) - ((0 : Nat) : Int)) := by
    rw [h0, Nat.div_eq_of_lt hm]
    unfold SD oM
    rw [oN_congr (b := b) (f := limN (dvK m 20)) (g := lim m) fun t ht => by simp only [limN, lim, dvK_start m t ht]]
    rfl
  have e : evLoop (runN 19 lD kN) (clN lD kN) 1000 s0 = some (.exit 2, ED b M zs (limN (dvK m 0)) (m / B ^ 0 % 10)) :=
    (Dg.loop_run (S := fun j => SD b M zs (limN (dvK m (20 - j))) (m / B ^ (20 - j) % 10) ((19 : Int) - (j : Int))) (n := 20) (by simp) (fun j hj => by
      have h := dr19 b M zs (limN (dvK m (19 - j + 1))) (limN (dvK m (19 - j))) (19 - j) (limb m (19 - j)) (limb (m / 10) (19 - j)) (m / B ^ (19 - j + 1) % 10) (m / B ^ (19 - j) % 10) (65536 * (m / B ^ (19 - j + 1) % 10)) (dvx m (19 - j)) ((19 : Int) - ((j + 1 : Nat) : Int)) (by omega) (by omega) (dv_at m _) (limb_lt m _) (Nat.mod_lt _ (by decide)) rfl rfl (dv_q m _) (dv_r m _) (dv_is m _)
      rw [show 20 - j = 19 - j + 1 by omega, show (19 : Int) - (j : Int) = ((19 - j : Nat) : Int) by omega, show 20 - (j + 1) = 19 - j by omega]
      exact h) (de19 b M zs _ _) (by omega) h1).trans (by kernel_rfl)
  rw [e]
  unfold ED oM
  rw [oN_congr (b := b) (f := limN (dvK m 0)) (g := lim (m / 10)) fun t ht => by simp only [limN, lim, dvK_end m t ht]]
  simp
theorem loopDx19 (b : Bool) (M : Nat) (zs : List Int) {m m' r : Nat} (hm : m < B ^ 20) (hm' : m' = m / 10) (hr : r = m % 10) {s0 : St} (h0 : clN lD kN s0 = SD b M zs (lim m) 0 19) : evLoop (runN 19 lD kN) (clN lD kN) 1000 s0 = some (.exit 2, ED b M zs (lim m') r) := by
  subst hm' hr
  exact loopD19 b M zs m hm h0
--< dr18
theorem dr18 (b : Bool) (M : Nat) (zs : List Int) (F : Nat → Int) (F' : Nat → Int) (i : Nat) (p : Nat) (q : Nat) (w : Nat) (w' : Nat) (r : Nat) (t : Nat) (x : Int) (hi : i < 20) (hx : x = (↑i : Int) - 1) (hp : F i = (↑p : Int)) (p1 : p < 65536) (w1 : w < 10) (hr : r = 65536 * w) (ht : t = r + p) (hq : q = t / 10) (hw : w' = t % 10) (hF : ∀ (s : Nat), s < 20 → F' s = if s = i then (↑q : Int) else F s) :
    ∃ s', runN 18 lD kN (SD b M zs F w (↑i : Int)) = some (Ex.normal, s') ∧ (clN lD kN) s' = SD b M zs F' w' x :=
  Dg.code_round (f := 11) (clN lD kN) (hs := [Hint.val 11 30 (Value.int IntKind.u64 (↑r : Int)),
    Hint.soft 11 33 (Value.pointer (some { block := 0, off := i + 1 })),
    Hint.soft 11 34 (Value.int IntKind.u64 (↑p : Int)),
    Hint.val 11 35 (Value.int IntKind.u64 (↑t : Int)),
    Hint.soft 11 38 (Value.int IntKind.u64 (↑q : Int)),
    Hint.soft 11 40 (Value.pointer (some { block := 0, off := i + 1 })),
    Hint.softH 11 0 (undef) { n := 1, objs := [AObj.cells (kpN b F') 34 4 1] } [0],
    Hint.soft 11 42 (Value.int IntKind.u64 (↑w' : Int)),
    Hint.val 11 28 (Value.int IntKind.i64 x)])
    [Value.int IntKind.u64 (IntKind.wrap IntKind.u64 ((65536 : Int) * (↑w : Int))) = Value.int IntKind.u64 (↑r : Int),
    (0 : Int) ≤ (↑i : Int) ∧ (↑i : Int) < (↑(20 : Nat) : Int),
    Value.pointer (some { block := (0 : Nat), off := (1 : Nat) + Int.toNat (↑i : Int) * (1 : Nat) }) = Value.pointer (some { block := (0 : Nat), off := i + (1 : Nat) }),
    (kpN b F)[i + (1 : Nat)]? = some (Value.int IntKind.u64 (↑p : Int)),
    Value.int IntKind.u64 (IntKind.wrap IntKind.u64 ((↑r : Int) + (↑p : Int))) = Value.int IntKind.u64 (↑t : Int),
    (10 : Int) ≠ (0 : Int),
    Value.int IntKind.u64 (IntKind.wrap IntKind.u64 (Int.tdiv (↑t : Int) (10 : Int))) = Value.int IntKind.u64 (↑q : Int),
    (0 : Int) ≤ (↑i : Int) ∧ (↑i : Int) < (↑(20 : Nat) : Int),
    Value.pointer (some { block := (0 : Nat), off := (1 : Nat) + Int.toNat (↑i : Int) * (1 : Nat) }) = Value.pointer (some { block := (0 : Nat), off := i + (1 : Nat) }),
    Heap.write { n := (1 : Nat), objs := [AObj.cells (kpN b F) (34 : Nat) (4 : Nat) (1 : Nat)] } (0 : Nat) (i + (1 : Nat)) [Value.int IntKind.u64 (↑q : Int)] = some { n := (1 : Nat), objs := [AObj.cells (kpN b F') (34 : Nat) (4 : Nat) (1 : Nat)] },
    undef = undef,
    ([(0 : Nat)] : List Nat) = [(0 : Nat)],
    (10 : Int) ≠ (0 : Int),
    Value.int IntKind.u64 (Int.tmod (↑t : Int) (10 : Int)) = Value.int IntKind.u64 (↑w' : Int),
    Value.int IntKind.i64 (IntKind.wrap IntKind.i64 ((↑i : Int) - (1 : Int))) = Value.int IntKind.i64 x] (by kernel_rfl)
    ⟨u64_nat (by omega) (by omega), by omega, Dg.ptr_eq (by omega), kpN_getv hi rfl hp, u64_nat (by omega) (by omega), by decide, tdv10 hq (by omega), by omega, Dg.ptr_eq (by omega), by first | exact wrN rfl hi rfl hF | rfl, by first | exact wrN rfl hi rfl hF | rfl, by first | exact wrN rfl hi rfl hF | rfl, by decide, tmv10 hw, Dg.i64_eq (by omega) (by omega) (by omega), trivial⟩
--> dr18
--< de18
theorem de18 (b : Bool) (M : Nat) (zs : List Int) (F : Nat → Int) (w : Nat) :
    runN 18 lD kN (SD b M zs F w (-1)) = some (Ex.exit 2, ({ ts := [Value.agg { toList := kpN b (lim M) }, Value.pointer (some { block := 0, off := 0 }), Value.string { data := #[] }, Value.string (txt zs), Value.int IntKind.u64 (↑w : Int), Value.int IntKind.i64 (-1), junk, junk, junk, junk, junk, junk, junk, junk, junk, junk, junk, junk, junk, junk, junk, junk, junk, junk, junk, Value.int IntKind.i64 (-1), Value.bool false, junk, junk, junk, junk, junk, junk, junk, junk, junk, junk, junk, junk, junk, junk, junk, junk, junk, junk, junk, junk, junk, junk, junk, junk], H := { n := 1, objs := [AObj.cells (kpN b F) 34 4 1] }, log := [] } : St)) :=
  Dg.evCode_hint (f := 11) (hs' := []) (hs := [])
    [] (by kernel_rfl)
    trivial
--> de18
/-- The loop over the pieces. -/
theorem loopD18 (b : Bool) (M : Nat) (zs : List Int) (m : Nat) (hm : m < B ^ 20) {s0 : St} (h0 : clN lD kN s0 = SD b M zs (lim m) 0 19) : evLoop (runN 18 lD kN) (clN lD kN) 1000 s0 = some (.exit 2, ED b M zs (lim (m / 10)) (m % 10)) := by
  have h1 : clN lD kN s0 = SD b M zs (limN (dvK m 20)) (m / B ^ 20 % 10) ((19 : Int) - ((0 : Nat) : Int)) := by
    rw [h0, Nat.div_eq_of_lt hm]
    unfold SD oM
    rw [oN_congr (b := b) (f := limN (dvK m 20)) (g := lim m) fun t ht => by simp only [limN, lim, dvK_start m t ht]]
    rfl
  have e : evLoop (runN 18 lD kN) (clN lD kN) 1000 s0 = some (.exit 2, ED b M zs (limN (dvK m 0)) (m / B ^ 0 % 10)) :=
    (Dg.loop_run (S := fun j => SD b M zs (limN (dvK m (20 - j))) (m / B ^ (20 - j) % 10) ((19 : Int) - (j : Int))) (n := 20) (by simp) (fun j hj => by
      have h := dr18 b M zs (limN (dvK m (19 - j + 1))) (limN (dvK m (19 - j))) (19 - j) (limb m (19 - j)) (limb (m / 10) (19 - j)) (m / B ^ (19 - j + 1) % 10) (m / B ^ (19 - j) % 10) (65536 * (m / B ^ (19 - j + 1) % 10)) (dvx m (19 - j)) ((19 : Int) - ((j + 1 : Nat) : Int)) (by omega) (by omega) (dv_at m _) (limb_lt m _) (Nat.mod_lt _ (by decide)) rfl rfl (dv_q m _) (dv_r m _) (dv_is m _)
      rw [show 20 - j = 19 - j + 1 by omega, show (19 : Int) - (j : Int) = ((19 - j : Nat) : Int) by omega, show 20 - (j + 1) = 19 - j by omega]
      exact h) (de18 b M zs _ _) (by omega) h1).trans (by kernel_rfl)
  rw [e]
  unfold ED oM
  rw [oN_congr (b := b) (f := limN (dvK m 0)) (g := lim (m / 10)) fun t ht => by simp only [limN, lim, dvK_end m t ht]]
  simp
theorem loopDx18 (b : Bool) (M : Nat) (zs : List Int) {m m' r : Nat} (hm : m < B ^ 20) (hm' : m' = m / 10) (hr : r = m % 10) {s0 : St} (h0 : clN lD kN s0 = SD b M zs (lim m) 0 19) : evLoop (runN 18 lD kN) (clN lD kN) 1000 s0 = some (.exit 2, ED b M zs (lim m') r) := by
  subst hm' hr
  exact loopD18 b M zs m hm h0
--< nr0_19
theorem nr0_19 (b : Bool) (M : Nat) (zs : List Int) (m : Nat) (m' : Nat) (r : Nat) (hz : zs = []) (hl : List.length zs ≤ 1000) (hm : m < B ^ 20) (hm' : m' = m / 10) (hr : r = m % 10) :
    ∃ s', runN 19 lN [] (SN b M zs (lim m) none) = some (Ex.normal, s') ∧ (clN lN []) s' = SN b M ((↑(48 + r) : Int) :: zs) (lim m') (some r) :=
  Dg.code_round (f := 11) (clN lN []) (hs := [Hint.val 11 19 (Value.bool true),
    Hint.loop 11 (Ex.exit 2) (ED b M zs (lim m') r),
    Hint.val 11 44 (Value.int IntKind.u64 (↑(48 + r) : Int)),
    Hint.val 11 45 (Value.int IntKind.u8 (↑(48 + r) : Int)),
    Hint.soft 11 47 (Value.string (txt [(↑(48 + r) : Int)])),
    Hint.soft 11 49 (Value.string (txt ((↑(48 + r) : Int) :: zs)))])
    [Value.bool (ByteArray.toList (txt zs) == ByteArray.toList { data := #[] }) = Value.bool true,
    evLoop (runN 19 lD kN) (clN lD kN) 1000 { ts := [Value.agg { toList := kpN b (lim M) }, Value.pointer (some { block := 0, off := 0 }), Value.string { data := #[] }, Value.string (txt zs), Value.int IntKind.u64 0, Value.int IntKind.i64 19, junk, junk, junk, junk, junk, junk, junk, junk, junk, junk, junk, junk, Value.string (txt zs), Value.bool true, Value.bool true, undef, undef, undef, Value.bool true, junk, junk, junk, junk, junk, junk, junk, junk, junk, junk, junk, junk, junk, junk, junk, junk, junk, junk, junk, junk, junk, junk, junk, junk, junk, junk], H := { n := 1, objs := [AObj.cells (kpN b (lim m)) 34 4 1] }, log := [] } = some (Ex.exit 2, ED b M zs (lim m') r),
    Value.int IntKind.u64 (IntKind.wrap IntKind.u64 ((48 : Int) + (↑r : Int))) = Value.int IntKind.u64 (↑((48 : Nat) + r) : Int),
    Value.int IntKind.u8 (IntKind.wrap IntKind.u8 (↑((48 : Nat) + r) : Int)) = Value.int IntKind.u8 (↑((48 : Nat) + r) : Int),
    Dg.strOf [Value.int IntKind.u8 (↑((48 : Nat) + r) : Int)] (0 : Nat) (1 : Nat) = some (txt [(↑((48 : Nat) + r) : Int)]),
    ByteArray.size (txt [(↑((48 : Nat) + r) : Int)]) + ByteArray.size (txt zs) ≤ (9223372036854775807 : Nat),
    Value.string (txt [(↑((48 : Nat) + r) : Int)] ++ txt zs) = Value.string (txt ((↑((48 : Nat) + r) : Int) :: zs))] (by kernel_rfl)
    ⟨str_emp hz, loopDx19 b M zs hm hm' hr (by kernel_rfl), u64_nat (by omega) (by omega), u8_nat (by omega) (by omega), str_one _, siz_one hl, rfl, trivial⟩
--> nr0_19
--< nr1_19
theorem nr1_19 (b : Bool) (M : Nat) (zs : List Int) (m : Nat) (m' : Nat) (r : Nat) (w : Nat) (hz : zs ≠ []) (h0 : 0 < m) (hl : List.length zs ≤ 1000) (hm : m < B ^ 20) (hm' : m' = m / 10) (hr : r = m % 10) :
    ∃ s', runN 19 lN [] (SN b M zs (lim m) (some w)) = some (Ex.normal, s') ∧ (clN lN []) s' = SN b M ((↑(48 + r) : Int) :: zs) (lim m') (some r) :=
  Dg.code_round (f := 11) (clN lN []) (hs := [Hint.val 11 19 (Value.bool false),
    Hint.call 25 (Value.bool false) { n := 0, objs := [] } [],
    Hint.loop 11 (Ex.exit 2) (ED b M zs (lim m') r),
    Hint.val 11 44 (Value.int IntKind.u64 (↑(48 + r) : Int)),
    Hint.val 11 45 (Value.int IntKind.u8 (↑(48 + r) : Int)),
    Hint.soft 11 47 (Value.string (txt [(↑(48 + r) : Int)])),
    Hint.soft 11 49 (Value.string (txt ((↑(48 + r) : Int) :: zs)))])
    [Value.bool (ByteArray.toList (txt zs) == ByteArray.toList { data := #[] }) = Value.bool false,
    evCall Tryd.prog 0 (bodied Tryd.prog) ov2 sbs 1000 19 25 [Value.agg #[Value.bool b, Value.int IntKind.u64 (lim m 0), Value.int IntKind.u64 (lim m 1), Value.int IntKind.u64 (lim m 2), Value.int IntKind.u64 (lim m 3), Value.int IntKind.u64 (lim m 4), Value.int IntKind.u64 (lim m 5), Value.int IntKind.u64 (lim m 6), Value.int IntKind.u64 (lim m 7), Value.int IntKind.u64 (lim m 8), Value.int IntKind.u64 (lim m 9), Value.int IntKind.u64 (lim m 10), Value.int IntKind.u64 (lim m 11), Value.int IntKind.u64 (lim m 12), Value.int IntKind.u64 (lim m 13), Value.int IntKind.u64 (lim m 14), Value.int IntKind.u64 (lim m 15), Value.int IntKind.u64 (lim m 16), Value.int IntKind.u64 (lim m 17), Value.int IntKind.u64 (lim m 18), Value.int IntKind.u64 (lim m 19)]] { n := 0, objs := [] } = some (Value.bool false, { n := 0, objs := [] }, []),
    evLoop (runN 19 lD kN) (clN lD kN) 1000 { ts := [Value.agg { toList := kpN b (lim M) }, Value.pointer (some { block := 0, off := 0 }), Value.string { data := #[] }, Value.string (txt zs), Value.int IntKind.u64 0, Value.int IntKind.i64 19, junk, junk, junk, junk, junk, junk, junk, junk, junk, junk, junk, junk, Value.string (txt zs), Value.bool false, Value.bool false, Value.agg #[Value.bool b, Value.int IntKind.u64 (lim m 0), Value.int IntKind.u64 (lim m 1), Value.int IntKind.u64 (lim m 2), Value.int IntKind.u64 (lim m 3), Value.int IntKind.u64 (lim m 4), Value.int IntKind.u64 (lim m 5), Value.int IntKind.u64 (lim m 6), Value.int IntKind.u64 (lim m 7), Value.int IntKind.u64 (lim m 8), Value.int IntKind.u64 (lim m 9), Value.int IntKind.u64 (lim m 10), Value.int IntKind.u64 (lim m 11), Value.int IntKind.u64 (lim m 12), Value.int IntKind.u64 (lim m 13), Value.int IntKind.u64 (lim m 14), Value.int IntKind.u64 (lim m 15), Value.int IntKind.u64 (lim m 16), Value.int IntKind.u64 (lim m 17), Value.int IntKind.u64 (lim m 18), Value.int IntKind.u64 (lim m 19)], Value.bool false, Value.bool true, Value.bool true, junk, junk, junk, junk, junk, junk, junk, junk, junk, junk, junk, junk, junk, junk, junk, junk, junk, junk, junk, junk, junk, junk, junk, junk, junk, junk], H := { n := 1, objs := [AObj.cells (kpN b (lim m)) 34 4 1] }, log := [] } = some (Ex.exit 2, ED b M zs (lim m') r),
    Value.int IntKind.u64 (IntKind.wrap IntKind.u64 ((48 : Int) + (↑r : Int))) = Value.int IntKind.u64 (↑((48 : Nat) + r) : Int),
    Value.int IntKind.u8 (IntKind.wrap IntKind.u8 (↑((48 : Nat) + r) : Int)) = Value.int IntKind.u8 (↑((48 : Nat) + r) : Int),
    Dg.strOf [Value.int IntKind.u8 (↑((48 : Nat) + r) : Int)] (0 : Nat) (1 : Nat) = some (txt [(↑((48 : Nat) + r) : Int)]),
    ByteArray.size (txt [(↑((48 : Nat) + r) : Int)]) + ByteArray.size (txt zs) ≤ (9223372036854775807 : Nat),
    Value.string (txt [(↑((48 : Nat) + r) : Int)] ++ txt zs) = Value.string (txt ((↑((48 : Nat) + r) : Int) :: zs))] (by kernel_rfl)
    ⟨str_nem hz, Dg.evCall_told (under2 (zero_no _ hm h0)), loopDx19 b M zs hm hm' hr (by kernel_rfl), u64_nat (by omega) (by omega), u8_nat (by omega) (by omega), str_one _, siz_one hl, rfl, trivial⟩
--> nr1_19
--< ne_19
theorem ne_19 (b : Bool) (M : Nat) (zs : List Int) (w : Nat) (m : Nat) (hz : zs ≠ []) (h0 : m = 0) :
    runN 19 lN [] (SN b M zs (lim m) (some w)) = some (Ex.exit 0, ({ ts := [Value.agg { toList := kpN b (lim M) }, Value.pointer (some { block := 0, off := 0 }), Value.string { data := #[] }, Value.string (txt zs), Value.int IntKind.u64 (↑w : Int), junk, junk, junk, junk, junk, junk, junk, junk, junk, junk, junk, junk, junk, Value.string (txt zs), Value.bool false, Value.bool false, Value.agg #[Value.bool b, Value.int IntKind.u64 (lim m 0), Value.int IntKind.u64 (lim m 1), Value.int IntKind.u64 (lim m 2), Value.int IntKind.u64 (lim m 3), Value.int IntKind.u64 (lim m 4), Value.int IntKind.u64 (lim m 5), Value.int IntKind.u64 (lim m 6), Value.int IntKind.u64 (lim m 7), Value.int IntKind.u64 (lim m 8), Value.int IntKind.u64 (lim m 9), Value.int IntKind.u64 (lim m 10), Value.int IntKind.u64 (lim m 11), Value.int IntKind.u64 (lim m 12), Value.int IntKind.u64 (lim m 13), Value.int IntKind.u64 (lim m 14), Value.int IntKind.u64 (lim m 15), Value.int IntKind.u64 (lim m 16), Value.int IntKind.u64 (lim m 17), Value.int IntKind.u64 (lim m 18), Value.int IntKind.u64 (lim m 19)], Value.bool true, Value.bool false, Value.bool false, junk, junk, junk, junk, junk, junk, junk, junk, junk, junk, junk, junk, junk, junk, junk, junk, junk, junk, junk, junk, junk, junk, junk, junk, junk, junk], H := { n := 1, objs := [AObj.cells (kpN b (lim m)) 34 4 1] }, log := [] } : St)) :=
  Dg.evCode_hint (f := 11) (hs' := []) (hs := [Hint.val 11 19 (Value.bool false),
    Hint.call 25 (Value.bool true) { n := 0, objs := [] } []])
    [Value.bool (ByteArray.toList (txt zs) == ByteArray.toList { data := #[] }) = Value.bool false,
    evCall Tryd.prog 0 (bodied Tryd.prog) ov2 sbs 1000 19 25 [Value.agg #[Value.bool b, Value.int IntKind.u64 (lim m 0), Value.int IntKind.u64 (lim m 1), Value.int IntKind.u64 (lim m 2), Value.int IntKind.u64 (lim m 3), Value.int IntKind.u64 (lim m 4), Value.int IntKind.u64 (lim m 5), Value.int IntKind.u64 (lim m 6), Value.int IntKind.u64 (lim m 7), Value.int IntKind.u64 (lim m 8), Value.int IntKind.u64 (lim m 9), Value.int IntKind.u64 (lim m 10), Value.int IntKind.u64 (lim m 11), Value.int IntKind.u64 (lim m 12), Value.int IntKind.u64 (lim m 13), Value.int IntKind.u64 (lim m 14), Value.int IntKind.u64 (lim m 15), Value.int IntKind.u64 (lim m 16), Value.int IntKind.u64 (lim m 17), Value.int IntKind.u64 (lim m 18), Value.int IntKind.u64 (lim m 19)]] { n := 0, objs := [] } = some (Value.bool true, { n := 0, objs := [] }, [])] (by kernel_rfl)
    ⟨str_nem hz, Dg.evCall_told (under2 (zero_yes _ h0)), trivial⟩
--> ne_19
--< nr0_18
theorem nr0_18 (b : Bool) (M : Nat) (zs : List Int) (m : Nat) (m' : Nat) (r : Nat) (hz : zs = []) (hl : List.length zs ≤ 1000) (hm : m < B ^ 20) (hm' : m' = m / 10) (hr : r = m % 10) :
    ∃ s', runN 18 lN [] (SN b M zs (lim m) none) = some (Ex.normal, s') ∧ (clN lN []) s' = SN b M ((↑(48 + r) : Int) :: zs) (lim m') (some r) :=
  Dg.code_round (f := 11) (clN lN []) (hs := [Hint.val 11 19 (Value.bool true),
    Hint.loop 11 (Ex.exit 2) (ED b M zs (lim m') r),
    Hint.val 11 44 (Value.int IntKind.u64 (↑(48 + r) : Int)),
    Hint.val 11 45 (Value.int IntKind.u8 (↑(48 + r) : Int)),
    Hint.soft 11 47 (Value.string (txt [(↑(48 + r) : Int)])),
    Hint.soft 11 49 (Value.string (txt ((↑(48 + r) : Int) :: zs)))])
    [Value.bool (ByteArray.toList (txt zs) == ByteArray.toList { data := #[] }) = Value.bool true,
    evLoop (runN 18 lD kN) (clN lD kN) 1000 { ts := [Value.agg { toList := kpN b (lim M) }, Value.pointer (some { block := 0, off := 0 }), Value.string { data := #[] }, Value.string (txt zs), Value.int IntKind.u64 0, Value.int IntKind.i64 19, junk, junk, junk, junk, junk, junk, junk, junk, junk, junk, junk, junk, Value.string (txt zs), Value.bool true, Value.bool true, undef, undef, undef, Value.bool true, junk, junk, junk, junk, junk, junk, junk, junk, junk, junk, junk, junk, junk, junk, junk, junk, junk, junk, junk, junk, junk, junk, junk, junk, junk, junk], H := { n := 1, objs := [AObj.cells (kpN b (lim m)) 34 4 1] }, log := [] } = some (Ex.exit 2, ED b M zs (lim m') r),
    Value.int IntKind.u64 (IntKind.wrap IntKind.u64 ((48 : Int) + (↑r : Int))) = Value.int IntKind.u64 (↑((48 : Nat) + r) : Int),
    Value.int IntKind.u8 (IntKind.wrap IntKind.u8 (↑((48 : Nat) + r) : Int)) = Value.int IntKind.u8 (↑((48 : Nat) + r) : Int),
    Dg.strOf [Value.int IntKind.u8 (↑((48 : Nat) + r) : Int)] (0 : Nat) (1 : Nat) = some (txt [(↑((48 : Nat) + r) : Int)]),
    ByteArray.size (txt [(↑((48 : Nat) + r) : Int)]) + ByteArray.size (txt zs) ≤ (9223372036854775807 : Nat),
    Value.string (txt [(↑((48 : Nat) + r) : Int)] ++ txt zs) = Value.string (txt ((↑((48 : Nat) + r) : Int) :: zs))] (by kernel_rfl)
    ⟨str_emp hz, loopDx18 b M zs hm hm' hr (by kernel_rfl), u64_nat (by omega) (by omega), u8_nat (by omega) (by omega), str_one _, siz_one hl, rfl, trivial⟩
--> nr0_18
--< nr1_18
theorem nr1_18 (b : Bool) (M : Nat) (zs : List Int) (m : Nat) (m' : Nat) (r : Nat) (w : Nat) (hz : zs ≠ []) (h0 : 0 < m) (hl : List.length zs ≤ 1000) (hm : m < B ^ 20) (hm' : m' = m / 10) (hr : r = m % 10) :
    ∃ s', runN 18 lN [] (SN b M zs (lim m) (some w)) = some (Ex.normal, s') ∧ (clN lN []) s' = SN b M ((↑(48 + r) : Int) :: zs) (lim m') (some r) :=
  Dg.code_round (f := 11) (clN lN []) (hs := [Hint.val 11 19 (Value.bool false),
    Hint.call 25 (Value.bool false) { n := 0, objs := [] } [],
    Hint.loop 11 (Ex.exit 2) (ED b M zs (lim m') r),
    Hint.val 11 44 (Value.int IntKind.u64 (↑(48 + r) : Int)),
    Hint.val 11 45 (Value.int IntKind.u8 (↑(48 + r) : Int)),
    Hint.soft 11 47 (Value.string (txt [(↑(48 + r) : Int)])),
    Hint.soft 11 49 (Value.string (txt ((↑(48 + r) : Int) :: zs)))])
    [Value.bool (ByteArray.toList (txt zs) == ByteArray.toList { data := #[] }) = Value.bool false,
    evCall Tryd.prog 0 (bodied Tryd.prog) ov2 sbs 1000 18 25 [Value.agg #[Value.bool b, Value.int IntKind.u64 (lim m 0), Value.int IntKind.u64 (lim m 1), Value.int IntKind.u64 (lim m 2), Value.int IntKind.u64 (lim m 3), Value.int IntKind.u64 (lim m 4), Value.int IntKind.u64 (lim m 5), Value.int IntKind.u64 (lim m 6), Value.int IntKind.u64 (lim m 7), Value.int IntKind.u64 (lim m 8), Value.int IntKind.u64 (lim m 9), Value.int IntKind.u64 (lim m 10), Value.int IntKind.u64 (lim m 11), Value.int IntKind.u64 (lim m 12), Value.int IntKind.u64 (lim m 13), Value.int IntKind.u64 (lim m 14), Value.int IntKind.u64 (lim m 15), Value.int IntKind.u64 (lim m 16), Value.int IntKind.u64 (lim m 17), Value.int IntKind.u64 (lim m 18), Value.int IntKind.u64 (lim m 19)]] { n := 0, objs := [] } = some (Value.bool false, { n := 0, objs := [] }, []),
    evLoop (runN 18 lD kN) (clN lD kN) 1000 { ts := [Value.agg { toList := kpN b (lim M) }, Value.pointer (some { block := 0, off := 0 }), Value.string { data := #[] }, Value.string (txt zs), Value.int IntKind.u64 0, Value.int IntKind.i64 19, junk, junk, junk, junk, junk, junk, junk, junk, junk, junk, junk, junk, Value.string (txt zs), Value.bool false, Value.bool false, Value.agg #[Value.bool b, Value.int IntKind.u64 (lim m 0), Value.int IntKind.u64 (lim m 1), Value.int IntKind.u64 (lim m 2), Value.int IntKind.u64 (lim m 3), Value.int IntKind.u64 (lim m 4), Value.int IntKind.u64 (lim m 5), Value.int IntKind.u64 (lim m 6), Value.int IntKind.u64 (lim m 7), Value.int IntKind.u64 (lim m 8), Value.int IntKind.u64 (lim m 9), Value.int IntKind.u64 (lim m 10), Value.int IntKind.u64 (lim m 11), Value.int IntKind.u64 (lim m 12), Value.int IntKind.u64 (lim m 13), Value.int IntKind.u64 (lim m 14), Value.int IntKind.u64 (lim m 15), Value.int IntKind.u64 (lim m 16), Value.int IntKind.u64 (lim m 17), Value.int IntKind.u64 (lim m 18), Value.int IntKind.u64 (lim m 19)], Value.bool false, Value.bool true, Value.bool true, junk, junk, junk, junk, junk, junk, junk, junk, junk, junk, junk, junk, junk, junk, junk, junk, junk, junk, junk, junk, junk, junk, junk, junk, junk, junk], H := { n := 1, objs := [AObj.cells (kpN b (lim m)) 34 4 1] }, log := [] } = some (Ex.exit 2, ED b M zs (lim m') r),
    Value.int IntKind.u64 (IntKind.wrap IntKind.u64 ((48 : Int) + (↑r : Int))) = Value.int IntKind.u64 (↑((48 : Nat) + r) : Int),
    Value.int IntKind.u8 (IntKind.wrap IntKind.u8 (↑((48 : Nat) + r) : Int)) = Value.int IntKind.u8 (↑((48 : Nat) + r) : Int),
    Dg.strOf [Value.int IntKind.u8 (↑((48 : Nat) + r) : Int)] (0 : Nat) (1 : Nat) = some (txt [(↑((48 : Nat) + r) : Int)]),
    ByteArray.size (txt [(↑((48 : Nat) + r) : Int)]) + ByteArray.size (txt zs) ≤ (9223372036854775807 : Nat),
    Value.string (txt [(↑((48 : Nat) + r) : Int)] ++ txt zs) = Value.string (txt ((↑((48 : Nat) + r) : Int) :: zs))] (by kernel_rfl)
    ⟨str_nem hz, Dg.evCall_told (under2 (zero_no _ hm h0)), loopDx18 b M zs hm hm' hr (by kernel_rfl), u64_nat (by omega) (by omega), u8_nat (by omega) (by omega), str_one _, siz_one hl, rfl, trivial⟩
--> nr1_18
--< ne_18
theorem ne_18 (b : Bool) (M : Nat) (zs : List Int) (w : Nat) (m : Nat) (hz : zs ≠ []) (h0 : m = 0) :
    runN 18 lN [] (SN b M zs (lim m) (some w)) = some (Ex.exit 0, ({ ts := [Value.agg { toList := kpN b (lim M) }, Value.pointer (some { block := 0, off := 0 }), Value.string { data := #[] }, Value.string (txt zs), Value.int IntKind.u64 (↑w : Int), junk, junk, junk, junk, junk, junk, junk, junk, junk, junk, junk, junk, junk, Value.string (txt zs), Value.bool false, Value.bool false, Value.agg #[Value.bool b, Value.int IntKind.u64 (lim m 0), Value.int IntKind.u64 (lim m 1), Value.int IntKind.u64 (lim m 2), Value.int IntKind.u64 (lim m 3), Value.int IntKind.u64 (lim m 4), Value.int IntKind.u64 (lim m 5), Value.int IntKind.u64 (lim m 6), Value.int IntKind.u64 (lim m 7), Value.int IntKind.u64 (lim m 8), Value.int IntKind.u64 (lim m 9), Value.int IntKind.u64 (lim m 10), Value.int IntKind.u64 (lim m 11), Value.int IntKind.u64 (lim m 12), Value.int IntKind.u64 (lim m 13), Value.int IntKind.u64 (lim m 14), Value.int IntKind.u64 (lim m 15), Value.int IntKind.u64 (lim m 16), Value.int IntKind.u64 (lim m 17), Value.int IntKind.u64 (lim m 18), Value.int IntKind.u64 (lim m 19)], Value.bool true, Value.bool false, Value.bool false, junk, junk, junk, junk, junk, junk, junk, junk, junk, junk, junk, junk, junk, junk, junk, junk, junk, junk, junk, junk, junk, junk, junk, junk, junk, junk], H := { n := 1, objs := [AObj.cells (kpN b (lim m)) 34 4 1] }, log := [] } : St)) :=
  Dg.evCode_hint (f := 11) (hs' := []) (hs := [Hint.val 11 19 (Value.bool false),
    Hint.call 25 (Value.bool true) { n := 0, objs := [] } []])
    [Value.bool (ByteArray.toList (txt zs) == ByteArray.toList { data := #[] }) = Value.bool false,
    evCall Tryd.prog 0 (bodied Tryd.prog) ov2 sbs 1000 18 25 [Value.agg #[Value.bool b, Value.int IntKind.u64 (lim m 0), Value.int IntKind.u64 (lim m 1), Value.int IntKind.u64 (lim m 2), Value.int IntKind.u64 (lim m 3), Value.int IntKind.u64 (lim m 4), Value.int IntKind.u64 (lim m 5), Value.int IntKind.u64 (lim m 6), Value.int IntKind.u64 (lim m 7), Value.int IntKind.u64 (lim m 8), Value.int IntKind.u64 (lim m 9), Value.int IntKind.u64 (lim m 10), Value.int IntKind.u64 (lim m 11), Value.int IntKind.u64 (lim m 12), Value.int IntKind.u64 (lim m 13), Value.int IntKind.u64 (lim m 14), Value.int IntKind.u64 (lim m 15), Value.int IntKind.u64 (lim m 16), Value.int IntKind.u64 (lim m 17), Value.int IntKind.u64 (lim m 18), Value.int IntKind.u64 (lim m 19)]] { n := 0, objs := [] } = some (Value.bool true, { n := 0, objs := [] }, [])] (by kernel_rfl)
    ⟨str_nem hz, Dg.evCall_told (under2 (zero_yes _ h0)), trivial⟩
--> ne_18
def EN (b : Bool) (M : Nat) (zs : List Int) (F : Nat → Int) (w : Nat) : St := ⟨TN b M zs ([.int .u64 (w : Int)] ++ (js 13 ++ ([.string (txt zs), .bool false, .bool false, nv b F, .bool true, .bool false, .bool false] ++ js 26))), oM b F, []⟩
/-- The last r digits. -/
def dz (m : Nat) : Nat → List Int
  | 0 => []
  | j + 1 => ((48 + m / 10 ^ j % 10 : Nat) : Int) :: dz m j
theorem dz_sfx (m : Nat) : ∀ j, dz m j = sfx m j
  | 0 => rfl
  | j + 1 => by rw [dz, sfx, dz_sfx m j]; congr 1
theorem dz_len (m : Nat) : ∀ j, (dz m j).length = j
  | 0 => rfl
  | j + 1 => by rw [dz, List.length_cons, dz_len m j]
theorem dz_all (m : Nat) : dz m (Lib.nDigits m) = decZ m := by rw [dz_sfx, sfx_all]
theorem nd_le {m : Nat} (hm : m < B ^ 20) : Lib.nDigits m ≤ 100 := nDigits_le (k := 99) (Nat.lt_of_lt_of_le hm (by decide))
theorem numloop19 (b : Bool) (M m : Nat) (hm : m < B ^ 20) {s0 : St} (h0 : clN lN [] s0 = SN b M [] (lim m) none) : evLoop (runN 19 lN []) (clN lN []) 1000 s0 = some (.exit 0, EN b M (decZ m) (lim 0) (m / 10 ^ (Lib.nDigits m - 1) % 10)) := by
  obtain ⟨n, hn⟩ : ∃ n, Lib.nDigits m = n + 1 := ⟨Lib.nDigits m - 1, by have := Lib.nDigits_pos m; omega⟩
  have hle := nd_le hm
  have hd : ∀ r, m / 10 ^ (r + 1) = m / 10 ^ r / 10 := fun r => by rw [Nat.div_div_eq_div_mul, Nat.pow_succ]
  have hlt : ∀ r, m / 10 ^ r < B ^ 20 := fun r => Nat.lt_of_le_of_lt (Nat.div_le_self _ _) hm
  have h1 : clN lN [] s0 = SN b M (dz m 0) (lim (m / 10 ^ 0)) none := by
    rw [h0, Nat.pow_zero, Nat.div_one]
    rfl
  have e := Dg.loop_run (body := runN 19 lN []) (clean := clN lN []) (fuel := 1000) (s0 := s0) (S := fun r => SN b M (dz m r) (lim (m / 10 ^ r)) (match r with | 0 => none | r' + 1 => some (m / 10 ^ r' % 10))) (n := n + 1) (by simp) (fun r hr => by
    cases r with
    | zero => exact nr0_19 b M (dz m 0) (m / 10 ^ 0) (m / 10 ^ 1) (m / 10 ^ 0 % 10) rfl (by rw [dz_len]; omega) (hlt 0) (hd 0) rfl
    | succ r => exact nr1_19 b M (dz m (r + 1)) (m / 10 ^ (r + 1)) (m / 10 ^ (r + 2)) (m / 10 ^ (r + 1) % 10) (m / 10 ^ r % 10) (by simp [dz]) (pos_nDigits (by omega) (by omega)) (by rw [dz_len]; omega) (hlt _) (hd (r + 1)) rfl)
    (ne_19 b M (dz m (n + 1)) (m / 10 ^ n % 10) (m / 10 ^ (n + 1)) (by simp [dz]) (by rw [← hn]; exact div_nDigits m)) (by omega) h1
  have e2 : evLoop (runN 19 lN []) (clN lN []) 1000 s0 = some (.exit 0, EN b M (dz m (n + 1)) (lim (m / 10 ^ (n + 1))) (m / 10 ^ n % 10)) := e.trans (by kernel_rfl)
  have e3 : m / 10 ^ (n + 1) = 0 := by rw [← hn]; exact div_nDigits m
  rw [e2, e3, ← hn, dz_all, hn]
  rfl
theorem numloop18 (b : Bool) (M m : Nat) (hm : m < B ^ 20) {s0 : St} (h0 : clN lN [] s0 = SN b M [] (lim m) none) : evLoop (runN 18 lN []) (clN lN []) 1000 s0 = some (.exit 0, EN b M (decZ m) (lim 0) (m / 10 ^ (Lib.nDigits m - 1) % 10)) := by
  obtain ⟨n, hn⟩ : ∃ n, Lib.nDigits m = n + 1 := ⟨Lib.nDigits m - 1, by have := Lib.nDigits_pos m; omega⟩
  have hle := nd_le hm
  have hd : ∀ r, m / 10 ^ (r + 1) = m / 10 ^ r / 10 := fun r => by rw [Nat.div_div_eq_div_mul, Nat.pow_succ]
  have hlt : ∀ r, m / 10 ^ r < B ^ 20 := fun r => Nat.lt_of_le_of_lt (Nat.div_le_self _ _) hm
  have h1 : clN lN [] s0 = SN b M (dz m 0) (lim (m / 10 ^ 0)) none := by
    rw [h0, Nat.pow_zero, Nat.div_one]
    rfl
  have e := Dg.loop_run (body := runN 18 lN []) (clean := clN lN []) (fuel := 1000) (s0 := s0) (S := fun r => SN b M (dz m r) (lim (m / 10 ^ r)) (match r with | 0 => none | r' + 1 => some (m / 10 ^ r' % 10))) (n := n + 1) (by simp) (fun r hr => by
    cases r with
    | zero => exact nr0_18 b M (dz m 0) (m / 10 ^ 0) (m / 10 ^ 1) (m / 10 ^ 0 % 10) rfl (by rw [dz_len]; omega) (hlt 0) (hd 0) rfl
    | succ r => exact nr1_18 b M (dz m (r + 1)) (m / 10 ^ (r + 1)) (m / 10 ^ (r + 2)) (m / 10 ^ (r + 1) % 10) (m / 10 ^ r % 10) (by simp [dz]) (pos_nDigits (by omega) (by omega)) (by rw [dz_len]; omega) (hlt _) (hd (r + 1)) rfl)
    (ne_18 b M (dz m (n + 1)) (m / 10 ^ n % 10) (m / 10 ^ (n + 1)) (by simp [dz]) (by rw [← hn]; exact div_nDigits m)) (by omega) h1
  have e2 : evLoop (runN 18 lN []) (clN lN []) 1000 s0 = some (.exit 0, EN b M (dz m (n + 1)) (lim (m / 10 ^ (n + 1))) (m / 10 ^ n % 10)) := e.trans (by kernel_rfl)
  have e3 : m / 10 ^ (n + 1) = 0 := by rw [← hn]; exact div_nDigits m
  rw [e2, e3, ← hn, dz_all, hn]
  rfl
--< np20
theorem np20 (m : Nat) (zs : List Int) (F : Nat → Int) (w : Nat) (hz : ∀ (s0 : St), clN lN [] s0 = SN false m [] (lim m) none → evLoop (runN 19 lN []) (clN lN []) 1000 s0 = some (Ex.exit 0, EN false m zs F w)) :
    evCall Tryd.prog 0 (bodied Tryd.prog) ov2 sbs 1000 20 11 [num false m] { n := 0, objs := [] } = some (Value.string (txt zs), { n := 0, objs := [] }, []) :=
  Dg.evCall_hint (hs' := []) (hs := [Hint.loop 11 (Ex.exit 0) (EN false m zs F w)])
    [evLoop (runN 19 lN []) (clN lN []) 1000 { ts := [Value.agg { toList := kpN false (lim m) }, Value.pointer (some { block := 0, off := 0 }), Value.string { data := #[] }, Value.string { data := #[] }, undef, undef, undef, Value.pointer (some { block := 0, off := 0 }), Value.bool false, Value.bool false, undef, undef, undef, Value.bool false, undef, undef, undef, undef, undef, undef, undef, undef, undef, undef, undef, undef, undef, undef, undef, undef, undef, undef, undef, undef, undef, undef, undef, undef, undef, undef, undef, undef, undef, undef, undef, undef, undef, undef, undef, undef, undef], H := { n := 1, objs := [AObj.cells [Value.bool false, Value.int IntKind.u64 (lim m 0), Value.int IntKind.u64 (lim m 1), Value.int IntKind.u64 (lim m 2), Value.int IntKind.u64 (lim m 3), Value.int IntKind.u64 (lim m 4), Value.int IntKind.u64 (lim m 5), Value.int IntKind.u64 (lim m 6), Value.int IntKind.u64 (lim m 7), Value.int IntKind.u64 (lim m 8), Value.int IntKind.u64 (lim m 9), Value.int IntKind.u64 (lim m 10), Value.int IntKind.u64 (lim m 11), Value.int IntKind.u64 (lim m 12), Value.int IntKind.u64 (lim m 13), Value.int IntKind.u64 (lim m 14), Value.int IntKind.u64 (lim m 15), Value.int IntKind.u64 (lim m 16), Value.int IntKind.u64 (lim m 17), Value.int IntKind.u64 (lim m 18), Value.int IntKind.u64 (lim m 19)] 34 0 1] }, log := [] } = some (Ex.exit 0, EN false m zs F w)] (by kernel_rfl)
    ⟨hz _ (by kernel_rfl), trivial⟩
--> np20
--< np19
theorem np19 (m : Nat) (zs : List Int) (F : Nat → Int) (w : Nat) (hz : ∀ (s0 : St), clN lN [] s0 = SN false m [] (lim m) none → evLoop (runN 18 lN []) (clN lN []) 1000 s0 = some (Ex.exit 0, EN false m zs F w)) :
    evCall Tryd.prog 0 (bodied Tryd.prog) ov2 sbs 1000 19 11 [num false m] { n := 0, objs := [] } = some (Value.string (txt zs), { n := 0, objs := [] }, []) :=
  Dg.evCall_hint (hs' := []) (hs := [Hint.loop 11 (Ex.exit 0) (EN false m zs F w)])
    [evLoop (runN 18 lN []) (clN lN []) 1000 { ts := [Value.agg { toList := kpN false (lim m) }, Value.pointer (some { block := 0, off := 0 }), Value.string { data := #[] }, Value.string { data := #[] }, undef, undef, undef, Value.pointer (some { block := 0, off := 0 }), Value.bool false, Value.bool false, undef, undef, undef, Value.bool false, undef, undef, undef, undef, undef, undef, undef, undef, undef, undef, undef, undef, undef, undef, undef, undef, undef, undef, undef, undef, undef, undef, undef, undef, undef, undef, undef, undef, undef, undef, undef, undef, undef, undef, undef, undef, undef], H := { n := 1, objs := [AObj.cells [Value.bool false, Value.int IntKind.u64 (lim m 0), Value.int IntKind.u64 (lim m 1), Value.int IntKind.u64 (lim m 2), Value.int IntKind.u64 (lim m 3), Value.int IntKind.u64 (lim m 4), Value.int IntKind.u64 (lim m 5), Value.int IntKind.u64 (lim m 6), Value.int IntKind.u64 (lim m 7), Value.int IntKind.u64 (lim m 8), Value.int IntKind.u64 (lim m 9), Value.int IntKind.u64 (lim m 10), Value.int IntKind.u64 (lim m 11), Value.int IntKind.u64 (lim m 12), Value.int IntKind.u64 (lim m 13), Value.int IntKind.u64 (lim m 14), Value.int IntKind.u64 (lim m 15), Value.int IntKind.u64 (lim m 16), Value.int IntKind.u64 (lim m 17), Value.int IntKind.u64 (lim m 18), Value.int IntKind.u64 (lim m 19)] 34 0 1] }, log := [] } = some (Ex.exit 0, EN false m zs F w)] (by kernel_rfl)
    ⟨hz _ (by kernel_rfl), trivial⟩
--> np19
--< np0
theorem np0 (m : Nat) (zs : List Int) (F : Nat → Int) (w : Nat) (h0 : m = 0) (hz : ∀ (s0 : St), clN lN [] s0 = SN true m [] (lim m) none → evLoop (runN 19 lN []) (clN lN []) 1000 s0 = some (Ex.exit 0, EN true m zs F w)) :
    evCall Tryd.prog 0 (bodied Tryd.prog) ov2 sbs 1000 20 11 [num true m] { n := 0, objs := [] } = some (Value.string (txt zs), { n := 0, objs := [] }, []) :=
  Dg.evCall_hint (hs' := []) (hs := [Hint.call 25 (Value.bool true) { n := 0, objs := [] } [],
    Hint.loop 11 (Ex.exit 0) (EN true m zs F w)])
    [evCall Tryd.prog 0 (bodied Tryd.prog) ov2 sbs 1000 19 25 [Value.agg #[Value.bool true, Value.int IntKind.u64 (lim m 0), Value.int IntKind.u64 (lim m 1), Value.int IntKind.u64 (lim m 2), Value.int IntKind.u64 (lim m 3), Value.int IntKind.u64 (lim m 4), Value.int IntKind.u64 (lim m 5), Value.int IntKind.u64 (lim m 6), Value.int IntKind.u64 (lim m 7), Value.int IntKind.u64 (lim m 8), Value.int IntKind.u64 (lim m 9), Value.int IntKind.u64 (lim m 10), Value.int IntKind.u64 (lim m 11), Value.int IntKind.u64 (lim m 12), Value.int IntKind.u64 (lim m 13), Value.int IntKind.u64 (lim m 14), Value.int IntKind.u64 (lim m 15), Value.int IntKind.u64 (lim m 16), Value.int IntKind.u64 (lim m 17), Value.int IntKind.u64 (lim m 18), Value.int IntKind.u64 (lim m 19)]] { n := 0, objs := [] } = some (Value.bool true, { n := 0, objs := [] }, []),
    evLoop (runN 19 lN []) (clN lN []) 1000 { ts := [Value.agg { toList := kpN true (lim m) }, Value.pointer (some { block := 0, off := 0 }), Value.string { data := #[] }, Value.string { data := #[] }, undef, undef, undef, Value.pointer (some { block := 0, off := 0 }), Value.bool true, Value.bool true, Value.agg #[Value.bool true, Value.int IntKind.u64 (lim m 0), Value.int IntKind.u64 (lim m 1), Value.int IntKind.u64 (lim m 2), Value.int IntKind.u64 (lim m 3), Value.int IntKind.u64 (lim m 4), Value.int IntKind.u64 (lim m 5), Value.int IntKind.u64 (lim m 6), Value.int IntKind.u64 (lim m 7), Value.int IntKind.u64 (lim m 8), Value.int IntKind.u64 (lim m 9), Value.int IntKind.u64 (lim m 10), Value.int IntKind.u64 (lim m 11), Value.int IntKind.u64 (lim m 12), Value.int IntKind.u64 (lim m 13), Value.int IntKind.u64 (lim m 14), Value.int IntKind.u64 (lim m 15), Value.int IntKind.u64 (lim m 16), Value.int IntKind.u64 (lim m 17), Value.int IntKind.u64 (lim m 18), Value.int IntKind.u64 (lim m 19)], Value.bool true, Value.bool false, Value.bool false, undef, undef, undef, undef, undef, undef, undef, undef, undef, undef, undef, undef, undef, undef, undef, undef, undef, undef, undef, undef, undef, undef, undef, undef, undef, undef, undef, undef, undef, undef, undef, undef, undef, undef, undef, undef, undef], H := { n := 1, objs := [AObj.cells [Value.bool true, Value.int IntKind.u64 (lim m 0), Value.int IntKind.u64 (lim m 1), Value.int IntKind.u64 (lim m 2), Value.int IntKind.u64 (lim m 3), Value.int IntKind.u64 (lim m 4), Value.int IntKind.u64 (lim m 5), Value.int IntKind.u64 (lim m 6), Value.int IntKind.u64 (lim m 7), Value.int IntKind.u64 (lim m 8), Value.int IntKind.u64 (lim m 9), Value.int IntKind.u64 (lim m 10), Value.int IntKind.u64 (lim m 11), Value.int IntKind.u64 (lim m 12), Value.int IntKind.u64 (lim m 13), Value.int IntKind.u64 (lim m 14), Value.int IntKind.u64 (lim m 15), Value.int IntKind.u64 (lim m 16), Value.int IntKind.u64 (lim m 17), Value.int IntKind.u64 (lim m 18), Value.int IntKind.u64 (lim m 19)] 34 0 1] }, log := [] } = some (Ex.exit 0, EN true m zs F w)] (by kernel_rfl)
    ⟨Dg.evCall_told (under2 (zero_yes _ h0)), hz _ (by kernel_rfl), trivial⟩
--> np0
--< nneg
theorem nneg (m : Nat) (zs : List Int) (hm : m < B ^ 20) (h0 : 0 < m) (hl : List.length zs ≤ 1000) (hr : evCall Tryd.prog 0 (bodied Tryd.prog) ov2 sbs 1000 19 11 [num false m] { n := 0, objs := [] } = some (Value.string (txt zs), { n := 0, objs := [] }, [])) :
    evCall Tryd.prog 0 (bodied Tryd.prog) ov2 sbs 1000 20 11 [num true m] { n := 0, objs := [] } = some (Value.string (txt (45 :: zs)), { n := 0, objs := [] }, []) :=
  Dg.evCall_hint (hs' := []) (hs := [Hint.call 25 (Value.bool false) { n := 0, objs := [] } [],
    Hint.call 11 (Value.string (txt zs)) { n := 0, objs := [] } [],
    Hint.soft 11 17 (Value.string (txt (45 :: zs)))])
    [evCall Tryd.prog 0 (bodied Tryd.prog) ov2 sbs 1000 19 25 [Value.agg #[Value.bool true, Value.int IntKind.u64 (lim m 0), Value.int IntKind.u64 (lim m 1), Value.int IntKind.u64 (lim m 2), Value.int IntKind.u64 (lim m 3), Value.int IntKind.u64 (lim m 4), Value.int IntKind.u64 (lim m 5), Value.int IntKind.u64 (lim m 6), Value.int IntKind.u64 (lim m 7), Value.int IntKind.u64 (lim m 8), Value.int IntKind.u64 (lim m 9), Value.int IntKind.u64 (lim m 10), Value.int IntKind.u64 (lim m 11), Value.int IntKind.u64 (lim m 12), Value.int IntKind.u64 (lim m 13), Value.int IntKind.u64 (lim m 14), Value.int IntKind.u64 (lim m 15), Value.int IntKind.u64 (lim m 16), Value.int IntKind.u64 (lim m 17), Value.int IntKind.u64 (lim m 18), Value.int IntKind.u64 (lim m 19)]] { n := 0, objs := [] } = some (Value.bool false, { n := 0, objs := [] }, []),
    evCall Tryd.prog 0 (bodied Tryd.prog) ov2 sbs 1000 19 11 [Value.agg #[Value.bool false, Value.int IntKind.u64 (lim m 0), Value.int IntKind.u64 (lim m 1), Value.int IntKind.u64 (lim m 2), Value.int IntKind.u64 (lim m 3), Value.int IntKind.u64 (lim m 4), Value.int IntKind.u64 (lim m 5), Value.int IntKind.u64 (lim m 6), Value.int IntKind.u64 (lim m 7), Value.int IntKind.u64 (lim m 8), Value.int IntKind.u64 (lim m 9), Value.int IntKind.u64 (lim m 10), Value.int IntKind.u64 (lim m 11), Value.int IntKind.u64 (lim m 12), Value.int IntKind.u64 (lim m 13), Value.int IntKind.u64 (lim m 14), Value.int IntKind.u64 (lim m 15), Value.int IntKind.u64 (lim m 16), Value.int IntKind.u64 (lim m 17), Value.int IntKind.u64 (lim m 18), Value.int IntKind.u64 (lim m 19)]] { n := 0, objs := [] } = some (Value.string (txt zs), { n := 0, objs := [] }, []),
    ByteArray.size { data := #[(45 : UInt8)] } + ByteArray.size (txt zs) ≤ (9223372036854775807 : Nat),
    Value.string ({ data := #[(45 : UInt8)] } ++ txt zs) = Value.string (txt ((45 : Int) :: zs))] (by kernel_rfl)
    ⟨Dg.evCall_told (under2 (zero_no _ hm h0)), hr, siz_one (z := 45) hl, cat_one 45 zs, trivial⟩
--> nneg
end Go.Proofs.YtflgpkkbifkpoaaDoor.num
