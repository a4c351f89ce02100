/- A number's text, as the reference of chapter 06 tells it. A note's word, as the reference of chapter 06 tells it. -/
import Derived.Test.YtpgddboigegplaaGreatDoorRows
import Derived.Test.YtpgddboigegplaaGreatDoorFM
import Derived.Lib.ItoaNum
namespace Go.Proofs.YtpgddboigegplaaGreatDoor.base
open Go.Dg (junk St Ex Ev Hint evCall evCallS evCode evCodeK innerKp evCodeS evLoop cleanSt ue bodied noOver sbOf headOf tailOf bodyOf rAssign rBody lBody Flats flatOver Heap AObj SCall Law ofLaw Fix)
set_option linter.unusedVariables false
set_option linter.unusedSimpArgs false

/-- The text of one digit. -/
def dgS (d : Nat) : ByteArray := bs [UInt8.ofNat (48 + d)]
theorem dg_u64 {d : Nat} (h : d < 10) : Value.int .u64 (IntKind.wrap .u64 ((48 : Int) + (d : Int))) = .int .u64 ((48 + d : Nat) : Int) := by
  rw [Dg.w_u64]; congr 1; omega
theorem dg_u8 {d : Nat} (h : d < 10) : Value.int .u8 (IntKind.wrap .u8 ((48 + d : Nat) : Int)) = .int .u8 ((48 + d : Nat) : Int) := by
  congr 1
  simp [IntKind.wrap, IntKind.bits, IntKind.signed]
  omega
theorem dg_rem {n q d : Nat} (h : n = 10 * q + d) (hd : d < 10) : Value.int .u64 (Int.tmod (n : Int) 10) = .int .u64 (d : Int) := by
  congr 1
  rw [Int.tmod_eq_emod_of_nonneg (by omega)]
  omega
theorem dg_quo {n q d : Nat} (h : n = 10 * q + d) (hd : d < 10) (hn : n < 18446744073709551616) : Value.int .u64 (IntKind.wrap .u64 (Int.tdiv (n : Int) 10)) = .int .u64 (q : Int) := by
  rw [Dg.w_u64, Int.tdiv_eq_ediv_of_nonneg (by omega)]
  congr 1
  omega
theorem dg_str (d : Nat) : Dg.strOf [Value.int .u8 ((48 + d : Nat) : Int)] 0 1 = some (dgS d) := by
  rfl
--< dgB
theorem dgBm (m : Nat) (lf : Nat) (n : Nat) (q : Nat) (d : Nat) (hn : n = 10 * q + d) (hd : d < 10) (h64 : n < 18446744073709551616) (h0 : n < 10) :
    evCall Tryz.prog 0 (bodied Tryz.prog) noOver sbs lf (m + 1) 35 [Value.int IntKind.u64 (↑n : Int)] { n := 0, objs := [] } = some (Value.string (dgS d), { n := 0, objs := [] }, []) :=
  Dg.evCall_hint (hs' := []) (hs := [Hint.soft 35 5 (Value.int IntKind.u64 (↑d : Int)),
    Hint.val 35 6 (Value.int IntKind.u64 (↑(48 + d) : Int)),
    Hint.val 35 7 (Value.int IntKind.u8 (↑(48 + d) : Int)),
    Hint.soft 35 9 (Value.string (dgS d)),
    Hint.val 35 11 (Value.bool true)])
    [(10 : Int) ≠ (0 : Int),
    Value.int IntKind.u64 (Int.tmod (↑n : Int) (10 : Int)) = Value.int IntKind.u64 (↑d : Int),
    Value.int IntKind.u64 (IntKind.wrap IntKind.u64 ((48 : Int) + (↑d : Int))) = Value.int IntKind.u64 (↑((48 : Nat) + d) : Int),
    Value.int IntKind.u8 (IntKind.wrap IntKind.u8 (↑((48 : Nat) + d) : Int)) = Value.int IntKind.u8 (↑((48 : Nat) + d) : Int),
    Dg.strOf [Value.int IntKind.u8 (↑((48 : Nat) + d) : Int)] (0 : Nat) (1 : Nat) = some (dgS d),
    Value.bool (decide ((↑n : Int) < (10 : Int))) = Value.bool true] (by kernel_rfl)
    ⟨by omega, dg_rem hn hd, dg_u64 hd, dg_u8 hd, dg_str d, Dg.vtrue (by omega), trivial⟩
--> dgB
--< dgA
theorem dgAm (m : Nat) (lf : Nat) (n : Nat) (q : Nat) (d : Nat) (hn : n = 10 * q + d) (hd : d < 10) (h64 : n < 18446744073709551616) (t : ByteArray) (h0 : 10 ≤ n) (ht : ByteArray.size t ≤ 100) (hc : evCall Tryz.prog 0 (bodied Tryz.prog) noOver sbs lf (m + 1) 35 [Value.int IntKind.u64 (↑q : Int)] { n := 0, objs := [] } = some (Value.string t, { n := 0, objs := [] }, [])) :
    evCall Tryz.prog 0 (bodied Tryz.prog) noOver sbs lf (m + 2) 35 [Value.int IntKind.u64 (↑n : Int)] { n := 0, objs := [] } = some (Value.string (t ++ dgS d), { n := 0, objs := [] }, []) :=
  Dg.evCall_hint (hs' := []) (hs := [Hint.soft 35 5 (Value.int IntKind.u64 (↑d : Int)),
    Hint.val 35 6 (Value.int IntKind.u64 (↑(48 + d) : Int)),
    Hint.val 35 7 (Value.int IntKind.u8 (↑(48 + d) : Int)),
    Hint.soft 35 9 (Value.string (dgS d)),
    Hint.val 35 11 (Value.bool false),
    Hint.soft 35 14 (Value.int IntKind.u64 (↑q : Int)),
    Hint.call 35 (Value.string t) { n := 0, objs := [] } [],
    Hint.soft 35 17 (Value.string (t ++ dgS d))])
    [(10 : Int) ≠ (0 : Int),
    Value.int IntKind.u64 (Int.tmod (↑n : Int) (10 : Int)) = Value.int IntKind.u64 (↑d : Int),
    Value.int IntKind.u64 (IntKind.wrap IntKind.u64 ((48 : Int) + (↑d : Int))) = Value.int IntKind.u64 (↑((48 : Nat) + d) : Int),
    Value.int IntKind.u8 (IntKind.wrap IntKind.u8 (↑((48 : Nat) + d) : Int)) = Value.int IntKind.u8 (↑((48 : Nat) + d) : Int),
    Dg.strOf [Value.int IntKind.u8 (↑((48 : Nat) + d) : Int)] (0 : Nat) (1 : Nat) = some (dgS d),
    Value.bool (decide ((↑n : Int) < (10 : Int))) = Value.bool false,
    (10 : Int) ≠ (0 : Int),
    Value.int IntKind.u64 (IntKind.wrap IntKind.u64 (Int.tdiv (↑n : Int) (10 : Int))) = Value.int IntKind.u64 (↑q : Int),
    evCall Tryz.prog 0 (bodied Tryz.prog) noOver sbs lf (m + 1) 35 [Value.int IntKind.u64 (↑q : Int)] { n := 0, objs := [] } = some (Value.string t, { n := 0, objs := [] }, []),
    ByteArray.size t + ByteArray.size (dgS d) ≤ (9223372036854775807 : Nat),
    Value.string (t ++ dgS d) = Value.string (t ++ dgS d)] (by kernel_rfl)
    ⟨by omega, dg_rem hn hd, dg_u64 hd, dg_u8 hd, dg_str d, Dg.vfalse (by omega), by omega, dg_quo hn hd h64, hc, by rw [show (dgS d).size = 1 from rfl]; omega, rfl, trivial⟩
--> dgA
--< nuP
theorem nuP (lf : Nat) (n : Nat) (t : ByteArray) (h0 : n < 9223372036854775808) (hc : evCall Tryz.prog 0 (bodied Tryz.prog) noOver sbs lf 29 35 [Value.int IntKind.u64 (↑n : Int)] { n := 0, objs := [] } = some (Value.string t, { n := 0, objs := [] }, [])) :
    evCall Tryz.prog 0 (bodied Tryz.prog) noOver sbs lf 30 21 [Value.int IntKind.i64 (↑n : Int)] { n := 0, objs := [] } = some (Value.string t, { n := 0, objs := [] }, []) :=
  Dg.evCall_hint (hs' := []) (hs := [Hint.val 21 11 (Value.int IntKind.u64 (↑n : Int)),
    Hint.call 35 (Value.string t) { n := 0, objs := [] } []])
    [Value.int IntKind.u64 (IntKind.wrap IntKind.u64 (↑n : Int)) = Value.int IntKind.u64 (↑n : Int),
    evCall Tryz.prog 0 (bodied Tryz.prog) noOver sbs lf 29 35 [Value.int IntKind.u64 (↑n : Int)] { n := 0, objs := [] } = some (Value.string t, { n := 0, objs := [] }, [])] (by kernel_rfl)
    ⟨Dg.u64_eq rfl (by omega) (by omega), hc, trivial⟩
--> nuP
--< nuN
theorem nuN (lf : Nat) (n : Int) (u : Nat) (hu : n = -(↑u : Int)) (h1 : 1 ≤ u) (h2 : u ≤ 9223372036854775808) (t : ByteArray) (ht : ByteArray.size t ≤ 100) (hc : evCall Tryz.prog 0 (bodied Tryz.prog) noOver sbs lf 29 35 [Value.int IntKind.u64 (↑u : Int)] { n := 0, objs := [] } = some (Value.string t, { n := 0, objs := [] }, [])) :
    evCall Tryz.prog 0 (bodied Tryz.prog) noOver sbs lf 30 21 [Value.int IntKind.i64 n] { n := 0, objs := [] } = some (Value.string (bs [45] ++ t), { n := 0, objs := [] }, []) :=
  Dg.evCall_hint (hs' := []) (hs := [Hint.val 21 4 (Value.bool true),
    Hint.val 21 6 (Value.int IntKind.u64 (18446744073709551616 - (↑u : Int))),
    Hint.val 21 7 (Value.int IntKind.u64 (↑u : Int)),
    Hint.call 35 (Value.string t) { n := 0, objs := [] } [],
    Hint.soft 21 9 (Value.string (bs [45] ++ t))])
    [Value.bool (decide (n < (0 : Int))) = Value.bool true,
    Value.int IntKind.u64 (IntKind.wrap IntKind.u64 n) = Value.int IntKind.u64 ((18446744073709551616 : Int) - (↑u : Int)),
    Value.int IntKind.u64 (IntKind.wrap IntKind.u64 ((0 : Int) - ((18446744073709551616 : Int) - (↑u : Int)))) = Value.int IntKind.u64 (↑u : Int),
    evCall Tryz.prog 0 (bodied Tryz.prog) noOver sbs lf 29 35 [Value.int IntKind.u64 (↑u : Int)] { n := 0, objs := [] } = some (Value.string t, { n := 0, objs := [] }, []),
    ByteArray.size { data := #[(45 : UInt8)] } + ByteArray.size t ≤ (9223372036854775807 : Nat),
    Value.string ({ data := #[(45 : UInt8)] } ++ t) = Value.string (bs [(45 : UInt8)] ++ t)] (by kernel_rfl)
    ⟨Dg.vtrue (by omega), by rw [Dg.w_u64]; exact Dg.int_eq (by omega), by rw [Dg.w_u64]; exact Dg.int_eq (by omega), hc, by show 1 + t.size ≤ _; omega, rfl, trivial⟩
--> nuN
theorem bs_app (a b : List UInt8) : bs a ++ bs b = bs (a ++ b) := by
  apply ByteArray.ext
  simp [bs]
theorem dig_run (lf : Nat) : ∀ (m n : Nat), n < 10 ^ m → n < 18446744073709551616 → m ≤ 50 → evCall Tryz.prog 0 (bodied Tryz.prog) noOver sbs lf (m + 1) 35 [.int .u64 (n : Int)] ⟨0, []⟩ = some (.string (bs (Lib.decDigits n)), ⟨0, []⟩, []) ∧ (Lib.decDigits n).length ≤ m + 1 := by
  intro m
  induction m with
  | zero =>
    intro n h h64 _
    obtain rfl : n = 0 := by simpa using h
    rw [Lib.decDigits_one (by omega)]
    exact ⟨dgBm 0 lf 0 0 0 rfl (by omega) (by omega) (by omega), by simp⟩
  | succ m ih =>
    intro n h h64 hm
    by_cases h0 : n < 10
    · rw [Lib.decDigits_one h0]
      exact ⟨dgBm (m + 1) lf n 0 n (by omega) h0 h64 h0, by simp⟩
    · rw [Lib.decDigits, dif_neg h0]
      obtain ⟨h1, h2⟩ := ih (n / 10) (by rw [Nat.pow_succ] at h; omega) (by omega) (by omega)
      refine ⟨?_, by rw [List.length_append]; simp; omega⟩
      rw [← bs_app]
      exact dgAm m lf n (n / 10) (n % 10) (by omega) (by omega) h64 _ (by omega) (by rw [bs_size]; omega) h1
theorem num_run (lf : Nat) {n : Int} (h0 : -9223372036854775808 ≤ n) (h1 : n ≤ 9223372036854775807) : evCall Tryz.prog 0 (bodied Tryz.prog) noOver sbs lf 30 21 [.int .i64 n] ⟨0, []⟩ = some (.string (bs (Lib.itoa n)), ⟨0, []⟩, []) := by
  have key : ∀ u : Nat, u < 18446744073709551616 → evCall Tryz.prog 0 (bodied Tryz.prog) noOver sbs lf 29 35 [.int .u64 (u : Int)] ⟨0, []⟩ = some (.string (bs (Lib.decDigits u)), ⟨0, []⟩, []) ∧ (Lib.decDigits u).length ≤ 21 := fun u hu => by
    have h29 : ∀ k, k = 28 + 1 → evCall Tryz.prog 0 (bodied Tryz.prog) noOver sbs lf k 35 [.int .u64 (u : Int)] ⟨0, []⟩ = some (.string (bs (Lib.decDigits u)), ⟨0, []⟩, []) := fun k hk => by rw [hk]; exact (dig_run lf 28 u (by omega) hu (by omega)).1
    exact ⟨h29 29 rfl, by
      have h1 := Lib.decDigits_length u
      have h2 := (dig_run lf 20 u (by omega) hu (by omega)).2
      omega⟩
  unfold Lib.itoa
  by_cases hn : n < 0
  · rw [if_pos hn]
    obtain ⟨k1, k2⟩ := key n.natAbs (by omega)
    have := nuN lf n n.natAbs (by omega) (by omega) (by omega) _ (by rw [bs_size]; omega) k1
    rw [this, bs_app]
    rfl
  · rw [if_neg hn]
    obtain ⟨u, rfl⟩ : ∃ u : Nat, n = u := ⟨n.toNat, by omega⟩
    obtain ⟨k1, k2⟩ := key u (by omega)
    exact nuP lf u _ (by omega) k1
/-- The reference's Number. -/
theorem num_flats {n : Int} (h0 : -9223372036854775808 ≤ n) (h1 : n ≤ 9223372036854775807) : Flats Tryz.prog 21 [.int .i64 n] (.string (bs (Lib.itoa n))) :=
  Dg.closed_call mixed okB Dg.noOver_ok (by rw [num_run 100 h0 h1]; rfl) rfl rfl
end Go.Proofs.YtpgddboigegplaaGreatDoor.base

namespace Go.Proofs.YtpgddboigegplaaGreatDoor.base
open Go.Dg (junk St Ex Ev Hint evCall evCallS evCode evCodeK innerKp evCodeS evLoop cleanSt ue bodied noOver sbOf headOf tailOf bodyOf rAssign rBody lBody Flats flatOver Heap AObj SCall Law ofLaw Fix)
set_option linter.unusedVariables false
set_option linter.unusedSimpArgs false

noncomputable def lF : Code := lBody ((Tryz.f33.body).getD .skip)
noncomputable abbrev runF (lf : Nat) : St → Option (Ex × St) := evCode Tryz.prog 0 (bodied Tryz.prog) (evCall Tryz.prog 0 (bodied Tryz.prog) noOver sbs lf 30) 0 6 lf lF
noncomputable abbrev clF : St → St := cleanSt 0 6 (ue lF [] []).1
def Fa (s : ByteArray) (ok : Bool) : St := ⟨[.string s, undef, .string ⟨#[]⟩, .bool ok, .int .i64 0, undef] ++ js 41, ⟨0, []⟩, []⟩
def Fb (s : ByteArray) (ok : Bool) (i : Nat) (z : Int) : St := ⟨[.string s, undef, .string ⟨#[]⟩, .bool ok, .int .i64 (i : Int), .int .u8 z] ++ js 41, ⟨0, []⟩, []⟩
--< fal
theorem fal (lf : Nat) (s : ByteArray) (z : Int) (hz : Dg.strAt s 0 = some z) (hr : 0 ≤ z ∧ z < 256) (hi : 0 < (↑(ByteArray.size s) : Int)) (hsz : ByteArray.size s ≤ 9223372036854775807) (hc : 97 ≤ z ∧ z ≤ 122) :
    ∃ s', (runF lf) (Fa s true) = some (Ex.normal, s') ∧ clF s' = Fb s true 1 z :=
  Dg.code_round (f := 33) clF (hs := [Hint.val 33 17 (Value.bool true),
    Hint.soft 33 22 (Value.int IntKind.u8 z),
    Hint.val 33 26 (Value.bool true),
    Hint.val 33 29 (Value.bool true)])
    [Value.bool (decide ((0 : Int) < (↑(ByteArray.size s) : Int))) = Value.bool true,
    Dg.strAt s (0 : Int) = some z,
    Value.bool (decide (z ≥ (97 : Int))) = Value.bool true,
    Value.bool (decide (z ≤ (122 : Int))) = Value.bool true] (by kernel_rfl)
    ⟨Dg.vtrue (by omega), hz, Dg.vtrue (by omega), Dg.vtrue (by omega), trivial⟩
--> fal
--< fad
theorem fad (lf : Nat) (s : ByteArray) (z : Int) (hz : Dg.strAt s 0 = some z) (hr : 0 ≤ z ∧ z < 256) (hi : 0 < (↑(ByteArray.size s) : Int)) (hsz : ByteArray.size s ≤ 9223372036854775807) (hc : 48 ≤ z ∧ z ≤ 57) :
    ∃ s', (runF lf) (Fa s true) = some (Ex.normal, s') ∧ clF s' = Fb s true 1 z :=
  Dg.code_round (f := 33) clF (hs := [Hint.val 33 17 (Value.bool true),
    Hint.soft 33 22 (Value.int IntKind.u8 z),
    Hint.val 33 26 (Value.bool false),
    Hint.val 33 33 (Value.bool true),
    Hint.val 33 36 (Value.bool true)])
    [Value.bool (decide ((0 : Int) < (↑(ByteArray.size s) : Int))) = Value.bool true,
    Dg.strAt s (0 : Int) = some z,
    Value.bool (decide (z ≥ (97 : Int))) = Value.bool false,
    Value.bool (decide (z ≥ (48 : Int))) = Value.bool true,
    Value.bool (decide (z ≤ (57 : Int))) = Value.bool true] (by kernel_rfl)
    ⟨Dg.vtrue (by omega), hz, Dg.vfalse (by omega), Dg.vtrue (by omega), Dg.vtrue (by omega), trivial⟩
--> fad
--< fam
theorem fam (lf : Nat) (s : ByteArray) (z : Int) (hz : Dg.strAt s 0 = some z) (hr : 0 ≤ z ∧ z < 256) (hi : 0 < (↑(ByteArray.size s) : Int)) (hsz : ByteArray.size s ≤ 9223372036854775807) (hc : z = 45) :
    ∃ s', (runF lf) (Fa s true) = some (Ex.normal, s') ∧ clF s' = Fb s true 1 z :=
  Dg.code_round (f := 33) clF (hs := [Hint.val 33 17 (Value.bool true),
    Hint.soft 33 22 (Value.int IntKind.u8 z),
    Hint.val 33 26 (Value.bool false),
    Hint.val 33 33 (Value.bool false),
    Hint.val 33 41 (Value.bool true)])
    [Value.bool (decide ((0 : Int) < (↑(ByteArray.size s) : Int))) = Value.bool true,
    Dg.strAt s (0 : Int) = some z,
    Value.bool (decide (z ≥ (97 : Int))) = Value.bool false,
    Value.bool (decide (z ≥ (48 : Int))) = Value.bool false,
    Value.bool (z == (45 : Int)) = Value.bool true] (by kernel_rfl)
    ⟨Dg.vtrue (by omega), hz, Dg.vfalse (by omega), Dg.vfalse (by omega), Dg.vtrue (by omega), trivial⟩
--> fam
--< faw
theorem faw (lf : Nat) (s : ByteArray) (z : Int) (hz : Dg.strAt s 0 = some z) (hr : 0 ≤ z ∧ z < 256) (hi : 0 < (↑(ByteArray.size s) : Int)) (hsz : ByteArray.size s ≤ 9223372036854775807) (hc : z < 45 ∨ 45 < z ∧ z < 48) :
    ∃ s', (runF lf) (Fa s true) = some (Ex.normal, s') ∧ clF s' = Fb s false 1 z :=
  Dg.code_round (f := 33) clF (hs := [Hint.val 33 17 (Value.bool true),
    Hint.soft 33 22 (Value.int IntKind.u8 z),
    Hint.val 33 26 (Value.bool false),
    Hint.val 33 33 (Value.bool false),
    Hint.val 33 41 (Value.bool false)])
    [Value.bool (decide ((0 : Int) < (↑(ByteArray.size s) : Int))) = Value.bool true,
    Dg.strAt s (0 : Int) = some z,
    Value.bool (decide (z ≥ (97 : Int))) = Value.bool false,
    Value.bool (decide (z ≥ (48 : Int))) = Value.bool false,
    Value.bool (z == (45 : Int)) = Value.bool false] (by kernel_rfl)
    ⟨Dg.vtrue (by omega), hz, Dg.vfalse (by omega), Dg.vfalse (by omega), Dg.vfalse (by omega), trivial⟩
--> faw
--< fax
theorem fax (lf : Nat) (s : ByteArray) (z : Int) (hz : Dg.strAt s 0 = some z) (hr : 0 ≤ z ∧ z < 256) (hi : 0 < (↑(ByteArray.size s) : Int)) (hsz : ByteArray.size s ≤ 9223372036854775807) (hc : 57 < z ∧ z < 97) :
    ∃ s', (runF lf) (Fa s true) = some (Ex.normal, s') ∧ clF s' = Fb s false 1 z :=
  Dg.code_round (f := 33) clF (hs := [Hint.val 33 17 (Value.bool true),
    Hint.soft 33 22 (Value.int IntKind.u8 z),
    Hint.val 33 26 (Value.bool false),
    Hint.val 33 33 (Value.bool true),
    Hint.val 33 36 (Value.bool false),
    Hint.val 33 41 (Value.bool false)])
    [Value.bool (decide ((0 : Int) < (↑(ByteArray.size s) : Int))) = Value.bool true,
    Dg.strAt s (0 : Int) = some z,
    Value.bool (decide (z ≥ (97 : Int))) = Value.bool false,
    Value.bool (decide (z ≥ (48 : Int))) = Value.bool true,
    Value.bool (decide (z ≤ (57 : Int))) = Value.bool false,
    Value.bool (z == (45 : Int)) = Value.bool false] (by kernel_rfl)
    ⟨Dg.vtrue (by omega), hz, Dg.vfalse (by omega), Dg.vtrue (by omega), Dg.vfalse (by omega), Dg.vfalse (by omega), trivial⟩
--> fax
--< fay
theorem fay (lf : Nat) (s : ByteArray) (z : Int) (hz : Dg.strAt s 0 = some z) (hr : 0 ≤ z ∧ z < 256) (hi : 0 < (↑(ByteArray.size s) : Int)) (hsz : ByteArray.size s ≤ 9223372036854775807) (hc : 122 < z) :
    ∃ s', (runF lf) (Fa s true) = some (Ex.normal, s') ∧ clF s' = Fb s false 1 z :=
  Dg.code_round (f := 33) clF (hs := [Hint.val 33 17 (Value.bool true),
    Hint.soft 33 22 (Value.int IntKind.u8 z),
    Hint.val 33 26 (Value.bool true),
    Hint.val 33 29 (Value.bool false),
    Hint.val 33 33 (Value.bool true),
    Hint.val 33 36 (Value.bool false),
    Hint.val 33 41 (Value.bool false)])
    [Value.bool (decide ((0 : Int) < (↑(ByteArray.size s) : Int))) = Value.bool true,
    Dg.strAt s (0 : Int) = some z,
    Value.bool (decide (z ≥ (97 : Int))) = Value.bool true,
    Value.bool (decide (z ≤ (122 : Int))) = Value.bool false,
    Value.bool (decide (z ≥ (48 : Int))) = Value.bool true,
    Value.bool (decide (z ≤ (57 : Int))) = Value.bool false,
    Value.bool (z == (45 : Int)) = Value.bool false] (by kernel_rfl)
    ⟨Dg.vtrue (by omega), hz, Dg.vtrue (by omega), Dg.vfalse (by omega), Dg.vtrue (by omega), Dg.vfalse (by omega), Dg.vfalse (by omega), trivial⟩
--> fay
--< fan
theorem fan (lf : Nat) (s : ByteArray) (z : Int) (hz : Dg.strAt s 0 = some z) (hr : 0 ≤ z ∧ z < 256) (hi : 0 < (↑(ByteArray.size s) : Int)) (hsz : ByteArray.size s ≤ 9223372036854775807) :
    ∃ s', (runF lf) (Fa s false) = some (Ex.normal, s') ∧ clF s' = Fb s false 1 z :=
  Dg.code_round (f := 33) clF (hs := [Hint.val 33 17 (Value.bool true),
    Hint.soft 33 22 (Value.int IntKind.u8 z)])
    [Value.bool (decide ((0 : Int) < (↑(ByteArray.size s) : Int))) = Value.bool true,
    Dg.strAt s (0 : Int) = some z] (by kernel_rfl)
    ⟨Dg.vtrue (by omega), hz, trivial⟩
--> fan
--< fbl
theorem fbl (lf : Nat) (s : ByteArray) (i : Nat) (z0 : Int) (z : Int) (hz : Dg.strAt s (↑i : Int) = some z) (hr : 0 ≤ z ∧ z < 256) (hi : (↑i : Int) < (↑(ByteArray.size s) : Int)) (hsz : ByteArray.size s ≤ 9223372036854775807) (hc : 97 ≤ z ∧ z ≤ 122) :
    ∃ s', (runF lf) (Fb s true i z0) = some (Ex.normal, s') ∧ clF s' = Fb s true (i + 1) z :=
  Dg.code_round (f := 33) clF (hs := [Hint.val 33 17 (Value.bool true),
    Hint.soft 33 22 (Value.int IntKind.u8 z),
    Hint.val 33 26 (Value.bool true),
    Hint.val 33 29 (Value.bool true),
    Hint.val 33 19 (Value.int IntKind.i64 ((↑i : Int) + 1))])
    [Value.bool (decide ((↑i : Int) < (↑(ByteArray.size s) : Int))) = Value.bool true,
    Dg.strAt s (↑i : Int) = some z,
    Value.bool (decide (z ≥ (97 : Int))) = Value.bool true,
    Value.bool (decide (z ≤ (122 : Int))) = Value.bool true,
    Value.int IntKind.i64 (IntKind.wrap IntKind.i64 ((↑i : Int) + (1 : Int))) = Value.int IntKind.i64 ((↑i : Int) + (1 : Int))] (by kernel_rfl)
    ⟨Dg.vtrue (by omega), hz, Dg.vtrue (by omega), Dg.vtrue (by omega), Dg.i64_eq rfl (by omega) (by omega), trivial⟩
--> fbl
--< fbd
theorem fbd (lf : Nat) (s : ByteArray) (i : Nat) (z0 : Int) (z : Int) (hz : Dg.strAt s (↑i : Int) = some z) (hr : 0 ≤ z ∧ z < 256) (hi : (↑i : Int) < (↑(ByteArray.size s) : Int)) (hsz : ByteArray.size s ≤ 9223372036854775807) (hc : 48 ≤ z ∧ z ≤ 57) :
    ∃ s', (runF lf) (Fb s true i z0) = some (Ex.normal, s') ∧ clF s' = Fb s true (i + 1) z :=
  Dg.code_round (f := 33) clF (hs := [Hint.val 33 17 (Value.bool true),
    Hint.soft 33 22 (Value.int IntKind.u8 z),
    Hint.val 33 26 (Value.bool false),
    Hint.val 33 33 (Value.bool true),
    Hint.val 33 36 (Value.bool true),
    Hint.val 33 19 (Value.int IntKind.i64 ((↑i : Int) + 1))])
    [Value.bool (decide ((↑i : Int) < (↑(ByteArray.size s) : Int))) = Value.bool true,
    Dg.strAt s (↑i : Int) = some z,
    Value.bool (decide (z ≥ (97 : Int))) = Value.bool false,
    Value.bool (decide (z ≥ (48 : Int))) = Value.bool true,
    Value.bool (decide (z ≤ (57 : Int))) = Value.bool true,
    Value.int IntKind.i64 (IntKind.wrap IntKind.i64 ((↑i : Int) + (1 : Int))) = Value.int IntKind.i64 ((↑i : Int) + (1 : Int))] (by kernel_rfl)
    ⟨Dg.vtrue (by omega), hz, Dg.vfalse (by omega), Dg.vtrue (by omega), Dg.vtrue (by omega), Dg.i64_eq rfl (by omega) (by omega), trivial⟩
--> fbd
--< fbm
theorem fbm (lf : Nat) (s : ByteArray) (i : Nat) (z0 : Int) (z : Int) (hz : Dg.strAt s (↑i : Int) = some z) (hr : 0 ≤ z ∧ z < 256) (hi : (↑i : Int) < (↑(ByteArray.size s) : Int)) (hsz : ByteArray.size s ≤ 9223372036854775807) (hc : z = 45) :
    ∃ s', (runF lf) (Fb s true i z0) = some (Ex.normal, s') ∧ clF s' = Fb s true (i + 1) z :=
  Dg.code_round (f := 33) clF (hs := [Hint.val 33 17 (Value.bool true),
    Hint.soft 33 22 (Value.int IntKind.u8 z),
    Hint.val 33 26 (Value.bool false),
    Hint.val 33 33 (Value.bool false),
    Hint.val 33 41 (Value.bool true),
    Hint.val 33 19 (Value.int IntKind.i64 ((↑i : Int) + 1))])
    [Value.bool (decide ((↑i : Int) < (↑(ByteArray.size s) : Int))) = Value.bool true,
    Dg.strAt s (↑i : Int) = some z,
    Value.bool (decide (z ≥ (97 : Int))) = Value.bool false,
    Value.bool (decide (z ≥ (48 : Int))) = Value.bool false,
    Value.bool (z == (45 : Int)) = Value.bool true,
    Value.int IntKind.i64 (IntKind.wrap IntKind.i64 ((↑i : Int) + (1 : Int))) = Value.int IntKind.i64 ((↑i : Int) + (1 : Int))] (by kernel_rfl)
    ⟨Dg.vtrue (by omega), hz, Dg.vfalse (by omega), Dg.vfalse (by omega), Dg.vtrue (by omega), Dg.i64_eq rfl (by omega) (by omega), trivial⟩
--> fbm
--< fbw
theorem fbw (lf : Nat) (s : ByteArray) (i : Nat) (z0 : Int) (z : Int) (hz : Dg.strAt s (↑i : Int) = some z) (hr : 0 ≤ z ∧ z < 256) (hi : (↑i : Int) < (↑(ByteArray.size s) : Int)) (hsz : ByteArray.size s ≤ 9223372036854775807) (hc : z < 45 ∨ 45 < z ∧ z < 48) :
    ∃ s', (runF lf) (Fb s true i z0) = some (Ex.normal, s') ∧ clF s' = Fb s false (i + 1) z :=
  Dg.code_round (f := 33) clF (hs := [Hint.val 33 17 (Value.bool true),
    Hint.soft 33 22 (Value.int IntKind.u8 z),
    Hint.val 33 26 (Value.bool false),
    Hint.val 33 33 (Value.bool false),
    Hint.val 33 41 (Value.bool false),
    Hint.val 33 19 (Value.int IntKind.i64 ((↑i : Int) + 1))])
    [Value.bool (decide ((↑i : Int) < (↑(ByteArray.size s) : Int))) = Value.bool true,
    Dg.strAt s (↑i : Int) = some z,
    Value.bool (decide (z ≥ (97 : Int))) = Value.bool false,
    Value.bool (decide (z ≥ (48 : Int))) = Value.bool false,
    Value.bool (z == (45 : Int)) = Value.bool false,
    Value.int IntKind.i64 (IntKind.wrap IntKind.i64 ((↑i : Int) + (1 : Int))) = Value.int IntKind.i64 ((↑i : Int) + (1 : Int))] (by kernel_rfl)
    ⟨Dg.vtrue (by omega), hz, Dg.vfalse (by omega), Dg.vfalse (by omega), Dg.vfalse (by omega), Dg.i64_eq rfl (by omega) (by omega), trivial⟩
--> fbw
--< fbx
theorem fbx (lf : Nat) (s : ByteArray) (i : Nat) (z0 : Int) (z : Int) (hz : Dg.strAt s (↑i : Int) = some z) (hr : 0 ≤ z ∧ z < 256) (hi : (↑i : Int) < (↑(ByteArray.size s) : Int)) (hsz : ByteArray.size s ≤ 9223372036854775807) (hc : 57 < z ∧ z < 97) :
    ∃ s', (runF lf) (Fb s true i z0) = some (Ex.normal, s') ∧ clF s' = Fb s false (i + 1) z :=
  Dg.code_round (f := 33) clF (hs := [Hint.val 33 17 (Value.bool true),
    Hint.soft 33 22 (Value.int IntKind.u8 z),
    Hint.val 33 26 (Value.bool false),
    Hint.val 33 33 (Value.bool true),
    Hint.val 33 36 (Value.bool false),
    Hint.val 33 41 (Value.bool false),
    Hint.val 33 19 (Value.int IntKind.i64 ((↑i : Int) + 1))])
    [Value.bool (decide ((↑i : Int) < (↑(ByteArray.size s) : Int))) = Value.bool true,
    Dg.strAt s (↑i : Int) = some z,
    Value.bool (decide (z ≥ (97 : Int))) = Value.bool false,
    Value.bool (decide (z ≥ (48 : Int))) = Value.bool true,
    Value.bool (decide (z ≤ (57 : Int))) = Value.bool false,
    Value.bool (z == (45 : Int)) = Value.bool false,
    Value.int IntKind.i64 (IntKind.wrap IntKind.i64 ((↑i : Int) + (1 : Int))) = Value.int IntKind.i64 ((↑i : Int) + (1 : Int))] (by kernel_rfl)
    ⟨Dg.vtrue (by omega), hz, Dg.vfalse (by omega), Dg.vtrue (by omega), Dg.vfalse (by omega), Dg.vfalse (by omega), Dg.i64_eq rfl (by omega) (by omega), trivial⟩
--> fbx
--< fby
theorem fby (lf : Nat) (s : ByteArray) (i : Nat) (z0 : Int) (z : Int) (hz : Dg.strAt s (↑i : Int) = some z) (hr : 0 ≤ z ∧ z < 256) (hi : (↑i : Int) < (↑(ByteArray.size s) : Int)) (hsz : ByteArray.size s ≤ 9223372036854775807) (hc : 122 < z) :
    ∃ s', (runF lf) (Fb s true i z0) = some (Ex.normal, s') ∧ clF s' = Fb s false (i + 1) z :=
  Dg.code_round (f := 33) clF (hs := [Hint.val 33 17 (Value.bool true),
    Hint.soft 33 22 (Value.int IntKind.u8 z),
    Hint.val 33 26 (Value.bool true),
    Hint.val 33 29 (Value.bool false),
    Hint.val 33 33 (Value.bool true),
    Hint.val 33 36 (Value.bool false),
    Hint.val 33 41 (Value.bool false),
    Hint.val 33 19 (Value.int IntKind.i64 ((↑i : Int) + 1))])
    [Value.bool (decide ((↑i : Int) < (↑(ByteArray.size s) : Int))) = Value.bool true,
    Dg.strAt s (↑i : Int) = some z,
    Value.bool (decide (z ≥ (97 : Int))) = Value.bool true,
    Value.bool (decide (z ≤ (122 : Int))) = Value.bool false,
    Value.bool (decide (z ≥ (48 : Int))) = Value.bool true,
    Value.bool (decide (z ≤ (57 : Int))) = Value.bool false,
    Value.bool (z == (45 : Int)) = Value.bool false,
    Value.int IntKind.i64 (IntKind.wrap IntKind.i64 ((↑i : Int) + (1 : Int))) = Value.int IntKind.i64 ((↑i : Int) + (1 : Int))] (by kernel_rfl)
    ⟨Dg.vtrue (by omega), hz, Dg.vtrue (by omega), Dg.vfalse (by omega), Dg.vtrue (by omega), Dg.vfalse (by omega), Dg.vfalse (by omega), Dg.i64_eq rfl (by omega) (by omega), trivial⟩
--> fby
--< fbn
theorem fbn (lf : Nat) (s : ByteArray) (i : Nat) (z0 : Int) (z : Int) (hz : Dg.strAt s (↑i : Int) = some z) (hr : 0 ≤ z ∧ z < 256) (hi : (↑i : Int) < (↑(ByteArray.size s) : Int)) (hsz : ByteArray.size s ≤ 9223372036854775807) :
    ∃ s', (runF lf) (Fb s false i z0) = some (Ex.normal, s') ∧ clF s' = Fb s false (i + 1) z :=
  Dg.code_round (f := 33) clF (hs := [Hint.val 33 17 (Value.bool true),
    Hint.soft 33 22 (Value.int IntKind.u8 z),
    Hint.val 33 19 (Value.int IntKind.i64 ((↑i : Int) + 1))])
    [Value.bool (decide ((↑i : Int) < (↑(ByteArray.size s) : Int))) = Value.bool true,
    Dg.strAt s (↑i : Int) = some z,
    Value.int IntKind.i64 (IntKind.wrap IntKind.i64 ((↑i : Int) + (1 : Int))) = Value.int IntKind.i64 ((↑i : Int) + (1 : Int))] (by kernel_rfl)
    ⟨Dg.vtrue (by omega), hz, Dg.i64_eq rfl (by omega) (by omega), trivial⟩
--> fbn
--< faEt
theorem faEt (lf : Nat) (s : ByteArray) (h0 : ByteArray.size s = 0) :
    (runF lf) (Fa s true) = some (Ex.exit 0, ({ ts := [Value.string s, undef, Value.string { data := #[] }, Value.bool true, Value.int IntKind.i64 0, undef, junk, junk, junk, junk, junk, junk, junk, junk, Value.int IntKind.i64 0, Value.string s, Value.int IntKind.i64 (↑(ByteArray.size s) : Int), Value.bool false, junk, junk, junk, junk, junk, junk, junk, junk, junk, junk, junk, junk, junk, junk, junk, junk, junk, junk, junk, junk, junk, junk, junk, junk, junk, junk, junk, junk, junk], H := { n := 0, objs := [] }, log := [] } : St)) :=
  Dg.evCode_hint (f := 33) (hs' := []) (hs := [Hint.val 33 17 (Value.bool false)])
    [Value.bool (decide ((0 : Int) < (↑(ByteArray.size s) : Int))) = Value.bool false] (by kernel_rfl)
    ⟨Dg.vfalse (by omega), trivial⟩
--> faEt
--< fbEt
theorem fbEt (lf : Nat) (s : ByteArray) (i : Nat) (z0 : Int) (h0 : ByteArray.size s = i) :
    (runF lf) (Fb s true i z0) = some (Ex.exit 0, ({ ts := [Value.string s, undef, Value.string { data := #[] }, Value.bool true, Value.int IntKind.i64 (↑i : Int), Value.int IntKind.u8 z0, junk, junk, junk, junk, junk, junk, junk, junk, Value.int IntKind.i64 (↑i : Int), Value.string s, Value.int IntKind.i64 (↑(ByteArray.size s) : Int), Value.bool false, junk, junk, junk, junk, junk, junk, junk, junk, junk, junk, junk, junk, junk, junk, junk, junk, junk, junk, junk, junk, junk, junk, junk, junk, junk, junk, junk, junk, junk], H := { n := 0, objs := [] }, log := [] } : St)) :=
  Dg.evCode_hint (f := 33) (hs' := []) (hs := [Hint.val 33 17 (Value.bool false)])
    [Value.bool (decide ((↑i : Int) < (↑(ByteArray.size s) : Int))) = Value.bool false] (by kernel_rfl)
    ⟨Dg.vfalse (by omega), trivial⟩
--> fbEt
--< faEf
theorem faEf (lf : Nat) (s : ByteArray) (h0 : ByteArray.size s = 0) :
    (runF lf) (Fa s false) = some (Ex.exit 0, ({ ts := [Value.string s, undef, Value.string { data := #[] }, Value.bool false, Value.int IntKind.i64 0, undef, junk, junk, junk, junk, junk, junk, junk, junk, Value.int IntKind.i64 0, Value.string s, Value.int IntKind.i64 (↑(ByteArray.size s) : Int), Value.bool false, junk, junk, junk, junk, junk, junk, junk, junk, junk, junk, junk, junk, junk, junk, junk, junk, junk, junk, junk, junk, junk, junk, junk, junk, junk, junk, junk, junk, junk], H := { n := 0, objs := [] }, log := [] } : St)) :=
  Dg.evCode_hint (f := 33) (hs' := []) (hs := [Hint.val 33 17 (Value.bool false)])
    [Value.bool (decide ((0 : Int) < (↑(ByteArray.size s) : Int))) = Value.bool false] (by kernel_rfl)
    ⟨Dg.vfalse (by omega), trivial⟩
--> faEf
--< fbEf
theorem fbEf (lf : Nat) (s : ByteArray) (i : Nat) (z0 : Int) (h0 : ByteArray.size s = i) :
    (runF lf) (Fb s false i z0) = some (Ex.exit 0, ({ ts := [Value.string s, undef, Value.string { data := #[] }, Value.bool false, Value.int IntKind.i64 (↑i : Int), Value.int IntKind.u8 z0, junk, junk, junk, junk, junk, junk, junk, junk, Value.int IntKind.i64 (↑i : Int), Value.string s, Value.int IntKind.i64 (↑(ByteArray.size s) : Int), Value.bool false, junk, junk, junk, junk, junk, junk, junk, junk, junk, junk, junk, junk, junk, junk, junk, junk, junk, junk, junk, junk, junk, junk, junk, junk, junk, junk, junk, junk, junk], H := { n := 0, objs := [] }, log := [] } : St)) :=
  Dg.evCode_hint (f := 33) (hs' := []) (hs := [Hint.val 33 17 (Value.bool false)])
    [Value.bool (decide ((↑i : Int) < (↑(ByteArray.size s) : Int))) = Value.bool false] (by kernel_rfl)
    ⟨Dg.vfalse (by omega), trivial⟩
--> fbEf
/-- The state behind the loop; what nothing reads any more is left open. -/
def EF (s : ByteArray) (ok : Bool) (g : Nat → Value) : St := ⟨[.string s, undef, .string ⟨#[]⟩, .bool ok] ++ [g 4, g 5, g 6, g 7, g 8, g 9, g 10, g 11, g 12, g 13, g 14, g 15, g 16, g 17, g 18, g 19, g 20, g 21, g 22, g 23, g 24, g 25, g 26, g 27, g 28, g 29, g 30, g 31, g 32, g 33, g 34, g 35, g 36, g 37, g 38, g 39, g 40, g 41, g 42, g 43, g 44, g 45, g 46], ⟨0, []⟩, []⟩
def gF (a b c d e : Value) (n : Nat) : Value := match n with | 4 => a | 5 => b | 14 => c | 15 => d | 16 => e | 17 => .bool false | _ => junk
--< fwat
theorem fwat (lf : Nat) (s : ByteArray) (h1 : 1 ≤ ByteArray.size s) (h2 : ByteArray.size s ≤ 32) (g : Nat → Value) (hl : ∀ (s0 : St), clF s0 = Fa s true → evLoop (runF lf) clF lf s0 = some (Ex.exit 0, EF s true g)) :
    evCall Tryz.prog 0 (bodied Tryz.prog) noOver sbs lf 31 33 [Value.string s] { n := 0, objs := [] } = some (Value.string s, { n := 0, objs := [] }, []) :=
  Dg.evCall_hint (hs' := []) (hs := [Hint.val 33 8 (Value.bool true),
    Hint.val 33 12 (Value.bool true),
    Hint.loop 33 (Ex.exit 0) (EF s true g)])
    [Value.bool (decide ((↑(ByteArray.size s) : Int) ≥ (1 : Int))) = Value.bool true,
    Value.bool (decide ((↑(ByteArray.size s) : Int) ≤ (32 : Int))) = Value.bool true,
    evLoop (runF lf) clF lf { ts := [Value.string s, undef, Value.string { data := #[] }, Value.bool true, Value.int IntKind.i64 0, undef, Value.string s, Value.int IntKind.i64 (↑(ByteArray.size s) : Int), Value.bool true, Value.bool true, Value.string s, Value.int IntKind.i64 (↑(ByteArray.size s) : Int), Value.bool true, Value.bool true, undef, undef, undef, undef, undef, undef, undef, undef, undef, undef, undef, undef, undef, undef, undef, undef, undef, undef, undef, undef, undef, undef, undef, undef, undef, undef, undef, undef, undef, undef, undef, undef, undef], H := { n := 0, objs := [] }, log := [] } = some (Ex.exit 0, EF s true g)] (by kernel_rfl)
    ⟨Dg.vtrue (by omega), Dg.vtrue (by omega), hl _ (by kernel_rfl), trivial⟩
--> fwat
--< fwaf
theorem fwaf (lf : Nat) (s : ByteArray) (h1 : 1 ≤ ByteArray.size s) (h2 : ByteArray.size s ≤ 32) (g : Nat → Value) (hl : ∀ (s0 : St), clF s0 = Fa s true → evLoop (runF lf) clF lf s0 = some (Ex.exit 0, EF s false g)) :
    evCall Tryz.prog 0 (bodied Tryz.prog) noOver sbs lf 31 33 [Value.string s] { n := 0, objs := [] } = some (Value.string { data := #[63] }, { n := 0, objs := [] }, []) :=
  Dg.evCall_hint (hs' := []) (hs := [Hint.val 33 8 (Value.bool true),
    Hint.val 33 12 (Value.bool true),
    Hint.loop 33 (Ex.exit 0) (EF s false g)])
    [Value.bool (decide ((↑(ByteArray.size s) : Int) ≥ (1 : Int))) = Value.bool true,
    Value.bool (decide ((↑(ByteArray.size s) : Int) ≤ (32 : Int))) = Value.bool true,
    evLoop (runF lf) clF lf { ts := [Value.string s, undef, Value.string { data := #[] }, Value.bool true, Value.int IntKind.i64 0, undef, Value.string s, Value.int IntKind.i64 (↑(ByteArray.size s) : Int), Value.bool true, Value.bool true, Value.string s, Value.int IntKind.i64 (↑(ByteArray.size s) : Int), Value.bool true, Value.bool true, undef, undef, undef, undef, undef, undef, undef, undef, undef, undef, undef, undef, undef, undef, undef, undef, undef, undef, undef, undef, undef, undef, undef, undef, undef, undef, undef, undef, undef, undef, undef, undef, undef], H := { n := 0, objs := [] }, log := [] } = some (Ex.exit 0, EF s false g)] (by kernel_rfl)
    ⟨Dg.vtrue (by omega), Dg.vtrue (by omega), hl _ (by kernel_rfl), trivial⟩
--> fwaf
--< fwbf
theorem fwbf (lf : Nat) (s : ByteArray) (h1 : 32 < ByteArray.size s) (g : Nat → Value) (hl : ∀ (s0 : St), clF s0 = Fa s false → evLoop (runF lf) clF lf s0 = some (Ex.exit 0, EF s false g)) :
    evCall Tryz.prog 0 (bodied Tryz.prog) noOver sbs lf 31 33 [Value.string s] { n := 0, objs := [] } = some (Value.string { data := #[63] }, { n := 0, objs := [] }, []) :=
  Dg.evCall_hint (hs' := []) (hs := [Hint.val 33 8 (Value.bool true),
    Hint.val 33 12 (Value.bool false),
    Hint.loop 33 (Ex.exit 0) (EF s false g)])
    [Value.bool (decide ((↑(ByteArray.size s) : Int) ≥ (1 : Int))) = Value.bool true,
    Value.bool (decide ((↑(ByteArray.size s) : Int) ≤ (32 : Int))) = Value.bool false,
    evLoop (runF lf) clF lf { ts := [Value.string s, undef, Value.string { data := #[] }, Value.bool false, Value.int IntKind.i64 0, undef, Value.string s, Value.int IntKind.i64 (↑(ByteArray.size s) : Int), Value.bool true, Value.bool true, Value.string s, Value.int IntKind.i64 (↑(ByteArray.size s) : Int), Value.bool false, Value.bool false, undef, undef, undef, undef, undef, undef, undef, undef, undef, undef, undef, undef, undef, undef, undef, undef, undef, undef, undef, undef, undef, undef, undef, undef, undef, undef, undef, undef, undef, undef, undef, undef, undef], H := { n := 0, objs := [] }, log := [] } = some (Ex.exit 0, EF s false g)] (by kernel_rfl)
    ⟨Dg.vtrue (by omega), Dg.vfalse (by omega), hl _ (by kernel_rfl), trivial⟩
--> fwbf
--< fwcf
theorem fwcf (lf : Nat) (s : ByteArray) (h1 : ByteArray.size s = 0) (g : Nat → Value) (hl : ∀ (s0 : St), clF s0 = Fa s false → evLoop (runF lf) clF lf s0 = some (Ex.exit 0, EF s false g)) :
    evCall Tryz.prog 0 (bodied Tryz.prog) noOver sbs lf 31 33 [Value.string s] { n := 0, objs := [] } = some (Value.string { data := #[63] }, { n := 0, objs := [] }, []) :=
  Dg.evCall_hint (hs' := []) (hs := [Hint.val 33 8 (Value.bool false),
    Hint.loop 33 (Ex.exit 0) (EF s false g)])
    [Value.bool (decide ((↑(ByteArray.size s) : Int) ≥ (1 : Int))) = Value.bool false,
    evLoop (runF lf) clF lf { ts := [Value.string s, undef, Value.string { data := #[] }, Value.bool false, Value.int IntKind.i64 0, undef, Value.string s, Value.int IntKind.i64 (↑(ByteArray.size s) : Int), Value.bool false, Value.bool false, undef, undef, undef, Value.bool false, undef, undef, undef, undef, undef, undef, undef, undef, undef, undef, undef, undef, undef, undef, undef, undef, undef, undef, undef, undef, undef, undef, undef, undef, undef, undef, undef, undef, undef, undef, undef, undef, undef], H := { n := 0, objs := [] }, log := [] } = some (Ex.exit 0, EF s false g)] (by kernel_rfl)
    ⟨Dg.vfalse (by omega), hl _ (by kernel_rfl), trivial⟩
--> fwcf
def HdF (s : ByteArray) (ok : Bool) (z0 : Int) : Nat → St
  | 0 => Fa s ok
  | j + 1 => Fb s ok (j + 1) z0
theorem inB_cases (n : Nat) (h : n < 256) : (inB n = true ∧ (97 ≤ (n : Int) ∧ (n : Int) ≤ 122 ∨ 48 ≤ (n : Int) ∧ (n : Int) ≤ 57 ∨ (n : Int) = 45)) ∨ (inB n = false ∧ (((n : Int) < 45 ∨ (45 < (n : Int) ∧ (n : Int) < 48)) ∨ 57 < (n : Int) ∧ (n : Int) < 97 ∨ 122 < (n : Int))) := by
  unfold inB
  rcases (show (97 ≤ n ∧ n ≤ 122) ∨ (48 ≤ n ∧ n ≤ 57) ∨ n = 45 ∨ (n < 45 ∨ 45 < n ∧ n < 48) ∨ (57 < n ∧ n < 97) ∨ 122 < n by omega) with h | h | h | h | h | h
  · exact .inl ⟨by rw [Nat.ble_eq_true_of_le h.1, Nat.ble_eq_true_of_le h.2]; rfl, by omega⟩
  · exact .inl ⟨by rw [Nat.ble_eq_true_of_le h.1, Nat.ble_eq_true_of_le h.2]; simp, by omega⟩
  · exact .inl ⟨by rw [h]; rfl, by omega⟩
  all_goals refine .inr ⟨?_, by omega⟩
  all_goals simp only [Bool.or_eq_false_iff, Bool.and_eq_false_iff]
  · exact ⟨.inl (by rw [Bool.eq_false_iff]; intro hh; have := Nat.le_of_ble_eq_true hh; omega), .inl (by rw [Bool.eq_false_iff]; intro hh; have := Nat.le_of_ble_eq_true hh; omega), by rw [Bool.eq_false_iff]; intro hh; have := Nat.eq_of_beq_eq_true hh; omega⟩
  · exact ⟨.inl (by rw [Bool.eq_false_iff]; intro hh; have := Nat.le_of_ble_eq_true hh; omega), .inr (by rw [Bool.eq_false_iff]; intro hh; have := Nat.le_of_ble_eq_true hh; omega), by rw [Bool.eq_false_iff]; intro hh; have := Nat.eq_of_beq_eq_true hh; omega⟩
  · exact ⟨.inr (by rw [Bool.eq_false_iff]; intro hh; have := Nat.le_of_ble_eq_true hh; omega), .inr (by rw [Bool.eq_false_iff]; intro hh; have := Nat.le_of_ble_eq_true hh; omega), by rw [Bool.eq_false_iff]; intro hh; have := Nat.eq_of_beq_eq_true hh; omega⟩
theorem roundF (lf : Nat) (l : List UInt8) (hsz : l.length ≤ 9223372036854775807) (ok : Bool) (z0 : Int) (j : Nat) (hj : j < l.length) : ∃ s', runF lf (HdF (bs l) ok z0 j) = some (.normal, s') ∧ clF s' = Fb (bs l) (ok && inB l[j].toNat) (j + 1) ((l[j].toNat : Nat) : Int) := by
  have hs : (bs l).size = l.length := bs_size l
  have hz := bs_get l j hj
  have hr := z_rng l[j]
  have hc := inB_cases l[j].toNat l[j].toNat_lt
  cases j with
  | zero =>
    cases ok with
    | false => exact fan lf (bs l) _ hz hr (by omega) (by omega)
    | true => rcases hc with ⟨e, h | h | h⟩ | ⟨e, h | h | h⟩ <;> rw [e]
              · exact fal lf (bs l) _ hz hr (by omega) (by omega) h
              · exact fad lf (bs l) _ hz hr (by omega) (by omega) h
              · exact fam lf (bs l) _ hz hr (by omega) (by omega) h
              · exact faw lf (bs l) _ hz hr (by omega) (by omega) h
              · exact fax lf (bs l) _ hz hr (by omega) (by omega) h
              · exact fay lf (bs l) _ hz hr (by omega) (by omega) h
  | succ i =>
    cases ok with
    | false => exact fbn lf (bs l) (i + 1) z0 _ hz hr (by omega) (by omega)
    | true => rcases hc with ⟨e, h | h | h⟩ | ⟨e, h | h | h⟩ <;> rw [e]
              · exact fbl lf (bs l) (i + 1) z0 _ hz hr (by omega) (by omega) h
              · exact fbd lf (bs l) (i + 1) z0 _ hz hr (by omega) (by omega) h
              · exact fbm lf (bs l) (i + 1) z0 _ hz hr (by omega) (by omega) h
              · exact fbw lf (bs l) (i + 1) z0 _ hz hr (by omega) (by omega) h
              · exact fbx lf (bs l) (i + 1) z0 _ hz hr (by omega) (by omega) h
              · exact fby lf (bs l) (i + 1) z0 _ hz hr (by omega) (by omega) h
theorem loopF (lf : Nat) (l : List UInt8) (hl : l.length < lf) (hsz : l.length ≤ 9223372036854775807) (b : Bool) : ∃ g, ∀ s0, clF s0 = Fa (bs l) b → evLoop (runF lf) clF lf s0 = some (.exit 0, EF (bs l) (b && allIn l) g) := by
  have hs : (bs l).size = l.length := bs_size l
  have key : ∀ (k j : Nat), j + k = l.length → ∀ z0, ∃ g, ∀ fuel, k < fuel → ∀ s0, clF s0 = HdF (bs l) (b && allIn (l.take j)) z0 j → evLoop (runF lf) clF fuel s0 = some (.exit 0, EF (bs l) (b && allIn l) g) := by
    intro k
    induction k with
    | zero =>
      intro j hj z0
      have ht : l.take j = l := List.take_of_length_le (by omega)
      rw [ht]
      cases j with
      | zero =>
        refine ⟨gF (.int .i64 0) undef (.int .i64 0) (.string (bs l)) (.int .i64 ((bs l).size : Int)), fun fuel hf s0 h0 => ?_⟩
        obtain ⟨m, rfl⟩ : ∃ m, fuel = m + 1 := ⟨fuel - 1, by omega⟩
        cases hB : (b && allIn l) with
        | true => rw [hB] at h0; exact Dg.evLoop_stop h0 (faEt lf (bs l) (by omega)) (by simp)
        | false => rw [hB] at h0; exact Dg.evLoop_stop h0 (faEf lf (bs l) (by omega)) (by simp)
      | succ i =>
        refine ⟨gF (.int .i64 ((i + 1 : Nat) : Int)) (.int .u8 z0) (.int .i64 ((i + 1 : Nat) : Int)) (.string (bs l)) (.int .i64 ((bs l).size : Int)), fun fuel hf s0 h0 => ?_⟩
        obtain ⟨m, rfl⟩ : ∃ m, fuel = m + 1 := ⟨fuel - 1, by omega⟩
        cases hB : (b && allIn l) with
        | true => rw [hB] at h0; exact Dg.evLoop_stop h0 (fbEt lf (bs l) (i + 1) z0 (by omega)) (by simp)
        | false => rw [hB] at h0; exact Dg.evLoop_stop h0 (fbEf lf (bs l) (i + 1) z0 (by omega)) (by simp)
    | succ k ih =>
      intro j hj z0
      have hlt : j < l.length := by omega
      obtain ⟨g, hg⟩ := ih (j + 1) (by omega) ((l[j].toNat : Nat) : Int)
      refine ⟨g, fun fuel hf s0 h0 => ?_⟩
      obtain ⟨m, rfl⟩ : ∃ m, fuel = m + 1 := ⟨fuel - 1, by omega⟩
      obtain ⟨s', e1, e2⟩ := roundF lf l hsz (b && allIn (l.take j)) z0 j hlt
      rw [Dg.evLoop_step h0 e1]
      refine hg m (by omega) s' ?_
      rw [e2, List.take_succ_eq_append_getElem hlt, allIn_app, Bool.and_assoc]
      rfl
  obtain ⟨g, hg⟩ := key l.length 0 (by omega) 0
  refine ⟨g, fun s0 h0 => hg lf hl s0 ?_⟩
  rw [h0, List.take_zero]
  show _ = Fa (bs l) (b && true)
  rw [Bool.and_true]
theorem word_run (lf : Nat) (s : ByteArray) (hf : s.size < lf) (hsz : s.size ≤ 9223372036854775807) : evCall Tryz.prog 0 (bodied Tryz.prog) noOver sbs lf 31 33 [.string s] ⟨0, []⟩ = some (.string (wordOf s), ⟨0, []⟩, []) := by
  have hs : s.data.toList.length = s.size := by rw [← bs_size s.data.toList, bs_of]
  unfold wordOf mayL
  rcases Nat.eq_zero_or_pos s.size with h0 | h0
  · obtain ⟨g, hg⟩ := loopF lf s.data.toList (by omega) (by omega) false
    rw [bs_of] at hg
    rw [show Nat.ble 1 s.data.toList.length = false by rw [hs, h0]; rfl]
    exact fwcf lf s h0 g hg
  · have e1 : Nat.ble 1 s.data.toList.length = true := by rw [hs]; exact Nat.ble_eq_true_of_le h0
    rw [e1]
    by_cases h32 : s.size ≤ 32
    · have e2 : Nat.ble s.data.toList.length 32 = true := by rw [hs]; exact Nat.ble_eq_true_of_le h32
      rw [e2]
      obtain ⟨g, hg⟩ := loopF lf s.data.toList (by omega) (by omega) true
      rw [bs_of] at hg
      cases hA : allIn s.data.toList with
      | true => rw [hA] at hg; exact fwat lf s h0 h32 g hg
      | false => rw [hA] at hg; exact fwaf lf s h0 h32 g hg
    · have e2 : Nat.ble s.data.toList.length 32 = false := by
        rw [hs, Bool.eq_false_iff]; intro hh; have := Nat.le_of_ble_eq_true hh; omega
      rw [e2]
      obtain ⟨g, hg⟩ := loopF lf s.data.toList (by omega) (by omega) false
      rw [bs_of] at hg
      exact fwbf lf s (by omega) g hg
theorem word_flats (s : ByteArray) (hsz : s.size ≤ 9223372036854775807) : Flats Tryz.prog 33 [.string s] (.string (wordOf s)) :=
  Dg.closed_call mixed okB Dg.noOver_ok (by rw [word_run (s.size + 1) s (by omega) hsz]; rfl) rfl rfl
end Go.Proofs.YtpgddboigegplaaGreatDoor.base
