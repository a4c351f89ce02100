/- PROVED: 'horologelaw20.HeadPowers' returns true at every n, in whatever memory, and leaves what was there as it was. Conditions: none. -/
import Derived.Test.YthfhidbdjiehhaaRows
import Derived.Test.YthfhidbdjiehhaaDgInts
import Derived.WalkKit
import Derived.ProofKit
import Derived.OpenShut
namespace Go.Proofs.Ythfhidbdjiehhaa.headPowers
open Go.ChangeShapes Go.WideShapes Go.ChangeAt Go.RowKit
open Go.Dg (junk St Ex Ev Hint evCall evCallS evCode evLoop cleanSt ue bodied noOver sbOf headOf tailOf bodyOf Flats flatOver)
set_option linter.unusedVariables false

noncomputable def sbs : List Nat := Try.prog.funcs.toList.map sbOf
theorem mixed : Try.prog.follows .mixedOrders = true := by kernel_rfl

/-! ### The ref's power: two loops. -/
noncomputable def c14 : Code := (Try.f14.body).getD .skip
noncomputable def lb1 : Code := bodyOf (bodyOf (headOf (tailOf (tailOf (tailOf c14)))))
noncomputable def lb2 : Code := bodyOf (bodyOf (headOf (tailOf (tailOf (tailOf (tailOf c14))))))
def js (n : Nat) : List Value := List.replicate n junk
def a14 (n x i : Int) : St := ⟨[.int .i64 n, undef, .int .i64 0, .int .i64 x, .int .i64 i, undef] ++ js 18, ⟨0, []⟩, []⟩
def a14e (n x i : Int) : St := ⟨[.int .i64 n, undef, .int .i64 0, .int .i64 x, .int .i64 i, undef] ++ js 2 ++ [.int .i64 i, .int .i64 n, .bool false] ++ js 13, ⟨0, []⟩, []⟩
def a14n (n x i : Int) : St := ⟨[.int .i64 n, undef, .int .i64 0, .int .i64 (IntKind.i64.wrap (2 * x)), .int .i64 (IntKind.i64.wrap (i + 1)), undef] ++ js 2 ++ [.int .i64 i, .int .i64 n, .bool true, .int .i64 i, .int .i64 (IntKind.i64.wrap (i + 1)), .int .i64 x, .int .i64 (IntKind.i64.wrap (2 * x))] ++ js 9, ⟨0, []⟩, []⟩
noncomputable abbrev run14 (c : Code) : St → Option (Ex × St) := evCode Try.prog 0 (bodied Try.prog) (evCall Try.prog 0 (bodied Try.prog) noOver sbs 1000 19) 0 6 1000 c
abbrev cl (c : Code) : St → St := cleanSt 0 6 (ue c [] []).1

theorem up_step (n x i : Int) (h : i < n) : run14 lb1 (a14 n x i) = some (.normal, a14n n x i) :=
  Dg.evCode_hint (f := 14) (hs := [.val 14 10 (.bool true)]) (hs' := []) [Value.bool (decide (i < n)) = .bool true] (by kernel_rfl) ⟨by simp [h], trivial⟩
theorem up_stop (n x i : Int) (h : ¬ i < n) : run14 lb1 (a14 n x i) = some (.exit 0, a14e n x i) :=
  Dg.evCode_hint (f := 14) (hs := [.val 14 10 (.bool false)]) (hs' := []) [Value.bool (decide (i < n)) = .bool false] (by kernel_rfl) ⟨by simp [h], trivial⟩

theorem up (n : Int) (hn : n ≤ 30) : ∀ (m : Nat) (i x : Int) (fuel : Nat), 0 ≤ i → n - i = m → m < fuel → 1 ≤ x → x * 2 ^ m ≤ 4611686018427387904 → ∀ s, cl lb1 s = a14 n x i → evLoop (run14 lb1) (cl lb1) fuel s = some (.exit 0, a14e n (x * 2 ^ m) n) := by
  intro m
  induction m with
  | zero =>
    intro i x fuel h0 hm hf hx hb s hs
    obtain ⟨k, rfl⟩ : ∃ k, fuel = k + 1 := ⟨fuel - 1, by omega⟩
    obtain rfl : i = n := by omega
    rw [Dg.evLoop_stop hs (up_stop i x i (by omega)) (by simp)]
    simp
  | succ m ih =>
    intro i x fuel h0 hm hf hx hb s hs
    obtain ⟨k, rfl⟩ : ∃ k, fuel = k + 1 := ⟨fuel - 1, by omega⟩
    rw [Dg.evLoop_step hs (up_step n x i (by omega))]
    have e : x * 2 ^ (m + 1) = (2 * x) * 2 ^ m := by rw [Int.pow_succ]; rw [Int.mul_comm (2 ^ m) 2, ← Int.mul_assoc, Int.mul_comm x 2]
    have hp : (1 : Int) ≤ 2 ^ m := Int.le_of_lt_add_one (by have := Int.pow_pos (n := 2) (m := m) (by omega); omega)
    have hb' : 2 * x ≤ 4611686018427387904 := by
      rw [e] at hb
      have := Int.mul_le_mul_of_nonneg_left hp (show 0 ≤ 2 * x by omega)
      omega
    have e1 : IntKind.i64.wrap (2 * x) = 2 * x := by rw [Dg.w_i64]; omega
    have e2 : IntKind.i64.wrap (i + 1) = i + 1 := by rw [Dg.w_i64]; omega
    have hcl : cl lb1 (a14n n x i) = a14 n (2 * x) (i + 1) := by
      have : cl lb1 (a14n n x i) = a14 n (IntKind.i64.wrap (2 * x)) (IntKind.i64.wrap (i + 1)) := by kernel_rfl
      rw [this, e1, e2]
    rw [ih (i + 1) (2 * x) k (by omega) (by omega) (by omega) (by omega) (by rw [← e]; exact hb) _ hcl, e]

def b14 (n x i j : Int) : St := ⟨[.int .i64 n, undef, .int .i64 0, .int .i64 x, .int .i64 i, .int .i64 j] ++ js 18, ⟨0, []⟩, []⟩
def b14e (n x i j : Int) : St := ⟨[.int .i64 n, undef, .int .i64 0, .int .i64 x, .int .i64 i, .int .i64 j] ++ js 9 ++ [.int .i64 j, .int .i64 n, .int .i64 (IntKind.i64.wrap (0 - n)), .bool false] ++ js 5, ⟨0, []⟩, []⟩
def b14n (n x i j : Int) : St := ⟨[.int .i64 n, undef, .int .i64 0, .int .i64 (IntKind.i64.wrap (x.tdiv 2)), .int .i64 i, .int .i64 (IntKind.i64.wrap (j + 1))] ++ js 9 ++
  [.int .i64 j, .int .i64 n, .int .i64 (IntKind.i64.wrap (0 - n)), .bool true, .int .i64 j, .int .i64 (IntKind.i64.wrap (j + 1)), .int .i64 x, .int .i64 (IntKind.i64.wrap (x.tdiv 2))] ++ js 1, ⟨0, []⟩, []⟩

theorem down_step (n x i j : Int) (h : j < IntKind.i64.wrap (0 - n)) : run14 lb2 (b14 n x i j) = some (.normal, b14n n x i j) :=
  Dg.evCode_hint (f := 14) (hs := [.val 14 18 (.bool true)]) (hs' := []) [Value.bool (decide (j < IntKind.i64.wrap (0 - n))) = .bool true] (by kernel_rfl) ⟨Dg.vtrue h, trivial⟩
theorem down_stop (n x i j : Int) (h : ¬ j < IntKind.i64.wrap (0 - n)) : run14 lb2 (b14 n x i j) = some (.exit 2, b14e n x i j) :=
  Dg.evCode_hint (f := 14) (hs := [.val 14 18 (.bool false)]) (hs' := []) [Value.bool (decide (j < IntKind.i64.wrap (0 - n))) = .bool false] (by kernel_rfl) ⟨Dg.vfalse h, trivial⟩

theorem down (n i : Int) (hn : -1000 < n) (hn1 : n ≤ 30) : ∀ (m : Nat) (j x : Int) (fuel : Nat), 0 ≤ j → - n - j = m → m < fuel → 0 ≤ x → x < 9223372036854775808 → ∀ s, cl lb2 s = b14 n x i j → evLoop (run14 lb2) (cl lb2) fuel s = some (.exit 2, b14e n (x / 2 ^ m) i (-n)) := by
  have hneg : IntKind.i64.wrap (0 - n) = - n := by rw [Dg.w_i64]; omega
  intro m
  induction m with
  | zero =>
    intro j x fuel h0 hm hf hx hx1 s hs
    obtain ⟨k, rfl⟩ : ∃ k, fuel = k + 1 := ⟨fuel - 1, by omega⟩
    obtain rfl : j = -n := by omega
    rw [Dg.evLoop_stop hs (down_stop n x i (-n) (by omega)) (by simp)]
    simp
  | succ m ih =>
    intro j x fuel h0 hm hf hx hx1 s hs
    obtain ⟨k, rfl⟩ : ∃ k, fuel = k + 1 := ⟨fuel - 1, by omega⟩
    rw [Dg.evLoop_step hs (down_step n x i j (by omega))]
    have e1 : IntKind.i64.wrap (x.tdiv 2) = x / 2 := by rw [Int.tdiv_eq_ediv_of_nonneg hx, Dg.w_i64]; omega
    have e2 : IntKind.i64.wrap (j + 1) = j + 1 := by rw [Dg.w_i64]; omega
    have hcl : cl lb2 (b14n n x i j) = b14 n (x / 2) i (j + 1) := by
      have : cl lb2 (b14n n x i j) = b14 n (IntKind.i64.wrap (x.tdiv 2)) i (IntKind.i64.wrap (j + 1)) := by kernel_rfl
      rw [this, e1, e2]
    rw [ih (j + 1) (x / 2) k (by omega) (by omega) (by omega) (by omega) (by omega) _ hcl]
    have : x / 2 / 2 ^ m = x / 2 ^ (m + 1) := by rw [Int.ediv_ediv_of_nonneg (by omega), Int.pow_succ, Int.mul_comm]
    rw [this]

/-- What the power is. -/
def pw (n : Int) : Int := if 30 < n then 4611686018427387904 else if 0 ≤ n then 4294967296 * 2 ^ n.toNat else 4294967296 / 2 ^ (-n).toNat

def slot5 (s : St) : St := ⟨s.ts.set 5 (.int .i64 0), s.H, s.log⟩

theorem two_pow_le (k : Nat) (h : k ≤ 30) : (2 : Int) ^ k ≤ 1073741824 := by
  have : (2 : Int) ^ k ≤ 2 ^ 30 := Dg.pow2_le h
  simpa using this

theorem ref_pos (n : Int) (h0 : 0 ≤ n) (h1 : n ≤ 30) : evCall Try.prog 0 (bodied Try.prog) noOver sbs 1000 20 14 [.int .i64 n] ⟨0, []⟩ = some (.int .i64 (4294967296 * 2 ^ n.toNat), ⟨0, []⟩, []) := by
  have hb := two_pow_le n.toNat (by omega)
  refine Dg.evCall_hint (hs := [.val 14 7 (.bool false), .loop 14 (.exit 0) (a14e n (4294967296 * 2 ^ n.toNat) n), .val 14 18 (.bool false)]) (hs' := [])
    [Value.bool (decide (30 < n)) = .bool false,
     evLoop (run14 lb1) (cl lb1) 1000 ⟨[.int .i64 n, undef, .int .i64 0, .int .i64 4294967296, .int .i64 0, undef, .int .i64 n, .bool false] ++ List.replicate 16 undef, ⟨0, []⟩, []⟩ = some (.exit 0, a14e n (4294967296 * 2 ^ n.toNat) n),
     Value.bool (decide ((0 : Int) < IntKind.i64.wrap (0 - n))) = .bool false] (by kernel_rfl) ⟨by simp; omega, ?_, ?_, trivial⟩
  · exact up n h1 n.toNat 0 4294967296 1000 (by omega) (by omega) (by omega) (by omega) (by omega) _ (by kernel_rfl)
  · have : ¬ (0 : Int) < IntKind.i64.wrap (0 - n) := by rw [Dg.w_i64]; omega
    exact Dg.vfalse this
theorem ref_neg (n : Int) (h0 : n < 0) (h1 : -200 < n) : evCall Try.prog 0 (bodied Try.prog) noOver sbs 1000 20 14 [.int .i64 n] ⟨0, []⟩ = some (.int .i64 (4294967296 / 2 ^ (-n).toNat), ⟨0, []⟩, []) := by
  refine Dg.evCall_hint (hs := [.val 14 7 (.bool false), .val 14 10 (.bool false), .loop 14 (.exit 2) (b14e n (4294967296 / 2 ^ (-n).toNat) 0 (-n))]) (hs' := [])
    [Value.bool (decide (30 < n)) = .bool false, Value.bool (decide ((0 : Int) < n)) = .bool false,
     evLoop (run14 lb2) (cl lb2) 1000 ⟨[.int .i64 n, undef, .int .i64 0, .int .i64 4294967296, .int .i64 0, .int .i64 0] ++ js 2 ++ [.int .i64 0, .int .i64 n, .bool false] ++ js 13, ⟨0, []⟩, []⟩ = some (.exit 2, b14e n (4294967296 / 2 ^ (-n).toNat) 0 (-n))] (by kernel_rfl) ⟨by simp; omega, by simp; omega, ?_, trivial⟩
  exact down n 0 (by omega) (by omega) (-n).toNat 0 4294967296 1000 (by omega) (by omega) (by omega) (by omega) (by omega) _ (by kernel_rfl)
theorem ref_great (n : Int) (h0 : 30 < n) : evCall Try.prog 0 (bodied Try.prog) noOver sbs 1000 20 14 [.int .i64 n] ⟨0, []⟩ = some (.int .i64 4611686018427387904, ⟨0, []⟩, []) :=
  Dg.evCall_hint (hs := [.val 14 7 (.bool true)]) (hs' := []) [Value.bool (decide (30 < n)) = .bool true] (by kernel_rfl) ⟨by simp [h0], trivial⟩

theorem ref_is (n : Int) (h : -200 < n) : Flats Try.prog 14 [.int .i64 n] (.int .i64 (pw n)) := by
  refine Dg.closed_call mixed (Dg.bodied_ok _) Dg.noOver_ok (sb := sbs) (lf := 1000) (n := 20) ?_ rfl rfl
  unfold pw
  split
  · rename_i h1; rw [ref_great n h1]; rfl
  · split
    · rename_i h1 h2; rw [ref_pos n h2 (by omega)]; rfl
    · rename_i h1 h2; rw [ref_neg n (by omega) h]; rfl

/-! ### The code's power. -/
theorem pw_shift : ∀ m : Nat, m < 63 → IntKind.i64.wrap (1 * 2 ^ min m 64) = pw ((m : Int) - 32) := by decide +kernel
theorem code_is (n : Int) (h : -128 ≤ n) (h' : n < 128) : Flats Try.prog 13 [.int .i8 n] (.int .i64 (pw n)) := by
  refine Dg.closed_call mixed (Dg.bodied_ok _) Dg.noOver_ok (sb := sbs) (lf := 1000) (n := 20) ?_ rfl rfl
  by_cases h1 : n < -32
  · have e : pw n = 0 := by
      unfold pw
      rw [if_neg (by omega), if_neg (by omega)]
      have h33 : (2 : Int) ^ 33 ≤ 2 ^ (-n).toNat := Dg.pow2_le (by omega)
      exact Int.ediv_eq_zero_of_lt (by omega) (by omega)
    rw [e, Dg.evCall_hint (hs := [.val 13 5 (.bool true)]) (hs' := []) (v := .int .i64 0) (H' := ⟨0, []⟩) (log := []) [Value.bool (decide (n < -32)) = .bool true] (by kernel_rfl) ⟨by simp [h1], trivial⟩]
    rfl
  · by_cases h2 : 30 < n
    · have e : pw n = 4611686018427387904 := by unfold pw; rw [if_pos h2]
      rw [e, Dg.evCall_hint (hs := [.val 13 5 (.bool false), .val 13 8 (.bool true)]) (hs' := []) (v := .int .i64 4611686018427387904) (H' := ⟨0, []⟩) (log := []) [Value.bool (decide (n < -32)) = .bool false, Value.bool (decide (30 < n)) = .bool true] (by kernel_rfl) ⟨by simp; omega, by simp [h2], trivial⟩]
      rfl
    · rw [Dg.evCall_hint (hs := [.val 13 5 (.bool false), .val 13 8 (.bool false), .soft 13 12 (.int .i64 (pw n))]) (hs' := []) (v := .int .i64 (pw n)) (H' := ⟨0, []⟩) (log := [])
        [Value.bool (decide (n < -32)) = .bool false, Value.bool (decide (30 < n)) = .bool false, 0 ≤ IntKind.i64.wrap (IntKind.i64.wrap n - (-32)),
         Value.int .i64 (IntKind.i64.wrap (1 * 2 ^ min (IntKind.i64.wrap (IntKind.i64.wrap n - (-32))).toNat 64)) = .int .i64 (pw n)] (by kernel_rfl) ⟨by simp; omega, by simp; omega, ?_, ?_, trivial⟩]
      · rfl
      · rw [Dg.w_i64, Dg.w_i64]; omega
      · have e : (IntKind.i64.wrap (IntKind.i64.wrap n - (-32))).toNat = (n + 32).toNat := by rw [Dg.w_i64, Dg.w_i64]; omega
        rw [e, pw_shift (n + 32).toNat (by omega)]
        have : (((n + 32).toNat : Nat) : Int) - 32 = n := by omega
        rw [this]

/-! ### The law. -/
theorem works_is : Flats Try.prog 11 [] (.bool true) :=
  Dg.closed_call mixed (Dg.bodied_ok _) Dg.noOver_ok (sb := sbs) (lf := 1000) (n := 20) (by kernel_rfl) rfl rfl

/-- What is known of the calls. -/
def known : FuncId → List Value → Option Value := fun f args => match f with
  | 11 => match args with
    | [] => some (.bool true)
    | _ => none
  | 13 => match args with
    | [.int .i8 n] => if -128 ≤ n ∧ n < 128 then some (.int .i64 (pw n)) else none
    | _ => none
  | 14 => match args with
    | [.int .i64 n] => if -200 < n then some (.int .i64 (pw n)) else none
    | _ => none
  | _ => none
theorem known_is (f : FuncId) (args : List Value) (v : Value) (h : known f args = some v) : Flats Try.prog f args v := by
  unfold known at h
  split at h
  · split at h
    · cases h; exact works_is
    · cases h
  · split at h
    · split at h
      · rename_i hn; cases h; exact code_is _ hn.1 hn.2
      · cases h
    · cases h
  · split at h
    · split at h
      · rename_i hn; cases h; exact ref_is _ hn
      · cases h
    · cases h
  · cases h

theorem walk (n : Int) (w0 : (Lit.int .i8 n).wf = true) (w : World) : Calls Try.prog 4 #[.int .i8 n] w fun e w' => e = .returned (.bool true) ∧ Below w.heap.size w w' := by
  obtain ⟨h0, h1⟩ := Dg.wf_i8 w0
  have e1 : IntKind.i64.wrap n = n := by rw [Dg.w_i64]; omega
  have hover := Dg.flatOver_ok (G := 0) known_is
  refine (Dg.closed_call (f := 4) (args := [.int .i8 n]) (v := .bool true) mixed (Dg.bodied_ok _) hover (sb := sbs) (lf := 1000) (n := 20) ?_ rfl rfl).2.2 w
  have hk13 : flatOver known 13 [.int .i8 n] ⟨0, []⟩ = some (.int .i64 (pw n), ⟨0, []⟩, []) := by simp [flatOver, known, h0, h1]
  have hk14 : flatOver known 14 [.int .i64 (IntKind.i64.wrap n)] ⟨0, []⟩ = some (.int .i64 (pw n), ⟨0, []⟩, []) := by simp [flatOver, known, e1]; omega
  rw [Dg.evCall_hint (hs := [.call 13 (.int .i64 (pw n)) ⟨0, []⟩ [], .call 14 (.int .i64 (pw n)) ⟨0, []⟩ [], .val 4 8 (.bool true)]) (hs' := []) (v := .bool true) (H' := ⟨0, []⟩) (log := [])
    [evCall Try.prog 0 (bodied Try.prog) (flatOver known) sbs 1000 19 13 [.int .i8 n] ⟨0, []⟩ = some (.int .i64 (pw n), ⟨0, []⟩, []),
     evCall Try.prog 0 (bodied Try.prog) (flatOver known) sbs 1000 19 14 [.int .i64 (IntKind.i64.wrap n)] ⟨0, []⟩ = some (.int .i64 (pw n), ⟨0, []⟩, []),
     Value.bool (pw n == pw n) = .bool true] (by kernel_rfl) ⟨?_, ?_, by simp, trivial⟩]
  · rfl
  · simp only [evCall, hk13]
  · simp only [evCall, hk14]

/-! ### The row. -/
theorem own : ownKnob Try.prog.godebug = none := by kernel_rfl
set_option maxRecDepth 100000 in
theorem lifted (os : Os) (started : os.Started) (H : Type) (enc : TypeId × Value → H) :
    ReturnsInHanded {} Try.checked os 4 .any (Rows.headPowersSpec.pre6 enc Try.prog Try.f4 Rows.headPowersRow.domain false) (Rows.headPowersSpec.post enc Try.prog Try.f4 false true false false) := by
  refine returnsInHanded_of_change (C := Try.checked) own started (by kernel_rfl) Try.func4
    (ChangeSpec.witness6 (enc := enc) (C := Try.checked) false ⟨#[], #[.int .i8 0], []⟩ 8 (by kernel_rfl) (by kernel_rfl) (by kernel_rfl) (by kernel_rfl)) ?_
  intro W base args ds gs before hval0 hW hcnd _
  have hval : ∀ (j : Nat) t v, Try.f4.params[j]? = some t → args[j]? = some v → Value.okWide Try.prog W .any base t v := hval0
  have hW' := hW
  obtain ⟨p, q, hA0, hV, rfl, hfz, hnd⟩ := hW
  have hA : DataW.TrodAll enc Try.prog W 0 (fun _ => true) true Try.f4.params.toList args.toList ds p := hA0
  rw [Try.params4] at hA hval
  obtain ⟨v0, vs0, d0, ds0, p0, q0, hargs, rfl, rfl, h0, r0⟩ := trodAll_cons hA
  obtain ⟨rfl, rfl, rfl⟩ := trodAll_nil r0
  obtain rfl : args = #[v0] := by cases args; simp_all
  obtain ⟨rfl, rfl⟩ := trodVars_none hV
  obtain ⟨a0, rfl, rfl, rfl, w0⟩ := open_int Try.underlying22 (hval 0 22 v0 rfl rfl) h0
  clear hA0 hval0
  simp only [List.append_nil] at hW'
  refine (walk a0 w0 W).mono fun e W' ⟨he, bel⟩ => ?_
  subst he
  exact ⟨_, rfl, _, _, _, [], [], [], hW', trodAll_mk1 (shut_bool Try.underlying4 _), trodAll_cons_mk (shut_int Try.underlying22 w0) trodAll_mk0, rfl, bel.frame _, fun h => by cases h⟩

theorem over : Rows.headPowersRow.holds Try.pinned (OpenSpec.ofChange Rows.headPowersSpec) :=
  OpenClaim.holds_of_wide 4 Try.f4 rfl rfl rfl rfl rfl rfl rfl ⟨rfl, rfl, rfl, rfl, rfl⟩ rfl rfl rfl rfl rfl (by kernel_rfl) Try.func4 (by kernel_rfl)
    (of_decide_eq_true (by kernel_rfl)) (by unfold Func.isWrapper; first | (rw [if_pos (by decide +kernel)]; kernel_rfl) | (rw [if_neg (by decide +kernel)]; exact ⟨rfl, rfl⟩))
    (fun os started H enc _ => lifted os started H enc)

theorem proved : Rows.HeadPowersSaid := over
#print axioms proved
end Go.Proofs.Ythfhidbdjiehhaa.headPowers
