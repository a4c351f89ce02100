/- What 'head.Take' and its document's 'Take' come to: for the laws of layer 20. -/
import Derived.Test.YthfhidbdjiehhaaRows
import Derived.Test.YthfhidbdjiehhaaHeadPut
namespace Go.Proofs.Ythfhidbdjiehhaa.headTake
open Go.Dg (junk St Ex Ev Hint evCall evCallS evCode evLoop cleanSt ue bodied noOver sbOf headOf tailOf bodyOf Flats flatOver Heap AObj)
open Go.Proofs.Ythfhidbdjiehhaa.headPut (sbs mixed works_is headL u8s str)
set_option linter.unusedVariables false
open Go.ChangeShapes Go.WideShapes Go.ChangeAt Go.RowKit

theorem sign_is (n : Int) : Flats Try.prog 23 [.int .u8 n] (.int .i8 ((n + 128) % 256 - 128)) := by
  refine Dg.closed_call mixed (Dg.bodied_ok _) Dg.noOver_ok (sb := sbs) (lf := 1000) (n := 20) ?_ rfl rfl
  by_cases h : 127 < n
  · rw [Dg.evCall_hint (hs := [.val 23 4 (.bool true)]) (hs' := []) (v := .int .i8 (IntKind.i8.wrap (IntKind.i64.wrap (IntKind.i64.wrap n - 256)))) (H' := ⟨0, []⟩) (log := []) [Value.bool (decide (127 < n)) = .bool true] (by kernel_rfl) ⟨Dg.vtrue h, trivial⟩]
    have e : IntKind.i8.wrap (IntKind.i64.wrap (IntKind.i64.wrap n - 256)) = (n + 128) % 256 - 128 := by rw [Dg.w_i8, Dg.w_i64, Dg.w_i64]; omega
    simp [e]
  · rw [Dg.evCall_hint (hs := [.val 23 4 (.bool false)]) (hs' := []) (v := .int .i8 (IntKind.i8.wrap n)) (H' := ⟨0, []⟩) (log := []) [Value.bool (decide (127 < n)) = .bool false] (by kernel_rfl) ⟨Dg.vfalse h, trivial⟩]
    simp [Dg.w_i8]

def known : FuncId → List Value → Option Value := fun f args => match f with
  | 11 => match args with
    | [] => some (.bool true)
    | _ => none
  | 23 => match args with
    | [.int .u8 n] => some (.int .i8 ((n + 128) % 256 - 128))
    | _ => none
  | _ => none
theorem known_is (f : FuncId) (args : List Value) (v : Value) (h : known f args = some v) : Flats Try.prog f args v := by
  unfold known at h
  split at h
  · split at h
    · cases h; exact works_is
    · cases h
  · split at h
    · cases h; exact sign_is _
    · cases h
  · cases h

-- The code's numbers.
def and8 (a b : Int) : Int := IntKind.u8.wrap (BitVec.ofInt 8 a &&& BitVec.ofInt 8 b).toNat
def G (n c : Int) : Int := IntKind.u64.wrap (BitVec.ofInt 64 (IntKind.u64.wrap (n * 2 ^ 8)) ||| BitVec.ofInt 64 (IntKind.u64.wrap c)).toNat
def F (n c : Int) : Int := IntKind.u64.wrap (IntKind.u64.wrap (256 * n) + IntKind.u64.wrap c)
def many (g : Int → Int → Int) (z : Nat → Int) (at' len : Nat) : Int := ((List.range len).map fun i => z (at' + i)).foldl g 0
def la (z : Nat → Int) : List Int :=
  [(z 0).fdiv (2 ^ 6), and8 ((z 0).fdiv (2 ^ 3)) 7, and8 (z 0) 7, z 1, IntKind.i8.wrap (z 2), IntKind.i8.wrap (z 3), IntKind.u32.wrap (many G z 4 4), IntKind.u32.wrap (many G z 8 4), z 12, z 13, z 14, z 15,
    many G z 16 8, many G z 24 8, many G z 32 8, many G z 40 8]
def lb (z : Nat → Int) : List Int :=
  [IntKind.u8.wrap ((z 0).tdiv 64), (IntKind.u8.wrap ((z 0).tdiv 8)).tmod 8, (z 0).tmod 8, z 1, (z 2 + 128) % 256 - 128, (z 3 + 128) % 256 - 128, IntKind.u32.wrap (many F z 4 4), IntKind.u32.wrap (many F z 8 4), z 12, z 13, z 14, z 15,
    many F z 16 8, many F z 24 8, many F z 32 8, many F z 40 8]
def hd (l : List Int) : List Value := headL (l.getD 0 0) (l.getD 1 0) (l.getD 2 0) (l.getD 3 0) (l.getD 4 0) (l.getD 5 0) (l.getD 6 0) (l.getD 7 0) (l.getD 8 0) (l.getD 9 0) (l.getD 10 0) (l.getD 11 0) (l.getD 12 0) (l.getD 13 0) (l.getD 14 0) (l.getD 15 0)
/-- '==' on headers. -/
def eqH (a b : List Int) : Bool :=
  (a.getD 0 0 == b.getD 0 0) && ((a.getD 1 0 == b.getD 1 0) && ((a.getD 2 0 == b.getD 2 0) && ((a.getD 3 0 == b.getD 3 0) && ((a.getD 4 0 == b.getD 4 0) && ((a.getD 5 0 == b.getD 5 0) && ((a.getD 6 0 == b.getD 6 0) && ((a.getD 7 0 == b.getD 7 0) &&
   (((a.getD 8 0 == b.getD 8 0) && ((a.getD 9 0 == b.getD 9 0) && ((a.getD 10 0 == b.getD 10 0) && ((a.getD 11 0 == b.getD 11 0) && true)))) &&
   ((a.getD 12 0 == b.getD 12 0) && ((a.getD 13 0 == b.getD 13 0) && ((a.getD 14 0 == b.getD 14 0) && ((a.getD 15 0 == b.getD 15 0) && true))))))))))))
theorem eqH_refl (a : List Int) : eqH a a = true := by simp [eqH]

theorem g_is (n c : Int) (h0 : 0 ≤ n) (h1 : n * 256 + 255 < 18446744073709551616) (h2 : 0 ≤ c ∧ c < 256) : G n c = 256 * n + c := by
  obtain ⟨n, rfl⟩ := Int.eq_ofNat_of_zero_le h0
  obtain ⟨c, rfl⟩ := Int.eq_ofNat_of_zero_le h2.1
  have e1 : IntKind.u64.wrap ((n : Int) * 2 ^ 8) = ((2 ^ 8 * n : Nat) : Int) := by rw [Dg.w_u64]; omega
  have e2 : IntKind.u64.wrap (c : Int) = (c : Int) := by rw [Dg.w_u64]; omega
  have e3 : (BitVec.ofInt 64 ((2 ^ 8 * n : Nat) : Int) ||| BitVec.ofInt 64 ((c : Nat) : Int)).toNat = 2 ^ 8 * n + c := by
    rw [Nat.two_pow_add_eq_or_of_lt (by omega) n]
    rw [BitVec.toNat_or, BitVec.ofInt_natCast, BitVec.ofInt_natCast, BitVec.toNat_ofNat, BitVec.toNat_ofNat, Nat.mod_eq_of_lt (by omega), Nat.mod_eq_of_lt (by omega)]
  unfold G
  rw [e1, e2, e3, Dg.w_u64]
  omega
theorem f_is (n c : Int) (h0 : 0 ≤ n) (h1 : n * 256 + 255 < 18446744073709551616) (h2 : 0 ≤ c ∧ c < 256) : F n c = 256 * n + c := by
  unfold F; rw [Dg.w_u64, Dg.w_u64, Dg.w_u64]; omega

theorem many_is (z : Nat → Int) (hz : ∀ i, 0 ≤ z i ∧ z i < 256) (a : Nat) : ∀ len, len ≤ 8 → many G z a len = many F z a len ∧ 0 ≤ many F z a len ∧ many F z a len < 256 ^ len := by
  intro len
  induction len with
  | zero => intro _; exact ⟨rfl, Int.le_refl 0, by show (0 : Int) < 1; omega⟩
  | succ n ih =>
    intro hn
    obtain ⟨h1, h2, h3⟩ := ih (by omega)
    have e : ∀ g, many g z a (n + 1) = g (many g z a n) (z (a + n)) := by intro g; unfold many; rw [List.range_succ, List.map_append, List.foldl_append]; rfl
    have hp : (256 : Int) ^ n ≤ 256 ^ 7 := Dg.pow256_le (by omega)
    have hb : many F z a n * 256 + 255 < 18446744073709551616 := by
      have : (256 : Int) ^ 7 = 72057594037927936 := by decide
      omega
    rw [e, e, h1, g_is _ _ h2 hb (hz _), f_is _ _ h2 hb (hz _)]
    have := hz (a + n)
    refine ⟨rfl, by omega, ?_⟩
    rw [Int.pow_succ]
    omega

theorem first_is : ∀ a : Fin 256, (a.val : Int).fdiv (2 ^ 6) = IntKind.u8.wrap ((a.val : Int).tdiv 64) ∧ and8 ((a.val : Int).fdiv (2 ^ 3)) 7 = (IntKind.u8.wrap ((a.val : Int).tdiv 8)).tmod 8 ∧ and8 (a.val : Int) 7 = (a.val : Int).tmod 8 := by decide +kernel
theorem la_is (z : Nat → Int) (hz : ∀ i, 0 ≤ z i ∧ z i < 256) : la z = lb z := by
  have h := first_is ⟨(z 0).toNat, by have := hz 0; omega⟩
  simp only [Int.toNat_of_nonneg (hz 0).1] at h
  unfold la lb
  rw [h.1, h.2.1, h.2.2, (many_is z hz 4 4 (by omega)).1, (many_is z hz 8 4 (by omega)).1, (many_is z hz 16 8 (by omega)).1, (many_is z hz 24 8 (by omega)).1, (many_is z hz 32 8 (by omega)).1, (many_is z hz 40 8 (by omega)).1, Dg.w_i8, Dg.w_i8]

section
variable (z : Nat → Int) (zr : List Int) (m : Nat) (e' : TypeId)
def rowOf : List Int := (List.range 48).map z ++ zr
def H1 : Heap := ⟨1, [.cells (u8s (rowOf z zr)) e' 2 1]⟩
def H2 : Heap := ⟨2, [.cells (hd (la z)) 27 0 1, .cells (u8s (rowOf z zr)) e' 2 1]⟩
def arg : Value := .slice (some ⟨0, 0, none⟩) (m + 48) (zr.length + 48)
theorem take_run : evCallS Try.prog 0 (bodied Try.prog) (flatOver known) sbs 1000 19 15 [arg zr m] (H1 z zr e') [.val 15 9 (.bool false), .soft 15 50 (.slice (some ⟨0, 12, none⟩) (m + 36) (zr.length + 36))]
    = some (.tuple #[.agg (hd (la z)).toArray, .int .i64 0], H1 z zr e', [], [], [Value.bool (decide (((m + 48 : Nat) : Int) < 48)) = .bool false, (0 : Int) ≤ 12, 12 ≤ m + 48 ∧ m + 48 ≤ zr.length + 48 ∧ zr.length + 48 ≤ zr.length + 48,
      (none : Option Nat).isSome = true → ¬ (12 = zr.length + 48 ∧ 12 ≠ 0), Value.slice (some ⟨0, if zr.length + 48 = 12 then 0 else 0 + 12 * 1, none⟩) (m + 48 - 12) (zr.length + 48 - 12) = .slice (some ⟨0, 12, none⟩) (m + 36) (zr.length + 36)]) := by kernel_rfl
theorem take_is (h : m ≤ zr.length) : evCall Try.prog 0 (bodied Try.prog) (flatOver known) sbs 1000 19 15 [arg zr m] (H1 z zr e') = some (.tuple #[.agg (hd (la z)).toArray, .int .i64 0], H1 z zr e', []) :=
  Dg.evCall_hint _ _ (take_run z zr m e') ⟨Dg.vfalse (by omega), by omega, by omega, by simp, by rw [if_neg (by omega)]; simp, trivial⟩
theorem ref_run : evCallS Try.prog 0 (bodied Try.prog) (flatOver known) sbs 1000 19 16 [arg zr m] (H2 z zr e') []
    = some (.agg (hd (lb z)).toArray, H2 z zr e', [], [], []) := by kernel_rfl
end
end Go.Proofs.Ythfhidbdjiehhaa.headTake
