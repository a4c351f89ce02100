/- What 'head.Take' and its document's 'Take' come to: for the laws of layer 20. -/
import Derived.Test.YthfhidbdjiehhaaRows
import Derived.Test.YthfhidbdjiehhaaHeadPut
namespace Go.Proofs.Ythfhidbdjiehhaa.headTake
open Go.Dg (junk St Ex Ev Hint evCall evCallS evCode evLoop cleanSt ue bodied noOver sbOf headOf tailOf bodyOf Flats flatOver Heap AObj)
open Go.Proofs.Ythfhidbdjiehhaa.headPut (sbs mixed works_is headL u8s str)
set_option linter.unusedVariables false
open Go.ChangeShapes Go.WideShapes Go.ChangeAt Go.RowKit

theorem sign_is (n : Int) : Flats Try.prog 23 [.int .u8 n] (.int .i8 ((n + 128) % 256 - 128)) := by
  refine Dg.closed_call mixed (Dg.bodied_ok _) Dg.noOver_ok (sb := sbs) (lf := 1000) (n := 20) ?_ rfl rfl
  by_cases h : 127 < n
  · rw [Dg.evCall_hint (hs := [.val 23 4 (.bool true)]) (hs' := []) (v := .int .i8 (IntKind.i8.wrap (IntKind.i64.wrap (IntKind.i64.wrap n - 256)))) (H' := ⟨0, []⟩) (log := []) [Value.bool (decide (127 < n)) = .bool true] (by kernel_rfl) ⟨Dg.vtrue h, trivial⟩]
    have e : IntKind.i8.wrap (IntKind.i64.wrap (IntKind.i64.wrap n - 256)) = (n + 128) % 256 - 128 := by rw [Dg.w_i8, Dg.w_i64, Dg.w_i64]; omega
    simp [e]
  · rw [Dg.evCall_hint (hs := [.val 23 4 (.bool false)]) (hs' := []) (v := .int .i8 (IntKind.i8.wrap n)) (H' := ⟨0, []⟩) (log := []) [Value.bool (decide (127 < n)) = .bool false] (by kernel_rfl) ⟨Dg.vfalse h, trivial⟩]
    simp [Dg.w_i8]

def known : FuncId → List Value → Option Value := fun f args => match f with
  | 11 => match args with
    | [] => some (.bool true)
    | _ => none
  | 23 => match args with
    | [.int .u8 n] => some (.int .i8 ((n + 128) % 256 - 128))
    | _ => none
  | _ => none
theorem known_is (f : FuncId) (args : List Value) (v : Value) (h : known f args = some v) : Flats Try.prog f args v := by
  unfold known at h
  split at h
  · split at h
    · cases h; exact works_is
    · cases h
  · split at h
    · cases h; exact sign_is _
    · cases h
  · cases h

-- The code's numbers.
def and8 (a b : Int) : Int := IntKind.u8.wrap (BitVec.ofInt 8 a &&& BitVec.ofInt 8 b).toNat
def G (n c : Int) : Int := IntKind.u64.wrap (BitVec.ofInt 64 (IntKind.u64.wrap (n * 2 ^ 8)) ||| BitVec.ofInt 64 (IntKind.u64.wrap c)).toNat
def F (n c : Int) : Int := IntKind.u64.wrap (IntKind.u64.wrap (256 * n) + IntKind.u64.wrap c)
def many (g : Int → Int → Int) (z : Nat → Int) (at' len : Nat) : Int := ((List.range len).map fun i => z (at' + i)).foldl g 0
def la (z : Nat → Int) : List Int :=
  [(z 0).fdiv (2 ^ 6), and8 ((z 0).fdiv (2 ^ 3)) 7, and8 (z 0) 7, z 1, IntKind.i8.wrap (z 2), IntKind.i8.wrap (z 3), IntKind.u32.wrap (many G z 4 4), IntKind.u32.wrap (many G z 8 4), z 12, z 13, z 14, z 15,
    many G z 16 8, many G z 24 8, many G z 32 8, many G z 40 8]
def lb (z : Nat → Int) : List Int :=
  [IntKind.u8.wrap ((z 0).tdiv 64), (IntKind.u8.wrap ((z 0).tdiv 8)).tmod 8, (z 0).tmod 8, z 1, (z 2 + 128) % 256 - 128, (z 3 + 128) % 256 - 128, IntKind.u32.wrap (many F z 4 4), IntKind.u32.wrap (many F z 8 4), z 12, z 13, z 14, z 15,
    many F z 16 8, many F z 24 8, many F z 32 8, many F z 40 8]
def hd (l : List Int) : List Value := headL (l.getD 0 0) (l.getD 1 0) (l.getD 2 0) (l.getD 3 0) (l.getD 4 0) (l.getD 5 0) (l.getD 6 0) (l.getD 7 0) (l.getD 8 0) (l.getD 9 0) (l.getD 10 0) (l.getD 11 0) (l.getD 12 0) (l.getD 13 0) (l.getD 14 0) (l.getD 15 0)
/-- '==' on headers. -/
def eqH (a b : List Int) : Bool :=
  (a.getD 0 0 == b.getD 0 0) && ((a.getD 1 0 == b.getD 1 0) && ((a.getD 2 0 == b.getD 2 0) && ((a.getD 3 0 == b.getD 3 0) && ((a.getD 4 0 == b.getD 4 0) && ((a.getD 5 0 == b.getD 5 0) && ((a.getD 6 0 == b.getD 6 0) && ((a.getD 7 0 == b.getD 7 0) &&
   (((a.getD 8 0 == b.getD 8 0) && ((a.getD 9 0 == b.getD 9 0) && ((a.getD 10 0 == b.getD 10 0) && ((a.getD 11 0 == b.getD 11 0) && true)))) &&
   ((a.getD 12 0 == b.getD 12 0) && ((a.getD 13 0 == b.getD 13 0) && ((a.getD 14 0 == b.getD 14 0) && ((a.getD 15 0 == b.getD 15 0) && true))))))))))))
theorem eqH_refl (a : List Int) : eqH a a = true := by simp [eqH]

theorem g_is (n c : Int) (h0 : 0 ≤ n) (h1 : n * 256 + 255 < 18446744073709551616) (h2 : 0 ≤ c ∧ c < 256) : G n c = 256 * n + c := by
  obtain ⟨n, rfl⟩ := Int.eq_ofNat_of_zero_le h0
  obtain ⟨c, rfl⟩ := Int.eq_ofNat_of_zero_le h2.1
  have e1 : IntKind.u64.wrap ((n : Int) * 2 ^ 8) = ((2 ^ 8 * n : Nat) : Int) := by rw [Dg.w_u64]; omega
  have e2 : IntKind.u64.wrap (c : Int) = (c : Int) := by rw [Dg.w_u64]; omega
  have e3 : (BitVec.ofInt 64 ((2 ^ 8 * n : Nat) : Int) ||| BitVec.ofInt 64 ((c : Nat) : Int)).toNat = 2 ^ 8 * n + c := by
    rw [Nat.two_pow_add_eq_or_of_lt (by omega) n]
    rw [BitVec.toNat_or, BitVec.ofInt_natCast, BitVec.ofInt_natCast, BitVec.toNat_ofNat, BitVec.toNat_ofNat, Nat.mod_eq_of_lt (by omega), Nat.mod_eq_of_lt (by omega)]
  unfold G
  rw [e1, e2, e3, Dg.w_u64]
  omega
theorem f_is (n c : Int) (h0 : 0 ≤ n) (h1 : n * 256 + 255 < 18446744073709551616) (h2 : 0 ≤ c ∧ c < 256) : F n c = 256 * n + c := by
  unfold F; rw [Dg.w_u64, Dg.w_u64, Dg.w_u64]; omega

theorem many_is (z : Nat → Int) (hz : ∀ i, 0 ≤ z i ∧ z i < 256) (a : Nat) : ∀ len, len ≤ 8 → many G z a len = many F z a len ∧ 0 ≤ many F z a len ∧ many F z a len < 256 ^ len := by
  intro len
  induction len with
  | zero => intro _; exact ⟨rfl, Int.le_refl 0, by show (0 : Int) < 1; omega⟩
  | succ n ih =>
    intro hn
    obtain ⟨h1, h2, h3⟩ := ih (by omega)
    have e : ∀ g, many g z a (n + 1) = g (many g z a n) (z (a + n)) := by intro g; unfold many; rw [List.range_succ, List.map_append, List.foldl_append]; rfl
    have hp : (256 : Int) ^ n ≤ 256 ^ 7 := Dg.pow256_le (by omega)
    have hb : many F z a n * 256 + 255 < 18446744073709551616 := by
      have : (256 : Int) ^ 7 = 72057594037927936 := by decide
      omega
    rw [e, e, h1, g_is _ _ h2 hb (hz _), f_is _ _ h2 hb (hz _)]
    have := hz (a + n)
    refine ⟨rfl, by omega, ?_⟩
    rw [Int.pow_succ]
    omega

theorem first_is : ∀ a : Fin 256, (a.val : Int).fdiv (2 ^ 6) = IntKind.u8.wrap ((a.val : Int).tdiv 64) ∧ and8 ((a.val : Int).fdiv (2 ^ 3)) 7 = (IntKind.u8.wrap ((a.val : Int).tdiv 8)).tmod 8 ∧ and8 (a.val : Int) 7 = (a.val : Int).tmod 8 := by decide +kernel
theorem la_is (z : Nat → Int) (hz : ∀ i, 0 ≤ z i ∧ z i < 256) : la z = lb z := by
  have h := first_is ⟨(z 0).toNat, by have := hz 0; omega⟩
  simp only [Int.toNat_of_nonneg (hz 0).1] at h
  unfold la lb
  rw [h.1, h.2.1, h.2.2, (many_is z hz 4 4 (by omega)).1, (many_is z hz 8 4 (by omega)).1, (many_is z hz 16 8 (by omega)).1, (many_is z hz 24 8 (by omega)).1, (many_is z hz 32 8 (by omega)).1, (many_is z hz 40 8 (by omega)).1, Dg.w_i8, Dg.w_i8]

/-! ### What was put is taken as it was. -/
open Go.Proofs.Ythfhidbdjiehhaa.headPut (S s_is or8 or_is intsA) in
theorem comb4 (n : Int) (h : 0 ≤ n ∧ n < 4294967296) : G (G (G (G 0 (S 24 n)) (S 16 n)) (S 8 n)) (S 0 n) = n := by
  have e1 := g_is 0 (S 24 n) (by omega) (by omega) (by rw [s_is]; omega)
  have s1 := s_is 24 n
  have s2 := s_is 16 n
  have s3 := s_is 8 n
  have s4 := s_is 0 n
  simp only [Int.reducePow] at s1 s2 s3 s4
  rw [e1]
  have e2 := g_is (256 * 0 + S 24 n) (S 16 n) (by omega) (by omega) (by omega)
  rw [e2]
  have e3 := g_is (256 * (256 * 0 + S 24 n) + S 16 n) (S 8 n) (by omega) (by omega) (by omega)
  rw [e3]
  rw [g_is _ (S 0 n) (by omega) (by omega) (by omega)]
  omega
open Go.Proofs.Ythfhidbdjiehhaa.headPut (S s_is or8 or_is intsA) in
theorem comb8 (n : Int) (h : 0 ≤ n ∧ n < 18446744073709551616) : G (G (G (G (G (G (G (G 0 (S 56 n)) (S 48 n)) (S 40 n)) (S 32 n)) (S 24 n)) (S 16 n)) (S 8 n)) (S 0 n) = n := by
  have s1 := s_is 56 n
  have s2 := s_is 48 n
  have s3 := s_is 40 n
  have s4 := s_is 32 n
  have s5 := s_is 24 n
  have s6 := s_is 16 n
  have s7 := s_is 8 n
  have s8 := s_is 0 n
  simp only [Int.reducePow] at s1 s2 s3 s4 s5 s6 s7 s8
  have e1 : G 0 (S 56 n) = n / 72057594037927936 := by rw [g_is 0 _ (by omega) (by omega) (by omega)]; omega
  rw [e1]
  have e2 : G (n / 72057594037927936) (S 48 n) = n / 281474976710656 := by rw [g_is _ _ (by omega) (by omega) (by omega)]; omega
  rw [e2]
  have e3 : G (n / 281474976710656) (S 40 n) = n / 1099511627776 := by rw [g_is _ _ (by omega) (by omega) (by omega)]; omega
  rw [e3]
  have e4 : G (n / 1099511627776) (S 32 n) = n / 4294967296 := by rw [g_is _ _ (by omega) (by omega) (by omega)]; omega
  rw [e4]
  have e5 : G (n / 4294967296) (S 24 n) = n / 16777216 := by rw [g_is _ _ (by omega) (by omega) (by omega)]; omega
  rw [e5]
  have e6 : G (n / 16777216) (S 16 n) = n / 65536 := by rw [g_is _ _ (by omega) (by omega) (by omega)]; omega
  rw [e6]
  have e7 : G (n / 65536) (S 8 n) = n / 256 := by rw [g_is _ _ (by omega) (by omega) (by omega)]; omega
  rw [e7]
  rw [g_is _ _ (by omega) (by omega) (by omega)]
  omega

open Go.Proofs.Ythfhidbdjiehhaa.headPut (S s_is or8 or_is intsA) in
theorem back_is (le ve mo st po pr rd ri r0 r1 r2 r3 re og rc xm : Int) (h0 : 0 ≤ le ∧ le < 4) (h1 : 0 ≤ ve ∧ ve < 8) (h2 : 0 ≤ mo ∧ mo < 8) (hp : -128 ≤ po ∧ po < 128) (hr : -128 ≤ pr ∧ pr < 128)
    (hd0 : 0 ≤ rd ∧ rd < 4294967296) (hd1 : 0 ≤ ri ∧ ri < 4294967296) (h3 : 0 ≤ re ∧ re < 18446744073709551616) (h4 : 0 ≤ og ∧ og < 18446744073709551616) (h5 : 0 ≤ rc ∧ rc < 18446744073709551616) (h6 : 0 ≤ xm ∧ xm < 18446744073709551616) :
    la (fun i => (intsA le ve mo st po pr rd ri r0 r1 r2 r3 re og rc xm).getD i 0) = [le, ve, mo, st, po, pr, rd, ri, r0, r1, r2, r3, re, og, rc, xm] := by
  have e0 := or_is le ve mo h0 h1 h2
  have w0 : IntKind.u64.wrap rd = rd := by rw [Dg.w_u64]; omega
  have w1 : IntKind.u64.wrap ri = ri := by rw [Dg.w_u64]; omega
  have c1 := comb4 (IntKind.u64.wrap rd) (by omega)
  have c2 := comb4 (IntKind.u64.wrap ri) (by omega)
  have c3 := comb8 re h3
  have c4 := comb8 og h4
  have c5 := comb8 rc h5
  have c6 := comb8 xm h6
  have p1 : IntKind.i8.wrap (IntKind.u8.wrap po) = po := by rw [Dg.w_i8, Dg.w_u8]; omega
  have p2 : IntKind.i8.wrap (IntKind.u8.wrap pr) = pr := by rw [Dg.w_i8, Dg.w_u8]; omega
  have key : ∀ a : Fin 4, ∀ b : Fin 8, ∀ c : Fin 8, (64 * (a.val : Int) + 8 * (b.val : Int) + (c.val : Int)).fdiv (2 ^ 6) = a.val ∧ and8 ((64 * (a.val : Int) + 8 * (b.val : Int) + (c.val : Int)).fdiv (2 ^ 3)) 7 = b.val ∧ and8 (64 * (a.val : Int) + 8 * (b.val : Int) + (c.val : Int)) 7 = c.val := by decide +kernel
  have k := key ⟨le.toNat, by omega⟩ ⟨ve.toNat, by omega⟩ ⟨mo.toNat, by omega⟩
  simp only [Int.toNat_of_nonneg h0.1, Int.toNat_of_nonneg h1.1, Int.toNat_of_nonneg h2.1] at k
  have u32a : IntKind.u32.wrap rd = rd := by rw [Dg.w_u32]; omega
  have u32b : IntKind.u32.wrap ri = ri := by rw [Dg.w_u32]; omega
  show [(or8 (or8 (IntKind.u8.wrap (le * 2 ^ 6)) (IntKind.u8.wrap (ve * 2 ^ 3))) mo).fdiv (2 ^ 6), and8 ((or8 (or8 (IntKind.u8.wrap (le * 2 ^ 6)) (IntKind.u8.wrap (ve * 2 ^ 3))) mo).fdiv (2 ^ 3)) 7, and8 (or8 (or8 (IntKind.u8.wrap (le * 2 ^ 6)) (IntKind.u8.wrap (ve * 2 ^ 3))) mo) 7, st,
    IntKind.i8.wrap (IntKind.u8.wrap po), IntKind.i8.wrap (IntKind.u8.wrap pr),
    IntKind.u32.wrap (G (G (G (G 0 (S 24 (IntKind.u64.wrap rd))) (S 16 (IntKind.u64.wrap rd))) (S 8 (IntKind.u64.wrap rd))) (S 0 (IntKind.u64.wrap rd))),
    IntKind.u32.wrap (G (G (G (G 0 (S 24 (IntKind.u64.wrap ri))) (S 16 (IntKind.u64.wrap ri))) (S 8 (IntKind.u64.wrap ri))) (S 0 (IntKind.u64.wrap ri))), r0, r1, r2, r3,
    G (G (G (G (G (G (G (G 0 (S 56 re)) (S 48 re)) (S 40 re)) (S 32 re)) (S 24 re)) (S 16 re)) (S 8 re)) (S 0 re),
    G (G (G (G (G (G (G (G 0 (S 56 og)) (S 48 og)) (S 40 og)) (S 32 og)) (S 24 og)) (S 16 og)) (S 8 og)) (S 0 og),
    G (G (G (G (G (G (G (G 0 (S 56 rc)) (S 48 rc)) (S 40 rc)) (S 32 rc)) (S 24 rc)) (S 16 rc)) (S 8 rc)) (S 0 rc),
    G (G (G (G (G (G (G (G 0 (S 56 xm)) (S 48 xm)) (S 40 xm)) (S 32 xm)) (S 24 xm)) (S 16 xm)) (S 8 xm)) (S 0 xm)] = _
  rw [e0, k.1, k.2.1, k.2.2, p1, p2, c1, c2, w0, w1, u32a, u32b, c3, c4, c5, c6]

section
variable (z : Nat → Int) (zr : List Int) (m : Nat) (e' : TypeId)
def rowOf : List Int := (List.range 48).map z ++ zr
def H1 : Heap := ⟨1, [.cells (u8s (rowOf z zr)) e' 2 1]⟩
def H2 : Heap := ⟨2, [.cells (hd (la z)) 27 0 1, .cells (u8s (rowOf z zr)) e' 2 1]⟩
def arg : Value := .slice (some ⟨0, 0, none⟩) (m + 48) (zr.length + 48)
theorem take_run : evCallS Try.prog 0 (bodied Try.prog) (flatOver known) sbs 1000 19 15 [arg zr m] (H1 z zr e') [.val 15 9 (.bool false), .soft 15 50 (.slice (some ⟨0, 12, none⟩) (m + 36) (zr.length + 36))]
    = some (.tuple #[.agg (hd (la z)).toArray, .int .i64 0], H1 z zr e', [], [], [Value.bool (decide (((m + 48 : Nat) : Int) < 48)) = .bool false, (0 : Int) ≤ 12, 12 ≤ m + 48 ∧ m + 48 ≤ zr.length + 48 ∧ zr.length + 48 ≤ zr.length + 48,
      (none : Option Nat).isSome = true → ¬ (12 = zr.length + 48 ∧ 12 ≠ 0), Value.slice (some ⟨0, if zr.length + 48 = 12 then 0 else 0 + 12 * 1, none⟩) (m + 48 - 12) (zr.length + 48 - 12) = .slice (some ⟨0, 12, none⟩) (m + 36) (zr.length + 36)]) := by kernel_rfl
theorem take_is (h : m ≤ zr.length) : evCall Try.prog 0 (bodied Try.prog) (flatOver known) sbs 1000 19 15 [arg zr m] (H1 z zr e') = some (.tuple #[.agg (hd (la z)).toArray, .int .i64 0], H1 z zr e', []) :=
  Dg.evCall_hint _ _ (take_run z zr m e') ⟨Dg.vfalse (by omega), by omega, by omega, by simp, by rw [if_neg (by omega)]; simp, trivial⟩
theorem ref_run : evCallS Try.prog 0 (bodied Try.prog) (flatOver known) sbs 1000 19 16 [arg zr m] (H2 z zr e') []
    = some (.agg (hd (lb z)).toArray, H2 z zr e', [], [], []) := by kernel_rfl
end
end Go.Proofs.Ythfhidbdjiehhaa.headTake
