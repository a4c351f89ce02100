/- What 'head.Put', its document's 'Put' and 'May' come to: for the laws of layer 20. -/
import Derived.Test.YthfhidbdjiehhaaRows
import Derived.Test.YthfhidbdjiehhaaDgFrame
import Derived.WalkKit
import Derived.ProofKit
import Derived.OpenShut
namespace Go.Proofs.Ythfhidbdjiehhaa.headPut
open Go.Dg (junk St Ex Ev Hint evCall evCallS evCode evLoop cleanSt ue bodied noOver sbOf headOf tailOf bodyOf Flats flatOver Heap AObj)
set_option linter.unusedVariables false
open Go.ChangeShapes Go.WideShapes Go.ChangeAt Go.RowKit

noncomputable def sbs : List Nat := Try.prog.funcs.toList.map sbOf
theorem mixed : Try.prog.follows .mixedOrders = true := by kernel_rfl

theorem works_is : Flats Try.prog 11 [] (.bool true) :=
  Dg.closed_call mixed (Dg.bodied_ok _) Dg.noOver_ok (sb := sbs) (lf := 1000) (n := 20) (by kernel_rfl) rfl rfl
theorem plain_is (n : Int) : Flats Try.prog 20 [.int .i8 n] (.int .u8 (n % 256)) := by
  refine Dg.closed_call mixed (Dg.bodied_ok _) Dg.noOver_ok (sb := sbs) (lf := 1000) (n := 20) ?_ rfl rfl
  by_cases h : n < 0
  · rw [Dg.evCall_hint (hs := [.val 20 4 (.bool true)]) (hs' := []) (v := .int .u8 (IntKind.u8.wrap (IntKind.i64.wrap (IntKind.i64.wrap n + 256)))) (H' := ⟨0, []⟩) (log := []) [Value.bool (decide (n < 0)) = .bool true] (by kernel_rfl) ⟨Dg.vtrue h, trivial⟩]
    have e : IntKind.u8.wrap (IntKind.i64.wrap (IntKind.i64.wrap n + 256)) = n % 256 := by rw [Dg.w_u8, Dg.w_i64, Dg.w_i64]; omega
    simp [e]
  · rw [Dg.evCall_hint (hs := [.val 20 4 (.bool false)]) (hs' := []) (v := .int .u8 (IntKind.u8.wrap n)) (H' := ⟨0, []⟩) (log := []) [Value.bool (decide (n < 0)) = .bool false] (by kernel_rfl) ⟨Dg.vfalse h, trivial⟩]
    simp [Dg.w_u8]

/-- What is known of the calls. -/
def known : FuncId → List Value → Option Value := fun f args => match f with
  | 11 => match args with
    | [] => some (.bool true)
    | _ => none
  | 20 => match args with
    | [.int .i8 n] => some (.int .u8 (n % 256))
    | _ => none
  | _ => none
theorem known_is (f : FuncId) (args : List Value) (v : Value) (h : known f args = some v) : Flats Try.prog f args v := by
  unfold known at h
  split at h
  · split at h
    · cases h; exact works_is
    · cases h
  · split at h
    · cases h; exact plain_is _
    · cases h
  · cases h

def headL (le ve mo st po pr rd ri r0 r1 r2 r3 re og rc xm : Int) : List Value :=
  [.int .u8 le, .int .u8 ve, .int .u8 mo, .int .u8 st, .int .i8 po, .int .i8 pr, .int .u32 rd, .int .u32 ri, .int .u8 r0, .int .u8 r1, .int .u8 r2, .int .u8 r3, .int .u64 re, .int .u64 og, .int .u64 rc, .int .u64 xm]
def mays (f : Nat) : List Hint := [.val f 5 (.bool true), .val f 9 (.bool true), .val f 14 (.bool true)]

-- The code's bytes.
def S (k : Nat) (n : Int) : Int := IntKind.u8.wrap (n.fdiv (2 ^ k))
def sh4 (n : Int) : List Int := [S 24 n, S 16 n, S 8 n, S 0 n]
def sh8 (n : Int) : List Int := [S 56 n, S 48 n, S 40 n, S 32 n, S 24 n, S 16 n, S 8 n, S 0 n]
def or8 (a b : Int) : Int := IntKind.u8.wrap (BitVec.ofInt 8 a ||| BitVec.ofInt 8 b).toNat
def intsA (le ve mo st po pr rd ri r0 r1 r2 r3 re og rc xm : Int) : List Int :=
  [or8 (or8 (IntKind.u8.wrap (le * 2 ^ 6)) (IntKind.u8.wrap (ve * 2 ^ 3))) mo, st, IntKind.u8.wrap po, IntKind.u8.wrap pr] ++
   (sh4 (IntKind.u64.wrap rd) ++ (sh4 (IntKind.u64.wrap ri) ++ ([r0, r1, r2, r3] ++ (sh8 re ++ (sh8 og ++ (sh8 rc ++ sh8 xm))))))
-- The document's.
def B (n : Int) : Int := IntKind.u8.wrap (n.tmod 256)
def Q (n : Int) : Int := IntKind.u64.wrap (n.tdiv 256)
def nu4 (n : Int) : List Int := [B (Q (Q (Q n))), B (Q (Q n)), B (Q n), B n]
def nu8 (n : Int) : List Int := [B (Q (Q (Q (Q (Q (Q (Q n))))))), B (Q (Q (Q (Q (Q (Q n)))))), B (Q (Q (Q (Q (Q n))))), B (Q (Q (Q (Q n)))), B (Q (Q (Q n))), B (Q (Q n)), B (Q n), B n]
def intsB (le ve mo st po pr rd ri r0 r1 r2 r3 re og rc xm : Int) : List Int :=
  [IntKind.u8.wrap (IntKind.u8.wrap (IntKind.u8.wrap (64 * le) + IntKind.u8.wrap (8 * ve)) + mo), st, po % 256, pr % 256] ++
   (nu4 (IntKind.u64.wrap rd) ++ (nu4 (IntKind.u64.wrap ri) ++ ([r0, r1, r2, r3] ++ (nu8 re ++ (nu8 og ++ (nu8 rc ++ nu8 xm))))))
def u8s (l : List Int) : List Value := l.map (Value.int .u8 ·)
def str (l : List Int) : ByteArray := ⟨(l.map fun n => UInt8.ofNat n.toNat).toArray⟩

theorem or_is (le ve mo : Int) (h0 : 0 ≤ le ∧ le < 4) (h1 : 0 ≤ ve ∧ ve < 8) (h2 : 0 ≤ mo ∧ mo < 8) :
    or8 (or8 (IntKind.u8.wrap (le * 2 ^ 6)) (IntKind.u8.wrap (ve * 2 ^ 3))) mo = 64 * le + 8 * ve + mo := by
  have key : ∀ a : Fin 4, ∀ b : Fin 8, ∀ c : Fin 8, or8 (or8 (IntKind.u8.wrap ((a.val : Int) * 2 ^ 6)) (IntKind.u8.wrap ((b.val : Int) * 2 ^ 3))) (c.val : Int) = 64 * (a.val : Int) + 8 * (b.val : Int) + (c.val : Int) := by decide +kernel
  have := key ⟨le.toNat, by omega⟩ ⟨ve.toNat, by omega⟩ ⟨mo.toNat, by omega⟩
  simp only [Int.toNat_of_nonneg h0.1, Int.toNat_of_nonneg h1.1, Int.toNat_of_nonneg h2.1] at this
  exact this

theorem q_is (n : Int) (h : 0 ≤ n ∧ n < 18446744073709551616) : Q n = n / 256 := by
  unfold Q; rw [Int.tdiv_eq_ediv_of_nonneg h.1, Dg.w_u64]; omega
theorem b_is (n : Int) (h : 0 ≤ n) : B n = n % 256 := by
  unfold B; rw [Int.tmod_eq_emod_of_nonneg h, Dg.w_u8]; omega
theorem s_is (k : Nat) (n : Int) : S k n = n / 2 ^ k % 256 := by
  unfold S; rw [Int.fdiv_eq_ediv_of_nonneg _ (Int.le_of_lt (Int.pow_pos (by omega))), Dg.w_u8]
theorem nu8_is (n : Int) (h : 0 ≤ n ∧ n < 18446744073709551616) : sh8 n = nu8 n := by
  have q1 := q_is n h
  have q2 := q_is (Q n) (by omega)
  have q3 := q_is (Q (Q n)) (by omega)
  have q4 := q_is (Q (Q (Q n))) (by omega)
  have q5 := q_is (Q (Q (Q (Q n)))) (by omega)
  have q6 := q_is (Q (Q (Q (Q (Q n))))) (by omega)
  have q7 := q_is (Q (Q (Q (Q (Q (Q n)))))) (by omega)
  simp only [sh8, nu8, s_is, List.cons.injEq, and_true]
  refine ⟨?_, ?_, ?_, ?_, ?_, ?_, ?_, ?_⟩ <;> (rw [b_is _ (by omega)]; simp only [Int.reducePow]; omega)
theorem nu4_is (n : Int) (h : 0 ≤ n ∧ n < 18446744073709551616) : sh4 n = nu4 n := by
  have q1 := q_is n h
  have q2 := q_is (Q n) (by omega)
  have q3 := q_is (Q (Q n)) (by omega)
  simp only [sh4, nu4, s_is, List.cons.injEq, and_true]
  refine ⟨?_, ?_, ?_, ?_⟩ <;> (rw [b_is _ (by omega)]; simp only [Int.reducePow]; omega)

theorem ints_is (le ve mo st po pr rd ri r0 r1 r2 r3 re og rc xm : Int) (h0 : 0 ≤ le ∧ le < 4) (h1 : 0 ≤ ve ∧ ve < 8) (h2 : 0 ≤ mo ∧ mo < 8) (h3 : 0 ≤ re ∧ re < 18446744073709551616) (h4 : 0 ≤ og ∧ og < 18446744073709551616)
    (h5 : 0 ≤ rc ∧ rc < 18446744073709551616) (h6 : 0 ≤ xm ∧ xm < 18446744073709551616) : intsA le ve mo st po pr rd ri r0 r1 r2 r3 re og rc xm = intsB le ve mo st po pr rd ri r0 r1 r2 r3 re og rc xm := by
  unfold intsA intsB
  rw [or_is le ve mo h0 h1 h2, nu4_is _ (by rw [Dg.w_u64]; omega), nu4_is _ (by rw [Dg.w_u64]; omega), nu8_is _ h3, nu8_is _ h4, nu8_is _ h5, nu8_is _ h6, Dg.w_u8 po, Dg.w_u8 pr]
  have : IntKind.u8.wrap (IntKind.u8.wrap (IntKind.u8.wrap (64 * le) + IntKind.u8.wrap (8 * ve)) + mo) = 64 * le + 8 * ve + mo := by rw [Dg.w_u8, Dg.w_u8, Dg.w_u8, Dg.w_u8]; omega
  rw [this]

/-! ### The argument, opened. -/
theorem open_head {H : Type} {enc : TypeId × Value → H} {W : World} {sp : Nat → Bool} {v : Value} {d : DataW H} {p : List MemPlace} {base : Nat} (hok : Value.okWide Try.prog W .any base 27 v) (h : DataW.Trod enc Try.prog W 0 sp true 27 v d p) :
    ∃ le ve mo st po pr rd ri r0 r1 r2 r3 re og rc xm, v = .agg (headL le ve mo st po pr rd ri r0 r1 r2 r3 re og rc xm).toArray ∧ (0 ≤ le ∧ le < 256) ∧ (0 ≤ ve ∧ ve < 256) ∧ (0 ≤ mo ∧ mo < 256) ∧ (0 ≤ st ∧ st < 256) ∧ (-128 ≤ po ∧ po < 128) ∧ (-128 ≤ pr ∧ pr < 128) ∧
      (0 ≤ rd ∧ rd < 4294967296) ∧ (0 ≤ ri ∧ ri < 4294967296) ∧ (0 ≤ r0 ∧ r0 < 256) ∧ (0 ≤ r1 ∧ r1 < 256) ∧ (0 ≤ r2 ∧ r2 < 256) ∧ (0 ≤ r3 ∧ r3 < 256) ∧
      (0 ≤ re ∧ re < 18446744073709551616) ∧ (0 ≤ og ∧ og < 18446744073709551616) ∧ (0 ≤ rc ∧ rc < 18446744073709551616) ∧ (0 ≤ xm ∧ xm < 18446744073709551616) := by
  obtain ⟨cs, rfl, hsz⟩ := okWide_struct Try.underlying27 hok
  have h16 : Try.prog.cellsOf 27 = 16 := by kernel_rfl
  obtain ⟨fuel, hf⟩ := h
  obtain ⟨l⟩ := cs
  have hl : l.length = 16 := by simpa [h16] using hsz
  have hf' : DataW.trod enc Try.prog W 0 sp true fuel 27 l = some (d, p) := hf
  match l, hl with
  | [c0, c1, c2, c3, c4, c5, c6, c7, c8, c9, c10, c11, c12, c13, c14, c15], _ =>
    obtain ⟨xs, n, _, _, _, hlen, hfs⟩ := DataW.trod_struct Try.underlying27 hf'
    obtain ⟨n0, e0, k0⟩ := Dg.int_field hfs hlen 0 _ rfl Try.underlying5 (by kernel_rfl)
    obtain ⟨n1, e1, k1⟩ := Dg.int_field hfs hlen 1 _ rfl Try.underlying5 (by kernel_rfl)
    obtain ⟨n2, e2, k2⟩ := Dg.int_field hfs hlen 2 _ rfl Try.underlying5 (by kernel_rfl)
    obtain ⟨n3, e3, k3⟩ := Dg.int_field hfs hlen 3 _ rfl Try.underlying5 (by kernel_rfl)
    obtain ⟨n4, e4, k4⟩ := Dg.int_field hfs hlen 4 _ rfl Try.underlying22 (by kernel_rfl)
    obtain ⟨n5, e5, k5⟩ := Dg.int_field hfs hlen 5 _ rfl Try.underlying22 (by kernel_rfl)
    obtain ⟨n6, e6, k6⟩ := Dg.int_field hfs hlen 6 _ rfl Try.underlying23 (by kernel_rfl)
    obtain ⟨n7, e7, k7⟩ := Dg.int_field hfs hlen 7 _ rfl Try.underlying23 (by kernel_rfl)
    obtain ⟨n8, e8, k8⟩ := Dg.ints_field hfs hlen 8 _ rfl Try.underlying24 Try.underlying5 (by kernel_rfl) (by kernel_rfl) 0 (by omega)
    obtain ⟨n9, e9, k9⟩ := Dg.ints_field hfs hlen 8 _ rfl Try.underlying24 Try.underlying5 (by kernel_rfl) (by kernel_rfl) 1 (by omega)
    obtain ⟨n10, e10, k10⟩ := Dg.ints_field hfs hlen 8 _ rfl Try.underlying24 Try.underlying5 (by kernel_rfl) (by kernel_rfl) 2 (by omega)
    obtain ⟨n11, e11, k11⟩ := Dg.ints_field hfs hlen 8 _ rfl Try.underlying24 Try.underlying5 (by kernel_rfl) (by kernel_rfl) 3 (by omega)
    obtain ⟨n12, e12, k12⟩ := Dg.int_field hfs hlen 9 _ rfl Try.underlying25 (by kernel_rfl)
    obtain ⟨n13, e13, k13⟩ := Dg.int_field hfs hlen 10 _ rfl Try.underlying25 (by kernel_rfl)
    obtain ⟨n14, e14, k14⟩ := Dg.int_field hfs hlen 11 _ rfl Try.underlying25 (by kernel_rfl)
    obtain ⟨n15, e15, k15⟩ := Dg.int_field hfs hlen 12 _ rfl Try.underlying25 (by kernel_rfl)
    simp at e0 e1 e2 e3 e4 e5 e6 e7 e8 e9 e10 e11 e12 e13 e14 e15
    subst e0 e1 e2 e3 e4 e5 e6 e7 e8 e9 e10 e11 e12 e13 e14 e15
    exact ⟨n0, n1, n2, n3, n4, n5, n6, n7, n8, n9, n10, n11, n12, n13, n14, n15, rfl, Dg.wf_u8 k0, Dg.wf_u8 k1, Dg.wf_u8 k2, Dg.wf_u8 k3, Dg.wf_i8 k4, Dg.wf_i8 k5, Dg.wf_u32 k6, Dg.wf_u32 k7, Dg.wf_u8 k8, Dg.wf_u8 k9, Dg.wf_u8 k10, Dg.wf_u8 k11, Dg.wf_u64 k12, Dg.wf_u64 k13, Dg.wf_u64 k14, Dg.wf_u64 k15⟩
end Go.Proofs.Ythfhidbdjiehhaa.headPut
