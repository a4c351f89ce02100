/- PROVED: 'horologelaw34.ShiftStill' returns true at every width, bound, offsets, base and step, in whatever memory, and leaves what was there as it was. Conditions: none. -/
import Derived.Test.YtafhlmpifdclaaaRows
import Derived.Test.YtafhlmpifdclaaaShift6c
import Derived.WalkKit
import Derived.ProofKit
import Derived.OpenShut
namespace Go.Proofs.Ytafhlmpifdclaaa.shiftStill
open Go.ChangeShapes Go.WideShapes Go.ChangeAt Go.RowKit
open Go.Dg (junk St Ex Ev Hint evCall evCallS evCode evLoop cleanSt ue bodied noOver sbOf headOf tailOf bodyOf Flats flatOver Heap AObj)
open Go.Proofs.Ytafhlmpifdclaaa.shift
set_option linter.unusedVariables false

/-! ### All cases. -/
noncomputable abbrev ev6 : List Value → Heap → Option (Value × Heap × List Nat) := evCall Try.prog 0 (bodied Try.prog) over4 sbs 1000 20 6
theorem wd_n {wd : Int} (h : 0 ≤ wd ∧ wd < 256) : ∃ n i : Nat, wd.tmod 20 + 1 = (n : Int) ∧ n = i + 1 ∧ 1 ≤ n ∧ n ≤ 20 := by
  have h1 := Int.tmod_nonneg 20 h.1
  have h2 := Int.tmod_lt_of_pos wd (show (0 : Int) < 20 by omega)
  refine ⟨(wd.tmod 20).toNat + 1, (wd.tmod 20).toNat, by omega, rfl, by omega, by omega⟩
section
variable (wd bd bs sp : Int) (hwd : 0 ≤ wd ∧ wd < 256) (hbd : 0 ≤ bd ∧ bd < 4294967296) (hbs : -2147483648 ≤ bs ∧ bs < 2147483648) (hsp : 0 ≤ sp ∧ sp < 4294967296)
include hwd hbd hbs hsp
theorem nil_is : (ev6 [.int .u8 wd, .int .u32 bd, .slice none 0 0, .int .i32 bs, .int .u32 sp] ⟨0, []⟩).map (·.1) = some (.bool true) := by
  obtain ⟨n, i, h1, h2, h3, h4⟩ := wd_n hwd
  rw [show ev6 [.int .u8 wd, .int .u32 bd, .slice none 0 0, .int .i32 bs, .int .u32 sp] ⟨0, []⟩ = _ from r6N wd bd bs sp n i h1 h2 hwd h3 h4 hbd hbs hsp]
  rfl
theorem row_is (lz cz ez : Nat) (zs : List Int) (hcz : lz ≤ cz) (hzl : zs.length = cz) (hz : ∀ z ∈ zs, 0 ≤ z ∧ z < 4294967296) : (ev6 [.int .u8 wd, .int .u32 bd, aZ lz cz, .int .i32 bs, .int .u32 sp] ⟨1, [oZ zs ez]⟩).map (·.1) = some (.bool true) := by
  obtain ⟨n, i, h1, h2, h3, h4⟩ := wd_n hwd
  by_cases hl : 200 < lz
  · rw [show ev6 [.int .u8 wd, .int .u32 bd, aZ lz cz, .int .i32 bs, .int .u32 sp] ⟨1, [oZ zs ez]⟩ = _ from r6M wd bd bs sp lz cz ez zs hl]
    rfl
  rcases Nat.eq_zero_or_pos lz with rfl | h0
  · rw [show ev6 [.int .u8 wd, .int .u32 bd, aZ 0 cz, .int .i32 bs, .int .u32 sp] ⟨1, [oZ zs ez]⟩ = _ from r6Z wd bd bs sp n i cz ez zs h1 h2 hwd h3 h4 hbd hbs hsp]
    rfl
  · obtain ⟨m, rfl⟩ : ∃ m, lz = m + 1 := ⟨lz - 1, by omega⟩
    rw [show ev6 [.int .u8 wd, .int .u32 bd, aZ (m + 1) cz, .int .i32 bs, .int .u32 sp] ⟨1, [oZ zs ez]⟩ = _ from r6F wd bd bs sp n i cz ez m zs (by omega) hcz hzl hz h1 h2 hwd h3 h4 hbd hbs hsp]
    rfl
end
/-- A slice of integers: nil, or a row of cells. -/
def Ints (w : World) (v : Value) : Prop := v = .slice none 0 0 ∨ ∃ (b off len cap : Nat) (zs : List Int) (e' : TypeId), v = .slice (some ⟨b, off, none⟩) len cap ∧ len ≤ cap ∧ cap ≤ maxLen ∧ zs.length = cap ∧ (∀ n ∈ zs, (Lit.int .u32 n).wf = true) ∧
      ∀ M N, Dg.ObjRel M N w (.cells (zs.map (Value.int .u32 ·)) e' 6 1) b off 0
theorem walk (W : World) (wd bd bs sp : Int) (hwd : 0 ≤ wd ∧ wd < 256) (hbd : 0 ≤ bd ∧ bd < 4294967296) (hbs : -2147483648 ≤ bs ∧ bs < 2147483648) (hsp : 0 ≤ sp ∧ sp < 4294967296) (vz : Value) (hv : Ints W vz) :
    Calls Try.prog 6 #[.int .u8 wd, .int .u32 bd, vz, .int .i32 bs, .int .u32 sp] W fun e W' => e = .returned (.bool true) ∧ Below W.heap.size W W' := by
  have F : ∀ v, Dg.flat v = true → ∀ M, Dg.VRel M v v := fun v h M => Dg.vrel_of_flat _ _ h
  rcases hv with rfl | ⟨bx, ox, lz, cz, zs, ez, rfl, hlz, _, hzl, hwz, hoz⟩
  · exact (Dg.closed_call mixed (Dg.bodied_ok _) over4_ok (sb := sbs) (lf := 1000) (n := 20) (nil_is wd bd bs sp hwd hbd hbs hsp) rfl rfl).2.2 W
  · refine Dg.open_call mixed (Dg.bodied_ok _) over4_ok [(bx, ox, .cells (zs.map (Value.int .u32 ·)) ez 6 1)] (by simp; exact ⟨rfl, hoz⟩) (args := [.int .u8 wd, .int .u32 bd, aZ lz cz, .int .i32 bs, .int .u32 sp]) ?_ (sb := sbs) (lf := 1000) (n := 20)
      (row_is wd bd bs sp hwd hbd hbs hsp lz cz ez zs hlz hzl (fun z hz => Dg.wf_u32 (hwz z hz))) rfl
    exact Dg.LRel.cons (F _ rfl _) (Dg.LRel.cons (F _ rfl _) (Dg.LRel.cons (Dg.VRel.slx (k := 0) (off := 0) (b := bx) (o := ox) (sp := 0) rfl) (Dg.LRel.cons (F _ rfl _) (Dg.LRel.cons (F _ rfl _) Dg.LRel.nil))))

/-! ### The row. -/
theorem ownKnob_is : ownKnob Try.prog.godebug = none := by kernel_rfl
theorem laidOut : laidOutB Try.prog = true := by kernel_rfl
theorem wf_i32 {n : Int} (h : (Lit.int .i32 n).wf = true) : -2147483648 ≤ n ∧ n < 2147483648 := by simp [Lit.wf, IntKind.min, IntKind.max, IntKind.bits, IntKind.signed] at h; omega
set_option maxRecDepth 100000 in
theorem lifted (os : Os) (started : os.Started) (H : Type) (enc : TypeId × Value → H) :
    ReturnsInHanded {} Try.checked os 6 .any (Rows.shiftStillSpec.pre6 enc Try.prog Try.f6 Rows.shiftStillRow.domain false) (Rows.shiftStillSpec.post enc Try.prog Try.f6 false true false false) := by
  refine returnsInHanded_of_change (C := Try.checked) ownKnob_is started (by kernel_rfl) Try.func6
    (ChangeSpec.witness6 (enc := enc) (C := Try.checked) false ⟨#[], #[.int .u8 0, .int .u32 0, .slice none 0 0, .int .i32 0, .int .u32 0], []⟩ 8 (by kernel_rfl) (by kernel_rfl) (by kernel_rfl) (by kernel_rfl)) ?_
  intro W base args ds gs before hval0 hW hcnd _
  have hval : ∀ (j : Nat) t v, Try.f6.params[j]? = some t → args[j]? = some v → Value.okWide Try.prog W .any base t v := hval0
  have hW' := hW
  obtain ⟨p, q, hA0, hV, rfl, hfz, hnd⟩ := hW
  have hA : DataW.TrodAll enc Try.prog W 0 (fun _ => true) true Try.f6.params.toList args.toList ds p := hA0
  rw [Try.params6] at hA hval
  obtain ⟨v0, vs0, d0, ds0, p0, q0, hargs, rfl, rfl, h0, t0⟩ := trodAll_cons hA
  obtain ⟨v1, vs1, d1, ds1, p1, q1, rfl, rfl, rfl, h1, t1⟩ := trodAll_cons t0
  obtain ⟨v2, vs2, d2, ds2, p2, q2, rfl, rfl, rfl, h2, t2⟩ := trodAll_cons t1
  obtain ⟨v3, vs3, d3, ds3, p3, q3, rfl, rfl, rfl, h3, t3⟩ := trodAll_cons t2
  obtain ⟨v4, vs4, d4, ds4, p4, q4, rfl, rfl, rfl, h4, t4⟩ := trodAll_cons t3
  obtain ⟨rfl, rfl, rfl⟩ := trodAll_nil t4
  obtain rfl : args = #[v0, v1, v2, v3, v4] := by cases args; simp_all
  obtain ⟨rfl, rfl⟩ := trodVars_none hV
  have k2 := h2
  have lt2 : ∀ x ∈ p2, x.block < W.heap.size := by obtain ⟨m, hm⟩ := k2; exact DataW.trod_lt m _ _ _ hm
  obtain ⟨a0, rfl, rfl, rfl, w0⟩ := open_int Try.underlying5 (hval 0 5 v0 rfl rfl) h0
  obtain ⟨a1, rfl, rfl, rfl, w1⟩ := open_int Try.underlying46 (hval 1 46 v1 rfl rfl) h1
  obtain ⟨a3, rfl, rfl, rfl, w3⟩ := open_int Try.underlying21 (hval 3 21 v3 rfl rfl) h3
  obtain ⟨a4, rfl, rfl, rfl, w4⟩ := open_int Try.underlying46 (hval 4 46 v4 rfl rfl) h4
  have i2 := Dg.ints_arg Try.underlying47 Try.underlying46 (by kernel_rfl) (hval 2 47 v2 rfl rfl) h2
  have hcall := walk W a0 a1 a3 a4 (Dg.wf_u8 w0) (Dg.wf_u32 w1) (wf_i32 w3) (Dg.wf_u32 w4) v2 i2
  clear hA0 hval0
  simp only [List.append_nil, List.nil_append] at hW'
  refine hcall.mono fun e W' ⟨he, bel⟩ => ?_
  subst he
  exact ⟨_, rfl, _, _, _, [], _, [], hW', trodAll_mk1 (shut_bool Try.underlying4 _), trodAll_cons_mk (shut_int Try.underlying5 w0) (trodAll_cons_mk (shut_int Try.underlying46 w1) (trodAll_cons_mk (Below.trod laidOut (by kernel_rfl) (of_decide_eq_true (by kernel_rfl)) k2 bel lt2) (trodAll_cons_mk (shut_int Try.underlying21 w3) (trodAll_cons_mk (shut_int Try.underlying46 w4) trodAll_mk0)))), rfl, bel.frame _, fun h => by cases h⟩

theorem over : Rows.shiftStillRow.holds Try.pinned (OpenSpec.ofChange Rows.shiftStillSpec) :=
  OpenClaim.holds_of_wide 6 Try.f6 rfl rfl rfl rfl rfl rfl rfl ⟨rfl, rfl, rfl, rfl, rfl⟩ rfl rfl rfl rfl rfl (by kernel_rfl) Try.func6 (by kernel_rfl)
    (of_decide_eq_true (by kernel_rfl)) (by unfold Func.isWrapper; first | (rw [if_pos (by decide +kernel)]; kernel_rfl) | (rw [if_neg (by decide +kernel)]; exact ⟨rfl, rfl⟩))
    (fun os started H enc _ => lifted os started H enc)

theorem proved : Rows.ShiftStillSaid := over
#print axioms proved
end Go.Proofs.Ytafhlmpifdclaaa.shiftStill
