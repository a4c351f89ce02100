/- PROVED: 'horologelaw20.HeadPatches' returns true at every slice of bytes and every header, in whatever memory, and leaves what was there as it was. Conditions: none. -/
import Derived.Test.YthfhidbdjiehhaaRows
import Derived.Test.YthfhidbdjiehhaaHeadPatchFew
import Derived.WalkKit
import Derived.ProofKit
import Derived.OpenShut
namespace Go.Proofs.Ythfhidbdjiehhaa.headPatches
open Go.ChangeShapes Go.WideShapes Go.ChangeAt Go.RowKit
open Go.Dg (junk St Ex Ev Hint evCall evCallS evCode evLoop cleanSt ue bodied noOver sbOf headOf tailOf bodyOf Flats flatOver Heap AObj)
open Go.Proofs.Ythfhidbdjiehhaa.headPut (sbs mixed works_is headL u8s str mays intsA open_head)
open Go.Proofs.Ythfhidbdjiehhaa.headTake
set_option linter.unusedVariables false

/-! ### At just 48 bytes. -/
section
variable (l : List Int) (z : Nat → Int) (zr : List Int) (e' : TypeId) (o : Nat)
def tail0 (o zl : Nat) : List Hint := [.soft 8 72 (.slice (some ⟨0, o, none⟩) 0 zl), .soft 8 73 (.string ⟨#[]⟩)]
def tailOb0 (o : Nat) (z : Nat → Int) (zr : List Int) : List Prop :=
  [(0 : Int) ≤ 48, 48 ≤ 0 + 48 ∧ 0 + 48 ≤ zr.length + 48 ∧ zr.length + 48 ≤ zr.length + 48, (none : Option Nat).isSome = true → ¬ (48 = zr.length + 48 ∧ 48 ≠ 0), Value.slice (some ⟨0, if zr.length + 48 = 48 then 0 else 0 + 48 * 1, none⟩) (0 + 48 - 48) (zr.length + 48 - 48) = .slice (some ⟨0, o, none⟩) 0 zr.length,
   Dg.strOf (u8s (rowOf z zr)) o 0 = some ⟨#[]⟩]
theorem same0_run : evCallS Try.prog 0 (bodied Try.prog) (flatOver known) sbs 1000 20 8 [arg zr 0, .agg (hd l).toArray] (HH z zr e')
      (headHints z zr [] l e' 0 true ++ (mays 10 ++ ([.val 8 38 (.bool false), .call 15 (takeV (la z)) ⟨4, [own z [], E, hB l, bO z zr e']⟩ [], .val 8 65 (.bool true)] ++ tail0 o zr.length)))
    = some (.bool true, HH z zr e', [], [], headOb z zr [] l e' 0 true ++ ([Value.bool (decide (l.getD 0 0 ≤ 3)) = .bool true, Value.bool (decide (l.getD 1 0 ≤ 7)) = .bool true, Value.bool (decide (l.getD 2 0 ≤ 7)) = .bool true,
        Value.bool (decide (((0 + 48 : Nat) : Int) < 48)) = .bool false, ev 19 15 [argOwn 0] ⟨4, [own z [], E, hB l, bO z zr e']⟩ = some (takeV (la z), ⟨4, [own z [], E, hB l, bO z zr e']⟩, []), Value.bool (eqH (la z) l) = .bool true] ++ tailOb0 o z zr)) := by kernel_rfl
theorem copy0_run : evCallS Try.prog 0 (bodied Try.prog) (flatOver known) sbs 1000 20 8 [arg zr 0, .agg (hd l).toArray] (HH z zr e')
      (headHints z zr [] l e' 0 false ++ ([.gc 17 [.int .i64 0] ⟨4, [own (zP l) [], E, hB l, bO z zr e']⟩] ++ (mays 10 ++ ([.val 8 38 (.bool false), .call 15 (takeV (la (zP l))) ⟨4, [own (zP l) [], E, hB l, bO z zr e']⟩ [], .val 8 65 (.bool true)] ++ tail0 o zr.length))))
    = some (.bool true, HH z zr e', [], [], headOb z zr [] l e' 0 false ++ ([Dg.gcAt 4 [.int .i64 0] [3] ⟨7, [hB (la z), xO l, hB l, own (zP l) [], E, hB l, bO z zr e']⟩ = ([.int .i64 0], ⟨4, [own (zP l) [], E, hB l, bO z zr e']⟩),
        Value.bool (decide (l.getD 0 0 ≤ 3)) = .bool true, Value.bool (decide (l.getD 1 0 ≤ 7)) = .bool true, Value.bool (decide (l.getD 2 0 ≤ 7)) = .bool true,
        Value.bool (decide (((0 + 48 : Nat) : Int) < 48)) = .bool false, ev 19 15 [argOwn 0] ⟨4, [own (zP l) [], E, hB l, bO z zr e']⟩ = some (takeV (la (zP l)), ⟨4, [own (zP l) [], E, hB l, bO z zr e']⟩, []), Value.bool (eqH (la (zP l)) l) = .bool true] ++ tailOb0 o z zr)) := by kernel_rfl
end

/-! ### 48 bytes and more. -/
theorem many_is (l : List Int) (z : Nat → Int) (zr : List Int) (e' : TypeId) (m : Nat) (hm : m ≤ zr.length) (hlen : m + 48 ≤ 1000) (hl : la (zP l) = l)
    (h0 : l.getD 0 0 < 4) (h1 : l.getD 1 0 < 8) (h2 : l.getD 2 0 < 8) : (ev 20 8 [arg zr m, .agg (hd l).toArray] (HH z zr e')).map (·.1) = some (.bool true) := by
  have hq : (zr.take m).length = m := by simp; omega
  have happ : Dg.evAppend Try.prog ⟨3, [E, hB l, bO z zr e']⟩ 28 28 (.slice (some ⟨2, 0, none⟩) 0 0) (arg zr m) = some (argOwn m, ⟨4, [own z (zr.take m), E, hB l, bO z zr e']⟩, []) := by
    have := append_own ⟨3, [E, hB l, bO z zr e']⟩ 2 0 0 (m + 48) (zr.length + 48) (rowOf z zr) e' 2 1 rfl rfl (by rw [rowOf_length]; omega) (by omega) hlen
    rw [List.drop_zero, rowOf_take] at this
    exact this
  have hob : Dg.AllP (mayOb l) := ⟨Dg.vtrue h0, Dg.vtrue h1, Dg.vtrue h2, trivial⟩
  have hst1 : ∀ zo : Nat → Int, Dg.strOf (u8s (rowOf zo (zr.take m))) 48 m = some (str (zr.take m)) := by
    intro zo
    have := Dg.strOf_ints (rowOf zo (zr.take m)) 48 m (by rw [rowOf_length, hq]; omega)
    have e : (zr.take m).take m = zr.take m := by rw [List.take_take]; simp
    rw [rowOf_drop, e] at this
    exact this
  have hst2 : Dg.strOf (u8s (rowOf z zr)) 48 m = some (str (zr.take m)) := by
    have := Dg.strOf_ints (rowOf z zr) 48 m (by rw [rowOf_length]; omega)
    rw [rowOf_drop] at this
    exact this
  have htail : ∀ zo : Nat → Int, 0 < m → Dg.AllP (tailOb zo z zr (zr.take m) m (str (zr.take m))) := fun zo hpos =>
    ⟨by omega, by omega, fun _ => by omega, by rw [if_neg (by omega)]; simp, hst1 zo, by omega, by omega, by simp, by rw [if_neg (by omega)]; simp, hst2, by simp, by simp, trivial⟩
  have htail0 : m = 0 → Dg.AllP (tailOb0 (if zr.length + 48 = 48 then 0 else 0 + 48 * 1) z zr) := by
    intro h
    subst h
    refine ⟨by omega, by omega, by simp, by simp, ?_, trivial⟩
    exact Dg.strOf_ints (rowOf z zr) _ 0 (by rw [rowOf_length]; split <;> omega)
  have hhead : ∀ same, eqH (la z) l = same → Dg.AllP (headOb z zr (zr.take m) l e' m same) := fun same hs =>
    ⟨Dg.vfalse (by omega), happ, put_is l _ hob, Dg.vfalse (by omega), take6_is _ _ _ _ _ _, by rw [hs], trivial⟩
  have app : ∀ {a b : List Prop}, Dg.AllP a → Dg.AllP b → Dg.AllP (a ++ b) := by
    intro a
    induction a with
    | nil => intro b _ h; exact h
    | cons p r ih => intro b h h'; exact ⟨h.1, ih h.2 h'⟩
  cases hs : eqH (la z) l with
  | true =>
    rcases Nat.eq_zero_or_pos m with rfl | hpos
    · exact tt (Dg.evCall_hint _ _ (same0_run l z zr e' _) (app (hhead true hs) (app ⟨Dg.vtrue (by omega), Dg.vtrue (by omega), Dg.vtrue (by omega), Dg.vfalse (by omega), take4_is _ _ _ _, by rw [hs], trivial⟩ (htail0 rfl))))
    · exact tt (Dg.evCall_hint _ _ (same_run l z zr m e' (zr.take m) (str (zr.take m))) (app (hhead true hs) (app ⟨Dg.vtrue (by omega), Dg.vtrue (by omega), Dg.vtrue (by omega), Dg.vfalse (by omega), take4_is _ _ _ _, by rw [hs], trivial⟩ (htail z hpos))))
  | false =>
    have he : eqH (la (zP l)) l = true := by rw [hl]; exact eqH_refl l
    rcases Nat.eq_zero_or_pos m with rfl | hpos
    · exact tt (Dg.evCall_hint _ _ (copy0_run l z zr e' _) (app (hhead false hs) (app ⟨gc_is _ _ _ _ _ _ _ _, Dg.vtrue (by omega), Dg.vtrue (by omega), Dg.vtrue (by omega), Dg.vfalse (by omega), take4_is _ _ _ _, by rw [he], trivial⟩ (htail0 rfl))))
    · exact tt (Dg.evCall_hint _ _ (copy_run l z zr m e' (zr.take m) (str (zr.take m))) (app (hhead false hs) (app ⟨gc_is _ _ _ _ _ _ _ _, Dg.vtrue (by omega), Dg.vtrue (by omega), Dg.vtrue (by omega), Dg.vfalse (by omega), take4_is _ _ _ _, by rw [he], trivial⟩ (htail (zP l) hpos))))

/-! ### All cases. -/
theorem bytes_is (zs : List Int) (h : 48 ≤ zs.length) : ∃ zr, zs = rowOf (fun i => zs.getD i 0) zr ∧ zs.length = zr.length + 48 := by
  refine ⟨zs.drop 48, ?_, by simp; omega⟩
  unfold rowOf
  have : (List.range 48).map (fun i => zs.getD i 0) = zs.take 48 := by
    apply List.ext_getElem?
    intro i
    rw [List.getElem?_map, List.getElem?_take]
    by_cases hi : i < 48
    · rw [List.getElem?_range hi, if_pos hi]
      simp [List.getD_eq_getElem?_getD, List.getElem?_eq_getElem (show i < zs.length by omega)]
    · rw [if_neg hi]
      simp [hi]
  rw [this, List.take_append_drop]

theorem run_is (l zs : List Int) (e' : TypeId) (len : Nat) (hl : len ≤ zs.length) (hb : l.getD 0 0 < 4 → l.getD 1 0 < 8 → l.getD 2 0 < 8 → la (zP l) = l) :
    (ev 20 8 [.slice (some ⟨0, 0, none⟩) len zs.length, .agg (hd l).toArray] ⟨1, [bC zs e']⟩).map (·.1) = some (.bool true) := by
  have hs := Dg.strOf_ints zs 0 len (by omega)
  have hs2 : Dg.strOf (u8s (zs.take len)) 0 len = some _ := Dg.strOf_ints (zs.take len) 0 len (by simp; omega)
  have e : ((zs.take len).drop 0).take len = (zs.drop 0).take len := by rw [List.drop_zero, List.drop_zero, List.take_take]; simp
  rw [e] at hs2
  by_cases h1 : 1000 < len
  · exact long l zs e' len h1
  · rcases Nat.eq_zero_or_pos len with rfl | hpos
    · by_cases a0 : l.getD 0 0 < 4
      · by_cases a1 : l.getD 1 0 < 8
        · by_cases a2 : l.getD 2 0 < 8
          · exact zero3 l zs e' a0 a1 a2
          · exact zero2 l zs e' a0 a1 a2
        · exact zero1 l zs e' a0 a1
      · exact zero0 l zs e' a0
    · by_cases a0 : l.getD 0 0 < 4
      · by_cases a1 : l.getD 1 0 < 8
        · by_cases a2 : l.getD 2 0 < 8
          · by_cases h48 : len < 48
            · exact some3 l zs e' len _ hl hpos (by omega) hs hs2 h48 a0 a1 a2
            · obtain ⟨zr, h3, h4⟩ := bytes_is zs (by omega)
              obtain ⟨m, rfl⟩ : ∃ m, len = m + 48 := ⟨len - 48, by omega⟩
              have := many_is l (fun i => zs.getD i 0) zr e' m (by omega) (by omega) (hb a0 a1 a2) a0 a1 a2
              unfold arg HH bO at this
              unfold bC
              rw [← h3, ← h4] at this
              exact this
          · exact some2 l zs e' len _ hl hpos (by omega) hs hs2 a0 a1 a2
        · exact some1 l zs e' len _ hl hpos (by omega) hs hs2 a0 a1
      · exact some0 l zs e' len _ hl hpos (by omega) hs hs2 a0

theorem nil_is (l : List Int) : (ev 20 8 [.slice none 0 0, .agg (hd l).toArray] ⟨0, []⟩).map (·.1) = some (.bool true) := by
  by_cases a0 : l.getD 0 0 < 4
  · by_cases a1 : l.getD 1 0 < 8
    · by_cases a2 : l.getD 2 0 < 8
      · exact nil3 l a0 a1 a2
      · exact nil2 l a0 a1 a2
    · exact nil1 l a0 a1
  · exact nil0 l a0

theorem walk (w : World) (l zs : List Int) (b off len cap : Nat) (e' : TypeId) (hl : len ≤ cap) (hz : zs.length = cap) (hb : l.getD 0 0 < 4 → l.getD 1 0 < 8 → l.getD 2 0 < 8 → la (zP l) = l)
    (ho : ∀ M N, Dg.ObjRel M N w (.cells (zs.map (Value.int .u8 ·)) e' 2 1) b off 0) : Calls Try.prog 8 #[.slice (some ⟨b, off, none⟩) len cap, .agg (hd l).toArray] w fun e w' => e = .returned (.bool true) ∧ Below w.heap.size w w' := by
  subst hz
  refine Dg.open_call mixed (Dg.bodied_ok _) (Dg.flatOver_ok known_is) [(b, off, .cells (zs.map (Value.int .u8 ·)) e' 2 1)] (by simp; exact ⟨rfl, ho⟩) (args := [.slice (some ⟨0, 0, none⟩) len zs.length, .agg (hd l).toArray]) ?_ (sb := sbs) (lf := 1000) (n := 20) (run_is l zs e' len hl hb) rfl
  exact Dg.LRel.cons (Dg.VRel.slx (k := 0) (off := 0) (b := b) (o := off) (sp := 0) rfl) (Dg.LRel.cons (Dg.vrel_of_flat _ _ rfl) Dg.LRel.nil)
theorem walk_nil (w : World) (l : List Int) : Calls Try.prog 8 #[.slice none 0 0, .agg (hd l).toArray] w fun e w' => e = .returned (.bool true) ∧ Below w.heap.size w w' :=
  (Dg.closed_call mixed (Dg.bodied_ok _) (Dg.flatOver_ok known_is) (sb := sbs) (lf := 1000) (n := 20) (nil_is l) rfl rfl).2.2 w

/-! ### The row. -/
theorem ownKnob_is : ownKnob Try.prog.godebug = none := by kernel_rfl
theorem laidOut : laidOutB Try.prog = true := by kernel_rfl
set_option maxRecDepth 100000 in
theorem lifted (os : Os) (started : os.Started) (H : Type) (enc : TypeId × Value → H) :
    ReturnsInHanded {} Try.checked os 8 .any (Rows.headPatchesSpec.pre6 enc Try.prog Try.f8 Rows.headPatchesRow.domain false) (Rows.headPatchesSpec.post enc Try.prog Try.f8 false true false false) := by
  refine returnsInHanded_of_change (C := Try.checked) ownKnob_is started (by kernel_rfl) Try.func8
    (ChangeSpec.witness6 (enc := enc) (C := Try.checked) false ⟨#[], #[.slice none 0 0, .agg (headL 0 0 0 0 0 0 0 0 0 0 0 0 0 0 0 0).toArray], []⟩ 8 (by kernel_rfl) (by kernel_rfl) (by kernel_rfl) (by kernel_rfl)) ?_
  intro W base args ds gs before hval0 hW hcnd _
  have hval : ∀ (j : Nat) t v, Try.f8.params[j]? = some t → args[j]? = some v → Value.okWide Try.prog W .any base t v := hval0
  have hW' := hW
  obtain ⟨p, q, hA0, hV, rfl, hfz, hnd⟩ := hW
  have hA : DataW.TrodAll enc Try.prog W 0 (fun _ => true) true Try.f8.params.toList args.toList ds p := hA0
  rw [Try.params8] at hA hval
  obtain ⟨v0, vs0, d0, ds0, p0, q0, hargs, rfl, rfl, h0, r0⟩ := trodAll_cons hA
  obtain ⟨v1, vs1, d1, ds1, p1, q1, rfl, rfl, rfl, h1, r1⟩ := trodAll_cons r0
  obtain ⟨rfl, rfl, rfl⟩ := trodAll_nil r1
  obtain rfl : args = #[v0, v1] := by cases args; simp_all
  obtain ⟨rfl, rfl⟩ := trodVars_none hV
  have k0 := h0
  have k1 := h1
  have lt0 : ∀ x ∈ p0, x.block < W.heap.size := by obtain ⟨m, hm⟩ := k0; exact DataW.trod_lt m _ _ _ hm
  have lt1 : ∀ x ∈ p1, x.block < W.heap.size := by obtain ⟨m, hm⟩ := k1; exact DataW.trod_lt m _ _ _ hm
  obtain ⟨le, ve, mo, st, po, pr, rd, ri, c0, c1, c2, c3, re, og, rc, xm, rfl, a1, a2, a3, a4, a5, a6, a7, a8, a9, a10, a11, a12, a13, a14, a15, a16⟩ := open_head (hval 1 27 v1 rfl rfl) h1
  have hb : le < 4 → ve < 8 → mo < 8 → la (zP [le, ve, mo, st, po, pr, rd, ri, c0, c1, c2, c3, re, og, rc, xm]) = [le, ve, mo, st, po, pr, rd, ri, c0, c1, c2, c3, re, og, rc, xm] := fun b1 b2 b3 =>
    back_is le ve mo st po pr rd ri c0 c1 c2 c3 re og rc xm ⟨a1.1, b1⟩ ⟨a2.1, b2⟩ ⟨a3.1, b3⟩ a5 a6 a7 a8 a13 a14 a15 a16
  have hcall : Calls Try.prog 8 #[v0, .agg (headL le ve mo st po pr rd ri c0 c1 c2 c3 re og rc xm).toArray] W fun e W' => e = .returned (.bool true) ∧ Below W.heap.size W W' := by
    rcases Dg.ints_arg Try.underlying28 Try.underlying5 (by kernel_rfl) (hval 0 28 v0 rfl rfl) h0 with rfl | ⟨b, off, len, cap, zs, e', rfl, hl, hm, hz, hwz, ho⟩
    · exact walk_nil W [le, ve, mo, st, po, pr, rd, ri, c0, c1, c2, c3, re, og, rc, xm]
    · exact walk W [le, ve, mo, st, po, pr, rd, ri, c0, c1, c2, c3, re, og, rc, xm] zs b off len cap e' hl hz hb ho
  clear hA0 hval0
  simp only [List.append_nil] at hW' lt0 lt1
  refine hcall.mono fun e W' ⟨he, bel⟩ => ?_
  subst he
  exact ⟨_, rfl, _, _, _, [], _, [], hW', trodAll_mk1 (shut_bool Try.underlying4 _), trodAll_cons_mk (Below.trod laidOut (by kernel_rfl) (of_decide_eq_true (by kernel_rfl)) k0 bel lt0) (trodAll_cons_mk (Below.trod laidOut (by kernel_rfl) (of_decide_eq_true (by kernel_rfl)) k1 bel lt1) trodAll_mk0), rfl, bel.frame _, fun h => by cases h⟩

theorem over : Rows.headPatchesRow.holds Try.pinned (OpenSpec.ofChange Rows.headPatchesSpec) :=
  OpenClaim.holds_of_wide 8 Try.f8 rfl rfl rfl rfl rfl rfl rfl ⟨rfl, rfl, rfl, rfl, rfl⟩ rfl rfl rfl rfl rfl (by kernel_rfl) Try.func8 (by kernel_rfl)
    (of_decide_eq_true (by kernel_rfl)) (by unfold Func.isWrapper; first | (rw [if_pos (by decide +kernel)]; kernel_rfl) | (rw [if_neg (by decide +kernel)]; exact ⟨rfl, rfl⟩))
    (fun os started H enc _ => lifted os started H enc)

theorem proved : Rows.HeadPatchesSaid := over
#print axioms proved
end Go.Proofs.Ythfhidbdjiehhaa.headPatches
