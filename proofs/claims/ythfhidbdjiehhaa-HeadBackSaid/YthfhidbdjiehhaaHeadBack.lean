/- PROVED: 'horologelaw20.HeadBack' returns true at every two headers and every slice of bytes, in whatever memory, and leaves what was there as it was. Conditions: none. -/
import Derived.Test.YthfhidbdjiehhaaRows
import Derived.Test.YthfhidbdjiehhaaHeadBackCases
import Derived.WalkKit
import Derived.ProofKit
import Derived.OpenShut
namespace Go.Proofs.Ythfhidbdjiehhaa.headBack
open Go.ChangeShapes Go.WideShapes Go.ChangeAt Go.RowKit
open Go.Dg (junk St Ex Ev Hint evCall evCallS evCode evLoop cleanSt ue bodied noOver sbOf headOf tailOf bodyOf Flats flatOver Heap AObj)
open Go.Proofs.Ythfhidbdjiehhaa.headPut (sbs mixed works_is headL u8s str mays intsA open_head S s_is or8 or_is sh4 sh8)
open Go.Proofs.Ythfhidbdjiehhaa.headTake
open Go.Proofs.Ythfhidbdjiehhaa.headPatches (iA mayOb own takeV E hB bO xO zP ev append_own rowOf_length rowOf_take rowOf_drop)
set_option linter.unusedVariables false

/-! ### What is taken of bytes is put as these. -/
theorem split4 (a b c d : Int) (ha : 0 ≤ a ∧ a < 256) (hb : 0 ≤ b ∧ b < 256) (hc : 0 ≤ c ∧ c < 256) (hd : 0 ≤ d ∧ d < 256) : sh4 (IntKind.u64.wrap (IntKind.u32.wrap (G (G (G (G 0 a) b) c) d))) = [a, b, c, d] := by
  rw [g_is 0 a (by omega) (by omega) ha, g_is _ b (by omega) (by omega) hb, g_is _ c (by omega) (by omega) hc, g_is _ d (by omega) (by omega) hd]
  simp only [sh4, s_is, Dg.w_u64, Dg.w_u32, List.cons.injEq, and_true]
  refine ⟨?_, ?_, ?_, ?_⟩ <;> (simp only [Int.reducePow]; omega)
theorem split8 (a b c d e f g h : Int) (ha : 0 ≤ a ∧ a < 256) (hb : 0 ≤ b ∧ b < 256) (hc : 0 ≤ c ∧ c < 256) (hd : 0 ≤ d ∧ d < 256) (he : 0 ≤ e ∧ e < 256) (hf : 0 ≤ f ∧ f < 256) (hg : 0 ≤ g ∧ g < 256) (hh : 0 ≤ h ∧ h < 256) :
    sh8 (G (G (G (G (G (G (G (G 0 a) b) c) d) e) f) g) h) = [a, b, c, d, e, f, g, h] := by
  rw [g_is 0 a (by omega) (by omega) ha, g_is _ b (by omega) (by omega) hb, g_is _ c (by omega) (by omega) hc, g_is _ d (by omega) (by omega) hd, g_is _ e (by omega) (by omega) he, g_is _ f (by omega) (by omega) hf, g_is _ g (by omega) (by omega) hg, g_is _ h (by omega) (by omega) hh]
  simp only [sh8, s_is, List.cons.injEq, and_true]
  refine ⟨?_, ?_, ?_, ?_, ?_, ?_, ?_, ?_⟩ <;> (simp only [Int.reducePow]; omega)
theorem first_back : ∀ a : Fin 256, or8 (or8 (IntKind.u8.wrap ((a.val : Int).fdiv (2 ^ 6) * 2 ^ 6)) (IntKind.u8.wrap (and8 ((a.val : Int).fdiv (2 ^ 3)) 7 * 2 ^ 3))) (and8 (a.val : Int) 7) = a.val := by decide +kernel
theorem first_may : ∀ a : Fin 256, (a.val : Int).fdiv (2 ^ 6) < 4 ∧ and8 ((a.val : Int).fdiv (2 ^ 3)) 7 < 8 ∧ and8 (a.val : Int) 7 < 8 := by decide +kernel
theorem bytes_back (z : Nat → Int) (hz : ∀ i, 0 ≤ z i ∧ z i < 256) : iA (la z) = (List.range 48).map z := by
  have h0 := first_back ⟨(z 0).toNat, by have := hz 0; omega⟩
  simp only [Int.toNat_of_nonneg (hz 0).1] at h0
  have e2 : IntKind.u8.wrap (IntKind.i8.wrap (z 2)) = z 2 := by have := hz 2; rw [Dg.w_u8, Dg.w_i8]; omega
  have e3 : IntKind.u8.wrap (IntKind.i8.wrap (z 3)) = z 3 := by have := hz 3; rw [Dg.w_u8, Dg.w_i8]; omega
  show [or8 (or8 (IntKind.u8.wrap ((z 0).fdiv (2 ^ 6) * 2 ^ 6)) (IntKind.u8.wrap (and8 ((z 0).fdiv (2 ^ 3)) 7 * 2 ^ 3))) (and8 (z 0) 7), z 1, IntKind.u8.wrap (IntKind.i8.wrap (z 2)), IntKind.u8.wrap (IntKind.i8.wrap (z 3))] ++
   (sh4 (IntKind.u64.wrap (IntKind.u32.wrap (G (G (G (G 0 (z 4)) (z 5)) (z 6)) (z 7)))) ++ (sh4 (IntKind.u64.wrap (IntKind.u32.wrap (G (G (G (G 0 (z 8)) (z 9)) (z 10)) (z 11)))) ++ ([z 12, z 13, z 14, z 15] ++
    (sh8 (G (G (G (G (G (G (G (G 0 (z 16)) (z 17)) (z 18)) (z 19)) (z 20)) (z 21)) (z 22)) (z 23)) ++ (sh8 (G (G (G (G (G (G (G (G 0 (z 24)) (z 25)) (z 26)) (z 27)) (z 28)) (z 29)) (z 30)) (z 31)) ++
     (sh8 (G (G (G (G (G (G (G (G 0 (z 32)) (z 33)) (z 34)) (z 35)) (z 36)) (z 37)) (z 38)) (z 39)) ++ sh8 (G (G (G (G (G (G (G (G 0 (z 40)) (z 41)) (z 42)) (z 43)) (z 44)) (z 45)) (z 46)) (z 47)))))))) = _
  rw [h0, e2, e3, split4 _ _ _ _ (hz _) (hz _) (hz _) (hz _), split4 _ _ _ _ (hz _) (hz _) (hz _) (hz _), split8 _ _ _ _ _ _ _ _ (hz _) (hz _) (hz _) (hz _) (hz _) (hz _) (hz _) (hz _), split8 _ _ _ _ _ _ _ _ (hz _) (hz _) (hz _) (hz _) (hz _) (hz _) (hz _) (hz _),
    split8 _ _ _ _ _ _ _ _ (hz _) (hz _) (hz _) (hz _) (hz _) (hz _) (hz _) (hz _), split8 _ _ _ _ _ _ _ _ (hz _) (hz _) (hz _) (hz _) (hz _) (hz _) (hz _) (hz _)]
  rfl
theorem may_back (z : Nat → Int) (hz : ∀ i, 0 ≤ z i ∧ z i < 256) : Dg.AllP (mayOb (la z)) := by
  have h := first_may ⟨(z 0).toNat, by have := hz 0; omega⟩
  simp only [Int.toNat_of_nonneg (hz 0).1] at h
  exact ⟨Dg.vtrue h.1, Dg.vtrue h.2.1, Dg.vtrue h.2.2, trivial⟩

/-! ### Headers that are not one have unlike bytes. -/
theorem str_inj : ∀ (a b : List Int), (∀ x ∈ a, 0 ≤ x ∧ x < 256) → (∀ x ∈ b, 0 ≤ x ∧ x < 256) → (a.map fun n => UInt8.ofNat n.toNat) = (b.map fun n => UInt8.ofNat n.toNat) → a = b := by
  intro a
  induction a with
  | nil => intro b _ _ h; cases b with
    | nil => rfl
    | cons y r => simp at h
  | cons x r ih =>
    intro b ha hb h
    cases b with
    | nil => simp at h
    | cons y s =>
      simp only [List.map_cons, List.cons.injEq] at h
      have h1 := congrArg UInt8.toNat h.1
      simp only [UInt8.toNat_ofNat'] at h1
      have hx := ha x (List.mem_cons_self ..)
      have hy := hb y (List.mem_cons_self ..)
      have : x = y := by omega
      rw [this, ih s (fun z hz => ha z (List.mem_cons_of_mem _ hz)) (fun z hz => hb z (List.mem_cons_of_mem _ hz)) h.2]
def Ok (l : List Int) : Prop := ∀ i, i ∈ [8, 9, 10, 11] ∨ i = 3 → 0 ≤ l.getD i 0 ∧ l.getD i 0 < 256
theorem u8_rng (n : Int) : 0 ≤ IntKind.u8.wrap n ∧ IntKind.u8.wrap n < 256 := by rw [Dg.w_u8]; omega
theorem iA_rng (l : List Int) (h : Ok l) : ∀ x ∈ iA l, 0 ≤ x ∧ x < 256 := by
  have hS : ∀ k n, 0 ≤ S k n ∧ S k n < 256 := fun k n => u8_rng _
  have h4 : ∀ n, ∀ x ∈ sh4 n, 0 ≤ x ∧ x < 256 := by
    intro n x hx
    simp only [sh4, List.mem_cons, List.not_mem_nil, or_false] at hx
    rcases hx with rfl | rfl | rfl | rfl <;> exact hS _ _
  have h8 : ∀ n, ∀ x ∈ sh8 n, 0 ≤ x ∧ x < 256 := by
    intro n x hx
    simp only [sh8, List.mem_cons, List.not_mem_nil, or_false] at hx
    rcases hx with rfl | rfl | rfl | rfl | rfl | rfl | rfl | rfl <;> exact hS _ _
  intro x hx
  unfold iA intsA at hx
  simp only [List.mem_append] at hx
  rcases hx with hx | hx | hx | hx | hx | hx | hx | hx
  · simp only [List.mem_cons, List.not_mem_nil, or_false] at hx
    rcases hx with rfl | rfl | rfl | rfl
    · exact u8_rng _
    · exact h 3 (.inr rfl)
    · exact u8_rng _
    · exact u8_rng _
  · exact h4 _ x hx
  · exact h4 _ x hx
  · simp only [List.mem_cons, List.not_mem_nil, or_false] at hx
    rcases hx with rfl | rfl | rfl | rfl
    · exact h 8 (.inl (by simp))
    · exact h 9 (.inl (by simp))
    · exact h 10 (.inl (by simp))
    · exact h 11 (.inl (by simp))
  · exact h8 _ x hx
  · exact h8 _ x hx
  · exact h8 _ x hx
  · exact h8 _ x hx
theorem eqH_inj {a0 a1 a2 a3 a4 a5 a6 a7 a8 a9 a10 a11 a12 a13 a14 a15 b0 b1 b2 b3 b4 b5 b6 b7 b8 b9 b10 b11 b12 b13 b14 b15 : Int}
    (h : eqH [a0, a1, a2, a3, a4, a5, a6, a7, a8, a9, a10, a11, a12, a13, a14, a15] [b0, b1, b2, b3, b4, b5, b6, b7, b8, b9, b10, b11, b12, b13, b14, b15] = true) :
    [a0, a1, a2, a3, a4, a5, a6, a7, a8, a9, a10, a11, a12, a13, a14, a15] = [b0, b1, b2, b3, b4, b5, b6, b7, b8, b9, b10, b11, b12, b13, b14, b15] := by
  simp [eqH] at h
  simp [h]
theorem same_bytes (g h : List Int) (og : Ok g) (oh : Ok h) (bg : la (zP g) = g) (bh : la (zP h) = h) (inj : eqH g h = true → g = h) : ((str (iA g)).toList == (str (iA h)).toList) = eqH g h := by
  cases he : eqH g h with
  | true => rw [inj he]; simp
  | false =>
    rw [beq_eq_false_iff_ne]
    intro hs
    rw [ByteArray.toList_eq, ByteArray.toList_eq] at hs
    have e := str_inj (iA g) (iA h) (iA_rng g og) (iA_rng h oh) (by simpa [str] using hs)
    have : zP g = zP h := by unfold zP; rw [e]
    rw [← bg, ← bh, this] at he
    rw [eqH_refl] at he
    cases he

/-! ### All cases. -/
theorem bytes_is (zs : List Int) (h : 48 ≤ zs.length) : ∃ zr, zs = rowOf (fun i => zs.getD i 0) zr ∧ zs.length = zr.length + 48 := by
  refine ⟨zs.drop 48, ?_, by simp; omega⟩
  unfold rowOf
  have : (List.range 48).map (fun i => zs.getD i 0) = zs.take 48 := by
    apply List.ext_getElem?
    intro i
    rw [List.getElem?_map, List.getElem?_take]
    by_cases hi : i < 48
    · rw [List.getElem?_range hi, if_pos hi]
      simp [List.getD_eq_getElem?_getD, List.getElem?_eq_getElem (show i < zs.length by omega)]
    · rw [if_neg hi]
      simp [hi]
  rw [this, List.take_append_drop]
structure Both (g h : List Int) : Prop where
  bg : g.getD 0 0 < 4 → g.getD 1 0 < 8 → g.getD 2 0 < 8 → la (zP g) = g
  bh : h.getD 0 0 < 4 → h.getD 1 0 < 8 → h.getD 2 0 < 8 → la (zP h) = h
  og : Ok g
  oh : Ok h
  inj : eqH g h = true → g = h
theorem mayB_true {l : List Int} (h : mayB l = true) : l.getD 0 0 < 4 ∧ l.getD 1 0 < 8 ∧ l.getD 2 0 < 8 := by
  unfold mayB at h
  simp only [Bool.and_eq_true, decide_eq_true_eq] at h
  omega
theorem may_ob {l : List Int} (h : l.getD 0 0 < 4 ∧ l.getD 1 0 < 8 ∧ l.getD 2 0 < 8) : Dg.AllP (mayOb l) := ⟨Dg.vtrue h.1, Dg.vtrue h.2.1, Dg.vtrue h.2.2, trivial⟩
theorem run_is (g h zs : List Int) (e' : TypeId) (len : Nat) (hl : len ≤ zs.length) (B : Both g h) (hz : ∀ i, 0 ≤ zs.getD i 0 ∧ zs.getD i 0 < 256) :
    (ev 20 6 [.agg (hd g).toArray, .agg (hd h).toArray, .slice (some ⟨0, 0, none⟩) len zs.length] ⟨1, [bC zs e']⟩).map (·.1) = some (.bool true) := by
  by_cases h1 : 1000 < len
  · exact long g h zs e' len h1
  · have mg := may_is g
    have mh := may_is h
    by_cases h48 : len < 48
    · cases cg : mayB g with
      | false => rw [cg] at mg; exact fewF g h zs e' len hl h48 mg
      | true =>
        rw [cg] at mg
        cases ch : mayB h with
        | false => rw [ch] at mh; exact fewTF g h zs e' len hl h48 mg mh
        | true =>
          rw [ch] at mh
          have bg := B.bg (mayB_true cg).1 (mayB_true cg).2.1 (mayB_true cg).2.2
          have bh := B.bh (mayB_true ch).1 (mayB_true ch).2.1 (mayB_true ch).2.2
          rcases Nat.eq_zero_or_pos len with rfl | hpos
          · exact zeroTT g h zs e' _ (same_bytes g h B.og B.oh bg bh B.inj) rfl bg (may_ob (mayB_true cg)) (may_ob (mayB_true ch)) mg mh
          · exact fewTT g h zs e' len hl h48 hpos _ (same_bytes g h B.og B.oh bg bh B.inj) rfl bg (may_ob (mayB_true cg)) (may_ob (mayB_true ch)) mg mh
    · obtain ⟨zr, h3, h4⟩ := bytes_is zs (by omega)
      obtain ⟨m, rfl⟩ : ∃ m, len = m + 48 := ⟨len - 48, by omega⟩
      have hs := Dg.strOf_ints (rowOf (fun i => zs.getD i 0) zr) 0 48 (by rw [rowOf_length]; omega)
      have hst : (str (iA (la (fun i => zs.getD i 0)))).toList = (⟨((((rowOf (fun i => zs.getD i 0) zr).drop 0).take 48).map fun n => UInt8.ofNat n.toNat).toArray⟩ : ByteArray).toList := by
        rw [bytes_back _ hz]
        have : ((rowOf (fun i => zs.getD i 0) zr).drop 0).take 48 = (List.range 48).map (fun i => zs.getD i 0) := by
          rw [List.drop_zero]
          unfold rowOf
          rw [List.take_append, List.take_of_length_le (by simp)]
          simp
        rw [this]
        rfl
      have key : (ev 20 6 [.agg (hd g).toArray, .agg (hd h).toArray, arg zr m] ⟨1, [bO (fun i => zs.getD i 0) zr e']⟩).map (·.1) = some (.bool true) := by
        cases cg : mayB g with
        | false => rw [cg] at mg; exact moreF g h zr _ e' m (by omega) (by omega) _ hs hst (may_back _ hz) mg
        | true =>
          rw [cg] at mg
          cases ch : mayB h with
          | false => rw [ch] at mh; exact moreTF g h zr _ e' m (by omega) (by omega) _ hs hst (may_back _ hz) mg mh
          | true =>
            rw [ch] at mh
            have bg := B.bg (mayB_true cg).1 (mayB_true cg).2.1 (mayB_true cg).2.2
            have bh := B.bh (mayB_true ch).1 (mayB_true ch).2.1 (mayB_true ch).2.2
            exact moreTT g h zr _ e' m (by omega) (by omega) _ hs hst (may_back _ hz) _ (same_bytes g h B.og B.oh bg bh B.inj) rfl bg (may_ob (mayB_true cg)) (may_ob (mayB_true ch)) mg mh
      unfold arg bO at key
      unfold bC
      rw [← h3, ← h4] at key
      exact key
theorem nil_is (g h : List Int) (B : Both g h) : (ev 20 6 [.agg (hd g).toArray, .agg (hd h).toArray, .slice none 0 0] ⟨0, []⟩).map (·.1) = some (.bool true) := by
  have mg := may_is g
  have mh := may_is h
  cases cg : mayB g with
  | false => rw [cg] at mg; exact nilF g h mg
  | true =>
    rw [cg] at mg
    cases ch : mayB h with
    | false => rw [ch] at mh; exact nilTF g h mg mh
    | true =>
      rw [ch] at mh
      have bg := B.bg (mayB_true cg).1 (mayB_true cg).2.1 (mayB_true cg).2.2
      have bh := B.bh (mayB_true ch).1 (mayB_true ch).2.1 (mayB_true ch).2.2
      exact nilTT g h _ (same_bytes g h B.og B.oh bg bh B.inj) rfl bg (may_ob (mayB_true cg)) (may_ob (mayB_true ch)) mg mh

theorem walk (w : World) (g h zs : List Int) (b off len cap : Nat) (e' : TypeId) (hl : len ≤ cap) (hz : zs.length = cap) (B : Both g h) (hb : ∀ i, 0 ≤ zs.getD i 0 ∧ zs.getD i 0 < 256)
    (ho : ∀ M N, Dg.ObjRel M N w (.cells (zs.map (Value.int .u8 ·)) e' 2 1) b off 0) : Calls Try.prog 6 #[.agg (hd g).toArray, .agg (hd h).toArray, .slice (some ⟨b, off, none⟩) len cap] w fun e w' => e = .returned (.bool true) ∧ Below w.heap.size w w' := by
  subst hz
  refine Dg.open_call mixed (Dg.bodied_ok _) (Dg.flatOver_ok known_is) [(b, off, .cells (zs.map (Value.int .u8 ·)) e' 2 1)] (by simp; exact ⟨rfl, ho⟩) (args := [.agg (hd g).toArray, .agg (hd h).toArray, .slice (some ⟨0, 0, none⟩) len zs.length]) ?_ (sb := sbs) (lf := 1000) (n := 20) (run_is g h zs e' len hl B hb) rfl
  exact Dg.LRel.cons (Dg.vrel_of_flat _ _ rfl) (Dg.LRel.cons (Dg.vrel_of_flat _ _ rfl) (Dg.LRel.cons (Dg.VRel.slx (k := 0) (off := 0) (b := b) (o := off) (sp := 0) rfl) Dg.LRel.nil))
theorem walk_nil (w : World) (g h : List Int) (B : Both g h) : Calls Try.prog 6 #[.agg (hd g).toArray, .agg (hd h).toArray, .slice none 0 0] w fun e w' => e = .returned (.bool true) ∧ Below w.heap.size w w' :=
  (Dg.closed_call mixed (Dg.bodied_ok _) (Dg.flatOver_ok known_is) (sb := sbs) (lf := 1000) (n := 20) (nil_is g h B) rfl rfl).2.2 w

/-! ### The row. -/
theorem ownKnob_is : ownKnob Try.prog.godebug = none := by kernel_rfl
theorem laidOut : laidOutB Try.prog = true := by kernel_rfl
set_option maxRecDepth 100000 in
theorem lifted (os : Os) (started : os.Started) (H : Type) (enc : TypeId × Value → H) :
    ReturnsInHanded {} Try.checked os 6 .any (Rows.headBackSpec.pre6 enc Try.prog Try.f6 Rows.headBackRow.domain false) (Rows.headBackSpec.post enc Try.prog Try.f6 false true false false) := by
  refine returnsInHanded_of_change (C := Try.checked) ownKnob_is started (by kernel_rfl) Try.func6
    (ChangeSpec.witness6 (enc := enc) (C := Try.checked) false ⟨#[], #[.agg (headL 0 0 0 0 0 0 0 0 0 0 0 0 0 0 0 0).toArray, .agg (headL 0 0 0 0 0 0 0 0 0 0 0 0 0 0 0 0).toArray, .slice none 0 0], []⟩ 8 (by kernel_rfl) (by kernel_rfl) (by kernel_rfl) (by kernel_rfl)) ?_
  intro W base args ds gs before hval0 hW hcnd _
  have hval : ∀ (j : Nat) t v, Try.f6.params[j]? = some t → args[j]? = some v → Value.okWide Try.prog W .any base t v := hval0
  have hW' := hW
  obtain ⟨p, q, hA0, hV, rfl, hfz, hnd⟩ := hW
  have hA : DataW.TrodAll enc Try.prog W 0 (fun _ => true) true Try.f6.params.toList args.toList ds p := hA0
  rw [Try.params6] at hA hval
  obtain ⟨v0, vs0, d0, ds0, p0, q0, hargs, rfl, rfl, h0, t0⟩ := trodAll_cons hA
  obtain ⟨v1, vs1, d1, ds1, p1, q1, rfl, rfl, rfl, h1, t1⟩ := trodAll_cons t0
  obtain ⟨v2, vs2, d2, ds2, p2, q2, rfl, rfl, rfl, h2, t2⟩ := trodAll_cons t1
  obtain ⟨rfl, rfl, rfl⟩ := trodAll_nil t2
  obtain rfl : args = #[v0, v1, v2] := by cases args; simp_all
  obtain ⟨rfl, rfl⟩ := trodVars_none hV
  have k0 := h0
  have k1 := h1
  have k2 := h2
  have lt0 : ∀ x ∈ p0, x.block < W.heap.size := by obtain ⟨m, hm⟩ := k0; exact DataW.trod_lt m _ _ _ hm
  have lt1 : ∀ x ∈ p1, x.block < W.heap.size := by obtain ⟨m, hm⟩ := k1; exact DataW.trod_lt m _ _ _ hm
  have lt2 : ∀ x ∈ p2, x.block < W.heap.size := by obtain ⟨m, hm⟩ := k2; exact DataW.trod_lt m _ _ _ hm
  obtain ⟨le, ve, mo, st, po, pr, rd, ri, c0, c1, c2, c3, re, og, rc, xm, rfl, a1, a2, a3, a4, a5, a6, a7, a8, a9, a10, a11, a12, a13, a14, a15, a16⟩ := open_head (hval 0 27 v0 rfl rfl) h0
  obtain ⟨le', ve', mo', st', po', pr', rd', ri', c0', c1', c2', c3', re', og', rc', xm', rfl, b1, b2, b3, b4, b5, b6, b7, b8, b9, b10, b11, b12, b13, b14, b15, b16⟩ := open_head (hval 1 27 v1 rfl rfl) h1
  have B : Both [le, ve, mo, st, po, pr, rd, ri, c0, c1, c2, c3, re, og, rc, xm] [le', ve', mo', st', po', pr', rd', ri', c0', c1', c2', c3', re', og', rc', xm'] :=
    { bg := fun x1 x2 x3 => back_is le ve mo st po pr rd ri c0 c1 c2 c3 re og rc xm ⟨a1.1, x1⟩ ⟨a2.1, x2⟩ ⟨a3.1, x3⟩ a5 a6 a7 a8 a13 a14 a15 a16
      bh := fun x1 x2 x3 => back_is le' ve' mo' st' po' pr' rd' ri' c0' c1' c2' c3' re' og' rc' xm' ⟨b1.1, x1⟩ ⟨b2.1, x2⟩ ⟨b3.1, x3⟩ b5 b6 b7 b8 b13 b14 b15 b16
      og := by
        intro i hi
        simp only [List.mem_cons, List.not_mem_nil, or_false] at hi
        rcases hi with (rfl | rfl | rfl | rfl) | rfl
        · exact a9
        · exact a10
        · exact a11
        · exact a12
        · exact a4
      oh := by
        intro i hi
        simp only [List.mem_cons, List.not_mem_nil, or_false] at hi
        rcases hi with (rfl | rfl | rfl | rfl) | rfl
        · exact b9
        · exact b10
        · exact b11
        · exact b12
        · exact b4
      inj := eqH_inj }
  have hcall : Calls Try.prog 6 #[.agg (headL le ve mo st po pr rd ri c0 c1 c2 c3 re og rc xm).toArray, .agg (headL le' ve' mo' st' po' pr' rd' ri' c0' c1' c2' c3' re' og' rc' xm').toArray, v2] W fun e W' => e = .returned (.bool true) ∧ Below W.heap.size W W' := by
    rcases Dg.ints_arg Try.underlying28 Try.underlying5 (by kernel_rfl) (hval 2 28 v2 rfl rfl) h2 with rfl | ⟨b, off, len, cap, zs, e', rfl, hl, hm, hz, hwz, ho⟩
    · exact walk_nil W [le, ve, mo, st, po, pr, rd, ri, c0, c1, c2, c3, re, og, rc, xm] [le', ve', mo', st', po', pr', rd', ri', c0', c1', c2', c3', re', og', rc', xm'] B
    · refine walk W [le, ve, mo, st, po, pr, rd, ri, c0, c1, c2, c3, re, og, rc, xm] [le', ve', mo', st', po', pr', rd', ri', c0', c1', c2', c3', re', og', rc', xm'] zs b off len cap e' hl hz B ?_ ho
      intro i
      rw [List.getD_eq_getElem?_getD]
      cases hi : zs[i]? with
      | none => simp
      | some x => exact Dg.wf_u8 (hwz x (List.mem_of_getElem? hi))
  clear hA0 hval0
  simp only [List.append_nil] at hW' lt0 lt1 lt2
  refine hcall.mono fun e W' ⟨he, bel⟩ => ?_
  subst he
  exact ⟨_, rfl, _, _, _, [], _, [], hW', trodAll_mk1 (shut_bool Try.underlying4 _), trodAll_cons_mk (Below.trod laidOut (by kernel_rfl) (of_decide_eq_true (by kernel_rfl)) k0 bel lt0) (trodAll_cons_mk (Below.trod laidOut (by kernel_rfl) (of_decide_eq_true (by kernel_rfl)) k1 bel lt1) (trodAll_cons_mk (Below.trod laidOut (by kernel_rfl) (of_decide_eq_true (by kernel_rfl)) k2 bel lt2) trodAll_mk0)), rfl, bel.frame _, fun h => by cases h⟩

theorem over : Rows.headBackRow.holds Try.pinned (OpenSpec.ofChange Rows.headBackSpec) :=
  OpenClaim.holds_of_wide 6 Try.f6 rfl rfl rfl rfl rfl rfl rfl ⟨rfl, rfl, rfl, rfl, rfl⟩ rfl rfl rfl rfl rfl (by kernel_rfl) Try.func6 (by kernel_rfl)
    (of_decide_eq_true (by kernel_rfl)) (by unfold Func.isWrapper; first | (rw [if_pos (by decide +kernel)]; kernel_rfl) | (rw [if_neg (by decide +kernel)]; exact ⟨rfl, rfl⟩))
    (fun os started H enc _ => lifted os started H enc)

theorem proved : Rows.HeadBackSaid := over
#print axioms proved
end Go.Proofs.Ythfhidbdjiehhaa.headBack
