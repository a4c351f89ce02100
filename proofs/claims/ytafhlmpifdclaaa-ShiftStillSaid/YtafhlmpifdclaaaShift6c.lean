/- What 'ShiftStill' comes to, at every kind of offsets. -/
import Derived.Test.YtafhlmpifdclaaaRows
import Derived.Test.YtafhlmpifdclaaaShift6p
namespace Go.Proofs.Ytafhlmpifdclaaa.shift
open Go.Dg (junk St Ex Ev Hint evCall evCallS evCode evCodeS evLoop cleanSt ue bodied noOver sbOf headOf tailOf bodyOf rAssign rBody lBody Flats flatOver Heap AObj SCall Law ofLaw Fix)
set_option linter.unusedVariables false
set_option linter.unusedSimpArgs false

--< stopA
theorem stopA (wd : Int) (bd : Int) (bs : Int) (sp : Int) (lz : Nat) (cz : Nat) (n : Nat) (near : Value) (del : Value) (x : Value) (H : Heap) (log : List Nat) :
    run6 1 lA ({ ts := TA wd bd bs sp lz cz n lz near del x, H := H, log := log }) = some (Ex.exit 0, ({ ts := [Value.int IntKind.u8 wd, Value.int IntKind.u32 bd, Value.slice (some { block := 0, off := 0 }) lz cz, Value.int IntKind.i32 bs, Value.int IntKind.u32 sp, undef, undef, undef, undef, undef, Value.bool false, Value.int IntKind.i64 (↑n : Int), Value.int IntKind.i64 bd, near, del, undef, x, undef, undef, undef, undef, undef, undef, undef, undef, undef, junk, junk, junk, junk, junk, junk, junk, junk, junk, junk, junk, junk, junk, junk, Value.slice (some { block := 0, off := 0 }) lz cz, Value.int IntKind.i64 (↑lz : Int), Value.int IntKind.i64 (↑lz : Int), Value.bool false, junk, junk, junk, junk, junk, junk, junk, junk, junk, junk, junk, junk, junk, junk, junk, junk, junk, junk, junk, junk, junk, junk, junk, junk, junk, junk, junk, junk, junk, junk, junk, junk, junk, junk, junk, junk, junk, junk, junk, junk, junk, junk, junk, junk, junk, junk, junk, junk, junk, junk, junk, junk, junk, junk, junk, junk, junk, junk, junk, junk, junk, junk, junk, junk, junk, junk, junk, junk, junk, junk, junk, junk, junk, junk, junk, junk, junk, junk, junk, junk, junk, junk, junk, junk, junk, junk, junk, junk, junk, junk, junk, junk, junk, junk, junk, junk, junk, junk, junk, junk, junk, junk, junk, junk, junk, junk, junk, junk, junk, junk, junk, junk, junk, junk, junk, junk, junk, junk, junk, junk, junk, junk, junk], H := H, log := log } : St)) :=
  Dg.evCode_hint (f := 6) (hs' := []) (hs := [Hint.val 6 43 (Value.bool false)])
    [Value.bool (decide ((↑lz : Int) < (↑lz : Int))) = Value.bool false] (by kernel_rfl)
    ⟨Dg.vfalse (by omega), trivial⟩
--> stopA
--< stopB
theorem stopB (wd : Int) (bd : Int) (bs : Int) (sp : Int) (n : Nat) (base : Nat) (az : Value) (near : Value) (del : Value) (x : Value) (l : Value) (even : Value) (i20 : Value) (x21 : Value) (H : Heap) (log : List Nat) :
    run6 base lB ({ ts := TB wd bd bs sp n az near del x l even i20 x21 (4 * n), H := H, log := log }) = some (Ex.exit 2, ({ ts := [Value.int IntKind.u8 wd, Value.int IntKind.u32 bd, az, Value.int IntKind.i32 bs, Value.int IntKind.u32 sp, undef, undef, undef, undef, undef, Value.bool false, Value.int IntKind.i64 (↑n : Int), Value.int IntKind.i64 bd, near, del, undef, x, l, even, Value.int IntKind.i64 (bd + 1 + sp), i20, x21, undef, undef, undef, undef, junk, junk, junk, junk, junk, junk, junk, junk, junk, junk, junk, junk, junk, junk, junk, junk, junk, junk, junk, junk, junk, junk, junk, junk, junk, junk, junk, junk, junk, junk, junk, junk, junk, junk, junk, junk, junk, junk, junk, junk, junk, junk, junk, junk, junk, junk, junk, junk, junk, junk, junk, Value.int IntKind.i64 (4 * (↑n : Int)), Value.int IntKind.i64 (↑(4 * n) : Int), Value.bool false, junk, junk, junk, junk, junk, junk, junk, junk, junk, junk, junk, junk, junk, junk, junk, junk, junk, junk, junk, junk, junk, junk, junk, junk, junk, junk, junk, junk, junk, junk, junk, junk, junk, junk, junk, junk, junk, junk, junk, junk, junk, junk, junk, junk, junk, junk, junk, junk, junk, junk, junk, junk, junk, junk, junk, junk, junk, junk, junk, junk, junk, junk, junk, junk, junk, junk, junk, junk, junk, junk, junk, junk, junk, junk, junk, junk, junk, junk, junk, junk, junk, junk, junk, junk, junk, junk, junk], H := H, log := log } : St)) :=
  Dg.evCode_hint (f := 6) (hs' := []) (hs := [Hint.val 6 79 (Value.bool false)])
    [Value.bool (decide ((↑((4 : Nat) * n) : Int) < (4 : Int) * (↑n : Int))) = Value.bool false] (by kernel_rfl)
    ⟨Dg.vfalse (by omega), trivial⟩
--> stopB
--< stopC
theorem stopC (wd : Int) (bd : Int) (bs : Int) (sp : Int) (n : Nat) (base : Nat) (az : Value) (near : Value) (del : Value) (x : Value) (l : Value) (even : Value) (i20 : Value) (x21 : Value) (got : Value) (told : Value) (s : Value) (H : Heap) (log : List Nat) :
    run6 base lC ({ ts := TC wd bd bs sp n az near del x l even i20 x21 got told s n, H := H, log := log }) = some (Ex.exit 4, ({ ts := [Value.int IntKind.u8 wd, Value.int IntKind.u32 bd, az, Value.int IntKind.i32 bs, Value.int IntKind.u32 sp, undef, undef, undef, undef, undef, Value.bool false, Value.int IntKind.i64 (↑n : Int), Value.int IntKind.i64 bd, near, del, undef, x, l, even, Value.int IntKind.i64 (bd + 1 + sp), i20, x21, got, told, undef, s, junk, junk, junk, junk, junk, junk, junk, junk, junk, junk, junk, junk, junk, junk, junk, junk, junk, junk, junk, junk, junk, junk, junk, junk, junk, junk, junk, junk, junk, junk, junk, junk, junk, junk, junk, junk, junk, junk, junk, junk, junk, junk, junk, junk, junk, junk, junk, junk, junk, junk, junk, junk, junk, junk, junk, junk, junk, junk, junk, junk, junk, junk, junk, junk, junk, junk, junk, junk, junk, junk, junk, junk, junk, junk, junk, junk, junk, got, Value.int IntKind.i64 (↑n : Int), Value.int IntKind.i64 (↑n : Int), Value.bool false, junk, junk, junk, junk, junk, junk, junk, junk, junk, junk, junk, junk, junk, junk, junk, junk, junk, junk, junk, junk, junk, junk, junk, junk, junk, junk, junk, junk, junk, junk, junk, junk, junk, junk, junk, junk, junk, junk, junk, junk, junk, junk, junk, junk, junk, junk, junk, junk, junk, junk, junk, junk, junk, junk, junk, junk, junk, junk, junk, junk], H := H, log := log } : St)) :=
  Dg.evCode_hint (f := 6) (hs' := []) (hs := [Hint.val 6 106 (Value.bool false)])
    [Value.bool (decide ((↑n : Int) < (↑n : Int))) = Value.bool false] (by kernel_rfl)
    ⟨Dg.vfalse (by omega), trivial⟩
--> stopC
theorem u32_ok {zs : List Int} (hz : ∀ z ∈ zs, 0 ≤ z ∧ z < 4294967296) (i : Nat) : 0 ≤ zs.getD i 0 ∧ zs.getD i 0 < 4294967296 := by
  rw [List.getD_eq_getElem?_getD]
  cases hi : zs[i]? with
  | none => simp
  | some p => exact hz p (List.mem_of_getElem? hi)
section
variable (wd bd bs sp : Int) (lz cz ez n : Nat) (zs : List Int)
def HA (i : Nat) : St := match i with
  | 0 => A6a wd bd bs sp lz cz ez n zs
  | i + 1 => A6b wd bd bs sp lz cz ez n zs (i + 1) (zs.getD i 0) (nearL bd bs zs (i + 1)) (delL zs (i + 1))
theorem nearL_len (bd bs : Int) (zs : List Int) (i : Nat) : (nearL bd bs zs i).length = i := by simp [nearL]
theorem delL_len (zs : List Int) (i : Nat) : (delL zs i).length = i := by simp [delL]
theorem roundA (hlz : lz ≤ 200) (hcz : lz ≤ cz) (hzl : zs.length = cz) (hbd : 0 ≤ bd ∧ bd < 4294967296) (hbs : -2147483648 ≤ bs ∧ bs < 2147483648) (hz : ∀ z ∈ zs, 0 ≤ z ∧ z < 4294967296) (i : Nat) (hi : i < lz) :
    ∃ s', run6 1 lA (HA wd bd bs sp lz cz ez n zs i) = some (.normal, s') ∧ cl6 1 lA s' = HA wd bd bs sp lz cz ez n zs (i + 1) := by
  have hx := u32_ok hz i
  have hm := tmod_bounds (x := zs.getD i 0) (b := bd) hx.1 hbd.1
  have hq : 0 ≤ (zs.getD i 0).tmod 7 ∧ (zs.getD i 0).tmod 7 < 7 := ⟨Int.tmod_nonneg _ hx.1, Int.tmod_lt_of_pos _ (by omega)⟩
  cases i with
  | zero => exact r6a0 wd bd bs sp lz cz ez n zs ((zs.getD 0 0).tmod (bd + 1)) ((zs.getD 0 0).tmod 7) hi hlz hcz hzl hbd hbs hx rfl rfl hm hq
  | succ i =>
    have h := r6a1 wd bd bs sp lz cz ez n zs (i + 1) (zs.getD i 0) (nearL bd bs zs (i + 1)) (delL zs (i + 1)) ((zs.getD (i + 1) 0).tmod (bd + 1)) ((zs.getD (i + 1) 0).tmod 7) (nearL_len _ _ _ _) (delL_len _ _) hi hlz hcz hzl hbd hbs hx rfl rfl hm hq
    have e1 : nearL bd bs zs (i + 1 + 1) = nearL bd bs zs (i + 1) ++ [bs + (zs.getD (i + 1) 0).tmod (bd + 1)] := map_succ _ _
    have e2 : delL zs (i + 1 + 1) = delL zs (i + 1) ++ [(zs.getD (i + 1) 0).tmod 7] := map_succ _ _
    rw [← e1, ← e2] at h
    exact h
def EA (i : Nat) : St := ⟨P6 wd bd bs sp n (aZ lz cz) (slI 1 (nearL bd bs zs (i + 1))) (slI 2 (delL zs (i + 1))) (.int .u32 (zs.getD i 0)) ++ (List.replicate 9 undef ++ (js 14 ++ ([aZ lz cz, .int .i64 lz, .int .i64 lz, .bool false] ++ js 123))),
  ⟨3, [rowI (delL zs (i + 1)), rowI (nearL bd bs zs (i + 1)), oZ zs ez]⟩, []⟩
theorem loopA (i : Nat) (hi : lz = i + 1) (hlz : lz ≤ 200) (hcz : lz ≤ cz) (hzl : zs.length = cz) (hbd : 0 ≤ bd ∧ bd < 4294967296) (hbs : -2147483648 ≤ bs ∧ bs < 2147483648) (hz : ∀ z ∈ zs, 0 ≤ z ∧ z < 4294967296) {s0 : St} (h0 : cl6 1 lA s0 = A6a wd bd bs sp lz cz ez n zs) :
    evLoop (run6 1 lA) (cl6 1 lA) 1000 s0 = some (.exit 0, EA wd bd bs sp lz cz ez n zs i) := by
  refine Dg.loop_run (S := HA wd bd bs sp lz cz ez n zs) (n := lz) (by simp) (fun j hj => roundA wd bd bs sp lz cz ez n zs hlz hcz hzl hbd hbs hz j hj) ?_ (by omega) h0
  subst hi
  exact stopA wd bd bs sp (i + 1) cz n _ _ _ _ _
end
section
variable (wd bd bs sp : Int) (n : Nat) 
def HBN (i : Nat) : St := match i with
  | 0 => BN0 wd bd bs sp n 
  | i + 1 => BN1 wd bd bs sp n  (i + 1) (i : Int) (if i < 2 * n then bs else bs + (bd + 1 + sp)) (oneL n bs (bs + (bd + 1 + sp)) (i + 1)) (evL (i + 1))
theorem roundBN (hn : 1 ≤ n) (hn1 : n ≤ 20) (hbd : 0 ≤ bd ∧ bd < 4294967296) (hbs : -2147483648 ≤ bs ∧ bs < 2147483648) (hsp : 0 ≤ sp ∧ sp < 4294967296) (i : Nat) (hi : i < 4 * n) : ∃ s', run6 0 lB (HBN wd bd bs sp n  i) = some (.normal, s') ∧ cl6 0 lB s' = HBN wd bd bs sp n  (i + 1) := by
  cases i with
  | zero =>
    obtain ⟨s', h1, h2⟩ := r6bN0 wd bd bs sp n  hn hn1 hbd hbs hsp
    refine ⟨s', h1, h2.trans ?_⟩
    have e1 : (if 0 < 2 * n then bs else bs + (bd + 1 + sp)) = bs := if_pos (by omega)
    have e2 : oneL n bs (bs + (bd + 1 + sp)) (0 + 1) = [bs] := by unfold oneL; rw [map_succ]; simp only [List.range_zero, List.map_nil, List.nil_append, e1]
    show _ = BN1 wd bd bs sp n  (0 + 1) ((0 : Nat) : Int) (if 0 < 2 * n then bs else bs + (bd + 1 + sp)) (oneL n bs (bs + (bd + 1 + sp)) (0 + 1)) (evL (0 + 1))
    rw [e1, e2]
    rfl
  | succ i =>
    have e1 : oneL n bs (bs + (bd + 1 + sp)) (i + 1 + 1) = oneL n bs (bs + (bd + 1 + sp)) (i + 1) ++ [if i + 1 < 2 * n then bs else bs + (bd + 1 + sp)] := map_succ _ _
    have e2 : evL (i + 1 + 1) = evL (i + 1) ++ [5] := map_succ _ _
    by_cases h3 : i + 1 < 2 * n
    · have h := r6bN1 wd bd bs sp n  (i + 1) (i : Int) (if i < 2 * n then bs else bs + (bd + 1 + sp)) (oneL n bs (bs + (bd + 1 + sp)) (i + 1)) (evL (i + 1)) (by simp [oneL]) (by simp [evL]) h3 hn hn1 hbd hbs hsp
      rw [if_pos h3] at e1
      rw [← e1, ← e2] at h
      obtain ⟨s', h1, h2⟩ := h
      refine ⟨s', h1, h2.trans ?_⟩
      show _ = BN1 wd bd bs sp n  (i + 1 + 1) ((i + 1 : Nat) : Int) (if i + 1 < 2 * n then bs else bs + (bd + 1 + sp)) _ _
      rw [if_pos h3]
    · have h := r6bN2 wd bd bs sp n  (i + 1) (i : Int) (if i < 2 * n then bs else bs + (bd + 1 + sp)) (oneL n bs (bs + (bd + 1 + sp)) (i + 1)) (evL (i + 1)) (by simp [oneL]) (by simp [evL]) (by omega) hi hn hn1 hbd hbs hsp
      rw [if_neg h3] at e1
      rw [← e1, ← e2] at h
      obtain ⟨s', h1, h2⟩ := h
      refine ⟨s', h1, h2.trans ?_⟩
      show _ = BN1 wd bd bs sp n  (i + 1 + 1) ((i + 1 : Nat) : Int) (if i + 1 < 2 * n then bs else bs + (bd + 1 + sp)) _ _
      rw [if_neg h3]
def EBN (j x : Int) (ls es : List Int) : St := ⟨P6 wd bd bs sp n (.slice none 0 0) (.slice none 0 0) (.slice none 0 0) undef ++ ([slI 0 ls, slI 1 es, .int .i64 (bd + 1 + sp), .int .i64 j, .int .i64 x] ++ (List.replicate 4 undef ++ (js 51 ++ ([.int .i64 (4 * (n : Int)), .int .i64 ((4 * n : Nat) : Int), .bool false] ++ js 87)))), ⟨2, [rowI es, rowI ls]⟩, []⟩
theorem loopBN (hn : 1 ≤ n) (hn1 : n ≤ 20) (hbd : 0 ≤ bd ∧ bd < 4294967296) (hbs : -2147483648 ≤ bs ∧ bs < 2147483648) (hsp : 0 ≤ sp ∧ sp < 4294967296) {s0 : St} (h0 : cl6 0 lB s0 = BN0 wd bd bs sp n ) :
    evLoop (run6 0 lB) (cl6 0 lB) 1000 s0 = some (.exit 2, EBN wd bd bs sp n  ((4 * n - 1 : Nat) : Int) (bs + (bd + 1 + sp)) (oneL n bs (bs + (bd + 1 + sp)) (4 * n)) (evL (4 * n))) := by
  refine Dg.loop_run (S := HBN wd bd bs sp n ) (n := 4 * n) (by simp) (fun j hj => roundBN wd bd bs sp n  hn hn1 hbd hbs hsp j hj) ?_ (by omega) h0
  obtain ⟨i, hi⟩ : ∃ i, 4 * n = i + 1 := ⟨4 * n - 1, by omega⟩
  have hh : HBN wd bd bs sp n  (4 * n) = BN1 wd bd bs sp n  (4 * n) ((4 * n - 1 : Nat) : Int) (bs + (bd + 1 + sp)) (oneL n bs (bs + (bd + 1 + sp)) (4 * n)) (evL (4 * n)) := by
    rw [hi]
    show BN1 wd bd bs sp n  (i + 1) (i : Int) (if i < 2 * n then bs else bs + (bd + 1 + sp)) _ _ = _
    rw [if_neg (by omega), Nat.add_sub_cancel]
  rw [hh]
  exact stopB wd bd bs sp n 0 _ _ _ _ _ _ _ _ _ _
def HCN (j x : Int) (ls es : List Int) (A B : Int) (i : Nat) : St := match i with
  | 0 => CN0 wd bd bs sp n  j x ls es A B
  | i + 1 => CN1 wd bd bs sp n  j x ls es A B i
def ECN (j x : Int) (ls es : List Int) (A B : Int) (i : Nat) : St := ⟨P6 wd bd bs sp n (.slice none 0 0) (.slice none 0 0) (.slice none 0 0) undef ++ ([slI 0 ls, slI 1 es, .int .i64 (bd + 1 + sp), .int .i64 j, .int .i64 x, .slice (some ⟨2, 0, some 0⟩) n n, .bool true, undef, .pointer (some ⟨3, 0, none⟩)] ++ (js 77 ++ ([.slice (some ⟨2, 0, some 0⟩) n n, .int .i64 n, .int .i64 n, .bool false] ++ js 60))),
  ⟨4, [.cells [.int .u64 ((2 * n + i : Nat) : Int), .int .i64 A, .int .i64 B] 31 4 1, stps (once n A B), rowI es, rowI ls]⟩, []⟩
theorem loopCN (j x : Int) (ls es : List Int) (A B : Int) (hA : A = bs) (hB : B = bs + (bd + 1 + sp)) (hn : 1 ≤ n) (hn1 : n ≤ 20) (hbd : 0 ≤ bd ∧ bd < 4294967296) (hbs : -2147483648 ≤ bs ∧ bs < 2147483648) (hsp : 0 ≤ sp ∧ sp < 4294967296) (i : Nat) (hi : n = i + 1) {s0 : St} (h0 : cl6 0 lC s0 = CN0 wd bd bs sp n  j x ls es A B) :
    evLoop (run6 0 lC) (cl6 0 lC) 1000 s0 = some (.exit 4, ECN wd bd bs sp n  j x ls es A B i) := by
  refine Dg.loop_run (S := HCN wd bd bs sp n  j x ls es A B) (n := n) (by simp) (fun t ht => ?_) ?_ (by omega) h0
  · cases t with
    | zero => exact r6cN0 wd bd bs sp n  j x ls es A B hA hB hn hn1 hbd hbs hsp
    | succ t => exact r6cN1 wd bd bs sp n  j x ls es A B hA hB t ht hn hn1 hbd hbs hsp
  · subst hi
    exact stopC wd bd bs sp (i + 1) 0 _ _ _ _ _ _ _ _ _ _ _ _ _
end
section
variable (wd bd bs sp : Int) (n : Nat) (lz cz ez : Nat) (zs : List Int)
def HBZ (i : Nat) : St := match i with
  | 0 => BZ0 wd bd bs sp n lz cz ez zs
  | i + 1 => BZ1 wd bd bs sp n lz cz ez zs (i + 1) (i : Int) (if i < 2 * n then bs else bs + (bd + 1 + sp)) (oneL n bs (bs + (bd + 1 + sp)) (i + 1)) (evL (i + 1))
theorem roundBZ (hn : 1 ≤ n) (hn1 : n ≤ 20) (hbd : 0 ≤ bd ∧ bd < 4294967296) (hbs : -2147483648 ≤ bs ∧ bs < 2147483648) (hsp : 0 ≤ sp ∧ sp < 4294967296) (i : Nat) (hi : i < 4 * n) : ∃ s', run6 1 lB (HBZ wd bd bs sp n lz cz ez zs i) = some (.normal, s') ∧ cl6 1 lB s' = HBZ wd bd bs sp n lz cz ez zs (i + 1) := by
  cases i with
  | zero =>
    obtain ⟨s', h1, h2⟩ := r6bZ0 wd bd bs sp n lz cz ez zs hn hn1 hbd hbs hsp
    refine ⟨s', h1, h2.trans ?_⟩
    have e1 : (if 0 < 2 * n then bs else bs + (bd + 1 + sp)) = bs := if_pos (by omega)
    have e2 : oneL n bs (bs + (bd + 1 + sp)) (0 + 1) = [bs] := by unfold oneL; rw [map_succ]; simp only [List.range_zero, List.map_nil, List.nil_append, e1]
    show _ = BZ1 wd bd bs sp n lz cz ez zs (0 + 1) ((0 : Nat) : Int) (if 0 < 2 * n then bs else bs + (bd + 1 + sp)) (oneL n bs (bs + (bd + 1 + sp)) (0 + 1)) (evL (0 + 1))
    rw [e1, e2]
    rfl
  | succ i =>
    have e1 : oneL n bs (bs + (bd + 1 + sp)) (i + 1 + 1) = oneL n bs (bs + (bd + 1 + sp)) (i + 1) ++ [if i + 1 < 2 * n then bs else bs + (bd + 1 + sp)] := map_succ _ _
    have e2 : evL (i + 1 + 1) = evL (i + 1) ++ [5] := map_succ _ _
    by_cases h3 : i + 1 < 2 * n
    · have h := r6bZ1 wd bd bs sp n lz cz ez zs (i + 1) (i : Int) (if i < 2 * n then bs else bs + (bd + 1 + sp)) (oneL n bs (bs + (bd + 1 + sp)) (i + 1)) (evL (i + 1)) (by simp [oneL]) (by simp [evL]) h3 hn hn1 hbd hbs hsp
      rw [if_pos h3] at e1
      rw [← e1, ← e2] at h
      obtain ⟨s', h1, h2⟩ := h
      refine ⟨s', h1, h2.trans ?_⟩
      show _ = BZ1 wd bd bs sp n lz cz ez zs (i + 1 + 1) ((i + 1 : Nat) : Int) (if i + 1 < 2 * n then bs else bs + (bd + 1 + sp)) _ _
      rw [if_pos h3]
    · have h := r6bZ2 wd bd bs sp n lz cz ez zs (i + 1) (i : Int) (if i < 2 * n then bs else bs + (bd + 1 + sp)) (oneL n bs (bs + (bd + 1 + sp)) (i + 1)) (evL (i + 1)) (by simp [oneL]) (by simp [evL]) (by omega) hi hn hn1 hbd hbs hsp
      rw [if_neg h3] at e1
      rw [← e1, ← e2] at h
      obtain ⟨s', h1, h2⟩ := h
      refine ⟨s', h1, h2.trans ?_⟩
      show _ = BZ1 wd bd bs sp n lz cz ez zs (i + 1 + 1) ((i + 1 : Nat) : Int) (if i + 1 < 2 * n then bs else bs + (bd + 1 + sp)) _ _
      rw [if_neg h3]
def EBZ (j x : Int) (ls es : List Int) : St := ⟨P6 wd bd bs sp n (aZ lz cz) (.slice none 0 0) (.slice none 0 0) undef ++ ([slI 1 ls, slI 2 es, .int .i64 (bd + 1 + sp), .int .i64 j, .int .i64 x] ++ (List.replicate 4 undef ++ (js 51 ++ ([.int .i64 (4 * (n : Int)), .int .i64 ((4 * n : Nat) : Int), .bool false] ++ js 87)))), ⟨3, [rowI es, rowI ls, oZ zs ez]⟩, []⟩
theorem loopBZ (hn : 1 ≤ n) (hn1 : n ≤ 20) (hbd : 0 ≤ bd ∧ bd < 4294967296) (hbs : -2147483648 ≤ bs ∧ bs < 2147483648) (hsp : 0 ≤ sp ∧ sp < 4294967296) {s0 : St} (h0 : cl6 1 lB s0 = BZ0 wd bd bs sp n lz cz ez zs) :
    evLoop (run6 1 lB) (cl6 1 lB) 1000 s0 = some (.exit 2, EBZ wd bd bs sp n lz cz ez zs ((4 * n - 1 : Nat) : Int) (bs + (bd + 1 + sp)) (oneL n bs (bs + (bd + 1 + sp)) (4 * n)) (evL (4 * n))) := by
  refine Dg.loop_run (S := HBZ wd bd bs sp n lz cz ez zs) (n := 4 * n) (by simp) (fun j hj => roundBZ wd bd bs sp n lz cz ez zs hn hn1 hbd hbs hsp j hj) ?_ (by omega) h0
  obtain ⟨i, hi⟩ : ∃ i, 4 * n = i + 1 := ⟨4 * n - 1, by omega⟩
  have hh : HBZ wd bd bs sp n lz cz ez zs (4 * n) = BZ1 wd bd bs sp n lz cz ez zs (4 * n) ((4 * n - 1 : Nat) : Int) (bs + (bd + 1 + sp)) (oneL n bs (bs + (bd + 1 + sp)) (4 * n)) (evL (4 * n)) := by
    rw [hi]
    show BZ1 wd bd bs sp n lz cz ez zs (i + 1) (i : Int) (if i < 2 * n then bs else bs + (bd + 1 + sp)) _ _ = _
    rw [if_neg (by omega), Nat.add_sub_cancel]
  rw [hh]
  exact stopB wd bd bs sp n 1 _ _ _ _ _ _ _ _ _ _
def HCZ (j x : Int) (ls es : List Int) (A B : Int) (i : Nat) : St := match i with
  | 0 => CZ0 wd bd bs sp n lz cz ez zs j x ls es A B
  | i + 1 => CZ1 wd bd bs sp n lz cz ez zs j x ls es A B i
def ECZ (j x : Int) (ls es : List Int) (A B : Int) (i : Nat) : St := ⟨P6 wd bd bs sp n (aZ lz cz) (.slice none 0 0) (.slice none 0 0) undef ++ ([slI 1 ls, slI 2 es, .int .i64 (bd + 1 + sp), .int .i64 j, .int .i64 x, .slice (some ⟨3, 0, some 0⟩) n n, .bool true, undef, .pointer (some ⟨4, 0, none⟩)] ++ (js 77 ++ ([.slice (some ⟨3, 0, some 0⟩) n n, .int .i64 n, .int .i64 n, .bool false] ++ js 60))),
  ⟨5, [.cells [.int .u64 ((2 * n + i : Nat) : Int), .int .i64 A, .int .i64 B] 31 4 1, stps (once n A B), rowI es, rowI ls, oZ zs ez]⟩, []⟩
theorem loopCZ (j x : Int) (ls es : List Int) (A B : Int) (hA : A = bs) (hB : B = bs + (bd + 1 + sp)) (hn : 1 ≤ n) (hn1 : n ≤ 20) (hbd : 0 ≤ bd ∧ bd < 4294967296) (hbs : -2147483648 ≤ bs ∧ bs < 2147483648) (hsp : 0 ≤ sp ∧ sp < 4294967296) (i : Nat) (hi : n = i + 1) {s0 : St} (h0 : cl6 1 lC s0 = CZ0 wd bd bs sp n lz cz ez zs j x ls es A B) :
    evLoop (run6 1 lC) (cl6 1 lC) 1000 s0 = some (.exit 4, ECZ wd bd bs sp n lz cz ez zs j x ls es A B i) := by
  refine Dg.loop_run (S := HCZ wd bd bs sp n lz cz ez zs j x ls es A B) (n := n) (by simp) (fun t ht => ?_) ?_ (by omega) h0
  · cases t with
    | zero => exact r6cZ0 wd bd bs sp n lz cz ez zs j x ls es A B hA hB hn hn1 hbd hbs hsp
    | succ t => exact r6cZ1 wd bd bs sp n lz cz ez zs j x ls es A B hA hB t ht hn hn1 hbd hbs hsp
  · subst hi
    exact stopC wd bd bs sp (i + 1) 1 _ _ _ _ _ _ _ _ _ _ _ _ _
end
section
variable (wd bd bs sp : Int) (n : Nat) (lz cz ez : Nat) (zs : List Int) (v : Int) (ns ds : List Int)
def HBF (i : Nat) : St := match i with
  | 0 => BF0 wd bd bs sp n lz cz ez zs v ns ds
  | i + 1 => BF1 wd bd bs sp n lz cz ez zs v ns ds (i + 1) (i : Int) (if i < 2 * n then bs else bs + (bd + 1 + sp)) (oneL n bs (bs + (bd + 1 + sp)) (i + 1)) (evL (i + 1))
theorem roundBF (hn : 1 ≤ n) (hn1 : n ≤ 20) (hbd : 0 ≤ bd ∧ bd < 4294967296) (hbs : -2147483648 ≤ bs ∧ bs < 2147483648) (hsp : 0 ≤ sp ∧ sp < 4294967296) (i : Nat) (hi : i < 4 * n) : ∃ s', run6 1 lB (HBF wd bd bs sp n lz cz ez zs v ns ds i) = some (.normal, s') ∧ cl6 1 lB s' = HBF wd bd bs sp n lz cz ez zs v ns ds (i + 1) := by
  cases i with
  | zero =>
    obtain ⟨s', h1, h2⟩ := r6bF0 wd bd bs sp n lz cz ez zs v ns ds hn hn1 hbd hbs hsp
    refine ⟨s', h1, h2.trans ?_⟩
    have e1 : (if 0 < 2 * n then bs else bs + (bd + 1 + sp)) = bs := if_pos (by omega)
    have e2 : oneL n bs (bs + (bd + 1 + sp)) (0 + 1) = [bs] := by unfold oneL; rw [map_succ]; simp only [List.range_zero, List.map_nil, List.nil_append, e1]
    show _ = BF1 wd bd bs sp n lz cz ez zs v ns ds (0 + 1) ((0 : Nat) : Int) (if 0 < 2 * n then bs else bs + (bd + 1 + sp)) (oneL n bs (bs + (bd + 1 + sp)) (0 + 1)) (evL (0 + 1))
    rw [e1, e2]
    rfl
  | succ i =>
    have e1 : oneL n bs (bs + (bd + 1 + sp)) (i + 1 + 1) = oneL n bs (bs + (bd + 1 + sp)) (i + 1) ++ [if i + 1 < 2 * n then bs else bs + (bd + 1 + sp)] := map_succ _ _
    have e2 : evL (i + 1 + 1) = evL (i + 1) ++ [5] := map_succ _ _
    by_cases h3 : i + 1 < 2 * n
    · have h := r6bF1 wd bd bs sp n lz cz ez zs v ns ds (i + 1) (i : Int) (if i < 2 * n then bs else bs + (bd + 1 + sp)) (oneL n bs (bs + (bd + 1 + sp)) (i + 1)) (evL (i + 1)) (by simp [oneL]) (by simp [evL]) h3 hn hn1 hbd hbs hsp
      rw [if_pos h3] at e1
      rw [← e1, ← e2] at h
      obtain ⟨s', h1, h2⟩ := h
      refine ⟨s', h1, h2.trans ?_⟩
      show _ = BF1 wd bd bs sp n lz cz ez zs v ns ds (i + 1 + 1) ((i + 1 : Nat) : Int) (if i + 1 < 2 * n then bs else bs + (bd + 1 + sp)) _ _
      rw [if_pos h3]
    · have h := r6bF2 wd bd bs sp n lz cz ez zs v ns ds (i + 1) (i : Int) (if i < 2 * n then bs else bs + (bd + 1 + sp)) (oneL n bs (bs + (bd + 1 + sp)) (i + 1)) (evL (i + 1)) (by simp [oneL]) (by simp [evL]) (by omega) hi hn hn1 hbd hbs hsp
      rw [if_neg h3] at e1
      rw [← e1, ← e2] at h
      obtain ⟨s', h1, h2⟩ := h
      refine ⟨s', h1, h2.trans ?_⟩
      show _ = BF1 wd bd bs sp n lz cz ez zs v ns ds (i + 1 + 1) ((i + 1 : Nat) : Int) (if i + 1 < 2 * n then bs else bs + (bd + 1 + sp)) _ _
      rw [if_neg h3]
def EBF (j x : Int) (ls es : List Int) : St := ⟨P6 wd bd bs sp n (aZ lz cz) (slI 1 ns) (slI 2 ds) (.int .u32 v) ++ ([slI 3 ls, slI 4 es, .int .i64 (bd + 1 + sp), .int .i64 j, .int .i64 x] ++ (List.replicate 4 undef ++ (js 51 ++ ([.int .i64 (4 * (n : Int)), .int .i64 ((4 * n : Nat) : Int), .bool false] ++ js 87)))), ⟨5, [rowI es, rowI ls, rowI ds, rowI ns, oZ zs ez]⟩, []⟩
theorem loopBF (hn : 1 ≤ n) (hn1 : n ≤ 20) (hbd : 0 ≤ bd ∧ bd < 4294967296) (hbs : -2147483648 ≤ bs ∧ bs < 2147483648) (hsp : 0 ≤ sp ∧ sp < 4294967296) {s0 : St} (h0 : cl6 1 lB s0 = BF0 wd bd bs sp n lz cz ez zs v ns ds) :
    evLoop (run6 1 lB) (cl6 1 lB) 1000 s0 = some (.exit 2, EBF wd bd bs sp n lz cz ez zs v ns ds ((4 * n - 1 : Nat) : Int) (bs + (bd + 1 + sp)) (oneL n bs (bs + (bd + 1 + sp)) (4 * n)) (evL (4 * n))) := by
  refine Dg.loop_run (S := HBF wd bd bs sp n lz cz ez zs v ns ds) (n := 4 * n) (by simp) (fun j hj => roundBF wd bd bs sp n lz cz ez zs v ns ds hn hn1 hbd hbs hsp j hj) ?_ (by omega) h0
  obtain ⟨i, hi⟩ : ∃ i, 4 * n = i + 1 := ⟨4 * n - 1, by omega⟩
  have hh : HBF wd bd bs sp n lz cz ez zs v ns ds (4 * n) = BF1 wd bd bs sp n lz cz ez zs v ns ds (4 * n) ((4 * n - 1 : Nat) : Int) (bs + (bd + 1 + sp)) (oneL n bs (bs + (bd + 1 + sp)) (4 * n)) (evL (4 * n)) := by
    rw [hi]
    show BF1 wd bd bs sp n lz cz ez zs v ns ds (i + 1) (i : Int) (if i < 2 * n then bs else bs + (bd + 1 + sp)) _ _ = _
    rw [if_neg (by omega), Nat.add_sub_cancel]
  rw [hh]
  exact stopB wd bd bs sp n 1 _ _ _ _ _ _ _ _ _ _
def HCF (j x : Int) (ls es : List Int) (A B : Int) (i : Nat) : St := match i with
  | 0 => CF0 wd bd bs sp n lz cz ez zs v ns ds j x ls es A B
  | i + 1 => CF1 wd bd bs sp n lz cz ez zs v ns ds j x ls es A B i
def ECF (j x : Int) (ls es : List Int) (A B : Int) (i : Nat) : St := ⟨P6 wd bd bs sp n (aZ lz cz) (slI 1 ns) (slI 2 ds) (.int .u32 v) ++ ([slI 3 ls, slI 4 es, .int .i64 (bd + 1 + sp), .int .i64 j, .int .i64 x, .slice (some ⟨5, 0, some 0⟩) n n, .bool true, undef, .pointer (some ⟨6, 0, none⟩)] ++ (js 77 ++ ([.slice (some ⟨5, 0, some 0⟩) n n, .int .i64 n, .int .i64 n, .bool false] ++ js 60))),
  ⟨7, [.cells [.int .u64 ((2 * n + i : Nat) : Int), .int .i64 A, .int .i64 B] 31 4 1, stps (once n A B), rowI es, rowI ls, rowI ds, rowI ns, oZ zs ez]⟩, []⟩
theorem loopCF (j x : Int) (ls es : List Int) (A B : Int) (hA : A = bs) (hB : B = bs + (bd + 1 + sp)) (hn : 1 ≤ n) (hn1 : n ≤ 20) (hbd : 0 ≤ bd ∧ bd < 4294967296) (hbs : -2147483648 ≤ bs ∧ bs < 2147483648) (hsp : 0 ≤ sp ∧ sp < 4294967296) (i : Nat) (hi : n = i + 1) {s0 : St} (h0 : cl6 1 lC s0 = CF0 wd bd bs sp n lz cz ez zs v ns ds j x ls es A B) :
    evLoop (run6 1 lC) (cl6 1 lC) 1000 s0 = some (.exit 4, ECF wd bd bs sp n lz cz ez zs v ns ds j x ls es A B i) := by
  refine Dg.loop_run (S := HCF wd bd bs sp n lz cz ez zs v ns ds j x ls es A B) (n := n) (by simp) (fun t ht => ?_) ?_ (by omega) h0
  · cases t with
    | zero => exact r6cF0 wd bd bs sp n lz cz ez zs v ns ds j x ls es A B hA hB hn hn1 hbd hbs hsp
    | succ t => exact r6cF1 wd bd bs sp n lz cz ez zs v ns ds j x ls es A B hA hB t ht hn hn1 hbd hbs hsp
  · subst hi
    exact stopC wd bd bs sp (i + 1) 1 _ _ _ _ _ _ _ _ _ _ _ _ _
end
theorem near_In {bd bs : Int} (hbd : 0 ≤ bd ∧ bd < 4294967296) (hbs : -2147483648 ≤ bs ∧ bs < 2147483648) {zs : List Int} (hz : ∀ z ∈ zs, 0 ≤ z ∧ z < 4294967296) (i : Nat) : ∀ x ∈ nearL bd bs zs i, In x := by
  intro x hx
  obtain ⟨j, _, rfl⟩ := List.mem_map.1 hx
  have := tmod_bounds (x := zs.getD j 0) (b := bd) (u32_ok hz j).1 hbd.1
  unfold In
  omega
theorem near_none {bd bs : Int} {n m : Nat} {ys : List Int} (hn : 1 ≤ n) (hbd : 0 ≤ bd ∧ bd < 4294967296) {zs : List Int} (hz : ∀ z ∈ zs, 0 ≤ z ∧ z < 4294967296) : stepsOf (n : Int) bd (nearL bd bs zs m) ys (min (nearL bd bs zs m).length ys.length) = [] := by
  refine steps_near (lo := bs) hn fun j hj => ?_
  rw [nearL_len] at hj
  unfold nearL
  rw [getD_map _ _ _ (by omega)]
  have := tmod_bounds (x := zs.getD j 0) (b := bd) (u32_ok hz j).1 hbd.1
  omega
theorem one_len (n : Nat) (A B : Int) (i : Nat) : (oneL n A B i).length = i := by simp [oneL]
theorem ev_len (i : Nat) : (evL i).length = i := by simp [evL]
theorem one_In {bd bs sp : Int} {n : Nat} (hbd : 0 ≤ bd ∧ bd < 4294967296) (hbs : -2147483648 ≤ bs ∧ bs < 2147483648) (hsp : 0 ≤ sp ∧ sp < 4294967296) (i : Nat) : ∀ x ∈ oneL n bs (bs + (bd + 1 + sp)) i, In x := by
  intro x hx
  obtain ⟨j, _, rfl⟩ := List.mem_map.1 hx
  unfold In
  split <;> omega
theorem one_steps {bd bs sp : Int} {n : Nat} (hn : 1 ≤ n) (hn1 : n ≤ 20) (hbd : 0 ≤ bd ∧ bd < 4294967296) (hsp : 0 ≤ sp ∧ sp < 4294967296) :
    stepsOf (n : Int) bd (oneL n bs (bs + (bd + 1 + sp)) (4 * n)) (evL (4 * n)) (min (oneL n bs (bs + (bd + 1 + sp)) (4 * n)).length (evL (4 * n)).length) = once n bs (bs + (bd + 1 + sp)) := by
  rw [one_len, ev_len, Nat.min_self]
  exact steps_once hn hn1 hbd.1 (by omega)
theorem once_V {n : Nat} (hn : 1 ≤ n) (A B : Int) (H : Heap) : allV H (once n A B) = .slice (some ⟨H.n, 0, some 0⟩) n n := by
  unfold allV
  rw [if_neg (once_ne hn A B), once_len]
theorem once_H {n : Nat} (hn : 1 ≤ n) (A B : Int) (H : Heap) : allH H (once n A B) = H.push (stps (once n A B)) := by
  unfold allH
  rw [if_neg (once_ne hn A B)]
--< r6N
theorem r6N (wd : Int) (bd : Int) (bs : Int) (sp : Int) (n : Nat) (i : Nat) (hw : Int.tmod wd 20 + 1 = (↑n : Int)) (hi : n = i + 1) (hwd : 0 ≤ wd ∧ wd < 256) (hn : 1 ≤ n) (hn1 : n ≤ 20) (hbd : 0 ≤ bd ∧ bd < 4294967296) (hbs : -2147483648 ≤ bs ∧ bs < 2147483648) (hsp : 0 ≤ sp ∧ sp < 4294967296) :
    evCall Try.prog 0 (bodied Try.prog) over4 sbs 1000 20 6 [Value.int IntKind.u8 wd, Value.int IntKind.u32 bd, Value.slice none 0 0, Value.int IntKind.i32 bs, Value.int IntKind.u32 sp] { n := 0, objs := [] } = some (Value.bool true, { n := 0, objs := [] }, []) :=
  Dg.evCall_hint (hs' := []) (hs := [Hint.call 8 (Value.bool true) { n := 0, objs := [] } [],
    Hint.val 6 35 (Value.int IntKind.i64 wd),
    Hint.soft 6 36 (Value.int IntKind.i64 ((↑n : Int) - 1)),
    Hint.val 6 37 (Value.int IntKind.i64 (↑n : Int)),
    Hint.val 6 39 (Value.int IntKind.i64 bd),
    Hint.val 6 43 (Value.bool false),
    Hint.call 16 (Value.slice none 0 0) { n := 0, objs := [] } [],
    Hint.val 6 72 (Value.int IntKind.i64 (bd + 1)),
    Hint.val 6 74 (Value.int IntKind.i64 sp),
    Hint.val 6 75 (Value.int IntKind.i64 (bd + 1 + sp)),
    Hint.val 6 77 (Value.int IntKind.i64 (4 * (↑n : Int))),
    Hint.loop 6 (Ex.exit 2) (EBN wd bd bs sp n (↑(4 * n - 1) : Int) (bs + (bd + 1 + sp)) (oneL n bs (bs + (bd + 1 + sp)) (4 * n)) (evL (4 * n))),
    Hint.call 16 (Value.slice (some { block := 2, off := 0, spot := some 0 }) n n) { n := 3, objs := [AObj.cells (tc (once n bs (bs + (bd + 1 + sp)))) 31 5 3, AObj.cells (i64s (evL (4 * n))) 2 5 1, AObj.cells (i64s (oneL n bs (bs + (bd + 1 + sp)) (4 * n))) 2 5 1] } [],
    Hint.loop 6 (Ex.exit 4) (ECN wd bd bs sp n (↑(4 * n - 1) : Int) (bs + (bd + 1 + sp)) (oneL n bs (bs + (bd + 1 + sp)) (4 * n)) (evL (4 * n)) bs (bs + (bd + 1 + sp)) i),
    Hint.val 6 165 (Value.bool true)])
    [evCall Try.prog 0 (bodied Try.prog) over4 sbs 1000 19 8 [] { n := 0, objs := [] } = some (Value.bool true, { n := 0, objs := [] }, []),
    Value.int IntKind.i64 (IntKind.wrap IntKind.i64 wd) = Value.int IntKind.i64 wd,
    (20 : Int) ≠ (0 : Int),
    Value.int IntKind.i64 (Int.tmod wd (20 : Int)) = Value.int IntKind.i64 ((↑n : Int) - (1 : Int)),
    Value.int IntKind.i64 (IntKind.wrap IntKind.i64 ((1 : Int) + ((↑n : Int) - (1 : Int)))) = Value.int IntKind.i64 (↑n : Int),
    Value.int IntKind.i64 (IntKind.wrap IntKind.i64 bd) = Value.int IntKind.i64 bd,
    Value.bool false = Value.bool false,
    evCall Try.prog 0 (bodied Try.prog) over4 sbs 1000 19 16 [Value.int IntKind.i64 (↑n : Int), Value.int IntKind.i64 bd, Value.slice none 0 0, Value.slice none 0 0] { n := 0, objs := [] } = some (Value.slice none 0 0, { n := 0, objs := [] }, []),
    Value.int IntKind.i64 (IntKind.wrap IntKind.i64 (bd + (1 : Int))) = Value.int IntKind.i64 (bd + (1 : Int)),
    Value.int IntKind.i64 (IntKind.wrap IntKind.i64 sp) = Value.int IntKind.i64 sp,
    Value.int IntKind.i64 (IntKind.wrap IntKind.i64 (bd + (1 : Int) + sp)) = Value.int IntKind.i64 (bd + (1 : Int) + sp),
    Value.int IntKind.i64 (IntKind.wrap IntKind.i64 ((4 : Int) * (↑n : Int))) = Value.int IntKind.i64 ((4 : Int) * (↑n : Int)),
    evLoop (run6 0 lB) (cl6 0 lB) 1000 { ts := [Value.int IntKind.u8 wd, Value.int IntKind.u32 bd, Value.slice none 0 0, Value.int IntKind.i32 bs, Value.int IntKind.u32 sp, undef, undef, undef, undef, undef, Value.bool false, Value.int IntKind.i64 (↑n : Int), Value.int IntKind.i64 bd, Value.slice none 0 0, Value.slice none 0 0, undef, undef, Value.slice none 0 0, Value.slice none 0 0, Value.int IntKind.i64 (bd + 1 + sp), undef, undef, undef, undef, undef, undef, junk, junk, junk, junk, junk, junk, junk, junk, junk, junk, junk, junk, junk, junk, Value.slice none 0 0, Value.int IntKind.i64 0, Value.int IntKind.i64 0, Value.bool false, junk, junk, junk, junk, junk, junk, junk, junk, junk, junk, junk, junk, junk, junk, junk, junk, junk, junk, junk, junk, Value.int IntKind.i64 (↑n : Int), Value.int IntKind.i64 bd, Value.slice none 0 0, Value.slice none 0 0, Value.slice none 0 0, Value.int IntKind.i64 0, Value.bool false, Value.int IntKind.i64 bd, Value.int IntKind.i64 (bd + 1), Value.int IntKind.u32 sp, Value.int IntKind.i64 sp, Value.int IntKind.i64 (bd + 1 + sp), Value.int IntKind.i64 (↑n : Int), Value.int IntKind.i64 (4 * (↑n : Int)), Value.int IntKind.i64 0, junk, junk, junk, junk, junk, junk, junk, junk, junk, junk, junk, junk, junk, junk, junk, junk, junk, junk, junk, junk, junk, junk, junk, junk, junk, junk, junk, junk, junk, junk, junk, junk, junk, junk, junk, junk, junk, junk, junk, junk, junk, junk, junk, junk, junk, junk, junk, junk, junk, junk, junk, junk, junk, junk, junk, junk, junk, junk, junk, junk, junk, junk, junk, junk, junk, junk, junk, junk, junk, junk, junk, junk, junk, junk, junk, junk, junk, junk, junk, junk, junk, junk, junk, junk, junk, junk, junk, junk], H := { n := 0, objs := [] }, log := [] } = some (Ex.exit 2, EBN wd bd bs sp n (↑(4 * n - 1) : Int) (bs + (bd + 1 + sp)) (oneL n bs (bs + (bd + 1 + sp)) (4 * n)) (evL (4 * n))),
    evCall Try.prog 0 (bodied Try.prog) over4 sbs 1000 19 16 [Value.int IntKind.i64 (↑n : Int), Value.int IntKind.i64 bd, Value.slice (some { block := 0, off := 0, spot := some 0 }) (List.length (oneL n bs (bs + (bd + 1 + sp)) (4 * n))) (List.length (oneL n bs (bs + (bd + 1 + sp)) (4 * n))), Value.slice (some { block := 1, off := 0, spot := some 0 }) (List.length (evL (4 * n))) (List.length (evL (4 * n)))] { n := 2, objs := [AObj.cells (i64s (evL (4 * n))) 2 5 1, AObj.cells (i64s (oneL n bs (bs + (bd + 1 + sp)) (4 * n))) 2 5 1] } = some (Value.slice (some { block := 2, off := 0, spot := some 0 }) n n, { n := 3, objs := [AObj.cells (tc (once n bs (bs + (bd + 1 + sp)))) 31 5 3, AObj.cells (i64s (evL (4 * n))) 2 5 1, AObj.cells (i64s (oneL n bs (bs + (bd + 1 + sp)) (4 * n))) 2 5 1] }, []),
    evLoop (run6 0 lC) (cl6 0 lC) 1000 { ts := [Value.int IntKind.u8 wd, Value.int IntKind.u32 bd, Value.slice none 0 0, Value.int IntKind.i32 bs, Value.int IntKind.u32 sp, undef, undef, undef, undef, undef, Value.bool false, Value.int IntKind.i64 (↑n : Int), Value.int IntKind.i64 bd, Value.slice none 0 0, Value.slice none 0 0, undef, undef, Value.slice (some { block := 0, off := 0, spot := some 0 }) (List.length (oneL n bs (bs + (bd + 1 + sp)) (4 * n))) (List.length (oneL n bs (bs + (bd + 1 + sp)) (4 * n))), Value.slice (some { block := 1, off := 0, spot := some 0 }) (List.length (evL (4 * n))) (List.length (evL (4 * n))), Value.int IntKind.i64 (bd + 1 + sp), Value.int IntKind.i64 (↑(4 * n - 1) : Int), Value.int IntKind.i64 (bs + (bd + 1 + sp)), Value.slice (some { block := 2, off := 0, spot := some 0 }) n n, Value.bool false, undef, undef, junk, junk, junk, junk, junk, junk, junk, junk, junk, junk, junk, junk, junk, junk, junk, junk, junk, junk, junk, junk, junk, junk, junk, junk, junk, junk, junk, junk, junk, junk, junk, junk, junk, junk, junk, junk, junk, junk, junk, junk, junk, junk, junk, junk, junk, junk, junk, junk, junk, junk, junk, Value.int IntKind.i64 (4 * (↑n : Int)), Value.int IntKind.i64 (↑(4 * n) : Int), Value.bool false, junk, junk, junk, junk, junk, junk, junk, junk, junk, junk, junk, junk, junk, junk, junk, junk, junk, junk, Value.int IntKind.i64 (↑n : Int), Value.int IntKind.i64 bd, Value.slice (some { block := 0, off := 0, spot := some 0 }) (List.length (oneL n bs (bs + (bd + 1 + sp)) (4 * n))) (List.length (oneL n bs (bs + (bd + 1 + sp)) (4 * n))), Value.slice (some { block := 1, off := 0, spot := some 0 }) (List.length (evL (4 * n))) (List.length (evL (4 * n))), Value.slice (some { block := 2, off := 0, spot := some 0 }) n n, Value.slice (some { block := 2, off := 0, spot := some 0 }) n n, Value.int IntKind.i64 (↑n : Int), Value.int IntKind.i64 0, junk, junk, junk, junk, junk, junk, junk, junk, junk, junk, junk, junk, junk, junk, junk, junk, junk, junk, junk, junk, junk, junk, junk, junk, junk, junk, junk, junk, junk, junk, junk, junk, junk, junk, junk, junk, junk, junk, junk, junk, junk, junk, junk, junk, junk, junk, junk, junk, junk, junk, junk, junk, junk, junk, junk, junk, junk, junk, junk, junk, junk], H := { n := 3, objs := [AObj.cells (tc (once n bs (bs + (bd + 1 + sp)))) 31 5 3, AObj.cells (i64s (evL (4 * n))) 2 5 1, AObj.cells (i64s (oneL n bs (bs + (bd + 1 + sp)) (4 * n))) 2 5 1] }, log := [] } = some (Ex.exit 4, ECN wd bd bs sp n (↑(4 * n - 1) : Int) (bs + (bd + 1 + sp)) (oneL n bs (bs + (bd + 1 + sp)) (4 * n)) (evL (4 * n)) bs (bs + (bd + 1 + sp)) i),
    Value.bool ((↑n : Int) == (↑n : Int)) = Value.bool true] (by kernel_rfl)
    ⟨Dg.evCall_over (c8 _), Dg.i64_eq rfl (by omega) (by omega), by omega, Dg.int_eq (by omega), Dg.i64_eq (by omega) (by omega) (by omega), Dg.i64_eq rfl (by omega) (by omega), rfl, Dg.evCall_over (c16nn (by omega)), Dg.i64_eq rfl (by omega) (by omega), Dg.i64_eq rfl (by omega) (by omega), Dg.i64_eq rfl (by omega) (by omega), Dg.i64_eq rfl (by omega) (by omega), loopBN wd bd bs sp n  hn hn1 hbd hbs hsp (by kernel_rfl), Dg.evCall_over (c16 (kx := 0) (ky := 1) (cx := (_, some 0)) (cy := (_, some 0)) (e1 := (2, 1, 1)) (e2 := (2, 1, 1)) (by decide) rfl rfl (by omega) (by rw [one_len]; omega) (Nat.le_refl _) (Nat.le_refl _) rfl rfl (one_In hbd hbs hsp _) (by rw [one_steps hn hn1 hbd hsp, once_V hn]; first | done | rfl) (by rw [one_steps hn hn1 hbd hsp, once_H hn]; first | done | rfl)), loopCN wd bd bs sp n  _ _ _ _ _ _ rfl rfl hn hn1 hbd hbs hsp i hi (by kernel_rfl), Dg.vtrue (by omega), trivial⟩
--> r6N
--< r6Z
theorem r6Z (wd : Int) (bd : Int) (bs : Int) (sp : Int) (n : Nat) (i : Nat) (cz : Nat) (ez : Nat) (zs : List Int) (hw : Int.tmod wd 20 + 1 = (↑n : Int)) (hi : n = i + 1) (hwd : 0 ≤ wd ∧ wd < 256) (hn : 1 ≤ n) (hn1 : n ≤ 20) (hbd : 0 ≤ bd ∧ bd < 4294967296) (hbs : -2147483648 ≤ bs ∧ bs < 2147483648) (hsp : 0 ≤ sp ∧ sp < 4294967296) :
    evCall Try.prog 0 (bodied Try.prog) over4 sbs 1000 20 6 [Value.int IntKind.u8 wd, Value.int IntKind.u32 bd, aZ 0 cz, Value.int IntKind.i32 bs, Value.int IntKind.u32 sp] { n := 1, objs := [oZ zs ez] } = some (Value.bool true, { n := 1, objs := [AObj.cells (u32s zs) ez 6 1] }, []) :=
  Dg.evCall_hint (hs' := []) (hs := [Hint.call 8 (Value.bool true) { n := 0, objs := [] } [],
    Hint.val 6 35 (Value.int IntKind.i64 wd),
    Hint.soft 6 36 (Value.int IntKind.i64 ((↑n : Int) - 1)),
    Hint.val 6 37 (Value.int IntKind.i64 (↑n : Int)),
    Hint.val 6 39 (Value.int IntKind.i64 bd),
    Hint.val 6 43 (Value.bool false),
    Hint.call 16 (Value.slice none 0 0) { n := 1, objs := [AObj.cells (u32s zs) ez 6 1] } [],
    Hint.val 6 72 (Value.int IntKind.i64 (bd + 1)),
    Hint.val 6 74 (Value.int IntKind.i64 sp),
    Hint.val 6 75 (Value.int IntKind.i64 (bd + 1 + sp)),
    Hint.val 6 77 (Value.int IntKind.i64 (4 * (↑n : Int))),
    Hint.loop 6 (Ex.exit 2) (EBZ wd bd bs sp n 0 cz ez zs (↑(4 * n - 1) : Int) (bs + (bd + 1 + sp)) (oneL n bs (bs + (bd + 1 + sp)) (4 * n)) (evL (4 * n))),
    Hint.call 16 (Value.slice (some { block := 3, off := 0, spot := some 0 }) n n) { n := 4, objs := [AObj.cells (tc (once n bs (bs + (bd + 1 + sp)))) 31 5 3, AObj.cells (i64s (evL (4 * n))) 2 5 1, AObj.cells (i64s (oneL n bs (bs + (bd + 1 + sp)) (4 * n))) 2 5 1, AObj.cells (u32s zs) ez 6 1] } [],
    Hint.loop 6 (Ex.exit 4) (ECZ wd bd bs sp n 0 cz ez zs (↑(4 * n - 1) : Int) (bs + (bd + 1 + sp)) (oneL n bs (bs + (bd + 1 + sp)) (4 * n)) (evL (4 * n)) bs (bs + (bd + 1 + sp)) i),
    Hint.val 6 165 (Value.bool true)])
    [evCall Try.prog 0 (bodied Try.prog) over4 sbs 1000 19 8 [] { n := 0, objs := [] } = some (Value.bool true, { n := 0, objs := [] }, []),
    Value.int IntKind.i64 (IntKind.wrap IntKind.i64 wd) = Value.int IntKind.i64 wd,
    (20 : Int) ≠ (0 : Int),
    Value.int IntKind.i64 (Int.tmod wd (20 : Int)) = Value.int IntKind.i64 ((↑n : Int) - (1 : Int)),
    Value.int IntKind.i64 (IntKind.wrap IntKind.i64 ((1 : Int) + ((↑n : Int) - (1 : Int)))) = Value.int IntKind.i64 (↑n : Int),
    Value.int IntKind.i64 (IntKind.wrap IntKind.i64 bd) = Value.int IntKind.i64 bd,
    Value.bool false = Value.bool false,
    evCall Try.prog 0 (bodied Try.prog) over4 sbs 1000 19 16 [Value.int IntKind.i64 (↑n : Int), Value.int IntKind.i64 bd, Value.slice none 0 0, Value.slice none 0 0] { n := 1, objs := [AObj.cells (u32s zs) ez 6 1] } = some (Value.slice none 0 0, { n := 1, objs := [AObj.cells (u32s zs) ez 6 1] }, []),
    Value.int IntKind.i64 (IntKind.wrap IntKind.i64 (bd + (1 : Int))) = Value.int IntKind.i64 (bd + (1 : Int)),
    Value.int IntKind.i64 (IntKind.wrap IntKind.i64 sp) = Value.int IntKind.i64 sp,
    Value.int IntKind.i64 (IntKind.wrap IntKind.i64 (bd + (1 : Int) + sp)) = Value.int IntKind.i64 (bd + (1 : Int) + sp),
    Value.int IntKind.i64 (IntKind.wrap IntKind.i64 ((4 : Int) * (↑n : Int))) = Value.int IntKind.i64 ((4 : Int) * (↑n : Int)),
    evLoop (run6 1 lB) (cl6 1 lB) 1000 { ts := [Value.int IntKind.u8 wd, Value.int IntKind.u32 bd, Value.slice (some { block := 0, off := 0 }) 0 cz, Value.int IntKind.i32 bs, Value.int IntKind.u32 sp, undef, undef, undef, undef, undef, Value.bool false, Value.int IntKind.i64 (↑n : Int), Value.int IntKind.i64 bd, Value.slice none 0 0, Value.slice none 0 0, undef, undef, Value.slice none 0 0, Value.slice none 0 0, Value.int IntKind.i64 (bd + 1 + sp), undef, undef, undef, undef, undef, undef, junk, junk, junk, junk, junk, junk, junk, junk, junk, junk, junk, junk, junk, junk, Value.slice (some { block := 0, off := 0 }) 0 cz, Value.int IntKind.i64 0, Value.int IntKind.i64 0, Value.bool false, junk, junk, junk, junk, junk, junk, junk, junk, junk, junk, junk, junk, junk, junk, junk, junk, junk, junk, junk, junk, Value.int IntKind.i64 (↑n : Int), Value.int IntKind.i64 bd, Value.slice none 0 0, Value.slice none 0 0, Value.slice none 0 0, Value.int IntKind.i64 0, Value.bool false, Value.int IntKind.i64 bd, Value.int IntKind.i64 (bd + 1), Value.int IntKind.u32 sp, Value.int IntKind.i64 sp, Value.int IntKind.i64 (bd + 1 + sp), Value.int IntKind.i64 (↑n : Int), Value.int IntKind.i64 (4 * (↑n : Int)), Value.int IntKind.i64 0, junk, junk, junk, junk, junk, junk, junk, junk, junk, junk, junk, junk, junk, junk, junk, junk, junk, junk, junk, junk, junk, junk, junk, junk, junk, junk, junk, junk, junk, junk, junk, junk, junk, junk, junk, junk, junk, junk, junk, junk, junk, junk, junk, junk, junk, junk, junk, junk, junk, junk, junk, junk, junk, junk, junk, junk, junk, junk, junk, junk, junk, junk, junk, junk, junk, junk, junk, junk, junk, junk, junk, junk, junk, junk, junk, junk, junk, junk, junk, junk, junk, junk, junk, junk, junk, junk, junk, junk], H := { n := 1, objs := [AObj.cells (u32s zs) ez 6 1] }, log := [] } = some (Ex.exit 2, EBZ wd bd bs sp n 0 cz ez zs (↑(4 * n - 1) : Int) (bs + (bd + 1 + sp)) (oneL n bs (bs + (bd + 1 + sp)) (4 * n)) (evL (4 * n))),
    evCall Try.prog 0 (bodied Try.prog) over4 sbs 1000 19 16 [Value.int IntKind.i64 (↑n : Int), Value.int IntKind.i64 bd, Value.slice (some { block := 1, off := 0, spot := some 0 }) (List.length (oneL n bs (bs + (bd + 1 + sp)) (4 * n))) (List.length (oneL n bs (bs + (bd + 1 + sp)) (4 * n))), Value.slice (some { block := 2, off := 0, spot := some 0 }) (List.length (evL (4 * n))) (List.length (evL (4 * n)))] { n := 3, objs := [AObj.cells (i64s (evL (4 * n))) 2 5 1, AObj.cells (i64s (oneL n bs (bs + (bd + 1 + sp)) (4 * n))) 2 5 1, AObj.cells (u32s zs) ez 6 1] } = some (Value.slice (some { block := 3, off := 0, spot := some 0 }) n n, { n := 4, objs := [AObj.cells (tc (once n bs (bs + (bd + 1 + sp)))) 31 5 3, AObj.cells (i64s (evL (4 * n))) 2 5 1, AObj.cells (i64s (oneL n bs (bs + (bd + 1 + sp)) (4 * n))) 2 5 1, AObj.cells (u32s zs) ez 6 1] }, []),
    evLoop (run6 1 lC) (cl6 1 lC) 1000 { ts := [Value.int IntKind.u8 wd, Value.int IntKind.u32 bd, Value.slice (some { block := 0, off := 0 }) 0 cz, Value.int IntKind.i32 bs, Value.int IntKind.u32 sp, undef, undef, undef, undef, undef, Value.bool false, Value.int IntKind.i64 (↑n : Int), Value.int IntKind.i64 bd, Value.slice none 0 0, Value.slice none 0 0, undef, undef, Value.slice (some { block := 1, off := 0, spot := some 0 }) (List.length (oneL n bs (bs + (bd + 1 + sp)) (4 * n))) (List.length (oneL n bs (bs + (bd + 1 + sp)) (4 * n))), Value.slice (some { block := 2, off := 0, spot := some 0 }) (List.length (evL (4 * n))) (List.length (evL (4 * n))), Value.int IntKind.i64 (bd + 1 + sp), Value.int IntKind.i64 (↑(4 * n - 1) : Int), Value.int IntKind.i64 (bs + (bd + 1 + sp)), Value.slice (some { block := 3, off := 0, spot := some 0 }) n n, Value.bool false, undef, undef, junk, junk, junk, junk, junk, junk, junk, junk, junk, junk, junk, junk, junk, junk, junk, junk, junk, junk, junk, junk, junk, junk, junk, junk, junk, junk, junk, junk, junk, junk, junk, junk, junk, junk, junk, junk, junk, junk, junk, junk, junk, junk, junk, junk, junk, junk, junk, junk, junk, junk, junk, Value.int IntKind.i64 (4 * (↑n : Int)), Value.int IntKind.i64 (↑(4 * n) : Int), Value.bool false, junk, junk, junk, junk, junk, junk, junk, junk, junk, junk, junk, junk, junk, junk, junk, junk, junk, junk, Value.int IntKind.i64 (↑n : Int), Value.int IntKind.i64 bd, Value.slice (some { block := 1, off := 0, spot := some 0 }) (List.length (oneL n bs (bs + (bd + 1 + sp)) (4 * n))) (List.length (oneL n bs (bs + (bd + 1 + sp)) (4 * n))), Value.slice (some { block := 2, off := 0, spot := some 0 }) (List.length (evL (4 * n))) (List.length (evL (4 * n))), Value.slice (some { block := 3, off := 0, spot := some 0 }) n n, Value.slice (some { block := 3, off := 0, spot := some 0 }) n n, Value.int IntKind.i64 (↑n : Int), Value.int IntKind.i64 0, junk, junk, junk, junk, junk, junk, junk, junk, junk, junk, junk, junk, junk, junk, junk, junk, junk, junk, junk, junk, junk, junk, junk, junk, junk, junk, junk, junk, junk, junk, junk, junk, junk, junk, junk, junk, junk, junk, junk, junk, junk, junk, junk, junk, junk, junk, junk, junk, junk, junk, junk, junk, junk, junk, junk, junk, junk, junk, junk, junk, junk], H := { n := 4, objs := [AObj.cells (tc (once n bs (bs + (bd + 1 + sp)))) 31 5 3, AObj.cells (i64s (evL (4 * n))) 2 5 1, AObj.cells (i64s (oneL n bs (bs + (bd + 1 + sp)) (4 * n))) 2 5 1, AObj.cells (u32s zs) ez 6 1] }, log := [] } = some (Ex.exit 4, ECZ wd bd bs sp n 0 cz ez zs (↑(4 * n - 1) : Int) (bs + (bd + 1 + sp)) (oneL n bs (bs + (bd + 1 + sp)) (4 * n)) (evL (4 * n)) bs (bs + (bd + 1 + sp)) i),
    Value.bool ((↑n : Int) == (↑n : Int)) = Value.bool true] (by kernel_rfl)
    ⟨Dg.evCall_over (c8 _), Dg.i64_eq rfl (by omega) (by omega), by omega, Dg.int_eq (by omega), Dg.i64_eq (by omega) (by omega) (by omega), Dg.i64_eq rfl (by omega) (by omega), rfl, Dg.evCall_over (c16nn (by omega)), Dg.i64_eq rfl (by omega) (by omega), Dg.i64_eq rfl (by omega) (by omega), Dg.i64_eq rfl (by omega) (by omega), Dg.i64_eq rfl (by omega) (by omega), loopBZ wd bd bs sp n 0 cz ez zs hn hn1 hbd hbs hsp (by kernel_rfl), Dg.evCall_over (c16 (kx := 1) (ky := 2) (cx := (_, some 0)) (cy := (_, some 0)) (e1 := (2, 1, 1)) (e2 := (2, 1, 1)) (by decide) rfl rfl (by omega) (by rw [one_len]; omega) (Nat.le_refl _) (Nat.le_refl _) rfl rfl (one_In hbd hbs hsp _) (by rw [one_steps hn hn1 hbd hsp, once_V hn]; first | done | rfl) (by rw [one_steps hn hn1 hbd hsp, once_H hn]; first | done | rfl)), loopCZ wd bd bs sp n 0 cz ez zs _ _ _ _ _ _ rfl rfl hn hn1 hbd hbs hsp i hi (by kernel_rfl), Dg.vtrue (by omega), trivial⟩
--> r6Z
--< r6F
theorem r6F (wd : Int) (bd : Int) (bs : Int) (sp : Int) (n : Nat) (i : Nat) (cz : Nat) (ez : Nat) (m : Nat) (zs : List Int) (hm : m < 200) (hcz : m + 1 ≤ cz) (hzl : List.length zs = cz) (hz : ∀ (z : Int), z ∈ zs → 0 ≤ z ∧ z < 4294967296) (hw : Int.tmod wd 20 + 1 = (↑n : Int)) (hi : n = i + 1) (hwd : 0 ≤ wd ∧ wd < 256) (hn : 1 ≤ n) (hn1 : n ≤ 20) (hbd : 0 ≤ bd ∧ bd < 4294967296) (hbs : -2147483648 ≤ bs ∧ bs < 2147483648) (hsp : 0 ≤ sp ∧ sp < 4294967296) :
    evCall Try.prog 0 (bodied Try.prog) over4 sbs 1000 20 6 [Value.int IntKind.u8 wd, Value.int IntKind.u32 bd, aZ (m + 1) cz, Value.int IntKind.i32 bs, Value.int IntKind.u32 sp] { n := 1, objs := [oZ zs ez] } = some (Value.bool true, { n := 1, objs := [AObj.cells (u32s zs) ez 6 1] }, []) :=
  Dg.evCall_hint (hs' := []) (hs := [Hint.val 6 28 (Value.bool false),
    Hint.call 8 (Value.bool true) { n := 0, objs := [] } [],
    Hint.val 6 35 (Value.int IntKind.i64 wd),
    Hint.soft 6 36 (Value.int IntKind.i64 ((↑n : Int) - 1)),
    Hint.val 6 37 (Value.int IntKind.i64 (↑n : Int)),
    Hint.val 6 39 (Value.int IntKind.i64 bd),
    Hint.loop 6 (Ex.exit 0) (EA wd bd bs sp (m + 1) cz ez n zs m),
    Hint.call 16 (Value.slice none 0 0) { n := 3, objs := [AObj.cells (i64s (delL zs (m + 1))) 2 5 1, AObj.cells (i64s (nearL bd bs zs (m + 1))) 2 5 1, AObj.cells (u32s zs) ez 6 1] } [],
    Hint.val 6 72 (Value.int IntKind.i64 (bd + 1)),
    Hint.val 6 74 (Value.int IntKind.i64 sp),
    Hint.val 6 75 (Value.int IntKind.i64 (bd + 1 + sp)),
    Hint.val 6 77 (Value.int IntKind.i64 (4 * (↑n : Int))),
    Hint.loop 6 (Ex.exit 2) (EBF wd bd bs sp n (m + 1) cz ez zs (List.getD zs m 0) (nearL bd bs zs (m + 1)) (delL zs (m + 1)) (↑(4 * n - 1) : Int) (bs + (bd + 1 + sp)) (oneL n bs (bs + (bd + 1 + sp)) (4 * n)) (evL (4 * n))),
    Hint.call 16 (Value.slice (some { block := 5, off := 0, spot := some 0 }) n n) { n := 6, objs := [AObj.cells (tc (once n bs (bs + (bd + 1 + sp)))) 31 5 3, AObj.cells (i64s (evL (4 * n))) 2 5 1, AObj.cells (i64s (oneL n bs (bs + (bd + 1 + sp)) (4 * n))) 2 5 1, AObj.cells (i64s (delL zs (m + 1))) 2 5 1, AObj.cells (i64s (nearL bd bs zs (m + 1))) 2 5 1, AObj.cells (u32s zs) ez 6 1] } [],
    Hint.loop 6 (Ex.exit 4) (ECF wd bd bs sp n (m + 1) cz ez zs (List.getD zs m 0) (nearL bd bs zs (m + 1)) (delL zs (m + 1)) (↑(4 * n - 1) : Int) (bs + (bd + 1 + sp)) (oneL n bs (bs + (bd + 1 + sp)) (4 * n)) (evL (4 * n)) bs (bs + (bd + 1 + sp)) i),
    Hint.val 6 165 (Value.bool true)])
    [Value.bool (decide ((↑(m + (1 : Nat)) : Int) > (200 : Int))) = Value.bool false,
    evCall Try.prog 0 (bodied Try.prog) over4 sbs 1000 19 8 [] { n := 0, objs := [] } = some (Value.bool true, { n := 0, objs := [] }, []),
    Value.int IntKind.i64 (IntKind.wrap IntKind.i64 wd) = Value.int IntKind.i64 wd,
    (20 : Int) ≠ (0 : Int),
    Value.int IntKind.i64 (Int.tmod wd (20 : Int)) = Value.int IntKind.i64 ((↑n : Int) - (1 : Int)),
    Value.int IntKind.i64 (IntKind.wrap IntKind.i64 ((1 : Int) + ((↑n : Int) - (1 : Int)))) = Value.int IntKind.i64 (↑n : Int),
    Value.int IntKind.i64 (IntKind.wrap IntKind.i64 bd) = Value.int IntKind.i64 bd,
    evLoop (run6 1 lA) (cl6 1 lA) 1000 { ts := [Value.int IntKind.u8 wd, Value.int IntKind.u32 bd, Value.slice (some { block := 0, off := 0 }) (m + 1) cz, Value.int IntKind.i32 bs, Value.int IntKind.u32 sp, undef, undef, undef, undef, undef, Value.bool false, Value.int IntKind.i64 (↑n : Int), Value.int IntKind.i64 bd, Value.slice none 0 0, Value.slice none 0 0, undef, undef, undef, undef, undef, undef, undef, undef, undef, undef, undef, Value.slice (some { block := 0, off := 0 }) (m + 1) cz, Value.int IntKind.i64 (↑(m + 1) : Int), Value.bool false, Value.bool false, Value.bool true, Value.bool false, Value.bool false, undef, Value.int IntKind.u8 wd, Value.int IntKind.i64 wd, Value.int IntKind.i64 ((↑n : Int) - 1), Value.int IntKind.i64 (↑n : Int), Value.int IntKind.u32 bd, Value.int IntKind.i64 bd, Value.slice (some { block := 0, off := 0 }) (m + 1) cz, Value.int IntKind.i64 (↑(m + 1) : Int), Value.int IntKind.i64 0, undef, undef, undef, undef, undef, undef, undef, undef, undef, undef, undef, undef, undef, undef, undef, undef, undef, undef, undef, undef, undef, undef, undef, undef, undef, undef, undef, undef, undef, undef, undef, undef, undef, undef, undef, undef, undef, undef, undef, undef, undef, undef, undef, undef, undef, undef, undef, undef, undef, undef, undef, undef, undef, undef, undef, undef, undef, undef, undef, undef, undef, undef, undef, undef, undef, undef, undef, undef, undef, undef, undef, undef, undef, undef, undef, undef, undef, undef, undef, undef, undef, undef, undef, undef, undef, undef, undef, undef, undef, undef, undef, undef, undef, undef, undef, undef, undef, undef, undef, undef, undef, undef, undef, undef, undef, undef, undef, undef, undef, undef, undef, undef, undef, undef, undef, undef, undef, undef, undef, undef, undef, undef, undef, undef], H := { n := 1, objs := [AObj.cells (u32s zs) ez 6 1] }, log := [] } = some (Ex.exit 0, EA wd bd bs sp (m + 1) cz ez n zs m),
    evCall Try.prog 0 (bodied Try.prog) over4 sbs 1000 19 16 [Value.int IntKind.i64 (↑n : Int), Value.int IntKind.i64 bd, Value.slice (some { block := 1, off := 0, spot := some 0 }) (List.length (nearL bd bs zs (m + 1))) (List.length (nearL bd bs zs (m + 1))), Value.slice (some { block := 2, off := 0, spot := some 0 }) (List.length (delL zs (m + 1))) (List.length (delL zs (m + 1)))] { n := 3, objs := [AObj.cells (i64s (delL zs (m + 1))) 2 5 1, AObj.cells (i64s (nearL bd bs zs (m + 1))) 2 5 1, AObj.cells (u32s zs) ez 6 1] } = some (Value.slice none 0 0, { n := 3, objs := [AObj.cells (i64s (delL zs (m + 1))) 2 5 1, AObj.cells (i64s (nearL bd bs zs (m + 1))) 2 5 1, AObj.cells (u32s zs) ez 6 1] }, []),
    Value.int IntKind.i64 (IntKind.wrap IntKind.i64 (bd + (1 : Int))) = Value.int IntKind.i64 (bd + (1 : Int)),
    Value.int IntKind.i64 (IntKind.wrap IntKind.i64 sp) = Value.int IntKind.i64 sp,
    Value.int IntKind.i64 (IntKind.wrap IntKind.i64 (bd + (1 : Int) + sp)) = Value.int IntKind.i64 (bd + (1 : Int) + sp),
    Value.int IntKind.i64 (IntKind.wrap IntKind.i64 ((4 : Int) * (↑n : Int))) = Value.int IntKind.i64 ((4 : Int) * (↑n : Int)),
    evLoop (run6 1 lB) (cl6 1 lB) 1000 { ts := [Value.int IntKind.u8 wd, Value.int IntKind.u32 bd, Value.slice (some { block := 0, off := 0 }) (m + 1) cz, Value.int IntKind.i32 bs, Value.int IntKind.u32 sp, undef, undef, undef, undef, undef, Value.bool false, Value.int IntKind.i64 (↑n : Int), Value.int IntKind.i64 bd, Value.slice (some { block := 1, off := 0, spot := some 0 }) (List.length (nearL bd bs zs (m + 1))) (List.length (nearL bd bs zs (m + 1))), Value.slice (some { block := 2, off := 0, spot := some 0 }) (List.length (delL zs (m + 1))) (List.length (delL zs (m + 1))), undef, Value.int IntKind.u32 (List.getD zs m 0), Value.slice none 0 0, Value.slice none 0 0, Value.int IntKind.i64 (bd + 1 + sp), undef, undef, undef, undef, undef, undef, junk, junk, junk, junk, junk, junk, junk, junk, junk, junk, junk, junk, junk, junk, Value.slice (some { block := 0, off := 0 }) (m + 1) cz, Value.int IntKind.i64 (↑(m + 1) : Int), Value.int IntKind.i64 (↑(m + 1) : Int), Value.bool false, junk, junk, junk, junk, junk, junk, junk, junk, junk, junk, junk, junk, junk, junk, junk, junk, junk, junk, junk, junk, Value.int IntKind.i64 (↑n : Int), Value.int IntKind.i64 bd, Value.slice (some { block := 1, off := 0, spot := some 0 }) (List.length (nearL bd bs zs (m + 1))) (List.length (nearL bd bs zs (m + 1))), Value.slice (some { block := 2, off := 0, spot := some 0 }) (List.length (delL zs (m + 1))) (List.length (delL zs (m + 1))), Value.slice none 0 0, Value.int IntKind.i64 0, Value.bool false, Value.int IntKind.i64 bd, Value.int IntKind.i64 (bd + 1), Value.int IntKind.u32 sp, Value.int IntKind.i64 sp, Value.int IntKind.i64 (bd + 1 + sp), Value.int IntKind.i64 (↑n : Int), Value.int IntKind.i64 (4 * (↑n : Int)), Value.int IntKind.i64 0, junk, junk, junk, junk, junk, junk, junk, junk, junk, junk, junk, junk, junk, junk, junk, junk, junk, junk, junk, junk, junk, junk, junk, junk, junk, junk, junk, junk, junk, junk, junk, junk, junk, junk, junk, junk, junk, junk, junk, junk, junk, junk, junk, junk, junk, junk, junk, junk, junk, junk, junk, junk, junk, junk, junk, junk, junk, junk, junk, junk, junk, junk, junk, junk, junk, junk, junk, junk, junk, junk, junk, junk, junk, junk, junk, junk, junk, junk, junk, junk, junk, junk, junk, junk, junk, junk, junk, junk], H := { n := 3, objs := [AObj.cells (i64s (delL zs (m + 1))) 2 5 1, AObj.cells (i64s (nearL bd bs zs (m + 1))) 2 5 1, AObj.cells (u32s zs) ez 6 1] }, log := [] } = some (Ex.exit 2, EBF wd bd bs sp n (m + 1) cz ez zs (List.getD zs m 0) (nearL bd bs zs (m + 1)) (delL zs (m + 1)) (↑(4 * n - 1) : Int) (bs + (bd + 1 + sp)) (oneL n bs (bs + (bd + 1 + sp)) (4 * n)) (evL (4 * n))),
    evCall Try.prog 0 (bodied Try.prog) over4 sbs 1000 19 16 [Value.int IntKind.i64 (↑n : Int), Value.int IntKind.i64 bd, Value.slice (some { block := 3, off := 0, spot := some 0 }) (List.length (oneL n bs (bs + (bd + 1 + sp)) (4 * n))) (List.length (oneL n bs (bs + (bd + 1 + sp)) (4 * n))), Value.slice (some { block := 4, off := 0, spot := some 0 }) (List.length (evL (4 * n))) (List.length (evL (4 * n)))] { n := 5, objs := [AObj.cells (i64s (evL (4 * n))) 2 5 1, AObj.cells (i64s (oneL n bs (bs + (bd + 1 + sp)) (4 * n))) 2 5 1, AObj.cells (i64s (delL zs (m + 1))) 2 5 1, AObj.cells (i64s (nearL bd bs zs (m + 1))) 2 5 1, AObj.cells (u32s zs) ez 6 1] } = some (Value.slice (some { block := 5, off := 0, spot := some 0 }) n n, { n := 6, objs := [AObj.cells (tc (once n bs (bs + (bd + 1 + sp)))) 31 5 3, AObj.cells (i64s (evL (4 * n))) 2 5 1, AObj.cells (i64s (oneL n bs (bs + (bd + 1 + sp)) (4 * n))) 2 5 1, AObj.cells (i64s (delL zs (m + 1))) 2 5 1, AObj.cells (i64s (nearL bd bs zs (m + 1))) 2 5 1, AObj.cells (u32s zs) ez 6 1] }, []),
    evLoop (run6 1 lC) (cl6 1 lC) 1000 { ts := [Value.int IntKind.u8 wd, Value.int IntKind.u32 bd, Value.slice (some { block := 0, off := 0 }) (m + 1) cz, Value.int IntKind.i32 bs, Value.int IntKind.u32 sp, undef, undef, undef, undef, undef, Value.bool false, Value.int IntKind.i64 (↑n : Int), Value.int IntKind.i64 bd, Value.slice (some { block := 1, off := 0, spot := some 0 }) (List.length (nearL bd bs zs (m + 1))) (List.length (nearL bd bs zs (m + 1))), Value.slice (some { block := 2, off := 0, spot := some 0 }) (List.length (delL zs (m + 1))) (List.length (delL zs (m + 1))), undef, Value.int IntKind.u32 (List.getD zs m 0), Value.slice (some { block := 3, off := 0, spot := some 0 }) (List.length (oneL n bs (bs + (bd + 1 + sp)) (4 * n))) (List.length (oneL n bs (bs + (bd + 1 + sp)) (4 * n))), Value.slice (some { block := 4, off := 0, spot := some 0 }) (List.length (evL (4 * n))) (List.length (evL (4 * n))), Value.int IntKind.i64 (bd + 1 + sp), Value.int IntKind.i64 (↑(4 * n - 1) : Int), Value.int IntKind.i64 (bs + (bd + 1 + sp)), Value.slice (some { block := 5, off := 0, spot := some 0 }) n n, Value.bool false, undef, undef, junk, junk, junk, junk, junk, junk, junk, junk, junk, junk, junk, junk, junk, junk, junk, junk, junk, junk, junk, junk, junk, junk, junk, junk, junk, junk, junk, junk, junk, junk, junk, junk, junk, junk, junk, junk, junk, junk, junk, junk, junk, junk, junk, junk, junk, junk, junk, junk, junk, junk, junk, Value.int IntKind.i64 (4 * (↑n : Int)), Value.int IntKind.i64 (↑(4 * n) : Int), Value.bool false, junk, junk, junk, junk, junk, junk, junk, junk, junk, junk, junk, junk, junk, junk, junk, junk, junk, junk, Value.int IntKind.i64 (↑n : Int), Value.int IntKind.i64 bd, Value.slice (some { block := 3, off := 0, spot := some 0 }) (List.length (oneL n bs (bs + (bd + 1 + sp)) (4 * n))) (List.length (oneL n bs (bs + (bd + 1 + sp)) (4 * n))), Value.slice (some { block := 4, off := 0, spot := some 0 }) (List.length (evL (4 * n))) (List.length (evL (4 * n))), Value.slice (some { block := 5, off := 0, spot := some 0 }) n n, Value.slice (some { block := 5, off := 0, spot := some 0 }) n n, Value.int IntKind.i64 (↑n : Int), Value.int IntKind.i64 0, junk, junk, junk, junk, junk, junk, junk, junk, junk, junk, junk, junk, junk, junk, junk, junk, junk, junk, junk, junk, junk, junk, junk, junk, junk, junk, junk, junk, junk, junk, junk, junk, junk, junk, junk, junk, junk, junk, junk, junk, junk, junk, junk, junk, junk, junk, junk, junk, junk, junk, junk, junk, junk, junk, junk, junk, junk, junk, junk, junk, junk], H := { n := 6, objs := [AObj.cells (tc (once n bs (bs + (bd + 1 + sp)))) 31 5 3, AObj.cells (i64s (evL (4 * n))) 2 5 1, AObj.cells (i64s (oneL n bs (bs + (bd + 1 + sp)) (4 * n))) 2 5 1, AObj.cells (i64s (delL zs (m + 1))) 2 5 1, AObj.cells (i64s (nearL bd bs zs (m + 1))) 2 5 1, AObj.cells (u32s zs) ez 6 1] }, log := [] } = some (Ex.exit 4, ECF wd bd bs sp n (m + 1) cz ez zs (List.getD zs m 0) (nearL bd bs zs (m + 1)) (delL zs (m + 1)) (↑(4 * n - 1) : Int) (bs + (bd + 1 + sp)) (oneL n bs (bs + (bd + 1 + sp)) (4 * n)) (evL (4 * n)) bs (bs + (bd + 1 + sp)) i),
    Value.bool ((↑n : Int) == (↑n : Int)) = Value.bool true] (by kernel_rfl)
    ⟨Dg.vfalse (by omega), Dg.evCall_over (c8 _), Dg.i64_eq rfl (by omega) (by omega), by omega, Dg.int_eq (by omega), Dg.i64_eq (by omega) (by omega) (by omega), Dg.i64_eq rfl (by omega) (by omega), loopA wd bd bs sp (m + 1) cz ez n zs m rfl (by omega) hcz hzl hbd hbs hz (by kernel_rfl), Dg.evCall_over (c16 (kx := 1) (ky := 2) (cx := (_, some 0)) (cy := (_, some 0)) (e1 := (2, 1, 1)) (e2 := (2, 1, 1)) (by decide) rfl rfl (by omega) (by rw [nearL_len]; omega) (Nat.le_refl _) (Nat.le_refl _) rfl rfl (near_In hbd hbs hz _) (by rw [near_none hn hbd hz]; rfl) (by rw [near_none hn hbd hz]; rfl)), Dg.i64_eq rfl (by omega) (by omega), Dg.i64_eq rfl (by omega) (by omega), Dg.i64_eq rfl (by omega) (by omega), Dg.i64_eq rfl (by omega) (by omega), loopBF wd bd bs sp n (m + 1) cz ez zs (zs.getD m 0) (nearL bd bs zs (m + 1)) (delL zs (m + 1)) hn hn1 hbd hbs hsp (by kernel_rfl), Dg.evCall_over (c16 (kx := 3) (ky := 4) (cx := (_, some 0)) (cy := (_, some 0)) (e1 := (2, 1, 1)) (e2 := (2, 1, 1)) (by decide) rfl rfl (by omega) (by rw [one_len]; omega) (Nat.le_refl _) (Nat.le_refl _) rfl rfl (one_In hbd hbs hsp _) (by rw [one_steps hn hn1 hbd hsp, once_V hn]; first | done | rfl) (by rw [one_steps hn hn1 hbd hsp, once_H hn]; first | done | rfl)), loopCF wd bd bs sp n (m + 1) cz ez zs (zs.getD m 0) (nearL bd bs zs (m + 1)) (delL zs (m + 1)) _ _ _ _ _ _ rfl rfl hn hn1 hbd hbs hsp i hi (by kernel_rfl), Dg.vtrue (by omega), trivial⟩
--> r6F
--< r6M
theorem r6M (wd : Int) (bd : Int) (bs : Int) (sp : Int) (lz : Nat) (cz : Nat) (ez : Nat) (zs : List Int) (h : 200 < lz) :
    evCall Try.prog 0 (bodied Try.prog) over4 sbs 1000 20 6 [Value.int IntKind.u8 wd, Value.int IntKind.u32 bd, aZ lz cz, Value.int IntKind.i32 bs, Value.int IntKind.u32 sp] { n := 1, objs := [oZ zs ez] } = some (Value.bool true, { n := 1, objs := [AObj.cells (u32s zs) ez 6 1] }, []) :=
  Dg.evCall_hint (hs' := []) (hs := [Hint.val 6 28 (Value.bool true),
    Hint.call 8 (Value.bool true) { n := 0, objs := [] } []])
    [Value.bool (decide ((↑lz : Int) > (200 : Int))) = Value.bool true,
    evCall Try.prog 0 (bodied Try.prog) over4 sbs 1000 19 8 [] { n := 0, objs := [] } = some (Value.bool true, { n := 0, objs := [] }, [])] (by kernel_rfl)
    ⟨Dg.vtrue (by omega), Dg.evCall_over (c8 _), trivial⟩
--> r6M
end Go.Proofs.Ytafhlmpifdclaaa.shift
