/- More rounds of the law 'ShiftStill' of layer 34. -/
import Derived.Test.YtafhlmpifdclaaaRows
import Derived.Test.YtafhlmpifdclaaaShift6a
namespace Go.Proofs.Ytafhlmpifdclaaa.shift
open Go.Dg (junk St Ex Ev Hint evCall evCallS evCode evCodeS evLoop cleanSt ue bodied noOver sbOf headOf tailOf bodyOf rAssign rBody lBody Flats flatOver Heap AObj SCall Law ofLaw Fix)
set_option linter.unusedVariables false
set_option linter.unusedSimpArgs false

section
variable (wd bd bs sp : Int) (n : Nat)
def TB (az near del x l even i20 x21 : Value) (i : Nat) : List Value := P6 wd bd bs sp n az near del x ++ ([l, even, .int .i64 (bd + 1 + sp), i20, x21] ++ (List.replicate 4 undef ++ (js 51 ++ ([.int .i64 (4 * (n : Int)), .int .i64 i] ++ js 88))))
def TC (az near del x l even i20 x21 got told s : Value) (i : Nat) : List Value := P6 wd bd bs sp n az near del x ++ ([l, even, .int .i64 (bd + 1 + sp), i20, x21, got, told, undef, s] ++ (js 77 ++ ([got, .int .i64 n, .int .i64 i] ++ js 61)))
end
def slI (k : Nat) (zs : List Int) : Value := .slice (some ⟨k, 0, some 0⟩) zs.length zs.length
/-- The steps of a clock that steps once. -/
def once (n : Nat) (A B : Int) : List (Int × Int × Int) := (List.range n).map fun j => (((2 * n + j : Nat) : Int), A, B)
theorem once_len (n : Nat) (A B : Int) : (once n A B).length = n := by simp [once]
theorem once_get (n : Nat) (A B : Int) (i : Nat) (h : i < n) : (once n A B).getD i (0, 0, 0) = (((2 * n + i : Nat) : Int), A, B) := by
  simp [once, List.getD_eq_getElem?_getD, h]
theorem once_load (n : Nat) (A B : Int) (i o : Nat) (h : i < n) (ho : o = i * 3) : ((tc (once n A B)).drop o).take 3 = [.int .u64 ((2 * n + i : Nat) : Int), .int .i64 A, .int .i64 B] := by
  subst ho
  rw [(tc_load (once n A B) i (by rw [once_len]; exact h)).2, once_get n A B i h]
theorem once_room (n : Nat) (A B : Int) (i o : Nat) (h : i < n) (ho : o = i * 3) : o + 3 ≤ (tc (once n A B)).length := by
  subst ho
  exact (tc_load (once n A B) i (by rw [once_len]; exact h)).1
def BN0 (wd bd bs sp : Int) (n : Nat)  : St := ⟨TB wd bd bs sp n (.slice none 0 0) (.slice none 0 0) (.slice none 0 0) undef (.slice none 0 0) (.slice none 0 0) undef undef 0, ⟨0, []⟩, []⟩
def BN1 (wd bd bs sp : Int) (n : Nat)  (i : Nat) (j x : Int) (ls es : List Int) : St := ⟨TB wd bd bs sp n (.slice none 0 0) (.slice none 0 0) (.slice none 0 0) undef (slI 0 ls) (slI 1 es) (.int .i64 j) (.int .i64 x) i, ⟨2, [rowI es, rowI ls]⟩, []⟩
def CN0 (wd bd bs sp : Int) (n : Nat)  (j x : Int) (ls es : List Int) (A B : Int) : St := ⟨TC wd bd bs sp n (.slice none 0 0) (.slice none 0 0) (.slice none 0 0) undef (slI 0 ls) (slI 1 es) (.int .i64 j) (.int .i64 x) (.slice (some ⟨2, 0, some 0⟩) n n) (.bool false) undef 0, ⟨3, [stps (once n A B), rowI es, rowI ls]⟩, []⟩
def CN1 (wd bd bs sp : Int) (n : Nat)  (j x : Int) (ls es : List Int) (A B : Int) (i : Nat) : St := ⟨TC wd bd bs sp n (.slice none 0 0) (.slice none 0 0) (.slice none 0 0) undef (slI 0 ls) (slI 1 es) (.int .i64 j) (.int .i64 x) (.slice (some ⟨2, 0, some 0⟩) n n) (.bool true) (.pointer (some ⟨3, 0, none⟩)) (i + 1), ⟨4, [.cells [.int .u64 ((2 * n + i : Nat) : Int), .int .i64 A, .int .i64 B] 31 4 1, stps (once n A B), rowI es, rowI ls]⟩, []⟩
def BZ0 (wd bd bs sp : Int) (n : Nat) (lz cz ez : Nat) (zs : List Int) : St := ⟨TB wd bd bs sp n (aZ lz cz) (.slice none 0 0) (.slice none 0 0) undef (.slice none 0 0) (.slice none 0 0) undef undef 0, ⟨1, [oZ zs ez]⟩, []⟩
def BZ1 (wd bd bs sp : Int) (n : Nat) (lz cz ez : Nat) (zs : List Int) (i : Nat) (j x : Int) (ls es : List Int) : St := ⟨TB wd bd bs sp n (aZ lz cz) (.slice none 0 0) (.slice none 0 0) undef (slI 1 ls) (slI 2 es) (.int .i64 j) (.int .i64 x) i, ⟨3, [rowI es, rowI ls, oZ zs ez]⟩, []⟩
def CZ0 (wd bd bs sp : Int) (n : Nat) (lz cz ez : Nat) (zs : List Int) (j x : Int) (ls es : List Int) (A B : Int) : St := ⟨TC wd bd bs sp n (aZ lz cz) (.slice none 0 0) (.slice none 0 0) undef (slI 1 ls) (slI 2 es) (.int .i64 j) (.int .i64 x) (.slice (some ⟨3, 0, some 0⟩) n n) (.bool false) undef 0, ⟨4, [stps (once n A B), rowI es, rowI ls, oZ zs ez]⟩, []⟩
def CZ1 (wd bd bs sp : Int) (n : Nat) (lz cz ez : Nat) (zs : List Int) (j x : Int) (ls es : List Int) (A B : Int) (i : Nat) : St := ⟨TC wd bd bs sp n (aZ lz cz) (.slice none 0 0) (.slice none 0 0) undef (slI 1 ls) (slI 2 es) (.int .i64 j) (.int .i64 x) (.slice (some ⟨3, 0, some 0⟩) n n) (.bool true) (.pointer (some ⟨4, 0, none⟩)) (i + 1), ⟨5, [.cells [.int .u64 ((2 * n + i : Nat) : Int), .int .i64 A, .int .i64 B] 31 4 1, stps (once n A B), rowI es, rowI ls, oZ zs ez]⟩, []⟩
def BF0 (wd bd bs sp : Int) (n : Nat) (lz cz ez : Nat) (zs : List Int) (v : Int) (ns ds : List Int) : St := ⟨TB wd bd bs sp n (aZ lz cz) (slI 1 ns) (slI 2 ds) (.int .u32 v) (.slice none 0 0) (.slice none 0 0) undef undef 0, ⟨3, [rowI ds, rowI ns, oZ zs ez]⟩, []⟩
def BF1 (wd bd bs sp : Int) (n : Nat) (lz cz ez : Nat) (zs : List Int) (v : Int) (ns ds : List Int) (i : Nat) (j x : Int) (ls es : List Int) : St := ⟨TB wd bd bs sp n (aZ lz cz) (slI 1 ns) (slI 2 ds) (.int .u32 v) (slI 3 ls) (slI 4 es) (.int .i64 j) (.int .i64 x) i, ⟨5, [rowI es, rowI ls, rowI ds, rowI ns, oZ zs ez]⟩, []⟩
def CF0 (wd bd bs sp : Int) (n : Nat) (lz cz ez : Nat) (zs : List Int) (v : Int) (ns ds : List Int) (j x : Int) (ls es : List Int) (A B : Int) : St := ⟨TC wd bd bs sp n (aZ lz cz) (slI 1 ns) (slI 2 ds) (.int .u32 v) (slI 3 ls) (slI 4 es) (.int .i64 j) (.int .i64 x) (.slice (some ⟨5, 0, some 0⟩) n n) (.bool false) undef 0, ⟨6, [stps (once n A B), rowI es, rowI ls, rowI ds, rowI ns, oZ zs ez]⟩, []⟩
def CF1 (wd bd bs sp : Int) (n : Nat) (lz cz ez : Nat) (zs : List Int) (v : Int) (ns ds : List Int) (j x : Int) (ls es : List Int) (A B : Int) (i : Nat) : St := ⟨TC wd bd bs sp n (aZ lz cz) (slI 1 ns) (slI 2 ds) (.int .u32 v) (slI 3 ls) (slI 4 es) (.int .i64 j) (.int .i64 x) (.slice (some ⟨5, 0, some 0⟩) n n) (.bool true) (.pointer (some ⟨6, 0, none⟩)) (i + 1), ⟨7, [.cells [.int .u64 ((2 * n + i : Nat) : Int), .int .i64 A, .int .i64 B] 31 4 1, stps (once n A B), rowI es, rowI ls, rowI ds, rowI ns, oZ zs ez]⟩, []⟩
--< r6bN0
theorem r6bN0 (wd : Int) (bd : Int) (bs : Int) (sp : Int) (n : Nat) (hn : 1 ≤ n) (hn1 : n ≤ 20) (hbd : 0 ≤ bd ∧ bd < 4294967296) (hbs : -2147483648 ≤ bs ∧ bs < 2147483648) (hsp : 0 ≤ sp ∧ sp < 4294967296) :
    ∃ s', run6 0 lB (BN0 wd bd bs sp n) = some (Ex.normal, s') ∧ (cl6 0 lB) s' = BN1 wd bd bs sp n 1 0 bs [bs] [5] :=
  Dg.code_round (f := 6) (cl6 0 lB) (hs := [Hint.val 6 79 (Value.bool true),
    Hint.val 6 82 (Value.int IntKind.i64 bs),
    Hint.val 6 85 (Value.int IntKind.i64 (2 * (↑n : Int))),
    Hint.val 6 86 (Value.bool false)])
    [Value.bool (decide ((↑(0 : Nat) : Int) < (4 : Int) * (↑n : Int))) = Value.bool true,
    Value.int IntKind.i64 (IntKind.wrap IntKind.i64 bs) = Value.int IntKind.i64 bs,
    Value.int IntKind.i64 (IntKind.wrap IntKind.i64 ((2 : Int) * (↑n : Int))) = Value.int IntKind.i64 ((2 : Int) * (↑n : Int)),
    Value.bool (decide ((0 : Int) ≥ (2 : Int) * (↑n : Int))) = Value.bool false] (by kernel_rfl)
    ⟨Dg.vtrue (by omega), Dg.i64_eq rfl (by omega) (by omega), Dg.i64_eq rfl (by omega) (by omega), Dg.vfalse (by omega), trivial⟩
--> r6bN0
--< r6bN1
theorem r6bN1 (wd : Int) (bd : Int) (bs : Int) (sp : Int) (n : Nat) (i : Nat) (j : Int) (x : Int) (ls : List Int) (es : List Int) (hl : List.length ls = i) (he : List.length es = i) (hi : i < 2 * n) (hn : 1 ≤ n) (hn1 : n ≤ 20) (hbd : 0 ≤ bd ∧ bd < 4294967296) (hbs : -2147483648 ≤ bs ∧ bs < 2147483648) (hsp : 0 ≤ sp ∧ sp < 4294967296) :
    ∃ s', run6 0 lB (BN1 wd bd bs sp n i j x ls es) = some (Ex.normal, s') ∧ (cl6 0 lB) s' = BN1 wd bd bs sp n (i + 1) (↑i : Int) bs (ls ++ [bs]) (es ++ [5]) :=
  Dg.code_round (f := 6) (cl6 0 lB) (hs := [Hint.val 6 79 (Value.bool true),
    Hint.val 6 82 (Value.int IntKind.i64 bs),
    Hint.val 6 85 (Value.int IntKind.i64 (2 * (↑n : Int))),
    Hint.val 6 86 (Value.bool false),
    Hint.softH 6 93 (Value.slice (some { block := 3, off := 0, spot := some 0 }) (List.length (ls ++ [bs])) (List.length (ls ++ [bs]))) { n := 4, objs := [AObj.cells (i64s (ls ++ [bs])) 2 5 1, AObj.cells [Value.int IntKind.i64 bs] 2 0 1, AObj.cells (i64s es) 2 5 1, AObj.dead] } [0],
    Hint.softH 6 96 (Value.slice (some { block := 5, off := 0, spot := some 0 }) (List.length (es ++ [5])) (List.length (es ++ [5]))) { n := 6, objs := [AObj.cells (i64s (es ++ [5])) 2 5 1, AObj.cells [Value.int IntKind.i64 5] 2 0 1, AObj.cells (i64s (ls ++ [bs])) 2 5 1, AObj.cells [Value.int IntKind.i64 bs] 2 0 1, AObj.dead, AObj.dead] } [1],
    Hint.val 6 97 (Value.int IntKind.i64 ((↑i : Int) + 1))])
    [Value.bool (decide ((↑i : Int) < (4 : Int) * (↑n : Int))) = Value.bool true,
    Value.int IntKind.i64 (IntKind.wrap IntKind.i64 bs) = Value.int IntKind.i64 bs,
    Value.int IntKind.i64 (IntKind.wrap IntKind.i64 ((2 : Int) * (↑n : Int))) = Value.int IntKind.i64 ((2 : Int) * (↑n : Int)),
    Value.bool (decide ((↑i : Int) ≥ (2 : Int) * (↑n : Int))) = Value.bool false,
    Dg.evAppend Try.prog { n := (3 : Nat), objs := [AObj.cells [Value.int IntKind.i64 bs] (2 : Nat) (0 : Nat) (1 : Nat), AObj.cells (i64s es) (2 : Nat) (5 : Nat) (1 : Nat), AObj.cells (i64s ls) (2 : Nat) (5 : Nat) (1 : Nat)] } (22 : Nat) (22 : Nat) (Value.slice (some { block := (0 : Nat), off := (0 : Nat), spot := some (0 : Nat) }) (List.length ls) (List.length ls)) (Value.slice (some { block := (2 : Nat), off := (0 : Nat) }) (1 : Nat) (1 : Nat)) = some (Value.slice (some { block := (3 : Nat), off := (0 : Nat), spot := some (0 : Nat) }) (List.length (ls ++ [bs])) (List.length (ls ++ [bs])), { n := (4 : Nat), objs := [AObj.cells (i64s (ls ++ [bs])) (2 : Nat) (5 : Nat) (1 : Nat), AObj.cells [Value.int IntKind.i64 bs] (2 : Nat) (0 : Nat) (1 : Nat), AObj.cells (i64s es) (2 : Nat) (5 : Nat) (1 : Nat), AObj.dead] }, [(0 : Nat)]),
    Dg.evAppend Try.prog { n := (5 : Nat), objs := [AObj.cells [Value.int IntKind.i64 (5 : Int)] (2 : Nat) (0 : Nat) (1 : Nat), AObj.cells (i64s (ls ++ [bs])) (2 : Nat) (5 : Nat) (1 : Nat), AObj.cells [Value.int IntKind.i64 bs] (2 : Nat) (0 : Nat) (1 : Nat), AObj.cells (i64s es) (2 : Nat) (5 : Nat) (1 : Nat), AObj.dead] } (22 : Nat) (22 : Nat) (Value.slice (some { block := (1 : Nat), off := (0 : Nat), spot := some (0 : Nat) }) (List.length es) (List.length es)) (Value.slice (some { block := (4 : Nat), off := (0 : Nat) }) (1 : Nat) (1 : Nat)) = some (Value.slice (some { block := (5 : Nat), off := (0 : Nat), spot := some (0 : Nat) }) (List.length (es ++ [(5 : Int)])) (List.length (es ++ [(5 : Int)])), { n := (6 : Nat), objs := [AObj.cells (i64s (es ++ [(5 : Int)])) (2 : Nat) (5 : Nat) (1 : Nat), AObj.cells [Value.int IntKind.i64 (5 : Int)] (2 : Nat) (0 : Nat) (1 : Nat), AObj.cells (i64s (ls ++ [bs])) (2 : Nat) (5 : Nat) (1 : Nat), AObj.cells [Value.int IntKind.i64 bs] (2 : Nat) (0 : Nat) (1 : Nat), AObj.dead, AObj.dead] }, [(1 : Nat)]),
    Value.int IntKind.i64 (IntKind.wrap IntKind.i64 ((↑i : Int) + (1 : Int))) = Value.int IntKind.i64 ((↑i : Int) + (1 : Int))] (by kernel_rfl)
    ⟨Dg.vtrue (by omega), Dg.i64_eq rfl (by omega) (by omega), Dg.i64_eq rfl (by omega) (by omega), Dg.vfalse (by omega), app22 (os := ls) (x := bs) rfl rfl rfl (by omega) (by simp) rfl rfl, app22 (os := es) (x := 5) rfl rfl rfl (by omega) (by simp) rfl rfl, Dg.i64_eq rfl (by omega) (by omega), trivial⟩
--> r6bN1
--< r6bN2
theorem r6bN2 (wd : Int) (bd : Int) (bs : Int) (sp : Int) (n : Nat) (i : Nat) (j : Int) (x : Int) (ls : List Int) (es : List Int) (hl : List.length ls = i) (he : List.length es = i) (hi : 2 * n ≤ i) (hi2 : i < 4 * n) (hn : 1 ≤ n) (hn1 : n ≤ 20) (hbd : 0 ≤ bd ∧ bd < 4294967296) (hbs : -2147483648 ≤ bs ∧ bs < 2147483648) (hsp : 0 ≤ sp ∧ sp < 4294967296) :
    ∃ s', run6 0 lB (BN1 wd bd bs sp n i j x ls es) = some (Ex.normal, s') ∧ (cl6 0 lB) s' = BN1 wd bd bs sp n (i + 1) (↑i : Int) (bs + (bd + 1 + sp)) (ls ++ [bs + (bd + 1 + sp)]) (es ++ [5]) :=
  Dg.code_round (f := 6) (cl6 0 lB) (hs := [Hint.val 6 79 (Value.bool true),
    Hint.val 6 82 (Value.int IntKind.i64 bs),
    Hint.val 6 85 (Value.int IntKind.i64 (2 * (↑n : Int))),
    Hint.val 6 86 (Value.bool true),
    Hint.val 6 89 (Value.int IntKind.i64 (bs + (bd + 1 + sp))),
    Hint.softH 6 93 (Value.slice (some { block := 3, off := 0, spot := some 0 }) (List.length (ls ++ [bs + (bd + 1 + sp)])) (List.length (ls ++ [bs + (bd + 1 + sp)]))) { n := 4, objs := [AObj.cells (i64s (ls ++ [bs + (bd + 1 + sp)])) 2 5 1, AObj.cells [Value.int IntKind.i64 (bs + (bd + 1 + sp))] 2 0 1, AObj.cells (i64s es) 2 5 1, AObj.dead] } [0],
    Hint.softH 6 96 (Value.slice (some { block := 5, off := 0, spot := some 0 }) (List.length (es ++ [5])) (List.length (es ++ [5]))) { n := 6, objs := [AObj.cells (i64s (es ++ [5])) 2 5 1, AObj.cells [Value.int IntKind.i64 5] 2 0 1, AObj.cells (i64s (ls ++ [bs + (bd + 1 + sp)])) 2 5 1, AObj.cells [Value.int IntKind.i64 (bs + (bd + 1 + sp))] 2 0 1, AObj.dead, AObj.dead] } [1],
    Hint.val 6 97 (Value.int IntKind.i64 ((↑i : Int) + 1))])
    [Value.bool (decide ((↑i : Int) < (4 : Int) * (↑n : Int))) = Value.bool true,
    Value.int IntKind.i64 (IntKind.wrap IntKind.i64 bs) = Value.int IntKind.i64 bs,
    Value.int IntKind.i64 (IntKind.wrap IntKind.i64 ((2 : Int) * (↑n : Int))) = Value.int IntKind.i64 ((2 : Int) * (↑n : Int)),
    Value.bool (decide ((↑i : Int) ≥ (2 : Int) * (↑n : Int))) = Value.bool true,
    Value.int IntKind.i64 (IntKind.wrap IntKind.i64 (bs + (bd + (1 : Int) + sp))) = Value.int IntKind.i64 (bs + (bd + (1 : Int) + sp)),
    Dg.evAppend Try.prog { n := (3 : Nat), objs := [AObj.cells [Value.int IntKind.i64 (bs + (bd + (1 : Int) + sp))] (2 : Nat) (0 : Nat) (1 : Nat), AObj.cells (i64s es) (2 : Nat) (5 : Nat) (1 : Nat), AObj.cells (i64s ls) (2 : Nat) (5 : Nat) (1 : Nat)] } (22 : Nat) (22 : Nat) (Value.slice (some { block := (0 : Nat), off := (0 : Nat), spot := some (0 : Nat) }) (List.length ls) (List.length ls)) (Value.slice (some { block := (2 : Nat), off := (0 : Nat) }) (1 : Nat) (1 : Nat)) = some (Value.slice (some { block := (3 : Nat), off := (0 : Nat), spot := some (0 : Nat) }) (List.length (ls ++ [bs + (bd + (1 : Int) + sp)])) (List.length (ls ++ [bs + (bd + (1 : Int) + sp)])), { n := (4 : Nat), objs := [AObj.cells (i64s (ls ++ [bs + (bd + (1 : Int) + sp)])) (2 : Nat) (5 : Nat) (1 : Nat), AObj.cells [Value.int IntKind.i64 (bs + (bd + (1 : Int) + sp))] (2 : Nat) (0 : Nat) (1 : Nat), AObj.cells (i64s es) (2 : Nat) (5 : Nat) (1 : Nat), AObj.dead] }, [(0 : Nat)]),
    Dg.evAppend Try.prog { n := (5 : Nat), objs := [AObj.cells [Value.int IntKind.i64 (5 : Int)] (2 : Nat) (0 : Nat) (1 : Nat), AObj.cells (i64s (ls ++ [bs + (bd + (1 : Int) + sp)])) (2 : Nat) (5 : Nat) (1 : Nat), AObj.cells [Value.int IntKind.i64 (bs + (bd + (1 : Int) + sp))] (2 : Nat) (0 : Nat) (1 : Nat), AObj.cells (i64s es) (2 : Nat) (5 : Nat) (1 : Nat), AObj.dead] } (22 : Nat) (22 : Nat) (Value.slice (some { block := (1 : Nat), off := (0 : Nat), spot := some (0 : Nat) }) (List.length es) (List.length es)) (Value.slice (some { block := (4 : Nat), off := (0 : Nat) }) (1 : Nat) (1 : Nat)) = some (Value.slice (some { block := (5 : Nat), off := (0 : Nat), spot := some (0 : Nat) }) (List.length (es ++ [(5 : Int)])) (List.length (es ++ [(5 : Int)])), { n := (6 : Nat), objs := [AObj.cells (i64s (es ++ [(5 : Int)])) (2 : Nat) (5 : Nat) (1 : Nat), AObj.cells [Value.int IntKind.i64 (5 : Int)] (2 : Nat) (0 : Nat) (1 : Nat), AObj.cells (i64s (ls ++ [bs + (bd + (1 : Int) + sp)])) (2 : Nat) (5 : Nat) (1 : Nat), AObj.cells [Value.int IntKind.i64 (bs + (bd + (1 : Int) + sp))] (2 : Nat) (0 : Nat) (1 : Nat), AObj.dead, AObj.dead] }, [(1 : Nat)]),
    Value.int IntKind.i64 (IntKind.wrap IntKind.i64 ((↑i : Int) + (1 : Int))) = Value.int IntKind.i64 ((↑i : Int) + (1 : Int))] (by kernel_rfl)
    ⟨Dg.vtrue (by omega), Dg.i64_eq rfl (by omega) (by omega), Dg.i64_eq rfl (by omega) (by omega), Dg.vtrue (by omega), Dg.i64_eq rfl (by omega) (by omega), app22 (os := ls) (x := (bs + (bd + 1 + sp))) rfl rfl rfl (by omega) (by simp) rfl rfl, app22 (os := es) (x := 5) rfl rfl rfl (by omega) (by simp) rfl rfl, Dg.i64_eq rfl (by omega) (by omega), trivial⟩
--> r6bN2
--< r6cN0
theorem r6cN0 (wd : Int) (bd : Int) (bs : Int) (sp : Int) (n : Nat) (j : Int) (x : Int) (ls : List Int) (es : List Int) (A : Int) (B : Int) (hA : A = bs) (hB : B = bs + (bd + 1 + sp)) (hn : 1 ≤ n) (hn1 : n ≤ 20) (hbd : 0 ≤ bd ∧ bd < 4294967296) (hbs : -2147483648 ≤ bs ∧ bs < 2147483648) (hsp : 0 ≤ sp ∧ sp < 4294967296) :
    ∃ s', run6 0 lC (CN0 wd bd bs sp n j x ls es A B) = some (Ex.normal, s') ∧ (cl6 0 lC) s' = CN1 wd bd bs sp n j x ls es A B 0 :=
  Dg.code_round (f := 6) (cl6 0 lC) (hs := [Hint.val 6 106 (Value.bool true),
    Hint.soft 6 107 (Value.pointer (some { block := 2, off := 0 * 3 })),
    Hint.soft 6 108 (Value.agg #[Value.int IntKind.u64 (↑(2 * n + 0) : Int), Value.int IntKind.i64 A, Value.int IntKind.i64 B]),
    Hint.val 6 112 (Value.int IntKind.i64 (2 * (↑n : Int))),
    Hint.val 6 113 (Value.int IntKind.u64 (2 * (↑n : Int))),
    Hint.val 6 114 (Value.bool true),
    Hint.val 6 118 (Value.int IntKind.i64 bs),
    Hint.val 6 119 (Value.bool true),
    Hint.val 6 124 (Value.int IntKind.i64 bs),
    Hint.val 6 126 (Value.int IntKind.i64 (bs + (bd + 1 + sp))),
    Hint.val 6 127 (Value.bool true),
    Hint.val 6 132 (Value.int IntKind.i64 bs),
    Hint.val 6 133 (Value.bool false),
    Hint.val 6 138 (Value.int IntKind.i64 bs),
    Hint.val 6 140 (Value.int IntKind.i64 (bs + (bd + 1 + sp))),
    Hint.val 6 141 (Value.bool false),
    Hint.val 6 147 (Value.int IntKind.i64 (2 * (↑n : Int))),
    Hint.val 6 148 (Value.int IntKind.u64 (2 * (↑n : Int))),
    Hint.val 6 149 (Value.bool false),
    Hint.val 6 155 (Value.int IntKind.i64 (3 * (↑n : Int))),
    Hint.val 6 156 (Value.int IntKind.u64 (3 * (↑n : Int))),
    Hint.val 6 157 (Value.bool false)])
    [Value.bool (decide ((↑(0 : Nat) : Int) < (↑n : Int))) = Value.bool true,
    (0 : Int) ≤ (↑(0 : Nat) : Int) ∧ (↑(0 : Nat) : Int) < (↑n : Int),
    Value.pointer (some { block := (2 : Nat), off := (0 : Nat) }) = Value.pointer (some { block := (2 : Nat), off := (0 : Nat) }),
    (0 : Nat) * (3 : Nat) + Try.prog.types[(31 : Nat)].size ≤ List.length (tc (once n A B)),
    List.take Try.prog.types[(31 : Nat)].size (List.drop ((0 : Nat) * (3 : Nat)) (tc (once n A B))) = [Value.int IntKind.u64 (↑((2 : Nat) * n + (0 : Nat)) : Int), Value.int IntKind.i64 A, Value.int IntKind.i64 B],
    Value.int IntKind.i64 (IntKind.wrap IntKind.i64 ((2 : Int) * (↑n : Int))) = Value.int IntKind.i64 ((2 : Int) * (↑n : Int)),
    Value.int IntKind.u64 (IntKind.wrap IntKind.u64 ((2 : Int) * (↑n : Int))) = Value.int IntKind.u64 ((2 : Int) * (↑n : Int)),
    Value.bool ((↑((2 : Nat) * n + (0 : Nat)) : Int) == (2 : Int) * (↑n : Int)) = Value.bool true,
    Value.int IntKind.i64 (IntKind.wrap IntKind.i64 bs) = Value.int IntKind.i64 bs,
    Value.bool (A == bs) = Value.bool true,
    Value.int IntKind.i64 (IntKind.wrap IntKind.i64 bs) = Value.int IntKind.i64 bs,
    Value.int IntKind.i64 (IntKind.wrap IntKind.i64 (bs + (bd + (1 : Int) + sp))) = Value.int IntKind.i64 (bs + (bd + (1 : Int) + sp)),
    Value.bool (B == bs + (bd + (1 : Int) + sp)) = Value.bool true,
    Value.int IntKind.i64 (IntKind.wrap IntKind.i64 bs) = Value.int IntKind.i64 bs,
    Value.bool (A != bs) = Value.bool false,
    Value.int IntKind.i64 (IntKind.wrap IntKind.i64 bs) = Value.int IntKind.i64 bs,
    Value.int IntKind.i64 (IntKind.wrap IntKind.i64 (bs + (bd + (1 : Int) + sp))) = Value.int IntKind.i64 (bs + (bd + (1 : Int) + sp)),
    Value.bool (B != bs + (bd + (1 : Int) + sp)) = Value.bool false,
    Value.int IntKind.i64 (IntKind.wrap IntKind.i64 ((2 : Int) * (↑n : Int))) = Value.int IntKind.i64 ((2 : Int) * (↑n : Int)),
    Value.int IntKind.u64 (IntKind.wrap IntKind.u64 ((2 : Int) * (↑n : Int))) = Value.int IntKind.u64 ((2 : Int) * (↑n : Int)),
    Value.bool (decide ((↑((2 : Nat) * n + (0 : Nat)) : Int) < (2 : Int) * (↑n : Int))) = Value.bool false,
    Value.int IntKind.i64 (IntKind.wrap IntKind.i64 ((3 : Int) * (↑n : Int))) = Value.int IntKind.i64 ((3 : Int) * (↑n : Int)),
    Value.int IntKind.u64 (IntKind.wrap IntKind.u64 ((3 : Int) * (↑n : Int))) = Value.int IntKind.u64 ((3 : Int) * (↑n : Int)),
    Value.bool (decide ((↑((2 : Nat) * n + (0 : Nat)) : Int) ≥ (3 : Int) * (↑n : Int))) = Value.bool false] (by kernel_rfl)
    ⟨Dg.vtrue (by omega), by omega, rfl, once_room n A B 0 _ (by omega) rfl, once_load n A B 0 _ (by omega) rfl, Dg.i64_eq rfl (by omega) (by omega), Dg.u64_eq rfl (by omega) (by omega), Dg.vtrue (by omega), Dg.i64_eq rfl (by omega) (by omega), Dg.vtrue (by omega), Dg.i64_eq rfl (by omega) (by omega), Dg.i64_eq rfl (by omega) (by omega), Dg.vtrue (by omega), Dg.i64_eq rfl (by omega) (by omega), by simp; omega, Dg.i64_eq rfl (by omega) (by omega), Dg.i64_eq rfl (by omega) (by omega), by simp; omega, Dg.i64_eq rfl (by omega) (by omega), Dg.u64_eq rfl (by omega) (by omega), Dg.vfalse (by omega), Dg.i64_eq rfl (by omega) (by omega), Dg.u64_eq rfl (by omega) (by omega), Dg.vfalse (by omega), trivial⟩
--> r6cN0
--< r6cN1
theorem r6cN1 (wd : Int) (bd : Int) (bs : Int) (sp : Int) (n : Nat) (j : Int) (x : Int) (ls : List Int) (es : List Int) (A : Int) (B : Int) (hA : A = bs) (hB : B = bs + (bd + 1 + sp)) (i : Nat) (hi : i + 1 < n) (hn : 1 ≤ n) (hn1 : n ≤ 20) (hbd : 0 ≤ bd ∧ bd < 4294967296) (hbs : -2147483648 ≤ bs ∧ bs < 2147483648) (hsp : 0 ≤ sp ∧ sp < 4294967296) :
    ∃ s', run6 0 lC (CN1 wd bd bs sp n j x ls es A B i) = some (Ex.normal, s') ∧ (cl6 0 lC) s' = CN1 wd bd bs sp n j x ls es A B (i + 1) :=
  Dg.code_round (f := 6) (cl6 0 lC) (hs := [Hint.val 6 106 (Value.bool true),
    Hint.soft 6 107 (Value.pointer (some { block := 2, off := (i + 1) * 3 })),
    Hint.soft 6 108 (Value.agg #[Value.int IntKind.u64 (↑(2 * n + (i + 1)) : Int), Value.int IntKind.i64 A, Value.int IntKind.i64 B]),
    Hint.val 6 112 (Value.int IntKind.i64 (2 * (↑n : Int))),
    Hint.val 6 113 (Value.int IntKind.u64 (2 * (↑n : Int))),
    Hint.val 6 114 (Value.bool false),
    Hint.val 6 132 (Value.int IntKind.i64 bs),
    Hint.val 6 133 (Value.bool false),
    Hint.val 6 138 (Value.int IntKind.i64 bs),
    Hint.val 6 140 (Value.int IntKind.i64 (bs + (bd + 1 + sp))),
    Hint.val 6 141 (Value.bool false),
    Hint.val 6 147 (Value.int IntKind.i64 (2 * (↑n : Int))),
    Hint.val 6 148 (Value.int IntKind.u64 (2 * (↑n : Int))),
    Hint.val 6 149 (Value.bool false),
    Hint.val 6 155 (Value.int IntKind.i64 (3 * (↑n : Int))),
    Hint.val 6 156 (Value.int IntKind.u64 (3 * (↑n : Int))),
    Hint.val 6 157 (Value.bool false),
    Hint.val 6 159 (Value.int IntKind.i64 ((↑(i + 1) : Int) + 1))])
    [Value.bool (decide ((↑(i + (1 : Nat)) : Int) < (↑n : Int))) = Value.bool true,
    (0 : Int) ≤ (↑(i + (1 : Nat)) : Int) ∧ (↑(i + (1 : Nat)) : Int) < (↑n : Int),
    Value.pointer (some { block := (2 : Nat), off := (0 : Nat) + Int.toNat (↑(i + (1 : Nat)) : Int) * (3 : Nat) }) = Value.pointer (some { block := (2 : Nat), off := (i + (1 : Nat)) * (3 : Nat) }),
    (i + (1 : Nat)) * (3 : Nat) + Try.prog.types[(31 : Nat)].size ≤ List.length (tc (once n A B)),
    List.take Try.prog.types[(31 : Nat)].size (List.drop ((i + (1 : Nat)) * (3 : Nat)) (tc (once n A B))) = [Value.int IntKind.u64 (↑((2 : Nat) * n + (i + (1 : Nat))) : Int), Value.int IntKind.i64 A, Value.int IntKind.i64 B],
    Value.int IntKind.i64 (IntKind.wrap IntKind.i64 ((2 : Int) * (↑n : Int))) = Value.int IntKind.i64 ((2 : Int) * (↑n : Int)),
    Value.int IntKind.u64 (IntKind.wrap IntKind.u64 ((2 : Int) * (↑n : Int))) = Value.int IntKind.u64 ((2 : Int) * (↑n : Int)),
    Value.bool ((↑((2 : Nat) * n + (i + (1 : Nat))) : Int) == (2 : Int) * (↑n : Int)) = Value.bool false,
    Value.int IntKind.i64 (IntKind.wrap IntKind.i64 bs) = Value.int IntKind.i64 bs,
    Value.bool (A != bs) = Value.bool false,
    Value.int IntKind.i64 (IntKind.wrap IntKind.i64 bs) = Value.int IntKind.i64 bs,
    Value.int IntKind.i64 (IntKind.wrap IntKind.i64 (bs + (bd + (1 : Int) + sp))) = Value.int IntKind.i64 (bs + (bd + (1 : Int) + sp)),
    Value.bool (B != bs + (bd + (1 : Int) + sp)) = Value.bool false,
    Value.int IntKind.i64 (IntKind.wrap IntKind.i64 ((2 : Int) * (↑n : Int))) = Value.int IntKind.i64 ((2 : Int) * (↑n : Int)),
    Value.int IntKind.u64 (IntKind.wrap IntKind.u64 ((2 : Int) * (↑n : Int))) = Value.int IntKind.u64 ((2 : Int) * (↑n : Int)),
    Value.bool (decide ((↑((2 : Nat) * n + (i + (1 : Nat))) : Int) < (2 : Int) * (↑n : Int))) = Value.bool false,
    Value.int IntKind.i64 (IntKind.wrap IntKind.i64 ((3 : Int) * (↑n : Int))) = Value.int IntKind.i64 ((3 : Int) * (↑n : Int)),
    Value.int IntKind.u64 (IntKind.wrap IntKind.u64 ((3 : Int) * (↑n : Int))) = Value.int IntKind.u64 ((3 : Int) * (↑n : Int)),
    Value.bool (decide ((↑((2 : Nat) * n + (i + (1 : Nat))) : Int) ≥ (3 : Int) * (↑n : Int))) = Value.bool false,
    Value.int IntKind.i64 (IntKind.wrap IntKind.i64 ((↑(i + (1 : Nat)) : Int) + (1 : Int))) = Value.int IntKind.i64 ((↑(i + (1 : Nat)) : Int) + (1 : Int))] (by kernel_rfl)
    ⟨Dg.vtrue (by omega), by omega, Dg.ptr_eq (by omega), once_room n A B (i + 1) _ (by omega) rfl, once_load n A B (i + 1) _ (by omega) rfl, Dg.i64_eq rfl (by omega) (by omega), Dg.u64_eq rfl (by omega) (by omega), Dg.vfalse (by omega), Dg.i64_eq rfl (by omega) (by omega), by simp; omega, Dg.i64_eq rfl (by omega) (by omega), Dg.i64_eq rfl (by omega) (by omega), by simp; omega, Dg.i64_eq rfl (by omega) (by omega), Dg.u64_eq rfl (by omega) (by omega), Dg.vfalse (by omega), Dg.i64_eq rfl (by omega) (by omega), Dg.u64_eq rfl (by omega) (by omega), Dg.vfalse (by omega), Dg.i64_eq rfl (by omega) (by omega), trivial⟩
--> r6cN1
--< r6bZ0
theorem r6bZ0 (wd : Int) (bd : Int) (bs : Int) (sp : Int) (n : Nat) (lz : Nat) (cz : Nat) (ez : Nat) (zs : List Int) (hn : 1 ≤ n) (hn1 : n ≤ 20) (hbd : 0 ≤ bd ∧ bd < 4294967296) (hbs : -2147483648 ≤ bs ∧ bs < 2147483648) (hsp : 0 ≤ sp ∧ sp < 4294967296) :
    ∃ s', run6 1 lB (BZ0 wd bd bs sp n lz cz ez zs) = some (Ex.normal, s') ∧ (cl6 1 lB) s' = BZ1 wd bd bs sp n lz cz ez zs 1 0 bs [bs] [5] :=
  Dg.code_round (f := 6) (cl6 1 lB) (hs := [Hint.val 6 79 (Value.bool true),
    Hint.val 6 82 (Value.int IntKind.i64 bs),
    Hint.val 6 85 (Value.int IntKind.i64 (2 * (↑n : Int))),
    Hint.val 6 86 (Value.bool false)])
    [Value.bool (decide ((↑(0 : Nat) : Int) < (4 : Int) * (↑n : Int))) = Value.bool true,
    Value.int IntKind.i64 (IntKind.wrap IntKind.i64 bs) = Value.int IntKind.i64 bs,
    Value.int IntKind.i64 (IntKind.wrap IntKind.i64 ((2 : Int) * (↑n : Int))) = Value.int IntKind.i64 ((2 : Int) * (↑n : Int)),
    Value.bool (decide ((0 : Int) ≥ (2 : Int) * (↑n : Int))) = Value.bool false] (by kernel_rfl)
    ⟨Dg.vtrue (by omega), Dg.i64_eq rfl (by omega) (by omega), Dg.i64_eq rfl (by omega) (by omega), Dg.vfalse (by omega), trivial⟩
--> r6bZ0
--< r6bZ1
theorem r6bZ1 (wd : Int) (bd : Int) (bs : Int) (sp : Int) (n : Nat) (lz : Nat) (cz : Nat) (ez : Nat) (zs : List Int) (i : Nat) (j : Int) (x : Int) (ls : List Int) (es : List Int) (hl : List.length ls = i) (he : List.length es = i) (hi : i < 2 * n) (hn : 1 ≤ n) (hn1 : n ≤ 20) (hbd : 0 ≤ bd ∧ bd < 4294967296) (hbs : -2147483648 ≤ bs ∧ bs < 2147483648) (hsp : 0 ≤ sp ∧ sp < 4294967296) :
    ∃ s', run6 1 lB (BZ1 wd bd bs sp n lz cz ez zs i j x ls es) = some (Ex.normal, s') ∧ (cl6 1 lB) s' = BZ1 wd bd bs sp n lz cz ez zs (i + 1) (↑i : Int) bs (ls ++ [bs]) (es ++ [5]) :=
  Dg.code_round (f := 6) (cl6 1 lB) (hs := [Hint.val 6 79 (Value.bool true),
    Hint.val 6 82 (Value.int IntKind.i64 bs),
    Hint.val 6 85 (Value.int IntKind.i64 (2 * (↑n : Int))),
    Hint.val 6 86 (Value.bool false),
    Hint.softH 6 93 (Value.slice (some { block := 4, off := 0, spot := some 0 }) (List.length (ls ++ [bs])) (List.length (ls ++ [bs]))) { n := 5, objs := [AObj.cells (i64s (ls ++ [bs])) 2 5 1, AObj.cells [Value.int IntKind.i64 bs] 2 0 1, AObj.cells (i64s es) 2 5 1, AObj.dead, AObj.cells (u32s zs) ez 6 1] } [1],
    Hint.softH 6 96 (Value.slice (some { block := 6, off := 0, spot := some 0 }) (List.length (es ++ [5])) (List.length (es ++ [5]))) { n := 7, objs := [AObj.cells (i64s (es ++ [5])) 2 5 1, AObj.cells [Value.int IntKind.i64 5] 2 0 1, AObj.cells (i64s (ls ++ [bs])) 2 5 1, AObj.cells [Value.int IntKind.i64 bs] 2 0 1, AObj.dead, AObj.dead, AObj.cells (u32s zs) ez 6 1] } [2],
    Hint.val 6 97 (Value.int IntKind.i64 ((↑i : Int) + 1))])
    [Value.bool (decide ((↑i : Int) < (4 : Int) * (↑n : Int))) = Value.bool true,
    Value.int IntKind.i64 (IntKind.wrap IntKind.i64 bs) = Value.int IntKind.i64 bs,
    Value.int IntKind.i64 (IntKind.wrap IntKind.i64 ((2 : Int) * (↑n : Int))) = Value.int IntKind.i64 ((2 : Int) * (↑n : Int)),
    Value.bool (decide ((↑i : Int) ≥ (2 : Int) * (↑n : Int))) = Value.bool false,
    Dg.evAppend Try.prog { n := (4 : Nat), objs := [AObj.cells [Value.int IntKind.i64 bs] (2 : Nat) (0 : Nat) (1 : Nat), AObj.cells (i64s es) (2 : Nat) (5 : Nat) (1 : Nat), AObj.cells (i64s ls) (2 : Nat) (5 : Nat) (1 : Nat), AObj.cells (u32s zs) ez (6 : Nat) (1 : Nat)] } (22 : Nat) (22 : Nat) (Value.slice (some { block := (1 : Nat), off := (0 : Nat), spot := some (0 : Nat) }) (List.length ls) (List.length ls)) (Value.slice (some { block := (3 : Nat), off := (0 : Nat) }) (1 : Nat) (1 : Nat)) = some (Value.slice (some { block := (4 : Nat), off := (0 : Nat), spot := some (0 : Nat) }) (List.length (ls ++ [bs])) (List.length (ls ++ [bs])), { n := (5 : Nat), objs := [AObj.cells (i64s (ls ++ [bs])) (2 : Nat) (5 : Nat) (1 : Nat), AObj.cells [Value.int IntKind.i64 bs] (2 : Nat) (0 : Nat) (1 : Nat), AObj.cells (i64s es) (2 : Nat) (5 : Nat) (1 : Nat), AObj.dead, AObj.cells (u32s zs) ez (6 : Nat) (1 : Nat)] }, [(1 : Nat)]),
    Dg.evAppend Try.prog { n := (6 : Nat), objs := [AObj.cells [Value.int IntKind.i64 (5 : Int)] (2 : Nat) (0 : Nat) (1 : Nat), AObj.cells (i64s (ls ++ [bs])) (2 : Nat) (5 : Nat) (1 : Nat), AObj.cells [Value.int IntKind.i64 bs] (2 : Nat) (0 : Nat) (1 : Nat), AObj.cells (i64s es) (2 : Nat) (5 : Nat) (1 : Nat), AObj.dead, AObj.cells (u32s zs) ez (6 : Nat) (1 : Nat)] } (22 : Nat) (22 : Nat) (Value.slice (some { block := (2 : Nat), off := (0 : Nat), spot := some (0 : Nat) }) (List.length es) (List.length es)) (Value.slice (some { block := (5 : Nat), off := (0 : Nat) }) (1 : Nat) (1 : Nat)) = some (Value.slice (some { block := (6 : Nat), off := (0 : Nat), spot := some (0 : Nat) }) (List.length (es ++ [(5 : Int)])) (List.length (es ++ [(5 : Int)])), { n := (7 : Nat), objs := [AObj.cells (i64s (es ++ [(5 : Int)])) (2 : Nat) (5 : Nat) (1 : Nat), AObj.cells [Value.int IntKind.i64 (5 : Int)] (2 : Nat) (0 : Nat) (1 : Nat), AObj.cells (i64s (ls ++ [bs])) (2 : Nat) (5 : Nat) (1 : Nat), AObj.cells [Value.int IntKind.i64 bs] (2 : Nat) (0 : Nat) (1 : Nat), AObj.dead, AObj.dead, AObj.cells (u32s zs) ez (6 : Nat) (1 : Nat)] }, [(2 : Nat)]),
    Value.int IntKind.i64 (IntKind.wrap IntKind.i64 ((↑i : Int) + (1 : Int))) = Value.int IntKind.i64 ((↑i : Int) + (1 : Int))] (by kernel_rfl)
    ⟨Dg.vtrue (by omega), Dg.i64_eq rfl (by omega) (by omega), Dg.i64_eq rfl (by omega) (by omega), Dg.vfalse (by omega), app22 (os := ls) (x := bs) rfl rfl rfl (by omega) (by simp) rfl rfl, app22 (os := es) (x := 5) rfl rfl rfl (by omega) (by simp) rfl rfl, Dg.i64_eq rfl (by omega) (by omega), trivial⟩
--> r6bZ1
--< r6bZ2
theorem r6bZ2 (wd : Int) (bd : Int) (bs : Int) (sp : Int) (n : Nat) (lz : Nat) (cz : Nat) (ez : Nat) (zs : List Int) (i : Nat) (j : Int) (x : Int) (ls : List Int) (es : List Int) (hl : List.length ls = i) (he : List.length es = i) (hi : 2 * n ≤ i) (hi2 : i < 4 * n) (hn : 1 ≤ n) (hn1 : n ≤ 20) (hbd : 0 ≤ bd ∧ bd < 4294967296) (hbs : -2147483648 ≤ bs ∧ bs < 2147483648) (hsp : 0 ≤ sp ∧ sp < 4294967296) :
    ∃ s', run6 1 lB (BZ1 wd bd bs sp n lz cz ez zs i j x ls es) = some (Ex.normal, s') ∧ (cl6 1 lB) s' = BZ1 wd bd bs sp n lz cz ez zs (i + 1) (↑i : Int) (bs + (bd + 1 + sp)) (ls ++ [bs + (bd + 1 + sp)]) (es ++ [5]) :=
  Dg.code_round (f := 6) (cl6 1 lB) (hs := [Hint.val 6 79 (Value.bool true),
    Hint.val 6 82 (Value.int IntKind.i64 bs),
    Hint.val 6 85 (Value.int IntKind.i64 (2 * (↑n : Int))),
    Hint.val 6 86 (Value.bool true),
    Hint.val 6 89 (Value.int IntKind.i64 (bs + (bd + 1 + sp))),
    Hint.softH 6 93 (Value.slice (some { block := 4, off := 0, spot := some 0 }) (List.length (ls ++ [bs + (bd + 1 + sp)])) (List.length (ls ++ [bs + (bd + 1 + sp)]))) { n := 5, objs := [AObj.cells (i64s (ls ++ [bs + (bd + 1 + sp)])) 2 5 1, AObj.cells [Value.int IntKind.i64 (bs + (bd + 1 + sp))] 2 0 1, AObj.cells (i64s es) 2 5 1, AObj.dead, AObj.cells (u32s zs) ez 6 1] } [1],
    Hint.softH 6 96 (Value.slice (some { block := 6, off := 0, spot := some 0 }) (List.length (es ++ [5])) (List.length (es ++ [5]))) { n := 7, objs := [AObj.cells (i64s (es ++ [5])) 2 5 1, AObj.cells [Value.int IntKind.i64 5] 2 0 1, AObj.cells (i64s (ls ++ [bs + (bd + 1 + sp)])) 2 5 1, AObj.cells [Value.int IntKind.i64 (bs + (bd + 1 + sp))] 2 0 1, AObj.dead, AObj.dead, AObj.cells (u32s zs) ez 6 1] } [2],
    Hint.val 6 97 (Value.int IntKind.i64 ((↑i : Int) + 1))])
    [Value.bool (decide ((↑i : Int) < (4 : Int) * (↑n : Int))) = Value.bool true,
    Value.int IntKind.i64 (IntKind.wrap IntKind.i64 bs) = Value.int IntKind.i64 bs,
    Value.int IntKind.i64 (IntKind.wrap IntKind.i64 ((2 : Int) * (↑n : Int))) = Value.int IntKind.i64 ((2 : Int) * (↑n : Int)),
    Value.bool (decide ((↑i : Int) ≥ (2 : Int) * (↑n : Int))) = Value.bool true,
    Value.int IntKind.i64 (IntKind.wrap IntKind.i64 (bs + (bd + (1 : Int) + sp))) = Value.int IntKind.i64 (bs + (bd + (1 : Int) + sp)),
    Dg.evAppend Try.prog { n := (4 : Nat), objs := [AObj.cells [Value.int IntKind.i64 (bs + (bd + (1 : Int) + sp))] (2 : Nat) (0 : Nat) (1 : Nat), AObj.cells (i64s es) (2 : Nat) (5 : Nat) (1 : Nat), AObj.cells (i64s ls) (2 : Nat) (5 : Nat) (1 : Nat), AObj.cells (u32s zs) ez (6 : Nat) (1 : Nat)] } (22 : Nat) (22 : Nat) (Value.slice (some { block := (1 : Nat), off := (0 : Nat), spot := some (0 : Nat) }) (List.length ls) (List.length ls)) (Value.slice (some { block := (3 : Nat), off := (0 : Nat) }) (1 : Nat) (1 : Nat)) = some (Value.slice (some { block := (4 : Nat), off := (0 : Nat), spot := some (0 : Nat) }) (List.length (ls ++ [bs + (bd + (1 : Int) + sp)])) (List.length (ls ++ [bs + (bd + (1 : Int) + sp)])), { n := (5 : Nat), objs := [AObj.cells (i64s (ls ++ [bs + (bd + (1 : Int) + sp)])) (2 : Nat) (5 : Nat) (1 : Nat), AObj.cells [Value.int IntKind.i64 (bs + (bd + (1 : Int) + sp))] (2 : Nat) (0 : Nat) (1 : Nat), AObj.cells (i64s es) (2 : Nat) (5 : Nat) (1 : Nat), AObj.dead, AObj.cells (u32s zs) ez (6 : Nat) (1 : Nat)] }, [(1 : Nat)]),
    Dg.evAppend Try.prog { n := (6 : Nat), objs := [AObj.cells [Value.int IntKind.i64 (5 : Int)] (2 : Nat) (0 : Nat) (1 : Nat), AObj.cells (i64s (ls ++ [bs + (bd + (1 : Int) + sp)])) (2 : Nat) (5 : Nat) (1 : Nat), AObj.cells [Value.int IntKind.i64 (bs + (bd + (1 : Int) + sp))] (2 : Nat) (0 : Nat) (1 : Nat), AObj.cells (i64s es) (2 : Nat) (5 : Nat) (1 : Nat), AObj.dead, AObj.cells (u32s zs) ez (6 : Nat) (1 : Nat)] } (22 : Nat) (22 : Nat) (Value.slice (some { block := (2 : Nat), off := (0 : Nat), spot := some (0 : Nat) }) (List.length es) (List.length es)) (Value.slice (some { block := (5 : Nat), off := (0 : Nat) }) (1 : Nat) (1 : Nat)) = some (Value.slice (some { block := (6 : Nat), off := (0 : Nat), spot := some (0 : Nat) }) (List.length (es ++ [(5 : Int)])) (List.length (es ++ [(5 : Int)])), { n := (7 : Nat), objs := [AObj.cells (i64s (es ++ [(5 : Int)])) (2 : Nat) (5 : Nat) (1 : Nat), AObj.cells [Value.int IntKind.i64 (5 : Int)] (2 : Nat) (0 : Nat) (1 : Nat), AObj.cells (i64s (ls ++ [bs + (bd + (1 : Int) + sp)])) (2 : Nat) (5 : Nat) (1 : Nat), AObj.cells [Value.int IntKind.i64 (bs + (bd + (1 : Int) + sp))] (2 : Nat) (0 : Nat) (1 : Nat), AObj.dead, AObj.dead, AObj.cells (u32s zs) ez (6 : Nat) (1 : Nat)] }, [(2 : Nat)]),
    Value.int IntKind.i64 (IntKind.wrap IntKind.i64 ((↑i : Int) + (1 : Int))) = Value.int IntKind.i64 ((↑i : Int) + (1 : Int))] (by kernel_rfl)
    ⟨Dg.vtrue (by omega), Dg.i64_eq rfl (by omega) (by omega), Dg.i64_eq rfl (by omega) (by omega), Dg.vtrue (by omega), Dg.i64_eq rfl (by omega) (by omega), app22 (os := ls) (x := (bs + (bd + 1 + sp))) rfl rfl rfl (by omega) (by simp) rfl rfl, app22 (os := es) (x := 5) rfl rfl rfl (by omega) (by simp) rfl rfl, Dg.i64_eq rfl (by omega) (by omega), trivial⟩
--> r6bZ2
--< r6cZ0
theorem r6cZ0 (wd : Int) (bd : Int) (bs : Int) (sp : Int) (n : Nat) (lz : Nat) (cz : Nat) (ez : Nat) (zs : List Int) (j : Int) (x : Int) (ls : List Int) (es : List Int) (A : Int) (B : Int) (hA : A = bs) (hB : B = bs + (bd + 1 + sp)) (hn : 1 ≤ n) (hn1 : n ≤ 20) (hbd : 0 ≤ bd ∧ bd < 4294967296) (hbs : -2147483648 ≤ bs ∧ bs < 2147483648) (hsp : 0 ≤ sp ∧ sp < 4294967296) :
    ∃ s', run6 1 lC (CZ0 wd bd bs sp n lz cz ez zs j x ls es A B) = some (Ex.normal, s') ∧ (cl6 1 lC) s' = CZ1 wd bd bs sp n lz cz ez zs j x ls es A B 0 :=
  Dg.code_round (f := 6) (cl6 1 lC) (hs := [Hint.val 6 106 (Value.bool true),
    Hint.soft 6 107 (Value.pointer (some { block := 3, off := 0 * 3 })),
    Hint.soft 6 108 (Value.agg #[Value.int IntKind.u64 (↑(2 * n + 0) : Int), Value.int IntKind.i64 A, Value.int IntKind.i64 B]),
    Hint.val 6 112 (Value.int IntKind.i64 (2 * (↑n : Int))),
    Hint.val 6 113 (Value.int IntKind.u64 (2 * (↑n : Int))),
    Hint.val 6 114 (Value.bool true),
    Hint.val 6 118 (Value.int IntKind.i64 bs),
    Hint.val 6 119 (Value.bool true),
    Hint.val 6 124 (Value.int IntKind.i64 bs),
    Hint.val 6 126 (Value.int IntKind.i64 (bs + (bd + 1 + sp))),
    Hint.val 6 127 (Value.bool true),
    Hint.val 6 132 (Value.int IntKind.i64 bs),
    Hint.val 6 133 (Value.bool false),
    Hint.val 6 138 (Value.int IntKind.i64 bs),
    Hint.val 6 140 (Value.int IntKind.i64 (bs + (bd + 1 + sp))),
    Hint.val 6 141 (Value.bool false),
    Hint.val 6 147 (Value.int IntKind.i64 (2 * (↑n : Int))),
    Hint.val 6 148 (Value.int IntKind.u64 (2 * (↑n : Int))),
    Hint.val 6 149 (Value.bool false),
    Hint.val 6 155 (Value.int IntKind.i64 (3 * (↑n : Int))),
    Hint.val 6 156 (Value.int IntKind.u64 (3 * (↑n : Int))),
    Hint.val 6 157 (Value.bool false)])
    [Value.bool (decide ((↑(0 : Nat) : Int) < (↑n : Int))) = Value.bool true,
    (0 : Int) ≤ (↑(0 : Nat) : Int) ∧ (↑(0 : Nat) : Int) < (↑n : Int),
    Value.pointer (some { block := (3 : Nat), off := (0 : Nat) }) = Value.pointer (some { block := (3 : Nat), off := (0 : Nat) }),
    (0 : Nat) * (3 : Nat) + Try.prog.types[(31 : Nat)].size ≤ List.length (tc (once n A B)),
    List.take Try.prog.types[(31 : Nat)].size (List.drop ((0 : Nat) * (3 : Nat)) (tc (once n A B))) = [Value.int IntKind.u64 (↑((2 : Nat) * n + (0 : Nat)) : Int), Value.int IntKind.i64 A, Value.int IntKind.i64 B],
    Value.int IntKind.i64 (IntKind.wrap IntKind.i64 ((2 : Int) * (↑n : Int))) = Value.int IntKind.i64 ((2 : Int) * (↑n : Int)),
    Value.int IntKind.u64 (IntKind.wrap IntKind.u64 ((2 : Int) * (↑n : Int))) = Value.int IntKind.u64 ((2 : Int) * (↑n : Int)),
    Value.bool ((↑((2 : Nat) * n + (0 : Nat)) : Int) == (2 : Int) * (↑n : Int)) = Value.bool true,
    Value.int IntKind.i64 (IntKind.wrap IntKind.i64 bs) = Value.int IntKind.i64 bs,
    Value.bool (A == bs) = Value.bool true,
    Value.int IntKind.i64 (IntKind.wrap IntKind.i64 bs) = Value.int IntKind.i64 bs,
    Value.int IntKind.i64 (IntKind.wrap IntKind.i64 (bs + (bd + (1 : Int) + sp))) = Value.int IntKind.i64 (bs + (bd + (1 : Int) + sp)),
    Value.bool (B == bs + (bd + (1 : Int) + sp)) = Value.bool true,
    Value.int IntKind.i64 (IntKind.wrap IntKind.i64 bs) = Value.int IntKind.i64 bs,
    Value.bool (A != bs) = Value.bool false,
    Value.int IntKind.i64 (IntKind.wrap IntKind.i64 bs) = Value.int IntKind.i64 bs,
    Value.int IntKind.i64 (IntKind.wrap IntKind.i64 (bs + (bd + (1 : Int) + sp))) = Value.int IntKind.i64 (bs + (bd + (1 : Int) + sp)),
    Value.bool (B != bs + (bd + (1 : Int) + sp)) = Value.bool false,
    Value.int IntKind.i64 (IntKind.wrap IntKind.i64 ((2 : Int) * (↑n : Int))) = Value.int IntKind.i64 ((2 : Int) * (↑n : Int)),
    Value.int IntKind.u64 (IntKind.wrap IntKind.u64 ((2 : Int) * (↑n : Int))) = Value.int IntKind.u64 ((2 : Int) * (↑n : Int)),
    Value.bool (decide ((↑((2 : Nat) * n + (0 : Nat)) : Int) < (2 : Int) * (↑n : Int))) = Value.bool false,
    Value.int IntKind.i64 (IntKind.wrap IntKind.i64 ((3 : Int) * (↑n : Int))) = Value.int IntKind.i64 ((3 : Int) * (↑n : Int)),
    Value.int IntKind.u64 (IntKind.wrap IntKind.u64 ((3 : Int) * (↑n : Int))) = Value.int IntKind.u64 ((3 : Int) * (↑n : Int)),
    Value.bool (decide ((↑((2 : Nat) * n + (0 : Nat)) : Int) ≥ (3 : Int) * (↑n : Int))) = Value.bool false] (by kernel_rfl)
    ⟨Dg.vtrue (by omega), by omega, rfl, once_room n A B 0 _ (by omega) rfl, once_load n A B 0 _ (by omega) rfl, Dg.i64_eq rfl (by omega) (by omega), Dg.u64_eq rfl (by omega) (by omega), Dg.vtrue (by omega), Dg.i64_eq rfl (by omega) (by omega), Dg.vtrue (by omega), Dg.i64_eq rfl (by omega) (by omega), Dg.i64_eq rfl (by omega) (by omega), Dg.vtrue (by omega), Dg.i64_eq rfl (by omega) (by omega), by simp; omega, Dg.i64_eq rfl (by omega) (by omega), Dg.i64_eq rfl (by omega) (by omega), by simp; omega, Dg.i64_eq rfl (by omega) (by omega), Dg.u64_eq rfl (by omega) (by omega), Dg.vfalse (by omega), Dg.i64_eq rfl (by omega) (by omega), Dg.u64_eq rfl (by omega) (by omega), Dg.vfalse (by omega), trivial⟩
--> r6cZ0
--< r6cZ1
theorem r6cZ1 (wd : Int) (bd : Int) (bs : Int) (sp : Int) (n : Nat) (lz : Nat) (cz : Nat) (ez : Nat) (zs : List Int) (j : Int) (x : Int) (ls : List Int) (es : List Int) (A : Int) (B : Int) (hA : A = bs) (hB : B = bs + (bd + 1 + sp)) (i : Nat) (hi : i + 1 < n) (hn : 1 ≤ n) (hn1 : n ≤ 20) (hbd : 0 ≤ bd ∧ bd < 4294967296) (hbs : -2147483648 ≤ bs ∧ bs < 2147483648) (hsp : 0 ≤ sp ∧ sp < 4294967296) :
    ∃ s', run6 1 lC (CZ1 wd bd bs sp n lz cz ez zs j x ls es A B i) = some (Ex.normal, s') ∧ (cl6 1 lC) s' = CZ1 wd bd bs sp n lz cz ez zs j x ls es A B (i + 1) :=
  Dg.code_round (f := 6) (cl6 1 lC) (hs := [Hint.val 6 106 (Value.bool true),
    Hint.soft 6 107 (Value.pointer (some { block := 3, off := (i + 1) * 3 })),
    Hint.soft 6 108 (Value.agg #[Value.int IntKind.u64 (↑(2 * n + (i + 1)) : Int), Value.int IntKind.i64 A, Value.int IntKind.i64 B]),
    Hint.val 6 112 (Value.int IntKind.i64 (2 * (↑n : Int))),
    Hint.val 6 113 (Value.int IntKind.u64 (2 * (↑n : Int))),
    Hint.val 6 114 (Value.bool false),
    Hint.val 6 132 (Value.int IntKind.i64 bs),
    Hint.val 6 133 (Value.bool false),
    Hint.val 6 138 (Value.int IntKind.i64 bs),
    Hint.val 6 140 (Value.int IntKind.i64 (bs + (bd + 1 + sp))),
    Hint.val 6 141 (Value.bool false),
    Hint.val 6 147 (Value.int IntKind.i64 (2 * (↑n : Int))),
    Hint.val 6 148 (Value.int IntKind.u64 (2 * (↑n : Int))),
    Hint.val 6 149 (Value.bool false),
    Hint.val 6 155 (Value.int IntKind.i64 (3 * (↑n : Int))),
    Hint.val 6 156 (Value.int IntKind.u64 (3 * (↑n : Int))),
    Hint.val 6 157 (Value.bool false),
    Hint.val 6 159 (Value.int IntKind.i64 ((↑(i + 1) : Int) + 1))])
    [Value.bool (decide ((↑(i + (1 : Nat)) : Int) < (↑n : Int))) = Value.bool true,
    (0 : Int) ≤ (↑(i + (1 : Nat)) : Int) ∧ (↑(i + (1 : Nat)) : Int) < (↑n : Int),
    Value.pointer (some { block := (3 : Nat), off := (0 : Nat) + Int.toNat (↑(i + (1 : Nat)) : Int) * (3 : Nat) }) = Value.pointer (some { block := (3 : Nat), off := (i + (1 : Nat)) * (3 : Nat) }),
    (i + (1 : Nat)) * (3 : Nat) + Try.prog.types[(31 : Nat)].size ≤ List.length (tc (once n A B)),
    List.take Try.prog.types[(31 : Nat)].size (List.drop ((i + (1 : Nat)) * (3 : Nat)) (tc (once n A B))) = [Value.int IntKind.u64 (↑((2 : Nat) * n + (i + (1 : Nat))) : Int), Value.int IntKind.i64 A, Value.int IntKind.i64 B],
    Value.int IntKind.i64 (IntKind.wrap IntKind.i64 ((2 : Int) * (↑n : Int))) = Value.int IntKind.i64 ((2 : Int) * (↑n : Int)),
    Value.int IntKind.u64 (IntKind.wrap IntKind.u64 ((2 : Int) * (↑n : Int))) = Value.int IntKind.u64 ((2 : Int) * (↑n : Int)),
    Value.bool ((↑((2 : Nat) * n + (i + (1 : Nat))) : Int) == (2 : Int) * (↑n : Int)) = Value.bool false,
    Value.int IntKind.i64 (IntKind.wrap IntKind.i64 bs) = Value.int IntKind.i64 bs,
    Value.bool (A != bs) = Value.bool false,
    Value.int IntKind.i64 (IntKind.wrap IntKind.i64 bs) = Value.int IntKind.i64 bs,
    Value.int IntKind.i64 (IntKind.wrap IntKind.i64 (bs + (bd + (1 : Int) + sp))) = Value.int IntKind.i64 (bs + (bd + (1 : Int) + sp)),
    Value.bool (B != bs + (bd + (1 : Int) + sp)) = Value.bool false,
    Value.int IntKind.i64 (IntKind.wrap IntKind.i64 ((2 : Int) * (↑n : Int))) = Value.int IntKind.i64 ((2 : Int) * (↑n : Int)),
    Value.int IntKind.u64 (IntKind.wrap IntKind.u64 ((2 : Int) * (↑n : Int))) = Value.int IntKind.u64 ((2 : Int) * (↑n : Int)),
    Value.bool (decide ((↑((2 : Nat) * n + (i + (1 : Nat))) : Int) < (2 : Int) * (↑n : Int))) = Value.bool false,
    Value.int IntKind.i64 (IntKind.wrap IntKind.i64 ((3 : Int) * (↑n : Int))) = Value.int IntKind.i64 ((3 : Int) * (↑n : Int)),
    Value.int IntKind.u64 (IntKind.wrap IntKind.u64 ((3 : Int) * (↑n : Int))) = Value.int IntKind.u64 ((3 : Int) * (↑n : Int)),
    Value.bool (decide ((↑((2 : Nat) * n + (i + (1 : Nat))) : Int) ≥ (3 : Int) * (↑n : Int))) = Value.bool false,
    Value.int IntKind.i64 (IntKind.wrap IntKind.i64 ((↑(i + (1 : Nat)) : Int) + (1 : Int))) = Value.int IntKind.i64 ((↑(i + (1 : Nat)) : Int) + (1 : Int))] (by kernel_rfl)
    ⟨Dg.vtrue (by omega), by omega, Dg.ptr_eq (by omega), once_room n A B (i + 1) _ (by omega) rfl, once_load n A B (i + 1) _ (by omega) rfl, Dg.i64_eq rfl (by omega) (by omega), Dg.u64_eq rfl (by omega) (by omega), Dg.vfalse (by omega), Dg.i64_eq rfl (by omega) (by omega), by simp; omega, Dg.i64_eq rfl (by omega) (by omega), Dg.i64_eq rfl (by omega) (by omega), by simp; omega, Dg.i64_eq rfl (by omega) (by omega), Dg.u64_eq rfl (by omega) (by omega), Dg.vfalse (by omega), Dg.i64_eq rfl (by omega) (by omega), Dg.u64_eq rfl (by omega) (by omega), Dg.vfalse (by omega), Dg.i64_eq rfl (by omega) (by omega), trivial⟩
--> r6cZ1
--< r6bF0
theorem r6bF0 (wd : Int) (bd : Int) (bs : Int) (sp : Int) (n : Nat) (lz : Nat) (cz : Nat) (ez : Nat) (zs : List Int) (v : Int) (ns : List Int) (ds : List Int) (hn : 1 ≤ n) (hn1 : n ≤ 20) (hbd : 0 ≤ bd ∧ bd < 4294967296) (hbs : -2147483648 ≤ bs ∧ bs < 2147483648) (hsp : 0 ≤ sp ∧ sp < 4294967296) :
    ∃ s', run6 1 lB (BF0 wd bd bs sp n lz cz ez zs v ns ds) = some (Ex.normal, s') ∧ (cl6 1 lB) s' = BF1 wd bd bs sp n lz cz ez zs v ns ds 1 0 bs [bs] [5] :=
  Dg.code_round (f := 6) (cl6 1 lB) (hs := [Hint.val 6 79 (Value.bool true),
    Hint.val 6 82 (Value.int IntKind.i64 bs),
    Hint.val 6 85 (Value.int IntKind.i64 (2 * (↑n : Int))),
    Hint.val 6 86 (Value.bool false)])
    [Value.bool (decide ((↑(0 : Nat) : Int) < (4 : Int) * (↑n : Int))) = Value.bool true,
    Value.int IntKind.i64 (IntKind.wrap IntKind.i64 bs) = Value.int IntKind.i64 bs,
    Value.int IntKind.i64 (IntKind.wrap IntKind.i64 ((2 : Int) * (↑n : Int))) = Value.int IntKind.i64 ((2 : Int) * (↑n : Int)),
    Value.bool (decide ((0 : Int) ≥ (2 : Int) * (↑n : Int))) = Value.bool false] (by kernel_rfl)
    ⟨Dg.vtrue (by omega), Dg.i64_eq rfl (by omega) (by omega), Dg.i64_eq rfl (by omega) (by omega), Dg.vfalse (by omega), trivial⟩
--> r6bF0
--< r6bF1
theorem r6bF1 (wd : Int) (bd : Int) (bs : Int) (sp : Int) (n : Nat) (lz : Nat) (cz : Nat) (ez : Nat) (zs : List Int) (v : Int) (ns : List Int) (ds : List Int) (i : Nat) (j : Int) (x : Int) (ls : List Int) (es : List Int) (hl : List.length ls = i) (he : List.length es = i) (hi : i < 2 * n) (hn : 1 ≤ n) (hn1 : n ≤ 20) (hbd : 0 ≤ bd ∧ bd < 4294967296) (hbs : -2147483648 ≤ bs ∧ bs < 2147483648) (hsp : 0 ≤ sp ∧ sp < 4294967296) :
    ∃ s', run6 1 lB (BF1 wd bd bs sp n lz cz ez zs v ns ds i j x ls es) = some (Ex.normal, s') ∧ (cl6 1 lB) s' = BF1 wd bd bs sp n lz cz ez zs v ns ds (i + 1) (↑i : Int) bs (ls ++ [bs]) (es ++ [5]) :=
  Dg.code_round (f := 6) (cl6 1 lB) (hs := [Hint.val 6 79 (Value.bool true),
    Hint.val 6 82 (Value.int IntKind.i64 bs),
    Hint.val 6 85 (Value.int IntKind.i64 (2 * (↑n : Int))),
    Hint.val 6 86 (Value.bool false),
    Hint.softH 6 93 (Value.slice (some { block := 6, off := 0, spot := some 0 }) (List.length (ls ++ [bs])) (List.length (ls ++ [bs]))) { n := 7, objs := [AObj.cells (i64s (ls ++ [bs])) 2 5 1, AObj.cells [Value.int IntKind.i64 bs] 2 0 1, AObj.cells (i64s es) 2 5 1, AObj.dead, AObj.cells (i64s ds) 2 5 1, AObj.cells (i64s ns) 2 5 1, AObj.cells (u32s zs) ez 6 1] } [3],
    Hint.softH 6 96 (Value.slice (some { block := 8, off := 0, spot := some 0 }) (List.length (es ++ [5])) (List.length (es ++ [5]))) { n := 9, objs := [AObj.cells (i64s (es ++ [5])) 2 5 1, AObj.cells [Value.int IntKind.i64 5] 2 0 1, AObj.cells (i64s (ls ++ [bs])) 2 5 1, AObj.cells [Value.int IntKind.i64 bs] 2 0 1, AObj.dead, AObj.dead, AObj.cells (i64s ds) 2 5 1, AObj.cells (i64s ns) 2 5 1, AObj.cells (u32s zs) ez 6 1] } [4],
    Hint.val 6 97 (Value.int IntKind.i64 ((↑i : Int) + 1))])
    [Value.bool (decide ((↑i : Int) < (4 : Int) * (↑n : Int))) = Value.bool true,
    Value.int IntKind.i64 (IntKind.wrap IntKind.i64 bs) = Value.int IntKind.i64 bs,
    Value.int IntKind.i64 (IntKind.wrap IntKind.i64 ((2 : Int) * (↑n : Int))) = Value.int IntKind.i64 ((2 : Int) * (↑n : Int)),
    Value.bool (decide ((↑i : Int) ≥ (2 : Int) * (↑n : Int))) = Value.bool false,
    Dg.evAppend Try.prog { n := (6 : Nat), objs := [AObj.cells [Value.int IntKind.i64 bs] (2 : Nat) (0 : Nat) (1 : Nat), AObj.cells (i64s es) (2 : Nat) (5 : Nat) (1 : Nat), AObj.cells (i64s ls) (2 : Nat) (5 : Nat) (1 : Nat), AObj.cells (i64s ds) (2 : Nat) (5 : Nat) (1 : Nat), AObj.cells (i64s ns) (2 : Nat) (5 : Nat) (1 : Nat), AObj.cells (u32s zs) ez (6 : Nat) (1 : Nat)] } (22 : Nat) (22 : Nat) (Value.slice (some { block := (3 : Nat), off := (0 : Nat), spot := some (0 : Nat) }) (List.length ls) (List.length ls)) (Value.slice (some { block := (5 : Nat), off := (0 : Nat) }) (1 : Nat) (1 : Nat)) = some (Value.slice (some { block := (6 : Nat), off := (0 : Nat), spot := some (0 : Nat) }) (List.length (ls ++ [bs])) (List.length (ls ++ [bs])), { n := (7 : Nat), objs := [AObj.cells (i64s (ls ++ [bs])) (2 : Nat) (5 : Nat) (1 : Nat), AObj.cells [Value.int IntKind.i64 bs] (2 : Nat) (0 : Nat) (1 : Nat), AObj.cells (i64s es) (2 : Nat) (5 : Nat) (1 : Nat), AObj.dead, AObj.cells (i64s ds) (2 : Nat) (5 : Nat) (1 : Nat), AObj.cells (i64s ns) (2 : Nat) (5 : Nat) (1 : Nat), AObj.cells (u32s zs) ez (6 : Nat) (1 : Nat)] }, [(3 : Nat)]),
    Dg.evAppend Try.prog { n := (8 : Nat), objs := [AObj.cells [Value.int IntKind.i64 (5 : Int)] (2 : Nat) (0 : Nat) (1 : Nat), AObj.cells (i64s (ls ++ [bs])) (2 : Nat) (5 : Nat) (1 : Nat), AObj.cells [Value.int IntKind.i64 bs] (2 : Nat) (0 : Nat) (1 : Nat), AObj.cells (i64s es) (2 : Nat) (5 : Nat) (1 : Nat), AObj.dead, AObj.cells (i64s ds) (2 : Nat) (5 : Nat) (1 : Nat), AObj.cells (i64s ns) (2 : Nat) (5 : Nat) (1 : Nat), AObj.cells (u32s zs) ez (6 : Nat) (1 : Nat)] } (22 : Nat) (22 : Nat) (Value.slice (some { block := (4 : Nat), off := (0 : Nat), spot := some (0 : Nat) }) (List.length es) (List.length es)) (Value.slice (some { block := (7 : Nat), off := (0 : Nat) }) (1 : Nat) (1 : Nat)) = some (Value.slice (some { block := (8 : Nat), off := (0 : Nat), spot := some (0 : Nat) }) (List.length (es ++ [(5 : Int)])) (List.length (es ++ [(5 : Int)])), { n := (9 : Nat), objs := [AObj.cells (i64s (es ++ [(5 : Int)])) (2 : Nat) (5 : Nat) (1 : Nat), AObj.cells [Value.int IntKind.i64 (5 : Int)] (2 : Nat) (0 : Nat) (1 : Nat), AObj.cells (i64s (ls ++ [bs])) (2 : Nat) (5 : Nat) (1 : Nat), AObj.cells [Value.int IntKind.i64 bs] (2 : Nat) (0 : Nat) (1 : Nat), AObj.dead, AObj.dead, AObj.cells (i64s ds) (2 : Nat) (5 : Nat) (1 : Nat), AObj.cells (i64s ns) (2 : Nat) (5 : Nat) (1 : Nat), AObj.cells (u32s zs) ez (6 : Nat) (1 : Nat)] }, [(4 : Nat)]),
    Value.int IntKind.i64 (IntKind.wrap IntKind.i64 ((↑i : Int) + (1 : Int))) = Value.int IntKind.i64 ((↑i : Int) + (1 : Int))] (by kernel_rfl)
    ⟨Dg.vtrue (by omega), Dg.i64_eq rfl (by omega) (by omega), Dg.i64_eq rfl (by omega) (by omega), Dg.vfalse (by omega), app22 (os := ls) (x := bs) rfl rfl rfl (by omega) (by simp) rfl rfl, app22 (os := es) (x := 5) rfl rfl rfl (by omega) (by simp) rfl rfl, Dg.i64_eq rfl (by omega) (by omega), trivial⟩
--> r6bF1
--< r6bF2
theorem r6bF2 (wd : Int) (bd : Int) (bs : Int) (sp : Int) (n : Nat) (lz : Nat) (cz : Nat) (ez : Nat) (zs : List Int) (v : Int) (ns : List Int) (ds : List Int) (i : Nat) (j : Int) (x : Int) (ls : List Int) (es : List Int) (hl : List.length ls = i) (he : List.length es = i) (hi : 2 * n ≤ i) (hi2 : i < 4 * n) (hn : 1 ≤ n) (hn1 : n ≤ 20) (hbd : 0 ≤ bd ∧ bd < 4294967296) (hbs : -2147483648 ≤ bs ∧ bs < 2147483648) (hsp : 0 ≤ sp ∧ sp < 4294967296) :
    ∃ s', run6 1 lB (BF1 wd bd bs sp n lz cz ez zs v ns ds i j x ls es) = some (Ex.normal, s') ∧ (cl6 1 lB) s' = BF1 wd bd bs sp n lz cz ez zs v ns ds (i + 1) (↑i : Int) (bs + (bd + 1 + sp)) (ls ++ [bs + (bd + 1 + sp)]) (es ++ [5]) :=
  Dg.code_round (f := 6) (cl6 1 lB) (hs := [Hint.val 6 79 (Value.bool true),
    Hint.val 6 82 (Value.int IntKind.i64 bs),
    Hint.val 6 85 (Value.int IntKind.i64 (2 * (↑n : Int))),
    Hint.val 6 86 (Value.bool true),
    Hint.val 6 89 (Value.int IntKind.i64 (bs + (bd + 1 + sp))),
    Hint.softH 6 93 (Value.slice (some { block := 6, off := 0, spot := some 0 }) (List.length (ls ++ [bs + (bd + 1 + sp)])) (List.length (ls ++ [bs + (bd + 1 + sp)]))) { n := 7, objs := [AObj.cells (i64s (ls ++ [bs + (bd + 1 + sp)])) 2 5 1, AObj.cells [Value.int IntKind.i64 (bs + (bd + 1 + sp))] 2 0 1, AObj.cells (i64s es) 2 5 1, AObj.dead, AObj.cells (i64s ds) 2 5 1, AObj.cells (i64s ns) 2 5 1, AObj.cells (u32s zs) ez 6 1] } [3],
    Hint.softH 6 96 (Value.slice (some { block := 8, off := 0, spot := some 0 }) (List.length (es ++ [5])) (List.length (es ++ [5]))) { n := 9, objs := [AObj.cells (i64s (es ++ [5])) 2 5 1, AObj.cells [Value.int IntKind.i64 5] 2 0 1, AObj.cells (i64s (ls ++ [bs + (bd + 1 + sp)])) 2 5 1, AObj.cells [Value.int IntKind.i64 (bs + (bd + 1 + sp))] 2 0 1, AObj.dead, AObj.dead, AObj.cells (i64s ds) 2 5 1, AObj.cells (i64s ns) 2 5 1, AObj.cells (u32s zs) ez 6 1] } [4],
    Hint.val 6 97 (Value.int IntKind.i64 ((↑i : Int) + 1))])
    [Value.bool (decide ((↑i : Int) < (4 : Int) * (↑n : Int))) = Value.bool true,
    Value.int IntKind.i64 (IntKind.wrap IntKind.i64 bs) = Value.int IntKind.i64 bs,
    Value.int IntKind.i64 (IntKind.wrap IntKind.i64 ((2 : Int) * (↑n : Int))) = Value.int IntKind.i64 ((2 : Int) * (↑n : Int)),
    Value.bool (decide ((↑i : Int) ≥ (2 : Int) * (↑n : Int))) = Value.bool true,
    Value.int IntKind.i64 (IntKind.wrap IntKind.i64 (bs + (bd + (1 : Int) + sp))) = Value.int IntKind.i64 (bs + (bd + (1 : Int) + sp)),
    Dg.evAppend Try.prog { n := (6 : Nat), objs := [AObj.cells [Value.int IntKind.i64 (bs + (bd + (1 : Int) + sp))] (2 : Nat) (0 : Nat) (1 : Nat), AObj.cells (i64s es) (2 : Nat) (5 : Nat) (1 : Nat), AObj.cells (i64s ls) (2 : Nat) (5 : Nat) (1 : Nat), AObj.cells (i64s ds) (2 : Nat) (5 : Nat) (1 : Nat), AObj.cells (i64s ns) (2 : Nat) (5 : Nat) (1 : Nat), AObj.cells (u32s zs) ez (6 : Nat) (1 : Nat)] } (22 : Nat) (22 : Nat) (Value.slice (some { block := (3 : Nat), off := (0 : Nat), spot := some (0 : Nat) }) (List.length ls) (List.length ls)) (Value.slice (some { block := (5 : Nat), off := (0 : Nat) }) (1 : Nat) (1 : Nat)) = some (Value.slice (some { block := (6 : Nat), off := (0 : Nat), spot := some (0 : Nat) }) (List.length (ls ++ [bs + (bd + (1 : Int) + sp)])) (List.length (ls ++ [bs + (bd + (1 : Int) + sp)])), { n := (7 : Nat), objs := [AObj.cells (i64s (ls ++ [bs + (bd + (1 : Int) + sp)])) (2 : Nat) (5 : Nat) (1 : Nat), AObj.cells [Value.int IntKind.i64 (bs + (bd + (1 : Int) + sp))] (2 : Nat) (0 : Nat) (1 : Nat), AObj.cells (i64s es) (2 : Nat) (5 : Nat) (1 : Nat), AObj.dead, AObj.cells (i64s ds) (2 : Nat) (5 : Nat) (1 : Nat), AObj.cells (i64s ns) (2 : Nat) (5 : Nat) (1 : Nat), AObj.cells (u32s zs) ez (6 : Nat) (1 : Nat)] }, [(3 : Nat)]),
    Dg.evAppend Try.prog { n := (8 : Nat), objs := [AObj.cells [Value.int IntKind.i64 (5 : Int)] (2 : Nat) (0 : Nat) (1 : Nat), AObj.cells (i64s (ls ++ [bs + (bd + (1 : Int) + sp)])) (2 : Nat) (5 : Nat) (1 : Nat), AObj.cells [Value.int IntKind.i64 (bs + (bd + (1 : Int) + sp))] (2 : Nat) (0 : Nat) (1 : Nat), AObj.cells (i64s es) (2 : Nat) (5 : Nat) (1 : Nat), AObj.dead, AObj.cells (i64s ds) (2 : Nat) (5 : Nat) (1 : Nat), AObj.cells (i64s ns) (2 : Nat) (5 : Nat) (1 : Nat), AObj.cells (u32s zs) ez (6 : Nat) (1 : Nat)] } (22 : Nat) (22 : Nat) (Value.slice (some { block := (4 : Nat), off := (0 : Nat), spot := some (0 : Nat) }) (List.length es) (List.length es)) (Value.slice (some { block := (7 : Nat), off := (0 : Nat) }) (1 : Nat) (1 : Nat)) = some (Value.slice (some { block := (8 : Nat), off := (0 : Nat), spot := some (0 : Nat) }) (List.length (es ++ [(5 : Int)])) (List.length (es ++ [(5 : Int)])), { n := (9 : Nat), objs := [AObj.cells (i64s (es ++ [(5 : Int)])) (2 : Nat) (5 : Nat) (1 : Nat), AObj.cells [Value.int IntKind.i64 (5 : Int)] (2 : Nat) (0 : Nat) (1 : Nat), AObj.cells (i64s (ls ++ [bs + (bd + (1 : Int) + sp)])) (2 : Nat) (5 : Nat) (1 : Nat), AObj.cells [Value.int IntKind.i64 (bs + (bd + (1 : Int) + sp))] (2 : Nat) (0 : Nat) (1 : Nat), AObj.dead, AObj.dead, AObj.cells (i64s ds) (2 : Nat) (5 : Nat) (1 : Nat), AObj.cells (i64s ns) (2 : Nat) (5 : Nat) (1 : Nat), AObj.cells (u32s zs) ez (6 : Nat) (1 : Nat)] }, [(4 : Nat)]),
    Value.int IntKind.i64 (IntKind.wrap IntKind.i64 ((↑i : Int) + (1 : Int))) = Value.int IntKind.i64 ((↑i : Int) + (1 : Int))] (by kernel_rfl)
    ⟨Dg.vtrue (by omega), Dg.i64_eq rfl (by omega) (by omega), Dg.i64_eq rfl (by omega) (by omega), Dg.vtrue (by omega), Dg.i64_eq rfl (by omega) (by omega), app22 (os := ls) (x := (bs + (bd + 1 + sp))) rfl rfl rfl (by omega) (by simp) rfl rfl, app22 (os := es) (x := 5) rfl rfl rfl (by omega) (by simp) rfl rfl, Dg.i64_eq rfl (by omega) (by omega), trivial⟩
--> r6bF2
--< r6cF0
theorem r6cF0 (wd : Int) (bd : Int) (bs : Int) (sp : Int) (n : Nat) (lz : Nat) (cz : Nat) (ez : Nat) (zs : List Int) (v : Int) (ns : List Int) (ds : List Int) (j : Int) (x : Int) (ls : List Int) (es : List Int) (A : Int) (B : Int) (hA : A = bs) (hB : B = bs + (bd + 1 + sp)) (hn : 1 ≤ n) (hn1 : n ≤ 20) (hbd : 0 ≤ bd ∧ bd < 4294967296) (hbs : -2147483648 ≤ bs ∧ bs < 2147483648) (hsp : 0 ≤ sp ∧ sp < 4294967296) :
    ∃ s', run6 1 lC (CF0 wd bd bs sp n lz cz ez zs v ns ds j x ls es A B) = some (Ex.normal, s') ∧ (cl6 1 lC) s' = CF1 wd bd bs sp n lz cz ez zs v ns ds j x ls es A B 0 :=
  Dg.code_round (f := 6) (cl6 1 lC) (hs := [Hint.val 6 106 (Value.bool true),
    Hint.soft 6 107 (Value.pointer (some { block := 5, off := 0 * 3 })),
    Hint.soft 6 108 (Value.agg #[Value.int IntKind.u64 (↑(2 * n + 0) : Int), Value.int IntKind.i64 A, Value.int IntKind.i64 B]),
    Hint.val 6 112 (Value.int IntKind.i64 (2 * (↑n : Int))),
    Hint.val 6 113 (Value.int IntKind.u64 (2 * (↑n : Int))),
    Hint.val 6 114 (Value.bool true),
    Hint.val 6 118 (Value.int IntKind.i64 bs),
    Hint.val 6 119 (Value.bool true),
    Hint.val 6 124 (Value.int IntKind.i64 bs),
    Hint.val 6 126 (Value.int IntKind.i64 (bs + (bd + 1 + sp))),
    Hint.val 6 127 (Value.bool true),
    Hint.val 6 132 (Value.int IntKind.i64 bs),
    Hint.val 6 133 (Value.bool false),
    Hint.val 6 138 (Value.int IntKind.i64 bs),
    Hint.val 6 140 (Value.int IntKind.i64 (bs + (bd + 1 + sp))),
    Hint.val 6 141 (Value.bool false),
    Hint.val 6 147 (Value.int IntKind.i64 (2 * (↑n : Int))),
    Hint.val 6 148 (Value.int IntKind.u64 (2 * (↑n : Int))),
    Hint.val 6 149 (Value.bool false),
    Hint.val 6 155 (Value.int IntKind.i64 (3 * (↑n : Int))),
    Hint.val 6 156 (Value.int IntKind.u64 (3 * (↑n : Int))),
    Hint.val 6 157 (Value.bool false)])
    [Value.bool (decide ((↑(0 : Nat) : Int) < (↑n : Int))) = Value.bool true,
    (0 : Int) ≤ (↑(0 : Nat) : Int) ∧ (↑(0 : Nat) : Int) < (↑n : Int),
    Value.pointer (some { block := (5 : Nat), off := (0 : Nat) }) = Value.pointer (some { block := (5 : Nat), off := (0 : Nat) }),
    (0 : Nat) * (3 : Nat) + Try.prog.types[(31 : Nat)].size ≤ List.length (tc (once n A B)),
    List.take Try.prog.types[(31 : Nat)].size (List.drop ((0 : Nat) * (3 : Nat)) (tc (once n A B))) = [Value.int IntKind.u64 (↑((2 : Nat) * n + (0 : Nat)) : Int), Value.int IntKind.i64 A, Value.int IntKind.i64 B],
    Value.int IntKind.i64 (IntKind.wrap IntKind.i64 ((2 : Int) * (↑n : Int))) = Value.int IntKind.i64 ((2 : Int) * (↑n : Int)),
    Value.int IntKind.u64 (IntKind.wrap IntKind.u64 ((2 : Int) * (↑n : Int))) = Value.int IntKind.u64 ((2 : Int) * (↑n : Int)),
    Value.bool ((↑((2 : Nat) * n + (0 : Nat)) : Int) == (2 : Int) * (↑n : Int)) = Value.bool true,
    Value.int IntKind.i64 (IntKind.wrap IntKind.i64 bs) = Value.int IntKind.i64 bs,
    Value.bool (A == bs) = Value.bool true,
    Value.int IntKind.i64 (IntKind.wrap IntKind.i64 bs) = Value.int IntKind.i64 bs,
    Value.int IntKind.i64 (IntKind.wrap IntKind.i64 (bs + (bd + (1 : Int) + sp))) = Value.int IntKind.i64 (bs + (bd + (1 : Int) + sp)),
    Value.bool (B == bs + (bd + (1 : Int) + sp)) = Value.bool true,
    Value.int IntKind.i64 (IntKind.wrap IntKind.i64 bs) = Value.int IntKind.i64 bs,
    Value.bool (A != bs) = Value.bool false,
    Value.int IntKind.i64 (IntKind.wrap IntKind.i64 bs) = Value.int IntKind.i64 bs,
    Value.int IntKind.i64 (IntKind.wrap IntKind.i64 (bs + (bd + (1 : Int) + sp))) = Value.int IntKind.i64 (bs + (bd + (1 : Int) + sp)),
    Value.bool (B != bs + (bd + (1 : Int) + sp)) = Value.bool false,
    Value.int IntKind.i64 (IntKind.wrap IntKind.i64 ((2 : Int) * (↑n : Int))) = Value.int IntKind.i64 ((2 : Int) * (↑n : Int)),
    Value.int IntKind.u64 (IntKind.wrap IntKind.u64 ((2 : Int) * (↑n : Int))) = Value.int IntKind.u64 ((2 : Int) * (↑n : Int)),
    Value.bool (decide ((↑((2 : Nat) * n + (0 : Nat)) : Int) < (2 : Int) * (↑n : Int))) = Value.bool false,
    Value.int IntKind.i64 (IntKind.wrap IntKind.i64 ((3 : Int) * (↑n : Int))) = Value.int IntKind.i64 ((3 : Int) * (↑n : Int)),
    Value.int IntKind.u64 (IntKind.wrap IntKind.u64 ((3 : Int) * (↑n : Int))) = Value.int IntKind.u64 ((3 : Int) * (↑n : Int)),
    Value.bool (decide ((↑((2 : Nat) * n + (0 : Nat)) : Int) ≥ (3 : Int) * (↑n : Int))) = Value.bool false] (by kernel_rfl)
    ⟨Dg.vtrue (by omega), by omega, rfl, once_room n A B 0 _ (by omega) rfl, once_load n A B 0 _ (by omega) rfl, Dg.i64_eq rfl (by omega) (by omega), Dg.u64_eq rfl (by omega) (by omega), Dg.vtrue (by omega), Dg.i64_eq rfl (by omega) (by omega), Dg.vtrue (by omega), Dg.i64_eq rfl (by omega) (by omega), Dg.i64_eq rfl (by omega) (by omega), Dg.vtrue (by omega), Dg.i64_eq rfl (by omega) (by omega), by simp; omega, Dg.i64_eq rfl (by omega) (by omega), Dg.i64_eq rfl (by omega) (by omega), by simp; omega, Dg.i64_eq rfl (by omega) (by omega), Dg.u64_eq rfl (by omega) (by omega), Dg.vfalse (by omega), Dg.i64_eq rfl (by omega) (by omega), Dg.u64_eq rfl (by omega) (by omega), Dg.vfalse (by omega), trivial⟩
--> r6cF0
--< r6cF1
theorem r6cF1 (wd : Int) (bd : Int) (bs : Int) (sp : Int) (n : Nat) (lz : Nat) (cz : Nat) (ez : Nat) (zs : List Int) (v : Int) (ns : List Int) (ds : List Int) (j : Int) (x : Int) (ls : List Int) (es : List Int) (A : Int) (B : Int) (hA : A = bs) (hB : B = bs + (bd + 1 + sp)) (i : Nat) (hi : i + 1 < n) (hn : 1 ≤ n) (hn1 : n ≤ 20) (hbd : 0 ≤ bd ∧ bd < 4294967296) (hbs : -2147483648 ≤ bs ∧ bs < 2147483648) (hsp : 0 ≤ sp ∧ sp < 4294967296) :
    ∃ s', run6 1 lC (CF1 wd bd bs sp n lz cz ez zs v ns ds j x ls es A B i) = some (Ex.normal, s') ∧ (cl6 1 lC) s' = CF1 wd bd bs sp n lz cz ez zs v ns ds j x ls es A B (i + 1) :=
  Dg.code_round (f := 6) (cl6 1 lC) (hs := [Hint.val 6 106 (Value.bool true),
    Hint.soft 6 107 (Value.pointer (some { block := 5, off := (i + 1) * 3 })),
    Hint.soft 6 108 (Value.agg #[Value.int IntKind.u64 (↑(2 * n + (i + 1)) : Int), Value.int IntKind.i64 A, Value.int IntKind.i64 B]),
    Hint.val 6 112 (Value.int IntKind.i64 (2 * (↑n : Int))),
    Hint.val 6 113 (Value.int IntKind.u64 (2 * (↑n : Int))),
    Hint.val 6 114 (Value.bool false),
    Hint.val 6 132 (Value.int IntKind.i64 bs),
    Hint.val 6 133 (Value.bool false),
    Hint.val 6 138 (Value.int IntKind.i64 bs),
    Hint.val 6 140 (Value.int IntKind.i64 (bs + (bd + 1 + sp))),
    Hint.val 6 141 (Value.bool false),
    Hint.val 6 147 (Value.int IntKind.i64 (2 * (↑n : Int))),
    Hint.val 6 148 (Value.int IntKind.u64 (2 * (↑n : Int))),
    Hint.val 6 149 (Value.bool false),
    Hint.val 6 155 (Value.int IntKind.i64 (3 * (↑n : Int))),
    Hint.val 6 156 (Value.int IntKind.u64 (3 * (↑n : Int))),
    Hint.val 6 157 (Value.bool false),
    Hint.val 6 159 (Value.int IntKind.i64 ((↑(i + 1) : Int) + 1))])
    [Value.bool (decide ((↑(i + (1 : Nat)) : Int) < (↑n : Int))) = Value.bool true,
    (0 : Int) ≤ (↑(i + (1 : Nat)) : Int) ∧ (↑(i + (1 : Nat)) : Int) < (↑n : Int),
    Value.pointer (some { block := (5 : Nat), off := (0 : Nat) + Int.toNat (↑(i + (1 : Nat)) : Int) * (3 : Nat) }) = Value.pointer (some { block := (5 : Nat), off := (i + (1 : Nat)) * (3 : Nat) }),
    (i + (1 : Nat)) * (3 : Nat) + Try.prog.types[(31 : Nat)].size ≤ List.length (tc (once n A B)),
    List.take Try.prog.types[(31 : Nat)].size (List.drop ((i + (1 : Nat)) * (3 : Nat)) (tc (once n A B))) = [Value.int IntKind.u64 (↑((2 : Nat) * n + (i + (1 : Nat))) : Int), Value.int IntKind.i64 A, Value.int IntKind.i64 B],
    Value.int IntKind.i64 (IntKind.wrap IntKind.i64 ((2 : Int) * (↑n : Int))) = Value.int IntKind.i64 ((2 : Int) * (↑n : Int)),
    Value.int IntKind.u64 (IntKind.wrap IntKind.u64 ((2 : Int) * (↑n : Int))) = Value.int IntKind.u64 ((2 : Int) * (↑n : Int)),
    Value.bool ((↑((2 : Nat) * n + (i + (1 : Nat))) : Int) == (2 : Int) * (↑n : Int)) = Value.bool false,
    Value.int IntKind.i64 (IntKind.wrap IntKind.i64 bs) = Value.int IntKind.i64 bs,
    Value.bool (A != bs) = Value.bool false,
    Value.int IntKind.i64 (IntKind.wrap IntKind.i64 bs) = Value.int IntKind.i64 bs,
    Value.int IntKind.i64 (IntKind.wrap IntKind.i64 (bs + (bd + (1 : Int) + sp))) = Value.int IntKind.i64 (bs + (bd + (1 : Int) + sp)),
    Value.bool (B != bs + (bd + (1 : Int) + sp)) = Value.bool false,
    Value.int IntKind.i64 (IntKind.wrap IntKind.i64 ((2 : Int) * (↑n : Int))) = Value.int IntKind.i64 ((2 : Int) * (↑n : Int)),
    Value.int IntKind.u64 (IntKind.wrap IntKind.u64 ((2 : Int) * (↑n : Int))) = Value.int IntKind.u64 ((2 : Int) * (↑n : Int)),
    Value.bool (decide ((↑((2 : Nat) * n + (i + (1 : Nat))) : Int) < (2 : Int) * (↑n : Int))) = Value.bool false,
    Value.int IntKind.i64 (IntKind.wrap IntKind.i64 ((3 : Int) * (↑n : Int))) = Value.int IntKind.i64 ((3 : Int) * (↑n : Int)),
    Value.int IntKind.u64 (IntKind.wrap IntKind.u64 ((3 : Int) * (↑n : Int))) = Value.int IntKind.u64 ((3 : Int) * (↑n : Int)),
    Value.bool (decide ((↑((2 : Nat) * n + (i + (1 : Nat))) : Int) ≥ (3 : Int) * (↑n : Int))) = Value.bool false,
    Value.int IntKind.i64 (IntKind.wrap IntKind.i64 ((↑(i + (1 : Nat)) : Int) + (1 : Int))) = Value.int IntKind.i64 ((↑(i + (1 : Nat)) : Int) + (1 : Int))] (by kernel_rfl)
    ⟨Dg.vtrue (by omega), by omega, Dg.ptr_eq (by omega), once_room n A B (i + 1) _ (by omega) rfl, once_load n A B (i + 1) _ (by omega) rfl, Dg.i64_eq rfl (by omega) (by omega), Dg.u64_eq rfl (by omega) (by omega), Dg.vfalse (by omega), Dg.i64_eq rfl (by omega) (by omega), by simp; omega, Dg.i64_eq rfl (by omega) (by omega), Dg.i64_eq rfl (by omega) (by omega), by simp; omega, Dg.i64_eq rfl (by omega) (by omega), Dg.u64_eq rfl (by omega) (by omega), Dg.vfalse (by omega), Dg.i64_eq rfl (by omega) (by omega), Dg.u64_eq rfl (by omega) (by omega), Dg.vfalse (by omega), Dg.i64_eq rfl (by omega) (by omega), trivial⟩
--> r6cF1
end Go.Proofs.Ytafhlmpifdclaaa.shift
