/- The rounds of the law 'ShiftTells' of layer 34. -/
import Derived.Test.YtafhlmpifdclaaaRows
import Derived.Test.YtafhlmpifdclaaaShiftLaws
namespace Go.Proofs.Ytafhlmpifdclaaa.shift
open Go.Dg (junk St Ex Ev Hint evCall evCallS evCode evCodeS evLoop cleanSt ue bodied noOver sbOf headOf tailOf bodyOf Flats flatOver Heap AObj SCall Law ofLaw)
set_option linter.unusedVariables false
set_option linter.unusedSimpArgs false

theorem call10n {H : Heap} {d w : Nat} {b c : Int} {v : Value} {H' : Heap} (hl : H.objs.length = H.n) (hd : H.get d = D w b (.slice none 0 0) c) (hw : 0 < w) (hv : v = .pointer (some ⟨H.n, 0, none⟩)) (hH : H' = H.push (D w b (.slice none 0 0) c)) :
    over3 10 [.pointer (some ⟨d, 0, none⟩)] H = some (v, H', []) :=
  Dg.ofLaw_is u10 ⟨d, w, b, c, rfl, hl, hw, .inl ⟨hd, by rw [hv, hH]⟩⟩
theorem call10 {H : Heap} {d a w : Nat} {b c : Int} {ps : List (Int × Int)} {v : Value} {H' : Heap} (hl : H.objs.length = H.n) (hd : H.get d = D w b (sl a ps.length) c) (ha : H.get a = arr ps) (hne : d ≠ a) (hw : 0 < w) (h0 : 0 < ps.length) (h1 : ps.length ≤ 900)
    (hv : v = .pointer (some ⟨H.n, 0, none⟩)) (hH : H' = (H.push (D w b (sl (H.n + 1) ps.length) c)).push (arr ps)) : over3 10 [.pointer (some ⟨d, 0, none⟩)] H = some (v, H', []) :=
  Dg.ofLaw_is u10 ⟨d, w, b, c, rfl, hl, hw, .inr ⟨a, ps, hd, ha, hne, h0, h1, by rw [hv, hH]⟩⟩
theorem call11n {H : Heap} {d w : Nat} {b c x y : Int} {H' : Heap} (hl : H.objs.length = H.n) (hd : H.get d = D w b (.slice none 0 0) c) (det : Det w b c []) (hx : In x) (hH : H' = (H.set d (D w b (sl H.n 1) (c + 1))).push (arr [(x, y)])) :
    over3 11 [.pointer (some ⟨d, 0, none⟩), .int .i64 x, .int .i64 y] H = some (zeroR, H', [d]) :=
  Dg.ofLaw_is u11 ⟨d, w, b, c, x, y, rfl, hl, hx, .inl ⟨hd, det, by rw [hH]⟩⟩
theorem call11 {H : Heap} {d a w : Nat} {b c x y : Int} {ps : List (Int × Int)} {v : Value} {H' : Heap} (hl : H.objs.length = H.n) (hd : H.get d = D w b (sl a ps.length) c) (ha : H.get a = arr ps) (hne : d ≠ a) (det : Det w b c ps) (hx : In x) (h0 : 0 < ps.length)
    (hv : v = addR w b (c + 1) (addS w ps x y)) (hH : H' = ((H.set a .dead).set d (D w b (sl H.n (addS w ps x y).length) (c + 1))).push (arr (addS w ps x y)) := by rfl) :
    over3 11 [.pointer (some ⟨d, 0, none⟩), .int .i64 x, .int .i64 y] H = some (v, H', [d, a]) :=
  Dg.ofLaw_is u11 ⟨d, w, b, c, x, y, rfl, hl, hx, .inr ⟨a, ps, hd, ha, hne, det, h0, by rw [hv, hH]⟩⟩
theorem call12 {H : Heap} {e1 m1 z1 e2 m2 z2 lx cx ly cy w : Nat} {b k : Int} {sx sy : Option Nat} {xs ys : List Int} {v : Value} (hx : H.get 0 = .cells (i64s xs) e1 m1 z1) (hy : H.get 1 = .cells (i64s ys) e2 m2 z2) (s : StepArgs w b xs ys lx ly) (hk : k ≤ 900) (hv : v = stepV w b xs ys (min lx ly) k) :
    over3 12 [.int .i64 (w : Int), .int .i64 b, .slice (some ⟨0, 0, sx⟩) lx cx, .slice (some ⟨1, 0, sy⟩) ly cy, .int .i64 k] H = some (v, H, []) :=
  Dg.ofLaw_is u12 ⟨0, 1, e1, m1, z1, e2, m2, z2, lx, cx, ly, cy, w, b, k, sx, sy, xs, ys, rfl, by decide, hx, hy, s, hk, by rw [hv]⟩
theorem In7 : In 7 := by unfold In; omega
theorem len_eq {m w i : Nat} (h : m = min (i + 1) (2 * w)) : Value.bool (!(((m : Nat) : Int) == (if 2 * (w : Int) < ((i + 1 : Nat) : Int) then 2 * (w : Int) else ((i + 1 : Nat) : Int)))) = .bool false := by
  refine Dg.bool_eq ?_
  rw [Bool.not_eq_false', beq_iff_eq]
  split <;> omega

noncomputable def sbs3 : List Nat := sbs.set 3 14
noncomputable def c3 : Code := (Try.f3.body).getD .skip
noncomputable def lb3 : Code := bodyOf (bodyOf (tailOf (headOf (tailOf (tailOf (tailOf (tailOf (tailOf (tailOf c3)))))))))
def aX (lx cx : Nat) : Value := .slice (some ⟨0, 0, none⟩) lx cx
def aY (ly cy : Nat) : Value := .slice (some ⟨1, 0, none⟩) ly cy
def S3 (w : Nat) (b at' : Int) (lx cx ly cy n i d : Nat) : List Value :=
  [.int .i64 w, .int .i64 b, aX lx cx, aY ly cy, .int .i64 at', undef, undef, undef, undef, undef, .bool false, .int .i64 n, .pointer (some ⟨d, 0, none⟩), .int .i64 0] ++ (js 42 ++ ([.int .i64 n, .int .i64 i] ++ js 99))
def oX (xs : List Int) (e : Nat) : AObj := .cells (i64s xs) e 2 1
def oY (xs : List Int) (e : Nat) : AObj := .cells (i64s xs) e 2 1
noncomputable def keep3 : List Nat := (ue lb3 [] []).1
noncomputable abbrev run3 : St → Option (Ex × St) := evCode Try.prog 0 (bodied Try.prog) (evCall Try.prog 0 (bodied Try.prog) over3 sbs3 1000 19) 2 14 1000 lb3
noncomputable abbrev cl3 : St → St := cleanSt 2 14 keep3
theorem gc3 (w : Nat) (b at' : Int) (lx cx ly cy n i d a m : Nat) (c : Int) (q : List (Int × Int)) (H : Heap) (hd0 : 2 ≤ d) (ha0 : 2 ≤ a) (hne : a ≠ d) (hn : 2 ≤ H.n) (hd : H.get d = D w b (sl a m) c) (ha : H.get a = arr q) (o1 o2 : AObj) (hdrop : H.objs.drop (H.n - 2) = [o1, o2])
    (hids : Dg.idsOfL (S3 w b at' lx cx ly cy n i d) = [0, 1, d]) (hren : Dg.renL (Dg.renK 2 [d, a]) (S3 w b at' lx cx ly cy n i d) = S3 w b at' lx cx ly cy n i 2) (hra : Dg.renK 2 [d, a] a = 3) :
    Dg.gcAt 2 (S3 w b at' lx cx ly cy n i d) [] H = (S3 w b at' lx cx ly cy n i 2, ⟨4, [arr q, D w b (sl 3 m) c, o1, o2]⟩) := by
  have hcol : Dg.collect 2 H 100000 (Dg.idsOfL (S3 w b at' lx cx ly cy n i d) ++ ([] : List Nat).flatMap fun k => (H.get k).ids) [] = some [d, a] := by
    rw [hids]
    show Dg.collect 2 H 100000 [0, 1, d] [] = _
    rw [Dg.collect_skip (.inl (by omega)), Dg.collect_skip (.inl (by omega)), Dg.collect_take (l := [a]) hd0 (by simp) (by rw [hd, D_ids]), List.append_nil, Dg.collect_take (l := []) ha0 (by simp [hne]) (by rw [ha, arr_ids])]
    exact Dg.collect_nil
  have h2 : [d, a].map (fun k => (H.get k).ren (Dg.renK 2 [d, a])) = [D w b (sl 3 m) c, arr q] := by
    simp only [List.map_cons, List.map_nil, hd, ha, D_ren, arr_ren, hra]
  rw [Dg.gc_is [d, a] [] [D w b (sl 3 m) c, arr q] hcol hn rfl h2, hren]
  simp only [List.foldl_cons, List.foldl_nil, List.zip_nil_left, Heap.push, hdrop]
theorem gc_nil (w : Nat) (b at' : Int) (lx cx ly cy n i m : Nat) (c : Int) (q : List (Int × Int)) (Z y x : AObj) : Dg.gcAt 2 (S3 w b at' lx cx ly cy n i 2) [] ⟨5, [Z, arr q, D w b (sl 3 m) c, y, x]⟩ = (S3 w b at' lx cx ly cy n i 2, ⟨4, [arr q, D w b (sl 3 m) c, y, x]⟩) :=
  gc3 w b at' lx cx ly cy n i 2 3 m c q _ (by omega) (by omega) (by omega) (by show 2 ≤ 5; omega) rfl rfl y x rfl (by kernel_rfl) (by kernel_rfl) (by kernel_rfl)
theorem gc_arr (w : Nat) (b at' : Int) (lx cx ly cy n i m : Nat) (c : Int) (q : List (Int × Int)) (Z y x : AObj) : Dg.gcAt 2 (S3 w b at' lx cx ly cy n i 2) [] ⟨6, [Z, arr q, .dead, D w b (sl 4 m) c, y, x]⟩ = (S3 w b at' lx cx ly cy n i 2, ⟨4, [arr q, D w b (sl 3 m) c, y, x]⟩) :=
  gc3 w b at' lx cx ly cy n i 2 4 m c q _ (by omega) (by omega) (by omega) (by show 2 ≤ 6; omega) rfl rfl y x rfl (by kernel_rfl) (by kernel_rfl) (by kernel_rfl)
theorem gc_nil_copy (w : Nat) (b at' : Int) (lx cx ly cy n i m : Nat) (c : Int) (q : List (Int × Int)) (Z y x : AObj) {g1 g2 : AObj} : Dg.gcAt 2 (S3 w b at' lx cx ly cy n i 3) [] ⟨7, [Z, arr q, g1, D w b (sl 5 m) c, g2, y, x]⟩ = (S3 w b at' lx cx ly cy n i 2, ⟨4, [arr q, D w b (sl 3 m) c, y, x]⟩) :=
  gc3 w b at' lx cx ly cy n i 3 5 m c q _ (by omega) (by omega) (by omega) (by show 2 ≤ 7; omega) rfl rfl y x rfl (by kernel_rfl) (by kernel_rfl) (by kernel_rfl)
theorem gc_arr_copy (w : Nat) (b at' : Int) (lx cx ly cy n i m : Nat) (c : Int) (q : List (Int × Int)) (Z y x : AObj) {g1 g2 : AObj} : Dg.gcAt 2 (S3 w b at' lx cx ly cy n i 4) [] ⟨9, [Z, arr q, g1, .dead, D w b (sl 7 m) c, .dead, g2, y, x]⟩ = (S3 w b at' lx cx ly cy n i 2, ⟨4, [arr q, D w b (sl 3 m) c, y, x]⟩) :=
  gc3 w b at' lx cx ly cy n i 4 7 m c q _ (by omega) (by omega) (by omega) (by show 2 ≤ 9; omega) rfl rfl y x rfl (by kernel_rfl) (by kernel_rfl) (by kernel_rfl)

theorem round_nil (w lx cx ly cy n e1 e2 : Nat) (b at' : Int) (xs ys : List Int)  (hw : 0 < w) (hw1 : w ≤ 64) (hi : 0 < n) (hn : n ≤ 200) (hat : (((0 : Nat) : Int) == at') = false) (hlx : n ≤ lx) (hly : n ≤ ly) (hcx : lx ≤ cx) (hcy : ly ≤ cy) (hxl : xs.length = cx) (hyl : ys.length = cy) (hx : In (xs.getD 0 0)) (sa : StepArgs w b xs ys (0 + 1) (0 + 1)) (det0 : Det w b 0 []) (hs : stepV w b xs ys (min (0 + 1) (0 + 1)) (((0 + 1 : Nat) : Int) - (w : Int)) = .tuple #[.bool false, .int .i64 0, .int .i64 0]) :
    ∃ s', run3 ⟨S3 w b at' lx cx ly cy n 0 2, ⟨3, [D w b (.slice none 0 0) 0, oY ys e2, oX xs e1]⟩, []⟩ = some (.normal, s') ∧ cl3 s' = ⟨S3 w b at' lx cx ly cy n (0 + 1) 2, ⟨4, [arr [((xs.getD 0 0), (ys.getD 0 0))], D w b (sl 3 1) ((0 + 1 : Nat) : Int), oY ys e2, oX xs e1]⟩, []⟩ :=
  Dg.code_round3 (f := 3) keep3 [.val 3 58 (.bool true),
    .val 3 62 (.bool false),
    .soft 3 74 (.pointer (some ⟨0, 0, none⟩)),
    .soft 3 75 (.int .i64 (xs.getD 0 0)),
    .soft 3 78 (.pointer (some ⟨1, 0, none⟩)),
    .soft 3 79 (.int .i64 (ys.getD 0 0)),
    .call 11 (zeroR) ⟨4, [arr [((xs.getD 0 0), (ys.getD 0 0))], D w b (sl 3 1) (0 + 1), oY ys e2, oX xs e1]⟩ [2],
    .val 3 88 (.int .i64 (((0 + 1 : Nat) : Int))),
    .soft 3 89 (.slice (some ⟨0, 0, none⟩) (0 + 1) cx),
    .val 3 92 (.int .i64 (((0 + 1 : Nat) : Int))),
    .soft 3 93 (.slice (some ⟨1, 0, none⟩) (0 + 1) cy),
    .val 3 95 (.int .i64 (((0 + 1 : Nat) : Int))),
    .val 3 97 (.int .i64 (((0 + 1 : Nat) : Int) - (w : Int))),
    .call 12 (.tuple #[.bool false, .int .i64 0, .int .i64 0]) ⟨5, [Z31, arr [((xs.getD 0 0), (ys.getD 0 0))], D w b (sl 3 1) (0 + 1), oY ys e2, oX xs e1]⟩ [],
    .val 3 142 (.int .i64 (((0 + 1 : Nat) : Int))),
    .val 3 143 (.int .u64 (((0 + 1 : Nat) : Int))),
    .val 3 144 (.bool false),
    .val 3 149 (.int .i64 (((0 + 1 : Nat) : Int))),
    .val 3 151 (.int .i64 (2 * (w : Int))),
    .val 3 153 (.bool false),
    .val 3 155 (.int .i64 (((0 + 1 : Nat) : Int)))]
    (ts' := S3 w b at' lx cx ly cy n (0 + 1) 2) (H' := ⟨5, [Z31, arr [((xs.getD 0 0), (ys.getD 0 0))], D w b (sl 3 1) (0 + 1), oY ys e2, oX xs e1]⟩) (log := [])
    [Value.bool (decide (((0 : Nat) : Int) < (n : Int))) = .bool true,
    Value.bool (((0 : Nat) : Int) == at') = .bool false,
    (0 : Int) ≤ ((0 : Nat) : Int) ∧ ((0 : Nat) : Int) < (lx : Int),
    Value.pointer (some ⟨0, 0 + 0 * 1, none⟩) = .pointer (some ⟨0, 0, none⟩),
    (i64s xs)[0]? = some (.int .i64 (xs.getD 0 0)),
    (0 : Int) ≤ ((0 : Nat) : Int) ∧ ((0 : Nat) : Int) < (ly : Int),
    Value.pointer (some ⟨1, 0 + 0 * 1, none⟩) = .pointer (some ⟨1, 0, none⟩),
    (i64s ys)[0]? = some (.int .i64 (ys.getD 0 0)),
    evCall Try.prog 0 (bodied Try.prog) over3 sbs3 1000 19 11 [.pointer (some ⟨2, 0, none⟩), .int .i64 (xs.getD 0 0), .int .i64 (ys.getD 0 0)] ⟨3, [D w b (.slice none 0 0) 0, oY ys e2, oX xs e1]⟩ = some (zeroR, ⟨4, [arr [((xs.getD 0 0), (ys.getD 0 0))], D w b (sl 3 1) (0 + 1), oY ys e2, oX xs e1]⟩, [2]),
    Value.int .i64 (IntKind.i64.wrap (((0 : Nat) : Int) + 1)) = .int .i64 (((0 + 1 : Nat) : Int)),
    (0 : Int) ≤ ((0 + 1 : Nat) : Int),
    0 ≤ 0 + 1 ∧ 0 + 1 ≤ cx ∧ cx ≤ cx,
    (none : Option Nat).isSome = true → ¬ (0 = cx ∧ 0 ≠ 0),
    Value.slice (some ⟨0, if cx = 0 then 0 else 0 + 0 * 1, none⟩) (0 + 1 - 0) (cx - 0) = .slice (some ⟨0, 0, none⟩) (0 + 1) cx,
    Value.int .i64 (IntKind.i64.wrap (((0 : Nat) : Int) + 1)) = .int .i64 (((0 + 1 : Nat) : Int)),
    (0 : Int) ≤ ((0 + 1 : Nat) : Int),
    0 ≤ 0 + 1 ∧ 0 + 1 ≤ cy ∧ cy ≤ cy,
    (none : Option Nat).isSome = true → ¬ (0 = cy ∧ 0 ≠ 0),
    Value.slice (some ⟨1, if cy = 0 then 0 else 0 + 0 * 1, none⟩) (0 + 1 - 0) (cy - 0) = .slice (some ⟨1, 0, none⟩) (0 + 1) cy,
    Value.int .i64 (IntKind.i64.wrap (((0 : Nat) : Int) + 1)) = .int .i64 (((0 + 1 : Nat) : Int)),
    Value.int .i64 (IntKind.i64.wrap (((0 + 1 : Nat) : Int) - (w : Int))) = .int .i64 (((0 + 1 : Nat) : Int) - (w : Int)),
    evCall Try.prog 0 (bodied Try.prog) over3 sbs3 1000 19 12 [.int .i64 (w : Int), .int .i64 b, .slice (some ⟨0, 0, none⟩) (0 + 1) cx, .slice (some ⟨1, 0, none⟩) (0 + 1) cy, .int .i64 (((0 + 1 : Nat) : Int) - (w : Int))] ⟨5, [Z31, arr [((xs.getD 0 0), (ys.getD 0 0))], D w b (sl 3 1) (0 + 1), oY ys e2, oX xs e1]⟩ = some (.tuple #[.bool false, .int .i64 0, .int .i64 0], ⟨5, [Z31, arr [((xs.getD 0 0), (ys.getD 0 0))], D w b (sl 3 1) (0 + 1), oY ys e2, oX xs e1]⟩, []),
    Value.int .i64 (IntKind.i64.wrap (((0 : Nat) : Int) + 1)) = .int .i64 (((0 + 1 : Nat) : Int)),
    Value.int .u64 (IntKind.u64.wrap (((0 + 1 : Nat) : Int))) = .int .u64 (((0 + 1 : Nat) : Int)),
    Value.bool (!((((0 : Nat) : Int) + 1) == ((0 + 1 : Nat) : Int))) = .bool false,
    Value.int .i64 (IntKind.i64.wrap (((0 : Nat) : Int) + 1)) = .int .i64 (((0 + 1 : Nat) : Int)),
    Value.int .i64 (IntKind.i64.wrap (2 * (w : Int))) = .int .i64 (2 * (w : Int)),
    Value.bool (!(((1 : Nat) : Int) == (if 2 * (w : Int) < ((0 + 1 : Nat) : Int) then 2 * (w : Int) else ((0 + 1 : Nat) : Int)))) = .bool false,
    Value.int .i64 (IntKind.i64.wrap (((0 : Nat) : Int) + 1)) = .int .i64 (((0 + 1 : Nat) : Int))] (by kernel_rfl)
    ⟨Dg.vtrue (by omega), by rw [hat], by omega, Dg.ptr_eq (by omega), i64_load xs 0 (by omega), by omega, Dg.ptr_eq (by omega), i64_load ys 0 (by omega), Dg.evCall_over (call11n (d := 2) (by rfl) (by rfl) det0 hx rfl), Dg.i64_eq (by omega) (by omega) (by omega), by omega, by omega, by simp, by simp, Dg.i64_eq (by omega) (by omega) (by omega), by omega, by omega, by simp, by simp, Dg.i64_eq (by omega) (by omega) (by omega), Dg.i64_eq (by omega) (by omega) (by omega), Dg.evCall_over (call12 (by rfl) (by rfl) sa (by omega) (by rw [hs])), Dg.i64_eq (by omega) (by omega) (by omega), Dg.u64_eq (by omega) (by omega) (by omega), by simp, Dg.i64_eq (by omega) (by omega) (by omega), Dg.i64_eq (by omega) (by omega) (by omega), len_eq (by omega), Dg.i64_eq (by omega) (by omega) (by omega), trivial⟩ (gc_nil _ _ _ _ _ _ _ _ _ _ _ _ _ _ _)

theorem round_nil_copy (w lx cx ly cy n e1 e2 : Nat) (b at' : Int) (xs ys : List Int)  (hw : 0 < w) (hw1 : w ≤ 64) (hi : 0 < n) (hn : n ≤ 200) (hat : (((0 : Nat) : Int) == at') = true) (hlx : n ≤ lx) (hly : n ≤ ly) (hcx : lx ≤ cx) (hcy : ly ≤ cy) (hxl : xs.length = cx) (hyl : ys.length = cy) (hx : In (xs.getD 0 0)) (sa : StepArgs w b xs ys (0 + 1) (0 + 1)) (det0 : Det w b 0 []) (hs : stepV w b xs ys (min (0 + 1) (0 + 1)) (((0 + 1 : Nat) : Int) - (w : Int)) = .tuple #[.bool false, .int .i64 0, .int .i64 0]) :
    ∃ s', run3 ⟨S3 w b at' lx cx ly cy n 0 2, ⟨3, [D w b (.slice none 0 0) 0, oY ys e2, oX xs e1]⟩, []⟩ = some (.normal, s') ∧ cl3 s' = ⟨S3 w b at' lx cx ly cy n (0 + 1) 2, ⟨4, [arr [((xs.getD 0 0), (ys.getD 0 0))], D w b (sl 3 1) ((0 + 1 : Nat) : Int), oY ys e2, oX xs e1]⟩, []⟩ :=
  Dg.code_round3 (f := 3) keep3 [.val 3 58 (.bool true),
    .val 3 62 (.bool true),
    .call 10 (.pointer (some ⟨3, 0, none⟩)) ⟨4, [D w b (.slice none 0 0) 0, D w b (.slice none 0 0) 0, oY ys e2, oX xs e1]⟩ [],
    .call 11 zeroR ⟨5, [arr [(7, -1)], D w b (.slice none 0 0) 0, D w b (sl 4 1) (0 + 1), oY ys e2, oX xs e1]⟩ [2],
    .soft 3 74 (.pointer (some ⟨0, 0, none⟩)),
    .soft 3 75 (.int .i64 (xs.getD 0 0)),
    .soft 3 78 (.pointer (some ⟨1, 0, none⟩)),
    .soft 3 79 (.int .i64 (ys.getD 0 0)),
    .call 11 (zeroR) ⟨6, [arr [((xs.getD 0 0), (ys.getD 0 0))], arr [(7, -1)], D w b (sl 5 1) (0 + 1), D w b (sl 4 1) (0 + 1), oY ys e2, oX xs e1]⟩ [3],
    .val 3 88 (.int .i64 (((0 + 1 : Nat) : Int))),
    .soft 3 89 (.slice (some ⟨0, 0, none⟩) (0 + 1) cx),
    .val 3 92 (.int .i64 (((0 + 1 : Nat) : Int))),
    .soft 3 93 (.slice (some ⟨1, 0, none⟩) (0 + 1) cy),
    .val 3 95 (.int .i64 (((0 + 1 : Nat) : Int))),
    .val 3 97 (.int .i64 (((0 + 1 : Nat) : Int) - (w : Int))),
    .call 12 (.tuple #[.bool false, .int .i64 0, .int .i64 0]) ⟨7, [Z31, arr [((xs.getD 0 0), (ys.getD 0 0))], arr [(7, -1)], D w b (sl 5 1) (0 + 1), D w b (sl 4 1) (0 + 1), oY ys e2, oX xs e1]⟩ [],
    .val 3 142 (.int .i64 (((0 + 1 : Nat) : Int))),
    .val 3 143 (.int .u64 (((0 + 1 : Nat) : Int))),
    .val 3 144 (.bool false),
    .val 3 149 (.int .i64 (((0 + 1 : Nat) : Int))),
    .val 3 151 (.int .i64 (2 * (w : Int))),
    .val 3 153 (.bool false),
    .val 3 155 (.int .i64 (((0 + 1 : Nat) : Int)))]
    (ts' := S3 w b at' lx cx ly cy n (0 + 1) 3) (H' := ⟨7, [Z31, arr [((xs.getD 0 0), (ys.getD 0 0))], arr [(7, -1)], D w b (sl 5 1) (0 + 1), D w b (sl 4 1) (0 + 1), oY ys e2, oX xs e1]⟩) (log := [])
    [Value.bool (decide (((0 : Nat) : Int) < (n : Int))) = .bool true,
    Value.bool (((0 : Nat) : Int) == at') = .bool true,
    evCall Try.prog 0 (bodied Try.prog) over3 sbs3 1000 19 10 [.pointer (some ⟨2, 0, none⟩)] ⟨3, [D w b (.slice none 0 0) 0, oY ys e2, oX xs e1]⟩ = some (.pointer (some ⟨3, 0, none⟩), ⟨4, [D w b (.slice none 0 0) 0, D w b (.slice none 0 0) 0, oY ys e2, oX xs e1]⟩, []),
    evCall Try.prog 0 (bodied Try.prog) over3 sbs3 1000 19 11 [.pointer (some ⟨2, 0, none⟩), .int .i64 7, .int .i64 (-1)] ⟨4, [D w b (.slice none 0 0) 0, D w b (.slice none 0 0) 0, oY ys e2, oX xs e1]⟩ = some (zeroR, ⟨5, [arr [(7, -1)], D w b (.slice none 0 0) 0, D w b (sl 4 1) (0 + 1), oY ys e2, oX xs e1]⟩, [2]),
    (0 : Int) ≤ ((0 : Nat) : Int) ∧ ((0 : Nat) : Int) < (lx : Int),
    Value.pointer (some ⟨0, 0 + 0 * 1, none⟩) = .pointer (some ⟨0, 0, none⟩),
    (i64s xs)[0]? = some (.int .i64 (xs.getD 0 0)),
    (0 : Int) ≤ ((0 : Nat) : Int) ∧ ((0 : Nat) : Int) < (ly : Int),
    Value.pointer (some ⟨1, 0 + 0 * 1, none⟩) = .pointer (some ⟨1, 0, none⟩),
    (i64s ys)[0]? = some (.int .i64 (ys.getD 0 0)),
    evCall Try.prog 0 (bodied Try.prog) over3 sbs3 1000 19 11 [.pointer (some ⟨3, 0, none⟩), .int .i64 (xs.getD 0 0), .int .i64 (ys.getD 0 0)] ⟨5, [arr [(7, -1)], D w b (.slice none 0 0) 0, D w b (sl 4 1) (0 + 1), oY ys e2, oX xs e1]⟩ = some (zeroR, ⟨6, [arr [((xs.getD 0 0), (ys.getD 0 0))], arr [(7, -1)], D w b (sl 5 1) (0 + 1), D w b (sl 4 1) (0 + 1), oY ys e2, oX xs e1]⟩, [3]),
    Value.int .i64 (IntKind.i64.wrap (((0 : Nat) : Int) + 1)) = .int .i64 (((0 + 1 : Nat) : Int)),
    (0 : Int) ≤ ((0 + 1 : Nat) : Int),
    0 ≤ 0 + 1 ∧ 0 + 1 ≤ cx ∧ cx ≤ cx,
    (none : Option Nat).isSome = true → ¬ (0 = cx ∧ 0 ≠ 0),
    Value.slice (some ⟨0, if cx = 0 then 0 else 0 + 0 * 1, none⟩) (0 + 1 - 0) (cx - 0) = .slice (some ⟨0, 0, none⟩) (0 + 1) cx,
    Value.int .i64 (IntKind.i64.wrap (((0 : Nat) : Int) + 1)) = .int .i64 (((0 + 1 : Nat) : Int)),
    (0 : Int) ≤ ((0 + 1 : Nat) : Int),
    0 ≤ 0 + 1 ∧ 0 + 1 ≤ cy ∧ cy ≤ cy,
    (none : Option Nat).isSome = true → ¬ (0 = cy ∧ 0 ≠ 0),
    Value.slice (some ⟨1, if cy = 0 then 0 else 0 + 0 * 1, none⟩) (0 + 1 - 0) (cy - 0) = .slice (some ⟨1, 0, none⟩) (0 + 1) cy,
    Value.int .i64 (IntKind.i64.wrap (((0 : Nat) : Int) + 1)) = .int .i64 (((0 + 1 : Nat) : Int)),
    Value.int .i64 (IntKind.i64.wrap (((0 + 1 : Nat) : Int) - (w : Int))) = .int .i64 (((0 + 1 : Nat) : Int) - (w : Int)),
    evCall Try.prog 0 (bodied Try.prog) over3 sbs3 1000 19 12 [.int .i64 (w : Int), .int .i64 b, .slice (some ⟨0, 0, none⟩) (0 + 1) cx, .slice (some ⟨1, 0, none⟩) (0 + 1) cy, .int .i64 (((0 + 1 : Nat) : Int) - (w : Int))] ⟨7, [Z31, arr [((xs.getD 0 0), (ys.getD 0 0))], arr [(7, -1)], D w b (sl 5 1) (0 + 1), D w b (sl 4 1) (0 + 1), oY ys e2, oX xs e1]⟩ = some (.tuple #[.bool false, .int .i64 0, .int .i64 0], ⟨7, [Z31, arr [((xs.getD 0 0), (ys.getD 0 0))], arr [(7, -1)], D w b (sl 5 1) (0 + 1), D w b (sl 4 1) (0 + 1), oY ys e2, oX xs e1]⟩, []),
    Value.int .i64 (IntKind.i64.wrap (((0 : Nat) : Int) + 1)) = .int .i64 (((0 + 1 : Nat) : Int)),
    Value.int .u64 (IntKind.u64.wrap (((0 + 1 : Nat) : Int))) = .int .u64 (((0 + 1 : Nat) : Int)),
    Value.bool (!((((0 : Nat) : Int) + 1) == ((0 + 1 : Nat) : Int))) = .bool false,
    Value.int .i64 (IntKind.i64.wrap (((0 : Nat) : Int) + 1)) = .int .i64 (((0 + 1 : Nat) : Int)),
    Value.int .i64 (IntKind.i64.wrap (2 * (w : Int))) = .int .i64 (2 * (w : Int)),
    Value.bool (!(((1 : Nat) : Int) == (if 2 * (w : Int) < ((0 + 1 : Nat) : Int) then 2 * (w : Int) else ((0 + 1 : Nat) : Int)))) = .bool false,
    Value.int .i64 (IntKind.i64.wrap (((0 : Nat) : Int) + 1)) = .int .i64 (((0 + 1 : Nat) : Int))] (by kernel_rfl)
    ⟨Dg.vtrue (by omega), by rw [hat], Dg.evCall_over (call10n (d := 2) (by rfl) (by rfl) hw rfl rfl), Dg.evCall_over (call11n (d := 2) (by rfl) (by rfl) det0 In7 rfl), by omega, Dg.ptr_eq (by omega), i64_load xs 0 (by omega), by omega, Dg.ptr_eq (by omega), i64_load ys 0 (by omega), Dg.evCall_over (call11n (d := 3) (by rfl) (by rfl) det0 hx rfl), Dg.i64_eq (by omega) (by omega) (by omega), by omega, by omega, by simp, by simp, Dg.i64_eq (by omega) (by omega) (by omega), by omega, by omega, by simp, by simp, Dg.i64_eq (by omega) (by omega) (by omega), Dg.i64_eq (by omega) (by omega) (by omega), Dg.evCall_over (call12 (by rfl) (by rfl) sa (by omega) (by rw [hs])), Dg.i64_eq (by omega) (by omega) (by omega), Dg.u64_eq (by omega) (by omega) (by omega), by simp, Dg.i64_eq (by omega) (by omega) (by omega), Dg.i64_eq (by omega) (by omega) (by omega), len_eq (by omega), Dg.i64_eq (by omega) (by omega) (by omega), trivial⟩ (gc_nil_copy _ _ _ _ _ _ _ _ _ _ _ _ _ _ _)

theorem round_arr (w lx cx ly cy n e1 e2 : Nat) (b at' : Int) (xs ys : List Int) (i : Nat) (ps : List (Int × Int))  (hw : 0 < w) (hw1 : w ≤ 64) (hi : i < n) (hn : n ≤ 200) (hat : (((i : Nat) : Int) == at') = false) (hlx : n ≤ lx) (hly : n ≤ ly) (hcx : lx ≤ cx) (hcy : ly ≤ cy) (hxl : xs.length = cx) (hyl : ys.length = cy) (hx : In (xs.getD i 0)) (sa : StepArgs w b xs ys (i + 1) (i + 1)) (det : Det w b ((i : Nat) : Int) ps) (h0 : 0 < ps.length) (hlen : ps.length = min i (2 * w)) (hr : addR w b (((i : Nat) : Int) + 1) (addS w ps (xs.getD i 0) (ys.getD i 0)) = zeroR) (hs : stepV w b xs ys (min (i + 1) (i + 1)) (((i + 1 : Nat) : Int) - (w : Int)) = .tuple #[.bool false, .int .i64 0, .int .i64 0]) :
    ∃ s', run3 ⟨S3 w b at' lx cx ly cy n i 2, ⟨4, [arr ps, D w b (sl 3 ps.length) ((i : Nat) : Int), oY ys e2, oX xs e1]⟩, []⟩ = some (.normal, s') ∧ cl3 s' = ⟨S3 w b at' lx cx ly cy n (i + 1) 2, ⟨4, [arr (addS w ps (xs.getD i 0) (ys.getD i 0)), D w b (sl 3 (addS w ps (xs.getD i 0) (ys.getD i 0)).length) ((i + 1 : Nat) : Int), oY ys e2, oX xs e1]⟩, []⟩ :=
  Dg.code_round3 (f := 3) keep3 [.val 3 58 (.bool true),
    .val 3 62 (.bool false),
    .soft 3 74 (.pointer (some ⟨0, i, none⟩)),
    .soft 3 75 (.int .i64 (xs.getD i 0)),
    .soft 3 78 (.pointer (some ⟨1, i, none⟩)),
    .soft 3 79 (.int .i64 (ys.getD i 0)),
    .call 11 (zeroR) ⟨5, [arr (addS w ps (xs.getD i 0) (ys.getD i 0)), .dead, D w b (sl 4 (addS w ps (xs.getD i 0) (ys.getD i 0)).length) (((i : Nat) : Int) + 1), oY ys e2, oX xs e1]⟩ [2, 3],
    .val 3 88 (.int .i64 (((i + 1 : Nat) : Int))),
    .soft 3 89 (.slice (some ⟨0, 0, none⟩) (i + 1) cx),
    .val 3 92 (.int .i64 (((i + 1 : Nat) : Int))),
    .soft 3 93 (.slice (some ⟨1, 0, none⟩) (i + 1) cy),
    .val 3 95 (.int .i64 (((i + 1 : Nat) : Int))),
    .val 3 97 (.int .i64 (((i + 1 : Nat) : Int) - (w : Int))),
    .call 12 (.tuple #[.bool false, .int .i64 0, .int .i64 0]) ⟨6, [Z31, arr (addS w ps (xs.getD i 0) (ys.getD i 0)), .dead, D w b (sl 4 (addS w ps (xs.getD i 0) (ys.getD i 0)).length) (((i : Nat) : Int) + 1), oY ys e2, oX xs e1]⟩ [],
    .val 3 142 (.int .i64 (((i + 1 : Nat) : Int))),
    .val 3 143 (.int .u64 (((i + 1 : Nat) : Int))),
    .val 3 144 (.bool false),
    .val 3 149 (.int .i64 (((i + 1 : Nat) : Int))),
    .val 3 151 (.int .i64 (2 * (w : Int))),
    .val 3 153 (.bool false),
    .val 3 155 (.int .i64 (((i + 1 : Nat) : Int)))]
    (ts' := S3 w b at' lx cx ly cy n (i + 1) 2) (H' := ⟨6, [Z31, arr (addS w ps (xs.getD i 0) (ys.getD i 0)), .dead, D w b (sl 4 (addS w ps (xs.getD i 0) (ys.getD i 0)).length) (((i : Nat) : Int) + 1), oY ys e2, oX xs e1]⟩) (log := [])
    [Value.bool (decide (((i : Nat) : Int) < (n : Int))) = .bool true,
    Value.bool (((i : Nat) : Int) == at') = .bool false,
    (0 : Int) ≤ ((i : Nat) : Int) ∧ ((i : Nat) : Int) < (lx : Int),
    Value.pointer (some ⟨0, 0 + i * 1, none⟩) = .pointer (some ⟨0, i, none⟩),
    (i64s xs)[i]? = some (.int .i64 (xs.getD i 0)),
    (0 : Int) ≤ ((i : Nat) : Int) ∧ ((i : Nat) : Int) < (ly : Int),
    Value.pointer (some ⟨1, 0 + i * 1, none⟩) = .pointer (some ⟨1, i, none⟩),
    (i64s ys)[i]? = some (.int .i64 (ys.getD i 0)),
    evCall Try.prog 0 (bodied Try.prog) over3 sbs3 1000 19 11 [.pointer (some ⟨2, 0, none⟩), .int .i64 (xs.getD i 0), .int .i64 (ys.getD i 0)] ⟨4, [arr ps, D w b (sl 3 ps.length) ((i : Nat) : Int), oY ys e2, oX xs e1]⟩ = some (zeroR, ⟨5, [arr (addS w ps (xs.getD i 0) (ys.getD i 0)), .dead, D w b (sl 4 (addS w ps (xs.getD i 0) (ys.getD i 0)).length) (((i : Nat) : Int) + 1), oY ys e2, oX xs e1]⟩, [2, 3]),
    Value.int .i64 (IntKind.i64.wrap (((i : Nat) : Int) + 1)) = .int .i64 (((i + 1 : Nat) : Int)),
    (0 : Int) ≤ ((i + 1 : Nat) : Int),
    0 ≤ i + 1 ∧ i + 1 ≤ cx ∧ cx ≤ cx,
    (none : Option Nat).isSome = true → ¬ (0 = cx ∧ 0 ≠ 0),
    Value.slice (some ⟨0, if cx = 0 then 0 else 0 + 0 * 1, none⟩) (i + 1 - 0) (cx - 0) = .slice (some ⟨0, 0, none⟩) (i + 1) cx,
    Value.int .i64 (IntKind.i64.wrap (((i : Nat) : Int) + 1)) = .int .i64 (((i + 1 : Nat) : Int)),
    (0 : Int) ≤ ((i + 1 : Nat) : Int),
    0 ≤ i + 1 ∧ i + 1 ≤ cy ∧ cy ≤ cy,
    (none : Option Nat).isSome = true → ¬ (0 = cy ∧ 0 ≠ 0),
    Value.slice (some ⟨1, if cy = 0 then 0 else 0 + 0 * 1, none⟩) (i + 1 - 0) (cy - 0) = .slice (some ⟨1, 0, none⟩) (i + 1) cy,
    Value.int .i64 (IntKind.i64.wrap (((i : Nat) : Int) + 1)) = .int .i64 (((i + 1 : Nat) : Int)),
    Value.int .i64 (IntKind.i64.wrap (((i + 1 : Nat) : Int) - (w : Int))) = .int .i64 (((i + 1 : Nat) : Int) - (w : Int)),
    evCall Try.prog 0 (bodied Try.prog) over3 sbs3 1000 19 12 [.int .i64 (w : Int), .int .i64 b, .slice (some ⟨0, 0, none⟩) (i + 1) cx, .slice (some ⟨1, 0, none⟩) (i + 1) cy, .int .i64 (((i + 1 : Nat) : Int) - (w : Int))] ⟨6, [Z31, arr (addS w ps (xs.getD i 0) (ys.getD i 0)), .dead, D w b (sl 4 (addS w ps (xs.getD i 0) (ys.getD i 0)).length) (((i : Nat) : Int) + 1), oY ys e2, oX xs e1]⟩ = some (.tuple #[.bool false, .int .i64 0, .int .i64 0], ⟨6, [Z31, arr (addS w ps (xs.getD i 0) (ys.getD i 0)), .dead, D w b (sl 4 (addS w ps (xs.getD i 0) (ys.getD i 0)).length) (((i : Nat) : Int) + 1), oY ys e2, oX xs e1]⟩, []),
    Value.int .i64 (IntKind.i64.wrap (((i : Nat) : Int) + 1)) = .int .i64 (((i + 1 : Nat) : Int)),
    Value.int .u64 (IntKind.u64.wrap (((i + 1 : Nat) : Int))) = .int .u64 (((i + 1 : Nat) : Int)),
    Value.bool (!((((i : Nat) : Int) + 1) == ((i + 1 : Nat) : Int))) = .bool false,
    Value.int .i64 (IntKind.i64.wrap (((i : Nat) : Int) + 1)) = .int .i64 (((i + 1 : Nat) : Int)),
    Value.int .i64 (IntKind.i64.wrap (2 * (w : Int))) = .int .i64 (2 * (w : Int)),
    Value.bool (!((((addS w ps (xs.getD i 0) (ys.getD i 0)).length : Nat) : Int) == (if 2 * (w : Int) < ((i + 1 : Nat) : Int) then 2 * (w : Int) else ((i + 1 : Nat) : Int)))) = .bool false,
    Value.int .i64 (IntKind.i64.wrap (((i : Nat) : Int) + 1)) = .int .i64 (((i + 1 : Nat) : Int))] (by kernel_rfl)
    ⟨Dg.vtrue (by omega), by rw [hat], by omega, Dg.ptr_eq (by omega), i64_load xs i (by omega), by omega, Dg.ptr_eq (by omega), i64_load ys i (by omega), Dg.evCall_over (call11 (d := 2) (a := 3) (by rfl) (by rfl) (by rfl) (by decide) det hx h0 (by rw [hr])), Dg.i64_eq (by omega) (by omega) (by omega), by omega, by omega, by simp, by simp, Dg.i64_eq (by omega) (by omega) (by omega), by omega, by omega, by simp, by simp, Dg.i64_eq (by omega) (by omega) (by omega), Dg.i64_eq (by omega) (by omega) (by omega), Dg.evCall_over (call12 (by rfl) (by rfl) sa (by omega) (by rw [hs])), Dg.i64_eq (by omega) (by omega) (by omega), Dg.u64_eq (by omega) (by omega) (by omega), by simp, Dg.i64_eq (by omega) (by omega) (by omega), Dg.i64_eq (by omega) (by omega) (by omega), len_eq (by rw [addS_len det.len, hlen]; omega), Dg.i64_eq (by omega) (by omega) (by omega), trivial⟩ (gc_arr _ _ _ _ _ _ _ _ _ _ _ _ _ _ _)

theorem round_arr_step (w lx cx ly cy n e1 e2 : Nat) (b at' : Int) (xs ys : List Int) (i : Nat) (ps : List (Int × Int))  (hw : 0 < w) (hw1 : w ≤ 64) (hi : i < n) (hn : n ≤ 200) (hat : (((i : Nat) : Int) == at') = false) (hlx : n ≤ lx) (hly : n ≤ ly) (hcx : lx ≤ cx) (hcy : ly ≤ cy) (hxl : xs.length = cx) (hyl : ys.length = cy) (hx : In (xs.getD i 0)) (sa : StepArgs w b xs ys (i + 1) (i + 1)) (det : Det w b ((i : Nat) : Int) ps) (h0 : 0 < ps.length) (hlen : ps.length = min i (2 * w)) (hwi : 2 * w ≤ i + 1) (hr : addR w b (((i : Nat) : Int) + 1) (addS w ps (xs.getD i 0) (ys.getD i 0)) = .tuple #[.agg #[.int .u64 (((i : Nat) : Int) + 1 - (w : Int)), .int .i64 (r1 w (addS w ps (xs.getD i 0) (ys.getD i 0))), .int .i64 (r2 w (addS w ps (xs.getD i 0) (ys.getD i 0)))], .bool true]) (hs : stepV w b xs ys (min (i + 1) (i + 1)) (((i + 1 : Nat) : Int) - (w : Int)) = .tuple #[.bool true, .int .i64 (r1 w (addS w ps (xs.getD i 0) (ys.getD i 0))), .int .i64 (r2 w (addS w ps (xs.getD i 0) (ys.getD i 0)))]) :
    ∃ s', run3 ⟨S3 w b at' lx cx ly cy n i 2, ⟨4, [arr ps, D w b (sl 3 ps.length) ((i : Nat) : Int), oY ys e2, oX xs e1]⟩, []⟩ = some (.normal, s') ∧ cl3 s' = ⟨S3 w b at' lx cx ly cy n (i + 1) 2, ⟨4, [arr (addS w ps (xs.getD i 0) (ys.getD i 0)), D w b (sl 3 (addS w ps (xs.getD i 0) (ys.getD i 0)).length) ((i + 1 : Nat) : Int), oY ys e2, oX xs e1]⟩, []⟩ :=
  Dg.code_round3 (f := 3) keep3 [.val 3 58 (.bool true),
    .val 3 62 (.bool false),
    .soft 3 74 (.pointer (some ⟨0, i, none⟩)),
    .soft 3 75 (.int .i64 (xs.getD i 0)),
    .soft 3 78 (.pointer (some ⟨1, i, none⟩)),
    .soft 3 79 (.int .i64 (ys.getD i 0)),
    .call 11 (.tuple #[.agg #[.int .u64 (((i : Nat) : Int) + 1 - (w : Int)), .int .i64 (r1 w (addS w ps (xs.getD i 0) (ys.getD i 0))), .int .i64 (r2 w (addS w ps (xs.getD i 0) (ys.getD i 0)))], .bool true]) ⟨5, [arr (addS w ps (xs.getD i 0) (ys.getD i 0)), .dead, D w b (sl 4 (addS w ps (xs.getD i 0) (ys.getD i 0)).length) (((i : Nat) : Int) + 1), oY ys e2, oX xs e1]⟩ [2, 3],
    .val 3 88 (.int .i64 (((i + 1 : Nat) : Int))),
    .soft 3 89 (.slice (some ⟨0, 0, none⟩) (i + 1) cx),
    .val 3 92 (.int .i64 (((i + 1 : Nat) : Int))),
    .soft 3 93 (.slice (some ⟨1, 0, none⟩) (i + 1) cy),
    .val 3 95 (.int .i64 (((i + 1 : Nat) : Int))),
    .val 3 97 (.int .i64 (((i + 1 : Nat) : Int) - (w : Int))),
    .call 12 (.tuple #[.bool true, .int .i64 (r1 w (addS w ps (xs.getD i 0) (ys.getD i 0))), .int .i64 (r2 w (addS w ps (xs.getD i 0) (ys.getD i 0)))]) ⟨6, [.cells [.int .u64 (((i : Nat) : Int) + 1 - (w : Int)), .int .i64 (r1 w (addS w ps (xs.getD i 0) (ys.getD i 0))), .int .i64 (r2 w (addS w ps (xs.getD i 0) (ys.getD i 0)))] 31 0 1, arr (addS w ps (xs.getD i 0) (ys.getD i 0)), .dead, D w b (sl 4 (addS w ps (xs.getD i 0) (ys.getD i 0)).length) (((i : Nat) : Int) + 1), oY ys e2, oX xs e1]⟩ [],
    .val 3 111 (.int .i64 (((i + 1 : Nat) : Int))),
    .val 3 113 (.int .i64 (((i + 1 : Nat) : Int) - (w : Int))),
    .val 3 114 (.int .u64 (((i + 1 : Nat) : Int) - (w : Int))),
    .val 3 115 (.bool false),
    .val 3 120 (.bool false),
    .val 3 126 (.bool false),
    .val 3 142 (.int .i64 (((i + 1 : Nat) : Int))),
    .val 3 143 (.int .u64 (((i + 1 : Nat) : Int))),
    .val 3 144 (.bool false),
    .val 3 149 (.int .i64 (((i + 1 : Nat) : Int))),
    .val 3 151 (.int .i64 (2 * (w : Int))),
    .val 3 153 (.bool false),
    .val 3 155 (.int .i64 (((i + 1 : Nat) : Int)))]
    (ts' := S3 w b at' lx cx ly cy n (i + 1) 2) (H' := ⟨6, [.cells [.int .u64 (((i : Nat) : Int) + 1 - (w : Int)), .int .i64 (r1 w (addS w ps (xs.getD i 0) (ys.getD i 0))), .int .i64 (r2 w (addS w ps (xs.getD i 0) (ys.getD i 0)))] 31 0 1, arr (addS w ps (xs.getD i 0) (ys.getD i 0)), .dead, D w b (sl 4 (addS w ps (xs.getD i 0) (ys.getD i 0)).length) (((i : Nat) : Int) + 1), oY ys e2, oX xs e1]⟩) (log := [])
    [Value.bool (decide (((i : Nat) : Int) < (n : Int))) = .bool true,
    Value.bool (((i : Nat) : Int) == at') = .bool false,
    (0 : Int) ≤ ((i : Nat) : Int) ∧ ((i : Nat) : Int) < (lx : Int),
    Value.pointer (some ⟨0, 0 + i * 1, none⟩) = .pointer (some ⟨0, i, none⟩),
    (i64s xs)[i]? = some (.int .i64 (xs.getD i 0)),
    (0 : Int) ≤ ((i : Nat) : Int) ∧ ((i : Nat) : Int) < (ly : Int),
    Value.pointer (some ⟨1, 0 + i * 1, none⟩) = .pointer (some ⟨1, i, none⟩),
    (i64s ys)[i]? = some (.int .i64 (ys.getD i 0)),
    evCall Try.prog 0 (bodied Try.prog) over3 sbs3 1000 19 11 [.pointer (some ⟨2, 0, none⟩), .int .i64 (xs.getD i 0), .int .i64 (ys.getD i 0)] ⟨4, [arr ps, D w b (sl 3 ps.length) ((i : Nat) : Int), oY ys e2, oX xs e1]⟩ = some (.tuple #[.agg #[.int .u64 (((i : Nat) : Int) + 1 - (w : Int)), .int .i64 (r1 w (addS w ps (xs.getD i 0) (ys.getD i 0))), .int .i64 (r2 w (addS w ps (xs.getD i 0) (ys.getD i 0)))], .bool true], ⟨5, [arr (addS w ps (xs.getD i 0) (ys.getD i 0)), .dead, D w b (sl 4 (addS w ps (xs.getD i 0) (ys.getD i 0)).length) (((i : Nat) : Int) + 1), oY ys e2, oX xs e1]⟩, [2, 3]),
    Value.int .i64 (IntKind.i64.wrap (((i : Nat) : Int) + 1)) = .int .i64 (((i + 1 : Nat) : Int)),
    (0 : Int) ≤ ((i + 1 : Nat) : Int),
    0 ≤ i + 1 ∧ i + 1 ≤ cx ∧ cx ≤ cx,
    (none : Option Nat).isSome = true → ¬ (0 = cx ∧ 0 ≠ 0),
    Value.slice (some ⟨0, if cx = 0 then 0 else 0 + 0 * 1, none⟩) (i + 1 - 0) (cx - 0) = .slice (some ⟨0, 0, none⟩) (i + 1) cx,
    Value.int .i64 (IntKind.i64.wrap (((i : Nat) : Int) + 1)) = .int .i64 (((i + 1 : Nat) : Int)),
    (0 : Int) ≤ ((i + 1 : Nat) : Int),
    0 ≤ i + 1 ∧ i + 1 ≤ cy ∧ cy ≤ cy,
    (none : Option Nat).isSome = true → ¬ (0 = cy ∧ 0 ≠ 0),
    Value.slice (some ⟨1, if cy = 0 then 0 else 0 + 0 * 1, none⟩) (i + 1 - 0) (cy - 0) = .slice (some ⟨1, 0, none⟩) (i + 1) cy,
    Value.int .i64 (IntKind.i64.wrap (((i : Nat) : Int) + 1)) = .int .i64 (((i + 1 : Nat) : Int)),
    Value.int .i64 (IntKind.i64.wrap (((i + 1 : Nat) : Int) - (w : Int))) = .int .i64 (((i + 1 : Nat) : Int) - (w : Int)),
    evCall Try.prog 0 (bodied Try.prog) over3 sbs3 1000 19 12 [.int .i64 (w : Int), .int .i64 b, .slice (some ⟨0, 0, none⟩) (i + 1) cx, .slice (some ⟨1, 0, none⟩) (i + 1) cy, .int .i64 (((i + 1 : Nat) : Int) - (w : Int))] ⟨6, [.cells [.int .u64 (((i : Nat) : Int) + 1 - (w : Int)), .int .i64 (r1 w (addS w ps (xs.getD i 0) (ys.getD i 0))), .int .i64 (r2 w (addS w ps (xs.getD i 0) (ys.getD i 0)))] 31 0 1, arr (addS w ps (xs.getD i 0) (ys.getD i 0)), .dead, D w b (sl 4 (addS w ps (xs.getD i 0) (ys.getD i 0)).length) (((i : Nat) : Int) + 1), oY ys e2, oX xs e1]⟩ = some (.tuple #[.bool true, .int .i64 (r1 w (addS w ps (xs.getD i 0) (ys.getD i 0))), .int .i64 (r2 w (addS w ps (xs.getD i 0) (ys.getD i 0)))], ⟨6, [.cells [.int .u64 (((i : Nat) : Int) + 1 - (w : Int)), .int .i64 (r1 w (addS w ps (xs.getD i 0) (ys.getD i 0))), .int .i64 (r2 w (addS w ps (xs.getD i 0) (ys.getD i 0)))] 31 0 1, arr (addS w ps (xs.getD i 0) (ys.getD i 0)), .dead, D w b (sl 4 (addS w ps (xs.getD i 0) (ys.getD i 0)).length) (((i : Nat) : Int) + 1), oY ys e2, oX xs e1]⟩, []),
    Value.int .i64 (IntKind.i64.wrap (((i : Nat) : Int) + 1)) = .int .i64 (((i + 1 : Nat) : Int)),
    Value.int .i64 (IntKind.i64.wrap (((i + 1 : Nat) : Int) - (w : Int))) = .int .i64 (((i + 1 : Nat) : Int) - (w : Int)),
    Value.int .u64 (IntKind.u64.wrap (((i + 1 : Nat) : Int) - (w : Int))) = .int .u64 (((i + 1 : Nat) : Int) - (w : Int)),
    Value.bool (!((((i : Nat) : Int) + 1 - (w : Int)) == (((i + 1 : Nat) : Int) - (w : Int)))) = .bool false,
    Value.bool (!(r1 w (addS w ps (xs.getD i 0) (ys.getD i 0)) == r1 w (addS w ps (xs.getD i 0) (ys.getD i 0)))) = .bool false,
    Value.bool (!(r2 w (addS w ps (xs.getD i 0) (ys.getD i 0)) == r2 w (addS w ps (xs.getD i 0) (ys.getD i 0)))) = .bool false,
    Value.int .i64 (IntKind.i64.wrap (((i : Nat) : Int) + 1)) = .int .i64 (((i + 1 : Nat) : Int)),
    Value.int .u64 (IntKind.u64.wrap (((i + 1 : Nat) : Int))) = .int .u64 (((i + 1 : Nat) : Int)),
    Value.bool (!((((i : Nat) : Int) + 1) == ((i + 1 : Nat) : Int))) = .bool false,
    Value.int .i64 (IntKind.i64.wrap (((i : Nat) : Int) + 1)) = .int .i64 (((i + 1 : Nat) : Int)),
    Value.int .i64 (IntKind.i64.wrap (2 * (w : Int))) = .int .i64 (2 * (w : Int)),
    Value.bool (!((((addS w ps (xs.getD i 0) (ys.getD i 0)).length : Nat) : Int) == (if 2 * (w : Int) < ((i + 1 : Nat) : Int) then 2 * (w : Int) else ((i + 1 : Nat) : Int)))) = .bool false,
    Value.int .i64 (IntKind.i64.wrap (((i : Nat) : Int) + 1)) = .int .i64 (((i + 1 : Nat) : Int))] (by kernel_rfl)
    ⟨Dg.vtrue (by omega), by rw [hat], by omega, Dg.ptr_eq (by omega), i64_load xs i (by omega), by omega, Dg.ptr_eq (by omega), i64_load ys i (by omega), Dg.evCall_over (call11 (d := 2) (a := 3) (by rfl) (by rfl) (by rfl) (by decide) det hx h0 (by rw [hr])), Dg.i64_eq (by omega) (by omega) (by omega), by omega, by omega, by simp, by simp, Dg.i64_eq (by omega) (by omega) (by omega), by omega, by omega, by simp, by simp, Dg.i64_eq (by omega) (by omega) (by omega), Dg.i64_eq (by omega) (by omega) (by omega), Dg.evCall_over (call12 (by rfl) (by rfl) sa (by omega) (by rw [hs])), Dg.i64_eq (by omega) (by omega) (by omega), Dg.i64_eq (by omega) (by omega) (by omega), Dg.u64_eq (by omega) (by omega) (by omega), by simp, by simp, by simp, Dg.i64_eq (by omega) (by omega) (by omega), Dg.u64_eq (by omega) (by omega) (by omega), by simp, Dg.i64_eq (by omega) (by omega) (by omega), Dg.i64_eq (by omega) (by omega) (by omega), len_eq (by rw [addS_len det.len, hlen]; omega), Dg.i64_eq (by omega) (by omega) (by omega), trivial⟩ (gc_arr _ _ _ _ _ _ _ _ _ _ _ _ _ _ _)

theorem round_arr_copy (w lx cx ly cy n e1 e2 : Nat) (b at' : Int) (xs ys : List Int) (i : Nat) (ps : List (Int × Int))  (hw : 0 < w) (hw1 : w ≤ 64) (hi : i < n) (hn : n ≤ 200) (hat : (((i : Nat) : Int) == at') = true) (hlx : n ≤ lx) (hly : n ≤ ly) (hcx : lx ≤ cx) (hcy : ly ≤ cy) (hxl : xs.length = cx) (hyl : ys.length = cy) (hx : In (xs.getD i 0)) (sa : StepArgs w b xs ys (i + 1) (i + 1)) (det : Det w b ((i : Nat) : Int) ps) (h0 : 0 < ps.length) (hlen : ps.length = min i (2 * w)) (hr : addR w b (((i : Nat) : Int) + 1) (addS w ps (xs.getD i 0) (ys.getD i 0)) = zeroR) (hs : stepV w b xs ys (min (i + 1) (i + 1)) (((i + 1 : Nat) : Int) - (w : Int)) = .tuple #[.bool false, .int .i64 0, .int .i64 0]) :
    ∃ s', run3 ⟨S3 w b at' lx cx ly cy n i 2, ⟨4, [arr ps, D w b (sl 3 ps.length) ((i : Nat) : Int), oY ys e2, oX xs e1]⟩, []⟩ = some (.normal, s') ∧ cl3 s' = ⟨S3 w b at' lx cx ly cy n (i + 1) 2, ⟨4, [arr (addS w ps (xs.getD i 0) (ys.getD i 0)), D w b (sl 3 (addS w ps (xs.getD i 0) (ys.getD i 0)).length) ((i + 1 : Nat) : Int), oY ys e2, oX xs e1]⟩, []⟩ :=
  Dg.code_round3 (f := 3) keep3 [.val 3 58 (.bool true),
    .val 3 62 (.bool true),
    .call 10 (.pointer (some ⟨4, 0, none⟩)) ⟨6, [arr ps, D w b (sl 5 ps.length) ((i : Nat) : Int), arr ps, D w b (sl 3 ps.length) ((i : Nat) : Int), oY ys e2, oX xs e1]⟩ [],
    .call 11 (addR w b (((i : Nat) : Int) + 1) (addS w ps 7 (-1))) ⟨7, [arr (addS w ps 7 (-1)), arr ps, D w b (sl 5 ps.length) ((i : Nat) : Int), .dead, D w b (sl 6 (addS w ps 7 (-1)).length) (((i : Nat) : Int) + 1), oY ys e2, oX xs e1]⟩ [2, 3],
    .soft 3 74 (.pointer (some ⟨0, i, none⟩)),
    .soft 3 75 (.int .i64 (xs.getD i 0)),
    .soft 3 78 (.pointer (some ⟨1, i, none⟩)),
    .soft 3 79 (.int .i64 (ys.getD i 0)),
    .call 11 (zeroR) ⟨8, [arr (addS w ps (xs.getD i 0) (ys.getD i 0)), arr (addS w ps 7 (-1)), .dead, D w b (sl 7 (addS w ps (xs.getD i 0) (ys.getD i 0)).length) (((i : Nat) : Int) + 1), .dead, D w b (sl 6 (addS w ps 7 (-1)).length) (((i : Nat) : Int) + 1), oY ys e2, oX xs e1]⟩ [4, 5],
    .val 3 88 (.int .i64 (((i + 1 : Nat) : Int))),
    .soft 3 89 (.slice (some ⟨0, 0, none⟩) (i + 1) cx),
    .val 3 92 (.int .i64 (((i + 1 : Nat) : Int))),
    .soft 3 93 (.slice (some ⟨1, 0, none⟩) (i + 1) cy),
    .val 3 95 (.int .i64 (((i + 1 : Nat) : Int))),
    .val 3 97 (.int .i64 (((i + 1 : Nat) : Int) - (w : Int))),
    .call 12 (.tuple #[.bool false, .int .i64 0, .int .i64 0]) ⟨9, [Z31, arr (addS w ps (xs.getD i 0) (ys.getD i 0)), arr (addS w ps 7 (-1)), .dead, D w b (sl 7 (addS w ps (xs.getD i 0) (ys.getD i 0)).length) (((i : Nat) : Int) + 1), .dead, D w b (sl 6 (addS w ps 7 (-1)).length) (((i : Nat) : Int) + 1), oY ys e2, oX xs e1]⟩ [],
    .val 3 142 (.int .i64 (((i + 1 : Nat) : Int))),
    .val 3 143 (.int .u64 (((i + 1 : Nat) : Int))),
    .val 3 144 (.bool false),
    .val 3 149 (.int .i64 (((i + 1 : Nat) : Int))),
    .val 3 151 (.int .i64 (2 * (w : Int))),
    .val 3 153 (.bool false),
    .val 3 155 (.int .i64 (((i + 1 : Nat) : Int)))]
    (ts' := S3 w b at' lx cx ly cy n (i + 1) 4) (H' := ⟨9, [Z31, arr (addS w ps (xs.getD i 0) (ys.getD i 0)), arr (addS w ps 7 (-1)), .dead, D w b (sl 7 (addS w ps (xs.getD i 0) (ys.getD i 0)).length) (((i : Nat) : Int) + 1), .dead, D w b (sl 6 (addS w ps 7 (-1)).length) (((i : Nat) : Int) + 1), oY ys e2, oX xs e1]⟩) (log := [])
    [Value.bool (decide (((i : Nat) : Int) < (n : Int))) = .bool true,
    Value.bool (((i : Nat) : Int) == at') = .bool true,
    evCall Try.prog 0 (bodied Try.prog) over3 sbs3 1000 19 10 [.pointer (some ⟨2, 0, none⟩)] ⟨4, [arr ps, D w b (sl 3 ps.length) ((i : Nat) : Int), oY ys e2, oX xs e1]⟩ = some (.pointer (some ⟨4, 0, none⟩), ⟨6, [arr ps, D w b (sl 5 ps.length) ((i : Nat) : Int), arr ps, D w b (sl 3 ps.length) ((i : Nat) : Int), oY ys e2, oX xs e1]⟩, []),
    evCall Try.prog 0 (bodied Try.prog) over3 sbs3 1000 19 11 [.pointer (some ⟨2, 0, none⟩), .int .i64 7, .int .i64 (-1)] ⟨6, [arr ps, D w b (sl 5 ps.length) ((i : Nat) : Int), arr ps, D w b (sl 3 ps.length) ((i : Nat) : Int), oY ys e2, oX xs e1]⟩ = some (addR w b (((i : Nat) : Int) + 1) (addS w ps 7 (-1)), ⟨7, [arr (addS w ps 7 (-1)), arr ps, D w b (sl 5 ps.length) ((i : Nat) : Int), .dead, D w b (sl 6 (addS w ps 7 (-1)).length) (((i : Nat) : Int) + 1), oY ys e2, oX xs e1]⟩, [2, 3]),
    (0 : Int) ≤ ((i : Nat) : Int) ∧ ((i : Nat) : Int) < (lx : Int),
    Value.pointer (some ⟨0, 0 + i * 1, none⟩) = .pointer (some ⟨0, i, none⟩),
    (i64s xs)[i]? = some (.int .i64 (xs.getD i 0)),
    (0 : Int) ≤ ((i : Nat) : Int) ∧ ((i : Nat) : Int) < (ly : Int),
    Value.pointer (some ⟨1, 0 + i * 1, none⟩) = .pointer (some ⟨1, i, none⟩),
    (i64s ys)[i]? = some (.int .i64 (ys.getD i 0)),
    evCall Try.prog 0 (bodied Try.prog) over3 sbs3 1000 19 11 [.pointer (some ⟨4, 0, none⟩), .int .i64 (xs.getD i 0), .int .i64 (ys.getD i 0)] ⟨7, [arr (addS w ps 7 (-1)), arr ps, D w b (sl 5 ps.length) ((i : Nat) : Int), .dead, D w b (sl 6 (addS w ps 7 (-1)).length) (((i : Nat) : Int) + 1), oY ys e2, oX xs e1]⟩ = some (zeroR, ⟨8, [arr (addS w ps (xs.getD i 0) (ys.getD i 0)), arr (addS w ps 7 (-1)), .dead, D w b (sl 7 (addS w ps (xs.getD i 0) (ys.getD i 0)).length) (((i : Nat) : Int) + 1), .dead, D w b (sl 6 (addS w ps 7 (-1)).length) (((i : Nat) : Int) + 1), oY ys e2, oX xs e1]⟩, [4, 5]),
    Value.int .i64 (IntKind.i64.wrap (((i : Nat) : Int) + 1)) = .int .i64 (((i + 1 : Nat) : Int)),
    (0 : Int) ≤ ((i + 1 : Nat) : Int),
    0 ≤ i + 1 ∧ i + 1 ≤ cx ∧ cx ≤ cx,
    (none : Option Nat).isSome = true → ¬ (0 = cx ∧ 0 ≠ 0),
    Value.slice (some ⟨0, if cx = 0 then 0 else 0 + 0 * 1, none⟩) (i + 1 - 0) (cx - 0) = .slice (some ⟨0, 0, none⟩) (i + 1) cx,
    Value.int .i64 (IntKind.i64.wrap (((i : Nat) : Int) + 1)) = .int .i64 (((i + 1 : Nat) : Int)),
    (0 : Int) ≤ ((i + 1 : Nat) : Int),
    0 ≤ i + 1 ∧ i + 1 ≤ cy ∧ cy ≤ cy,
    (none : Option Nat).isSome = true → ¬ (0 = cy ∧ 0 ≠ 0),
    Value.slice (some ⟨1, if cy = 0 then 0 else 0 + 0 * 1, none⟩) (i + 1 - 0) (cy - 0) = .slice (some ⟨1, 0, none⟩) (i + 1) cy,
    Value.int .i64 (IntKind.i64.wrap (((i : Nat) : Int) + 1)) = .int .i64 (((i + 1 : Nat) : Int)),
    Value.int .i64 (IntKind.i64.wrap (((i + 1 : Nat) : Int) - (w : Int))) = .int .i64 (((i + 1 : Nat) : Int) - (w : Int)),
    evCall Try.prog 0 (bodied Try.prog) over3 sbs3 1000 19 12 [.int .i64 (w : Int), .int .i64 b, .slice (some ⟨0, 0, none⟩) (i + 1) cx, .slice (some ⟨1, 0, none⟩) (i + 1) cy, .int .i64 (((i + 1 : Nat) : Int) - (w : Int))] ⟨9, [Z31, arr (addS w ps (xs.getD i 0) (ys.getD i 0)), arr (addS w ps 7 (-1)), .dead, D w b (sl 7 (addS w ps (xs.getD i 0) (ys.getD i 0)).length) (((i : Nat) : Int) + 1), .dead, D w b (sl 6 (addS w ps 7 (-1)).length) (((i : Nat) : Int) + 1), oY ys e2, oX xs e1]⟩ = some (.tuple #[.bool false, .int .i64 0, .int .i64 0], ⟨9, [Z31, arr (addS w ps (xs.getD i 0) (ys.getD i 0)), arr (addS w ps 7 (-1)), .dead, D w b (sl 7 (addS w ps (xs.getD i 0) (ys.getD i 0)).length) (((i : Nat) : Int) + 1), .dead, D w b (sl 6 (addS w ps 7 (-1)).length) (((i : Nat) : Int) + 1), oY ys e2, oX xs e1]⟩, []),
    Value.int .i64 (IntKind.i64.wrap (((i : Nat) : Int) + 1)) = .int .i64 (((i + 1 : Nat) : Int)),
    Value.int .u64 (IntKind.u64.wrap (((i + 1 : Nat) : Int))) = .int .u64 (((i + 1 : Nat) : Int)),
    Value.bool (!((((i : Nat) : Int) + 1) == ((i + 1 : Nat) : Int))) = .bool false,
    Value.int .i64 (IntKind.i64.wrap (((i : Nat) : Int) + 1)) = .int .i64 (((i + 1 : Nat) : Int)),
    Value.int .i64 (IntKind.i64.wrap (2 * (w : Int))) = .int .i64 (2 * (w : Int)),
    Value.bool (!((((addS w ps (xs.getD i 0) (ys.getD i 0)).length : Nat) : Int) == (if 2 * (w : Int) < ((i + 1 : Nat) : Int) then 2 * (w : Int) else ((i + 1 : Nat) : Int)))) = .bool false,
    Value.int .i64 (IntKind.i64.wrap (((i : Nat) : Int) + 1)) = .int .i64 (((i + 1 : Nat) : Int))] (by kernel_rfl)
    ⟨Dg.vtrue (by omega), by rw [hat], Dg.evCall_over (call10 (d := 2) (a := 3) (by rfl) (by rfl) (by rfl) (by decide) hw h0 (by have := det.len; omega) rfl rfl), Dg.evCall_over (call11 (d := 2) (a := 3) (by rfl) (by rfl) (by rfl) (by decide) det In7 h0 rfl), by omega, Dg.ptr_eq (by omega), i64_load xs i (by omega), by omega, Dg.ptr_eq (by omega), i64_load ys i (by omega), Dg.evCall_over (call11 (d := 4) (a := 5) (by rfl) (by rfl) (by rfl) (by decide) det hx h0 (by rw [hr])), Dg.i64_eq (by omega) (by omega) (by omega), by omega, by omega, by simp, by simp, Dg.i64_eq (by omega) (by omega) (by omega), by omega, by omega, by simp, by simp, Dg.i64_eq (by omega) (by omega) (by omega), Dg.i64_eq (by omega) (by omega) (by omega), Dg.evCall_over (call12 (by rfl) (by rfl) sa (by omega) (by rw [hs])), Dg.i64_eq (by omega) (by omega) (by omega), Dg.u64_eq (by omega) (by omega) (by omega), by simp, Dg.i64_eq (by omega) (by omega) (by omega), Dg.i64_eq (by omega) (by omega) (by omega), len_eq (by rw [addS_len det.len, hlen]; omega), Dg.i64_eq (by omega) (by omega) (by omega), trivial⟩ (gc_arr_copy _ _ _ _ _ _ _ _ _ _ _ _ _ _ _)

theorem round_arr_copy_step (w lx cx ly cy n e1 e2 : Nat) (b at' : Int) (xs ys : List Int) (i : Nat) (ps : List (Int × Int))  (hw : 0 < w) (hw1 : w ≤ 64) (hi : i < n) (hn : n ≤ 200) (hat : (((i : Nat) : Int) == at') = true) (hlx : n ≤ lx) (hly : n ≤ ly) (hcx : lx ≤ cx) (hcy : ly ≤ cy) (hxl : xs.length = cx) (hyl : ys.length = cy) (hx : In (xs.getD i 0)) (sa : StepArgs w b xs ys (i + 1) (i + 1)) (det : Det w b ((i : Nat) : Int) ps) (h0 : 0 < ps.length) (hlen : ps.length = min i (2 * w)) (hwi : 2 * w ≤ i + 1) (hr : addR w b (((i : Nat) : Int) + 1) (addS w ps (xs.getD i 0) (ys.getD i 0)) = .tuple #[.agg #[.int .u64 (((i : Nat) : Int) + 1 - (w : Int)), .int .i64 (r1 w (addS w ps (xs.getD i 0) (ys.getD i 0))), .int .i64 (r2 w (addS w ps (xs.getD i 0) (ys.getD i 0)))], .bool true]) (hs : stepV w b xs ys (min (i + 1) (i + 1)) (((i + 1 : Nat) : Int) - (w : Int)) = .tuple #[.bool true, .int .i64 (r1 w (addS w ps (xs.getD i 0) (ys.getD i 0))), .int .i64 (r2 w (addS w ps (xs.getD i 0) (ys.getD i 0)))]) :
    ∃ s', run3 ⟨S3 w b at' lx cx ly cy n i 2, ⟨4, [arr ps, D w b (sl 3 ps.length) ((i : Nat) : Int), oY ys e2, oX xs e1]⟩, []⟩ = some (.normal, s') ∧ cl3 s' = ⟨S3 w b at' lx cx ly cy n (i + 1) 2, ⟨4, [arr (addS w ps (xs.getD i 0) (ys.getD i 0)), D w b (sl 3 (addS w ps (xs.getD i 0) (ys.getD i 0)).length) ((i + 1 : Nat) : Int), oY ys e2, oX xs e1]⟩, []⟩ :=
  Dg.code_round3 (f := 3) keep3 [.val 3 58 (.bool true),
    .val 3 62 (.bool true),
    .call 10 (.pointer (some ⟨4, 0, none⟩)) ⟨6, [arr ps, D w b (sl 5 ps.length) ((i : Nat) : Int), arr ps, D w b (sl 3 ps.length) ((i : Nat) : Int), oY ys e2, oX xs e1]⟩ [],
    .call 11 (addR w b (((i : Nat) : Int) + 1) (addS w ps 7 (-1))) ⟨7, [arr (addS w ps 7 (-1)), arr ps, D w b (sl 5 ps.length) ((i : Nat) : Int), .dead, D w b (sl 6 (addS w ps 7 (-1)).length) (((i : Nat) : Int) + 1), oY ys e2, oX xs e1]⟩ [2, 3],
    .soft 3 74 (.pointer (some ⟨0, i, none⟩)),
    .soft 3 75 (.int .i64 (xs.getD i 0)),
    .soft 3 78 (.pointer (some ⟨1, i, none⟩)),
    .soft 3 79 (.int .i64 (ys.getD i 0)),
    .call 11 (.tuple #[.agg #[.int .u64 (((i : Nat) : Int) + 1 - (w : Int)), .int .i64 (r1 w (addS w ps (xs.getD i 0) (ys.getD i 0))), .int .i64 (r2 w (addS w ps (xs.getD i 0) (ys.getD i 0)))], .bool true]) ⟨8, [arr (addS w ps (xs.getD i 0) (ys.getD i 0)), arr (addS w ps 7 (-1)), .dead, D w b (sl 7 (addS w ps (xs.getD i 0) (ys.getD i 0)).length) (((i : Nat) : Int) + 1), .dead, D w b (sl 6 (addS w ps 7 (-1)).length) (((i : Nat) : Int) + 1), oY ys e2, oX xs e1]⟩ [4, 5],
    .val 3 88 (.int .i64 (((i + 1 : Nat) : Int))),
    .soft 3 89 (.slice (some ⟨0, 0, none⟩) (i + 1) cx),
    .val 3 92 (.int .i64 (((i + 1 : Nat) : Int))),
    .soft 3 93 (.slice (some ⟨1, 0, none⟩) (i + 1) cy),
    .val 3 95 (.int .i64 (((i + 1 : Nat) : Int))),
    .val 3 97 (.int .i64 (((i + 1 : Nat) : Int) - (w : Int))),
    .call 12 (.tuple #[.bool true, .int .i64 (r1 w (addS w ps (xs.getD i 0) (ys.getD i 0))), .int .i64 (r2 w (addS w ps (xs.getD i 0) (ys.getD i 0)))]) ⟨9, [.cells [.int .u64 (((i : Nat) : Int) + 1 - (w : Int)), .int .i64 (r1 w (addS w ps (xs.getD i 0) (ys.getD i 0))), .int .i64 (r2 w (addS w ps (xs.getD i 0) (ys.getD i 0)))] 31 0 1, arr (addS w ps (xs.getD i 0) (ys.getD i 0)), arr (addS w ps 7 (-1)), .dead, D w b (sl 7 (addS w ps (xs.getD i 0) (ys.getD i 0)).length) (((i : Nat) : Int) + 1), .dead, D w b (sl 6 (addS w ps 7 (-1)).length) (((i : Nat) : Int) + 1), oY ys e2, oX xs e1]⟩ [],
    .val 3 111 (.int .i64 (((i + 1 : Nat) : Int))),
    .val 3 113 (.int .i64 (((i + 1 : Nat) : Int) - (w : Int))),
    .val 3 114 (.int .u64 (((i + 1 : Nat) : Int) - (w : Int))),
    .val 3 115 (.bool false),
    .val 3 120 (.bool false),
    .val 3 126 (.bool false),
    .val 3 142 (.int .i64 (((i + 1 : Nat) : Int))),
    .val 3 143 (.int .u64 (((i + 1 : Nat) : Int))),
    .val 3 144 (.bool false),
    .val 3 149 (.int .i64 (((i + 1 : Nat) : Int))),
    .val 3 151 (.int .i64 (2 * (w : Int))),
    .val 3 153 (.bool false),
    .val 3 155 (.int .i64 (((i + 1 : Nat) : Int)))]
    (ts' := S3 w b at' lx cx ly cy n (i + 1) 4) (H' := ⟨9, [.cells [.int .u64 (((i : Nat) : Int) + 1 - (w : Int)), .int .i64 (r1 w (addS w ps (xs.getD i 0) (ys.getD i 0))), .int .i64 (r2 w (addS w ps (xs.getD i 0) (ys.getD i 0)))] 31 0 1, arr (addS w ps (xs.getD i 0) (ys.getD i 0)), arr (addS w ps 7 (-1)), .dead, D w b (sl 7 (addS w ps (xs.getD i 0) (ys.getD i 0)).length) (((i : Nat) : Int) + 1), .dead, D w b (sl 6 (addS w ps 7 (-1)).length) (((i : Nat) : Int) + 1), oY ys e2, oX xs e1]⟩) (log := [])
    [Value.bool (decide (((i : Nat) : Int) < (n : Int))) = .bool true,
    Value.bool (((i : Nat) : Int) == at') = .bool true,
    evCall Try.prog 0 (bodied Try.prog) over3 sbs3 1000 19 10 [.pointer (some ⟨2, 0, none⟩)] ⟨4, [arr ps, D w b (sl 3 ps.length) ((i : Nat) : Int), oY ys e2, oX xs e1]⟩ = some (.pointer (some ⟨4, 0, none⟩), ⟨6, [arr ps, D w b (sl 5 ps.length) ((i : Nat) : Int), arr ps, D w b (sl 3 ps.length) ((i : Nat) : Int), oY ys e2, oX xs e1]⟩, []),
    evCall Try.prog 0 (bodied Try.prog) over3 sbs3 1000 19 11 [.pointer (some ⟨2, 0, none⟩), .int .i64 7, .int .i64 (-1)] ⟨6, [arr ps, D w b (sl 5 ps.length) ((i : Nat) : Int), arr ps, D w b (sl 3 ps.length) ((i : Nat) : Int), oY ys e2, oX xs e1]⟩ = some (addR w b (((i : Nat) : Int) + 1) (addS w ps 7 (-1)), ⟨7, [arr (addS w ps 7 (-1)), arr ps, D w b (sl 5 ps.length) ((i : Nat) : Int), .dead, D w b (sl 6 (addS w ps 7 (-1)).length) (((i : Nat) : Int) + 1), oY ys e2, oX xs e1]⟩, [2, 3]),
    (0 : Int) ≤ ((i : Nat) : Int) ∧ ((i : Nat) : Int) < (lx : Int),
    Value.pointer (some ⟨0, 0 + i * 1, none⟩) = .pointer (some ⟨0, i, none⟩),
    (i64s xs)[i]? = some (.int .i64 (xs.getD i 0)),
    (0 : Int) ≤ ((i : Nat) : Int) ∧ ((i : Nat) : Int) < (ly : Int),
    Value.pointer (some ⟨1, 0 + i * 1, none⟩) = .pointer (some ⟨1, i, none⟩),
    (i64s ys)[i]? = some (.int .i64 (ys.getD i 0)),
    evCall Try.prog 0 (bodied Try.prog) over3 sbs3 1000 19 11 [.pointer (some ⟨4, 0, none⟩), .int .i64 (xs.getD i 0), .int .i64 (ys.getD i 0)] ⟨7, [arr (addS w ps 7 (-1)), arr ps, D w b (sl 5 ps.length) ((i : Nat) : Int), .dead, D w b (sl 6 (addS w ps 7 (-1)).length) (((i : Nat) : Int) + 1), oY ys e2, oX xs e1]⟩ = some (.tuple #[.agg #[.int .u64 (((i : Nat) : Int) + 1 - (w : Int)), .int .i64 (r1 w (addS w ps (xs.getD i 0) (ys.getD i 0))), .int .i64 (r2 w (addS w ps (xs.getD i 0) (ys.getD i 0)))], .bool true], ⟨8, [arr (addS w ps (xs.getD i 0) (ys.getD i 0)), arr (addS w ps 7 (-1)), .dead, D w b (sl 7 (addS w ps (xs.getD i 0) (ys.getD i 0)).length) (((i : Nat) : Int) + 1), .dead, D w b (sl 6 (addS w ps 7 (-1)).length) (((i : Nat) : Int) + 1), oY ys e2, oX xs e1]⟩, [4, 5]),
    Value.int .i64 (IntKind.i64.wrap (((i : Nat) : Int) + 1)) = .int .i64 (((i + 1 : Nat) : Int)),
    (0 : Int) ≤ ((i + 1 : Nat) : Int),
    0 ≤ i + 1 ∧ i + 1 ≤ cx ∧ cx ≤ cx,
    (none : Option Nat).isSome = true → ¬ (0 = cx ∧ 0 ≠ 0),
    Value.slice (some ⟨0, if cx = 0 then 0 else 0 + 0 * 1, none⟩) (i + 1 - 0) (cx - 0) = .slice (some ⟨0, 0, none⟩) (i + 1) cx,
    Value.int .i64 (IntKind.i64.wrap (((i : Nat) : Int) + 1)) = .int .i64 (((i + 1 : Nat) : Int)),
    (0 : Int) ≤ ((i + 1 : Nat) : Int),
    0 ≤ i + 1 ∧ i + 1 ≤ cy ∧ cy ≤ cy,
    (none : Option Nat).isSome = true → ¬ (0 = cy ∧ 0 ≠ 0),
    Value.slice (some ⟨1, if cy = 0 then 0 else 0 + 0 * 1, none⟩) (i + 1 - 0) (cy - 0) = .slice (some ⟨1, 0, none⟩) (i + 1) cy,
    Value.int .i64 (IntKind.i64.wrap (((i : Nat) : Int) + 1)) = .int .i64 (((i + 1 : Nat) : Int)),
    Value.int .i64 (IntKind.i64.wrap (((i + 1 : Nat) : Int) - (w : Int))) = .int .i64 (((i + 1 : Nat) : Int) - (w : Int)),
    evCall Try.prog 0 (bodied Try.prog) over3 sbs3 1000 19 12 [.int .i64 (w : Int), .int .i64 b, .slice (some ⟨0, 0, none⟩) (i + 1) cx, .slice (some ⟨1, 0, none⟩) (i + 1) cy, .int .i64 (((i + 1 : Nat) : Int) - (w : Int))] ⟨9, [.cells [.int .u64 (((i : Nat) : Int) + 1 - (w : Int)), .int .i64 (r1 w (addS w ps (xs.getD i 0) (ys.getD i 0))), .int .i64 (r2 w (addS w ps (xs.getD i 0) (ys.getD i 0)))] 31 0 1, arr (addS w ps (xs.getD i 0) (ys.getD i 0)), arr (addS w ps 7 (-1)), .dead, D w b (sl 7 (addS w ps (xs.getD i 0) (ys.getD i 0)).length) (((i : Nat) : Int) + 1), .dead, D w b (sl 6 (addS w ps 7 (-1)).length) (((i : Nat) : Int) + 1), oY ys e2, oX xs e1]⟩ = some (.tuple #[.bool true, .int .i64 (r1 w (addS w ps (xs.getD i 0) (ys.getD i 0))), .int .i64 (r2 w (addS w ps (xs.getD i 0) (ys.getD i 0)))], ⟨9, [.cells [.int .u64 (((i : Nat) : Int) + 1 - (w : Int)), .int .i64 (r1 w (addS w ps (xs.getD i 0) (ys.getD i 0))), .int .i64 (r2 w (addS w ps (xs.getD i 0) (ys.getD i 0)))] 31 0 1, arr (addS w ps (xs.getD i 0) (ys.getD i 0)), arr (addS w ps 7 (-1)), .dead, D w b (sl 7 (addS w ps (xs.getD i 0) (ys.getD i 0)).length) (((i : Nat) : Int) + 1), .dead, D w b (sl 6 (addS w ps 7 (-1)).length) (((i : Nat) : Int) + 1), oY ys e2, oX xs e1]⟩, []),
    Value.int .i64 (IntKind.i64.wrap (((i : Nat) : Int) + 1)) = .int .i64 (((i + 1 : Nat) : Int)),
    Value.int .i64 (IntKind.i64.wrap (((i + 1 : Nat) : Int) - (w : Int))) = .int .i64 (((i + 1 : Nat) : Int) - (w : Int)),
    Value.int .u64 (IntKind.u64.wrap (((i + 1 : Nat) : Int) - (w : Int))) = .int .u64 (((i + 1 : Nat) : Int) - (w : Int)),
    Value.bool (!((((i : Nat) : Int) + 1 - (w : Int)) == (((i + 1 : Nat) : Int) - (w : Int)))) = .bool false,
    Value.bool (!(r1 w (addS w ps (xs.getD i 0) (ys.getD i 0)) == r1 w (addS w ps (xs.getD i 0) (ys.getD i 0)))) = .bool false,
    Value.bool (!(r2 w (addS w ps (xs.getD i 0) (ys.getD i 0)) == r2 w (addS w ps (xs.getD i 0) (ys.getD i 0)))) = .bool false,
    Value.int .i64 (IntKind.i64.wrap (((i : Nat) : Int) + 1)) = .int .i64 (((i + 1 : Nat) : Int)),
    Value.int .u64 (IntKind.u64.wrap (((i + 1 : Nat) : Int))) = .int .u64 (((i + 1 : Nat) : Int)),
    Value.bool (!((((i : Nat) : Int) + 1) == ((i + 1 : Nat) : Int))) = .bool false,
    Value.int .i64 (IntKind.i64.wrap (((i : Nat) : Int) + 1)) = .int .i64 (((i + 1 : Nat) : Int)),
    Value.int .i64 (IntKind.i64.wrap (2 * (w : Int))) = .int .i64 (2 * (w : Int)),
    Value.bool (!((((addS w ps (xs.getD i 0) (ys.getD i 0)).length : Nat) : Int) == (if 2 * (w : Int) < ((i + 1 : Nat) : Int) then 2 * (w : Int) else ((i + 1 : Nat) : Int)))) = .bool false,
    Value.int .i64 (IntKind.i64.wrap (((i : Nat) : Int) + 1)) = .int .i64 (((i + 1 : Nat) : Int))] (by kernel_rfl)
    ⟨Dg.vtrue (by omega), by rw [hat], Dg.evCall_over (call10 (d := 2) (a := 3) (by rfl) (by rfl) (by rfl) (by decide) hw h0 (by have := det.len; omega) rfl rfl), Dg.evCall_over (call11 (d := 2) (a := 3) (by rfl) (by rfl) (by rfl) (by decide) det In7 h0 rfl), by omega, Dg.ptr_eq (by omega), i64_load xs i (by omega), by omega, Dg.ptr_eq (by omega), i64_load ys i (by omega), Dg.evCall_over (call11 (d := 4) (a := 5) (by rfl) (by rfl) (by rfl) (by decide) det hx h0 (by rw [hr])), Dg.i64_eq (by omega) (by omega) (by omega), by omega, by omega, by simp, by simp, Dg.i64_eq (by omega) (by omega) (by omega), by omega, by omega, by simp, by simp, Dg.i64_eq (by omega) (by omega) (by omega), Dg.i64_eq (by omega) (by omega) (by omega), Dg.evCall_over (call12 (by rfl) (by rfl) sa (by omega) (by rw [hs])), Dg.i64_eq (by omega) (by omega) (by omega), Dg.i64_eq (by omega) (by omega) (by omega), Dg.u64_eq (by omega) (by omega) (by omega), by simp, by simp, by simp, Dg.i64_eq (by omega) (by omega) (by omega), Dg.u64_eq (by omega) (by omega) (by omega), by simp, Dg.i64_eq (by omega) (by omega) (by omega), Dg.i64_eq (by omega) (by omega) (by omega), len_eq (by rw [addS_len det.len, hlen]; omega), Dg.i64_eq (by omega) (by omega) (by omega), trivial⟩ (gc_arr_copy _ _ _ _ _ _ _ _ _ _ _ _ _ _ _)
end Go.Proofs.Ytafhlmpifdclaaa.shift

