/- What single operations of CrossOwn yield: parts of slices, empty slices, remainders, meetings. The row 'CrossOwn', at whatever exchanges. The row 'CrossOwn', at whatever number of exchanges. -/
import Derived.Test.YtmnoegfehgoalaaDoorCxK
namespace Go.Proofs.YtmnoegfehgoalaaDoor.cx
open Go.RowKit Go.Extern.Stop Go.Stop Go.Extern Go.Cx
set_option linter.unusedVariables false

theorem flat_drop {n : Nat} : ∀ (rows : List (List Value)), (∀ r ∈ rows, r.length = n) → ∀ i, (rows.drop i).flatten = rows.flatten.drop (i * n) := by
  intro rows
  induction rows with
  | nil => intro _ i; simp
  | cons a rows ih =>
    intro hl i
    have ha := hl a (List.mem_cons_self ..)
    cases i with
    | zero => simp
    | succ i =>
      have e1 : (a ++ rows.flatten).drop ((i + 1) * n) = rows.flatten.drop (i * n) := by
        rw [List.drop_append, ha, List.drop_of_length_le (by rw [ha, Nat.succ_mul]; omega), List.nil_append, show (i + 1) * n - n = i * n by rw [Nat.succ_mul]; omega]
      rw [List.drop_succ_cons, ih (fun r hr => hl r (List.mem_cons_of_mem _ hr)) i, List.flatten_cons, e1]
theorem flat_take {n : Nat} : ∀ (rows : List (List Value)), (∀ r ∈ rows, r.length = n) → ∀ i, (rows.take i).flatten = rows.flatten.take (i * n) := by
  intro rows
  induction rows with
  | nil => intro _ i; simp
  | cons a rows ih =>
    intro hl i
    have ha := hl a (List.mem_cons_self ..)
    cases i with
    | zero => simp
    | succ i =>
      have e1 : (a ++ rows.flatten).take ((i + 1) * n) = a ++ rows.flatten.take (i * n) := by
        rw [List.take_append, ha, List.take_of_length_le (by rw [ha, Nat.succ_mul]; omega), show (i + 1) * n - n = i * n by rw [Nat.succ_mul]; omega]
      rw [List.take_succ_cons, List.flatten_cons, ih (fun r hr => hl r (List.mem_cons_of_mem _ hr)) i, List.flatten_cons, e1]
/-- A slice's rows, where its block begins with them. -/
structure Own (w : World) (n : Nat) (v : Value) (g cap : Nat) (rows : List (List Value)) : Prop where
  is : v = .slice (some ⟨g, 0, none⟩) rows.length cap
  fits : rows.length ≤ cap
  most : cap ≤ maxLen
  cells : w.rangeAt g 0 rows.flatten
  size : ∀ r ∈ rows, r.length = n
  lt : g < w.heap.size
theorem Own.of {w : World} {base n m : Nat} {e : TypeId} {v : Value} {rows : List (List Value)} {xs : List Value} (h : w.ownsRow base e n v m xs) (hm : m = rows.length) (hx : xs = rows.flatten) (hl : ∀ r ∈ rows, r.length = n) (h0 : 0 < rows.length) : ∃ g cap, Own w n v g cap rows ∧ base ≤ g := by
  subst hm hx
  obtain ⟨a, cap, rfl, h1, h2, h3, h4⟩ := own_get h
  obtain ⟨g, rfl, hg, hr⟩ := h4 h0
  exact ⟨g, cap, ⟨rfl, h1, h2, hr, hl, (h.lt g rfl).2⟩, hg⟩
theorem Own.up {w w' : World} {n : Nat} {v : Value} {g cap : Nat} {rows : List (List Value)} (h : Own w n v g cap rows) (hb : Below w.heap.size w w') : Own w' n v g cap rows :=
  ⟨h.is, h.fits, h.most, range_up h.cells hb h.lt, h.size, Nat.lt_of_lt_of_le h.lt hb.size⟩
theorem Own.sl {w : World} {n : Nat} {v : Value} {g cap : Nat} {rows : List (List Value)} (h : Own w n v g cap rows) : Sl w n v rows := by
  refine .inr ⟨g, 0, cap, h.is, h.fits, h.most, fun i r hi => ?_⟩
  have := range_part h.cells (i * n) n
  rw [flat_get rows h.size i r hi] at this
  exact this
/-- Where a part begins that may be at the end. -/
def fo (cap i size : Nat) : Nat := if cap = i then 0 else i * size
theorem Own.from {w : World} {n : Nat} {v : Value} {g cap : Nat} {rows : List (List Value)} (h : Own w n v g cap rows) {i : Nat} (hi : i ≤ rows.length) : ∀ j u, (rows.drop i).flatten[j]? = some u → w.cell? ((⟨g, fo cap i n, none⟩ : Addr).add j) = some u := by
  intro j u hj
  rw [flat_drop rows h.size i, List.getElem?_drop] at hj
  have := h.cells _ _ hj
  rw [Addr.add_mid]
  unfold fo
  have hf := h.fits
  split
  · rename_i hc
    have hl : rows.flatten.length = rows.length * n := flat_len rows h.size
    have hlt := (List.getElem?_eq_some_iff.1 hj).1
    rw [hl, show rows.length = i by omega] at hlt
    omega
  · rw [Nat.zero_add] at this
    exact this
theorem Own.to {w : World} {n : Nat} {v : Value} {g cap : Nat} {rows : List (List Value)} (h : Own w n v g cap rows) {i : Nat} : ∀ j u, (rows.take i).flatten[j]? = some u → w.cell? ((⟨g, 0, none⟩ : Addr).add j) = some u := by
  intro j u hj
  rw [flat_take rows h.size i, List.getElem?_take] at hj
  split at hj
  · rw [Addr.add_mid]
    exact h.cells _ _ hj
  · cases hj
theorem slice_from {P : Program} {t e : TypeId} {size : Nat} (hu : P.underlying t = some (.slice e)) (hz : ∀ w, (sizeOf e).run P w = .ok size w) (g len cap i : Nat) (hi : i ≤ len) (w : World) :
    (Instr.sliceAt t (.slice (some ⟨g, 0, none⟩) len cap) (some (.int .i64 (i : Nat))) none none).run P w = .ok (.slice (some ⟨g, fo cap i size, none⟩) (len - i) (cap - i)) w := by
  have he : P.elem t = e := by unfold Program.elem; rw [hu]
  have hu' : P.underlying t = some (.slice (P.elem t)) := by rw [he]; exact hu
  rw [run_sliceAt_slice _ _ _ _ _ _ hu', run_slice_l _ _ _ _ _ hu' _ _ (by omega) (by omega), he, hz, Result.andThen_ok]
  have h1 : ((i : Int)).toNat = i := by omega
  unfold sliced fo
  rw [h1]
  by_cases hc : cap = i
  · simp [hc]
  · simp [hc, Addr.add_mid]
theorem slice_to {P : Program} {t e : TypeId} {size : Nat} (hu : P.underlying t = some (.slice e)) (hz : ∀ w, (sizeOf e).run P w = .ok size w) (g len cap i : Nat) (hi : i ≤ cap) (w : World) :
    (Instr.sliceAt t (.slice (some ⟨g, 0, none⟩) len cap) none (some (.int .i64 (i : Nat))) none).run P w = .ok (.slice (some ⟨g, 0, none⟩) i cap) w := by
  have he : P.elem t = e := by unfold Program.elem; rw [hu]
  have hu' : P.underlying t = some (.slice (P.elem t)) := by rw [he]; exact hu
  rw [run_sliceAt_slice _ _ _ _ _ _ hu', run_slice_h _ _ _ _ _ hu' _ _ (by omega) (by omega), he, hz, Result.andThen_ok]
  have h1 : ((i : Int)).toNat = i := by omega
  unfold sliced
  rw [h1]
  simp [Addr.add_mid]
theorem ex_slo {P : Program} {ev : Operand → Value} {d : Option Tmp} {t ty : TypeId} {x lo : Operand} {p : String} {e : Array Edge} {g : Option (Nat × Bool)} {A B V : Value} {w : World} (hx : ev x = A) (hl : ev lo = B) (h : (Instr.sliceAt t A (some B) none none).run P w = .ok V w) : (execOp ev ⟨d, .slice t x (some lo) none none, ty, p, e, g⟩).run P w = .ok (.value V) w := by
  unfold execOp
  simp only [hx, hl, Option.map_some, Option.map_none, Sem.run_bind, h, Result.andThen_ok, Sem.run_pure]
theorem ex_shi {P : Program} {ev : Operand → Value} {d : Option Tmp} {t ty : TypeId} {x hi : Operand} {p : String} {e : Array Edge} {g : Option (Nat × Bool)} {A C V : Value} {w : World} (hx : ev x = A) (hh : ev hi = C) (h : (Instr.sliceAt t A none (some C) none).run P w = .ok V w) : (execOp ev ⟨d, .slice t x none (some hi) none, ty, p, e, g⟩).run P w = .ok (.value V) w := by
  unfold execOp
  simp only [hx, hh, Option.map_some, Option.map_none, Sem.run_bind, h, Result.andThen_ok, Sem.run_pure]
section
variable (ev : Operand → Value) (w : World) (d : Nat) (t : TypeId) (p : String) (e : Array Edge)
set_option maxRecDepth 1000000 in
theorem bs0_line : (execOp ev ⟨some d, .buildSlice 22 0 #[], t, p, e, none⟩).run Tryd.prog w = .ok (.value (.slice (some ⟨w.heap.size, 0, none⟩) 0 0)) (w.alloc (.cells #[] 62)) := by
  go_simp
set_option maxRecDepth 1000000 in
theorem bs0_samp : (execOp ev ⟨some d, .buildSlice 23 0 #[], t, p, e, none⟩).run Tryd.prog w = .ok (.value (.slice (some ⟨w.heap.size, 0, none⟩) 0 0)) (w.alloc (.cells #[] 57)) := by
  go_simp
end
theorem wrap_sum {a b : Nat} (h : a < 1000 ∧ b < 1000) : wrap64 ((a : Int) + (b : Int)) = (a : Int) + (b : Int) := by unfold wrap64; omega
theorem wrap_one {a : Nat} (h : a < 1000) : wrap64 ((a : Int) + 1) = ((a + 1 : Nat) : Int) := by unfold wrap64; omega
theorem rem_is {n k x g : Nat} (hx : x < n) (hk : k < n) (h : md n k x = g) : Int.tmod ((x : Int) + (k : Int)) (n : Int) = (g : Int) := by
  rw [Int.tmod_eq_emod_of_nonneg (by omega), show (x : Int) + (k : Int) = ((x + k : Nat) : Int) by omega, ← Int.natCast_emod, md_mod hx hk, h]
theorem own_empty (w : World) (e : TypeId) (size : Nat) : (w.alloc (.cells #[] e)).ownsRow w.heap.size e size (.slice (some ⟨w.heap.size, 0, none⟩) 0 0) 0 [] :=
  ⟨by simp, .inr ⟨w.heap.size, 0, #[], rfl, Nat.le_refl _, heap_alloc_new _ _, Nat.le_refl _, Nat.zero_le _, by simp, by simp⟩⟩
section
variable {ev : Operand → Value} {w : World} {d : Nat} {x y : Operand} {t u ty : TypeId} {p : String} {e : Array Edge} {g : Option (Nat × Bool)}
set_option maxRecDepth 1000000 in
theorem ex_rem {n k i : Nat} (hi : i < n) (hk : k < n) (hn : n ≤ 60) (hx : ev x = .int .i64 (i + k : Int)) (hy : ev y = .int .i64 (n : Nat)) : (execOp ev ⟨some d, .binOp .rem t x y u, ty, p, e, g⟩).run Tryd.prog w = .ok (.value (.int .i64 (md n k i : Nat))) w := by
  have h0 : ¬ n = 0 := by omega
  have h1 : Int.tmod (i + k : Int) (n : Nat) = (md n k i : Nat) := by
    rw [Int.tmod_eq_emod_of_nonneg (by omega), show (i + k : Int) = ((i + k : Nat) : Int) by omega, ← Int.natCast_emod, md_mod hi hk]
  go_simp
theorem ex_extract {vs : Array Value} {i : Nat} {v : Value} (hx : ev x = .tuple vs) (hv : vs[i]? = some v) : (execOp ev ⟨some d, .extract x i, ty, p, e, g⟩).run Tryd.prog w = .ok (.value v) w := by
  unfold execOp
  simp only [hx, Sem.run_bind]
  unfold Instr.extract
  simp [hv]
set_option maxRecDepth 1000000 in
theorem ex_build2 {a b : Int} {x y : Nat} (hx : ev (.tmp x) = .int .i64 a) (hy : ev (.tmp y) = .int .i64 b) : (execOp ev ⟨some d, .build 31 #[(0, .tmp x), (1, .tmp y)], ty, p, e, g⟩).run Tryd.prog w = .ok (.value (.agg #[.int .i64 a, .int .i64 b, .int .i64 0, .int .i64 0, .int .i64 0])) w := by
  go_simp
set_option maxRecDepth 1000000 in
theorem ex_neq5 {a b : Int} {x y : Operand} (hx : ev x = .agg #[.int .i64 a, .int .i64 b, .int .i64 0, .int .i64 0, .int .i64 0]) (hy : ev y = .agg #[.int .i64 a, .int .i64 b, .int .i64 0, .int .i64 0, .int .i64 0]) : (execOp ev ⟨some d, .binOp .neq 31 x y 31, ty, p, e, g⟩).run Tryd.prog w = .ok (.value (.bool false)) w := by
  go_simp
set_option maxRecDepth 1000000 in
theorem ex_lenT {a : Option Addr} {n c : Nat} (h : ev x = .slice a n c) : (execOp ev ⟨some d, .call { callee := .builtin .len, args := #[x], argTypes := #[33] }, ty, p, e, g⟩).run Tryd.prog w = .ok (.value (.int .i64 (n : Nat))) w := by
  go_simp
end
section
variable {w : World} {n : Nat} {v : Value} {g cap : Nat} {rows : List (List Value)}
theorem Own.from_len (h : Own w n v g cap rows) (i : Nat) : (rows.drop i).flatten.length = (rows.length - i) * n := by
  rw [flat_len _ (fun r hr => h.size r (List.mem_of_mem_drop hr)), List.length_drop]
theorem Own.to_len (h : Own w n v g cap rows) {i : Nat} (hi : i ≤ rows.length) : (rows.take i).flatten.length = i * n := by
  rw [flat_len _ (fun r hr => h.size r (List.mem_of_mem_take hr)), List.length_take, Nat.min_eq_left hi]
end
theorem from_one {rows : List (List Value)} (h : ∀ r ∈ rows, ∀ u ∈ r, u.oneCell' = true) (i : Nat) : ∀ u ∈ (rows.drop i).flatten, u.oneCell' = true := fun u hu => by
  obtain ⟨r, hr, hur⟩ := List.mem_flatten.1 hu
  exact h r (List.mem_of_mem_drop hr) u hur
theorem to_one {rows : List (List Value)} (h : ∀ r ∈ rows, ∀ u ∈ r, u.oneCell' = true) (i : Nat) : ∀ u ∈ (rows.take i).flatten, u.oneCell' = true := fun u hu => by
  obtain ⟨r, hr, hur⟩ := List.mem_flatten.1 hu
  exact h r (List.mem_of_mem_take hr) u hur
theorem turn_flat (k : Nat) (rows : List (List Value)) : ([] ++ (rows.drop k).flatten) ++ (rows.take k).flatten = (rot k rows).flatten := by
  unfold rot
  rw [List.nil_append, List.flatten_append]
theorem del_flat (g : Nat) (rows : List (List Value)) : ([] ++ (rows.take g).flatten) ++ (rows.drop (g + 1)).flatten = (del g rows).flatten := by
  unfold del
  rw [List.nil_append, List.flatten_append]
theorem turn_one {rows : List (List Value)} (h : ∀ r ∈ rows, ∀ u ∈ r, u.oneCell' = true) (k : Nat) : ∀ r ∈ rot k rows, ∀ u ∈ r, u.oneCell' = true := fun r hr => h r (rot_mem hr)
theorem turn_size {n : Nat} {rows : List (List Value)} (h : ∀ r ∈ rows, r.length = n) (k : Nat) : ∀ r ∈ rot k rows, r.length = n := fun r hr => h r (rot_mem hr)
theorem del_size {n : Nat} {rows : List (List Value)} (h : ∀ r ∈ rows, r.length = n) (k : Nat) : ∀ r ∈ del k rows, r.length = n := fun r hr => h r (del_mem hr)
theorem del_sl {w : World} {n base m g : Nat} {e : TypeId} {v : Value} {rows : List (List Value)} {xs : List Value} (h : w.ownsRow base e n v m xs) (hm : m = (del g rows).length) (hx : xs = (del g rows).flatten) (hl : ∀ r ∈ rows, r.length = n) : Sl w n v (del g rows) :=
  Sl.of_own h hm hx (del_size hl g)
end Go.Proofs.YtmnoegfehgoalaaDoor.cx

namespace Go.Proofs.YtmnoegfehgoalaaDoor.cx
open Go.RowKit Go.Extern.Stop Go.Stop Go.Extern Go.Cx
set_option linter.unusedVariables false

set_option maxHeartbeats 4000000 in
set_option maxRecDepth 1000000 in
theorem own_row (W : World) (tv : Value) (ls : List (List Value)) (b : Int) (tn gn : Nat) (hb : 0 ≤ b ∧ b < 4294967296) (htn : tn < 256) (hgn : gn < 256) (hl : ∀ r ∈ ls, RowOk tripK r) (htv : Sl W 5 tv ls) (hpos : 0 < ls.length) (hn : ls.length ≤ 40)
    (hK : ∀ w, Below W.heap.size W w → Calls Tryd.prog 5 #[] w fun e w' => e = .returned (.bool true) ∧ Below w.heap.size w w')
    (hF1 : ∀ w, Below W.heap.size W w → ∀ v (x : Nat), AmissAt w v wLine x 4 → Calls Tryd.prog 9 #[v] w fun e w' => e = .returned (.tuple #[.string wLine, .int .i64 (x : Nat), .bool true]) ∧ Below w.heap.size w w')
    (hF2 : ∀ w, Below W.heap.size W w → ∀ v (x : Nat), AmissAt w v wSample x 6 → Calls Tryd.prog 9 #[v] w fun e w' => e = .returned (.tuple #[.string wSample, .int .i64 (x : Nat), .bool true]) ∧ Below w.heap.size w w')
    (hF3 : ∀ w, Below W.heap.size W w → ∀ v (x : Nat), AmissAt w v wSample x 6 → Calls Tryd.prog 10 #[v] w fun e w' => e = .returned (.bool false) ∧ Below w.heap.size w w') :
    Calls Tryd.prog 4 #[tv, .int .u32 b, .int .u8 (tn : Nat), .int .u8 (gn : Nat)] W fun e w' => e = .returned (.bool true) ∧ Below W.heap.size W w' := by
  obtain ⟨ta, tc, rfl, tcap, tmx, tnone⟩ := htv.form
  have HT := Lib.hid (trips_w W _ ls b hb hl htv hn)
  have HK := Lib.hid (And.intro hK (And.intro hF1 (And.intro hF2 hF3)))
  have HL := Lib.hid (And.intro hb (And.intro hl htv))
  have hk : tn % ls.length < ls.length := Nat.mod_lt _ hpos
  have hg : gn % ls.length < ls.length := Nat.mod_lt _ hpos
  have e1 : decide ((40 : Int) < (ls.length : Int)) = false := by simp; omega
  have e2 : ((ls.length : Int) == 0) = false := by rw [beq_eq_false_iff_ne]; omega
  have e3 : ¬ ls.length = 0 := by omega
  have m1 : Int.tmod (tn : Nat) (ls.length : Nat) = ((tn % ls.length : Nat) : Int) := by rw [Int.tmod_eq_emod_of_nonneg (by omega), Int.natCast_emod]
  have m2 : Int.tmod (gn : Nat) (ls.length : Nat) = ((gn % ls.length : Nat) : Int) := by rw [Int.tmod_eq_emod_of_nonneg (by omega), Int.natCast_emod]
  have w1 : IntKind.wrap .i64 (tn : Nat) = (tn : Nat) := by rw [IntWalk.i64_left]; unfold wrap64; omega
  have w2 : IntKind.wrap .i64 (gn : Nat) = (gn : Nat) := by rw [IntWalk.i64_left]; unfold wrap64; omega
  generalize hke : tn % ls.length = k at *
  generalize hge : gn % ls.length = g at *
  clear hke hge hK hF1 hF2 hF3 hl htv tnone hb htn hgn
  go_enter Tryd.func4, Tryd.ntmps4
  go_wp2_with (go_at_call 7; refine HT.out.mono ?_; rintro e w1 ⟨sv, lv, rfl, oS, oL, hb1⟩)
  obtain ⟨gL, cL, hOL, _⟩ := Own.of (rows := linL b ls) oL (linL_len b ls).symm linC_flat (fun r hr => by obtain ⟨i, _, rfl⟩ := List.mem_map.1 hr; exact lin_len _ _) (by rw [linL_len]; exact hpos)
  obtain ⟨gS, cS, hOS, _⟩ := Own.of (rows := samL b ls) oS (samL_len b ls).symm samC_flat (fun r hr => by obtain ⟨i, _, rfl⟩ := List.mem_map.1 hr; exact sam_len _ _) (by rw [samL_len]; exact hpos)
  have hlv : lv = .slice (some ⟨gL, 0, none⟩) ls.length cL := by have := hOL.is; rw [linL_len] at this; exact this
  have hsv : sv = .slice (some ⟨gS, 0, none⟩) ls.length cS := by have := hOS.is; rw [samL_len] at this; exact this
  subst hlv hsv
  have hkc : k ≤ cL := by have := hOL.fits; rw [linL_len] at this; omega
  have hcS : ls.length ≤ cS := by have := hOS.fits; rw [samL_len] at this; exact this
  have OL := Lib.hid hOL
  have OS := Lib.hid hOS
  obtain ⟨is, js0, js1, js2, js3⟩ := info_parts (P := Tryd.prog) (e := 57) (z := .agg smpZ) (size := 48) (bytes := 136) (by kernel_rfl)
  obtain ⟨il, jl0, jl1, jl2, jl3⟩ := info_parts (P := Tryd.prog) (e := 62) (z := .agg lineZ) (size := 53) (bytes := 120) (by kernel_rfl)
  have HIs := Lib.hid (And.intro js0 (And.intro js1 (And.intro js2 js3)))
  have HIl := Lib.hid (And.intro jl0 (And.intro jl1 (And.intro jl2 jl3)))
  have HONE := Lib.hid (And.intro (fun r hr => row_one (linL_ok HL.out.1 HL.out.2.1 hn r hr)) (fun r hr => row_one (samL_ok HL.out.1 HL.out.2.1 hn r hr)))
  clear js0 js1 js2 js3 jl0 jl1 jl2 jl3 hOL hOS oL oS
  refine wp_region_held_drew (S := fun _ => True) (by kernel_rfl) trivial (fun hSd => ?_)
  refine take_val (i := 1) (oi := ⟨some 49, .move (.tmp 10), _, _, _, none⟩) (.slice (some ⟨gL, 0, none⟩) ls.length cL) rfl (by kernel_rfl) (by kernel_rfl) (by kernel_rfl) (fun _ _ _ h => h) rfl (fun w hSw => rfl) trivial ?_
  simp only [Act.put, List.setIfInBounds_toArray, List.set_cons_zero, List.set_cons_succ]
  refine take_val (i := 2) (oi := ⟨some 50, .move (.tmp 12), _, _, _, none⟩) (.int .i64 (k : Nat)) rfl (by kernel_rfl) (by kernel_rfl) (by kernel_rfl) (fun _ _ _ h => h) rfl (fun w hSw => rfl) trivial ?_
  simp only [Act.put, List.setIfInBounds_toArray, List.set_cons_zero, List.set_cons_succ]
  refine take_val (i := 3) (oi := ⟨some 51, .slice 22 (.tmp 49) (some (.tmp 50)) none none, _, _, _, none⟩) (.slice (some ⟨gL, fo cL k 53, none⟩) (ls.length - k) (cL - k)) rfl (by kernel_rfl) (by kernel_rfl) (by kernel_rfl) (fun _ _ _ h => h) rfl (fun w hSw => ex_slo rfl rfl (slice_from (size := 53) Tryd.underlying22 (fun w => by kernel_rfl) gL ls.length cL k (Nat.le_of_lt hk) w)) trivial ?_
  simp only [Act.put, List.setIfInBounds_toArray, List.set_cons_zero, List.set_cons_succ]
  refine take_val (i := 5) (oi := ⟨some 53, .move (.tmp 10), _, _, _, none⟩) (.slice (some ⟨gL, 0, none⟩) ls.length cL) rfl (by kernel_rfl) (by kernel_rfl) (by kernel_rfl) (fun _ _ _ h => h) rfl (fun w hSw => rfl) trivial ?_
  simp only [Act.put, List.setIfInBounds_toArray, List.set_cons_zero, List.set_cons_succ]
  refine take_val (i := 6) (oi := ⟨some 54, .move (.tmp 12), _, _, _, none⟩) (.int .i64 (k : Nat)) rfl (by kernel_rfl) (by kernel_rfl) (by kernel_rfl) (fun _ _ _ h => h) rfl (fun w hSw => rfl) trivial ?_
  simp only [Act.put, List.setIfInBounds_toArray, List.set_cons_zero, List.set_cons_succ]
  refine take_val (i := 7) (oi := ⟨some 55, .slice 22 (.tmp 53) none (some (.tmp 54)) none, _, _, _, none⟩) (.slice (some ⟨gL, 0, none⟩) k cL) rfl (by kernel_rfl) (by kernel_rfl) (by kernel_rfl) (fun _ _ _ h => h) rfl (fun w hSw => ex_shi rfl rfl (slice_to (size := 53) Tryd.underlying22 (fun w => by kernel_rfl) gL ls.length cL k hkc w)) trivial ?_
  simp only [Act.put, List.setIfInBounds_toArray, List.set_cons_zero, List.set_cons_succ]
  refine take_ready (rs := [0]) (by kernel_rfl) (by simp) (fun i hi => ?_)
  obtain rfl : i = 0 := by simpa using hi
  clear hi
  refine ⟨⟨some 48, .buildSlice 22 0 #[], _, _, _, none⟩, rfl, fun K' hK' => ?_⟩
  refine do_if rfl (bs0_line _ _ _ _ _ _) ?_
  have hZ := (Below.refl w1.drew.heap.size w1.drew).alloc (Nat.le_refl _) (.cells #[] 62)
  have oZ := own_empty w1.drew 62 53
  refine hK' _ _ ⟨trivial, ?_⟩
  simp only [Act.put, List.setIfInBounds_toArray, List.set_cons_zero, List.set_cons_succ]
  have OL1 := OL.out.up (((Below.refl w1.heap.size w1).drew).trans hZ)
  refine take_ready (rs := [4]) (by kernel_rfl) (by simp) (fun i hi => ?_)
  obtain rfl : i = 4 := by simpa using hi
  clear hi
  refine ⟨⟨some 52, .call { callee := .builtin .append, args := #[.tmp 48, .tmp 51], argTypes := #[22, 22] }, _, _, _, none⟩, rfl, fun K' hK' => ?_⟩
  refine app_if (.tmp 48) (.tmp 51) 22 rfl rfl w1.drew.heap.size 62 il _ 53 120 Tryd.underlying22 HIl.out.1 HIl.out.2.1 HIl.out.2.2.1 HIl.out.2.2.2 rfl (by decide) _ _ _ rfl oZ ⟨gL, fo cL k 53, none⟩ (ls.length - k) (cL - k) ((linL b ls).drop k).flatten rfl (by have := OL.out.from_len k; rw [linL_len] at this; exact this) (OL1.from (by rw [linL_len]; omega)) (from_one HONE.out.1 k) (by unfold maxLen; omega) (by omega) hZ.size ?_
  intro vA wA o1 hG
  refine hK' _ _ ⟨trivial, ?_⟩
  simp only [Act.put, List.setIfInBounds_toArray, List.set_cons_zero, List.set_cons_succ]
  have hA : Below w1.drew.heap.size w1.drew wA := below_row hZ hG (fun q e => (oZ.lt q e).1)
  have OL2 := OL.out.up (((Below.refl w1.heap.size w1).drew).trans hA)
  have oA := o1
  clear o1 hG
  refine take_ready (rs := [8]) (by kernel_rfl) (by simp) (fun i hi => ?_)
  obtain rfl : i = 8 := by simpa using hi
  clear hi
  refine ⟨⟨some 56, .call { callee := .builtin .append, args := #[.tmp 52, .tmp 55], argTypes := #[22, 22] }, _, _, _, none⟩, rfl, fun K' hK' => ?_⟩
  refine app_if (.tmp 52) (.tmp 55) 22 rfl rfl w1.drew.heap.size 62 il _ 53 120 Tryd.underlying22 HIl.out.1 HIl.out.2.1 HIl.out.2.2.1 HIl.out.2.2.2 rfl (by decide) _ _ _ rfl oA ⟨gL, 0, none⟩ k cL ((linL b ls).take k).flatten rfl (OL.out.to_len (by rw [linL_len]; omega)) OL2.to (to_one HONE.out.1 k) (by unfold maxLen; omega) (by omega) hA.size ?_
  intro vB wB o1 hG
  refine hK' _ _ ⟨trivial, ?_⟩
  simp only [Act.put, List.setIfInBounds_toArray, List.set_cons_zero, List.set_cons_succ]
  have hB : Below w1.drew.heap.size w1.drew wB := below_row hA hG (fun q e => (oA.lt q e).1)
  obtain ⟨gT, cT, hOT, hgT⟩ := Own.of (rows := rot k (linL b ls)) o1 (by rw [rot_len, linL_len]; omega) (turn_flat _ _) (turn_size OL.out.size k) (by rw [rot_len, linL_len]; exact hpos)
  have OT := Lib.hid hOT
  have hvB : vB = .slice (some ⟨gT, 0, none⟩) ls.length cT := by have := hOT.is; rw [rot_len, linL_len] at this; exact this
  subst hvB
  have hb2 := hb1.trans ((((Below.refl w1.heap.size w1).drew).trans hB).mono hb1.size)
  have OS2 := Lib.hid (OS.out.up (((Below.refl w1.heap.size w1).drew).trans hB))
  have hcT : ls.length ≤ cT := by have := hOT.fits; rw [rot_len, linL_len] at this; exact this
  clear hZ oZ OL1 hA OL2 oA o1 hG hB hOT hgT hb1 OL OS HT
  refine take_val (i := 9) (oi := ⟨some 13, .assign (.tmp 56), _, _, _, none⟩) (.slice (some ⟨gT, 0, none⟩) ls.length cT) rfl (by kernel_rfl) (by kernel_rfl) (by kernel_rfl) (fun _ _ _ h => h) rfl (fun w hSw => rfl) trivial ?_
  simp only [Act.put, List.setIfInBounds_toArray, List.set_cons_zero, List.set_cons_succ]
  refine wpAnyH_done (by kernel_rfl) ?_ _
  clear hSd
  have hlm : (samL b ls).length = ls.length := samL_len b ls
  have hlt : (rot k (linL b ls)).length = ls.length := by rw [rot_len, linL_len]
  have hM := meet_w wB (.slice (some ⟨gT, 0, none⟩) ls.length cT) (.slice (some ⟨gS, 0, none⟩) ls.length cS) (rot k (linL b ls)) (samL b ls) (fun r hr => linL_ok HL.out.1 HL.out.2.1 hn r (rot_mem hr)) (samL_ok HL.out.1 HL.out.2.1 hn) (by have := OT.out.sl; exact this) (by have := OS2.out.sl; exact this) (by omega) (by omega)
  obtain ⟨gm1, gm2, gm3⟩ := own_meet HL.out.1 HL.out.2.1 hn hk
  unfold MeetAt at hM
  rw [hlm, hlt, gm1, gm2, gm3, List.length_map, List.length_range] at hM
  have HMt := Lib.hid hM
  have HL2 := Lib.hid (And.intro hlm hlt)
  clear hM gm1 gm2 gm3 hlm hlt
  have hB2 := Lib.hid hb2
  clear hb2
  go_wp2_with (go_at_call 6; refine HMt.out.mono ?_; rintro e w2 ⟨vm, vl, vb, rfl, o1, o2, o3, hbm⟩; (obtain ⟨a6, c6, rfl, _, _, _, _⟩ := own_get o2); (obtain ⟨a7, c7, rfl, _, _, _, _⟩ := own_get o3); (obtain ⟨a5, c5, rfl, k51, k52, k53, k54⟩ := own_get o1); (obtain ⟨gM, rfl, _, hrM⟩ := k54 (by omega)); have HO := Lib.hid (And.intro hrM hbm); clear o1 o2 o3 k53 k54 hrM hbm)
  go_loopg [84] ls.length (fun g i wl => ∃ c : Nat, i = .int .i64 (c : Nat) ∧ c ≤ ls.length ∧ g = ls.length - c ∧ Below w2.heap.size w2 wl)
  case atStart => exact ⟨0, rfl, Nat.zero_le _, by omega, Below.refl _ _⟩
  case round =>
    obtain ⟨c, rfl, hc, hgd, hbw⟩ := hrel
    by_cases hcn : c = ls.length
    · have e4 : decide ((c : Int) < (ls.length : Int)) = false := by rw [hcn]; simp
      have HW := Lib.hid hbw
      clear hbw hgd hc
      have hbr := HO.out.2.trans (HW.out.mono HO.out.2.size)
      have OT3 := Lib.hid (OT.out.up hbr)
      have OS3 := Lib.hid (OS2.out.up hbr)
      have HB3 := Lib.hid (hB2.out.trans (hbr.mono hB2.out.size))
      have hau := audit_w wr (.slice (some ⟨gT, 0, none⟩) ls.length cT) (.slice (some ⟨gS, 0, none⟩) ls.length cS) (rot k (linL b ls)) (samL b ls) 0 (by decide) (fun r hr => linL_ok HL.out.1 HL.out.2.1 hn r (rot_mem hr)) (samL_ok HL.out.1 HL.out.2.1 hn) OT3.out.sl OS3.out.sl (by rw [HL2.out.2]; omega) (by rw [HL2.out.1]; omega)
      rw [HL2.out.1, HL2.out.2, own_aud1 HL.out.1 HL.out.2.1 hn hk] at hau
      have HA := Lib.hid hau
      clear hbr hau
      go_wp2_with fail
      refine HA.out.mono ?_
      rintro e w3 ⟨v, rfl, hv, hb3⟩
      obtain rfl : v = .nilIface := hv
      have HB4 := Lib.hid hb3
      clear hb3
      go_wp2_with fail
      have OT4 := Lib.hid (OT3.out.up HB4.out)
      have OS4 := Lib.hid (OS3.out.up HB4.out)
      have HB5 := Lib.hid (HB3.out.trans (HB4.out.mono HB3.out.size))
      clear OT OS2 hB2 HMt HO HW OT3 OS3 HB3 HA HB4
      have HG1 := Lib.hid (wrap_one (a := g) (by omega))
      refine wp_region_held_drew (S := fun _ => True) (by kernel_rfl) trivial (fun hSd => ?_)
      refine take_val (i := 0) (oi := ⟨some 118, .move (.tmp 13), _, _, _, none⟩) (.slice (some ⟨gT, 0, none⟩) ls.length cT) rfl (by kernel_rfl) (by kernel_rfl) (by kernel_rfl) (fun _ _ _ h => h) rfl (fun w hSw => rfl) trivial ?_
      simp only [Act.put, List.setIfInBounds_toArray, List.set_cons_zero, List.set_cons_succ]
      refine take_val (i := 2) (oi := ⟨some 120, .move (.tmp 9), _, _, _, none⟩) (.slice (some ⟨gS, 0, none⟩) ls.length cS) rfl (by kernel_rfl) (by kernel_rfl) (by kernel_rfl) (fun _ _ _ h => h) rfl (fun w hSw => rfl) trivial ?_
      simp only [Act.put, List.setIfInBounds_toArray, List.set_cons_zero, List.set_cons_succ]
      refine take_val (i := 3) (oi := ⟨some 121, .move (.tmp 21), _, _, _, none⟩) (.int .i64 (g : Nat)) rfl (by kernel_rfl) (by kernel_rfl) (by kernel_rfl) (fun _ _ _ h => h) rfl (fun w hSw => rfl) trivial ?_
      simp only [Act.put, List.setIfInBounds_toArray, List.set_cons_zero, List.set_cons_succ]
      refine take_val (i := 4) (oi := ⟨some 122, .slice 23 (.tmp 120) none (some (.tmp 121)) none, _, _, _, none⟩) (.slice (some ⟨gS, 0, none⟩) g cS) rfl (by kernel_rfl) (by kernel_rfl) (by kernel_rfl) (fun _ _ _ h => h) rfl (fun w hSw => ex_shi rfl rfl (slice_to (size := 48) Tryd.underlying23 (fun w => by kernel_rfl) gS ls.length cS g (by omega) w)) trivial ?_
      simp only [Act.put, List.setIfInBounds_toArray, List.set_cons_zero, List.set_cons_succ]
      refine take_val (i := 6) (oi := ⟨some 124, .move (.tmp 9), _, _, _, none⟩) (.slice (some ⟨gS, 0, none⟩) ls.length cS) rfl (by kernel_rfl) (by kernel_rfl) (by kernel_rfl) (fun _ _ _ h => h) rfl (fun w hSw => rfl) trivial ?_
      simp only [Act.put, List.setIfInBounds_toArray, List.set_cons_zero, List.set_cons_succ]
      refine take_val (i := 7) (oi := ⟨some 125, .move (.tmp 21), _, _, _, none⟩) (.int .i64 (g : Nat)) rfl (by kernel_rfl) (by kernel_rfl) (by kernel_rfl) (fun _ _ _ h => h) rfl (fun w hSw => rfl) trivial ?_
      simp only [Act.put, List.setIfInBounds_toArray, List.set_cons_zero, List.set_cons_succ]
      refine take_val (i := 8) (oi := ⟨some 126, .binOp .add 3 (.tmp 125) (.const (.int .i64 1)) 3, _, _, _, none⟩) (.int .i64 ((g + 1 : Nat) : Int)) rfl (by kernel_rfl) (by kernel_rfl) (by kernel_rfl) (fun _ _ _ h => h) rfl (fun w hSw => ex_add rfl rfl HG1.out) trivial ?_
      simp only [Act.put, List.setIfInBounds_toArray, List.set_cons_zero, List.set_cons_succ]
      refine take_val (i := 9) (oi := ⟨some 127, .slice 23 (.tmp 124) (some (.tmp 126)) none none, _, _, _, none⟩) (.slice (some ⟨gS, fo cS (g + 1) 48, none⟩) (ls.length - (g + 1)) (cS - (g + 1))) rfl (by kernel_rfl) (by kernel_rfl) (by kernel_rfl) (fun _ _ _ h => h) rfl (fun w hSw => ex_slo rfl rfl (slice_from (size := 48) Tryd.underlying23 (fun w => by kernel_rfl) gS ls.length cS (g + 1) hg w)) trivial ?_
      simp only [Act.put, List.setIfInBounds_toArray, List.set_cons_zero, List.set_cons_succ]
      refine take_ready (rs := [1]) (by kernel_rfl) (by simp) (fun i hi => ?_)
      obtain rfl : i = 1 := by simpa using hi
      clear hi
      refine ⟨⟨some 119, .buildSlice 23 0 #[], _, _, _, none⟩, rfl, fun K' hK' => ?_⟩
      refine do_if rfl (bs0_samp _ _ _ _ _ _) ?_
      have hZ := (Below.refl w3.drew.heap.size w3.drew).alloc (Nat.le_refl _) (.cells #[] 57)
      have oZ := own_empty w3.drew 57 48
      refine hK' _ _ ⟨trivial, ?_⟩
      simp only [Act.put, List.setIfInBounds_toArray, List.set_cons_zero, List.set_cons_succ]
      have O1 := OS4.out.up (((Below.refl w3.heap.size w3).drew).trans hZ)
      refine take_ready (rs := [5]) (by kernel_rfl) (by simp) (fun i hi => ?_)
      obtain rfl : i = 5 := by simpa using hi
      clear hi
      refine ⟨⟨some 123, .call { callee := .builtin .append, args := #[.tmp 119, .tmp 122], argTypes := #[23, 23] }, _, _, _, none⟩, rfl, fun K' hK' => ?_⟩
      refine app_if (.tmp 119) (.tmp 122) 23 rfl rfl w3.drew.heap.size 57 is _ 48 136 Tryd.underlying23 HIs.out.1 HIs.out.2.1 HIs.out.2.2.1 HIs.out.2.2.2 rfl (by decide) _ _ _ rfl oZ ⟨gS, 0, none⟩ g cS ((samL b ls).take g).flatten rfl (OS4.out.to_len (by rw [HL2.out.1]; omega)) O1.to (to_one HONE.out.2 g) (by unfold maxLen; omega) (by omega) hZ.size ?_
      intro vA wA o1 hG
      refine hK' _ _ ⟨trivial, ?_⟩
      simp only [Act.put, List.setIfInBounds_toArray, List.set_cons_zero, List.set_cons_succ]
      have hA : Below w3.drew.heap.size w3.drew wA := below_row hZ hG (fun q e => (oZ.lt q e).1)
      have O2 := OS4.out.up (((Below.refl w3.heap.size w3).drew).trans hA)
      have oA := o1
      clear o1 hG
      refine take_ready (rs := [10]) (by kernel_rfl) (by simp) (fun i hi => ?_)
      obtain rfl : i = 10 := by simpa using hi
      clear hi
      refine ⟨⟨some 128, .call { callee := .builtin .append, args := #[.tmp 123, .tmp 127], argTypes := #[23, 23] }, _, _, _, none⟩, rfl, fun K' hK' => ?_⟩
      refine app_if (.tmp 123) (.tmp 127) 23 rfl rfl w3.drew.heap.size 57 is _ 48 136 Tryd.underlying23 HIs.out.1 HIs.out.2.1 HIs.out.2.2.1 HIs.out.2.2.2 rfl (by decide) _ _ _ rfl oA ⟨gS, fo cS (g + 1) 48, none⟩ (ls.length - (g + 1)) (cS - (g + 1)) ((samL b ls).drop (g + 1)).flatten rfl (by have := OS4.out.from_len (g + 1); rw [HL2.out.1] at this; exact this) (O2.from (by rw [HL2.out.1]; omega)) (from_one HONE.out.2 (g + 1)) (by unfold maxLen; omega) (by omega) hA.size ?_
      intro vB wB o1 hG
      refine hK' _ _ ⟨trivial, ?_⟩
      simp only [Act.put, List.setIfInBounds_toArray, List.set_cons_zero, List.set_cons_succ]
      have hB : Below w3.drew.heap.size w3.drew wB := below_row hA hG (fun q e => (oA.lt q e).1)
      have hD : Sl wB 48 vB (del g (samL b ls)) := del_sl o1 (by rw [del_len (by rw [HL2.out.1]; exact hg), HL2.out.1]; omega) (del_flat _ _) OS4.out.size
      have hBW := ((Below.refl w3.heap.size w3).drew).trans hB
      clear hZ oZ O1 hA O2 oA o1 hG hB
      have OT5 := Lib.hid (OT4.out.up hBW)
      have OS5 := Lib.hid (OS4.out.up hBW)
      have HB6 := Lib.hid (HB5.out.trans (hBW.mono HB5.out.size))
      have hau := audit_w wB (.slice (some ⟨gT, 0, none⟩) ls.length cT) vB (rot k (linL b ls)) (del g (samL b ls)) 0 (by decide) (fun r hr => linL_ok HL.out.1 HL.out.2.1 hn r (rot_mem hr)) (fun r hr => samL_ok HL.out.1 HL.out.2.1 hn r (del_mem hr)) OT5.out.sl hD (by rw [HL2.out.2]; omega) (by rw [sam_ok_len hpos hg]; omega)
      obtain ⟨x, hx1, hx2, hx3⟩ := own_aud2 HL.out.1 HL.out.2.1 hn hk hg
      rw [HL2.out.2, sam_ok_len hpos hg, hx1] at hau
      refine take_call 11 (f := 8) (args := #[.slice (some ⟨gT, 0, none⟩) ls.length cT, vB, .int .i64 0]) rfl (by kernel_rfl) rfl (by kernel_rfl) hau ?_
      rintro e w4 ⟨v, rfl, hv, hb4⟩
      refine ⟨_, rfl, trivial, ?_⟩
      simp only [Act.put, List.setIfInBounds_toArray, List.set_cons_zero, List.set_cons_succ]
      clear hau hx1 hD hBW
      refine take_val (i := 12) (oi := ⟨some 117, .move (.tmp 129), _, _, _, none⟩) (.tuple #[v, .int .i64 0]) rfl (by kernel_rfl) (by kernel_rfl) (by kernel_rfl) (fun _ _ _ h => h) rfl (fun w hSw => rfl) trivial ?_
      simp only [Act.put, List.setIfInBounds_toArray, List.set_cons_zero, List.set_cons_succ]
      refine take_val (i := 13) (oi := ⟨some 130, .extract (.tmp 117) 0, _, _, _, none⟩) (v) rfl (by kernel_rfl) (by kernel_rfl) (by kernel_rfl) (fun _ _ _ h => h) rfl (fun w hSw => ex_extract (vs := #[v, .int .i64 0]) rfl rfl) trivial ?_
      simp only [Act.put, List.setIfInBounds_toArray, List.set_cons_zero, List.set_cons_succ]
      refine take_val (i := 14) (oi := ⟨some 131, .extract (.tmp 117) 1, _, _, _, none⟩) (.int .i64 0) rfl (by kernel_rfl) (by kernel_rfl) (by kernel_rfl) (fun _ _ _ h => h) rfl (fun w hSw => ex_extract (vs := #[v, .int .i64 0]) rfl rfl) trivial ?_
      simp only [Act.put, List.setIfInBounds_toArray, List.set_cons_zero, List.set_cons_succ]
      refine take_val (i := 15) (oi := ⟨some 20, .assign (.tmp 130), _, _, _, none⟩) (v) rfl (by kernel_rfl) (by kernel_rfl) (by kernel_rfl) (fun _ _ _ h => h) rfl (fun w hSw => rfl) trivial ?_
      simp only [Act.put, List.setIfInBounds_toArray, List.set_cons_zero, List.set_cons_succ]
      refine take_val (i := 16) (oi := ⟨some 17, .assign (.tmp 131), _, _, _, none⟩) (.int .i64 0) rfl (by kernel_rfl) (by kernel_rfl) (by kernel_rfl) (fun _ _ _ h => h) rfl (fun w hSw => rfl) trivial ?_
      simp only [Act.put, List.setIfInBounds_toArray, List.set_cons_zero, List.set_cons_succ]
      refine wpAnyH_done (by kernel_rfl) ?_ _
      have OT6 := Lib.hid (OT5.out.up hb4)
      have OS6 := Lib.hid (OS5.out.up hb4)
      have HB7 := Lib.hid (HB6.out.trans (hb4.mono HB6.out.size))
      have HV := Lib.hid hv
      clear hSd hv hb4 OT5 OS5 HB6
      have hwx := wrap_sum (a := x) (b := k) ⟨by omega, by omega⟩
      have hmx := rem_is hx3 hk hx2
      have hF := HK.out.2.1 _ HB7.out v x HV.out
      unfold wLine at hF
      have HF := Lib.hid hF
      clear hF hx2
      go_wp2_with (go_at_call 9; refine HF.out.mono ?_; rintro e w5 ⟨rfl, hb5⟩; have HB8 := Lib.hid hb5; clear hb5)
      clear hwx hmx HF HV hx3
      have OT7 := Lib.hid (OT6.out.up HB8.out)
      have OS7 := Lib.hid (OS6.out.up HB8.out)
      have HB9 := Lib.hid (HB7.out.trans (HB8.out.mono HB7.out.size))
      clear OT6 OS6 HB7 HB8 OT4 OS4 HB5
      refine wp_region_held_drew (S := fun _ => True) (by kernel_rfl) trivial (fun hSd => ?_)
      refine take_val (i := 1) (oi := ⟨some 160, .move (.tmp 13), _, _, _, none⟩) (.slice (some ⟨gT, 0, none⟩) ls.length cT) rfl (by kernel_rfl) (by kernel_rfl) (by kernel_rfl) (fun _ _ _ h => h) rfl (fun w hSw => rfl) trivial ?_
      simp only [Act.put, List.setIfInBounds_toArray, List.set_cons_zero, List.set_cons_succ]
      refine take_val (i := 2) (oi := ⟨some 161, .move (.tmp 21), _, _, _, none⟩) (.int .i64 (g : Nat)) rfl (by kernel_rfl) (by kernel_rfl) (by kernel_rfl) (fun _ _ _ h => h) rfl (fun w hSw => rfl) trivial ?_
      simp only [Act.put, List.setIfInBounds_toArray, List.set_cons_zero, List.set_cons_succ]
      refine take_val (i := 3) (oi := ⟨some 162, .slice 22 (.tmp 160) none (some (.tmp 161)) none, _, _, _, none⟩) (.slice (some ⟨gT, 0, none⟩) g cT) rfl (by kernel_rfl) (by kernel_rfl) (by kernel_rfl) (fun _ _ _ h => h) rfl (fun w hSw => ex_shi rfl rfl (slice_to (size := 53) Tryd.underlying22 (fun w => by kernel_rfl) gT ls.length cT g (by omega) w)) trivial ?_
      simp only [Act.put, List.setIfInBounds_toArray, List.set_cons_zero, List.set_cons_succ]
      refine take_val (i := 5) (oi := ⟨some 164, .move (.tmp 13), _, _, _, none⟩) (.slice (some ⟨gT, 0, none⟩) ls.length cT) rfl (by kernel_rfl) (by kernel_rfl) (by kernel_rfl) (fun _ _ _ h => h) rfl (fun w hSw => rfl) trivial ?_
      simp only [Act.put, List.setIfInBounds_toArray, List.set_cons_zero, List.set_cons_succ]
      refine take_val (i := 6) (oi := ⟨some 165, .move (.tmp 21), _, _, _, none⟩) (.int .i64 (g : Nat)) rfl (by kernel_rfl) (by kernel_rfl) (by kernel_rfl) (fun _ _ _ h => h) rfl (fun w hSw => rfl) trivial ?_
      simp only [Act.put, List.setIfInBounds_toArray, List.set_cons_zero, List.set_cons_succ]
      refine take_val (i := 7) (oi := ⟨some 166, .binOp .add 3 (.tmp 165) (.const (.int .i64 1)) 3, _, _, _, none⟩) (.int .i64 ((g + 1 : Nat) : Int)) rfl (by kernel_rfl) (by kernel_rfl) (by kernel_rfl) (fun _ _ _ h => h) rfl (fun w hSw => ex_add rfl rfl HG1.out) trivial ?_
      simp only [Act.put, List.setIfInBounds_toArray, List.set_cons_zero, List.set_cons_succ]
      refine take_val (i := 8) (oi := ⟨some 167, .slice 22 (.tmp 164) (some (.tmp 166)) none none, _, _, _, none⟩) (.slice (some ⟨gT, fo cT (g + 1) 53, none⟩) (ls.length - (g + 1)) (cT - (g + 1))) rfl (by kernel_rfl) (by kernel_rfl) (by kernel_rfl) (fun _ _ _ h => h) rfl (fun w hSw => ex_slo rfl rfl (slice_from (size := 53) Tryd.underlying22 (fun w => by kernel_rfl) gT ls.length cT (g + 1) hg w)) trivial ?_
      simp only [Act.put, List.setIfInBounds_toArray, List.set_cons_zero, List.set_cons_succ]
      refine take_val (i := 10) (oi := ⟨some 169, .move (.tmp 9), _, _, _, none⟩) (.slice (some ⟨gS, 0, none⟩) ls.length cS) rfl (by kernel_rfl) (by kernel_rfl) (by kernel_rfl) (fun _ _ _ h => h) rfl (fun w hSw => rfl) trivial ?_
      simp only [Act.put, List.setIfInBounds_toArray, List.set_cons_zero, List.set_cons_succ]
      refine take_ready (rs := [0]) (by kernel_rfl) (by simp) (fun i hi => ?_)
      obtain rfl : i = 0 := by simpa using hi
      clear hi
      refine ⟨⟨some 159, .buildSlice 22 0 #[], _, _, _, none⟩, rfl, fun K' hK' => ?_⟩
      refine do_if rfl (bs0_line _ _ _ _ _ _) ?_
      have hZ := (Below.refl w5.drew.heap.size w5.drew).alloc (Nat.le_refl _) (.cells #[] 62)
      have oZ := own_empty w5.drew 62 53
      refine hK' _ _ ⟨trivial, ?_⟩
      simp only [Act.put, List.setIfInBounds_toArray, List.set_cons_zero, List.set_cons_succ]
      have O1 := OT7.out.up (((Below.refl w5.heap.size w5).drew).trans hZ)
      refine take_ready (rs := [4]) (by kernel_rfl) (by simp) (fun i hi => ?_)
      obtain rfl : i = 4 := by simpa using hi
      clear hi
      refine ⟨⟨some 163, .call { callee := .builtin .append, args := #[.tmp 159, .tmp 162], argTypes := #[22, 22] }, _, _, _, none⟩, rfl, fun K' hK' => ?_⟩
      refine app_if (.tmp 159) (.tmp 162) 22 rfl rfl w5.drew.heap.size 62 il _ 53 120 Tryd.underlying22 HIl.out.1 HIl.out.2.1 HIl.out.2.2.1 HIl.out.2.2.2 rfl (by decide) _ _ _ rfl oZ ⟨gT, 0, none⟩ g cT ((rot k (linL b ls)).take g).flatten rfl (OT7.out.to_len (by rw [HL2.out.2]; omega)) O1.to (to_one (turn_one HONE.out.1 k) g) (by unfold maxLen; omega) (by omega) hZ.size ?_
      intro vA wA o1 hG
      refine hK' _ _ ⟨trivial, ?_⟩
      simp only [Act.put, List.setIfInBounds_toArray, List.set_cons_zero, List.set_cons_succ]
      have hA : Below w5.drew.heap.size w5.drew wA := below_row hZ hG (fun q e => (oZ.lt q e).1)
      have O2 := OT7.out.up (((Below.refl w5.heap.size w5).drew).trans hA)
      have oA := o1
      clear o1 hG
      refine take_ready (rs := [9]) (by kernel_rfl) (by simp) (fun i hi => ?_)
      obtain rfl : i = 9 := by simpa using hi
      clear hi
      refine ⟨⟨some 168, .call { callee := .builtin .append, args := #[.tmp 163, .tmp 167], argTypes := #[22, 22] }, _, _, _, none⟩, rfl, fun K' hK' => ?_⟩
      refine app_if (.tmp 163) (.tmp 167) 22 rfl rfl w5.drew.heap.size 62 il _ 53 120 Tryd.underlying22 HIl.out.1 HIl.out.2.1 HIl.out.2.2.1 HIl.out.2.2.2 rfl (by decide) _ _ _ rfl oA ⟨gT, fo cT (g + 1) 53, none⟩ (ls.length - (g + 1)) (cT - (g + 1)) ((rot k (linL b ls)).drop (g + 1)).flatten rfl (by have := OT7.out.from_len (g + 1); rw [HL2.out.2] at this; exact this) (O2.from (by rw [HL2.out.2]; omega)) (from_one (turn_one HONE.out.1 k) (g + 1)) (by unfold maxLen; omega) (by omega) hA.size ?_
      intro vB wB o1 hG
      refine hK' _ _ ⟨trivial, ?_⟩
      simp only [Act.put, List.setIfInBounds_toArray, List.set_cons_zero, List.set_cons_succ]
      have hB : Below w5.drew.heap.size w5.drew wB := below_row hA hG (fun q e => (oA.lt q e).1)
      have hD : Sl wB 53 vB (del g (rot k (linL b ls))) := del_sl o1 (by rw [del_len (by rw [HL2.out.2]; exact hg), HL2.out.2]; omega) (del_flat _ _) OT7.out.size
      have hBW := ((Below.refl w5.heap.size w5).drew).trans hB
      clear hZ oZ O1 hA O2 oA o1 hG hB
      have OS8 := Lib.hid (OS7.out.up hBW)
      have HB10 := Lib.hid (HB9.out.trans (hBW.mono HB9.out.size))
      have hdl : (del g (rot k (linL b ls))).length = ls.length - 1 := by rw [del_len (by rw [HL2.out.2]; exact hg), HL2.out.2]
      have hau := audit_w wB vB (.slice (some ⟨gS, 0, none⟩) ls.length cS) (del g (rot k (linL b ls))) (samL b ls) 0 (by decide) (fun r hr => linL_ok HL.out.1 HL.out.2.1 hn r (rot_mem (del_mem hr))) (samL_ok HL.out.1 HL.out.2.1 hn) hD OS8.out.sl (by omega) (by rw [HL2.out.1]; omega)
      rw [HL2.out.1, hdl, own_aud3 HL.out.1 HL.out.2.1 hn hk hg] at hau
      refine take_call 11 (f := 8) (args := #[vB, .slice (some ⟨gS, 0, none⟩) ls.length cS, .int .i64 0]) rfl (by kernel_rfl) rfl (by kernel_rfl) hau ?_
      rintro e w6 ⟨v2, rfl, hv, hb6⟩
      refine ⟨_, rfl, trivial, ?_⟩
      simp only [Act.put, List.setIfInBounds_toArray, List.set_cons_zero, List.set_cons_succ]
      clear hau hdl hD hBW
      refine take_val (i := 12) (oi := ⟨some 158, .move (.tmp 170), _, _, _, none⟩) (.tuple #[v2, .int .i64 0]) rfl (by kernel_rfl) (by kernel_rfl) (by kernel_rfl) (fun _ _ _ h => h) rfl (fun w hSw => rfl) trivial ?_
      simp only [Act.put, List.setIfInBounds_toArray, List.set_cons_zero, List.set_cons_succ]
      refine take_val (i := 13) (oi := ⟨some 171, .extract (.tmp 158) 0, _, _, _, none⟩) (v2) rfl (by kernel_rfl) (by kernel_rfl) (by kernel_rfl) (fun _ _ _ h => h) rfl (fun w hSw => ex_extract (vs := #[v2, .int .i64 0]) rfl rfl) trivial ?_
      simp only [Act.put, List.setIfInBounds_toArray, List.set_cons_zero, List.set_cons_succ]
      refine take_val (i := 14) (oi := ⟨some 172, .extract (.tmp 158) 1, _, _, _, none⟩) (.int .i64 0) rfl (by kernel_rfl) (by kernel_rfl) (by kernel_rfl) (fun _ _ _ h => h) rfl (fun w hSw => ex_extract (vs := #[v2, .int .i64 0]) rfl rfl) trivial ?_
      simp only [Act.put, List.setIfInBounds_toArray, List.set_cons_zero, List.set_cons_succ]
      refine take_val (i := 15) (oi := ⟨some 20, .assign (.tmp 171), _, _, _, none⟩) (v2) rfl (by kernel_rfl) (by kernel_rfl) (by kernel_rfl) (fun _ _ _ h => h) rfl (fun w hSw => rfl) trivial ?_
      simp only [Act.put, List.setIfInBounds_toArray, List.set_cons_zero, List.set_cons_succ]
      refine take_val (i := 16) (oi := ⟨some 17, .assign (.tmp 172), _, _, _, none⟩) (.int .i64 0) rfl (by kernel_rfl) (by kernel_rfl) (by kernel_rfl) (fun _ _ _ h => h) rfl (fun w hSw => rfl) trivial ?_
      simp only [Act.put, List.setIfInBounds_toArray, List.set_cons_zero, List.set_cons_succ]
      refine wpAnyH_done (by kernel_rfl) ?_ _
      have HB11 := Lib.hid (HB10.out.trans (hb6.mono HB10.out.size))
      have HV := Lib.hid hv
      clear hSd hv hb6 OT7 OS7 OS8 HB9 HB10
      have hwx := wrap_sum (a := g) (b := k) ⟨by omega, by omega⟩
      have hmx := rem_is (g := md ls.length k g) hg hk rfl
      have hF := HK.out.2.2.1 _ HB11.out v2 (md ls.length k g) HV.out
      unfold wSample at hF
      have HF := Lib.hid hF
      have HVV := HV.out
      generalize md ls.length k g = y at *
      clear hF
      have HV2 := Lib.hid HVV
      clear HVV HV
      go_wp2_with (first
        | (go_at_call 9; refine HF.out.mono ?_; rintro e w7 ⟨rfl, hb7⟩; have HB12 := Lib.hid (HB11.out.trans (hb7.mono HB11.out.size)); have HV3 := Lib.hid (AmissAt.up HV2.out hb7); clear hb7)
        | (go_at_call 10; refine (HK.out.2.2.2 _ HB12.out v2 _ HV3.out).mono ?_; rintro e w8 ⟨rfl, hb8⟩; have HB13 := Lib.hid (HB12.out.trans (hb8.mono HB12.out.size)); clear hb8)
        | (go_at_call 5; refine (HK.out.1 _ HB13.out).mono ?_; rintro e w9 ⟨rfl, hb9⟩; have HB14 := Lib.hid (HB13.out.trans (hb9.mono HB13.out.size)); clear hb9))
      go_ret
      exact ⟨rfl, HB14.out⟩
    · have hcl : c < ls.length := by omega
      have hgw : gM < w2.heap.size := range_lt HO.out.1 (by rw [metC_len _ (mv_len _ _), List.length_map, List.length_range]; omega)
      have hr5 := range_part HO.out.1 (c * 5) 5
      rw [metC_get _ (mv_len _ _) _ _ (c, md ls.length k c) (by simp [hcl]), own_mvs HL.out.1 HL.out.2.1 hn hk hcl] at hr5
      have hr5 := range_up hr5 hbw hgw
      rw [Nat.zero_add] at hr5
      have c0 := hr5 0 _ rfl
      have c1 := hr5 1 _ rfl
      have c2 := hr5 2 _ rfl
      have c3 := hr5 3 _ rfl
      have c4 := hr5 4 _ rfl
      rw [Nat.add_zero] at c0
      have e4 : decide ((c : Int) < (ls.length : Int)) = true := by simp; omega
      have e5 : (0 : Int) ≤ (c : Int) := by omega
      have e6 : (c : Int) < (ls.length : Int) := by omega
      have HW := Lib.hid hbw
      clear hr5 hbw
      go_wp2_with fail
      have qX := heap_alloc_new wr (.cells #[.int .i64 (c : Nat), .int .i64 (md ls.length k c : Nat), .int .i64 0, .int .i64 0, .int .i64 0] 31)
      have RX := range_new (cs := [.int .i64 (c : Nat), .int .i64 (md ls.length k c : Nat), .int .i64 0, .int .i64 0, .int .i64 0]) qX
      have um : (Tryd.prog.info? 31).map (·.size) = some 5 := by kernel_rfl
      have hwa : wrap64 ((c : Nat) + (k : Nat)) = ((c : Nat) : Int) + (k : Nat) := by unfold wrap64; omega
      refine wp_region_held_drew (S := fun w' => w'.rangeAt wr.heap.size 0 [.int .i64 (c : Nat), .int .i64 (md ls.length k c : Nat), .int .i64 0, .int .i64 0, .int .i64 0]) (by kernel_rfl) RX (fun hSd => ?_)
      refine take_val (i := 0) (oi := ⟨some 89, .load 31 (.tmp 19), _, _, _, none⟩) (.agg #[.int .i64 (c : Nat), .int .i64 (md ls.length k c : Nat), .int .i64 0, .int .i64 0, .int .i64 0]) rfl (by kernel_rfl) (by kernel_rfl) (by kernel_rfl) (fun _ _ _ h => h) rfl (fun w hSw => ex_load rfl (run_loadAt_mid w wr.heap.size 0 31 [.int .i64 (c : Nat), .int .i64 (md ls.length k c : Nat), .int .i64 0, .int .i64 0, .int .i64 0] _ hSw Tryd.underlying31 rfl um)) hSd ?_
      simp only [Act.put, List.setIfInBounds_toArray, List.set_cons_zero, List.set_cons_succ]
      refine take_val (i := 1) (oi := ⟨some 90, .move (.tmp 18), _, _, _, none⟩) (.int .i64 (c : Nat)) rfl (by kernel_rfl) (by kernel_rfl) (by kernel_rfl) (fun _ _ _ h => h) rfl (fun w hSw => rfl) hSd ?_
      simp only [Act.put, List.setIfInBounds_toArray, List.set_cons_zero, List.set_cons_succ]
      refine take_val (i := 2) (oi := ⟨some 91, .move (.tmp 18), _, _, _, none⟩) (.int .i64 (c : Nat)) rfl (by kernel_rfl) (by kernel_rfl) (by kernel_rfl) (fun _ _ _ h => h) rfl (fun w hSw => rfl) hSd ?_
      simp only [Act.put, List.setIfInBounds_toArray, List.set_cons_zero, List.set_cons_succ]
      refine take_val (i := 3) (oi := ⟨some 92, .move (.tmp 12), _, _, _, none⟩) (.int .i64 (k : Nat)) rfl (by kernel_rfl) (by kernel_rfl) (by kernel_rfl) (fun _ _ _ h => h) rfl (fun w hSw => rfl) hSd ?_
      simp only [Act.put, List.setIfInBounds_toArray, List.set_cons_zero, List.set_cons_succ]
      refine take_val (i := 4) (oi := ⟨some 93, .binOp .add 3 (.tmp 91) (.tmp 92) 3, _, _, _, none⟩) (.int .i64 ((c : Nat) + (k : Nat) : Int)) rfl (by kernel_rfl) (by kernel_rfl) (by kernel_rfl) (fun _ _ _ h => h) rfl (fun w hSw => ex_add rfl rfl hwa) hSd ?_
      simp only [Act.put, List.setIfInBounds_toArray, List.set_cons_zero, List.set_cons_succ]
      refine take_val (i := 5) (oi := ⟨some 94, .move (.tmp 0), _, _, _, none⟩) (.slice ta ls.length tc) rfl (by kernel_rfl) (by kernel_rfl) (by kernel_rfl) (fun _ _ _ h => h) rfl (fun w hSw => rfl) hSd ?_
      simp only [Act.put, List.setIfInBounds_toArray, List.set_cons_zero, List.set_cons_succ]
      refine take_val (i := 6) (oi := ⟨some 95, .call { callee := .builtin .len, args := #[.tmp 94], argTypes := #[33] }, _, _, _, none⟩) (.int .i64 (ls.length : Nat)) rfl (by kernel_rfl) (by kernel_rfl) (by kernel_rfl) (fun _ _ _ h => h) rfl (fun w hSw => ex_lenT rfl) hSd ?_
      simp only [Act.put, List.setIfInBounds_toArray, List.set_cons_zero, List.set_cons_succ]
      refine take_val (i := 7) (oi := ⟨some 96, .binOp .rem 3 (.tmp 93) (.tmp 95) 3, _, _, _, none⟩) (.int .i64 (md ls.length k c : Nat)) rfl (by kernel_rfl) (by kernel_rfl) (by kernel_rfl) (fun _ _ _ h => h) rfl (fun w hSw => ex_rem hcl hk (by omega) rfl rfl) hSd ?_
      simp only [Act.put, List.setIfInBounds_toArray, List.set_cons_zero, List.set_cons_succ]
      refine take_val (i := 8) (oi := ⟨some 97, .build 31 #[(0, .tmp 90), (1, .tmp 96)], _, _, _, none⟩) (.agg #[.int .i64 (c : Nat), .int .i64 (md ls.length k c : Nat), .int .i64 0, .int .i64 0, .int .i64 0]) rfl (by kernel_rfl) (by kernel_rfl) (by kernel_rfl) (fun _ _ _ h => h) rfl (fun w hSw => ex_build2 rfl rfl) hSd ?_
      simp only [Act.put, List.setIfInBounds_toArray, List.set_cons_zero, List.set_cons_succ]
      refine take_val (i := 9) (oi := ⟨some 98, .binOp .neq 31 (.tmp 89) (.tmp 97) 31, _, _, _, none⟩) (.bool false) rfl (by kernel_rfl) (by kernel_rfl) (by kernel_rfl) (fun _ _ _ h => h) rfl (fun w hSw => ex_neq5 rfl rfl) hSd ?_
      simp only [Act.put, List.setIfInBounds_toArray, List.set_cons_zero, List.set_cons_succ]
      refine wpAnyH_done (by kernel_rfl) ?_ _
      clear hSd RX qX um hwa
      go_wp2_with fail
      go_roundg (ls.length - (c + 1))
      case measure => omega
      case rel => exact ⟨c + 1, by go_num, by omega, rfl, bD (bA HW.out)⟩
end Go.Proofs.YtmnoegfehgoalaaDoor.cx

namespace Go.Proofs.YtmnoegfehgoalaaDoor.cx
open Go.RowKit Go.Extern.Stop Go.Stop Go.Extern Go.Cx
set_option linter.unusedVariables false

set_option maxRecDepth 1000000 in
/-- Of more than 40 exchanges, or of none, nothing is asked. -/
theorem own_skip (W : World) (ta : Option Addr) (n tc : Nat) (b x y : Int) (h : 40 < n ∨ n = 0) (hK : ∀ w, Below W.heap.size W w → Calls Tryd.prog 5 #[] w fun e w' => e = .returned (.bool true) ∧ Below w.heap.size w w') :
    Calls Tryd.prog 4 #[.slice ta n tc, .int .u32 b, .int .u8 x, .int .u8 y] W fun e w' => e = .returned (.bool true) ∧ Below W.heap.size W w' := by
  have HK := Lib.hid hK
  clear hK
  cases d1 : decide ((40 : Int) < (n : Int)) with
  | true =>
    go_enter Tryd.func4, Tryd.ntmps4
    go_wp2_with (go_at_call 5; refine (HK.out _ (Below.refl _ _)).mono ?_; rintro e w9 ⟨rfl, hb9⟩)
    go_ret
    exact ⟨rfl, hb9⟩
  | false =>
    have d2 : n = 0 := by
      rw [decide_eq_false_iff_not] at d1
      omega
    subst d2
    clear d1 h
    go_enter Tryd.func4, Tryd.ntmps4
    go_wp2_with (go_at_call 5; refine (HK.out _ (Below.refl _ _)).mono ?_; rintro e w9 ⟨rfl, hb9⟩)
    go_ret
    exact ⟨rfl, hb9⟩
theorem own_calls (W : World) (tv : Value) (ls : List (List Value)) (b x y : Int) (hb : 0 ≤ b ∧ b < 4294967296) (hx : 0 ≤ x ∧ x < 256) (hy : 0 ≤ y ∧ y < 256) (hl : ∀ r ∈ ls, RowOk tripK r) (htv : Go.Cx.Rows Tryd.prog W 5 tripK tv ls)
    (hK : ∀ w, Below W.heap.size W w → Calls Tryd.prog 5 #[] w fun e w' => e = .returned (.bool true) ∧ Below w.heap.size w w')
    (hF1 : ∀ w, Below W.heap.size W w → ∀ v (x : Nat), AmissAt w v wLine x 4 → Calls Tryd.prog 9 #[v] w fun e w' => e = .returned (.tuple #[.string wLine, .int .i64 (x : Nat), .bool true]) ∧ Below w.heap.size w w')
    (hF2 : ∀ w, Below W.heap.size W w → ∀ v (x : Nat), AmissAt w v wSample x 6 → Calls Tryd.prog 9 #[v] w fun e w' => e = .returned (.tuple #[.string wSample, .int .i64 (x : Nat), .bool true]) ∧ Below w.heap.size w w')
    (hF3 : ∀ w, Below W.heap.size W w → ∀ v (x : Nat), AmissAt w v wSample x 6 → Calls Tryd.prog 10 #[v] w fun e w' => e = .returned (.bool false) ∧ Below w.heap.size w w') :
    Calls Tryd.prog 4 #[tv, .int .u32 b, .int .u8 x, .int .u8 y] W fun e w' => e = .returned (.bool true) ∧ Below W.heap.size W w' := by
  have h1 := Sl.of_rows htv
  by_cases h : 40 < ls.length ∨ ls.length = 0
  · obtain ⟨la, lc, rfl, _⟩ := h1.form
    exact own_skip W la _ lc b x y h hK
  · obtain ⟨tn, rfl⟩ : ∃ tn : Nat, x = (tn : Int) := ⟨x.toNat, by omega⟩
    obtain ⟨gn, rfl⟩ : ∃ gn : Nat, y = (gn : Int) := ⟨y.toNat, by omega⟩
    exact own_row W tv ls b tn gn hb (by omega) (by omega) hl h1 (by omega) (by omega) hK hF1 hF2 hF3
end Go.Proofs.YtmnoegfehgoalaaDoor.cx
