/- The reference's numbers in cells: single operations; bits that are set and taken away. Half a number, bit by bit: what is so at each bit; single operations. Half a number of the reference's, bit by bit: Floor by two. The reference's offsets and delays. -/
import Derived.Test.YtmnoegfehgoalaaGreatDoorNuC
import Derived.Test.YtmnoegfehgoalaaGreatDoorCxG
namespace Go.Proofs.YtmnoegfehgoalaaGreatDoor.cx
open Go.RowKit Go.Extern.Stop Go.Stop Go.Extern Go.Cx
open Go.Proofs.YtmnoegfehgoalaaGreatDoor.num (limb lim num kpN kpN_get kpN_len kpN_congr B limb_lt Bpos limb_add_mul)
set_option linter.unusedVariables false
/-- A piece made greater by what it has room for. -/
theorem limb_put {Q t p : Nat} (h : limb Q t + p < 65536) (i : Nat) : limb (Q + p * 65536 ^ t) i = if i = t then limb Q t + p else limb Q i := by
  have hB : B = 65536 := rfl
  by_cases hi : i < t
  · rw [if_neg (by omega)]
    have := limb_add_mul Q p t i hi
    rw [hB] at this
    exact this
  · have e : (Q + p * 65536 ^ t) / 65536 ^ t = Q / 65536 ^ t + p := by rw [Nat.add_mul_div_right _ _ (Nat.pow_pos (by decide))]
    unfold limb at h ⊢
    rw [hB] at h ⊢
    by_cases hit : i = t
    · subst hit
      rw [if_pos rfl, e]
      omega
    · rw [if_neg hit]
      obtain ⟨d, rfl⟩ : ∃ d, i = t + (d + 1) := ⟨i - t - 1, by omega⟩
      rw [Nat.pow_add, ← Nat.div_div_eq_div_mul, ← Nat.div_div_eq_div_mul, e, Nat.pow_succ, Nat.mul_comm (65536 ^ d) 65536, ← Nat.div_div_eq_div_mul, ← Nat.div_div_eq_div_mul]
      have : (Q / 65536 ^ t + p) / 65536 = Q / 65536 ^ t / 65536 := by omega
      rw [this]
/-- A piece made less by what it has. -/
theorem limb_cut {Q t p : Nat} (h : p ≤ limb Q t) (i : Nat) : limb (Q - p * 65536 ^ t) i = if i = t then limb Q t - p else limb Q i := by
  have hp : 0 < 65536 ^ t := Nat.pow_pos (by decide)
  have hle : p * 65536 ^ t ≤ Q := by
    unfold limb at h
    have h1 : p ≤ Q / 65536 ^ t := Nat.le_trans h (Nat.mod_le _ _)
    have h2 := Nat.div_mul_le_self Q (65536 ^ t)
    exact Nat.le_trans (Nat.mul_le_mul_right _ h1) h2
  have hl : limb (Q - p * 65536 ^ t) t = limb Q t - p := by
    have e : (Q - p * 65536 ^ t) / 65536 ^ t = Q / 65536 ^ t - p := Nat.sub_mul_div_of_le _ _ _ (by rw [Nat.mul_comm]; exact hle) |> fun h => by rw [Nat.mul_comm] at h; exact h
    unfold limb at h ⊢
    have hB : B = 65536 := rfl
    rw [hB] at h ⊢
    rw [e]
    generalize Q / 65536 ^ t = x at h ⊢
    omega
  have hr : limb (Q - p * 65536 ^ t) t + p < 65536 := by
    have := limb_lt Q t
    have hB : B = 65536 := rfl
    omega
  have hput := limb_put hr i
  rw [Nat.sub_add_cancel hle] at hput
  by_cases hit : i = t
  · subst hit
    rw [if_pos rfl]
    exact hl
  · rw [if_neg hit] at hput ⊢
    exact hput.symm
def numA (b : Bool) (f : Nat → Int) : Array Value := ⟨kpN b f⟩
theorem numA_size (b : Bool) (f : Nat → Int) : (numA b f).size = 21 := rfl
theorem numA_get (b : Bool) (f : Nat → Int) {t : Nat} (h : t < 20) : (numA b f)[0 + 1 + t]? = some (.int .u64 (f t)) := by
  have := kpN_get b f h (o := 0 + 1 + t) (by omega)
  unfold numA
  simpa using this
theorem numA_set {b : Bool} {f g : Nat → Int} {t : Nat} {v : Int} (ht : t < 20) (h : ∀ s, s < 20 → g s = if s = t then v else f s) : (numA b f).setIfInBounds (0 + 1 + t) (.int .u64 v) = numA b g := by
  apply Array.ext_getElem?
  intro i
  rw [Array.getElem?_setIfInBounds]
  cases i with
  | zero =>
    rw [if_neg (by omega)]
    rfl
  | succ i =>
    by_cases hi : i < 20
    · have e1 := numA_get b g hi
      have e2 := numA_get b f hi
      rw [show 0 + 1 + i = i + 1 by omega] at e1 e2
      rw [e1, e2, h i hi]
      by_cases hit : t = i
      · subst hit
        rw [if_pos (by omega), if_pos (by rw [numA_size]; omega), if_pos rfl]
      · rw [if_neg (by omega), if_neg (by omega)]
    · rw [Array.getElem?_eq_none (by rw [numA_size]; omega), Array.getElem?_eq_none (by rw [numA_size]; omega), if_neg (by omega)]
theorem numA_put {b : Bool} {Q t p : Nat} (ht : t < 20) (h : limb Q t + p < 65536) : (numA b (lim Q)).setIfInBounds (0 + 1 + t) (.int .u64 (lim Q t + (p : Nat))) = numA b (lim (Q + p * 65536 ^ t)) :=
  numA_set ht fun s hs => by
    unfold lim
    rw [limb_put h s]
    split <;> simp
theorem numA_cut {b : Bool} {Q t p : Nat} (ht : t < 20) (h : p ≤ limb Q t) : (numA b (lim Q)).setIfInBounds (0 + 1 + t) (.int .u64 (lim Q t - (p : Nat))) = numA b (lim (Q - p * 65536 ^ t)) :=
  numA_set ht fun s hs => by
    unfold lim
    rw [limb_cut h s]
    split <;> omega
theorem numA_one (b : Bool) (f : Nat → Int) : (numA b f).all (·.oneCell') = true := all_oneCell_toArray (cs := kpN b f) fun v hv => by
  rcases List.mem_cons.1 hv with rfl | hv
  · rfl
  · obtain ⟨t, _, rfl⟩ := List.mem_map.1 hv; rfl
section
variable (ev : Operand → Value) (w : World) (d x y : Nat) (b o : Nat) (t : TypeId) (p : String) (e : Array Edge)
set_option maxRecDepth 1000000 in
theorem al_num : (execOp ev ⟨some d, .alloc 122, t, p, e, none⟩).run Tryz.prog w = .ok (.value (.pointer (some ⟨w.heap.size, 0, none⟩))) (w.alloc (.cells (numA false (lim 0)) 122)) := by
  have h : numA false (lim 0) = #[.bool false, .int .u64 0, .int .u64 0, .int .u64 0, .int .u64 0, .int .u64 0, .int .u64 0, .int .u64 0, .int .u64 0, .int .u64 0, .int .u64 0, .int .u64 0, .int .u64 0, .int .u64 0, .int .u64 0, .int .u64 0, .int .u64 0, .int .u64 0, .int .u64 0, .int .u64 0, .int .u64 0] := by kernel_rfl
  rw [h]
  go_simp
set_option maxRecDepth 1000000 in
theorem bd_num : (execOp ev ⟨some d, .build 122 #[], t, p, e, none⟩).run Tryz.prog w = .ok (.value (.agg (numA false (lim 0)))) w := by
  have h : numA false (lim 0) = #[.bool false, .int .u64 0, .int .u64 0, .int .u64 0, .int .u64 0, .int .u64 0, .int .u64 0, .int .u64 0, .int .u64 0, .int .u64 0, .int .u64 0, .int .u64 0, .int .u64 0, .int .u64 0, .int .u64 0, .int .u64 0, .int .u64 0, .int .u64 0, .int .u64 0, .int .u64 0, .int .u64 0] := by kernel_rfl
  rw [h]
  go_simp
set_option maxRecDepth 1000000 in
theorem fa_n1 : (Instr.fieldAt 122 (.pointer (some ⟨b, o, none⟩)) 1).run Tryz.prog w = .ok (.pointer (some ⟨b, o + 1, none⟩)) w := by
  go_simp
set_option maxRecDepth 1000000 in
theorem ix_n {k : Nat} (hk : k < 20) : (Instr.indexAt 120 (.pointer (some ⟨b, o, none⟩)) (.int .i64 (k : Nat))).run Tryz.prog w = .ok (.pointer (some ⟨b, o + k, none⟩)) w := by
  have h1 : (0 : Int) ≤ (k : Int) := by omega
  have h2 : (k : Int) < 20 := by omega
  go_simp
set_option maxRecDepth 1000000 in
theorem st_u64 {cs : Array Value} {T : TypeId} {y : Operand} {n : Int} (hx : ev (.tmp x) = .pointer (some ⟨b, o, none⟩)) (hy : ev y = .int .u64 n) (hg : w.heap[b]? = some (.cells cs T)) (h1 : o < cs.size) :
    (execOp ev ⟨none, .store 43 (.tmp x) y, t, p, e, none⟩).run Tryz.prog w = .ok .skip (w.setCell ⟨b, o, none⟩ (.int .u64 n)) := by
  have c0 : w.cell? ⟨b, o, none⟩ = some cs[o] := cell_of hg (by simp)
  have f0 := frozen_of_row _ _ o _ _ hg
  go_simp
theorem u_num : (Tryz.prog.info? 122).map (·.size) = some 21 := by kernel_rfl
end
end Go.Proofs.YtmnoegfehgoalaaGreatDoor.cx
namespace Go.Proofs.YtmnoegfehgoalaaGreatDoor.cx
open Go.RowKit Go.Extern.Stop Go.Stop Go.Extern Go.Cx
open Go.Proofs.YtmnoegfehgoalaaGreatDoor.num (limb lim num kpN o2_flats o6_flats under2 of_told mul_told cmp_told power_r sval scmp scmp_hi B b20 b19)
set_option linter.unusedVariables false
theorem bit_is (j : Nat) : 2 ^ (j % 16) * 65536 ^ (j / 16) = 2 ^ j := by
  have : (65536 : Nat) = 2 ^ 16 := by decide
  rw [this, ← Nat.pow_mul, ← Nat.pow_add]
  congr 1
  omega
theorem r16 (j : Nat) : ∃ r, j % 16 = r ∧ r < 16 := ⟨_, rfl, Nat.mod_lt _ (by decide)⟩
theorem part_of {Q c j : Nat} (h : Q = c * 2 ^ (j + 1)) : Q / 65536 ^ (j / 16) = c * (2 * 2 ^ (j % 16)) := by
  rw [h, Nat.pow_succ, ← bit_is j, show c * (2 ^ (j % 16) * 65536 ^ (j / 16) * 2) = c * (2 * 2 ^ (j % 16)) * 65536 ^ (j / 16) by simp only [Nat.mul_comm, Nat.mul_left_comm, Nat.mul_assoc]]
  exact Nat.mul_div_cancel _ (Nat.pow_pos (by decide))
/-- There is room for the bit. -/
theorem room_up {Q j : Nat} (h : Q % 2 ^ (j + 1) = 0) : limb Q (j / 16) + 2 ^ (j % 16) < 65536 := by
  obtain ⟨c, hc⟩ := Nat.dvd_of_mod_eq_zero h
  rw [Nat.mul_comm] at hc
  have e := part_of hc
  unfold limb
  rw [e]
  show _ % 65536 + _ < 65536
  obtain ⟨r, hr, hr16⟩ := r16 j
  rw [hr]
  rcases (by omega : r = 0 ∨ r = 1 ∨ r = 2 ∨ r = 3 ∨ r = 4 ∨ r = 5 ∨ r = 6 ∨ r = 7 ∨ r = 8 ∨ r = 9 ∨ r = 10 ∨ r = 11 ∨ r = 12 ∨ r = 13 ∨ r = 14 ∨ r = 15) with rfl | rfl | rfl | rfl | rfl | rfl | rfl | rfl | rfl | rfl | rfl | rfl | rfl | rfl | rfl | rfl <;> simp only [Nat.reducePow, Nat.reduceMul] <;> omega
theorem room_low (j : Nat) : limb (2 ^ j - 1) (j / 16) + 2 ^ (j % 16) < 65536 := by
  have e : (2 ^ j - 1) / 65536 ^ (j / 16) = 2 ^ (j % 16) - 1 := by
    rw [← bit_is j]
    have hp : 0 < 65536 ^ (j / 16) := Nat.pow_pos (by decide)
    have h2 : 0 < 2 ^ (j % 16) := Nat.pow_pos (by decide)
    generalize 65536 ^ (j / 16) = b at *
    generalize 2 ^ (j % 16) = a at *
    obtain ⟨a', rfl⟩ : ∃ a', a = a' + 1 := ⟨a - 1, by omega⟩
    rw [Nat.add_mul, Nat.one_mul, Nat.add_sub_assoc hp, Nat.add_comm, Nat.add_mul_div_right _ _ hp, Nat.div_eq_of_lt (by omega)]
    omega
  unfold limb
  rw [e]
  show _ % 65536 + _ < 65536
  obtain ⟨r, hr, hr16⟩ := r16 j
  rw [hr]
  rcases (by omega : r = 0 ∨ r = 1 ∨ r = 2 ∨ r = 3 ∨ r = 4 ∨ r = 5 ∨ r = 6 ∨ r = 7 ∨ r = 8 ∨ r = 9 ∨ r = 10 ∨ r = 11 ∨ r = 12 ∨ r = 13 ∨ r = 14 ∨ r = 15) with rfl | rfl | rfl | rfl | rfl | rfl | rfl | rfl | rfl | rfl | rfl | rfl | rfl | rfl | rfl | rfl <;> decide
theorem room_down {Q j : Nat} (h : (Q + 1) % 2 ^ (j + 1) = 0) : 2 ^ (j % 16) ≤ limb Q (j / 16) := by
  obtain ⟨c, hc⟩ := Nat.dvd_of_mod_eq_zero h
  rw [Nat.mul_comm] at hc
  have hc0 : 0 < c := by
    rcases Nat.eq_zero_or_pos c with h0 | h0
    · rw [h0] at hc; omega
    · exact h0
  have e : Q / 65536 ^ (j / 16) = c * (2 * 2 ^ (j % 16)) - 1 := by
    have hq : Q = c * 2 ^ (j + 1) - 1 := by omega
    rw [hq, Nat.pow_succ, ← bit_is j, show c * (2 ^ (j % 16) * 65536 ^ (j / 16) * 2) = c * (2 * 2 ^ (j % 16)) * 65536 ^ (j / 16) by simp only [Nat.mul_comm, Nat.mul_left_comm, Nat.mul_assoc]]
    have hp : 0 < 65536 ^ (j / 16) := Nat.pow_pos (by decide)
    have h2 : 0 < c * (2 * 2 ^ (j % 16)) := Nat.mul_pos hc0 (Nat.mul_pos (by decide) (Nat.pow_pos (by decide)))
    generalize 65536 ^ (j / 16) = b at *
    generalize c * (2 * 2 ^ (j % 16)) = a at *
    obtain ⟨a', rfl⟩ : ∃ a', a = a' + 1 := ⟨a - 1, by omega⟩
    rw [Nat.add_mul, Nat.one_mul, Nat.add_sub_assoc hp, Nat.add_comm, Nat.add_mul_div_right _ _ hp, Nat.div_eq_of_lt (by omega)]
    omega
  unfold limb
  rw [e]
  show _ ≤ _ % 65536
  obtain ⟨r, hr, hr16⟩ := r16 j
  rw [hr]
  rcases (by omega : r = 0 ∨ r = 1 ∨ r = 2 ∨ r = 3 ∨ r = 4 ∨ r = 5 ∨ r = 6 ∨ r = 7 ∨ r = 8 ∨ r = 9 ∨ r = 10 ∨ r = 11 ∨ r = 12 ∨ r = 13 ∨ r = 14 ∨ r = 15) with rfl | rfl | rfl | rfl | rfl | rfl | rfl | rfl | rfl | rfl | rfl | rfl | rfl | rfl | rfl | rfl <;> simp only [Nat.reducePow, Nat.reduceMul] <;> omega
/-- What is so with k bits to come. -/
def UpI (m Q k : Nat) : Prop := Q % 2 ^ k = 0 ∧ 2 * Q ≤ m ∧ m < 2 * Q + 2 * 2 ^ k
def DnI (m Q k : Nat) : Prop := (Q + 1) % 2 ^ k = 0 ∧ m ≤ 2 * Q ∧ 2 * Q < m + 2 * 2 ^ k
theorem mod_half {Q j : Nat} (h : Q % 2 ^ (j + 1) = 0) : Q % 2 ^ j = 0 ∧ (Q + 2 ^ j) % 2 ^ j = 0 := by
  have h1 : Q % 2 ^ j = 0 := Nat.mod_eq_zero_of_dvd (Nat.dvd_trans (Nat.pow_dvd_pow 2 (Nat.le_succ j)) (Nat.dvd_of_mod_eq_zero h))
  exact ⟨h1, by rw [Nat.add_mod_right, h1]⟩
theorem up_yes {m Q j : Nat} (h : UpI m Q (j + 1)) (hc : 2 * (Q + 2 ^ j) ≤ m) : UpI m (Q + 2 ^ j) j := by
  obtain ⟨h1, h2, h3⟩ := h
  have := Nat.pow_succ 2 j
  exact ⟨(mod_half h1).2, hc, by omega⟩
theorem up_no {m Q j : Nat} (h : UpI m Q (j + 1)) (hc : ¬ 2 * (Q + 2 ^ j) ≤ m) : UpI m Q j := by
  obtain ⟨h1, h2, h3⟩ := h
  exact ⟨(mod_half h1).1, h2, by omega⟩
theorem dn_pos {m Q j : Nat} (h : DnI m Q (j + 1)) : 2 ^ j ≤ Q := by
  obtain ⟨c, hc⟩ := Nat.dvd_of_mod_eq_zero h.1
  have h1 := Nat.pow_succ 2 j
  have h2 : 0 < 2 ^ j := Nat.pow_pos (by decide)
  rcases Nat.eq_zero_or_pos c with h0 | h0
  · rw [h0] at hc; omega
  · have h3 : 2 ^ (j + 1) ≤ 2 ^ (j + 1) * c := Nat.le_mul_of_pos_right _ h0
    omega
theorem dn_yes {m Q j : Nat} (h : DnI m Q (j + 1)) (hc : m ≤ 2 * (Q - 2 ^ j)) : DnI m (Q - 2 ^ j) j := by
  have hp := dn_pos h
  obtain ⟨h1, h2, h3⟩ := h
  have h4 := Nat.pow_succ 2 j
  refine ⟨?_, hc, by omega⟩
  have h5 := (mod_half h1).1
  rw [show Q + 1 = (Q - 2 ^ j + 1) + 2 ^ j by omega, Nat.add_mod_right] at h5
  exact h5
theorem dn_no {m Q j : Nat} (h : DnI m Q (j + 1)) (hc : ¬ m ≤ 2 * (Q - 2 ^ j)) : DnI m Q j := by
  have hp := dn_pos h
  obtain ⟨h1, h2, h3⟩ := h
  exact ⟨(mod_half h1).1, h2, by omega⟩
section
variable {ev : Operand → Value} {w : World} {d : Nat} {x y : Operand} {t u ty : TypeId} {p : String} {e : Array Edge} {g : Option (Nat × Bool)}
set_option maxRecDepth 1000000 in
theorem ex_quo16 {a : Nat} (ha : a < 1000) (hx : ev x = .int .i64 (a : Nat)) (hy : ev y = .int .i64 16) : (execOp ev ⟨some d, .binOp .quo t x y u, ty, p, e, g⟩).run Tryz.prog w = .ok (.value (.int .i64 ((a / 16 : Nat) : Int))) w := by
  have h1 : Int.tdiv (a : Int) 16 = ((a / 16 : Nat) : Int) := by rw [Int.tdiv_eq_ediv_of_nonneg (Int.natCast_nonneg a)]; rfl
  have h2 : IntKind.wrap .i64 ((a : Int) / 16) = (a : Int) / 16 := by rw [Dg.w_i64]; omega
  go_simp
set_option maxRecDepth 1000000 in
theorem ex_rem16 {a : Nat} (hx : ev x = .int .i64 (a : Nat)) (hy : ev y = .int .i64 16) : (execOp ev ⟨some d, .binOp .rem t x y u, ty, p, e, g⟩).run Tryz.prog w = .ok (.value (.int .i64 ((a % 16 : Nat) : Int))) w := by
  have h1 : Int.tmod (a : Int) 16 = ((a % 16 : Nat) : Int) := by rw [Int.tmod_eq_emod_of_nonneg (Int.natCast_nonneg a)]; rfl
  go_simp
set_option maxRecDepth 1000000 in
theorem ex_addu {a b c : Int} (hx : ev x = .int .u64 a) (hy : ev y = .int .u64 b) (h : a + b = c) (hc : 0 ≤ c ∧ c < 18446744073709551616) : (execOp ev ⟨some d, .binOp .add t x y u, ty, p, e, g⟩).run Tryz.prog w = .ok (.value (.int .u64 c)) w := by
  subst h
  have h1 : IntKind.wrap .u64 (a + b) = a + b := by rw [Dg.w_u64]; omega
  go_simp
theorem ex_subu {a b c : Int} (hx : ev x = .int .u64 a) (hy : ev y = .int .u64 b) (h : a - b = c) (hc : 0 ≤ c ∧ c < 18446744073709551616) : (execOp ev ⟨some d, .binOp .sub t x y u, ty, p, e, g⟩).run Tryz.prog w = .ok (.value (.int .u64 c)) w := by
  subst h
  have h1 : IntKind.wrap .u64 (a - b) = a - b := by rw [Dg.w_u64]; omega
  go_simp
theorem ex_leq {a b : Int} {r : Bool} (hx : ev x = .int .i64 a) (hy : ev y = .int .i64 b) (h : decide (a ≤ b) = r) : (execOp ev ⟨some d, .binOp .leq t x y u, ty, p, e, g⟩).run Tryz.prog w = .ok (.value (.bool r)) w := by
  subst h
  go_simp
end
theorem call_if {P : Program} {ops : Array Oper} {Q : Exit → Act → World → Prop} {d : Nat} {cc : Call} {ty : TypeId} {p : String} {ed : Array Edge} {g : Option (Nat × Bool)} {a : Act} {w : World} {K' : Act → World → Prop} {f : FuncId} {args : Array Value} {post : Ending → World → Prop}
    (hw : Region.wanted ⟨some d, .call cc, ty, p, ed, g⟩ (yielded ops a.tmps) = true) (hx : (execOp a.eval ⟨some d, .call cc, ty, p, ed, g⟩).run P w = .ok (.enter f args) w) (hc : Calls P f args w post)
    (hp : ∀ e w', post e w' → ∃ v, e = .returned v ∧ K' (a.put (some d) v) w') : if Region.wanted ⟨some d, .call cc, ty, p, ed, g⟩ (yielded ops a.tmps) = true then Oper.wp P ⟨some d, .call cc, ty, p, ed, g⟩ a w K' Q else K' (a.put (some d) undef) w := by
  rw [if_pos hw]
  unfold Oper.wp
  rw [hx, Oper.upon_enter]
  exact hc.mono (fun e w' he => by obtain ⟨v, rfl, h⟩ := hp e w' he; exact h)
theorem do_if {P : Program} {ops : Array Oper} {Q : Exit → Act → World → Prop} {o : Oper} {a : Act} {w w2 : World} {v : Value} {K' : Act → World → Prop} (hw : Region.wanted o (yielded ops a.tmps) = true) (hx : (execOp a.eval o).run P w = .ok (.value v) w2) (h : K' (a.put o.dst v) w2) :
    if Region.wanted o (yielded ops a.tmps) = true then Oper.wp P o a w K' Q else K' (a.put o.dst undef) w := by
  rw [if_pos hw]
  unfold Oper.wp
  rw [hx, Oper.upon_value]
  exact h
theorem take_st {P : Program} {md : Region.Mode} {ops : Array Oper} {Q : Exit → Act → World → Prop} {S : World → Prop} (i : Nat) {o : Oper} {fuel : Nat} {listed : Array Bool} {a : Act} {w w2 : World}
    (hi : ops[i]? = some o) (hr : Region.ready md ops listed = [i]) (hw : Region.wanted o (yielded ops a.tmps) = true) (hx : (execOp a.eval o).run P w = .ok .skip w2) (hS : S w2)
    (h : wpAnyH P md ops Q S fuel (listed.setIfInBounds i true) (a.put o.dst undef) w2) : wpAnyH P md ops Q S (fuel + 1) listed a w := by
  refine wpAnyH_all hr (by simp) fun j hj => ?_
  obtain rfl : j = i := by simpa using hj
  refine wpOp_step hi (fun K' hK => ?_)
  rw [if_pos hw]
  unfold Oper.wp
  rw [hx, Oper.upon_skip]
  exact hK _ _ ⟨hS, h⟩
theorem range_new {w : World} {g : Nat} {cs : List Value} {t : TypeId} (h : w.heap[g]? = some (.cells cs.toArray t)) : w.rangeAt g 0 cs := fun j v hv => by
  rw [Nat.zero_add]
  exact cell_of h (by simpa using hv)
theorem row_same {w : World} {g : Nat} {c c' : Array Value} {t : TypeId} (h : w.heap[g]? = some (.cells c t)) : (w.setRow g c').heap[g]? = some (.cells c' t) := by
  have hl := lt_of_heap h
  have e : w.heap[g] = .cells c t := by
    have := Array.getElem?_eq_getElem hl
    rw [this] at h
    exact Option.some.inj h
  unfold World.setRow
  rw [Array.getElem?_eq_getElem (by simpa using hl)]
  simp [Array.getElem_modify, e]
theorem row_other {w : World} {g k : Nat} {c' : Array Value} {o : Obj} (h : w.heap[k]? = some o) (hne : k ≠ g) : (w.setRow g c').heap[k]? = some o := by
  have hl := lt_of_heap h
  have e : w.heap[k] = o := by
    have := Array.getElem?_eq_getElem hl
    rw [this] at h
    exact Option.some.inj h
  unfold World.setRow
  rw [Array.getElem?_eq_getElem (by simpa using hl)]
  simp [Array.getElem_modify, e]
  intro h
  exact absurd h.symm hne
/-! ### What is told of the references' numbers. -/
theorem power_w (W : World) (n : Nat) (h : n < 16) : Calls Tryz.prog 105 #[.int .i64 (n : Nat)] W fun e w' => e = .returned (.int .u64 ((2 ^ n : Nat) : Int)) ∧ Below W.heap.size W w' :=
  (o6_flats _ _ _ (power_r n h)).2.2 W
theorem mul2_w (W : World) (b : Bool) (X : Nat) (h : X ≤ 2722258935367507707706996859454145691648) : Calls Tryz.prog 103 #[.agg (numA b (lim X)), .agg (numA false (lim 2))] W fun e w' => e = .returned (.agg (numA b (lim (X * 2)))) ∧ Below W.heap.size W w' := by
  have hB : (5444517870735015415413993718908291383296 : Nat) < B ^ 19 := by decide
  have hB2 : (5444517870735015415413993718908291383296 : Nat) < B ^ 20 := by decide
  have h1 := mul_told b false (m := X) (n := 2) (by omega) (by omega)
  rw [show (b != false) = b by cases b <;> rfl] at h1
  exact (o2_flats _ _ _ h1).2.2 W
theorem cmp_w (W : World) (b c : Bool) (X Y : Nat) (h : X ≤ 5444517870735015415413993718908291383296) (h2 : Y ≤ 5444517870735015415413993718908291383296) : Calls Tryz.prog 83 #[.agg (numA b (lim X)), .agg (numA c (lim Y))] W fun e w' => e = .returned (.int .i64 (scmp (sval b X) (sval c Y))) ∧ Below W.heap.size W w' := by
  have hB2 : (5444517870735015415413993718908291383296 : Nat) < B ^ 20 := by decide
  exact (o2_flats _ _ _ (cmp_told b c (m := X) (n := Y) (by omega) (by omega))).2.2 W
end Go.Proofs.YtmnoegfehgoalaaGreatDoor.cx
namespace Go.Proofs.YtmnoegfehgoalaaGreatDoor.cx
open Go.RowKit Go.Extern.Stop Go.Stop Go.Extern Go.Cx
open Go.Proofs.YtmnoegfehgoalaaGreatDoor.num (limb lim num kpN o2_flats o6_flats under2 of_told mul_told cmp_told power_r sval scmp scmp_hi B b20 b19)
set_option linter.unusedVariables false
/-- What stands in the cells. -/
def FlS (W : World) (A N Q : Array Value) (w : World) : Prop :=
  w.heap[W.heap.size]? = some (.cells A 122) ∧ w.heap[W.heap.size + 1]? = some (.cells N 122) ∧ (∃ Z : Array Value, Z.size = 21 ∧ w.heap[W.heap.size + 1 + 1]? = some (.cells Z 122)) ∧ w.heap[W.heap.size + 1 + 1 + 1]? = some (.cells Q 122) ∧ Below W.heap.size W w
theorem FlS.up {W w w' : World} {A N Q : Array Value} (h : FlS W A N Q w) (hb : Below w.heap.size w w') : FlS W A N Q w' := by
  obtain ⟨h1, h2, ⟨Z, h3, h4⟩, h5, h6⟩ := h
  exact ⟨keepB hb h1, keepB hb h2, ⟨Z, h3, keepB hb h4⟩, keepB hb h5, h6.trans (hb.mono h6.size)⟩
theorem FlS.set {W w : World} {A N Q : Array Value} (h : FlS W A N Q w) (i : Nat) (u : Value) : FlS W A N (Q.setIfInBounds i u) (w.setCell ⟨W.heap.size + 1 + 1 + 1, i, none⟩ u) := by
  obtain ⟨h1, h2, ⟨Z, h3, h4⟩, h5, h6⟩ := h
  have hG : w.grownBy (w.setCell ⟨W.heap.size + 1 + 1 + 1, i, none⟩ u) (some (W.heap.size + 1 + 1 + 1)) := grown_set (grown_of (Below.refl _ _) _)
  exact ⟨grown_kept hG h1 (by omega), grown_kept hG h2 (by omega), ⟨Z, h3, grown_kept hG h4 (by omega)⟩, heap_setCell_same _ _ i _ _ _ h5, below_grown h6 hG (by omega)⟩
theorem FlS.start (W : World) (A N Z Z' : Array Value) (hZ : Z.size = 21) : FlS W A N Z' ((((W.alloc (.cells A 122)).alloc (.cells N 122)).alloc (.cells Z 122)).alloc (.cells Z' 122)) := by
  obtain ⟨h1, h2, h3, h4⟩ := heap4 W (.cells A 122) (.cells N 122) (.cells Z 122) (.cells Z' 122)
  exact ⟨h1, h2, ⟨Z, hZ, h3⟩, h4.1, h4.2⟩
theorem FlS.far {W w w' : World} {A N Q : Array Value} {P : Nat} (h : FlS W A N Q w) (hG : w.grownBy w' (some P)) (hP : W.heap.size + 1 + 1 + 1 < P) : FlS W A N Q w' := by
  obtain ⟨h1, h2, ⟨Z, h3, h4⟩, h5, h6⟩ := h
  exact ⟨grown_kept hG h1 (by omega), grown_kept hG h2 (by omega), ⟨Z, h3, grown_kept hG h4 (by omega)⟩, grown_kept hG h5 (by omega), below_grown h6 hG (by omega)⟩
theorem row_far {w : World} {g k : Nat} {c' : Array Value} (hne : k ≠ g) : (w.setRow g c').heap[k]? = w.heap[k]? := by
  cases h : w.heap[k]? with
  | none =>
    have hl : w.heap.size ≤ k := Array.getElem?_eq_none_iff.1 h
    exact Array.getElem?_eq_none_iff.2 (by simpa using hl)
  | some o => exact row_other h hne
theorem below_srow {B g : Nat} {W w : World} {c' : Array Value} (hb : Below B W w) (hg : B ≤ g) : Below B W (w.setRow g c') :=
  ⟨hb.os, hb.tape, hb.output, by simpa using hb.size, fun k hk => (row_far (by omega)).trans (hb.block k hk)⟩
theorem FlS.row {W w : World} {A N Q Q' : Array Value} (h : FlS W A N Q w) : FlS W A N Q' (w.setRow (W.heap.size + 1 + 1 + 1) Q') := by
  obtain ⟨h1, h2, ⟨Z, h3, h4⟩, h5, h6⟩ := h
  exact ⟨row_other h1 (by omega), row_other h2 (by omega), ⟨Z, h3, row_other h4 (by omega)⟩, row_same h5, below_srow h6 (by omega)⟩
/-- The number, and the one that is tried. -/
def PS (W : World) (A N : Array Value) (b : Bool) (Q X P : Nat) (w : World) : Prop := FlS W A N (numA b (lim Q)) w ∧ w.heap[P]? = some (.cells (numA b (lim X)) 122) ∧ W.heap.size + 1 + 1 + 1 < P
section
variable {W w w' : World} {A N : Array Value} {b : Bool} {Q X P j : Nat}
theorem PS.up (h : PS W A N b Q X P w) (hb : Below w.heap.size w w') : PS W A N b Q X P w' := ⟨h.1.up hb, keepB hb h.2.1, h.2.2⟩
theorem PS.put_u (h : PS W A N b Q Q P w) (hr : limb Q (j / 16) + 2 ^ (j % 16) < 65536 ∧ j < 320) : PS W A N b Q (Q + 2 ^ j) P (w.setCell ⟨P, 0 + 1 + j / 16, none⟩ (.int .u64 (lim Q (j / 16) + ((2 ^ (j % 16) : Nat) : Int)))) := by
  have hG : w.grownBy (w.setCell ⟨P, 0 + 1 + j / 16, none⟩ (.int .u64 (lim Q (j / 16) + ((2 ^ (j % 16) : Nat) : Int)))) (some P) := grown_set (grown_of (Below.refl _ _) _)
  refine ⟨h.1.far hG h.2.2, ?_, h.2.2⟩
  have : (w.setCell ⟨P, 0 + 1 + j / 16, none⟩ (.int .u64 (lim Q (j / 16) + ((2 ^ (j % 16) : Nat) : Int)))).heap[P]? = some (.cells ((numA b (lim Q)).setIfInBounds (0 + 1 + j / 16) (.int .u64 (lim Q (j / 16) + ((2 ^ (j % 16) : Nat) : Int)))) 122) := heap_setCell_same _ _ _ _ _ _ h.2.1
  rw [numA_put (by omega) hr.1, bit_is] at this
  exact this
theorem PS.put_d (h : PS W A N b Q Q P w) (hr : 2 ^ (j % 16) ≤ limb Q (j / 16) ∧ j < 320) : PS W A N b Q (Q - 2 ^ j) P (w.setCell ⟨P, 0 + 1 + j / 16, none⟩ (.int .u64 (lim Q (j / 16) - ((2 ^ (j % 16) : Nat) : Int)))) := by
  have hG : w.grownBy (w.setCell ⟨P, 0 + 1 + j / 16, none⟩ (.int .u64 (lim Q (j / 16) - ((2 ^ (j % 16) : Nat) : Int)))) (some P) := grown_set (grown_of (Below.refl _ _) _)
  refine ⟨h.1.far hG h.2.2, ?_, h.2.2⟩
  have : (w.setCell ⟨P, 0 + 1 + j / 16, none⟩ (.int .u64 (lim Q (j / 16) - ((2 ^ (j % 16) : Nat) : Int)))).heap[P]? = some (.cells ((numA b (lim Q)).setIfInBounds (0 + 1 + j / 16) (.int .u64 (lim Q (j / 16) - ((2 ^ (j % 16) : Nat) : Int)))) 122) := heap_setCell_same _ _ _ _ _ _ h.2.1
  rw [numA_cut (by omega) hr.1, bit_is] at this
  exact this
/-- Room for the bit, as numbers. -/
theorem room_u (h : limb Q (j / 16) + 2 ^ (j % 16) < 65536) : 0 ≤ lim Q (j / 16) + ((2 ^ (j % 16) : Nat) : Int) ∧ lim Q (j / 16) + ((2 ^ (j % 16) : Nat) : Int) < 18446744073709551616 := by
  unfold lim
  generalize 2 ^ (j % 16) = p at h ⊢
  omega
theorem room_d (h : 2 ^ (j % 16) ≤ limb Q (j / 16)) : 0 ≤ lim Q (j / 16) - ((2 ^ (j % 16) : Nat) : Int) ∧ lim Q (j / 16) - ((2 ^ (j % 16) : Nat) : Int) < 18446744073709551616 := by
  have := Go.Proofs.YtmnoegfehgoalaaGreatDoor.num.limb_lt Q (j / 16)
  have hB : B = 65536 := rfl
  unfold lim
  generalize 2 ^ (j % 16) = p at h ⊢
  omega
end
def QS (W : World) (A N : Array Value) (b : Bool) (Q : Nat) (w : World) : Prop := FlS W A N (numA b (lim Q)) w ∧ w.heap[W.heap.size + 1 + 1 + 1]? = some (.cells (numA b (lim Q)) 122) ∧ True
theorem QS.up {W w w' : World} {A N : Array Value} {b : Bool} {Q : Nat} (h : QS W A N b Q w) (hb : Below w.heap.size w w') : QS W A N b Q w' := ⟨h.1.up hb, keepB hb h.2.1, True.intro⟩
theorem QS.put_f {W w : World} {A N : Array Value} {b : Bool} {Q j : Nat} (h : QS W A N b Q w) (hr : limb Q (j / 16) + 2 ^ (j % 16) < 65536 ∧ j < 320) : QS W A N b (Q + 2 ^ j) (w.setCell ⟨W.heap.size + 1 + 1 + 1, 0 + 1 + j / 16, none⟩ (.int .u64 (lim Q (j / 16) + ((2 ^ (j % 16) : Nat) : Int)))) := by
  have h1 := h.1.set (0 + 1 + j / 16) (.int .u64 (lim Q (j / 16) + ((2 ^ (j % 16) : Nat) : Int)))
  rw [numA_put (by omega) hr.1, bit_is] at h1
  exact ⟨h1, h1.2.2.2.1, True.intro⟩
set_option maxHeartbeats 4000000 in
set_option maxRecDepth 1000000 in
theorem floor_up (W : World) (m : Nat) (hm : m ≤ 680564733841876926926749214863536422912) (A N Z : Array Value) (hA : A = numA false (lim m)) (hN : N = numA false (lim 2)) (hZ : Z = numA false (lim 0)) : Calls Tryz.prog 82 #[.agg A, .agg N] W fun e w' => e = .returned (.agg (numA false (lim (m / 2)))) ∧ Below W.heap.size W w' := by
  have bA : ∀ ev w d t p e, (execOp ev ⟨some d, .build 122 #[], t, p, e, none⟩).run Tryz.prog w = .ok (.value (.agg Z)) w := fun ev w d t p e => by rw [hZ]; exact bd_num ev w d t p e
  have aA : ∀ ev w d t p e, (execOp ev ⟨some d, .alloc 122, t, p, e, none⟩).run Tryz.prog w = .ok (.value (.pointer (some ⟨w.heap.size, 0, none⟩))) (w.alloc (.cells Z 122)) := fun ev w d t p e => by rw [hZ]; exact al_num ev w d t p e
  have zs : Z.size = 21 := by rw [hZ]; rfl
  have az : A.size = 21 := by rw [hA]; rfl
  have ns : N.size = 21 := by rw [hN]; rfl
  have zo : Z.all (·.oneCell') = true := by rw [hZ]; exact numA_one _ _
  have a0 : A[0]? = some (.bool false) := by rw [hA]; rfl
  have HB := Lib.hid (And.intro bA (And.intro aA (And.intro zs (And.intro az (And.intro ns (And.intro zo (And.intro a0 (And.intro hA (And.intro hN hZ)))))))))
  have z0 : Z.setIfInBounds 0 (.bool false) = Z := by rw [hZ]; rfl
  clear bA aA zs az ns zo hA hN hZ
  go_enter Tryz.func82, Tryz.ntmps82
  go_wp2_with (first
    | ((with_reducible refine wpList_do 4 (.alloc 122) _ (HB.out.2.1 _ _ _ _ _ _) ?_))
    | ((with_reducible refine wpList_do 11 (.build 122 #[]) _ (HB.out.1 _ _ _ _ _ _) ?_); (with_reducible refine wpList_do 5 (.alloc 122) _ (HB.out.2.1 _ _ _ _ _ _) ?_); (with_reducible refine wpList_st (cells := Z) 122 5 11 ?_ ?_ (heap_alloc_new _ _) ?_ ?_ ?_ ?_); rfl; rfl; rfl; (rw [HB.out.2.2.1]; exact u_num); exact HB.out.2.2.2.2.2.1; (rw [set_alloc]); have hF := FlS.start W A N Z Z HB.out.2.2.1; have c0 := cell_of (i := 0) hF.1 HB.out.2.2.2.2.2.2.1; have q0 := cell_of (i := 0) (v := .bool false) hF.2.2.2.1 (by rw [HB.out.2.2.2.2.2.2.2.2.2]; rfl); have f0 := frozen_of_row _ _ 0 _ _ hF.2.2.2.1; have HF := Lib.hid hF; clear hF))
  have H0 := HF.out
  clear HF c0 q0 f0
  generalize ((((W.alloc (.cells A 122)).alloc (.cells N 122)).alloc (.cells Z 122)).alloc (.cells Z 122)) = X0 at *
  rw [HB.out.2.2.2.2.2.2.2.2.2] at H0
  have hp130 : (2 : Nat) ^ 130 = 1361129467683753853853498429727072845824 := by decide
  have UN := Lib.hid (And.intro Tryz.underlying122 (show ∀ (b : Bool) (f : Nat → Int), (Tryz.prog.info? 122).map (·.size) = some (kpN b f).length from fun _ _ => u_num))
  go_loopg [9] 130 (fun g v wl => ∃ k Q : Nat, v = .int .i64 ((k : Int) - 1) ∧ k ≤ 130 ∧ g = k ∧ UpI m Q k ∧ FlS W A N (numA false (lim Q)) wl)
  case atStart => exact ⟨130, 0, rfl, by omega, rfl, ⟨Nat.zero_mod _, Nat.zero_le _, by rw [hp130]; omega⟩, H0⟩
  case round =>
    clear H0 hp130
    obtain ⟨k, Q, rfl, hk, hg, hI, hF⟩ := hrel
    cases k with
    | zero =>
      have e1 : decide ((0 : Int) ≤ ((0 : Nat) : Int) - 1) = false := by decide
      have hQ : Q = m / 2 := by
        obtain ⟨_, h2, h3⟩ := hI
        omega
      subst hQ
      have HX := Lib.hid hF
      have HX2 := Lib.hid (range_new (cs := kpN false (lim (m / 2))) hF.2.2.2.1)
      obtain ⟨Z', hz1, hz2⟩ := hF.2.2.1
      have HZ' := Lib.hid hz2
      clear hF hI hz2
      go_wp2_with (first
        | ((with_reducible refine wpList_ld 85 ?_ ?_ ?_ HX2.out UN.out.1 (UN.out.2 _ _) ?_); rfl; rfl; rfl)
        | ((with_reducible refine wpList_st (cells := numA false (lim (m / 2))) 122 4 85 ?_ ?_ HZ'.out ?_ ?_ ?_ ?_); rfl; rfl; (rw [hz1]; rfl); exact u_num; exact numA_one _ _))
      refine bodyPost_ret (results_cell_row rfl _ _ (W.heap.size + 1 + 1) 122 _ _ _ rfl (row_same HZ'.out) Tryz.underlying122 rfl (show _ = some (numA false (lim (m / 2))).size from u_num)) rfl ?_
      exact ⟨rfl, below_srow HX.out.2.2.2.2 (by omega)⟩
    | succ j =>
      have hv : (((j + 1 : Nat) : Int) - 1) = (j : Int) := by omega
      rw [hv]
      have e1 : decide ((0 : Int) ≤ (j : Int)) = true := by simp
      have HX := Lib.hid (And.intro hF hI)
      have HX2 := Lib.hid (range_new (cs := kpN false (lim Q)) hF.2.2.2.1)
      clear hF hI
      go_wp2_with (first
        | ((with_reducible refine wpList_ld 64 ?_ ?_ ?_ HX2.out UN.out.1 (UN.out.2 _ _) ?_); rfl; rfl; rfl)
        | ((with_reducible refine wpList_do 10 (.alloc 122) _ (HB.out.2.1 _ _ _ _ _ _) ?_); (with_reducible refine wpList_st (cells := numA false (lim Q)) 122 10 64 ?_ ?_ (heap_alloc_new _ _) ?_ ?_ ?_ ?_); rfl; rfl; (rw [HB.out.2.2.1]; rfl); exact u_num; exact numA_one _ _; (rw [set_alloc])))
      have hP : PS W A N false Q Q wr.heap.size (wr.alloc (.cells (numA false (lim Q)) 122)) := ⟨HX.out.1.up ((Below.refl wr.heap.size wr).alloc (Nat.le_refl _) _), heap_alloc_new _ _, lt_of_heap HX.out.1.2.2.2.1⟩
      generalize wr.alloc (.cells (numA false (lim Q)) 122) = Y at *
      generalize wr.heap.size = P at *
      have HP := Lib.hid hP
      have hr := room_up HX.out.2.1
      have HR := Lib.hid (And.intro (And.intro hr (show j < 320 by omega)) (room_u hr))
      have hj2 : (2 : Nat) ^ j ≤ 680564733841876926926749214863536422912 := Nat.le_trans (Nat.pow_le_pow_right (by decide) (show j ≤ 129 by omega)) (by decide)
      have hQm := HX.out.2.2.1
      have HXB := Lib.hid (show Q + 2 ^ j ≤ 2722258935367507707706996859454145691648 ∧ (Q + 2 ^ j) * 2 ≤ 5444517870735015415413993718908291383296 ∧ m ≤ 5444517870735015415413993718908291383296 by omega)
      have HN := Lib.hid HB.out.2.2.2.2.2.2.2.2.1
      have HM := Lib.hid HB.out.2.2.2.2.2.2.2.1
      have hsc : scmp (sval false ((Q + 2 ^ j) * 2)) (sval false m) ≤ 0 ↔ (Q + 2 ^ j) * 2 ≤ m := by
        rw [scmp_hi]
        unfold sval
        simp only [Bool.false_eq_true, if_false]
        omega
      have HC := Lib.hid (And.intro (fun hc : (Q + 2 ^ j) * 2 ≤ m => decide_eq_true (hsc.2 hc)) (fun hc : ¬ (Q + 2 ^ j) * 2 ≤ m => decide_eq_false (fun h => hc (hsc.1 h))))
      clear hP hr hj2 hQm hsc
      simp only [Act.put, List.setIfInBounds_toArray, List.set_cons_zero, List.set_cons_succ]
      refine wp_region_held_drew (S := fun _ => True) (by kernel_rfl) trivial (fun hSd => ?_)
      refine take_val (i := 0) (oi := ⟨some 65, .move (.tmp 9), _, _, _, none⟩) (.int .i64 (j : Nat)) rfl (by kernel_rfl) (by kernel_rfl) (by kernel_rfl) (fun _ _ _ h => h) rfl (fun w hSw => rfl) trivial ?_
      simp only [Act.put, List.setIfInBounds_toArray, List.set_cons_zero, List.set_cons_succ]
      refine take_val (i := 1) (oi := ⟨some 66, .binOp .quo 3 (.tmp 65) (.const (.int .i64 16)) 3, _, _, _, none⟩) (.int .i64 ((j / 16 : Nat) : Int)) rfl (by kernel_rfl) (by kernel_rfl) (by kernel_rfl) (fun _ _ _ h => h) rfl (fun w hSw => ex_quo16 (by omega) rfl rfl) trivial ?_
      simp only [Act.put, List.setIfInBounds_toArray, List.set_cons_zero, List.set_cons_succ]
      refine take_val (i := 2) (oi := ⟨some 67, .move (.tmp 9), _, _, _, none⟩) (.int .i64 (j : Nat)) rfl (by kernel_rfl) (by kernel_rfl) (by kernel_rfl) (fun _ _ _ h => h) rfl (fun w hSw => rfl) trivial ?_
      simp only [Act.put, List.setIfInBounds_toArray, List.set_cons_zero, List.set_cons_succ]
      refine take_val (i := 3) (oi := ⟨some 68, .binOp .quo 3 (.tmp 67) (.const (.int .i64 16)) 3, _, _, _, none⟩) (.int .i64 ((j / 16 : Nat) : Int)) rfl (by kernel_rfl) (by kernel_rfl) (by kernel_rfl) (fun _ _ _ h => h) rfl (fun w hSw => ex_quo16 (by omega) rfl rfl) trivial ?_
      simp only [Act.put, List.setIfInBounds_toArray, List.set_cons_zero, List.set_cons_succ]
      refine take_val (i := 4) (oi := ⟨some 69, .fieldAddr 122 (.tmp 10) 1, _, _, _, none⟩) (.pointer (some ⟨P, 0 + 1, none⟩)) rfl (by kernel_rfl) (by kernel_rfl) (by kernel_rfl) (fun _ _ _ h => h) rfl (fun w hSw => ex_field rfl (fa_n1 _ _ _)) trivial ?_
      simp only [Act.put, List.setIfInBounds_toArray, List.set_cons_zero, List.set_cons_succ]
      refine take_val (i := 5) (oi := ⟨some 70, .indexAddr 120 (.tmp 69) (.tmp 68), _, _, _, none⟩) (.pointer (some ⟨P, 0 + 1 + j / 16, none⟩)) rfl (by kernel_rfl) (by kernel_rfl) (by kernel_rfl) (fun _ _ _ h => h) rfl (fun w hSw => ex_index rfl rfl (ix_n _ _ _ (by omega))) trivial ?_
      simp only [Act.put, List.setIfInBounds_toArray, List.set_cons_zero, List.set_cons_succ]
      refine take_val (i := 7) (oi := ⟨some 72, .move (.tmp 9), _, _, _, none⟩) (.int .i64 (j : Nat)) rfl (by kernel_rfl) (by kernel_rfl) (by kernel_rfl) (fun _ _ _ h => h) rfl (fun w hSw => rfl) trivial ?_
      simp only [Act.put, List.setIfInBounds_toArray, List.set_cons_zero, List.set_cons_succ]
      refine take_val (i := 8) (oi := ⟨some 73, .binOp .rem 3 (.tmp 72) (.const (.int .i64 16)) 3, _, _, _, none⟩) (.int .i64 ((j % 16 : Nat) : Int)) rfl (by kernel_rfl) (by kernel_rfl) (by kernel_rfl) (fun _ _ _ h => h) rfl (fun w hSw => ex_rem16 rfl rfl) trivial ?_
      simp only [Act.put, List.setIfInBounds_toArray, List.set_cons_zero, List.set_cons_succ]
      refine take_val (i := 11) (oi := ⟨some 76, .fieldAddr 122 (.tmp 10) 1, _, _, _, none⟩) (.pointer (some ⟨P, 0 + 1, none⟩)) rfl (by kernel_rfl) (by kernel_rfl) (by kernel_rfl) (fun _ _ _ h => h) rfl (fun w hSw => ex_field rfl (fa_n1 _ _ _)) trivial ?_
      simp only [Act.put, List.setIfInBounds_toArray, List.set_cons_zero, List.set_cons_succ]
      refine take_ready (rs := [6, 9]) (by kernel_rfl) (by simp) (fun i hi => ?_)
      have hi2 : i = 6 ∨ i = 9 := by simpa using hi
      rcases hi2 with rfl | rfl
      · clear hi
        have HPb := Lib.hid (HP.out.up ((Below.refl Y.heap.size Y).drew))
        refine ⟨⟨some 71, .load 43 (.tmp 70), _, _, _, none⟩, rfl, fun K' hK' => ?_⟩
        refine do_if rfl (ex_load rfl (ld_u64 _ _ _ (.int .u64 (lim Q (j / 16))) (cell_of HPb.out.2.1 (numA_get _ _ (by omega))))) ?_
        refine hK' _ _ ⟨trivial, ?_⟩
        simp only [Act.put, List.setIfInBounds_toArray, List.set_cons_zero, List.set_cons_succ]
        refine take_call 9 (f := 105) (args := #[.int .i64 ((j % 16 : Nat) : Int)]) rfl (by kernel_rfl) rfl (by kernel_rfl) (power_w _ _ (by omega)) ?_
        rintro e v1 ⟨rfl, hb1⟩
        refine ⟨_, rfl, trivial, ?_⟩
        simp only [Act.put, List.setIfInBounds_toArray, List.set_cons_zero, List.set_cons_succ]
        have HPb := Lib.hid (HPb.out.up hb1)
        clear hb1
        have HQ := HPb.out
        refine take_val (i := 10) (oi := ⟨some 75, .binOp .add 43 (.tmp 71) (.tmp 74) 43, _, _, _, none⟩) (.int .u64 (lim Q (j / 16) + ((2 ^ (j % 16) : Nat) : Int))) rfl (by kernel_rfl) (by kernel_rfl) (by kernel_rfl) (fun _ _ _ h => h) rfl (fun w hSw => ex_addu rfl rfl rfl HR.out.2) trivial ?_
        simp only [Act.put, List.setIfInBounds_toArray, List.set_cons_zero, List.set_cons_succ]
        refine take_val (i := 12) (oi := ⟨some 77, .indexAddr 120 (.tmp 76) (.tmp 66), _, _, _, none⟩) (.pointer (some ⟨P, 0 + 1 + j / 16, none⟩)) rfl (by kernel_rfl) (by kernel_rfl) (by kernel_rfl) (fun _ _ _ h => h) rfl (fun w hSw => ex_index rfl rfl (ix_n _ _ _ (by omega))) trivial ?_
        simp only [Act.put, List.setIfInBounds_toArray, List.set_cons_zero, List.set_cons_succ]
        refine take_st 13 rfl (by kernel_rfl) rfl (st_u64 _ _ _ P (0 + 1 + j / 16) _ _ _ rfl rfl HPb.out.2.1 (show 0 + 1 + j / 16 < 21 by omega)) trivial ?_
        simp only [Act.put, List.setIfInBounds_toArray, List.set_cons_zero, List.set_cons_succ]
        refine wpAnyH_done (by kernel_rfl) ?_ _
        have hE := HPb.out.put_u HR.out.1
        generalize v1.setCell ⟨P, 0 + 1 + j / 16, none⟩ (.int .u64 (lim Q (j / 16) + ((2 ^ (j % 16) : Nat) : Int))) = yu at *
        have HE := Lib.hid hE
        clear hE HQ hSd HPb HR HP
        go_wp2_with fail
        have hE2 := HE.out.up (Below.refl yu.heap.size yu).drew
        refine wp_region_held_drew (S := fun w' => PS W A N false Q (Q + 2 ^ j) P w') (by kernel_rfl) hE2 (fun hSd => ?_)
        refine take_val (i := 0) (oi := ⟨some 78, .load 122 (.tmp 10), _, _, _, none⟩) (.agg (numA false (lim (Q + 2 ^ j)))) rfl (by kernel_rfl) (by kernel_rfl) (by kernel_rfl) (fun _ _ _ h => h) rfl (fun w hSw => ex_load rfl (run_loadAt_mid w P 0 122 (kpN false (lim (Q + 2 ^ j))) _ (range_new (cs := kpN false (lim (Q + 2 ^ j))) (hSw.2.1)) UN.out.1 rfl (UN.out.2 _ _))) hSd ?_
        simp only [Act.put, List.setIfInBounds_toArray, List.set_cons_zero, List.set_cons_succ]
        refine take_val (i := 1) (oi := ⟨some 79, .load 122 (.tmp 3), _, _, _, none⟩) (.agg (numA false (lim 2))) rfl (by kernel_rfl) (by kernel_rfl) (by kernel_rfl) (fun _ _ _ h => h) rfl (fun w hSw => ex_load rfl (run_loadAt_mid w (W.heap.size + 1) 0 122 (kpN false (lim 2)) _ (range_new (cs := kpN false (lim 2)) (HN.out ▸ hSw.1.2.1)) UN.out.1 rfl (UN.out.2 _ _))) hSd ?_
        simp only [Act.put, List.setIfInBounds_toArray, List.set_cons_zero, List.set_cons_succ]
        refine take_val (i := 3) (oi := ⟨some 81, .load 122 (.tmp 2), _, _, _, none⟩) (.agg (numA false (lim m))) rfl (by kernel_rfl) (by kernel_rfl) (by kernel_rfl) (fun _ _ _ h => h) rfl (fun w hSw => ex_load rfl (run_loadAt_mid w W.heap.size 0 122 (kpN false (lim m)) _ (range_new (cs := kpN false (lim m)) (HM.out ▸ hSw.1.1)) UN.out.1 rfl (UN.out.2 _ _))) hSd ?_
        simp only [Act.put, List.setIfInBounds_toArray, List.set_cons_zero, List.set_cons_succ]
        refine take_call 2 (f := 103) (args := #[.agg (numA false (lim (Q + 2 ^ j))), .agg (numA false (lim 2))]) rfl (by kernel_rfl) rfl (by kernel_rfl) (mul2_w _ false (Q + 2 ^ j) HXB.out.1) ?_
        rintro e v2 ⟨rfl, hb1⟩
        have hE3 := hE2.up hb1
        clear hb1 hE2 hSd
        refine ⟨_, rfl, hE3, ?_⟩
        simp only [Act.put, List.setIfInBounds_toArray, List.set_cons_zero, List.set_cons_succ]
        refine take_call 4 (f := 83) (args := #[.agg (numA false (lim ((Q + 2 ^ j) * 2))), .agg (numA false (lim m))]) rfl (by kernel_rfl) rfl (by kernel_rfl) (cmp_w _ false false ((Q + 2 ^ j) * 2) m HXB.out.2.1 HXB.out.2.2) ?_
        rintro e v3 ⟨rfl, hb1⟩
        have hE4 := hE3.up hb1
        clear hb1 hE3
        refine ⟨_, rfl, hE4, ?_⟩
        simp only [Act.put, List.setIfInBounds_toArray, List.set_cons_zero, List.set_cons_succ]
        by_cases hc : (Q + 2 ^ j) * 2 ≤ m
        · have HE5 := Lib.hid hE4
          refine take_val (i := 5) (oi := ⟨some 83, .binOp .leq 3 (.tmp 82) (.const (.int .i64 0)) 3, _, _, _, none⟩) (.bool true) rfl (by kernel_rfl) (by kernel_rfl) (by kernel_rfl) (fun _ _ _ h => h) rfl (fun w hSw => ex_leq rfl rfl (HC.out.1 hc)) hE4 ?_
          simp only [Act.put, List.setIfInBounds_toArray, List.set_cons_zero, List.set_cons_succ]
          refine wpAnyH_done (by kernel_rfl) ?_ _
          have HI2 := Lib.hid (up_yes HX.out.2 (by omega))
          have HX3 := Lib.hid (range_new (cs := kpN false (lim (Q + 2 ^ j))) hE4.2.1)
          have HQ3 := Lib.hid hE4.1.2.2.2.1
          clear hE4 hc HE
          go_wp2_with (first
            | ((with_reducible refine wpList_ld 84 ?_ ?_ ?_ HX3.out UN.out.1 (UN.out.2 _ _) ?_); rfl; rfl; rfl)
            | ((with_reducible refine wpList_st (cells := numA false (lim (Q + 2 ^ j))) 122 5 84 ?_ ?_ HQ3.out ?_ ?_ ?_ ?_); rfl; rfl; rfl; exact u_num; exact numA_one _ _))
          go_roundg j
          case measure => omega
          case rel => exact ⟨j, (Q + 2 ^ j), by go_num, by omega, rfl, HI2.out, HE5.out.1.row⟩
        · have HE5 := Lib.hid hE4
          refine take_val (i := 5) (oi := ⟨some 83, .binOp .leq 3 (.tmp 82) (.const (.int .i64 0)) 3, _, _, _, none⟩) (.bool false) rfl (by kernel_rfl) (by kernel_rfl) (by kernel_rfl) (fun _ _ _ h => h) rfl (fun w hSw => ex_leq rfl rfl (HC.out.2 hc)) hE4 ?_
          simp only [Act.put, List.setIfInBounds_toArray, List.set_cons_zero, List.set_cons_succ]
          refine wpAnyH_done (by kernel_rfl) ?_ _
          have HI2 := Lib.hid (up_no HX.out.2 (by omega))
          have HX3 := Lib.hid (range_new (cs := kpN false (lim (Q + 2 ^ j))) hE4.2.1)
          have HQ3 := Lib.hid hE4.1.2.2.2.1
          clear hE4 hc HE
          go_wp2_with fail
          go_roundg j
          case measure => omega
          case rel => exact ⟨j, Q, by go_num, by omega, rfl, HI2.out, HE5.out.1⟩
      · clear hi
        have HPb := Lib.hid (HP.out.up ((Below.refl Y.heap.size Y).drew))
        refine ⟨⟨some 74, .call { callee := .value (.func 105), args := #[.tmp 73], argTypes := #[3] }, _, _, _, none⟩, rfl, fun K' hK' => ?_⟩
        refine call_if (f := 105) (args := #[.int .i64 ((j % 16 : Nat) : Int)]) rfl (by kernel_rfl) (power_w _ _ (by omega)) ?_
        rintro e v1 ⟨rfl, hb1⟩
        refine ⟨_, rfl, hK' _ _ ⟨trivial, ?_⟩⟩
        simp only [Act.put, List.setIfInBounds_toArray, List.set_cons_zero, List.set_cons_succ]
        have HPb := Lib.hid (HPb.out.up hb1)
        clear hb1
        refine take_ready (rs := [6]) (by kernel_rfl) (by simp) (fun i hi => ?_)
        obtain rfl : i = 6 := by simpa using hi
        clear hi
        refine ⟨⟨some 71, .load 43 (.tmp 70), _, _, _, none⟩, rfl, fun K' hK' => ?_⟩
        refine do_if rfl (ex_load rfl (ld_u64 _ _ _ (.int .u64 (lim Q (j / 16))) (cell_of HPb.out.2.1 (numA_get _ _ (by omega))))) ?_
        refine hK' _ _ ⟨trivial, ?_⟩
        simp only [Act.put, List.setIfInBounds_toArray, List.set_cons_zero, List.set_cons_succ]
        have HQ := HPb.out
        refine take_val (i := 10) (oi := ⟨some 75, .binOp .add 43 (.tmp 71) (.tmp 74) 43, _, _, _, none⟩) (.int .u64 (lim Q (j / 16) + ((2 ^ (j % 16) : Nat) : Int))) rfl (by kernel_rfl) (by kernel_rfl) (by kernel_rfl) (fun _ _ _ h => h) rfl (fun w hSw => ex_addu rfl rfl rfl HR.out.2) trivial ?_
        simp only [Act.put, List.setIfInBounds_toArray, List.set_cons_zero, List.set_cons_succ]
        refine take_val (i := 12) (oi := ⟨some 77, .indexAddr 120 (.tmp 76) (.tmp 66), _, _, _, none⟩) (.pointer (some ⟨P, 0 + 1 + j / 16, none⟩)) rfl (by kernel_rfl) (by kernel_rfl) (by kernel_rfl) (fun _ _ _ h => h) rfl (fun w hSw => ex_index rfl rfl (ix_n _ _ _ (by omega))) trivial ?_
        simp only [Act.put, List.setIfInBounds_toArray, List.set_cons_zero, List.set_cons_succ]
        refine take_st 13 rfl (by kernel_rfl) rfl (st_u64 _ _ _ P (0 + 1 + j / 16) _ _ _ rfl rfl HPb.out.2.1 (show 0 + 1 + j / 16 < 21 by omega)) trivial ?_
        simp only [Act.put, List.setIfInBounds_toArray, List.set_cons_zero, List.set_cons_succ]
        refine wpAnyH_done (by kernel_rfl) ?_ _
        have hE := HPb.out.put_u HR.out.1
        generalize v1.setCell ⟨P, 0 + 1 + j / 16, none⟩ (.int .u64 (lim Q (j / 16) + ((2 ^ (j % 16) : Nat) : Int))) = yu at *
        have HE := Lib.hid hE
        clear hE HQ hSd HPb HR HP
        go_wp2_with fail
        have hE2 := HE.out.up (Below.refl yu.heap.size yu).drew
        refine wp_region_held_drew (S := fun w' => PS W A N false Q (Q + 2 ^ j) P w') (by kernel_rfl) hE2 (fun hSd => ?_)
        refine take_val (i := 0) (oi := ⟨some 78, .load 122 (.tmp 10), _, _, _, none⟩) (.agg (numA false (lim (Q + 2 ^ j)))) rfl (by kernel_rfl) (by kernel_rfl) (by kernel_rfl) (fun _ _ _ h => h) rfl (fun w hSw => ex_load rfl (run_loadAt_mid w P 0 122 (kpN false (lim (Q + 2 ^ j))) _ (range_new (cs := kpN false (lim (Q + 2 ^ j))) (hSw.2.1)) UN.out.1 rfl (UN.out.2 _ _))) hSd ?_
        simp only [Act.put, List.setIfInBounds_toArray, List.set_cons_zero, List.set_cons_succ]
        refine take_val (i := 1) (oi := ⟨some 79, .load 122 (.tmp 3), _, _, _, none⟩) (.agg (numA false (lim 2))) rfl (by kernel_rfl) (by kernel_rfl) (by kernel_rfl) (fun _ _ _ h => h) rfl (fun w hSw => ex_load rfl (run_loadAt_mid w (W.heap.size + 1) 0 122 (kpN false (lim 2)) _ (range_new (cs := kpN false (lim 2)) (HN.out ▸ hSw.1.2.1)) UN.out.1 rfl (UN.out.2 _ _))) hSd ?_
        simp only [Act.put, List.setIfInBounds_toArray, List.set_cons_zero, List.set_cons_succ]
        refine take_val (i := 3) (oi := ⟨some 81, .load 122 (.tmp 2), _, _, _, none⟩) (.agg (numA false (lim m))) rfl (by kernel_rfl) (by kernel_rfl) (by kernel_rfl) (fun _ _ _ h => h) rfl (fun w hSw => ex_load rfl (run_loadAt_mid w W.heap.size 0 122 (kpN false (lim m)) _ (range_new (cs := kpN false (lim m)) (HM.out ▸ hSw.1.1)) UN.out.1 rfl (UN.out.2 _ _))) hSd ?_
        simp only [Act.put, List.setIfInBounds_toArray, List.set_cons_zero, List.set_cons_succ]
        refine take_call 2 (f := 103) (args := #[.agg (numA false (lim (Q + 2 ^ j))), .agg (numA false (lim 2))]) rfl (by kernel_rfl) rfl (by kernel_rfl) (mul2_w _ false (Q + 2 ^ j) HXB.out.1) ?_
        rintro e v2 ⟨rfl, hb1⟩
        have hE3 := hE2.up hb1
        clear hb1 hE2 hSd
        refine ⟨_, rfl, hE3, ?_⟩
        simp only [Act.put, List.setIfInBounds_toArray, List.set_cons_zero, List.set_cons_succ]
        refine take_call 4 (f := 83) (args := #[.agg (numA false (lim ((Q + 2 ^ j) * 2))), .agg (numA false (lim m))]) rfl (by kernel_rfl) rfl (by kernel_rfl) (cmp_w _ false false ((Q + 2 ^ j) * 2) m HXB.out.2.1 HXB.out.2.2) ?_
        rintro e v3 ⟨rfl, hb1⟩
        have hE4 := hE3.up hb1
        clear hb1 hE3
        refine ⟨_, rfl, hE4, ?_⟩
        simp only [Act.put, List.setIfInBounds_toArray, List.set_cons_zero, List.set_cons_succ]
        by_cases hc : (Q + 2 ^ j) * 2 ≤ m
        · have HE5 := Lib.hid hE4
          refine take_val (i := 5) (oi := ⟨some 83, .binOp .leq 3 (.tmp 82) (.const (.int .i64 0)) 3, _, _, _, none⟩) (.bool true) rfl (by kernel_rfl) (by kernel_rfl) (by kernel_rfl) (fun _ _ _ h => h) rfl (fun w hSw => ex_leq rfl rfl (HC.out.1 hc)) hE4 ?_
          simp only [Act.put, List.setIfInBounds_toArray, List.set_cons_zero, List.set_cons_succ]
          refine wpAnyH_done (by kernel_rfl) ?_ _
          have HI2 := Lib.hid (up_yes HX.out.2 (by omega))
          have HX3 := Lib.hid (range_new (cs := kpN false (lim (Q + 2 ^ j))) hE4.2.1)
          have HQ3 := Lib.hid hE4.1.2.2.2.1
          clear hE4 hc HE
          go_wp2_with (first
            | ((with_reducible refine wpList_ld 84 ?_ ?_ ?_ HX3.out UN.out.1 (UN.out.2 _ _) ?_); rfl; rfl; rfl)
            | ((with_reducible refine wpList_st (cells := numA false (lim (Q + 2 ^ j))) 122 5 84 ?_ ?_ HQ3.out ?_ ?_ ?_ ?_); rfl; rfl; rfl; exact u_num; exact numA_one _ _))
          go_roundg j
          case measure => omega
          case rel => exact ⟨j, (Q + 2 ^ j), by go_num, by omega, rfl, HI2.out, HE5.out.1.row⟩
        · have HE5 := Lib.hid hE4
          refine take_val (i := 5) (oi := ⟨some 83, .binOp .leq 3 (.tmp 82) (.const (.int .i64 0)) 3, _, _, _, none⟩) (.bool false) rfl (by kernel_rfl) (by kernel_rfl) (by kernel_rfl) (fun _ _ _ h => h) rfl (fun w hSw => ex_leq rfl rfl (HC.out.2 hc)) hE4 ?_
          simp only [Act.put, List.setIfInBounds_toArray, List.set_cons_zero, List.set_cons_succ]
          refine wpAnyH_done (by kernel_rfl) ?_ _
          have HI2 := Lib.hid (up_no HX.out.2 (by omega))
          have HX3 := Lib.hid (range_new (cs := kpN false (lim (Q + 2 ^ j))) hE4.2.1)
          have HQ3 := Lib.hid hE4.1.2.2.2.1
          clear hE4 hc HE
          go_wp2_with fail
          go_roundg j
          case measure => omega
          case rel => exact ⟨j, Q, by go_num, by omega, rfl, HI2.out, HE5.out.1⟩
set_option maxHeartbeats 4000000 in
set_option maxRecDepth 1000000 in
theorem floor_dn (W : World) (m : Nat) (hm : m ≤ 680564733841876926926749214863536422912) (A N Z Z1 : Array Value) (hA : A = numA true (lim m)) (hN : N = numA false (lim 2)) (hZ : Z = numA false (lim 0)) (hZ1 : Z1 = numA true (lim 0)) : Calls Tryz.prog 82 #[.agg A, .agg N] W fun e w' => e = .returned (.agg (numA true (lim ((m + 1) / 2)))) ∧ Below W.heap.size W w' := by
  have bA : ∀ ev w d t p e, (execOp ev ⟨some d, .build 122 #[], t, p, e, none⟩).run Tryz.prog w = .ok (.value (.agg Z)) w := fun ev w d t p e => by rw [hZ]; exact bd_num ev w d t p e
  have aA : ∀ ev w d t p e, (execOp ev ⟨some d, .alloc 122, t, p, e, none⟩).run Tryz.prog w = .ok (.value (.pointer (some ⟨w.heap.size, 0, none⟩))) (w.alloc (.cells Z 122)) := fun ev w d t p e => by rw [hZ]; exact al_num ev w d t p e
  have zs : Z.size = 21 := by rw [hZ]; rfl
  have az : A.size = 21 := by rw [hA]; rfl
  have ns : N.size = 21 := by rw [hN]; rfl
  have zo : Z.all (·.oneCell') = true := by rw [hZ]; exact numA_one _ _
  have a0 : A[0]? = some (.bool true) := by rw [hA]; rfl
  have HB := Lib.hid (And.intro bA (And.intro aA (And.intro zs (And.intro az (And.intro ns (And.intro zo (And.intro a0 (And.intro hA (And.intro hN hZ)))))))))
  have z0 : Z.setIfInBounds 0 (.bool true) = Z1 := by rw [hZ, hZ1]; rfl
  have HZ1 := Lib.hid hZ1
  clear bA aA zs az ns zo hA hN hZ hZ1
  go_enter Tryz.func82, Tryz.ntmps82
  go_wp2_with (first
    | ((with_reducible refine wpList_do 4 (.alloc 122) _ (HB.out.2.1 _ _ _ _ _ _) ?_))
    | ((with_reducible refine wpList_do 11 (.build 122 #[]) _ (HB.out.1 _ _ _ _ _ _) ?_); (with_reducible refine wpList_do 5 (.alloc 122) _ (HB.out.2.1 _ _ _ _ _ _) ?_); (with_reducible refine wpList_st (cells := Z) 122 5 11 ?_ ?_ (heap_alloc_new _ _) ?_ ?_ ?_ ?_); rfl; rfl; rfl; (rw [HB.out.2.2.1]; exact u_num); exact HB.out.2.2.2.2.2.1; (rw [set_alloc]); have hF := FlS.start W A N Z Z HB.out.2.2.1; have c0 := cell_of (i := 0) hF.1 HB.out.2.2.2.2.2.2.1; have q0 := cell_of (i := 0) (v := .bool false) hF.2.2.2.1 (by rw [HB.out.2.2.2.2.2.2.2.2.2]; rfl); have f0 := frozen_of_row _ _ 0 _ _ hF.2.2.2.1; have HF := Lib.hid hF; clear hF))
  have H0 := FlS.start W A N Z Z1 HB.out.2.2.1
  clear HF c0 q0 f0
  generalize ((((W.alloc (.cells A 122)).alloc (.cells N 122)).alloc (.cells Z 122)).alloc (.cells Z1 122)) = X0 at *
  rw [HZ1.out] at H0
  clear z0 a0
  have UN := Lib.hid (And.intro Tryz.underlying122 (show ∀ (b : Bool) (f : Nat → Int), (Tryz.prog.info? 122).map (·.size) = some (kpN b f).length from fun _ _ => u_num))
  have HN := Lib.hid HB.out.2.2.2.2.2.2.2.2.1
  have HM := Lib.hid HB.out.2.2.2.2.2.2.2.1
  go_loopg [6] 130 (fun g v wl => ∃ j : Nat, v = .int .i64 (j : Nat) ∧ j ≤ 130 ∧ g = 130 - j ∧ FlS W A N (numA true (lim (2 ^ j - 1))) wl)
  case atStart => exact ⟨0, rfl, by omega, rfl, H0⟩
  case round =>
    clear H0
    obtain ⟨j, rfl, hj, hg, hF⟩ := hrel
    by_cases hjn : j = 130
    · subst hjn
      have e1 : decide (((130 : Nat) : Int) < 130) = false := by decide
      have HX0 := Lib.hid hF
      clear hF
      go_wp2_with fail
      have H1 := HX0.out
      have hp130 : (2 : Nat) ^ 130 = 1361129467683753853853498429727072845824 := by decide
      go_loopg [7] 130 (fun g v wl => ∃ k Q : Nat, v = .int .i64 ((k : Int) - 1) ∧ k ≤ 130 ∧ g = k ∧ DnI m Q k ∧ FlS W A N (numA true (lim Q)) wl)
      case atStart => exact ⟨130, 2 ^ 130 - 1, rfl, by omega, rfl, ⟨by decide, by rw [hp130]; omega, by rw [hp130]; omega⟩, H1⟩
      case round =>
        clear H1 hp130 HX0
        obtain ⟨k, Q, rfl, hk, hg2, hI, hF⟩ := hrel
        cases k with
        | zero =>
          have e1 : decide ((0 : Int) ≤ ((0 : Nat) : Int) - 1) = false := by decide
          have hQ : Q = (m + 1) / 2 := by
            obtain ⟨_, h2, h3⟩ := hI
            omega
          subst hQ
          have HX := Lib.hid hF
          have HX2 := Lib.hid (range_new (cs := kpN true (lim ((m + 1) / 2))) hF.2.2.2.1)
          obtain ⟨Z', hz1, hz2⟩ := hF.2.2.1
          have HZ' := Lib.hid hz2
          clear hF hI hz2
          go_wp2_with (first
            | ((with_reducible refine wpList_ld 59 ?_ ?_ ?_ HX2.out UN.out.1 (UN.out.2 _ _) ?_); rfl; rfl; rfl)
            | ((with_reducible refine wpList_st (cells := numA true (lim ((m + 1) / 2))) 122 4 59 ?_ ?_ HZ'.out ?_ ?_ ?_ ?_); rfl; rfl; (rw [hz1]; rfl); exact u_num; exact numA_one _ _))
          refine bodyPost_ret (results_cell_row rfl _ _ (W.heap.size + 1 + 1) 122 _ _ _ rfl (row_same HZ'.out) Tryz.underlying122 rfl (show _ = some (numA true (lim ((m + 1) / 2))).size from u_num)) rfl ?_
          exact ⟨rfl, below_srow HX.out.2.2.2.2 (by omega)⟩
        | succ j =>
          have hv : (((j + 1 : Nat) : Int) - 1) = (j : Int) := by omega
          rw [hv]
          have e1 : decide ((0 : Int) ≤ (j : Int)) = true := by simp
          have HX := Lib.hid (And.intro hF hI)
          have HX2 := Lib.hid (range_new (cs := kpN true (lim Q)) hF.2.2.2.1)
          clear hF hI
          go_wp2_with (first
            | ((with_reducible refine wpList_ld 38 ?_ ?_ ?_ HX2.out UN.out.1 (UN.out.2 _ _) ?_); rfl; rfl; rfl)
            | ((with_reducible refine wpList_do 8 (.alloc 122) _ (HB.out.2.1 _ _ _ _ _ _) ?_); (with_reducible refine wpList_st (cells := numA true (lim Q)) 122 8 38 ?_ ?_ (heap_alloc_new _ _) ?_ ?_ ?_ ?_); rfl; rfl; (rw [HB.out.2.2.1]; rfl); exact u_num; exact numA_one _ _; (rw [set_alloc])))
          have hP : PS W A N true Q Q wr.heap.size (wr.alloc (.cells (numA true (lim Q)) 122)) := ⟨HX.out.1.up ((Below.refl wr.heap.size wr).alloc (Nat.le_refl _) _), heap_alloc_new _ _, lt_of_heap HX.out.1.2.2.2.1⟩
          generalize wr.alloc (.cells (numA true (lim Q)) 122) = Y at *
          generalize wr.heap.size = P at *
          have HP := Lib.hid hP
          have hr := room_down HX.out.2.1
          have HR := Lib.hid (And.intro (And.intro hr (show j < 320 by omega)) (room_d hr))
          have hj2 : (2 : Nat) ^ (j + 1) ≤ 1361129467683753853853498429727072845824 := Nat.le_trans (Nat.pow_le_pow_right (by decide) (show j + 1 ≤ 130 by omega)) (by decide)
          have hQm := HX.out.2.2.2
          have HXB := Lib.hid (show Q - 2 ^ j ≤ 2722258935367507707706996859454145691648 ∧ (Q - 2 ^ j) * 2 ≤ 5444517870735015415413993718908291383296 ∧ m ≤ 5444517870735015415413993718908291383296 by omega)
          have hsc : scmp (sval true ((Q - 2 ^ j) * 2)) (sval true m) ≤ 0 ↔ m ≤ (Q - 2 ^ j) * 2 := by
            rw [scmp_hi]
            unfold sval
            simp only [if_true]
            omega
          have HC := Lib.hid (And.intro (fun hc : m ≤ (Q - 2 ^ j) * 2 => decide_eq_true (hsc.2 hc)) (fun hc : ¬ m ≤ (Q - 2 ^ j) * 2 => decide_eq_false (fun h => hc (hsc.1 h))))
          clear hP hr hj2 hQm hsc
          simp only [Act.put, List.setIfInBounds_toArray, List.set_cons_zero, List.set_cons_succ]
          refine wp_region_held_drew (S := fun _ => True) (by kernel_rfl) trivial (fun hSd => ?_)
          refine take_val (i := 0) (oi := ⟨some 39, .move (.tmp 7), _, _, _, none⟩) (.int .i64 (j : Nat)) rfl (by kernel_rfl) (by kernel_rfl) (by kernel_rfl) (fun _ _ _ h => h) rfl (fun w hSw => rfl) trivial ?_
          simp only [Act.put, List.setIfInBounds_toArray, List.set_cons_zero, List.set_cons_succ]
          refine take_val (i := 1) (oi := ⟨some 40, .binOp .quo 3 (.tmp 39) (.const (.int .i64 16)) 3, _, _, _, none⟩) (.int .i64 ((j / 16 : Nat) : Int)) rfl (by kernel_rfl) (by kernel_rfl) (by kernel_rfl) (fun _ _ _ h => h) rfl (fun w hSw => ex_quo16 (by omega) rfl rfl) trivial ?_
          simp only [Act.put, List.setIfInBounds_toArray, List.set_cons_zero, List.set_cons_succ]
          refine take_val (i := 2) (oi := ⟨some 41, .move (.tmp 7), _, _, _, none⟩) (.int .i64 (j : Nat)) rfl (by kernel_rfl) (by kernel_rfl) (by kernel_rfl) (fun _ _ _ h => h) rfl (fun w hSw => rfl) trivial ?_
          simp only [Act.put, List.setIfInBounds_toArray, List.set_cons_zero, List.set_cons_succ]
          refine take_val (i := 3) (oi := ⟨some 42, .binOp .quo 3 (.tmp 41) (.const (.int .i64 16)) 3, _, _, _, none⟩) (.int .i64 ((j / 16 : Nat) : Int)) rfl (by kernel_rfl) (by kernel_rfl) (by kernel_rfl) (fun _ _ _ h => h) rfl (fun w hSw => ex_quo16 (by omega) rfl rfl) trivial ?_
          simp only [Act.put, List.setIfInBounds_toArray, List.set_cons_zero, List.set_cons_succ]
          refine take_val (i := 4) (oi := ⟨some 43, .fieldAddr 122 (.tmp 8) 1, _, _, _, none⟩) (.pointer (some ⟨P, 0 + 1, none⟩)) rfl (by kernel_rfl) (by kernel_rfl) (by kernel_rfl) (fun _ _ _ h => h) rfl (fun w hSw => ex_field rfl (fa_n1 _ _ _)) trivial ?_
          simp only [Act.put, List.setIfInBounds_toArray, List.set_cons_zero, List.set_cons_succ]
          refine take_val (i := 5) (oi := ⟨some 44, .indexAddr 120 (.tmp 43) (.tmp 42), _, _, _, none⟩) (.pointer (some ⟨P, 0 + 1 + j / 16, none⟩)) rfl (by kernel_rfl) (by kernel_rfl) (by kernel_rfl) (fun _ _ _ h => h) rfl (fun w hSw => ex_index rfl rfl (ix_n _ _ _ (by omega))) trivial ?_
          simp only [Act.put, List.setIfInBounds_toArray, List.set_cons_zero, List.set_cons_succ]
          refine take_val (i := 7) (oi := ⟨some 46, .move (.tmp 7), _, _, _, none⟩) (.int .i64 (j : Nat)) rfl (by kernel_rfl) (by kernel_rfl) (by kernel_rfl) (fun _ _ _ h => h) rfl (fun w hSw => rfl) trivial ?_
          simp only [Act.put, List.setIfInBounds_toArray, List.set_cons_zero, List.set_cons_succ]
          refine take_val (i := 8) (oi := ⟨some 47, .binOp .rem 3 (.tmp 46) (.const (.int .i64 16)) 3, _, _, _, none⟩) (.int .i64 ((j % 16 : Nat) : Int)) rfl (by kernel_rfl) (by kernel_rfl) (by kernel_rfl) (fun _ _ _ h => h) rfl (fun w hSw => ex_rem16 rfl rfl) trivial ?_
          simp only [Act.put, List.setIfInBounds_toArray, List.set_cons_zero, List.set_cons_succ]
          refine take_val (i := 11) (oi := ⟨some 50, .fieldAddr 122 (.tmp 8) 1, _, _, _, none⟩) (.pointer (some ⟨P, 0 + 1, none⟩)) rfl (by kernel_rfl) (by kernel_rfl) (by kernel_rfl) (fun _ _ _ h => h) rfl (fun w hSw => ex_field rfl (fa_n1 _ _ _)) trivial ?_
          simp only [Act.put, List.setIfInBounds_toArray, List.set_cons_zero, List.set_cons_succ]
          refine take_ready (rs := [6, 9]) (by kernel_rfl) (by simp) (fun i hi => ?_)
          have hi2 : i = 6 ∨ i = 9 := by simpa using hi
          rcases hi2 with rfl | rfl
          · clear hi
            have HPb := Lib.hid (HP.out.up ((Below.refl Y.heap.size Y).drew))
            refine ⟨⟨some 45, .load 43 (.tmp 44), _, _, _, none⟩, rfl, fun K' hK' => ?_⟩
            refine do_if rfl (ex_load rfl (ld_u64 _ _ _ (.int .u64 (lim Q (j / 16))) (cell_of HPb.out.2.1 (numA_get _ _ (by omega))))) ?_
            refine hK' _ _ ⟨trivial, ?_⟩
            simp only [Act.put, List.setIfInBounds_toArray, List.set_cons_zero, List.set_cons_succ]
            refine take_call 9 (f := 105) (args := #[.int .i64 ((j % 16 : Nat) : Int)]) rfl (by kernel_rfl) rfl (by kernel_rfl) (power_w _ _ (by omega)) ?_
            rintro e v1 ⟨rfl, hb1⟩
            refine ⟨_, rfl, trivial, ?_⟩
            simp only [Act.put, List.setIfInBounds_toArray, List.set_cons_zero, List.set_cons_succ]
            have HPb := Lib.hid (HPb.out.up hb1)
            clear hb1
            have HQ := HPb.out
            refine take_val (i := 10) (oi := ⟨some 49, .binOp .sub 43 (.tmp 45) (.tmp 48) 43, _, _, _, none⟩) (.int .u64 (lim Q (j / 16) - ((2 ^ (j % 16) : Nat) : Int))) rfl (by kernel_rfl) (by kernel_rfl) (by kernel_rfl) (fun _ _ _ h => h) rfl (fun w hSw => ex_subu rfl rfl rfl HR.out.2) trivial ?_
            simp only [Act.put, List.setIfInBounds_toArray, List.set_cons_zero, List.set_cons_succ]
            refine take_val (i := 12) (oi := ⟨some 51, .indexAddr 120 (.tmp 50) (.tmp 40), _, _, _, none⟩) (.pointer (some ⟨P, 0 + 1 + j / 16, none⟩)) rfl (by kernel_rfl) (by kernel_rfl) (by kernel_rfl) (fun _ _ _ h => h) rfl (fun w hSw => ex_index rfl rfl (ix_n _ _ _ (by omega))) trivial ?_
            simp only [Act.put, List.setIfInBounds_toArray, List.set_cons_zero, List.set_cons_succ]
            refine take_st 13 rfl (by kernel_rfl) rfl (st_u64 _ _ _ P (0 + 1 + j / 16) _ _ _ rfl rfl HPb.out.2.1 (show 0 + 1 + j / 16 < 21 by omega)) trivial ?_
            simp only [Act.put, List.setIfInBounds_toArray, List.set_cons_zero, List.set_cons_succ]
            refine wpAnyH_done (by kernel_rfl) ?_ _
            have hE := HPb.out.put_d HR.out.1
            generalize v1.setCell ⟨P, 0 + 1 + j / 16, none⟩ (.int .u64 (lim Q (j / 16) - ((2 ^ (j % 16) : Nat) : Int))) = yd at *
            have HE := Lib.hid hE
            clear hE HQ hSd HPb HR HP
            go_wp2_with fail
            have hE2 := HE.out.up (Below.refl yd.heap.size yd).drew
            refine wp_region_held_drew (S := fun w' => PS W A N true Q (Q - 2 ^ j) P w') (by kernel_rfl) hE2 (fun hSd => ?_)
            refine take_val (i := 0) (oi := ⟨some 52, .load 122 (.tmp 8), _, _, _, none⟩) (.agg (numA true (lim (Q - 2 ^ j)))) rfl (by kernel_rfl) (by kernel_rfl) (by kernel_rfl) (fun _ _ _ h => h) rfl (fun w hSw => ex_load rfl (run_loadAt_mid w P 0 122 (kpN true (lim (Q - 2 ^ j))) _ (range_new (cs := kpN true (lim (Q - 2 ^ j))) (hSw.2.1)) UN.out.1 rfl (UN.out.2 _ _))) hSd ?_
            simp only [Act.put, List.setIfInBounds_toArray, List.set_cons_zero, List.set_cons_succ]
            refine take_val (i := 1) (oi := ⟨some 53, .load 122 (.tmp 3), _, _, _, none⟩) (.agg (numA false (lim 2))) rfl (by kernel_rfl) (by kernel_rfl) (by kernel_rfl) (fun _ _ _ h => h) rfl (fun w hSw => ex_load rfl (run_loadAt_mid w (W.heap.size + 1) 0 122 (kpN false (lim 2)) _ (range_new (cs := kpN false (lim 2)) (HN.out ▸ hSw.1.2.1)) UN.out.1 rfl (UN.out.2 _ _))) hSd ?_
            simp only [Act.put, List.setIfInBounds_toArray, List.set_cons_zero, List.set_cons_succ]
            refine take_val (i := 3) (oi := ⟨some 55, .load 122 (.tmp 2), _, _, _, none⟩) (.agg (numA true (lim m))) rfl (by kernel_rfl) (by kernel_rfl) (by kernel_rfl) (fun _ _ _ h => h) rfl (fun w hSw => ex_load rfl (run_loadAt_mid w W.heap.size 0 122 (kpN true (lim m)) _ (range_new (cs := kpN true (lim m)) (HM.out ▸ hSw.1.1)) UN.out.1 rfl (UN.out.2 _ _))) hSd ?_
            simp only [Act.put, List.setIfInBounds_toArray, List.set_cons_zero, List.set_cons_succ]
            refine take_call 2 (f := 103) (args := #[.agg (numA true (lim (Q - 2 ^ j))), .agg (numA false (lim 2))]) rfl (by kernel_rfl) rfl (by kernel_rfl) (mul2_w _ true (Q - 2 ^ j) HXB.out.1) ?_
            rintro e v2 ⟨rfl, hb1⟩
            have hE3 := hE2.up hb1
            clear hb1 hE2 hSd
            refine ⟨_, rfl, hE3, ?_⟩
            simp only [Act.put, List.setIfInBounds_toArray, List.set_cons_zero, List.set_cons_succ]
            refine take_call 4 (f := 83) (args := #[.agg (numA true (lim ((Q - 2 ^ j) * 2))), .agg (numA true (lim m))]) rfl (by kernel_rfl) rfl (by kernel_rfl) (cmp_w _ true true ((Q - 2 ^ j) * 2) m HXB.out.2.1 HXB.out.2.2) ?_
            rintro e v3 ⟨rfl, hb1⟩
            have hE4 := hE3.up hb1
            clear hb1 hE3
            refine ⟨_, rfl, hE4, ?_⟩
            simp only [Act.put, List.setIfInBounds_toArray, List.set_cons_zero, List.set_cons_succ]
            by_cases hc : m ≤ (Q - 2 ^ j) * 2
            · have HE5 := Lib.hid hE4
              refine take_val (i := 5) (oi := ⟨some 57, .binOp .leq 3 (.tmp 56) (.const (.int .i64 0)) 3, _, _, _, none⟩) (.bool true) rfl (by kernel_rfl) (by kernel_rfl) (by kernel_rfl) (fun _ _ _ h => h) rfl (fun w hSw => ex_leq rfl rfl (HC.out.1 hc)) hE4 ?_
              simp only [Act.put, List.setIfInBounds_toArray, List.set_cons_zero, List.set_cons_succ]
              refine wpAnyH_done (by kernel_rfl) ?_ _
              have HI2 := Lib.hid (dn_yes HX.out.2 (by omega))
              have HX3 := Lib.hid (range_new (cs := kpN true (lim (Q - 2 ^ j))) hE4.2.1)
              have HQ3 := Lib.hid hE4.1.2.2.2.1
              clear hE4 hc HE
              go_wp2_with (first
                | ((with_reducible refine wpList_ld 58 ?_ ?_ ?_ HX3.out UN.out.1 (UN.out.2 _ _) ?_); rfl; rfl; rfl)
                | ((with_reducible refine wpList_st (cells := numA true (lim (Q - 2 ^ j))) 122 5 58 ?_ ?_ HQ3.out ?_ ?_ ?_ ?_); rfl; rfl; rfl; exact u_num; exact numA_one _ _))
              go_roundg j
              case measure => omega
              case rel => exact ⟨j, (Q - 2 ^ j), by go_num, by omega, rfl, HI2.out, HE5.out.1.row⟩
            · have HE5 := Lib.hid hE4
              refine take_val (i := 5) (oi := ⟨some 57, .binOp .leq 3 (.tmp 56) (.const (.int .i64 0)) 3, _, _, _, none⟩) (.bool false) rfl (by kernel_rfl) (by kernel_rfl) (by kernel_rfl) (fun _ _ _ h => h) rfl (fun w hSw => ex_leq rfl rfl (HC.out.2 hc)) hE4 ?_
              simp only [Act.put, List.setIfInBounds_toArray, List.set_cons_zero, List.set_cons_succ]
              refine wpAnyH_done (by kernel_rfl) ?_ _
              have HI2 := Lib.hid (dn_no HX.out.2 (by omega))
              have HX3 := Lib.hid (range_new (cs := kpN true (lim (Q - 2 ^ j))) hE4.2.1)
              have HQ3 := Lib.hid hE4.1.2.2.2.1
              clear hE4 hc HE
              go_wp2_with fail
              go_roundg j
              case measure => omega
              case rel => exact ⟨j, Q, by go_num, by omega, rfl, HI2.out, HE5.out.1⟩
          · clear hi
            have HPb := Lib.hid (HP.out.up ((Below.refl Y.heap.size Y).drew))
            refine ⟨⟨some 48, .call { callee := .value (.func 105), args := #[.tmp 47], argTypes := #[3] }, _, _, _, none⟩, rfl, fun K' hK' => ?_⟩
            refine call_if (f := 105) (args := #[.int .i64 ((j % 16 : Nat) : Int)]) rfl (by kernel_rfl) (power_w _ _ (by omega)) ?_
            rintro e v1 ⟨rfl, hb1⟩
            refine ⟨_, rfl, hK' _ _ ⟨trivial, ?_⟩⟩
            simp only [Act.put, List.setIfInBounds_toArray, List.set_cons_zero, List.set_cons_succ]
            have HPb := Lib.hid (HPb.out.up hb1)
            clear hb1
            refine take_ready (rs := [6]) (by kernel_rfl) (by simp) (fun i hi => ?_)
            obtain rfl : i = 6 := by simpa using hi
            clear hi
            refine ⟨⟨some 45, .load 43 (.tmp 44), _, _, _, none⟩, rfl, fun K' hK' => ?_⟩
            refine do_if rfl (ex_load rfl (ld_u64 _ _ _ (.int .u64 (lim Q (j / 16))) (cell_of HPb.out.2.1 (numA_get _ _ (by omega))))) ?_
            refine hK' _ _ ⟨trivial, ?_⟩
            simp only [Act.put, List.setIfInBounds_toArray, List.set_cons_zero, List.set_cons_succ]
            have HQ := HPb.out
            refine take_val (i := 10) (oi := ⟨some 49, .binOp .sub 43 (.tmp 45) (.tmp 48) 43, _, _, _, none⟩) (.int .u64 (lim Q (j / 16) - ((2 ^ (j % 16) : Nat) : Int))) rfl (by kernel_rfl) (by kernel_rfl) (by kernel_rfl) (fun _ _ _ h => h) rfl (fun w hSw => ex_subu rfl rfl rfl HR.out.2) trivial ?_
            simp only [Act.put, List.setIfInBounds_toArray, List.set_cons_zero, List.set_cons_succ]
            refine take_val (i := 12) (oi := ⟨some 51, .indexAddr 120 (.tmp 50) (.tmp 40), _, _, _, none⟩) (.pointer (some ⟨P, 0 + 1 + j / 16, none⟩)) rfl (by kernel_rfl) (by kernel_rfl) (by kernel_rfl) (fun _ _ _ h => h) rfl (fun w hSw => ex_index rfl rfl (ix_n _ _ _ (by omega))) trivial ?_
            simp only [Act.put, List.setIfInBounds_toArray, List.set_cons_zero, List.set_cons_succ]
            refine take_st 13 rfl (by kernel_rfl) rfl (st_u64 _ _ _ P (0 + 1 + j / 16) _ _ _ rfl rfl HPb.out.2.1 (show 0 + 1 + j / 16 < 21 by omega)) trivial ?_
            simp only [Act.put, List.setIfInBounds_toArray, List.set_cons_zero, List.set_cons_succ]
            refine wpAnyH_done (by kernel_rfl) ?_ _
            have hE := HPb.out.put_d HR.out.1
            generalize v1.setCell ⟨P, 0 + 1 + j / 16, none⟩ (.int .u64 (lim Q (j / 16) - ((2 ^ (j % 16) : Nat) : Int))) = yd at *
            have HE := Lib.hid hE
            clear hE HQ hSd HPb HR HP
            go_wp2_with fail
            have hE2 := HE.out.up (Below.refl yd.heap.size yd).drew
            refine wp_region_held_drew (S := fun w' => PS W A N true Q (Q - 2 ^ j) P w') (by kernel_rfl) hE2 (fun hSd => ?_)
            refine take_val (i := 0) (oi := ⟨some 52, .load 122 (.tmp 8), _, _, _, none⟩) (.agg (numA true (lim (Q - 2 ^ j)))) rfl (by kernel_rfl) (by kernel_rfl) (by kernel_rfl) (fun _ _ _ h => h) rfl (fun w hSw => ex_load rfl (run_loadAt_mid w P 0 122 (kpN true (lim (Q - 2 ^ j))) _ (range_new (cs := kpN true (lim (Q - 2 ^ j))) (hSw.2.1)) UN.out.1 rfl (UN.out.2 _ _))) hSd ?_
            simp only [Act.put, List.setIfInBounds_toArray, List.set_cons_zero, List.set_cons_succ]
            refine take_val (i := 1) (oi := ⟨some 53, .load 122 (.tmp 3), _, _, _, none⟩) (.agg (numA false (lim 2))) rfl (by kernel_rfl) (by kernel_rfl) (by kernel_rfl) (fun _ _ _ h => h) rfl (fun w hSw => ex_load rfl (run_loadAt_mid w (W.heap.size + 1) 0 122 (kpN false (lim 2)) _ (range_new (cs := kpN false (lim 2)) (HN.out ▸ hSw.1.2.1)) UN.out.1 rfl (UN.out.2 _ _))) hSd ?_
            simp only [Act.put, List.setIfInBounds_toArray, List.set_cons_zero, List.set_cons_succ]
            refine take_val (i := 3) (oi := ⟨some 55, .load 122 (.tmp 2), _, _, _, none⟩) (.agg (numA true (lim m))) rfl (by kernel_rfl) (by kernel_rfl) (by kernel_rfl) (fun _ _ _ h => h) rfl (fun w hSw => ex_load rfl (run_loadAt_mid w W.heap.size 0 122 (kpN true (lim m)) _ (range_new (cs := kpN true (lim m)) (HM.out ▸ hSw.1.1)) UN.out.1 rfl (UN.out.2 _ _))) hSd ?_
            simp only [Act.put, List.setIfInBounds_toArray, List.set_cons_zero, List.set_cons_succ]
            refine take_call 2 (f := 103) (args := #[.agg (numA true (lim (Q - 2 ^ j))), .agg (numA false (lim 2))]) rfl (by kernel_rfl) rfl (by kernel_rfl) (mul2_w _ true (Q - 2 ^ j) HXB.out.1) ?_
            rintro e v2 ⟨rfl, hb1⟩
            have hE3 := hE2.up hb1
            clear hb1 hE2 hSd
            refine ⟨_, rfl, hE3, ?_⟩
            simp only [Act.put, List.setIfInBounds_toArray, List.set_cons_zero, List.set_cons_succ]
            refine take_call 4 (f := 83) (args := #[.agg (numA true (lim ((Q - 2 ^ j) * 2))), .agg (numA true (lim m))]) rfl (by kernel_rfl) rfl (by kernel_rfl) (cmp_w _ true true ((Q - 2 ^ j) * 2) m HXB.out.2.1 HXB.out.2.2) ?_
            rintro e v3 ⟨rfl, hb1⟩
            have hE4 := hE3.up hb1
            clear hb1 hE3
            refine ⟨_, rfl, hE4, ?_⟩
            simp only [Act.put, List.setIfInBounds_toArray, List.set_cons_zero, List.set_cons_succ]
            by_cases hc : m ≤ (Q - 2 ^ j) * 2
            · have HE5 := Lib.hid hE4
              refine take_val (i := 5) (oi := ⟨some 57, .binOp .leq 3 (.tmp 56) (.const (.int .i64 0)) 3, _, _, _, none⟩) (.bool true) rfl (by kernel_rfl) (by kernel_rfl) (by kernel_rfl) (fun _ _ _ h => h) rfl (fun w hSw => ex_leq rfl rfl (HC.out.1 hc)) hE4 ?_
              simp only [Act.put, List.setIfInBounds_toArray, List.set_cons_zero, List.set_cons_succ]
              refine wpAnyH_done (by kernel_rfl) ?_ _
              have HI2 := Lib.hid (dn_yes HX.out.2 (by omega))
              have HX3 := Lib.hid (range_new (cs := kpN true (lim (Q - 2 ^ j))) hE4.2.1)
              have HQ3 := Lib.hid hE4.1.2.2.2.1
              clear hE4 hc HE
              go_wp2_with (first
                | ((with_reducible refine wpList_ld 58 ?_ ?_ ?_ HX3.out UN.out.1 (UN.out.2 _ _) ?_); rfl; rfl; rfl)
                | ((with_reducible refine wpList_st (cells := numA true (lim (Q - 2 ^ j))) 122 5 58 ?_ ?_ HQ3.out ?_ ?_ ?_ ?_); rfl; rfl; rfl; exact u_num; exact numA_one _ _))
              go_roundg j
              case measure => omega
              case rel => exact ⟨j, (Q - 2 ^ j), by go_num, by omega, rfl, HI2.out, HE5.out.1.row⟩
            · have HE5 := Lib.hid hE4
              refine take_val (i := 5) (oi := ⟨some 57, .binOp .leq 3 (.tmp 56) (.const (.int .i64 0)) 3, _, _, _, none⟩) (.bool false) rfl (by kernel_rfl) (by kernel_rfl) (by kernel_rfl) (fun _ _ _ h => h) rfl (fun w hSw => ex_leq rfl rfl (HC.out.2 hc)) hE4 ?_
              simp only [Act.put, List.setIfInBounds_toArray, List.set_cons_zero, List.set_cons_succ]
              refine wpAnyH_done (by kernel_rfl) ?_ _
              have HI2 := Lib.hid (dn_no HX.out.2 (by omega))
              have HX3 := Lib.hid (range_new (cs := kpN true (lim (Q - 2 ^ j))) hE4.2.1)
              have HQ3 := Lib.hid hE4.1.2.2.2.1
              clear hE4 hc HE
              go_wp2_with fail
              go_roundg j
              case measure => omega
              case rel => exact ⟨j, Q, by go_num, by omega, rfl, HI2.out, HE5.out.1⟩
    · have e1 : decide ((j : Int) < 130) = true := by simp; omega
      obtain ⟨Q, hQ⟩ : ∃ Q, Q = 2 ^ j - 1 := ⟨_, rfl⟩
      rw [← hQ] at hF
      have hr := room_low j
      rw [← hQ] at hr
      have hW : 2 ^ (j + 1) - 1 = Q + 2 ^ j := by
        have h1 := Nat.pow_succ 2 j
        have h2 : 0 < 2 ^ j := Nat.pow_pos (by decide)
        omega
      have HW := Lib.hid hW
      have HP := Lib.hid (show QS W A N true Q wr from ⟨hF, hF.2.2.2.1, True.intro⟩)
      have HR := Lib.hid (And.intro (And.intro hr (show j < 320 by omega)) (room_u hr))
      clear hF hr hW hQ
      go_wp2_with fail
      refine wp_region_held_drew (S := fun _ => True) (by kernel_rfl) trivial (fun hSd => ?_)
      refine take_val (i := 0) (oi := ⟨some 21, .move (.tmp 6), _, _, _, none⟩) (.int .i64 (j : Nat)) rfl (by kernel_rfl) (by kernel_rfl) (by kernel_rfl) (fun _ _ _ h => h) rfl (fun w hSw => rfl) trivial ?_
      simp only [Act.put, List.setIfInBounds_toArray, List.set_cons_zero, List.set_cons_succ]
      refine take_val (i := 1) (oi := ⟨some 22, .binOp .quo 3 (.tmp 21) (.const (.int .i64 16)) 3, _, _, _, none⟩) (.int .i64 ((j / 16 : Nat) : Int)) rfl (by kernel_rfl) (by kernel_rfl) (by kernel_rfl) (fun _ _ _ h => h) rfl (fun w hSw => ex_quo16 (by omega) rfl rfl) trivial ?_
      simp only [Act.put, List.setIfInBounds_toArray, List.set_cons_zero, List.set_cons_succ]
      refine take_val (i := 2) (oi := ⟨some 23, .move (.tmp 6), _, _, _, none⟩) (.int .i64 (j : Nat)) rfl (by kernel_rfl) (by kernel_rfl) (by kernel_rfl) (fun _ _ _ h => h) rfl (fun w hSw => rfl) trivial ?_
      simp only [Act.put, List.setIfInBounds_toArray, List.set_cons_zero, List.set_cons_succ]
      refine take_val (i := 3) (oi := ⟨some 24, .binOp .quo 3 (.tmp 23) (.const (.int .i64 16)) 3, _, _, _, none⟩) (.int .i64 ((j / 16 : Nat) : Int)) rfl (by kernel_rfl) (by kernel_rfl) (by kernel_rfl) (fun _ _ _ h => h) rfl (fun w hSw => ex_quo16 (by omega) rfl rfl) trivial ?_
      simp only [Act.put, List.setIfInBounds_toArray, List.set_cons_zero, List.set_cons_succ]
      refine take_val (i := 4) (oi := ⟨some 25, .fieldAddr 122 (.tmp 5) 1, _, _, _, none⟩) (.pointer (some ⟨(W.heap.size + 1 + 1 + 1), 0 + 1, none⟩)) rfl (by kernel_rfl) (by kernel_rfl) (by kernel_rfl) (fun _ _ _ h => h) rfl (fun w hSw => ex_field rfl (fa_n1 _ _ _)) trivial ?_
      simp only [Act.put, List.setIfInBounds_toArray, List.set_cons_zero, List.set_cons_succ]
      refine take_val (i := 5) (oi := ⟨some 26, .indexAddr 120 (.tmp 25) (.tmp 24), _, _, _, none⟩) (.pointer (some ⟨(W.heap.size + 1 + 1 + 1), 0 + 1 + j / 16, none⟩)) rfl (by kernel_rfl) (by kernel_rfl) (by kernel_rfl) (fun _ _ _ h => h) rfl (fun w hSw => ex_index rfl rfl (ix_n _ _ _ (by omega))) trivial ?_
      simp only [Act.put, List.setIfInBounds_toArray, List.set_cons_zero, List.set_cons_succ]
      refine take_val (i := 7) (oi := ⟨some 28, .move (.tmp 6), _, _, _, none⟩) (.int .i64 (j : Nat)) rfl (by kernel_rfl) (by kernel_rfl) (by kernel_rfl) (fun _ _ _ h => h) rfl (fun w hSw => rfl) trivial ?_
      simp only [Act.put, List.setIfInBounds_toArray, List.set_cons_zero, List.set_cons_succ]
      refine take_val (i := 8) (oi := ⟨some 29, .binOp .rem 3 (.tmp 28) (.const (.int .i64 16)) 3, _, _, _, none⟩) (.int .i64 ((j % 16 : Nat) : Int)) rfl (by kernel_rfl) (by kernel_rfl) (by kernel_rfl) (fun _ _ _ h => h) rfl (fun w hSw => ex_rem16 rfl rfl) trivial ?_
      simp only [Act.put, List.setIfInBounds_toArray, List.set_cons_zero, List.set_cons_succ]
      refine take_val (i := 11) (oi := ⟨some 32, .fieldAddr 122 (.tmp 5) 1, _, _, _, none⟩) (.pointer (some ⟨(W.heap.size + 1 + 1 + 1), 0 + 1, none⟩)) rfl (by kernel_rfl) (by kernel_rfl) (by kernel_rfl) (fun _ _ _ h => h) rfl (fun w hSw => ex_field rfl (fa_n1 _ _ _)) trivial ?_
      simp only [Act.put, List.setIfInBounds_toArray, List.set_cons_zero, List.set_cons_succ]
      refine take_ready (rs := [6, 9]) (by kernel_rfl) (by simp) (fun i hi => ?_)
      have hi2 : i = 6 ∨ i = 9 := by simpa using hi
      rcases hi2 with rfl | rfl
      · clear hi
        have HPb := Lib.hid (HP.out.up ((Below.refl wr.heap.size wr).drew))
        refine ⟨⟨some 27, .load 43 (.tmp 26), _, _, _, none⟩, rfl, fun K' hK' => ?_⟩
        refine do_if rfl (ex_load rfl (ld_u64 _ _ _ (.int .u64 (lim Q (j / 16))) (cell_of HPb.out.2.1 (numA_get _ _ (by omega))))) ?_
        refine hK' _ _ ⟨trivial, ?_⟩
        simp only [Act.put, List.setIfInBounds_toArray, List.set_cons_zero, List.set_cons_succ]
        refine take_call 9 (f := 105) (args := #[.int .i64 ((j % 16 : Nat) : Int)]) rfl (by kernel_rfl) rfl (by kernel_rfl) (power_w _ _ (by omega)) ?_
        rintro e v1 ⟨rfl, hb1⟩
        refine ⟨_, rfl, trivial, ?_⟩
        simp only [Act.put, List.setIfInBounds_toArray, List.set_cons_zero, List.set_cons_succ]
        have HPb := Lib.hid (HPb.out.up hb1)
        clear hb1
        have HQ := HPb.out
        refine take_val (i := 10) (oi := ⟨some 31, .binOp .add 43 (.tmp 27) (.tmp 30) 43, _, _, _, none⟩) (.int .u64 (lim Q (j / 16) + ((2 ^ (j % 16) : Nat) : Int))) rfl (by kernel_rfl) (by kernel_rfl) (by kernel_rfl) (fun _ _ _ h => h) rfl (fun w hSw => ex_addu rfl rfl rfl HR.out.2) trivial ?_
        simp only [Act.put, List.setIfInBounds_toArray, List.set_cons_zero, List.set_cons_succ]
        refine take_val (i := 12) (oi := ⟨some 33, .indexAddr 120 (.tmp 32) (.tmp 22), _, _, _, none⟩) (.pointer (some ⟨(W.heap.size + 1 + 1 + 1), 0 + 1 + j / 16, none⟩)) rfl (by kernel_rfl) (by kernel_rfl) (by kernel_rfl) (fun _ _ _ h => h) rfl (fun w hSw => ex_index rfl rfl (ix_n _ _ _ (by omega))) trivial ?_
        simp only [Act.put, List.setIfInBounds_toArray, List.set_cons_zero, List.set_cons_succ]
        refine take_st 13 rfl (by kernel_rfl) rfl (st_u64 _ _ _ (W.heap.size + 1 + 1 + 1) (0 + 1 + j / 16) _ _ _ rfl rfl HPb.out.2.1 (show 0 + 1 + j / 16 < 21 by omega)) trivial ?_
        simp only [Act.put, List.setIfInBounds_toArray, List.set_cons_zero, List.set_cons_succ]
        refine wpAnyH_done (by kernel_rfl) ?_ _
        have hE := HPb.out.put_f HR.out.1
        generalize v1.setCell ⟨(W.heap.size + 1 + 1 + 1), 0 + 1 + j / 16, none⟩ (.int .u64 (lim Q (j / 16) + ((2 ^ (j % 16) : Nat) : Int))) = yf at *
        have HE := Lib.hid hE
        clear hE HQ hSd HPb HR HP
        go_wp2_with fail
        go_roundg (130 - (j + 1))
        case measure => omega
        case rel => exact ⟨j + 1, by go_num, by omega, rfl, by rw [HW.out]; exact HE.out.1⟩
      · clear hi
        have HPb := Lib.hid (HP.out.up ((Below.refl wr.heap.size wr).drew))
        refine ⟨⟨some 30, .call { callee := .value (.func 105), args := #[.tmp 29], argTypes := #[3] }, _, _, _, none⟩, rfl, fun K' hK' => ?_⟩
        refine call_if (f := 105) (args := #[.int .i64 ((j % 16 : Nat) : Int)]) rfl (by kernel_rfl) (power_w _ _ (by omega)) ?_
        rintro e v1 ⟨rfl, hb1⟩
        refine ⟨_, rfl, hK' _ _ ⟨trivial, ?_⟩⟩
        simp only [Act.put, List.setIfInBounds_toArray, List.set_cons_zero, List.set_cons_succ]
        have HPb := Lib.hid (HPb.out.up hb1)
        clear hb1
        refine take_ready (rs := [6]) (by kernel_rfl) (by simp) (fun i hi => ?_)
        obtain rfl : i = 6 := by simpa using hi
        clear hi
        refine ⟨⟨some 27, .load 43 (.tmp 26), _, _, _, none⟩, rfl, fun K' hK' => ?_⟩
        refine do_if rfl (ex_load rfl (ld_u64 _ _ _ (.int .u64 (lim Q (j / 16))) (cell_of HPb.out.2.1 (numA_get _ _ (by omega))))) ?_
        refine hK' _ _ ⟨trivial, ?_⟩
        simp only [Act.put, List.setIfInBounds_toArray, List.set_cons_zero, List.set_cons_succ]
        have HQ := HPb.out
        refine take_val (i := 10) (oi := ⟨some 31, .binOp .add 43 (.tmp 27) (.tmp 30) 43, _, _, _, none⟩) (.int .u64 (lim Q (j / 16) + ((2 ^ (j % 16) : Nat) : Int))) rfl (by kernel_rfl) (by kernel_rfl) (by kernel_rfl) (fun _ _ _ h => h) rfl (fun w hSw => ex_addu rfl rfl rfl HR.out.2) trivial ?_
        simp only [Act.put, List.setIfInBounds_toArray, List.set_cons_zero, List.set_cons_succ]
        refine take_val (i := 12) (oi := ⟨some 33, .indexAddr 120 (.tmp 32) (.tmp 22), _, _, _, none⟩) (.pointer (some ⟨(W.heap.size + 1 + 1 + 1), 0 + 1 + j / 16, none⟩)) rfl (by kernel_rfl) (by kernel_rfl) (by kernel_rfl) (fun _ _ _ h => h) rfl (fun w hSw => ex_index rfl rfl (ix_n _ _ _ (by omega))) trivial ?_
        simp only [Act.put, List.setIfInBounds_toArray, List.set_cons_zero, List.set_cons_succ]
        refine take_st 13 rfl (by kernel_rfl) rfl (st_u64 _ _ _ (W.heap.size + 1 + 1 + 1) (0 + 1 + j / 16) _ _ _ rfl rfl HPb.out.2.1 (show 0 + 1 + j / 16 < 21 by omega)) trivial ?_
        simp only [Act.put, List.setIfInBounds_toArray, List.set_cons_zero, List.set_cons_succ]
        refine wpAnyH_done (by kernel_rfl) ?_ _
        have hE := HPb.out.put_f HR.out.1
        generalize v1.setCell ⟨(W.heap.size + 1 + 1 + 1), 0 + 1 + j / 16, none⟩ (.int .u64 (lim Q (j / 16) + ((2 ^ (j % 16) : Nat) : Int))) = yf at *
        have HE := Lib.hid hE
        clear hE HQ hSd HPb HR HP
        go_wp2_with fail
        go_roundg (130 - (j + 1))
        case measure => omega
        case rel => exact ⟨j + 1, by go_num, by omega, rfl, by rw [HW.out]; exact HE.out.1⟩
theorem floor_w (W : World) (b : Bool) (m : Nat) (hm : m ≤ 680564733841876926926749214863536422912) : Calls Tryz.prog 82 #[.agg (numA b (lim m)), .agg (numA false (lim 2))] W fun e w' => e = .returned (.agg (numA b (lim (if b then (m + 1) / 2 else m / 2)))) ∧ Below W.heap.size W w' := by
  cases b with
  | false => exact floor_up W m hm _ _ _ rfl rfl rfl
  | true => exact floor_dn W m hm _ _ _ _ rfl rfl rfl rfl
theorem floor_val (b : Bool) (m : Nat) : sval b (if b then (m + 1) / 2 else m / 2) = sval b m / 2 := by
  unfold sval
  cases b
  · simp
  · simp only [if_true]; omega
end Go.Proofs.YtmnoegfehgoalaaGreatDoor.cx
namespace Go.Proofs.YtmnoegfehgoalaaGreatDoor.num
open Go.Dg (junk St Ex Ev Hint evCall evLoop bodied noOver Flats flatOver Heap AObj lay noO)
set_option linter.unusedVariables false
open Classical in
/-- What is told, and Floor by a table. -/
noncomputable def oF (T : List (List Value × Value)) (f : FuncId) (args : List Value) : Option Value :=
  if f = 82 then (T.find? fun t => decide (t.1 = args)).map (·.2) else o7 f args
theorem oF_flats {T : List (List Value × Value)} (h : ∀ t ∈ T, Flats Tryz.prog 82 t.1 t.2) : ∀ f args v, oF T f args = some v → Flats Tryz.prog f args v := by
  intro f args v hv
  unfold oF at hv
  split at hv
  · rename_i hf
    rw [Option.map_eq_some_iff] at hv
    obtain ⟨t, ht, rfl⟩ := hv
    have h1 := List.find?_some ht
    have h2 := List.mem_of_find?_eq_some ht
    have h3 : t.1 = args := by simpa using h1
    rw [hf, ← h3]
    exact h t h2
  · exact o7_flats _ _ _ hv
theorem oF_other {T : List (List Value × Value)} {f : FuncId} {args : List Value} {v : Value} (h : o7 f args = some v) (hf : f ≠ 82 := by decide) : oF T f args = some v := by
  unfold oF
  rw [if_neg hf]
  exact h
theorem floor_flats (b : Bool) (m : Nat) (hm : m ≤ 680564733841876926926749214863536422912) : Flats Tryz.prog 82 [num b m, num false 2] (num b (if b then (m + 1) / 2 else m / 2)) :=
  ⟨flat2 _ _ _ _, num_flat _ _, fun w => Go.Proofs.YtmnoegfehgoalaaGreatDoor.cx.floor_w w b m hm⟩
theorem off_r (T : List (List Value × Value)) (h1 l1 h2 l2 h3 l3 h4 l4 x1 y1 x2 y2 x3 y3 x4 y4 z : Int) (b c d e : Bool) (m n k k2 k3 : Nat)
    (g1 : oF T 81 [wd h2 l2, wd h1 l1] = some (wd x1 y1)) (g2 : oF T 77 [wd x1 y1] = some (num b m)) (g3 : oF T 81 [wd h3 l3, wd h4 l4] = some (wd x2 y2)) (g4 : oF T 77 [wd x2 y2] = some (num c n))
    (g5 : oF T 54 [num b m, num c n] = some (num d k)) (g6 : oF T 58 [num d k] = some (wd x3 y3)) (g7 : oF T 77 [wd x3 y3] = some (num e k2)) (g8 : oF T 55 [.int .i64 2] = some (num false 2)) (g9 : oF T 82 [num e k2, num false 2] = some (num e k3))
    (g10 : oF T 58 [num e k3] = some (wd x4 y4)) (g11 : oF T 57 [wd x4 y4] = some (.int .i64 z)) :
    evCall Tryz.prog 0 (bodied Tryz.prog) (flatOver (oF T)) sbs 1000 20 52 [wd h1 l1, wd h2 l2, wd h3 l3, wd h4 l4] ⟨0, []⟩ = some (.int .i64 z, ⟨0, []⟩, []) :=
  Dg.evCall_hint (hs' := []) (hs := [Hint.call 81 (wd x1 y1) ⟨0, []⟩ [], Hint.call 77 (num b m) ⟨0, []⟩ [], Hint.call 81 (wd x2 y2) ⟨0, []⟩ [], Hint.call 77 (num c n) ⟨0, []⟩ [], Hint.call 54 (num d k) ⟨0, []⟩ [], Hint.call 58 (wd x3 y3) ⟨0, []⟩ [],
      Hint.call 77 (num e k2) ⟨0, []⟩ [], Hint.call 55 (num false 2) ⟨0, []⟩ [], Hint.call 82 (num e k3) ⟨0, []⟩ [], Hint.call 58 (wd x4 y4) ⟨0, []⟩ [], Hint.call 57 (.int .i64 z) ⟨0, []⟩ []])
    [evCall Tryz.prog 0 (bodied Tryz.prog) (flatOver (oF T)) sbs 1000 19 81 [wd h2 l2, wd h1 l1] ⟨0, []⟩ = some (wd x1 y1, ⟨0, []⟩, []), evCall Tryz.prog 0 (bodied Tryz.prog) (flatOver (oF T)) sbs 1000 19 77 [wd x1 y1] ⟨0, []⟩ = some (num b m, ⟨0, []⟩, []),
     evCall Tryz.prog 0 (bodied Tryz.prog) (flatOver (oF T)) sbs 1000 19 81 [wd h3 l3, wd h4 l4] ⟨0, []⟩ = some (wd x2 y2, ⟨0, []⟩, []), evCall Tryz.prog 0 (bodied Tryz.prog) (flatOver (oF T)) sbs 1000 19 77 [wd x2 y2] ⟨0, []⟩ = some (num c n, ⟨0, []⟩, []),
     evCall Tryz.prog 0 (bodied Tryz.prog) (flatOver (oF T)) sbs 1000 19 54 [num b m, num c n] ⟨0, []⟩ = some (num d k, ⟨0, []⟩, []), evCall Tryz.prog 0 (bodied Tryz.prog) (flatOver (oF T)) sbs 1000 19 58 [num d k] ⟨0, []⟩ = some (wd x3 y3, ⟨0, []⟩, []),
     evCall Tryz.prog 0 (bodied Tryz.prog) (flatOver (oF T)) sbs 1000 19 77 [wd x3 y3] ⟨0, []⟩ = some (num e k2, ⟨0, []⟩, []), evCall Tryz.prog 0 (bodied Tryz.prog) (flatOver (oF T)) sbs 1000 19 55 [.int .i64 2] ⟨0, []⟩ = some (num false 2, ⟨0, []⟩, []),
     evCall Tryz.prog 0 (bodied Tryz.prog) (flatOver (oF T)) sbs 1000 19 82 [num e k2, num false 2] ⟨0, []⟩ = some (num e k3, ⟨0, []⟩, []), evCall Tryz.prog 0 (bodied Tryz.prog) (flatOver (oF T)) sbs 1000 19 58 [num e k3] ⟨0, []⟩ = some (wd x4 y4, ⟨0, []⟩, []),
     evCall Tryz.prog 0 (bodied Tryz.prog) (flatOver (oF T)) sbs 1000 19 57 [wd x4 y4] ⟨0, []⟩ = some (.int .i64 z, ⟨0, []⟩, [])] (by kernel_rfl)
    ⟨Dg.evCall_told g1, Dg.evCall_told g2, Dg.evCall_told g3, Dg.evCall_told g4, Dg.evCall_told g5, Dg.evCall_told g6, Dg.evCall_told g7, Dg.evCall_told g8, Dg.evCall_told g9, Dg.evCall_told g10, Dg.evCall_told g11, trivial⟩
def offR (p q r s : Int) : Int := clip64 (clampW (clampW (q - p) + clampW (r - s)) / 2)
def delR (p q r s : Int) : Int := clip64 (clampW (clampW (s - p) - clampW (r - q)))
theorem clamp_id {v : Int} (h : InW v) : clampW v = v := by
  unfold InW at h
  unfold clampW
  rw [if_neg (by omega), if_neg (by omega)]
theorem offset_flats {p q r s : Int} (hp : InW p) (hq : InW q) (hr : InW r) (hs : InW s) : Flats Tryz.prog 52 [wv p, wv q, wv r, wv s] (.int .i64 (offR p q r s)) := by
  have w1 : InW (clampW (q - p)) := wv_in
  have w2 : InW (clampW (r - s)) := wv_in
  have n1 := small w1
  have n2 := small w2
  obtain ⟨d, k, h5, h6, h7⟩ := add_all (decide (clampW (q - p) < 0)) (decide (clampW (r - s) < 0)) (m := (clampW (q - p)).natAbs) (n := (clampW (r - s)).natAbs) (b19 (by omega))
  rw [sval_int, sval_int] at h6
  have hw := wide_all d (m := k) (b20 (by omega))
  rw [h6] at hw
  have w3 : InW (clampW (clampW (q - p) + clampW (r - s))) := wv_in
  have n3 := small w3
  generalize hv : clampW (clampW (q - p) + clampW (r - s)) = v at *
  have hfl := floor_flats (decide (v < 0)) v.natAbs (by omega)
  have hval := Go.Proofs.YtmnoegfehgoalaaGreatDoor.cx.floor_val (decide (v < 0)) v.natAbs
  rw [sval_int] at hval
  generalize hk3 : (if decide (v < 0) then (v.natAbs + 1) / 2 else v.natAbs / 2) = k3 at *
  have hk3' : k3 ≤ 170141183460469231731687303715884105728 := by
    rw [← hk3]
    split <;> omega
  have hw4 := wide_all (decide (v < 0)) (m := k3) (b20 (by omega))
  have w4 : InW (v / 2) := by unfold InW at w3 ⊢; omega
  rw [hval, clamp_id w4] at hw4
  have hT : ∀ t ∈ ([([num (decide (v < 0)) v.natAbs, num false 2], num (decide (v < 0)) k3)] : List (List Value × Value)), Flats Tryz.prog 82 t.1 t.2 := by
    intro t ht
    rw [List.mem_singleton] at ht
    rw [ht]
    exact hfl
  have hr := off_r [([num (decide (v < 0)) v.natAbs, num false 2], num (decide (v < 0)) k3)] _ _ _ _ _ _ _ _ _ _ _ _ _ _ _ _ _ _ _ _ _ _ _ _ _ k3 (oF_other (less2_told hq hp)) (oF_other (under7 (under6 (from_w w1)))) (oF_other (less2_told hr hs)) (oF_other (under7 (under6 (from_w w2))))
    (oF_other (under7 (under6 (under5 h5)))) (oF_other (under7 (under6 hw))) (oF_other (under7 (under6 (from_w w3)))) (oF_other (under7 (under6 (under5 (under2 (of_told 2 (by omega))))))) (by unfold oF; rw [if_pos rfl]; simp) (oF_other (under7 (under6 hw4))) (oF_other (under7 (clip_told w4)))
  have e : offR p q r s = clip64 (v / 2) := by unfold offR; rw [hv]
  rw [e]
  exact Dg.closed_call mixed okB (Dg.flatOver_ok (G := 0) (oF_flats hT)) (by rw [show wv p = wd (p / 18446744073709551616) (p % 18446744073709551616) from rfl, show wv q = wd (q / 18446744073709551616) (q % 18446744073709551616) from rfl, show wv r = wd (r / 18446744073709551616) (r % 18446744073709551616) from rfl, show wv s = wd (s / 18446744073709551616) (s % 18446744073709551616) from rfl, hr]; rfl) rfl rfl
theorem delay_flats {p q r s : Int} (hp : InW p) (hq : InW q) (hr : InW r) (hs : InW s) : Flats Tryz.prog 53 [wv p, wv q, wv r, wv s] (.int .i64 (delR p q r s)) := by
  have h := delay_r _ _ _ _ _ _ _ _ _ _ _ _ _ _ _ (less2_told hs hp) (less2_told hr hq) (less2_told (wv_in (v := s - p)) (wv_in (v := r - q))) (under7 (clip_told (wv_in (v := clampW (s - p) - clampW (r - q)))))
  exact Dg.closed_call mixed okB (Dg.flatOver_ok (G := 0) o7_flats) (by rw [show wv p = wd (p / 18446744073709551616) (p % 18446744073709551616) from rfl, show wv q = wd (q / 18446744073709551616) (q % 18446744073709551616) from rfl, show wv r = wd (r / 18446744073709551616) (r % 18446744073709551616) from rfl, show wv s = wd (s / 18446744073709551616) (s % 18446744073709551616) from rfl, h]; rfl) rfl rfl
end Go.Proofs.YtmnoegfehgoalaaGreatDoor.num
