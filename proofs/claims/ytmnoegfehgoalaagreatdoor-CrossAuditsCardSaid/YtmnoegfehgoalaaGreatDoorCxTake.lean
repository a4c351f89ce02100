/- A line takes a sample: the closure of cross.Meet. -/
import Derived.Test.YtmnoegfehgoalaaGreatDoorCxE
namespace Go.Proofs.YtmnoegfehgoalaaGreatDoor.cx
open Go.RowKit Go.Extern.Stop Go.Stop Go.Extern Go.Cx
set_option linter.unusedVariables false
theorem take_val {P : Program} {md : Region.Mode} {ops : Array Oper} {Q : Exit → Act → World → Prop} {S : World → Prop} {i : Nat} {oi : Oper} (v : Value) {fuel : Nat} {listed : Array Bool} {a : Act} {w : World} (hi : ops[i]? = some oi)
    (hs : Region.noSelect ops = true) (hf : Region.free md ops listed i = true) (hr : (Region.ready md ops listed).contains i = true)
    (hQ : ∀ c a w, Q (.panic c) (a.put oi.dst v) w → Q (.panic c) a w) (hw : Region.wanted oi (yielded ops a.tmps) = true) (hv : ∀ w, S w → (execOp a.eval oi).run P w = .ok (.value v) w) (hS : S w)
    (h : wpAnyH P md ops Q S fuel (listed.setIfInBounds i true) (a.put oi.dst v) w) : wpAnyH P md ops Q S (fuel + 1) listed a w :=
  wpAnyH_take hi hs hf hr hQ (.inl ⟨hw, hv⟩) hS h
theorem take_off {P : Program} {md : Region.Mode} {ops : Array Oper} {Q : Exit → Act → World → Prop} {S : World → Prop} {i : Nat} {oi : Oper} {fuel : Nat} {listed : Array Bool} {a : Act} {w : World} (hi : ops[i]? = some oi)
    (hs : Region.noSelect ops = true) (hf : Region.free md ops listed i = true) (hr : (Region.ready md ops listed).contains i = true)
    (hQ : ∀ c a w, Q (.panic c) (a.put oi.dst undef) w → Q (.panic c) a w) (hw : Region.wanted oi (yielded ops a.tmps) = false) (hS : S w)
    (h : wpAnyH P md ops Q S fuel (listed.setIfInBounds i true) (a.put oi.dst undef) w) : wpAnyH P md ops Q S (fuel + 1) listed a w :=
  wpAnyH_take hi hs hf hr hQ (.inr ⟨hw, rfl⟩) hS h
theorem take_call {P : Program} {md : Region.Mode} {ops : Array Oper} {Q : Exit → Act → World → Prop} {S : World → Prop} (i : Nat) {d : Nat} {cc : Call} {ty : TypeId} {p : String} {ed : Array Edge} {g : Option (Nat × Bool)} {fuel : Nat} {listed : Array Bool} {a : Act} {w : World} {f : FuncId} {args : Array Value} {post : Ending → World → Prop}
    (hi : ops[i]? = some ⟨some d, .call cc, ty, p, ed, g⟩) (hr : Region.ready md ops listed = [i]) (hw : Region.wanted ⟨some d, .call cc, ty, p, ed, g⟩ (yielded ops a.tmps) = true) (hx : (execOp a.eval ⟨some d, .call cc, ty, p, ed, g⟩).run P w = .ok (.enter f args) w) (hc : Calls P f args w post)
    (hp : ∀ e w', post e w' → ∃ v, e = .returned v ∧ S w' ∧ wpAnyH P md ops Q S fuel (listed.setIfInBounds i true) (a.put (some d) v) w') : wpAnyH P md ops Q S (fuel + 1) listed a w := by
  refine wpAnyH_all hr (by simp) fun j hj => ?_
  obtain rfl : j = i := by simpa using hj
  refine wpOp_step hi (fun K' hK => ?_)
  rw [if_pos hw]
  unfold Oper.wp
  rw [hx, Oper.upon_enter]
  exact hc.mono (fun e w' he => by obtain ⟨v, rfl, h⟩ := hp e w' he; exact hK _ _ h)
theorem index_row {P : Program} {t e : TypeId} {size : Nat} (hu : P.underlying t = some (.slice e)) (hz : ∀ w, (sizeOf e).run P w = .ok size w) (b off len cap i : Nat) (hi : i < len) (w : World) : (Instr.indexAt t (.slice (some ⟨b, off, none⟩) len cap) (.int .i64 (i : Nat))).run P w = .ok (.pointer (some ⟨b, off + i * size, none⟩)) w := by
  have he : P.elem t = e := by unfold Program.elem; rw [hu]
  rw [run_indexAt_slice _ _ _ _ _ _ _ (by rw [he]; exact hu), if_pos (by omega), he, hz, Result.andThen_ok, Addr.add_mid]
  simp
theorem ex_index {P : Program} {ev : Operand → Value} {d : Option Tmp} {t ty : TypeId} {x y : Operand} {p : String} {e : Array Edge} {g : Option (Nat × Bool)} {A B V : Value} {w : World} (hx : ev x = A) (hy : ev y = B) (h : (Instr.indexAt t A B).run P w = .ok V w) : (execOp ev ⟨d, .indexAddr t x y, ty, p, e, g⟩).run P w = .ok (.value V) w := by
  unfold execOp
  simp only [hx, hy, Sem.run_bind, h, Result.andThen_ok, Sem.run_pure]
theorem ex_load {P : Program} {ev : Operand → Value} {d : Option Tmp} {t ty : TypeId} {x : Operand} {p : String} {e : Array Edge} {g : Option (Nat × Bool)} {A V : Value} {w : World} (hx : ev x = A) (h : (Instr.loadAt t A).run P w = .ok V w) : (execOp ev ⟨d, .load t x, ty, p, e, g⟩).run P w = .ok (.value V) w := by
  unfold execOp
  simp only [hx, Sem.run_bind, h, Result.andThen_ok, Sem.run_pure]
set_option maxRecDepth 1000000 in
theorem ld_bools (w : World) (b o : Nat) (v : Value) (h : w.cell? ⟨b, o, none⟩ = some v) : (Instr.loadAt 79 (.pointer (some ⟨b, o, none⟩))).run Tryz.prog w = .ok v w := by
  go_simp
set_option maxRecDepth 1000000 in
theorem ld_bool (w : World) (b o : Nat) (v : Value) (h : w.cell? ⟨b, o, none⟩ = some v) : (Instr.loadAt 4 (.pointer (some ⟨b, o, none⟩))).run Tryz.prog w = .ok v w := by
  go_simp
set_option maxRecDepth 1000000 in
theorem ld_samps (w : World) (b o : Nat) (v : Value) (h : w.cell? ⟨b, o, none⟩ = some v) : (Instr.loadAt 23 (.pointer (some ⟨b, o, none⟩))).run Tryz.prog w = .ok v w := by
  go_simp
/-- Which samples are taken, as cells. -/
def tkC (n : Nat) (tk : Nat → Bool) : Array Value := ((List.range n).map fun k => Value.bool (tk k)).toArray
theorem tkC_get {n k : Nat} (tk : Nat → Bool) (h : k < n) : (tkC n tk)[k]? = some (.bool (tk k)) := by
  unfold tkC
  simp [h]
theorem pick_first {n : Nat} {tk t : Nat → Bool} {k : Nat} (hk : k < n) (h : (!tk k && t k) = true) (hj : ∀ j, j < k → (!tk j && t j) = false) : pick n tk t = some k := by
  unfold pick
  rw [List.find?_range_eq_some]
  exact ⟨h, by simpa using hk, fun j hjk => by rw [hj j hjk]; rfl⟩
theorem pick_not {n : Nat} {tk t : Nat → Bool} (hj : ∀ j, j < n → (!tk j && t j) = false) : pick n tk t = none := by
  unfold pick
  rw [List.find?_eq_none]
  intro x hx
  rw [hj x (List.mem_range.1 hx)]
  simp
theorem tkC_set (n k : Nat) (tk : Nat → Bool) (h : k < n) : (tkC n tk).setIfInBounds k (.bool true) = tkC n fun j => tk j || j == k := by
  unfold tkC
  apply Array.ext_getElem?
  intro i
  by_cases hi : i < n
  · by_cases hk : k = i
    · subst hk
      rw [Array.getElem?_setIfInBounds_self_of_lt (by simpa using h)]
      simp [hi]
    · have hk' : (i == k) = false := by simpa using fun h => hk h.symm
      rw [Array.getElem?_setIfInBounds_ne hk]
      simp [hi, hk']
  · rw [Array.getElem?_eq_none (by simp; omega), Array.getElem?_eq_none (by simp; omega)]
theorem stepJ {p : Nat → Bool} {k : Nat} (hj : ∀ j, j < k → p j = false) (h : p k = false) : ∀ j, j < k + 1 → p j = false := fun j hjk => by
  by_cases e : j = k
  · rw [e]; exact h
  · exact hj j (by omega)
def tellR (l : List Value) (rows : List (List Value)) (k : Nat) : Bool := tellsV l (rows.getD k [])
def takeI : Option Nat → Int
  | some k => (k : Nat)
  | none => -1
def takeT (p : Option Nat) (tk : Nat → Bool) : Nat → Bool := match p with
  | some k => fun j => tk j || j == k
  | none => tk
set_option maxHeartbeats 4000000 in
set_option maxRecDepth 1000000 in
theorem take_w (W : World) (bs bt tb : Nat) (l : List Value) (rows : List (List Value)) (sv : Value) (tk : Nat → Bool) (hl : RowOk lineK l) (hr : ∀ r ∈ rows, RowOk sampK r) (hsv : Sl W 48 sv rows) (cs : W.cell? ⟨bs, 0, none⟩ = some sv)
    (ct : W.cell? ⟨bt, 0, none⟩ = some (.slice (some ⟨tb, 0, none⟩) rows.length rows.length)) (ht : W.heap[tb]? = some (.cells (tkC rows.length tk) 4)) (hm : rows.length ≤ maxLen) :
    Calls Tryz.prog 24 #[.agg l.toArray, .pointer (some ⟨bs, 0, none⟩), .pointer (some ⟨bt, 0, none⟩)] W fun e w' => e = .returned (.int .i64 (takeI (pick rows.length tk (tellR l rows)))) ∧ w'.heap[tb]? = some (.cells (tkC rows.length (takeT (pick rows.length tk (tellR l rows)) tk)) 4) ∧ W.grownBy w' (some tb) := by
  obtain ⟨sa, sc, rfl, hcap, _, hnone⟩ := hsv.form
  have hb := (Below.refl W.heap.size W).alloc (Nat.le_refl _) (.cells l.toArray 52)
  have q0 := heap_alloc_new W (.cells l.toArray 52)
  have cs' := cell_up hb cs
  have ct' := cell_up hb ct
  have hmx : rows.length ≤ 9223372036854775807 := hm
  have HL := Lib.hid (And.intro hl (And.intro hr (And.intro hsv (And.intro hnone (And.intro ht hm)))))
  clear hl hr hsv hnone ht hm cs ct
  generalize hn : rows.length = n at *
  go_enter Tryz.func24, Tryz.ntmps24
  go_wp2_with fail
  generalize W.alloc (.cells l.toArray 52) = X at *
  go_loopg [8] n (fun g i wl => Below X.heap.size X wl ∧ ∃ k : Nat, i = .int .i64 (k : Nat) ∧ k ≤ n ∧ g = n - k ∧ ∀ j, j < k → (!tk j && tellR l rows j) = false)
  case atStart => exact ⟨Below.refl _ _, 0, rfl, Nat.zero_le _, by omega, fun j hj => absurd hj (by omega)⟩
  case round =>
    obtain ⟨hbl, k, rfl, hk, hg, hj⟩ := hrel
    by_cases hkn : k = n
    · subst hkn
      have d1 : decide ((k : Int) < (k : Int)) = false := by simp
      go_wp2_with fail
      go_ret
      rw [pick_not (n := k) hj]
      exact ⟨rfl, keepB (hb.trans (hbl.mono hb.size)) HL.out.2.2.2.2.1, grown_of (hb.trans (hbl.mono hb.size)) _⟩
    · have hkl : k < n := by omega
      have d1 : decide ((k : Int) < (n : Int)) = true := by simp; omega
      go_wp2_with fail
      obtain ⟨b, off, cap, hv, _, _, hget⟩ := HL.out.2.2.1.get (by omega)
      injection hv with hsa hnn hcp
      clear hnn hcp
      subst hsa
      have hkr : k < rows.length := by omega
      obtain ⟨r, hr⟩ : ∃ r, rows[k]? = some r := ⟨rows[k], List.getElem?_eq_getElem hkr⟩
      have hrg := hget k r hr
      have hro := HL.out.2.1 r (List.mem_of_getElem? hr)
      have hrd : tellR l rows k = tellsV l r := by unfold tellR; rw [List.getD_eq_getElem?_getD, hr]; rfl
      have hb2 := hb.trans (hbl.mono hb.size)
      have hrg := range_up hrg hb2 (range_lt hrg (by rw [hro.length]; decide))
      have htk := cell_up hb2 (cell_of (i := 0 + k * 1) HL.out.2.2.2.2.1 (by rw [Nat.zero_add, Nat.mul_one]; exact tkC_get tk hkl))
      have hlr : wr.rangeAt W.heap.size 0 l := fun j v hv => by
        rw [Nat.zero_add]
        exact cell_of (keepB hbl q0) (by simpa using hv)
      have hcs := cell_up hbl cs'
      have hct := cell_up hbl ct'
      have u1 := Tryz.underlying52
      have u2 := Tryz.underlying47
      have u3 : (Tryz.prog.info? 52).map (·.size) = some l.length := by rw [HL.out.1.length]; kernel_rfl
      have u4' : (Tryz.prog.info? 47).map (·.size) = some r.length := by rw [hro.length]; kernel_rfl
      have U := Lib.hid (And.intro u1 (And.intro u3 (And.intro u2 u4')))
      clear u1 u2 u3 u4' hget
      have IX := Lib.hid (And.intro (index_row (P := Tryz.prog) (t := 79) (e := 4) (size := 1) Tryz.underlying79 (fun w => by kernel_rfl) tb 0 n n k hkl) (index_row (P := Tryz.prog) (t := 23) (e := 47) (size := 48) Tryz.underlying23 (fun w => by kernel_rfl) b off n sc k hkl))
      cases hz : tk k with
      | true =>
        rw [hz] at htk
        have HK := Lib.hid (show ∀ w', Below wr.heap.size wr w' → (w'.cell? ⟨bt, 0, none⟩ = some (.slice (some ⟨tb, 0, none⟩) n n) ∧ w'.cell? ⟨tb, 0 + k * 1, none⟩ = some (.bool true) ∧ w'.cell? ⟨bs, 0, none⟩ = some (.slice (some ⟨b, off, none⟩) n sc) ∧ w'.rangeAt W.heap.size 0 l ∧ w'.rangeAt b (off + k * 48) r ∧ Below wr.heap.size wr w') from fun w' hb' => ⟨cell_up hb' hct, cell_up hb' htk, cell_up hb' hcs, range_up hlr hb' (lt_of_heap (keepB hbl q0)), range_up hrg hb' (range_lt hrg (by rw [hro.length]; decide)), hb'⟩)
        clear htk hrg hlr hcs hct
        refine wp_region_held_drew (S := fun w' => w'.cell? ⟨bt, 0, none⟩ = some (.slice (some ⟨tb, 0, none⟩) n n) ∧ w'.cell? ⟨tb, 0 + k * 1, none⟩ = some (.bool true) ∧ w'.cell? ⟨bs, 0, none⟩ = some (.slice (some ⟨b, off, none⟩) n sc) ∧ w'.rangeAt W.heap.size 0 l ∧ w'.rangeAt b (off + k * 48) r ∧ Below wr.heap.size wr w') (by kernel_rfl) (HK.out _ ((Below.refl _ _).drew)) (fun hSd => ?_)
        refine take_val (i := 0) (oi := ⟨some 11, .load 79 (.tmp 2), _, _, _, none⟩) (.slice (some ⟨tb, 0, none⟩) n n) rfl (by kernel_rfl) (by kernel_rfl) (by kernel_rfl) (fun _ _ _ h => h) rfl (fun w hSw => ex_load rfl (ld_bools _ _ _ _ hSw.1)) hSd ?_
        simp only [Act.put, List.setIfInBounds_toArray, List.set_cons_zero, List.set_cons_succ]
        refine take_val (i := 1) (oi := ⟨some 12, .move (.tmp 5), _, _, _, none⟩) (.int .i64 (k : Nat)) rfl (by kernel_rfl) (by kernel_rfl) (by kernel_rfl) (fun _ _ _ h => h) rfl (fun w hSw => rfl) hSd ?_
        simp only [Act.put, List.setIfInBounds_toArray, List.set_cons_zero, List.set_cons_succ]
        refine take_val (i := 2) (oi := ⟨some 13, .indexAddr 79 (.tmp 11) (.tmp 12), _, _, _, none⟩) (.pointer (some ⟨tb, 0 + k * 1, none⟩)) rfl (by kernel_rfl) (by kernel_rfl) (by kernel_rfl) (fun _ _ _ h => h) rfl (fun w hSw => ex_index rfl rfl (IX.out.1 w)) hSd ?_
        simp only [Act.put, List.setIfInBounds_toArray, List.set_cons_zero, List.set_cons_succ]
        refine take_val (i := 3) (oi := ⟨some 14, .load 4 (.tmp 13), _, _, _, none⟩) (.bool true) rfl (by kernel_rfl) (by kernel_rfl) (by kernel_rfl) (fun _ _ _ h => h) rfl (fun w hSw => ex_load rfl (ld_bool _ _ _ _ hSw.2.1)) hSd ?_
        simp only [Act.put, List.setIfInBounds_toArray, List.set_cons_zero, List.set_cons_succ]
        refine take_val (i := 4) (oi := ⟨some 15, .unOp .not 4 (.tmp 14), _, _, _, none⟩) (.bool false) rfl (by kernel_rfl) (by kernel_rfl) (by kernel_rfl) (fun _ _ _ h => h) rfl (fun w hSw => rfl) hSd ?_
        simp only [Act.put, List.setIfInBounds_toArray, List.set_cons_zero, List.set_cons_succ]
        refine take_val (i := 5) (oi := ⟨some 16, .move (.tmp 15), _, _, _, none⟩) (.bool false) rfl (by kernel_rfl) (by kernel_rfl) (by kernel_rfl) (fun _ _ _ h => h) rfl (fun w hSw => rfl) hSd ?_
        simp only [Act.put, List.setIfInBounds_toArray, List.set_cons_zero, List.set_cons_succ]
        refine take_off (i := 6) (oi := ⟨some 17, .load 52 (.tmp 3), _, _, _, some (5, true)⟩) rfl (by kernel_rfl) (by kernel_rfl) (by kernel_rfl) (fun _ _ _ h => h) rfl hSd ?_
        simp only [Act.put, List.setIfInBounds_toArray, List.set_cons_zero, List.set_cons_succ]
        refine take_off (i := 7) (oi := ⟨some 18, .load 23 (.tmp 1), _, _, _, some (5, true)⟩) rfl (by kernel_rfl) (by kernel_rfl) (by kernel_rfl) (fun _ _ _ h => h) rfl hSd ?_
        simp only [Act.put, List.setIfInBounds_toArray, List.set_cons_zero, List.set_cons_succ]
        refine take_off (i := 8) (oi := ⟨some 19, .move (.tmp 5), _, _, _, some (5, true)⟩) rfl (by kernel_rfl) (by kernel_rfl) (by kernel_rfl) (fun _ _ _ h => h) rfl hSd ?_
        simp only [Act.put, List.setIfInBounds_toArray, List.set_cons_zero, List.set_cons_succ]
        refine take_off (i := 9) (oi := ⟨some 20, .indexAddr 23 (.tmp 18) (.tmp 19), _, _, _, some (5, true)⟩) rfl (by kernel_rfl) (by kernel_rfl) (by kernel_rfl) (fun _ _ _ h => h) rfl hSd ?_
        simp only [Act.put, List.setIfInBounds_toArray, List.set_cons_zero, List.set_cons_succ]
        refine take_off (i := 10) (oi := ⟨some 21, .load 47 (.tmp 20), _, _, _, some (5, true)⟩) rfl (by kernel_rfl) (by kernel_rfl) (by kernel_rfl) (fun _ _ _ h => h) rfl hSd ?_
        simp only [Act.put, List.setIfInBounds_toArray, List.set_cons_zero, List.set_cons_succ]
        refine take_off (i := 11) (oi := ⟨some 22, _, _, _, _, some (5, true)⟩) rfl (by kernel_rfl) (by kernel_rfl) (by kernel_rfl) (fun _ _ _ h => h) rfl hSd ?_
        simp only [Act.put, List.setIfInBounds_toArray, List.set_cons_zero, List.set_cons_succ]
        refine take_val (i := 12) (oi := ⟨some 23, .pick (.tmp 16) (.tmp 22) (.const (.bool false)), _, _, _, none⟩) (.bool false) rfl (by kernel_rfl) (by kernel_rfl) (by kernel_rfl) (fun _ _ _ h => h) rfl (fun w hSw => rfl) hSd ?_
        simp only [Act.put, List.setIfInBounds_toArray, List.set_cons_zero, List.set_cons_succ]
        refine wpAnyH_done (by kernel_rfl) ?_ _
        go_wp2_with fail
        go_roundg (n - (k + 1))
        case measure => omega
        case rel => exact ⟨hbl.trans ((Below.refl _ _).drew), k + 1, by go_num, by omega, rfl, stepJ hj (by rw [hz]; rfl)⟩
      | false =>
        rw [hz] at htk
        have HK := Lib.hid (show ∀ w', Below wr.heap.size wr w' → (w'.cell? ⟨bt, 0, none⟩ = some (.slice (some ⟨tb, 0, none⟩) n n) ∧ w'.cell? ⟨tb, 0 + k * 1, none⟩ = some (.bool false) ∧ w'.cell? ⟨bs, 0, none⟩ = some (.slice (some ⟨b, off, none⟩) n sc) ∧ w'.rangeAt W.heap.size 0 l ∧ w'.rangeAt b (off + k * 48) r ∧ Below wr.heap.size wr w') from fun w' hb' => ⟨cell_up hb' hct, cell_up hb' htk, cell_up hb' hcs, range_up hlr hb' (lt_of_heap (keepB hbl q0)), range_up hrg hb' (range_lt hrg (by rw [hro.length]; decide)), hb'⟩)
        clear htk hrg hlr hcs hct
        refine wp_region_held_drew (S := fun w' => w'.cell? ⟨bt, 0, none⟩ = some (.slice (some ⟨tb, 0, none⟩) n n) ∧ w'.cell? ⟨tb, 0 + k * 1, none⟩ = some (.bool false) ∧ w'.cell? ⟨bs, 0, none⟩ = some (.slice (some ⟨b, off, none⟩) n sc) ∧ w'.rangeAt W.heap.size 0 l ∧ w'.rangeAt b (off + k * 48) r ∧ Below wr.heap.size wr w') (by kernel_rfl) (HK.out _ ((Below.refl _ _).drew)) (fun hSd => ?_)
        refine take_val (i := 0) (oi := ⟨some 11, .load 79 (.tmp 2), _, _, _, none⟩) (.slice (some ⟨tb, 0, none⟩) n n) rfl (by kernel_rfl) (by kernel_rfl) (by kernel_rfl) (fun _ _ _ h => h) rfl (fun w hSw => ex_load rfl (ld_bools _ _ _ _ hSw.1)) hSd ?_
        simp only [Act.put, List.setIfInBounds_toArray, List.set_cons_zero, List.set_cons_succ]
        refine take_val (i := 1) (oi := ⟨some 12, .move (.tmp 5), _, _, _, none⟩) (.int .i64 (k : Nat)) rfl (by kernel_rfl) (by kernel_rfl) (by kernel_rfl) (fun _ _ _ h => h) rfl (fun w hSw => rfl) hSd ?_
        simp only [Act.put, List.setIfInBounds_toArray, List.set_cons_zero, List.set_cons_succ]
        refine take_val (i := 2) (oi := ⟨some 13, .indexAddr 79 (.tmp 11) (.tmp 12), _, _, _, none⟩) (.pointer (some ⟨tb, 0 + k * 1, none⟩)) rfl (by kernel_rfl) (by kernel_rfl) (by kernel_rfl) (fun _ _ _ h => h) rfl (fun w hSw => ex_index rfl rfl (IX.out.1 w)) hSd ?_
        simp only [Act.put, List.setIfInBounds_toArray, List.set_cons_zero, List.set_cons_succ]
        refine take_val (i := 3) (oi := ⟨some 14, .load 4 (.tmp 13), _, _, _, none⟩) (.bool false) rfl (by kernel_rfl) (by kernel_rfl) (by kernel_rfl) (fun _ _ _ h => h) rfl (fun w hSw => ex_load rfl (ld_bool _ _ _ _ hSw.2.1)) hSd ?_
        simp only [Act.put, List.setIfInBounds_toArray, List.set_cons_zero, List.set_cons_succ]
        refine take_val (i := 4) (oi := ⟨some 15, .unOp .not 4 (.tmp 14), _, _, _, none⟩) (.bool true) rfl (by kernel_rfl) (by kernel_rfl) (by kernel_rfl) (fun _ _ _ h => h) rfl (fun w hSw => rfl) hSd ?_
        simp only [Act.put, List.setIfInBounds_toArray, List.set_cons_zero, List.set_cons_succ]
        refine take_val (i := 5) (oi := ⟨some 16, .move (.tmp 15), _, _, _, none⟩) (.bool true) rfl (by kernel_rfl) (by kernel_rfl) (by kernel_rfl) (fun _ _ _ h => h) rfl (fun w hSw => rfl) hSd ?_
        simp only [Act.put, List.setIfInBounds_toArray, List.set_cons_zero, List.set_cons_succ]
        refine wpAnyH_take (i := 6) (oi := ⟨some 17, .load 52 (.tmp 3), _, _, _, some (5, true)⟩) (v := .agg l.toArray) rfl (by kernel_rfl) (by kernel_rfl) (by kernel_rfl) (fun _ _ _ h => h) (yieldsIf_load_mid rfl _ _ rfl _ _ rfl l _ (fun w h => h.2.2.2.1) U.out.1 rfl U.out.2.1) hSd ?_
        simp only [Act.put, List.setIfInBounds_toArray, List.set_cons_zero, List.set_cons_succ]
        refine take_val (i := 7) (oi := ⟨some 18, .load 23 (.tmp 1), _, _, _, some (5, true)⟩) (.slice (some ⟨b, off, none⟩) n sc) rfl (by kernel_rfl) (by kernel_rfl) (by kernel_rfl) (fun _ _ _ h => h) rfl (fun w hSw => ex_load rfl (ld_samps _ _ _ _ hSw.2.2.1)) hSd ?_
        simp only [Act.put, List.setIfInBounds_toArray, List.set_cons_zero, List.set_cons_succ]
        refine take_val (i := 8) (oi := ⟨some 19, .move (.tmp 5), _, _, _, some (5, true)⟩) (.int .i64 (k : Nat)) rfl (by kernel_rfl) (by kernel_rfl) (by kernel_rfl) (fun _ _ _ h => h) rfl (fun w hSw => rfl) hSd ?_
        simp only [Act.put, List.setIfInBounds_toArray, List.set_cons_zero, List.set_cons_succ]
        refine take_val (i := 9) (oi := ⟨some 20, .indexAddr 23 (.tmp 18) (.tmp 19), _, _, _, some (5, true)⟩) (.pointer (some ⟨b, off + k * 48, none⟩)) rfl (by kernel_rfl) (by kernel_rfl) (by kernel_rfl) (fun _ _ _ h => h) rfl (fun w hSw => ex_index rfl rfl (IX.out.2 w)) hSd ?_
        simp only [Act.put, List.setIfInBounds_toArray, List.set_cons_zero, List.set_cons_succ]
        refine wpAnyH_take (i := 10) (oi := ⟨some 21, .load 47 (.tmp 20), _, _, _, some (5, true)⟩) (v := .agg r.toArray) rfl (by kernel_rfl) (by kernel_rfl) (by kernel_rfl) (fun _ _ _ h => h) (yieldsIf_load_mid rfl _ _ rfl _ _ rfl r _ (fun w h => h.2.2.2.2.1) U.out.2.2.1 rfl U.out.2.2.2) hSd ?_
        simp only [Act.put, List.setIfInBounds_toArray, List.set_cons_zero, List.set_cons_succ]
        refine take_call 11 (f := 25) (args := #[.agg l.toArray, .agg r.toArray]) rfl (by kernel_rfl) rfl (by kernel_rfl) (tells_w _ l r HL.out.1 hro) ?_
        rintro e w1 ⟨rfl, hb1⟩
        have hB1 := (‹_ ∧ _ ∧ _ ∧ _ ∧ _ ∧ Below wr.heap.size wr _›.2.2.2.2.2).trans (hb1.mono (‹_ ∧ _ ∧ _ ∧ _ ∧ _ ∧ Below wr.heap.size wr _›.2.2.2.2.2).size)
        clear hSd
        refine ⟨_, rfl, HK.out _ hB1, ?_⟩
        have hSd := HK.out _ hB1
        simp only [Act.put, List.setIfInBounds_toArray, List.set_cons_zero, List.set_cons_succ]
        refine take_val (i := 12) (oi := ⟨some 23, .pick (.tmp 16) (.tmp 22) (.const (.bool false)), _, _, _, none⟩) (.bool (tellsV l r)) rfl (by kernel_rfl) (by kernel_rfl) (by kernel_rfl) (fun _ _ _ h => h) rfl (fun w hSw => rfl) hSd ?_
        simp only [Act.put, List.setIfInBounds_toArray, List.set_cons_zero, List.set_cons_succ]
        refine wpAnyH_done (by kernel_rfl) ?_ _
        have h1 := hSd.1
        have h2 := hSd.2.1
        clear hSd
        have hQ := keepB hB1 (keepB hb2 HL.out.2.2.2.2.1)
        cases ht : tellsV l r with
        | false =>
          go_wp2_with fail
          go_roundg (n - (k + 1))
          case measure => omega
          case rel => exact ⟨hbl.trans (hB1.mono hbl.size), k + 1, by go_num, by omega, rfl, stepJ hj (by rw [hz, hrd, ht]; rfl)⟩
        | true =>
          have hp := pick_first (t := tellR l rows) hkl (by rw [hz, hrd, ht]; rfl) hj
          have HP := Lib.hid hp
          clear hp hj
          have d3 : (0 : Int) ≤ (k : Int) := by omega
          have d4 : (k : Int) < (n : Int) := by omega
          have c5 := cell_of (i := k) hQ (tkC_get tk hkl)
          have f5 := frozen_of_row _ _ k _ _ hQ
          have HQ := Lib.hid hQ
          clear hr hrd hro hkr hQ hkn hg hk hn hcap ct' q0 d1
          go_wp2_with fail
          go_ret
          rw [HP.out]
          refine ⟨rfl, ?_, grown_set (grown_of (hb2.trans (hB1.mono hb2.size)) _)⟩
          show _ = some (Obj.cells (tkC _ fun j => tk j || j == k) _)
          rw [← tkC_set _ _ _ hkl]
          exact heap_setCell_same _ _ k _ _ _ HQ.out
end Go.Proofs.YtmnoegfehgoalaaGreatDoor.cx
