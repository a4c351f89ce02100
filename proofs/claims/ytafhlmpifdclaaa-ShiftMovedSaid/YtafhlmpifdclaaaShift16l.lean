/- 'all' as a law: for the laws of layer 34. -/
import Derived.Test.YtafhlmpifdclaaaRows
import Derived.Test.YtafhlmpifdclaaaShift16c
namespace Go.Proofs.Ytafhlmpifdclaaa.shift
open Go.Dg (junk St Ex Ev Hint evCall evCallS evCode evCodeS evLoop cleanSt ue bodied noOver sbOf headOf tailOf bodyOf rAssign rBody lBody Flats flatOver Heap AObj SCall Law ofLaw Fix)
set_option linter.unusedVariables false
set_option linter.unusedSimpArgs false

def C16 : Law := fun args H r => ∃ w b vx vy, args = [.int .i64 w, .int .i64 b, vx, vy] ∧ b < 9223372036854775808 ∧
  ((∃ kx ky lx ly cx cy e1 e2 xs ys, vx = .slice (some ⟨kx, 0, (cx : Cp).2⟩) lx cx.1 ∧ vy = .slice (some ⟨ky, 0, (cy : Cp).2⟩) ly cy.1 ∧ kx ≠ ky ∧ H.get kx = oX xs e1 ∧ H.get ky = oX ys e2 ∧ min lx ly ≤ 200 ∧ lx ≤ cx.1 ∧ ly ≤ cy.1 ∧ xs.length = cx.1 ∧ ys.length = cy.1 ∧ (∀ x ∈ xs, In x) ∧
      r = (allV H (stepsOf w b xs ys (min lx ly)), allH H (stepsOf w b xs ys (min lx ly)), [])) ∨
   ((vx = .slice none 0 0 ∨ ∃ kx lx cx e1 xs, vx = .slice (some ⟨kx, 0, (cx : Cp).2⟩) lx cx.1 ∧ H.get kx = oX xs e1) ∧ (vy = .slice none 0 0 ∨ ∃ ky ly cy e2 ys, vy = .slice (some ⟨ky, 0, (cy : Cp).2⟩) ly cy.1 ∧ H.get ky = oX ys e2) ∧
      (vx = .slice none 0 0 ∨ vy = .slice none 0 0) ∧ r = (.slice none 0 0, H, [])))
theorem oX_inj {xs ys : List Int} {e f : Sh} (h : oX xs e = oX ys f) : xs = ys := by
  simp only [oX, AObj.cells.injEq] at h
  exact i64s_inj _ _ h.1
theorem u16 (args : List Value) (H : Heap) (r r' : Value × Heap × List Nat) (h : C16 args H r) (h' : C16 args H r') : r = r' := by
  obtain ⟨w, b, vx, vy, rfl, _, h1⟩ := h
  obtain ⟨w', b', vx', vy', ha, _, h1'⟩ := h'
  simp only [List.cons.injEq, Value.int.injEq, and_true, true_and] at ha
  obtain ⟨rfl, rfl, rfl, rfl⟩ := ha
  rcases h1 with ⟨kx, ky, lx, ly, cx, cy, e1, e2, xs, ys, rfl, rfl, _, hx, hy, _, _, _, _, _, _, rfl⟩ | ⟨_, _, hn, rfl⟩
  · rcases h1' with ⟨kx', ky', lx', ly', cx', cy', e1', e2', xs', ys', hvx, hvy, _, hx', hy', _, _, _, _, _, _, rfl⟩ | ⟨_, _, hn', _⟩
    · simp only [Value.slice.injEq, Option.some.injEq, Addr.mk.injEq, true_and] at hvx hvy
      obtain ⟨⟨rfl, _⟩, rfl, _⟩ := hvx
      obtain ⟨⟨rfl, _⟩, rfl, _⟩ := hvy
      rw [hx] at hx'
      rw [hy] at hy'
      obtain rfl := oX_inj hx'
      obtain rfl := oX_inj hy'
      rfl
    · rcases hn' with hn' | hn' <;> simp at hn'
  · rcases h1' with ⟨kx', ky', lx', ly', cx', cy', e1', e2', xs', ys', rfl, rfl, _, hx', hy', _, _, _, _, _, _, rfl⟩ | ⟨_, _, hn', rfl⟩
    · rcases hn with hn | hn <;> simp at hn
    · rfl
noncomputable def over4 : Ev := fun f args H => match f with
  | 8 => ofLaw C8 args H
  | 16 => ofLaw C16 args H
  | _ => none
theorem over4_ok : Dg.CallOk Try.prog 0 over4 ∧ Dg.CallLog over4 := Dg.over_ok (by
  intro f args H v H' log h
  unfold over4 at h
  split at h
  · obtain ⟨rfl, hr⟩ := Dg.ofLaw_inv h
    simp only [Prod.mk.injEq] at hr
    obtain ⟨rfl, rfl, rfl⟩ := hr
    exact SCall.of_flats works_is _
  · obtain ⟨w, b, vx, vy, rfl, hb, h1⟩ := Dg.ofLaw_inv h
    rcases h1 with ⟨kx, ky, lx, ly, cx, cy, e1, e2, xs, ys, rfl, rfl, hne, hx, hy, hn, hcx, hcy, hxl, hyl, hxi, hr⟩ | ⟨h2, h3, hn, hr⟩
    · simp only [Prod.mk.injEq] at hr
      obtain ⟨rfl, rfl, rfl⟩ := hr
      exact all_is hne hx hy hb hn hcx hcy hxl hyl hxi
    · simp only [Prod.mk.injEq] at hr
      obtain ⟨rfl, rfl, rfl⟩ := hr
      rcases hn with rfl | rfl
      · rcases h3 with rfl | ⟨ky, ly, cy, e2, ys, rfl, hy⟩
        · exact all_bothnil
        · exact all_leftnil hy
      · rcases h2 with rfl | ⟨kx, lx, cx, e1, xs, rfl, hx⟩
        · exact all_bothnil
        · exact all_rightnil hx
  · cases h)
theorem c8 (H : Heap) : over4 8 [] H = some (.bool true, H, []) := Dg.ofLaw_is u8 ⟨rfl, rfl⟩
theorem c16 {H : Heap} {kx ky lx ly : Nat} {cx cy : Cp} {e1 e2 : Sh} {xs ys : List Int} {w b : Int} (hne : kx ≠ ky) (hkx : H.get kx = oX xs e1) (hky : H.get ky = oX ys e2) (hb1 : b < 9223372036854775808) (hn : min lx ly ≤ 200)
    (hcx : lx ≤ cx.1) (hcy : ly ≤ cy.1) (hxl : xs.length = cx.1) (hyl : ys.length = cy.1) (hx : ∀ x ∈ xs, In x) {v : Value} {H' : Heap} (hv : v = allV H (stepsOf w b xs ys (min lx ly))) (hH : H' = allH H (stepsOf w b xs ys (min lx ly))) :
    over4 16 [.int .i64 w, .int .i64 b, .slice (some ⟨kx, 0, cx.2⟩) lx cx.1, .slice (some ⟨ky, 0, cy.2⟩) ly cy.1] H = some (v, H', []) :=
  Dg.ofLaw_is u16 ⟨w, b, _, _, rfl, hb1, .inl ⟨kx, ky, lx, ly, cx, cy, e1, e2, xs, ys, rfl, rfl, hne, hkx, hky, hn, hcx, hcy, hxl, hyl, hx, by rw [hv, hH]⟩⟩
theorem c16nn {H : Heap} {w b : Int} (hb1 : b < 9223372036854775808) : over4 16 [.int .i64 w, .int .i64 b, .slice none 0 0, .slice none 0 0] H = some (.slice none 0 0, H, []) :=
  Dg.ofLaw_is u16 ⟨w, b, _, _, rfl, hb1, .inr ⟨.inl rfl, .inl rfl, .inl rfl, rfl⟩⟩

/-! ### rows of integers that grow -/
theorem info2 : ∃ i, Try.prog.info? 2 = some i ∧ i.zero = some (.int .i64 0) ∧ i.size = 1 ∧ i.bytes = 8 := ⟨_, rfl, by kernel_rfl, by kernel_rfl, by kernel_rfl⟩
theorem i64s_len (zs : List Int) : (i64s zs).length = zs.length := by simp [i64s]
theorem i64s_one (zs : List Int) : (i64s zs).all (·.oneCell') = true := by
  rw [List.all_eq_true]
  intro v hv
  obtain ⟨p, _, rfl⟩ := List.mem_map.1 hv
  rfl
def rowI (zs : List Int) : AObj := .cells (i64s zs) 2 5 1
theorem app22 {H H' : Heap} {k k2 l l' m : Nat} {os : List Int} {x : Int} (hk : H.get k = rowI os) (hl : l = os.length) (h2 : Dg.srcCells H 1 (.slice (some ⟨k2, 0, none⟩) 1 1) = some (1, i64s [x])) (hb : l ≤ 900) (hl' : l' = l + 1) (hH : H' = (H.set k .dead).push (rowI (os ++ [x]))) (hn : H.n = m) :
    Dg.evAppend Try.prog H 22 22 (.slice (some ⟨k, 0, some 0⟩) l l) (.slice (some ⟨k2, 0, none⟩) 1 1) = some (.slice (some ⟨m, 0, some 0⟩) l' l', H', [k]) := by
  obtain ⟨i, hi, hz, hs, hby⟩ := info2
  have h := Dg.evAppend_flex (P := Try.prog) (H := H) (t := 22) (tx := 22) (e := 2) (i := i) (k := k) (l := l) (md := 5) (cs := i64s os) (x := .slice (some ⟨k2, 0, none⟩) 1 1) (n := 1) (news := i64s [x]) (by kernel_rfl) (by kernel_rfl) hi hz (by rw [hs]; rfl) (by rw [hs]; exact h2) (i64s_one _) (by rw [i64s_len, hs]; rfl) (by omega)
    (by rw [hs]; exact hk) rfl (by rw [i64s_len, hs, hl]; omega) (i64s_one _) (by omega) (by rw [hby]; omega)
  have hkm : Dg.keepMd 5 (Dg.srcFlag H (.slice (some ⟨k2, 0, none⟩) 1 1) || Dg.flatL (i64s [x])) = 5 := by simp [Dg.keepMd, i64s, Dg.flatL, Dg.flat]
  have ha : i64s (os ++ [x]) = i64s os ++ i64s [x] := by simp [i64s]
  rw [h, hkm, hs, hH, hl', hn, rowI, ha]
theorem rowI_oX (zs : List Int) : rowI zs = oX zs (2, 1, 1) := rfl
end Go.Proofs.Ytafhlmpifdclaaa.shift
