/- What 'all' comes to over whatever heap: for the laws of layer 34. -/
import Derived.Test.YtafhlmpifdclaaaRows
import Derived.Test.YtafhlmpifdclaaaShift16r
namespace Go.Proofs.Ytafhlmpifdclaaa.shift
open Go.Dg (junk St Ex Ev Hint evCall evCallS evCode evCodeS evLoop cleanSt ue bodied noOver sbOf headOf tailOf bodyOf rAssign rBody lBody Flats flatOver Heap AObj SCall Law ofLaw Fix)
set_option linter.unusedVariables false
set_option linter.unusedSimpArgs false

/-- All steps of n samples. -/
def stepsOf (w b : Int) (xs ys : List Int) (n : Nat) : List (Int × Int × Int) := if w < 1 ∨ 64 < w ∨ b < 0 then [] else outs w.toNat b xs ys n
/-- What 'all' hands back, and leaves behind. -/
def allV (H : Heap) (os : List (Int × Int × Int)) : Value := if os = [] then .slice none 0 0 else .slice (some ⟨H.n, 0, some 0⟩) os.length os.length
def allH (H : Heap) (os : List (Int × Int × Int)) : Heap := if os = [] then H else H.push (stps os)
noncomputable abbrev ev16 : List Value → Heap → Option (Value × Heap × List Nat) := evCall Try.prog 0 (bodied Try.prog) over3 sbs 1000 20 16
theorem bad_steps {w b : Int} (h : w < 1 ∨ 64 < w ∨ b < 0) (xs ys : List Int) (n : Nat) : stepsOf w b xs ys n = [] := if_pos h
theorem all_nil (H : Heap) : allV H [] = .slice none 0 0 ∧ allH H [] = H := ⟨rfl, rfl⟩

section
variable (lx ly : Nat) (cx cy : Cp) (e1 e2 : Sh) (xs ys : List Int) (w b : Int)
theorem all_XY (hb1 : b < 9223372036854775808) (hn : min lx ly ≤ 200) (hcx : lx ≤ cx.1) (hcy : ly ≤ cy.1) (hxl : xs.length = cx.1) (hyl : ys.length = cy.1) (hx : ∀ x ∈ xs, In x) :
    ev16 [.int .i64 w, .int .i64 b, aX lx cx, aY ly cy] ⟨2, [oY ys e2, oX xs e1]⟩ = some (allV ⟨2, [oY ys e2, oX xs e1]⟩ (stepsOf w b xs ys (min lx ly)), allH ⟨2, [oY ys e2, oX xs e1]⟩ (stepsOf w b xs ys (min lx ly)), []) := by
  by_cases h1 : w < 1
  · rw [bad_steps (.inl h1)]; exact a16XY_low lx cx ly cy e1 e2 xs ys w b h1
  by_cases h2 : 64 < w
  · rw [bad_steps (.inr (.inl h2))]; exact a16XY_high lx cx ly cy e1 e2 xs ys w b h2
  by_cases h3 : b < 0
  · rw [bad_steps (.inr (.inr h3))]; exact a16XY_neg lx cx ly cy e1 e2 xs ys w b (by omega) (by omega) h3
  have hs : stepsOf w b xs ys (min lx ly) = outs w.toNat b xs ys (min lx ly) := if_neg (by omega)
  rw [hs]
  obtain ⟨k, rfl⟩ : ∃ k : Nat, w = (k : Int) := ⟨w.toNat, by omega⟩
  rw [Int.toNat_natCast]
  rcases Nat.eq_zero_or_pos (min lx ly) with h0 | h0
  · rw [h0]; exact a16XY_za lx cx ly cy e1 e2 xs ys k b (by omega) (by omega) (by omega) hcx hcy hxl hyl hx h0
  · obtain ⟨i, hi⟩ : ∃ i, min lx ly = i + 1 := ⟨min lx ly - 1, by omega⟩
    rw [hi]
    by_cases ho : outs k b xs ys (i + 1) = []
    · rw [ho]; exact a16XY_zb lx cx ly cy e1 e2 xs ys k b (by omega) (by omega) (by omega) hcx hcy hxl hyl hx i hi (by omega) ho
    · unfold allV allH
      rw [if_neg ho, if_neg ho]
      exact a16XY_zc lx cx ly cy e1 e2 xs ys k b (by omega) (by omega) (by omega) hcx hcy hxl hyl hx i hi (by omega) ho
theorem all_NY : ev16 [.int .i64 w, .int .i64 b, .slice none 0 0, aX ly cy] ⟨1, [oX ys e2]⟩ = some (.slice none 0 0, ⟨1, [oX ys e2]⟩, []) := by
  by_cases h1 : w < 1
  · exact a16NY_low ly cy e2 ys w b h1
  by_cases h2 : 64 < w
  · exact a16NY_high ly cy e2 ys w b h2
  by_cases h3 : b < 0
  · exact a16NY_neg ly cy e2 ys w b (by omega) (by omega) h3
  obtain ⟨k, rfl⟩ : ∃ k : Nat, w = (k : Int) := ⟨w.toNat, by omega⟩
  exact a16NY_ok ly cy e2 ys k b (by omega) (by omega) (by omega)
theorem all_XN : ev16 [.int .i64 w, .int .i64 b, aX lx cx, .slice none 0 0] ⟨1, [oX xs e1]⟩ = some (.slice none 0 0, ⟨1, [oX xs e1]⟩, []) := by
  by_cases h1 : w < 1
  · exact a16XN_low lx cx e1 xs w b h1
  by_cases h2 : 64 < w
  · exact a16XN_high lx cx e1 xs w b h2
  by_cases h3 : b < 0
  · exact a16XN_neg lx cx e1 xs w b (by omega) (by omega) h3
  obtain ⟨k, rfl⟩ : ∃ k : Nat, w = (k : Int) := ⟨w.toNat, by omega⟩
  exact a16XN_ok lx cx e1 xs k b (by omega) (by omega) (by omega)
theorem all_NN : ev16 [.int .i64 w, .int .i64 b, .slice none 0 0, .slice none 0 0] ⟨0, []⟩ = some (.slice none 0 0, ⟨0, []⟩, []) := by
  by_cases h1 : w < 1
  · exact a16NN_low w b h1
  by_cases h2 : 64 < w
  · exact a16NN_high w b h2
  by_cases h3 : b < 0
  · exact a16NN_neg w b (by omega) (by omega) h3
  obtain ⟨k, rfl⟩ : ∃ k : Nat, w = (k : Int) := ⟨w.toNat, by omega⟩
  exact a16NN_ok k b (by omega) (by omega) (by omega)
end
theorem fixO (xs : List Int) (e : Sh) : Fix (oX xs e) := Dg.Fix.mk'
theorem fixS (os : List (Int × Int × Int)) : Fix (stps os) := Dg.Fix.mk' (md := 1)

/-! ### over whatever heap -/
theorem all_is {H : Heap} {kx ky lx ly : Nat} {cx cy : Cp} {e1 e2 : Sh} {xs ys : List Int} {w b : Int} (hne : kx ≠ ky) (hkx : H.get kx = oX xs e1) (hky : H.get ky = oX ys e2) (hb1 : b < 9223372036854775808) (hn : min lx ly ≤ 200)
    (hcx : lx ≤ cx.1) (hcy : ly ≤ cy.1) (hxl : xs.length = cx.1) (hyl : ys.length = cy.1) (hx : ∀ x ∈ xs, In x) :
    SCall Try.prog 16 [.int .i64 w, .int .i64 b, .slice (some ⟨kx, 0, cx.2⟩) lx cx.1, .slice (some ⟨ky, 0, cy.2⟩) ly cy.1] H (allV H (stepsOf w b xs ys (min lx ly))) (allH H (stepsOf w b xs ys (min lx ly))) [] := by
  have hsm := SCall.of_ev mixed (Dg.bodied_ok _) over3_ok (all_XY lx ly cx cy e1 e2 xs ys w b hb1 hn hcx hcy hxl hyl hx)
  have hxy : (kx == ky) = false := by simpa using hne
  have hobj : ∀ i k, [kx, ky][i]? = some k → H.get k = (⟨2, [oY ys e2, oX xs e1]⟩ : Heap).get i ∧ Fix ((⟨2, [oY ys e2, oX xs e1]⟩ : Heap).get i) := by
    intro i k hik
    match i, hik with
    | 0, hik => cases hik; exact ⟨hkx, fixO _ _⟩
    | 1, hik => cases hik; exact ⟨hky, fixO _ _⟩
  have hargs : Dg.renL (Dg.renK 0 [kx, ky]) [.int .i64 w, .int .i64 b, .slice (some ⟨kx, 0, cx.2⟩) lx cx.1, .slice (some ⟨ky, 0, cy.2⟩) ly cy.1] = [.int .i64 w, .int .i64 b, aX lx cx, aY ly cy] := by
    simp [Dg.renL, Dg.renV, Dg.renK, aX, aY, List.idxOf_cons, hxy]
  unfold allV allH at hsm ⊢
  by_cases ho : stepsOf w b xs ys (min lx ly) = []
  · rw [if_pos ho, if_pos ho] at hsm ⊢
    exact hsm.keeps [kx, ky] (by simp [hne]) rfl rfl hobj hargs (by simp [Dg.idsOfL, Dg.idsOf]) (fun _ => rfl)
  · rw [if_neg ho, if_neg ho] at hsm ⊢
    exact hsm.pushes (fixS _) rfl [kx, ky] (by simp [hne]) rfl rfl hobj hargs (by simp [Dg.idsOfL, Dg.idsOf]) (by simp [Dg.renV, Dg.back])
theorem all_leftnil {H : Heap} {ky ly : Nat} {cy : Cp} {e2 : Sh} {ys : List Int} {w b : Int} (hky : H.get ky = oX ys e2) :
    SCall Try.prog 16 [.int .i64 w, .int .i64 b, .slice none 0 0, .slice (some ⟨ky, 0, cy.2⟩) ly cy.1] H (.slice none 0 0) H [] := by
  have hsm := SCall.of_ev mixed (Dg.bodied_ok _) over3_ok (all_NY ly cy e2 ys w b)
  refine hsm.keeps [ky] (by simp) rfl rfl ?_ (by simp [Dg.renL, Dg.renV, Dg.renK, aX]) (by simp [Dg.idsOfL, Dg.idsOf]) (fun _ => rfl)
  intro i k hik
  match i, hik with
  | 0, hik => cases hik; exact ⟨hky, fixO _ _⟩
theorem all_rightnil {H : Heap} {kx lx : Nat} {cx : Cp} {e1 : Sh} {xs : List Int} {w b : Int} (hkx : H.get kx = oX xs e1) :
    SCall Try.prog 16 [.int .i64 w, .int .i64 b, .slice (some ⟨kx, 0, cx.2⟩) lx cx.1, .slice none 0 0] H (.slice none 0 0) H [] := by
  have hsm := SCall.of_ev mixed (Dg.bodied_ok _) over3_ok (all_XN lx cx e1 xs w b)
  refine hsm.keeps [kx] (by simp) rfl rfl ?_ (by simp [Dg.renL, Dg.renV, Dg.renK, aX]) (by simp [Dg.idsOfL, Dg.idsOf]) (fun _ => rfl)
  intro i k hik
  match i, hik with
  | 0, hik => cases hik; exact ⟨hkx, fixO _ _⟩
theorem all_bothnil {H : Heap} {w b : Int} : SCall Try.prog 16 [.int .i64 w, .int .i64 b, .slice none 0 0, .slice none 0 0] H (.slice none 0 0) H [] := by
  have hsm := SCall.of_ev mixed (Dg.bodied_ok _) over3_ok (all_NN w b)
  exact hsm.keeps [] (by simp) rfl rfl (fun i k hik => by simp at hik) rfl (by simp [Dg.idsOfL, Dg.idsOf]) (fun _ => rfl)
end Go.Proofs.Ytafhlmpifdclaaa.shift
