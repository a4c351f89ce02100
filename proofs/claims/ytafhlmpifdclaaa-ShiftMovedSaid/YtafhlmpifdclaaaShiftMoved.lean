/- PROVED: 'horologelaw34.ShiftMoved' returns true at every width, bounds, offsets, delays and number, in whatever memory, and leaves what was there as it was. Conditions: none. -/
import Derived.Test.YtafhlmpifdclaaaRows
import Derived.Test.YtafhlmpifdclaaaShift5d
import Derived.Test.YtafhlmpifdclaaaShift5f
import Derived.Test.YtafhlmpifdclaaaShift5g
import Derived.WalkKit
import Derived.ProofKit
import Derived.OpenShut
namespace Go.Proofs.Ytafhlmpifdclaaa.shiftMoved
open Go.ChangeShapes Go.WideShapes Go.ChangeAt Go.RowKit
open Go.Dg (junk St Ex Ev Hint evCall evCallS evCode evLoop cleanSt ue bodied noOver sbOf headOf tailOf bodyOf Flats flatOver Heap AObj)
open Go.Proofs.Ytafhlmpifdclaaa.shift
set_option linter.unusedVariables false

/-! ### All cases. -/
noncomputable abbrev ev5 : List Value → Heap → Option (Value × Heap × List Nat) := evCall Try.prog 0 (bodied Try.prog) over4 sbs 1000 20 5
def Good (args : List Value) (H : Heap) : Prop := (ev5 args H).map (·.1) = some (.bool true)
theorem of_is {args : List Value} {H H' : Heap} {log : List Nat} (h : ev5 args H = some (.bool true, H', log)) : Good args H := by unfold Good; rw [h]; rfl
theorem all_or (xs : List Int) (n : Nat) : (∃ j, j < n ∧ (∀ i, i < j → rng (xs.getD i 0)) ∧ (xs.getD j 0 ≤ -1152921504606846976 ∨ (-1152921504606846976 < xs.getD j 0 ∧ 1152921504606846976 ≤ xs.getD j 0))) ∨ ∀ j, j < n → rng (xs.getD j 0) := by
  haveI : DecidablePred fun j => ¬ rng (xs.getD j 0) := fun _ => Classical.propDecidable _
  rcases first_or5 (p := fun j => ¬ rng (xs.getD j 0)) n with ⟨j, h1, h2, h3⟩ | h
  · refine .inl ⟨j, h1, fun i hi => Classical.not_not.1 (h3 i hi), ?_⟩
    unfold rng at h2
    omega
  · exact .inr fun j hj => Classical.not_not.1 (h j hj)
theorem zero_or (n : Nat) : n = 0 ∨ ∃ i, n = i + 1 := by cases n <;> simp
theorem outs_len (w : Nat) (b : Int) (xs ys : List Int) : ∀ i, (outs w b xs ys i).length ≤ i := by
  intro i
  induction i with
  | zero => exact Nat.le_refl _
  | succ i ih =>
    simp only [outs, List.length_append]
    split
    · simp only [List.length_cons, List.length_nil]; omega
    · simp only [List.length_nil]; omega
theorem steps_len (w b : Int) (xs ys : List Int) (n : Nat) : (stepsOf w b xs ys n).length ≤ n := by
  unfold stepsOf
  split
  · exact Nat.zero_le _
  · exact outs_len _ _ _ _ _
theorem all_XY (w b more byy : Int) (lx : Nat) (cx : Cp) (ly : Nat) (cy : Cp) (e1 e2 : Sh) (xs ys : List Int) (hbm : b < 9223372036854775808) (hclx : lx ≤ cx.1) (hcly : ly ≤ cy.1) (hzlx : xs.length = cx.1) (hzly : ys.length = cy.1) (hx : ∀ x ∈ xs, In x) :
    Good [.int .i64 w, .int .i64 b, .int .i64 more, aX lx cx, aY ly cy, .int .i64 byy] ⟨2, [oY ys e2, oX xs e1]⟩ := by
  by_cases hllx : 200 < lx
  · exact of_is (l5x w b more byy lx cx ly cy e1 e2 xs ys hllx)
  by_cases hlly : 200 < ly
  · exact of_is (l5y w b more byy lx cx ly cy e1 e2 xs ys (by omega) hlly)
  replace hllx : lx ≤ 200 := by omega
  replace hlly : ly ≤ 200 := by omega
  rcases zero_or lx with rfl | ⟨i, hi⟩
  · rcases zero_or ly with rfl | ⟨k, hk⟩
    · skip
      by_cases g1 : byy ≤ -1152921504606846976
      · exact of_is (m5EEbl w b more byy cx cy e1 e2 xs ys hclx hzlx hcly hzly g1)
      by_cases g2 : 1152921504606846976 ≤ byy
      · exact of_is (m5EEbh w b more byy cx cy e1 e2 xs ys hclx hzlx hcly hzly (by omega) g2)
      have hby : -1152921504606846976 < byy ∧ byy < 1152921504606846976 := ⟨by omega, by omega⟩
      by_cases g3 : more ≤ -1152921504606846976
      · exact of_is (m5EEml w b more byy cx cy e1 e2 xs ys hclx hzlx hcly hzly hby g3)
      by_cases g4 : 1152921504606846976 ≤ more
      · exact of_is (m5EEmh w b more byy cx cy e1 e2 xs ys hclx hzlx hcly hzly hby (by omega) g4)
      have hmo : -1152921504606846976 < more ∧ more < 1152921504606846976 := ⟨by omega, by omega⟩
      by_cases h0 : b < 0
      · exact of_is (z5EEb0 w b more byy cx cy e1 e2 xs ys hclx hzlx hcly hzly hx hby hmo hbm h0)
      by_cases h1 : 1152921504606846976 ≤ b
      · exact of_is (z5EEb1 w b more byy cx cy e1 e2 xs ys hclx hzlx hcly hzly hx hby hmo hbm (by omega) h1)
      by_cases h2 : more < 0
      · exact of_is (z5EEm0 w b more byy cx cy e1 e2 xs ys hclx hzlx hcly hzly hx hby hmo hbm (by omega) (by omega) h2)
      exact of_is (z5EEok w b more byy cx cy e1 e2 xs ys hclx hzlx hcly hzly hx hby hmo hbm (by omega) (by omega) (by omega))
    · rcases all_or ys ly with ⟨j, hj, hr2, hb | ⟨hb0, hb⟩⟩ | hs
      · exact of_is (y5Elo w b more byy cx ly cy e1 e2 xs ys hclx hzlx hcly hzly hlly j hj hr2 hb)
      · exact of_is (y5Ehi w b more byy cx ly cy e1 e2 xs ys hclx hzlx hcly hzly hlly j hj hr2 hb0 hb)
      by_cases g1 : byy ≤ -1152921504606846976
      · exact of_is (m5EPbl w b more byy cx ly cy e1 e2 xs ys hclx hzlx hcly hzly hlly k hk hs g1)
      by_cases g2 : 1152921504606846976 ≤ byy
      · exact of_is (m5EPbh w b more byy cx ly cy e1 e2 xs ys hclx hzlx hcly hzly hlly k hk hs (by omega) g2)
      have hby : -1152921504606846976 < byy ∧ byy < 1152921504606846976 := ⟨by omega, by omega⟩
      by_cases g3 : more ≤ -1152921504606846976
      · exact of_is (m5EPml w b more byy cx ly cy e1 e2 xs ys hclx hzlx hcly hzly hlly k hk hs hby g3)
      by_cases g4 : 1152921504606846976 ≤ more
      · exact of_is (m5EPmh w b more byy cx ly cy e1 e2 xs ys hclx hzlx hcly hzly hlly k hk hs hby (by omega) g4)
      have hmo : -1152921504606846976 < more ∧ more < 1152921504606846976 := ⟨by omega, by omega⟩
      by_cases h0 : b < 0
      · exact of_is (z5EPb0 w b more byy cx ly cy e1 e2 xs ys hclx hzlx hcly hzly hlly k hk hs hx hby hmo hbm h0)
      by_cases h1 : 1152921504606846976 ≤ b
      · exact of_is (z5EPb1 w b more byy cx ly cy e1 e2 xs ys hclx hzlx hcly hzly hlly k hk hs hx hby hmo hbm (by omega) h1)
      by_cases h2 : more < 0
      · exact of_is (z5EPm0 w b more byy cx ly cy e1 e2 xs ys hclx hzlx hcly hzly hlly k hk hs hx hby hmo hbm (by omega) (by omega) h2)
      exact of_is (z5EPok w b more byy cx ly cy e1 e2 xs ys hclx hzlx hcly hzly hlly k hk hs hx hby hmo hbm (by omega) (by omega) (by omega))
  · rcases all_or xs lx with ⟨j, hj, hr, hb | ⟨hb0, hb⟩⟩ | hr
    · exact of_is (x5Plo w b more byy lx cx ly cy e1 e2 xs ys hclx hzlx hllx hcly hzly hlly j hj hr hb)
    · exact of_is (x5Phi w b more byy lx cx ly cy e1 e2 xs ys hclx hzlx hllx hcly hzly hlly j hj hr hb0 hb)
    rcases zero_or ly with rfl | ⟨k, hk⟩
    · skip
      by_cases g1 : byy ≤ -1152921504606846976
      · exact of_is (m5PEbl w b more byy lx cx cy e1 e2 xs ys hclx hzlx hllx hcly hzly i hi hr g1)
      by_cases g2 : 1152921504606846976 ≤ byy
      · exact of_is (m5PEbh w b more byy lx cx cy e1 e2 xs ys hclx hzlx hllx hcly hzly i hi hr (by omega) g2)
      have hby : -1152921504606846976 < byy ∧ byy < 1152921504606846976 := ⟨by omega, by omega⟩
      by_cases g3 : more ≤ -1152921504606846976
      · exact of_is (m5PEml w b more byy lx cx cy e1 e2 xs ys hclx hzlx hllx hcly hzly i hi hr hby g3)
      by_cases g4 : 1152921504606846976 ≤ more
      · exact of_is (m5PEmh w b more byy lx cx cy e1 e2 xs ys hclx hzlx hllx hcly hzly i hi hr hby (by omega) g4)
      have hmo : -1152921504606846976 < more ∧ more < 1152921504606846976 := ⟨by omega, by omega⟩
      by_cases h0 : b < 0
      · exact of_is (z5PEb0 w b more byy lx cx cy e1 e2 xs ys hclx hzlx hllx hcly hzly i hi hr hx hby hmo hbm h0)
      by_cases h1 : 1152921504606846976 ≤ b
      · exact of_is (z5PEb1 w b more byy lx cx cy e1 e2 xs ys hclx hzlx hllx hcly hzly i hi hr hx hby hmo hbm (by omega) h1)
      by_cases h2 : more < 0
      · exact of_is (z5PEm0 w b more byy lx cx cy e1 e2 xs ys hclx hzlx hllx hcly hzly i hi hr hx hby hmo hbm (by omega) (by omega) h2)
      exact of_is (z5PEok w b more byy lx cx cy e1 e2 xs ys hclx hzlx hllx hcly hzly i hi hr hx hby hmo hbm (by omega) (by omega) (by omega))
    · rcases all_or ys ly with ⟨j, hj, hr2, hb | ⟨hb0, hb⟩⟩ | hs
      · exact of_is (y5Plo w b more byy lx cx ly cy e1 e2 xs ys hclx hzlx hllx hcly hzly hlly i hi hr j hj hr2 hb)
      · exact of_is (y5Phi w b more byy lx cx ly cy e1 e2 xs ys hclx hzlx hllx hcly hzly hlly i hi hr j hj hr2 hb0 hb)
      by_cases g1 : byy ≤ -1152921504606846976
      · exact of_is (m5PPbl w b more byy lx cx ly cy e1 e2 xs ys hclx hzlx hllx hcly hzly hlly i hi hr k hk hs g1)
      by_cases g2 : 1152921504606846976 ≤ byy
      · exact of_is (m5PPbh w b more byy lx cx ly cy e1 e2 xs ys hclx hzlx hllx hcly hzly hlly i hi hr k hk hs (by omega) g2)
      have hby : -1152921504606846976 < byy ∧ byy < 1152921504606846976 := ⟨by omega, by omega⟩
      by_cases g3 : more ≤ -1152921504606846976
      · exact of_is (m5PPml w b more byy lx cx ly cy e1 e2 xs ys hclx hzlx hllx hcly hzly hlly i hi hr k hk hs hby g3)
      by_cases g4 : 1152921504606846976 ≤ more
      · exact of_is (m5PPmh w b more byy lx cx ly cy e1 e2 xs ys hclx hzlx hllx hcly hzly hlly i hi hr k hk hs hby (by omega) g4)
      have hmo : -1152921504606846976 < more ∧ more < 1152921504606846976 := ⟨by omega, by omega⟩
      have hN : min lx ly ≤ 200 := by omega
      obtain ⟨os, hos⟩ : ∃ os, stepsOf w b xs ys (min lx ly) = os := ⟨_, rfl⟩
      have hor : ∀ s ∈ os, rng s.2.1 ∧ rng s.2.2 := by rw [← hos]; exact steps_rng fun j hj => hr j (by omega)
      have hol : os.length ≤ 900 := by have := steps_len w b xs ys (min lx ly); rw [hos] at this; omega
      by_cases hne : os = []
      · subst hne
        by_cases h0 : b < 0
        · exact of_is (q5zb0 w b more byy lx cx ly cy e1 e2 xs ys hclx hzlx hllx hcly hzly hlly i hi hr k hk hs hby hmo hbm hx hos h0)
        by_cases h1 : 1152921504606846976 ≤ b
        · exact of_is (q5zb1 w b more byy lx cx ly cy e1 e2 xs ys hclx hzlx hllx hcly hzly hlly i hi hr k hk hs hby hmo hbm hx hos (by omega) h1)
        by_cases h2 : more < 0
        · exact of_is (q5zm0 w b more byy lx cx ly cy e1 e2 xs ys hclx hzlx hllx hcly hzly hlly i hi hr k hk hs hby hmo hbm hx hos (by omega) (by omega) h2)
        obtain ⟨f, hf⟩ := steps_within (w := w) (xs := xs) (ys := ys) (n := min lx ly) (b := b) (more := more) (by omega) (by omega)
        have hds : stepsOf w (b + more) xs ys (min lx ly) = [] := by
          cases hd : stepsOf w (b + more) xs ys (min lx ly) with
          | nil => rfl
          | cons x r =>
            rw [hd, hos] at hf
            have := (hf.1 0 (by simp)).1
            simp at this
        exact of_is (q5zok w b more byy lx cx ly cy e1 e2 xs ys hclx hzlx hllx hcly hzly hlly i hi hr k hk hs hby hmo hbm hx hos hds (by omega) (by omega) (by omega))
      have hb0 : 0 ≤ b := by
        by_cases h0 : b < 0
        · exact absurd (by rw [← hos]; exact bad_steps (.inr (.inr h0)) _ _ _) hne
        · omega
      obtain ⟨n, hn⟩ : ∃ n, os.length = n + 1 := ⟨os.length - 1, by have := List.length_pos_iff.2 hne; omega⟩
      by_cases h1 : 1152921504606846976 ≤ b
      · exact of_is (q5pb1 w b more byy lx cx ly cy e1 e2 xs ys hclx hzlx hllx hcly hzly hlly i hi hr k hk hs hby hmo hbm hx os _ hos hne rfl n hn hol hor hb0 h1)
      by_cases h2 : more < 0
      · exact of_is (q5pm0 w b more byy lx cx ly cy e1 e2 xs ys hclx hzlx hllx hcly hzly hlly i hi hr k hk hs hby hmo hbm hx os _ hos hne rfl n hn hol hor hb0 (by omega) h2)
      obtain ⟨f, hf⟩ := steps_within (w := w) (xs := xs) (ys := ys) (n := min lx ly) (b := b) (more := more) (by omega) (by omega)
      obtain ⟨ds, hds⟩ : ∃ ds, stepsOf w (b + more) xs ys (min lx ly) = ds := ⟨_, rfl⟩
      rw [hds, hos] at hf
      by_cases hdne : ds = []
      · subst hdne
        exact of_is (q5pz w b more byy lx cx ly cy e1 e2 xs ys hclx hzlx hllx hcly hzly hlly i hi hr k hk hs hby hmo hbm hx os _ hos hne rfl n hn hol hor hds hb0 (by omega) (by omega))
      obtain ⟨T, hT⟩ := search_of hf
      obtain ⟨q, hq⟩ : ∃ q, ds.length = q + 1 := ⟨ds.length - 1, by have := List.length_pos_iff.2 hdne; omega⟩
      have hdl : ds.length ≤ 900 := by have := steps_len w (b + more) xs ys (min lx ly); rw [hds] at this; omega
      exact of_is (q5pp w b more byy lx cx ly cy e1 e2 xs ys hclx hzlx hllx hcly hzly hlly i hi hr k hk hs hby hmo hbm hx os _ hos hne rfl n hn hol hor ds _ hds hdne rfl hdl q hq T hT hb0 (by omega) (by omega))
theorem all_XN (w b more byy : Int) (lx : Nat) (cx : Cp) (e1 : Sh) (xs : List Int) (hbm : b < 9223372036854775808) (hclx : lx ≤ cx.1) (hzlx : xs.length = cx.1) : Good [.int .i64 w, .int .i64 b, .int .i64 more, aX lx cx, .slice none 0 0, .int .i64 byy] ⟨1, [oX xs e1]⟩ := by
  by_cases hllx : 200 < lx
  · exact of_is (l5xn w b more byy lx cx e1 xs hllx)
  replace hllx : lx ≤ 200 := by omega
  rcases zero_or lx with rfl | ⟨i, hi⟩
  · skip
    by_cases g1 : byy ≤ -1152921504606846976
    · exact of_is (m5ENbl w b more byy cx e1 xs hclx hzlx g1)
    by_cases g2 : 1152921504606846976 ≤ byy
    · exact of_is (m5ENbh w b more byy cx e1 xs hclx hzlx (by omega) g2)
    have hby : -1152921504606846976 < byy ∧ byy < 1152921504606846976 := ⟨by omega, by omega⟩
    by_cases g3 : more ≤ -1152921504606846976
    · exact of_is (m5ENml w b more byy cx e1 xs hclx hzlx hby g3)
    by_cases g4 : 1152921504606846976 ≤ more
    · exact of_is (m5ENmh w b more byy cx e1 xs hclx hzlx hby (by omega) g4)
    have hmo : -1152921504606846976 < more ∧ more < 1152921504606846976 := ⟨by omega, by omega⟩
    by_cases h0 : b < 0
    · exact of_is (z5ENb0 w b more byy cx e1 xs hclx hzlx hby hmo hbm h0)
    by_cases h1 : 1152921504606846976 ≤ b
    · exact of_is (z5ENb1 w b more byy cx e1 xs hclx hzlx hby hmo hbm (by omega) h1)
    by_cases h2 : more < 0
    · exact of_is (z5ENm0 w b more byy cx e1 xs hclx hzlx hby hmo hbm (by omega) (by omega) h2)
    exact of_is (z5ENok w b more byy cx e1 xs hclx hzlx hby hmo hbm (by omega) (by omega) (by omega))
  · rcases all_or xs lx with ⟨j, hj, hr, hb | ⟨hb0, hb⟩⟩ | hr
    · exact of_is (x5Nlo w b more byy lx cx e1 xs hclx hzlx hllx j hj hr hb)
    · exact of_is (x5Nhi w b more byy lx cx e1 xs hclx hzlx hllx j hj hr hb0 hb)
    by_cases g1 : byy ≤ -1152921504606846976
    · exact of_is (m5PNbl w b more byy lx cx e1 xs hclx hzlx hllx i hi hr g1)
    by_cases g2 : 1152921504606846976 ≤ byy
    · exact of_is (m5PNbh w b more byy lx cx e1 xs hclx hzlx hllx i hi hr (by omega) g2)
    have hby : -1152921504606846976 < byy ∧ byy < 1152921504606846976 := ⟨by omega, by omega⟩
    by_cases g3 : more ≤ -1152921504606846976
    · exact of_is (m5PNml w b more byy lx cx e1 xs hclx hzlx hllx i hi hr hby g3)
    by_cases g4 : 1152921504606846976 ≤ more
    · exact of_is (m5PNmh w b more byy lx cx e1 xs hclx hzlx hllx i hi hr hby (by omega) g4)
    have hmo : -1152921504606846976 < more ∧ more < 1152921504606846976 := ⟨by omega, by omega⟩
    by_cases h0 : b < 0
    · exact of_is (z5PNb0 w b more byy lx cx e1 xs hclx hzlx hllx i hi hr hby hmo hbm h0)
    by_cases h1 : 1152921504606846976 ≤ b
    · exact of_is (z5PNb1 w b more byy lx cx e1 xs hclx hzlx hllx i hi hr hby hmo hbm (by omega) h1)
    by_cases h2 : more < 0
    · exact of_is (z5PNm0 w b more byy lx cx e1 xs hclx hzlx hllx i hi hr hby hmo hbm (by omega) (by omega) h2)
    exact of_is (z5PNok w b more byy lx cx e1 xs hclx hzlx hllx i hi hr hby hmo hbm (by omega) (by omega) (by omega))
theorem all_NY (w b more byy : Int) (lx : Nat) (cx : Cp) (e1 : Sh) (xs : List Int) (hbm : b < 9223372036854775808) (hclx : lx ≤ cx.1) (hzlx : xs.length = cx.1) : Good [.int .i64 w, .int .i64 b, .int .i64 more, .slice none 0 0, aX lx cx, .int .i64 byy] ⟨1, [oX xs e1]⟩ := by
  by_cases hllx : 200 < lx
  · exact of_is (l5ny w b more byy lx cx e1 xs hllx)
  replace hllx : lx ≤ 200 := by omega
  rcases zero_or lx with rfl | ⟨i, hi⟩
  · skip
    by_cases g1 : byy ≤ -1152921504606846976
    · exact of_is (m5NEbl w b more byy cx e1 xs hclx hzlx g1)
    by_cases g2 : 1152921504606846976 ≤ byy
    · exact of_is (m5NEbh w b more byy cx e1 xs hclx hzlx (by omega) g2)
    have hby : -1152921504606846976 < byy ∧ byy < 1152921504606846976 := ⟨by omega, by omega⟩
    by_cases g3 : more ≤ -1152921504606846976
    · exact of_is (m5NEml w b more byy cx e1 xs hclx hzlx hby g3)
    by_cases g4 : 1152921504606846976 ≤ more
    · exact of_is (m5NEmh w b more byy cx e1 xs hclx hzlx hby (by omega) g4)
    have hmo : -1152921504606846976 < more ∧ more < 1152921504606846976 := ⟨by omega, by omega⟩
    by_cases h0 : b < 0
    · exact of_is (z5NEb0 w b more byy cx e1 xs hclx hzlx hby hmo hbm h0)
    by_cases h1 : 1152921504606846976 ≤ b
    · exact of_is (z5NEb1 w b more byy cx e1 xs hclx hzlx hby hmo hbm (by omega) h1)
    by_cases h2 : more < 0
    · exact of_is (z5NEm0 w b more byy cx e1 xs hclx hzlx hby hmo hbm (by omega) (by omega) h2)
    exact of_is (z5NEok w b more byy cx e1 xs hclx hzlx hby hmo hbm (by omega) (by omega) (by omega))
  · rcases all_or xs lx with ⟨j, hj, hr2, hb | ⟨hb0, hb⟩⟩ | hr
    · exact of_is (y5Nlo w b more byy lx cx e1 xs hclx hzlx hllx j hj hr2 hb)
    · exact of_is (y5Nhi w b more byy lx cx e1 xs hclx hzlx hllx j hj hr2 hb0 hb)
    by_cases g1 : byy ≤ -1152921504606846976
    · exact of_is (m5NPbl w b more byy lx cx e1 xs hclx hzlx hllx i hi hr g1)
    by_cases g2 : 1152921504606846976 ≤ byy
    · exact of_is (m5NPbh w b more byy lx cx e1 xs hclx hzlx hllx i hi hr (by omega) g2)
    have hby : -1152921504606846976 < byy ∧ byy < 1152921504606846976 := ⟨by omega, by omega⟩
    by_cases g3 : more ≤ -1152921504606846976
    · exact of_is (m5NPml w b more byy lx cx e1 xs hclx hzlx hllx i hi hr hby g3)
    by_cases g4 : 1152921504606846976 ≤ more
    · exact of_is (m5NPmh w b more byy lx cx e1 xs hclx hzlx hllx i hi hr hby (by omega) g4)
    have hmo : -1152921504606846976 < more ∧ more < 1152921504606846976 := ⟨by omega, by omega⟩
    by_cases h0 : b < 0
    · exact of_is (z5NPb0 w b more byy lx cx e1 xs hclx hzlx hllx i hi hr hby hmo hbm h0)
    by_cases h1 : 1152921504606846976 ≤ b
    · exact of_is (z5NPb1 w b more byy lx cx e1 xs hclx hzlx hllx i hi hr hby hmo hbm (by omega) h1)
    by_cases h2 : more < 0
    · exact of_is (z5NPm0 w b more byy lx cx e1 xs hclx hzlx hllx i hi hr hby hmo hbm (by omega) (by omega) h2)
    exact of_is (z5NPok w b more byy lx cx e1 xs hclx hzlx hllx i hi hr hby hmo hbm (by omega) (by omega) (by omega))
theorem all_NN (w b more byy : Int) (hbm : b < 9223372036854775808) : Good [.int .i64 w, .int .i64 b, .int .i64 more, .slice none 0 0, .slice none 0 0, .int .i64 byy] ⟨0, []⟩ := by
  by_cases g1 : byy ≤ -1152921504606846976
  · exact of_is (m5NNbl w b more byy  g1)
  by_cases g2 : 1152921504606846976 ≤ byy
  · exact of_is (m5NNbh w b more byy  (by omega) g2)
  have hby : -1152921504606846976 < byy ∧ byy < 1152921504606846976 := ⟨by omega, by omega⟩
  by_cases g3 : more ≤ -1152921504606846976
  · exact of_is (m5NNml w b more byy  hby g3)
  by_cases g4 : 1152921504606846976 ≤ more
  · exact of_is (m5NNmh w b more byy  hby (by omega) g4)
  have hmo : -1152921504606846976 < more ∧ more < 1152921504606846976 := ⟨by omega, by omega⟩
  by_cases h0 : b < 0
  · exact of_is (z5NNb0 w b more byy  hby hmo hbm h0)
  by_cases h1 : 1152921504606846976 ≤ b
  · exact of_is (z5NNb1 w b more byy  hby hmo hbm (by omega) h1)
  by_cases h2 : more < 0
  · exact of_is (z5NNm0 w b more byy  hby hmo hbm (by omega) (by omega) h2)
  exact of_is (z5NNok w b more byy  hby hmo hbm (by omega) (by omega) (by omega))
/-- A slice of integers: nil, or a row of cells. -/
def Ints (w : World) (v : Value) : Prop := v = .slice none 0 0 ∨ ∃ (b off len cap : Nat) (zs : List Int) (e' : TypeId), v = .slice (some ⟨b, off, none⟩) len cap ∧ len ≤ cap ∧ cap ≤ maxLen ∧ zs.length = cap ∧ (∀ n ∈ zs, (Lit.int .i64 n).wf = true) ∧
      ∀ M N, Dg.ObjRel M N w (.cells (zs.map (Value.int .i64 ·)) e' 6 1) b off 0
theorem good_closed {args : List Value} (h : Good args ⟨0, []⟩) (ha : Dg.flatL args = true) (W : World) : Calls Try.prog 5 args.toArray W fun e W' => e = .returned (.bool true) ∧ Below W.heap.size W W' :=
  (Dg.closed_call mixed (Dg.bodied_ok _) over4_ok (sb := sbs) (lf := 1000) (n := 20) h ha rfl).2.2 W
theorem good_open {args args' : List Value} {W : World} (L : List (Nat × Nat × AObj)) (h : Good args (Dg.heapOf L)) (hL : ∀ x ∈ L, x.2.2.owned = false ∧ ∀ M N, Dg.ObjRel M N W x.2.2 x.1 x.2.1 0) (ha : Dg.LRel (Dg.embOf L) args args') : Calls Try.prog 5 args'.toArray W fun e W' => e = .returned (.bool true) ∧ Below W.heap.size W W' :=
  Dg.open_call mixed (Dg.bodied_ok _) over4_ok L hL ha (sb := sbs) (lf := 1000) (n := 20) h rfl
theorem walk (W : World) (w b more byy : Int) (hb : b < 9223372036854775808) (vx vy : Value) (hx : Ints W vx) (hy : Ints W vy) :
    Calls Try.prog 5 #[.int .i64 w, .int .i64 b, .int .i64 more, vx, vy, .int .i64 byy] W fun e W' => e = .returned (.bool true) ∧ Below W.heap.size W W' := by
  have F : ∀ v, Dg.flat v = true → ∀ M, Dg.VRel M v v := fun v h M => Dg.vrel_of_flat _ _ h
  rcases hx with rfl | ⟨bx, ox, lx, cx, xs, e1, rfl, hlx, _, hxl, hwx, hox⟩
  · rcases hy with rfl | ⟨by', oy, ly, cy, ys, e2, rfl, hly, _, hyl, hwy, hoy⟩
    · exact good_closed (all_NN w b more byy hb) rfl W
    · refine good_open [(by', oy, .cells (ys.map (Value.int .i64 ·)) e2 6 1)] (all_NY w b more byy ly (cy, none) (e2, 2, 1) ys hb hly hyl) (by simp; exact ⟨rfl, hoy⟩) ?_
      exact Dg.LRel.cons (F _ rfl _) (Dg.LRel.cons (F _ rfl _) (Dg.LRel.cons (F _ rfl _) (Dg.LRel.cons (F _ rfl _) (Dg.LRel.cons (Dg.VRel.slx (k := 0) (off := 0) (b := by') (o := oy) (sp := 0) rfl) (Dg.LRel.cons (F _ rfl _) Dg.LRel.nil)))))
  · have hIn : ∀ x ∈ xs, In x := fun x hx => Dg.wf_i64 (hwx x hx)
    rcases hy with rfl | ⟨by', oy, ly, cy, ys, e2, rfl, hly, _, hyl, hwy, hoy⟩
    · refine good_open [(bx, ox, .cells (xs.map (Value.int .i64 ·)) e1 6 1)] (all_XN w b more byy lx (cx, none) (e1, 2, 1) xs hb hlx hxl) (by simp; exact ⟨rfl, hox⟩) ?_
      exact Dg.LRel.cons (F _ rfl _) (Dg.LRel.cons (F _ rfl _) (Dg.LRel.cons (F _ rfl _) (Dg.LRel.cons (Dg.VRel.slx (k := 0) (off := 0) (b := bx) (o := ox) (sp := 0) rfl) (Dg.LRel.cons (F _ rfl _) (Dg.LRel.cons (F _ rfl _) Dg.LRel.nil)))))
    · refine good_open [(bx, ox, .cells (xs.map (Value.int .i64 ·)) e1 6 1), (by', oy, .cells (ys.map (Value.int .i64 ·)) e2 6 1)] (all_XY w b more byy lx (cx, none) ly (cy, none) (e1, 2, 1) (e2, 2, 1) xs ys hb hlx hly hxl hyl hIn) ?_ ?_
      · intro x hx
        simp only [List.mem_cons, List.not_mem_nil, or_false] at hx
        rcases hx with rfl | rfl
        · exact ⟨rfl, hox⟩
        · exact ⟨rfl, hoy⟩
      · exact Dg.LRel.cons (F _ rfl _) (Dg.LRel.cons (F _ rfl _) (Dg.LRel.cons (F _ rfl _) (Dg.LRel.cons (Dg.VRel.slx (k := 0) (off := 0) (b := bx) (o := ox) (sp := 0) rfl) (Dg.LRel.cons (Dg.VRel.slx (k := 1) (off := 0) (b := by') (o := oy) (sp := 0) rfl) (Dg.LRel.cons (F _ rfl _) Dg.LRel.nil)))))

/-! ### The row. -/
theorem ownKnob_is : ownKnob Try.prog.godebug = none := by kernel_rfl
theorem laidOut : laidOutB Try.prog = true := by kernel_rfl
set_option maxRecDepth 100000 in
theorem lifted (os : Os) (started : os.Started) (H : Type) (enc : TypeId × Value → H) :
    ReturnsInHanded {} Try.checked os 5 .any (Rows.shiftMovedSpec.pre6 enc Try.prog Try.f5 Rows.shiftMovedRow.domain false) (Rows.shiftMovedSpec.post enc Try.prog Try.f5 false true false false) := by
  refine returnsInHanded_of_change (C := Try.checked) ownKnob_is started (by kernel_rfl) Try.func5
    (ChangeSpec.witness6 (enc := enc) (C := Try.checked) false ⟨#[], #[.int .i64 0, .int .i64 0, .int .i64 0, .slice none 0 0, .slice none 0 0, .int .i64 0], []⟩ 8 (by kernel_rfl) (by kernel_rfl) (by kernel_rfl) (by kernel_rfl)) ?_
  intro W base args ds gs before hval0 hW hcnd _
  have hval : ∀ (j : Nat) t v, Try.f5.params[j]? = some t → args[j]? = some v → Value.okWide Try.prog W .any base t v := hval0
  have hW' := hW
  obtain ⟨p, q, hA0, hV, rfl, hfz, hnd⟩ := hW
  have hA : DataW.TrodAll enc Try.prog W 0 (fun _ => true) true Try.f5.params.toList args.toList ds p := hA0
  rw [Try.params5] at hA hval
  obtain ⟨v0, vs0, d0, ds0, p0, q0, hargs, rfl, rfl, h0, t0⟩ := trodAll_cons hA
  obtain ⟨v1, vs1, d1, ds1, p1, q1, rfl, rfl, rfl, h1, t1⟩ := trodAll_cons t0
  obtain ⟨v2, vs2, d2, ds2, p2, q2, rfl, rfl, rfl, h2, t2⟩ := trodAll_cons t1
  obtain ⟨v3, vs3, d3, ds3, p3, q3, rfl, rfl, rfl, h3, t3⟩ := trodAll_cons t2
  obtain ⟨v4, vs4, d4, ds4, p4, q4, rfl, rfl, rfl, h4, t4⟩ := trodAll_cons t3
  obtain ⟨v5, vs5, d5, ds5, p5, q5, rfl, rfl, rfl, h5, t5⟩ := trodAll_cons t4
  obtain ⟨rfl, rfl, rfl⟩ := trodAll_nil t5
  obtain rfl : args = #[v0, v1, v2, v3, v4, v5] := by cases args; simp_all
  obtain ⟨rfl, rfl⟩ := trodVars_none hV
  have k3 := h3
  have k4 := h4
  have lt3 : ∀ x ∈ p3, x.block < W.heap.size := by obtain ⟨m, hm⟩ := k3; exact DataW.trod_lt m _ _ _ hm
  have lt4 : ∀ x ∈ p4, x.block < W.heap.size := by obtain ⟨m, hm⟩ := k4; exact DataW.trod_lt m _ _ _ hm
  obtain ⟨a0, rfl, rfl, rfl, w0⟩ := open_int Try.underlying3 (hval 0 3 v0 rfl rfl) h0
  obtain ⟨a1, rfl, rfl, rfl, w1⟩ := open_int Try.underlying2 (hval 1 2 v1 rfl rfl) h1
  obtain ⟨a2, rfl, rfl, rfl, w2⟩ := open_int Try.underlying2 (hval 2 2 v2 rfl rfl) h2
  obtain ⟨a5, rfl, rfl, rfl, w5⟩ := open_int Try.underlying2 (hval 5 2 v5 rfl rfl) h5
  have i3 := Dg.ints_arg Try.underlying22 Try.underlying2 (by kernel_rfl) (hval 3 22 v3 rfl rfl) h3
  have i4 := Dg.ints_arg Try.underlying22 Try.underlying2 (by kernel_rfl) (hval 4 22 v4 rfl rfl) h4
  have hcall := walk W a0 a1 a2 a5 (Dg.wf_i64 w1).2 v3 v4 i3 i4
  clear hA0 hval0
  simp only [List.append_nil, List.nil_append] at hW'
  refine hcall.mono fun e W' ⟨he, bel⟩ => ?_
  subst he
  exact ⟨_, rfl, _, _, _, [], _, [], hW', trodAll_mk1 (shut_bool Try.underlying4 _), trodAll_cons_mk (shut_int Try.underlying3 w0) (trodAll_cons_mk (shut_int Try.underlying2 w1) (trodAll_cons_mk (shut_int Try.underlying2 w2) (trodAll_cons_mk (Below.trod laidOut (by kernel_rfl) (of_decide_eq_true (by kernel_rfl)) k3 bel lt3) (trodAll_cons_mk (Below.trod laidOut (by kernel_rfl) (of_decide_eq_true (by kernel_rfl)) k4 bel lt4) (trodAll_cons_mk (shut_int Try.underlying2 w5) trodAll_mk0))))), rfl, bel.frame _, fun h => by cases h⟩

theorem over : Rows.shiftMovedRow.holds Try.pinned (OpenSpec.ofChange Rows.shiftMovedSpec) :=
  OpenClaim.holds_of_wide 5 Try.f5 rfl rfl rfl rfl rfl rfl rfl ⟨rfl, rfl, rfl, rfl, rfl⟩ rfl rfl rfl rfl rfl (by kernel_rfl) Try.func5 (by kernel_rfl)
    (of_decide_eq_true (by kernel_rfl)) (by unfold Func.isWrapper; first | (rw [if_pos (by decide +kernel)]; kernel_rfl) | (rw [if_neg (by decide +kernel)]; exact ⟨rfl, rfl⟩))
    (fun os started H enc _ => lifted os started H enc)

theorem proved : Rows.ShiftMovedSaid := over
#print axioms proved
end Go.Proofs.Ytafhlmpifdclaaa.shiftMoved
