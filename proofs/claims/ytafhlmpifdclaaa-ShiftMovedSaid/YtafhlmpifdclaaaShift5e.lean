/- The loops over the steps of the law 'ShiftMoved' of layer 34. -/
import Derived.Test.YtafhlmpifdclaaaRows
import Derived.Test.YtafhlmpifdclaaaShift5c
namespace Go.Proofs.Ytafhlmpifdclaaa.shift
open Go.Dg (junk St Ex Ev Hint evCall evCallS evCode evCodeK innerKp evCodeS evLoop cleanSt ue bodied noOver sbOf headOf tailOf bodyOf rAssign rBody lBody Flats flatOver Heap AObj SCall Law ofLaw Fix)
set_option linter.unusedVariables false
set_option linter.unusedSimpArgs false

theorem mvS_len (byy : Int) (os : List (Int × Int × Int)) : (mvS byy os).length = os.length := by simp [mvS]
theorem tnS_len (os : List (Int × Int × Int)) : (tnS os).length = os.length := by simp [tnS]
theorem mvS_get {byy : Int} {os : List (Int × Int × Int)} {i : Nat} (h : i < os.length) : (mvS byy os).getD i (0, 0, 0) = ((os.getD i (0, 0, 0)).1, (os.getD i (0, 0, 0)).2.1 + byy, (os.getD i (0, 0, 0)).2.2 + byy) := by
  simp only [mvS, List.getD_eq_getElem?_getD, List.getElem?_map, List.getElem?_eq_getElem h, Option.map_some, Option.getD_some]
theorem tnS_get {os : List (Int × Int × Int)} {i : Nat} (h : i < os.length) : (tnS os).getD i (0, 0, 0) = ((os.getD i (0, 0, 0)).1, 0 - (os.getD i (0, 0, 0)).2.1, 0 - (os.getD i (0, 0, 0)).2.2) := by
  simp only [tnS, List.getD_eq_getElem?_getD, List.getElem?_map, List.getElem?_eq_getElem h, Option.map_some, Option.getD_some]
theorem getD_mem3 {os : List (Int × Int × Int)} {i : Nat} (h : i < os.length) : os.getD i (0, 0, 0) ∈ os := by
  simp only [List.getD_eq_getElem?_getD, List.getElem?_eq_getElem h, Option.getD_some]
  exact List.getElem_mem h
section
variable (w b more byy : Int) (lx : Nat) (cx : Cp) (ly : Nat) (cy : Cp) (e1 e2 : Sh) (xs ys : List Int) (x2 x3 : Int) (ms ss ts : List Int) (m : Nat) (os : List (Int × Int × Int))
abbrev g3 (os : List (Int × Int × Int)) (i : Nat) : Int × Int × Int := os.getD i (0, 0, 0)
def HC5 : Nat → St
  | 0 => C5a w b more byy lx cx ly cy e1 e2 xs ys x2 x3 ms ss ts m os (mvS byy os) (tnS os)
  | i + 1 => C5b w b more byy lx cx ly cy e1 e2 xs ys x2 x3 ms ss ts m os (mvS byy os) (tnS os) (i + 1) (i : Int) (g3 os i).1 (g3 os i).2.1 (g3 os i).2.2
theorem loopC (hm : os.length = m) (hml : m ≤ 900) (hby : rng byy) (ho : ∀ s ∈ os, rng s.2.1 ∧ rng s.2.2) (n : Nat) (hn : m = n + 1) {s0 : St} (h0 : cl5K 2 lC5 [] s0 = C5a w b more byy lx cx ly cy e1 e2 xs ys x2 x3 ms ss ts m os (mvS byy os) (tnS os)) :
    evLoop (run5K 2 lC5 []) (cl5K 2 lC5 []) 1000 s0 = some (.exit 8, C5e w b more byy lx cx ly cy e1 e2 xs ys x2 x3 ms ss ts m os (mvS byy os) (tnS os) m (n : Int) (g3 os n).1 (g3 os n).2.1 (g3 os n).2.2) := by
  refine Dg.loop_run (S := HC5 w b more byy lx cx ly cy e1 e2 xs ys x2 x3 ms ss ts m os) (n := m) (by simp) (fun i hi => ?_) ?_ (by omega) h0
  · have hr := ho _ (getD_mem3 (os := os) (i := i) (by omega))
    have k2 := mvS_get (byy := byy) (os := os) (i := i) (by omega)
    have k3 := tnS_get (os := os) (i := i) (by omega)
    have l2 := (mvS_len byy os).trans hm
    have l3 := (tnS_len os).trans hm
    cases i with
    | zero => exact c50 w b more byy lx cx ly cy e1 e2 xs ys x2 x3 ms ss ts m os (mvS byy os) (tnS os) _ _ _ hi hm l2 l3 hml hby rfl k2 k3 hr.1 hr.2
    | succ i => exact c51 w b more byy lx cx ly cy e1 e2 xs ys x2 x3 ms ss ts m os (mvS byy os) (tnS os) (i + 1) _ _ _ _ _ _ _ hi hm l2 l3 hml hby rfl k2 k3 hr.1 hr.2
  · have e : HC5 w b more byy lx cx ly cy e1 e2 xs ys x2 x3 ms ss ts m os m = C5b w b more byy lx cx ly cy e1 e2 xs ys x2 x3 ms ss ts m os (mvS byy os) (tnS os) m (n : Int) (g3 os n).1 (g3 os n).2.1 (g3 os n).2.2 := by
      clear h0
      subst hn
      rfl
    rw [e]
    exact c5e w b more byy lx cx ly cy e1 e2 xs ys x2 x3 ms ss ts m os (mvS byy os) (tnS os) _ _ _ _
variable (os2 os3 : List (Int × Int × Int)) (v kk AA BB : Int) (dl : Nat) (ds : List (Int × Int × Int))
theorem loopE (hm : os.length = m) (hml : m ≤ 900) (t t2 j : Nat) (k A B : Int) (hle : t ≤ t2) (ht2 : t2 < m) (he : os.getD t2 (0, 0, 0) = (k, A, B)) (hne : ∀ q, t ≤ q → q < t2 → os.getD q (0, 0, 0) ≠ (k, A, B)) {s0 : St}
    (h0 : cl5K 2 lE5 kD5 s0 = D5b w b more byy lx cx ly cy e1 e2 xs ys x2 x3 ms ss ts m os os2 os3 v kk AA BB dl ds t j k A B) :
    evLoop (run5K 2 lE5 kD5) (cl5K 2 lE5 kD5) 1000 s0 = some (.exit 12, E5e w b more byy lx cx ly cy e1 e2 xs ys x2 x3 ms ss ts m os os2 os3 v kk AA BB dl ds t2 j k A B) := by
  refine Dg.loop_run (S := fun q => D5b w b more byy lx cx ly cy e1 e2 xs ys x2 x3 ms ss ts m os os2 os3 v kk AA BB dl ds (t + q) j k A B) (n := t2 - t) (by simp) (fun q hq => ?_) ?_ (by omega) h0
  · have h1 := hne (t + q) (by omega) (by omega)
    exact e5s w b more byy lx cx ly cy e1 e2 xs ys x2 x3 ms ss ts m os os2 os3 v kk AA BB dl ds (t + q) j k A B _ _ _ (by omega) hm hml rfl (fun ⟨p1, p2, p3⟩ => h1 (Prod.ext p1 (Prod.ext p2 p3)))
  · have e : t + (t2 - t) = t2 := by omega
    show run5K 2 lE5 kD5 (D5b w b more byy lx cx ly cy e1 e2 xs ys x2 x3 ms ss ts m os os2 os3 v kk AA BB dl ds (t + (t2 - t)) j k A B) = _
    rw [e]
    exact e5e w b more byy lx cx ly cy e1 e2 xs ys x2 x3 ms ss ts m os os2 os3 v kk AA BB dl ds t2 j k A B ht2 hm hml he
def HD5 (T : Nat → Nat) : Nat → St
  | 0 => D5a w b more byy lx cx ly cy e1 e2 xs ys x2 x3 ms ss ts m os os2 os3 v kk AA BB dl ds
  | j + 1 => D5b w b more byy lx cx ly cy e1 e2 xs ys x2 x3 ms ss ts m os os2 os3 v kk AA BB dl ds (T (j + 1)) (j + 1) (g3 ds j).1 (g3 ds j).2.1 (g3 ds j).2.2
theorem loopD (hm : os.length = m) (hml : m ≤ 900) (hd : ds.length = dl) (hdl : dl ≤ 900) (T : Nat → Nat) (hT : Search ds os T) (n : Nat) (hn : dl = n + 1) {s0 : St}
    (h0 : cl5K 2 lD5 [] s0 = D5a w b more byy lx cx ly cy e1 e2 xs ys x2 x3 ms ss ts m os os2 os3 v kk AA BB dl ds) :
    evLoop (run5K 2 lD5 []) (cl5K 2 lD5 []) 1000 s0 = some (.exit 10, D5e w b more byy lx cx ly cy e1 e2 xs ys x2 x3 ms ss ts m os os2 os3 v kk AA BB dl ds (T dl) dl (g3 ds n).1 (g3 ds n).2.1 (g3 ds n).2.2) := by
  refine Dg.loop_run (S := HD5 w b more byy lx cx ly cy e1 e2 xs ys x2 x3 ms ss ts m os os2 os3 v kk AA BB dl ds T) (n := dl) (by simp) (fun j hj => ?_) ?_ (by omega) h0
  · obtain ⟨q1, q2, q3, q4⟩ := hT.2 j (by omega)
    cases j with
    | zero =>
      rw [hT.1] at q1 q4
      rw [show (0 : Nat) + 1 = 1 from rfl] at q1 q2 q3 q4
      exact d50 w b more byy lx cx ly cy e1 e2 xs ys x2 x3 ms ss ts m os os2 os3 v kk AA BB dl ds (T 1) _ _ _ hj hd hdl (by omega) rfl (fun s hs => loopE w b more byy lx cx ly cy e1 e2 xs ys x2 x3 ms ss ts m os os2 os3 v kk AA BB dl ds hm hml 0 (T 1) 0 _ _ _ q1 (by omega) q3 q4 hs)
    | succ j =>
      exact d51 w b more byy lx cx ly cy e1 e2 xs ys x2 x3 ms ss ts m os os2 os3 v kk AA BB dl ds (T (j + 1)) (j + 1) _ _ _ (T (j + 1 + 1)) _ _ _ hj hd hdl (by omega) rfl (fun s hs => loopE w b more byy lx cx ly cy e1 e2 xs ys x2 x3 ms ss ts m os os2 os3 v kk AA BB dl ds hm hml (T (j + 1)) (T (j + 1 + 1)) (j + 1) _ _ _ q1 (by omega) q3 q4 hs)
  · have e : HD5 w b more byy lx cx ly cy e1 e2 xs ys x2 x3 ms ss ts m os os2 os3 v kk AA BB dl ds T dl = D5b w b more byy lx cx ly cy e1 e2 xs ys x2 x3 ms ss ts m os os2 os3 v kk AA BB dl ds (T dl) dl (g3 ds n).1 (g3 ds n).2.1 (g3 ds n).2.2 := by
      clear h0
      subst hn
      rfl
    rw [e]
    exact d5e w b more byy lx cx ly cy e1 e2 xs ys x2 x3 ms ss ts m os os2 os3 v kk AA BB dl ds _ _ _ _
end
end Go.Proofs.Ytafhlmpifdclaaa.shift
