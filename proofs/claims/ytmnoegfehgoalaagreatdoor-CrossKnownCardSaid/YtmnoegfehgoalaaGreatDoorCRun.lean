/- 'works' of chapter 27 as a law over whatever heap has the package variables; 'CrossKnown' as it is run. -/
import Derived.Test.YtmnoegfehgoalaaGreatDoorRows
import Derived.Test.YtmnoegfehgoalaaGreatDoorCMea
namespace Go.Proofs.YtmnoegfehgoalaaGreatDoor.base
open Go.Dg (junk St Ex Ev Hint evCall evCallS evLoop bodied noOver Flats flatOver Heap AObj embOf heapOf ObjRel Globs)
set_option linter.unusedVariables false

/-- What errors.errorType holds. -/
def eT : Value := .iface 146 (.agg #[.pointer (some ⟨9, 56, none⟩)])
def isET : Value → Bool
  | .iface t (.agg ⟨[.pointer (some ⟨k, o, none⟩)]⟩) => Nat.beq t 146 && (Nat.beq k 9 && Nat.beq o 56)
  | _ => false
theorem isET_sound : ∀ v, isET v = true → v = eT := by
  intro v h
  unfold isET at h
  split at h
  · rename_i t k o
    simp only [Bool.and_eq_true] at h
    obtain rfl := Nat.eq_of_beq_eq_true h.1
    obtain rfl := Nat.eq_of_beq_eq_true h.2.1
    obtain rfl := Nat.eq_of_beq_eq_true h.2.2
    rfl
  · cases h
def okH (H : Heap) : Bool := match H.get 0, H.get 1 with
  | .cells [v] _ md esz, .cells cs _ md1 esz1 => isET v && (Nat.beq md 2 && (Nat.beq esz 1 && (Nat.beq md1 6 && (Nat.beq esz1 1 && eqL cs (ui .u64 tab1)))))
  | _, _ => false
theorem okH_sound {H : Heap} (h : okH H = true) : ∃ e e1, H.get 0 = .cells [eT] e 2 1 ∧ H.get 1 = .cells (ui .u64 tab1) e1 6 1 := by
  unfold okH at h
  split at h
  · rename_i v e md esz cs e1 md1 esz1 h0 h1
    simp only [Bool.and_eq_true] at h
    obtain ⟨a, b, c, d, f, g⟩ := h
    obtain rfl := isET_sound _ a
    obtain rfl := Nat.eq_of_beq_eq_true b
    obtain rfl := Nat.eq_of_beq_eq_true c
    obtain rfl := Nat.eq_of_beq_eq_true d
    obtain rfl := Nat.eq_of_beq_eq_true f
    rw [eqL_sound _ _ g] at h1
    exact ⟨e, e1, h0, h1⟩
  · cases h
def LQ (e e1 : TypeId) : List (Nat × Nat × AObj) := [(0, 0, .cells [eT] e 2 1), (1, 0, .cells (ui .u64 tab1) e1 6 1), (2, 0, .dead), (3, 0, .dead), (4, 0, .dead), (5, 0, .dead), (6, 0, .dead), (7, 0, .dead), (8, 0, .dead), (9, 0, .dead)]
def HQ (e e1 : TypeId) : Heap := ⟨10, [.dead, .dead, .dead, .dead, .dead, .dead, .dead, .dead, .cells (ui .u64 tab1) e1 6 1, .cells [eT] e 2 1]⟩
theorem LQ_heap (e e1 : TypeId) : heapOf (LQ e e1) = HQ e e1 := rfl
theorem LQ_globs (e e1 : TypeId) : Globs 10 (embOf (LQ e e1)) := by
  intro g hg
  match g, hg with
  | 0, _ => rfl
  | 1, _ => rfl
  | 2, _ => rfl
  | 3, _ => rfl
  | 4, _ => rfl
  | 5, _ => rfl
  | 6, _ => rfl
  | 7, _ => rfl
  | 8, _ => rfl
  | 9, _ => rfl
/-- The document's examples. -/
theorem run6 (e e1 : TypeId) : (evCall Tryz.prog 10 (bodied Tryz.prog) ovM sbs 2000 20 6 [] (HQ e e1)).map (·.1) = some (.bool true) := by kernel_rfl
theorem works_calls {M : Dg.Emb} {N : Nat} {H : Heap} {w : World} (hg : Globs 10 M) (hr : Dg.HRel M N H w) (h : okH H = true) : Calls Tryz.prog 6 #[] w fun e w' => e = .returned (.bool true) ∧ RowKit.Below w.heap.size w w' := by
  obtain ⟨e, e1, h0, h1⟩ := okH_sound h
  obtain ⟨b, o, sp, p1, p2⟩ := hr.obj 0 (by rw [h0]; rfl)
  rw [hg 0 (by decide)] at p1
  cases p1
  rw [h0] at p2
  obtain ⟨C, fz, k1, k2, k3, _, k5, _⟩ := p2
  obtain ⟨b', o', sp', q1, q2⟩ := hr.obj 1 (by rw [h1]; rfl)
  rw [hg 1 (by decide)] at q1
  cases q1
  rw [h1] at q2
  obtain ⟨C1, fz1, m1, m2, m3, _, m5, m6⟩ := q2
  have hfl : Dg.flatL (ui .u64 tab1) = true := by kernel_rfl
  refine Dg.open_callG (args := []) (args' := []) mixed okB ovM_ok (LQ e e1) (LQ_globs e e1) (fun x hx => ?_) Dg.LRel.nil (by rw [LQ_heap]; exact run6 e e1) rfl rfl
  simp only [LQ, List.mem_cons, List.not_mem_nil, or_false] at hx
  rcases hx with rfl | rfl | rfl | rfl | rfl | rfl | rfl | rfl | rfl | rfl
  case inl =>
    refine ⟨rfl, fun N' => ⟨C, fz, k1, by simpa using k2, fun i v hv => ?_, fun hc => absurd rfl hc, fun _ => rfl, fun hc => absurd hc (by decide)⟩⟩
    obtain ⟨u, u1, u2⟩ := k3 i v hv
    cases i with
    | zero =>
      simp only [List.getElem?_cons_zero, Option.some.injEq] at hv
      subst hv
      have := Dg.globV_eq hg u2 rfl
      subst this
      exact ⟨_, u1, Dg.globV_rel (LQ_globs e e1) rfl⟩
    | succ i => simp at hv
  case inr.inl =>
    refine ⟨rfl, fun N' => ⟨C1, fz1, m1, by simpa using m2, fun i v hv => ?_, fun hc => absurd rfl hc, fun _ => rfl, fun _ => hfl⟩⟩
    obtain ⟨u, u1, u2⟩ := m3 i v hv
    have hv' := Dg.flatL_get _ hfl i v hv
    have := u2.eq_of_flat hv'
    subst this
    exact ⟨_, u1, Dg.vrel_of_flat _ _ hv'⟩
  all_goals exact ⟨rfl, fun N' => True.intro⟩
def ovK : Ev := fun f args H => match f with
  | 6 => match args with
    | [] => bif okH H then some (.bool true, H, []) else none
    | _ => none
  | f => ovM f args H
theorem ovK_ok : Dg.CallOk Tryz.prog 10 ovK ∧ Dg.CallLog ovK := by
  constructor
  · intro f args H v H' log he hY N M w args' hg hr hl
    have hl' : Dg.LRel M args args'.toList := hl
    unfold ovK at he
    split at he
    · split at he
      · cases hk : okH H with
        | false => rw [hk, cond_false] at he; cases he
        | true =>
          rw [hk, cond_true] at he
          cases he
          have e := hl'.nil_inv
          have e2 : args' = #[] := by cases args'; simp_all
          rw [e2]
          exact (works_calls hg hr hk).mono fun e w' ⟨he, hb⟩ => ⟨M, _, he, Dg.vrel_of_flat _ _ rfl, .of_below hr hb⟩
      · cases he
    · exact ovM_ok.1 _ args H v H' log he hY N M w args' hg hr hl
  · intro f args H v H' log he
    unfold ovK at he
    split at he
    · split at he
      · cases hk : okH H with
        | false => rw [hk, cond_false] at he; cases he
        | true =>
          rw [hk, cond_true] at he
          cases he
          exact fun hlen => ⟨hlen, Nat.le_refl _, fun k _ _ => rfl⟩
      · cases he
    · exact ovM_ok.2 _ args H v H' log he
/-! ### The row as it is run: each meeting by itself. -/
def sL : List Value := ends 11 ++ [.int .u16 0] ++ ends 10 ++ [.int .u16 0] ++ w0 9487534657525252096 ++ w0 9487534661820219392 ++ w0 9487534666115186688 ++ w0 9487534670410153984 ++ [.int .i64 0, .int .i64 8589934592, .int .i64 0, .int .u8 0]
def yL : List Value := lT 9487534657525252096 9487534661820219392 9487534666115186679 9487534670410153984
def sl (k : Nat) : Value := .slice (some ⟨k, 0, none⟩) 1 1
def sf (k : Nat) : Value := .slice (some ⟨k, 0, some 0⟩) 1 1
def ln (l : List Value) : AObj := .cells l 52 0 1
def sm : AObj := .cells sL 47 0 1
def r7 : List AObj := [ln xL, sm, ln zL, ln yL, ln xL, ln lL, sm]
def r8 : List AObj := .cells [.int .i64 0, .int .i64 0, .int .i64 0, .int .i64 (-4), .int .i64 (-8)] 78 5 5 :: r7
def r9 : List AObj := .cells [.int .i64 0] 3 5 1 :: .cells [.int .i64 0] 3 5 1 :: ln yL :: r8
def r10 : List AObj := .cells [.string ⟨#[108, 97, 103]⟩, .int .i64 0, .iface 74 (.int .i64 5)] 67 4 1 :: ln zL :: r9
def v7 : Value := .tuple #[sf 17, .slice none 0 0, .slice none 0 0, .int .i64 0]
def v8 : Value := .tuple #[.slice none 0 0, sf 19, sf 20, .int .i64 0]
def v9 : Value := .tuple #[.iface 63 (.pointer (some ⟨22, 0, none⟩)), .int .i64 0]
def v10 : Value := .tuple #[.nilIface, .int .i64 0]
noncomputable abbrev evK (f : FuncId) (args : List Value) (H : Heap) : Option (Value × Heap × List Nat) := evCall Tryz.prog 10 (bodied Tryz.prog) ovK sbs 2000 19 f args H
theorem q7 (E : Nat → TypeId) : evK 7 [sl 16, sl 15] (H0 E r7) = some (v7, H0 E r8, []) := by kernel_rfl
theorem q8 (E : Nat → TypeId) : evK 7 [sl 18, sl 15] (H0 E (ln yL :: r8)) = some (v8, H0 E r9, []) := by kernel_rfl
theorem q9 (E : Nat → TypeId) : evK 12 [sl 21, sl 15, .int .i64 6] (H0 E (ln zL :: r9)) = some (v9, H0 E r10, []) := by kernel_rfl
theorem q10 (E : Nat → TypeId) : evK 12 [sl 23, sl 15, .int .i64 7] (H0 E (ln zL :: r10)) = some (v10, H0 E (ln zL :: r10), []) := by kernel_rfl
theorem run4' (E : Nat → TypeId) : evCall Tryz.prog 10 (bodied Tryz.prog) ovK sbs 2000 20 4 [] (H0 E []) = some (.bool true, H0 E [], []) :=
  Dg.evCall_hint (hs' := []) [.call 7 v7 (H0 E r8) [], .call 7 v8 (H0 E r9) [], .call 12 v9 (H0 E r10) [], .call 12 v10 (H0 E (ln zL :: r10)) []]
    [evK 7 [sl 16, sl 15] (H0 E r7) = some (v7, H0 E r8, []), evK 7 [sl 18, sl 15] (H0 E (ln yL :: r8)) = some (v8, H0 E r9, []), evK 12 [sl 21, sl 15, .int .i64 6] (H0 E (ln zL :: r9)) = some (v9, H0 E r10, []), evK 12 [sl 23, sl 15, .int .i64 7] (H0 E (ln zL :: r10)) = some (v10, H0 E (ln zL :: r10), [])] (by kernel_rfl)
    ⟨q7 E, q8 E, q9 E, q10 E, trivial⟩
theorem run4 (E : Nat → TypeId) : (evCall Tryz.prog 10 (bodied Tryz.prog) ovK sbs 2000 20 4 [] (H0 E [])).map (·.1) = some (.bool true) := by rw [run4' E]; rfl
end Go.Proofs.YtmnoegfehgoalaaGreatDoor.base
