/- The package variables of this seat's programs, as the abstract heap has them. raw.Measure at the lines of the chapter's examples, as a table. 'works' of chapter 27, over whatever heap has the package variables. -/
import Derived.Test.YtmnoegfehgoalaaGreatDoorRows
import Derived.Test.YtmnoegfehgoalaaGreatDoorDgApp
import Derived.Test.YtmnoegfehgoalaaGreatDoorDgLaid
import Derived.MakeChecks
import Derived.LaidHandle
import Derived.Test.YtmnoegfehgoalaaGreatDoorDgLay
namespace Go.Proofs.YtmnoegfehgoalaaGreatDoor.base
open Go.Dg (junk St Ex Ev Hint evCall evCallS evCode evCodeK innerKp evCodeS evLoop cleanSt ue bodied noOver sbOf headOf tailOf bodyOf rAssign rBody lBody Flats flatOver Heap AObj SCall Law ofLaw Fix embOf heapOf ObjRel Globs)
set_option linter.unusedVariables false

def ui (k : IntKind) (l : List Nat) : List Value := l.map fun (n : Nat) => Value.int k (n : Int)
noncomputable def sbs : List Nat := Tryz.prog.funcs.toList.map sbOf
theorem mixed : Tryz.prog.follows .mixedOrders = true := by kernel_rfl
theorem okB : Dg.BodiesOk Tryz.prog (bodied Tryz.prog) := Dg.bodied_ok _
abbrev laidL : List (String × DataW Unit) := [("errors.errorType", Rows.laid_errors_errorType)]
abbrev laidR : List (String × DataW Unit) := []
abbrev laidHd : List (String × DataW Unit) := [("errors.errorType", Rows.laid_errors_errorType)]

/-- A variable's block. -/
theorem var_block {P : Program} {w : World} {n : String} {g : Nat} {cs : Array Value} (hg : P.globalNamed n = some g) (h : w.var? P n = some cs) : ∃ e fz, w.heap[g]? = some (.cells cs e fz) := by
  simp only [World.var?, hg, Option.bind_some] at h
  split at h
  · rename_i e fz hh; cases h; exact ⟨_, _, hh⟩
  · cases h
theorem tab_rel {w : World} {g : Nat} {l : List Value} {cs : Array Value} {e : TypeId} {fz : Nat × Nat} (hb : w.heap[g]? = some (.cells cs e fz)) (hl : cs.toList = l) (hf : Dg.flatL l = true) (M : Dg.Emb) (N : Nat) : ObjRel M N w (.cells l e 6 1) g 0 0 := by
  refine ⟨cs, fz, hb, by rw [← hl]; simp, fun i v hv => ?_, fun h => absurd rfl h, fun _ => rfl, fun _ => hf⟩
  rw [← hl] at hv
  exact ⟨v, by simpa using hv, Dg.vrel_of_flat _ _ (Dg.flatL_get l hf i v (by rw [← hl]; exact hv))⟩
noncomputable def tyG (g : Nat) : TypeId := ((Tryz.prog.globals[g]?).map (·.type)).getD 0
theorem gn0 : Tryz.prog.globalNamed "errors.errorType" = some 0 := by kernel_rfl
theorem rt_is : (Tryz.prog.cutTypes.find? (·.1 == "internal/reflectlite.rtype")).map (·.2) = some 146 := by kernel_rfl
noncomputable def tn : Nat := Tryz.prog.types.size
theorem one_row : ((List.range tn).filter fun t => Tryz.prog.rowNamed t [101, 114, 114, 111, 114]) = [56] := by kernel_rfl
/-- What the type 'error' is to the variable errors.errorType. -/
theorem handle_of {W : World} (h : handlesMet Tryz.prog laidHd W) : ∃ e fz, W.heap[0]? = some (.cells #[.iface 146 (.agg #[.pointer (some ⟨9, 56, none⟩)])] e fz) := by
  obtain ⟨name, u, ty, e1, e2, e3, e4, e5⟩ := h _ (List.mem_singleton.2 rfl)
  have en : name = [101, 114, 114, 111, 114] := (Option.some.inj e1).symm
  subst en
  obtain rfl := Option.some.inj (rt_is.symm.trans e2)
  have hm : ty ∈ (List.range tn).filter fun t => Tryz.prog.rowNamed t [101, 114, 114, 111, 114] := List.mem_filter.2 ⟨List.mem_range.2 e3, e4⟩
  rw [one_row] at hm
  obtain rfl := List.mem_singleton.1 hm
  have hh : typeHandle Tryz.prog 56 = .pointer (some ⟨9, 56, none⟩) := by kernel_rfl
  rw [hh] at e5
  exact var_block gn0 e5
end Go.Proofs.YtmnoegfehgoalaaGreatDoor.base

namespace Go.Proofs.YtmnoegfehgoalaaGreatDoor.base
open Go.Dg (junk St Ex Ev Hint evCall evCallS evLoop bodied noOver Flats flatOver Heap AObj)
set_option linter.unusedVariables false

/-- Are two rows of numbers and truths the same? -/
def eqL : List Value → List Value → Bool
  | [], [] => true
  | .int k n :: r, .int k' n' :: r' => decide (k = k') && (decide (n = n') && eqL r r')
  | .bool b :: r, .bool b' :: r' => (b == b') && eqL r r'
  | _, _ => false
theorem eqL_sound : ∀ a b : List Value, eqL a b = true → a = b := by
  intro a
  induction a with
  | nil =>
    intro b h
    cases b with
    | nil => rfl
    | cons x r => simp [eqL] at h
  | cons x r ih =>
    intro b h
    cases b with
    | nil => cases x <;> simp [eqL] at h
    | cons y r' =>
      cases x <;> cases y <;> simp only [eqL, Bool.and_eq_true, decide_eq_true_eq, beq_iff_eq, Bool.false_eq_true] at h
      · obtain ⟨rfl, h2⟩ := h
        rw [ih r' h2]
      · obtain ⟨rfl, rfl, h2⟩ := h
        rw [ih r' h2]
def w0 (l : Nat) : List Value := [.int .i64 0, .int .u64 l]
def ends (b : Nat) : List Value := [.bool false, .int .u8 b] ++ List.replicate 15 (.int .u8 0)
/-- The line of the example, with its stamps. -/
def lT (a b c d : Nat) : List Value := w0 9487534670410153984 ++ ends 10 ++ ends 11 ++ [.int .u64 a, .int .u64 b, .int .u64 c, .int .u64 d, .bool true, .int .u8 0, .int .u8 0, .int .u8 0, .int .u8 0, .int .i8 0, .int .i8 0, .int .i64 0, .int .i64 0, .int .u8 0, .int .u8 0, .int .u8 0, .int .u8 0]
def lL : List Value := lT 9487534657525252096 9487534661820219392 9487534666115186688 9487534670410153984
noncomputable abbrev evM (l : List Value) : Option (Value × Heap × List Nat) := evCall Tryz.prog 0 (bodied Tryz.prog) noOver sbs 2000 20 26 [.agg ⟨l⟩] ⟨0, []⟩
def two (a b : Int) : Value := .tuple #[.int .i64 a, .int .i64 b]
theorem mL : (evM lL).map (·.1) = some (two 0 8589934592) := by kernel_rfl
theorem flats_of {l : List Value} {v : Value} (hl : Dg.flatL l = true) (hv : Dg.flat v = true) (h : (evM l).map (·.1) = some v) : Flats Tryz.prog 26 [.agg ⟨l⟩] v :=
  Dg.closed_call mixed okB Dg.noOver_ok h (by simp [Dg.flatL, Dg.flat, Dg.flatA, hl]) hv
/-- raw.Measure of these lines. -/
def oM (f : FuncId) (args : List Value) : Option Value := match f, args with
  | 26, [.agg ⟨l⟩] => bif eqL l lL then some (two 0 8589934592) else none
  | _, _ => none
theorem oM_flats : ∀ f args v, oM f args = some v → Flats Tryz.prog f args v := by
  intro f args v h
  unfold oM at h
  split at h
  · rename_i l
    cases h1 : eqL l lL with
    | true => rw [h1, cond_true] at h; cases h; rw [eqL_sound _ _ h1]; exact flats_of rfl rfl mL
    | false => rw [h1, cond_false] at h; cases h
  · cases h
def ovM : Ev := flatOver oM
theorem ovM_ok : Dg.CallOk Tryz.prog 10 ovM ∧ Dg.CallLog ovM := Dg.flatOver_ok oM_flats
end Go.Proofs.YtmnoegfehgoalaaGreatDoor.base

namespace Go.Proofs.YtmnoegfehgoalaaGreatDoor.base
open Go.Dg (junk St Ex Ev Hint evCall evCallS evLoop bodied noOver Flats flatOver Heap AObj embOf heapOf ObjRel Globs)
set_option linter.unusedVariables false

/-- What errors.errorType holds. -/
def eT : Value := .iface 146 (.agg #[.pointer (some ⟨9, 56, none⟩)])
def LQ (e : TypeId) : List (Nat × Nat × AObj) := [(0, 0, .cells [eT] e 2 1), (1, 0, .dead), (2, 0, .dead), (3, 0, .dead), (4, 0, .dead), (5, 0, .dead), (6, 0, .dead), (7, 0, .dead), (8, 0, .dead), (9, 0, .dead)]
def HQ (e : TypeId) : Heap := ⟨10, [.dead, .dead, .dead, .dead, .dead, .dead, .dead, .dead, .dead, .cells [eT] e 2 1]⟩
theorem LQ_heap (e : TypeId) : heapOf (LQ e) = HQ e := rfl
theorem LQ_globs (e : TypeId) : Globs 10 (embOf (LQ e)) := by
  intro g hg
  match g, hg with
  | 0, _ => rfl
  | 1, _ => rfl
  | 2, _ => rfl
  | 3, _ => rfl
  | 4, _ => rfl
  | 5, _ => rfl
  | 6, _ => rfl
  | 7, _ => rfl
  | 8, _ => rfl
  | 9, _ => rfl
/-- The document's examples. -/
theorem run6 (e : TypeId) : (evCall Tryz.prog 10 (bodied Tryz.prog) ovM sbs 2000 20 6 [] (HQ e)).map (·.1) = some (.bool true) := by kernel_rfl
theorem works_at (w : World) (e : TypeId) (fz : Nat × Nat) (h0 : w.heap[0]? = some (.cells #[eT] e fz)) : Calls Tryz.prog 6 #[] w fun e w' => e = .returned (.bool true) ∧ RowKit.Below w.heap.size w w' := by
  refine Dg.open_callG (args := []) (args' := []) mixed okB ovM_ok (LQ e) (LQ_globs e) (fun x hx => ?_) Dg.LRel.nil (by rw [LQ_heap]; exact run6 e) rfl rfl
  simp only [LQ, List.mem_cons, List.not_mem_nil, or_false] at hx
  rcases hx with rfl | rfl | rfl | rfl | rfl | rfl | rfl | rfl | rfl | rfl
  case inl =>
    refine ⟨rfl, fun N' => ⟨#[eT], fz, h0, by simp, fun i v hv => ?_, fun hc => absurd rfl hc, fun _ => rfl, fun hc => absurd hc (by decide)⟩⟩
    cases i with
    | zero =>
      simp only [List.getElem?_cons_zero, Option.some.injEq] at hv
      subst hv
      exact ⟨_, by simp, Dg.globV_rel (LQ_globs e) rfl⟩
    | succ i => simp at hv
  all_goals exact ⟨rfl, fun N' => True.intro⟩
end Go.Proofs.YtmnoegfehgoalaaGreatDoor.base
