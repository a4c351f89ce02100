/- What is amiss is found again, and is grave or not: cross.Find, cross.Grave over whatever heap has the package variables. -/
import Derived.Test.YtmnoegfehgoalaaDoorRows
import Derived.Test.YtmnoegfehgoalaaDoorDRun
namespace Go.Proofs.YtmnoegfehgoalaaDoor.base
open Go.Dg (junk St Ex Ev Hint evCall evCallS evLoop bodied noOver Flats flatOver Heap AObj embOf heapOf ObjRel Globs)
set_option linter.unusedVariables false

def sLine : ByteArray := ⟨#[108, 105, 110, 101]⟩
def sSample : ByteArray := ⟨#[115, 97, 109, 112, 108, 101]⟩
def aCells (s : ByteArray) (a k : Int) : List Value := [.string s, .int .i64 a, .iface 91 (.int .i64 k)]
def HA (e : TypeId) (cs : List Value) : Heap := ⟨8, [.cells cs 89 2 1, .dead, .dead, .dead, .dead, .dead, .dead, .cells [eT] e 2 1]⟩
noncomputable abbrev evD (f : FuncId) (args : List Value) (H : Heap) : Option (Value × Heap × List Nat) := evCall Tryd.prog 7 (bodied Tryd.prog) ovM sbs 2000 20 f args H
def pA : Value := .iface 85 (.pointer (some ⟨7, 0, none⟩))
theorem find_line (e : TypeId) (a : Int) : (evD 9 [pA] (HA e (aCells sLine a 4))).map (·.1) = some (.tuple #[.string sLine, .int .i64 a, .bool true]) := by kernel_rfl
theorem find_sample (e : TypeId) (a : Int) : (evD 9 [pA] (HA e (aCells sSample a 6))).map (·.1) = some (.tuple #[.string sSample, .int .i64 a, .bool true]) := by kernel_rfl
theorem grave_line (e : TypeId) (a : Int) : (evD 10 [pA] (HA e (aCells sLine a 4))).map (·.1) = some (.bool true) := by kernel_rfl
theorem grave_sample (e : TypeId) (a : Int) : (evD 10 [pA] (HA e (aCells sSample a 6))).map (·.1) = some (.bool false) := by kernel_rfl
theorem LA_globs (e : TypeId) (x : Nat × Nat × AObj) : Globs 7 (embOf (LQ e ++ [x])) := by
  intro g hg
  match g, hg with
  | 0, _ => rfl
  | 1, _ => rfl
  | 2, _ => rfl
  | 3, _ => rfl
  | 4, _ => rfl
  | 5, _ => rfl
  | 6, _ => rfl
/-- A function that is run over the value alone, in the model. -/
theorem amiss_calls (w : World) (e : TypeId) (fz : Nat × Nat) (h0 : w.heap[0]? = some (.cells #[eT] e fz)) (g : Nat) (s : ByteArray) (a k : Int) (hg : w.heap[g]? = some (.cells #[.string s, .int .i64 a, .iface 91 (.int .i64 k)] 89)) (f : FuncId) (hf : Nat.ble Dg.Y f = false) (v : Value) (hv : Dg.flat v = true)
    (hrun : (evD f [pA] (HA e (aCells s a k))).map (·.1) = some v) : Calls Tryd.prog f #[.iface 85 (.pointer (some ⟨g, 0, none⟩))] w fun e w' => e = .returned v ∧ RowKit.Below w.heap.size w w' := by
  have hM : embOf (LQ e ++ [(g, 0, .cells (aCells s a k) 89 2 1)]) 7 = some (g, 0, 0) := rfl
  refine Dg.open_callG (args := [pA]) (args' := [.iface 85 (.pointer (some ⟨g, 0, none⟩))]) mixed okB ovM_ok (LQ e ++ [(g, 0, .cells (aCells s a k) 89 2 1)]) (LA_globs e _) (fun x hx => ?_) (Dg.LRel.cons (.iface (.ptr (off := 0) hM)) Dg.LRel.nil) hrun hv hf
  rcases List.mem_append.1 hx with hx | hx
  · simp only [LQ, List.mem_cons, List.not_mem_nil, or_false] at hx
    rcases hx with rfl | rfl | rfl | rfl | rfl | rfl | rfl
    case inl =>
      refine ⟨rfl, fun N' => ⟨#[eT], fz, h0, by simp, fun i v hv => ?_, fun hc => absurd rfl hc, fun _ => rfl, fun hc => absurd hc (by decide)⟩⟩
      cases i with
      | zero =>
        simp only [List.getElem?_cons_zero, Option.some.injEq] at hv
        subst hv
        exact ⟨_, by simp, Dg.globV_rel (LA_globs e _) rfl⟩
      | succ i => simp at hv
    all_goals exact ⟨rfl, fun N' => True.intro⟩
  · rw [List.mem_singleton] at hx
    subst hx
    refine ⟨rfl, fun N' => ⟨_, _, hg, by simp [aCells], fun i v hv => ?_, fun hc => absurd rfl hc, fun _ => rfl, fun hc => absurd hc (by decide)⟩⟩
    rw [Nat.zero_add]
    match i, hv with
    | 0, hv => cases hv; exact ⟨_, rfl, .atom rfl⟩
    | 1, hv => cases hv; exact ⟨_, rfl, .atom rfl⟩
    | 2, hv => cases hv; exact ⟨_, rfl, .iface (.atom rfl)⟩
end Go.Proofs.YtmnoegfehgoalaaDoor.base
