/- errors.As, fault.Kind and fault.Off. errors.As, fault.Kind and fault.Off find the fault. fault.Kind and fault.Off find the fault's kind and place. -/
import Derived.Test.YtpgddboigegplaaGreatDoorRows
import Derived.Test.YtpgddboigegplaaGreatDoorFcB
namespace Go.Proofs.YtpgddboigegplaaGreatDoor.base
open Go.RowKit Go.Extern.Stop Go.Stop Go.Extern
set_option linter.unusedVariables false

theorem mKind (t : Nat) (w : World) : (Go.method (212 + Made.depth) 108 (.agg #[hdl t]) "Kind").run Tryz.prog w = .ok (120, hdl t) w := by kernel_rfl
theorem mElem (v : Value) (w : World) : (Go.method (212 + Made.depth) 108 v "Elem").run Tryz.prog w = .ok (138, v) w := by kernel_rfl
theorem mImpl (v : Value) (w : World) : (Go.method (212 + Made.depth) 108 v "Implements").run Tryz.prog w = .ok (139, v) w := by kernel_rfl
theorem k60 (w : World) : (callFunc 120 #[hdl 60]).run Tryz.prog w = .ok (.value (.int .u8 22)) w := by kernel_rfl
theorem k71 (w : World) : (callFunc 120 #[hdl 71]).run Tryz.prog w = .ok (.value (.int .u8 22)) w := by kernel_rfl
theorem k45 (w : World) : (callFunc 120 #[hdl 45]).run Tryz.prog w = .ok (.value (.int .u8 2)) w := by kernel_rfl
theorem k70 (w : World) : (callFunc 120 #[hdl 70]).run Tryz.prog w = .ok (.value (.int .u8 22)) w := by kernel_rfl
theorem e60 (w : World) : (callFunc 138 #[.agg #[hdl 60]]).run Tryz.prog w = .ok (.value (rt 45)) w := by kernel_rfl
theorem e71 (w : World) : (callFunc 138 #[.agg #[hdl 71]]).run Tryz.prog w = .ok (.value (rt 70)) w := by kernel_rfl
theorem i45 (w : World) : (callFunc 139 #[.agg #[hdl 45], rt 27]).run Tryz.prog w = .ok (.value (.bool true)) w := by kernel_rfl
theorem i70 (w : World) : (callFunc 139 #[.agg #[hdl 70], rt 27]).run Tryz.prog w = .ok (.value (.bool true)) w := by kernel_rfl
theorem vt60 (a : Addr) (w : World) : (callFunc 42 #[rv 60 a 150]).run Tryz.prog w = .ok (.value (rt 60)) w := by kernel_rfl
theorem vt71 (a : Addr) (w : World) : (callFunc 42 #[rv 71 a 150]).run Tryz.prog w = .ok (.value (rt 71)) w := by kernel_rfl
theorem val60 (a : Addr) (w : World) : (callFunc 41 #[.iface 60 (.pointer (some a))]).run Tryz.prog w = .ok (.value (rv 60 ⟨w.heap.size, 0, none⟩ 150)) (w.alloc (.cells #[.pointer (some a)] 60)) := valueOf_run 60 (.pointer (some a)) w (kd := 22) 150 rfl (by kernel_rfl) (by kernel_rfl)
theorem val71 (a : Addr) (w : World) : (callFunc 41 #[.iface 71 (.pointer (some a))]).run Tryz.prog w = .ok (.value (rv 71 ⟨w.heap.size, 0, none⟩ 150)) (w.alloc (.cells #[.pointer (some a)] 71)) := valueOf_run 71 (.pointer (some a)) w (kd := 22) 150 rfl (by kernel_rfl) (by kernel_rfl)
end Go.Proofs.YtpgddboigegplaaGreatDoor.base

namespace Go.Proofs.YtpgddboigegplaaGreatDoor.base
open Go.RowKit Go.Extern.Stop Go.Stop Go.Extern
set_option linter.unusedVariables false

/-- The world in which errors.as is called. -/
theorem as_call_sort (W : World) (fb fo : Nat) (k o : Int) (hF : FaultAt W fb fo k o) (ab : Nat) (hA : (∃ old, W.cell? ⟨ab, 0, none⟩ = some old) ∧ W.frozen? ⟨ab, 0, none⟩ = false) (l : List Lk) (t : TypeId) (v : Value) (hl : Lead W fb fo t v l) (o2 : Obj) :
    Calls Tryz.prog 44 #[.iface t v, .iface 60 (.pointer (some ⟨ab, 0, none⟩)), rv 60 ⟨W.heap.size, 0, none⟩ 150, rt 45] ((W.alloc (.cells #[.pointer (some ⟨ab, 0, none⟩)] 60)).alloc o2) (AsPost W ab (.int .i64 k)) := by
  have h1 := (Below.refl W.heap.size W).alloc (Nat.le_refl _) (.cells #[.pointer (some ⟨ab, 0, none⟩)] 60)
  have h2 := h1.alloc (by simp) o2
  have h3 := (Below.refl (W.alloc (.cells #[.pointer (some ⟨ab, 0, none⟩)] 60)).heap.size (W.alloc (.cells #[.pointer (some ⟨ab, 0, none⟩)] 60))).alloc (Nat.le_refl _) o2
  have hn := heap_alloc_new W (.cells #[.pointer (some ⟨ab, 0, none⟩)] 60)
  obtain ⟨⟨old, a1⟩, a2⟩ := hA
  have hV : VOk ((W.alloc (.cells #[.pointer (some ⟨ab, 0, none⟩)] 60)).alloc o2) W.heap.size ab := VOk.up h3 ⟨by unfold World.cell?; simp only [hn]; rfl, ⟨old, cell_up h1 a1⟩, by rw [← a2]; exact h1.frozen (p := ⟨ab, 0, none⟩) (Lib.lt_of_cell a1)⟩
  refine (as_any _ fb fo k o (hF.up h2) .sort W.heap.size ab hV (l.length + 1) l (by omega) t v (hl.up h2) _ (Below.refl _ _)).mono ?_
  rintro e w' ⟨rfl, w1, hb, rfl⟩
  exact ⟨rfl, w1, h2.trans (hb.mono h2.size), rfl⟩
set_option maxHeartbeats 1000000 in
set_option maxRecDepth 1000000 in
theorem errorsAs_sort (W : World) (fb fo : Nat) (k o : Int) (hF : FaultAt W fb fo k o) (hE : W.cell? ⟨0, 0, none⟩ = some (rt 27)) (ab : Nat) (hA : (∃ old, W.cell? ⟨ab, 0, none⟩ = some old) ∧ W.frozen? ⟨ab, 0, none⟩ = false) (l : List Lk) (t : TypeId) (v : Value) (hl : Lead W fb fo t v l) :
    Calls Tryz.prog 27 #[.iface t v, .iface 60 (.pointer (some ⟨ab, 0, none⟩))] W (AsPost W ab (.int .i64 k)) := by
  have hcall := as_call_sort W fb fo k o hF ab hA l t v hl
  have m1 := mKind 60
  have m2 := mElem
  have m3 := mImpl
  have m4 := mKind 45
  have f1 := k60
  have f2 := k45
  have f3 := e60
  have f4 := i45
  have f5 := vt60
  have f6 := val60
  have f7 := fun w h => isNil_run (t := 60) (by kernel_rfl) (by kernel_rfl) ⟨W.heap.size, 0, none⟩ ⟨ab, 0, none⟩ w h
  have h0 : 0 < W.heap.size := Lib.lt_of_cell hE
  have h00 : ¬ W.heap.size = 0 := by omega
  have h01 : ¬ 0 = W.heap.size := by omega
  clear hF hl hA
  go_enter Tryz.func27, Tryz.ntmps27
  go_wp2_with fail
  refine (hcall _).mono ?_
  rintro e w' ⟨rfl, w1, hb, rfl⟩
  go_wp2_with fail
  go_ret
  exact ⟨rfl, w1, hb, rfl⟩
/-- The world in which errors.as is called. -/
theorem as_call_self (W : World) (fb fo : Nat) (k o : Int) (hF : FaultAt W fb fo k o) (ab : Nat) (hA : (∃ old, W.cell? ⟨ab, 0, none⟩ = some old) ∧ W.frozen? ⟨ab, 0, none⟩ = false) (l : List Lk) (t : TypeId) (v : Value) (hl : Lead W fb fo t v l) (o2 : Obj) :
    Calls Tryz.prog 44 #[.iface t v, .iface 71 (.pointer (some ⟨ab, 0, none⟩)), rv 71 ⟨W.heap.size, 0, none⟩ 150, rt 70] ((W.alloc (.cells #[.pointer (some ⟨ab, 0, none⟩)] 71)).alloc o2) (AsPost W ab (.pointer (some ⟨fb, fo, none⟩))) := by
  have h1 := (Below.refl W.heap.size W).alloc (Nat.le_refl _) (.cells #[.pointer (some ⟨ab, 0, none⟩)] 71)
  have h2 := h1.alloc (by simp) o2
  have h3 := (Below.refl (W.alloc (.cells #[.pointer (some ⟨ab, 0, none⟩)] 71)).heap.size (W.alloc (.cells #[.pointer (some ⟨ab, 0, none⟩)] 71))).alloc (Nat.le_refl _) o2
  have hn := heap_alloc_new W (.cells #[.pointer (some ⟨ab, 0, none⟩)] 71)
  obtain ⟨⟨old, a1⟩, a2⟩ := hA
  have hV : VOk ((W.alloc (.cells #[.pointer (some ⟨ab, 0, none⟩)] 71)).alloc o2) W.heap.size ab := VOk.up h3 ⟨by unfold World.cell?; simp only [hn]; rfl, ⟨old, cell_up h1 a1⟩, by rw [← a2]; exact h1.frozen (p := ⟨ab, 0, none⟩) (Lib.lt_of_cell a1)⟩
  refine (as_any _ fb fo k o (hF.up h2) .self W.heap.size ab hV (l.length + 1) l (by omega) t v (hl.up h2) _ (Below.refl _ _)).mono ?_
  rintro e w' ⟨rfl, w1, hb, rfl⟩
  exact ⟨rfl, w1, h2.trans (hb.mono h2.size), rfl⟩
set_option maxHeartbeats 1000000 in
set_option maxRecDepth 1000000 in
theorem errorsAs_self (W : World) (fb fo : Nat) (k o : Int) (hF : FaultAt W fb fo k o) (hE : W.cell? ⟨0, 0, none⟩ = some (rt 27)) (ab : Nat) (hA : (∃ old, W.cell? ⟨ab, 0, none⟩ = some old) ∧ W.frozen? ⟨ab, 0, none⟩ = false) (l : List Lk) (t : TypeId) (v : Value) (hl : Lead W fb fo t v l) :
    Calls Tryz.prog 27 #[.iface t v, .iface 71 (.pointer (some ⟨ab, 0, none⟩))] W (AsPost W ab (.pointer (some ⟨fb, fo, none⟩))) := by
  have hcall := as_call_self W fb fo k o hF ab hA l t v hl
  have m1 := mKind 71
  have m2 := mElem
  have m3 := mImpl
  have m4 := mKind 70
  have f1 := k71
  have f2 := k70
  have f3 := e71
  have f4 := i70
  have f5 := vt71
  have f6 := val71
  have f7 := fun w h => isNil_run (t := 71) (by kernel_rfl) (by kernel_rfl) ⟨W.heap.size, 0, none⟩ ⟨ab, 0, none⟩ w h
  have h0 : 0 < W.heap.size := Lib.lt_of_cell hE
  have h00 : ¬ W.heap.size = 0 := by omega
  have h01 : ¬ 0 = W.heap.size := by omega
  clear hF hl hA
  go_enter Tryz.func27, Tryz.ntmps27
  go_wp2_with fail
  refine (hcall _).mono ?_
  rintro e w' ⟨rfl, w1, hb, rfl⟩
  go_wp2_with fail
  go_ret
  exact ⟨rfl, w1, hb, rfl⟩
end Go.Proofs.YtpgddboigegplaaGreatDoor.base

namespace Go.Proofs.YtpgddboigegplaaGreatDoor.base
open Go.RowKit Go.Extern.Stop Go.Stop Go.Extern
set_option linter.unusedVariables false

theorem new_cell (W : World) (v : Value) (t : TypeId) : (W.alloc (.cells #[v] t)).cell? ⟨W.heap.size, 0, none⟩ = some v ∧ (W.alloc (.cells #[v] t)).frozen? ⟨W.heap.size, 0, none⟩ = false := by
  have hn := heap_alloc_new W (.cells #[v] t)
  constructor
  · unfold World.cell?; simp only [hn]; rfl
  · unfold World.frozen?; simp only [hn]; rfl
set_option maxHeartbeats 1000000 in
set_option maxRecDepth 1000000 in
theorem kind_any (W : World) (fb fo : Nat) (k o : Int) (hF : FaultAt W fb fo k o) (hE : W.cell? ⟨0, 0, none⟩ = some (rt 27)) (l : List Lk) (t : TypeId) (v : Value) (hl : Lead W fb fo t v l) :
    Calls Tryz.prog 11 #[.iface t v] W fun e w' => e = .returned (.tuple #[.int .i64 k, .bool true]) ∧ Below W.heap.size W w' := by
  have h1 := (Below.refl W.heap.size W).alloc (Nat.le_refl _) (.cells #[.int .i64 0] 45)
  obtain ⟨c1, c2⟩ := new_cell W (.int .i64 0) 45
  have hcall := errorsAs_sort (W.alloc (.cells #[.int .i64 0] 45)) fb fo k o (hF.up h1) (cell_up h1 hE) W.heap.size ⟨⟨_, c1⟩, c2⟩ l t v (hl.up h1)
  have C1 := Lib.hid c1
  clear hF hl hE c1 c2
  go_enter Tryz.func11, Tryz.ntmps11
  go_wp2_with fail
  refine hcall.mono ?_
  rintro e w' ⟨rfl, w1, hb, rfl⟩
  have d1 : (w1.setCell ⟨W.heap.size, 0, none⟩ (.int .i64 k)).cell? ⟨W.heap.size, 0, none⟩ = some (.int .i64 k) := World.cell?_setCell_same _ _ _ (cell_up hb C1.out)
  go_wp2_with fail
  go_ret2
  exact ⟨rfl, (h1.trans (hb.mono h1.size)).setCell (Nat.le_refl _) _⟩
set_option maxHeartbeats 1000000 in
set_option maxRecDepth 1000000 in
theorem off_any (W : World) (fb fo : Nat) (k o : Int) (hF : FaultAt W fb fo k o) (hE : W.cell? ⟨0, 0, none⟩ = some (rt 27)) (l : List Lk) (t : TypeId) (v : Value) (hl : Lead W fb fo t v l) :
    Calls Tryz.prog 12 #[.iface t v] W fun e w' => e = .returned (.tuple #[.int .i64 o, .bool true]) ∧ Below W.heap.size W w' := by
  have h1 := (Below.refl W.heap.size W).alloc (Nat.le_refl _) (.cells #[.pointer none] 70)
  obtain ⟨c1, c2⟩ := new_cell W (.pointer none) 70
  have hcall := errorsAs_self (W.alloc (.cells #[.pointer none] 70)) fb fo k o (hF.up h1) (cell_up h1 hE) W.heap.size ⟨⟨_, c1⟩, c2⟩ l t v (hl.up h1)
  have C1 := Lib.hid c1
  have HF := Lib.hid hF
  clear hF hl hE c1 c2
  go_enter Tryz.func12, Tryz.ntmps12
  go_wp2_with fail
  refine hcall.mono ?_
  rintro e w' ⟨rfl, w1, hb, rfl⟩
  have d1 : (w1.setCell ⟨W.heap.size, 0, none⟩ (.pointer (some ⟨fb, fo, none⟩))).cell? ⟨W.heap.size, 0, none⟩ = some (.pointer (some ⟨fb, fo, none⟩)) := World.cell?_setCell_same _ _ _ (cell_up hb C1.out)
  have hb2 : Below W.heap.size W (w1.setCell ⟨W.heap.size, 0, none⟩ (.pointer (some ⟨fb, fo, none⟩))) := (h1.trans (hb.mono h1.size)).setCell (Nat.le_refl W.heap.size) _
  have d2 := (HF.out.up hb2).2
  go_wp2_with fail
  go_ret2
  exact ⟨rfl, hb2⟩
end Go.Proofs.YtpgddboigegplaaGreatDoor.base
