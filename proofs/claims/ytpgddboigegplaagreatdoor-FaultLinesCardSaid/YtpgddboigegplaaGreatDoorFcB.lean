/- Package reflectlite's functions where errors.As calls them. Closed facts of reflectlite at chapter 06's error types. errors.As finds the fault, and its sort, in whatever leads to it. -/
import Derived.Test.YtpgddboigegplaaGreatDoorRows
import Derived.Test.YtpgddboigegplaaGreatDoorFcA
import Derived.Test.YtpgddboigegplaaGreatDoorDgRefl
import Derived.Laws.IdiomCopy
import Derived.Deep.MidRow
import Derived.Deep.LoopGhost
namespace Go.Proofs.YtpgddboigegplaaGreatDoor.base
open Go.RowKit Go.Extern.Stop Go.Stop Go.Extern
open Go.Dg (find_vIsNil find_vElem find_vSet parts_run mk_run run_of_eval0 eval0 tyOf)
set_option linter.unusedVariables false
set_option linter.unusedSimpArgs false

abbrev hdl (t : Nat) : Value := .pointer (some ⟨14, t, none⟩)
/-- A Value: a type's handle, where it lies, its flags. -/
abbrev rv (t : Nat) (a : Addr) (f : Int) : Value := .agg #[hdl t, .pointer (some a), .int .u64 f]
abbrev rt (t : Nat) : Value := .iface 108 (.agg #[hdl t])
theorem load_one {t : TypeId} (ht : eval0 Tryz.prog (isAgg t) = some false) {a : Addr} {v : Value} {w : World} (h : w.cell? a = some v) : (loadVar t a).run Tryz.prog w = .ok v w := by
  simp only [loadVar, Sem.run_bind, run_of_eval0 ht, Result.andThen_ok, Bool.false_eq_true, if_false, run_load, h]
theorem isNil_run {t : TypeId} (ht : tyOf Tryz.prog (hdl t) = some t) (hg : eval0 Tryz.prog (isAgg t) = some false) (b a : Addr) (w : World) (hc : w.cell? b = some (.pointer (some a))) :
    (callFunc 43 #[rv t b 150]).run Tryz.prog w = .ok (.value (.bool false)) w := by
  obtain ⟨q1, q2⟩ := find_vIsNil (fn := Tryz.f43) (by kernel_rfl) (by kernel_rfl)
  have hd2 : ∀ x, ReflectliteValue.method (ReflectliteValue.valueError "reflectlite.Value.IsNil" 0) ReflectliteValue.isNil #[x] = (do
    match ← ReflectliteValue.parts x with
    | none => ReflectliteValue.valueError "reflectlite.Value.IsNil" 0
    | some (t, a, fl) => ReflectliteValue.isNil t a fl (fl % 32)) := fun _ => rfl
  rw [run_callFunc_extern Tryz.func43 (by kernel_rfl) (by kernel_rfl) q1 q2]
  simp only [hd2, Sem.run_bind, parts_run (show ¬ ((150 : Int) = 0) by decide) w ht, Result.andThen_ok, ReflectliteValue.isNil]
  have h22 : (150 : Int).toNat % 32 = 22 := rfl
  have hcc : (!([18, 19, 20, 21, 22, 23, 26].contains 22)) = false := by decide
  simp only [h22, hcc, Bool.false_eq_true, if_false, Sem.run_bind, Sem.run_pure, Result.andThen_ok, load_one hg hc]
theorem elem_run {t e : TypeId} {kd : Nat} (f : Int) (ef : f = Int.ofNat (kd + 128 + 256)) (ht : tyOf Tryz.prog (hdl t) = some t) (hg : eval0 Tryz.prog (isAgg t) = some false) (he : eval0 Tryz.prog (Rtype.elem? t) = some (some e)) (hh : eval0 Tryz.prog (Rtype.handle e) = some (hdl e)) (hk : eval0 Tryz.prog (Rtype.kind e) = some kd) (b a : Addr) (w : World) (hc : w.cell? b = some (.pointer (some a))) :
    (callFunc 51 #[rv t b 150]).run Tryz.prog w = .ok (.value (rv e a f)) w := by
  subst ef
  obtain ⟨q1, q2⟩ := find_vElem (fn := Tryz.f51) (by kernel_rfl) (by kernel_rfl)
  have hd2 : ∀ x, ReflectliteValue.method (ReflectliteValue.valueError "reflectlite.Value.Elem" 0) ReflectliteValue.elem #[x] = (do
    match ← ReflectliteValue.parts x with
    | none => ReflectliteValue.valueError "reflectlite.Value.Elem" 0
    | some (t, a, fl) => ReflectliteValue.elem t a fl (fl % 32)) := fun _ => rfl
  rw [run_callFunc_extern Tryz.func51 (by kernel_rfl) (by kernel_rfl) q1 q2]
  simp only [hd2, Sem.run_bind, parts_run (show ¬ ((150 : Int) = 0) by decide) w ht, Result.andThen_ok, ReflectliteValue.elem]
  have h22 : (150 : Int).toNat % 32 = 22 := rfl
  have hcc : ((22 != 20 && 22 != 22 : Bool)) = false := by decide
  simp only [h22, hcc, Bool.false_eq_true, if_false, Sem.run_bind, Sem.run_pure, Result.andThen_ok, load_one hg hc, run_of_eval0 he, mk_run hh hk, ReflectliteValue.flagAddr]
theorem set_run {e : TypeId} (ht : tyOf Tryz.prog (hdl e) = some e) (hg : eval0 Tryz.prog (isAgg e) = some false) (hs : eval0 Tryz.prog (sizeOf e) = some 1) (ha : eval0 Tryz.prog (Rtype.directlyAssignable e e) = some true) (f1 f2 : Int) (h1 : ¬ f1 = 0) (h3 : (f1.toNat / 256 % 2 == 0) = false) (h2 : ¬ f2 = 0)
    (ab ao : Nat) (b : Addr) (w : World) (v old : Value) (hc : w.cell? b = some v) (hv : v.cells = #[v]) (hv1 : v.oneCell' = true) (hd : w.cell? ⟨ab, ao, none⟩ = some old) (hf : w.frozen? ⟨ab, ao, none⟩ = false) :
    (callFunc 52 #[rv e ⟨ab, ao, none⟩ f1, rv e b f2]).run Tryz.prog w = .ok (.value (.tuple #[])) (w.setCell ⟨ab, ao, none⟩ v) := by
  obtain ⟨q1, q2⟩ := find_vSet (fn := Tryz.f52) (by kernel_rfl) (by kernel_rfl)
  have hd2 : ∀ x y, ReflectliteValue.set #[x, y] = (do
    let (some (dst, a, fl), some (src, b, _)) := (← ReflectliteValue.parts x, ← ReflectliteValue.parts y)
      | unsupported (.noEntry "extern/(internal/reflectlite.Value).Set.zeroValue")
    if fl / ReflectliteValue.flagAddr % 2 == 0 then unsupported (.noEntry "extern/(internal/reflectlite.Value).Set.unaddressable")
    let val ← loadVar src b
    if ← Rtype.directlyAssignable dst src then storeVar dst a val
    else if ← Rtype.implements dst src then
      if (← Rtype.kind src) == 20 then
        match val with
        | .nilIface => unsupported (.noEntry "extern/reflectlite: a nil value of one interface type handed on as a value of another")
        | _ => storeVar dst a val
      else storeVar dst a (.iface src val)
    else panicString ("reflectlite.Set: value of type " ++ (← Rtype.spelt src) ++ " is not assignable to type " ++ (← Rtype.spelt dst))
    pure (.tuple #[])) := fun _ _ => rfl
  have hb256 : (f1.toNat / ReflectliteValue.flagAddr % 2 == 0) = false := h3
  have hst := run_storeCells_cells (P := Tryz.prog) ab ao [v] 0 w (fun j hj => by
    obtain rfl : j = 0 := by simpa using hj
    simp [hd]) (fun j hj => by
    obtain rfl : j = 0 := by simpa using hj
    simpa using hf) (by simpa using hv1)
  have hstore : (storeVar e ⟨ab, ao, none⟩ v).run Tryz.prog w = .ok () (w.setCell ⟨ab, ao, none⟩ v) := by
    have hcs2 : ¬ (v.cells.size ≠ 1) := by rw [hv]; simp
    simp only [storeVar, Sem.run_bind, run_of_eval0 hs, Result.andThen_ok, hcs2, if_false, Sem.run_pure, hv]
    exact hst
  rw [run_callFunc_extern Tryz.func52 (by kernel_rfl) (by kernel_rfl) q1 q2]
  simp only [hd2, Sem.run_bind, parts_run h1 w ht, parts_run h2 w ht, Result.andThen_ok, hb256, Bool.false_eq_true, if_false, Sem.run_pure, load_one hg hc, run_of_eval0 ha, if_true, hstore]
theorem valueOf_run (t : TypeId) (v : Value) (w : World) {kd : Nat} (f : Int) (ef : f = Int.ofNat (kd + 128)) (hh : eval0 Tryz.prog (Rtype.handle t) = some (hdl t)) (hk : eval0 Tryz.prog (Rtype.kind t) = some kd) :
    (callFunc 41 #[.iface t v]).run Tryz.prog w = .ok (.value (rv t ⟨w.heap.size, 0, none⟩ f)) (w.alloc (.cells v.cells t)) := by
  subst ef
  obtain ⟨q1, q2⟩ := Go.Dg.find_valueOf (fn := Tryz.f41) (by kernel_rfl) (by kernel_rfl)
  rw [run_callFunc_extern Tryz.func41 (by kernel_rfl) (by kernel_rfl) q1 q2]
  have e : (ReflectliteValue.unpack (#[Value.iface t v].getD 0 (.tuple #[]))) = (do ReflectliteValue.mk t (← newVar t v) 0) := rfl
  have e2 : (newVar t v).run Tryz.prog w = .ok ⟨w.heap.size, 0, none⟩ (w.alloc (.cells v.cells t)) := rfl
  simp only [e, Sem.run_bind, e2, Result.andThen_ok, mk_run hh hk, Nat.add_zero]
end Go.Proofs.YtpgddboigegplaaGreatDoor.base

namespace Go.Proofs.YtpgddboigegplaaGreatDoor.base
open Go.RowKit Go.Extern.Stop Go.Stop Go.Extern
set_option linter.unusedVariables false
theorem mAsg (v : Value) (w : World) : (Go.method (212 + Made.depth) 108 v "AssignableTo").run Tryz.prog w = .ok (136, v) w := by kernel_rfl
theorem asg45_45 (w : World) : (callFunc 136 #[.agg #[.pointer (some ⟨14, 45, none⟩)], .iface 108 (.agg #[.pointer (some ⟨14, 45, none⟩)])]).run Tryz.prog w = .ok (.value (.bool true)) w := by kernel_rfl
theorem asg45_57 (w : World) : (callFunc 136 #[.agg #[.pointer (some ⟨14, 57, none⟩)], .iface 108 (.agg #[.pointer (some ⟨14, 45, none⟩)])]).run Tryz.prog w = .ok (.value (.bool false)) w := by kernel_rfl
theorem asg45_62 (w : World) : (callFunc 136 #[.agg #[.pointer (some ⟨14, 62, none⟩)], .iface 108 (.agg #[.pointer (some ⟨14, 45, none⟩)])]).run Tryz.prog w = .ok (.value (.bool false)) w := by kernel_rfl
theorem asg45_67 (w : World) : (callFunc 136 #[.agg #[.pointer (some ⟨14, 67, none⟩)], .iface 108 (.agg #[.pointer (some ⟨14, 45, none⟩)])]).run Tryz.prog w = .ok (.value (.bool false)) w := by kernel_rfl
theorem asg45_70 (w : World) : (callFunc 136 #[.agg #[.pointer (some ⟨14, 70, none⟩)], .iface 108 (.agg #[.pointer (some ⟨14, 45, none⟩)])]).run Tryz.prog w = .ok (.value (.bool false)) w := by kernel_rfl
theorem asg45_94 (w : World) : (callFunc 136 #[.agg #[.pointer (some ⟨14, 94, none⟩)], .iface 108 (.agg #[.pointer (some ⟨14, 45, none⟩)])]).run Tryz.prog w = .ok (.value (.bool false)) w := by kernel_rfl
theorem asg70_45 (w : World) : (callFunc 136 #[.agg #[.pointer (some ⟨14, 45, none⟩)], .iface 108 (.agg #[.pointer (some ⟨14, 70, none⟩)])]).run Tryz.prog w = .ok (.value (.bool false)) w := by kernel_rfl
theorem asg70_57 (w : World) : (callFunc 136 #[.agg #[.pointer (some ⟨14, 57, none⟩)], .iface 108 (.agg #[.pointer (some ⟨14, 70, none⟩)])]).run Tryz.prog w = .ok (.value (.bool false)) w := by kernel_rfl
theorem asg70_62 (w : World) : (callFunc 136 #[.agg #[.pointer (some ⟨14, 62, none⟩)], .iface 108 (.agg #[.pointer (some ⟨14, 70, none⟩)])]).run Tryz.prog w = .ok (.value (.bool false)) w := by kernel_rfl
theorem asg70_67 (w : World) : (callFunc 136 #[.agg #[.pointer (some ⟨14, 67, none⟩)], .iface 108 (.agg #[.pointer (some ⟨14, 70, none⟩)])]).run Tryz.prog w = .ok (.value (.bool false)) w := by kernel_rfl
theorem asg70_70 (w : World) : (callFunc 136 #[.agg #[.pointer (some ⟨14, 70, none⟩)], .iface 108 (.agg #[.pointer (some ⟨14, 70, none⟩)])]).run Tryz.prog w = .ok (.value (.bool true)) w := by kernel_rfl
theorem asg70_94 (w : World) : (callFunc 136 #[.agg #[.pointer (some ⟨14, 94, none⟩)], .iface 108 (.agg #[.pointer (some ⟨14, 70, none⟩)])]).run Tryz.prog w = .ok (.value (.bool false)) w := by kernel_rfl
end Go.Proofs.YtpgddboigegplaaGreatDoor.base

namespace Go.Proofs.YtpgddboigegplaaGreatDoor.base
open Go.RowKit Go.Extern.Stop Go.Stop Go.Extern
set_option linter.unusedVariables false

/-- What is looked for: the type, the type of a pointer to such, its kind, the value. -/
inductive ATgt (fb fo : Nat) (k : Int) : TypeId → TypeId → Nat → Value → Prop
  | sort : ATgt fb fo k 45 60 2 (.int .i64 k)
  | self : ATgt fb fo k 70 71 22 (.pointer (some ⟨fb, fo, none⟩))
/-- Where the target's pointer lies, and the target. -/
def VOk (W : World) (vb ab : Nat) : Prop := W.cell? ⟨vb, 0, none⟩ = some (.pointer (some ⟨ab, 0, none⟩)) ∧ (∃ old, W.cell? ⟨ab, 0, none⟩ = some old) ∧ W.frozen? ⟨ab, 0, none⟩ = false
theorem VOk.up {w w' : World} (hb : Below w.heap.size w w') {vb ab : Nat} (h : VOk w vb ab) : VOk w' vb ab := by
  obtain ⟨h1, ⟨old, h2⟩, h3⟩ := h
  exact ⟨cell_up hb h1, ⟨old, cell_up hb h2⟩, by rw [← h3]; exact hb.frozen (p := ⟨ab, 0, none⟩) (Lib.lt_of_cell h2)⟩
def AsPost (W1 : World) (ab : Nat) (val : Value) (e : Ending) (w' : World) : Prop := e = .returned (.bool true) ∧ ∃ w1, Below W1.heap.size W1 w1 ∧ w' = w1.setCell ⟨ab, 0, none⟩ val
def AsNot (W1 : World) (e : Ending) (w' : World) : Prop := e = .returned (.bool false) ∧ Below W1.heap.size W1 w'
set_option maxRecDepth 1000000 in
theorem as_other {fb fo : Nat} {k : Int} {et tt : TypeId} {kd : Nat} {val : Value} (ht : ATgt fb fo k et tt kd val) (q : Addr) (vb ab : Nat) (W : World) :
    Calls Tryz.prog 44 #[.iface 62 (.pointer (some q)), .iface tt (.pointer (some ⟨ab, 0, none⟩)), rv tt ⟨vb, 0, none⟩ 150, rt et] W (AsNot W) := by
  have f1 := no121_62
  have f2 := no90_62
  have f3 := no113_62
  have f4 := ty62
  have f5 := mAsg
  have f6 : ∀ w, (callFunc 136 #[.agg #[.pointer (some ⟨14, 62, none⟩)], rt et]).run Tryz.prog w = .ok (.value (.bool false)) w := by
    cases ht
    · exact asg45_62
    · exact asg70_62
  clear ht
  go_enter Tryz.func44, Tryz.ntmps44
  go_wp2_with fail
  refine wp_loop_rounds 1 ?_
  rw [rounds_succ]
  go_wp2_with fail
  go_ret
  exact ⟨rfl, (Below.refl _ _).alloc (Nat.le_refl _) _⟩
/-- Where errors.as stands. -/
def ASt (W : World) (fb fo : Nat) (k : Int) (et : TypeId) (n g : Nat) (E : Value) (wl : World) : Prop :=
  Below W.heap.size W wl ∧ ((E = .iface 45 (.int .i64 k) ∧ et = 45) ∨ ∃ t v l', E = .iface t v ∧ Lead W fb fo t v l' ∧ l'.length ≤ n ∧ l'.length + 1 ≤ g)
/-- The cells of a Value that was boxed. -/
theorem box_up {W1 wl : World} {x y z : Value} {t : TypeId} (hb : Below (W1.alloc (.cells #[x, y, z] t)).heap.size (W1.alloc (.cells #[x, y, z] t)) wl) :
    wl.cell? ⟨W1.heap.size, 0, none⟩ = some x ∧ wl.cell? ⟨W1.heap.size, 1, none⟩ = some y ∧ wl.cell? ⟨W1.heap.size, 2, none⟩ = some z := by
  have h := heap_alloc_new W1 (.cells #[x, y, z] t)
  refine ⟨cell_up hb ?_, cell_up hb ?_, cell_up hb ?_⟩ <;> (unfold World.cell?; simp only [h]; rfl)
theorem box_below {W1 wl : World} {o : Obj} (hb : Below (W1.alloc o).heap.size (W1.alloc o) wl) : Below W1.heap.size W1 wl :=
  have h := (Below.refl W1.heap.size W1).alloc (Nat.le_refl _) o
  h.trans (hb.mono h.size)
theorem val45 (k : Int) (w : World) : (callFunc 41 #[.iface 45 (.int .i64 k)]).run Tryz.prog w = .ok (.value (rv 45 ⟨w.heap.size, 0, none⟩ 130)) (w.alloc (.cells #[.int .i64 k] 45)) := valueOf_run 45 (.int .i64 k) w (kd := 2) 130 rfl (by kernel_rfl) (by kernel_rfl)
theorem val70 (a : Addr) (w : World) : (callFunc 41 #[.iface 70 (.pointer (some a))]).run Tryz.prog w = .ok (.value (rv 70 ⟨w.heap.size, 0, none⟩ 150)) (w.alloc (.cells #[.pointer (some a)] 70)) := valueOf_run 70 (.pointer (some a)) w (kd := 22) 150 rfl (by kernel_rfl) (by kernel_rfl)
theorem leaf_run {e : TypeId} (ht : Go.Dg.tyOf Tryz.prog (hdl e) = some e) (hg : Go.Dg.eval0 Tryz.prog (isAgg e) = some false) (hs : Go.Dg.eval0 Tryz.prog (sizeOf e) = some 1) (ha : Go.Dg.eval0 Tryz.prog (Rtype.directlyAssignable e e) = some true) (f1 f2 : Int) (h1 : ¬ f1 = 0) (h3 : (f1.toNat / 256 % 2 == 0) = false) (h2 : ¬ f2 = 0)
    (vb ab : Nat) (w : World) (v : Value) (hv : v.cells = #[v]) (hv1 : v.oneCell' = true) (hV : VOk w vb ab) :
    (callFunc 52 #[rv e ⟨ab, 0, none⟩ f1, rv e ⟨w.heap.size, 0, none⟩ f2]).run Tryz.prog (w.alloc (.cells #[v] e)) = .ok (.value (.tuple #[])) ((w.alloc (.cells #[v] e)).setCell ⟨ab, 0, none⟩ v) := by
  obtain ⟨_, ⟨old, c1⟩, c2⟩ := hV.up ((Below.refl _ _).alloc (Nat.le_refl _) (.cells #[v] e))
  have h := heap_alloc_new w (.cells #[v] e)
  exact set_run ht hg hs ha f1 f2 h1 h3 h2 ab 0 ⟨w.heap.size, 0, none⟩ _ v old (by unfold World.cell?; simp only [h]; rfl) hv hv1 c1 c2
set_option maxHeartbeats 4000000 in
set_option maxRecDepth 1000000 in
theorem as_step (W : World) (fb fo : Nat) (k o : Int) (hF : FaultAt W fb fo k o) {et tt : TypeId} {kd : Nat} {val : Value} (ht : ATgt fb fo k et tt kd val) (vb ab : Nat) (hV : VOk W vb ab) (l : List Lk)
    (ih : ∀ (W' : World), Below W.heap.size W W' → ∀ t v l', l'.length < l.length → Lead W fb fo t v l' → Calls Tryz.prog 44 #[.iface t v, .iface tt (.pointer (some ⟨ab, 0, none⟩)), rv tt ⟨vb, 0, none⟩ 150, rt et] W' (AsPost W' ab val))
    (t : TypeId) (v : Value) (hl : Lead W fb fo t v l) (W1 : World) (hW1 : Below W.heap.size W W1) :
    Calls Tryz.prog 44 #[.iface t v, .iface tt (.pointer (some ⟨ab, 0, none⟩)), rv tt ⟨vb, 0, none⟩ 150, rt et] W1 (AsPost W1 ab val) := by
  have a1 := no121_45
  have a2 := no121_57
  have a3 := no121_67
  have a4 := no121_70
  have a5 := no121_94
  have b2 := has90_57
  have b3 := has90_67
  have b4 := has90_70
  have b5 := no90_94
  have c5 := has113_94
  have m1 := mAsg
  have m2 := mUn57
  have m3 := mUn67
  have m4 := mUn70
  have m5 := mUn94
  have d1 := ty45
  have d2 := ty57
  have d3 := ty67
  have d4 := ty70
  have d5 := ty94
  have g2 : ∀ w, (callFunc 136 #[.agg #[.pointer (some ⟨14, 57, none⟩)], rt et]).run Tryz.prog w = .ok (.value (.bool false)) w := by
    cases ht
    · exact asg45_57
    · exact asg70_57
  have g3 : ∀ w, (callFunc 136 #[.agg #[.pointer (some ⟨14, 67, none⟩)], rt et]).run Tryz.prog w = .ok (.value (.bool false)) w := by
    cases ht
    · exact asg45_67
    · exact asg70_67
  have g5 : ∀ w, (callFunc 136 #[.agg #[.pointer (some ⟨14, 94, none⟩)], rt et]).run Tryz.prog w = .ok (.value (.bool false)) w := by
    cases ht
    · exact asg45_94
    · exact asg70_94
  have HF := Lib.hid hF
  have HL := Lib.hid hl
  have HI := Lib.hid ih
  have HB := Lib.hid hW1
  have HV := Lib.hid hV
  clear hF hl ih hW1 hV
  go_enter Tryz.func44, Tryz.ntmps44
  go_wp2_with fail
  go_loopg [0] (l.length + 1) (fun g E wl => Below (W1.alloc (.cells #[hdl tt, .pointer (some ⟨vb, 0, none⟩), .int .u64 150] 100)).heap.size (W1.alloc (.cells #[hdl tt, .pointer (some ⟨vb, 0, none⟩), .int .u64 150] 100)) wl ∧ ASt W fb fo k et l.length g E wl)
  case atStart => exact ⟨Below.refl _ _, HB.out.trans (((Below.refl _ _).alloc (Nat.le_refl _) _).mono HB.out.size), .inr ⟨t, v, l, rfl, HL.out, Nat.le_refl _, Nat.le_refl _⟩⟩
  case round =>
    obtain ⟨hb1, hb, ⟨rfl, rfl⟩ | ⟨t, v, l', rfl, hl', hn, hg⟩⟩ := hrel
    · cases ht
      obtain ⟨x0, x1, x2⟩ := box_up hb1
      have hv := HV.out.up hb
      have g1 := asg45_45
      have q1 := elem_run (t := 60) (e := 45) (kd := 2) 386 rfl (by kernel_rfl) (by kernel_rfl) (by kernel_rfl) (by kernel_rfl) (by kernel_rfl) ⟨vb, 0, none⟩ ⟨ab, 0, none⟩ wr hv.1
      have q2 := val45 k wr
      have q3 := leaf_run (e := 45) (by kernel_rfl) (by kernel_rfl) (by kernel_rfl) (by kernel_rfl) 386 130 (by decide) rfl (by decide) vb ab wr (.int .i64 k) rfl rfl hv
      have HW := Lib.hid hv
      clear hv
      go_wp2_with fail
      go_ret
      exact ⟨rfl, _, (box_below hb1).trans (((Below.refl _ _).alloc (Nat.le_refl _) _).mono (box_below hb1).size), rfl⟩
    · cases hl' with
      | fault =>
        cases ht with
        | self =>
          obtain ⟨x0, x1, x2⟩ := box_up hb1
          have hv := HV.out.up hb
          have g1 := asg70_70
          have q1 := elem_run (t := 71) (e := 70) (kd := 22) 406 rfl (by kernel_rfl) (by kernel_rfl) (by kernel_rfl) (by kernel_rfl) (by kernel_rfl) ⟨vb, 0, none⟩ ⟨ab, 0, none⟩ wr hv.1
          have q2 := val70 ⟨fb, fo, none⟩ wr
          have q3 := leaf_run (e := 70) (by kernel_rfl) (by kernel_rfl) (by kernel_rfl) (by kernel_rfl) 406 150 (by decide) rfl (by decide) vb ab wr (.pointer (some ⟨fb, fo, none⟩)) rfl rfl hv
          have HW := Lib.hid hv
          clear hv
          go_wp2_with fail
          go_ret
          exact ⟨rfl, _, (box_below hb1).trans (((Below.refl _ _).alloc (Nat.le_refl _) _).mono (box_below hb1).size), rfl⟩
        | sort =>
          have hF := (HF.out.up hb).1
          have g1 := asg45_70
          simp only [List.length_nil] at hg
          go_wp2
          go_roundg 0
          case measure => omega
          case rel => exact ⟨hb1, hb, .inl ⟨rfl, rfl⟩⟩
      | note pb po s t v l2 h1 h2 h3 =>
        have h2 := cell_up hb h2
        have H3 := Lib.hid h3
        clear h3 h1
        simp only [List.length_cons] at hg hn
        go_wp2
        go_roundg (l2.length + 1)
        case measure => omega
        case rel => exact ⟨hb1, hb, .inr ⟨t, v, l2, rfl, H3.out, by omega, Nat.le_refl _⟩⟩
      | around t v l2 h3 =>
        have H3 := Lib.hid h3
        clear h3
        simp only [List.length_cons] at hg hn
        go_wp2
        go_roundg (l2.length + 1)
        case measure => omega
        case rel => exact ⟨hb1.trans ((Below.refl _ _).alloc (Nat.le_refl _) _ |>.mono hb1.size), hb.trans ((Below.refl _ _).alloc (Nat.le_refl _) _ |>.mono hb.size), .inr ⟨t, v, l2, rfl, H3.out, by omega, Nat.le_refl _⟩⟩
      | join jb jo sb so q t v l2 h1 h2 h3 h4 =>
        have h1 := cell_up hb h1
        have h2 := cell_up hb h2
        have h3 := cell_up hb h3
        have H4 := Lib.hid h4
        clear h4
        obtain ⟨x0, x1, x2⟩ := box_up hb1
        simp only [List.length_cons] at hg hn
        go_wp2
        obtain ⟨wo, rfl⟩ : ∃ wo : World, wo = wr := ⟨_, rfl⟩
        go_loopg [50] 1 (fun g i wl => Below wo.heap.size wo wl ∧ ∃ j : Nat, i = .int .i64 j ∧ j + g = 1)
        case atStart => exact ⟨Below.refl _ _, 0, rfl, rfl⟩
        case round =>
          obtain ⟨hbl, j, rfl, hj⟩ := hrel
          have h2 := cell_up hbl h2
          have h3 := cell_up hbl h3
          have x0 := cell_up hbl x0
          have x1 := cell_up hbl x1
          have x2 := cell_up hbl x2
          have hlt : gk = 1 ∨ gk = 0 := by omega
          rcases hlt with rfl | rfl
          · obtain rfl : j = 0 := by omega
            go_wp2_with (go_at_call 44; refine (as_other ht _ _ _ _).mono ?_; rintro e w1 ⟨rfl, hb2⟩)
            go_roundg 0
            case measure => omega
            case rel => exact ⟨hbl.trans (hb2.mono hbl.size), 1, rfl, rfl⟩
          · obtain rfl : j = 1 := by omega
            go_wp2_with (go_at_call 44; refine (HI.out _ (hb.trans (hbl.mono hb.size)) _ _ _ (by omega) H4.out).mono ?_; rintro e w1 ⟨rfl, w2, hb2, rfl⟩)
            go_ret
            exact ⟨rfl, _, (box_below hb1).trans ((hbl.trans (hb2.mono hbl.size)).mono (box_below hb1).size), rfl⟩
theorem as_any (W : World) (fb fo : Nat) (k o : Int) (hF : FaultAt W fb fo k o) {et tt : TypeId} {kd : Nat} {val : Value} (ht : ATgt fb fo k et tt kd val) (vb ab : Nat) (hV : VOk W vb ab) : ∀ (n : Nat) (l : List Lk), l.length < n → ∀ (t : TypeId) (v : Value), Lead W fb fo t v l → ∀ (W1 : World), Below W.heap.size W W1 →
    Calls Tryz.prog 44 #[.iface t v, .iface tt (.pointer (some ⟨ab, 0, none⟩)), rv tt ⟨vb, 0, none⟩ 150, rt et] W1 (AsPost W1 ab val) := by
  intro n
  induction n with
  | zero => intro l h; omega
  | succ n ih => exact fun l hn t v hl W1 hW1 => as_step W fb fo k o hF ht vb ab hV l (fun W' hb t v l' hlt hl' => ih l' (by omega) t v hl' W' hb) t v hl W1 hW1
end Go.Proofs.YtpgddboigegplaaGreatDoor.base
