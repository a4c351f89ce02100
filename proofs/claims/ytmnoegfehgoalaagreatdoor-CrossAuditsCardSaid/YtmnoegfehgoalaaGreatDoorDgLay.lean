/- Layers of contracts: functions whose arguments and results hold no address are run once, in the empty heap; runs above meet them by what they came to. -/
import Derived.Test.YtmnoegfehgoalaaGreatDoorDgApp
namespace Go.Dg
set_option linter.unusedVariables false
/-- A call by itself. -/
def flatRun (P : Program) (ok : List Bool) (over : Ev) (sb : List Nat) (lf n : Nat) (f : FuncId) (args : List Value) : Option Value :=
  match evCall P 0 ok over sb lf n f args ⟨0, []⟩ with
  | some (v, _, _) => if flatL args && flat v then some v else none
  | none => none
/-- A layer: the functions L by themselves; the others as told. -/
def lay (P : Program) (ok : List Bool) (over : Ev) (sb : List Nat) (lf n : Nat) (L : List FuncId) (o : FuncId → List Value → Option Value) : FuncId → List Value → Option Value :=
  fun f args => if L.contains f then flatRun P ok over sb lf n f args else o f args
theorem lay_flats {P : Program} {ok : List Bool} (hm : P.follows .mixedOrders = true) (hok : BodiesOk P ok) {over : Ev} (hover : CallOk P 0 over ∧ CallLog over) {sb : List Nat} {lf n : Nat} {L : List FuncId} {o : FuncId → List Value → Option Value}
    (hY : (L.all fun f => !Nat.ble Y f) = true) (ho : ∀ f args v, o f args = some v → Flats P f args v) : ∀ f args v, lay P ok over sb lf n L o f args = some v → Flats P f args v := by
  intro f args v h
  unfold lay at h
  split at h
  · rename_i hc
    unfold flatRun at h
    split at h
    · rename_i v1 H1 l1 he
      split at h
      · rename_i hf
        cases h
        rw [Bool.and_eq_true] at hf
        refine closed_call hm hok hover (by rw [he]; rfl) hf.1 hf.2 ?_
        have := List.all_eq_true.1 hY f (by simpa using hc)
        simpa using this
      · cases h
    · cases h
  · exact ho f args v h
/-- What a layer tells of its own functions. -/
theorem lay_told {P : Program} {ok : List Bool} {over : Ev} {sb : List Nat} {lf n : Nat} {L : List FuncId} {o : FuncId → List Value → Option Value} {f : FuncId} {args : List Value} {v : Value} {H1 : Heap} {l1 : List Nat} (hf : L.contains f = true)
    (h : evCall P 0 ok over sb lf n f args ⟨0, []⟩ = some (v, H1, l1)) (ha : flatL args = true) (hv : flat v = true) : lay P ok over sb lf n L o f args = some v := by
  unfold lay
  rw [if_pos hf]
  unfold flatRun
  rw [h]
  simp only [ha, hv, Bool.and_self, if_true]
/-- What it says of others. -/
theorem lay_under {P : Program} {ok : List Bool} {over : Ev} {sb : List Nat} {lf n : Nat} {L : List FuncId} {o : FuncId → List Value → Option Value} {f : FuncId} {args : List Value} {v : Value} (hf : L.contains f = false) (h : o f args = some v) : lay P ok over sb lf n L o f args = some v := by
  unfold lay
  rw [hf]
  exact h
/-- What is told of a call is what it comes to. -/
theorem evCall_told {o : FuncId → List Value → Option Value} {f : FuncId} {args : List Value} {v : Value} (h : o f args = some v) (hY : Nat.ble Y f = false := by rfl) {P : Program} {G : Nat} {ok : List Bool} {sb : List Nat} {lf m : Nat} {H : Heap} :
    evCall P G ok (flatOver o) sb lf (m + 1) f args H = some (v, H, []) := by
  refine evCall_over ?_ hY
  show (o f args).map _ = _
  rw [h]
  rfl
def noO : FuncId → List Value → Option Value := fun _ _ => none
theorem noO_flats {P : Program} : ∀ f args v, noO f args = some v → Flats P f args v := fun _ _ _ h => by cases h
end Go.Dg
