/- From an abstract run to a contract; contracts as known calls of an abstract run. -/
import Derived.Test.YtmnoegfehgoalaaGreatDoorDgCalls
namespace Go.Dg
set_option linter.unusedVariables false
/-- What a call comes to, in whatever memory: neither arguments nor the result hold an address. -/
def Flats (P : Program) (f : FuncId) (args : List Value) (v : Value) : Prop := flatL args = true ∧ flat v = true ∧ ∀ w, Calls P f args.toArray w fun e w' => e = .returned v ∧ RowKit.Below w.heap.size w w'
/-- An oracle that tells what is so. -/
def flatOver (o : FuncId → List Value → Option Value) : Ev := fun f args H => (o f args).map fun v => (v, H, [])
theorem flatOver_all {P : Program} {G : Nat} {o : FuncId → List Value → Option Value} (h : ∀ f args v, o f args = some v → Flats P f args v) : (∀ f args H v H' log, flatOver o f args H = some (v, H', log) → ∀ N M w args', Globs G M → HRel M N H w → LRel M args (Array.toList args') → Calls P f args' w fun e w' => ∃ M' v', e = .returned v' ∧ VRel M' v v' ∧ Stp N M H w M' H' w') ∧ CallLog (flatOver o) := by
  refine ⟨fun f args H v H' log he N M w args' hg hr hl => ?_, fun f args H v H' log he hlen => ?_⟩
  · unfold flatOver at he
    rw [Option.map_eq_some_iff] at he
    obtain ⟨v1, h1, h2⟩ := he
    obtain ⟨rfl, rfl, rfl⟩ : v1 = v ∧ H = H' ∧ [] = log := by simpa using h2
    obtain ⟨ha, hv, hc⟩ := h f args v1 h1
    have : args' = args.toArray := by
      have := hl.eq_of_flat ha
      rw [← this]
    subst this
    exact (hc w).mono fun e w' ⟨he, hb⟩ => ⟨M, v1, he, vrel_of_flat _ _ hv, .of_below hr hb⟩
  · unfold flatOver at he
    rw [Option.map_eq_some_iff] at he
    obtain ⟨v1, h1, h2⟩ := he
    obtain ⟨rfl, rfl, rfl⟩ : v1 = v ∧ H = H' ∧ [] = log := by simpa using h2
    exact ⟨hlen, Nat.le_refl _, fun k _ _ => rfl⟩
theorem flatOver_ok {P : Program} {G : Nat} {o : FuncId → List Value → Option Value} (h : ∀ f args v, o f args = some v → Flats P f args v) : CallOk P G (flatOver o) ∧ CallLog (flatOver o) :=
  ⟨fun f args H v H' log he _ => (flatOver_all h).1 f args H v H' log he, (flatOver_all (P := P) (G := G) h).2⟩
/-- A call whose arguments and whose result hold no address. -/
theorem closed_call {P : Program} {ok : List Bool} (hm : P.follows .mixedOrders = true) (hok : BodiesOk P ok) {over : Ev} (hover : CallOk P 0 over ∧ CallLog over) {sb : List Nat} {lf n : Nat} {f : FuncId} {args : List Value} {v : Value}
    (h : (evCall P 0 ok over sb lf n f args ⟨0, []⟩).map (·.1) = some v) (ha : flatL args = true) (hv : flat v = true) (hfY : Nat.ble Y f = false := by rfl) : Flats P f args v := by
  refine ⟨ha, hv, fun w => ?_⟩
  rw [Option.map_eq_some_iff] at h
  obtain ⟨⟨v1, H', log⟩, h1, h2⟩ := h
  simp only at h2
  subst h2
  have hr := hrel_empty w
  refine ((evCall_ok (G := 0) hm hok hover.1 hover.2 sb lf n).1 f args _ v1 H' log h1 (lt_Y hfY) w.heap.size (fun _ => none) w args.toArray (fun g hg => by omega) hr (by simpa using LRel.of_flat _ ha)).mono ?_
  rintro e w' ⟨M', v', rfl, hv', hs⟩
  rw [hv'.eq_of_flat hv]
  exact ⟨rfl, hs.below hr⟩
end Go.Dg
