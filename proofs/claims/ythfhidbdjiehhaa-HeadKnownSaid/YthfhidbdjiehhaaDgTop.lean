/- From an abstract run to a contract. -/
import Derived.Test.YthfhidbdjiehhaaDgRun
namespace Go.Dg
set_option linter.unusedVariables false

theorem Stp.below {N : Nat} {M M' : Emb} {H H' : Heap} {w w' : World} (hr : HRel M N H w) (h : Stp N M H w M' H' w') : RowKit.Below N w w' := by
  refine ⟨h.os, h.tape, h.output, h.size, fun k hk => ?_⟩
  refine h.frame k (Nat.lt_of_lt_of_le hk hr.base) fun j o sp ho hm => ?_
  obtain ⟨b1, o1, sp1, h1, h2⟩ := hr.obj j (AObj.live_of_owned ho)
  rw [hm] at h1
  cases h1
  have := h2.ge ho
  omega

theorem hrel_empty (w : World) : HRel (fun _ => none) w.heap.size ⟨0, []⟩ w := by
  have hdead : ∀ k, (⟨0, []⟩ : Heap).get k = .dead := fun k => by simp [Heap.get]
  refine ⟨rfl, ?_, ?_, ?_, Nat.le_refl _⟩
  · intro k x h; cases h
  · intro k h; rw [hdead] at h; cases h
  · intro k k' b o sp b' o' sp' _ h; rw [hdead] at h; cases h

/-- A call whose arguments and whose result hold no address. -/
theorem closed_call {P : Program} {ok : List Bool} (hm : P.follows .mixedOrders = true) (hok : BodiesOk P ok) {lf n : Nat} {f : FuncId} {args : List Value} {v : Value}
    (h : (evCall P 0 ok lf n f args ⟨0, []⟩).map (·.1) = some v) (ha : flatL args = true) (hv : flat v = true) (w : World) : Calls P f args.toArray w fun e w' => e = .returned v ∧ RowKit.Below w.heap.size w w' := by
  rw [Option.map_eq_some_iff] at h
  obtain ⟨⟨v1, H', log⟩, h1, h2⟩ := h
  simp only at h2
  subst h2
  have hr := hrel_empty w
  refine ((evCall_ok (G := 0) hm hok lf n).1 f args _ v1 H' log h1 w.heap.size (fun _ => none) w args.toArray (fun g hg => by omega) hr (by simpa using LRel.of_flat _ ha)).mono ?_
  rintro e w' ⟨M', v', rfl, hv', hs⟩
  rw [hv'.eq_of_flat hv]
  exact ⟨rfl, hs.below hr⟩

end Go.Dg
