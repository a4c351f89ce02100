/- Loops by the states at their heads; small facts for obligations. -/
import Derived.Test.YtmnoegfehgoalaaGreatDoorDgFrm
namespace Go.Dg
set_option linter.unusedVariables false
/-- A loop by the (swept) states at its head. -/
theorem loop_run {body : St → Option (Ex × St)} {clean : St → St} {S : Nat → St} {n : Nat} {ex : Ex} {E : St} (hex : ex ≠ .normal) (hstep : ∀ j, j < n → ∃ s', body (S j) = some (.normal, s') ∧ clean s' = S (j + 1))
    (hstop : body (S n) = some (ex, E)) {fuel : Nat} {s0 : St} (hf : n < fuel) (h0 : clean s0 = S 0) : evLoop body clean fuel s0 = some (ex, E) := by
  have key : ∀ (k j : Nat) (fuel : Nat) (s : St), j + k = n → k < fuel → clean s = S j → evLoop body clean fuel s = some (ex, E) := by
    intro k
    induction k with
    | zero =>
      intro j fuel s hj hf hs
      obtain ⟨m, rfl⟩ : ∃ m, fuel = m + 1 := ⟨fuel - 1, by omega⟩
      obtain rfl : j = n := by omega
      exact evLoop_stop hs hstop hex
    | succ k ih =>
      intro j fuel s hj hf hs
      obtain ⟨m, rfl⟩ : ∃ m, fuel = m + 1 := ⟨fuel - 1, by omega⟩
      obtain ⟨s', h1, h2⟩ := hstep j (by omega)
      rw [evLoop_step hs h1]
      exact ih (j + 1) m s' (by omega) (by omega) h2
  exact key n 0 fuel s0 (by omega) (by omega) h0
/-- One round by a run with hints: the state at the next head. -/
theorem code_round {P : Program} {G : Nat} {ok : List Bool} {over : Ev} {sb : List Nat} {lf n f base b0 : Nat} {c : Code} {kp : List Nat} {s : St} (clean : St → St) (hs : List Hint) {S' : St} (ob : List Prop)
    (h : (evCodeSK P G ok (evCall P G ok over sb lf n) (evCallS P G ok over sb lf n) f base b0 lf c kp s hs).map (fun r => (r.1, clean r.2.1, r.2.2.1, r.2.2.2)) = some (.normal, S', [], ob)) (ho : AllP ob) :
    ∃ s', evCodeK P G ok (evCall P G ok over sb lf n) base b0 lf c kp s = some (.normal, s') ∧ clean s' = S' := by
  rw [Option.map_eq_some_iff] at h
  obtain ⟨⟨e, s', hs', ob'⟩, h1, h2⟩ := h
  simp only [Prod.mk.injEq] at h2
  obtain ⟨rfl, rfl, rfl, rfl⟩ := h2
  exact ⟨s', evCode_hint ob' h1 ho, rfl⟩
theorem ptr_eq {k a b : Nat} (h : a = b) : Value.pointer (some ⟨k, a, none⟩) = .pointer (some ⟨k, b, none⟩) := by rw [h]
theorem i64_eq {a b : Int} (h : a = b) (h0 : -9223372036854775808 ≤ b) (h1 : b < 9223372036854775808) : Value.int .i64 (IntKind.i64.wrap a) = .int .i64 b := by rw [h, w_i64]; congr 1; omega
theorem u64_eq {a b : Int} (h : a = b) (h0 : 0 ≤ b) (h1 : b < 18446744073709551616) : Value.int .u64 (IntKind.u64.wrap a) = .int .u64 b := by rw [h, w_u64]; congr 1; omega
/-- Cells whose values hold no address. -/
theorem flatL_all : ∀ {l : List Value}, (∀ v ∈ l, flat v = true) → flatL l = true
  | [], _ => rfl
  | v :: r, h => by simp [flatL, h v (List.mem_cons_self ..), flatL_all fun u hu => h u (List.mem_cons_of_mem _ hu)]
end Go.Dg
namespace Go.Dg
end Go.Dg
namespace Go.Dg
end Go.Dg
