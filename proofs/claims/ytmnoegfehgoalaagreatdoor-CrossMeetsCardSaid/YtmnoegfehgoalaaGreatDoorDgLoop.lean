/- Loops by the states at their heads; small facts for obligations. -/
import Derived.Test.YtmnoegfehgoalaaGreatDoorDgFrm
namespace Go.Dg
set_option linter.unusedVariables false

/-- A loop by the (swept) states at its head. -/
theorem loop_run {body : St → Option (Ex × St)} {clean : St → St} {S : Nat → St} {n : Nat} {ex : Ex} {E : St} (hex : ex ≠ .normal) (hstep : ∀ j, j < n → ∃ s', body (S j) = some (.normal, s') ∧ clean s' = S (j + 1))
    (hstop : body (S n) = some (ex, E)) {fuel : Nat} {s0 : St} (hf : n < fuel) (h0 : clean s0 = S 0) : evLoop body clean fuel s0 = some (ex, E) := by
  have key : ∀ (k j : Nat) (fuel : Nat) (s : St), j + k = n → k < fuel → clean s = S j → evLoop body clean fuel s = some (ex, E) := by
    intro k
    induction k with
    | zero =>
      intro j fuel s hj hf hs
      obtain ⟨m, rfl⟩ : ∃ m, fuel = m + 1 := ⟨fuel - 1, by omega⟩
      obtain rfl : j = n := by omega
      exact evLoop_stop hs hstop hex
    | succ k ih =>
      intro j fuel s hj hf hs
      obtain ⟨m, rfl⟩ : ∃ m, fuel = m + 1 := ⟨fuel - 1, by omega⟩
      obtain ⟨s', h1, h2⟩ := hstep j (by omega)
      rw [evLoop_step hs h1]
      exact ih (j + 1) m s' (by omega) (by omega) h2
  exact key n 0 fuel s0 (by omega) (by omega) h0

/-- One round by a run with hints: the state at the next head. -/
theorem code_round {P : Program} {G : Nat} {ok : List Bool} {over : Ev} {sb : List Nat} {lf n f base b0 : Nat} {c : Code} {kp : List Nat} {s : St} (clean : St → St) (hs : List Hint) {S' : St} (ob : List Prop)
    (h : (evCodeSK P G ok (evCall P G ok over sb lf n) (evCallS P G ok over sb lf n) f base b0 lf c kp s hs).map (fun r => (r.1, clean r.2.1, r.2.2.1, r.2.2.2)) = some (.normal, S', [], ob)) (ho : AllP ob) :
    ∃ s', evCodeK P G ok (evCall P G ok over sb lf n) base b0 lf c kp s = some (.normal, s') ∧ clean s' = S' := by
  rw [Option.map_eq_some_iff] at h
  obtain ⟨⟨e, s', hs', ob'⟩, h1, h2⟩ := h
  simp only [Prod.mk.injEq] at h2
  obtain ⟨rfl, rfl, rfl, rfl⟩ := h2
  exact ⟨s', evCode_hint ob' h1 ho, rfl⟩
theorem code_round2 {P : Program} {G : Nat} {ok : List Bool} {over : Ev} {sb : List Nat} {lf n f base b0 : Nat} {c : Code} {kp : List Nat} {s : St} (clean : St → St) (hs : List Hint) {s' S' : St} (ob : List Prop)
    (h : evCodeSK P G ok (evCall P G ok over sb lf n) (evCallS P G ok over sb lf n) f base b0 lf c kp s hs = some (.normal, s', [], ob)) (ho : AllP ob) (hc : clean s' = S') :
    ∃ s', evCodeK P G ok (evCall P G ok over sb lf n) base b0 lf c kp s = some (.normal, s') ∧ clean s' = S' := ⟨s', evCode_hint ob h ho, hc⟩

theorem ptr_eq {k a b : Nat} (h : a = b) : Value.pointer (some ⟨k, a, none⟩) = .pointer (some ⟨k, b, none⟩) := by rw [h]
theorem sl_eq {k a b l l' c c' : Nat} {s : Option Nat} (h : a = b) (h1 : l = l') (h2 : c = c') : Value.slice (some ⟨k, a, s⟩) l c = .slice (some ⟨k, b, s⟩) l' c' := by rw [h, h1, h2]
theorem i64_eq {a b : Int} (h : a = b) (h0 : -9223372036854775808 ≤ b) (h1 : b < 9223372036854775808) : Value.int .i64 (IntKind.i64.wrap a) = .int .i64 b := by rw [h, w_i64]; congr 1; omega
theorem u64_eq {a b : Int} (h : a = b) (h0 : 0 ≤ b) (h1 : b < 18446744073709551616) : Value.int .u64 (IntKind.u64.wrap a) = .int .u64 b := by rw [h, w_u64]; congr 1; omega
theorem int_eq {k : IntKind} {a b : Int} (h : a = b) : Value.int k a = .int k b := by rw [h]
theorem bool_eq {a b : Bool} (h : a = b) : Value.bool a = .bool b := by rw [h]
theorem allP_app : ∀ {a b : List Prop}, AllP a → AllP b → AllP (a ++ b)
  | [], _, _, h => h
  | _ :: _, _, h, h' => ⟨h.1, allP_app h.2 h'⟩
/-- Cells whose values hold no address. -/
theorem flatL_all : ∀ {l : List Value}, (∀ v ∈ l, flat v = true) → flatL l = true
  | [], _ => rfl
  | v :: r, h => by simp [flatL, h v (List.mem_cons_self ..), flatL_all fun u hu => h u (List.mem_cons_of_mem _ hu)]
theorem ids_flat {cs : List Value} {e md esz : Nat} (h : flatL cs = true) : (AObj.cells cs e md esz).ids = [] := by simp [AObj.ids, h]
theorem ren_mark {cs : List Value} {e md esz : Nat} {f : Nat → Nat} : (AObj.cells cs e (md + 4) esz).ren f = .cells cs e (md + 4) esz := by
  simp only [AObj.ren, show Nat.ble 4 (md + 4) = true from Nat.ble_eq_true_of_le (Nat.le_add_left _ _), if_true]
theorem ren_flat {cs : List Value} {e md esz : Nat} {f : Nat → Nat} (h : flatL cs = true) (hm : Nat.ble 4 md = false) : (AObj.cells cs e md esz).ren f = .cells cs e (md + 4) esz := by simp only [AObj.ren, h, hm, if_true, Bool.false_eq_true, if_false]
end Go.Dg
namespace Go.Dg
theorem collect_nil {base : Nat} {H : Heap} {n : Nat} {seen : List Nat} : collect base H n [] seen = some seen := by cases n <;> rfl
theorem collect_skip {base : Nat} {H : Heap} {n k : Nat} {r seen : List Nat} (h : k < base ∨ k ∈ seen) : collect base H (n + 1) (k :: r) seen = collect base H n r seen := by
  simp only [collect]
  rw [if_pos (by rcases h with h | h <;> simp [h])]
theorem collect_take {base : Nat} {H : Heap} {n k : Nat} {r seen l : List Nat} (h : base ≤ k) (h2 : k ∉ seen) (hl : (H.get k).ids = l) : collect base H (n + 1) (k :: r) seen = collect base H n (l ++ r) (seen ++ [k]) := by
  simp only [collect]
  rw [if_neg (by simp [h2]; omega), hl]
/-- A sweep, by what it finds. -/
theorem gc_is {base : Nat} {vals : List Value} {log : List Nat} {H : Heap} (L : List Nat) (imgsL imgs : List AObj) (hc : collect base H 100000 (idsOfL vals ++ log.flatMap fun k => (H.get k).ids) [] = some L) (hb : base ≤ H.n)
    (h1 : log.map (fun k => (H.get k).ren (renK base L)) = imgsL) (h2 : L.map (fun k => (H.get k).ren (renK base L)) = imgs) :
    gcAt base vals log H = (renL (renK base L) vals, imgs.foldl Heap.push ((log.zip imgsL).foldl (fun h x => h.set x.1 x.2) ⟨base, H.objs.drop (H.n - base)⟩)) := by
  unfold gcAt
  rw [hc]
  simp only [hb, if_true]
  have e1 : ∀ (l : List Nat) (h : Heap), (l.zip (l.map (fun k => (H.get k).ren (renK base L)))).foldl (fun h x => h.set x.1 x.2) h = l.foldl (fun h k => h.set k ((H.get k).ren (renK base L))) h := by
    intro l
    induction l with
    | nil => intro h; rfl
    | cons a r ih => intro h; simp only [List.map_cons, List.zip_cons_cons, List.foldl_cons]; exact ih _
  have e2 : ∀ (l : List Nat) (h : Heap), (l.map (fun k => (H.get k).ren (renK base L))).foldl Heap.push h = l.foldl (fun h k => h.push ((H.get k).ren (renK base L))) h := by
    intro l
    induction l with
    | nil => intro h; rfl
    | cons a r ih => intro h; simp only [List.map_cons, List.foldl_cons]; exact ih _
  rw [← h1, ← h2, e1, e2]
end Go.Dg
namespace Go.Dg
/-- One round by a run with hints, and the sweep at the next head. -/
theorem code_round3 {P : Program} {G : Nat} {ok : List Bool} {over : Ev} {sb : List Nat} {lf n f base b0 : Nat} {c : Code} {kp : List Nat} {s : St} (keep : List Nat) (hs : List Hint) {ts' ts2 : List Value} {H' H2 : Heap} {log : List Nat} (ob : List Prop)
    (h : (evCodeSK P G ok (evCall P G ok over sb lf n) (evCallS P G ok over sb lf n) f base b0 lf c kp s hs).map (fun r => (r.1, cleanTs b0 keep r.2.1.ts, r.2.1.H, r.2.1.log, r.2.2.1, r.2.2.2)) = some (.normal, ts', H', log, [], ob)) (ho : AllP ob)
    (hg : gcAt base ts' log H' = (ts2, H2)) : ∃ s', evCodeK P G ok (evCall P G ok over sb lf n) base b0 lf c kp s = some (.normal, s') ∧ cleanSt base b0 keep s' = ⟨ts2, H2, log⟩ := by
  rw [Option.map_eq_some_iff] at h
  obtain ⟨⟨e, s', hs', ob'⟩, h1, h2⟩ := h
  simp only [Prod.mk.injEq] at h2
  obtain ⟨rfl, rfl, rfl, rfl, rfl, rfl⟩ := h2
  refine ⟨s', evCode_hint ob' h1 ho, ?_⟩
  unfold cleanSt
  simp only [hg]
end Go.Dg
