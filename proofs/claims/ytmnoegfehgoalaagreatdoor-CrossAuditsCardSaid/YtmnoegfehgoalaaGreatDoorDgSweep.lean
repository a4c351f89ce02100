/- Sweeping the abstract heap is sound: the same world under other numbers. -/
import Derived.Test.YtmnoegfehgoalaaGreatDoorDgDrawS
namespace Go.Dg
set_option linter.unusedVariables false
set_option linter.unusedSimpArgs false
theorem collect_spec {base : Nat} {H : Heap} : ∀ (n : Nat) (todo seen L : List Nat), collect base H n todo seen = some L → (∀ k ∈ seen, base ≤ k) → seen.Nodup →
    (∀ k ∈ seen, ∀ j ∈ (H.get k).ids, j < base ∨ j ∈ seen ∨ j ∈ todo) →
    (∀ k ∈ seen, k ∈ L) ∧ (∀ k ∈ todo, k < base ∨ k ∈ L) ∧ (∀ k ∈ L, base ≤ k) ∧ L.Nodup ∧ (∀ k ∈ L, ∀ j ∈ (H.get k).ids, j < base ∨ j ∈ L) := by
  intro n
  induction n with
  | zero =>
    intro todo seen L h h1 h2 h3
    cases todo with
    | nil =>
      simp only [collect, Option.some.injEq] at h
      subst h
      exact ⟨fun k hk => hk, (fun k hk => by cases hk), h1, h2, (fun k hk j hj => (h3 k hk j hj).elim .inl (fun a => a.elim .inr (fun b => by cases b)))⟩
    | cons k r => simp [collect] at h
  | succ n ih =>
    intro todo seen L h h1 h2 h3
    cases todo with
    | nil =>
      simp only [collect, Option.some.injEq] at h
      subst h
      exact ⟨fun k hk => hk, (fun k hk => by cases hk), h1, h2, (fun k hk j hj => (h3 k hk j hj).elim .inl (fun a => a.elim .inr (fun b => by cases b)))⟩
    | cons k r =>
      simp only [collect] at h
      split at h
      · rename_i hc
        simp only [Bool.or_eq_true, decide_eq_true_eq, List.contains_iff_mem] at hc
        obtain ⟨g1, g2, g3, g4, g5⟩ := ih r seen L h h1 h2 (fun i hi j hj => by
          rcases h3 i hi j hj with a | a | a
          · exact .inl a
          · exact .inr (.inl a)
          · rcases List.mem_cons.1 a with rfl | a
            · rcases hc with b | b
              · exact .inl b
              · exact .inr (.inl b)
            · exact .inr (.inr a))
        refine ⟨g1, fun j hj => ?_, g3, g4, g5⟩
        rcases List.mem_cons.1 hj with rfl | hj
        · rcases hc with b | b
          · exact .inl b
          · exact .inr (g1 _ b)
        · exact g2 j hj
      · rename_i hc
        have hc' : ¬ (k < base) ∧ k ∉ seen := by
          constructor
          · intro a; exact hc (by simp [a])
          · intro a; exact hc (by simp [a])
        obtain ⟨g1, g2, g3, g4, g5⟩ := ih ((H.get k).ids ++ r) (seen ++ [k]) L h (by
            intro j hj
            rcases List.mem_append.1 hj with a | a
            · exact h1 j a
            · have : j = k := by simpa using a
              subst this; omega)
          (by
            rw [List.nodup_append]
            refine ⟨h2, by simp, fun a ha b hb => ?_⟩
            have : b = k := by simpa using hb
            subst this
            intro e; subst e; exact hc'.2 ha)
          (by
            intro i hi j hj
            rcases List.mem_append.1 hi with a | a
            · rcases h3 i a j hj with b | b | b
              · exact .inl b
              · exact .inr (.inl (List.mem_append_left _ b))
              · rcases List.mem_cons.1 b with rfl | b
                · exact .inr (.inl (by simp))
                · exact .inr (.inr (List.mem_append_right _ b))
            · have : i = k := by simpa using a
              subst this
              exact .inr (.inr (List.mem_append_left _ hj)))
        refine ⟨fun j hj => g1 j (List.mem_append_left _ hj), fun j hj => ?_, g3, g4, g5⟩
        rcases List.mem_cons.1 hj with rfl | hj
        · exact .inr (g1 _ (by simp))
        · exact g2 j (List.mem_append_right _ hj)
theorem idsL_get : ∀ (l : List Value) (i : Nat) (v : Value), l[i]? = some v → ∀ k ∈ idsOf v, k ∈ idsOfL l := by
  intro l
  induction l with
  | nil => intro i v h; simp at h
  | cons u r ih =>
    intro i v h k hk
    simp only [idsOfL]
    cases i with
    | zero => simp at h; subst h; exact List.mem_append_left _ hk
    | succ i => exact List.mem_append_right _ (ih i v (by simpa using h) k hk)
theorem idsA_get (a : Array Value) (i : Nat) (v : Value) (h : a[i]? = some v) : ∀ k ∈ idsOf v, k ∈ idsOfA a := by
  cases a with | mk l => simpa [idsOfA] using idsL_get l i v (by simpa using h)
theorem renL_get (f : Nat → Nat) : ∀ (l : List Value) (i : Nat), (renL f l)[i]? = (l[i]?).map (renV f) := by
  intro l
  induction l with
  | nil => intro i; simp [renL]
  | cons u r ih => intro i; cases i <;> simp [renL, ih]
theorem renL_length (f : Nat → Nat) : ∀ (l : List Value), (renL f l).length = l.length := by
  intro l; induction l with
  | nil => rfl
  | cons u r ih => simp [renL, ih]
theorem renA_get (f : Nat → Nat) (a : Array Value) (i : Nat) : (renA f a)[i]? = (a[i]?).map (renV f) := by
  cases a with | mk l => simpa [renA] using renL_get f l i
theorem renA_size (f : Nat → Nat) (a : Array Value) : (renA f a).size = a.size := by
  cases a with | mk l => simpa [renA] using renL_length f l
theorem vrel_ren {M M2 : Emb} {f : Nat → Nat} {good : Nat → Prop} (hM : ∀ k x, M k = some x → good k → M2 (f k) = some x) {v v' : Value} (h : VRel M v v') : (∀ k ∈ idsOf v, good k) → VRel M2 (renV f v) v' := by
  have arr : ∀ (a a' : Array Value), a.size = a'.size → (∀ (i : Nat) (v v' : Value), a[i]? = some v → a'[i]? = some v' → (∀ k ∈ idsOf v, good k) → VRel M2 (renV f v) v') → (∀ k ∈ idsOfA a, good k) → ARel M2 (renA f a) a' := by
    intro a a' hs hrec hk
    refine ⟨by rw [renA_size, hs], fun i u u' h1 h2 => ?_⟩
    rw [renA_get, Option.map_eq_some_iff] at h1
    obtain ⟨u0, hu0, rfl⟩ := h1
    exact hrec i u0 u' hu0 h2 (fun k hk' => hk k (idsA_get a i u0 hu0 k hk'))
  induction h with
  | atom h0 =>
    rename_i v
    intro _
    have e : renV f v = v := by
      cases v with
      | pointer x => cases x with
        | none => rfl
        | some y => simp [atom] at h0
      | slice x _ _ => cases x with
        | none => rfl
        | some y => simp [atom] at h0
      | map x => cases x with
        | none => rfl
        | some y => simp [atom] at h0
      | func _ _ _ => simp [atom] at h0
      | iface _ _ => simp [atom] at h0
      | agg _ => simp [atom] at h0
      | tuple _ => simp [atom] at h0
      | _ => rfl
    rw [e]; exact .atom h0
  | ptr h0 => intro hk; exact .ptr (hM _ _ h0 (hk _ (by simp [idsOf])))
  | slx h0 => intro hk; exact .slx (hM _ _ h0 (hk _ (by simp [idsOf])))
  | slf h0 => intro hk; exact .slf (hM _ _ h0 (hk _ (by simp [idsOf])))
  | map h0 => intro hk; exact .map (hM _ _ h0 (hk _ (by simp [idsOf])))
  | emp h0 => intro _; exact .emp h0
  | iface _ ih => intro hk; exact .iface (ih (by simpa [idsOf] using hk))
  | func hf h1 h2 h3 h4 ih1 ih2 =>
    rename_i fn a a' c c'
    intro hk
    have e : renFn f fn = fn := by cases fn <;> first | rfl | (simp [flatFn] at hf)
    have q1 := arr a a' h1 ih1 (fun k hk' => hk k (by simp only [idsOf]; exact List.mem_append_right _ (List.mem_append_left _ hk')))
    have q2 := arr c c' h3 ih2 (fun k hk' => hk k (by simp only [idsOf]; exact List.mem_append_right _ (List.mem_append_right _ hk')))
    simp only [renV]
    rw [e]
    exact .func hf q1.1 q1.2 q2.1 q2.2
  | yield h0 =>
    intro hk
    have := VRel.yield (hM _ _ h0 (hk _ (by simp [idsOf])))
    simpa [renV, renFn, renA, renL] using this
  | agg h1 h2 ih =>
    rename_i a a'
    intro hk
    have q := arr a a' h1 ih (fun k hk' => hk k (by simpa [idsOf] using hk'))
    exact .agg q.1 q.2
  | tuple h1 h2 ih =>
    rename_i a a'
    intro hk
    have q := arr a a' h1 ih (fun k hk' => hk k (by simpa [idsOf] using hk'))
    exact .tuple q.1 q.2
theorem ids_of_vrel {M : Emb} {v v' : Value} (h : VRel M v v') : ∀ k ∈ idsOf v, ∃ x, M k = some x := by
  have arr : ∀ (a a' : Array Value), a.size = a'.size → (∀ (i : Nat) (v v' : Value), a[i]? = some v → a'[i]? = some v' → ∀ k ∈ idsOf v, ∃ x, M k = some x) → ∀ k ∈ idsOfA a, ∃ x, M k = some x := by
    intro a a' hs hrec k hk
    have : ∀ (l : List Value), (∀ (i : Nat) (v : Value), l[i]? = some v → ∀ k ∈ idsOf v, ∃ x, M k = some x) → k ∈ idsOfL l → ∃ x, M k = some x := by
      intro l
      induction l with
      | nil => intro _ h; simp [idsOfL] at h
      | cons u r ih =>
        intro h1 h2
        simp only [idsOfL] at h2
        rcases List.mem_append.1 h2 with b | b
        · exact h1 0 u rfl k b
        · exact ih (fun i v hv => h1 (i + 1) v (by simpa using hv)) b
    cases a with
    | mk l =>
      refine this l (fun i v hv => ?_) (by simpa [idsOfA] using hk)
      have hi : i < a'.size := by
        rw [← hs]
        rcases Nat.lt_or_ge i l.length with h0 | h0
        · simpa using h0
        · rw [List.getElem?_eq_none h0] at hv; cases hv
      exact hrec i v a'[i] (by simpa using hv) (by simp [hi])
  induction h with
  | atom h0 =>
    rename_i v
    cases v <;> simp_all [atom, idsOf]
  | ptr h0 => intro k hk; simp [idsOf] at hk; subst hk; exact ⟨_, h0⟩
  | slx h0 => intro k hk; simp [idsOf] at hk; subst hk; exact ⟨_, h0⟩
  | slf h0 => intro k hk; simp [idsOf] at hk; subst hk; exact ⟨_, h0⟩
  | map h0 => intro k hk; simp [idsOf] at hk; subst hk; exact ⟨_, h0⟩
  | emp _ => intro k hk; simp [idsOf] at hk
  | iface _ ih => intro k hk; exact ih k (by simpa [idsOf] using hk)
  | func hf h1 h2 h3 h4 ih1 ih2 =>
    rename_i fn a a' c c'
    intro k hk
    simp only [idsOf] at hk
    rcases List.mem_append.1 hk with b | b
    · cases fn <;> first | (simp [flatFn] at hf; done) | (simp at b; done)
    · rcases List.mem_append.1 b with b | b
      · exact arr a a' h1 ih1 k b
      · exact arr c c' h3 ih2 k b
  | yield h0 => intro k hk; simp [idsOf, idsOfA, idsOfL] at hk; subst hk; exact ⟨_, h0⟩
  | agg h1 h2 ih => rename_i a a'; intro k hk; exact arr a a' h1 ih k (by simpa [idsOf] using hk)
  | tuple h1 h2 ih => rename_i a a'; intro k hk; exact arr a a' h1 ih k (by simpa [idsOf] using hk)
theorem get_trunc {H : Heap} {n : Nat} (hn : n ≤ H.n) (k : Nat) : (⟨n, H.objs.drop (H.n - n)⟩ : Heap).get k = if k < n then H.get k else .dead := by
  unfold Heap.get
  by_cases hk : k < n
  · have hk2 : k < H.n := by omega
    simp only [hk, hk2, if_true, List.getD_eq_getElem?_getD, List.getElem?_drop]
    have e : H.n - n + (n - 1 - k) = H.n - 1 - k := by omega
    rw [e]
  · simp only [hk, if_false]
theorem get_sets (g : Nat → AObj) : ∀ (log : List Nat) (H : Heap), H.objs.length = H.n → (log.foldl (fun h k => h.set k (g k)) H).n = H.n ∧ (log.foldl (fun h k => h.set k (g k)) H).objs.length = H.objs.length ∧
    ∀ j, j < H.n → (log.foldl (fun h k => h.set k (g k)) H).get j = if j ∈ log then g j else H.get j := by
  intro log
  induction log with
  | nil => intro H _; exact ⟨rfl, rfl, fun j _ => by simp⟩
  | cons k r ih =>
    intro H hl
    simp only [List.foldl_cons]
    obtain ⟨h1, h2, h3⟩ := ih (H.set k (g k)) (by rw [Heap.len_set, Heap.n_set]; exact hl)
    rw [Heap.n_set] at h1
    rw [Heap.len_set] at h2
    refine ⟨h1, h2, fun j hj => ?_⟩
    rw [h3 j (by rw [Heap.n_set]; exact hj)]
    by_cases hr : j ∈ r
    · rw [if_pos hr, if_pos (List.mem_cons_of_mem _ hr)]
    · rw [if_neg hr]
      by_cases hjk : j = k
      · subst hjk; rw [if_pos (by simp), Heap.get_set_same H j _ hl hj]
      · rw [if_neg (by simp [hjk, hr]), Heap.get_set_ne H k j _ hjk]
theorem get_pushes (g : Nat → AObj) : ∀ (L : List Nat) (H : Heap), H.objs.length = H.n → (L.foldl (fun h k => h.push (g k)) H).n = H.n + L.length ∧ (L.foldl (fun h k => h.push (g k)) H).objs.length = H.n + L.length ∧
    ∀ j, (L.foldl (fun h k => h.push (g k)) H).get j = if j < H.n then H.get j else match L[j - H.n]? with | some k => g k | none => .dead := by
  intro L
  induction L with
  | nil =>
    intro H hl
    refine ⟨rfl, by simpa using hl, fun j => ?_⟩
    simp only [List.foldl_nil]
    split
    · rfl
    · rename_i h; simp [Heap.get_out H j (by omega)]
  | cons k r ih =>
    intro H hl
    simp only [List.foldl_cons]
    have hn : (H.push (g k)).n = H.n + 1 := rfl
    obtain ⟨h1, h2, h3⟩ := ih (H.push (g k)) (by simp [Heap.push, hl])
    refine ⟨by rw [h1, hn]; simp; omega, by rw [h2, hn]; simp; omega, fun j => ?_⟩
    rw [h3 j, hn]
    by_cases c1 : j < H.n
    · rw [if_pos (by omega), if_pos c1, Heap.get_push_old H _ j c1]
    · rw [if_neg c1]
      by_cases c2 : j = H.n
      · subst c2
        rw [if_pos (by omega), Heap.get_push_new]
        simp
      · rw [if_neg (by omega)]
        have e : j - H.n = (j - (H.n + 1)) + 1 := by omega
        rw [e]; simp
theorem idxOf_get {L : List Nat} {k : Nat} (h : k ∈ L) : L[L.idxOf k]? = some k := by
  have h1 : L.idxOf k < L.length := List.idxOf_lt_length_iff.2 h
  rw [List.getElem?_eq_getElem h1, List.getElem_idxOf]
mutual
theorem renV_id (n : Nat) (L : List Nat) : ∀ v : Value, (∀ j ∈ idsOf v, j < n) → renV (renK n L) v = v
  | .pointer none, _ => rfl
  | .pointer (some a), h => by
    have := h a.block (by simp [idsOf])
    simp [renV, renK, this]
  | .slice none _ _, _ => rfl
  | .slice (some a) _ _, h => by
    have := h a.block (by simp [idsOf])
    simp [renV, renK, this]
  | .map none, _ => rfl
  | .map (some r), h => by
    have := h r (by simp [idsOf])
    simp [renV, renK, this]
  | .func fn a b, h => by
    have e : renFn (renK n L) fn = fn := by
      cases fn with
      | yield l =>
        have := h l (by simp [idsOf])
        simp [renFn, renK, this]
      | _ => rfl
    have h1 := renA_id n L a (fun j hj => h j (by simp only [idsOf]; exact List.mem_append_right _ (List.mem_append_left _ hj)))
    have h2 := renA_id n L b (fun j hj => h j (by simp only [idsOf]; exact List.mem_append_right _ (List.mem_append_right _ hj)))
    simp only [renV, e, h1, h2]
  | .iface t v, h => by simp only [renV, renV_id n L v (by simpa [idsOf] using h)]
  | .agg a, h => by simp only [renV, renA_id n L a (by simpa [idsOf] using h)]
  | .tuple a, h => by simp only [renV, renA_id n L a (by simpa [idsOf] using h)]
  | .bool _, _ => rfl
  | .int _ _, _ => rfl
  | .float _ _, _ => rfl
  | .complex _ _ _, _ => rfl
  | .string _, _ => rfl
  | .nilFunc, _ => rfl
  | .nilIface, _ => rfl
  | .chan _, _ => rfl
theorem renA_id (n : Nat) (L : List Nat) : ∀ a : Array Value, (∀ j ∈ idsOfA a, j < n) → renA (renK n L) a = a
  | ⟨l⟩, h => by simp only [renA, renL_id n L l (by simpa [idsOfA] using h)]
theorem renL_id (n : Nat) (L : List Nat) : ∀ l : List Value, (∀ j ∈ idsOfL l, j < n) → renL (renK n L) l = l
  | [], _ => rfl
  | v :: r, h => by
    have h1 := renV_id n L v (fun j hj => h j (by simp only [idsOfL]; exact List.mem_append_left _ hj))
    have h2 := renL_id n L r (fun j hj => h j (by simp only [idsOfL]; exact List.mem_append_right _ hj))
    simp only [renL, h1, h2]
end
theorem ids_of_trel {M : Emb} : ∀ {l l' : List Value}, TRel M l l' → ∀ k ∈ idsOfL l, ∃ x, M k = some x := by
  intro l
  induction l with
  | nil => intro l' _ k h; simp [idsOfL] at h
  | cons u r ih =>
    intro l' h k hk
    cases l' with
    | nil => have := h.1; simp at this
    | cons u' r' =>
      simp only [idsOfL] at hk
      rcases List.mem_append.1 hk with a | a
      · cases hj : isJunk u with
        | true => cases u <;> first | (simp [idsOf] at a; done) | (simp [isJunk] at hj)
        | false => exact ids_of_vrel (h.2 0 u u' rfl rfl hj) k a
      · exact ih (l' := r') ⟨by have := h.1; simpa using this, fun i v v' h1 h2 h3 => h.2 (i + 1) v v' (by simpa using h1) (by simpa using h2) h3⟩ k a
theorem junk_ren {f : Nat → Nat} {v : Value} : isJunk (renV f v) = isJunk v := by cases v <;> rfl
theorem ids_obj {M : Emb} {N : Nat} {w : World} {o : AObj} {b off sp : Nat} (h : ObjRel M N w o b off sp) : ∀ k ∈ o.ids, ∃ x, M k = some x := by
  intro k hk
  cases o with
  | dead => simp [AObj.ids] at hk
  | iter s pos => simp [AObj.ids] at hk
  | loop r =>
    obtain ⟨fn, tmps, D, _, h2, _⟩ := h
    exact ids_of_trel h2 k hk
  | cells cs e md esz =>
    obtain ⟨C, fz, _, _, h3, _⟩ := h
    simp only [AObj.ids] at hk
    split at hk
    · cases hk
    split at hk
    · cases hk
    · have : ∀ (l : List Value), (∀ (i : Nat) (v : Value), l[i]? = some v → ∃ u, VRel M v u) → k ∈ idsOfL l → ∃ x, M k = some x := by
        intro l
        induction l with
        | nil => intro _ h; simp [idsOfL] at h
        | cons u r ih =>
          intro h1 h2
          simp only [idsOfL] at h2
          rcases List.mem_append.1 h2 with a | a
          · obtain ⟨u', hu⟩ := h1 0 u rfl; exact ids_of_vrel hu k a
          · exact ih (fun i v hv => h1 (i + 1) v (by simpa using hv)) a
      exact this cs (fun i v hv => let ⟨u, _, hu⟩ := h3 i v hv; ⟨u, hu⟩) hk
/-- The same under other names, without marks. -/
def AObj.renS (f : Nat → Nat) : AObj → AObj
  | .cells cs e md esz => if Nat.ble 4 md then .cells cs e md esz else if flatL cs then .cells cs e md esz else .cells (renL f cs) e md esz
  | .loop r => .loop { r with ts := renL f r.ts }
  | o => o
theorem obj_renS {M M2 : Emb} {f : Nat → Nat} {good : Nat → Prop} (hM : ∀ k x, M k = some x → good k → M2 (f k) = some x) {N : Nat} {w : World} {o : AObj} {b off sp : Nat} (h : ObjRel M N w o b off sp) (hg : ∀ k ∈ o.ids, good k) :
    ObjRel M2 N w (o.renS f) b off sp := by
  cases o with
  | dead => trivial
  | iter s pos => exact h
  | loop r =>
    obtain ⟨fn, tmps, D, h1, h2, h3⟩ := h
    refine ⟨fn, tmps, D, h1, ⟨by simp only [renL_length]; exact h2.1, fun i v v' hv hv' hj => ?_⟩, h3⟩
    simp only [renL_get, Option.map_eq_some_iff] at hv
    obtain ⟨u, hu, rfl⟩ := hv
    rw [junk_ren] at hj
    exact vrel_ren hM (h2.2 i u v' hu hv' hj) (fun k hk => hg k (idsL_get r.ts i u hu k hk))
  | cells cs e md esz =>
    obtain ⟨C, fz, h1, h2, h3, h4, h5⟩ := h
    simp only [AObj.renS]
    simp only [AObj.ids] at hg
    split
    · rename_i hb
      have hf := h5.2 (Nat.le_of_ble_eq_true hb)
      refine ⟨C, fz, h1, h2, fun i v hv => ?_, h4, h5⟩
      obtain ⟨v', a, c⟩ := h3 i v hv
      have hfv := flatL_get cs hf i v hv
      rw [c.eq_of_flat hfv] at a
      exact ⟨v, a, vrel_of_flat M2 v hfv⟩
    rename_i hnb
    rw [if_neg hnb] at hg
    split
    · rename_i hf
      refine ⟨C, fz, h1, h2, fun i v hv => ?_, h4, h5⟩
      obtain ⟨v', a, c⟩ := h3 i v hv
      have hfv := flatL_get cs hf i v hv
      rw [c.eq_of_flat hfv] at a
      exact ⟨v, a, vrel_of_flat M2 v hfv⟩
    · rename_i hf
      rw [if_neg hf] at hg
      refine ⟨C, fz, h1, by rw [renL_length]; exact h2, fun i v hv => ?_, h4, h5.1, fun h => absurd (Nat.ble_eq_true_of_le h) hnb⟩
      rw [renL_get, Option.map_eq_some_iff] at hv
      obtain ⟨u, hu, rfl⟩ := hv
      obtain ⟨v', a, c⟩ := h3 i u hu
      exact ⟨v', a, vrel_ren hM c (fun k hk => hg k (idsL_get cs i u hu k hk))⟩
/-- The same, and what holds no address is marked so. -/
theorem obj_ren {M M2 : Emb} {f : Nat → Nat} {good : Nat → Prop} (hM : ∀ k x, M k = some x → good k → M2 (f k) = some x) {N : Nat} {w : World} {o : AObj} {b off sp : Nat} (h : ObjRel M N w o b off sp) (hg : ∀ k ∈ o.ids, good k) :
    ObjRel M2 N w (o.ren f) b off sp := by
  have h0 := obj_renS hM h hg
  cases o with
  | dead => exact h0
  | iter s pos => exact h0
  | loop r => exact h0
  | cells cs e md esz =>
    simp only [AObj.ren, AObj.renS] at h0 ⊢
    split
    · rename_i hb; rw [if_pos hb] at h0; exact h0
    · rename_i hb
      rw [if_neg hb] at h0
      split
      · rename_i hf
        rw [if_pos hf] at h0
        obtain ⟨C, fz, h1, h2, h3, h4, h5⟩ := h0
        exact ⟨C, fz, h1, h2, h3, fun h => h4 (by omega), fun h => h5.1 (by omega), fun _ => hf⟩
      · rename_i hf; rw [if_neg hf] at h0; exact h0
theorem ren_live {o : AObj} {f : Nat → Nat} : (o.ren f).live = o.live := by
  cases o with
  | cells cs e md esz =>
    simp only [AObj.ren]
    split
    · rfl
    split <;> rfl
  | _ => rfl
theorem ren_owned {o : AObj} {f : Nat → Nat} : (o.ren f).owned = o.owned := by
  cases o with
  | cells cs e md esz =>
    simp only [AObj.ren]
    split
    · rfl
    split
    · simp [AObj.owned]
    · rfl
  | _ => rfl
theorem gc_log {H0 H H2 : Heap} {vals vals2 : List Value} {log : List Nat} (hl : LogOk H0 H log) (h : gcAt H0.n vals log H = (vals2, H2)) : LogOk H0 H2 log := by
  intro h0
  obtain ⟨hlen, hn, hk0⟩ := hl h0
  unfold gcAt at h
  split at h
  · rename_i L hL
    have hb := hn
    rw [if_pos hn] at h
    cases h
    have hblen : (⟨H0.n, H.objs.drop (H.n - H0.n)⟩ : Heap).objs.length = H0.n := by simp only [List.length_drop]; omega
    obtain ⟨s1, s2, s3⟩ := get_sets (fun k => (H.get k).ren (renK H0.n L)) log ⟨H0.n, H.objs.drop (H.n - H0.n)⟩ hblen
    obtain ⟨p1, p2, p3⟩ := get_pushes (fun k => (H.get k).ren (renK H0.n L)) L (log.foldl (fun h k => h.set k ((H.get k).ren (renK H0.n L))) ⟨H0.n, H.objs.drop (H.n - H0.n)⟩) (by rw [s2, s1]; exact hblen)
    rw [s1] at p1 p2 p3
    dsimp only at p1 p2 p3 s3
    refine ⟨by rw [p1, p2], by rw [p1]; exact Nat.le_add_right _ _, fun k hk hkn => ?_⟩
    rw [p3 k, if_pos hk, s3 k hk, if_neg hkn, get_trunc hb, if_pos hk]
    exact hk0 k hk hkn
  · cases h; exact ⟨hlen, hn, hk0⟩
theorem gc_sound {N : Nat} {M0 M : Emb} {H0 H H2 : Heap} {w0 w : World} {vals vals2 : List Value} {log : List Nat} (hr0 : HRel M0 N H0 w0) (hs : Stp N M0 H0 w0 M H w) (hl0 : LogOk H0 H log) (h : gcAt H0.n vals log H = (vals2, H2)) :
    ∃ M2, Stp N M0 H0 w0 M2 H2 w ∧ (∀ l', LRel M vals l' → LRel M2 vals2 l') ∧ (∀ l', TRel M vals l' → TRel M2 vals2 l') := by
  have hl := (hl0 hr0.len).2
  unfold gcAt at h
  split at h
  rotate_left
  · cases h; exact ⟨M, hs, fun _ h => h, fun _ h => h⟩
  rename_i L hL
  split at h
  rotate_left
  · cases h; exact ⟨M, hs, fun _ h => h, fun _ h => h⟩
  rename_i hb
  cases h
  obtain ⟨_, c2, c3, c4, c5⟩ := collect_spec _ _ _ L hL (fun k hk => by cases hk) List.nodup_nil (fun k hk => by cases hk)
  have hlen := hs.rel.len
  have hblen : (⟨H0.n, H.objs.drop (H.n - H0.n)⟩ : Heap).objs.length = H0.n := by simp only [List.length_drop]; omega
  obtain ⟨s1, s2, s3⟩ := get_sets (fun k => (H.get k).ren (renK H0.n L)) log ⟨H0.n, H.objs.drop (H.n - H0.n)⟩ hblen
  obtain ⟨p1, p2, p3⟩ := get_pushes (fun k => (H.get k).ren (renK H0.n L)) L (log.foldl (fun h k => h.set k ((H.get k).ren (renK H0.n L))) ⟨H0.n, H.objs.drop (H.n - H0.n)⟩) (by rw [s2, s1]; exact hblen)
  rw [s1] at p1 p2 p3
  dsimp only at p1 p2 p3 s3
  generalize hH2 : L.foldl (fun (h : Heap) (k : Nat) => h.push ((H.get k).ren (renK H0.n L))) (log.foldl (fun (h : Heap) (k : Nat) => h.set k ((H.get k).ren (renK H0.n L))) (⟨H0.n, H.objs.drop (H.n - H0.n)⟩ : Heap)) = H2 at p1 p2 p3 ⊢
  -- where things lie now
  let M2 : Emb := fun k => if k < H0.n then M k else (L[k - H0.n]?).bind M
  have good : ∀ k x, M k = some x → (k < H0.n ∨ k ∈ L) → M2 (renK H0.n L k) = some x := by
    intro k x hx hk
    show (if renK H0.n L k < H0.n then M (renK H0.n L k) else (L[renK H0.n L k - H0.n]?).bind M) = some x
    unfold renK
    by_cases hlt : k < H0.n
    · simp [hlt, hx]
    · have hkL := hk.resolve_left hlt
      simp only [hlt, if_false]
      rw [if_neg (by omega)]
      have e : H0.n + L.idxOf k - H0.n = L.idxOf k := by omega
      rw [e, idxOf_get hkL]; exact hx
  have hM2 : ∀ k x, M2 k = some x → (k < H0.n ∧ M k = some x) ∨ ∃ j, L[k - H0.n]? = some j ∧ H0.n ≤ k ∧ M j = some x := by
    intro k x hx
    have hx' : (if k < H0.n then M k else (L[k - H0.n]?).bind M) = some x := hx
    split at hx'
    · rename_i hlt; exact .inl ⟨hlt, hx'⟩
    · rename_i hlt
      obtain ⟨j, h1, h2⟩ := Option.bind_eq_some_iff.1 hx'
      exact .inr ⟨j, h1, by omega, h2⟩
  -- an old object names nothing new, or it is in the log
  have hold : ∀ k, k < H0.n → ∀ j ∈ (H.get k).ids, j < H0.n ∨ j ∈ L := by
    intro k hk j hj
    by_cases hkl : k ∈ log
    · exact c2 j (List.mem_append_right _ (List.mem_flatMap.2 ⟨k, hkl, hj⟩))
    · rw [hl.2 k hk hkl] at hj
      left
      cases hlv : (H0.get k).live with
      | false =>
        cases hg : H0.get k <;> rw [hg] at hlv hj <;> first | (cases hlv; done) | (simp [AObj.ids] at hj)
      | true =>
        obtain ⟨b, o, sp, _, ho⟩ := hr0.obj k hlv
        obtain ⟨x, hx⟩ := ids_obj ho j hj
        exact hr0.dom j x hx
  have hget_old : ∀ k, k < H0.n → (H2.get k).live = (H.get k).live ∧ (H2.get k).owned = (H.get k).owned ∧ ∀ b o sp, ObjRel M N w (H.get k) b o sp → ObjRel M2 N w (H2.get k) b o sp := by
    intro k hk
    rw [p3 k, if_pos hk, s3 k hk]
    by_cases hkl : k ∈ log
    · rw [if_pos hkl]
      exact ⟨ren_live, ren_owned, fun b o sp ho => obj_ren good ho (hold k hk)⟩
    · rw [if_neg hkl, get_trunc hb, if_pos hk]
      refine ⟨rfl, rfl, fun b o sp ho => ?_⟩
      -- it is as it was: its names are old
      have hren := obj_renS good ho (hold k hk)
      have hsame : (H.get k).renS (renK H0.n L) = H.get k := by
        have hidsold : ∀ j ∈ (H.get k).ids, j < H0.n := by
          intro j hj
          rw [hl.2 k hk hkl] at hj
          cases hlv : (H0.get k).live with
          | false =>
            cases hg : H0.get k <;> rw [hg] at hlv hj <;> first | (cases hlv; done) | (simp [AObj.ids] at hj)
          | true =>
            obtain ⟨b, o, sp, _, ho⟩ := hr0.obj k hlv
            obtain ⟨x, hx⟩ := ids_obj ho j hj
            exact hr0.dom j x hx
        cases hg : H.get k with
        | dead => rfl
        | iter s pos => rfl
        | loop r =>
          rw [hg] at hidsold
          simp only [AObj.ids] at hidsold
          simp only [AObj.renS]
          rw [renL_id H0.n L r.ts hidsold]
        | cells cs e md esz =>
          rw [hg] at hidsold
          simp only [AObj.ids] at hidsold
          simp only [AObj.renS]
          split
          · rfl
          rename_i hnb
          rw [if_neg hnb] at hidsold
          split
          · rfl
          · rename_i hf
            rw [if_neg hf] at hidsold
            have : ∀ (l : List Value), (∀ j ∈ idsOfL l, j < H0.n) → renL (renK H0.n L) l = l := renL_id H0.n L
            rw [this cs hidsold]
      rw [hsame] at hren
      exact hren
  have hget_new : ∀ k, H0.n ≤ k → (H2.get k).live = true → ∃ j, L[k - H0.n]? = some j ∧ (H.get j).live = true ∧ (H2.get k).owned = (H.get j).owned ∧ ∀ b o sp, ObjRel M N w (H.get j) b o sp → ObjRel M2 N w (H2.get k) b o sp := by
    intro k hk hlv
    rw [p3 k, if_neg (by omega)] at hlv ⊢
    cases hj : L[k - H0.n]? with
    | none => rw [hj] at hlv; cases hlv
    | some j =>
      rw [hj] at hlv
      simp only at hlv ⊢
      rw [ren_live] at hlv
      exact ⟨j, rfl, hlv, ren_owned, fun b o sp ho => obj_ren good ho (fun i hi => c5 j (List.mem_of_getElem? hj) i hi)⟩
  refine ⟨M2, ⟨⟨?_, ⟨by rw [p1, p2], ?_, ?_, ?_, hs.rel.base⟩, hs.size, hs.os, hs.tape, hs.output, by rw [p1]; exact Nat.le_add_right _ _, ?_, hs.frame⟩, fun j hj hm => by show (if j < H0.n then M j else _) = none; rw [if_pos hj]; exact hs.nodead j hj hm⟩, ?_, ?_⟩
  · intro k x hx
    have hk := hr0.dom k x hx
    show (if k < H0.n then M k else _) = some x
    rw [if_pos hk]; exact hs.le k x hx
  · intro k x hx
    rw [p1]
    rcases hM2 k x hx with ⟨h1, _⟩ | ⟨j, h1, h2, _⟩
    · omega
    · have : k - H0.n < L.length := by
        rcases Nat.lt_or_ge (k - H0.n) L.length with h0 | h0
        · exact h0
        · rw [List.getElem?_eq_none h0] at h1; cases h1
      omega
  · intro k hk
    rcases Nat.lt_or_ge k H0.n with hlt | hge
    · obtain ⟨g1, _, g3⟩ := hget_old k hlt
      rw [g1] at hk
      obtain ⟨b, o, sp, h1, h2⟩ := hs.rel.obj k hk
      exact ⟨b, o, sp, by show (if k < H0.n then M k else _) = _; rw [if_pos hlt]; exact h1, g3 b o sp h2⟩
    · obtain ⟨j, h1, h2, _, h4⟩ := hget_new k hge hk
      obtain ⟨b, o, sp, q1, q2⟩ := hs.rel.obj j h2
      exact ⟨b, o, sp, by show (if k < H0.n then M k else (L[k - H0.n]?).bind M) = _; rw [if_neg (by omega), h1]; exact q1, h4 b o sp q2⟩
  · intro k k' b o sp b' o' sp' hne hko hkl hm hm'
    -- the two old numbers
    have nm : ∀ k, (H2.get k).live = true → ∀ x, M2 k = some x → ∃ j, (H.get j).live = true ∧ ((H2.get k).owned = (H.get j).owned) ∧ M j = some x ∧ ((k < H0.n ∧ j = k) ∨ (H0.n ≤ k ∧ L[k - H0.n]? = some j)) := by
      intro k hk x hx
      rcases Nat.lt_or_ge k H0.n with hlt | hge
      · obtain ⟨g1, g2, _⟩ := hget_old k hlt
        rcases hM2 k x hx with ⟨_, h2⟩ | ⟨j, _, h2, _⟩
        · exact ⟨k, by rw [← g1]; exact hk, g2, h2, .inl ⟨hlt, rfl⟩⟩
        · omega
      · obtain ⟨j, h1, h2, h3, _⟩ := hget_new k hge hk
        rcases hM2 k x hx with ⟨h4, _⟩ | ⟨j', h4, _, h5⟩
        · omega
        · rw [h1] at h4; cases h4
          exact ⟨j, h2, h3, h5, .inr ⟨hge, h1⟩⟩
    obtain ⟨j, a1, a2, a3, a4⟩ := nm k (AObj.live_of_owned hko) _ hm
    obtain ⟨j', b1, b2, b3, b4⟩ := nm k' hkl _ hm'
    have hjj : j ≠ j' := by
      intro e
      subst e
      rcases a4 with ⟨x1, x2⟩ | ⟨x1, x2⟩ <;> rcases b4 with ⟨y1, y2⟩ | ⟨y1, y2⟩
      · exact hne (x2.symm.trans y2)
      · have := c3 j (List.mem_of_getElem? y2); omega
      · have := c3 j (List.mem_of_getElem? x2); omega
      · have : k - H0.n = k' - H0.n := by
          have hx : k - H0.n < L.length := by
            rcases Nat.lt_or_ge (k - H0.n) L.length with h0 | h0
            · exact h0
            · rw [List.getElem?_eq_none h0] at x2; cases x2
          exact (List.getElem?_inj hx c4).1 (x2.trans y2.symm)
        exact hne (by omega)
    exact hs.rel.apart j j' b o sp b' o' sp' hjj (a2 ▸ hko) b1 a3 b3
  · intro k b o sp hko hm
    have hk := AObj.live_of_owned hko
    rcases Nat.lt_or_ge k H0.n with hlt | hge
    · obtain ⟨g1, g2, _⟩ := hget_old k hlt
      rcases hM2 k _ hm with ⟨_, h2⟩ | ⟨j, _, h2, _⟩
      · exact hs.own k b o sp (g2 ▸ hko) h2
      · omega
    · obtain ⟨j, h1, h2, h3, _⟩ := hget_new k hge hk
      rcases hM2 k _ hm with ⟨h4, _⟩ | ⟨j', h4, _, h5⟩
      · omega
      · rw [h1] at h4; cases h4
        exact hs.own j b o sp (h3 ▸ hko) h5
  · intro l' hl'
    refine ⟨by rw [renL_length]; exact hl'.1, fun i v v' h1 h2 => ?_⟩
    rw [renL_get, Option.map_eq_some_iff] at h1
    obtain ⟨u, hu, rfl⟩ := h1
    exact vrel_ren good (hl'.2 i u v' hu h2) (fun k hk => c2 k (List.mem_append_left _ (idsL_get vals i u hu k hk)))
  · intro l' hl'
    refine ⟨by rw [renL_length]; exact hl'.1, fun i v v' h1 h2 h3 => ?_⟩
    rw [renL_get, Option.map_eq_some_iff] at h1
    obtain ⟨u, hu, rfl⟩ := h1
    have hj : isJunk u = false := by
      cases u <;> first | rfl | (simp [renV, isJunk] at h3)
    exact vrel_ren good (hl'.2 i u v' hu h2 hj) (fun k hk => c2 k (List.mem_append_left _ (idsL_get vals i u hu k hk)))
end Go.Dg
