/- Laws for a region that draws its order, taken by hand. How lines meet samples: cross.Meet, what it comes to. -/
import Derived.Test.YtmnoegfehgoalaaGreatDoorCxTake
import Derived.Maps.RangeWalk
import Derived.Maps.AppendAt
import Derived.Deep.AppendLies
import Derived.Laws.Tables
namespace Go.Proofs.YtmnoegfehgoalaaGreatDoor.cx
open Go.RowKit Go.Extern.Stop Go.Stop Go.Extern Go.Cx
set_option linter.unusedVariables false
set_option maxRecDepth 1000000 in
theorem ld_wide (w : World) (b o : Nat) (h l : Int) (h0 : w.cell? ⟨b, o, none⟩ = some (.int .i64 h)) (h1 : w.cell? ⟨b, o + 1, none⟩ = some (.int .u64 l)) : (Instr.loadAt 45 (.pointer (some ⟨b, o, none⟩))).run Tryz.prog w = .ok (wd h l) w := by
  go_simp
set_option maxRecDepth 1000000 in
theorem ld_u64 (w : World) (b o : Nat) (v : Value) (h : w.cell? ⟨b, o, none⟩ = some v) : (Instr.loadAt 43 (.pointer (some ⟨b, o, none⟩))).run Tryz.prog w = .ok v w := by
  go_simp
set_option maxRecDepth 1000000 in
theorem ld_i64 (w : World) (b o : Nat) (v : Value) (h : w.cell? ⟨b, o, none⟩ = some v) : (Instr.loadAt 2 (.pointer (some ⟨b, o, none⟩))).run Tryz.prog w = .ok v w := by
  go_simp
set_option maxRecDepth 1000000 in
theorem fa_s4 (w : World) (b o : Nat) : (Instr.fieldAt 47 (.pointer (some ⟨b, o, none⟩)) 4).run Tryz.prog w = .ok (.pointer (some ⟨b, o + 42, none⟩)) w := by
  go_simp
set_option maxRecDepth 1000000 in
theorem fa_s5 (w : World) (b o : Nat) : (Instr.fieldAt 47 (.pointer (some ⟨b, o, none⟩)) 5).run Tryz.prog w = .ok (.pointer (some ⟨b, o + 44, none⟩)) w := by
  go_simp
set_option maxRecDepth 1000000 in
theorem fa_s6 (w : World) (b o : Nat) : (Instr.fieldAt 47 (.pointer (some ⟨b, o, none⟩)) 6).run Tryz.prog w = .ok (.pointer (some ⟨b, o + 45, none⟩)) w := by
  go_simp
set_option maxRecDepth 1000000 in
theorem fa_l3 (w : World) (b : Nat) : (Instr.fieldAt 52 (.pointer (some ⟨b, 0, none⟩)) 3).run Tryz.prog w = .ok (.pointer (some ⟨b, 36, none⟩)) w := by
  go_simp
set_option maxRecDepth 1000000 in
theorem ix_t3 (w : World) (b : Nat) : (Instr.indexAt 48 (.pointer (some ⟨b, 36, none⟩)) (.int .i64 3)).run Tryz.prog w = .ok (.pointer (some ⟨b, 39, none⟩)) w := by
  go_simp
theorem ex_field {P : Program} {ev : Operand → Value} {d : Option Tmp} {t ty : TypeId} {f : Nat} {x : Operand} {p : String} {e : Array Edge} {g : Option (Nat × Bool)} {A V : Value} {w : World} (hx : ev x = A) (h : (Instr.fieldAt t A f).run P w = .ok V w) : (execOp ev ⟨d, .fieldAddr t x f, ty, p, e, g⟩).run P w = .ok (.value V) w := by
  unfold execOp
  simp only [hx, Sem.run_bind, h, Result.andThen_ok, Sem.run_pure]
theorem take_do {P : Program} {md : Region.Mode} {ops : Array Oper} {Q : Exit → Act → World → Prop} {S : World → Prop} (i : Nat) {o : Oper} {v : Value} {fuel : Nat} {listed : Array Bool} {a : Act} {w w2 : World}
    (hi : ops[i]? = some o) (hr : Region.ready md ops listed = [i]) (hw : Region.wanted o (yielded ops a.tmps) = true) (hx : (execOp a.eval o).run P w = .ok (.value v) w2) (hS : S w2)
    (h : wpAnyH P md ops Q S fuel (listed.setIfInBounds i true) (a.put o.dst v) w2) : wpAnyH P md ops Q S (fuel + 1) listed a w := by
  refine wpAnyH_all hr (by simp) fun j hj => ?_
  obtain rfl : j = i := by simpa using hj
  refine wpOp_step hi (fun K' hK => ?_)
  rw [if_pos hw]
  unfold Oper.wp
  rw [hx, Oper.upon_value]
  exact hK _ _ ⟨hS, h⟩
theorem take_append {P : Program} {md : Region.Mode} {ops : Array Oper} {Q : Exit → Act → World → Prop} {S : World → Prop} (i : Nat) {o : Oper} {fuel : Nat} {listed : Array Bool} {a : Act} {w : World} (s x : Operand) (t : TypeId)
    (hi' : ops[i]? = some o) (hr : Region.ready md ops listed = [i]) (hw : Region.wanted o (yielded ops a.tmps) = true) (ho : o.op = .call { callee := .builtin .append, args := #[s, x], argTypes := #[t, t] })
    (base : Nat) (e : TypeId) (ti : TypeInfo) (z : Value) (size bytes : Nat) (ht : P.underlying t = some (.slice e)) (hi : P.info? e = some ti) (hz : ti.zero = some z)
    (hsize : ti.size = size) (hby : ti.bytes = bytes) (hzs : z.cells.size = size) (hsz : 0 < size)
    (v : Value) (n : Nat) (xs : List Value) (hs : a.eval s = v) (hown : w.ownsRow base e size v n xs)
    (ad : Addr) (m c : Nat) (news : List Value) (hx : a.eval x = .slice (some ad) m c) (hl : news.length = m * size) (hnews : ∀ j u, news[j]? = some u → w.cell? (ad.add j) = some u) (h1 : ∀ u ∈ news, u.oneCell' = true)
    (h63 : n + m ≤ maxLen) (hbytes : (n + m) * bytes ≤ 140737488355328) (hbase : base ≤ w.heap.size)
    (h : ∀ v' w', w'.ownsRow base e size v' (n + m) (xs ++ news) → w.grownBy w' v.ownBlock → (v' = .slice none 0 0 ↔ v = .slice none 0 0 ∧ m = 0) → S w' ∧ wpAnyH P md ops Q S fuel (listed.setIfInBounds i true) (a.put o.dst v') w') : wpAnyH P md ops Q S (fuel + 1) listed a w := by
  refine wpAnyH_all hr (by simp) fun j hj => ?_
  obtain rfl : j = i := by simpa using hj
  refine wpOp_step hi' (fun K' hK => ?_)
  rw [if_pos hw]
  exact wp_append_own w s x t ho base e ti z size bytes ht hi hz hsize hby hzs hsz v n xs hs hown ad m c news hx hl hnews h1 h63 hbytes hbase fun v' w' a b c => hK _ _ (h v' w' a b c)
theorem range_grown {w w' : World} {b o : Nat} {cs : List Value} {r : Option Nat} (h : w.rangeAt b o cs) (hg : w.grownBy w' r) (hb : b < w.heap.size) (hr : ∀ k, r = some k → k ≠ b) : w'.rangeAt b o cs := fun j v hj => by
  have h1 := h j v hj
  unfold World.cell? at h1 ⊢
  rw [hg.block b hb (by intro e; exact hr b e.symm rfl)]
  exact h1
set_option maxRecDepth 1000000 in
theorem ex_build (ev : Operand → Value) (w : World) (d x0 x1 x2 x3 x4 : Nat) (n0 n1 n2 n3 n4 : Int) (t : TypeId) (p : String) (e : Array Edge) (h0 : ev (.tmp x0) = .int .i64 n0) (h1 : ev (.tmp x1) = .int .i64 n1) (h2 : ev (.tmp x2) = .int .i64 n2) (h3 : ev (.tmp x3) = .int .i64 n3) (h4 : ev (.tmp x4) = .int .i64 n4) :
    (execOp ev ⟨some d, .build 78 #[(0, .tmp x0), (1, .tmp x1), (2, .tmp x2), (3, .tmp x3), (4, .tmp x4)], t, p, e, none⟩).run Tryz.prog w = .ok (.value (.agg #[.int .i64 n0, .int .i64 n1, .int .i64 n2, .int .i64 n3, .int .i64 n4])) w := by
  go_simp
set_option maxRecDepth 1000000 in
theorem ex_row (ev : Operand → Value) (w : World) (d x : Nat) (n0 n1 n2 n3 n4 : Int) (t : TypeId) (p : String) (e : Array Edge) (h : ev (.tmp x) = .agg #[.int .i64 n0, .int .i64 n1, .int .i64 n2, .int .i64 n3, .int .i64 n4]) :
    (execOp ev ⟨some d, .buildSlice 25 1 #[(0, .tmp x)], t, p, e, none⟩).run Tryz.prog w = .ok (.value (.slice (some ⟨w.heap.size, 0, none⟩) 1 1)) (w.alloc (.cells #[.int .i64 n0, .int .i64 n1, .int .i64 n2, .int .i64 n3, .int .i64 n4] 78)) := by
  go_simp
end Go.Proofs.YtmnoegfehgoalaaGreatDoor.cx
namespace Go.Proofs.YtmnoegfehgoalaaGreatDoor.cx
open Go.RowKit Go.Extern.Stop Go.Stop Go.Extern Go.Cx
set_option linter.unusedVariables false
/-- What a line's meeting with a sample measures: the lag, the offset's and the delay's difference. -/
def mvR (l s : List Value) : List Value := [.int .i64 (wayV (num s 43) (num l 39)),
  .int .i64 (lessV (offV (unfH (num l 36) (num l 0) (num l 1)) (num l 36) (unfH (num l 37) (num l 0) (num l 1)) (num l 37) (unfH (num l 38) (num l 0) (num l 1)) (num l 38) (unfH (num l 39) (num l 0) (num l 1)) (num l 39)) (num s 44)),
  .int .i64 (lessV (delV (unfH (num l 36) (num l 0) (num l 1)) (num l 36) (unfH (num l 37) (num l 0) (num l 1)) (num l 37) (unfH (num l 38) (num l 0) (num l 1)) (num l 38) (unfH (num l 39) (num l 0) (num l 1)) (num l 39)) (num s 45))]
def TT (ls ss : List (List Value)) (i k : Nat) : Bool := tellR (ls.getD i []) ss k
def MV (ls ss : List (List Value)) (i k : Nat) : List Value := mvR (ls.getD i []) (ss.getD k [])
theorem mv_len (ls ss : List (List Value)) (i k : Nat) : (MV ls ss i k).length = 3 := rfl
theorem made_bools (n : Nat) : madeCells #[Value.bool false] n = tkC n fun _ => false := by
  unfold tkC
  apply Array.ext
  · simp [madeCells]
  · intro i h1 h2
    simp [madeCells, Nat.mod_one]
theorem own_block {w : World} {base : Nat} {e : TypeId} {g n cap : Nat} {xs : Array Value} (h : w.ownsRow base e 1 (.slice (some ⟨g, 0, none⟩) n n) n xs.toList) : w.heap[g]? = some (.cells xs e) := by
  obtain ⟨h1, h2⟩ := h
  rcases h2 with ⟨h3, _⟩ | ⟨g', cap, cur, h3, _, hg, _, _, hs, ht⟩
  · cases h3
  · injection h3 with a b c
    injection a with a
    injection a with a
    subst a
    subst c
    rw [List.take_of_length_le (by simp; omega)] at ht
    have : cur = xs := Array.toList_inj.1 ht
    rw [← this]
    exact hg
theorem grown_below {w w' : World} (h : w.grownBy w' none) : Below w.heap.size w w' := ⟨h.os, h.tape, h.output, h.size, fun k hk => h.block k hk (by simp)⟩
/-- Where the loop over lines stands. -/
def MSt (W : World) (B pT : Nat) (sv tv : Value) (ls ss : List (List Value)) (wl : World) (k : Nat) (m lo : Value) : Prop :=
  wl.ownsRow B 78 5 m (greed ss.length (TT ls ss) k).met.length (metC (MV ls ss) (greed ss.length (TT ls ss) k).met) ∧
  wl.ownsRow B 3 1 lo (greed ss.length (TT ls ss) k).lost.length (ints (greed ss.length (TT ls ss) k).lost) ∧
  wl.heap[W.heap.size + 1]? = some (.cells (tkC ss.length (greed ss.length (TT ls ss) k).tk) 4) ∧
  wl.heap[W.heap.size]? = some (.cells #[sv] 23) ∧ wl.heap[pT]? = some (.cells #[tv] 79) ∧ Below W.heap.size W wl ∧ B ≤ wl.heap.size
theorem wpList_st {P : Program} {ops : Array Oper} {rest : List Oper} {a : Act} {w : World} {Q : Exit → Act → World → Prop} {t : TypeId} {p : String} {e : Array Edge} (ty : TypeId) (x y : Nat)
    {g : Nat} {cells old : Array Value} {tt : TypeId} (hx : a.eval (.tmp x) = .pointer (some ⟨g, 0, none⟩)) (hy : a.eval (.tmp y) = .agg cells) (hg : w.heap[g]? = some (.cells old tt)) (hold : old.size = cells.size)
    (hi : (P.info? ty).map (·.size) = some cells.size) (h1 : cells.all (·.oneCell') = true)
    (h : wpList P ops Q rest (a.put none undef) (w.setRow g cells)) : wpList P ops Q (⟨none, .store ty (.tmp x) (.tmp y), t, p, e, none⟩ :: rest) a w :=
  wpList_store_row rfl ty (.tmp x) (.tmp y) rfl g cells hx hy tt old hg hi hold h1 h
def lineZ : Array Value := #[.int .i64 0, .int .u64 0, .bool false, .int .u8 0, .int .u8 0, .int .u8 0, .int .u8 0, .int .u8 0, .int .u8 0, .int .u8 0, .int .u8 0, .int .u8 0, .int .u8 0, .int .u8 0, .int .u8 0, .int .u8 0, .int .u8 0, .int .u8 0, .int .u8 0, .bool false, .int .u8 0, .int .u8 0, .int .u8 0, .int .u8 0, .int .u8 0, .int .u8 0, .int .u8 0, .int .u8 0, .int .u8 0, .int .u8 0, .int .u8 0, .int .u8 0, .int .u8 0, .int .u8 0, .int .u8 0, .int .u8 0, .int .u64 0, .int .u64 0, .int .u64 0, .int .u64 0, .bool false, .int .u8 0, .int .u8 0, .int .u8 0, .int .u8 0, .int .i8 0, .int .i8 0, .int .i64 0, .int .i64 0, .int .u8 0, .int .u8 0, .int .u8 0, .int .u8 0]
theorem wpList_do {P : Program} {ops : Array Oper} {rest : List Oper} {a : Act} {w w2 : World} {Q : Exit → Act → World → Prop} {t : TypeId} {p : String} {e : Array Edge} (d : Nat) (op : Op) (v : Value) (hx : (execOp a.eval ⟨some d, op, t, p, e, none⟩).run P w = .ok (.value v) w2)
    (h : wpList P ops Q rest (a.put (some d) v) w2) : wpList P ops Q (⟨some d, op, t, p, e, none⟩ :: rest) a w := by
  unfold wpList
  rw [if_pos (by simp [Region.wanted])]
  refine .inl ?_
  unfold Oper.wp
  rw [hx, Oper.upon_value]
  exact h
set_option maxRecDepth 1000000 in
theorem al_line (ev : Operand → Value) (w : World) (d : Nat) (t : TypeId) (p : String) (e : Array Edge) : (execOp ev ⟨some d, .alloc 52, t, p, e, none⟩).run Tryz.prog w = .ok (.value (.pointer (some ⟨w.heap.size, 0, none⟩))) (w.alloc (.cells lineZ 52)) := by
  unfold lineZ
  go_simp
theorem ex_assign {P : Program} (ev : Operand → Value) (w : World) (d : Nat) (x : Operand) (t : TypeId) (p : String) (e : Array Edge) : (execOp ev ⟨some d, .assign x, t, p, e, none⟩).run P w = .ok (.value (ev x)) w := rfl
theorem set_alloc (w : World) (z c : Array Value) (t : TypeId) : (w.alloc (.cells z t)).setRow w.heap.size c = w.alloc (.cells c t) := by
  unfold World.setRow World.alloc
  congr 1
  apply Array.ext
  · simp
  · intro i h1 h2
    simp only [Array.getElem_modify, Array.getElem_push]
    by_cases h : i < w.heap.size
    · simp [h, show w.heap.size ≠ i by omega]
    · have : w.heap.size = i := by simp at h2; omega
      subst this
      simp
theorem row_one : ∀ {ks : List PK} {cs : List Value}, RowOk ks cs → ∀ v ∈ cs, v.oneCell' = true := by
  intro ks
  induction ks with
  | nil =>
    intro cs h v hv
    cases cs with
    | nil => simp at hv
    | cons c cs => exact False.elim h
  | cons k ks ih =>
    intro cs h v hv
    cases cs with
    | nil => simp at hv
    | cons c cs =>
      rcases List.mem_cons.1 hv with rfl | hv
      · cases k with
        | bool => obtain ⟨b, rfl⟩ := h.1; rfl
        | int q => obtain ⟨n, rfl, _⟩ := h.1; rfl
      · exact ih h.2 v hv
theorem own_ne {w : World} {B : Nat} {e1 e2 : TypeId} {s1 s2 n1 n2 : Nat} {v1 v2 : Value} {x1 x2 : List Value} (h1 : w.ownsRow B e1 s1 v1 n1 x1) (h2 : w.ownsRow B e2 s2 v2 n2 x2) (hne : e1 ≠ e2) : v1.ownBlock = none ∨ v1.ownBlock ≠ v2.ownBlock := by
  rcases h1.2 with ⟨rfl, _⟩ | ⟨g1, c1, u1, rfl, _, hg1, _⟩
  · exact .inl rfl
  · right
    rcases h2.2 with ⟨rfl, _⟩ | ⟨g2, c2, u2, rfl, _, hg2, _⟩
    · intro h; cases h
    · intro h
      injection h with h
      have h : g1 = g2 := h
      subst h
      rw [hg1] at hg2
      injection hg2 with hg2
      injection hg2 with a b
      exact hne b
theorem own_far {w : World} {B : Nat} {e : TypeId} {s n : Nat} {v : Value} {x : List Value} (h : w.ownsRow B e s v n x) {t : Nat} (ht : t < B) : v.ownBlock = none ∨ v.ownBlock ≠ some t := by
  right
  intro e1
  have := (h.lt t e1).1
  omega
theorem own_up {w w' : World} {B : Nat} {e : TypeId} {s n : Nat} {v : Value} {x : List Value} (h : w.ownsRow B e s v n x) (hb : Below w.heap.size w w') : w'.ownsRow B e s v n x := h.kept (grown_of hb none) (by cases hv : v.ownBlock with | none => exact .inl rfl | some b => exact .inr (by simp))
theorem below_row {W w w' : World} {r : Option Nat} (hb : Below W.heap.size W w) (hg : w.grownBy w' r) (hr : ∀ k, r = some k → W.heap.size ≤ k) : Below W.heap.size W w' :=
  ⟨hg.os.trans hb.os, hg.tape.trans hb.tape, hg.output.trans hb.output, Nat.le_trans hb.size hg.size, fun k hk => (hg.block k (Nat.lt_of_lt_of_le hk hb.size) (by intro e; have := hr k e.symm; omega)).trans (hb.block k hk)⟩
/-- What is so behind a taking. -/
theorem MSt.next {W : World} {B pT : Nat} {sv tv : Value} {ls ss : List (List Value)} {wl Y w2 : World} {k : Nat} {m lo : Value} (hM : MSt W B pT sv tv ls ss wl k m lo) (hA : Below wl.heap.size wl Y) (hG : Y.grownBy w2 (some (W.heap.size + 1))) (hB : W.heap.size + 1 < B) (hp : W.heap.size + 1 < pT) :
    w2.ownsRow B 78 5 m (greed ss.length (TT ls ss) k).met.length (metC (MV ls ss) (greed ss.length (TT ls ss) k).met) ∧ w2.ownsRow B 3 1 lo (greed ss.length (TT ls ss) k).lost.length (ints (greed ss.length (TT ls ss) k).lost) ∧
    w2.heap[W.heap.size]? = some (.cells #[sv] 23) ∧ w2.heap[pT]? = some (.cells #[tv] 79) ∧ Below W.heap.size W w2 ∧ B ≤ w2.heap.size := by
  obtain ⟨h1, h2, h3, h4, h5, h6, h7⟩ := hM
  have g1 := own_up h1 hA
  have g2 := own_up h2 hA
  refine ⟨g1.kept hG (own_far g1 hB), g2.kept hG (own_far g2 hB), grown_kept hG (keepB hA h4) (by omega), grown_kept hG (keepB hA h5) (by omega), below_grown (h6.trans (hA.mono h6.size)) hG (by omega), ?_⟩
  have := hA.size
  have := hG.size
  omega
theorem greed_none {n : Nat} {T : Nat → Nat → Bool} {k : Nat} (h : pick n (greed n T k).tk (T k) = none) : greed n T (k + 1) = ⟨(greed n T k).met, (greed n T k).lost ++ [k], (greed n T k).tk⟩ := by
  rw [greed, gstep, h]
theorem greed_some {n : Nat} {T : Nat → Nat → Bool} {k j : Nat} (h : pick n (greed n T k).tk (T k) = some j) : greed n T (k + 1) = ⟨(greed n T k).met ++ [(k, j)], (greed n T k).lost, fun i => (greed n T k).tk i || i == j⟩ := by
  rw [greed, gstep, h]
/-- What is so behind an append. -/
theorem MSt.rest {W : World} {B pT : Nat} {sv tv : Value} {tc : Array Value} {w2 Z w3 : World} {r : Option Nat} (h3 : w2.heap[W.heap.size + 1]? = some (.cells tc 4)) (h4 : w2.heap[W.heap.size]? = some (.cells #[sv] 23)) (h5 : w2.heap[pT]? = some (.cells #[tv] 79)) (h6 : Below W.heap.size W w2) (h7 : B ≤ w2.heap.size)
    (hA : Below w2.heap.size w2 Z) (hG : Z.grownBy w3 r) (hr : ∀ k, r = some k → B ≤ k) (hB : W.heap.size + 1 < B) (hp : pT < B) :
    w3.heap[W.heap.size + 1]? = some (.cells tc 4) ∧ w3.heap[W.heap.size]? = some (.cells #[sv] 23) ∧ w3.heap[pT]? = some (.cells #[tv] 79) ∧ Below W.heap.size W w3 ∧ B ≤ w3.heap.size := by
  have hf : ∀ (k : Nat) (o : Obj), k < B → w2.heap[k]? = some o → w3.heap[k]? = some o := fun k o hk h => by
    have h' := keepB hA h
    rw [hG.block k (lt_of_heap h') (by intro e; have := hr k e.symm; omega)]
    exact h'
  refine ⟨hf _ _ hB h3, hf _ _ (by omega) h4, hf _ _ hp h5, below_row (h6.trans (hA.mono h6.size)) hG (fun k e => by have := hr k e; omega), ?_⟩
  have := hA.size
  have := hG.size
  omega
theorem MSt.lost {W : World} {B pT : Nat} {sv tv : Value} {ls ss : List (List Value)} {w2 Z w3 : World} {k : Nat} {m lo v' : Value} (hp : pick ss.length (greed ss.length (TT ls ss) k).tk (TT ls ss k) = none)
    (hT : w2.heap[W.heap.size + 1]? = some (.cells (tkC ss.length (greed ss.length (TT ls ss) k).tk) 4) ∧ w2.ownsRow B 78 5 m (greed ss.length (TT ls ss) k).met.length (metC (MV ls ss) (greed ss.length (TT ls ss) k).met) ∧ w2.ownsRow B 3 1 lo (greed ss.length (TT ls ss) k).lost.length (ints (greed ss.length (TT ls ss) k).lost) ∧
      w2.heap[W.heap.size]? = some (.cells #[sv] 23) ∧ w2.heap[pT]? = some (.cells #[tv] 79) ∧ Below W.heap.size W w2 ∧ B ≤ w2.heap.size) (hA : Below w2.heap.size w2 Z) (hB : W.heap.size + 1 < B) (hpT : pT < B)
    (h1 : w3.ownsRow B 3 1 v' ((greed ss.length (TT ls ss) k).lost.length + 1) (ints (greed ss.length (TT ls ss) k).lost ++ [.int .i64 (k : Nat)])) (h2 : Z.grownBy w3 lo.ownBlock) : MSt W B pT sv tv ls ss w3 (k + 1) m v' := by
  obtain ⟨t1, t2, t3, t4, t5, t6, t7⟩ := hT
  have o2 := own_up t2 hA
  have o3 := own_up t3 hA
  obtain ⟨r1, r2, r3, r4, r5⟩ := MSt.rest t1 t4 t5 t6 t7 hA h2 (fun k e => (o3.lt k e).1) hB hpT
  unfold MSt
  rw [greed_none hp]
  refine ⟨o2.kept h2 (own_ne o2 o3 (by decide)), ?_, r1, r2, r3, r4, r5⟩
  show w3.ownsRow B 3 1 v' ((greed ss.length (TT ls ss) k).lost ++ [k]).length (ints ((greed ss.length (TT ls ss) k).lost ++ [k]))
  rw [List.length_append]
  unfold ints at *
  rw [List.map_append]
  exact h1
theorem MSt.met {W : World} {B pT : Nat} {sv tv : Value} {ls ss : List (List Value)} {w2 Z w3 : World} {k j : Nat} {m lo v' : Value} {cs : List Value} (hp : pick ss.length (greed ss.length (TT ls ss) k).tk (TT ls ss k) = some j)
    (hT : w2.heap[W.heap.size + 1]? = some (.cells (tkC ss.length fun i => (greed ss.length (TT ls ss) k).tk i || i == j) 4) ∧ w2.ownsRow B 78 5 m (greed ss.length (TT ls ss) k).met.length (metC (MV ls ss) (greed ss.length (TT ls ss) k).met) ∧ w2.ownsRow B 3 1 lo (greed ss.length (TT ls ss) k).lost.length (ints (greed ss.length (TT ls ss) k).lost) ∧
      w2.heap[W.heap.size]? = some (.cells #[sv] 23) ∧ w2.heap[pT]? = some (.cells #[tv] 79) ∧ Below W.heap.size W w2 ∧ B ≤ w2.heap.size) (hA : Below w2.heap.size w2 Z) (hB : W.heap.size + 1 < B) (hpT : pT < B)
    (h1 : w3.ownsRow B 78 5 v' ((greed ss.length (TT ls ss) k).met.length + 1) (metC (MV ls ss) (greed ss.length (TT ls ss) k).met ++ cs)) (hcs : cs = .int .i64 (k : Nat) :: .int .i64 (j : Nat) :: MV ls ss k j) (h2 : Z.grownBy w3 m.ownBlock) : MSt W B pT sv tv ls ss w3 (k + 1) v' lo := by
  obtain ⟨t1, t2, t3, t4, t5, t6, t7⟩ := hT
  have o2 := own_up t2 hA
  have o3 := own_up t3 hA
  obtain ⟨r1, r2, r3, r4, r5⟩ := MSt.rest t1 t4 t5 t6 t7 hA h2 (fun k e => (o2.lt k e).1) hB hpT
  unfold MSt
  rw [greed_some hp]
  refine ⟨?_, o3.kept h2 (own_ne o3 o2 (by decide)), r1, r2, r3, r4, r5⟩
  show w3.ownsRow B 78 5 v' ((greed ss.length (TT ls ss) k).met ++ [(k, j)]).length (metC (MV ls ss) ((greed ss.length (TT ls ss) k).met ++ [(k, j)]))
  rw [List.length_append, metC_app, ← hcs]
  exact h1
theorem MSt.up7 {W : World} {B pT : Nat} {sv tv : Value} {tc : Array Value} {ls ss : List (List Value)} {w w' : World} {k : Nat} {m lo : Value}
    (h : w.heap[W.heap.size + 1]? = some (.cells tc 4) ∧ w.ownsRow B 78 5 m (greed ss.length (TT ls ss) k).met.length (metC (MV ls ss) (greed ss.length (TT ls ss) k).met) ∧ w.ownsRow B 3 1 lo (greed ss.length (TT ls ss) k).lost.length (ints (greed ss.length (TT ls ss) k).lost) ∧
      w.heap[W.heap.size]? = some (.cells #[sv] 23) ∧ w.heap[pT]? = some (.cells #[tv] 79) ∧ Below W.heap.size W w ∧ B ≤ w.heap.size) (hb : Below w.heap.size w w') :
    w'.heap[W.heap.size + 1]? = some (.cells tc 4) ∧ w'.ownsRow B 78 5 m (greed ss.length (TT ls ss) k).met.length (metC (MV ls ss) (greed ss.length (TT ls ss) k).met) ∧ w'.ownsRow B 3 1 lo (greed ss.length (TT ls ss) k).lost.length (ints (greed ss.length (TT ls ss) k).lost) ∧
      w'.heap[W.heap.size]? = some (.cells #[sv] 23) ∧ w'.heap[pT]? = some (.cells #[tv] 79) ∧ Below W.heap.size W w' ∧ B ≤ w'.heap.size :=
  ⟨keepB hb h.1, own_up h.2.1 hb, own_up h.2.2.1 hb, keepB hb h.2.2.2.1, keepB hb h.2.2.2.2.1, h.2.2.2.2.2.1.trans (hb.mono h.2.2.2.2.2.1.size), Nat.le_trans h.2.2.2.2.2.2 hb.size⟩
theorem own_mono {w : World} {base base2 : Nat} {e : TypeId} {size : Nat} {v : Value} {n : Nat} {xs : List Value} (h : w.ownsRow base e size v n xs) (hb : base2 ≤ base) : w.ownsRow base2 e size v n xs := by
  obtain ⟨h1, h2⟩ := h
  refine ⟨h1, ?_⟩
  rcases h2 with h2 | ⟨g, cap, cur, hv, hg, r⟩
  · exact .inl h2
  · exact .inr ⟨g, cap, cur, hv, Nat.le_trans hb hg, r⟩
theorem results_tmp4 {fn : Func} {t u v x : Tmp} (h : fn.results = #[.tmp t, .tmp u, .tmp v, .tmp x]) (tmps : Array Value) (P : Program) (w : World) :
    (results fn tmps).run P w = .ok (.tuple #[tmps.getD t undef, tmps.getD u undef, tmps.getD v undef, tmps.getD x undef]) w := by
  simp [results, h]
/-- Which are bare of the first k. -/
def bareK (tk : Nat → Bool) (k : Nat) : List Nat := (List.range k).filter fun j => !tk j
theorem bareK_succ (tk : Nat → Bool) (k : Nat) : bareK tk (k + 1) = bareK tk k ++ (if tk k then [] else [k]) := by
  unfold bareK
  rw [List.range_succ, List.filter_append]
  cases h : tk k <;> simp [h]
theorem bareK_len (tk : Nat → Bool) (k : Nat) : (bareK tk k).length ≤ k := by
  have := List.length_filter_le (fun j => !tk j) (List.range k)
  rw [List.length_range] at this
  exact this
theorem ints_app (l : List Nat) (k : Nat) : ints (l ++ [k]) = ints l ++ [.int .i64 (k : Nat)] := by unfold ints; rw [List.map_append]; rfl
/-- What cross.Meet hands back. -/
def MeetAt (W : World) (ls ss : List (List Value)) (e : Ending) (w' : World) : Prop :=
  ∃ vm vl vb : Value, e = .returned (.tuple #[vm, vl, vb, .int .i64 0]) ∧
    w'.ownsRow W.heap.size 78 5 vm (greed ss.length (TT ls ss) ls.length).met.length (metC (MV ls ss) (greed ss.length (TT ls ss) ls.length).met) ∧
    w'.ownsRow W.heap.size 3 1 vl (greed ss.length (TT ls ss) ls.length).lost.length (ints (greed ss.length (TT ls ss) ls.length).lost) ∧
    w'.ownsRow W.heap.size 3 1 vb (bare ss.length (greed ss.length (TT ls ss) ls.length)).length (ints (bare ss.length (greed ss.length (TT ls ss) ls.length))) ∧ Below W.heap.size W w'
set_option maxHeartbeats 4000000 in
set_option maxRecDepth 1000000 in
theorem meet_w (W : World) (lv sv : Value) (ls ss : List (List Value)) (hl : ∀ r ∈ ls, RowOk lineK r) (hs : ∀ r ∈ ss, RowOk sampK r) (hlv : Sl W 53 lv ls) (hsv : Sl W 48 sv ss) (n1 : ls.length ≤ 60) (n2 : ss.length ≤ 60) :
    Calls Tryz.prog 7 #[lv, sv] W (MeetAt W ls ss) := by
  obtain ⟨la, lc, rfl, lcap, lmx, lnone⟩ := hlv.form
  obtain ⟨sa, sc, rfl, scap, smx, snone⟩ := hsv.form
  obtain ⟨ii, ji0, ji1, ji2, ji3⟩ := info_parts (P := Tryz.prog) (e := 3) (z := .int .i64 0) (size := 1) (bytes := 8) (by kernel_rfl)
  obtain ⟨im, km0, km1, km2, km3⟩ := info_parts (P := Tryz.prog) (e := 78) (z := .agg #[.int .i64 0, .int .i64 0, .int .i64 0, .int .i64 0, .int .i64 0]) (size := 5) (bytes := 40) (by kernel_rfl)
  have HI := Lib.hid (And.intro (And.intro ji0 (And.intro ji1 (And.intro ji2 ji3))) (And.intro km0 (And.intro km1 (And.intro km2 km3))))
  clear ji0 ji1 ji2 ji3 km0 km1 km2 km3
  have d1 : decide ((4096 : Int) < (ls.length : Int)) = false := by simp; omega
  have d2 : decide ((4096 : Int) < (ss.length : Int)) = false := by simp; omega
  obtain ⟨ib, hi0, hi1, hi2, hi3⟩ := info_parts (P := Tryz.prog) (e := 4) (z := .bool false) (size := 1) (bytes := 1) (by kernel_rfl)
  have HL := Lib.hid (And.intro hl (And.intro hs (And.intro hlv (And.intro hsv (And.intro lnone snone)))))
  clear hl hs hlv hsv lnone snone
  go_enter Tryz.func7, Tryz.ntmps7
  go_wp2_with (first | (at_make; refine wpList_make_full _ rfl _ _ 79 rfl 0 4 ib _ 1 Tryz.underlying79 hi0 hi1 hi2 _ _ _ _ ss.length rfl rfl rfl rfl (by rw [hi3]; omega) (by unfold maxLen; omega) (Nat.zero_le _) ?_))
  intro w1 hown hgr
  have hb0 := (Below.refl W.heap.size W).alloc (Nat.le_refl _) (.cells #[.slice sa ss.length sc] 23)
  have qS := heap_alloc_new W (.cells #[.slice sa ss.length sc] 23)
  have qS := keepB (grown_below hgr) qS
  have qT := own_block (cap := 0) hown
  rw [made_bools] at qT
  have hb1 := hb0.trans ((grown_below hgr).mono hb0.size)
  have hA := (Below.refl w1.heap.size w1).alloc (Nat.le_refl _) (.cells #[.slice (some ⟨W.heap.size + 1, 0, none⟩) ss.length ss.length] 79)
  have qB := heap_alloc_new w1 (.cells #[.slice (some ⟨W.heap.size + 1, 0, none⟩) ss.length ss.length] 79)
  have qS := keepB hA qS
  have qT := keepB hA qT
  have hb := hb1.trans (hA.mono hb1.size)
  have lt1 := lt_of_heap qT
  have lt2 := lt_of_heap qB
  have ne1 : W.heap.size + 1 < w1.heap.size := by
    have := (grown_below hgr).size
    have h2 := lt_of_heap (own_block (cap := 0) hown)
    exact h2
  clear hown hgr hb0 hb1 hA
  go_wp2_with fail
  generalize w1.alloc (.cells #[.slice (some ⟨W.heap.size + 1, 0, none⟩) ss.length ss.length] 79) = X at *
  have hM0 : MSt W X.heap.size w1.heap.size (.slice sa ss.length sc) (.slice (some ⟨W.heap.size + 1, 0, none⟩) ss.length ss.length) ls ss X 0 (.slice none 0 0) (.slice none 0 0) := ⟨World.ownsRow_nil _ _ _ _, World.ownsRow_nil _ _ _ _, qT, qS, qB, hb, Nat.le_refl _⟩
  generalize w1.heap.size = pT at *
  have HN := Lib.hid (And.intro lt1 (And.intro lt2 ne1))
  clear qS qT qB hb lt1 lt2 ne1 hi0 hi1 hi2 hi3 d1 d2
  go_loopg [34, 10, 11] ls.length (fun g i m lo wl => ∃ k : Nat, i = .int .i64 (k : Nat) ∧ k ≤ ls.length ∧ g = ls.length - k ∧ MSt W X.heap.size pT (.slice sa ss.length sc) (.slice (some ⟨W.heap.size + 1, 0, none⟩) ss.length ss.length) ls ss wl k m lo)
  case atStart => exact ⟨0, rfl, Nat.zero_le _, by omega, hM0⟩
  case round =>
    obtain ⟨k, rfl, hk, hg, hM⟩ := hrel
    by_cases hkn : k = ls.length
    · subst hkn
      rename World => wz
      have hcT := cell_of (i := 0) hM.2.2.2.2.1 (v := .slice (some ⟨W.heap.size + 1, 0, none⟩) ss.length ss.length) rfl
      have HM := Lib.hid (And.intro hM hM0)
      clear hM hM0
      have e1 : decide ((ls.length : Int) < (ls.length : Int)) = false := by simp
      go_wp2_with fail
      clear hcT e1
      go_loopg [85, 12] ss.length (fun g i ba wl => ∃ k2 : Nat, i = .int .i64 (k2 : Nat) ∧ k2 ≤ ss.length ∧ g = ss.length - k2 ∧ wl.ownsRow wz.heap.size 3 1 ba (bareK (greed ss.length (TT ls ss) ls.length).tk k2).length (ints (bareK (greed ss.length (TT ls ss) ls.length).tk k2)) ∧ Below wz.heap.size wz wl)
      case atStart => exact ⟨0, rfl, Nat.zero_le _, by omega, World.ownsRow_nil _ _ _ _, Below.refl _ _⟩
      case round =>
        obtain ⟨k2, rfl, hk2, hg2, ho2, hb2⟩ := hrel
        have HR := Lib.hid (And.intro ho2 hb2)
        clear ho2 hb2
        by_cases hkn2 : k2 = ss.length
        · subst hkn2
          have e1 : decide ((ss.length : Int) < (ss.length : Int)) = false := by simp
          go_wp2_with fail
          refine bodyPost_ret (results_tmp4 rfl _ _ _) rfl ?_
          have hW := HM.out.1.2.2.2.2.2.1
          have hx := HM.out.2.2.2.2.2.2.1.size
          exact ⟨_, _, _, rfl, own_mono (own_up HM.out.1.1 HR.out.2) hx, own_mono (own_up HM.out.1.2.1 HR.out.2) hx, own_mono HR.out.1 hW.size, hW.trans (HR.out.2.mono hW.size)⟩
        · have hkl2 : k2 < ss.length := by omega
          have e1 : decide ((k2 : Int) < (ss.length : Int)) = true := by simp; omega
          have e2 : (0 : Int) ≤ (k2 : Int) := by omega
          have e3 : (k2 : Int) < (ss.length : Int) := by omega
          have hcell := cell_of (i := k2) (keepB HR.out.2 HM.out.1.2.2.1) (tkC_get (greed ss.length (TT ls ss) ls.length).tk hkl2)
          cases ht : (greed ss.length (TT ls ss) ls.length).tk k2 with
          | true =>
            rw [ht] at hcell
            have hs : bareK (greed ss.length (TT ls ss) ls.length).tk (k2 + 1) = bareK (greed ss.length (TT ls ss) ls.length).tk k2 := by rw [bareK_succ, ht]; simp
            have HS := Lib.hid hs
            clear hs ht
            go_wp2_with fail
            go_roundg (ss.length - (k2 + 1))
            case measure => omega
            case rel => exact ⟨k2 + 1, by go_num, by omega, rfl, by rw [HS.out]; exact HR.out.1, HR.out.2⟩
          | false =>
            rw [ht] at hcell
            have hs : bareK (greed ss.length (TT ls ss) ls.length).tk (k2 + 1) = bareK (greed ss.length (TT ls ss) ls.length).tk k2 ++ [k2] := by rw [bareK_succ, ht]; simp
            have HS := Lib.hid hs
            clear hs ht
            go_wp2_with (first
              | (at_builtin; refine wpList_append_own _ rfl _ _ 26 rfl wz.heap.size 3 ii _ 1 8 Tryz.underlying26 HI.out.1.1 HI.out.1.2.1 HI.out.1.2.2.1 HI.out.1.2.2.2 rfl (by decide) _ _ _ rfl (own_up HR.out.1 ((Below.refl _ _).alloc (Nat.le_refl _) _)) ⟨_, 0, none⟩ 1 1 [.int .i64 (k2 : Nat)] rfl rfl (World.news_of_block (cs := #[.int .i64 (k2 : Nat)]) (heap_alloc_new _ _)) (by simp [Value.oneCell']) ?c1 ?c2 ?c3 ?_))
            case c1 => have := bareK_len (greed ss.length (TT ls ss) ls.length).tk k2; unfold maxLen; omega
            case c2 => have := bareK_len (greed ss.length (TT ls ss) ls.length).tk k2; omega
            case c3 => rw [alloc_size]; have := HR.out.2.size; omega
            intro v' w8 o1 o2 o3
            have HO := Lib.hid (And.intro o1 o2)
            clear o1 o2 o3
            go_wp2_with fail
            go_roundg (ss.length - (k2 + 1))
            case measure => omega
            case rel => exact ⟨k2 + 1, by go_num, by omega, rfl, by rw [HS.out, List.length_append, ints_app]; exact HO.out.1, below_row (HR.out.2.alloc HR.out.2.size _) HO.out.2 (fun q e => (HR.out.1.lt q e).1)⟩
    · have hkl : k < ls.length := by omega
      have e1 : decide ((k : Int) < (ls.length : Int)) = true := by simp; omega
      have e2 : (0 : Int) ≤ (k : Int) := by omega
      have e3 : (k : Int) < (ls.length : Int) := by omega
      obtain ⟨b, off, cap, hv, _, _, hget⟩ := HL.out.2.2.1.get (by omega)
      injection hv with hsa hnn hcp
      clear hnn hcp
      subst hsa
      obtain ⟨l, hl⟩ : ∃ l, ls[k]? = some l := ⟨ls[k], List.getElem?_eq_getElem hkl⟩
      have hrg := hget k l hl
      have hlo := HL.out.1 l (List.mem_of_getElem? hl)
      have hrg := range_up hrg hM.2.2.2.2.2.1 (range_lt hrg (by rw [hlo.length]; decide))
      have u3 : (Tryz.prog.info? 52).map (·.size) = some l.length := by rw [hlo.length]; kernel_rfl
      have RG := Lib.hid (And.intro hrg (And.intro Tryz.underlying52 u3))
      have hTT : TT ls ss k = tellR l ss := by unfold TT; rw [List.getD_eq_getElem?_getD, hl]; rfl
      have hA := (Below.refl wr.heap.size wr).alloc (Nat.le_refl _) (.cells l.toArray 52)
      have qL := heap_alloc_new wr (.cells l.toArray 52)
      have hYr : (wr.alloc (.cells l.toArray 52)).rangeAt wr.heap.size 0 l := fun j v hv => by
        rw [Nat.zero_add]
        exact cell_of qL (by simpa using hv)
      have hYs := HL.out.2.2.2.1.up (hM.2.2.2.2.2.1.trans (hA.mono hM.2.2.2.2.2.1.size))
      have hcall := take_w (wr.alloc (.cells l.toArray 52)) W.heap.size pT (W.heap.size + 1) l ss (.slice sa ss.length sc) (greed ss.length (TT ls ss) k).tk hlo HL.out.2.1 hYs (cell_of (i := 0) (keepB hA hM.2.2.2.1) rfl) (cell_of (i := 0) (keepB hA hM.2.2.2.2.1) rfl) (keepB hA hM.2.2.1) (by unfold maxLen; omega)
      have hall := row_one hlo
      have he53 : l.toArray.size = 53 := by rw [List.size_toArray]; exact hlo.length
      have HZ := Lib.hid (And.intro ((show lineZ.size = 53 from rfl).trans he53.symm) (all_oneCell_toArray hall))
      clear he53
      have HB := Lib.hid (And.intro hlo (And.intro hl (And.intro hM hA)))
      have HY := Lib.hid hYr
      clear hget hrg u3 hM0 hall hYs hYr qL
      have hsz : (lineK).length = 53 := rfl
      cases hp : pick ss.length (greed ss.length (TT ls ss) k).tk (tellR l ss) with
      | none =>
        rw [hp] at hcall
        rw [← hTT] at hp
        have HC := Lib.hid (And.intro hcall hp)
        clear hcall hp hTT hM hA hlo hl hsz
        go_wp2_with (first
          | ((with_reducible refine wpList_ld 38 ?_ ?_ ?_ RG.out.1 RG.out.2.1 RG.out.2.2 ?_); rfl; rfl; rfl)
          | ((with_reducible refine wpList_do 14 (.alloc 52) _ (al_line _ _ _ _ _ _) ?_); (with_reducible refine wpList_do 13 (.assign (.tmp 36)) _ (ex_assign _ _ _ _ _ _ _) ?_); (with_reducible refine wpList_st 52 14 38 ?_ ?_ (heap_alloc_new _ _) HZ.out.1 ?_ HZ.out.2 ?_); rfl; rfl; (rw [List.size_toArray]; exact RG.out.2.2); rw [set_alloc])
          | ((with_reducible refine wpList_ld 40 ?_ ?_ ?_ HY.out RG.out.2.1 RG.out.2.2 ?_); rfl; rfl; rfl)
          | (go_at_call 24; refine HC.out.1.mono ?_; rintro e w2 ⟨rfl, hTk, hGr⟩; have hN := HB.out.2.2.1.next HB.out.2.2.2 hGr HN.out.1 HN.out.2.2; have HT := Lib.hid (And.intro hTk hN); clear hTk hN hGr)
          | (at_builtin; refine wpList_append_own _ rfl _ _ 26 rfl X.heap.size 3 ii _ 1 8 Tryz.underlying26 HI.out.1.1 HI.out.1.2.1 HI.out.1.2.2.1 HI.out.1.2.2.2 rfl (by decide) _ _ _ rfl (own_up HT.out.2.2.1 ((Below.refl _ _).alloc (Nat.le_refl _) _)) ⟨w2.heap.size, 0, none⟩ 1 1 [.int .i64 (k : Nat)] rfl rfl (World.news_of_block (cs := #[.int .i64 (k : Nat)]) (heap_alloc_new _ _)) (by simp [Value.oneCell']) ?c1 ?c2 ?c3 ?_))
        case c1 => have := (greed_inv ss.length (TT ls ss) k).len; unfold maxLen; omega
        case c2 => have := (greed_inv ss.length (TT ls ss) k).len; omega
        case c3 => rw [alloc_size]; have := HT.out.2.2.2.2.2.2; omega
        intro v' w3 o1 o2 o3
        have HO := Lib.hid (And.intro o1 o2)
        clear o1 o2 o3
        go_wp2_with fail
        go_roundg (ls.length - (k + 1))
        case measure => omega
        case rel => exact ⟨k + 1, by go_num, by omega, rfl, MSt.lost HC.out.2 HT.out ((Below.refl _ _).alloc (Nat.le_refl _) _) HN.out.1 HN.out.2.1 HO.out.1 HO.out.2⟩
      | some j =>
        rw [hp] at hcall
        rw [← hTT] at hp
        have hjn := (pick_some hp).1
        obtain ⟨b2, off2, cap2, hv2, _, _, hget2⟩ := HL.out.2.2.2.1.get (by omega)
        injection hv2 with hsa2 hnn2 hcp2
        clear hnn2 hcp2
        subst hsa2
        obtain ⟨s, hs⟩ : ∃ s, ss[j]? = some s := ⟨ss[j], List.getElem?_eq_getElem hjn⟩
        have hrs := hget2 j s hs
        have hso := HL.out.2.1 s (List.mem_of_getElem? hs)
        have hltb := range_lt hrs (by rw [hso.length]; decide)
        have IX := Lib.hid (index_row (P := Tryz.prog) (t := 23) (e := 47) (size := 48) Tryz.underlying23 (fun w => by kernel_rfl) b2 off2 ss.length sc j hjn)
        have F := Lib.hid (And.intro (get_num (i := 42) (k := .i64) hso rfl).1 (And.intro (get_num (i := 43) (k := .u64) hso rfl).1 (And.intro (get_num (i := 39) (k := .u64) hlo rfl).1 (And.intro (get_num (i := 44) (k := .i64) hso rfl).1 (get_num (i := 45) (k := .i64) hso rfl).1))))
        have F2 := Lib.hid (And.intro (show ls.getD k [] = l by rw [List.getD_eq_getElem?_getD, hl]; rfl) (show ss.getD j [] = s by rw [List.getD_eq_getElem?_getD, hs]; rfl))
        have hmo := hM.1
        have HC := Lib.hid (And.intro hcall (And.intro hp (And.intro (line_at hlo) (And.intro hrs (And.intro hltb hmo)))))
        have e5 : decide ((j : Int) < 0) = false := by simp
        have hwr1 := lt_of_heap hM.2.2.1
        have HLN := Lib.hid (show 0 < l.length by rw [hlo.length]; decide)
        have tI : takeI (some j) = (j : Int) := rfl
        clear hcall hp hTT hM hA hlo hl hsz hs hso hrs hltb hget2 hmo
        go_wp2_with (first
          | ((with_reducible refine wpList_ld 38 ?_ ?_ ?_ RG.out.1 RG.out.2.1 RG.out.2.2 ?_); rfl; rfl; rfl)
          | ((with_reducible refine wpList_do 14 (.alloc 52) _ (al_line _ _ _ _ _ _) ?_); (with_reducible refine wpList_do 13 (.assign (.tmp 36)) _ (ex_assign _ _ _ _ _ _ _) ?_); (with_reducible refine wpList_st 52 14 38 ?_ ?_ (heap_alloc_new _ _) HZ.out.1 ?_ HZ.out.2 ?_); rfl; rfl; (rw [List.size_toArray]; exact RG.out.2.2); rw [set_alloc])
          | ((with_reducible refine wpList_ld 40 ?_ ?_ ?_ HY.out RG.out.2.1 RG.out.2.2 ?_); rfl; rfl; rfl)
          | (go_at_call 24; refine HC.out.1.mono ?_; rintro e w2 ⟨rfl, hTk, hGr⟩; have hN := HB.out.2.2.1.next HB.out.2.2.2 hGr HN.out.1 HN.out.2.2; have HT2 := Lib.hid (And.intro hTk hN); have HY2 := Lib.hid (range_grown HY.out hGr (by rw [alloc_size]; omega) (fun q e => by injection e with e; omega)); clear hTk hN hGr)
          | ((with_reducible refine wpList_ld 49 ?_ ?_ ?_ HY2.out RG.out.2.1 RG.out.2.2 ?_); rfl; rfl; rfl)
          | (go_at_call 26; refine (meas_w _ l _ _ _ _ _ _ HC.out.2.2.1).mono ?_; rintro e w3 ⟨rfl, hb3⟩; have HT := Lib.hid (MSt.up7 HT2.out hb3); have HY3 := Lib.hid (And.intro (range_up HY2.out hb3 (range_lt HY2.out HLN.out)) (range_lt HY2.out HLN.out)); have hz3 := hb3.size; clear hb3))
        have hlw : wr.heap.size < w3.heap.size := by have := HY3.out.2; omega
        have hW3 := HT.out.2.2.2.2.2.1
        have hls := range_up HC.out.2.2.2.1 hW3 HC.out.2.2.2.2.1
        have hcl := cell_of (i := 0) HT.out.2.2.2.1 (v := .slice (some ⟨b2, off2, none⟩) ss.length sc) rfl
        have hltW := lt_of_heap HT.out.2.2.2.1
        have HK := Lib.hid (show ∀ w' : World, Below w3.heap.size w3 w' → (w'.cell? ⟨W.heap.size, 0, none⟩ = some (.slice (some ⟨b2, off2, none⟩) ss.length sc) ∧ w'.rangeAt b2 (off2 + j * 48) s ∧ w'.rangeAt wr.heap.size 0 l) from fun w' hb' => ⟨cell_up hb' hcl, range_up hls hb' (by have := HC.out.2.2.2.2.1; omega), range_up HY3.out.1 hb' hlw⟩)
        refine wp_region_held_drew (S := fun w' => w'.cell? ⟨W.heap.size, 0, none⟩ = some (.slice (some ⟨b2, off2, none⟩) ss.length sc) ∧ w'.rangeAt b2 (off2 + j * 48) s ∧ w'.rangeAt wr.heap.size 0 l) (by kernel_rfl) (HK.out _ ((Below.refl _ _).drew)) (fun hSd => ?_)
        refine take_val (i := 0) (oi := ⟨some 53, .move (.tmp 10), _, _, _, none⟩) (u10) rfl (by kernel_rfl) (by kernel_rfl) (by kernel_rfl) (fun _ _ _ h => h) rfl (fun w hSw => rfl) hSd ?_
        simp only [Act.put, List.setIfInBounds_toArray, List.set_cons_zero, List.set_cons_succ]
        refine take_val (i := 1) (oi := ⟨some 54, .move (.tmp 13), _, _, _, none⟩) (.int .i64 (k : Nat)) rfl (by kernel_rfl) (by kernel_rfl) (by kernel_rfl) (fun _ _ _ h => h) rfl (fun w hSw => rfl) hSd ?_
        simp only [Act.put, List.setIfInBounds_toArray, List.set_cons_zero, List.set_cons_succ]
        refine take_val (i := 2) (oi := ⟨some 55, .move (.tmp 15), _, _, _, none⟩) (.int .i64 (j : Nat)) rfl (by kernel_rfl) (by kernel_rfl) (by kernel_rfl) (fun _ _ _ h => h) rfl (fun w hSw => rfl) hSd ?_
        simp only [Act.put, List.setIfInBounds_toArray, List.set_cons_zero, List.set_cons_succ]
        refine take_val (i := 3) (oi := ⟨some 56, .load 23 (.tmp 3), _, _, _, none⟩) (.slice (some ⟨b2, off2, none⟩) ss.length sc) rfl (by kernel_rfl) (by kernel_rfl) (by kernel_rfl) (fun _ _ _ h => h) rfl (fun w hSw => ex_load rfl (ld_samps _ _ _ _ hSw.1)) hSd ?_
        simp only [Act.put, List.setIfInBounds_toArray, List.set_cons_zero, List.set_cons_succ]
        refine take_val (i := 4) (oi := ⟨some 57, .move (.tmp 15), _, _, _, none⟩) (.int .i64 (j : Nat)) rfl (by kernel_rfl) (by kernel_rfl) (by kernel_rfl) (fun _ _ _ h => h) rfl (fun w hSw => rfl) hSd ?_
        simp only [Act.put, List.setIfInBounds_toArray, List.set_cons_zero, List.set_cons_succ]
        refine take_val (i := 5) (oi := ⟨some 58, .indexAddr 23 (.tmp 56) (.tmp 57), _, _, _, none⟩) (.pointer (some ⟨b2, off2 + j * 48, none⟩)) rfl (by kernel_rfl) (by kernel_rfl) (by kernel_rfl) (fun _ _ _ h => h) rfl (fun w hSw => ex_index rfl rfl (IX.out w)) hSd ?_
        simp only [Act.put, List.setIfInBounds_toArray, List.set_cons_zero, List.set_cons_succ]
        refine take_val (i := 6) (oi := ⟨some 59, .fieldAddr 47 (.tmp 58) 4, _, _, _, none⟩) (.pointer (some ⟨b2, off2 + j * 48 + 42, none⟩)) rfl (by kernel_rfl) (by kernel_rfl) (by kernel_rfl) (fun _ _ _ h => h) rfl (fun w hSw => ex_field rfl (fa_s4 _ _ _)) hSd ?_
        simp only [Act.put, List.setIfInBounds_toArray, List.set_cons_zero, List.set_cons_succ]
        refine take_val (i := 7) (oi := ⟨some 60, .load 45 (.tmp 59), _, _, _, none⟩) (wd (num s 42) (num s 43)) rfl (by kernel_rfl) (by kernel_rfl) (by kernel_rfl) (fun _ _ _ h => h) rfl (fun w hSw => ex_load rfl (ld_wide _ _ _ _ _ (hSw.2.1 42 _ F.out.1) (hSw.2.1 43 _ F.out.2.1))) hSd ?_
        simp only [Act.put, List.setIfInBounds_toArray, List.set_cons_zero, List.set_cons_succ]
        refine take_val (i := 8) (oi := ⟨some 61, .fieldAddr 52 (.tmp 14) 3, _, _, _, none⟩) (.pointer (some ⟨wr.heap.size, 36, none⟩)) rfl (by kernel_rfl) (by kernel_rfl) (by kernel_rfl) (fun _ _ _ h => h) rfl (fun w hSw => ex_field rfl (fa_l3 _ _)) hSd ?_
        simp only [Act.put, List.setIfInBounds_toArray, List.set_cons_zero, List.set_cons_succ]
        refine take_val (i := 9) (oi := ⟨some 62, .indexAddr 48 (.tmp 61) (.const (.int .i64 3)), _, _, _, none⟩) (.pointer (some ⟨wr.heap.size, 39, none⟩)) rfl (by kernel_rfl) (by kernel_rfl) (by kernel_rfl) (fun _ _ _ h => h) rfl (fun w hSw => ex_index rfl rfl (ix_t3 _ _)) hSd ?_
        simp only [Act.put, List.setIfInBounds_toArray, List.set_cons_zero, List.set_cons_succ]
        refine take_val (i := 10) (oi := ⟨some 63, .load 43 (.tmp 62), _, _, _, none⟩) (.int .u64 (num l 39)) rfl (by kernel_rfl) (by kernel_rfl) (by kernel_rfl) (fun _ _ _ h => h) rfl (fun w hSw => ex_load rfl (ld_u64 _ _ _ _ (hSw.2.2 39 _ F.out.2.2.1))) hSd ?_
        simp only [Act.put, List.setIfInBounds_toArray, List.set_cons_zero, List.set_cons_succ]
        refine take_val (i := 12) (oi := ⟨some 65, .move (.tmp 16), _, _, _, none⟩) (.int .i64 (offV (unfH (num l 36) (num l 0) (num l 1)) (num l 36) (unfH (num l 37) (num l 0) (num l 1)) (num l 37) (unfH (num l 38) (num l 0) (num l 1)) (num l 38) (unfH (num l 39) (num l 0) (num l 1)) (num l 39))) rfl (by kernel_rfl) (by kernel_rfl) (by kernel_rfl) (fun _ _ _ h => h) rfl (fun w hSw => rfl) hSd ?_
        simp only [Act.put, List.setIfInBounds_toArray, List.set_cons_zero, List.set_cons_succ]
        refine take_val (i := 13) (oi := ⟨some 66, .load 23 (.tmp 3), _, _, _, none⟩) (.slice (some ⟨b2, off2, none⟩) ss.length sc) rfl (by kernel_rfl) (by kernel_rfl) (by kernel_rfl) (fun _ _ _ h => h) rfl (fun w hSw => ex_load rfl (ld_samps _ _ _ _ hSw.1)) hSd ?_
        simp only [Act.put, List.setIfInBounds_toArray, List.set_cons_zero, List.set_cons_succ]
        refine take_val (i := 14) (oi := ⟨some 67, .move (.tmp 15), _, _, _, none⟩) (.int .i64 (j : Nat)) rfl (by kernel_rfl) (by kernel_rfl) (by kernel_rfl) (fun _ _ _ h => h) rfl (fun w hSw => rfl) hSd ?_
        simp only [Act.put, List.setIfInBounds_toArray, List.set_cons_zero, List.set_cons_succ]
        refine take_val (i := 15) (oi := ⟨some 68, .indexAddr 23 (.tmp 66) (.tmp 67), _, _, _, none⟩) (.pointer (some ⟨b2, off2 + j * 48, none⟩)) rfl (by kernel_rfl) (by kernel_rfl) (by kernel_rfl) (fun _ _ _ h => h) rfl (fun w hSw => ex_index rfl rfl (IX.out w)) hSd ?_
        simp only [Act.put, List.setIfInBounds_toArray, List.set_cons_zero, List.set_cons_succ]
        refine take_val (i := 16) (oi := ⟨some 69, .fieldAddr 47 (.tmp 68) 5, _, _, _, none⟩) (.pointer (some ⟨b2, off2 + j * 48 + 44, none⟩)) rfl (by kernel_rfl) (by kernel_rfl) (by kernel_rfl) (fun _ _ _ h => h) rfl (fun w hSw => ex_field rfl (fa_s5 _ _ _)) hSd ?_
        simp only [Act.put, List.setIfInBounds_toArray, List.set_cons_zero, List.set_cons_succ]
        refine take_val (i := 17) (oi := ⟨some 70, .load 2 (.tmp 69), _, _, _, none⟩) (.int .i64 (num s 44)) rfl (by kernel_rfl) (by kernel_rfl) (by kernel_rfl) (fun _ _ _ h => h) rfl (fun w hSw => ex_load rfl (ld_i64 _ _ _ _ (hSw.2.1 44 _ F.out.2.2.2.1))) hSd ?_
        simp only [Act.put, List.setIfInBounds_toArray, List.set_cons_zero, List.set_cons_succ]
        refine take_val (i := 19) (oi := ⟨some 72, .move (.tmp 17), _, _, _, none⟩) (.int .i64 (delV (unfH (num l 36) (num l 0) (num l 1)) (num l 36) (unfH (num l 37) (num l 0) (num l 1)) (num l 37) (unfH (num l 38) (num l 0) (num l 1)) (num l 38) (unfH (num l 39) (num l 0) (num l 1)) (num l 39))) rfl (by kernel_rfl) (by kernel_rfl) (by kernel_rfl) (fun _ _ _ h => h) rfl (fun w hSw => rfl) hSd ?_
        simp only [Act.put, List.setIfInBounds_toArray, List.set_cons_zero, List.set_cons_succ]
        refine take_val (i := 20) (oi := ⟨some 73, .load 23 (.tmp 3), _, _, _, none⟩) (.slice (some ⟨b2, off2, none⟩) ss.length sc) rfl (by kernel_rfl) (by kernel_rfl) (by kernel_rfl) (fun _ _ _ h => h) rfl (fun w hSw => ex_load rfl (ld_samps _ _ _ _ hSw.1)) hSd ?_
        simp only [Act.put, List.setIfInBounds_toArray, List.set_cons_zero, List.set_cons_succ]
        refine take_val (i := 21) (oi := ⟨some 74, .move (.tmp 15), _, _, _, none⟩) (.int .i64 (j : Nat)) rfl (by kernel_rfl) (by kernel_rfl) (by kernel_rfl) (fun _ _ _ h => h) rfl (fun w hSw => rfl) hSd ?_
        simp only [Act.put, List.setIfInBounds_toArray, List.set_cons_zero, List.set_cons_succ]
        refine take_val (i := 22) (oi := ⟨some 75, .indexAddr 23 (.tmp 73) (.tmp 74), _, _, _, none⟩) (.pointer (some ⟨b2, off2 + j * 48, none⟩)) rfl (by kernel_rfl) (by kernel_rfl) (by kernel_rfl) (fun _ _ _ h => h) rfl (fun w hSw => ex_index rfl rfl (IX.out w)) hSd ?_
        simp only [Act.put, List.setIfInBounds_toArray, List.set_cons_zero, List.set_cons_succ]
        refine take_val (i := 23) (oi := ⟨some 76, .fieldAddr 47 (.tmp 75) 6, _, _, _, none⟩) (.pointer (some ⟨b2, off2 + j * 48 + 45, none⟩)) rfl (by kernel_rfl) (by kernel_rfl) (by kernel_rfl) (fun _ _ _ h => h) rfl (fun w hSw => ex_field rfl (fa_s6 _ _ _)) hSd ?_
        simp only [Act.put, List.setIfInBounds_toArray, List.set_cons_zero, List.set_cons_succ]
        refine take_val (i := 24) (oi := ⟨some 77, .load 2 (.tmp 76), _, _, _, none⟩) (.int .i64 (num s 45)) rfl (by kernel_rfl) (by kernel_rfl) (by kernel_rfl) (fun _ _ _ h => h) rfl (fun w hSw => ex_load rfl (ld_i64 _ _ _ _ (hSw.2.1 45 _ F.out.2.2.2.2))) hSd ?_
        simp only [Act.put, List.setIfInBounds_toArray, List.set_cons_zero, List.set_cons_succ]
        have hb0 : Below w3.heap.size w3 w3.drew := (Below.refl _ _).drew
        refine take_call 11 (f := 27) (args := #[wd (num s 42) (num s 43), .int .u64 (num l 39)]) rfl (by kernel_rfl) rfl (by kernel_rfl) (way_w _ _ _ _) ?_
        rintro e w4 ⟨rfl, hb1⟩
        have hb4 : Below w3.heap.size w3 w4 := hb0.trans (hb1.mono hb0.size)
        clear hSd hb1
        refine ⟨_, rfl, HK.out _ hb4, ?_⟩
        have hSd := HK.out _ hb4
        simp only [Act.put, List.setIfInBounds_toArray, List.set_cons_zero, List.set_cons_succ]
        refine take_call 18 (f := 28) (args := #[.int .i64 (offV (unfH (num l 36) (num l 0) (num l 1)) (num l 36) (unfH (num l 37) (num l 0) (num l 1)) (num l 37) (unfH (num l 38) (num l 0) (num l 1)) (num l 38) (unfH (num l 39) (num l 0) (num l 1)) (num l 39)), .int .i64 (num s 44)]) rfl (by kernel_rfl) rfl (by kernel_rfl) (less_w _ _ _) ?_
        rintro e w5 ⟨rfl, hb1⟩
        have hb5 : Below w3.heap.size w3 w5 := hb4.trans (hb1.mono hb4.size)
        clear hSd hb1
        refine ⟨_, rfl, HK.out _ hb5, ?_⟩
        have hSd := HK.out _ hb5
        simp only [Act.put, List.setIfInBounds_toArray, List.set_cons_zero, List.set_cons_succ]
        refine take_call 25 (f := 28) (args := #[.int .i64 (delV (unfH (num l 36) (num l 0) (num l 1)) (num l 36) (unfH (num l 37) (num l 0) (num l 1)) (num l 37) (unfH (num l 38) (num l 0) (num l 1)) (num l 38) (unfH (num l 39) (num l 0) (num l 1)) (num l 39)), .int .i64 (num s 45)]) rfl (by kernel_rfl) rfl (by kernel_rfl) (less_w _ _ _) ?_
        rintro e w6 ⟨rfl, hb1⟩
        have hb6 : Below w3.heap.size w3 w6 := hb5.trans (hb1.mono hb5.size)
        clear hSd hb1
        refine ⟨_, rfl, HK.out _ hb6, ?_⟩
        have hSd := HK.out _ hb6
        simp only [Act.put, List.setIfInBounds_toArray, List.set_cons_zero, List.set_cons_succ]
        refine take_val (i := 26) (oi := ⟨some 79, _, _, _, _, none⟩) (.agg #[.int .i64 (k : Nat), .int .i64 (j : Nat), .int .i64 (wayV (num s 43) (num l 39)), .int .i64 (lessV (offV (unfH (num l 36) (num l 0) (num l 1)) (num l 36) (unfH (num l 37) (num l 0) (num l 1)) (num l 37) (unfH (num l 38) (num l 0) (num l 1)) (num l 38) (unfH (num l 39) (num l 0) (num l 1)) (num l 39)) (num s 44)), .int .i64 (lessV (delV (unfH (num l 36) (num l 0) (num l 1)) (num l 36) (unfH (num l 37) (num l 0) (num l 1)) (num l 37) (unfH (num l 38) (num l 0) (num l 1)) (num l 38) (unfH (num l 39) (num l 0) (num l 1)) (num l 39)) (num s 45))]) rfl (by kernel_rfl) (by kernel_rfl) (by kernel_rfl) (fun _ _ _ h => h) rfl (fun w hSw => ex_build _ _ _ _ _ _ _ _ _ _ _ _ _ _ _ _ rfl rfl rfl rfl rfl) hSd ?_
        simp only [Act.put, List.setIfInBounds_toArray, List.set_cons_zero, List.set_cons_succ]
        have hA6 := (Below.refl w6.heap.size w6).alloc (Nat.le_refl _) (.cells #[.int .i64 (k : Nat), .int .i64 (j : Nat), .int .i64 (wayV (num s 43) (num l 39)), .int .i64 (lessV (offV (unfH (num l 36) (num l 0) (num l 1)) (num l 36) (unfH (num l 37) (num l 0) (num l 1)) (num l 37) (unfH (num l 38) (num l 0) (num l 1)) (num l 38) (unfH (num l 39) (num l 0) (num l 1)) (num l 39)) (num s 44)), .int .i64 (lessV (delV (unfH (num l 36) (num l 0) (num l 1)) (num l 36) (unfH (num l 37) (num l 0) (num l 1)) (num l 37) (unfH (num l 38) (num l 0) (num l 1)) (num l 38) (unfH (num l 39) (num l 0) (num l 1)) (num l 39)) (num s 45))] 78)
        have hb7 := hb6.trans (hA6.mono hb6.size)
        have hS7 := HK.out _ hb7
        have hT6 := MSt.up7 HT.out hb6
        have hM6 := own_up hT6.2.1 hA6
        refine take_do 27 rfl (by kernel_rfl) rfl (ex_row _ _ _ _ _ _ _ _ _ _ _ _ rfl) hS7 ?_
        simp only [Act.put, List.setIfInBounds_toArray, List.set_cons_zero, List.set_cons_succ]
        refine take_append 28 (.tmp 53) (.tmp 80) 25 rfl (by kernel_rfl) rfl rfl X.heap.size 78 im _ 5 40 Tryz.underlying25 HI.out.2.1 HI.out.2.2.1 HI.out.2.2.2.1 HI.out.2.2.2.2 rfl (by decide) _ _ _ rfl hM6 ⟨w6.heap.size, 0, none⟩ 1 1 [.int .i64 (k : Nat), .int .i64 (j : Nat), .int .i64 (wayV (num s 43) (num l 39)), .int .i64 (lessV (offV (unfH (num l 36) (num l 0) (num l 1)) (num l 36) (unfH (num l 37) (num l 0) (num l 1)) (num l 37) (unfH (num l 38) (num l 0) (num l 1)) (num l 38) (unfH (num l 39) (num l 0) (num l 1)) (num l 39)) (num s 44)), .int .i64 (lessV (delV (unfH (num l 36) (num l 0) (num l 1)) (num l 36) (unfH (num l 37) (num l 0) (num l 1)) (num l 37) (unfH (num l 38) (num l 0) (num l 1)) (num l 38) (unfH (num l 39) (num l 0) (num l 1)) (num l 39)) (num s 45))] rfl rfl (World.news_of_block (cs := #[.int .i64 (k : Nat), .int .i64 (j : Nat), .int .i64 (wayV (num s 43) (num l 39)), .int .i64 (lessV (offV (unfH (num l 36) (num l 0) (num l 1)) (num l 36) (unfH (num l 37) (num l 0) (num l 1)) (num l 37) (unfH (num l 38) (num l 0) (num l 1)) (num l 38) (unfH (num l 39) (num l 0) (num l 1)) (num l 39)) (num s 44)), .int .i64 (lessV (delV (unfH (num l 36) (num l 0) (num l 1)) (num l 36) (unfH (num l 37) (num l 0) (num l 1)) (num l 37) (unfH (num l 38) (num l 0) (num l 1)) (num l 38) (unfH (num l 39) (num l 0) (num l 1)) (num l 39)) (num s 45))]) (heap_alloc_new _ _)) (by simp [Value.oneCell']) ?c1 ?c2 ?c3 ?_
        case c1 => have := (greed_inv ss.length (TT ls ss) k).len; unfold maxLen; omega
        case c2 => have := (greed_inv ss.length (TT ls ss) k).len; omega
        case c3 => rw [alloc_size]; have := hT6.2.2.2.2.2.2; omega
        intro v' w8 o1 o2 o3
        have hz6 := hb6.size
        have hS8 : w8.cell? ⟨W.heap.size, 0, none⟩ = some (.slice (some ⟨b2, off2, none⟩) ss.length sc) ∧ w8.rangeAt b2 (off2 + j * 48) s ∧ w8.rangeAt wr.heap.size 0 l := ⟨by rw [o2.cell_far ⟨W.heap.size, 0, none⟩ (by rw [alloc_size]; show W.heap.size < _; omega) (fun e => by have := (hM6.lt _ e.symm).1; have h2 := HN.out.1; have h3 : X.heap.size ≤ W.heap.size := this; omega)]; exact hS7.1, range_grown hS7.2.1 o2 (by rw [alloc_size]; have := HC.out.2.2.2.2.1; omega) (fun q e => by have := (hM6.lt q e).1; have h2 := HN.out.1; have h3 := HC.out.2.2.2.2.1; omega), range_grown hS7.2.2 o2 (by rw [alloc_size]; omega) (fun q e => by have := (HC.out.2.2.2.2.2.lt q e).2; omega)⟩
        refine ⟨hS8, ?_⟩
        simp only [Act.put, List.setIfInBounds_toArray, List.set_cons_zero, List.set_cons_succ]
        clear hSd
        refine take_val (i := 29) (oi := ⟨some 10, .assign (.tmp 81), _, _, _, none⟩) (v') rfl (by kernel_rfl) (by kernel_rfl) (by kernel_rfl) (fun _ _ _ h => h) rfl (fun w hSw => rfl) hS8 ?_
        simp only [Act.put, List.setIfInBounds_toArray, List.set_cons_zero, List.set_cons_succ]
        refine wpAnyH_done (by kernel_rfl) ?_ _
        have HO := Lib.hid (And.intro o1 (And.intro o2 (And.intro hT6 hA6)))
        clear o1 o2 o3 hT6 hA6 hz6 hS8 hS7 hM6 hb0 hb4 hb5 hb6 hb7
        go_wp2_with fail
        go_roundg (ls.length - (k + 1))
        case measure => omega
        case rel => exact ⟨k + 1, by go_num, by omega, rfl, MSt.met HC.out.2.1 HO.out.2.2.1 HO.out.2.2.2 HN.out.1 HN.out.2.1 HO.out.1 (by unfold MV mvR; rw [F2.out.1, F2.out.2]) HO.out.2.1⟩
end Go.Proofs.YtmnoegfehgoalaaGreatDoor.cx
