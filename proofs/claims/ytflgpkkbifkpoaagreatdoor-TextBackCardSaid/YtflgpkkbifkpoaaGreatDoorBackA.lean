/- Plain laws for 'TextBack': longer decimal texts are of greater numbers; a text that is cut at a separator, joined again; hexadecimal digits of bytes that digits are read as. text.DecWide and text.UndecWide as calls in the model: by what they come to. The calls of the row 'TextBack' as laws over whatever heap; its oracle and that it is sound. -/
import Derived.Test.YtflgpkkbifkpoaaGreatDoorRows
import Derived.Test.YtflgpkkbifkpoaaGreatDoorWideCc
import Derived.Lib.SplitLaws
import Derived.Lib.IndexMore
import Derived.Lib.Join
import Derived.Test.YtflgpkkbifkpoaaGreatDoorWideDd
import Derived.Test.YtflgpkkbifkpoaaGreatDoorNumK
import Derived.Test.YtflgpkkbifkpoaaGreatDoorShelfK
import Derived.Test.YtflgpkkbifkpoaaGreatDoorTextUnA
import Derived.Lib.IndexBytes
namespace Go.Proofs.YtflgpkkbifkpoaaGreatDoor.num
set_option linter.unusedVariables false

theorem dec_len_pos (m : Nat) : 0 < (Lib.decDigits m).length := List.length_pos_iff.2 (dec_val m).2.2
theorem dec_len : ∀ n m : Nat, m ≤ n → (Lib.decDigits m).length ≤ (Lib.decDigits n).length := by
  intro n
  induction n using Nat.strongRecOn with
  | _ n ih =>
    intro m hm
    by_cases h : m < 10
    · have e : (Lib.decDigits m).length = 1 := by rw [Lib.decDigits, dif_pos h]; rfl
      rw [e]
      exact dec_len_pos n
    · have e1 : (Lib.decDigits m).length = (Lib.decDigits (m / 10)).length + 1 := by rw [Lib.decDigits, dif_neg h]; simp
      have e2 : (Lib.decDigits n).length = (Lib.decDigits (n / 10)).length + 1 := by rw [Lib.decDigits, dif_neg (by omega)]; simp
      rw [e1, e2]
      exact Nat.succ_le_succ (ih (n / 10) (by omega) (m / 10) (by omega))
theorem decV_size {v : Int} (h : 0 ≤ v) : (decV v).size = (Lib.decDigits v.toNat).length := by
  unfold decV Lib.itoa
  rw [if_neg (by omega), ba_size]
/-- Of numbers not below 0 the one with the longer text is the greater one. -/
theorem lt_of_len {v w : Int} (hv : 0 ≤ v) (hw : 0 ≤ w) (h : (decV v).size < (decV w).size) : v < w := by
  rcases (show v < w ∨ w ≤ v by omega) with h1 | h1
  · exact h1
  · rw [decV_size hv, decV_size hw] at h
    have := dec_len v.toNat w.toNat (by omega)
    omega

theorem join_splitK (sep : List UInt8) : ∀ (k : Nat) (s : List UInt8), Lib.join (Lib.splitK sep 0 k s) sep = s := by
  intro k
  induction k with
  | zero => intro s; rw [Lib.splitK, Lib.join_one]
  | succ k ih =>
    intro s
    rw [Lib.splitK]
    split
    · exact Lib.join_one _ _
    · rename_i hi
      rcases Lib.index_spec s sep with ⟨h1, _⟩ | ⟨i, h1, h2, h3, _⟩
      · rw [h1] at hi; exact absurd rfl hi
      · rw [h1, Int.toNat_natCast, Nat.add_zero]
        have hr := ih (s.drop (i + sep.length))
        have hp : sep <+: s.drop i := List.isPrefixOf_iff_prefix.1 h3
        obtain ⟨t, ht⟩ := hp
        have hd : s.drop (i + sep.length) = t := by rw [← List.drop_drop, ← ht, List.drop_left]
        have hne : ∃ x r, Lib.splitK sep 0 k (s.drop (i + sep.length)) = x :: r := by
          cases k with
          | zero => exact ⟨_, _, rfl⟩
          | succ k =>
            rw [Lib.splitK]
            split
            · exact ⟨_, _, rfl⟩
            · exact ⟨_, _, rfl⟩
        obtain ⟨x, r, hx⟩ := hne
        rw [hx] at hr ⊢
        rw [Lib.join_cons] at hr
        rw [Lib.join_cons]
        have e : Lib.joinTail sep (x :: r) = sep ++ (x ++ Lib.joinTail sep r) := by simp [Lib.joinTail]
        rw [e, hr, hd, ht, List.take_append_drop]
/-- The parts of a text, joined again, are the text. -/
theorem join_splitB (sep : ByteArray) (k : Nat) (s : ByteArray) : (⟨(Lib.join ((Lib.splitB sep 0 k s).map (·.data.toList)) sep.data.toList).toArray⟩ : ByteArray) = s := by
  rw [Lib.splitB_data, join_splitK]
end Go.Proofs.YtflgpkkbifkpoaaGreatDoor.num

namespace Go.Proofs.YtflgpkkbifkpoaaGreatDoor.num
open Go.Dg (St Ex Ev Hint evCall bodied noOver sbOf Heap AObj SCall Law ofLaw flatOver)
open Go.Proofs.YtflgpkkbifkpoaaGreatDoor.text (ui pow10L)
set_option linter.unusedVariables false

theorem glob_cell {M : Dg.Emb} {N : Nat} {H : Heap} {w : World} (hg : Dg.Globs 10 M) (hr : Dg.HRel M N H w) {g : Nat} (hg10 : g < 10) {cs : List Value} {e md esz : Nat} (h : H.get g = .cells cs e md esz) {i : Nat} {v : Value} (hv : cs[i]? = some v) :
    ∃ v', w.cell? ⟨g, i, none⟩ = some v' ∧ Dg.VRel M v v' := by
  obtain ⟨b, o, sp, h1, h2⟩ := hr.obj g (by rw [h]; rfl)
  rw [hg g hg10] at h1
  cases h1
  rw [h] at h2
  obtain ⟨C, fz, h3, _, h4, _⟩ := h2
  obtain ⟨v', h5, h6⟩ := h4 i v hv
  refine ⟨v', ?_, h6⟩
  rw [Nat.zero_add] at h5
  simp [World.cell?, h3, h5]
theorem pow10_at : ui .u64 pow10L = (List.range 20).map fun i => Value.int .u64 ((10 ^ i : Nat) : Int) := by kernel_rfl
theorem pow10_flat : Dg.flatL (ui .u64 pow10L) = true := by kernel_rfl
theorem tab_of {M : Dg.Emb} {N : Nat} {H : Heap} {w : World} (hg : Dg.Globs 10 M) (hr : Dg.HRel M N H w) (h : TabOk H) : Tab w := by
  obtain ⟨e, h⟩ := h
  intro i hi
  obtain ⟨v', h1, h2⟩ := glob_cell hg hr (by decide) h (i := i) (v := .int .u64 ((10 ^ i : Nat) : Int)) (by rw [pow10_at]; simp [hi])
  rw [h1, h2.eq_of_flat rfl]
theorem keep_of {f : FuncId} {args args' : List Value} {v : Value} {M : Dg.Emb} {N : Nat} {H : Heap} {w : World} (hr : Dg.HRel M N H w) (ha : Dg.flatL args = true) (hv : Dg.flat v = true) (hl : Dg.LRel M args args')
    (hc : Calls Tryz.prog f args.toArray w fun e w' => e = .returned v ∧ RowKit.Below w.heap.size w w') : Calls Tryz.prog f args'.toArray w fun e w' => ∃ M' v', e = .returned v' ∧ Dg.VRel M' v v' ∧ Dg.Stp N M H w M' H w' := by
  have e : args' = args := hl.eq_of_flat ha
  rw [e]
  exact hc.mono fun e w' ⟨he, hb⟩ => ⟨M, v, he, Dg.vrel_of_flat _ _ hv, .of_below hr hb⟩
/-- Where the table lies, for a call that reads nothing else. -/
def LT (e : TypeId) : List (Nat × Nat × AObj) := [(0, 0, .dead), (1, 0, .dead), (2, 0, .dead), (3, 0, .dead), (4, 0, .dead), (5, 0, .cells kpPow e 6 1), (6, 0, .dead), (7, 0, .dead), (8, 0, .dead), (9, 0, .dead)]
theorem LT_heap (e : TypeId) : Dg.heapOf (LT e) = Hx e [] := rfl
theorem LT_globs (e : TypeId) : Dg.Globs 10 (Dg.embOf (LT e)) := by
  intro g hg
  match g, hg with
  | 0, _ => rfl
  | 1, _ => rfl
  | 2, _ => rfl
  | 3, _ => rfl
  | 4, _ => rfl
  | 5, _ => rfl
  | 6, _ => rfl
  | 7, _ => rfl
  | 8, _ => rfl
  | 9, _ => rfl
theorem tab_calls {over : Ev} (hover : Dg.CallOk Tryz.prog 10 over ∧ Dg.CallLog over) {sb : List Nat} {lf n : Nat} {f : FuncId} {args : List Value} {v : Value} (h : ∀ e, (evCall Tryz.prog 10 (bodied Tryz.prog) over sb lf n f args (Hx e [])).map (·.1) = some v)
    (ha : Dg.flatL args = true) (hv : Dg.flat v = true) (hfY : Nat.ble Dg.Y f = false) {M : Dg.Emb} {N : Nat} {H : Heap} {w : World} (hg : Dg.Globs 10 M) (hr : Dg.HRel M N H w) (ht : TabOk H) : Calls Tryz.prog f args.toArray w fun e w' => e = .returned v ∧ RowKit.Below w.heap.size w w' := by
  obtain ⟨e, ht⟩ := ht
  obtain ⟨b, o, sp, h1, h2⟩ := hr.obj 5 (by rw [ht]; rfl)
  rw [hg 5 (by decide)] at h1
  cases h1
  rw [ht] at h2
  obtain ⟨C, fz, k1, k2, k3, _, k5, k6⟩ := h2
  refine Dg.open_callG mixed okB hover (LT e) (LT_globs e) (fun x hx => ?_) (Dg.LRel.of_flat _ ha) (by rw [LT_heap]; exact h e) hv hfY
  simp only [LT, List.mem_cons, List.not_mem_nil, or_false] at hx
  rcases hx with rfl | rfl | rfl | rfl | rfl | rfl | rfl | rfl | rfl | rfl
  case inr.inr.inr.inr.inr.inl =>
    refine ⟨rfl, fun N' => ⟨C, fz, k1, by simpa [kpPow] using k2, fun i v' hv' => ?_, fun hc => absurd rfl hc, fun _ => rfl, fun _ => pow10_flat⟩⟩
    obtain ⟨u, u1, u2⟩ := k3 i v' hv'
    have hfl := Dg.flatL_get _ pow10_flat i v' hv'
    have := u2.eq_of_flat hfl
    subst this
    exact ⟨_, u1, Dg.vrel_of_flat _ _ hfl⟩
  all_goals exact ⟨rfl, fun N' => True.intro⟩
theorem ovD_ok : Dg.CallOk Tryz.prog 10 ovD ∧ Dg.CallLog ovD := by
  have hf := Dg.flatOver_ok (P := Tryz.prog) (G := 10) p4_flats
  constructor
  · intro f args H v H' log he hY N M w args' hg hr hl
    have hl' : Dg.LRel M args args'.toList := hl
    unfold ovD at he
    split at he
    · obtain ⟨n, rfl, h0, h1, ht, e⟩ := Dg.ofLaw_inv he
      cases e
      exact keep_of hr rfl rfl hl' (dec_calls n h0 h1 w (tab_of hg hr ht))
    · obtain ⟨n, rfl, h0, ht, e⟩ := Dg.ofLaw_inv he
      cases e
      exact keep_of hr rfl rfl hl' (uns_calls n h0 w (tab_of hg hr ht))
    · exact hf.1 _ args H v H' log he hY N M w args' hg hr hl
  · intro f args H v H' log he
    unfold ovD at he
    split at he
    · obtain ⟨n, rfl, h0, h1, ht, e⟩ := Dg.ofLaw_inv he
      cases e
      exact fun hlen => ⟨hlen, Nat.le_refl _, fun k _ _ => rfl⟩
    · obtain ⟨n, rfl, h0, ht, e⟩ := Dg.ofLaw_inv he
      cases e
      exact fun hlen => ⟨hlen, Nat.le_refl _, fun k _ _ => rfl⟩
    · exact hf.2 _ args H v H' log he
theorem ovU_ok : Dg.CallOk Tryz.prog 10 ovU ∧ Dg.CallLog ovU := by
  have hf := Dg.flatOver_ok (P := Tryz.prog) (G := 10) p5_flats
  constructor
  · intro f args H v H' log he hY N M w args' hg hr hl
    have hl' : Dg.LRel M args args'.toList := hl
    unfold ovU at he
    split at he
    · obtain ⟨n, rfl, h0, ht, e⟩ := Dg.ofLaw_inv he
      cases e
      exact keep_of hr rfl rfl hl' (tab_calls ovD_ok (fun e => by rw [dw_all e h0]; rfl) rfl rfl rfl hg hr ht)
    · exact hf.1 _ args H v H' log he hY N M w args' hg hr hl
  · intro f args H v H' log he
    unfold ovU at he
    split at he
    · obtain ⟨n, rfl, h0, ht, e⟩ := Dg.ofLaw_inv he
      cases e
      exact fun hlen => ⟨hlen, Nat.le_refl _, fun k _ _ => rfl⟩
    · exact hf.2 _ args H v H' log he
def CUndW : Law := fun args H r => ∃ s : ByteArray, args = [.string s] ∧ TabOk H ∧ r = (.tuple #[wv (undecWV s.data.toList).1, .bool (undecWV s.data.toList).2], H, [])
theorem CUndW_uniq : ∀ args H r r', CUndW args H r → CUndW args H r' → r = r' := by
  rintro args H r r' ⟨n, h, _, rfl⟩ ⟨m, h', _, rfl⟩
  rw [h] at h'
  injection h' with h1
  injection h1 with h2
  rw [h2]
theorem und_calls (s : ByteArray) {M : Dg.Emb} {N : Nat} {H : Heap} {w : World} (hg : Dg.Globs 10 M) (hr : Dg.HRel M N H w) (ht : TabOk H) : Calls Tryz.prog 10 #[.string s] w fun e w' => e = .returned (.tuple #[wv (undecWV s.data.toList).1, .bool (undecWV s.data.toList).2]) ∧ RowKit.Below w.heap.size w w' :=
  tab_calls ovU_ok (fun e => by rw [und_all e s]; rfl) rfl rfl rfl hg hr ht
end Go.Proofs.YtflgpkkbifkpoaaGreatDoor.num

namespace Go.Proofs.YtflgpkkbifkpoaaGreatDoor.num
open Go.Dg (St Ex Ev Hint evCall bodied noOver sbOf Heap AObj SCall Law ofLaw flatOver)
open Go.Proofs.YtflgpkkbifkpoaaGreatDoor.text (ui pow10L rowU outL Byt C6 C8 unV)
set_option linter.unusedVariables false
set_option linter.unusedSimpArgs false

/-! ### Numbers of 64 bits. -/
def ErrOk (H : Heap) : Prop := (∃ u k e, H.get 3 = .cells [.iface u (.pointer (some ⟨k, 0, none⟩))] e 2 1) ∧ ∃ u k e, H.get 4 = .cells [.iface u (.pointer (some ⟨k, 0, none⟩))] e 2 1
def CUnd : Law := fun args H r => ∃ s : ByteArray, args = [.string s] ∧ s.size ≤ 281474976710656 ∧ TabOk H ∧ ErrOk H ∧ r = (.tuple #[.int .i64 (undecV s).1, .bool (undecV s).2], H, [])
def CUnu : Law := fun args H r => ∃ s : ByteArray, args = [.string s] ∧ s.size ≤ 281474976710656 ∧ TabOk H ∧ ErrOk H ∧ r = (.tuple #[.int .u64 ((ununsV s).1 : Int), .bool (ununsV s).2], H, [])
theorem CUnd_uniq : ∀ args H r r', CUnd args H r → CUnd args H r' → r = r' := by
  rintro args H r r' ⟨n, h, _, _, _, rfl⟩ ⟨m, h', _, _, _, rfl⟩
  rw [h] at h'
  injection h' with h1
  injection h1 with h2
  rw [h2]
theorem CUnu_uniq : ∀ args H r r', CUnu args H r → CUnu args H r' → r = r' := by
  rintro args H r r' ⟨n, h, _, _, _, rfl⟩ ⟨m, h', _, _, _, rfl⟩
  rw [h] at h'
  injection h' with h1
  injection h1 with h2
  rw [h2]
theorem err_of {M : Dg.Emb} {N : Nat} {H : Heap} {w : World} (hg : Dg.Globs 10 M) (hr : Dg.HRel M N H w) {g : Nat} (hg10 : g < 10) (h : ∃ u k e, H.get g = .cells [.iface u (.pointer (some ⟨k, 0, none⟩))] e 2 1) : ∃ t p, w.cell? ⟨g, 0, none⟩ = some (.iface t p) := by
  obtain ⟨u, k, e, h⟩ := h
  obtain ⟨v', h1, h2⟩ := glob_cell hg hr hg10 h (i := 0) (v := .iface u (.pointer (some ⟨k, 0, none⟩))) rfl
  cases h2 with
  | atom h => cases h
  | iface h => exact ⟨_, _, h1⟩

/-! ### Texts cut at a blank, and joined. -/
/-- A blank. -/
def sp : ByteArray := ⟨#[32]⟩
theorem sp_one : (sp.size = 1) := rfl
def pcs (s : ByteArray) : List ByteArray := Lib.splitB sp 0 (Lib.countB s sp) s
theorem pcs_len (s : ByteArray) : (pcs s).length = Lib.countB s sp + 1 := Lib.splitB_all sp (by decide) 0 _ s rfl
def rowS (xs : List ByteArray) : AObj := .cells (xs.map Value.string) 9 4 1
theorem strs_flat (xs : List ByteArray) : Dg.flatL (xs.map Value.string) = true := Dg.flatL_of fun v hv => by
  obtain ⟨x, _, rfl⟩ := List.mem_map.1 hv
  rfl
theorem split_calls (s : ByteArray) (hs : s.size < 4294967281) (w : World) :
    Calls Tryz.prog 71 #[.string s, .string sp, .int .i64 0, .int .i64 (-1)] w fun e w' =>
      e = .returned (.slice (some ⟨w.heap.size, 0, none⟩) (pcs s).length (pcs s).length) ∧ w' = w.alloc (.cells ((pcs s).map Value.string).toArray 9) := by
  have hle := Lib.countB_le sp (by decide) s.size s (Nat.le_refl _)
  have hlen := pcs_len s
  have c := Any.strings_genSplit_core Tryz.lays221 (by kernel_rfl) s sp 0 (-1) (Lib.countB s sp + 1) w hs (by decide) (by decide)
    (fun x c hx => (Tryz.strings_Index_one x 32 _).mono fun e w' ⟨he, hw⟩ => ⟨by rw [he]; unfold Lib.indexB; rw [show sp.data.toList = [32] from rfl, Lib.index_one], hw⟩)
    ((Tryz.strings_Count_one s 32 w).mono fun e w' ⟨he, hw⟩ => ⟨by
      rw [he]
      show _ = Ending.returned (Value.int .i64 ((Lib.count s.data.toList [32] : Nat) : Int))
      rw [Lib.count_one]
      rfl, hw⟩) (by decide) (by decide) (by rw [if_pos (by decide)]; omega)
  rw [Nat.add_sub_cancel] at c
  have e2 : Lib.cellsOf (Lib.splitB sp 0 (Lib.countB s sp) s) (Lib.countB s sp + 1) = ((Lib.splitB sp 0 (Lib.countB s sp) s).map Value.string).toArray := by
    have h : (Lib.splitB sp 0 (Lib.countB s sp) s).length = Lib.countB s sp + 1 := hlen
    rw [← h]; exact Lib.cellsOf_full _
  rw [e2] at c
  refine c.mono fun e w' ⟨he, hw⟩ => ⟨?_, hw⟩
  rw [he, hlen]
  unfold pcs at hlen
  rw [hlen]
def CSpl : Law := fun args H r => ∃ s : ByteArray, args = [.string s, .string sp, .int .i64 0, .int .i64 (-1)] ∧ s.size < 4294967281 ∧ r = (.slice (some ⟨H.n, 0, none⟩) (pcs s).length (pcs s).length, H.push (rowS (pcs s)), [])
theorem CSpl_uniq : ∀ args H r r', CSpl args H r → CSpl args H r' → r = r' := by
  rintro args H r r' ⟨n, h, _, rfl⟩ ⟨m, h', _, rfl⟩
  rw [h] at h'
  injection h' with h1
  injection h1 with h2
  rw [h2]
theorem spl_ok {args : List Value} {H : Heap} {v : Value} {H' : Heap} {log : List Nat} (h : CSpl args H (v, H', log)) : SCall Tryz.prog 71 args H v H' log := by
  obtain ⟨s, rfl, hs, e⟩ := h
  cases e
  refine ⟨fun N M w args' hr hl => ?_, fun hlen => ⟨by simp [Heap.push, hlen], by simp [Heap.push], fun k hk _ => Dg.Heap.get_push_old _ _ _ hk⟩⟩
  have e : args'.toList = [.string s, .string sp, .int .i64 0, .int .i64 (-1)] := hl.eq_of_flat rfl
  have e2 : args' = #[.string s, .string sp, .int .i64 0, .int .i64 (-1)] := by cases args'; simp_all
  rw [e2]
  refine (split_calls s hs w).mono ?_
  rintro e w' ⟨rfl, rfl⟩
  refine ⟨_, _, rfl, ?_, Dg.Stp.row4 hr 9 (l := (pcs s).map Value.string) (C := ((pcs s).map Value.string).toArray) (Dg.LRel.of_flat _ (strs_flat _)) (strs_flat _)⟩
  have := Dg.VRel.slx (M := M.put H.n (w.heap.size, 0, 0)) (k := H.n) (off := 0) (len := (pcs s).length) (cap := (pcs s).length) (Dg.Emb.put_same _ _ _)
  simpa using this
def joined (xs : List ByteArray) : ByteArray := ⟨(Lib.join (xs.map (·.data.toList)) [32]).toArray⟩
theorem joined_pcs (s : ByteArray) : joined (pcs s) = s := join_splitB sp _ s
def CJoin : Law := fun args H r => (args = [.slice none 0 0, .string sp] ∧ r = (.string ⟨#[]⟩, H, [])) ∨ ∃ k n xs, args = [.slice (some ⟨k, 0, none⟩) n n, .string sp] ∧ H.get k = rowS xs ∧ n = xs.length ∧ xs.length ≤ 140737488355328 ∧ (joined xs).size ≤ 140737488355328 ∧ r = (.string (joined xs), H, [])
theorem rowS_inj {a b : List ByteArray} (h : rowS a = rowS b) : a = b := by
  unfold rowS at h
  injection h with h1
  exact (List.map_inj_right (fun x y hxy => by injection hxy)).1 h1
theorem CJoin_uniq : ∀ args H r r', CJoin args H r → CJoin args H r' → r = r' := by
  rintro args H r r' (⟨h1, h2⟩ | ⟨k, n, xs, h1, h2, _, _, _, h3⟩) (⟨g1, g2⟩ | ⟨k', n', xs', g1, g2, _, _, _, g3⟩)
  · rw [h2, g2]
  · rw [h1] at g1; simp at g1
  · rw [g1] at h1; simp at h1
  · rw [h1] at g1
    simp only [List.cons.injEq, Value.slice.injEq, Option.some.injEq, Addr.mk.injEq, and_true, true_and] at g1
    obtain ⟨rfl, _⟩ := g1
    obtain rfl := rowS_inj (h2.symm.trans g2)
    rw [h3, g3]
theorem join_ok {args : List Value} {H : Heap} {v : Value} {H' : Heap} {log : List Nat} (h : CJoin args H (v, H', log)) : SCall Tryz.prog 21 args H v H' log := by
  rcases h with ⟨rfl, e⟩ | ⟨k, n, xs, rfl, hk, rfl, hx, hj, e⟩
  · cases e
    refine ⟨fun N M w args' hr hl => ?_, fun hlen => ⟨hlen, Nat.le_refl _, fun k _ _ => rfl⟩⟩
    have e : args'.toList = [.slice none 0 0, .string sp] := hl.eq_of_flat rfl
    have e2 : args' = #[.slice none 0 0, .string sp] := by cases args'; simp_all
    rw [e2]
    refine (Tryz.strings_Join_none none 0 sp w).mono ?_
    rintro e w' ⟨rfl, rfl⟩
    exact ⟨M, _, rfl, Dg.vrel_of_flat _ _ rfl, .refl hr⟩
  · cases e
    refine ⟨fun N M w args' hr hl => ?_, fun hlen => ⟨hlen, Nat.le_refl _, fun k _ _ => rfl⟩⟩
    obtain ⟨b, o, sp', h1, h2⟩ := hr.obj k (by rw [hk]; rfl)
    have hb : b < w.heap.size := h2.lt (by rw [hk]; rfl)
    have e2 : args' = #[.slice (some ⟨b, o, none⟩) xs.length xs.length, .string sp] := by
      obtain ⟨l⟩ := args'
      obtain ⟨hl1, hl2⟩ := hl
      match l, hl1 with
      | [a, c], _ =>
        have q1 := hl2 0 _ _ rfl rfl
        have q2 := hl2 1 _ _ rfl rfl
        have q3 := q2.eq_of_flat rfl
        rw [q3]
        cases q1 with
        | atom h => cases h
        | slx h => rw [h1] at h; cases h; rfl
    rw [hk] at h2
    obtain ⟨C, fz, k1, _, k3, _⟩ := h2
    rw [e2]
    refine (Tryz.strings_Join b o xs.length xs sp w (fun j x hjx => ?_) hb hx (Nat.le_refl _) ?_).mono ?_
    · obtain ⟨v', u1, u2⟩ := k3 j (.string x) (by rw [List.getElem?_map, hjx]; rfl)
      have := u2.eq_of_flat rfl
      subst this
      simp [World.cell?, k1, u1]
    · simpa [joined, ByteArray.size, sp] using hj
    · rintro e w' ⟨rfl, hbl⟩
      exact ⟨M, _, rfl, Dg.vrel_of_flat _ _ rfl, .of_below hr hbl⟩
def CCnt : Law := fun args H r => ∃ s : ByteArray, args = [.string s, .string sp] ∧ r = (.int .i64 (Lib.countB s sp), H, [])
theorem CCnt_uniq : ∀ args H r r', CCnt args H r → CCnt args H r' → r = r' := by
  rintro args H r r' ⟨n, h, rfl⟩ ⟨m, h', rfl⟩
  rw [h] at h'
  injection h' with h1
  injection h1 with h2
  rw [h2]
theorem cnt_calls (s : ByteArray) (w : World) : Calls Tryz.prog 22 #[.string s, .string sp] w fun e w' => e = .returned (.int .i64 (Lib.countB s sp)) ∧ RowKit.Below w.heap.size w w' :=
  (Tryz.strings_Count_one s 32 w).mono fun e w' ⟨he, hw⟩ => ⟨by
    rw [he]
    show _ = Ending.returned (Value.int .i64 ((Lib.count s.data.toList [32] : Nat) : Int))
    rw [Lib.count_one]
    rfl, hw ▸ RowKit.Below.refl _ _⟩

/-! ### Bytes of a text: where nothing is laid a dead object is. -/
theorem dead_push {P : Program} {f : FuncId} {args : List Value} {H : Heap} {v : Value} (h : SCall P f args H v H []) : SCall P f args H v (H.push .dead) [] := by
  refine ⟨fun N M w args' hr hl => (h.1 N M w args' hr hl).mono ?_, fun hlen => ⟨by simp [Heap.push, hlen], by simp [Heap.push], fun k hk _ => Dg.Heap.get_push_old _ _ _ hk⟩⟩
  rintro e w' ⟨M', v', rfl, hv, st⟩
  have hd : ∀ k, ((H.push .dead).get k).live = true → (H.get k).live = true ∧ (H.push .dead).get k = H.get k := by
    intro k hk
    have := Dg.Heap.lt_of_live hk
    rcases Nat.lt_or_ge k H.n with h1 | h1
    · rw [Dg.Heap.get_push_old _ _ _ h1] at hk ⊢; exact ⟨hk, rfl⟩
    · have e : k = H.n := by have : k < H.n + 1 := this; omega
      rw [e, Dg.Heap.get_push_new] at hk; cases hk
  refine ⟨M', v', rfl, hv, ⟨⟨st.le, ⟨?_, ?_, ?_, ?_, st.rel.base⟩, st.size, st.os, st.tape, st.output, ?_, ?_, st.frame⟩, st.nodead⟩⟩
  · simp [Heap.push, st.rel.len]
  · intro k x hx; have := st.rel.dom k x hx; show k < H.n + 1; omega
  · intro k hk
    obtain ⟨h1, h2⟩ := hd k hk
    rw [h2]; exact st.rel.obj k h1
  · intro k k' b o sp b' o' sp' hne ho hl
    obtain ⟨h1, h2⟩ := hd k (Dg.AObj.live_of_owned ho)
    obtain ⟨h3, h4⟩ := hd k' hl
    rw [h2] at ho
    exact st.rel.apart k k' b o sp b' o' sp' hne ho h3
  · show H.n ≤ H.n + 1; omega
  · intro k b o sp ho hm
    obtain ⟨h1, h2⟩ := hd k (Dg.AObj.live_of_owned ho)
    rw [h2] at ho
    exact st.own k b o sp ho hm
open Classical in
noncomputable def unD (H : Heap) (zs : List Int) : Value × Heap × List Nat :=
  if text.Good zs then (if zs = [] then (.tuple #[.slice none 0 0, .bool true], H.push .dead, []) else (.tuple #[.slice (some ⟨H.n, 0, some 0⟩) (zs.length / 2) (zs.length / 2), .bool true], H.push (rowU (outL zs (zs.length / 2))), [])) else (.tuple #[.slice none 0 0, .bool false], H.push .dead, [])
def C8d : Law := fun args H r => ∃ zs, args = [.string (text.txt zs)] ∧ zs.length ≤ 2000 ∧ Byt zs ∧ r = unD H zs
theorem C8d_uniq : ∀ args H r r', C8d args H r → C8d args H r' → r = r' := by
  rintro args H r r' ⟨zs, h1, h2, h3, h4⟩ ⟨zs', g1, g2, g3, g4⟩
  rw [h1] at g1
  simp only [List.cons.injEq, Value.string.injEq, and_true] at g1
  obtain rfl := text.txt_inj (text.byt_mem h3) (text.byt_mem g3) g1
  rw [h4, g4]
theorem un_ok {args : List Value} {H : Heap} {v : Value} {H' : Heap} {log : List Nat} (h : C8d args H (v, H', log)) : SCall Tryz.prog 17 args H v H' log := by
  obtain ⟨zs, rfl, h1, h2, h3⟩ := h
  have hc : ∀ v' h' l', unV H zs = (v', h', l') → SCall Tryz.prog 17 [.string (text.txt zs)] H v' h' l' := fun v' h' l' hu => text.s8 ⟨zs, rfl, h1, h2, hu.symm⟩
  unfold unD at h3
  unfold unV at hc
  by_cases hg : text.Good zs
  · rw [if_pos hg] at h3 hc
    by_cases he : zs = []
    · rw [if_pos he] at h3 hc
      cases h3
      exact dead_push (hc _ _ _ rfl)
    · rw [if_neg he] at h3 hc
      cases h3
      exact hc _ _ _ rfl
  · rw [if_neg hg] at h3 hc
    cases h3
    exact dead_push (hc _ _ _ rfl)

/-! ### The oracle. -/
noncomputable def ovB : Ev := fun f args H => match f with
  | 5 => evCall Tryz.prog 10 (bodied Tryz.prog) noOver text.sbs 1000 20 5 args H
  | 6 => ofLaw CDecW args H
  | 10 => ofLaw CUndW args H
  | 13 => ofLaw CUnd args H
  | 14 => ofLaw CDec args H
  | 15 => ofLaw CUnu args H
  | 16 => ofLaw CUns args H
  | 17 => ofLaw C8d args H
  | 18 => ofLaw C6 args H
  | 21 => ofLaw CJoin args H
  | 22 => ofLaw CCnt args H
  | 71 => ofLaw CSpl args H
  | _ => none
theorem log_keep {H : Heap} : H.objs.length = H.n → H.objs.length = H.n ∧ H.n ≤ H.n ∧ ∀ k, k < H.n → k ∉ ([] : List Nat) → H.get k = H.get k := fun hlen => ⟨hlen, Nat.le_refl _, fun k _ _ => rfl⟩
theorem ovB_ok : Dg.CallOk Tryz.prog 10 ovB ∧ Dg.CallLog ovB := by
  have hk := Dg.evCall_ok (G := 10) mixed okB (Dg.CallOk.anyG (Dg.noOver_ok (P := Tryz.prog) (G := 0)).1) (Dg.noOver_ok (P := Tryz.prog) (G := 0)).2 text.sbs 1000 20
  constructor
  · intro f args H v H' log he hY N M w args' hg hr hl
    have hl' : Dg.LRel M args args'.toList := hl
    unfold ovB at he
    split at he
    · exact hk.1 5 args H v H' log he hY N M w args' hg hr hl
    · obtain ⟨n, rfl, h0, ht, e⟩ := Dg.ofLaw_inv he
      cases e
      exact keep_of hr rfl rfl hl' (tab_calls ovD_ok (fun e => by rw [dw_all e h0]; rfl) rfl rfl rfl hg hr ht)
    · obtain ⟨s, rfl, ht, e⟩ := Dg.ofLaw_inv he
      cases e
      exact keep_of hr rfl rfl hl' (und_calls s hg hr ht)
    · obtain ⟨s, rfl, h0, ht, ⟨h3, h4⟩, e⟩ := Dg.ofLaw_inv he
      cases e
      obtain ⟨t3, p3, c3⟩ := err_of hg hr (by decide) h3
      obtain ⟨t4, p4, c4⟩ := err_of hg hr (by decide) h4
      exact keep_of hr rfl rfl hl' (undec_calls s h0 w (tab_of hg hr ht) t3 t4 p3 p4 c3 c4)
    · obtain ⟨n, rfl, h0, h1, ht, e⟩ := Dg.ofLaw_inv he
      cases e
      exact keep_of hr rfl rfl hl' (dec_calls n h0 h1 w (tab_of hg hr ht))
    · obtain ⟨s, rfl, h0, ht, ⟨h3, h4⟩, e⟩ := Dg.ofLaw_inv he
      cases e
      obtain ⟨t3, p3, c3⟩ := err_of hg hr (by decide) h3
      obtain ⟨t4, p4, c4⟩ := err_of hg hr (by decide) h4
      exact keep_of hr rfl rfl hl' (ununs_calls s h0 w (tab_of hg hr ht) t3 t4 p3 p4 c3 c4)
    · obtain ⟨n, rfl, h0, ht, e⟩ := Dg.ofLaw_inv he
      cases e
      exact keep_of hr rfl rfl hl' (uns_calls n h0 w (tab_of hg hr ht))
    · exact (un_ok (Dg.ofLaw_inv he)).1 N M w args' hr hl
    · exact (text.s6 (Dg.ofLaw_inv he)).1 N M w args' hr hl
    · exact (join_ok (Dg.ofLaw_inv he)).1 N M w args' hr hl
    · obtain ⟨s, rfl, e⟩ := Dg.ofLaw_inv he
      cases e
      exact keep_of hr rfl rfl hl' (cnt_calls s w)
    · exact (spl_ok (Dg.ofLaw_inv he)).1 N M w args' hr hl
    · cases he
  · intro f args H v H' log he
    unfold ovB at he
    split at he
    · exact hk.2.2 5 args H v H' log he
    · obtain ⟨n, rfl, h0, ht, e⟩ := Dg.ofLaw_inv he
      cases e
      exact log_keep
    · obtain ⟨s, rfl, ht, e⟩ := Dg.ofLaw_inv he
      cases e
      exact log_keep
    · obtain ⟨s, rfl, h0, ht, _, e⟩ := Dg.ofLaw_inv he
      cases e
      exact log_keep
    · obtain ⟨n, rfl, h0, h1, ht, e⟩ := Dg.ofLaw_inv he
      cases e
      exact log_keep
    · obtain ⟨s, rfl, h0, ht, _, e⟩ := Dg.ofLaw_inv he
      cases e
      exact log_keep
    · obtain ⟨n, rfl, h0, ht, e⟩ := Dg.ofLaw_inv he
      cases e
      exact log_keep
    · exact (un_ok (Dg.ofLaw_inv he)).2
    · exact (text.s6 (Dg.ofLaw_inv he)).2
    · exact (join_ok (Dg.ofLaw_inv he)).2
    · obtain ⟨s, rfl, e⟩ := Dg.ofLaw_inv he
      cases e
      exact log_keep
    · exact (spl_ok (Dg.ofLaw_inv he)).2
    · cases he
end Go.Proofs.YtflgpkkbifkpoaaGreatDoor.num
