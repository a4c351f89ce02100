/- Which texts chapter 06's Parse takes: plain Lean over lists of bytes; what the reference's Parse makes of them. What strings.Split, TrimPrefix, Cut and text.Undec make of a text that chapter 06's Parse takes: plain Lean. fault.New. fault.Parse: the walk. fault.Parse: what it refuses ahead of its loop. fault.Parse: its loop, and what it takes. What fault.Parse takes, and what it refuses. -/
import Derived.Test.YtpgddboigegplaaGreatDoorRows
import Derived.Test.YtpgddboigegplaaGreatDoorFS
import Derived.Test.YtpgddboigegplaaGreatDoorFU
import Derived.Test.YtpgddboigegplaaGreatDoorFO
import Derived.Lib.Split
import Derived.Test.YtpgddboigegplaaGreatDoorFcD
import Derived.Deep.LoopGhost
import Derived.Handy
namespace Go.Proofs.YtpgddboigegplaaGreatDoor.base
open Go.Dg (Heap AObj)
set_option linter.unusedVariables false

def csL : List UInt8 := [58, 32]
/-- Words, each with ": " behind it, ahead of a text. -/
def joinT : List (List UInt8) → List UInt8 → List UInt8
  | [], t => t
  | w :: ws, t => w ++ (58 :: 32 :: joinT ws t)
/-- A word as a note has it. -/
def IsW (w : List UInt8) : Prop := wordOf (bs w) = bs w
/-- What a text is parsed as. -/
def Dec (x : List UInt8) (ws : List (List UInt8)) (k o : Int) : Prop := (∀ w ∈ ws, IsW w) ∧ IsKind (kindT k o) k o ∧ x = joinT ws (kindT k o) ∧ x.length ≤ 400 ∧ ws.length ≤ 8
theorem bs_inj {u w : List UInt8} (h : bs u = bs w) : u = w := by
  have := congrArg (fun b : ByteArray => b.data.toList) h
  simpa [bs] using this
theorem bs_data (l : List UInt8) : (bs l).data.toList = l := by simp [bs]
def No58 (l : List UInt8) : Prop := ∀ b ∈ l, b.toNat ≠ 58
theorem isW_no {w : List UInt8} (h : IsW w) : No58 w := by
  unfold IsW wordOf at h
  intro b hb e
  by_cases hm : mayL (bs w).data.toList = true
  · rw [bs_data] at hm
    unfold mayL at hm
    simp only [Bool.and_eq_true] at hm
    have := List.all_eq_true.1 hm.2.2 b hb
    rw [e] at this
    exact absurd this (by decide)
  · rw [if_neg hm] at h
    have : w = [63] := (bs_inj (show bs [63] = bs w from h)).symm
    rw [this] at hb
    rw [List.mem_singleton] at hb
    rw [hb] at e
    exact absurd e (by decide)
theorem word_idem (s : ByteArray) : wordOf (wordOf s) = wordOf s := by
  by_cases h : mayL s.data.toList = true
  · have e : wordOf s = s := if_pos h
    rw [e, e]
  · have e : wordOf s = qm := if_neg h
    rw [e]
    have h2 : ¬ mayL qm.data.toList = true := by decide
    exact if_neg h2
theorem digit_no (n : Nat) : ∀ c ∈ Lib.decDigits n, 48 ≤ c.toNat ∧ c.toNat ≤ 57 := (Go.Proofs.YtpgddboigegplaaGreatDoor.num.dec_val n).2.1
theorem itoa_no (k : Int) : ∀ c ∈ Lib.itoa k, c.toNat ≠ 58 ∧ c.toNat ≠ 32 := by
  intro c hc
  unfold Lib.itoa at hc
  split at hc
  · rcases List.mem_cons.1 hc with rfl | hc
    · decide
    · have := digit_no _ c hc; omega
  · have := digit_no _ c hc; omega
theorem kind_no (k o : Int) : No58 (kindT k o) := by
  intro b hb
  have h1 : ∀ b ∈ kL, b.toNat ≠ 58 := by decide
  have h2 : ∀ b ∈ aL, b.toNat ≠ 58 := by decide
  unfold kindT at hb
  rcases List.mem_append.1 hb with hb | hb
  · exact h1 b hb
  rcases List.mem_append.1 hb with hb | hb
  · exact (itoa_no k b hb).1
  rcases List.mem_append.1 hb with hb | hb
  · exact h2 b hb
  · exact (itoa_no o b hb).1

/-! ### The reference's scan. -/
theorem colon_app {w r : List UInt8} (h : No58 w) : colon (w ++ 58 :: r) = w.length := by
  unfold colon
  rw [List.findIdx_append]
  have h1 : w.findIdx (fun b => Nat.beq b.toNat 58) = w.length := by
    refine List.findIdx_eq_length.2 fun x hx => ?_
    cases hb : Nat.beq x.toNat 58 with
    | false => rfl
    | true => exact absurd (Nat.eq_of_beq_eq_true hb) (h x hx)
  rw [h1, if_neg (Nat.lt_irrefl _)]
  simp [List.findIdx_cons]
theorem colon_none {l : List UInt8} (h : No58 l) : colon l = l.length := by
  unfold colon
  refine List.findIdx_eq_length.2 fun x hx => ?_
  cases hb : Nat.beq x.toNat 58 with
  | false => rfl
  | true => exact absurd (Nat.eq_of_beq_eq_true hb) (h x hx)
theorem scan_join (t : List UInt8) (ht : No58 t) : ∀ (n : Nat) (ws : List (List UInt8)), ws.length < n → (∀ w ∈ ws, IsW w) → scan n (joinT ws t) = (ws, t) := by
  intro n
  induction n with
  | zero => intro ws h; omega
  | succ n ih =>
    intro ws hn hw
    cases ws with
    | nil =>
      have hf : takes (joinT [] t) = false := by
        show takes t = false
        unfold takes
        rw [colon_none ht, List.getElem?_eq_none (by omega)]
      unfold scan
      rw [hf]
      rfl
    | cons w ws =>
      have h0 := hw w (List.mem_cons_self ..)
      have hc : colon (joinT (w :: ws) t) = w.length := colon_app (isW_no h0)
      have ht0 : (joinT (w :: ws) t).take w.length = w := by
        show (w ++ _).take _ = w
        exact List.take_left
      have hd0 : (joinT (w :: ws) t).drop (w.length + 2) = joinT ws t := by
        show (w ++ (58 :: 32 :: joinT ws t)).drop (w.length + 2) = _
        rw [← List.drop_drop, List.drop_left]; rfl
      have hg : (joinT (w :: ws) t)[w.length + 1]? = some 32 := by
        show (w ++ (58 :: 32 :: joinT ws t))[w.length + 1]? = _
        rw [List.getElem?_append_right (by omega)]
        simp
      have htk : takes (joinT (w :: ws) t) = true := by
        unfold takes
        rw [hc, hg, ht0]
        simp only [Bool.and_eq_true, decide_eq_true_eq]
        exact ⟨rfl, h0⟩
      unfold scan
      rw [if_pos htk, hc, ht0, hd0, ih ws (by rw [List.length_cons] at hn; omega) (fun w hw' => hw w (List.mem_cons_of_mem _ hw'))]
theorem scan_inv : ∀ (n : Nat) (l : List UInt8), (∀ w ∈ (scan n l).1, IsW w) ∧ l = joinT (scan n l).1 (scan n l).2 := by
  intro n
  induction n with
  | zero => exact fun l => ⟨(fun w h => by cases h), rfl⟩
  | succ n ih =>
    intro l
    unfold scan
    by_cases ht : takes l = true
    · rw [if_pos ht]
      obtain ⟨h1, h32, hw⟩ := takes_t ht
      obtain ⟨i1, i2⟩ := ih (l.drop (colon l + 2))
      refine ⟨fun w hw' => ?_, ?_⟩
      · rcases List.mem_cons.1 hw' with rfl | h
        · exact hw
        · exact i1 w h
      · show l = l.take (colon l) ++ (58 :: 32 :: joinT _ _)
        rw [← i2]
        have hc := colon_at (l := l) (by omega)
        have e1 : l[colon l]'(by omega) = 58 := UInt8.toNat_inj.1 hc
        have e2 : l[colon l + 1] = 32 := UInt8.toNat_inj.1 h32
        have a1 : l.drop (colon l) = l[colon l]'(by omega) :: l[colon l + 1] :: l.drop (colon l + 2) := by
          rw [List.drop_eq_getElem_cons (show colon l < l.length by omega), List.drop_eq_getElem_cons h1]
        rw [e1, e2] at a1
        rw [← a1, List.take_append_drop]
    · rw [if_neg ht]
      exact ⟨(fun w h => by cases h), rfl⟩
theorem kind_inj {k o k' o' : Int} (hk : InI k) (ho : InI o) (hk' : InI k') (ho' : InI o') (hl : (kindT k o).length ≤ 1000) (h : kindT k o = kindT k' o') : k = k' ∧ o = o' := by
  obtain ⟨a1, a2, a3, a4, a5, a6⟩ := kind_reads 1000 (by decide) hk ho hl
  obtain ⟨b1, b2, b3, b4, b5, b6⟩ := kind_reads 1000 (by decide) hk' ho' (by rw [← h]; exact hl)
  rw [← h] at b3 b6
  obtain ⟨e1, e2⟩ := rdS_inj (show rdS k _ = rdS k' _ from a3.symm.trans b3)
  have e3 : (Lib.itoa k).length = (Lib.itoa k').length := by omega
  rw [← e3] at b6
  obtain ⟨e4, e5⟩ := rdS_inj (show rdS o _ = rdS o' _ from a6.symm.trans b6)
  exact ⟨e1, e4⟩
theorem ref_dec (x : List UInt8) (ws : List (List UInt8)) (k o : Int) (h : Dec x ws k o) : evF 2000 x = taken ws k o := by
  obtain ⟨hw, ⟨hk, hk0, ho, _⟩, hx, h400, h8⟩ := h
  have hs : scan (x.length + 1) x = (ws, kindT k o) := by
    conv => lhs; rw [hx]
    refine scan_join _ (kind_no k o) _ ws ?_ hw
    have : ws.length ≤ (joinT ws (kindT k o)).length := by
      clear hx hw h8
      induction ws with
      | nil => simp
      | cons w ws ih => simp only [joinT, List.length_cons, List.length_append]; omega
    omega
  have hl : (kindT k o).length ≤ 1000 := by
    have := scan_len (x.length + 1) x
    rw [hs] at this
    simp only at this
    omega
  rcases ref_spec 2000 (by decide) x (by omega) with ⟨k', o', h1, _, _, h2⟩ | ⟨h1, _⟩
  · rw [hs] at h1 h2
    obtain ⟨hk', _, ho', e⟩ := h1
    obtain ⟨rfl, rfl⟩ := kind_inj hk ho hk' ho' hl e
    exact h2
  · exact absurd ⟨⟨hk, hk0, ho, by rw [hs]⟩, h400, by rw [hs]; exact h8⟩ (h1 k o)
theorem ref_not (x : List UInt8) (hx : x.length ≤ 1000) (h : ∀ ws k o, ¬ Dec x ws k o) : evF 2000 x = refusal := by
  rcases ref_spec 2000 (by decide) x hx with ⟨k, o, h1, h2, h3, _⟩ | ⟨_, h1⟩
  · obtain ⟨i1, i2⟩ := scan_inv (x.length + 1) x
    obtain ⟨hk, hk0, ho, e⟩ := h1
    rw [e] at i2
    exact absurd ⟨i1, ⟨hk, hk0, ho, rfl⟩, i2, h2, h3⟩ (h _ k o)
  · exact h1
end Go.Proofs.YtpgddboigegplaaGreatDoor.base

namespace Go.Proofs.YtpgddboigegplaaGreatDoor.base
set_option linter.unusedVariables false

def pcs (s : ByteArray) : List ByteArray := Lib.splitB csS 0 (Lib.countB s csS) s
def cutOf (s : ByteArray) : List UInt8 × List UInt8 × Bool := Lib.cut s.data.toList aL
def trimK (s : ByteArray) : ByteArray := ⟨(Lib.trimPrefix s.data.toList kL).toArray⟩
theorem index_none {l : List UInt8} (h : No58 l) : Lib.index l csL = -1 := by
  induction l with
  | nil => rfl
  | cons b l ih =>
    have hb := h b (List.mem_cons_self ..)
    have hi := ih fun c hc => h c (List.mem_cons_of_mem _ hc)
    have hp : csL.isPrefixOf (b :: l) = false := by
      show ((58 : UInt8) == b && _) = false
      have : ((58 : UInt8) == b) = false := by
        cases he : ((58 : UInt8) == b) with
        | false => rfl
        | true => exact absurd (congrArg UInt8.toNat (eq_of_beq he)).symm hb
      rw [this]; rfl
    unfold Lib.index
    rw [hp, hi]
    rfl
theorem index_app {w r : List UInt8} (h : No58 w) : Lib.index (w ++ (58 :: 32 :: r)) csL = (w.length : Int) := by
  induction w with
  | nil =>
    show Lib.index (58 :: 32 :: r) csL = 0
    unfold Lib.index
    rfl
  | cons b w ih =>
    have hb := h b (List.mem_cons_self ..)
    have hi := ih fun c hc => h c (List.mem_cons_of_mem _ hc)
    have hp : csL.isPrefixOf (b :: (w ++ (58 :: 32 :: r))) = false := by
      show ((58 : UInt8) == b && _) = false
      have : ((58 : UInt8) == b) = false := by
        cases he : ((58 : UInt8) == b) with
        | false => rfl
        | true => exact absurd (congrArg UInt8.toNat (eq_of_beq he)).symm hb
      rw [this]; rfl
    show Lib.index (b :: (w ++ (58 :: 32 :: r))) csL = _
    unfold Lib.index
    rw [hp, hi]
    have : ((w.length : Int) == -1) = false := by simp
    simp [this]
theorem splitK_join {t : List UInt8} (ht : No58 t) : ∀ (ws : List (List UInt8)) (K : Nat), ws.length ≤ K → (∀ w ∈ ws, No58 w) → Lib.splitK csL 0 K (joinT ws t) = ws ++ [t] := by
  intro ws
  induction ws with
  | nil =>
    intro K _ _
    cases K with
    | zero => rfl
    | succ K =>
      show Lib.splitK csL 0 (K + 1) t = [t]
      unfold Lib.splitK
      rw [index_none ht]; rfl
  | cons w ws ih =>
    intro K hK hw
    obtain ⟨K, rfl⟩ : ∃ m, K = m + 1 := ⟨K - 1, by rw [List.length_cons] at hK; omega⟩
    show Lib.splitK csL 0 (K + 1) (w ++ (58 :: 32 :: joinT ws t)) = _
    unfold Lib.splitK
    rw [index_app (hw w (List.mem_cons_self ..))]
    have h1 : ((w.length : Int) == -1) = false := by simp
    have h2 : (w ++ (58 :: 32 :: joinT ws t)).drop (w.length + 2) = joinT ws t := by rw [← List.drop_drop, List.drop_left]; rfl
    simp only [h1, Bool.false_eq_true, if_false, Int.toNat_natCast, Nat.add_zero, List.take_left]
    rw [show csL.length = 2 from rfl, h2, ih K (by rw [List.length_cons] at hK; omega) (fun w hw' => hw w (List.mem_cons_of_mem _ hw'))]
    rfl
theorem count_join {t : List UInt8} (ht : No58 t) : ∀ (ws : List (List UInt8)) (n : Nat), ws.length < n → (∀ w ∈ ws, No58 w) → Lib.countFrom csL n (joinT ws t) = ws.length := by
  intro ws
  induction ws with
  | nil =>
    intro n hn _
    obtain ⟨n, rfl⟩ : ∃ m, n = m + 1 := ⟨n - 1, by simp at hn; omega⟩
    show Lib.countFrom csL (n + 1) t = 0
    unfold Lib.countFrom
    rw [index_none ht]; rfl
  | cons w ws ih =>
    intro n hn hw
    obtain ⟨n, rfl⟩ : ∃ m, n = m + 1 := ⟨n - 1, by omega⟩
    show Lib.countFrom csL (n + 1) (w ++ (58 :: 32 :: joinT ws t)) = _
    unfold Lib.countFrom
    rw [index_app (hw w (List.mem_cons_self ..))]
    have h1 : ((w.length : Int) == -1) = false := by simp
    have h2 : (w ++ (58 :: 32 :: joinT ws t)).drop (w.length + 2) = joinT ws t := by rw [← List.drop_drop, List.drop_left]; rfl
    simp only [h1, Bool.false_eq_true, if_false, Int.toNat_natCast]
    rw [show csL.length = 2 from rfl, h2, ih n (by rw [List.length_cons] at hn; omega) (fun w hw' => hw w (List.mem_cons_of_mem _ hw')), List.length_cons]
    omega
theorem join_len (t : List UInt8) : ∀ ws : List (List UInt8), ws.length ≤ (joinT ws t).length := by
  intro ws
  induction ws with
  | nil => simp
  | cons w ws ih => simp only [joinT, List.length_cons, List.length_append]; omega
theorem pcs_join {t : List UInt8} (ht : No58 t) (ws : List (List UInt8)) (hw : ∀ w ∈ ws, No58 w) : pcs (bs (joinT ws t)) = ws.map bs ++ [bs t] := by
  have h1 : (pcs (bs (joinT ws t))).map (·.data.toList) = ws ++ [t] := by
    unfold pcs
    rw [Lib.splitB_data]
    have hc : Lib.countB (bs (joinT ws t)) csS = ws.length := by
      show Lib.count (bs (joinT ws t)).data.toList csL = _
      rw [bs_data]
      exact count_join ht ws _ (by have := join_len t ws; omega) hw
    rw [hc, bs_data]
    exact splitK_join ht ws _ (Nat.le_refl _) hw
  have h2 := congrArg (List.map bs) h1
  rw [List.map_map] at h2
  have h3 : (bs ∘ fun x : ByteArray => x.data.toList) = id := funext fun x => bs_of x
  rw [h3, List.map_id] at h2
  rw [h2, List.map_append]
  rfl
theorem pcs_ne (s : ByteArray) : ∃ ps last, pcs s = ps ++ [last] ∧ ps.length = Lib.countB s csS := by
  have h : (pcs s).length = Lib.countB s csS + 1 := Lib.splitB_all csS (by decide) 0 _ s rfl
  have hne : pcs s ≠ [] := by intro e; rw [e] at h; simp at h
  refine ⟨(pcs s).dropLast, (pcs s).getLast hne, (List.dropLast_concat_getLast hne).symm, ?_⟩
  rw [List.length_dropLast, h]; rfl
theorem index_sp {u r : List UInt8} (h : ∀ b ∈ u, b.toNat ≠ 32) : Lib.index (u ++ (aL ++ r)) aL = (u.length : Int) := by
  induction u with
  | nil =>
    show Lib.index (32 :: 97 :: 116 :: 32 :: r) aL = 0
    unfold Lib.index
    rfl
  | cons b u ih =>
    have hb := h b (List.mem_cons_self ..)
    have hi := ih fun c hc => h c (List.mem_cons_of_mem _ hc)
    have hp : aL.isPrefixOf (b :: (u ++ (aL ++ r))) = false := by
      show ((32 : UInt8) == b && _) = false
      have : ((32 : UInt8) == b) = false := by
        cases he : ((32 : UInt8) == b) with
        | false => rfl
        | true => exact absurd (congrArg UInt8.toNat (eq_of_beq he)).symm hb
      rw [this]; rfl
    show Lib.index (b :: (u ++ (aL ++ r))) aL = _
    unfold Lib.index
    rw [hp, hi]
    have : ((u.length : Int) == -1) = false := by simp
    simp [this]
theorem trim_kind (k o : Int) : trimK (bs (kindT k o)) = bs (Lib.itoa k ++ (aL ++ Lib.itoa o)) := by
  unfold trimK
  rw [bs_data]
  have h : Lib.hasPrefix (kindT k o) kL = true := rfl
  unfold Lib.trimPrefix
  rw [if_pos h]
  rfl
theorem cut_kind (k o : Int) : cutOf (bs (Lib.itoa k ++ (aL ++ Lib.itoa o))) = (Lib.itoa k, Lib.itoa o, true) := by
  unfold cutOf Lib.cut
  rw [bs_data, index_sp fun b hb => (itoa_no k b hb).2, if_pos (by omega)]
  simp only [Int.toNat_natCast, List.take_left]
  rw [show aL.length = 4 from rfl, ← List.drop_drop, List.drop_left]
  rfl
theorem undec_itoa {k : Int} (hk : InI k) : undecV (bs (Lib.itoa k)) = (k, true) := by
  unfold undecV
  rw [bs_data, (Go.Proofs.YtpgddboigegplaaGreatDoor.num.undec_some).2 ⟨hk.1, hk.2, rfl⟩]
theorem undec_rng (s : ByteArray) : InI (undecV s).1 := by
  unfold undecV
  cases h : Go.Proofs.YtpgddboigegplaaGreatDoor.num.undec s.data.toList with
  | none => exact ⟨by decide, by decide⟩
  | some v => exact ⟨((Go.Proofs.YtpgddboigegplaaGreatDoor.num.undec_some).1 h).1, ((Go.Proofs.YtpgddboigegplaaGreatDoor.num.undec_some).1 h).2.1⟩
theorem txt_data (k o : Int) : ∀ ws : List ByteArray, (txtL k o (ws.map .note)).data.toList = joinT (ws.map (·.data.toList)) (kindT k o) := by
  intro ws
  induction ws with
  | nil =>
    show (tF (decV k) (decV o)).data.toList = kindT k o
    unfold tF kindT
    simp [decV, bs, ksS, atS, kL, aL]
  | cons w ws ih =>
    show (tN w (txtL k o (ws.map .note))).data.toList = _
    unfold tN
    simp only [ByteArray.data_append, Array.toList_append, ih]
    show _ = w.data.toList ++ (58 :: 32 :: joinT _ _)
    simp [csS]
/-- What is told is parsed as it was. -/
theorem dec_of_txt (x : List UInt8) (ps : List ByteArray) (k o : Int) (hk : InI k) (hk0 : k ≠ 0) (ho : InI o) (h400 : x.length ≤ 400) (h8 : ps.length ≤ 8) (h : txtL k o ((ps.map wordOf).map .note) = bs x) : Dec x ((ps.map wordOf).map (·.data.toList)) k o := by
  have h2 := congrArg (fun b : ByteArray => b.data.toList) h
  simp only [txt_data, bs_data] at h2
  refine ⟨fun w hw => ?_, ⟨hk, hk0, ho, rfl⟩, h2.symm, h400, by simpa using h8⟩
  rw [List.map_map] at hw
  obtain ⟨p, _, rfl⟩ := List.mem_map.1 hw
  show wordOf (bs (wordOf p).data.toList) = bs (wordOf p).data.toList
  rw [bs_of, word_idem]
theorem txt_of_dec {x : List UInt8} {ws : List (List UInt8)} {k o : Int} (h : Dec x ws k o) : txtL k o ((ws.map bs).map .note) = bs x := by
  have h2 := txt_data k o (ws.map bs)
  have h3 : ((fun x : ByteArray => x.data.toList) ∘ bs) = id := funext fun l => bs_data l
  have h4 : (ws.map bs).map (·.data.toList) = ws := by rw [List.map_map, h3, List.map_id]
  rw [h4, ← h.2.2.1] at h2
  rw [← bs_of (txtL k o ((ws.map bs).map .note)), h2]
end Go.Proofs.YtpgddboigegplaaGreatDoor.base

namespace Go.Proofs.YtpgddboigegplaaGreatDoor.base
open Go.RowKit Go.Extern.Stop Go.Stop Go.Extern
set_option linter.unusedVariables false

set_option maxRecDepth 1000000 in
theorem new_any (k o : Int) (hk : (k == 0) = false) (W : World) : Calls Tryz.prog 24 #[.int .i64 k, .int .i64 o] W fun e w' => e = .returned (.iface 70 (.pointer (some ⟨W.heap.size, 0, none⟩))) ∧ w' = W.alloc (.cells #[.int .i64 k, .int .i64 o] 73) := by
  go_enter Tryz.func24, Tryz.ntmps24
  go_wp2_with fail
  go_ret
  exact ⟨rfl, rfl⟩
end Go.Proofs.YtpgddboigegplaaGreatDoor.base

namespace Go.Proofs.YtpgddboigegplaaGreatDoor.base
open Go.RowKit Go.Extern.Stop Go.Stop Go.Extern
set_option linter.unusedVariables false

/-- What package strings and strconv read: the table of powers of ten, MaxLen, ErrSyntax, ErrRange. -/
def Pre (W : World) : Prop := Tab W ∧ (∃ m, W.cell? ⟨1, 0, none⟩ = some (.int .i64 m)) ∧ (∃ t p, W.cell? ⟨3, 0, none⟩ = some (.iface t p)) ∧ ∃ t p, W.cell? ⟨4, 0, none⟩ = some (.iface t p)
theorem Pre.up {w w' : World} (hb : Below w.heap.size w w') (h : Pre w) : Pre w' := by
  obtain ⟨h1, ⟨m, h2⟩, ⟨t, p, h3⟩, t', p', h4⟩ := h
  exact ⟨tab_below h1 hb, ⟨m, cell_up hb h2⟩, ⟨t, p, cell_up hb h3⟩, t', p', cell_up hb h4⟩
theorem piece_le : ∀ (K : Nat) (s p : ByteArray), p ∈ Lib.splitB csS 0 K s → p.size ≤ s.size := by
  intro K
  induction K with
  | zero =>
    intro s p h
    rw [Lib.splitB_zero, List.mem_singleton] at h
    rw [h]; exact Nat.le_refl _
  | succ K ih =>
    intro s p h
    unfold Lib.splitB at h
    split at h
    · rw [List.mem_singleton] at h
      rw [h]; exact Nat.le_refl _
    · rcases List.mem_cons.1 h with rfl | h
      · rw [ByteArray.size_extract]; omega
      · have := ih _ p h
        rw [ByteArray.size_extract] at this
        omega
theorem word_le (s : ByteArray) : (wordOf s).size ≤ s.size + 1 := by
  unfold wordOf
  split
  · omega
  · show qm.size ≤ _
    have : qm.size = 1 := rfl
    omega
theorem split_any (x : ByteArray) (hx : x.size ≤ 1000) (W : World) (hP : Pre W) (L : Nat) (hL : L = Lib.countB x csS + 1) : Calls Tryz.prog 36 #[.string x, .string ⟨#[58, 32]⟩] W fun e w' => e = .returned (.slice (some ⟨W.heap.size, 0, none⟩) L L) ∧ w' = W.alloc (.cells ((pcs x).map Value.string).toArray 9) := by
  obtain ⟨_, ⟨m, hm⟩, _⟩ := hP
  rw [hL]
  exact Tryz.strings_Split x csS m W (by omega) hm (by decide)
theorem trim_any (s : ByteArray) (W : World) : Calls Tryz.prog 38 #[.string s, .string ⟨#[107, 105, 110, 100, 32]⟩] W fun e w' => e = .returned (.string (trimK s)) ∧ w' = W := Tryz.strings_TrimPrefix s ksS W
theorem cut_any (s : ByteArray) (hs : s.size ≤ 1000) (W : World) (hP : Pre W) : Calls Tryz.prog 37 #[.string s, .string ⟨#[32, 97, 116, 32]⟩] W fun e w' => e = .returned (.tuple #[.string (bs (cutOf s).1), .string (bs (cutOf s).2.1), .bool (cutOf s).2.2]) ∧ Below W.heap.size W w' := by
  obtain ⟨_, ⟨m, hm⟩, _⟩ := hP
  refine (Tryz.strings_Cut s atS m W (by omega) hm).mono ?_
  rintro e w' ⟨he, n, rfl⟩
  exact ⟨he, ⟨rfl, rfl, rfl, Nat.le_refl _, fun _ _ => rfl⟩⟩
theorem undec_any (s : ByteArray) (hs : s.size ≤ 1000) (W : World) (hP : Pre W) : Calls Tryz.prog 39 #[.string s] W fun e w' => e = .returned (.tuple #[.int .i64 (undecV s).1, .bool (undecV s).2]) ∧ Below W.heap.size W w' := by
  obtain ⟨h1, _, ⟨t, p, h3⟩, t', p', h4⟩ := hP
  exact undec_calls s (by omega) W h1 t t' p p' h3 h4
theorem trim_le (s : ByteArray) : (trimK s).size ≤ s.size := by
  have hs : s.size = s.data.toList.length := Lib.size_eq s
  have h : ∀ l : List UInt8, (⟨l.toArray⟩ : ByteArray).size = l.length := fun l => by simp [Lib.size_eq]
  unfold trimK Lib.trimPrefix
  rw [h, hs]
  split
  · rw [List.length_drop]; omega
  · exact Nat.le_refl _
theorem cut_le (s : ByteArray) : (bs (cutOf s).1).size ≤ s.size ∧ (bs (cutOf s).2.1).size ≤ s.size := by
  have hs : s.size = s.data.toList.length := Lib.size_eq s
  have h : ∀ l : List UInt8, (bs l).size = l.length := fun l => by simp [Lib.size_eq, bs]
  rw [h, h, hs]
  unfold cutOf Lib.cut
  split
  · constructor
    · simp only [List.length_take]; omega
    · simp only [List.length_drop]; omega
  · exact ⟨Nat.le_refl _, Nat.zero_le _⟩
theorem count_le (sub : List UInt8) : ∀ (n : Nat) (s : List UInt8), Lib.countFrom sub n s ≤ n := by
  intro n
  induction n with
  | zero => intro s; exact Nat.le_refl _
  | succ n ih =>
    intro s
    unfold Lib.countFrom
    split
    · omega
    · have := ih (s.drop ((Lib.index s sub).toNat + sub.length)); omega
theorem countB_le (x : ByteArray) : Lib.countB x csS ≤ x.size + 1 := by
  have hs : x.size = x.data.toList.length := Lib.size_eq x
  rw [hs]
  exact count_le _ _ _
/-- A row of texts. -/
def TextsAt (W : World) (B : Nat) (xs : List ByteArray) : Prop := ∀ i (h : i < xs.length), W.cell? ⟨B, i, none⟩ = some (.string xs[i])
theorem texts_new (W : World) (xs : List ByteArray) (t : TypeId) : TextsAt (W.alloc (.cells (xs.map Value.string).toArray t)) W.heap.size xs := by
  intro i h
  have hn := heap_alloc_new W (.cells (xs.map Value.string).toArray t)
  unfold World.cell?
  simp only [hn]
  simp [h]
theorem TextsAt.up {w w' : World} (hb : Below w.heap.size w w') {B : Nat} {xs : List ByteArray} (h : TextsAt w B xs) : TextsAt w' B xs := fun i hi => cell_up hb (h i hi)
end Go.Proofs.YtpgddboigegplaaGreatDoor.base

namespace Go.Proofs.YtpgddboigegplaaGreatDoor.base
open Go.RowKit Go.Extern.Stop Go.Stop Go.Extern
set_option linter.unusedVariables false

/-- What Parse's callees come to at one text. -/
structure PCalls (W : World) (x last c1 c2 : ByteArray) (cb one two : Bool) (n a : Int) (c : Nat) (ps : List ByteArray) : Prop where
  size : x.size ≤ 1000
  pre : Pre W
  pieces : pcs x = ps ++ [last]
  count : ps.length = Lib.countB x csS
  len : ps.length = c
  cut : ∃ q, (∀ w, Calls Tryz.prog 38 #[.string last, .string ⟨#[107, 105, 110, 100, 32]⟩] w fun e w' => e = .returned (.string q) ∧ w' = w) ∧
    ∀ w, Pre w → Calls Tryz.prog 37 #[.string q, .string ⟨#[32, 97, 116, 32]⟩] w fun e w' => e = .returned (.tuple #[.string c1, .string c2, .bool cb]) ∧ Below w.heap.size w w'
  un1 : ∀ w, Pre w → Calls Tryz.prog 39 #[.string c1] w fun e w' => e = .returned (.tuple #[.int .i64 n, .bool one]) ∧ Below w.heap.size w w'
  un2 : ∀ w, Pre w → Calls Tryz.prog 39 #[.string c2] w fun e w' => e = .returned (.tuple #[.int .i64 a, .bool two]) ∧ Below w.heap.size w w'
/-- The pieces' row. -/
theorem PCalls.row {W : World} {x last c1 c2 : ByteArray} {cb one two : Bool} {n a : Int} {c : Nat} {ps : List ByteArray} (h : PCalls W x last c1 c2 cb one two n a c ps) :
    ∃ W1, Below W.heap.size W W1 ∧ TextsAt W1 W.heap.size (ps ++ [last]) ∧ W1.cell? ⟨W.heap.size, c, none⟩ = some (.string last) ∧
      Calls Tryz.prog 36 #[.string x, .string ⟨#[58, 32]⟩] W fun e w' => e = .returned (.slice (some ⟨W.heap.size, 0, none⟩) (c + 1) (c + 1)) ∧ w' = W1 := by
  have hS := split_any x h.size W h.pre (c + 1) (by have := h.count; have := h.len; omega)
  have hr := texts_new W (pcs x) 9
  rw [h.pieces] at hr hS
  refine ⟨_, (Below.refl W.heap.size W).alloc (Nat.le_refl _) _, hr, ?_, hS⟩
  have hl := hr c (by have := h.len; simp; omega)
  rw [hl]
  have := h.len
  subst this
  simp
theorem PCalls.small {W : World} {x last c1 c2 : ByteArray} {cb one two : Bool} {n a : Int} {c : Nat} {ps : List ByteArray} (h : PCalls W x last c1 c2 cb one two n a c ps) : c ≤ 1001 := by
  have := countB_le x; have := h.count; have := h.len; have := h.size; omega
set_option maxHeartbeats 2000000 in
set_option maxRecDepth 1000000 in
theorem parse_1 (W : World) (x last c1 c2 : ByteArray) (cb one two : Bool) (n a : Int) (c : Nat) (ps : List ByteArray) (h : PCalls W x last c1 c2 cb one two n a c ps) (h4 : 400 < x.size) :
    Calls Tryz.prog 22 #[.string x] W fun e w' => e = .returned (.tuple #[.nilIface, .bool false]) ∧ Below W.heap.size W w' := by
  obtain ⟨W1, hb0, hrow, hlast, hS⟩ := h.row
  have hc1 := h.small
  have h4' : decide ((400 : Int) < (x.size : Int)) = true := by simp; omega
  clear h4
  obtain ⟨q, hT, hC⟩ := h.cut
  have HT := Lib.hid hT
  have HC := Lib.hid hC
  have HU1 := Lib.hid h.un1
  have HU2 := Lib.hid h.un2
  have HP := Lib.hid h.pre
  clear hT hC hrow h
  go_enter Tryz.func22, Tryz.ntmps22
  go_wp2_with (first
    | (go_at_call 36; refine hS.mono ?_; rintro e w1 ⟨rfl, rfl⟩)
    | (go_at_call 38; refine (HT.out _).mono ?_; rintro e w2 ⟨rfl, rfl⟩)
    | (go_at_call 37; refine (HC.out _ (HP.out.up hb0)).mono ?_; rintro e w3 ⟨rfl, hb3⟩; have hb3 := hb0.trans (hb3.mono hb0.size))
    | (go_at_call 39; ((with_reducible refine (HU1.out _ (HP.out.up hb3)).mono ?_); rintro e w4 ⟨rfl, hb4⟩; have hb4 := hb3.trans (hb4.mono hb3.size)))
    | (go_at_call 39; ((with_reducible refine (HU2.out _ (HP.out.up hb4)).mono ?_); rintro e w5 ⟨rfl, hb5⟩; have hb5 := hb4.trans (hb5.mono hb4.size))))
  go_ret2
  exact ⟨rfl, hb5⟩
set_option maxHeartbeats 2000000 in
set_option maxRecDepth 1000000 in
theorem parse_2 (W : World) (x last c1 c2 : ByteArray) (cb one two : Bool) (n a : Int) (c : Nat) (ps : List ByteArray) (h : PCalls W x last c1 c2 cb one two n a c ps) (h4 : x.size ≤ 400) (e1 : cb = false) :
    Calls Tryz.prog 22 #[.string x] W fun e w' => e = .returned (.tuple #[.nilIface, .bool false]) ∧ Below W.heap.size W w' := by
  obtain ⟨W1, hb0, hrow, hlast, hS⟩ := h.row
  have hc1 := h.small
  have h4' : decide ((400 : Int) < (x.size : Int)) = false := by simp; omega
  subst e1
  clear h4
  obtain ⟨q, hT, hC⟩ := h.cut
  have HT := Lib.hid hT
  have HC := Lib.hid hC
  have HU1 := Lib.hid h.un1
  have HU2 := Lib.hid h.un2
  have HP := Lib.hid h.pre
  clear hT hC hrow h
  go_enter Tryz.func22, Tryz.ntmps22
  go_wp2_with (first
    | (go_at_call 36; refine hS.mono ?_; rintro e w1 ⟨rfl, rfl⟩)
    | (go_at_call 38; refine (HT.out _).mono ?_; rintro e w2 ⟨rfl, rfl⟩)
    | (go_at_call 37; refine (HC.out _ (HP.out.up hb0)).mono ?_; rintro e w3 ⟨rfl, hb3⟩; have hb3 := hb0.trans (hb3.mono hb0.size))
    | (go_at_call 39; ((with_reducible refine (HU1.out _ (HP.out.up hb3)).mono ?_); rintro e w4 ⟨rfl, hb4⟩; have hb4 := hb3.trans (hb4.mono hb3.size)))
    | (go_at_call 39; ((with_reducible refine (HU2.out _ (HP.out.up hb4)).mono ?_); rintro e w5 ⟨rfl, hb5⟩; have hb5 := hb4.trans (hb5.mono hb4.size))))
  go_ret2
  exact ⟨rfl, hb5⟩
set_option maxHeartbeats 2000000 in
set_option maxRecDepth 1000000 in
theorem parse_3 (W : World) (x last c1 c2 : ByteArray) (cb one two : Bool) (n a : Int) (c : Nat) (ps : List ByteArray) (h : PCalls W x last c1 c2 cb one two n a c ps) (h4 : x.size ≤ 400) (e1 : cb = true) (e2 : one = false) :
    Calls Tryz.prog 22 #[.string x] W fun e w' => e = .returned (.tuple #[.nilIface, .bool false]) ∧ Below W.heap.size W w' := by
  obtain ⟨W1, hb0, hrow, hlast, hS⟩ := h.row
  have hc1 := h.small
  have h4' : decide ((400 : Int) < (x.size : Int)) = false := by simp; omega
  subst e1 e2
  clear h4
  obtain ⟨q, hT, hC⟩ := h.cut
  have HT := Lib.hid hT
  have HC := Lib.hid hC
  have HU1 := Lib.hid h.un1
  have HU2 := Lib.hid h.un2
  have HP := Lib.hid h.pre
  clear hT hC hrow h
  go_enter Tryz.func22, Tryz.ntmps22
  go_wp2_with (first
    | (go_at_call 36; refine hS.mono ?_; rintro e w1 ⟨rfl, rfl⟩)
    | (go_at_call 38; refine (HT.out _).mono ?_; rintro e w2 ⟨rfl, rfl⟩)
    | (go_at_call 37; refine (HC.out _ (HP.out.up hb0)).mono ?_; rintro e w3 ⟨rfl, hb3⟩; have hb3 := hb0.trans (hb3.mono hb0.size))
    | (go_at_call 39; ((with_reducible refine (HU1.out _ (HP.out.up hb3)).mono ?_); rintro e w4 ⟨rfl, hb4⟩; have hb4 := hb3.trans (hb4.mono hb3.size)))
    | (go_at_call 39; ((with_reducible refine (HU2.out _ (HP.out.up hb4)).mono ?_); rintro e w5 ⟨rfl, hb5⟩; have hb5 := hb4.trans (hb5.mono hb4.size))))
  go_ret2
  exact ⟨rfl, hb5⟩
set_option maxHeartbeats 2000000 in
set_option maxRecDepth 1000000 in
theorem parse_4 (W : World) (x last c1 c2 : ByteArray) (cb one two : Bool) (n a : Int) (c : Nat) (ps : List ByteArray) (h : PCalls W x last c1 c2 cb one two n a c ps) (h4 : x.size ≤ 400) (e1 : cb = true) (e2 : one = true) (e3 : two = false) :
    Calls Tryz.prog 22 #[.string x] W fun e w' => e = .returned (.tuple #[.nilIface, .bool false]) ∧ Below W.heap.size W w' := by
  obtain ⟨W1, hb0, hrow, hlast, hS⟩ := h.row
  have hc1 := h.small
  have h4' : decide ((400 : Int) < (x.size : Int)) = false := by simp; omega
  subst e1 e2 e3
  clear h4
  obtain ⟨q, hT, hC⟩ := h.cut
  have HT := Lib.hid hT
  have HC := Lib.hid hC
  have HU1 := Lib.hid h.un1
  have HU2 := Lib.hid h.un2
  have HP := Lib.hid h.pre
  clear hT hC hrow h
  go_enter Tryz.func22, Tryz.ntmps22
  go_wp2_with (first
    | (go_at_call 36; refine hS.mono ?_; rintro e w1 ⟨rfl, rfl⟩)
    | (go_at_call 38; refine (HT.out _).mono ?_; rintro e w2 ⟨rfl, rfl⟩)
    | (go_at_call 37; refine (HC.out _ (HP.out.up hb0)).mono ?_; rintro e w3 ⟨rfl, hb3⟩; have hb3 := hb0.trans (hb3.mono hb0.size))
    | (go_at_call 39; ((with_reducible refine (HU1.out _ (HP.out.up hb3)).mono ?_); rintro e w4 ⟨rfl, hb4⟩; have hb4 := hb3.trans (hb4.mono hb3.size)))
    | (go_at_call 39; ((with_reducible refine (HU2.out _ (HP.out.up hb4)).mono ?_); rintro e w5 ⟨rfl, hb5⟩; have hb5 := hb4.trans (hb5.mono hb4.size))))
  go_ret2
  exact ⟨rfl, hb5⟩
set_option maxHeartbeats 2000000 in
set_option maxRecDepth 1000000 in
theorem parse_5 (W : World) (x last c1 c2 : ByteArray) (cb one two : Bool) (n a : Int) (c : Nat) (ps : List ByteArray) (h : PCalls W x last c1 c2 cb one two n a c ps) (h4 : x.size ≤ 400) (e1 : cb = true) (e2 : one = true) (e3 : two = true) (e4 : n = 0) :
    Calls Tryz.prog 22 #[.string x] W fun e w' => e = .returned (.tuple #[.nilIface, .bool false]) ∧ Below W.heap.size W w' := by
  obtain ⟨W1, hb0, hrow, hlast, hS⟩ := h.row
  have hc1 := h.small
  have h4' : decide ((400 : Int) < (x.size : Int)) = false := by simp; omega
  subst e1 e2 e3 e4
  clear h4
  obtain ⟨q, hT, hC⟩ := h.cut
  have HT := Lib.hid hT
  have HC := Lib.hid hC
  have HU1 := Lib.hid h.un1
  have HU2 := Lib.hid h.un2
  have HP := Lib.hid h.pre
  clear hT hC hrow h
  go_enter Tryz.func22, Tryz.ntmps22
  go_wp2_with (first
    | (go_at_call 36; refine hS.mono ?_; rintro e w1 ⟨rfl, rfl⟩)
    | (go_at_call 38; refine (HT.out _).mono ?_; rintro e w2 ⟨rfl, rfl⟩)
    | (go_at_call 37; refine (HC.out _ (HP.out.up hb0)).mono ?_; rintro e w3 ⟨rfl, hb3⟩; have hb3 := hb0.trans (hb3.mono hb0.size))
    | (go_at_call 39; ((with_reducible refine (HU1.out _ (HP.out.up hb3)).mono ?_); rintro e w4 ⟨rfl, hb4⟩; have hb4 := hb3.trans (hb4.mono hb3.size)))
    | (go_at_call 39; ((with_reducible refine (HU2.out _ (HP.out.up hb4)).mono ?_); rintro e w5 ⟨rfl, hb5⟩; have hb5 := hb4.trans (hb5.mono hb4.size))))
  go_ret2
  exact ⟨rfl, hb5⟩
set_option maxHeartbeats 2000000 in
set_option maxRecDepth 1000000 in
theorem parse_6 (W : World) (x last c1 c2 : ByteArray) (cb one two : Bool) (n a : Int) (c : Nat) (ps : List ByteArray) (h : PCalls W x last c1 c2 cb one two n a c ps) (h4 : x.size ≤ 400) (e1 : cb = true) (e2 : one = true) (e3 : two = true) (e4 : (n == 0) = false) (h8 : 8 < c) :
    Calls Tryz.prog 22 #[.string x] W fun e w' => e = .returned (.tuple #[.nilIface, .bool false]) ∧ Below W.heap.size W w' := by
  obtain ⟨W1, hb0, hrow, hlast, hS⟩ := h.row
  have hc1 := h.small
  have h4' : decide ((400 : Int) < (x.size : Int)) = false := by simp; omega
  have h8' : decide ((8 : Int) < (c : Int)) = true := by simp; omega
  subst e1 e2 e3
  clear h4
  obtain ⟨q, hT, hC⟩ := h.cut
  have HT := Lib.hid hT
  have HC := Lib.hid hC
  have HU1 := Lib.hid h.un1
  have HU2 := Lib.hid h.un2
  have HP := Lib.hid h.pre
  clear hT hC hrow h
  go_enter Tryz.func22, Tryz.ntmps22
  go_wp2_with (first
    | (go_at_call 36; refine hS.mono ?_; rintro e w1 ⟨rfl, rfl⟩)
    | (go_at_call 38; refine (HT.out _).mono ?_; rintro e w2 ⟨rfl, rfl⟩)
    | (go_at_call 37; refine (HC.out _ (HP.out.up hb0)).mono ?_; rintro e w3 ⟨rfl, hb3⟩; have hb3 := hb0.trans (hb3.mono hb0.size))
    | (go_at_call 39; ((with_reducible refine (HU1.out _ (HP.out.up hb3)).mono ?_); rintro e w4 ⟨rfl, hb4⟩; have hb4 := hb3.trans (hb4.mono hb3.size)))
    | (go_at_call 39; ((with_reducible refine (HU2.out _ (HP.out.up hb4)).mono ?_); rintro e w5 ⟨rfl, hb5⟩; have hb5 := hb4.trans (hb5.mono hb4.size))))
  go_ret2
  exact ⟨rfl, hb5⟩
end Go.Proofs.YtpgddboigegplaaGreatDoor.base

namespace Go.Proofs.YtpgddboigegplaaGreatDoor.base
open Go.RowKit Go.Extern.Stop Go.Stop Go.Extern
set_option linter.unusedVariables false

/-- The notes that the words from j on make. -/
def lkOf (ps : List ByteArray) (j : Nat) : List Lk := ((ps.drop j).map wordOf).map .note
theorem lk_all (ws : List ByteArray) : allN (ws.map .note) = true := by
  induction ws with
  | nil => rfl
  | cons w ws ih => exact ih
theorem lk_cnt (ws : List ByteArray) : cntN (ws.map .note) = ws.length := by
  induction ws with
  | nil => rfl
  | cons w ws ih => show cntN (ws.map .note) + 1 = _; rw [ih]; rfl
theorem lk_step (ps : List ByteArray) (j : Nat) (h : j < ps.length) : lkOf ps j = .note (wordOf ps[j]) :: lkOf ps (j + 1) := by
  unfold lkOf
  rw [List.drop_eq_getElem_cons h]
  rfl
theorem lk_short (ps : List ByteArray) (hp : ∀ p ∈ ps, p.size ≤ 1000) (hl : ps.length ≤ 1001) (j : Nat) : Short (lkOf ps j) := by
  unfold lkOf
  refine ⟨fun s hs => ?_, by simp; omega⟩
  rw [List.map_map] at hs
  obtain ⟨p, hp', e⟩ := List.mem_map.1 hs
  have h1 := hp p (List.mem_of_mem_drop hp')
  have h2 := word_le p
  have : s = wordOf p := by
    have : Lk.note (wordOf p) = Lk.note s := e
    injection this with h
    exact h.symm
  rw [this]; omega
/-- Where Parse's loop stands: j words are left. -/
def PSt (wf : World) (fb : Nat) (ps : List ByteArray) (g : Nat) (e i : Value) (wl : World) : Prop :=
  Below wf.heap.size wf wl ∧ ∃ (t : TypeId) (v : Value) (j : Nat), e = .iface t v ∧ i = .int .i64 ((j : Int) - 1) ∧ j ≤ ps.length ∧ g = j ∧ Lead wl fb 0 t v (lkOf ps j)
/-- What is taken. -/
def ParseYes (W : World) (ps : List ByteArray) (n a : Int) (e : Ending) (w' : World) : Prop :=
  ∃ t v fb, e = .returned (.tuple #[.iface t v, .bool true]) ∧ Lead w' fb 0 t v (lkOf ps 0) ∧ FaultAt w' fb 0 n a ∧ Below W.heap.size W w'
def ParseEnd (W : World) (x : ByteArray) (ps : List ByteArray) (n a : Int) (e : Ending) (w' : World) : Prop :=
  (txtL n a (lkOf ps 0) = x ∧ ParseYes W ps n a e w') ∨ (txtL n a (lkOf ps 0) ≠ x ∧ e = .returned (.tuple #[.nilIface, .bool false]) ∧ Below W.heap.size W w')
set_option maxHeartbeats 4000000 in
set_option maxRecDepth 1000000 in
theorem parse_ok (W : World) (x last c1 c2 : ByteArray) (n a : Int) (c : Nat) (ps : List ByteArray) (h : PCalls W x last c1 c2 true true true n a c ps) (hn : InR n) (ha : InR a) (h4 : x.size ≤ 400) (e4 : (n == 0) = false) (h8 : c ≤ 8) (hps : ∀ p ∈ ps, p.size ≤ 1000) :
    Calls Tryz.prog 22 #[.string x] W (ParseEnd W x ps n a) := by
  obtain ⟨W1, hb0, hrow, hlast, hS⟩ := h.row
  have h4' : decide ((400 : Int) < (x.size : Int)) = false := by simp; omega
  have h8' : decide ((8 : Int) < (c : Int)) = false := by simp; omega
  have hc1 := h.small
  obtain ⟨q, hT, hC⟩ := h.cut
  have HT := Lib.hid hT
  have HC := Lib.hid hC
  have HU1 := Lib.hid h.un1
  have HU2 := Lib.hid h.un2
  have HP := Lib.hid h.pre
  have HLen := Lib.hid h.len
  have HRow := Lib.hid hrow
  have HI := Lib.hid (And.intro hn ha)
  have HS := Lib.hid (lk_short ps hps (by have := h.len; omega))
  have HPS := Lib.hid hps
  clear hT hC hrow h h4 hn ha hps
  go_enter Tryz.func22, Tryz.ntmps22
  go_wp2_with (first
    | (go_at_call 36; refine hS.mono ?_; rintro e w1 ⟨rfl, rfl⟩)
    | (go_at_call 38; refine (HT.out _).mono ?_; rintro e w2 ⟨rfl, rfl⟩)
    | (go_at_call 37; refine (HC.out _ (HP.out.up hb0)).mono ?_; rintro e w3 ⟨rfl, hb3⟩; have hb03 := hb3; have hb3 := hb0.trans (hb3.mono hb0.size))
    | (go_at_call 39; ((with_reducible refine (HU1.out _ (HP.out.up hb3)).mono ?_); rintro e w4 ⟨rfl, hb4⟩; have hb04 := hb03.trans (hb4.mono hb03.size); have hb4 := hb3.trans (hb4.mono hb3.size)))
    | (go_at_call 39; ((with_reducible refine (HU2.out _ (HP.out.up hb4)).mono ?_); rintro e w5 ⟨rfl, hb5⟩; have hb05 := hb04.trans (hb5.mono hb04.size); have hb5 := hb4.trans (hb5.mono hb4.size)))
    | (go_at_call 24; refine (new_any n a e4 _).mono ?_; rintro e w6 ⟨rfl, rfl⟩))
  have hb6 := hb5.alloc hb5.size (.cells #[.int .i64 n, .int .i64 a] 73)
  have hb06 := hb05.alloc hb05.size (.cells #[.int .i64 n, .int .i64 a] 73)
  have hF : FaultAt (w5.alloc (.cells #[.int .i64 n, .int .i64 a] 73)) w5.heap.size 0 n a := two_cells w5 _ _ 73
  generalize w5.heap.size = fb at hF ⊢
  generalize w5.alloc (.cells #[.int .i64 n, .int .i64 a] 73) = wf at hb6 hb06 hF ⊢
  have HF := Lib.hid hF
  have HB := Lib.hid hb6
  have HB0 := Lib.hid hb06
  clear hF hb6 hb06 hb05 hb5 hb04 hb4 hb03 hb3 hb0 hlast hS
  go_loopg [13, 14] c (fun g e i wl => PSt wf fb ps g e i wl)
  case atStart =>
    refine ⟨Below.refl _ _, 70, _, c, rfl, ?_, by have := HLen.out; omega, rfl, ?_⟩
    · go_num
    · have hd : lkOf ps c = [] := by unfold lkOf; rw [List.drop_eq_nil_of_le (by have := HLen.out; omega)]; rfl
      rw [hd]; exact .fault
  case round =>
    obtain ⟨hbl, t, v, j, rfl, rfl, hj, hg, hl⟩ := hrel
    have HL := Lib.hid hl
    clear hl
    have hlen := HLen.out
    by_cases h0 : j = 0
    · subst h0
      have hline := Line_any wr fb 0 n a HI.out.1 HI.out.2 (HF.out.up hbl) (tab_below HP.out.1 (HB.out.trans (hbl.mono HB.out.size))) HL.out (HS.out 0)
      have hlv : lineV n a (lkOf ps 0) = .tuple #[.string (txtL n a (lkOf ps 0)), .bool true] := by
        unfold lineV lkOf
        rw [lk_all]; rfl
      rw [hlv] at hline
      have HBW := Lib.hid (HB.out.trans (hbl.mono HB.out.size))
      clear hlv
      by_cases hx : txtL n a (lkOf ps 0) = x
      · have hne : (!((txtL n a (lkOf ps 0)).toList == x.toList)) = false := by rw [hx]; simp
        have HX := Lib.hid hx
        clear hx
        go_wp2_with (go_at_call 13; refine hline.mono ?_; rintro e w8 ⟨rfl, hb8⟩)
        go_ret2
        exact .inl ⟨HX.out, t, v, fb, rfl, HL.out.up hb8, HF.out.up (hbl.trans (hb8.mono hbl.size)), HBW.out.trans (hb8.mono HBW.out.size)⟩
      · have hne : (!((txtL n a (lkOf ps 0)).toList == x.toList)) = true := by
          have := neB (u := txtL n a (lkOf ps 0)) (w := x)
          injection this with h
          rw [h]; simp [hx]
        have HX := Lib.hid hx
        clear hx
        go_wp2_with (go_at_call 13; refine hline.mono ?_; rintro e w8 ⟨rfl, hb8⟩)
        go_ret2
        exact .inr ⟨HX.out, rfl, HBW.out.trans (hb8.mono HBW.out.size)⟩
    · obtain ⟨i, rfl⟩ : ∃ i, j = i + 1 := ⟨j - 1, by omega⟩
      have hi : i < ps.length := by omega
      have hcell : wr.cell? ⟨W.heap.size, i, none⟩ = some (.string ps[i]) := by
        have h1 := ((HRow.out.up HB0.out).up hbl) i (by simp; omega)
        rw [List.getElem_append_left hi] at h1
        exact h1
      have hbnd := HPS.out ps[i] (List.getElem_mem hi)
      have hF := HF.out.up hbl
      have hll : (lkOf ps (i + 1)).length = ps.length - (i + 1) := by unfold lkOf; simp
      have hcnt : cntN (lkOf ps (i + 1)) = ps.length - (i + 1) := by unfold lkOf; rw [lk_cnt]; simp
      rcases wrap_lead wr fb 0 n a hF t v _ HL.out (by omega) ps[i] (by omega) with ⟨_, hw⟩ | ⟨h9, _⟩
      · have ej : (((i + 1 : Nat) : Int) - 1) = (i : Int) := by omega
        have hge : decide ((0 : Int) ≤ (i : Int)) = true := by simp
        have hic : i ≤ 1001 := by omega
        have hi2 : i < c + 1 := by omega
        have HPI := Lib.hid (lk_step ps i hi)
        generalize hpi : ps[i] = p at hcell hw HPI
        rw [ej]
        have HH := Lib.hid (And.intro hj (And.intro hg (And.intro hlen hi)))
        clear hpi hF hll hcnt hbnd h0 ej hj hg hlen hi
        go_wp2_with (go_at_call 10; refine hw.mono ?_; rintro e w8 ⟨B, rfl, c0, c1', hb8⟩)
        go_roundg i
        case measure => have := HH.out.2.1; omega
        case rel =>
          refine ⟨hbl.trans (hb8.mono hbl.size), 67, _, i, rfl, rfl, by have := HH.out.2.2.2; omega, rfl, ?_⟩
          rw [HPI.out]
          exact .note B 0 _ t v _ c0 c1' (HL.out.up hb8)
      · omega
end Go.Proofs.YtpgddboigegplaaGreatDoor.base

namespace Go.Proofs.YtpgddboigegplaaGreatDoor.base
open Go.RowKit Go.Extern.Stop Go.Stop Go.Extern
set_option linter.unusedVariables false

/-- Notes of these words around a fault of this kind and place. -/
def Told (W : World) (ws : List (List UInt8)) (k o : Int) (e : Ending) (w' : World) : Prop :=
  ∃ t v fb, e = .returned (.tuple #[.iface t v, .bool true]) ∧ Lead w' fb 0 t v ((ws.map bs).map .note) ∧ FaultAt w' fb 0 k o ∧ Below W.heap.size W w'
def NotTold (W : World) (e : Ending) (w' : World) : Prop := e = .returned (.tuple #[.nilIface, .bool false]) ∧ Below W.heap.size W w'
theorem lk_words (ws : List (List UInt8)) (h : ∀ w ∈ ws, IsW w) : lkOf (ws.map bs) 0 = (ws.map bs).map .note := by
  unfold lkOf
  rw [List.drop_zero]
  congr 1
  rw [List.map_map]
  exact List.map_congr_left fun w hw => h w hw
theorem pcalls (W : World) (x : ByteArray) (hx : x.size ≤ 1000) (hP : Pre W) (ps : List ByteArray) (last : ByteArray) (hp : pcs x = ps ++ [last]) (hc : ps.length = Lib.countB x csS) :
    PCalls W x last (bs (cutOf (trimK last)).1) (bs (cutOf (trimK last)).2.1) (cutOf (trimK last)).2.2 (undecV (bs (cutOf (trimK last)).1)).2 (undecV (bs (cutOf (trimK last)).2.1)).2 (undecV (bs (cutOf (trimK last)).1)).1 (undecV (bs (cutOf (trimK last)).2.1)).1 ps.length ps := by
  have hl : last.size ≤ 1000 := by
    have : last ∈ Lib.splitB csS 0 (Lib.countB x csS) x := by
      show last ∈ pcs x
      rw [hp]; simp
    have := piece_le _ _ _ this
    omega
  have ht := trim_le last
  have hcu := cut_le (trimK last)
  exact ⟨hx, hP, hp, hc, rfl, ⟨trimK last, fun w => trim_any last w, fun w hw => cut_any _ (by omega) w hw⟩, fun w hw => undec_any _ (by omega) w hw, fun w hw => undec_any _ (by omega) w hw⟩
theorem pieces_le (x : ByteArray) (hx : x.size ≤ 1000) (ps : List ByteArray) (last : ByteArray) (hp : pcs x = ps ++ [last]) : ∀ p ∈ ps, p.size ≤ 1000 := by
  intro p h
  have : p ∈ Lib.splitB csS 0 (Lib.countB x csS) x := by
    show p ∈ pcs x
    rw [hp]; simp [h]
  have := piece_le _ _ _ this
  omega
theorem bs_len (l : List UInt8) : (bs l).size = l.length := by simp [Lib.size_eq, bs]
theorem parse_yes (W : World) (x : List UInt8) (hP : Pre W) (ws : List (List UInt8)) (k o : Int) (h : Dec x ws k o) : Calls Tryz.prog 22 #[.string (bs x)] W (Told W ws k o) := by
  have htxt := txt_of_dec h
  obtain ⟨hw, ⟨hk, hk0, ho, _⟩, hx, h400, h8⟩ := h
  have hp : pcs (bs x) = ws.map bs ++ [bs (kindT k o)] := by
    rw [hx]
    exact pcs_join (kind_no k o) ws fun w hw' => isW_no (hw w hw')
  have hlen : (ws.map bs).length = Lib.countB (bs x) csS := by
    obtain ⟨ps, last, h1, h2⟩ := pcs_ne (bs x)
    rw [hp] at h1
    have := congrArg List.length h1
    simp at this
    simp [this, h2]
  have hpc := pcalls W (bs x) (by rw [bs_len]; omega) hP _ _ hp hlen
  rw [trim_kind, cut_kind] at hpc
  simp only [undec_itoa hk, undec_itoa ho] at hpc
  refine (parse_ok W (bs x) _ _ _ k o _ _ hpc hk ho (by rw [bs_len]; exact h400) (by simpa using hk0) (by simpa using h8) (pieces_le _ (by rw [bs_len]; omega) _ _ hp)).mono ?_
  intro e w' he
  rw [← lk_words ws hw] at htxt
  rcases he with ⟨_, t, v, fb, h1, h2, h3, h4⟩ | ⟨hne, _⟩
  · rw [lk_words ws hw] at h2
    exact ⟨t, v, fb, h1, h2, h3, h4⟩
  · exact absurd htxt hne
theorem parse_no (W : World) (x : List UInt8) (hx : x.length ≤ 1000) (hP : Pre W) (h : ∀ ws k o, ¬ Dec x ws k o) : Calls Tryz.prog 22 #[.string (bs x)] W (NotTold W) := by
  obtain ⟨ps, last, hp, hc⟩ := pcs_ne (bs x)
  have hxs : (bs x).size ≤ 1000 := by rw [bs_len]; exact hx
  have hpc := pcalls W (bs x) hxs hP ps last hp hc
  have r1 := undec_rng (bs (cutOf (trimK last)).1)
  have r2 := undec_rng (bs (cutOf (trimK last)).2.1)
  generalize bs (cutOf (trimK last)).1 = c1 at hpc r1
  generalize bs (cutOf (trimK last)).2.1 = c2 at hpc r2
  generalize (cutOf (trimK last)).2.2 = cb at hpc
  generalize (undecV c1).2 = one at hpc
  generalize (undecV c2).2 = two at hpc
  generalize (undecV c1).1 = n at hpc r1
  generalize (undecV c2).1 = a at hpc r2
  by_cases h4 : 400 < (bs x).size
  · exact parse_1 W _ _ _ _ _ _ _ _ _ _ _ hpc h4
  have h4' : (bs x).size ≤ 400 := by omega
  cases cb with
  | false => exact parse_2 W _ _ _ _ _ _ _ _ _ _ _ hpc h4' rfl
  | true =>
  cases one with
  | false => exact parse_3 W _ _ _ _ _ _ _ _ _ _ _ hpc h4' rfl rfl
  | true =>
  cases two with
  | false => exact parse_4 W _ _ _ _ _ _ _ _ _ _ _ hpc h4' rfl rfl rfl
  | true =>
  by_cases hn : n = 0
  · exact parse_5 W _ _ _ _ _ _ _ _ _ _ _ hpc h4' rfl rfl rfl hn
  have hnb : (n == 0) = false := by simpa using hn
  by_cases h8 : 8 < ps.length
  · exact parse_6 W _ _ _ _ _ _ _ _ _ _ _ hpc h4' rfl rfl rfl hnb h8
  refine (parse_ok W (bs x) _ _ _ n a _ _ hpc r1 r2 h4' hnb (by omega) (pieces_le _ hxs _ _ hp)).mono ?_
  intro e w' he
  rcases he with ⟨htxt, _⟩ | ⟨_, h1, h2⟩
  · exact absurd (dec_of_txt x ps n a r1 hn r2 (by rw [← bs_len]; exact h4') (by omega) htxt) (h _ n a)
  · exact ⟨h1, h2⟩
end Go.Proofs.YtpgddboigegplaaGreatDoor.base
