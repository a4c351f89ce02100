/- Values of the abstract run: block numbers are those of the abstract heap; 'VRel M' relates them to the model's. -/
import Derived.Calls
import Derived.Orders
import Derived.Below
import Derived.RangeFuncLeaves
import Derived.OrdersIn
namespace Go.Dg
/-- Where an abstract block lies: block, first cell, spare elements. -/
abbrev Emb := Nat → Option (Nat × Nat × Nat)
def Emb.le (M M' : Emb) : Prop := ∀ k x, M k = some x → M' k = some x
theorem Emb.le_refl (M : Emb) : Emb.le M M := fun _ _ h => h
theorem Emb.le_trans {M M' M'' : Emb} (h : Emb.le M M') (h' : Emb.le M' M'') : Emb.le M M'' := fun k x hx => h' k x (h k x hx)
/-- Values that hold no other values and no address. -/
def atom : Value → Bool
  | .bool _ | .int _ _ | .float _ _ | .complex _ _ _ | .string _ | .nilFunc | .nilIface => true
  | .pointer a => a.isNone
  | .slice a _ _ => a.isNone
  | .map r => r.isNone
  | .chan r => r.isNone
  | _ => false
def flatFn : Fn → Bool
  | .yield _ => false
  | _ => true
mutual
def flat : Value → Bool
  | .bool _ | .int _ _ | .float _ _ | .complex _ _ _ | .string _ | .nilFunc | .nilIface => true
  | .pointer a => a.isNone
  | .slice a _ _ => a.isNone
  | .map r => r.isNone
  | .chan r => r.isNone
  | .func fn a b => flatFn fn && flatA a && flatA b
  | .iface _ v => flat v
  | .agg cs => flatA cs
  | .tuple cs => flatA cs
def flatA : Array Value → Bool
  | ⟨l⟩ => flatL l
def flatL : List Value → Bool
  | [] => true
  | v :: r => flat v && flatL r
end
inductive VRel (M : Emb) : Value → Value → Prop
  | atom {v : Value} : atom v = true → VRel M v v
  | ptr {k off b o sp : Nat} : M k = some (b, o, sp) → VRel M (.pointer (some ⟨k, off, none⟩)) (.pointer (some ⟨b, o + off, none⟩))
  | slx {k off b o sp len cap : Nat} : M k = some (b, o, sp) → VRel M (.slice (some ⟨k, off, none⟩) len cap) (.slice (some ⟨b, o + off, none⟩) len cap)
  | slf {k off b o sp len cap : Nat} : M k = some (b, o, sp) → VRel M (.slice (some ⟨k, off, some 0⟩) len cap) (.slice (some ⟨b, o + off, none⟩) len (cap + sp))
  | map {k b o sp : Nat} : M k = some (b, o, sp) → VRel M (.map (some k)) (.map (some b))
  | emp {a : Addr} {c : Nat} : a.spot = none → VRel M (.chan (some 0)) (.slice (some a) 0 c)
  | iface {t : TypeId} {v v' : Value} : VRel M v v' → VRel M (.iface t v) (.iface t v')
  | func {fn : Fn} {a a' c c' : Array Value} : flatFn fn = true → a.size = a'.size → (∀ (i : Nat) (v v' : Value), a[i]? = some v → a'[i]? = some v' → VRel M v v') →
      c.size = c'.size → (∀ (i : Nat) (v v' : Value), c[i]? = some v → c'[i]? = some v' → VRel M v v') → VRel M (.func fn a c) (.func fn a' c')
  | yield {k b o sp : Nat} : M k = some (b, o, sp) → VRel M (.func (.yield k) #[] #[]) (.func (.yield b) #[] #[])
  | agg {a a' : Array Value} : a.size = a'.size → (∀ (i : Nat) (v v' : Value), a[i]? = some v → a'[i]? = some v' → VRel M v v') → VRel M (.agg a) (.agg a')
  | tuple {a a' : Array Value} : a.size = a'.size → (∀ (i : Nat) (v v' : Value), a[i]? = some v → a'[i]? = some v' → VRel M v v') → VRel M (.tuple a) (.tuple a')
/-- Rows of values, one by one. -/
def ARel (M : Emb) (a a' : Array Value) : Prop := a.size = a'.size ∧ ∀ (i : Nat) (v v' : Value), a[i]? = some v → a'[i]? = some v' → VRel M v v'
def LRel (M : Emb) (a a' : List Value) : Prop := a.length = a'.length ∧ ∀ (i : Nat) (v v' : Value), a[i]? = some v → a'[i]? = some v' → VRel M v v'
theorem VRel.mono {M M' : Emb} (h : Emb.le M M') {v v' : Value} (hv : VRel M v v') : VRel M' v v' := by
  induction hv with
  | atom h0 => exact .atom h0
  | ptr h0 => exact .ptr (h _ _ h0)
  | slx h0 => exact .slx (h _ _ h0)
  | slf h0 => exact .slf (h _ _ h0)
  | map h0 => exact .map (h _ _ h0)
  | emp h0 => exact .emp h0
  | iface _ ih => exact .iface ih
  | func f h1 _ h3 _ ih1 ih2 => exact .func f h1 ih1 h3 ih2
  | yield h0 => exact .yield (h _ _ h0)
  | agg h1 _ ih => exact .agg h1 ih
  | tuple h1 _ ih => exact .tuple h1 ih
theorem ARel.mono {M M' : Emb} (h : Emb.le M M') {a a' : Array Value} (hv : ARel M a a') : ARel M' a a' := ⟨hv.1, fun i v v' h1 h2 => (hv.2 i v v' h1 h2).mono h⟩
theorem LRel.mono {M M' : Emb} (h : Emb.le M M') {a a' : List Value} (hv : LRel M a a') : LRel M' a a' := ⟨hv.1, fun i v v' h1 h2 => (hv.2 i v v' h1 h2).mono h⟩
theorem ARel.toList {M : Emb} {a a' : Array Value} (h : ARel M a a') : LRel M a.toList a'.toList :=
  ⟨by simpa using h.1, fun i v v' h1 h2 => h.2 i v v' (by simpa using h1) (by simpa using h2)⟩
theorem LRel.toArray {M : Emb} {a a' : List Value} (h : LRel M a a') : ARel M a.toArray a'.toArray :=
  ⟨by simpa using h.1, fun i v v' h1 h2 => h.2 i v v' (by simpa using h1) (by simpa using h2)⟩
theorem LRel.nil {M : Emb} : LRel M [] [] := ⟨rfl, fun i v v' h => by simp at h⟩
theorem LRel.cons {M : Emb} {v v' : Value} {l l' : List Value} (h : VRel M v v') (hl : LRel M l l') : LRel M (v :: l) (v' :: l') := by
  refine ⟨by simp [hl.1], fun i u u' h1 h2 => ?_⟩
  cases i with
  | zero => simp at h1 h2; subst h1; subst h2; exact h
  | succ i => exact hl.2 i u u' (by simpa using h1) (by simpa using h2)
theorem LRel.nil_inv {M : Emb} {l' : List Value} (h : LRel M [] l') : l' = [] := by have := h.1; simpa using this.symm
theorem LRel.cons_inv {M : Emb} {v : Value} {l l' : List Value} (h : LRel M (v :: l) l') : ∃ v' r, l' = v' :: r ∧ VRel M v v' ∧ LRel M l r := by
  cases l' with
  | nil => have := h.1; simp at this
  | cons v' r =>
    refine ⟨v', r, rfl, h.2 0 v v' rfl rfl, by have := h.1; simpa using this, fun i u u' h1 h2 => h.2 (i + 1) u u' (by simpa using h1) (by simpa using h2)⟩
theorem LRel.get {M : Emb} {l l' : List Value} (h : LRel M l l') {i : Nat} {v : Value} (hv : l[i]? = some v) : ∃ v', l'[i]? = some v' ∧ VRel M v v' := by
  have hi : i < l.length := by
    rcases Nat.lt_or_ge i l.length with h0 | h0
    · exact h0
    · rw [List.getElem?_eq_none h0] at hv; cases hv
  have hi' : i < l'.length := h.1 ▸ hi
  exact ⟨l'[i], by simp [hi'], h.2 i v _ hv (by simp [hi'])⟩
theorem ARel.get {M : Emb} {a a' : Array Value} (h : ARel M a a') {i : Nat} {v : Value} (hv : a[i]? = some v) : ∃ v', a'[i]? = some v' ∧ VRel M v v' := by
  obtain ⟨v', h1, h2⟩ := h.toList.get (i := i) (v := v) (by simpa using hv)
  exact ⟨v', by simpa using h1, h2⟩
theorem LRel.set {M : Emb} {l l' : List Value} (h : LRel M l l') {v v' : Value} (hv : VRel M v v') (i : Nat) : LRel M (l.set i v) (l'.set i v') := by
  refine ⟨by simp [h.1], fun j u u' h1 h2 => ?_⟩
  rw [List.getElem?_set] at h1 h2
  by_cases hij : i = j
  · subst hij
    simp only [if_true] at h1 h2
    split at h1
    · split at h2
      · cases h1; cases h2; exact hv
      · cases h2
    · cases h1
  · simp only [hij, if_false] at h1 h2; exact h.2 j u u' h1 h2
theorem LRel.append {M : Emb} {a a' b b' : List Value} (h : LRel M a a') (k : LRel M b b') : LRel M (a ++ b) (a' ++ b') := by
  refine ⟨by simp [h.1, k.1], fun i v v' h1 h2 => ?_⟩
  rw [List.getElem?_append] at h1 h2
  rw [← h.1] at h2
  split at h1
  · rename_i hi; rw [if_pos hi] at h2; exact h.2 i v v' h1 h2
  · rename_i hi; rw [if_neg hi] at h2; exact k.2 _ v v' h1 h2
theorem LRel.drop {M : Emb} {a a' : List Value} (h : LRel M a a') (n : Nat) : LRel M (a.drop n) (a'.drop n) :=
  ⟨by simp [h.1], fun i v v' h1 h2 => h.2 (n + i) v v' (by simpa using h1) (by simpa using h2)⟩
theorem LRel.take {M : Emb} {a a' : List Value} (h : LRel M a a') (n : Nat) : LRel M (a.take n) (a'.take n) := by
  refine ⟨by simp [h.1], fun i v v' h1 h2 => ?_⟩
  rw [List.getElem?_take] at h1 h2
  split at h1
  · rename_i hi; rw [if_pos hi] at h2; exact h.2 i v v' h1 h2
  · cases h1
mutual
theorem vrel_of_flat (M : Emb) : ∀ v : Value, flat v = true → VRel M v v
  | .bool _, _ => .atom rfl
  | .int _ _, _ => .atom rfl
  | .float _ _, _ => .atom rfl
  | .complex _ _ _, _ => .atom rfl
  | .string _, _ => .atom rfl
  | .nilFunc, _ => .atom rfl
  | .nilIface, _ => .atom rfl
  | .pointer none, _ => .atom rfl
  | .pointer (some _), h => by simp [flat] at h
  | .slice none _ _, _ => .atom rfl
  | .slice (some _) _ _, h => by simp [flat] at h
  | .map none, _ => .atom rfl
  | .map (some _), h => by simp [flat] at h
  | .chan none, _ => .atom rfl
  | .chan (some _), h => by simp [flat] at h
  | .func fn a b, h => by
    simp only [flat, Bool.and_eq_true] at h
    exact .func h.1.1 rfl (fun i v v' h1 h2 => by rw [h1] at h2; cases h2; exact arel_of_flat M a h.1.2 i v h1) rfl
      (fun i v v' h1 h2 => by rw [h1] at h2; cases h2; exact arel_of_flat M b h.2 i v h1)
  | .iface _ v, h => .iface (vrel_of_flat M v (by simpa [flat] using h))
  | .agg a, h => .agg rfl (fun i v v' h1 h2 => by rw [h1] at h2; cases h2; exact arel_of_flat M a (by simpa [flat] using h) i v h1)
  | .tuple a, h => .tuple rfl (fun i v v' h1 h2 => by rw [h1] at h2; cases h2; exact arel_of_flat M a (by simpa [flat] using h) i v h1)
theorem arel_of_flat (M : Emb) : ∀ a : Array Value, flatA a = true → ∀ (i : Nat) (v : Value), a[i]? = some v → VRel M v v
  | ⟨l⟩, h, i, v, hv => lrel_of_flat M l (by simpa [flatA] using h) i v (by simpa using hv)
theorem lrel_of_flat (M : Emb) : ∀ l : List Value, flatL l = true → ∀ (i : Nat) (v : Value), l[i]? = some v → VRel M v v
  | [], _, i, v, hv => by simp at hv
  | u :: r, h, i, v, hv => by
    simp only [flatL, Bool.and_eq_true] at h
    cases i with
    | zero => simp at hv; subst hv; exact vrel_of_flat M u h.1
    | succ i => exact lrel_of_flat M r h.2 i v (by simpa using hv)
end
theorem flatL_get : ∀ (l : List Value), flatL l = true → ∀ (i : Nat) (v : Value), l[i]? = some v → flat v = true
  | [], _, i, v, hv => by simp at hv
  | u :: r, h, i, v, hv => by
    simp only [flatL, Bool.and_eq_true] at h
    cases i with
    | zero => simp at hv; subst hv; exact h.1
    | succ i => exact flatL_get r h.2 i v (by simpa using hv)
theorem flatA_get (a : Array Value) (h : flatA a = true) (i : Nat) (v : Value) (hv : a[i]? = some v) : flat v = true := by
  cases a with | mk l => exact flatL_get l (by simpa [flatA] using h) i v (by simpa using hv)
/-- A value without addresses stands for itself alone. -/
theorem VRel.eq_of_flat {M : Emb} {v v' : Value} (h : VRel M v v') (hf : flat v = true) : v' = v := by
  have rows : ∀ (a a' : Array Value), a.size = a'.size → (∀ (i : Nat) (u u' : Value), a[i]? = some u → a'[i]? = some u' → u' = u) → a' = a := by
    intro a a' hs he
    apply Array.ext_getElem?
    intro i
    cases h1 : a[i]? with
    | none =>
      have : a.size ≤ i := by simpa using h1
      simp [← hs, this]
    | some u =>
      have hi : i < a.size := by
        rcases Nat.lt_or_ge i a.size with h0 | h0
        · exact h0
        · rw [Array.getElem?_eq_none h0] at h1; cases h1
      have hi' : i < a'.size := hs ▸ hi
      have h2 : a'[i]? = some a'[i] := by simp [hi']
      rw [h2, he i u _ h1 h2]
  induction h with
  | atom _ => rfl
  | ptr _ => simp [flat] at hf
  | slx _ => simp [flat] at hf
  | slf _ => simp [flat] at hf
  | map _ => simp [flat] at hf
  | emp _ => simp [flat] at hf
  | iface _ ih => rw [ih (by simpa [flat] using hf)]
  | func f h1 _ h3 _ ih1 ih2 =>
    simp only [flat, Bool.and_eq_true] at hf
    rw [rows _ _ h1 (fun i u u' hu hu' => ih1 i u u' hu hu' (flatA_get _ hf.1.2 i u hu)), rows _ _ h3 (fun i u u' hu hu' => ih2 i u u' hu hu' (flatA_get _ hf.2 i u hu))]
  | yield _ => simp [flat, flatFn] at hf
  | agg h1 _ ih =>
    simp only [flat] at hf
    rw [rows _ _ h1 (fun i u u' hu hu' => ih i u u' hu hu' (flatA_get _ hf i u hu))]
  | tuple h1 _ ih =>
    simp only [flat] at hf
    rw [rows _ _ h1 (fun i u u' hu hu' => ih i u u' hu hu' (flatA_get _ hf i u hu))]
theorem LRel.of_flat (M : Emb) {l : List Value} (h : flatL l = true) : LRel M l l :=
  ⟨rfl, fun i v v' h1 h2 => by rw [h1] at h2; cases h2; exact lrel_of_flat M l h i v h1⟩
theorem LRel.eq_of_flat {M : Emb} {l l' : List Value} (h : LRel M l l') (hf : flatL l = true) : l' = l := by
  apply List.ext_getElem?
  intro i
  cases h1 : l[i]? with
  | none =>
    have : l.length ≤ i := by simpa using h1
    have h2 := h.1
    simp only [List.getElem?_eq_none_iff]; omega
  | some u =>
    obtain ⟨u', h2, h3⟩ := h.get h1
    rw [h2, h3.eq_of_flat (flatL_get l hf i u h1)]
def isJunk : Value → Bool
  | .complex _ _ _ => true
  | _ => false
def junk : Value := .complex .f32 0 0
/-- Slots, one by one; of a junk slot nothing is said. -/
def TRel (M : Emb) (a a' : List Value) : Prop := a.length = a'.length ∧ ∀ (i : Nat) (v v' : Value), a[i]? = some v → a'[i]? = some v' → isJunk v = false → VRel M v v'
theorem TRel.mono {M M' : Emb} (h : Emb.le M M') {a a' : List Value} (hv : TRel M a a') : TRel M' a a' := ⟨hv.1, fun i v v' h1 h2 h3 => (hv.2 i v v' h1 h2 h3).mono h⟩
theorem TRel.of_l {M : Emb} {a a' : List Value} (h : LRel M a a') : TRel M a a' := ⟨h.1, fun i v v' h1 h2 _ => h.2 i v v' h1 h2⟩
end Go.Dg
