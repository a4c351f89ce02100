/- The row 'CrossAll', at whatever lines and samples. -/
import Derived.Test.YtmnoegfehgoalaaDoorCxRowA
namespace Go.Proofs.YtmnoegfehgoalaaDoor.cx
open Go.RowKit Go.Extern.Stop Go.Stop Go.Extern Go.Cx
set_option linter.unusedVariables false

set_option maxRecDepth 1000000 in
/-- Of more than 60 lines, or samples, nothing is asked. -/
theorem row_skip (W : World) (la sa : Option Addr) (n lc m sc : Nat) (h : 60 < n ∨ 60 < m) (hK : ∀ w, Below W.heap.size W w → Calls Tryd.prog 5 #[] w fun e w' => e = .returned (.bool true) ∧ Below w.heap.size w w') :
    Calls Tryd.prog 3 #[.slice la n lc, .slice sa m sc] W fun e w' => e = .returned (.bool true) ∧ Below W.heap.size W w' := by
  have HK := Lib.hid hK
  clear hK
  cases d1 : decide ((60 : Int) < (n : Int)) with
  | true =>
    go_enter Tryd.func3, Tryd.ntmps3
    go_wp2_with (go_at_call 5; refine (HK.out _ (Below.refl _ _)).mono ?_; rintro e w9 ⟨rfl, hb9⟩)
    go_ret
    exact ⟨rfl, hb9⟩
  | false =>
    have d2 : decide ((60 : Int) < (m : Int)) = true := by
      rw [decide_eq_false_iff_not] at d1
      exact decide_eq_true (by omega)
    go_enter Tryd.func3, Tryd.ntmps3
    go_wp2_with (go_at_call 5; refine (HK.out _ (Below.refl _ _)).mono ?_; rintro e w9 ⟨rfl, hb9⟩)
    go_ret
    exact ⟨rfl, hb9⟩
theorem row_calls (W : World) (lv sv : Value) (ls ss : List (List Value)) (hlr : Go.Cx.Rows Tryd.prog W 53 lineK lv ls) (hsr : Go.Cx.Rows Tryd.prog W 48 sampK sv ss) (hl : ∀ r ∈ ls, RowOk lineK r) (hs : ∀ r ∈ ss, RowOk sampK r)
    (hK : ∀ w, Below W.heap.size W w → Calls Tryd.prog 5 #[] w fun e w' => e = .returned (.bool true) ∧ Below w.heap.size w w') :
    Calls Tryd.prog 3 #[lv, sv] W fun e w' => e = .returned (.bool true) ∧ Below W.heap.size W w' := by
  have h1 := Sl.of_rows hlr
  have h2 := Sl.of_rows hsr
  by_cases h : 60 < ls.length ∨ 60 < ss.length
  · obtain ⟨la, lc, rfl, _⟩ := h1.form
    obtain ⟨sa, sc, rfl, _⟩ := h2.form
    exact row_skip W la sa _ lc _ sc h hK
  · exact row_all W lv sv ls ss hl hs h1 h2 (by omega) (by omega) hK
end Go.Proofs.YtmnoegfehgoalaaDoor.cx
