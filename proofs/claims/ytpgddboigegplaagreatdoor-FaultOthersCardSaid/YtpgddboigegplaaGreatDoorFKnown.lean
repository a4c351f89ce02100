/- 'known' of chapter 06, as it is run. -/
import Derived.Test.YtpgddboigegplaaGreatDoorRows
import Derived.Test.YtpgddboigegplaaGreatDoorFWbase
namespace Go.Proofs.YtpgddboigegplaaGreatDoor.base
open Go.Dg (junk St Ex Ev Hint evCall evCallS evLoop bodied noOver Flats flatOver Heap AObj)
set_option linter.unusedVariables false

/-- The document's examples. -/
theorem known1 (lf : Nat) (E : Nat → TypeId) (u3 u4 : TypeId) (x : AObj) : evY (lf + 100) 19 7 [] (H0 E u3 u4 [x]) = some (.bool true, H0 E u3 u4 [x], []) := by kernel_rfl
end Go.Proofs.YtpgddboigegplaaGreatDoor.base
