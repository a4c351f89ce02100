/- The chapter's rows ('known') by the kernel. -/
import Derived.Test.YtflgpkkbifkpoaaDoorRows
import Derived.Test.YtflgpkkbifkpoaaDoorTextBase
namespace Go.Proofs.YtflgpkkbifkpoaaDoor.text
open Go.Dg (evCall bodied noOver AObj)
/-- The chapter's rows, wherever the law's own objects lie. -/
theorem known0 (E : Nat → TypeId) (u v : TypeId) : evCall Tryd.prog 10 (bodied Tryd.prog) noOver sbs 1000 20 5 [] (H0 E u v []) = some (.bool true, H0 E u v [], []) := by kernel_rfl
theorem known1 (E : Nat → TypeId) (u v : TypeId) (x : AObj) : evCall Tryd.prog 10 (bodied Tryd.prog) noOver sbs 1000 20 5 [] (H0 E u v [x]) = some (.bool true, H0 E u v [x], []) := by kernel_rfl
end Go.Proofs.YtflgpkkbifkpoaaDoor.text
