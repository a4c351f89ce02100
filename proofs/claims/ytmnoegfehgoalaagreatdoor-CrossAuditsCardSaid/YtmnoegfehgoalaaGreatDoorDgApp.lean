/- Appending to rows of open length. -/
import Derived.Test.YtmnoegfehgoalaaGreatDoorDgLoop
namespace Go.Dg
set_option linter.unusedVariables false
end Go.Dg
