/- The walk of the reference's Right. -/
import Derived.Test.YtnihaaifkogpbaaStp3
namespace Go.Proofs.Ytnihaaifkogpbaa
open Go.ChangeShapes Go.WideShapes Go.ChangeAt Go.RowKit
set_option linter.unusedVariables false
end Go.Proofs.Ytnihaaifkogpbaa
