/- The reference's Right of links. -/
import Derived.Test.YtnihaaifkogpbaaTkS
namespace Go.Proofs.Ytnihaaifkogpbaa
open Go.ChangeShapes Go.WideShapes Go.ChangeAt Go.RowKit
set_option linter.unusedVariables false
section
variable {D : Dom} {A : Option Addr} {n c pos : Nat} {l : List Lnk} {w : World}
end
end Go.Proofs.Ytnihaaifkogpbaa
