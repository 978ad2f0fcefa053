/- The walk of the law StripeDeals. -/
import Derived.Test.YtnihaaifkogpbaaStpL
namespace Go.Proofs.Ytnihaaifkogpbaa
open Go.ChangeShapes Go.WideShapes Go.ChangeAt Go.RowKit
set_option linter.unusedVariables false
section
variable {D : Dom} {A : Option Addr} {c f t : Nat} {sets : List (List Nat)} {w : World}
end
end Go.Proofs.Ytnihaaifkogpbaa
