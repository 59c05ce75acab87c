/-
 Duties: the sum of the paid minutes (TotalPaid).
-/
import Derived.Test.YtknhebakebmlcaaGreatCover
import Derived.Test.YtknhebakebmlcaaGreatPaid
namespace Go.Proofs.YtknhebakebmlcaaGreat
open Go Go.RowKit
set_option linter.unusedVariables false
set_option maxRecDepth 100000
end Go.Proofs.YtknhebakebmlcaaGreat
