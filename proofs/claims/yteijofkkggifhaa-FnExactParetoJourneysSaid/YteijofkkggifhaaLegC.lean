/-
  Legs: filling one by a trip's id, in the reference.
-/
import Derived.Test.YteijofkkggifhaaLegB

namespace Go.Proofs.Yteijofkkggifhaa
open Go Go.RowKit
set_option linter.unusedVariables false
set_option maxRecDepth 100000
end Go.Proofs.Yteijofkkggifhaa
