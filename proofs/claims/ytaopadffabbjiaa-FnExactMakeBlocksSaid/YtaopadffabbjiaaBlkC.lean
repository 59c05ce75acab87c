/-
  Blocks: when they are valid, in the reference.
-/
import Derived.Test.YtaopadffabbjiaaBlkB
import Derived.Test.YtaopadffabbjiaaTimeE
namespace Go.Proofs.Ytaopadffabbjiaa
open Go Go.RowKit
set_option linter.unusedVariables false
set_option maxRecDepth 100000
end Go.Proofs.Ytaopadffabbjiaa
