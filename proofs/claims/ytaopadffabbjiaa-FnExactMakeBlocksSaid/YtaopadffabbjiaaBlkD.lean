/-
  Blocks: IsValidBlocks on both sides.
-/
import Derived.Test.YtaopadffabbjiaaBlkC
namespace Go.Proofs.Ytaopadffabbjiaa
open Go Go.RowKit
set_option linter.unusedVariables false
set_option maxRecDepth 100000
end Go.Proofs.Ytaopadffabbjiaa
