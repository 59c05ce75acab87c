/-
  Helpers of the statements on Span and slices of it. Printed by a program of ours (gen_flat.py).
-/
import Derived.Test.YtaopadffabbjiaaInts
import Derived.StillTailTactics
namespace Go.Proofs.Ytaopadffabbjiaa
open Go Go.RowKit
set_option linter.unusedVariables false
set_option maxRecDepth 100000
end Go.Proofs.Ytaopadffabbjiaa
