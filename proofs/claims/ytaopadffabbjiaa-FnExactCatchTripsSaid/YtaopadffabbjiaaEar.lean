/-
  Earliest arrivals: the program's functions.
-/
import Derived.Test.YtaopadffabbjiaaArrB
import Derived.Test.YtaopadffabbjiaaEarP
import Derived.Test.YtaopadffabbjiaaTimeC
import Derived.Deep.RegionHeld3
import Derived.Test.YtaopadffabbjiaaCopy
namespace Go.Proofs.Ytaopadffabbjiaa
open Go Go.RowKit
set_option linter.unusedVariables false
set_option maxRecDepth 100000
end Go.Proofs.Ytaopadffabbjiaa
