/-
  Helpers of the statements on Fleet. Printed by a program of ours (gen_struct.py).
-/
import Derived.Test.YteeeihnkofoagaaHIntSS
namespace Go.Proofs.Yteeeihnkofoagaa
open Go Go.RowKit
set_option linter.unusedVariables false
set_option maxRecDepth 100000
def totFleet (t : Fleet) : Nat := (totRows t.Dead)
def cntFleet (t : Fleet) : Nat := (sumLen t.Dead)
def mkFleet (k : Int) (t : Fleet) : Fleet := { t with Dead := mkRows k t.Dead }
end Go.Proofs.Yteeeihnkofoagaa
