/-
  Earliest arrivals: the program's way.
-/
import Derived.Test.YtaopadffabbjiaaRowA
import Derived.Test.YtaopadffabbjiaaArrQ

namespace Go.Proofs.Ytaopadffabbjiaa
open Go Go.RowKit
set_option linter.unusedVariables false
set_option maxRecDepth 100000
theorem trips_take {t : Timetable} {k : Nat} {x : Trip} (h : t.Trips[k]? = some x) : t.Trips.drop k = x :: t.Trips.drop (k + 1) := drop_at h
end Go.Proofs.Ytaopadffabbjiaa
