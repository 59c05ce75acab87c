/-
  The marks that a datum takes are no more than its size.
-/
import Derived.Test.YtbkeccpjcmhhjaaHTimetable
import Derived.Test.YtbkeccpjcmhhjaaHFleet
namespace Go.Proofs.Ytbkeccpjcmhhjaa
open Go Go.RowKit
set_option linter.unusedVariables false
set_option maxRecDepth 100000
theorem cntLines_le (l : List Line) : cntLines l ≤ l.length + sumLine l := by
  induction l with
  | nil => simp [cntLines, sumLine]
  | cons x l ih => simp only [cntLines, sumLine, List.length_cons, totLine]; omega
theorem cntNetwork_le (n : Network) : cntNetwork n ≤ totNetwork n := by
  have := cntLines_le n.Lines
  unfold cntNetwork totNetwork totStrs totLines
  omega
theorem cntTimetable_le (t : Timetable) : cntTimetable t ≤ 3 * totTimetable t := by
  have := cntNetwork_le t.Network
  unfold cntTimetable totTimetable
  omega
theorem cntFleet_le (f : Fleet) : cntFleet f ≤ totFleet f := by
  unfold cntFleet totFleet totRows
  omega
end Go.Proofs.Ytbkeccpjcmhhjaa
