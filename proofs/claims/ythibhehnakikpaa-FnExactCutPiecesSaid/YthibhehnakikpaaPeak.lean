/-
  The peak of trips.
-/
import Derived.Test.YthibhehnakikpaaPeakP
import Derived.Test.YthibhehnakikpaaTimeD
namespace Go.Proofs.Ythibhehnakikpaa
open Go Go.RowKit
set_option linter.unusedVariables false
set_option maxRecDepth 100000
theorem TimeFacts.grows {t : Timetable} (h : TimeFacts t) : ∀ x, x ∈ t.Trips → 0 ≤ x.Start ∧ x.Start ≤ 1799 ∧ x.Start < endAt t x := fun x hx => by
  obtain ⟨i, hi, rfl⟩ := List.getElem_of_mem hx
  have f := h.trip i _ (List.getElem?_eq_getElem hi)
  have lf := lineAtT_facts h.net f.line0 f.line1
  have hb := sumI_bd (l := (lineAtT t t.Trips[i].Line).Runs) (lo := 1) (hi := 60) lf.run
  have h1 := lf.stops
  have h2 := lf.runs
  have := f.start
  unfold endAt
  omega
def peakRes (t : Timetable) : Int × Int × Bool := if okTimetable t then ((peakOf t).1, (peakOf t).2, true) else (0, 0, false)
end Go.Proofs.Ythibhehnakikpaa
