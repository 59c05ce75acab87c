/-
  Duties: sizes of lists of duties that the statements hand over. Lemmas only.
-/
import Derived.Test.YthibhehnakikpaaGreatHDutyS
import Derived.Test.YthibhehnakikpaaGreatDTot
namespace Go.Proofs.YthibhehnakikpaaGreat
open Go Go.RowKit
set_option linter.unusedVariables false
set_option maxRecDepth 100000
theorem fitsS_of {l : List Duty} (h : totDutys l ≤ 1048576) : ∀ d, d ∈ l → Fits d.Pieces := by
  intro d hd
  obtain ⟨k, hk⟩ := List.getElem?_of_mem hd
  have := tot_le_sumDuty hk
  unfold totDutys at h
  exact fits_of (by omega)
end Go.Proofs.YthibhehnakikpaaGreat
