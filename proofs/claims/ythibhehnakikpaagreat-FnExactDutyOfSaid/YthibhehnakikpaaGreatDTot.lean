/-
  Duties: sizes of what the statements hand over. Lemmas only.
-/
import Derived.Test.YthibhehnakikpaaGreatHDuty
import Derived.Test.YthibhehnakikpaaGreatDa
namespace Go.Proofs.YthibhehnakikpaaGreat
open Go Go.RowKit
set_option linter.unusedVariables false
set_option maxRecDepth 100000
theorem sumLen_flat (l : List (List Int)) : l.flatten.length = sumLen l := by
  induction l with
  | nil => rfl
  | cons x l ih => simp only [List.flatten_cons, List.length_append, sumLen, ih]
theorem fits_of {d : Duty} (h : totDuty d ≤ 1048576) : Fits d.Pieces := by
  unfold totDuty totRows at h
  refine ⟨by rw [sumLen_flat]; omega, fun p hp => ?_⟩
  obtain ⟨k, hk⟩ := List.getElem?_of_mem hp
  have := len_le_sumLen hk
  omega
end Go.Proofs.YthibhehnakikpaaGreat
