/-
 CanFollow: whether one trip can follow another in a block.
-/
import Derived.Test.YtknhebakebmlcaaGreatBlk
import Derived.Deep.RegionHeld3
namespace Go.Proofs.YtknhebakebmlcaaGreat
open Go Go.RowKit
set_option linter.unusedVariables false
set_option maxRecDepth 100000
theorem find_at {t : Timetable} {a : Int} (h : 0 ≤ findI t a) : ∃ (i : Nat) (x : Trip), findI t a = i ∧ t.Trips[i]? = some x ∧ tripI t (findI t a) = x := by
 obtain ⟨i, hi⟩ := Int.eq_ofNat_of_zero_le h
 have := (findI_bd t a).2
 have hn : i < t.Trips.length := by omega
 exact ⟨i, t.Trips[i], hi, List.getElem?_eq_getElem hn, by rw [hi]; exact tripI_of (List.getElem?_eq_getElem hn)⟩
end Go.Proofs.YtknhebakebmlcaaGreat
