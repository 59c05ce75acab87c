/-
 CanFollow: whether one trip can follow another in a block.
-/
import Derived.Test.YtknhebakebmlcaaGreatBlk
import Derived.Deep.RegionHeld3
namespace Go.Proofs.YtknhebakebmlcaaGreat
open Go Go.RowKit
set_option linter.unusedVariables false
set_option maxRecDepth 100000
def followOk (t : Timetable) (f : Fleet) (a b : Int) : Prop := okRun t f = true ∧ a ≠ b ∧ 0 ≤ findI t a ∧ 0 ≤ findI t b
instance (t : Timetable) (f : Fleet) (a b : Int) : Decidable (followOk t f a b) := by unfold followOk; infer_instance
def followRes (t : Timetable) (f : Fleet) (a b : Int) : Bool × Bool :=
 if followOk t f a b then (canF t f (tripI t (findI t a)) (tripI t (findI t b)), true) else (false, false)
theorem find_eq {t : Timetable} {a b : Int} (h : 0 ≤ findI t a) : findI t a = findI t b ↔ a = b := by
 constructor
 ·intro e
  have h1 := findI_id h
  have h2 := findI_id (t := t) (v := b) (by omega)
  rw [e] at h1
  omega
 ·rintro rfl; rfl
theorem find_at {t : Timetable} {a : Int} (h : 0 ≤ findI t a) : ∃ (i : Nat) (x : Trip), findI t a = i ∧ t.Trips[i]? = some x ∧ tripI t (findI t a) = x := by
 obtain ⟨i, hi⟩ := Int.eq_ofNat_of_zero_le h
 have := (findI_bd t a).2
 have hn : i < t.Trips.length := by omega
 exact ⟨i, t.Trips[i], hi, List.getElem?_eq_getElem hn, by rw [hi]; exact tripI_of (List.getElem?_eq_getElem hn)⟩
end Go.Proofs.YtknhebakebmlcaaGreat
