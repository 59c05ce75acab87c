/-
  Rosters: the broken rests.
-/
import Derived.Test.YtbkeccpjcmhhjaaRostD
import Derived.Test.YtbkeccpjcmhhjaaApp
namespace Go.Proofs.Ytbkeccpjcmhhjaa
open Go Go.RowKit
set_option linter.unusedVariables false
set_option maxRecDepth 100000
def shiftOf (r : Roster) (s : Int) : Span := r.Shifts.getD s.toNat ⟨0, 0⟩
def restsGo (r : Roster) : List Int → Nat → Int → List Int
  | [], _, _ => []
  | s :: l, d, q => if s < 0 then restsGo r l (d + 1) q
    else if 1440 * (d : Int) + (shiftOf r s).From - q < r.Rules.MinRest then (d : Int) :: restsGo r l (d + 1) (1440 * (d : Int) + (shiftOf r s).To)
    else restsGo r l (d + 1) (1440 * (d : Int) + (shiftOf r s).To)
def restsOf (r : Roster) (d : Nat) : List Int := restsGo r (rowOf r d) 0 (-1000000)
theorem restsGo_bd (r : Roster) (l : List Int) (d : Nat) (q : Int) : ∀ y, y ∈ restsGo r l d q → (d : Int) ≤ y ∧ y < (d : Int) + l.length := by
  induction l generalizing d q with
  | nil => intro y hy; simp [restsGo] at hy
  | cons s l ih =>
    intro y hy
    simp only [restsGo] at hy
    simp only [List.length_cons]
    split at hy
    · have := ih _ _ y hy; omega
    · split at hy
      · rcases List.mem_cons.1 hy with h | h
        · omega
        · have := ih _ _ y h; omega
      · have := ih _ _ y hy; omega
theorem restsGo_len (r : Roster) (l : List Int) (d : Nat) (q : Int) : (restsGo r l d q).length ≤ l.length := by
  induction l generalizing d q with
  | nil => simp [restsGo]
  | cons s l ih =>
    simp only [restsGo, List.length_cons]
    split
    · have := ih (d + 1) q; omega
    · split
      · have := ih (d + 1) (1440 * (d : Int) + (shiftOf r s).To); simp; omega
      · have := ih (d + 1) (1440 * (d : Int) + (shiftOf r s).To); omega
def restsRes (r : Roster) (d : Int) : List Int × Bool := if asked r d then (restsOf r d.toNat, true) else ([], false)
theorem restsRes_len (r : Roster) (d : Int) : (restsRes r d).1.length ≤ 14 := by
  unfold restsRes
  split
  · rename_i ha
    obtain ⟨hv, _, m, rfl, hm⟩ := asked_t ha
    have ok := rosterFacts hv
    have h1 := restsGo_len r (rowOf r m) 0 (-1000000)
    have h2 := (ok.row m _ (List.getElem?_eq_getElem hm)).1
    have h3 := ok.days
    have h4 : rowOf r m = r.Plan[m] := rowOf_eq (List.getElem?_eq_getElem hm)
    rw [h4, h2] at h1
    simp only [Int.toNat_natCast]
    unfold restsOf
    rw [h4]
    unfold days at h3
    omega
  · simp
end Go.Proofs.Ytbkeccpjcmhhjaa
