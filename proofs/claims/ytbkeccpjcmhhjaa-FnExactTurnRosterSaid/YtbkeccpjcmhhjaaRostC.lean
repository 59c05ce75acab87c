/-
  Rosters: worked minutes, the longest row.
-/
import Derived.Test.YtbkeccpjcmhhjaaRostB
namespace Go.Proofs.Ytbkeccpjcmhhjaa
open Go Go.RowKit
set_option linter.unusedVariables false
set_option maxRecDepth 100000
def asked (r : Roster) (d : Int) : Bool := okRoster r && inB d 0 ((r.Plan.length : Int) - 1)
theorem asked_t {r : Roster} {d : Int} (h : asked r d = true) : okRoster r = true ∧ inB d 0 ((r.Plan.length : Int) - 1) = true ∧ ∃ m : Nat, d = m ∧ m < r.Plan.length := by
  simp only [asked, Bool.and_eq_true] at h
  refine ⟨h.1, h.2, d.toNat, ?_⟩
  have := inB_t.1 h.2
  omega
def workedRes (r : Roster) (d : Int) : Int × Bool := if asked r d then (worked r d.toNat, true) else (0, false)
def lrGo : List Int → Int → Int → Int
  | [], most, _ => most
  | s :: l, most, now => lrGo l (mostI most (if s < 0 then 0 else now + 1)) (if s < 0 then 0 else now + 1)
def longest (r : Roster) (d : Nat) : Int := lrGo (rowOf r d) 0 0
theorem lrGo_neg {s : Int} {l : List Int} {a b : Int} (h : s < 0) : lrGo (s :: l) a b = lrGo l (mostI a 0) 0 := by simp [lrGo, h]
theorem lrGo_pos {s : Int} {l : List Int} {a b : Int} (h : ¬ s < 0) : lrGo (s :: l) a b = lrGo l (mostI a (b + 1)) (b + 1) := by simp [lrGo, h]
def longestRes (r : Roster) (d : Int) : Int × Bool := if asked r d then (longest r d.toNat, true) else (0, false)
end Go.Proofs.Ytbkeccpjcmhhjaa
