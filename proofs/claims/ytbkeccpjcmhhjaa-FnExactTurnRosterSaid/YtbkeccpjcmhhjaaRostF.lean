/-
  Rosters: whether the rules are kept.
-/
import Derived.Test.YtbkeccpjcmhhjaaRostE
import Derived.Deep.RegionHeld3
namespace Go.Proofs.Ytbkeccpjcmhhjaa
open Go Go.RowKit
set_option linter.unusedVariables false
set_option maxRecDepth 100000
def keepsOf (r : Roster) (d : Nat) : Bool := decide ((restsOf r d).length = 0) && decide (longest r d ≤ r.Rules.MaxRow) && decide ((busiest r d).2 ≤ r.Rules.MaxWeek)
/-- All keep the rules, from the k-th on. -/
def keepAll (r : Roster) : Nat → Nat → Bool
  | 0, _ => true
  | f + 1, k => keepsOf r k && keepAll r f (k + 1)
def keepsRes (r : Roster) : Bool × Bool := if okRoster r then (keepAll r r.Plan.length 0, true) else (false, false)
end Go.Proofs.Ytbkeccpjcmhhjaa
