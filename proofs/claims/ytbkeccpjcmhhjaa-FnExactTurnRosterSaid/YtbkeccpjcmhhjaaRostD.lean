/-
  Rosters: the busiest week.
-/
import Derived.Test.YtbkeccpjcmhhjaaRostC
import Derived.OwnWalk
namespace Go.Proofs.Ytbkeccpjcmhhjaa
open Go Go.RowKit
set_option linter.unusedVariables false
set_option maxRecDepth 100000
/-- The minutes of the days d .. d+6 of a row. -/
def weekOf (r : Roster) (x : List Int) (d : Nat) : Int := rowSum r ((x.take (min (d + 7) x.length)).drop d)
def wkGo (r : Roster) (x : List Int) : Nat → Nat → Int → Int → Int × Int
  | 0, _, b, m => (b, m)
  | f + 1, d, b, m => if m < weekOf r x d then wkGo r x f (d + 1) d (weekOf r x d) else wkGo r x f (d + 1) b m
def weeks (n : Nat) : Nat := if n < 8 then 1 else n - 6
def busiest (r : Roster) (d : Nat) : Int × Int := wkGo r (rowOf r d) (weeks (rowOf r d).length) 0 0 (-1)
theorem weekOf_bd {r : Roster} (h : RosterFacts r) (x : List Int) (d : Nat) (hl : ∀ s, s ∈ x → s < r.Shifts.length) : 0 ≤ weekOf r x d ∧ weekOf r x d ≤ 1799 * 7 := by
  have := rowSum_bd h ((x.take (min (d + 7) x.length)).drop d) fun s hs => hl s (List.mem_of_mem_take (List.mem_of_mem_drop hs))
  have h2 : ((x.take (min (d + 7) x.length)).drop d).length ≤ 7 := by simp; omega
  unfold weekOf
  omega
theorem spec_l1Least_l {a b : Int} (h : a < b) (w : World) : Calls Try.prog 257 #[.int .i64 a, .int .i64 b] w (RetS (.int .i64 a) w) := by
  have := spec_l1Least a b w
  rwa [show leastI a b = a from if_pos h] at this
theorem spec_l1Least_r {a b : Int} (h : ¬ a < b) (w : World) : Calls Try.prog 257 #[.int .i64 a, .int .i64 b] w (RetS (.int .i64 b) w) := by
  have := spec_l1Least a b w
  rwa [show leastI a b = b from if_neg h] at this
theorem take_at {α : Type} {x : List α} {k m : Nat} {s : α} (h : x[k]? = some s) (hk : k < m) : (x.take m)[k]? = some s := by rw [List.getElem?_take_of_lt hk]; exact h
def busiestRes (r : Roster) (d : Int) : Int × Int × Bool := if asked r d then ((busiest r d.toNat).1, (busiest r d.toNat).2, true) else (0, 0, false)
end Go.Proofs.Ytbkeccpjcmhhjaa
