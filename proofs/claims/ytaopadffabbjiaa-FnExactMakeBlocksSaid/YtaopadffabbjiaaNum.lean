/-
  Small functions on numbers: what each call returns, for all arguments.
-/
import Derived.Test.YtaopadffabbjiaaTypes
import Derived.Deep.QuietTactic
import Derived.BigQuiet
import Derived.Outline
import Derived.Lib.Hide
namespace Go.Proofs.Ytaopadffabbjiaa
open Go Go.RowKit
set_option linter.unusedVariables false
set_option maxRecDepth 100000
def inB (n lo hi : Int) : Bool := decide (lo ≤ n ∧ n ≤ hi)
theorem inB_t {n lo hi : Int} : inB n lo hi = true ↔ lo ≤ n ∧ n ≤ hi := by simp [inB]
theorem inB_f {n lo hi : Int} : inB n lo hi = false ↔ ¬ (lo ≤ n ∧ n ≤ hi) := by simp [inB]
theorem ret_int {k : IntKind} {a b : Int} (h : a = b) : Ending.returned (.int k a) = .returned (.int k b) := by rw [h]
theorem ret_bool {a b : Bool} (h : a = b) : Ending.returned (.bool a) = .returned (.bool b) := by rw [h]
def leastI (a b : Int) : Int := if a < b then a else b
def mostI (a b : Int) : Int := if a < b then b else a
theorem impl_within (n lo hi : Int) (w : World) : Calls Try.prog 112 #[.int .i64 n, .int .i64 lo, .int .i64 hi] w (RetS (.bool (inB n lo hi)) w) := by
  go_enter Try.func112, Try.ntmps112
  go_wp2
  all_goals
    go_ret
    exact ⟨ret_bool (by simp [inB]; try omega), rfl⟩
theorem spec_l1In (n lo hi : Int) (w : World) : Calls Try.prog 55 #[.int .i64 n, .int .i64 lo, .int .i64 hi] w (RetS (.bool (inB n lo hi)) w) := by
  go_enter Try.func55, Try.ntmps55
  go_wp2
  all_goals
    go_ret
    exact ⟨ret_bool (by simp [inB]; try omega), rfl⟩
theorem spec_l1Least (a b : Int) (w : World) : Calls Try.prog 126 #[.int .i64 a, .int .i64 b] w (RetS (.int .i64 (leastI a b)) w) := by
  go_enter Try.func126, Try.ntmps126
  go_wp2
  all_goals
    go_ret
    exact ⟨ret_int (by unfold leastI; split <;> omega), rfl⟩
end Go.Proofs.Ytaopadffabbjiaa
