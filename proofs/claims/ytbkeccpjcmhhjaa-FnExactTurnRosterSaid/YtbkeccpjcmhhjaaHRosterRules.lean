/-
  Helpers of the statements on RosterRules and slices of it. Printed by a program of ours (gen_flat.py).
-/
import Derived.Test.YtbkeccpjcmhhjaaInts
import Derived.StillTailTactics
namespace Go.Proofs.Ytbkeccpjcmhhjaa
open Go Go.RowKit
set_option linter.unusedVariables false
set_option maxRecDepth 100000
theorem laws_toRosterRules (t : RosterRules) (w : World) : Calls Try.prog 96 #[.agg #[.int .i64 t.MinRest, .int .i64 t.MaxRow, .int .i64 t.MaxWeek]] w (Ret (.agg #[.int .i64 t.MinRest, .int .i64 t.MaxRow, .int .i64 t.MaxWeek]) w) := by
  go_enter Try.func96, Try.ntmps96
  go_wp2
  exact bodyPost_ret (by simp [results, Try.results96, go_sem]) rfl ⟨rfl, inferInstance⟩
theorem laws_eqRosterRules (a b : RosterRules) (w : World) : Calls Try.prog 102 #[.agg #[.int .i64 a.MinRest, .int .i64 a.MaxRow, .int .i64 a.MaxWeek], .agg #[.int .i64 b.MinRest, .int .i64 b.MaxRow, .int .i64 b.MaxWeek]] w (Ret (.bool (decide (a = b))) w) := by
  go_enter Try.func102, Try.ntmps102
  go_wp2
  all_goals
    go_ret
    exact ⟨ret_bool (by cases a; cases b; simp_all), inferInstance⟩
end Go.Proofs.Ytbkeccpjcmhhjaa
