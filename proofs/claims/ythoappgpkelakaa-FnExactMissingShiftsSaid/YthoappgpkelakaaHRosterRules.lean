/-
  Helpers of the statements on RosterRules and slices of it. Printed by a program of ours (gen_flat.py).
-/
import Derived.Test.YthoappgpkelakaaInts
import Derived.StillTailTactics
namespace Go.Proofs.Ythoappgpkelakaa
open Go Go.RowKit
set_option linter.unusedVariables false
theorem laws_toRosterRules (t : RosterRules) (w : World) : Calls Try.prog 50 #[.agg #[.int .i64 t.MinRest, .int .i64 t.MaxRow, .int .i64 t.MaxWeek]] w (Ret (.agg #[.int .i64 t.MinRest, .int .i64 t.MaxRow, .int .i64 t.MaxWeek]) w) := by
  go_enter Try.func50, Try.ntmps50
  go_wp2
  exact bodyPost_ret (by simp [results, Try.results50, go_sem]) rfl ⟨rfl, inferInstance⟩
theorem laws_eqRosterRules (a b : RosterRules) (w : World) : Calls Try.prog 54 #[.agg #[.int .i64 a.MinRest, .int .i64 a.MaxRow, .int .i64 a.MaxWeek], .agg #[.int .i64 b.MinRest, .int .i64 b.MaxRow, .int .i64 b.MaxWeek]] w (Ret (.bool (decide (a = b))) w) := by
  go_enter Try.func54, Try.ntmps54
  go_wp2
  all_goals
    go_ret
    exact ⟨ret_bool (by cases a; cases b; simp_all), inferInstance⟩
end Go.Proofs.Ythoappgpkelakaa
