/-
  Helpers of the statements on Span and slices of it. Printed by a program of ours (gen_flat.py).
-/
import Derived.Test.YtbkeccpjcmhhjaaGreatInts
import Derived.StillTailTactics
namespace Go.Proofs.YtbkeccpjcmhhjaaGreat
open Go Go.RowKit
set_option linter.unusedVariables false
set_option maxRecDepth 100000
theorem laws_toSpan (t : Span) (w : World) : Calls Tryz.prog 8 #[.agg #[.int .i64 t.From, .int .i64 t.To]] w (Ret (.agg #[.int .i64 t.From, .int .i64 t.To]) w) := by
  go_enter Tryz.func8, Tryz.ntmps8
  go_wp2
  exact bodyPost_ret (by simp [results, Tryz.results8, go_sem]) rfl ⟨rfl, inferInstance⟩
end Go.Proofs.YtbkeccpjcmhhjaaGreat
