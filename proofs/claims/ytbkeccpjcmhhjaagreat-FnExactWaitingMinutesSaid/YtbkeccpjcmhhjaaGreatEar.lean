/-
  Earliest arrivals: the program's functions.
-/
import Derived.Test.YtbkeccpjcmhhjaaGreatArrB
import Derived.Test.YtbkeccpjcmhhjaaGreatEarP
import Derived.Test.YtbkeccpjcmhhjaaGreatTimeC
import Derived.Deep.RegionHeld3
import Derived.Test.YtbkeccpjcmhhjaaGreatCopy
namespace Go.Proofs.YtbkeccpjcmhhjaaGreat
open Go Go.RowKit
set_option linter.unusedVariables false
set_option maxRecDepth 100000
theorem impl_isChange (v : Int) (w : World) : Calls Tryz.prog 41 #[.int .i64 v] w (RetS (.bool (inB v 0 30)) w) := by
  go_enter Tryz.func41, Tryz.ntmps41
  go_wp2_with (go_at_call 63; refine (impl_within _ _ _ _).mono ?_; rintro e w' ⟨rfl, rfl⟩)
  go_ret
  exact ⟨rfl, rfl⟩
end Go.Proofs.YtbkeccpjcmhhjaaGreat
