/-
  The rules of duties: what the calls return, for all arguments.
-/
import Derived.Test.YthibhehnakikpaaGreatNum
namespace Go.Proofs.YthibhehnakikpaaGreat
open Go Go.RowKit
set_option linter.unusedVariables false
set_option maxRecDepth 100000
def okRules (t : Rules) : Bool := inB t.SignOn 0 900 && inB t.SignOff 0 900 && inB t.MaxDrive 0 900 && inB t.MinBreak 0 900 && inB t.PaidBreak 0 900 && inB t.MaxLength 0 900
theorem spec_l12Minutes (x : Int) (w : World) : Calls Tryz.prog 122 #[.int .i64 x] w (RetS (.bool (inB x 0 900)) w) := by
  go_enter Tryz.func122, Tryz.ntmps122
  go_wp2_with (go_at_call 134; refine (spec_l1In _ _ _ _).mono ?_; rintro e w' ⟨rfl, rfl⟩)
  go_ret
  exact ⟨rfl, rfl⟩
theorem spec_l12Rules (t : Rules) (w : World) : Calls Tryz.prog 91 #[.agg #[.int .i64 t.SignOn, .int .i64 t.SignOff, .int .i64 t.MaxDrive, .int .i64 t.MinBreak, .int .i64 t.PaidBreak, .int .i64 t.MaxLength]] w (Ret (.bool (okRules t)) w) := by
  go_enter Tryz.func91, Tryz.ntmps91
  go_wp2_with (go_at_call 122; refine (spec_l12Minutes _ _).mono ?_; rintro e w' ⟨rfl, rfl⟩)
  all_goals
    go_ret
    exact ⟨ret_bool (by simp [okRules, *]), inferInstance⟩
theorem laws_toRules (t : Rules) (w : World) : Calls Tryz.prog 20 #[.agg #[.int .i64 t.SignOn, .int .i64 t.SignOff, .int .i64 t.MaxDrive, .int .i64 t.MinBreak, .int .i64 t.PaidBreak, .int .i64 t.MaxLength]] w (Ret (.agg #[.int .i64 t.SignOn, .int .i64 t.SignOff, .int .i64 t.MaxDrive, .int .i64 t.MinBreak, .int .i64 t.PaidBreak, .int .i64 t.MaxLength]) w) := by
  go_enter Tryz.func20, Tryz.ntmps20
  go_wp2
  exact bodyPost_ret (by simp [results, Tryz.results20, go_sem]) rfl ⟨rfl, inferInstance⟩
theorem impl_IsValidRules (t : Rules) (w : World) : Calls Tryz.prog 98 #[.agg #[.int .i64 t.SignOn, .int .i64 t.SignOff, .int .i64 t.MaxDrive, .int .i64 t.MinBreak, .int .i64 t.PaidBreak, .int .i64 t.MaxLength]] w (Ret (.bool (okRules t)) w) := by
  have i0 : ∀ W, (Instr.index 144 (.agg #[.int .i64 t.SignOn, .int .i64 t.SignOff, .int .i64 t.MaxDrive, .int .i64 t.MinBreak, .int .i64 t.PaidBreak, .int .i64 t.MaxLength]) (.int .i64 0)).run Tryz.prog W = .ok (.int .i64 t.SignOn) W := fun _ => by kernel_rfl
  have i1 : ∀ W, (Instr.index 144 (.agg #[.int .i64 t.SignOn, .int .i64 t.SignOff, .int .i64 t.MaxDrive, .int .i64 t.MinBreak, .int .i64 t.PaidBreak, .int .i64 t.MaxLength]) (.int .i64 1)).run Tryz.prog W = .ok (.int .i64 t.SignOff) W := fun _ => by kernel_rfl
  have i2 : ∀ W, (Instr.index 144 (.agg #[.int .i64 t.SignOn, .int .i64 t.SignOff, .int .i64 t.MaxDrive, .int .i64 t.MinBreak, .int .i64 t.PaidBreak, .int .i64 t.MaxLength]) (.int .i64 2)).run Tryz.prog W = .ok (.int .i64 t.MaxDrive) W := fun _ => by kernel_rfl
  have i3 : ∀ W, (Instr.index 144 (.agg #[.int .i64 t.SignOn, .int .i64 t.SignOff, .int .i64 t.MaxDrive, .int .i64 t.MinBreak, .int .i64 t.PaidBreak, .int .i64 t.MaxLength]) (.int .i64 3)).run Tryz.prog W = .ok (.int .i64 t.MinBreak) W := fun _ => by kernel_rfl
  have i4 : ∀ W, (Instr.index 144 (.agg #[.int .i64 t.SignOn, .int .i64 t.SignOff, .int .i64 t.MaxDrive, .int .i64 t.MinBreak, .int .i64 t.PaidBreak, .int .i64 t.MaxLength]) (.int .i64 4)).run Tryz.prog W = .ok (.int .i64 t.PaidBreak) W := fun _ => by kernel_rfl
  have i5 : ∀ W, (Instr.index 144 (.agg #[.int .i64 t.SignOn, .int .i64 t.SignOff, .int .i64 t.MaxDrive, .int .i64 t.MinBreak, .int .i64 t.PaidBreak, .int .i64 t.MaxLength]) (.int .i64 5)).run Tryz.prog W = .ok (.int .i64 t.MaxLength) W := fun _ => by kernel_rfl
  go_enter Tryz.func98, Tryz.ntmps98
  go_wp2
  refine wp_loop_rounds 7 ?_
  repeat any_goals (rw [rounds_succ]; go_wp2_with (go_at_call 111; refine (impl_within _ _ _ _).mono ?_; rintro e w' ⟨rfl, rfl⟩))
  all_goals
    go_ret
    exact ⟨ret_bool (by simp_all [okRules]), inferInstance⟩
end Go.Proofs.YthibhehnakikpaaGreat
