/-
  The rules of duties: what the calls return, for all arguments.
-/
import Derived.Test.YthoappgpkelakaaNum
namespace Go.Proofs.Ythoappgpkelakaa
open Go Go.RowKit
set_option linter.unusedVariables false
def okRules (t : Rules) : Bool := inB t.SignOn 0 900 && inB t.SignOff 0 900 && inB t.MaxDrive 0 900 && inB t.MinBreak 0 900 && inB t.PaidBreak 0 900 && inB t.MaxLength 0 900
theorem spec_l12Minutes (x : Int) (w : World) : Calls Try.prog 78 #[.int .i64 x] w (RetS (.bool (inB x 0 900)) w) := by
  go_enter Try.func78, Try.ntmps78
  go_wp2_with (go_at_call 44; refine (spec_l1In _ _ _ _).mono ?_; rintro e w' ⟨rfl, rfl⟩)
  go_ret
  exact ⟨rfl, rfl⟩
theorem spec_l12Rules (t : Rules) (w : World) : Calls Try.prog 42 #[.agg #[.int .i64 t.SignOn, .int .i64 t.SignOff, .int .i64 t.MaxDrive, .int .i64 t.MinBreak, .int .i64 t.PaidBreak, .int .i64 t.MaxLength]] w (Ret (.bool (okRules t)) w) := by
  go_enter Try.func42, Try.ntmps42
  go_wp2_with (go_at_call 78; refine (spec_l12Minutes _ _).mono ?_; rintro e w' ⟨rfl, rfl⟩)
  all_goals
    go_ret
    exact ⟨ret_bool (by simp [okRules, *]), inferInstance⟩
theorem spec_IsValidRules (t : Rules) (w : World) : Calls Try.prog 13 #[.agg #[.int .i64 t.SignOn, .int .i64 t.SignOff, .int .i64 t.MaxDrive, .int .i64 t.MinBreak, .int .i64 t.PaidBreak, .int .i64 t.MaxLength]] w (Ret (.bool (okRules t)) w) := by
  go_enter Try.func13, Try.ntmps13
  go_wp2_with (go_at_call 42; refine (spec_l12Rules _ _).mono ?_; rintro e w' ⟨rfl, hL⟩; have hU := Later.trans (w := w) inferInstance hL)
  go_ret
  exact ⟨rfl, hU⟩
theorem laws_toRules (t : Rules) (w : World) : Calls Try.prog 14 #[.agg #[.int .i64 t.SignOn, .int .i64 t.SignOff, .int .i64 t.MaxDrive, .int .i64 t.MinBreak, .int .i64 t.PaidBreak, .int .i64 t.MaxLength]] w (Ret (.agg #[.int .i64 t.SignOn, .int .i64 t.SignOff, .int .i64 t.MaxDrive, .int .i64 t.MinBreak, .int .i64 t.PaidBreak, .int .i64 t.MaxLength]) w) := by
  go_enter Try.func14, Try.ntmps14
  go_wp2
  exact bodyPost_ret (by simp [results, Try.results14, go_sem]) rfl ⟨rfl, inferInstance⟩
theorem impl_IsValidRules (t : Rules) (w : World) : Calls Try.prog 15 #[.agg #[.int .i64 t.SignOn, .int .i64 t.SignOff, .int .i64 t.MaxDrive, .int .i64 t.MinBreak, .int .i64 t.PaidBreak, .int .i64 t.MaxLength]] w (Ret (.bool (okRules t)) w) := by
  have i0 : ∀ W, (Instr.index 60 (.agg #[.int .i64 t.SignOn, .int .i64 t.SignOff, .int .i64 t.MaxDrive, .int .i64 t.MinBreak, .int .i64 t.PaidBreak, .int .i64 t.MaxLength]) (.int .i64 0)).run Try.prog W = .ok (.int .i64 t.SignOn) W := fun _ => by kernel_rfl
  have i1 : ∀ W, (Instr.index 60 (.agg #[.int .i64 t.SignOn, .int .i64 t.SignOff, .int .i64 t.MaxDrive, .int .i64 t.MinBreak, .int .i64 t.PaidBreak, .int .i64 t.MaxLength]) (.int .i64 1)).run Try.prog W = .ok (.int .i64 t.SignOff) W := fun _ => by kernel_rfl
  have i2 : ∀ W, (Instr.index 60 (.agg #[.int .i64 t.SignOn, .int .i64 t.SignOff, .int .i64 t.MaxDrive, .int .i64 t.MinBreak, .int .i64 t.PaidBreak, .int .i64 t.MaxLength]) (.int .i64 2)).run Try.prog W = .ok (.int .i64 t.MaxDrive) W := fun _ => by kernel_rfl
  have i3 : ∀ W, (Instr.index 60 (.agg #[.int .i64 t.SignOn, .int .i64 t.SignOff, .int .i64 t.MaxDrive, .int .i64 t.MinBreak, .int .i64 t.PaidBreak, .int .i64 t.MaxLength]) (.int .i64 3)).run Try.prog W = .ok (.int .i64 t.MinBreak) W := fun _ => by kernel_rfl
  have i4 : ∀ W, (Instr.index 60 (.agg #[.int .i64 t.SignOn, .int .i64 t.SignOff, .int .i64 t.MaxDrive, .int .i64 t.MinBreak, .int .i64 t.PaidBreak, .int .i64 t.MaxLength]) (.int .i64 4)).run Try.prog W = .ok (.int .i64 t.PaidBreak) W := fun _ => by kernel_rfl
  have i5 : ∀ W, (Instr.index 60 (.agg #[.int .i64 t.SignOn, .int .i64 t.SignOff, .int .i64 t.MaxDrive, .int .i64 t.MinBreak, .int .i64 t.PaidBreak, .int .i64 t.MaxLength]) (.int .i64 5)).run Try.prog W = .ok (.int .i64 t.MaxLength) W := fun _ => by kernel_rfl
  go_enter Try.func15, Try.ntmps15
  go_wp2
  refine wp_loop_rounds 7 ?_
  repeat any_goals (rw [rounds_succ]; go_wp2_with (go_at_call 43; refine (impl_within _ _ _ _).mono ?_; rintro e w' ⟨rfl, rfl⟩))
  all_goals
    go_ret
    exact ⟨ret_bool (by simp_all [okRules]), inferInstance⟩
theorem w_FnExactIsValidRules {t : Rules} {w : World} (h : RulesOk t) : Calls Try.prog 3 #[.agg #[.int .i64 t.SignOn, .int .i64 t.SignOff, .int .i64 t.MaxDrive, .int .i64 t.MinBreak, .int .i64 t.PaidBreak, .int .i64 t.MaxLength]] w (Ret (.bool true) w) := by
  have HB0 : ∀ W [Later (w.alloc (.cells #[.int .i64 t.SignOn, .int .i64 t.SignOff, .int .i64 t.MaxDrive, .int .i64 t.MinBreak, .int .i64 t.PaidBreak, .int .i64 t.MaxLength] 23)) W] (j : Nat), W.cell? ⟨w.heap.size, j, none⟩ = #[.int .i64 t.SignOn, .int .i64 t.SignOff, .int .i64 t.MaxDrive, .int .i64 t.MinBreak, .int .i64 t.PaidBreak, .int .i64 t.MaxLength][j]? := Later.boxes (t := 23) (fr := (0, 0)) (heap_new (by simp))
  go_enter Try.func3, Try.ntmps3
  go_wp2_with first
    | (go_at_call 14; refine (laws_toRules _ _).mono ?_; rintro e w1 ⟨rfl, hL⟩; have hX := Later.trans (w := (w.alloc (.cells #[.int .i64 t.SignOn, .int .i64 t.SignOff, .int .i64 t.MaxDrive, .int .i64 t.MinBreak, .int .i64 t.PaidBreak, .int .i64 t.MaxLength] 23))) inferInstance hL)
    | (go_at_call 13; refine (spec_IsValidRules _ _).mono ?_; rintro e w1 ⟨rfl, hL⟩; have hX := Later.trans (w := (w.alloc (.cells #[.int .i64 t.SignOn, .int .i64 t.SignOff, .int .i64 t.MaxDrive, .int .i64 t.MinBreak, .int .i64 t.PaidBreak, .int .i64 t.MaxLength] 23))) inferInstance hL)
    | (go_at_call 15; refine (impl_IsValidRules _ _).mono ?_; rintro e w1 ⟨rfl, hL⟩; have hX := Later.trans (w := (w.alloc (.cells #[.int .i64 t.SignOn, .int .i64 t.SignOff, .int .i64 t.MaxDrive, .int .i64 t.MinBreak, .int .i64 t.PaidBreak, .int .i64 t.MaxLength] 23))) inferInstance hL)
  have hU := Later.trans (w := w) inferInstance hX
  go_ret
  exact ⟨rfl, inferInstance⟩
end Go.Proofs.Ythoappgpkelakaa
