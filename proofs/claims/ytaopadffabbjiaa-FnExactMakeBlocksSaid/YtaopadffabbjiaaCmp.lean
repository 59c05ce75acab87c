/-
  cmp.Compare and cmp.Or on numbers.
-/
import Derived.Test.YtaopadffabbjiaaNetB
namespace Go.Proofs.Ytaopadffabbjiaa
open Go Go.RowKit
set_option linter.unusedVariables false
set_option maxRecDepth 100000
set_option linter.unusedSimpArgs false
def cmpI (a b : Int) : Int := if a < b then -1 else if b < a then 1 else 0
theorem cmp_isNaN (a : Int) (w : World) : Calls Try.prog 115 #[.int .i64 a] w (RetS (.bool false) w) := by
  have hbb : (a != a) = false := by simp
  go_enter Try.func115, Try.ntmps115
  go_wp2
  go_ret
  exact ⟨rfl, rfl⟩
theorem cmp_Compare (a b : Int) (w : World) : Calls Try.prog 70 #[.int .i64 a, .int .i64 b] w (RetS (.int .i64 (cmpI a b)) w) := by
  by_cases h1 : a < b
  · rw [show cmpI a b = -1 from if_pos h1]
    go_enter Try.func70, Try.ntmps70
    go_wp2_with (go_at_call 115; refine (cmp_isNaN _ _).mono ?_; rintro e w' ⟨rfl, rfl⟩)
    go_ret
    exact ⟨rfl, rfl⟩
  by_cases h2 : b < a
  · rw [show cmpI a b = 1 from by unfold cmpI; rw [if_neg h1, if_pos h2]]
    go_enter Try.func70, Try.ntmps70
    go_wp2_with (go_at_call 115; refine (cmp_isNaN _ _).mono ?_; rintro e w' ⟨rfl, rfl⟩)
    go_ret
    exact ⟨rfl, rfl⟩
  · rw [show cmpI a b = 0 from by unfold cmpI; rw [if_neg h1, if_neg h2]]
    go_enter Try.func70, Try.ntmps70
    go_wp2_with (go_at_call 115; refine (cmp_isNaN _ _).mono ?_; rintro e w' ⟨rfl, rfl⟩)
    go_ret
    exact ⟨rfl, rfl⟩
def orI : List Int → Int
  | [] => 0
  | x :: l => if x = 0 then orI l else x
theorem cmp_Or {w0 w : World} {A : Option Addr} {n c : Nat} {l : List Int} (h : Ints w0 A n c l) (hl : Later w0 w) : Calls Try.prog 113 #[.slice A n c] w (Ret (.int .i64 (orI l)) w) := by
  replace h := h.later hl
  have hn := h.le
  have HL := Lib.hid h.len
  go_enter Try.func113, Try.ntmps113
  go_wp2
  go_loopw [8] (fun i wr => ∃ k : Nat, k ≤ n ∧ i = .int .i64 k ∧ Hid (orI (l.drop k) = orI l) ∧ Later w wr) (fun i _ => n - (intOf i).toNat)
  case atStart => exact ⟨0, by omega, rfl, by show _ = _; rw [List.drop_zero], inferInstance⟩
  case round =>
    obtain ⟨k, hk, rfl, HF, hX⟩ := hrel
    by_cases hlt : k < n
    · obtain ⟨b, o, x, hA, hx, hc, _⟩ := Ints.at_ h hlt
      subst hA
      have HF1 := HF.out
      rw [drop_at hx.out] at HF1
      simp only [orI] at HF1
      have hki : (k : Int) < n := by omega
      clear HF hx
      by_cases hz : x = 0
      · rw [if_pos hz] at HF1
        have HF2 := Lib.hid HF1
        subst hz
        clear HF1
        go_wp2
        go_roundw
        case rel => exact ⟨k + 1, by omega, by go_num, HF2, inferInstance⟩
        case measure => simp [intOf]; omega
      · rw [if_neg hz] at HF1
        have HF2 := Lib.hid HF1
        have e1 := bnei_t hz
        clear HF1
        go_wp2
        go_ret
        exact ⟨ret_int HF2.out, inferInstance⟩
    · have HF2 : Hid (orI l = 0) := by
        have h9 := HF.out
        rw [List.drop_eq_nil_of_le (by have := HL.out; omega)] at h9
        exact h9.symm
      have hki : ¬ (k : Int) < n := by omega
      go_wp2
      go_ret
      exact ⟨ret_int HF2.out.symm, inferInstance⟩
end Go.Proofs.Ytaopadffabbjiaa
