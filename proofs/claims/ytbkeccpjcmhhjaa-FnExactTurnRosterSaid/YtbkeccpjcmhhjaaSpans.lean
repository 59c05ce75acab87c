/-
  Times and spans: what the calls on them return.
-/
import Derived.Test.YtbkeccpjcmhhjaaInts
import Derived.Test.YtbkeccpjcmhhjaaTime
namespace Go.Proofs.Ytbkeccpjcmhhjaa
open Go Go.RowKit
set_option linter.unusedVariables false
set_option maxRecDepth 100000
def okSpan (x : Span) : Bool := inB x.From 0 1799 && inB x.To 0 1799 && decide (x.From ≤ x.To)
theorem spec_l4Span (x : Span) (w : World) : Calls Try.prog 190 #[.agg #[.int .i64 x.From, .int .i64 x.To]] w (Ret (.bool (okSpan x)) w) := by
  go_enter Try.func190, Try.ntmps190
  go_wp2_with (go_at_call 174; refine (spec_l4Time _ _).mono ?_; rintro e w' ⟨rfl, rfl⟩)
  all_goals
    go_ret
    exact ⟨ret_bool (by simp_all [okSpan, okTime]), inferInstance⟩
theorem impl_isSpan (x : Span) (w : World) : Calls Try.prog 243 #[.agg #[.int .i64 x.From, .int .i64 x.To]] w (Ret (.bool (okSpan x)) w) := by
  go_enter Try.func243, Try.ntmps243
  go_wp2_with (go_at_call 156; refine (impl_IsValidTime _ _).mono ?_; rintro e w' ⟨rfl, rfl⟩)
  all_goals
    go_ret
    exact ⟨ret_bool (by simp_all [okSpan, okTime]), inferInstance⟩
theorem impl_areSpans {w0 w : World} {A : Option Addr} {n c : Nat} {l : List Span} (h : Spans w0 A n c l) (hl : Later w0 w) :
    Calls Try.prog 192 #[.slice A n c] w (Ret (.bool (decide (l.length ≤ 20) && l.all okSpan)) w) := by
  replace h := h.later hl
  have hn := h.le
  have hlen := Lib.hid h.len
  go_enter Try.func192, Try.ntmps192
  go_wp2
  any_goals
    go_ret
    exact ⟨ret_bool (by rw [decide_eq_false (by rw [← hlen.out]; omega)]; rfl), inferInstance⟩
  go_loopw [10] (fun i wr => ∃ (k : Nat), k ≤ n ∧ i = .int .i64 k ∧ Hid (l.all okSpan = (l.drop k).all okSpan) ∧ Later w wr) (fun i _ => n - (intOf i).toNat)
  case atStart => exact ⟨0, by omega, rfl, rfl, inferInstance⟩
  case round =>
    obtain ⟨k, hk, rfl, HF, hX⟩ := hrel
    by_cases hlt : k < n
    · obtain ⟨b, o, x, rfl, hx, hc0, hc1, hi⟩ := Spans.at_ h hlt
      have HF1 : Hid (l.all okSpan = (okSpan x && (l.drop (k + 1)).all okSpan)) := by rw [HF.out, drop_at hx.out]; rfl
      clear HF hi
      go_wp2_with (go_at_call 243; refine (impl_isSpan _ _).mono ?_; rintro e w1 ⟨rfl, hL⟩; have hU := Later.trans (w := w) inferInstance hL)
      any_goals
        go_ret
        have hb0 : (!okSpan x) = true := by assumption
        have hb : okSpan x = false := by simpa using hb0
        exact ⟨ret_bool (by rw [HF1.out, hb]; simp), inferInstance⟩
      have hb0 : (!okSpan x) = false := by assumption
      have hb : okSpan x = true := by simpa using hb0
      go_roundw
      case rel => exact ⟨k + 1, by omega, by go_num, by rw [HF1.out, hb]; rfl, inferInstance⟩
      case measure => simp [intOf]; omega
    · have HF1 : Hid (l.all okSpan = true) := by rw [HF.out, List.drop_eq_nil_of_le (by have := hlen.out; omega)]; rfl
      have h20 : n ≤ 20 := by omega
      clear HF
      go_wp2
      go_ret
      exact ⟨ret_bool (by rw [HF1.out, decide_eq_true (by rw [← hlen.out]; omega)]; rfl), inferInstance⟩
end Go.Proofs.Ytbkeccpjcmhhjaa
