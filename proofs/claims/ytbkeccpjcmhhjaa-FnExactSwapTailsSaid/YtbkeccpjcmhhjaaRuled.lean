/-
  Blocks and rules: whether all are valid; the bound of duties.
-/
import Derived.Test.YtbkeccpjcmhhjaaBlkD
import Derived.Test.YtbkeccpjcmhhjaaRules
namespace Go.Proofs.Ytbkeccpjcmhhjaa
open Go Go.RowKit
set_option linter.unusedVariables false
set_option maxRecDepth 100000
def okRuled (t : Timetable) (f : Fleet) (bs : List (List Int)) (r : Rules) : Bool := okBlocks t f bs && okRules r
theorem okRuled_blocks {t : Timetable} {f : Fleet} {bs : List (List Int)} {r : Rules} (h : okRuled t f bs r = true) : okBlocks t f bs = true := by
  unfold okRuled at h; simp at h; exact h.1
theorem okRuled_time {t : Timetable} {f : Fleet} {bs : List (List Int)} {r : Rules} (h : okRuled t f bs r = true) : okTimetable t = true := by
  have := okRuled_blocks h
  simp only [okBlocks, okRun, Bool.and_eq_true] at this
  exact this.1.1
structure RulesFacts (r : Rules) : Prop where
  on : 0 ≤ r.SignOn ∧ r.SignOn ≤ 900
  off : 0 ≤ r.SignOff ∧ r.SignOff ≤ 900
  drive : 0 ≤ r.MaxDrive ∧ r.MaxDrive ≤ 900
  break_ : 0 ≤ r.MinBreak ∧ r.MinBreak ≤ 900
  paid : 0 ≤ r.PaidBreak ∧ r.PaidBreak ≤ 900
  len : 0 ≤ r.MaxLength ∧ r.MaxLength ≤ 900
theorem rulesFacts {r : Rules} (h : okRules r = true) : RulesFacts r := by
  simp only [okRules, Bool.and_eq_true, inB_t] at h
  obtain ⟨⟨⟨⟨⟨h1, h2⟩, h3⟩, h4⟩, h5⟩, h6⟩ := h
  exact ⟨h1, h2, h3, h4, h5, h6⟩
theorem okRuled_rules {t : Timetable} {f : Fleet} {bs : List (List Int)} {r : Rules} (h : okRuled t f bs r = true) : RulesFacts r := by
  unfold okRuled at h; simp at h; exact rulesFacts h.2
end Go.Proofs.Ytbkeccpjcmhhjaa
