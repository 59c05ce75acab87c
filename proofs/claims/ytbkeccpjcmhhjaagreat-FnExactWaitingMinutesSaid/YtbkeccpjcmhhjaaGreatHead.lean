/-
  Headways: when patterns are valid.
-/
import Derived.Test.YtbkeccpjcmhhjaaGreatNetD
namespace Go.Proofs.YtbkeccpjcmhhjaaGreat
open Go Go.RowKit
set_option linter.unusedVariables false
set_option maxRecDepth 100000
def okPat (nl : Nat) (period : Int) (p : Pattern) : Bool := inB p.Line 0 ((nl : Int) - 1) && inB p.Offset 0 (period - 1)
def okPatterns (n : Network) (period : Int) (l : List Pattern) : Bool := okNetwork n && inB period 1 60 && inB l.length 1 3 && l.all (okPat n.Lines.length period)
theorem okPat_no1 {nl : Nat} {period : Int} {p : Pattern} (h : inB p.Line 0 ((nl : Int) - 1) = false) : okPat nl period p = false := by unfold okPat; rw [h]; rfl
theorem okPat_no2 {nl : Nat} {period : Int} {p : Pattern} (h : inB p.Offset 0 (period - 1) = false) : okPat nl period p = false := by unfold okPat; rw [h]; simp
theorem okPat_yes {nl : Nat} {period : Int} {p : Pattern} (h : inB p.Line 0 ((nl : Int) - 1) = true) (h2 : inB p.Offset 0 (period - 1) = true) : okPat nl period p = true := by unfold okPat; rw [h, h2]; rfl
theorem okPs1 {n : Network} {period : Int} {l : List Pattern} (h : okNetwork n = false) : okPatterns n period l = false := by unfold okPatterns; rw [h]; rfl
theorem okPs2 {n : Network} {period : Int} {l : List Pattern} (h : inB period 1 60 = false) : okPatterns n period l = false := by unfold okPatterns; rw [h]; simp
theorem okPs3 {n : Network} {period : Int} {l : List Pattern} (h : inB l.length 1 3 = false) : okPatterns n period l = false := by unfold okPatterns; rw [h]; simp
theorem okPs4 {n : Network} {period : Int} {l : List Pattern} (h : l.all (okPat n.Lines.length period) = false) : okPatterns n period l = false := by unfold okPatterns; rw [h]; simp
structure PatFacts (n : Network) (period : Int) (l : List Pattern) : Prop where
  net : okNetwork n = true
  per : 1 ≤ period ∧ period ≤ 60
  len : 1 ≤ l.length ∧ l.length ≤ 3
  pat : ∀ (i : Nat) (p : Pattern), l[i]? = some p → 0 ≤ p.Line ∧ p.Line < n.Lines.length ∧ 0 ≤ p.Offset ∧ p.Offset < period
theorem patFacts {n : Network} {period : Int} {l : List Pattern} (h : okPatterns n period l = true) : PatFacts n period l := by
  simp only [okPatterns, Bool.and_eq_true, inB_t, List.all_eq_true, okPat] at h
  obtain ⟨⟨⟨h1, h2⟩, h3⟩, h4⟩ := h
  exact ⟨h1, h2, by omega, fun i p hp => by have := h4 p (List.mem_of_getElem? hp); omega⟩
end Go.Proofs.YtbkeccpjcmhhjaaGreat
