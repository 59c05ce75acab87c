/-
  Headways: rests of patterns. Plain functions.
-/
import Derived.Test.YtaopadffabbjiaaTimeP
namespace Go.Proofs.Ytaopadffabbjiaa
open Go Go.RowKit
set_option linter.unusedVariables false
set_option maxRecDepth 100000
def lineN (n : Network) (i : Int) : Line := n.Lines.getD i.toNat default
theorem lineN_of {n : Network} {m : Nat} {x : Line} (h : n.Lines[m]? = some x) : lineN n m = x := by simp [lineN, List.getD, h]
theorem lineN_facts {n : Network} (h : NetFacts n) {v : Int} (h0 : 0 ≤ v) (h1 : v < n.Lines.length) : LineFacts n.Stops.length (lineN n v) := by
  obtain ⟨m, rfl⟩ := Int.eq_ofNat_of_zero_le h0
  have hm : m < n.Lines.length := by omega
  rw [lineN_of (List.getElem?_eq_getElem hm)]
  exact h.line m _ (List.getElem?_eq_getElem hm)
def placeIn (x : Line) (stop : Int) : Int := idx (intIs stop) x.Stops
def restOf (n : Network) (period : Int) (p : Pattern) (stop : Int) : Int :=
  if placeIn (lineN n p.Line) stop < 0 then -1 else (p.Offset + runSum (lineN n p.Line) (placeIn (lineN n p.Line) stop).toNat) % period
theorem restOf_bd (n : Network) (period : Int) (p : Pattern) (stop : Int) (h : 1 ≤ period) : -1 ≤ restOf n period p stop ∧ restOf n period p stop < period := by
  unfold restOf
  split
  · omega
  · have := Int.emod_nonneg (p.Offset + runSum (lineN n p.Line) (placeIn (lineN n p.Line) stop).toNat) (show period ≠ 0 by omega)
    have := Int.emod_lt_of_pos (p.Offset + runSum (lineN n p.Line) (placeIn (lineN n p.Line) stop).toNat) (show 0 < period by omega)
    omega
theorem placeIn_bd {ns : Nat} {x : Line} (h : LineFacts ns x) (stop : Int) : -1 ≤ placeIn x stop ∧ placeIn x stop ≤ x.Runs.length := by
  have := idx_bd (intIs stop) x.Stops
  have := h.runs
  unfold placeIn
  omega
theorem restOf_neg {n : Network} {period : Int} {p : Pattern} {stop : Int} (h : placeIn (lineN n p.Line) stop < 0) : restOf n period p stop = -1 := if_pos h
theorem restOf_pos {n : Network} {period : Int} {p : Pattern} {stop : Int} (h : ¬ placeIn (lineN n p.Line) stop < 0) : restOf n period p stop = (p.Offset + runSum (lineN n p.Line) (placeIn (lineN n p.Line) stop).toNat) % period := if_neg h
end Go.Proofs.Ytaopadffabbjiaa
