/-
  Rosters: the minutes of drivers.
-/
import Derived.Test.YtbkeccpjcmhhjaaRost
namespace Go.Proofs.Ytbkeccpjcmhhjaa
open Go Go.RowKit
set_option linter.unusedVariables false
set_option maxRecDepth 100000
def rowOf (r : Roster) (d : Nat) : List Int := r.Plan.getD d []
def cellLen (r : Roster) (s : Int) : Int := if s < 0 then 0 else (r.Shifts.getD s.toNat ⟨0, 0⟩).To - (r.Shifts.getD s.toNat ⟨0, 0⟩).From
def lenOn (r : Roster) (d k : Nat) : Int := cellLen r ((rowOf r d).getD k 0)
theorem rowOf_eq {r : Roster} {d : Nat} {x : List Int} (h : r.Plan[d]? = some x) : rowOf r d = x := by simp [rowOf, List.getD, h]
/-- What validity says, for use. -/
structure RosterFacts (r : Roster) : Prop where
  shifts : 1 ≤ r.Shifts.length ∧ r.Shifts.length ≤ 8
  span : ∀ (k : Nat) (x : Span), r.Shifts[k]? = some x → 0 ≤ x.From ∧ x.From ≤ x.To ∧ x.To ≤ 1799
  plan : 1 ≤ r.Plan.length ∧ r.Plan.length ≤ 6
  days : 1 ≤ days r ∧ days r ≤ 14
  row : ∀ (d : Nat) (x : List Int), r.Plan[d]? = some x → x.length = (r.Plan.headD []).length ∧ ∀ (k : Nat) (s : Int), x[k]? = some s → -1 ≤ s ∧ s < r.Shifts.length
  rest : 0 ≤ r.Rules.MinRest ∧ r.Rules.MinRest ≤ 1440
  maxRow : 1 ≤ r.Rules.MaxRow ∧ r.Rules.MaxRow ≤ 14
  maxWeek : 0 ≤ r.Rules.MaxWeek ∧ r.Rules.MaxWeek ≤ 10080
theorem rosterFacts {r : Roster} (h : okRoster r = true) : RosterFacts r := by
  simp only [okRoster, Bool.and_eq_true, inB_t] at h
  obtain ⟨⟨⟨⟨⟨⟨⟨h1, h2⟩, h3⟩, h4⟩, h5⟩, h6⟩, h7⟩, h8⟩ := h
  refine ⟨by omega, fun k x hx => ?_, by omega, by omega, fun d x hx => ?_, h6, h7, h8⟩
  · have := List.all_eq_true.1 h3 x (List.mem_of_getElem? hx)
    simp only [okSpan, Bool.and_eq_true, inB_t, decide_eq_true_eq] at this
    omega
  · have := List.all_eq_true.1 h5 x (List.mem_of_getElem? hx)
    simp only [okRow, Bool.and_eq_true, decide_eq_true_eq] at this
    refine ⟨this.1, fun k s hs => ?_⟩
    have := inB_t.1 (List.all_eq_true.1 this.2 s (List.mem_of_getElem? hs))
    omega
theorem cellLen_bd {r : Roster} (h : RosterFacts r) {s : Int} (hs : s < r.Shifts.length) : 0 ≤ cellLen r s ∧ cellLen r s ≤ 1799 := by
  unfold cellLen
  split
  · omega
  · have hk : s.toNat < r.Shifts.length := by omega
    have := h.span s.toNat _ (List.getElem?_eq_getElem hk)
    have e : r.Shifts.getD s.toNat ⟨0, 0⟩ = r.Shifts[s.toNat] := by simp [List.getD, hk]
    rw [e]; omega
def rowSum (r : Roster) : List Int → Int
  | [] => 0
  | s :: l => cellLen r s + rowSum r l
def worked (r : Roster) (d : Nat) : Int := rowSum r (rowOf r d)
theorem rowSum_bd {r : Roster} (h : RosterFacts r) (l : List Int) (hl : ∀ s, s ∈ l → s < r.Shifts.length) : 0 ≤ rowSum r l ∧ rowSum r l ≤ 1799 * l.length := by
  induction l with
  | nil => simp [rowSum]
  | cons s l ih =>
    have h1 := cellLen_bd h (hl s (by simp))
    have h2 := ih fun x hx => hl x (by simp [hx])
    simp only [rowSum, List.length_cons]
    omega
theorem RosterFacts.mem {r : Roster} (h : RosterFacts r) {d : Nat} {x : List Int} (hx : r.Plan[d]? = some x) : ∀ s, s ∈ x → s < r.Shifts.length := by
  intro s hs
  obtain ⟨k, hk⟩ := List.getElem?_of_mem hs
  exact ((h.row d x hx).2 k s hk).2
theorem lenOn_at {r : Roster} {d k : Nat} {x : List Int} {s : Int} (hx : r.Plan[d]? = some x) (hs : x[k]? = some s) : lenOn r d k = cellLen r s := by
  unfold lenOn
  rw [rowOf_eq hx]
  simp [List.getD, hs]
end Go.Proofs.Ytbkeccpjcmhhjaa
