/-
  The first journey, and the journeys by the number of legs: both ways agree. Plain functions.
-/
import Derived.Test.YteijofkkggifhaaProfQ
namespace Go.Proofs.Yteijofkkggifhaa
open Go Go.RowKit
set_option linter.unusedVariables false
set_option maxRecDepth 100000
def leastGo (A : Nat → Int) (b : Int) : Nat → Nat → Nat
  | 0, L => L
  | f + 1, L => if A L ≤ b then L else leastGo A b f (L + 1)
theorem leastGo_spec {A : Nat → Int} {b : Int} (fu : Nat) : ∀ L, A (L + fu) ≤ b → L ≤ leastGo A b fu L ∧ leastGo A b fu L ≤ L + fu ∧ A (leastGo A b fu L) ≤ b ∧ ∀ j, L ≤ j → j < leastGo A b fu L → b < A j := by
  induction fu with
  | zero => intro L h; exact ⟨Nat.le_refl _, Nat.le_refl _, h, fun j h1 h2 => by simp only [leastGo] at h2; omega⟩
  | succ fu ih =>
    intro L h
    simp only [leastGo]
    by_cases c : A L ≤ b
    · rw [if_pos c]; exact ⟨Nat.le_refl _, by omega, c, fun j h1 h2 => by omega⟩
    · rw [if_neg c]
      obtain ⟨h1, h2, h3, h4⟩ := ih (L + 1) (by rw [show L + 1 + fu = L + (fu + 1) by omega]; exact h)
      refine ⟨by omega, by omega, h3, fun j j1 j2 => ?_⟩
      by_cases e : j = L
      · subst e; omega
      · exact h4 j (by omega) j2
/-- The least number of legs, from one on, with which one is there in time. -/
def leastL (A : Nat → Int) (m : Nat) : Nat := leastGo A (A m) (m - 1) 1
theorem leastL_spec {A : Nat → Int} {m : Nat} (hm : 1 ≤ m) : 1 ≤ leastL A m ∧ leastL A m ≤ m ∧ A (leastL A m) ≤ A m ∧ ∀ j, 1 ≤ j → j < leastL A m → A m < A j := by
  have := leastGo_spec (A := A) (b := A m) (m - 1) 1 (by rw [show 1 + (m - 1) = m by omega]; exact Int.le_refl _)
  rw [show 1 + (m - 1) = m by omega] at this
  exact this
def firstJ (t : Timetable) (change from_ to at_ : Int) (m : Nat) : List Leg :=
  if arrV t change from_ at_ m to = never then [] else journeyGo t change to (arrV t change from_ at_ m to) (leastL (fun k => arrV t change from_ at_ k to) m) from_ at_
section
variable {t : Timetable} {change from_ to at_ : Int}
theorem firstJ_no {m : Nat} (h : arrV t change from_ at_ m to = never) : firstJ t change from_ to at_ m = [] := if_pos h
theorem firstJ_yes {m : Nat} (h : arrV t change from_ at_ m to ≠ never) : firstJ t change from_ to at_ m = journeyGo t change to (arrV t change from_ at_ m to) (leastL (fun k => arrV t change from_ at_ k to) m) from_ at_ := if_neg h
theorem firstJ_len (m : Nat) (hm : 1 ≤ m) : (firstJ t change from_ to at_ m).length ≤ m := by
  unfold firstJ
  split
  · simp
  · rw [journeyGo_len]; exact (leastL_spec hm).2.1
theorem firstJ_pos {m : Nat} (hm : 1 ≤ m) (h : arrV t change from_ at_ m to ≠ never) : 0 < (firstJ t change from_ to at_ m).length := by
  rw [firstJ_yes h, journeyGo_len]; exact (leastL_spec hm).1
theorem first_same (h : PairFacts t change from_ to) {m : Nat} (hm : 1 ≤ m) (hv : arrV t change from_ at_ m to ≠ never) :
    ext t change to (arrV t change from_ at_ m to) (leastL (fun k => arrV t change from_ at_ k to) m) [] from_ at_ = firstJ t change from_ to at_ m ∧
      ∃ l, (firstJ t change from_ to at_ m).getLast? = some l ∧ l.Arrive = arrV t change from_ at_ m to := by
  obtain ⟨l1, l2, l3, l4⟩ := leastL_spec (A := fun k => arrV t change from_ at_ k to) hm
  have hle := arrV_le h.time h.ch.1 h.fr.1 h.fr.2 h.to_.1 h.to_.2 (at_ := at_) m
  have hmo := arrV_mono h.time h.ch.1 h.fr.1 h.fr.2 h.to_.1 h.to_.2 (at_ := at_) l2
  have e : arrV t change from_ at_ (leastL (fun k => arrV t change from_ at_ k to) m) to = arrV t change from_ at_ m to := Int.le_antisymm l3 hmo
  have hL : Least t change from_ at_ to (arrV t change from_ at_ m to) (leastL (fun k => arrV t change from_ at_ k to) m) := by
    refine ⟨fun τ hτ => ?_, fun τ hτ => ?_⟩
    · rw [← e]; exact isMin_le (arrV_min h.time h.ch.1 h.fr.1 h.fr.2 h.to_.1 h.to_.2 _) hτ
    · by_cases c : leastL (fun k => arrV t change from_ at_ k to) m = 1
      · rw [c] at hτ
        obtain ⟨k, hk, _⟩ := hτ
        omega
      · have g1 := isMin_le (arrV_min h.time h.ch.1 h.fr.1 h.fr.2 h.to_.1 h.to_.2 _) hτ
        have g2 := l4 (leastL (fun k => arrV t change from_ at_ k to) m - 1) (by omega) (by omega)
        (try simp only at g2)
        omega
  have hC : Comp t change to (arrV t change from_ at_ m to) (leastL (fun k => arrV t change from_ at_ k to) m) from_ at_ := by
    refine ⟨_, Int.le_refl _, ?_⟩
    have := isMin_att (arrV_min h.time h.ch.1 h.fr.1 h.fr.2 h.to_.1 h.to_.2 (at_ := at_) (leastL (fun k => arrV t change from_ at_ k to) m)) (by rw [e]; omega)
    rw [e] at this
    exact this
  have := (ext_eq h.time h.rise h.ch.1 h.to_.1 h.to_.2 (by omega) hL (leastL (fun k => arrV t change from_ at_ k to) m) [] from_ at_ (Pre.start t change from_ at_) (by simp) l1).1 hC
  rw [firstJ_yes hv]
  exact ⟨by rw [this.1]; rfl, this.2⟩
theorem least_self {A : Nat → Int} (hA : Falls A) {m : Nat} (hm : 1 ≤ m) (h : A m < pre A m) : leastL A m = m := by
  obtain ⟨l1, l2, l3, l4⟩ := leastL_spec (A := A) hm
  apply Decidable.byContradiction
  intro c
  have g1 : leastL A m < m := by omega
  unfold pre at h
  rw [if_neg (by omega)] at h
  have := hA.mono (leastL A m) (m - 1) (by omega)
  omega
theorem arrF (h : PairFacts t change from_ to) : Falls (fun m => arrV t change from_ at_ m to) := ⟨fun m => arrV_le h.time h.ch.1 h.fr.1 h.fr.2 h.to_.1 h.to_.2 m, fun m n hmn => arrV_mono h.time h.ch.1 h.fr.1 h.fr.2 h.to_.1 h.to_.2 hmn⟩
end
def parGo (t : Timetable) (change from_ to at_ : Int) : Nat → Nat → Int → List (List Leg)
  | 0, _, _ => []
  | f + 1, m, best => if arrV t change from_ at_ m to < best then firstJ t change from_ to at_ m :: parGo t change from_ to at_ f (m + 1) (arrV t change from_ at_ m to) else parGo t change from_ to at_ f (m + 1) best
theorem parGo_len (t : Timetable) (change from_ to at_ : Int) (f : Nat) : ∀ m best, (parGo t change from_ to at_ f m best).length ≤ f := by
  induction f with
  | zero => intro m best; simp [parGo]
  | succ f ih =>
    intro m best
    simp only [parGo]
    split
    · have := ih (m + 1) (arrV t change from_ at_ m to); simp; omega
    · have := ih (m + 1) best; omega
def parJ (t : Timetable) (change from_ to at_ : Int) : List (List Leg) := parGo t change from_ to at_ 4 1 never
def earjRes (t : Timetable) (change from_ to at_ : Int) : List Leg × Bool :=
  if okPair t change from_ to = true ∧ okTime at_ = true then (firstJ t change from_ to at_ 4, decide (¬ (firstJ t change from_ to at_ 4).length = 0)) else ([], false)
def parRes (t : Timetable) (change from_ to at_ : Int) : List (List Leg) × Bool :=
  if okPair t change from_ to = true ∧ okTime at_ = true then (parJ t change from_ to at_, true) else ([], false)
theorem earjRes_len (t : Timetable) (change from_ to at_ : Int) : (earjRes t change from_ to at_).1.length ≤ 4 := by
  unfold earjRes
  split
  · exact firstJ_len 4 (by omega)
  · simp
theorem parRes_len (t : Timetable) (change from_ to at_ : Int) : (parRes t change from_ to at_).1.length ≤ 4 := by
  unfold parRes
  split
  · exact parGo_len t change from_ to at_ 4 1 never
  · simp
end Go.Proofs.Yteijofkkggifhaa
