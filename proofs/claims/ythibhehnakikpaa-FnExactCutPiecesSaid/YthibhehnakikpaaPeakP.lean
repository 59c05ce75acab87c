/-
  The peak of trips: both ways of finding it agree. Plain functions.
-/
import Derived.Test.YthibhehnakikpaaTimeP
namespace Go.Proofs.Ythibhehnakikpaa
open Go Go.RowKit
set_option linter.unusedVariables false
set_option maxRecDepth 100000
def onAt (t : Timetable) (at_ : Int) (y : Trip) : Bool := decide (y.Start ≤ at_ ∧ at_ < endAt t y)
def cntGo (t : Timetable) (at_ : Int) : List Trip → Int
  | [] => 0
  | y :: l => (if onAt t at_ y = true then 1 else 0) + cntGo t at_ l
def cntAt (t : Timetable) (at_ : Int) : Int := cntGo t at_ t.Trips
theorem cntGo_bd (t : Timetable) (a : Int) (l : List Trip) : 0 ≤ cntGo t a l ∧ cntGo t a l ≤ l.length := by
  induction l with
  | nil => simp [cntGo]
  | cons y l ih => simp only [cntGo, List.length_cons]; split <;> omega
/-- The reference: f times from a on. -/
def pkSpec (t : Timetable) : Nat → Int → Int → Int → Int × Int
  | 0, _, b, m => (b, m)
  | f + 1, a, b, m => if m < cntAt t a then pkSpec t f (a + 1) a (cntAt t a) else pkSpec t f (a + 1) b m
def peakOf (t : Timetable) : Int × Int := pkSpec t 1800 0 0 0
/-- The program: trip by trip. -/
def pkImpl (t : Timetable) : List Trip → Int → Int → Int × Int
  | [], b, m => (b, m)
  | x :: l, b, m => if m < cntAt t x.Start ∨ (cntAt t x.Start = m ∧ x.Start < b) then pkImpl t l x.Start (cntAt t x.Start) else pkImpl t l b m
/-- b is the first of the times below n with the greatest count m; or m is 0. -/
def PeakAt (t : Timetable) (n : Int) (b m : Int) : Prop :=
  0 ≤ m ∧ (∀ a, 0 ≤ a → a < n → cntAt t a ≤ m) ∧ ((m = 0 ∧ b = 0) ∨ (0 < m ∧ 0 ≤ b ∧ b < n ∧ cntAt t b = m ∧ ∀ a, 0 ≤ a → a < b → cntAt t a < m))
theorem pkSpec_at (t : Timetable) (f : Nat) (a b m : Int) (ha : 0 ≤ a) (h : PeakAt t a b m) : PeakAt t (a + f) (pkSpec t f a b m).1 (pkSpec t f a b m).2 := by
  induction f generalizing a b m with
  | zero => simpa [pkSpec] using h
  | succ f ih =>
    simp only [pkSpec]
    obtain ⟨h1, h2, h3⟩ := h
    split
    · rename_i hlt
      have := ih (a + 1) a (cntAt t a) (by omega) ⟨by omega, fun c hc0 hc1 => by
          rcases (show c < a ∨ a ≤ c by omega) with hca | hca
          · have := h2 c hc0 hca; omega
          · rw [show c = a by omega]; omega, .inr ⟨by omega, ha, by omega, rfl, fun c hc0 hc1 => by have := h2 c hc0 hc1; omega⟩⟩
      rwa [show a + ((f + 1 : Nat) : Int) = a + 1 + f by omega]
    · rename_i hge
      have := ih (a + 1) b m (by omega) ⟨h1, fun c hc0 hc1 => by
          rcases (show c < a ∨ a ≤ c by omega) with hca | hca
          · exact h2 c hc0 hca
          · rw [show c = a by omega]; omega, by
          rcases h3 with h3 | ⟨k1, k2, k3, k4, k5⟩
          · exact .inl h3
          · exact .inr ⟨k1, k2, by omega, k4, k5⟩⟩
      rwa [show a + ((f + 1 : Nat) : Int) = a + 1 + f by omega]
theorem peakOf_at (t : Timetable) : PeakAt t 1800 (peakOf t).1 (peakOf t).2 := by
  have := pkSpec_at t 1800 0 0 0 (by omega) ⟨by omega, fun a h0 h1 => by omega, .inl ⟨rfl, rfl⟩⟩
  simpa [peakOf] using this
/-- b is the least start among those with the greatest count m, of some trips. -/
def BestOf (t : Timetable) (l : List Trip) (b m : Int) : Prop :=
  (∀ x, x ∈ l → cntAt t x.Start ≤ m ∧ (cntAt t x.Start = m → b ≤ x.Start)) ∧ ((l = [] ∧ b = 0 ∧ m = 0) ∨ ∃ x, x ∈ l ∧ x.Start = b ∧ cntAt t b = m)
theorem pkImpl_at (t : Timetable) (pre l : List Trip) (b m : Int) (hc : ∀ x, x ∈ l → 0 < cntAt t x.Start) (h : BestOf t pre b m) (hm : pre = [] → m = 0) : BestOf t (pre ++ l) (pkImpl t l b m).1 (pkImpl t l b m).2 := by
  induction l generalizing pre b m with
  | nil => simpa [pkImpl] using h
  | cons x l ih =>
    simp only [pkImpl]
    obtain ⟨h1, h2⟩ := h
    have hx := hc x (by simp)
    have e : pre ++ x :: l = (pre ++ [x]) ++ l := by simp
    rw [e]
    split
    · rename_i hb
      refine ih (pre ++ [x]) _ _ (fun y hy => hc y (by simp [hy])) ⟨fun y hy => ?_, .inr ⟨x, by simp, rfl, rfl⟩⟩ (by simp)
      rcases List.mem_append.1 hy with hy | hy
      · have h3 := h1 y hy
        refine ⟨by omega, fun he => ?_⟩
        rcases hb with hb | ⟨hb1, hb2⟩
        · omega
        · have := h3.2 (by omega); omega
      · simp at hy; subst hy; exact ⟨by omega, fun _ => by omega⟩
    · rename_i hb
      have hb1 : cntAt t x.Start ≤ m := by omega
      have hb2 : cntAt t x.Start = m → b ≤ x.Start := by omega
      refine ih (pre ++ [x]) b m (fun y hy => hc y (by simp [hy])) ⟨fun y hy => ?_, ?_⟩ (by simp)
      · rcases List.mem_append.1 hy with hy | hy
        · exact h1 y hy
        · simp at hy; subst hy; exact ⟨hb1, hb2⟩
      · rcases h2 with ⟨hp, hb0, hm0⟩ | ⟨y, hy, h5, h6⟩
        · omega
        · exact .inr ⟨y, by simp [hy], h5, h6⟩
theorem cntGo_pos {t : Timetable} {a : Int} {l : List Trip} (h : 0 < cntGo t a l) : ∃ y, y ∈ l ∧ onAt t a y = true := by
  induction l with
  | nil => simp [cntGo] at h
  | cons y l ih =>
    by_cases hy : onAt t a y = true
    · exact ⟨y, by simp, hy⟩
    · simp only [cntGo, if_neg hy] at h
      obtain ⟨z, hz, h2⟩ := ih (by omega)
      exact ⟨z, by simp [hz], h2⟩
theorem cntGo_mem {t : Timetable} {a : Int} {l : List Trip} {y : Trip} (hy : y ∈ l) (h : onAt t a y = true) : 0 < cntGo t a l := by
  induction l with
  | nil => cases hy
  | cons z l ih =>
    have := (cntGo_bd t a l).1
    simp only [cntGo]
    rcases List.mem_cons.1 hy with rfl | hy
    · rw [if_pos h]; omega
    · have := ih hy
      split <;> omega
/-- Where the count has grown, a trip starts. -/
theorem cntGo_step {t : Timetable} {a : Int} {l : List Trip} (h : cntGo t (a - 1) l < cntGo t a l) : ∃ y, y ∈ l ∧ y.Start = a := by
  induction l with
  | nil => simp [cntGo] at h
  | cons y l ih =>
    by_cases hs : y.Start = a
    · exact ⟨y, by simp, hs⟩
    · have hle : (if onAt t a y = true then (1 : Int) else 0) ≤ (if onAt t (a - 1) y = true then 1 else 0) := by
        by_cases h1 : onAt t a y = true
        · have h2 : onAt t (a - 1) y = true := by simp only [onAt, decide_eq_true_eq] at h1 ⊢; omega
          rw [if_pos h1, if_pos h2]; omega
        · rw [if_neg h1]; split <;> omega
      simp only [cntGo] at h
      obtain ⟨z, hz, h2⟩ := ih (by omega)
      exact ⟨z, by simp [hz], h2⟩
theorem peak_eq {t : Timetable} (hf : ∀ x, x ∈ t.Trips → 0 ≤ x.Start ∧ x.Start ≤ 1799 ∧ x.Start < endAt t x) : pkImpl t t.Trips 0 0 = peakOf t := by
  have hc : ∀ x, x ∈ t.Trips → 0 < cntAt t x.Start := fun x hx => cntGo_mem hx (by have := hf x hx; simp [onAt]; omega)
  have h1 := pkImpl_at t [] t.Trips 0 0 hc ⟨by simp, .inl ⟨rfl, rfl, rfl⟩⟩ (fun _ => rfl)
  rw [List.nil_append] at h1
  have h2 := peakOf_at t
  generalize pkImpl t t.Trips 0 0 = p at h1
  generalize peakOf t = q at h2
  obtain ⟨b, m⟩ := p
  obtain ⟨c, n⟩ := q
  simp only at h1 h2
  obtain ⟨h3, h4⟩ := h1
  obtain ⟨g1, g2, g3⟩ := h2
  rcases h4 with ⟨hn, rfl, rfl⟩ | ⟨x, hx, rfl, h5⟩
  · have : n = 0 ∧ c = 0 := by
      rcases g3 with g3 | ⟨k1, k2, k3, k4, k5⟩
      · exact g3
      · exfalso
        rw [show cntAt t c = 0 by unfold cntAt; rw [hn]; rfl] at k4
        omega
    rw [this.1, this.2]
  · have hx1 := hf x hx
    have hx2 := hc x hx
    have hx3 := g2 x.Start hx1.1 (by omega)
    rcases g3 with g3 | ⟨k1, k2, k3, k4, k5⟩
    · omega
    -- a trip starts at c
    have : ∃ y, y ∈ t.Trips ∧ y.Start = c := by
      by_cases h0 : c = 0
      · subst h0
        obtain ⟨y, hy, h6⟩ := cntGo_pos (t := t) (a := 0) (l := t.Trips) (by change 0 < cntAt t 0; omega)
        have := hf y hy
        simp only [onAt, decide_eq_true_eq] at h6
        exact ⟨y, hy, by omega⟩
      · exact cntGo_step (t := t) (a := c) (by have := k5 (c - 1) (by omega) (by omega); change cntAt t (c - 1) < cntAt t c; omega)
    obtain ⟨y, hy, rfl⟩ := this
    have h7 := h3 y hy
    have h8 : m = n := by omega
    have h9 := h7.2 (by omega)
    have h10 : x.Start = y.Start := by
      rcases (show x.Start < y.Start ∨ y.Start ≤ x.Start by omega) with h | h
      · have := k5 x.Start hx1.1 h; omega
      · omega
    rw [h8, h10]
end Go.Proofs.Ythibhehnakikpaa
