/-
  Timetables: when one is valid, the times of trips. Plain functions.
-/
import Derived.Test.YtaopadffabbjiaaNetP
namespace Go.Proofs.Ytaopadffabbjiaa
open Go Go.RowKit
set_option linter.unusedVariables false
set_option maxRecDepth 100000
structure LineFacts (ns : Nat) (x : Line) : Prop where
  stops : 2 ≤ x.Stops.length ∧ x.Stops.length ≤ 6
  runs : x.Runs.length + 1 = x.Stops.length
  mem : ∀ (i : Nat) (s : Int), x.Stops[i]? = some s → 0 ≤ s ∧ s < ns
  uniq : ∀ (i : Nat) (s : Int), x.Stops[i]? = some s → idx (intIs s) x.Stops = i
  run : ∀ r, r ∈ x.Runs → 1 ≤ r ∧ r ≤ 60
theorem lineFacts {ns : Nat} {x : Line} (h : okLine ns x = true) : LineFacts ns x := by
  simp only [okLine, Bool.and_eq_true, decide_eq_true_eq, allFrom_iff, List.all_eq_true, inB_t] at h
  obtain ⟨⟨⟨h1, h2⟩, h3⟩, h4⟩ := h
  refine ⟨by omega, h2, fun i s hs => ?_, fun i s hs => ?_, h4⟩
  · have := h3 i s hs
    simp only [stopAt, Bool.and_eq_true, inB_t, decide_eq_true_eq] at this
    omega
  · have := h3 i s hs
    simp only [stopAt, Bool.and_eq_true, decide_eq_true_eq] at this
    simpa using this.2
structure NetFacts (n : Network) : Prop where
  stops : 2 ≤ n.Stops.length ∧ n.Stops.length ≤ 8
  lines : 1 ≤ n.Lines.length ∧ n.Lines.length ≤ 5
  line : ∀ (i : Nat) (x : Line), n.Lines[i]? = some x → LineFacts n.Stops.length x
theorem netFacts {n : Network} (h : okNetwork n = true) : NetFacts n := by
  simp only [okNetwork, Bool.and_eq_true, inB_t, List.all_eq_true] at h
  obtain ⟨⟨⟨⟨h1, h2⟩, h3⟩, h4⟩, h5⟩ := h
  exact ⟨by omega, by omega, fun i x hx => lineFacts (h5 x (List.mem_of_getElem? hx))⟩
def lineAtT (t : Timetable) (i : Int) : Line := t.Network.Lines.getD i.toNat default
theorem lineAtT_of {t : Timetable} {m : Nat} {x : Line} (h : t.Network.Lines[m]? = some x) : lineAtT t m = x := by simp [lineAtT, List.getD, h]
def runSum (x : Line) (k : Nat) : Int := sumI (x.Runs.take k)
def timeAt (t : Timetable) (x : Trip) (k : Nat) : Int := x.Start + runSum (lineAtT t x.Line) k
def endAt (t : Timetable) (x : Trip) : Int := x.Start + sumI (lineAtT t x.Line).Runs
def okTime (v : Int) : Bool := inB v 0 1799
def tripOk (t : Timetable) (last : Int) (x : Trip) : Bool := decide (last < x.Id ∧ x.Id ≤ 999) && inB x.Line 0 ((t.Network.Lines.length : Int) - 1) && okTime x.Start && okTime (endAt t x)
def tripsGo (t : Timetable) : List Trip → Int → Bool
  | [], _ => true
  | x :: l, last => tripOk t last x && tripsGo t l x.Id
def okTimetable (t : Timetable) : Bool := okNetwork t.Network && decide (t.Trips.length ≤ 12) && tripsGo t t.Trips 0
theorem sumI_take_bd {l : List Int} (h : ∀ r, r ∈ l → 1 ≤ r ∧ r ≤ 60) (k : Nat) : 0 ≤ sumI (l.take k) ∧ sumI (l.take k) ≤ 60 * l.length := by
  have := sumI_bd (l := l.take k) (lo := 0) (hi := 60) fun x hx => by have := h x (List.mem_of_mem_take hx); omega
  have h2 : (l.take k).length ≤ l.length := List.length_take_le' _ _
  omega
theorem runSum_bd {ns : Nat} {x : Line} (h : LineFacts ns x) (k : Nat) : 0 ≤ runSum x k ∧ runSum x k ≤ 300 := by
  have := sumI_take_bd h.run k
  have h1 := h.stops
  have h2 := h.runs
  unfold runSum
  omega
theorem runSum_all {x : Line} {k : Nat} (h : x.Runs.length ≤ k) : runSum x k = sumI x.Runs := by unfold runSum; rw [List.take_of_length_le h]
theorem runSum_succ {x : Line} {k : Nat} {r : Int} (h : x.Runs[k]? = some r) : runSum x (k + 1) = runSum x k + r := by
  unfold runSum; rw [take_succ_at h, sumI_append]; simp [sumI]
structure TripFacts (t : Timetable) (x : Trip) : Prop where
  id : 1 ≤ x.Id ∧ x.Id ≤ 999
  line0 : 0 ≤ x.Line
  line1 : x.Line < t.Network.Lines.length
  start : 0 ≤ x.Start ∧ x.Start ≤ 1799
  fin : 0 ≤ endAt t x ∧ endAt t x ≤ 1799
theorem tripsGo_facts {t : Timetable} {l : List Trip} {last : Int} (hl : 0 ≤ last) (h : tripsGo t l last = true) :
    ∀ (i : Nat) (x : Trip), l[i]? = some x → TripFacts t x ∧ last < x.Id := by
  induction l generalizing last with
  | nil => intro i x hx; simp at hx
  | cons y l ih =>
    simp only [tripsGo, tripOk, okTime, Bool.and_eq_true, decide_eq_true_eq, inB_t] at h
    obtain ⟨⟨⟨⟨h1, h2⟩, h3⟩, h4⟩, h5⟩ := h
    intro i x hx
    cases i with
    | zero =>
      simp at hx; subst hx
      exact ⟨⟨by omega, by omega, by omega, by omega, by omega⟩, by omega⟩
    | succ i =>
      have := ih (last := y.Id) (by omega) h5 i x (by simpa using hx)
      exact ⟨this.1, by omega⟩
structure TimeFacts (t : Timetable) : Prop where
  net : NetFacts t.Network
  len : t.Trips.length ≤ 12
  trip : ∀ (i : Nat) (x : Trip), t.Trips[i]? = some x → TripFacts t x
theorem timeFacts {t : Timetable} (h : okTimetable t = true) : TimeFacts t := by
  simp only [okTimetable, Bool.and_eq_true, decide_eq_true_eq] at h
  obtain ⟨⟨h1, h2⟩, h3⟩ := h
  exact ⟨netFacts h1, h2, fun i x hx => (tripsGo_facts (by omega) h3 i x hx).1⟩
theorem tripsGo_rise {t : Timetable} {l : List Trip} {last : Int} (hl : 0 ≤ last) (h : tripsGo t l last = true) :
    ∀ (i j : Nat) (x y : Trip), i < j → l[i]? = some x → l[j]? = some y → x.Id < y.Id := by
  induction l generalizing last with
  | nil => intro i j x y _ hx; simp at hx
  | cons z l ih =>
    simp only [tripsGo, tripOk, okTime, Bool.and_eq_true, decide_eq_true_eq, inB_t] at h
    obtain ⟨⟨⟨⟨h1, h2⟩, h3⟩, h4⟩, h5⟩ := h
    intro i j x y hij hx hy
    cases j with
    | zero => omega
    | succ j =>
      cases i with
      | zero =>
        simp at hx; subst hx
        exact (tripsGo_facts (by omega) h5 j y (by simpa using hy)).2
      | succ i => exact ih (by omega) h5 i j x y (by omega) (by simpa using hx) (by simpa using hy)
theorem time_rise {t : Timetable} (h : okTimetable t = true) : ∀ (i j : Nat) (x y : Trip), i < j → t.Trips[i]? = some x → t.Trips[j]? = some y → x.Id < y.Id := by
  simp only [okTimetable, Bool.and_eq_true] at h
  exact tripsGo_rise (by omega) h.2
/-- The trip at a place. -/
def tripI (t : Timetable) (i : Int) : Trip := t.Trips.getD i.toNat default
theorem tripI_of {t : Timetable} {m : Nat} {x : Trip} (h : t.Trips[m]? = some x) : tripI t m = x := by simp [tripI, List.getD, h]
def lineI (t : Timetable) (i : Int) : Line := lineAtT t (tripI t i).Line
def timeI (t : Timetable) (i k : Int) : Int := timeAt t (tripI t i) k.toNat
def idIs (v : Int) (x : Trip) : Bool := decide (x.Id = v)
/-- The place of the trip of an id, or -1. -/
def findI (t : Timetable) (v : Int) : Int := idx (idIs v) t.Trips
theorem endAt_eq {t : Timetable} {x : Trip} {k : Nat} (h : (lineAtT t x.Line).Runs.length ≤ k) : timeAt t x k = endAt t x := by unfold timeAt endAt; rw [runSum_all h]
theorem lineAtT_facts {t : Timetable} (h : NetFacts t.Network) {v : Int} (h0 : 0 ≤ v) (h1 : v < t.Network.Lines.length) : LineFacts t.Network.Stops.length (lineAtT t v) := by
  obtain ⟨m, rfl⟩ := Int.eq_ofNat_of_zero_le h0
  have hm : m < t.Network.Lines.length := by omega
  rw [lineAtT_of (List.getElem?_eq_getElem hm)]
  exact h.line m _ (List.getElem?_eq_getElem hm)
theorem tripI_facts {t : Timetable} (h : TimeFacts t) {i : Int} (h0 : 0 ≤ i) (h1 : i < t.Trips.length) : TripFacts t (tripI t i) := by
  obtain ⟨m, rfl⟩ := Int.eq_ofNat_of_zero_le h0
  have hm : m < t.Trips.length := by omega
  rw [tripI_of (List.getElem?_eq_getElem hm)]
  exact h.trip m _ (List.getElem?_eq_getElem hm)
theorem lineI_facts {t : Timetable} (h : TimeFacts t) {i : Int} (h0 : 0 ≤ i) (h1 : i < t.Trips.length) : LineFacts t.Network.Stops.length (lineI t i) :=
  let f := tripI_facts h h0 h1; lineAtT_facts h.net f.line0 f.line1
theorem findI_bd (t : Timetable) (v : Int) : -1 ≤ findI t v ∧ findI t v < t.Trips.length := idx_bd _ _
theorem findI_id {t : Timetable} {v : Int} (h : 0 ≤ findI t v) : (tripI t (findI t v)).Id = v := by
  obtain ⟨j, x, h1, h2, h3⟩ := idx_at h
  have h4 : findI t v = j := h3
  rw [h4, tripI_of h1]
  simpa [idIs] using h2
theorem timeI_bd {t : Timetable} (h : TimeFacts t) {i : Int} (h0 : 0 ≤ i) (h1 : i < t.Trips.length) (k : Int) : 0 ≤ timeI t i k ∧ timeI t i k ≤ 2099 := by
  have f := tripI_facts h h0 h1
  have := runSum_bd (lineAtT_facts h.net f.line0 f.line1) k.toNat
  have := f.start
  unfold timeI timeAt
  omega
end Go.Proofs.Ytaopadffabbjiaa
