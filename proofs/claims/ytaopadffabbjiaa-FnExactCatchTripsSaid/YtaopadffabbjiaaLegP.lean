/-
  Legs: the leg of a trip between two stops; when legs are a journey. Plain functions.
-/
import Derived.Test.YtaopadffabbjiaaTimeP
namespace Go.Proofs.Ytaopadffabbjiaa
open Go Go.RowKit
set_option linter.unusedVariables false
set_option maxRecDepth 100000
def noLeg : Leg := ⟨0, 0, 0, 0, 0⟩
/-- The leg on a trip between two stops. -/
def fillT (t : Timetable) (x : Trip) (a b : Int) : Leg × Bool :=
  if idx (intIs a) (lineAtT t x.Line).Stops < 0 ∨ idx (intIs b) (lineAtT t x.Line).Stops ≤ idx (intIs a) (lineAtT t x.Line).Stops then (noLeg, false)
  else (⟨x.Id, a, b, timeAt t x (idx (intIs a) (lineAtT t x.Line).Stops).toNat, timeAt t x (idx (intIs b) (lineAtT t x.Line).Stops).toNat⟩, true)
def fillI (t : Timetable) (id a b : Int) : Leg × Bool := if findI t id < 0 then (noLeg, false) else fillT t (tripI t (findI t id)) a b
def fillTop (t : Timetable) (id a b : Int) : Leg × Bool :=
  if okTimetable t && inB a 0 ((t.Network.Stops.length : Int) - 1) && inB b 0 ((t.Network.Stops.length : Int) - 1) then fillI t id a b else (noLeg, false)
def fillOk (t : Timetable) (l : Leg) : Bool := (fillI t l.Trip l.From l.To).2 && decide ((fillI t l.Trip l.From l.To).1 = l)
def linkOk (change : Int) (p l : Leg) : Bool := decide (l.From = p.To) && decide (p.Arrive + change ≤ l.Depart)
def tripIs (v : Int) (b : Leg) : Bool := decide (b.Trip = v)
def legAt (t : Timetable) (change : Int) (legs : List Leg) : Nat → Leg → Bool
  | 0, l => fillOk t l
  | j + 1, l => fillOk t l && linkOk change (legs.getD j default) l && !((legs.take (j + 1)).any (tripIs l.Trip))
def okLegs (t : Timetable) (change : Int) (legs : List Leg) : Bool := inB legs.length 1 4 && allFrom (legAt t change legs) legs 0
def okAsked (t : Timetable) (change : Int) : Bool := okTimetable t && inB change 0 30
def okJourney (t : Timetable) (change : Int) (legs : List Leg) : Bool := okAsked t change && okLegs t change legs
theorem timeAt_bd {t : Timetable} (h : TimeFacts t) {x : Trip} (hx : TripFacts t x) (k : Nat) : 0 ≤ timeAt t x k ∧ timeAt t x k ≤ 2099 := by
  have := runSum_bd (lineAtT_facts h.net hx.line0 hx.line1) k
  have := hx.start
  unfold timeAt
  omega
structure LegFacts (t : Timetable) (l : Leg) : Prop where
  found : 0 ≤ findI t l.Trip ∧ findI t l.Trip < t.Trips.length
  depart : 0 ≤ l.Depart ∧ l.Depart ≤ 2099
  arrive : 0 ≤ l.Arrive ∧ l.Arrive ≤ 2099
  place : 0 ≤ idx (intIs l.From) (lineI t (findI t l.Trip)).Stops ∧ idx (intIs l.From) (lineI t (findI t l.Trip)).Stops < idx (intIs l.To) (lineI t (findI t l.Trip)).Stops
theorem legFacts {t : Timetable} (h : TimeFacts t) {l : Leg} (hl : fillOk t l = true) : LegFacts t l := by
  simp only [fillOk, Bool.and_eq_true, decide_eq_true_eq] at hl
  obtain ⟨h1, h2⟩ := hl
  have hb := findI_bd t l.Trip
  by_cases c : findI t l.Trip < 0
  · unfold fillI at h1; rw [if_pos c] at h1; cases h1
  have f := tripI_facts h (i := findI t l.Trip) (by omega) hb.2
  unfold fillI at h1 h2
  rw [if_neg c] at h1 h2
  by_cases c2 : idx (intIs l.From) (lineAtT t (tripI t (findI t l.Trip)).Line).Stops < 0 ∨ idx (intIs l.To) (lineAtT t (tripI t (findI t l.Trip)).Line).Stops ≤ idx (intIs l.From) (lineAtT t (tripI t (findI t l.Trip)).Line).Stops
  · unfold fillT at h1; rw [if_pos c2] at h1; cases h1
  unfold fillT at h2
  rw [if_neg c2] at h2
  have d1 : timeAt t (tripI t (findI t l.Trip)) (idx (intIs l.From) (lineAtT t (tripI t (findI t l.Trip)).Line).Stops).toNat = l.Depart := congrArg Leg.Depart h2
  have d2 : timeAt t (tripI t (findI t l.Trip)) (idx (intIs l.To) (lineAtT t (tripI t (findI t l.Trip)).Line).Stops).toNat = l.Arrive := congrArg Leg.Arrive h2
  refine ⟨⟨by omega, hb.2⟩, ?_, ?_, ?_⟩
  · rw [← d1]; exact timeAt_bd h f _
  · rw [← d2]; exact timeAt_bd h f _
  · unfold lineI; omega
theorem okLegs_all {t : Timetable} {change : Int} {legs : List Leg} (h : okLegs t change legs = true) : ∀ (i : Nat) (l : Leg), legs[i]? = some l → fillOk t l = true := by
  simp only [okLegs, Bool.and_eq_true] at h
  intro i l hl
  have := (allFrom_iff _ _ _).1 h.2 i l hl
  rw [Nat.zero_add] at this
  cases i with
  | zero => exact this
  | succ i => simp only [legAt, Bool.and_eq_true] at this; exact this.1.1
structure JourFacts (t : Timetable) (change : Int) (legs : List Leg) : Prop where
  time : TimeFacts t
  ch : 0 ≤ change ∧ change ≤ 30
  len : 1 ≤ legs.length ∧ legs.length ≤ 4
  leg : ∀ (i : Nat) (l : Leg), legs[i]? = some l → LegFacts t l
theorem jourFacts {t : Timetable} {change : Int} {legs : List Leg} (h : okJourney t change legs = true) : JourFacts t change legs := by
  simp only [okJourney, okAsked, Bool.and_eq_true, inB_t] at h
  obtain ⟨⟨h1, h2⟩, h3⟩ := h
  have tf := timeFacts h1
  have h4 : inB legs.length 1 4 = true := by simp only [okLegs, Bool.and_eq_true] at h3; exact h3.1
  rw [inB_t] at h4
  exact ⟨tf, h2, by omega, fun i l hl => legFacts tf (okLegs_all h3 i l hl)⟩
/-! ### What is asked of a journey -/
def waitGo : List Leg → Int
  | a :: b :: l => (b.Depart - a.Arrive) + waitGo (b :: l)
  | _ => 0
def timesRes (t : Timetable) (change : Int) (legs : List Leg) : Int × Int × Bool :=
  if okJourney t change legs = true then ((legs.getLastD default).Arrive - (legs.headD default).Depart, waitGo legs, true) else (0, 0, false)
def slackGo (change : Int) : List Leg → List Int
  | a :: b :: l => (b.Depart - change - a.Arrive) :: slackGo change (b :: l)
  | _ => []
def slackRes (t : Timetable) (change : Int) (legs : List Leg) : List Int × Bool := if okJourney t change legs = true then (slackGo change legs, true) else ([], false)
def lateBy (trip minutes : Int) (l : Leg) : Int := if l.Trip = trip then minutes else 0
def survGo (change trip minutes : Int) : List Leg → Bool
  | a :: b :: l => !(decide (b.Depart + lateBy trip minutes b < a.Arrive + lateBy trip minutes a + change)) && survGo change trip minutes (b :: l)
  | _ => true
def survRes (t : Timetable) (change : Int) (legs : List Leg) (trip minutes : Int) : Bool × Bool :=
  if okJourney t change legs = true ∧ 0 ≤ findI t trip ∧ inB minutes 0 240 = true then (survGo change trip minutes legs, true) else (false, false)
def rideStops (t : Timetable) (l : Leg) : List Int :=
  ((lineI t (findI t l.Trip)).Stops.take ((idx (intIs l.To) (lineI t (findI t l.Trip)).Stops).toNat + 1)).drop ((idx (intIs l.From) (lineI t (findI t l.Trip)).Stops).toNat + 1)
def servedOf (t : Timetable) (legs : List Leg) : List Int := (legs.headD default).From :: (legs.map (rideStops t)).flatten
def servedRes (t : Timetable) (change : Int) (legs : List Leg) : List Int × Bool := if okJourney t change legs = true then (servedOf t legs, true) else ([], false)
end Go.Proofs.Ytaopadffabbjiaa
