/-
  Blocks: when trips can follow, and when blocks are valid. Plain functions.
-/
import Derived.Test.YtaopadffabbjiaaTimeP
import Derived.Test.YtaopadffabbjiaaFleet
namespace Go.Proofs.Ytaopadffabbjiaa
open Go Go.RowKit
set_option linter.unusedVariables false
set_option maxRecDepth 100000
def firstS (t : Timetable) (x : Trip) : Int := (lineAtT t x.Line).Stops.getD 0 0
def lastS (t : Timetable) (x : Trip) : Int := (lineAtT t x.Line).Stops.getD ((lineAtT t x.Line).Stops.length - 1) 0
def deadB (t : Timetable) (f : Fleet) (a b : Trip) : Int := (f.Dead.getD (lastS t a).toNat []).getD (firstS t b).toNat 0
def canF (t : Timetable) (f : Fleet) (a b : Trip) : Bool := decide (endAt t a + f.Turn + deadB t f a b ≤ b.Start)
def okRun (t : Timetable) (f : Fleet) : Bool := okTimetable t && okFleetN t.Network.Stops.length f
structure RunFacts (t : Timetable) (f : Fleet) : Prop where
  time : TimeFacts t
  fleet : FleetFacts t.Network.Stops.length f
theorem runFacts {t : Timetable} {f : Fleet} (h : okRun t f = true) : RunFacts t f := by
  simp only [okRun, Bool.and_eq_true] at h
  exact ⟨timeFacts h.1, fleetFacts h.2⟩
theorem firstS_bd {t : Timetable} (h : NetFacts t.Network) {x : Trip} (hx : 0 ≤ x.Line) (hx1 : x.Line < t.Network.Lines.length) : 0 ≤ firstS t x ∧ firstS t x < t.Network.Stops.length := by
  have lf := lineAtT_facts h hx hx1
  have h0 : 0 < (lineAtT t x.Line).Stops.length := by have := lf.stops; omega
  have := lf.mem 0 _ (List.getElem?_eq_getElem h0)
  unfold firstS
  simpa [List.getD, List.getElem?_eq_getElem h0] using this
theorem lastS_bd {t : Timetable} (h : NetFacts t.Network) {x : Trip} (hx : 0 ≤ x.Line) (hx1 : x.Line < t.Network.Lines.length) : 0 ≤ lastS t x ∧ lastS t x < t.Network.Stops.length := by
  have lf := lineAtT_facts h hx hx1
  have h0 : (lineAtT t x.Line).Stops.length - 1 < (lineAtT t x.Line).Stops.length := by have := lf.stops; omega
  have := lf.mem _ _ (List.getElem?_eq_getElem h0)
  unfold lastS
  simpa [List.getD, List.getElem?_eq_getElem h0] using this
theorem deadB_bd {t : Timetable} {f : Fleet} (h : NetFacts t.Network) (hf : FleetFacts t.Network.Stops.length f) {a b : Trip} (ha : 0 ≤ a.Line) (ha1 : a.Line < t.Network.Lines.length) (hb : 0 ≤ b.Line) (hb1 : b.Line < t.Network.Lines.length) :
    0 ≤ deadB t f a b ∧ deadB t f a b ≤ 120 := by
  have h1 := lastS_bd h ha ha1
  have h2 := firstS_bd h hb hb1
  unfold deadB
  generalize lastS t a = i at *
  generalize firstS t b = j at *
  have hi : i.toNat < f.Dead.length := by rw [hf.len]; omega
  obtain ⟨r1, r2⟩ := hf.row _ _ (List.getElem?_eq_getElem hi)
  have hj : j.toNat < f.Dead[i.toNat].length := by rw [r1]; omega
  have := r2 _ _ (List.getElem?_eq_getElem hj)
  simpa [List.getD, List.getElem?_eq_getElem hi, List.getElem?_eq_getElem hj] using this
/-- The indices of a block's trips behind those that were seen; none: it is no block. -/
def rowGo (t : Timetable) (f : Fleet) : List Int → Int → List Int → Option (List Int)
  | [], _, seen => some seen
  | id :: r, prev, seen =>
    if findI t id < 0 ∨ findI t id ∈ seen ∨ (0 ≤ prev ∧ canF t f (tripI t prev) (tripI t (findI t id)) = false) then none
    else rowGo t f r (findI t id) (seen ++ [findI t id])
/-- A block's first trip comes not behind the block before's. -/
def notUp : Option Int → Int → Bool
  | none, _ => false
  | some p, id => decide (id ≤ p)
def blkGo (t : Timetable) (f : Fleet) : List (List Int) → Option Int → List Int → Option (List Int)
  | [], _, seen => some seen
  | [] :: _, _, _ => none
  | (id :: b) :: r, prev, seen =>
    if notUp prev id = true then none
    else match rowGo t f (id :: b) (-1) seen with
      | none => none
      | some s => blkGo t f r (some id) s
def okBlk (t : Timetable) (f : Fleet) (blocks : List (List Int)) : Bool :=
  match blkGo t f blocks none [] with
  | none => false
  | some s => decide (s.length = t.Trips.length)
def okBlocks (t : Timetable) (f : Fleet) (blocks : List (List Int)) : Bool := okRun t f && okBlk t f blocks
/-- What is known of valid blocks. -/
structure BlkFacts (t : Timetable) (blocks : List (List Int)) : Prop where
  pos : ∀ (i : Nat) (b : List Int), blocks[i]? = some b → 0 < b.length
  found : ∀ (i : Nat) (b : List Int), blocks[i]? = some b → ∀ (j : Nat) (id : Int), b[j]? = some id → 0 ≤ findI t id
theorem rowGo_found {t : Timetable} {f : Fleet} {l : List Int} {prev : Int} {seen s : List Int} (h : rowGo t f l prev seen = some s) : (∀ (j : Nat) (id : Int), l[j]? = some id → 0 ≤ findI t id) ∧ s.length = seen.length + l.length := by
  induction l generalizing prev seen with
  | nil => simp [rowGo] at h; subst h; simp
  | cons x l ih =>
    simp only [rowGo] at h
    split at h
    · cases h
    · rename_i hn
      obtain ⟨h1, h2⟩ := ih h
      refine ⟨fun j id hj => ?_, by rw [h2]; simp; omega⟩
      cases j with
      | zero => simp at hj; subst hj; omega
      | succ j => exact h1 j id (by simpa using hj)
theorem blkGo_found {t : Timetable} {f : Fleet} {bs : List (List Int)} {prev : Option Int} {seen s : List Int} (h : blkGo t f bs prev seen = some s) : BlkFacts t bs := by
  induction bs generalizing prev seen with
  | nil => exact ⟨by simp, by simp⟩
  | cons b bs ih =>
    cases b with
    | nil => simp [blkGo] at h
    | cons id b =>
      simp only [blkGo] at h
      by_cases hc : notUp prev id = true
      · rw [if_pos hc] at h; cases h
      · rw [if_neg hc] at h
        cases hs : rowGo t f (id :: b) (-1) seen with
        | none => rw [hs] at h; cases h
        | some s' =>
          rw [hs] at h
          have h3 := ih h
          have h4 := (rowGo_found hs).1
          refine ⟨fun i c hc => ?_, fun i c hc => ?_⟩
          · cases i with
            | zero => simp at hc; subst hc; simp
            | succ i => exact h3.pos i c (by simpa using hc)
          · cases i with
            | zero => simp at hc; subst hc; exact h4
            | succ i => exact h3.found i c (by simpa using hc)
theorem blkFacts {t : Timetable} {f : Fleet} {bs : List (List Int)} (h : okBlk t f bs = true) : BlkFacts t bs := by
  unfold okBlk at h
  split at h
  · cases h
  · rename_i s hs
    exact blkGo_found hs
end Go.Proofs.Ytaopadffabbjiaa
