/-
  Earliest arrivals: what is asked, what is answered. Plain functions.
-/
import Derived.Test.YtaopadffabbjiaaArrQ
import Derived.Test.YtaopadffabbjiaaLegP
namespace Go.Proofs.Ytaopadffabbjiaa
open Go Go.RowKit
set_option linter.unusedVariables false
set_option maxRecDepth 100000
def okFrom (t : Timetable) (change from_ at_ : Int) : Bool := okAsked t change && inB from_ 0 ((t.Network.Stops.length : Int) - 1) && okTime at_
structure FromFacts (t : Timetable) (change from_ at_ : Int) : Prop where
  time : TimeFacts t
  ch0 : 0 ≤ change
  ch1 : change ≤ 30
  f0 : 0 ≤ from_
  f1 : from_ < t.Network.Stops.length
  a0 : 0 ≤ at_
  a1 : at_ ≤ 1799
theorem fromFacts {t : Timetable} {change from_ at_ : Int} (h : okFrom t change from_ at_ = true) : FromFacts t change from_ at_ := by
  simp only [okFrom, okAsked, okTime, Bool.and_eq_true, inB_t] at h
  obtain ⟨⟨⟨h1, h2⟩, h3⟩, h4⟩ := h
  exact ⟨timeFacts h1, h2.1, h2.2, h3.1, by omega, h4.1, h4.2⟩
/-- The earliest arrivals, as the program lists them. -/
def earL (t : Timetable) (change from_ at_ : Int) : List Int := ((arrL t change (readyL t.Network.Stops.length from_ at_) 4).map encN).set from_.toNat at_
theorem earL_eq {t : Timetable} {change from_ at_ : Int} (h : FromFacts t change from_ at_) : arrS t change from_ at_ 4 = earL t change from_ at_ := by
  have hs := arrS_inv h.time h.ch0 h.f0 h.f1 h.a0 (by have := h.a1; omega) 4
  have hl := (arrL_min (stopsIn h.time) h.ch0 (at_ := at_) h.f0 h.f1 4).1
  have f0 := h.f0
  have f1 := h.f1
  refine List.ext_getElem? fun i => ?_
  by_cases hi : i < t.Network.Stops.length
  · have e1 : (arrS t change from_ at_ 4)[i]? = some (gi (arrS t change from_ at_ 4) i) := by
      have : i < (arrS t change from_ at_ 4).length := by rw [hs.len]; exact hi
      rw [List.getElem?_eq_getElem this, gi_at (List.getElem?_eq_getElem this)]
    rw [e1]
    unfold earL
    by_cases e : i = from_.toNat
    · subst e
      rw [List.getElem?_set_self (by simp; omega), show ((from_.toNat : Nat) : Int) = from_ by omega, hs.own]
    · rw [List.getElem?_set_ne (Ne.symm e), List.getElem?_map]
      have h2 : i < (arrL t change (readyL t.Network.Stops.length from_ at_) 4).length := by rw [hl]; exact hi
      rw [List.getElem?_eq_getElem h2, Option.map_some, arr_same h.time h.ch0 h.f0 h.f1 h.a0 (by have := h.a1; omega) 4 (by omega) (by omega) (by omega), gi_at (List.getElem?_eq_getElem h2)]
  · rw [List.getElem?_eq_none (by rw [hs.len]; omega), List.getElem?_eq_none (by simp [earL, hl]; omega)]
theorem earL_len {t : Timetable} {change from_ at_ : Int} (h : FromFacts t change from_ at_) : (earL t change from_ at_).length = t.Network.Stops.length := by
  rw [← earL_eq h]; exact (arrS_inv h.time h.ch0 h.f0 h.f1 h.a0 (by have := h.a1; omega) 4).len
theorem earL_bd {t : Timetable} {change from_ at_ : Int} (h : FromFacts t change from_ at_) : ∀ v, v ∈ earL t change from_ at_ → -1 ≤ v ∧ v ≤ 2099 := by
  rw [← earL_eq h]
  intro v hv
  have hs := arrS_inv h.time h.ch0 h.f0 h.f1 h.a0 (by have := h.a1; omega) 4
  obtain ⟨k, hk⟩ := List.getElem?_of_mem hv
  have := hs.rng k (by omega) (by have := (List.getElem?_eq_some_iff.1 hk).1; rw [hs.len] at this; omega)
  rw [gi_at hk] at this
  exact this
def earRes (t : Timetable) (change from_ at_ : Int) : List Int × Bool := if okFrom t change from_ at_ = true then (earL t change from_ at_, true) else ([], false)
theorem earRes_len (t : Timetable) (change from_ at_ : Int) : (earRes t change from_ at_).1.length ≤ 8 := by
  unfold earRes
  split
  · rename_i h
    have f := fromFacts h
    have := earL_len f
    have := f.time.net.stops
    simp only; omega
  · simp
/-- The places of the numbers in range, counted from k. -/
def inGo (b : Int) : List Int → Nat → List Int
  | [], _ => []
  | a :: l, k => if inB a 0 b = true then (k : Int) :: inGo b l (k + 1) else inGo b l (k + 1)
theorem inGo_len (b : Int) (l : List Int) (k : Nat) : (inGo b l k).length ≤ l.length := by
  induction l generalizing k with
  | nil => simp [inGo]
  | cons a l ih =>
    have := ih (k + 1)
    simp only [inGo]
    split <;> simp <;> omega
theorem inGo_bd (b : Int) (l : List Int) (k : Nat) : ∀ y, y ∈ inGo b l k → (k : Int) ≤ y ∧ y < (k : Int) + l.length := by
  induction l generalizing k with
  | nil => intro y hy; simp [inGo] at hy
  | cons s l ih =>
    intro y hy
    simp only [inGo] at hy
    simp only [List.length_cons]
    split at hy
    · rcases List.mem_cons.1 hy with h | h
      · omega
      · have := ih _ y h; omega
    · have := ih _ y hy; omega
def reachRes (t : Timetable) (change from_ at_ by_ : Int) : List Int × Bool := if okFrom t change from_ at_ = true ∧ okTime by_ = true then (inGo by_ (earL t change from_ at_) 0, true) else ([], false)
theorem reachRes_len (t : Timetable) (change from_ at_ by_ : Int) : (reachRes t change from_ at_ by_).1.length ≤ 8 := by
  unfold reachRes
  split
  · rename_i h
    have f := fromFacts h.1
    have := earL_len f
    have := f.time.net.stops
    have := inGo_len by_ (earL t change from_ at_) 0
    simp only; omega
  · simp
end Go.Proofs.Ytaopadffabbjiaa
