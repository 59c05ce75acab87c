/-
  Timetables: the list of a trip's times.
-/
import Derived.Test.YthibhehnakikpaaGreatTimeB
import Derived.Test.YthibhehnakikpaaGreatApp
namespace Go.Proofs.YthibhehnakikpaaGreat
open Go Go.RowKit
set_option linter.unusedVariables false
set_option maxRecDepth 100000
/-- All times of a trip. -/
def timesOf (t : Timetable) (x : Trip) : List Int := (List.range ((lineAtT t x.Line).Runs.length + 1)).map fun k => timeAt t x k
theorem timesOf_len (t : Timetable) (x : Trip) : (timesOf t x).length = (lineAtT t x.Line).Runs.length + 1 := by simp [timesOf]
theorem timesOf_at {t : Timetable} {x : Trip} {k : Nat} (hk : k ≤ (lineAtT t x.Line).Runs.length) : (timesOf t x)[k]? = some (timeAt t x k) := by
  simp [timesOf, show k < (lineAtT t x.Line).Runs.length + 1 by omega]
theorem timesOf_take1 (t : Timetable) (x : Trip) : ((timesOf t x).take (0 + 1)).map (Value.int .i64) = [.int .i64 x.Start] := by
  rw [take_succ_at (timesOf_at (Nat.zero_le _))]
  simp [timeAt, runSum, sumI]
theorem ownsRow_later {w W : World} {base : Nat} {e : TypeId} {sz : Nat} {v : Value} {n : Nat} {xs : List Value} (h : w.ownsRow base e sz v n xs) (hl : Later w W) : W.ownsRow base e sz v n xs := by
  obtain ⟨hxs, h2⟩ := h
  refine ⟨hxs, ?_⟩
  rcases h2 with h2 | ⟨g, cap, cur, h1, hb, hg, h3⟩
  · exact .inl h2
  · exact .inr ⟨g, cap, cur, h1, hb, (show Blk W g e cur from Blk.later (show Blk w g e cur from hg) hl), h3⟩
/-- A slice of its own that has elements: where it lies, and its cells. -/
theorem ownsRow_at {w : World} {base : Nat} {e : TypeId} {sz : Nat} {v : Value} {n : Nat} {xs : List Value} (h : w.ownsRow base e sz v n xs) (hn : 0 < n) (hsz : 0 < sz) :
    ∃ g cap, v = .slice (some ⟨g, 0, none⟩) n cap ∧ base ≤ g ∧ n ≤ cap ∧ cap ≤ 9223372036854775807 ∧ (∀ W [Later w W] (j : Nat) (u : Value), xs[j]? = some u → W.cell? ⟨g, j, none⟩ = some u) := by
  obtain ⟨hxs, h2⟩ := h
  rcases h2 with ⟨rfl, rfl⟩ | ⟨g, cap, cur, rfl, hb, hg, hnc, hcm, hsz2, htk⟩
  · simp at hxs; omega
  refine ⟨g, cap, rfl, by simpa using hb, hnc, by simpa [maxLen] using hcm, fun W hW j u hu => ?_⟩
  rw [← htk, List.getElem?_take] at hu
  split at hu
  · have hB : Blk W g e cur := Blk.later (show Blk w g e cur from hg) hW
    rw [hB.cell]; simpa using hu
  · cases hu
end Go.Proofs.YthibhehnakikpaaGreat
