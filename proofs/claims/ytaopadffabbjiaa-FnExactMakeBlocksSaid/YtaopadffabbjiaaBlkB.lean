/-
  Blocks: the trip of an id; when blocks are valid.
-/
import Derived.Test.YtaopadffabbjiaaFoll
import Derived.Test.YtaopadffabbjiaaApp
import Derived.StillTailTactics
namespace Go.Proofs.Ytaopadffabbjiaa
open Go Go.RowKit
set_option linter.unusedVariables false
set_option maxRecDepth 100000
theorem nodup_len {l : List Int} {n : Nat} (h : l.Nodup) (hb : ∀ y, y ∈ l → 0 ≤ y ∧ y < n) : l.length ≤ n := by
  induction n generalizing l with
  | zero =>
    cases l with
    | nil => simp
    | cons y l => have := hb y (by simp); omega
  | succ n ih =>
    by_cases hm : (n : Int) ∈ l
    · have h1 : (l.erase (n : Int)).Nodup := h.erase _
      have h2 := ih h1 (fun y hy => by
        have h3 := (List.Nodup.mem_erase_iff h).1 hy
        have := hb y h3.2
        have := h3.1
        omega)
      have := List.length_erase_of_mem hm
      omega
    · have := ih h (fun y hy => by
        have h3 := hb y hy
        have : y ≠ n := fun e => hm (e ▸ hy)
        omega)
      omega
theorem find_neg {t : Timetable} (h : TimeFacts t) {id : Int} (hid : id ≤ 0) : findI t id < 0 := by
  by_cases h0 : 0 ≤ findI t id
  · have := findI_id h0
    have := (tripI_facts h h0 (findI_bd t id).2).id
    omega
  · omega
structure SeenOk (t : Timetable) (seen : List Int) : Prop where
  nodup : seen.Nodup
  bd : ∀ y, y ∈ seen → 0 ≤ y ∧ y < t.Trips.length
theorem SeenOk.nil (t : Timetable) : SeenOk t [] := ⟨by simp, by simp⟩
theorem SeenOk.len {t : Timetable} {seen : List Int} (h : SeenOk t seen) (tf : TimeFacts t) : seen.length ≤ 12 := by
  have := nodup_len h.nodup h.bd
  have := tf.len
  omega
theorem SeenOk.snoc {t : Timetable} {seen : List Int} (h : SeenOk t seen) {v : Int} (h0 : 0 ≤ v) (h1 : v < t.Trips.length) (hn : v ∉ seen) : SeenOk t (seen ++ [v]) := by
  refine ⟨?_, fun y hy => ?_⟩
  · rw [List.nodup_append]
    exact ⟨h.nodup, by simp, fun a ha b hb e => by simp at hb; subst hb; subst e; exact hn ha⟩
  · rcases List.mem_append.1 hy with hy | hy
    · exact h.bd y hy
    · simp at hy; subst hy; exact ⟨h0, h1⟩
/-- Which trips were seen, as an array of twelve. -/
def UsedAt (w : World) (g : Nat) (t : TypeId) (seen : List Int) : Prop := ∃ cs : Array Value, Blk w g t cs ∧ cs.size = 12 ∧ ∀ j : Nat, j < 12 → cs[j]? = some (.bool (decide ((j : Int) ∈ seen)))
theorem UsedAt.later {w w' : World} {g : Nat} {t : TypeId} {seen : List Int} (h : UsedAt w g t seen) (hl : Later w w') : UsedAt w' g t seen := by
  obtain ⟨cs, hb, hs, hc⟩ := h
  exact ⟨cs, hb.later hl, hs, hc⟩
theorem UsedAt.cell {w : World} {g : Nat} {t : TypeId} {seen : List Int} (h : UsedAt w g t seen) {j : Nat} (hj : j < 12) : ∀ W [Later w W], W.cell? ⟨g, j, none⟩ = some (.bool (decide ((j : Int) ∈ seen))) := by
  obtain ⟨cs, hb, hs, hc⟩ := h
  intro W hW
  rw [(hb.later hW).cell]
  exact hc j hj
theorem UsedAt.frozen {w : World} {g : Nat} {t : TypeId} {seen : List Int} (h : UsedAt w g t seen) (j : Nat) : ∀ W [Later w W], W.frozen? ⟨g, j, none⟩ = false := by
  obtain ⟨cs, hb, hs, hc⟩ := h
  intro W hW
  exact (hb.later hW).frozen j
theorem UsedAt.set {w : World} {g : Nat} {t : TypeId} {seen : List Int} (h : UsedAt w g t seen) {j : Nat} (hj : j < 12) : UsedAt (w.setCell ⟨g, j, none⟩ (.bool true)) g t (seen ++ [(j : Int)]) := by
  obtain ⟨cs, hb, hs, hc⟩ := h
  refine ⟨_, hb.set_ j (.bool true), by simpa using hs, fun i hi => ?_⟩
  by_cases e : i = j
  · subst e
    rw [set_eq _ (by omega)]
    simp
  · rw [set_ne _ e, hc i hi]
    have : ¬ ((i : Int) = (j : Int)) := by omega
    simp [this]
theorem used_start : ∀ j : Nat, j < 12 → (#[.bool false, .bool false, .bool false, .bool false, .bool false, .bool false, .bool false, .bool false, .bool false, .bool false, .bool false, .bool false] : Array Value)[j]? = some (.bool (decide ((j : Int) ∈ ([] : List Int))))
  | 0, _ => by simp
  | 1, _ => by simp
  | 2, _ => by simp
  | 3, _ => by simp
  | 4, _ => by simp
  | 5, _ => by simp
  | 6, _ => by simp
  | 7, _ => by simp
  | 8, _ => by simp
  | 9, _ => by simp
  | 10, _ => by simp
  | 11, _ => by simp
  | n + 12, h => by omega
/-- What comes of the rest of a block and the blocks behind it. -/
def rowThen (t : Timetable) (f : Fleet) (l : List Int) (prev : Int) (seen : List Int) (bs : List (List Int)) (id0 : Int) : Option (List Int) :=
  match rowGo t f l prev seen with
  | none => none
  | some s => blkGo t f bs (some id0) s
theorem rowThen_nil (t : Timetable) (f : Fleet) (prev : Int) (seen : List Int) (bs : List (List Int)) (id0 : Int) : rowThen t f [] prev seen bs id0 = blkGo t f bs (some id0) seen := rfl
def rowBad (t : Timetable) (f : Fleet) (id prev : Int) (seen : List Int) : Prop := findI t id < 0 ∨ findI t id ∈ seen ∨ (0 ≤ prev ∧ canF t f (tripI t prev) (tripI t (findI t id)) = false)
theorem rowThen_bad {t : Timetable} {f : Fleet} {id : Int} {l : List Int} {prev : Int} {seen : List Int} {bs : List (List Int)} {id0 : Int} (h : rowBad t f id prev seen) : rowThen t f (id :: l) prev seen bs id0 = none := by
  unfold rowBad at h; unfold rowThen; simp only [rowGo]; rw [if_pos h]
theorem rowThen_good {t : Timetable} {f : Fleet} {id : Int} {l : List Int} {prev : Int} {seen : List Int} {bs : List (List Int)} {id0 : Int} (h : ¬ rowBad t f id prev seen) : rowThen t f (id :: l) prev seen bs id0 = rowThen t f l (findI t id) (seen ++ [findI t id]) bs id0 := by
  unfold rowBad at h; unfold rowThen; simp only [rowGo]; rw [if_neg h]
theorem blkGo_row {t : Timetable} {f : Fleet} {id : Int} {l : List Int} {bs : List (List Int)} {prev : Option Int} {seen : List Int} (h : notUp prev id = false) : blkGo t f ((id :: l) :: bs) prev seen = rowThen t f (id :: l) (-1) seen bs id := by
  simp only [blkGo]; rw [if_neg (by simp [h])]; rfl
theorem okBlk_none {t : Timetable} {f : Fleet} {bs : List (List Int)} (h : blkGo t f bs none [] = none) : okBlk t f bs = false := by unfold okBlk; rw [h]
theorem okBlk_some {t : Timetable} {f : Fleet} {bs : List (List Int)} {s : List Int} (h : blkGo t f bs none [] = some s) : okBlk t f bs = decide (s.length = t.Trips.length) := by unfold okBlk; rw [h]
/-- The block before the k-th begins with p. -/
def Before (bs : List (List Int)) (k : Nat) (p : Option Int) : Prop := (k = 0 ∧ p = none) ∨ ∃ m v r, k = m + 1 ∧ bs[m]? = some (v :: r) ∧ p = some v
/-- The trip before the j-th of a block. -/
def PrevAt (t : Timetable) (x : List Int) (j : Nat) (prev : Int) (seen : List Int) : Prop := (j = 0 ∧ prev = -1) ∨ ∃ m v, j = m + 1 ∧ x[m]? = some v ∧ prev = findI t v ∧ 0 ≤ findI t v ∧ findI t v ∈ seen
end Go.Proofs.Ytaopadffabbjiaa
