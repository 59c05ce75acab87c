/-
  MakeBlocks: the dead minutes of the chains. Plain lemmas.
-/
import Derived.Test.YtaopadffabbjiaaLnkE
import Derived.Test.YtaopadffabbjiaaDeadM
namespace Go.Proofs.Ytaopadffabbjiaa
open Go Go.RowKit
set_option linter.unusedVariables false
set_option maxRecDepth 100000
theorem findI_trip {t : Timetable} (ok : okTimetable t = true) {a : Nat} (ha : a < t.Trips.length) : findI t (tripI t (a : Int)).Id = (a : Int) := by
  have h1 := List.getElem?_eq_getElem ha
  rw [tripI_of h1]
  rcases idx_spec (idIs (t.Trips[a]).Id) t.Trips with ⟨h2, h3⟩ | ⟨j, x, h2, h3, h4, _⟩
  · have := h3 a _ h1
    simp [idIs] at this
  · have h5 : findI t (t.Trips[a]).Id = (j : Int) := h4
    rw [h5]
    have h6 : x.Id = (t.Trips[a]).Id := by simpa [idIs] using h3
    rcases Nat.lt_trichotomy j a with h | h | h
    · have := time_rise ok j a _ _ h h2 h1; omega
    · rw [h]
    · have := time_rise ok a j _ _ h h1 h2; omega
def idOfT (t : Timetable) (k : Nat) : Int := (tripI t (k : Int)).Id
theorem pairDead_ids {t : Timetable} {f : Fleet} (ok : okTimetable t = true) {a b : Nat} (ha : a < t.Trips.length) (hb : b < t.Trips.length) : pairDead t f (idOfT t a) (idOfT t b) = ddT t f a b := by
  unfold pairDead idOfT ddT
  rw [findI_trip ok ha, findI_trip ok hb, if_pos ⟨ha, hb⟩]
theorem rowDead_ids {t : Timetable} {f : Fleet} (ok : okTimetable t = true) (l : List Nat) (hl : ∀ k, k ∈ l → k < t.Trips.length) : rowDead t f (l.map (idOfT t)) = walkSum (ddT t f) l := by
  have key : ∀ (l : List Nat) (a : Nat), a < t.Trips.length → (∀ k, k ∈ l → k < t.Trips.length) → rowDeadGo t f (idOfT t a) (l.map (idOfT t)) = walkSum (ddT t f) (a :: l) := by
    intro l
    induction l with
    | nil => intro a _ _; rfl
    | cons b l ih =>
      intro a ha hl
      simp only [List.map_cons, rowDeadGo, walkSum]
      rw [pairDead_ids ok ha (hl b (by simp)), ih b (hl b (by simp)) (fun k hk => hl k (by simp [hk]))]
  cases l with
  | nil => rfl
  | cons a l => exact key l a (hl a (by simp)) (fun k hk => hl k (by simp [hk]))
theorem deadAll_snoc {t : Timetable} {f : Fleet} (l : List (List Int)) (x : List Int) : deadAll t f (l ++ [x]) = deadAll t f l + rowDead t f x := by
  induction l with
  | nil => simp [deadAll]
  | cons y l ih => simp only [List.cons_append, deadAll, ih]; omega
theorem chain_lt {t : Timetable} {f : Fleet} {i : Nat} (hi : i < t.Trips.length) : ∀ k, k ∈ chain (blkBs t f) i → k < t.Trips.length := by
  intro k hk
  have := chain_mem (blkBs t f) _ i (by rw [blkBs_len]; exact hi) k hk
  rwa [blkBs_len] at this
theorem deadAll_up {t : Timetable} {f : Fleet} (ok : okTimetable t = true) (k : Nat) (hk : k ≤ t.Trips.length) : deadAll t f (blkUp t f k) = sumR (fun i => match (blkBs t f).getD i none with | none => restSum (ddT t f) (blkBs t f) i | some _ => 0) k := by
  induction k with
  | zero => rfl
  | succ k ih =>
    have ih := ih (by omega)
    have hb := List.getElem?_eq_getElem (l := blkBs t f) (i := k) (by rw [blkBs_len]; omega)
    simp only [sumR]
    rw [List.getD_eq_getElem?_getD, hb, Option.getD_some]
    cases c : (blkBs t f)[k]'(by rw [blkBs_len]; omega) with
    | some a =>
      rw [c] at hb
      rw [blkUp_no hb, ih]
      simp
    | none =>
      rw [c] at hb
      rw [blkUp_yes hb, deadAll_snoc, ih]
      have h9 := rowDead_ids (f := f) ok (chain (blkBs t f) k) (chain_lt (by omega))
      show _ + rowDead t f (blkIds t f k) = _
      rw [show blkIds t f k = (chain (blkBs t f) k).map (idOfT t) from rfl, h9]
      rfl
theorem deadAll_blk {t : Timetable} {f : Fleet} (ok : okTimetable t = true) (rf : RunFacts t f) : deadAll t f (blkRows t f) = blkDead t f := by
  unfold blkRows
  rw [deadAll_up ok _ (Nat.le_refl _)]
  have h1 := chains_dead (blkLinks rf) (ddT t f)
  rw [blkBs_len] at h1
  refine Eq.trans (Eq.trans (sumR_congr (fun i hi => ?_)) h1) ?_
  · cases (blkBs t f).getD i none <;> rfl
  have h2 := linkSum_sumR (ddT t f) (blkBs t f) 0
  rw [blkBs_len] at h2
  have h3 := befGo_dead (n := t.Trips.length) (fol := folT t f) (dd := ddT t f) t.Trips.length 0 (Nat.le_refl _)
  rw [Nat.sub_self] at h3
  have h4 : linkSum (ddT t f) 0 (blkBs t f) = blkDead t f := h3
  rw [← h4, h2]
  refine sumR_congr (fun k hk => ?_)
  (try rw [Nat.zero_add]) <;> cases (blkBs t f).getD k none <;> rfl
theorem blkDeadFacts {t : Timetable} {f : Fleet} (ok : okTimetable t = true) (rf : RunFacts t f) : DeadFacts t f (blkRows t f) := by
  have hlen := rf.time.len
  have hrow : ∀ x, x ∈ blkRows t f → ∃ i, i < t.Trips.length ∧ x = (chain (blkBs t f) i).map (idOfT t) := by
    intro x hx
    unfold blkRows blkUp at hx
    obtain ⟨i, hi, rfl⟩ := List.mem_map.1 hx
    exact ⟨i, List.mem_range.1 (List.mem_filter.1 hi).1, rfl⟩
  refine ⟨rf, ?_, ?_, ?_, ?_⟩
  · intro i b hb
    obtain ⟨k, _, rfl⟩ := hrow b (List.mem_of_getElem? hb)
    rw [List.length_map]
    unfold chain
    rw [chainGo]
    simp
  · intro x hx
    obtain ⟨k, hk, rfl⟩ := hrow x hx
    intro v hv
    obtain ⟨a, ha, rfl⟩ := List.mem_map.1 hv
    have h9 := findI_trip ok (chain_lt hk a ha)
    unfold idOfT
    rw [h9]
    omega
  · rw [deadAll_blk ok rf]
    have h9 := lkT_in rf (r := t.Trips.length) hlen 0
    have h1 := h9.d0
    have h2 := h9.d1
    unfold blkDead
    omega
  · have := blkUp_len t f t.Trips.length
    unfold blkRows
    omega
end Go.Proofs.Ytaopadffabbjiaa
