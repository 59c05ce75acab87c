/-
  MakeBlocks: the chains of the program's links, as lists. Plain lemmas.
-/
import Derived.Test.YtaopadffabbjiaaLnkB
namespace Go.Proofs.Ytaopadffabbjiaa
open Go Go.RowKit
set_option linter.unusedVariables false
set_option maxRecDepth 100000
def bI : Option Nat → Int
  | none => -1
  | some a => (a : Int)
theorem bI_neg {o : Option Nat} : bI o < 0 ↔ o = none := by cases o <;> simp [bI] <;> try omega
theorem bI_inj {o p : Option Nat} (h : bI o = bI p) : o = p := by
  cases o <;> cases p <;> simp [bI] at h ⊢ <;> omega
def blkBs (t : Timetable) (f : Fleet) : List (Option Nat) := befGo t.Trips.length (folT t f) (ddT t f) t.Trips.length 0
def blkIds (t : Timetable) (f : Fleet) (i : Nat) : List Int := (chain (blkBs t f) i).map fun (k : Nat) => (tripI t (k : Int)).Id
def blkUp (t : Timetable) (f : Fleet) (i : Nat) : List (List Int) := ((List.range i).filter fun i => decide ((blkBs t f)[i]? = some none)).map (blkIds t f)
def blkRows (t : Timetable) (f : Fleet) : List (List Int) := blkUp t f t.Trips.length
def blkDead (t : Timetable) (f : Fleet) : Int := (lkT t f t.Trips.length 0).2
theorem blkBs_len (t : Timetable) (f : Fleet) : (blkBs t f).length = t.Trips.length := befGo_len _ _
theorem trip_grows {t : Timetable} (h : TimeFacts t) : ∀ x, x ∈ t.Trips → x.Start < endAt t x := fun x hx => by
  obtain ⟨i, hi, rfl⟩ := List.getElem_of_mem hx
  have f := h.trip i _ (List.getElem?_eq_getElem hi)
  have lf := lineAtT_facts h.net f.line0 f.line1
  have hb := sumI_bd (l := (lineAtT t t.Trips[i].Line).Runs) (lo := 1) (hi := 60) lf.run
  have h1 := lf.stops
  have h2 := lf.runs
  unfold endAt
  omega
theorem blkLinks {t : Timetable} {f : Fleet} (rf : RunFacts t f) : Links (fun a => (tripI t (a : Int)).Start) (blkBs t f) := by
  refine ⟨fun k a h => ?_, fun i j a h1 h2 => ?_⟩
  · obtain ⟨h1, h2, _⟩ := befGo_at (n := t.Trips.length) (fol := folT t f) (dd := ddT t f) t.Trips.length 0 (Nat.le_refl _) k a h
    rw [Nat.sub_self, Nat.zero_add] at h2
    have hk : k < t.Trips.length := by rw [← blkBs_len t f]; exact (List.getElem?_eq_some_iff.1 h).1
    refine ⟨by rw [blkBs_len]; exact h1, ?_⟩
    have ha' := List.getElem?_eq_getElem h1
    have hk' := List.getElem?_eq_getElem hk
    unfold folT canF at h2
    simp only [Bool.and_eq_true, decide_eq_true_eq] at h2
    have h3 := h2.2
    have ta := (rf.time.trip a _ ha').in_
    have tk := (rf.time.trip k _ hk').in_
    have hg := trip_grows rf.time _ (List.getElem_mem h1)
    rw [tripI_of ha', tripI_of hk'] at h3 ⊢
    have hd := deadB_bd rf.time.net rf.fleet ta.line0 ta.line1 tk.line0 tk.line1
    have ht := rf.fleet.turn
    omega
  · rcases Nat.lt_trichotomy i j with h | h | h
    · exact (befGo_inj t.Trips.length 0 (Nat.le_refl _) i j a h h1 h2).elim
    · exact h
    · exact (befGo_inj t.Trips.length 0 (Nat.le_refl _) j i a h h2 h1).elim
theorem nxt_idx {st : Nat → Int} {bs : List (Option Nat)} (hL : Links st bs) (a : Nat) : idx (intIs (a : Int)) (bs.map bI) = bI (nxt bs a) := by
  rcases idx_spec (intIs (a : Int)) (bs.map bI) with ⟨h1, h2⟩ | ⟨j, x, h1, h2, h3, _⟩
  · rw [h1]
    cases c : nxt bs a with
    | none => rfl
    | some k =>
      have h9 := (nxt_some c).2
      have := h2 k (bI (some a)) (by rw [List.getElem?_map, h9]; rfl)
      simp [intIs, bI] at this
  · rw [h3]
    rw [List.getElem?_map] at h1
    cases hb : bs[j]? with
    | none => rw [hb] at h1; cases h1
    | some o =>
      rw [hb] at h1
      cases h1
      have e : bI o = bI (some a) := by
        have h9 : bI o = (a : Int) := by simpa [intIs] using h2
        exact h9
      have e2 := bI_inj e
      subst e2
      rw [nxt_of hL hb]
      rfl
/-- How many are left of a chain, by the number that says where it stands. -/
def mO (bs : List (Option Nat)) (z : Int) : Nat := (chainO bs (if z < 0 then none else some z.toNat)).length
theorem mO_some (bs : List (Option Nat)) (a : Nat) : mO bs (a : Int) = (chain bs a).length := by unfold mO; rw [if_neg (by omega)]; rfl
theorem mO_bI (bs : List (Option Nat)) (o : Option Nat) : mO bs (bI o) = (chainO bs o).length := by
  cases o with
  | none => rfl
  | some a => exact mO_some bs a
theorem blkUp_no {t : Timetable} {f : Fleet} {k a : Nat} (h : (blkBs t f)[k]? = some (some a)) : blkUp t f (k + 1) = blkUp t f k := by
  unfold blkUp
  rw [List.range_succ, List.filter_append]
  simp [h]
theorem blkUp_yes {t : Timetable} {f : Fleet} {k : Nat} (h : (blkBs t f)[k]? = some none) : blkUp t f (k + 1) = blkUp t f k ++ [blkIds t f k] := by
  unfold blkUp
  rw [List.range_succ, List.filter_append]
  simp [h]
theorem blkUp_len (t : Timetable) (f : Fleet) (k : Nat) : (blkUp t f k).length ≤ k := by
  unfold blkUp
  rw [List.length_map]
  exact Nat.le_trans (List.length_filter_le _ _) (by simp)
theorem nxt_lt {bs : List (Option Nat)} {a k : Nat} (h : nxt bs a = some k) : k < bs.length := (nxt_some h).1
end Go.Proofs.Ytaopadffabbjiaa
