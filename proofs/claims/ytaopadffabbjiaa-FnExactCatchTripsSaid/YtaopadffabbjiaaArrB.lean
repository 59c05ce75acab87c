/-
  Earliest arrivals: the program's rounds.
-/
import Derived.Test.YtaopadffabbjiaaArr
namespace Go.Proofs.Ytaopadffabbjiaa
open Go Go.RowKit
set_option linter.unusedVariables false
set_option maxRecDepth 100000
/-- Numbers of a size that rounds bear. -/
def Small (l : List Int) : Prop := ∀ v, v ∈ l → 0 ≤ v ∧ v ≤ 1073741900
theorem Small.i64 {l : List Int} (h : Small l) : ∀ v, v ∈ l → I64 v := fun v hv => by have := h v hv; unfold I64; omega
theorem small_gi {l : List Int} {n : Nat} (hn : l.length = n) (h : ∀ s : Int, 0 ≤ s → s < n → 0 ≤ gi l s ∧ gi l s ≤ 1073741900) : Small l := by
  intro v hv
  obtain ⟨k, hk⟩ := List.getElem?_of_mem hv
  have hkl := (List.getElem?_eq_some_iff.1 hk).1
  have := h k (by omega) (by omega)
  rw [gi_at hk] at this
  exact this
theorem rideL_small {t : Timetable} (tf : TimeFacts t) {ready : List Int} (hr : ready.length = t.Network.Stops.length) : ∀ s : Int, 0 ≤ s → s < t.Network.Stops.length → 0 ≤ gi (rideL t ready) s ∧ gi (rideL t ready) s ≤ never := by
  intro s s0 s1
  have g := rideL_glb (stopsIn tf) hr s0 s1
  refine ⟨?_, g.le⟩
  rcases g.att with e | e
  · rw [e]; decide
  · exact (hop_bd (stopsIn tf) e).2.2.1
theorem bestL_at {best next : List Int} {j : Nat} {a b : Int} (ha : next[j]? = some a) (hb : best[j]? = some b) : (bestL best next)[j]? = some (if a < b then a else b) := by
  unfold bestL; rw [List.getElem?_zipWith, hb, ha]
theorem readyN_at {change : Int} {best next : List Int} {j : Nat} {a b : Int} (ha : next[j]? = some a) (hb : best[j]? = some b) : (readyN change best next)[j]? = some (if a < b then a + change else never) := by
  unfold readyN; rw [List.getElem?_zipWith, hb, ha]
/-- Up to j the new values stand, behind them the old ones. -/
structure Mid (n j : Nat) (new old cur : List Int) : Prop where
  len : cur.length = n
  lt : ∀ i, i < j → cur[i]? = new[i]?
  ge : ∀ i, j ≤ i → cur[i]? = old[i]?
theorem Mid.start {n : Nat} {new old : List Int} (h : old.length = n) : Mid n 0 new old old := ⟨h, fun i hi => by omega, fun i _ => rfl⟩
theorem Mid.put {n j : Nat} {new old cur : List Int} (h : Mid n j new old cur) (hj : j < n) {v : Int} (hv : new[j]? = some v) : Mid n (j + 1) new old (cur.set j v) := by
  refine ⟨by rw [List.length_set]; exact h.len, fun i hi => ?_, fun i hi => by rw [List.getElem?_set_ne (by omega)]; exact h.ge i (by omega)⟩
  by_cases e : i = j
  · subst e; rw [List.getElem?_set_self (by rw [h.len]; exact hj), hv]
  · rw [List.getElem?_set_ne (Ne.symm e)]; exact h.lt i (by omega)
theorem Mid.keep {n j : Nat} {new old cur : List Int} (h : Mid n j new old cur) {v : Int} (ho : old[j]? = some v) (hv : new[j]? = some v) : Mid n (j + 1) new old cur := by
  refine ⟨h.len, fun i hi => ?_, fun i hi => h.ge i (by omega)⟩
  by_cases e : i = j
  · subst e; rw [h.ge i (Nat.le_refl _), ho, hv]
  · exact h.lt i (by omega)
theorem Mid.done {n j : Nat} {new old cur : List Int} (h : Mid n j new old cur) (hj : j = n) (hn : new.length = n) : cur = new := by
  refine List.ext_getElem? fun i => ?_
  by_cases hi : i < j
  · exact h.lt i hi
  · rw [List.getElem?_eq_none (by rw [h.len]; omega), List.getElem?_eq_none (by omega)]
theorem set_set_at (l : List Int) (j : Nat) (u v : Int) : (l.set j u).set j v = l.set j v := by simp
structure RoundFacts (n : Nat) (change : Int) (best ready : List Int) : Prop where
  lb : best.length = n
  lr : ready.length = n
  sb : Small best
  sr : Small ready
theorem roundFacts {t : Timetable} (tf : TimeFacts t) {change : Int} (h0 : 0 ≤ change) (h1 : change ≤ 30) {best ready : List Int} (h : RoundFacts t.Network.Stops.length change best ready) :
    RoundFacts t.Network.Stops.length change (bestL best (rideL t ready)) (readyN change best (rideL t ready)) := by
  have hl : (rideL t ready).length = t.Network.Stops.length := by rw [rideL_len]; exact h.lr
  have hs := rideL_small tf h.lr
  have hb : ∀ s : Int, 0 ≤ s → s < t.Network.Stops.length → 0 ≤ gi best s ∧ gi best s ≤ 1073741900 := fun s s0 s1 => by
    have : s.toNat < best.length := by rw [h.lb]; omega
    have e := h.sb (best[s.toNat]) (List.getElem_mem this)
    have e2 : gi best s = best[s.toNat] := by unfold gi; rw [List.getD_eq_getElem?_getD, List.getElem?_eq_getElem this]; rfl
    rw [e2]; exact e
  refine ⟨by simp [bestL, h.lb, hl], by simp [readyN, h.lb, hl], small_gi (n := t.Network.Stops.length) (by simp [bestL, h.lb, hl]) fun s s0 s1 => ?_, small_gi (n := t.Network.Stops.length) (by simp [readyN, h.lb, hl]) fun s s0 s1 => ?_⟩
  · rw [show gi (bestL best (rideL t ready)) s = _ from gi_zip h.lb hl s0 s1]
    have := hs s s0 s1
    have := hb s s0 s1
    unfold never at *
    split <;> omega
  · rw [show gi (readyN change best (rideL t ready)) s = _ from gi_zip h.lb hl s0 s1]
    have := hs s s0 s1
    have := hb s s0 s1
    unfold never at *
    split <;> omega
end Go.Proofs.Ytaopadffabbjiaa
