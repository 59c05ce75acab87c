/-
  Walks, in the program (walkTable).
-/
import Derived.Test.YtaopadffabbjiaaWalkP
import Derived.Test.YtaopadffabbjiaaRowA
import Derived.Test.YtaopadffabbjiaaORow
import Derived.Test.YtaopadffabbjiaaNetB
import Derived.Deep.RegionHeld3
namespace Go.Proofs.Ytaopadffabbjiaa
open Go Go.RowKit
set_option linter.unusedVariables false
set_option maxRecDepth 100000
set_option linter.unusedSimpArgs false
/-- A table of numbers: block g holds the rows' slices, row i lies in block G i; m rows are there. -/
structure TabAt (w : World) (g : Nat) (G : Nat → Nat) (k m : Nat) (R : Nat → List Int) : Prop where
  top : ∃ cs, Blk w g 67 cs ∧ cs.size = k ∧ ∀ i, i < m → cs[i]? = some (.slice (some ⟨G i, 0, none⟩) k k)
  row : ∀ i, i < m → Blk w (G i) 3 (rowA (R i))
  ne : ∀ i, i < m → G i ≠ g
  inj : ∀ i j, i < m → j < m → G i = G j → i = j
section
variable {w W : World} {g : Nat} {G : Nat → Nat} {k m : Nat} {R R' : Nat → List Int}
theorem TabAt.congr (h : TabAt w g G k m R) (e : ∀ i, i < m → R i = R' i) : TabAt w g G k m R' :=
  ⟨h.top, fun i hi => by rw [← e i hi]; exact h.row i hi, h.ne, h.inj⟩
theorem TabAt.later (h : TabAt w g G k m R) (hl : Later w W) : TabAt W g G k m R := by
  obtain ⟨cs, h1, h2, h3⟩ := h.top
  exact ⟨⟨cs, h1.later hl, h2, h3⟩, fun i hi => (h.row i hi).later hl, h.ne, h.inj⟩
theorem TabAt.cellTop (h : TabAt w g G k m R) {i : Nat} (hi : i < m) : ∀ W [Later w W], W.cell? ⟨g, i, none⟩ = some (.slice (some ⟨G i, 0, none⟩) k k) := by
  obtain ⟨cs, h1, _, h3⟩ := h.top
  exact fun W hW => ((h1.later hW).cell i).trans (h3 i hi)
theorem TabAt.cell (h : TabAt w g G k m R) {i j : Nat} {v : Int} (hi : i < m) (hv : (R i)[j]? = some v) : ∀ W [Later w W], W.cell? ⟨G i, j, none⟩ = some (.int .i64 v) := (h.row i hi).rowAts hv
theorem TabAt.frozen (h : TabAt w g G k m R) {i j : Nat} (hi : i < m) : ∀ W [Later w W], W.frozen? ⟨G i, j, none⟩ = false := fun W hW => ((h.row i hi).later hW).frozen j
theorem TabAt.frozenTop (h : TabAt w g G k m R) (i : Nat) : ∀ W [Later w W], W.frozen? ⟨g, i, none⟩ = false := by
  obtain ⟨cs, h1, _, _⟩ := h.top
  exact fun W hW => (h1.later hW).frozen i
theorem TabAt.set_ (h : TabAt w g G k m R) {i : Nat} (hi : i < m) (j : Nat) (v : Int) : TabAt (w.setCell ⟨G i, j, none⟩ (.int .i64 v)) g G k m (fun a => if a = i then (R i).set j v else R a) := by
  obtain ⟨cs, h1, h2, h3⟩ := h.top
  refine ⟨⟨cs, h1.far (p := ⟨G i, j, none⟩) (Ne.symm (h.ne i hi)) _, h2, h3⟩, fun a ha => ?_, h.ne, h.inj⟩
  by_cases e : a = i
  · subst e; rw [if_pos rfl]; exact (h.row a ha).rowSet v
  · rw [if_neg e]; exact (h.row a ha).far (p := ⟨G i, j, none⟩) (fun e2 => e (h.inj a i ha hi e2)) _
theorem TabAt.push (h : TabAt w g G k m R) (hm : m < k) : TabAt ((w.alloc (.cells (rowA (List.replicate k 0)) 3)).setCell ⟨g, m, none⟩ (.slice (some ⟨w.heap.size, 0, none⟩) k k)) g (fun a => if a = m then w.heap.size else G a) k (m + 1) (fun a => if a = m then List.replicate k 0 else R a) := by
  obtain ⟨cs, h1, h2, h3⟩ := h.top
  have hg := h1.lt
  refine ⟨⟨_, (h1.later (inferInstance : Later w (w.alloc _))).set_ m _, by simpa using h2, fun i hi => ?_⟩, fun a ha => ?_, fun a ha => ?_, fun a b ha hb e => ?_⟩
  · by_cases e : i = m
    · subst e; rw [if_pos rfl]; exact set_eq _ (by omega)
    · rw [if_neg e, set_ne _ (by omega)]; exact h3 i (by omega)
  · by_cases e : a = m
    · subst e; rw [if_pos rfl, if_pos rfl]; exact (Blk.new w _ _).far (p := ⟨g, a, none⟩) (by show ¬ _ = g; omega) _
    · rw [if_neg e, if_neg e]
      exact ((h.row a (by omega)).later (inferInstance : Later w (w.alloc _))).far (p := ⟨g, m, none⟩) (h.ne a (by omega)) _
  · by_cases e : a = m
    · subst e; rw [if_pos rfl]; omega
    · rw [if_neg e]; exact h.ne a (by omega)
  · by_cases e1 : a = m
    · by_cases e2 : b = m
      · omega
      · simp only [if_pos e1, if_neg e2] at e
        have := (h.row b (by omega)).lt
        omega
    · by_cases e2 : b = m
      · simp only [if_neg e1, if_pos e2] at e
        have := (h.row a (by omega)).lt
        omega
      · simp only [if_neg e1, if_neg e2] at e
        exact h.inj a b (by omega) (by omega) e
theorem TabAt.rows {T : List (List Int)} (h : TabAt w g G k k (fun i => T.getD i [])) (hs : Shape k T) (hk : k ≤ 8) (hi : ∀ i j, i < k → j < k → I64 (tg T i j)) : Rows w (some ⟨g, 0, none⟩) k k T := by
  obtain ⟨cs, h1, h2, h3⟩ := h.top
  refine ⟨hs.len.symm, Nat.le_refl _, by omega, fun i x hx => ?_⟩
  have hik : i < k := by rw [← hs.len]; exact (List.getElem?_eq_some_iff.1 hx).1
  have hgx : T.getD i [] = x := by rw [List.getD_eq_getElem?_getD, hx]; rfl
  have hr := h.row i hik
  have hl := hs.row i hik
  rw [hgx] at hl
  simp only [hgx] at hr
  refine ⟨g, 0, [.slice (some ⟨G i, 0, none⟩) k k], rfl, rfl, fun j v hv => ?_, ⟨_, _, _, rfl, hr.ints hl.symm (by omega) fun v hv => ?_⟩⟩
  · match j, hv with
    | 0, hv =>
      simp at hv; subst hv
      simp only [Nat.zero_add, Nat.mul_one, Nat.add_zero]
      exact (h1.cell i).trans (h3 i hik)
  · obtain ⟨j, hj, rfl⟩ := List.getElem_of_mem hv
    have := hi i j hik (by omega)
    unfold tg at this
    rw [hgx, List.getD_eq_getElem?_getD, List.getElem?_eq_getElem hj] at this
    exact this
end
def rowJ (k i j : Nat) : List Int := (List.range k).map fun c => if c < j ∧ c ≠ i then -1 else 0
theorem rowJ_len (k i j : Nat) : (rowJ k i j).length = k := by simp [rowJ]
theorem rowJ_at {k i j c : Nat} (hc : c < k) : (rowJ k i j)[c]? = some (if c < j ∧ c ≠ i then -1 else 0) := by
  unfold rowJ; rw [List.getElem?_map, List.getElem?_range hc]; rfl
theorem rowJ_0 (k i : Nat) : rowJ k i 0 = List.replicate k 0 := by
  refine List.ext_getElem? fun c => ?_
  by_cases hc : c < k
  · rw [rowJ_at hc, List.getElem?_replicate, if_pos hc, if_neg (by omega)]
  · rw [List.getElem?_eq_none (by rw [rowJ_len]; omega), List.getElem?_eq_none (by simp; omega)]
theorem rowJ_same {k i : Nat} : rowJ k i (i + 1) = rowJ k i i := by
  refine List.ext_getElem? fun c => ?_
  by_cases hc : c < k
  · rw [rowJ_at hc, rowJ_at hc]
    by_cases e : c < i ∧ c ≠ i
    · rw [if_pos e, if_pos (by omega)]
    · rw [if_neg e, if_neg (by omega)]
  · rw [List.getElem?_eq_none (by rw [rowJ_len]; omega), List.getElem?_eq_none (by rw [rowJ_len]; omega)]
theorem rowJ_step {k i j : Nat} (h : ¬ i = j) (hj : j < k) : (rowJ k i j).set j (-1) = rowJ k i (j + 1) := by
  refine List.ext_getElem? fun c => ?_
  by_cases hc : c < k
  · rw [rowJ_at hc]
    by_cases e : j = c
    · subst e; rw [List.getElem?_set_self (by rw [rowJ_len]; exact hj), if_pos (by omega)]
    · rw [List.getElem?_set_ne e, rowJ_at hc]
      by_cases e2 : c < j ∧ c ≠ i
      · rw [if_pos e2, if_pos (by omega)]
      · rw [if_neg e2, if_neg (by omega)]
  · rw [List.getElem?_eq_none (by rw [List.length_set, rowJ_len]; omega), List.getElem?_eq_none (by rw [rowJ_len]; omega)]
theorem rowJ_end {k i : Nat} (hi : i < k) : rowJ k i k = (List.replicate k (-1)).set i 0 := by
  refine List.ext_getElem? fun c => ?_
  by_cases hc : c < k
  · rw [rowJ_at hc]
    by_cases e : i = c
    · subst e; rw [List.getElem?_set_self (by simpa using hi), if_neg (by omega)]
    · rw [List.getElem?_set_ne e, List.getElem?_replicate, if_pos hc, if_pos (by omega)]
  · rw [List.getElem?_eq_none (by rw [rowJ_len]; omega), List.getElem?_eq_none (by simp; omega)]
theorem tab0_at {k i : Nat} (hi : i < k) : (tab0 k).getD i [] = (List.replicate k (-1)).set i 0 := by
  unfold tab0
  rw [List.getD_eq_getElem?_getD, List.getElem?_map, List.getElem?_range hi]; rfl
theorem tset_at {T : List (List Int)} {i j a : Nat} {v : Int} (hi : i < T.length) : (tset T i j v).getD a [] = if a = i then (T.getD i []).set j v else T.getD a [] := by
  unfold tset
  by_cases e : a = i
  · subst e; rw [if_pos rfl, getDs hi]
  · rw [if_neg e, getDn (Ne.symm e)]
theorem tg_at {k : Nat} {T : List (List Int)} (hs : Shape k T) {i j : Nat} (hi : i < k) (hj : j < k) : (T.getD i [])[j]? = some (tg T i j) := by
  unfold tg
  rw [List.getD_eq_getElem?_getD (l := T.getD i []), List.getElem?_eq_getElem (by rw [hs.row i hi]; exact hj)]; rfl
theorem TabAt.tset_ {w : World} {g k : Nat} {G : Nat → Nat} {T : List (List Int)} (h : TabAt w g G k k (fun i => T.getD i [])) (hs : Shape k T) {i : Nat} (hi : i < k) (j : Nat) (v : Int) : TabAt (w.setCell ⟨G i, j, none⟩ (.int .i64 v)) g G k k (fun a => (tset T i j v).getD a []) :=
  (h.set_ hi j v).congr fun a ha => by rw [tset_at (by rw [hs.len]; exact hi)]
/-- What stands in the table in the midst of a round. -/
theorem mid_bd {k m : Nat} {l : List Walk} {T U : List (List Int)} {done : Nat → Nat → Prop} (h : Mid2 k m T U done) (ht : Tab k l m T) (hm : m < k) (hk : k ≤ 8) {i j : Nat} (hi : i < k) (hj : j < k) : -1 ≤ tg U i j ∧ tg U i j ≤ 61440 := by
  have hp := pow_le (M := m) (by omega)
  have h1 := ht.lo i j hi hj
  have h2 := ht.hi i j hi hj
  have h3 := ht.lo i m hi hm
  have h4 := ht.hi i m hi hm
  have h5 := ht.lo m j hm hj
  have h6 := ht.hi m j hm hj
  rcases Classical.em (done i j) with d | d
  · rw [h.yes i j hi hj d]
    unfold rnd
    split
    · omega
    · split <;> omega
  · rw [h.no i j hi hj d]; omega
end Go.Proofs.Ytaopadffabbjiaa
