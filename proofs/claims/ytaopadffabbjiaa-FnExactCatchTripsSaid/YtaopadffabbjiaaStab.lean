/-
  slices.SortStableFunc on at most nineteen Connections: a sort by insertion.
-/
import Derived.Test.YtaopadffabbjiaaCmp
import Derived.Test.YtaopadffabbjiaaAppF
import Derived.Deep.RegionHeld3
namespace Go.Proofs.Ytaopadffabbjiaa
open Go Go.RowKit
set_option linter.unusedVariables false
set_option maxRecDepth 100000
set_option linter.unusedSimpArgs false
/-- Where x is put: behind the last that is not later, seen from behind. -/
def posC (l : List Connection) (x : Connection) : Nat → Nat
  | 0 => 0
  | j + 1 => if x.Time < (l.getD j default).Time then posC l x j else j + 1
def insC (l : List Connection) (x : Connection) : List Connection := l.take (posC l x l.length) ++ x :: l.drop (posC l x l.length)
theorem posC_le (l : List Connection) (x : Connection) : ∀ j, posC l x j ≤ j
  | 0 => Nat.le_refl _
  | j + 1 => by
    simp only [posC]
    split
    · have := posC_le l x j; omega
    · exact Nat.le_refl _
theorem insC_len (l : List Connection) (x : Connection) : (insC l x).length = l.length + 1 := by
  have := posC_le l x l.length
  unfold insC; simp; omega
def sortC (l : List Connection) : List Connection := l.foldl insC []
theorem sortC_len (l : List Connection) : (sortC l).length = l.length := by
  have key : ∀ (l a : List Connection), (l.foldl insC a).length = a.length + l.length := by
    intro l
    induction l with
    | nil => intro a; simp
    | cons x l ih => intro a; rw [List.foldl_cons, ih, insC_len]; simp; omega
  have := key l []
  unfold sortC; simpa using this
theorem sortC_step {L : List Connection} {i : Nat} {x : Connection} (h : L[i]? = some x) : sortC (L.take (i + 1)) = insC (sortC (L.take i)) x := by
  unfold sortC; rw [List.take_add_one, h, List.foldl_append]; rfl
/-- x on its way down: j of P are ahead of it. -/
def midC (P : List Connection) (x : Connection) (j : Nat) (rest : List Connection) : List Connection := P.take j ++ x :: (P.drop j ++ rest)
theorem midC_x {P : List Connection} {x : Connection} {j : Nat} {rest : List Connection} (hj : j ≤ P.length) : (midC P x j rest)[j]? = some x := by
  unfold midC
  rw [List.getElem?_append_right (by simp; omega)]
  simp [Nat.min_eq_left hj]
theorem midC_y {P : List Connection} {x y : Connection} {j : Nat} {rest : List Connection} (hy : P[j]? = some y) : (midC P x (j + 1) rest)[j]? = some y := by
  have hj : j < P.length := (List.getElem?_eq_some_iff.1 hy).1
  unfold midC
  rw [List.getElem?_append_left (by simp; omega), List.getElem?_take, if_pos (by omega)]
  exact hy
theorem midC_swap {P : List Connection} {x y : Connection} {j : Nat} {rest : List Connection} (hy : P[j]? = some y) : ((midC P x (j + 1) rest).set (j + 1) y).set j x = midC P x j rest := by
  have hj : j < P.length := (List.getElem?_eq_some_iff.1 hy).1
  unfold midC
  have e1 : P.take (j + 1) = P.take j ++ [y] := by rw [List.take_add_one, hy]; rfl
  have e2 : P.drop j = y :: P.drop (j + 1) := drop_at hy
  rw [e1, e2]
  have hl : (P.take j).length = j := by simp; omega
  rw [List.append_assoc, List.set_append_right _ _ (by omega), List.set_append_right _ _ (by omega), hl]
  simp
theorem midC_end {P : List Connection} {x : Connection} {rest : List Connection} : midC P x P.length rest = P ++ x :: rest := by
  unfold midC; simp
theorem midC_ins {P : List Connection} {x : Connection} {rest : List Connection} : midC P x (posC P x P.length) rest = insC P x ++ rest := by
  unfold midC insC; simp
/-- A row of Connections that lies in a block that may be written. -/
def RowC (w : World) (g : Nat) (l : List Connection) : Prop := ∃ (t : TypeId) (cs : Array Value), Blk w g t cs ∧ ∀ (k : Nat) (x : Connection), l[k]? = some x → cs[k * 4]? = some (.int .i64 x.Id) ∧ cs[k * 4 + 1]? = some (.int .i64 x.Stop) ∧ cs[k * 4 + 2]? = some (.int .i64 x.Place) ∧ cs[k * 4 + 3]? = some (.int .i64 x.Time)
section
variable {w W : World} {g : Nat} {l : List Connection}
theorem RowC.lt (h : RowC w g l) : g < w.heap.size := let ⟨_, _, hb, _⟩ := h; hb.lt
theorem RowC.later (h : RowC w g l) (hl : Later w W) : RowC W g l := let ⟨t, cs, hb, hc⟩ := h; ⟨t, cs, hb.later hl, hc⟩
theorem RowC.cell (h : RowC w g l) {k : Nat} {x : Connection} (hx : l[k]? = some x) : w.cell? ⟨g, k * 4, none⟩ = some (.int .i64 x.Id) ∧ w.cell? ⟨g, k * 4 + 1, none⟩ = some (.int .i64 x.Stop) ∧ w.cell? ⟨g, k * 4 + 2, none⟩ = some (.int .i64 x.Place) ∧ w.cell? ⟨g, k * 4 + 3, none⟩ = some (.int .i64 x.Time) := by
  obtain ⟨t, cs, hb, hc⟩ := h
  obtain ⟨h0, h1, h2, h3⟩ := hc k x hx
  exact ⟨(hb.cell _).trans h0, (hb.cell _).trans h1, (hb.cell _).trans h2, (hb.cell _).trans h3⟩
theorem RowC.frozen (h : RowC w g l) (i : Nat) : w.frozen? ⟨g, i, none⟩ = false := let ⟨_, _, hb, _⟩ := h; hb.frozen i
theorem RowC.put (h : RowC w g l) {k : Nat} (hk : k < l.length) (y : Connection) : RowC ((((w.setCell ⟨g, k * 4, none⟩ (.int .i64 y.Id)).setCell ⟨g, k * 4 + 1, none⟩ (.int .i64 y.Stop)).setCell ⟨g, k * 4 + 2, none⟩ (.int .i64 y.Place)).setCell ⟨g, k * 4 + 3, none⟩ (.int .i64 y.Time)) g (l.set k y) := by
  obtain ⟨t, cs, hb, hc⟩ := h
  refine ⟨t, _, (((hb.set_ (k * 4) _).set_ (k * 4 + 1) _).set_ (k * 4 + 2) _).set_ (k * 4 + 3) _, fun j x hx => ?_⟩
  have hs : k * 4 + 3 < cs.size := by
    have := (hc k l[k] (List.getElem?_eq_getElem hk)).2.2.2
    exact (Array.getElem?_eq_some_iff.1 this).1
  by_cases e : j = k
  · subst e
    rw [List.getElem?_set_self hk] at hx
    cases hx
    refine ⟨?_, ?_, ?_, ?_⟩
    · rw [set_ne _ (by omega), set_ne _ (by omega), set_ne _ (by omega)]; exact set_eq _ (by omega)
    · rw [set_ne _ (by omega), set_ne _ (by omega)]; exact set_eq _ (by simp; omega)
    · rw [set_ne _ (by omega)]; exact set_eq _ (by simp; omega)
    · exact set_eq _ (by simp; omega)
  · rw [List.getElem?_set_ne (Ne.symm e)] at hx
    obtain ⟨h0, h1, h2, h3⟩ := hc j x hx
    refine ⟨?_, ?_, ?_, ?_⟩ <;> (rw [set_ne _ (by omega), set_ne _ (by omega), set_ne _ (by omega), set_ne _ (by omega)]; assumption)
end
theorem catch_cmp (a b : Connection) (w : World) : Calls Try.prog 69 #[.agg #[.int .i64 a.Id, .int .i64 a.Stop, .int .i64 a.Place, .int .i64 a.Time], .agg #[.int .i64 b.Id, .int .i64 b.Stop, .int .i64 b.Place, .int .i64 b.Time]] w (Ret (.int .i64 (cmpI a.Time b.Time)) w) := by
  go_enter Try.func69, Try.ntmps69
  go_wp2_with (go_at_call 70; refine (cmp_Compare _ _ _).mono ?_; rintro e w' ⟨rfl, rfl⟩)
  go_ret
  exact ⟨rfl, inferInstance⟩
theorem cmpI_neg {a b : Int} : cmpI a b < 0 ↔ a < b := by
  unfold cmpI; split
  · omega
  · split <;> omega
end Go.Proofs.Ytaopadffabbjiaa
