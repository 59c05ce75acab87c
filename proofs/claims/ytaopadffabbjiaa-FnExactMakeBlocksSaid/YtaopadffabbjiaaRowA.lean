/-
  A row of numbers in a block of the call's own, as made by make and written element by element. Lemmas only.
-/
import Derived.Test.YtaopadffabbjiaaTimeE
namespace Go.Proofs.Ytaopadffabbjiaa
open Go Go.RowKit
set_option linter.unusedVariables false
set_option maxRecDepth 100000
def rowA (l : List Int) : Array Value := (l.map (Value.int .i64)).toArray
theorem rowA_size (l : List Int) : (rowA l).size = l.length := by simp [rowA]
theorem rowA_get {l : List Int} {k : Nat} {v : Int} (h : l[k]? = some v) : (rowA l)[k]? = some (.int .i64 v) := by simp [rowA, h]
theorem rowA_set (l : List Int) (k : Nat) (v : Int) : (rowA l).setIfInBounds k (.int .i64 v) = rowA (l.set k v) := by simp [rowA, List.map_set]
theorem make_ints (n : Nat) (hn : n ≤ 1048576) : ∀ w : World, (Instr.makeSlice 67 (.int .i64 (n : Int)) (.int .i64 (n : Int))).run Try.prog w = .ok (.slice (some ⟨w.heap.size, 0, none⟩) n n) (w.alloc (.cells (rowA (List.replicate n 0)) 3)) := by
  intro w
  obtain ⟨i, h1, h2, h3, h4⟩ := info_parts infoInt
  have h := run_make_rowN (P := Try.prog) 67 3 i (.int .i64 0) Try.underlying67 h1 h2 .i64 .i64 n n (Nat.le_refl _) (by rw [h4]; omega) (by omega) w
  rw [h, h3, Nat.mul_one]
  refine congrArg (fun cs => Result.ok _ (w.alloc (.cells cs 3))) ?_
  apply Array.toList_inj.1
  show (madeCells #[Value.int .i64 0] n).toList = _
  rw [toList_madeCells_one]
  simp [rowA]
/-- A result that is a made row in a block of its own. -/
def RetB (n : Nat) (l : List Int) (w : World) (e : Ending) (w' : World) : Prop := ∃ g, e = .returned (.slice (some ⟨g, 0, none⟩) n n) ∧ n = l.length ∧ Blk w' g 3 (rowA l) ∧ w.heap.size ≤ g ∧ Later w w'
theorem Blk.ints {w : World} {g n : Nat} {l : List Int} (hb : Blk w g 3 (rowA l)) (hn : n = l.length) (hm : n ≤ 1048576) (hi : ∀ v, v ∈ l → I64 v) : Ints w (some ⟨g, 0, none⟩) n n l :=
  (OSl.ints_blk hb hn (by omega) fun k x hx => ⟨rowA_get hx, hi x (List.mem_of_getElem? hx)⟩).reads
theorem Blk.osl {w : World} {g n : Nat} {l : List Int} (hb : Blk w g 3 (rowA l)) (hn : n = l.length) (hm : n ≤ 1048576) (hi : ∀ v, v ∈ l → I64 v) : OSl 1 oInt w (some ⟨g, 0, none⟩) n n l [g] :=
  OSl.ints_blk hb hn (by omega) fun k x hx => ⟨rowA_get hx, hi x (List.mem_of_getElem? hx)⟩
theorem Blk.rowAt {w : World} {g k : Nat} {l : List Int} {v : Int} (hb : Blk w g 3 (rowA l)) (h : l[k]? = some v) : w.cell? ⟨g, k, none⟩ = some (.int .i64 v) := (hb.cell k).trans (rowA_get h)
theorem Blk.rowAts {w : World} {g k : Nat} {l : List Int} {v : Int} (hb : Blk w g 3 (rowA l)) (h : l[k]? = some v) : ∀ W [Later w W], W.cell? ⟨g, k, none⟩ = some (.int .i64 v) := Later.cells (hb.rowAt h)
theorem Blk.rowSet {w : World} {g k : Nat} {l : List Int} (hb : Blk w g 3 (rowA l)) (v : Int) : Blk (w.setCell ⟨g, k, none⟩ (.int .i64 v)) g 3 (rowA (l.set k v)) := by
  rw [← rowA_set]; exact hb.set_ k _
/-- What has been filled up to its end. -/
theorem all_rep {cs : List Int} {n k : Nat} {v : Int} (h : cs.length = n ∧ ∀ j, j < k → cs[j]? = some v) (hk : k = n) : cs = List.replicate n v := by
  refine List.ext_getElem? fun j => ?_
  rw [List.getElem?_replicate]
  split
  · exact h.2 j (by omega)
  · exact List.getElem?_eq_none (by omega)
theorem fill_step {cs : List Int} {n k : Nat} {v : Int} (h : cs.length = n ∧ ∀ j, j < k → cs[j]? = some v) (hk : k < n) : (cs.set k v).length = n ∧ ∀ j, j < k + 1 → (cs.set k v)[j]? = some v := by
  refine ⟨by rw [List.length_set]; exact h.1, fun j hj => ?_⟩
  by_cases e : j = k
  · subst e; exact List.getElem?_set_self (by omega)
  · rw [List.getElem?_set_ne (Ne.symm e)]; exact h.2 j (by omega)
/-- A row of numbers that lies, from o on, in a block that may be written. -/
def RowAt (w : World) (g o : Nat) (l : List Int) : Prop := ∃ (t : TypeId) (cs : Array Value), Blk w g t cs ∧ ∀ (k : Nat) (x : Int), l[k]? = some x → cs[o + k]? = some (.int .i64 x)
section
variable {w W : World} {g o : Nat} {l : List Int}
theorem RowAt.of_osl {A : Option Addr} {n c : Nat} {fp : List Nat} (h : OSl 1 oInt w A n c l fp) (hn : 0 < n) : ∃ g o, A = some ⟨g, o, none⟩ ∧ g ∈ fp ∧ RowAt w g o l := by
  rcases h.own with ⟨h0, _⟩ | ⟨g, o, t, cs, fps, hA, hb, hfp, _, hel⟩
  · have := h.len; rw [h0] at this; simp at this; omega
  · refine ⟨g, o, hA, by rw [hfp]; simp, t, cs, hb, fun k x hx => ?_⟩
    obtain ⟨es, f, _, _, hc, hr⟩ := hel k x hx
    have e1 : es = [.int .i64 x] := (hr.1 w).1
    subst e1
    have := hc 0 _ rfl
    simpa using this
theorem RowAt.of_row {t : TypeId} (h : Blk w g t (rowA l)) : RowAt w g 0 l := ⟨_, _, h, fun k x hx => by simpa using rowA_get hx⟩
theorem RowAt.lt (h : RowAt w g o l) : g < w.heap.size := let ⟨_, _, hb, _⟩ := h; hb.lt
theorem RowAt.cell (h : RowAt w g o l) {k : Nat} {v : Int} (hv : l[k]? = some v) : w.cell? ⟨g, o + k, none⟩ = some (.int .i64 v) := by
  obtain ⟨t, cs, hb, hc⟩ := h
  rw [hb.cell]; exact hc k v hv
theorem RowAt.cells (h : RowAt w g o l) {k : Nat} {v : Int} (hv : l[k]? = some v) : ∀ W [Later w W], W.cell? ⟨g, o + k, none⟩ = some (.int .i64 v) := Later.cells (h.cell hv)
theorem RowAt.frozen (h : RowAt w g o l) (k : Nat) : w.frozen? ⟨g, o + k, none⟩ = false := let ⟨_, _, hb, _⟩ := h; hb.frozen _
theorem RowAt.frozens (h : RowAt w g o l) (k : Nat) : ∀ W [Later w W], W.frozen? ⟨g, o + k, none⟩ = false := fun W hW => by
  obtain ⟨t, cs, hb, _⟩ := h
  exact (hb.later hW).frozen _
theorem RowAt.keep (h : RowAt w g o l) (e : W.heap[g]? = w.heap[g]?) : RowAt W g o l := let ⟨t, cs, hb, hc⟩ := h; ⟨t, cs, e.trans hb, hc⟩
theorem RowAt.later (h : RowAt w g o l) (hl : Later w W) : RowAt W g o l := h.keep (hl.below.block g h.lt)
theorem RowAt.far (h : RowAt w g o l) {b i : Nat} (hb : g ≠ b) (v : Value) : RowAt (w.setCell ⟨b, i, none⟩ v) g o l := h.keep (Below.heap_setCell w ⟨b, i, none⟩ v g hb)
theorem RowAt.cellFar (h : RowAt w g o l) {b i k : Nat} (hb : g ≠ b) {v : Int} (hv : l[k]? = some v) : ∀ (W : World) [Later w W] (u : Value), (W.setCell ⟨b, i, none⟩ u).cell? ⟨g, o + k, none⟩ = some (.int .i64 v) := fun W hW u => ((h.later hW).far hb u).cell hv
theorem RowAt.set_ (h : RowAt w g o l) {k : Nat} (hk : k < l.length) (v : Int) : RowAt (w.setCell ⟨g, o + k, none⟩ (.int .i64 v)) g o (l.set k v) := by
  obtain ⟨t, cs, hb, hc⟩ := h
  refine ⟨t, _, hb.set_ (o + k) (.int .i64 v), fun j x hx => ?_⟩
  have hs : o + k < cs.size := (Array.getElem?_eq_some_iff.1 (hc k l[k] (List.getElem?_eq_getElem hk))).1
  by_cases e : j = k
  · subst e
    rw [List.getElem?_set_self hk] at hx
    cases hx
    exact set_eq _ hs
  · rw [List.getElem?_set_ne (Ne.symm e)] at hx
    rw [set_ne _ (by omega)]
    exact hc j x hx
theorem RowAt.ints {n c : Nat} (h : RowAt w g o l) (hn : n = l.length) (hc : n ≤ c) (hm : c ≤ 9223372036854775807) (hi : ∀ v, v ∈ l → I64 v) : Ints w (some ⟨g, o, none⟩) n c l :=
  ⟨hn, hc, hm, fun k x hx => ⟨g, o, [.int .i64 x], rfl, rfl, fun j v hv => by
    match j, hv with
    | 0, hv => simp at hv; subst hv; simpa using h.cell hx, rfl, hi x (List.mem_of_getElem? hx)⟩⟩
theorem RowAt.osl {n c : Nat} (h : RowAt w g o l) (hn : n = l.length) (hc : n ≤ c) (hm : c ≤ 9223372036854775807) (hi : ∀ v, v ∈ l → I64 v) : OSl 1 oInt w (some ⟨g, o, none⟩) n c l [g] := by
  obtain ⟨t, cs, hb, hcs⟩ := h
  refine ⟨hn, hc, hm, .inr ⟨g, o, t, cs, List.replicate l.length [], rfl, hb, by simp, by simp, fun k x hx => ?_⟩⟩
  refine ⟨[.int .i64 x], [], by rw [List.getElem?_replicate, if_pos (List.getElem?_eq_some_iff.1 hx).1], rfl, fun j v hv => ?_, fun W => ⟨rfl, hi x (List.mem_of_getElem? hx)⟩, rfl⟩
  match j, hv with
  | 0, hv => simp at hv; subst hv; simpa using hcs k x hx
end
/-- A result that is such a row. -/
def RetRow (n : Nat) (l : List Int) (w : World) (e : Ending) (w' : World) : Prop :=
  ∃ g o c, e = .returned (.slice (some ⟨g, o, none⟩) n c) ∧ Hid (n = l.length ∧ n ≤ c ∧ c ≤ 9223372036854775807) ∧ RowAt w' g o l ∧ w.heap.size ≤ g ∧ Later w w'
end Go.Proofs.Ytaopadffabbjiaa
