/-
  slices.Sort and slices.Compact on numbers: the shelf's contracts at this program.
-/
import Derived.Test.YtaopadffabbjiaaAppN
import Derived.Test.YtaopadffabbjiaaCopy
import Derived.Test.YtaopadffabbjiaaSortLay
import Derived.Sort.OwnSortedInts
namespace Go.Proofs.Ytaopadffabbjiaa
open Go Go.RowKit Go.Sort
set_option linter.unusedVariables false
set_option maxRecDepth 100000
theorem ints_of_holds {w : World} {g n c : Nat} {l : List Int} (h : Holds (Value.int .i64) w g 0 l.toArray) (hn : n = l.length) (hc : n ≤ c) (hm : c ≤ 9223372036854775807) (hi : ∀ x, x ∈ l → I64 x) : Ints w (some ⟨g, 0, none⟩) n c l := by
  refine ⟨hn, hc, hm, fun k x hx => ⟨g, 0, [.int .i64 x], rfl, rfl, fun j v hv => ?_, rfl, hi x (List.mem_of_getElem? hx)⟩⟩
  obtain ⟨hk, rfl⟩ := List.getElem?_eq_some_iff.1 hx
  match j, hv with
  | 0, hv =>
    simp at hv; subst hv
    have := (h k (by simpa using hk)).1
    simpa [hk] using this
theorem holds_of_osl {w : World} {A : Option Addr} {n c : Nat} {l : List Int} {fp : List Nat} (h : OSl 1 oInt w A n c l fp) (hne : 0 < l.length) :
    ∃ g o, A = some ⟨g, o, none⟩ ∧ g ∈ fp ∧ Holds (Value.int .i64) w g o l.toArray := by
  rcases h.own with ⟨rfl, _⟩ | ⟨g, o, t, cs, fps, hA, hb, rfl, hfl, hel⟩
  · simp at hne
  refine ⟨g, o, hA, by simp, fun j hj => ?_⟩
  have hj' : j < l.length := by simpa using hj
  obtain ⟨es, f, hf, he, hc, hr⟩ := hel j l[j] (List.getElem?_eq_getElem hj')
  have h1 : es = [.int .i64 l[j]] := (hr.1 w).1
  subst h1
  refine ⟨?_, hb.frozen _⟩
  rw [hb.cell]
  have := hc 0 _ rfl
  simp only [Nat.mul_one, Nat.add_zero] at this
  rw [this]; simp [hj']
theorem impl_Sort {w0 w : World} {g c : Nat} {l : List Int} (h : Holds (Value.int .i64) w g 0 l.toArray) (hl : Later w0 w) (hg : w0.heap.size ≤ g) (hlt : g < w.heap.size) {n : Nat} (hn : n = l.length) (hs : n ≤ 1073741824) :
    Calls Try.prog 122 #[.slice (some ⟨g, 0, none⟩) n c] w fun e w' => e = .returned (.tuple #[]) ∧ Later w0 w' ∧ Holds (Value.int .i64) w' g 0 (l.mergeSort fun x y => decide (x ≤ y)).toArray := by
  subst hn
  refine (Any.slices_Sort_int Try.sortI g 0 c l w h hlt (by omega)).mono ?_
  rintro e w' ⟨rfl, n, os, rfl⟩
  refine ⟨rfl, hl.of_grown (grownBy_sortedI _) (fun g' hg' => by cases hg'; exact hg), ?_⟩
  exact holds_grow _ _ os g 0 _ (by simpa [putRow, mapBlock, Sort.ahead] using hlt) (holds_putRow _ _ g 0 _ _ (holds_ahead _ w n g 0 _ h) (by simp))
theorem grownBy_put {w : World} {g o n : Nat} (d : Array Int) : w.grownBy (putRow (Value.int .i64) (Sort.ahead w n) g o d) (some g) := by
  refine ⟨rfl, rfl, rfl, by simp, fun k hk hne => ?_⟩
  have : g ≠ k := fun e => hne (by rw [e])
  simp [putRow, mapBlock, Sort.ahead, Array.getElem?_modify, this]
end Go.Proofs.Ytaopadffabbjiaa
