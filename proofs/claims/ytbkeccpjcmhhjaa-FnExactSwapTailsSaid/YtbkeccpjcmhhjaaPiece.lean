/-
  Pieces: equality of lists of numbers, a part of a slice, whether a list is a piece.
-/
import Derived.Test.YtbkeccpjcmhhjaaDutyP
import Derived.Deep.RegionHeld3
namespace Go.Proofs.Ytbkeccpjcmhhjaa
open Go Go.RowKit
set_option linter.unusedVariables false
set_option maxRecDepth 100000
theorem Sl.sub_ {α : Type} {r : Rep α} {w : World} {b o : Nat} {n c : Nat} {l : List α} (h : Sl 1 r w (some ⟨b, o, none⟩) n c l) {k m : Nat} (hk : k + m ≤ n) : Sl 1 r w (some ⟨b, o + k, none⟩) m (c - k) ((l.drop k).take m) := by
  have h1 := h.len
  have h2 := h.cap
  have h3 := h.max
  refine ⟨by rw [List.length_take, List.length_drop]; omega, by omega, by omega, fun j x hx => ?_⟩
  rw [List.getElem?_take] at hx
  split at hx
  · rw [List.getElem?_drop] at hx
    obtain ⟨b', o', es, ha, he, hc, hr⟩ := h.el (k + j) x hx
    cases ha
    exact ⟨b, o + k, es, rfl, he, fun i v hv => by have := hc i v hv; rw [show o + k + j * 1 + i = o + (k + j) * 1 + i by omega]; exact this, hr⟩
  · cases hx
theorem pieceOk_no1 {bs : List (List Int)} {v : Int} {p : List Int} (h : ¬ 0 ≤ (placeOf 0 v bs).1) : pieceOk bs (v :: p) = false := by
  simp only [pieceOk]; rw [decide_eq_false h]; rfl
theorem cutOf_of {bs : List (List Int)} {v : Int} {m j n : Nat} {x : List Int} (h : placeOf 0 v bs = ((m : Int), (j : Int))) (hx : bs[m]? = some x) : cutOf bs v n = (x.drop j).take n := by
  unfold cutOf; rw [h]; simp only [blkI_of hx, Int.toNat_natCast]
theorem pieceOk_no2 {bs : List (List Int)} {v : Int} {p : List Int} {m j : Nat} {x : List Int} (h : placeOf 0 v bs = ((m : Int), (j : Int))) (hx : bs[m]? = some x) (hn : x.length < j + (p.length + 1)) : pieceOk bs (v :: p) = false := by
  simp only [pieceOk]
  rw [cutOf_of h hx, decide_eq_false (p := _ = _), Bool.and_false]
  intro e
  have := congrArg List.length e
  simp at this
  omega
theorem pieceOk_yes {bs : List (List Int)} {v : Int} {p : List Int} {m j : Nat} {x : List Int} (h : placeOf 0 v bs = ((m : Int), (j : Int))) (hx : bs[m]? = some x) : pieceOk bs (v :: p) = decide ((x.drop j).take (p.length + 1) = v :: p) := by
  simp only [pieceOk]
  rw [cutOf_of h hx, h]
  simp
end Go.Proofs.Ytbkeccpjcmhhjaa
