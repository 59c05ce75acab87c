/-
  Blocks: IsPiece on both sides.
-/
import Derived.Test.YtbkeccpjcmhhjaaRuled
import Derived.Test.YtbkeccpjcmhhjaaPiece
import Derived.Test.YtbkeccpjcmhhjaaDeadM
namespace Go.Proofs.Ytbkeccpjcmhhjaa
open Go Go.RowKit
set_option linter.unusedVariables false
set_option maxRecDepth 100000
def pieceRes (t : Timetable) (f : Fleet) (bs : List (List Int)) (p : List Int) : Bool × Bool := if okBlocks t f bs = true then (pieceOk bs p, true) else (false, false)
theorem len_flat {bs : List (List Int)} {x : List Int} (h : x ∈ bs) : x.length ≤ bs.flatten.length := by
  induction bs with
  | nil => cases h
  | cons y l ih =>
    simp only [List.flatten_cons, List.length_append]
    rcases List.mem_cons.1 h with rfl | h
    · omega
    · have := ih h; omega
theorem rows12 {t : Timetable} {f : Fleet} {bs : List (List Int)} (h : okBlocks t f bs = true) : ∀ x, x ∈ bs → x.length ≤ 1048576 := by
  have h1 := h
  simp only [okBlocks, Bool.and_eq_true] at h1
  have h2 := h1.2
  unfold okBlk at h2
  split at h2
  · cases h2
  · rename_i s hs
    have h3 : s.length = bs.flatten.length := by have := blkGo_len hs; simpa using this
    have h4 := (runFacts h1.1).time.len
    have h5 : s.length = t.Trips.length := by simpa using h2
    intro x hx
    have h6 := len_flat hx
    omega
end Go.Proofs.Ytbkeccpjcmhhjaa
