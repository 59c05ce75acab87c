/-
  Blocks: DeadMinutes on both sides.
-/
import Derived.Test.YthibhehnakikpaaBlkD
import Derived.Test.YthibhehnakikpaaDeadP
namespace Go.Proofs.Ythibhehnakikpaa
open Go Go.RowKit
set_option linter.unusedVariables false
set_option maxRecDepth 100000
structure DeadFacts (t : Timetable) (f : Fleet) (bs : List (List Int)) : Prop where
  run : RunFacts t f
  pos : ∀ (i : Nat) (b : List Int), bs[i]? = some b → 0 < b.length
  found : ∀ x, x ∈ bs → FoundAll t x
  all : 0 ≤ deadAll t f bs ∧ deadAll t f bs ≤ 1440
  len : bs.length ≤ 12
theorem flat_len {bs : List (List Int)} (h : ∀ (i : Nat) (b : List Int), bs[i]? = some b → 0 < b.length) : bs.length ≤ bs.flatten.length := by
  induction bs with
  | nil => simp
  | cons x l ih =>
    have h1 := h 0 x rfl
    have h2 := ih fun i b hb => h (i + 1) b (by simpa using hb)
    simp only [List.length_cons, List.flatten_cons, List.length_append]
    omega
theorem deadFacts {t : Timetable} {f : Fleet} {bs : List (List Int)} (h : okBlocks t f bs = true) : DeadFacts t f bs := by
  simp only [okBlocks, Bool.and_eq_true] at h
  have rf := runFacts h.1
  have bf := blkFacts h.2
  have hf : ∀ x, x ∈ bs → FoundAll t x := fun x hx v hv => by
    obtain ⟨i, hi⟩ := List.getElem?_of_mem hx
    obtain ⟨j, hj⟩ := List.getElem?_of_mem hv
    exact bf.found i x hi j v hj
  have hd := deadAll_bd rf bs hf
  have hl : bs.flatten.length ≤ 12 := by
    have h2 := h.2
    unfold okBlk at h2
    split at h2
    · cases h2
    · rename_i s hs
      have h3 : s.length = bs.flatten.length := by have := blkGo_len hs; simpa using this
      have h4 := rf.time.len
      have h5 : s.length = t.Trips.length := by simpa using h2
      omega
  have hfl := flat_len bf.pos
  exact ⟨rf, bf.pos, hf, by omega, by omega⟩
theorem deadAll_drop {t : Timetable} {f : Fleet} {bs : List (List Int)} (h : DeadFacts t f bs) (k : Nat) : 0 ≤ deadAll t f (bs.drop k) := (deadAll_bd h.run _ fun x hx => h.found x (List.mem_of_mem_drop hx)).1
def deadRes (t : Timetable) (f : Fleet) (bs : List (List Int)) : Int × Bool := if okBlocks t f bs = true then (deadAll t f bs, true) else (0, false)
end Go.Proofs.Ythibhehnakikpaa
