/-
  Helpers of the statements on slices of slices of numbers: copy, size, equality, marks.
-/
import Derived.Test.YteeeihnkofoagaaNest
import Derived.StillTailTactics
namespace Go.Proofs.Yteeeihnkofoagaa
open Go Go.RowKit
set_option linter.unusedVariables false
set_option maxRecDepth 100000
def sumLen : List (List Int) → Nat
  | [] => 0
  | x :: l => x.length + sumLen l
def totRows (l : List (List Int)) : Nat := l.length + sumLen l
theorem sumLen_drop {l : List (List Int)} {k : Nat} {x : List Int} (h : l[k]? = some x) : sumLen (l.drop k) = x.length + sumLen (l.drop (k + 1)) := by rw [drop_at h]; rfl
theorem sumLen_append (a b : List (List Int)) : sumLen (a ++ b) = sumLen a + sumLen b := by
  induction a with
  | nil => simp [sumLen]
  | cons x a ih => simp only [List.cons_append, sumLen, ih]; omega
theorem len_le_sumLen {l : List (List Int)} {k : Nat} {x : List Int} (h : l[k]? = some x) : x.length ≤ sumLen l := by
  have h1 : sumLen l = sumLen (l.take k) + sumLen (l.drop k) := by rw [← sumLen_append, List.take_append_drop]
  rw [sumLen_drop h] at h1
  omega
abbrev oRows : ORep (List Int) := oSl 1 oInt
def mkRows : Int → List (List Int) → List (List Int)
  | _, [] => []
  | k, x :: l => mkInts k x.length :: mkRows (k + x.length) l
theorem mkRows_len (k : Int) (l : List (List Int)) : (mkRows k l).length = l.length := by
  induction l generalizing k with
  | nil => rfl
  | cons x l ih => simp [mkRows, ih]
end Go.Proofs.Yteeeihnkofoagaa
