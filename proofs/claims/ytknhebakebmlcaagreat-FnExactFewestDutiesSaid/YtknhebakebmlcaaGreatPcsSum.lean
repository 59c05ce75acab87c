/-
 Lists: forms of all and take for loops; the size of lists of lists. Lemmas only.
-/
import Derived.Test.YtknhebakebmlcaaGreatJh
import Derived.Test.YtknhebakebmlcaaGreatKa
namespace Go.Proofs.YtknhebakebmlcaaGreat
open Go Go.RowKit
theorem all_snoc' {α : Type} {l : List α} {k : Nat} {x : α} {p : α → Bool} (hx : l[k]? = some x) (h : (l.take k).all p = true) (hp : p x = true) : (l.take (k + 1)).all p = true := by
 rw [take_succ_at hx, List.all_append, h]
 simp [hp]
theorem all_not' {α : Type} {l : List α} {k : Nat} {x : α} {p : α → Bool} (hx : l[k]? = some x) (hp : p x = false) : l.all p = false := by
 cases c : l.all p with
 | false => rfl
 | true => rw [List.all_eq_true] at c; rw [c x (List.mem_of_getElem? hx)] at hp; cases hp
theorem flat_take_le' (l : List (List Int)) (k : Nat) : (l.take k).flatten.length ≤ l.flatten.length := by
 have : l.flatten = (l.take k).flatten ++ (l.drop k).flatten := by rw [← List.flatten_append, List.take_append_drop]
 rw [this, List.length_append]
 omega
end Go.Proofs.YtknhebakebmlcaaGreat
