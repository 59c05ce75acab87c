/-
  A block of the call's own, of which the size alone is known. Lemmas only.
-/
import Derived.Test.YthibhehnakikpaaInts
namespace Go.Proofs.Ythibhehnakikpaa
open Go Go.RowKit
set_option linter.unusedVariables false
set_option maxRecDepth 100000
class OwnB (w : World) (g : Nat) (t : TypeId) (n : Nat) : Prop where
  ex : ∃ cs : Array Value, Blk w g t cs ∧ cs.size = n
section
variable {w w' : World} {g n : Nat} {t : TypeId}
theorem OwnB.of {cs : Array Value} (h : Blk w g t cs) (hn : cs.size = n) : OwnB w g t n := ⟨_, h, hn⟩
instance OwnB.alloc_ [h : OwnB w g t n] (o : Obj) : OwnB (w.alloc o) g t n := let ⟨cs, hb, hn⟩ := h.ex; ⟨cs, hb.alloc o, hn⟩
instance OwnB.drew_ [h : OwnB w g t n] : OwnB w.drew g t n := let ⟨cs, hb, hn⟩ := h.ex; ⟨cs, hb.drew, hn⟩
instance OwnB.drewN_ [h : OwnB w g t n] (k : Nat) : OwnB (w.drewN k) g t n := let ⟨cs, hb, hn⟩ := h.ex; ⟨cs, hb.drewN k, hn⟩
instance OwnB.set_ [h : OwnB w g t n] (i : Nat) (v : Value) : OwnB (w.setCell ⟨g, i, none⟩ v) g t n := let ⟨cs, hb, hn⟩ := h.ex; ⟨_, hb.set_ i v, by simpa using hn⟩
theorem OwnB.later (h : OwnB w g t n) (hl : Later w w') : OwnB w' g t n := let ⟨cs, hb, hn⟩ := h.ex; ⟨cs, hb.later hl, hn⟩
theorem set2_0 {cs : Array Value} (h : cs.size = 2) (a b : Value) : ((cs.setIfInBounds 0 a).setIfInBounds 1 b)[0]? = some a := by rw [set_ne _ (by omega), set_eq _ (by omega)]
theorem set2_1 {cs : Array Value} (h : cs.size = 2) (a b : Value) : ((cs.setIfInBounds 0 a).setIfInBounds 1 b)[1]? = some b := by rw [set_eq _ (by simp; omega)]
end
end Go.Proofs.Ythibhehnakikpaa
