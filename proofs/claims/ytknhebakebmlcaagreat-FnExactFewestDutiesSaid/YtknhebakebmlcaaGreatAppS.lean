/-
 append(own, l[a:b]...) also as one operation of a drawn region; the back of a slice. Lemmas only.
-/
import Derived.Test.YtknhebakebmlcaaGreatDb
namespace Go.Proofs.YtknhebakebmlcaaGreat
open Go Go.RowKit
set_option linter.unusedVariables false
set_option maxRecDepth 100000
theorem grown_blk {W w' : World} {v : Value} (h : W.grownBy w' v.ownBlock) {g : Nat} {t : TypeId} {cs : Array Value} (hb : Blk W g t cs) (hne : ∀ k, v.ownBlock = some k → k ≠ g) : Blk w' g t cs := by
 have hlt : g < W.heap.size := hb.lt
 unfold Blk at *
 rw [h.block g hlt (fun e => hne g e.symm rfl)]
 exact hb
theorem own_lit0 {W : World} {base g : Nat} {t : TypeId} (h : W.heap[g]? = some (.cells #[] t (0, 0))) (hb : base ≤ g) : W.ownsRow base t 1 (.slice (some ⟨g, 0, none⟩) 0 0) 0 [] :=
 ⟨rfl, .inr ⟨g, 0, #[], rfl, hb, h, Nat.le_refl _, by unfold maxLen; omega, rfl, rfl⟩⟩
theorem own_base {W : World} {base b2 : Nat} {e : TypeId} {sz : Nat} {v : Value} {n : Nat} {xs : List Value} (h : W.ownsRow base e sz v n xs) (hb : b2 ≤ base) : W.ownsRow b2 e sz v n xs := by
 refine ⟨h.1, ?_⟩
 rcases h.2 with h0 | ⟨g, cap, cur, h1, h2, h3⟩
 ·exact .inl h0
 ·exact .inr ⟨g, cap, cur, h1, Nat.le_trans hb h2, h3⟩
end Go.Proofs.YtknhebakebmlcaaGreat
