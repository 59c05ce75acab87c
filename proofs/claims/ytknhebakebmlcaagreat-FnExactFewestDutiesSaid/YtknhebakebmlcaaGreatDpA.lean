/-
 FewestDuties: the reference's plan while it is being made. Lemmas only.
-/
import Derived.Test.YtknhebakebmlcaaGreatDpQ
import Derived.Test.YtknhebakebmlcaaGreatDpT
import Derived.Test.YtknhebakebmlcaaGreatAppS
namespace Go.Proofs.YtknhebakebmlcaaGreat
open Go Go.RowKit
set_option linter.unusedVariables false
set_option maxRecDepth 100000
set_option linter.unusedSimpArgs false
theorem own_touch2 {w W : World} {base : Nat} {e : TypeId} {ov : Value} {fp : List Nat} {n : Nat} {xs : List Value} {sz : Nat} (h : w.ownsRow base e sz ov n xs) (hT : Touch fp w W) (hd : ∀ g, ov.ownBlock = some g → g ∉ fp) : W.ownsRow base e sz ov n xs := by
 have hlt := h.lt
 obtain ⟨h1, h2⟩ := h
 refine ⟨h1, ?_⟩
 rcases h2 with h2 | ⟨g, cap, cur, rfl, h3, h4, h5⟩
 ·exact .inl h2
 ·exact .inr ⟨g, cap, cur, rfl, h3, (hT.block g (hlt g rfl).2 (hd g rfl)).trans h4, h5⟩
theorem RowS.touch2 {w W : World} {base : Nat} {e : TypeId} {ov : Value} {L : List RowV} {fp : List Nat} (h : RowS w base e ov L) (hT : Touch fp w W) (hf : ∀ g, ov.ownBlock = some g → g ∉ fp) (hd : ∀ g, g ∈ fp → g ∉ blksR L) : RowS W base e ov L :=
 ⟨own_touch2 h.own hT hf, fun x hx => by obtain ⟨A, n, c, a, b⟩ := h.el x hx; exact ⟨A, n, c, a, b.touch hT fun g hg hm => hd g hm (blksR_mem hx hg)⟩, h.nd, h.far⟩
theorem mem_ownL {v : Value} {g : Nat} (h : v.ownBlock = some g) : g ∈ ownL v := by unfold ownL; rw [h]; simp
/-- The plan with a numbers in its first list and i rows in its second. -/
structure MkI (tp te ti : TypeId) (base px : Nat) (pv : Value) (m : Nat) (A : Nat → Int) (P : Nat → Nat → Int) (i a : Nat) (W : World) (av qv : Value) (L : List RowV) : Prop where
 x : Blk W px tp #[pv, av, qv, .int .i64 0, .slice none 0 0]
 al : W.ownsRow base ti 1 av a ((aL a A).map (Value.int .i64))
 q : RowS W base te qv L
 l : L.map (·.2.1) = (List.range i).map fun k => aL m (P k)
 b : ∀ g, g ∈ blksR L → base ≤ g
 j : ∀ g, av.ownBlock = some g → g ∉ ownL qv ∧ g ∉ blksR L
 pb : px < base
 sz : base ≤ W.heap.size
theorem aL_succ (i : Nat) (A : Nat → Int) : (aL (i + 1) A).map (Value.int .i64) = (aL i A).map (Value.int .i64) ++ [.int .i64 (A i)] := by unfold aL; rw [List.range_succ]; simp
section
variable {tp te ti : TypeId} {base px : Nat} {pv : Value} {m : Nat} {A : Nat → Int} {P : Nat → Nat → Int} {i a : Nat} {W W8 w9 : World} {av qv v9 : Value} {L : List RowV}
theorem MkI.later (h : MkI tp te ti base px pv m A P i a W av qv L) (hl : Later W W8) : MkI tp te ti base px pv m A P i a W8 av qv L :=
 ⟨h.x.later hl, ownsRow_later h.al hl, h.q.later hl, h.l, h.b, h.j, h.pb, Nat.le_trans h.sz hl.size⟩
theorem MkI.own_ne (h : MkI tp te ti base px pv m A P i a W av qv L) : ∀ k, av.ownBlock = some k → k ≠ px := fun k hk e => by have := (h.al.lt k hk).1; have := h.pb; omega
theorem MkI.row_ne (h : MkI tp te ti base px pv m A P i a W av qv L) : ∀ k, qv.ownBlock = some k → k ≠ px := fun k hk e => by have := (h.q.own.lt k hk).1; have := h.pb; omega
theorem MkI.alone (h : MkI tp te ti base px pv m A P i i W av qv L) (hl : Later W W8) (hG : W8.grownBy w9 av.ownBlock) (hO : w9.ownsRow base ti 1 v9 (i + 1) ((aL i A).map (Value.int .i64) ++ [.int .i64 (A i)])) (hb9 : ∀ g, v9.ownBlock = some g → av.ownBlock = some g ∨ W8.heap.size ≤ g) : MkI tp te ti base px pv m A P i (i + 1) (w9.setCell ⟨px, 1, none⟩ v9) v9 qv L := by
 have h8 := h.later hl
 have hTg : Touch (ownL av) W8 w9 := Touch.grownL hG
 have hTs : Touch [px] w9 (w9.setCell ⟨px, 1, none⟩ v9) := Touch.refl_.set_ (by simp) _ _
 have hx9 := (grown_blk hG h8.x h8.own_ne).set_ 1 v9
 refine ⟨hx9, ?_, ?_, h.l, h.b, fun g hg => ?_, h.pb, ?_⟩
 ·rw [aL_succ]
  exact own_touch hO hTs (by intro g hg; rw [List.mem_singleton.1 hg]; exact h.pb)
 ·exact (h8.q.touch2 hTg (fun g hg hm => (h.j g (ownL_mem hm)).1 (mem_ownL hg)) (fun g hg => (h.j g (ownL_mem hg)).2)).touch hTs (by intro g hg; rw [List.mem_singleton.1 hg]; exact h.pb) (fun g hg hm => by have h1 := h.b g hm; have h2 := List.mem_singleton.1 hg; have := h.pb; omega)
 ·rcases hb9 g hg with h1 | h1
  ·exact h.j g h1
  ·refine ⟨fun hm => ?_, fun hm => ?_⟩
   ·have := (h8.q.own.lt g (ownL_mem hm)).2; omega
   ·have := h8.q.lt g hm; omega
 ·have h1 := hG.size
  have h2 := h8.sz
  simp
  omega
theorem MkI.row (h : MkI tp te ti base px pv m A P i (i + 1) W av qv L) (hl : Later W W8) {x : RowV} (hx : x.2.1 = aL m (P i)) (hxl : ∀ g, g ∈ x.2.2 → W.heap.size ≤ g) (hG : W8.grownBy w9 qv.ownBlock) (hQ : RowS w9 base te v9 (L ++ [x])) (hb9 : ∀ g, v9.ownBlock = some g → qv.ownBlock = some g ∨ W8.heap.size ≤ g) : MkI tp te ti base px pv m A P (i + 1) (i + 1) (w9.setCell ⟨px, 2, none⟩ v9) av v9 (L ++ [x]) := by
 have h8 := h.later hl
 have hTg : Touch (ownL qv) W8 w9 := Touch.grownL hG
 have hTs : Touch [px] w9 (w9.setCell ⟨px, 2, none⟩ v9) := Touch.refl_.set_ (by simp) _ _
 have hx9 := (grown_blk hG h8.x h8.row_ne).set_ 2 v9
 have hbx : blksR (L ++ [x]) = blksR L ++ x.2.2 := by rw [blksR_app]; simp [blksR]
 have hba : ∀ g, g ∈ blksR (L ++ [x]) → base ≤ g := fun g hg => by
  rw [hbx] at hg
  rcases List.mem_append.1 hg with hg | hg
  ·exact h.b g hg
  ·have := hxl g hg; have := h.sz; omega
 have hp1 : ∀ g, g ∈ [px] → g < base := by intro g hg; rw [List.mem_singleton.1 hg]; exact h.pb
 refine ⟨hx9, ?_, ?_, ?_, hba, fun g hg => ?_, h.pb, ?_⟩
 ·exact own_touch (own_touch2 h8.al hTg (fun g hg hm => (h.j g hg).1 hm)) hTs hp1
 ·exact hQ.touch hTs hp1 (fun g hg hm => by have h1 := hba g hm; have h2 := hp1 g hg; omega)
 ·rw [List.map_append, h.l, List.range_succ, List.map_append]; simp [hx]
 ·have hgl := (h.al.lt g hg).2
  refine ⟨fun hm => ?_, fun hm => ?_⟩
  ·rcases hb9 g (ownL_mem hm) with h1 | h1
   ·exact (h.j g hg).1 (mem_ownL h1)
   ·have := hl.size; omega
  ·rw [hbx] at hm
   rcases List.mem_append.1 hm with hm | hm
   ·exact (h.j g hg).2 hm
   ·have := hxl g hm; omega
 ·have h1 := hG.size
  have h2 := h8.sz
  simp
  omega
end
end Go.Proofs.YtknhebakebmlcaaGreat
