/-
 The moves of a walk through a region that draws, with their side conditions drawn together. Lemmas only.
-/
import Derived.WalkKit
import Derived.WalkLawsBesides
import Derived.Deep.RegionHeld3
namespace Go.Proofs.YtknhebakebmlcaaGreat
open Go Go.RowKit
set_option linter.unusedVariables false
set_option maxRecDepth 100000
theorem sA {α : Type} (l : List α) (i : Nat) (a : α) : l.toArray.setIfInBounds i a = (l.set i a).toArray := List.setIfInBounds_toArray l i a
theorem sZ {α : Type} (x : α) (l : List α) (a : α) : (x :: l).set 0 a = a :: l := List.set_cons_zero
theorem sS {α : Type} (x : α) (l : List α) (n : Nat) (a : α) : (x :: l).set (n + 1) a = x :: l.set n a := List.set_cons_succ
/-- An element of a list, so that it is written out where it is asked for by rfl. -/
def nA {α : Type} : List α → Nat → Option α
 | [], _ => none
 | x :: _, 0 => some x
 | _ :: l, n + 1 => nA l n
theorem nA_eq {α : Type} (l : List α) : ∀ i, nA l i = l[i]? := by
 induction l with
 | nil => intro i; rfl
 | cons x l ih =>
  intro i
  cases i with
  | zero => rfl
  | succ i => simpa [nA] using ih i
theorem nA_arr {α : Type} {x : Array α} {i : Nat} {o : α} (h : nA x.toList i = some o) : x[i]? = some o := by
 rw [nA_eq, Array.getElem?_toList] at h
 exact h
section
variable {P : Program} {ops : Array Oper} {Q : Exit → Act → World → Prop} {md : Region.Mode} {S : World → Prop}
/-- A panic says nothing on the temporaries. -/
def QPut (Q : Exit → Act → World → Prop) : Prop := ∀ (d : Tmp) (v : Value) c a w, Q (.panic c) (a.put (some d) v) w → Q (.panic c) a w
theorem QPut.any (h : QPut Q) (d : Option Tmp) (v : Value) : ∀ c a w, Q (.panic c) (a.put d v) w → Q (.panic c) a w := by
 cases d with
 | none => exact fun _ _ _ h => h
 | some d => exact h d v
theorem gO {id : Nat} {a : Act} {w : World} (hm : P.follows .mixedOrders = true) (hS : S w.drew) (hQ : QPut Q)
  (h : S w.drew → QPut Q → wpAnyH P .any ops Q S ops.size (Array.replicate ops.size false) a w.drew) : (Code.region id ops true).wp P Q a w := wp_region_held_drew hm hS fun k => h k hQ
theorem gT (i : Nat) {oi : Oper} {v : Value} {fuel : Nat} {listed : Array Bool} {a : Act} {w : World} (hi : nA ops.toList i = some oi)
  (hc : (Region.noSelect ops && Region.free md ops listed i && (Region.ready md ops listed).contains i && Region.wanted oi (yielded ops a.tmps)) = true)
  (hy : ∀ w, S w → (execOp a.eval oi).run P w = .ok (.value v) w) (hQ : QPut Q) (hS : S w)
  (h : wpAnyH P md ops Q S fuel (listed.setIfInBounds i true) (a.put oi.dst v) w) : wpAnyH P md ops Q S (fuel + 1) listed a w := by
 simp only [Bool.and_eq_true] at hc
 exact wpAnyH_take (nA_arr hi) hc.1.1.1 hc.1.1.2 hc.1.2 (hQ.any _ _) (Or.inl ⟨hc.2, hy⟩) hS h
theorem gU (i : Nat) {oi : Oper} {fuel : Nat} {listed : Array Bool} {a : Act} {w : World} (hi : nA ops.toList i = some oi)
  (hc : (Region.noSelect ops && Region.free md ops listed i && (Region.ready md ops listed).contains i && !Region.wanted oi (yielded ops a.tmps)) = true) (hQ : QPut Q) (hS : S w)
  (h : wpAnyH P md ops Q S fuel (listed.setIfInBounds i true) (a.put oi.dst undef) w) : wpAnyH P md ops Q S (fuel + 1) listed a w := by
 simp only [Bool.and_eq_true, Bool.not_eq_true'] at hc
 exact wpAnyH_take (nA_arr hi) hc.1.1.1 hc.1.1.2 hc.1.2 (hQ.any _ _) (Or.inr ⟨hc.2, rfl⟩) hS h
theorem gE (i : Nat) {o : Oper} {fuel : Nat} {listed : Array Bool} {a : Act} {w : World} (ho : nA ops.toList i = some o) (hr : Region.ready md ops listed = [i])
  (h : ∀ K' : Act → World → Prop, Shut (∀ a w, S w → (S w → wpAnyH P md ops Q S fuel (listed.setIfInBounds i true) a w) → K' a w) → if Region.wanted o (yielded ops a.tmps) = true then Oper.wp P o a w K' Q else K' (a.put o.dst undef) w) : wpAnyH P md ops Q S (fuel + 1) listed a w := wpAnyH_ready hr (by simp) (AllReadyH.cons (nA_arr ho) h AllReadyH.nil)
end
end Go.Proofs.YtknhebakebmlcaaGreat
