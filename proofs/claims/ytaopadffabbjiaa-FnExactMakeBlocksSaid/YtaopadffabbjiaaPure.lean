/-
  Plain functions on lists that several texts use: the first place, all with their places, sums. No program in sight.
-/
import Derived.Test.YtaopadffabbjiaaTypes
import Derived.Lib.Hide
namespace Go.Proofs.Ytaopadffabbjiaa
open Go Go.RowKit
set_option linter.unusedVariables false
set_option maxRecDepth 100000
section
variable {α β : Type}
/-- The place of the first element that p holds of, counted from k, or -1. -/
def idxGo (p : α → Bool) : List α → Nat → Int
  | [], _ => -1
  | x :: l, k => if p x = true then (k : Int) else idxGo p l (k + 1)
def idx (p : α → Bool) (l : List α) : Int := idxGo p l 0
/-- f holds of each element at its place, counted from k. -/
def allFrom (f : Nat → α → Bool) : List α → Nat → Bool
  | [], _ => true
  | x :: l, k => f k x && allFrom f l (k + 1)
theorem allFrom_iff (f : Nat → α → Bool) (l : List α) (k : Nat) : allFrom f l k = true ↔ ∀ (j : Nat) (x : α), l[j]? = some x → f (k + j) x = true := by
  induction l generalizing k with
  | nil => simp [allFrom]
  | cons y l ih =>
    simp only [allFrom, Bool.and_eq_true, ih]
    constructor
    · rintro ⟨h1, h2⟩ j x hx
      cases j with
      | zero => simp at hx; subst hx; simpa using h1
      | succ j => have := h2 j x (by simpa using hx); rwa [show k + (j + 1) = k + 1 + j by omega]
    · intro h
      exact ⟨by simpa using h 0 y rfl, fun j x hx => by have := h (j + 1) x (by simpa using hx); rwa [show k + 1 + j = k + (j + 1) by omega]⟩
theorem allFrom_congr {f g : Nat → α → Bool} {l : List α} {k : Nat} (h : ∀ (j : Nat) (x : α), l[j]? = some x → f (k + j) x = g (k + j) x) : allFrom f l k = allFrom g l k := by
  induction l generalizing k with
  | nil => rfl
  | cons y l ih =>
    simp only [allFrom]
    rw [show f k y = g k y by simpa using h 0 y rfl, ih fun j x hx => by have := h (j + 1) x (by simpa using hx); rwa [show k + (j + 1) = k + 1 + j by omega] at this]
theorem idxGo_spec (p : α → Bool) (l : List α) (k : Nat) :
    (idxGo p l k = -1 ∧ ∀ (j : Nat) (x : α), l[j]? = some x → p x = false) ∨ ∃ (j : Nat) (x : α), l[j]? = some x ∧ p x = true ∧ idxGo p l k = ((k + j : Nat) : Int) ∧ ∀ (i : Nat) (y : α), i < j → l[i]? = some y → p y = false := by
  induction l generalizing k with
  | nil => exact .inl ⟨rfl, by simp⟩
  | cons y l ih =>
    simp only [idxGo]
    by_cases hp : p y = true
    · rw [if_pos hp]
      exact .inr ⟨0, y, rfl, hp, by simp, by simp⟩
    · rw [if_neg hp]
      have hp' : p y = false := by simpa using hp
      rcases ih (k + 1) with ⟨h1, h2⟩ | ⟨j, x, h1, h2, h3, h4⟩
      · exact .inl ⟨h1, fun j x hx => by cases j with
          | zero => simp at hx; subst hx; exact hp'
          | succ j => exact h2 j x (by simpa using hx)⟩
      · exact .inr ⟨j + 1, x, by simpa using h1, h2, by rw [h3]; omega, fun i z hi hz => by cases i with
          | zero => simp at hz; subst hz; exact hp'
          | succ i => exact h4 i z (by omega) (by simpa using hz)⟩
theorem idx_spec (p : α → Bool) (l : List α) : (idx p l = -1 ∧ ∀ (j : Nat) (x : α), l[j]? = some x → p x = false) ∨ ∃ (j : Nat) (x : α), l[j]? = some x ∧ p x = true ∧ idx p l = (j : Int) ∧ ∀ (i : Nat) (y : α), i < j → l[i]? = some y → p y = false := by
  have := idxGo_spec p l 0
  simpa [idx] using this
theorem idx_bd (p : α → Bool) (l : List α) : -1 ≤ idx p l ∧ idx p l < l.length := by
  rcases idx_spec p l with ⟨h, _⟩ | ⟨j, x, h1, _, h2, _⟩
  · rw [h]; omega
  · have := (List.getElem?_eq_some_iff.1 h1).1; rw [h2]; omega
theorem idx_at {p : α → Bool} {l : List α} (h : 0 ≤ idx p l) : ∃ (j : Nat) (x : α), l[j]? = some x ∧ p x = true ∧ idx p l = (j : Int) := by
  rcases idx_spec p l with ⟨h0, _⟩ | ⟨j, x, h1, h2, h3, _⟩
  · omega
  · exact ⟨j, x, h1, h2, h3⟩
theorem idxGo_congr {p q : α → Bool} (l : List α) (k : Nat) (h : ∀ x, x ∈ l → p x = q x) : idxGo p l k = idxGo q l k := by
  induction l generalizing k with
  | nil => rfl
  | cons y l ih => simp only [idxGo]; rw [h y (by simp), ih _ fun x hx => h x (by simp [hx])]
theorem idxGo_map (f : β → α) (p : α → Bool) (l : List β) (k : Nat) : idxGo p (l.map f) k = idxGo (fun x => p (f x)) l k := by
  induction l generalizing k with
  | nil => rfl
  | cons y l ih => simp only [List.map_cons, idxGo, ih]
theorem idx_map (f : β → α) (p : α → Bool) (l : List β) : idx p (l.map f) = idx (fun x => p (f x)) l := idxGo_map f p l 0
theorem idx_neg_iff {p : α → Bool} {l : List α} : idx p l < 0 ↔ l.any p = false := by
  rcases idx_spec p l with ⟨h0, h⟩ | ⟨j, x, h1, h2, h3, _⟩
  · rw [h0]
    simp only [List.any_eq_false, Int.reduceNeg, Int.reduceLT, true_iff]
    intro x hx
    obtain ⟨j, hj, rfl⟩ := List.getElem_of_mem hx
    simp [h j _ (List.getElem?_eq_getElem hj)]
  · rw [h3]
    have : l.any p = true := List.any_eq_true.2 ⟨x, List.mem_of_getElem? h1, h2⟩
    simp [this]
theorem all_congr {p q : α → Bool} {l : List α} (h : ∀ x, x ∈ l → p x = q x) : l.all p = l.all q := by
  induction l with
  | nil => rfl
  | cons y l ih => simp only [List.all_cons]; rw [h y (by simp), ih fun x hx => h x (by simp [hx])]
theorem allFrom_and (f g : Nat → α → Bool) (l : List α) (k : Nat) : allFrom (fun i x => f i x && g i x) l k = (allFrom f l k && allFrom g l k) := by
  induction l generalizing k with
  | nil => rfl
  | cons y l ih => simp only [allFrom, ih]; cases f k y <;> cases g k y <;> simp
theorem allFrom_all (p : α → Bool) (l : List α) (k : Nat) : allFrom (fun _ x => p x) l k = l.all p := by
  induction l generalizing k with
  | nil => rfl
  | cons y l ih => simp only [allFrom, ih, List.all_cons]
theorem allFrom_map (f : Nat → α → Bool) (g : β → α) (l : List β) (k : Nat) : allFrom f (l.map g) k = allFrom (fun i x => f i (g x)) l k := by
  induction l generalizing k with
  | nil => rfl
  | cons y l ih => simp only [List.map_cons, allFrom, ih]
def sumI : List Int → Int
  | [] => 0
  | x :: l => x + sumI l
theorem sumI_append (a b : List Int) : sumI (a ++ b) = sumI a + sumI b := by
  induction a with
  | nil => simp [sumI]
  | cons x a ih => simp only [List.cons_append, sumI, ih]; omega
theorem sumI_bd {l : List Int} {lo hi : Int} (h : ∀ x, x ∈ l → lo ≤ x ∧ x ≤ hi) : lo * l.length ≤ sumI l ∧ sumI l ≤ hi * l.length := by
  induction l with
  | nil => simp [sumI]
  | cons x l ih =>
    have h1 := h x (by simp)
    have h2 := ih fun y hy => h y (by simp [hy])
    simp only [sumI, List.length_cons]
    push_cast
    rw [Int.mul_add, Int.mul_add]
    omega
theorem take_succ_at {l : List α} {k : Nat} {x : α} (h : l[k]? = some x) : l.take (k + 1) = l.take k ++ [x] := by
  rw [List.take_add_one, h]; rfl
end
end Go.Proofs.Ytaopadffabbjiaa
