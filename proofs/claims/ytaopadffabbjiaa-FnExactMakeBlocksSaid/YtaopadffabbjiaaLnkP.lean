/-
  MakeBlocks: plain functions.
-/
import Derived.Test.YtaopadffabbjiaaBlk
namespace Go.Proofs.Ytaopadffabbjiaa
open Go Go.RowKit
set_option linter.unusedVariables false
set_option maxRecDepth 100000
section
variable (n : Nat) (fol : Nat → Nat → Bool) (dd : Nat → Nat → Int)
/-- Trip i may follow trip a, which none follows yet. -/
def mayF (u i a : Nat) : Bool := fol a i && !u.testBit a
def lkStep (rest : Nat → Int × Int) (i u : Nat) (b : Int × Int) (a : Nat) : Int × Int :=
  if mayF fol u i a = true ∧ (b.1 < (rest (u ||| 2 ^ a)).1 + 1 ∨ (b.1 = (rest (u ||| 2 ^ a)).1 + 1 ∧ (rest (u ||| 2 ^ a)).2 + dd a i < b.2)) then ((rest (u ||| 2 ^ a)).1 + 1, (rest (u ||| 2 ^ a)).2 + dd a i) else b
/-- The program's best links of the last r trips. -/
def lk : Nat → Nat → Int × Int
  | 0, _ => (0, 0)
  | r + 1, u => (List.range n).foldl (lkStep fol dd (lk r) (n - (r + 1)) u) (lk r u)
def csStep (rest : Nat → Int) (i u : Nat) (b : Int) (a : Nat) : Int :=
  if mayF fol u i a = true then (if b < dd a i + rest (u ||| 2 ^ a) then b else dd a i + rest (u ||| 2 ^ a)) else b
/-- The reference's best cost of the last r trips. -/
def cs : Nat → Nat → Int
  | 0, _ => 0
  | r + 1, u => (List.range n).foldl (csStep fol dd (cs r) (n - (r + 1)) u) (100000 + cs r u)
def costOfL (r : Nat) (b : Int × Int) : Int := 100000 * ((r : Int) - b.1) + b.2
structure LkIn (r : Nat) (b : Int × Int) : Prop where
  c0 : 0 ≤ b.1
  c1 : b.1 ≤ r
  d0 : 0 ≤ b.2
  d1 : b.2 ≤ 120 * (r : Int)
end
section
variable {n : Nat} {fol : Nat → Nat → Bool} {dd : Nat → Nat → Int}
theorem lk_step {r : Nat} (hr : r + 1 ≤ 12) (hd : ∀ a i, 0 ≤ dd a i ∧ dd a i ≤ 120) {rest : Nat → Int × Int} {restS : Nat → Int} (hin : ∀ u, LkIn r (rest u)) (hc : ∀ u, restS u = costOfL r (rest u)) {i u : Nat} {b : Int × Int} (hb : LkIn (r + 1) b) (a : Nat) :
    LkIn (r + 1) (lkStep fol dd rest i u b a) ∧ csStep fol dd restS i u (costOfL (r + 1) b) a = costOfL (r + 1) (lkStep fol dd rest i u b a) := by
  have g := hin (u ||| 2 ^ a)
  have gd := hd a i
  have gc := hc (u ||| 2 ^ a)
  obtain ⟨g1, g2, g3, g4⟩ := g
  obtain ⟨b1, b2, b3, b4⟩ := hb
  unfold lkStep csStep
  rw [gc]
  unfold costOfL
  generalize rest (u ||| 2 ^ a) = c at *
  by_cases m : mayF fol u i a = true
  · rw [if_pos m]
    split
    · rename_i h
      refine ⟨⟨by simp only; omega, by simp only; omega, by simp only; omega, by simp only; omega⟩, ?_⟩
      simp only
      rw [if_neg (by omega)]; omega
    · rename_i h
      have h2 : ¬ (b.1 < c.1 + 1 ∨ (b.1 = c.1 + 1 ∧ c.2 + dd a i < b.2)) := fun e => h ⟨m, e⟩
      refine ⟨⟨b1, b2, b3, b4⟩, ?_⟩
      split
      · rfl
      · omega
  · rw [if_neg m, if_neg fun e => m e.1]
    exact ⟨⟨b1, b2, b3, b4⟩, rfl⟩
theorem lk_fold {r : Nat} (hr : r + 1 ≤ 12) (hd : ∀ a i, 0 ≤ dd a i ∧ dd a i ≤ 120) {rest : Nat → Int × Int} {restS : Nat → Int} (hin : ∀ u, LkIn r (rest u)) (hc : ∀ u, restS u = costOfL r (rest u)) {i u : Nat} (l : List Nat) {b : Int × Int} (hb : LkIn (r + 1) b) :
    LkIn (r + 1) (l.foldl (lkStep fol dd rest i u) b) ∧ l.foldl (csStep fol dd restS i u) (costOfL (r + 1) b) = costOfL (r + 1) (l.foldl (lkStep fol dd rest i u) b) := by
  induction l generalizing b with
  | nil => exact ⟨hb, rfl⟩
  | cons a l ih =>
    obtain ⟨h1, h2⟩ := lk_step (fol := fol) hr hd hin hc (i := i) (u := u) hb a
    simp only [List.foldl_cons]
    rw [h2]
    exact ih h1
theorem lk_same (hd : ∀ a i, 0 ≤ dd a i ∧ dd a i ≤ 120) (r : Nat) (hr : r ≤ 12) : ∀ u, LkIn r (lk n fol dd r u) ∧ cs n fol dd r u = costOfL r (lk n fol dd r u) := by
  induction r with
  | zero => intro u; exact ⟨⟨by simp [lk], by simp [lk], by simp [lk], by simp [lk]⟩, by simp [lk, cs, costOfL]⟩
  | succ r ih =>
    intro u
    have ih := ih (by omega)
    obtain ⟨h1, h2⟩ := ih u
    obtain ⟨g1, g2, g3, g4⟩ := h1
    have hb : LkIn (r + 1) (lk n fol dd r u) := ⟨g1, by omega, g3, by omega⟩
    have := lk_fold (fol := fol) (i := n - (r + 1)) (u := u) hr hd (fun u => (ih u).1) (fun u => (ih u).2) (List.range n) hb
    simp only [lk, cs]
    rw [h2]
    rw [show (100000 : Int) + costOfL r (lk n fol dd r u) = costOfL (r + 1) (lk n fol dd r u) by unfold costOfL; omega]
    exact this
/-- The fold ends at its start or at one of the candidates. -/
theorem lk_att {rest : Nat → Int × Int} {i u : Nat} (l : List Nat) (b : Int × Int) :
    l.foldl (lkStep fol dd rest i u) b = b ∨ ∃ a, a ∈ l ∧ mayF fol u i a = true ∧ l.foldl (lkStep fol dd rest i u) b = ((rest (u ||| 2 ^ a)).1 + 1, (rest (u ||| 2 ^ a)).2 + dd a i) := by
  induction l generalizing b with
  | nil => exact .inl rfl
  | cons a l ih =>
    simp only [List.foldl_cons]
    rcases ih (lkStep fol dd rest i u b a) with h | ⟨a', ha, hm, h⟩
    · rw [h]
      unfold lkStep
      split
      · rename_i c; exact .inr ⟨a, by simp, c.1, rfl⟩
      · exact .inl rfl
    · exact .inr ⟨a', by simp [ha], hm, h⟩
end
section
variable (n : Nat) (fol : Nat → Nat → Bool) (dd : Nat → Nat → Int)
/-- Which trip the trip i = n - (r + 1) follows, where u are followed: the first that is best, or none. -/
def hitI (r u a : Nat) : Bool := mayF fol u (n - (r + 1)) a && decide (((lk n fol dd r (u ||| 2 ^ a)).1 + 1, (lk n fol dd r (u ||| 2 ^ a)).2 + dd a (n - (r + 1))) = lk n fol dd (r + 1) u)
def hitS (r u a : Nat) : Bool := mayF fol u (n - (r + 1)) a && decide (dd a (n - (r + 1)) + cs n fol dd r (u ||| 2 ^ a) = cs n fol dd (r + 1) u)
def befOf (r u : Nat) : Option Nat := if lk n fol dd r u = lk n fol dd (r + 1) u then none else (List.range n).find? (hitI n fol dd r u)
def befS (r u : Nat) : Option Nat := if 100000 + cs n fol dd r u = cs n fol dd (r + 1) u then none else (List.range n).find? (hitS n fol dd r u)
def mark (u : Nat) : Option Nat → Nat
  | none => u
  | some a => u ||| 2 ^ a
def befGo : Nat → Nat → List (Option Nat)
  | 0, _ => []
  | r + 1, u => befOf n fol dd r u :: befGo r (mark u (befOf n fol dd r u))
end
section
variable {n : Nat} {fol : Nat → Nat → Bool} {dd : Nat → Nat → Int}
theorem cost_inj {r : Nat} (hr : r ≤ 12) {b c : Int × Int} (hb : LkIn r b) (hc : LkIn r c) : costOfL r b = costOfL r c ↔ b = c := by
  obtain ⟨b1, b2⟩ := b
  obtain ⟨c1, c2⟩ := c
  obtain ⟨g1, g2, g3, g4⟩ := hb
  obtain ⟨k1, k2, k3, k4⟩ := hc
  simp only [costOfL, Prod.mk.injEq] at *
  constructor
  · intro h; constructor <;> omega
  · rintro ⟨rfl, rfl⟩; rfl
theorem hit_same (hd : ∀ a i, 0 ≤ dd a i ∧ dd a i ≤ 120) {r : Nat} (hr : r + 1 ≤ 12) (u a : Nat) : hitS n fol dd r u a = hitI n fol dd r u a := by
  obtain ⟨h1, h2⟩ := lk_same (n := n) (fol := fol) hd r (by omega) (u ||| 2 ^ a)
  obtain ⟨k1, k2⟩ := lk_same (n := n) (fol := fol) hd (r + 1) hr u
  have gd := hd a (n - (r + 1))
  unfold hitS hitI
  rw [h2, k2]
  obtain ⟨g1, g2, g3, g4⟩ := h1
  have hb : LkIn (r + 1) ((lk n fol dd r (u ||| 2 ^ a)).1 + 1, (lk n fol dd r (u ||| 2 ^ a)).2 + dd a (n - (r + 1))) := ⟨by simp only; omega, by simp only; omega, by simp only; omega, by simp only; omega⟩
  refine congrArg _ (decide_eq_decide.2 ?_)
  rw [← cost_inj hr hb k1]
  unfold costOfL
  simp only
  constructor <;> intro h <;> omega
theorem bef_same (hd : ∀ a i, 0 ≤ dd a i ∧ dd a i ≤ 120) {r : Nat} (hr : r + 1 ≤ 12) (u : Nat) : befS n fol dd r u = befOf n fol dd r u := by
  obtain ⟨h1, h2⟩ := lk_same (n := n) (fol := fol) hd r (by omega) u
  obtain ⟨k1, k2⟩ := lk_same (n := n) (fol := fol) hd (r + 1) hr u
  obtain ⟨g1, g2, g3, g4⟩ := h1
  have hb : LkIn (r + 1) (lk n fol dd r u) := ⟨g1, by omega, g3, by omega⟩
  unfold befS befOf
  rw [show hitS n fol dd r u = hitI n fol dd r u from funext fun a => hit_same hd hr u a]
  have e : (100000 + cs n fol dd r u = cs n fol dd (r + 1) u) ↔ lk n fol dd r u = lk n fol dd (r + 1) u := by
    rw [h2, k2, ← cost_inj hr hb k1]
    unfold costOfL
    constructor <;> intro h <;> omega
  by_cases c : lk n fol dd r u = lk n fol dd (r + 1) u
  · rw [if_pos c, if_pos (e.2 c)]
  · rw [if_neg c, if_neg fun h => c (e.1 h)]
theorem bef_ne {r u : Nat} (h : lk n fol dd r u ≠ lk n fol dd (r + 1) u) : ∃ a, befOf n fol dd r u = some a := by
  unfold befOf
  rw [if_neg h]
  rcases lk_att (fol := fol) (dd := dd) (rest := lk n fol dd r) (i := n - (r + 1)) (u := u) (List.range n) (lk n fol dd r u) with e | ⟨a, ha, hm, e⟩
  · exact absurd e.symm h
  · cases c : (List.range n).find? (hitI n fol dd r u) with
    | some b => exact ⟨b, rfl⟩
    | none =>
      have := List.find?_eq_none.1 c a ha
      refine absurd ?_ this
      unfold hitI
      rw [hm]
      simp only [Bool.true_and, decide_eq_true_eq]
      exact e.symm
theorem bef_some {r u a : Nat} (h : befOf n fol dd r u = some a) : a < n ∧ mayF fol u (n - (r + 1)) a = true ∧ ((lk n fol dd r (u ||| 2 ^ a)).1 + 1, (lk n fol dd r (u ||| 2 ^ a)).2 + dd a (n - (r + 1))) = lk n fol dd (r + 1) u := by
  unfold befOf at h
  split at h
  · cases h
  · have h1 := List.mem_of_find?_eq_some h
    have h2 := List.find?_some h
    simp only [hitI, Bool.and_eq_true, decide_eq_true_eq] at h2
    exact ⟨List.mem_range.1 h1, h2.1, h2.2⟩
theorem bef_none {r u : Nat} (h : befOf n fol dd r u = none) : lk n fol dd r u = lk n fol dd (r + 1) u := by
  apply Decidable.byContradiction
  intro c
  obtain ⟨a, ha⟩ := bef_ne c
  rw [h] at ha; cases ha
theorem befGo_len (r u : Nat) : (befGo n fol dd r u).length = r := by
  induction r generalizing u with
  | zero => rfl
  | succ r ih => simp [befGo, ih]
/-- What the links say of the trips from n - r on. -/
theorem befGo_at (r u : Nat) (hr : r ≤ n) : ∀ (j a : Nat), (befGo n fol dd r u)[j]? = some (some a) → a < n ∧ fol a (n - r + j) = true ∧ u.testBit a = false := by
  induction r generalizing u with
  | zero => intro j a h; simp [befGo] at h
  | succ r ih =>
    intro j a h
    simp only [befGo] at h
    cases j with
    | zero =>
      simp only [List.getElem?_cons_zero, Option.some.injEq] at h
      obtain ⟨h1, h2, _⟩ := bef_some h
      simp only [mayF, Bool.and_eq_true, Bool.not_eq_true'] at h2
      exact ⟨h1, by rw [Nat.add_zero]; exact h2.1, h2.2⟩
    | succ j =>
      simp only [List.getElem?_cons_succ] at h
      obtain ⟨h1, h2, h3⟩ := ih _ (by omega) j a h
      refine ⟨h1, by rw [show n - (r + 1) + (j + 1) = n - r + j by omega]; exact h2, ?_⟩
      cases c : befOf n fol dd r u with
      | none => rw [c] at h3; exact h3
      | some b =>
        rw [c] at h3
        simp only [mark, Nat.testBit_or, Bool.or_eq_false_iff] at h3
        exact h3.1
theorem befGo_inj (r u : Nat) (hr : r ≤ n) : ∀ (i j a : Nat), i < j → (befGo n fol dd r u)[i]? = some (some a) → (befGo n fol dd r u)[j]? = some (some a) → False := by
  induction r generalizing u with
  | zero => intro i j a _ h; simp [befGo] at h
  | succ r ih =>
    intro i j a hij h1 h2
    simp only [befGo] at h1 h2
    cases j with
    | zero => omega
    | succ j =>
      simp only [List.getElem?_cons_succ] at h2
      cases i with
      | zero =>
        simp only [List.getElem?_cons_zero, Option.some.injEq] at h1
        have := (befGo_at r _ (by omega) j a h2).2.2
        rw [h1] at this
        simp [mark, Nat.testBit_or, Nat.testBit_two_pow_self] at this
      | succ i =>
        simp only [List.getElem?_cons_succ] at h1
        exact ih _ (by omega) i j a (by omega) h1 h2
def sumL : List Int → Int
  | [] => 0
  | x :: l => x + sumL l
/-- The dead minutes of the links. -/
def linkSum (dd : Nat → Nat → Int) : Nat → List (Option Nat) → Int
  | _, [] => 0
  | i, none :: l => linkSum dd (i + 1) l
  | i, some a :: l => dd a i + linkSum dd (i + 1) l
theorem befGo_dead (r u : Nat) (hr : r ≤ n) : linkSum dd (n - r) (befGo n fol dd r u) = (lk n fol dd r u).2 := by
  induction r generalizing u with
  | zero => rfl
  | succ r ih =>
    have := ih (mark u (befOf n fol dd r u)) (by omega)
    simp only [befGo]
    rw [show n - r = n - (r + 1) + 1 by omega] at this
    cases c : befOf n fol dd r u with
    | none =>
      rw [c] at this
      simp only [linkSum]
      rw [this, ← bef_none c]; rfl
    | some a =>
      rw [c] at this
      simp only [linkSum]
      rw [this, ← (bef_some c).2.2]
      simp only [mark]
      omega
end
/-! ### Sums -/
def sumR (f : Nat → Int) : Nat → Int
  | 0 => 0
  | n + 1 => sumR f n + f n
theorem sumR_congr {f g : Nat → Int} {n : Nat} (h : ∀ k, k < n → f k = g k) : sumR f n = sumR g n := by
  induction n with
  | zero => rfl
  | succ n ih => simp only [sumR]; rw [ih fun k hk => h k (by omega), h n (by omega)]
theorem sumR_add (f g : Nat → Int) (n : Nat) : sumR (fun k => f k + g k) n = sumR f n + sumR g n := by
  induction n with
  | zero => rfl
  | succ n ih => simp only [sumR]; rw [ih]; omega
theorem sumR_zero {f : Nat → Int} {n : Nat} (h : ∀ k, k < n → f k = 0) : sumR f n = 0 := by
  induction n with
  | zero => rfl
  | succ n ih => simp only [sumR]; rw [ih fun k hk => h k (by omega), h n (by omega)]; rfl
theorem sumR_one {f : Nat → Int} {n k : Nat} (hk : k < n) (h : ∀ j, j < n → j ≠ k → f j = 0) : sumR f n = f k := by
  induction n with
  | zero => omega
  | succ n ih =>
    simp only [sumR]
    by_cases e : k = n
    · subst e; rw [sumR_zero fun j hj => h j (by omega) (by omega)]; omega
    · rw [ih (by omega) fun j hj hne => h j (by omega) hne, h n (by omega) (Ne.symm e)]; omega
theorem sumR_swap (f : Nat → Nat → Int) (n m : Nat) : sumR (fun i => sumR (fun k => f i k) m) n = sumR (fun k => sumR (fun i => f i k) n) m := by
  induction n with
  | zero => simp only [sumR]; exact (sumR_zero fun _ _ => rfl).symm
  | succ n ih => simp only [sumR]; rw [ih, ← sumR_add]
/-! ### Chains -/
/-- The first trip behind trip a. -/
def nxt (bs : List (Option Nat)) (a : Nat) : Option Nat := (List.range bs.length).find? fun k => decide (bs[k]? = some (some a))
def chainGo (bs : List (Option Nat)) : Nat → Nat → List Nat
  | 0, _ => []
  | f + 1, a => a :: (match nxt bs a with | none => [] | some k => chainGo bs f k)
def chain (bs : List (Option Nat)) (a : Nat) : List Nat := chainGo bs (bs.length + 1) a
def chainO (bs : List (Option Nat)) : Option Nat → List Nat
  | none => []
  | some a => chain bs a
def rk (st : Nat → Int) (n a : Nat) : Nat := ((List.range n).filter fun k => decide (st a < st k)).length
structure Links (st : Nat → Int) (bs : List (Option Nat)) : Prop where
  lt : ∀ k a : Nat, bs[k]? = some (some a) → a < bs.length ∧ st a < st k
  inj : ∀ i j a : Nat, bs[i]? = some (some a) → bs[j]? = some (some a) → i = j
section
variable {st : Nat → Int} {bs : List (Option Nat)}
theorem nxt_some {a k : Nat} (h : nxt bs a = some k) : k < bs.length ∧ bs[k]? = some (some a) := by
  unfold nxt at h
  have h1 := List.mem_of_find?_eq_some h
  have h2 := List.find?_some h
  exact ⟨List.mem_range.1 h1, by simpa using h2⟩
theorem nxt_none {a : Nat} (h : nxt bs a = none) (k : Nat) : ¬ bs[k]? = some (some a) := by
  intro e
  have hk := (List.getElem?_eq_some_iff.1 e).1
  have := List.find?_eq_none.1 h k (List.mem_range.2 hk)
  exact this (by simpa using e)
theorem nxt_of (hL : Links st bs) {a k : Nat} (h : bs[k]? = some (some a)) : nxt bs a = some k := by
  cases c : nxt bs a with
  | none => exact absurd h (nxt_none c k)
  | some j => rw [hL.inj j k a (nxt_some c).2 h]
theorem rk_lt {n a k : Nat} (hk : k < n) (h : st a < st k) : rk st n k < rk st n a := by
  unfold rk
  have h1 : ((List.range n).filter fun j => decide (st k < st j)).Sublist ((List.range n).filter fun j => decide (st a < st j)) := by
    have e : ((List.range n).filter fun j => decide (st k < st j)) = ((List.range n).filter fun j => decide (st a < st j)).filter fun j => decide (st k < st j) := by
      rw [List.filter_filter]
      refine List.filter_congr fun j _ => ?_
      by_cases c : st k < st j
      · simp [c]; omega
      · simp [c]
    rw [e]; exact List.filter_sublist
  rcases Nat.lt_or_ge ((List.range n).filter fun j => decide (st k < st j)).length ((List.range n).filter fun j => decide (st a < st j)).length with c | c
  · exact c
  · have e := h1.eq_of_length_le c
    have hm : k ∈ (List.range n).filter fun j => decide (st a < st j) := by simp [hk, h]
    rw [← e] at hm
    simp at hm
theorem rk_le (n a : Nat) : rk st n a ≤ n := by
  unfold rk
  exact Nat.le_trans (List.length_filter_le _ _) (by simp)
theorem chainGo_fuel (hL : Links st bs) (f : Nat) : ∀ a, rk st bs.length a < f → chainGo bs f a = chainGo bs (f + 1) a := by
  induction f with
  | zero => intro a h; omega
  | succ f ih =>
    intro a h
    rw [chainGo, chainGo]
    cases c : nxt bs a with
    | none => rfl
    | some k =>
      obtain ⟨h1, h2⟩ := nxt_some c
      have := rk_lt h1 (hL.lt k a h2).2
      simp only
      rw [ih k (by omega)]
theorem chain_step (hL : Links st bs) (a : Nat) : chain bs a = a :: chainO bs (nxt bs a) := by
  unfold chain
  rw [chainGo]
  cases c : nxt bs a with
  | none => rfl
  | some k =>
    obtain ⟨h1, h2⟩ := nxt_some c
    have := rk_lt h1 (hL.lt k a h2).2
    have := rk_le (st := st) bs.length a
    simp only [chainO, chain]
    rw [chainGo_fuel hL bs.length k (by omega)]
theorem chain_len (bs : List (Option Nat)) (f a : Nat) : (chainGo bs f a).length ≤ f := by
  induction f generalizing a with
  | zero => simp [chainGo]
  | succ f ih =>
    rw [chainGo]
    cases nxt bs a with
    | none => simp
    | some k => have := ih k; simp; omega
theorem chain_mem (bs : List (Option Nat)) (f a : Nat) (ha : a < bs.length) : ∀ k, k ∈ chainGo bs f a → k < bs.length := by
  induction f generalizing a with
  | zero => intro k h; simp [chainGo] at h
  | succ f ih =>
    intro k h
    rw [chainGo] at h
    rcases List.mem_cons.1 h with rfl | h
    · exact ha
    · cases c : nxt bs a with
      | none => rw [c] at h; simp at h
      | some j => rw [c] at h; exact ih j (nxt_some c).1 k h
end
/-- The dead minutes along a list of trips. -/
def walkSum (dd : Nat → Nat → Int) : List Nat → Int
  | [] => 0
  | [_] => 0
  | a :: b :: l => dd a b + walkSum dd (b :: l)
def restSum (dd : Nat → Nat → Int) (bs : List (Option Nat)) (a : Nat) : Int := walkSum dd (chain bs a)
theorem restSum_step {st : Nat → Int} {bs : List (Option Nat)} (hL : Links st bs) (dd : Nat → Nat → Int) (a : Nat) : restSum dd bs a = match nxt bs a with | none => 0 | some k => dd a k + restSum dd bs k := by
  unfold restSum
  rw [chain_step hL a]
  cases c : nxt bs a with
  | none => rfl
  | some k =>
    simp only [chainO]
    rw [chain_step hL k]
    rfl
theorem links_sum {st : Nat → Int} {bs : List (Option Nat)} (hL : Links st bs) (h : Nat → Nat → Int) :
    sumR (fun i => match nxt bs i with | none => 0 | some k => h i k) bs.length = sumR (fun k => match bs.getD k none with | none => 0 | some a => h a k) bs.length := by
  have e1 : ∀ i, i < bs.length → (match nxt bs i with | none => 0 | some k => h i k) = sumR (fun k => if bs[k]? = some (some i) then h i k else 0) bs.length := fun i hi => by
    cases c : nxt bs i with
    | none => exact (sumR_zero fun k hk => if_neg (nxt_none c k)).symm
    | some k =>
      obtain ⟨h1, h2⟩ := nxt_some c
      rw [sumR_one h1 fun j hj hne => if_neg fun e => hne (hL.inj j k i e h2), if_pos h2]
  have e2 : ∀ k, k < bs.length → sumR (fun i => if bs[k]? = some (some i) then h i k else 0) bs.length = (match bs.getD k none with | none => 0 | some a => h a k) := fun k hk => by
    have hb : bs[k]? = some (bs.getD k none) := by rw [List.getD_eq_getElem?_getD, List.getElem?_eq_getElem hk]; rfl
    cases c : bs.getD k none with
    | none => exact sumR_zero fun i hi => if_neg (by rw [hb, c]; simp)
    | some a =>
      rw [c] at hb
      rw [sumR_one (hL.lt k a hb).1 fun j hj hne => if_neg (by rw [hb]; simp; omega), if_pos hb]
  rw [sumR_congr e1, sumR_swap, sumR_congr e2]
/-- The dead minutes of all chains are those of the links. -/
theorem chains_dead {st : Nat → Int} {bs : List (Option Nat)} (hL : Links st bs) (dd : Nat → Nat → Int) :
    sumR (fun i => match bs.getD i none with | none => restSum dd bs i | some _ => 0) bs.length = sumR (fun k => match bs.getD k none with | none => 0 | some a => dd a k) bs.length := by
  have h1 := links_sum hL fun i k => dd i k + restSum dd bs k
  rw [← sumR_congr fun i hi => restSum_step hL dd i] at h1
  have h2 : sumR (fun i => restSum dd bs i) bs.length = sumR (fun i => (match bs.getD i none with | none => restSum dd bs i | some _ => 0) + (match bs.getD i none with | none => 0 | some _ => restSum dd bs i)) bs.length := sumR_congr fun i hi => by
    cases bs.getD i none <;> simp
  have h3 : sumR (fun k => match bs.getD k none with | none => 0 | some a => dd a k + restSum dd bs k) bs.length = sumR (fun i => (match bs.getD i none with | none => 0 | some a => dd a i) + (match bs.getD i none with | none => 0 | some _ => restSum dd bs i)) bs.length := sumR_congr fun i hi => by
    cases bs.getD i none <;> simp
  rw [h2, sumR_add] at h1
  rw [h3, sumR_add] at h1
  omega
theorem linkSum_sumR (dd : Nat → Nat → Int) (bs : List (Option Nat)) : ∀ i, linkSum dd i bs = sumR (fun k => match bs.getD k none with | none => 0 | some a => dd a (i + k)) bs.length := by
  have key : ∀ (l : List (Option Nat)) (i : Nat) (x : Option Nat), linkSum dd i (l ++ [x]) = linkSum dd i l + (match x with | none => 0 | some a => dd a (i + l.length)) := by
    intro l
    induction l with
    | nil => intro i x; cases x <;> simp [linkSum]
    | cons y l ih =>
      intro i x
      cases y with
      | none => simp only [List.cons_append, linkSum, ih, List.length_cons]; rw [show i + 1 + l.length = i + (l.length + 1) by omega]
      | some a => simp only [List.cons_append, linkSum, ih, List.length_cons]; rw [show i + 1 + l.length = i + (l.length + 1) by omega]; omega
  intro i
  have : ∀ m, m ≤ bs.length → linkSum dd i (bs.take m) = sumR (fun k => match bs.getD k none with | none => 0 | some a => dd a (i + k)) m := by
    intro m
    induction m with
    | zero => intro _; rfl
    | succ m ih =>
      intro hm
      rw [List.take_add_one, List.getElem?_eq_getElem (by omega)]
      simp only [Option.toList]
      rw [key, ih (by omega)]
      simp only [sumR]
      rw [List.getD_eq_getElem?_getD, List.getElem?_eq_getElem (by omega), List.length_take, Nat.min_eq_left (by omega)]
      rfl
  have := this bs.length (Nat.le_refl _)
  rwa [List.take_length] at this
end Go.Proofs.Ytaopadffabbjiaa
