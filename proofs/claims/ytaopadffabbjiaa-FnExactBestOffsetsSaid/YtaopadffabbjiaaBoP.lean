/-
  Headways, the best offsets: plain functions.
-/
import Derived.Test.YtaopadffabbjiaaRestP
namespace Go.Proofs.Ytaopadffabbjiaa
open Go Go.RowKit
set_option linter.unusedVariables false
set_option maxRecDepth 100000
/-- The offsets of the code c, k of them. -/
def digs (p : Nat) (c : Nat) : Nat → List Int
  | 0 => []
  | k + 1 => digs p (c / p) k ++ [((c % p : Nat) : Int)]
theorem digs_len (p c k : Nat) : (digs p c k).length = k := by
  induction k generalizing c with
  | zero => rfl
  | succ k ih => simp [digs, ih]
theorem digs_bd {p : Nat} (hp : 1 ≤ p) (c k : Nat) : ∀ v, v ∈ digs p c k → 0 ≤ v ∧ v < p := by
  induction k generalizing c with
  | zero => intro v h; simp [digs] at h
  | succ k ih =>
    intro v h
    rcases List.mem_append.1 h with h | h
    · exact ih _ v h
    · simp at h; subst h
      have := Nat.mod_lt c (show 0 < p by omega)
      omega
theorem digs_snoc {p : Nat} (u v k : Nat) (hv : v < p) : digs p (u * p + v) (k + 1) = digs p u k ++ [(v : Int)] := by
  have h1 : (u * p + v) / p = u := by
    rw [Nat.add_comm, Nat.add_mul_div_right _ _ (by omega), Nat.div_eq_of_lt hv, Nat.zero_add]
  have h2 : (u * p + v) % p = v := by rw [Nat.add_comm, Nat.add_mul_mod_self_right, Nat.mod_eq_of_lt hv]
  simp only [digs]
  rw [h1, h2]
/-- The best of the first codes. -/
def bstC (F : Nat → Int) : Nat → Option Nat
  | 0 => none
  | c + 1 => match bstC F c with
    | none => some c
    | some b => if F c < F b then some c else some b
theorem bstC_some (F : Nat → Int) (c : Nat) (hc : 0 < c) : ∃ b, bstC F c = some b ∧ b < c := by
  induction c with
  | zero => omega
  | succ c ih =>
    simp only [bstC]
    by_cases h : 0 < c
    · obtain ⟨b, hb, hlt⟩ := ih h
      rw [hb]
      simp only
      split
      · exact ⟨c, rfl, by omega⟩
      · exact ⟨b, rfl, by omega⟩
    · have : c = 0 := by omega
      subst this
      exact ⟨0, rfl, by omega⟩
theorem bstC_le (F : Nat → Int) (c b : Nat) (h : bstC F c = some b) : b < c := by
  by_cases hc : 0 < c
  · obtain ⟨b', h1, h2⟩ := bstC_some F c hc
    rw [h1] at h; cases h; exact h2
  · have : c = 0 := by omega
    subst this; cases h
theorem bstC_new {F : Nat → Int} {c : Nat} (h : bstC F c = none ∨ ∃ b, bstC F c = some b ∧ F c < F b) : bstC F (c + 1) = some c := by
  rcases h with h | ⟨b, h, hl⟩
  · simp only [bstC]; rw [h]
  · simp only [bstC]; rw [h]; simp only; rw [if_pos hl]
theorem bstC_old {F : Nat → Int} {c b : Nat} (h : bstC F c = some b) (hl : ¬ F c < F b) : bstC F (c + 1) = some b := by
  simp only [bstC]; rw [h]; simp only; rw [if_neg hl]
/-! ### The variants of a list of patterns -/
def offSet (p : Pattern) (o : Int) : Pattern := { p with Offset := o }
def withO (l : List Pattern) (os : List Int) : List Pattern := List.zipWith offSet l os
def offsC (l : List Pattern) (p c : Nat) : List Int := (l.headD default).Offset :: digs p c (l.length - 1)
structure OffsIn (l : List Pattern) (period : Int) (os : List Int) : Prop where
  len : os.length = l.length
  bd : ∀ v, v ∈ os → 0 ≤ v ∧ v < period
theorem withO_len {l : List Pattern} {os : List Int} (h : os.length = l.length) : (withO l os).length = l.length := by simp [withO, h]
theorem withO_at {l : List Pattern} {os : List Int} {i : Nat} {p : Pattern} {o : Int} (h1 : l[i]? = some p) (h2 : os[i]? = some o) : (withO l os)[i]? = some (offSet p o) := by
  simp [withO, List.getElem?_zipWith, h1, h2]
theorem withO_self (l : List Pattern) : withO l (l.map (·.Offset)) = l := by
  unfold withO
  induction l with
  | nil => rfl
  | cons x l ih => simp only [List.map_cons, List.zipWith_cons_cons, ih]; rfl
theorem withO_offs {l : List Pattern} {os : List Int} (h : os.length = l.length) : (withO l os).map (·.Offset) = os := by
  unfold withO
  induction l generalizing os with
  | nil => cases os with | nil => rfl | cons _ _ => simp at h
  | cons x l ih =>
    cases os with
    | nil => simp at h
    | cons o os => simp only [List.zipWith_cons_cons, List.map_cons]; rw [ih (by simpa using h)]; rfl
theorem withO_set {l : List Pattern} {os : List Int} {i : Nat} {p : Pattern} {o : Int} (h : os.length = l.length) (h1 : (withO l os)[i]? = some p) : (withO l os).set i (offSet p o) = withO l (os.set i o) := by
  have hl := withO_len h
  refine List.ext_getElem? fun k => ?_
  by_cases hk : k = i
  · subst hk
    have hi : k < (withO l os).length := by
      rcases Nat.lt_or_ge k (withO l os).length with hlt | hge
      · exact hlt
      · rw [List.getElem?_eq_none hge] at h1; cases h1
    rw [List.getElem?_set_self hi]
    have hx := List.getElem?_eq_getElem (l := l) (i := k) (by omega)
    rw [withO_at hx (o := o) (List.getElem?_set_self (by omega))]
    have hy := List.getElem?_eq_getElem (l := os) (i := k) (by omega)
    rw [withO_at hx hy] at h1
    cases h1
    rfl
  · rw [List.getElem?_set_ne (by omega)]
    simp [withO, List.getElem?_zipWith, List.getElem?_set_ne (show i ≠ k by omega)]
theorem withO_pat {n : Network} {period : Int} {l : List Pattern} {os : List Int} (pf : PatFacts n period l) (h : OffsIn l period os) : PatFacts n period (withO l os) := by
  have hl := withO_len h.len
  refine ⟨pf.net, pf.per, by rw [hl]; exact pf.len, fun i p hp => ?_⟩
  have hi : i < l.length := by
    rcases Nat.lt_or_ge i l.length with hlt | hge
    · exact hlt
    · rw [List.getElem?_eq_none (by omega)] at hp; cases hp
  have hx := List.getElem?_eq_getElem hi
  have hy := List.getElem?_eq_getElem (l := os) (i := i) (by have := h.len; omega)
  rw [withO_at hx hy] at hp
  cases hp
  have h1 := pf.pat i _ hx
  have h2 := h.bd _ (List.mem_of_getElem? hy)
  exact ⟨h1.1, h1.2.1, h2.1, h2.2⟩
theorem restOf_neg_iff {n : Network} {period : Int} {p : Pattern} {stop : Int} (hp : 1 ≤ period) (o : Int) : restOf n period p stop < 0 ↔ restOf n period (offSet p o) stop < 0 := by
  unfold restOf
  have e : (offSet p o).Line = p.Line := rfl
  rw [e]
  split
  · exact Iff.rfl
  · have := Int.emod_nonneg (p.Offset + runSum (lineN n p.Line) (placeIn (lineN n p.Line) stop).toNat) (show period ≠ 0 by omega)
    have := Int.emod_nonneg ((offSet p o).Offset + runSum (lineN n p.Line) (placeIn (lineN n p.Line) stop).toNat) (show period ≠ 0 by omega)
    omega
theorem restsOf_len {n : Network} {period : Int} {stop : Int} (hp : 1 ≤ period) : ∀ (l : List Pattern) (os : List Int), os.length = l.length → (restsOf n period (withO l os) stop).length = (restsOf n period l stop).length
  | [], os, _ => by simp [withO]
  | x :: l, [], h => by simp at h
  | x :: l, o :: os, h => by
    have ih := restsOf_len hp (n := n) (stop := stop) l os (by simpa using h)
    have h1 := restOf_neg_iff (n := n) (p := x) (stop := stop) hp o
    simp only [restsOf, withO, List.zipWith_cons_cons, List.map_cons, List.filter_cons] at ih ⊢
    by_cases c : restOf n period x stop < 0
    · have c2 := h1.1 c
      rw [if_neg (by simpa using c2), if_neg (by simpa using c)]
      exact ih
    · have c2 : ¬ restOf n period (offSet x o) stop < 0 := fun h => c (h1.2 h)
      rw [if_pos (by simpa using c2), if_pos (by simpa using c)]
      simp only [List.length_cons, ih]
theorem rests_withO {n : Network} {period : Int} {l : List Pattern} {stop : Int} {os : List Int} (hp : 1 ≤ period) (h : os.length = l.length) : (rests n period (withO l os) stop).length = (rests n period l stop).length := by
  unfold rests
  rw [(sortI_perm _).length_eq, (sortI_perm _).length_eq, restsOf_len hp l os h]
theorem gapAt_le {rs : List Int} {period : Int} (h : RestsIn rs period) (hs : rs.Pairwise (fun a b => a ≤ b)) {i : Nat} (hi : i < rs.length) : gapAt rs period i ≤ period := by
  have h1 := h.at_ hi
  have h2 := h.at_ (i := 0) (by omega)
  unfold gapAt
  split
  · rename_i c
    have := h.at_ c
    omega
  · rcases Nat.eq_zero_or_pos i with hz | hz
    · subst hz; omega
    · have := (List.pairwise_iff_getElem.1 hs) 0 i (by omega) hi hz
      rw [List.getD_eq_getElem?_getD, List.getD_eq_getElem?_getD, List.getElem?_eq_getElem hi, List.getElem?_eq_getElem (show 0 < rs.length by omega)]
      simp only [Option.getD_some]
      omega
theorem big_le {rs : List Int} {period : Int} (h : RestsIn rs period) (hs : rs.Pairwise (fun a b => a ≤ b)) : (big (gapsO rs period)).1 ≤ period := by
  refine argGo_val (fun g => g ≤ period) (by have := h.per; omega) ?_
  intro g hg
  obtain ⟨i, hi, rfl⟩ := List.mem_map.1 hg
  exact gapAt_le h hs (List.mem_range.1 hi)
theorem big_bd {rs : List Int} {period : Int} (h : RestsIn rs period) : -60 ≤ (big (gapsO rs period)).1 ∧ (big (gapsO rs period)).1 ≤ 120 := by
  refine argGo_val (fun g => -60 ≤ g ∧ g ≤ 120) (by omega) (gapsO_mem h)
/-- The largest gap of the variant of a code. -/
def gapO (n : Network) (period : Int) (l : List Pattern) (stop : Int) (os : List Int) : Int := (big (gapsO (rests n period (withO l os) stop) period)).1
def gapC (n : Network) (period : Int) (l : List Pattern) (stop : Int) (c : Nat) : Int := gapO n period l stop (offsC l period.toNat c)
def manyC (l : List Pattern) (p : Nat) : Nat := p ^ (l.length - 1)
def bestO (n : Network) (period : Int) (l : List Pattern) (stop : Int) : Option Nat → List Int × Int
  | none => ([], 0)
  | some b => (offsC l period.toNat b, gapC n period l stop b)
def offRes (n : Network) (period : Int) (l : List Pattern) (stop : Int) : List Int × Int × Bool :=
  if okPassed n period l stop = true ∧ period ≤ 20 ∧ ¬ rests n period l stop = [] then
    ((bestO n period l stop (bstC (gapC n period l stop) (manyC l period.toNat))).1, (bestO n period l stop (bstC (gapC n period l stop) (manyC l period.toNat))).2, true)
  else ([], 0, false)
theorem offsC_len {l : List Pattern} {p c : Nat} (h : 1 ≤ l.length) : (offsC l p c).length = l.length := by simp [offsC, digs_len]; omega
theorem offsC_in {n : Network} {period : Int} {l : List Pattern} {c : Nat} (pf : PatFacts n period l) : OffsIn l period (offsC l period.toNat c) := by
  have hp := pf.per
  have hl := pf.len
  refine ⟨offsC_len hl.1, fun v hv => ?_⟩
  rcases List.mem_cons.1 hv with rfl | hv
  · cases l with
    | nil => simp at hl
    | cons x l => have := pf.pat 0 x rfl; simp only [List.headD_cons]; omega
  · have := digs_bd (p := period.toNat) (by omega) c (l.length - 1) v hv
    omega
theorem self_in {n : Network} {period : Int} {l : List Pattern} (pf : PatFacts n period l) : OffsIn l period (l.map (·.Offset)) := by
  refine ⟨by simp, fun v hv => ?_⟩
  obtain ⟨p, hp, rfl⟩ := List.mem_map.1 hv
  obtain ⟨i, hi⟩ := List.getElem?_of_mem hp
  have := pf.pat i p hi
  omega
theorem OffsIn.set_ {l : List Pattern} {period : Int} {os : List Int} (h : OffsIn l period os) (i : Nat) {v : Int} (h0 : 0 ≤ v) (h1 : v < period) : OffsIn l period (os.set i v) := by
  refine ⟨by rw [List.length_set]; exact h.len, fun x hx => ?_⟩
  rcases List.mem_or_eq_of_mem_set hx with hx | rfl
  · exact h.bd x hx
  · exact ⟨h0, h1⟩
theorem gapO_bd {n : Network} {period : Int} {l : List Pattern} {stop : Int} {os : List Int} (pf : PatFacts n period l) (h : OffsIn l period os) : -60 ≤ gapO n period l stop os ∧ gapO n period l stop os ≤ 120 :=
  big_bd (restsIn (withO_pat pf h))
theorem gapO_le {n : Network} {period : Int} {l : List Pattern} {stop : Int} {os : List Int} (pf : PatFacts n period l) (h : OffsIn l period os) : gapO n period l stop os ≤ period :=
  big_le (restsIn (withO_pat pf h)) (sortI_sorted _)
theorem offRes_len (n : Network) (period : Int) (l : List Pattern) (stop : Int) : (offRes n period l stop).1.length ≤ 3 := by
  unfold offRes
  split
  · rename_i h
    simp only
    have hl : 1 ≤ l.length ∧ l.length ≤ 3 := by
      have h1 := h.1
      unfold okPassed at h1
      rw [Bool.and_eq_true] at h1
      exact (patFacts h1.1).len
    cases bstC (gapC n period l stop) (manyC l period.toNat) with
    | none => simp [bestO]
    | some b => simp only [bestO]; rw [offsC_len hl.1]; exact hl.2
  · simp
end Go.Proofs.Ytaopadffabbjiaa
