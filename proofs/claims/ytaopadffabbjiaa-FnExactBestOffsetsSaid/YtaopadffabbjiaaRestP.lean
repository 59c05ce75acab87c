/-
  Headways: the rests at a stop in order, their gaps. Plain functions.
-/
import Derived.Test.YtaopadffabbjiaaHeadP
import Derived.Test.YtaopadffabbjiaaHead
namespace Go.Proofs.Ytaopadffabbjiaa
open Go Go.RowKit
set_option linter.unusedVariables false
set_option maxRecDepth 100000
def sortI (l : List Int) : List Int := l.mergeSort fun x y => decide (x ≤ y)
theorem sortI_perm (l : List Int) : (sortI l).Perm l := List.mergeSort_perm _ _
theorem sortI_sorted (l : List Int) : (sortI l).Pairwise (fun a b => a ≤ b) := by
  have := List.pairwise_mergeSort (le := fun x y : Int => decide (x ≤ y)) (by intro a b c; simp; omega) (by intro a b; simp; omega) l
  simpa [sortI] using this
theorem sorted_uniq {a b : List Int} (ha : a.Pairwise (fun x y => x ≤ y)) (hb : b.Pairwise (fun x y => x ≤ y)) (h : a.Perm b) : a = b :=
  List.Perm.eq_of_pairwise (le := fun x y => x ≤ y) (by intro x y _ _ h1 h2; omega) ha hb h
/-- Where a number is put behind what is not greater, sought from the end. -/
def posI (l : List Int) (x : Int) : Nat → Nat
  | 0 => 0
  | k + 1 => if x < l.getD k 0 then posI l x k else k + 1
def insI (l : List Int) (x : Int) : List Int := l.take (posI l x l.length) ++ [x] ++ l.drop (posI l x l.length)
theorem posI_le (l : List Int) (x : Int) (k : Nat) : posI l x k ≤ k := by
  induction k with
  | zero => exact Nat.le_refl _
  | succ k ih => simp only [posI]; split <;> omega
theorem posI_after (l : List Int) (x : Int) (k : Nat) : ∀ j, posI l x k ≤ j → j < k → x < l.getD j 0 := by
  induction k with
  | zero => intro j _ h; omega
  | succ k ih =>
    intro j h1 h2
    simp only [posI] at h1
    split at h1
    · rename_i c
      by_cases e : j = k
      · subst e; exact c
      · exact ih j h1 (by omega)
    · omega
theorem posI_at (l : List Int) (x : Int) (k : Nat) (h : 0 < posI l x k) : l.getD (posI l x k - 1) 0 ≤ x := by
  induction k with
  | zero => simp [posI] at h
  | succ k ih =>
    simp only [posI] at h ⊢
    split
    · rename_i c; rw [if_pos c] at h; exact ih h
    · rename_i c
      rw [show k + 1 - 1 = k by omega]
      omega
theorem insI_perm (l : List Int) (x : Int) : (insI l x).Perm (x :: l) := by
  unfold insI
  rw [List.append_assoc]
  have h1 : (l.take (posI l x l.length) ++ ([x] ++ l.drop (posI l x l.length))).Perm ([x] ++ l.drop (posI l x l.length) ++ l.take (posI l x l.length)) := List.perm_append_comm
  refine h1.trans ?_
  rw [List.append_assoc]
  refine List.Perm.cons x ?_
  have h2 : (l.drop (posI l x l.length) ++ l.take (posI l x l.length)).Perm (l.take (posI l x l.length) ++ l.drop (posI l x l.length)) := List.perm_append_comm
  rw [List.take_append_drop] at h2
  exact h2
theorem insI_sorted {l : List Int} (x : Int) (h : l.Pairwise (fun a b => a ≤ b)) : (insI l x).Pairwise (fun a b => a ≤ b) := by
  have hle := posI_le l x l.length
  have ht : ∀ a, a ∈ l.take (posI l x l.length) → a ≤ x := by
    intro a ha
    obtain ⟨j, hj⟩ := List.getElem?_of_mem ha
    have hjk : j < posI l x l.length := by
      have := (List.getElem?_eq_some_iff.1 hj).1
      rw [List.length_take] at this; omega
    rw [List.getElem?_take_of_lt hjk] at hj
    obtain ⟨hjl, rfl⟩ := List.getElem?_eq_some_iff.1 hj
    have h1 := posI_at l x l.length (by omega)
    have h2 : posI l x l.length - 1 < l.length := by omega
    rw [List.getD_eq_getElem?_getD, List.getElem?_eq_getElem h2] at h1
    simp only [Option.getD_some] at h1
    by_cases e : j = posI l x l.length - 1
    · subst e; exact h1
    · have := (List.pairwise_iff_getElem.1 h) j _ hjl h2 (by omega)
      omega
  have hd : ∀ b, b ∈ l.drop (posI l x l.length) → x ≤ b := by
    intro b hb
    obtain ⟨j, hj⟩ := List.getElem?_of_mem hb
    rw [List.getElem?_drop] at hj
    obtain ⟨hjl, rfl⟩ := List.getElem?_eq_some_iff.1 hj
    have := posI_after l x l.length _ (Nat.le_add_right _ _) hjl
    rw [List.getD_eq_getElem?_getD, List.getElem?_eq_getElem hjl] at this
    simp only [Option.getD_some] at this
    omega
  unfold insI
  rw [List.append_assoc, List.pairwise_append]
  refine ⟨h.sublist (List.take_sublist _ _), ?_, ?_⟩
  · rw [List.singleton_append, List.pairwise_cons]
    exact ⟨hd, h.sublist (List.drop_sublist _ _)⟩
  · intro a ha b hb
    rw [List.singleton_append, List.mem_cons] at hb
    rcases hb with rfl | hb
    · exact ht a ha
    · have := ht a ha; have := hd b hb; omega
/-! ### Rests -/
def restsOf (n : Network) (period : Int) (l : List Pattern) (stop : Int) : List Int := (l.map fun p => restOf n period p stop).filter fun r => decide (0 ≤ r)
def rests (n : Network) (period : Int) (l : List Pattern) (stop : Int) : List Int := sortI (restsOf n period l stop)
def insGo (n : Network) (period : Int) (stop : Int) : List Pattern → List Int → List Int
  | [], out => out
  | p :: l, out => insGo n period stop l (if restOf n period p stop < 0 then out else insI out (restOf n period p stop))
theorem insGo_spec (n : Network) (period : Int) (stop : Int) (l : List Pattern) (out : List Int) (h : out.Pairwise (fun a b => a ≤ b)) :
    (insGo n period stop l out).Pairwise (fun a b => a ≤ b) ∧ (insGo n period stop l out).Perm (out ++ restsOf n period l stop) := by
  induction l generalizing out with
  | nil => exact ⟨h, by simp [insGo, restsOf]⟩
  | cons p l ih =>
    simp only [insGo]
    by_cases c : restOf n period p stop < 0
    · rw [if_pos c]
      have := ih out h
      have e : restsOf n period (p :: l) stop = restsOf n period l stop := by
        unfold restsOf
        rw [List.map_cons, List.filter_cons_of_neg (by simpa using c)]
      rw [e]; exact this
    · rw [if_neg c]
      have := ih _ (insI_sorted (restOf n period p stop) h)
      have e : restsOf n period (p :: l) stop = restOf n period p stop :: restsOf n period l stop := by
        unfold restsOf
        rw [List.map_cons, List.filter_cons_of_pos (by simpa using c)]
      rw [e]
      refine ⟨this.1, this.2.trans ?_⟩
      refine ((insI_perm out _).append_right _).trans ?_
      exact List.perm_middle.symm
theorem insGo_eq (n : Network) (period : Int) (stop : Int) (l : List Pattern) : insGo n period stop l [] = rests n period l stop := by
  obtain ⟨h1, h2⟩ := insGo_spec n period stop l [] List.Pairwise.nil
  exact sorted_uniq h1 (sortI_sorted _) (h2.trans (sortI_perm _).symm)
theorem rests_mem {n : Network} {period : Int} {l : List Pattern} {stop r : Int} (hp : 1 ≤ period) (h : r ∈ rests n period l stop) : 0 ≤ r ∧ r < period := by
  have h1 := (sortI_perm _).mem_iff.1 h
  unfold restsOf at h1
  rw [List.mem_filter] at h1
  obtain ⟨h2, h3⟩ := h1
  obtain ⟨p, _, rfl⟩ := List.mem_map.1 h2
  have := restOf_bd n period p stop hp
  simp only [decide_eq_true_eq] at h3
  omega
theorem rests_len (n : Network) (period : Int) (l : List Pattern) (stop : Int) : (rests n period l stop).length ≤ l.length := by
  unfold rests
  rw [(sortI_perm _).length_eq]
  unfold restsOf
  refine Nat.le_trans (List.length_filter_le _ _) ?_
  simp
def okPassed (n : Network) (period : Int) (l : List Pattern) (stop : Int) : Bool := okPatterns n period l && inB stop 0 ((n.Stops.length : Int) - 1)
def restsRes (n : Network) (period : Int) (l : List Pattern) (stop : Int) : List Int × Bool := if okPassed n period l stop = true then (rests n period l stop, true) else ([], false)
/-! ### Gaps -/
def gapAt (rs : List Int) (period : Int) (i : Nat) : Int := if i + 1 < rs.length then rs.getD (i + 1) 0 - rs.getD i 0 else rs.getD 0 0 + period - rs.getD i 0
def gapsO (rs : List Int) (period : Int) : List Int := (List.range rs.length).map (gapAt rs period)
theorem gapsO_len (rs : List Int) (period : Int) : (gapsO rs period).length = rs.length := by simp [gapsO]
theorem gapsO_at {rs : List Int} {period : Int} {k : Nat} (h : k < rs.length) : (gapsO rs period)[k]? = some (gapAt rs period k) := by simp [gapsO, h]
structure RestsIn (rs : List Int) (period : Int) : Prop where
  per : 1 ≤ period ∧ period ≤ 60
  len : rs.length ≤ 60
  mem : ∀ r, r ∈ rs → 0 ≤ r ∧ r < period
theorem RestsIn.at_ {rs : List Int} {period : Int} (h : RestsIn rs period) {i : Nat} (hi : i < rs.length) : 0 ≤ rs.getD i 0 ∧ rs.getD i 0 < period := by
  rw [List.getD_eq_getElem?_getD, List.getElem?_eq_getElem hi]
  exact h.mem _ (List.getElem_mem hi)
theorem gapAt_bd {rs : List Int} {period : Int} (h : RestsIn rs period) {i : Nat} (hi : i < rs.length) : -60 ≤ gapAt rs period i ∧ gapAt rs period i ≤ 120 := by
  have := h.at_ hi
  have := h.per
  have := h.at_ (i := 0) (by omega)
  unfold gapAt
  split
  · rename_i c
    have := h.at_ c
    omega
  · omega
theorem gapAt_pos {rs : List Int} {period : Int} (h : RestsIn rs period) (hs : rs.Pairwise (fun a b => a ≤ b)) {i : Nat} (hi : i < rs.length) : 0 ≤ gapAt rs period i := by
  have := h.at_ hi
  have := h.per
  have := h.at_ (i := 0) (by omega)
  unfold gapAt
  split
  · rename_i c
    have := (List.pairwise_iff_getElem.1 hs) i (i + 1) hi c (by omega)
    rw [List.getD_eq_getElem?_getD, List.getD_eq_getElem?_getD, List.getElem?_eq_getElem hi, List.getElem?_eq_getElem c]
    simp only [Option.getD_some]
    omega
  · omega
theorem gapsO_mem {rs : List Int} {period : Int} (h : RestsIn rs period) : ∀ g, g ∈ gapsO rs period → -60 ≤ g ∧ g ≤ 120 := by
  intro g hg
  obtain ⟨i, hi, rfl⟩ := List.mem_map.1 hg
  exact gapAt_bd h (List.mem_range.1 hi)
theorem restsIn {n : Network} {period : Int} {l : List Pattern} {stop : Int} (h : PatFacts n period l) : RestsIn (rests n period l stop) period :=
  ⟨h.per, by have := rests_len n period l stop; have := h.len; omega, fun r hr => rests_mem h.per.1 hr⟩
def sqSum : List Int → Int
  | [] => 0
  | x :: l => x * x + sqSum l
theorem sq_bd {x : Int} (h : -60 ≤ x ∧ x ≤ 120) : 0 ≤ x * x ∧ x * x ≤ 14400 := by
  rcases Int.le_total 0 x with h0 | h0
  · have h1 := Int.mul_nonneg h0 h0
    have := Int.mul_le_mul h.2 h.2 h0 (by omega)
    omega
  · have h2 : 0 ≤ (-x) * (-x) := Int.mul_nonneg (by omega) (by omega)
    have h1 : (-x) * (-x) ≤ 60 * 60 := Int.mul_le_mul (by omega) (by omega) (by omega) (by omega)
    rw [Int.neg_mul_neg] at h1 h2
    omega
/-! ### The largest gap -/
def argGo : List Int → Nat → Int → Nat → Int × Nat
  | [], _, b, i => (b, i)
  | g :: l, k, b, i => if b < g then argGo l (k + 1) g k else argGo l (k + 1) b i
theorem argGo_bd {l : List Int} {k : Nat} {b : Int} {i n : Nat} (hi : i < n) (hk : k + l.length ≤ n) : (argGo l k b i).2 < n := by
  induction l generalizing k b i with
  | nil => exact hi
  | cons g l ih =>
    simp only [argGo]
    simp only [List.length_cons] at hk
    split
    · exact ih (by omega) (by omega)
    · exact ih hi (by omega)
theorem argGo_val {l : List Int} {k : Nat} {b : Int} {i : Nat} (P : Int → Prop) (hb : P b) (hl : ∀ g, g ∈ l → P g) : P (argGo l k b i).1 := by
  induction l generalizing k b i with
  | nil => exact hb
  | cons g l ih =>
    simp only [argGo]
    split
    · exact ih (hl g (by simp)) fun y hy => hl y (by simp [hy])
    · exact ih hb fun y hy => hl y (by simp [hy])
/-- The largest gap and its place. -/
def big (gaps : List Int) : Int × Nat := argGo gaps 0 (-1) 0
theorem big_cons {g : Int} {l : List Int} (h : 0 ≤ g) : big (g :: l) = argGo l 1 g 0 := by
  unfold big
  simp only [argGo]
  rw [if_pos (by omega)]
def dwRes (n : Network) (period : Int) (l : List Pattern) (stop : Int) : Int × Int × Bool :=
  if okPassed n period l stop = true ∧ rests n period l stop ≠ [] then (sqSum (gapsO (rests n period l stop) period), period, true) else (0, 0, false)
def gapsRes (n : Network) (period : Int) (l : List Pattern) (stop : Int) : List Int × Bool := if okPassed n period l stop = true then (gapsO (rests n period l stop) period, true) else ([], false)
def largeRes (n : Network) (period : Int) (l : List Pattern) (stop : Int) : Int × Int × Bool :=
  if okPassed n period l stop = true ∧ rests n period l stop ≠ [] then ((big (gapsO (rests n period l stop) period)).1, (rests n period l stop).getD (big (gapsO (rests n period l stop) period)).2 0, true) else (0, 0, false)
def waitOf (x y walk period : Int) : Int := walk + (y - (x + walk) % period + period) % period
theorem wait_iff {x y walk period : Int} (hp : 1 ≤ period) (hx : 0 ≤ x) (hw : 0 ≤ walk) (hy0 : 0 ≤ y) (hy1 : y < period) {d : Int} (hd0 : 0 ≤ d) (hd1 : d < period) : (x + (walk + d)) % period = y ↔ walk + d = waitOf x y walk period := by
  unfold waitOf
  have h1 := Int.emod_nonneg (x + walk) (show period ≠ 0 by omega)
  have h2 := Int.emod_lt_of_pos (x + walk) (show 0 < period by omega)
  have h3 : (x + (walk + d)) % period = ((x + walk) % period + d) % period := by rw [Int.emod_add_emod, Int.add_assoc]
  rw [h3]
  generalize (x + walk) % period = r at *
  have e1 : (r + d) % period = if r + d < period then r + d else r + d - period := by
    split
    · exact Int.emod_eq_of_lt (by omega) (by omega)
    · rw [← Int.sub_emod_right, Int.emod_eq_of_lt (by omega) (by omega)]
  have e2 : (y - r + period) % period = if y - r < 0 then y - r + period else y - r := by
    split
    · exact Int.emod_eq_of_lt (by omega) (by omega)
    · rw [Int.add_emod_right, Int.emod_eq_of_lt (by omega) (by omega)]
  rw [e1, e2]
  split <;> split <;> omega
def transRes (n : Network) (period : Int) (l : List Pattern) (a b stop walk : Int) : Int × Bool :=
  let p := l.getD a.toNat default; let q := l.getD b.toNat default
  if okPassed n period l stop = true ∧ inB a 0 ((l.length : Int) - 1) = true ∧ inB b 0 ((l.length : Int) - 1) = true ∧ a ≠ b ∧ inB walk 0 60 = true ∧
    0 < placeIn (lineN n p.Line) stop ∧ 0 ≤ placeIn (lineN n q.Line) stop ∧ placeIn (lineN n q.Line) stop ≠ ((lineN n q.Line).Stops.length : Int) - 1 then (waitOf (restOf n period p stop) (restOf n period q stop) walk period, true) else (0, false)
end Go.Proofs.Ytaopadffabbjiaa
