/-
  Walks: the shortest ways on foot; both ways of finding them agree. Plain functions.
-/
import Derived.Test.YtaopadffabbjiaaArrQ
namespace Go.Proofs.Ytaopadffabbjiaa
open Go Go.RowKit
set_option linter.unusedVariables false
set_option maxRecDepth 100000
def walkOk (ns : Nat) (w : Walk) : Bool := decide (0 ≤ w.A ∧ w.A < w.B ∧ w.B < ns) && inB w.Minutes 1 120
def walkLt (p w : Walk) : Bool := decide (p.A < w.A ∨ (p.A = w.A ∧ p.B < w.B))
def walkAt (ns : Nat) (l : List Walk) : Nat → Walk → Bool
  | 0, w => walkOk ns w
  | j + 1, w => walkOk ns w && walkLt (l.getD j default) w
def okWalks (ns : Nat) (l : List Walk) : Bool := decide (l.length ≤ 12) && allFrom (walkAt ns l) l 0
structure WalkFacts (ns : Nat) (l : List Walk) : Prop where
  len : l.length ≤ 12
  ok : ∀ (i : Nat) (w : Walk), l[i]? = some w → 0 ≤ w.A ∧ w.A < w.B ∧ w.B < ns ∧ 1 ≤ w.Minutes ∧ w.Minutes ≤ 120
  rise : ∀ (i : Nat) (p w : Walk), l[i]? = some p → l[i + 1]? = some w → p.A < w.A ∨ (p.A = w.A ∧ p.B < w.B)
theorem walkFacts {ns : Nat} {l : List Walk} (h : okWalks ns l = true) : WalkFacts ns l := by
  simp only [okWalks, Bool.and_eq_true, decide_eq_true_eq, allFrom_iff, Nat.zero_add] at h
  obtain ⟨h1, h2⟩ := h
  refine ⟨h1, fun i w hw => ?_, fun i p w hp hw => ?_⟩
  · have := h2 i w hw
    have h3 : walkOk ns w = true := by
      cases i with
      | zero => exact this
      | succ i => simp only [walkAt, Bool.and_eq_true] at this; exact this.1
    simp only [walkOk, Bool.and_eq_true, decide_eq_true_eq, inB_t] at h3
    omega
  · have := h2 (i + 1) w hw
    simp only [walkAt, Bool.and_eq_true, walkLt, decide_eq_true_eq] at this
    have e : l.getD i default = p := by simp [List.getD, hp]
    rw [e] at this
    exact this.2
/-- A walk leads from b to c in m minutes. -/
def Edge (l : List Walk) (b c m : Int) : Prop := ∃ w, w ∈ l ∧ w.Minutes = m ∧ ((w.A = b ∧ w.B = c) ∨ (w.A = c ∧ w.B = b))
def WayN (l : List Walk) (a : Int) : Nat → Int → Int → Prop
  | 0, b, d => b = a ∧ d = 0
  | k + 1, b, d => ∃ b' d' m, WayN l a k b' d' ∧ Edge l b' b m ∧ d = d' + m
def Way (l : List Walk) (a b d : Int) : Prop := ∃ k, WayN l a k b d
theorem Edge.symm {l : List Walk} {b c m : Int} (h : Edge l b c m) : Edge l c b m := by
  obtain ⟨w, h1, h2, h3⟩ := h
  exact ⟨w, h1, h2, h3.symm⟩
theorem Way.refl (l : List Walk) (a : Int) : Way l a a 0 := ⟨0, rfl, rfl⟩
theorem Way.snoc {l : List Walk} {a b c d m : Int} (h : Way l a b d) (e : Edge l b c m) : Way l a c (d + m) := by
  obtain ⟨k, hk⟩ := h
  exact ⟨k + 1, b, d, m, hk, e, rfl⟩
theorem Way.app {l : List Walk} {a b d : Int} (h : Way l a b d) {c d' : Int} (h2 : Way l b c d') : Way l a c (d + d') := by
  obtain ⟨k, hk⟩ := h2
  induction k generalizing c d' with
  | zero => obtain ⟨rfl, rfl⟩ := hk; simpa using h
  | succ k ih =>
    obtain ⟨b', e', m, h3, h4, rfl⟩ := hk
    have := (ih h3).snoc h4
    rwa [Int.add_assoc] at this
/-- What has just what ways reach, and is not undercut by a walk, is the least. -/
theorem way_low {l : List Walk} {a : Int} {D : Int → Int} (h0 : D a ≤ 0) (he : ∀ b c m, Edge l b c m → D b < never → D c ≤ D b + m) (hn : ∀ b c m, Edge l b c m → 0 ≤ m) {b d : Int} (h : Way l a b d) (hd : d < never) : D b ≤ d := by
  obtain ⟨k, hk⟩ := h
  induction k generalizing b d with
  | zero => obtain ⟨rfl, rfl⟩ := hk; exact h0
  | succ k ih =>
    obtain ⟨b', d', m, h3, h4, rfl⟩ := hk
    have h5 := hn _ _ _ h4
    have h6 := ih (by omega) h3
    have := he _ _ _ h4 (by omega)
    omega
/-! ### Tables -/
def tg (T : List (List Int)) (i j : Nat) : Int := (T.getD i []).getD j 0
def tset (T : List (List Int)) (i j : Nat) (v : Int) : List (List Int) := T.set i ((T.getD i []).set j v)
structure Shape (k : Nat) (T : List (List Int)) : Prop where
  len : T.length = k
  row : ∀ i, i < k → (T.getD i []).length = k
theorem getDs {α : Type} {l : List α} {i : Nat} {v d : α} (h : i < l.length) : (l.set i v).getD i d = v := by
  rw [List.getD_eq_getElem?_getD, List.getElem?_set_self h]; rfl
theorem getDn {α : Type} {l : List α} {i j : Nat} {v d : α} (h : i ≠ j) : (l.set i v).getD j d = l.getD j d := by
  rw [List.getD_eq_getElem?_getD, List.getD_eq_getElem?_getD, List.getElem?_set_ne h]
theorem Shape.put {k : Nat} {T : List (List Int)} (h : Shape k T) (i j : Nat) (v : Int) : Shape k (tset T i j v) := by
  refine ⟨by simp [tset, h.len], fun a ha => ?_⟩
  unfold tset
  by_cases e : i = a
  · subst e; rw [getDs (by rw [h.len]; exact ha), List.length_set]; exact h.row i ha
  · rw [getDn e]; exact h.row a ha
theorem tg_self {k : Nat} {T : List (List Int)} (h : Shape k T) {i j : Nat} (hi : i < k) (hj : j < k) (v : Int) : tg (tset T i j v) i j = v := by
  unfold tg tset
  rw [getDs (by rw [h.len]; exact hi), getDs (by rw [h.row i hi]; exact hj)]
theorem tg_ne {T : List (List Int)} {i j a b : Nat} (hne : ¬ (i = a ∧ j = b)) (v : Int) : tg (tset T i j v) a b = tg T a b := by
  unfold tg tset
  by_cases e : i = a
  · subst e
    by_cases hl : i < T.length
    · rw [getDs hl, getDn (fun e => hne ⟨rfl, e⟩)]
    · rw [List.set_eq_of_length_le (by omega)]
  · rw [getDn e]
/-- Two tables of one shape with the same entries are one table. -/
theorem tab_ext {k : Nat} {T U : List (List Int)} (h : Shape k T) (g : Shape k U) (e : ∀ i j, i < k → j < k → tg T i j = tg U i j) : T = U := by
  refine List.ext_getElem? fun i => ?_
  by_cases hi : i < k
  · have h1 : T[i]? = some (T.getD i []) := by rw [List.getD_eq_getElem?_getD, List.getElem?_eq_getElem (by rw [h.len]; exact hi)]; rfl
    have h2 : U[i]? = some (U.getD i []) := by rw [List.getD_eq_getElem?_getD, List.getElem?_eq_getElem (by rw [g.len]; exact hi)]; rfl
    rw [h1, h2]
    refine congrArg some (List.ext_getElem? fun j => ?_)
    by_cases hj : j < k
    · have h3 : (T.getD i [])[j]? = some (tg T i j) := by unfold tg; rw [List.getD_eq_getElem?_getD (l := T.getD i []), List.getElem?_eq_getElem (by rw [h.row i hi]; exact hj)]; rfl
      have h4 : (U.getD i [])[j]? = some (tg U i j) := by unfold tg; rw [List.getD_eq_getElem?_getD (l := U.getD i []), List.getElem?_eq_getElem (by rw [g.row i hi]; exact hj)]; rfl
      rw [h3, h4, e i j hi hj]
    · rw [List.getElem?_eq_none (by rw [h.row i hi]; omega), List.getElem?_eq_none (by rw [g.row i hi]; omega)]
  · rw [List.getElem?_eq_none (by rw [h.len]; omega), List.getElem?_eq_none (by rw [g.len]; omega)]
/-! ### The program's way: all stops at once -/
def tab0 (k : Nat) : List (List Int) := (List.range k).map fun i => (List.replicate k (-1)).set i 0
def putW (T : List (List Int)) (w : Walk) : List (List Int) := tset (tset T w.A.toNat w.B.toNat w.Minutes) w.B.toNat w.A.toNat w.Minutes
def rlx (m i : Nat) (T : List (List Int)) (j : Nat) : List (List Int) :=
  if tg T i m < 0 ∨ tg T m j < 0 then T
  else if tg T i j < 0 ∨ tg T i m + tg T m j < tg T i j then tset T i j (tg T i m + tg T m j) else T
def fwJ (k m : Nat) (T : List (List Int)) (i : Nat) : List (List Int) := (List.range k).foldl (rlx m i) T
def fwI (k : Nat) (T : List (List Int)) (m : Nat) : List (List Int) := (List.range k).foldl (fwJ k m) T
def fwW (k : Nat) (l : List Walk) : List (List Int) := l.foldl putW (tab0 k)
def fwT (k : Nat) (l : List Walk) : List (List Int) := (List.range k).foldl (fwI k) (fwW k l)
theorem foldl_inv {α β : Type} {P : α → Prop} {f : α → β → α} {l : List β} {a : α} (h0 : P a) (h : ∀ a b, b ∈ l → P a → P (f a b)) : P (l.foldl f a) := by
  induction l generalizing a with
  | nil => exact h0
  | cons b l ih => exact ih (h a b (by simp) h0) fun a b hb => h a b (by simp [hb])
/-- One entry of a round, from the table at the round's start. -/
def rnd (T : List (List Int)) (m i j : Nat) : Int :=
  if tg T i m < 0 ∨ tg T m j < 0 then tg T i j
  else if tg T i j < 0 ∨ tg T i m + tg T m j < tg T i j then tg T i m + tg T m j else tg T i j
structure Mid2 (k m : Nat) (T U : List (List Int)) (done : Nat → Nat → Prop) : Prop where
  sh : Shape k U
  yes : ∀ i j, i < k → j < k → done i j → tg U i j = rnd T m i j
  no : ∀ i j, i < k → j < k → ¬ done i j → tg U i j = tg T i j
section
variable {k m : Nat} {T U : List (List Int)} {done done' : Nat → Nat → Prop}
theorem rnd_col (h0 : tg T m m = 0) {i : Nat} : rnd T m i m = tg T i m := by
  unfold rnd; rw [h0]; split
  · rfl
  · rename_i c; rw [if_neg (by omega)]
theorem rnd_row (h0 : tg T m m = 0) {j : Nat} : rnd T m m j = tg T m j := by
  unfold rnd; rw [h0]; split
  · rfl
  · rename_i c; rw [if_neg (by omega)]
theorem Mid2.congr (h : Mid2 k m T U done) (e : ∀ i j, i < k → j < k → (done i j ↔ done' i j)) : Mid2 k m T U done' :=
  ⟨h.sh, fun i j hi hj hd => h.yes i j hi hj ((e i j hi hj).2 hd), fun i j hi hj hd => h.no i j hi hj fun d => hd ((e i j hi hj).1 d)⟩
theorem Mid2.col (h : Mid2 k m T U done) (h0 : tg T m m = 0) (hm : m < k) {i : Nat} (hi : i < k) : tg U i m = tg T i m := by
  rcases Classical.em (done i m) with d | d
  · rw [h.yes i m hi hm d, rnd_col h0]
  · exact h.no i m hi hm d
theorem Mid2.row (h : Mid2 k m T U done) (h0 : tg T m m = 0) (hm : m < k) {j : Nat} (hj : j < k) : tg U m j = tg T m j := by
  rcases Classical.em (done m j) with d | d
  · rw [h.yes m j hm hj d, rnd_row h0]
  · exact h.no m j hm hj d
theorem Mid2.put (h : Mid2 k m T U done) (h0 : tg T m m = 0) (hm : m < k) {i j : Nat} (hi : i < k) (hj : j < k) (hd : ¬ done i j) :
    Mid2 k m T (rlx m i U j) (fun a b => done a b ∨ (a = i ∧ b = j)) := by
  have e1 := h.col h0 hm hi
  have e2 := h.row h0 hm hj
  have e3 := h.no i j hi hj hd
  have key : Shape k (rlx m i U j) ∧ tg (rlx m i U j) i j = rnd T m i j ∧ ∀ a b, ¬ (i = a ∧ j = b) → tg (rlx m i U j) a b = tg U a b := by
    unfold rlx rnd
    rw [e1, e2, e3]
    split
    · exact ⟨h.sh, e3, fun _ _ _ => rfl⟩
    · split
      · exact ⟨h.sh.put _ _ _, tg_self h.sh hi hj _, fun a b hne => tg_ne hne _⟩
      · exact ⟨h.sh, e3, fun _ _ _ => rfl⟩
  refine ⟨key.1, fun a b ha hb hd' => ?_, fun a b ha hb hd' => ?_⟩
  · by_cases e : i = a ∧ j = b
    · obtain ⟨rfl, rfl⟩ := e; exact key.2.1
    · rw [key.2.2 a b e]
      rcases hd' with d | ⟨rfl, rfl⟩
      · exact h.yes a b ha hb d
      · exact absurd ⟨rfl, rfl⟩ e
  · rw [key.2.2 a b fun e => hd' (.inr ⟨e.1.symm, e.2.symm⟩)]
    exact h.no a b ha hb fun d => hd' (.inl d)
theorem mid_J (h0 : tg T m m = 0) (hm : m < k) {i : Nat} (hi : i < k) (n : Nat) (hn : n ≤ k) :
    (h : Mid2 k m T U (fun a _ => a < i)) → Mid2 k m T ((List.range n).foldl (rlx m i) U) (fun a b => a < i ∨ (a = i ∧ b < n)) := by
  intro h
  induction n with
  | zero => exact h.congr fun a b _ _ => by omega
  | succ n ih =>
    rw [List.range_succ, List.foldl_append]
    exact ((ih (by omega)).put h0 hm hi (by omega : n < k) (by omega)).congr fun a b _ _ => by omega
theorem mid_I (hs : Shape k T) (h0 : tg T m m = 0) (hm : m < k) (n : Nat) (hn : n ≤ k) : Mid2 k m T ((List.range n).foldl (fwJ k m) T) (fun a _ => a < n) := by
  induction n with
  | zero => exact ⟨hs, fun a b _ _ hd => by omega, fun _ _ _ _ _ => rfl⟩
  | succ n ih =>
    rw [List.range_succ, List.foldl_append]
    have := mid_J (i := n) h0 hm (by omega : n < k) k (Nat.le_refl _) (ih (by omega))
    exact this.congr fun a b _ hb => by omega
end
/-! ### What the table holds -/
structure Tab (k : Nat) (l : List Walk) (M : Nat) (T : List (List Int)) : Prop where
  sh : Shape k T
  diag : ∀ i, i < k → tg T i i = 0
  lo : ∀ i j, i < k → j < k → -1 ≤ tg T i j
  hi : ∀ i j, i < k → j < k → tg T i j ≤ 120 * 2 ^ M
  edge : ∀ i j, i < k → j < k → ∀ e : Int, Edge l i j e → up (tg T i j) ≤ e
  tri : ∀ m, m < M → ∀ i j, i < k → j < k → up (tg T i j) ≤ up (tg T i m) + up (tg T m j)
  way : ∀ i j, i < k → j < k → 0 ≤ tg T i j → Way l i j (tg T i j)
theorem up_bd {v b : Int} (h : -1 ≤ v) (h1 : v ≤ b) (hb : b ≤ never) : 0 ≤ up v ∧ up v ≤ never := by
  unfold up; split
  · unfold never; omega
  · omega
theorem pow_le {M : Nat} (h : M ≤ 8) : (120 : Int) * 2 ^ M ≤ 30720 := by
  have : (2 : Nat) ^ M ≤ 2 ^ 8 := Nat.pow_le_pow_right (by omega) h
  have h2 : ((2 ^ M : Nat) : Int) ≤ ((2 ^ 8 : Nat) : Int) := Int.ofNat_le.2 this
  simp only [Int.natCast_pow] at h2
  have h3 : ((2 : Nat) : Int) ^ M = 2 ^ M := rfl
  omega
theorem rnd_up {T : List (List Int)} {m i j : Nat} {b : Int} (hb : b ≤ 30720) (h1 : -1 ≤ tg T i m) (h1' : tg T i m ≤ b) (h2 : -1 ≤ tg T m j) (h2' : tg T m j ≤ b) (h3 : -1 ≤ tg T i j) (h3' : tg T i j ≤ b) :
    up (rnd T m i j) = if up (tg T i m) + up (tg T m j) < up (tg T i j) then up (tg T i m) + up (tg T m j) else up (tg T i j) := by
  unfold rnd
  by_cases c : tg T i m < 0 ∨ tg T m j < 0
  · rw [if_pos c, if_neg]
    have := up_bd h3 h3' (by unfold never; omega)
    have g1 := up_bd h1 h1' (by unfold never; omega)
    have g2 := up_bd h2 h2' (by unfold never; omega)
    rcases c with c | c
    · have : up (tg T i m) = never := if_pos c
      omega
    · have : up (tg T m j) = never := if_pos c
      omega
  · rw [if_neg c]
    have e1 : up (tg T i m) = tg T i m := if_neg (by omega)
    have e2 : up (tg T m j) = tg T m j := if_neg (by omega)
    rw [e1, e2]
    by_cases c2 : tg T i j < 0
    · have e3 : up (tg T i j) = never := if_pos c2
      rw [if_pos (.inl c2), e3, if_pos (by unfold never; omega)]
      exact if_neg (by omega)
    · have e3 : up (tg T i j) = tg T i j := if_neg c2
      rw [e3]
      by_cases c3 : tg T i m + tg T m j < tg T i j
      · rw [if_pos (.inr c3), if_pos c3]; exact if_neg (by omega)
      · rw [if_neg (by omega), if_neg c3, e3]
theorem Tab.step {k M : Nat} {l : List Walk} {T : List (List Int)} (h : Tab k l M T) (hM : M < k) (hk : k ≤ 8) : Tab k l (M + 1) (fwI k T M) := by
  have hm := mid_I h.sh (h.diag M hM) hM k (Nat.le_refl _)
  have hv : ∀ i j, i < k → j < k → tg (fwI k T M) i j = rnd T M i j := fun i j hi hj => hm.yes i j hi hj hi
  have hp := pow_le (M := M) (by omega)
  have hp2 : (120 : Int) * 2 ^ (M + 1) = 2 * (120 * 2 ^ M) := by rw [Int.pow_succ]; omega
  have bd : ∀ i j, i < k → j < k → 0 ≤ up (tg T i j) ∧ up (tg T i j) ≤ never := fun i j hi hj => up_bd (h.lo i j hi hj) (h.hi i j hi hj) (by unfold never; omega)
  have hu : ∀ i j, i < k → j < k → up (tg (fwI k T M) i j) = if up (tg T i M) + up (tg T M j) < up (tg T i j) then up (tg T i M) + up (tg T M j) else up (tg T i j) := fun i j hi hj => by
    rw [hv i j hi hj]
    exact rnd_up hp (h.lo i M hi hM) (h.hi i M hi hM) (h.lo M j hM hj) (h.hi M j hM hj) (h.lo i j hi hj) (h.hi i j hi hj)
  have z : up (tg T M M) = 0 := by rw [h.diag M hM]; rfl
  refine ⟨hm.sh, fun i hi => ?_, fun i j hi hj => ?_, fun i j hi hj => ?_, fun i j hi hj e he => ?_, fun m hmM i j hi hj => ?_, fun i j hi hj h0 => ?_⟩
  · rw [hv i i hi hi]
    have := h.diag i hi
    have := h.lo i M hi hM
    have := h.lo M i hM hi
    unfold rnd
    split
    · assumption
    · rw [if_neg (by omega)]; assumption
  · rw [hv i j hi hj]
    have := h.lo i j hi hj
    unfold rnd
    split
    · assumption
    · split <;> omega
  · rw [hv i j hi hj]
    have := h.hi i j hi hj
    have := h.hi i M hi hM
    have := h.hi M j hM hj
    have := h.lo i j hi hj
    have hpos : (0 : Int) ≤ 120 * 2 ^ M := by have := h.hi M M hM hM; rw [h.diag M hM] at this; exact this
    unfold rnd
    split
    · omega
    · split <;> omega
  · rw [hu i j hi hj]
    have := h.edge i j hi hj e he
    split <;> omega
  · have b1 := bd i M hi hM
    have b2 := bd M j hM hj
    rw [hu i j hi hj]
    by_cases e : m = M
    · subst e
      rw [hu i m hi hM, hu m j hM hj, z]
      split <;> split <;> split <;> omega
    · have hmM' : m < M := by omega
      have hmk : m < k := by omega
      rw [hu i m hi hmk, hu m j hmk hj]
      have t1 := h.tri m hmM' i j hi hj
      have t2 := h.tri m hmM' M j hM hj
      have t3 := h.tri m hmM' i M hi hM
      have b3 := bd M m hM hmk
      have b4 := bd m M hmk hM
      split <;> split <;> split <;> omega
  · rw [hv i j hi hj] at h0 ⊢
    unfold rnd at h0 ⊢
    split
    · rename_i c; rw [if_pos c] at h0; exact h.way i j hi hj h0
    · rename_i c
      split
      · exact (h.way i M hi hM (by omega)).app (h.way M j hM hj (by omega))
      · rename_i c2; rw [if_neg c, if_neg c2] at h0; exact h.way i j hi hj h0
theorem walk_rise {ns : Nat} {l : List Walk} (h : WalkFacts ns l) (d : Nat) : ∀ (i : Nat) (p w : Walk), l[i]? = some p → l[i + d + 1]? = some w → p.A < w.A ∨ (p.A = w.A ∧ p.B < w.B) := by
  induction d with
  | zero => exact fun i p w h1 h2 => h.rise i p w h1 h2
  | succ d ih =>
    intro i p w h1 h2
    have hl := (List.getElem?_eq_some_iff.1 h2).1
    obtain ⟨q, hq⟩ : ∃ q, l[i + d + 1]? = some q := ⟨_, List.getElem?_eq_getElem (by omega)⟩
    have a := ih i p q h1 hq
    have b := h.rise (i + d + 1) q w hq h2
    omega
theorem walk_one {ns : Nat} {l : List Walk} (h : WalkFacts ns l) {i j : Nat} {p w : Walk} (h1 : l[i]? = some p) (h2 : l[j]? = some w) (e : p.A = w.A ∧ p.B = w.B) : i = j := by
  rcases Nat.lt_trichotomy i j with c | c | c
  · have := walk_rise h (j - i - 1) i p w h1 (by rw [show i + (j - i - 1) + 1 = j by omega]; exact h2); omega
  · exact c
  · have := walk_rise h (i - j - 1) j w p h2 (by rw [show j + (i - j - 1) + 1 = i by omega]; exact h1); omega
theorem tab0_tg {k i j : Nat} (hi : i < k) (hj : j < k) : tg (tab0 k) i j = if i = j then 0 else -1 := by
  have e : (tab0 k).getD i [] = (List.replicate k (-1)).set i 0 := by
    unfold tab0; rw [List.getD_eq_getElem?_getD, List.getElem?_map, List.getElem?_range hi]; rfl
  unfold tg
  rw [e]
  split
  · rename_i c; subst c; exact getDs (by simpa using hi)
  · rename_i c; rw [getDn c, List.getD_eq_getElem?_getD, List.getElem?_replicate, if_pos hj]; rfl
theorem tab0_sh (k : Nat) : Shape k (tab0 k) := ⟨by simp [tab0], fun i hi => by
  have e : (tab0 k).getD i [] = (List.replicate k (-1)).set i 0 := by
    unfold tab0; rw [List.getD_eq_getElem?_getD, List.getElem?_map, List.getElem?_range hi]; rfl
  rw [e]; simp⟩
/-- The table behind some of the walks. -/
structure Put (k : Nat) (l : List Walk) (n : Nat) (T : List (List Int)) : Prop where
  sh : Shape k T
  diag : ∀ i, i < k → tg T i i = 0
  put : ∀ (i : Nat) (w : Walk), i < n → l[i]? = some w → tg T w.A.toNat w.B.toNat = w.Minutes ∧ tg T w.B.toNat w.A.toNat = w.Minutes
  val : ∀ i j, i < k → j < k → tg T i j = -1 ∨ (i = j ∧ tg T i j = 0) ∨ (1 ≤ tg T i j ∧ tg T i j ≤ 120 ∧ Edge l i j (tg T i j))
theorem Put.more {k n : Nat} {l : List Walk} {T : List (List Int)} (hf : WalkFacts k l) (h : Put k l n T) {w : Walk} (hw : l[n]? = some w) : Put k l (n + 1) (putW T w) := by
  have f := hf.ok n w hw
  have hA : w.A.toNat < k := by omega
  have hB : w.B.toNat < k := by omega
  have hAB : ¬ w.A.toNat = w.B.toNat := by omega
  have s1 := h.sh.put w.A.toNat w.B.toNat w.Minutes
  have e1 : tg (putW T w) w.A.toNat w.B.toNat = w.Minutes := by
    unfold putW; rw [tg_ne (by omega), tg_self h.sh hA hB]
  have e2 : tg (putW T w) w.B.toNat w.A.toNat = w.Minutes := by
    unfold putW; rw [tg_self s1 hB hA]
  have e3 : ∀ a b, ¬ (w.A.toNat = a ∧ w.B.toNat = b) → ¬ (w.B.toNat = a ∧ w.A.toNat = b) → tg (putW T w) a b = tg T a b := fun a b n1 n2 => by
    unfold putW; rw [tg_ne n2, tg_ne n1]
  have hE : Edge l w.A w.B w.Minutes := ⟨w, List.mem_of_getElem? hw, rfl, .inl ⟨rfl, rfl⟩⟩
  refine ⟨(s1.put _ _ _), fun i hi => ?_, fun i v hi hv => ?_, fun i j hi hj => ?_⟩
  · rw [e3 i i (by omega) (by omega)]; exact h.diag i hi
  · by_cases c : i = n
    · subst c; rw [hw] at hv; obtain rfl := Option.some.inj hv; exact ⟨e1, e2⟩
    · have g := hf.ok i v hv
      have hne : ¬ (w.A = v.A ∧ w.B = v.B) := fun e => c (walk_one hf hw hv e).symm
      rw [e3 _ _ (by omega) (by omega), e3 _ _ (by omega) (by omega)]
      exact h.put i v (by omega) hv
  · by_cases c1 : w.A.toNat = i ∧ w.B.toNat = j
    · obtain ⟨rfl, rfl⟩ := c1
      rw [e1]
      refine .inr (.inr ⟨f.2.2.2.1, f.2.2.2.2, ?_⟩)
      rw [show ((w.A.toNat : Nat) : Int) = w.A by omega, show ((w.B.toNat : Nat) : Int) = w.B by omega]; exact hE
    · by_cases c2 : w.B.toNat = i ∧ w.A.toNat = j
      · obtain ⟨rfl, rfl⟩ := c2
        rw [e2]
        refine .inr (.inr ⟨f.2.2.2.1, f.2.2.2.2, ?_⟩)
        rw [show ((w.A.toNat : Nat) : Int) = w.A by omega, show ((w.B.toNat : Nat) : Int) = w.B by omega]; exact hE.symm
      · rw [e3 i j c1 c2]; exact h.val i j hi hj
theorem put_all {k : Nat} {l : List Walk} (hf : WalkFacts k l) : Put k l l.length (fwW k l) := by
  have key : ∀ n, n ≤ l.length → Put k l n ((l.take n).foldl putW (tab0 k)) := by
    intro n
    induction n with
    | zero =>
      intro _
      exact ⟨tab0_sh k, fun i hi => by rw [List.take_zero]; show tg (tab0 k) i i = 0; rw [tab0_tg hi hi, if_pos rfl], fun i w hi => by omega, fun i j hi hj => by
        rw [List.take_zero]; show tg (tab0 k) i j = -1 ∨ _
        rw [List.foldl_nil, tab0_tg hi hj]
        by_cases c : i = j
        · exact .inr (.inl ⟨c, if_pos c⟩)
        · exact .inl (if_neg c)⟩
    | succ n ih =>
      intro hn
      obtain ⟨w, hw⟩ : ∃ w, l[n]? = some w := ⟨_, List.getElem?_eq_getElem (by omega)⟩
      rw [List.take_add_one, hw, List.foldl_append]
      exact (ih (by omega)).more hf hw
  have := key l.length (Nat.le_refl _)
  rwa [List.take_length] at this
theorem tab_W {k : Nat} {l : List Walk} (hf : WalkFacts k l) : Tab k l 0 (fwW k l) := by
  have h := put_all hf
  refine ⟨h.sh, h.diag, fun i j hi hj => ?_, fun i j hi hj => ?_, fun i j hi hj e he => ?_, fun m hm => by omega, fun i j hi hj h0 => ?_⟩
  · rcases h.val i j hi hj with c | c | c <;> omega
  · rcases h.val i j hi hj with c | c | c <;> simp <;> omega
  · obtain ⟨w, hm, rfl, hc⟩ := he
    obtain ⟨n, hn⟩ := List.getElem?_of_mem hm
    have f := hf.ok n w hn
    have p := h.put n w (List.getElem?_eq_some_iff.1 hn).1 hn
    rcases hc with ⟨c1, c2⟩ | ⟨c1, c2⟩
    · rw [show i = w.A.toNat by omega, show j = w.B.toNat by omega, p.1]; unfold up; rw [if_neg (by omega)]; omega
    · rw [show i = w.B.toNat by omega, show j = w.A.toNat by omega, p.2]; unfold up; rw [if_neg (by omega)]; omega
  · rcases h.val i j hi hj with c | ⟨rfl, c⟩ | c
    · omega
    · rw [c]; exact Way.refl l i
    · have := (Way.refl l (i : Int)).snoc c.2.2; simpa using this
theorem tab_T {k : Nat} {l : List Walk} (hf : WalkFacts k l) (hk : k ≤ 8) : Tab k l k (fwT k l) := by
  have key : ∀ n, n ≤ k → Tab k l n ((List.range n).foldl (fwI k) (fwW k l)) := by
    intro n
    induction n with
    | zero => exact fun _ => tab_W hf
    | succ n ih => intro hn; rw [List.range_succ, List.foldl_append]; exact (ih (by omega)).step (by omega) hk
  exact key k (Nat.le_refl _)
/-! ### The reference's way: from one stop, until nothing is bettered -/
def bf1 (a b : Nat) (m : Int) (s : List Int × Bool) : List Int × Bool :=
  if 0 ≤ s.1.getD a 0 ∧ (s.1.getD b 0 < 0 ∨ s.1.getD a 0 + m < s.1.getD b 0) then (s.1.set b (s.1.getD a 0 + m), true) else s
def bfW (s : List Int × Bool) (w : Walk) : List Int × Bool := bf1 w.B.toNat w.A.toNat w.Minutes (bf1 w.A.toNat w.B.toNat w.Minutes s)
def bfPass (l : List Walk) (out : List Int) : List Int × Bool := l.foldl bfW (out, false)
def cntF (l : List Int) : Nat := l.countP fun v => decide (0 ≤ v)
def msum : List Int → Nat
  | [] => 0
  | v :: l => (up v).toNat + msum l
structure Good (k : Nat) (l : List Walk) (a0 : Nat) (out : List Int) : Prop where
  len : out.length = k
  own : out.getD a0 0 = 0
  rng : ∀ i, i < k → -1 ≤ out.getD i 0 ∧ out.getD i 0 ≤ 120 * (cntF out : Int)
  way : ∀ i, i < k → 0 ≤ out.getD i 0 → Way l a0 i (out.getD i 0)
theorem cntF_set {l : List Int} {b : Nat} {v : Int} (hb : b < l.length) (hv : 0 ≤ v) : cntF (l.set b v) = cntF l + (if l.getD b 0 < 0 then 1 else 0) := by
  induction l generalizing b with
  | nil => simp at hb
  | cons x l ih =>
    cases b with
    | zero =>
      simp only [List.set_cons_zero, cntF, List.countP_cons, List.getD_cons_zero]
      rw [decide_eq_true hv]
      by_cases c : x < 0
      · rw [if_pos c, decide_eq_false (by omega)]; simp
      · rw [if_neg c, decide_eq_true (by omega)]; simp
    | succ b =>
      have := ih (b := b) (by simpa using hb)
      simp only [List.set_cons_succ, cntF, List.countP_cons, List.getD_cons_succ] at this ⊢
      rw [this]; omega
theorem msum_set {l : List Int} {b : Nat} {v : Int} (hb : b < l.length) (hv : 0 ≤ v) (hlt : v < up (l.getD b 0)) : msum (l.set b v) < msum l := by
  induction l generalizing b with
  | nil => simp at hb
  | cons x l ih =>
    cases b with
    | zero =>
      simp only [List.set_cons_zero, msum, List.getD_cons_zero] at hlt ⊢
      have : up v = v := if_neg (by omega)
      rw [this]; omega
    | succ b =>
      simp only [List.set_cons_succ, msum, List.getD_cons_succ] at hlt ⊢
      have := ih (b := b) (by simpa using hb) hlt
      omega
theorem cntF_le (l : List Int) : cntF l ≤ l.length := List.countP_le_length
theorem Good.hi {k : Nat} {l : List Walk} {a0 : Nat} {out : List Int} (h : Good k l a0 out) (hk : k ≤ 8) {i : Nat} (hi : i < k) : -1 ≤ out.getD i 0 ∧ out.getD i 0 ≤ 960 := by
  have := h.rng i hi
  have := cntF_le out
  have := h.len
  omega
theorem bf1_good {k : Nat} {l : List Walk} {a0 : Nat} {s : List Int × Bool} (hk : k ≤ 8) (h : Good k l a0 s.1) {a b : Nat} {m : Int} (ha : a < k) (hb : b < k) (hE : Edge l a b m) (m1 : 1 ≤ m) (m2 : m ≤ 120) :
    Good k l a0 (bf1 a b m s).1 ∧ ((bf1 a b m s) = s ∨ ((bf1 a b m s).2 = true ∧ msum (bf1 a b m s).1 < msum s.1)) := by
  unfold bf1
  split
  · rename_i c
    have hbl : b < s.1.length := by rw [h.len]; exact hb
    have ra := h.hi hk ha
    have rb := h.hi hk hb
    have qa := h.rng a ha
    have qb := h.rng b hb
    refine ⟨⟨by rw [List.length_set]; exact h.len, ?_, fun i hi => ?_, fun i hi h0 => ?_⟩, .inr ⟨rfl, msum_set hbl (by omega) ?_⟩⟩
    · by_cases e : b = a0
      · subst e; have := h.own; omega
      · show (s.1.set b _).getD a0 0 = 0
        rw [getDn e]; exact h.own
    · show -1 ≤ (s.1.set b _).getD i 0 ∧ (s.1.set b _).getD i 0 ≤ 120 * (cntF (s.1.set b _) : Int)
      rw [cntF_set hbl (by omega)]
      by_cases e : b = i
      · subst e
        rw [getDs hbl]
        split <;> omega
      · rw [getDn e]
        have := h.rng i hi
        split <;> omega
    · show Way l a0 i ((s.1.set b _).getD i 0)
      change 0 ≤ (s.1.set b _).getD i 0 at h0
      by_cases e : b = i
      · subst e
        rw [getDs hbl]
        exact (h.way a ha c.1).snoc hE
      · rw [getDn e] at h0 ⊢
        exact h.way i hi h0
    · unfold up; split
      · unfold never; omega
      · omega
  · exact ⟨h, .inl rfl⟩
def Still (out : List Int) (a b : Nat) (m : Int) : Prop := ¬ (0 ≤ out.getD a 0 ∧ (out.getD b 0 < 0 ∨ out.getD a 0 + m < out.getD b 0))
theorem bf1_eq {a b : Nat} {m : Int} {s : List Int × Bool} (h : bf1 a b m s = s) (hs : s.2 = false) : Still s.1 a b m := by
  unfold bf1 at h
  split at h
  · rw [← h] at hs; cases hs
  · assumption
/-- Some walks of a pass are behind. -/
structure PassI (k : Nat) (l : List Walk) (a0 : Nat) (out0 : List Int) (n : Nat) (s : List Int × Bool) : Prop where
  good : Good k l a0 s.1
  no : s.2 = false → s.1 = out0 ∧ ∀ (i : Nat) (w : Walk), i < n → l[i]? = some w → Still out0 w.A.toNat w.B.toNat w.Minutes ∧ Still out0 w.B.toNat w.A.toNat w.Minutes
  yes : s.2 = true → msum s.1 < msum out0
theorem walk_edge {k : Nat} {l : List Walk} (hf : WalkFacts k l) {n : Nat} {w : Walk} (hw : l[n]? = some w) : w.A.toNat < k ∧ w.B.toNat < k ∧ Edge l w.A.toNat w.B.toNat w.Minutes ∧ Edge l w.B.toNat w.A.toNat w.Minutes ∧ 1 ≤ w.Minutes ∧ w.Minutes ≤ 120 := by
  have f := hf.ok n w hw
  have hE : Edge l w.A.toNat w.B.toNat w.Minutes := ⟨w, List.mem_of_getElem? hw, rfl, .inl ⟨by omega, by omega⟩⟩
  exact ⟨by omega, by omega, hE, hE.symm, f.2.2.2.1, f.2.2.2.2⟩
theorem PassI.more {k : Nat} {l : List Walk} {a0 : Nat} {out0 : List Int} {n : Nat} {s : List Int × Bool} (hk : k ≤ 8) (hf : WalkFacts k l) (h : PassI k l a0 out0 n s) {w : Walk} (hw : l[n]? = some w) : PassI k l a0 out0 (n + 1) (bfW s w) := by
  obtain ⟨hA, hB, hE, hE2, m1, m2⟩ := walk_edge hf hw
  obtain ⟨g1, c1⟩ := bf1_good hk h.good hA hB hE m1 m2
  obtain ⟨g2, c2⟩ := bf1_good hk (s := bf1 w.A.toNat w.B.toNat w.Minutes s) g1 hB hA hE2 m1 m2
  have hle : msum (bfW s w).1 ≤ msum s.1 := by
    unfold bfW
    rcases c1 with c1 | c1 <;> rcases c2 with c2 | c2
    · rw [c2, c1]; exact Nat.le_refl _
    · have := c2.2; rw [c1] at this ⊢; omega
    · rw [c2]; omega
    · omega
  have hne : (bfW s w).2 = false → bf1 w.A.toNat w.B.toNat w.Minutes s = s ∧ bf1 w.B.toNat w.A.toNat w.Minutes s = s := by
    unfold bfW
    intro h9
    rcases c2 with c2 | c2
    · rcases c1 with c1 | c1
      · rw [c1] at c2; exact ⟨c1, c2⟩
      · rw [c2, c1.1] at h9; cases h9
    · rw [c2.1] at h9; cases h9
  refine ⟨g2, fun h9 => ?_, fun h9 => ?_⟩
  · obtain ⟨e1, e2⟩ := hne h9
    have e3 : bfW s w = s := by unfold bfW; rw [e1, e2]
    rw [e3] at h9 ⊢
    obtain ⟨n1, n2⟩ := h.no h9
    refine ⟨n1, fun i v hi hv => ?_⟩
    by_cases c : i = n
    · subst c
      rw [hw] at hv; obtain rfl := Option.some.inj hv
      have f1 := bf1_eq e1 h9
      have f2 := bf1_eq e2 h9
      rw [n1] at f1 f2
      exact ⟨f1, f2⟩
    · exact n2 i v (by omega) hv
  · by_cases c : s.2 = true
    · have := h.yes c; omega
    · have cs : s.2 = false := by simpa using c
      have hs := (h.no cs).1
      have hlt : msum (bfW s w).1 < msum s.1 := by
        unfold bfW at h9 ⊢
        rcases c2 with c2 | c2
        · rcases c1 with c1 | c1
          · rw [c2, c1] at h9; exact absurd h9 c
          · rw [c2]; exact c1.2
        · rcases c1 with c1 | c1
          · have := c2.2; rw [c1] at this ⊢; exact this
          · omega
      rw [hs] at hlt; exact hlt
theorem passI {k : Nat} {l : List Walk} {a0 : Nat} {out0 : List Int} (hk : k ≤ 8) (hf : WalkFacts k l) (h : Good k l a0 out0) (n : Nat) (hn : n ≤ l.length) : PassI k l a0 out0 n ((l.take n).foldl bfW (out0, false)) := by
  induction n with
  | zero => exact ⟨h, fun _ => ⟨rfl, fun i w hi => by omega⟩, fun h9 => by cases h9⟩
  | succ n ih =>
    obtain ⟨w, hw⟩ : ∃ w, l[n]? = some w := ⟨_, List.getElem?_eq_getElem (by omega)⟩
    rw [List.take_add_one, hw, List.foldl_append]
    exact (ih (by omega)).more hk hf hw
theorem pass_all {k : Nat} {l : List Walk} {a0 : Nat} {out0 : List Int} (hk : k ≤ 8) (hf : WalkFacts k l) (h : Good k l a0 out0) : PassI k l a0 out0 l.length (bfPass l out0) := by
  have := passI hk hf h l.length (Nat.le_refl _)
  rwa [List.take_length] at this
/-- Nothing can be bettered. -/
def Fix (l : List Walk) (out : List Int) : Prop := ∀ (i : Nat) (w : Walk), l[i]? = some w → Still out w.A.toNat w.B.toNat w.Minutes ∧ Still out w.B.toNat w.A.toNat w.Minutes
theorem fix_eq {k : Nat} {l : List Walk} {a0 : Nat} {out : List Int} (hk : k ≤ 8) (hf : WalkFacts k l) (ha : a0 < k) (h : Good k l a0 out) (hx : Fix l out) : out = (fwT k l).getD a0 [] := by
  have t := tab_T hf hk
  have hn : ∀ b c m, Edge l b c m → (∃ i j : Nat, b = i ∧ c = j ∧ i < k ∧ j < k) ∧ 0 ≤ m := fun b c m ⟨w, hm, hmm, hc⟩ => by
    obtain ⟨n, hn⟩ := List.getElem?_of_mem hm
    have f := hf.ok n w hn
    rcases hc with ⟨rfl, rfl⟩ | ⟨rfl, rfl⟩
    · exact ⟨⟨w.A.toNat, w.B.toNat, by omega, by omega, by omega, by omega⟩, by omega⟩
    · exact ⟨⟨w.B.toNat, w.A.toNat, by omega, by omega, by omega, by omega⟩, by omega⟩
  refine List.ext_getElem? fun i => ?_
  by_cases hi : i < k
  · have e1 : out[i]? = some (out.getD i 0) := by rw [List.getD_eq_getElem?_getD, List.getElem?_eq_getElem (by rw [h.len]; exact hi)]; rfl
    have e2 : ((fwT k l).getD a0 [])[i]? = some (tg (fwT k l) a0 i) := by unfold tg; rw [List.getD_eq_getElem?_getD (l := (fwT k l).getD a0 []), List.getElem?_eq_getElem (by rw [t.sh.row a0 ha]; exact hi)]; rfl
    rw [e1, e2]
    have hA := h.hi hk hi
    have hB1 := t.lo a0 i ha hi
    have hB2 := t.hi a0 i ha hi
    have hp := pow_le hk
    have f1 : 0 ≤ out.getD i 0 → up (tg (fwT k l) a0 i) ≤ out.getD i 0 := fun h0 => by
      have := way_low (l := l) (a := (a0 : Int)) (D := fun b => up (tg (fwT k l) a0 b.toNat)) (by show up (tg _ _ _) ≤ 0; rw [show ((a0 : Nat) : Int).toNat = a0 from rfl, t.diag a0 ha]; decide)
        (fun b c m hE hb => by
          obtain ⟨⟨i', j', rfl, rfl, hi', hj'⟩, _⟩ := hn b c m hE
          have g1 := t.tri i' hi' a0 j' ha hj'
          have g2 := t.edge i' j' hi' hj' m hE
          show up (tg _ _ j') ≤ up (tg _ _ i') + m
          omega) (fun b c m hE => (hn b c m hE).2) (h.way i hi h0) (by unfold never; omega)
      exact this
    have f2 : 0 ≤ tg (fwT k l) a0 i → up (out.getD i 0) ≤ tg (fwT k l) a0 i := fun h0 => by
      have := way_low (l := l) (a := (a0 : Int)) (D := fun b => up (out.getD b.toNat 0)) (by show up (out.getD a0 0) ≤ 0; rw [h.own]; decide)
        (fun b c m hE hb => by
          have hE' := hE
          obtain ⟨⟨i', j', rfl, rfl, hi', hj'⟩, _⟩ := hn b c m hE
          obtain ⟨w, hm, rfl, hc⟩ := hE
          obtain ⟨n, hn'⟩ := List.getElem?_of_mem hm
          have s := hx n w hn'
          show up (out.getD j' 0) ≤ up (out.getD i' 0) + w.Minutes
          change up (out.getD i' 0) < never at hb
          have gi' := h.hi hk hi'
          have gj' := h.hi hk hj'
          have hi0 : 0 ≤ out.getD i' 0 := by
            unfold up at hb; split at hb
            · omega
            · omega
          have hst : Still out i' j' w.Minutes := by
            rcases hc with ⟨c1, c2⟩ | ⟨c1, c2⟩
            · rw [show i' = w.A.toNat by omega, show j' = w.B.toNat by omega]; exact s.1
            · rw [show i' = w.B.toNat by omega, show j' = w.A.toNat by omega]; exact s.2
          unfold Still at hst
          unfold up
          rw [if_neg (by omega), if_neg (by omega)]
          omega) (fun b c m hE => (hn b c m hE).2) (t.way a0 i ha hi h0) (by unfold never; omega)
      exact this
    refine congrArg some ?_
    unfold up never at f1 f2
    by_cases c1 : 0 ≤ out.getD i 0
    · have := f1 c1
      by_cases c2 : 0 ≤ tg (fwT k l) a0 i
      · have := f2 c2
        split at * <;> split at * <;> omega
      · split at this <;> omega
    · by_cases c2 : 0 ≤ tg (fwT k l) a0 i
      · have := f2 c2
        split at this <;> omega
      · omega
  · rw [List.getElem?_eq_none (by rw [h.len]; omega), List.getElem?_eq_none (by rw [t.sh.row a0 ha]; omega)]
def bf0 (k a0 : Nat) : List Int := (List.replicate k (-1)).set a0 0
theorem good0 {k : Nat} {l : List Walk} {a0 : Nat} (ha : a0 < k) : Good k l a0 (bf0 k a0) := by
  have hv : ∀ i, i < k → (bf0 k a0).getD i 0 = if i = a0 then 0 else -1 := fun i hi => by
    unfold bf0
    split
    · rename_i c; subst c; exact getDs (by simpa using hi)
    · rename_i c; rw [getDn (Ne.symm c), List.getD_eq_getElem?_getD, List.getElem?_replicate, if_pos hi]; rfl
  refine ⟨by simp [bf0], by rw [hv a0 ha, if_pos rfl], fun i hi => ?_, fun i hi h0 => ?_⟩
  · rw [hv i hi]; split <;> omega
  · rw [hv i hi] at h0 ⊢
    split
    · rename_i c; subst c; exact Way.refl l i
    · rename_i c; rw [if_neg c] at h0; omega
end Go.Proofs.Ytaopadffabbjiaa
