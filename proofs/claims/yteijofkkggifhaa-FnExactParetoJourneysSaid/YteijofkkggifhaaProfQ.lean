/-
  The profile: both ways agree. Plain functions.
-/
import Derived.Test.YteijofkkggifhaaProfP
namespace Go.Proofs.Yteijofkkggifhaa
open Go Go.RowKit
set_option linter.unusedVariables false
set_option maxRecDepth 100000
/-! ### The program's way; A: the earliest arrival by departure and legs -/
def better (a b : Choice) : Bool := decide (a ≠ b) && decide (b.Depart ≤ a.Depart) && decide (a.Arrive ≤ b.Arrive) && decide (a.Legs ≤ b.Legs)
def chGo (A : Nat → Int) (d : Int) : Nat → Nat → Int → List Choice
  | 0, _, _ => []
  | fu + 1, m, best => if A m < best then ⟨d, A m, m⟩ :: chGo A d fu (m + 1) (A m) else chGo A d fu (m + 1) best
def allCh (A : Int → Nat → Int) (D : List Int) : List Choice := D.flatMap fun d => chGo (A d) d 4 1 never
def keepCh (all : List Choice) : List Choice := all.filter fun c => !(all.any fun b => better b c)
/-! ### The reference's way -/
def lastArr (now : List Choice) : Int := (now.getLastD default).Arrive
def nowGo (S : Nat → Int) (d : Int) : Nat → Nat → List Int → List Choice → List Int × List Choice
  | 0, _, best, now => (best, now)
  | fu + 1, m, best, now =>
    if 0 ≤ S m ∧ (best.getD m 0 < 0 ∨ S m < best.getD m 0) then nowGo S d fu (m + 1) (best.set m (S m)) (if now.length = 0 ∨ S m < lastArr now then now ++ [⟨d, S m, m⟩] else now)
    else nowGo S d fu (m + 1) best now
def profGo (S : Int → Nat → Int) : List Int → List Int → List Choice → List Choice
  | [], _, out => out
  | d :: l, best, out => profGo S l (nowGo (S d) d 4 1 best []).1 ((nowGo (S d) d 4 1 best []).2 ++ out)
def best0 : List Int := [-1, -1, -1, -1, -1]
/-! ### Both choose the same -/
def pre (A : Nat → Int) (m : Nat) : Int := if m ≤ 1 then never else A (m - 1)
def sel (A : Int → Nat → Int) (D : List Int) (d : Int) : List Choice :=
  ((List.range' 1 4).filter fun m => decide (A d m < pre (A d) m) && D.all fun u => decide (u ≤ d ∨ A d m < A u m)).map fun m => ⟨d, A d m, m⟩
structure Falls (A : Nat → Int) : Prop where
  le : ∀ m, A m ≤ never
  mono : ∀ m n, m ≤ n → A n ≤ A m
theorem chGo_eq {A : Nat → Int} (h : Falls A) (d : Int) (fu : Nat) : ∀ (m : Nat) (best : Int), 1 ≤ m → best = pre A m → chGo A d fu m best = ((List.range' m fu).filter fun m => decide (A m < pre A m)).map fun m => ⟨d, A m, m⟩ := by
  induction fu with
  | zero => intro m best _ _; rfl
  | succ fu ih =>
    intro m best hm hb
    have hp : pre A (m + 1) = A m := by unfold pre; rw [if_neg (by omega)]; rfl
    simp only [chGo, List.range'_succ]
    by_cases c : A m < best
    · rw [if_pos c, List.filter_cons_of_pos (by rw [← hb]; simpa using c), List.map_cons, ih (m + 1) (A m) (by omega) hp.symm]
    · have e : A m = best := by
        rw [hb]; rw [hb] at c
        unfold pre at c ⊢
        split at c
        · rename_i c1; rw [if_pos c1]; have := h.le m; omega
        · rename_i c1; rw [if_neg c1]; have := h.mono (m - 1) m (by omega); omega
      rw [if_neg c, List.filter_cons_of_neg (by rw [← hb]; simpa using c), ih (m + 1) best (by omega) (by rw [hp, e])]
/-- Among equals the fewest legs come first. -/
theorem least_legs {A : Nat → Int} (h : Falls A) (m : Nat) (hm : 1 ≤ m) (hv : A m < never) : ∃ k, 1 ≤ k ∧ k ≤ m ∧ A k = A m ∧ A k < pre A k := by
  induction m with
  | zero => omega
  | succ m ih =>
    by_cases c : A (m + 1) < pre A (m + 1)
    · exact ⟨m + 1, hm, Nat.le_refl _, rfl, c⟩
    · unfold pre at c
      split at c
      · omega
      · rename_i c1
        rw [show m + 1 - 1 = m by omega] at c
        have := h.mono m (m + 1) (by omega)
        have e : A m = A (m + 1) := by omega
        obtain ⟨k, k1, k2, k3, k4⟩ := ih (by omega) (by omega)
        exact ⟨k, k1, by omega, by omega, k4⟩
theorem keep_eq {A : Int → Nat → Int} {D : List Int} (h : ∀ d, d ∈ D → Falls (A d)) : keepCh (allCh A D) = D.flatMap (sel A D) := by
  have e1 : allCh A D = D.flatMap fun d => ((List.range' 1 4).filter fun m => decide (A d m < pre (A d) m)).map fun m => ⟨d, A d m, m⟩ := by
    unfold allCh
    rw [List.flatMap_def, List.flatMap_def]
    refine congrArg List.flatten (List.map_congr_left fun d hd => ?_)
    exact chGo_eq (h d hd) d 4 1 never (by omega) (by unfold pre; rw [if_pos (by omega)])
  have hmem : ∀ b, b ∈ allCh A D ↔ ∃ u m, u ∈ D ∧ 1 ≤ m ∧ m < 5 ∧ A u m < pre (A u) m ∧ b = ⟨u, A u m, m⟩ := by
    intro b
    rw [e1]
    simp only [List.mem_flatMap, List.mem_map, List.mem_filter, List.mem_range'_1, decide_eq_true_eq]
    constructor
    · rintro ⟨u, hu, m, ⟨⟨m1, m2⟩, hm⟩, rfl⟩; exact ⟨u, m, hu, m1, by omega, hm, rfl⟩
    · rintro ⟨u, m, hu, m1, m2, hm, rfl⟩; exact ⟨u, hu, m, ⟨⟨m1, by omega⟩, hm⟩, rfl⟩
  have hk : keepCh (allCh A D) = (allCh A D).filter fun c => !((allCh A D).any fun b => better b c) := rfl
  obtain ⟨P, hP⟩ : ∃ P : Choice → Bool, P = fun c => !((allCh A D).any fun b => better b c) := ⟨_, rfl⟩
  rw [hk, ← hP, e1, List.filter_flatMap]
  rw [List.flatMap_def, List.flatMap_def]
  refine congrArg List.flatten (List.map_congr_left fun d hd => ?_)
  unfold sel
  rw [List.filter_map, List.filter_filter]
  refine congrArg (List.map _) (List.filter_congr fun m hm => ?_)
  rw [List.mem_range'_1] at hm
  subst hP
  by_cases c : A d m < pre (A d) m
  · have hany : ((allCh A D).any fun b => better b ⟨d, A d m, m⟩) = !(D.all fun u => decide (u ≤ d ∨ A d m < A u m)) := by
      rw [Bool.eq_iff_iff]
      simp only [List.any_eq_true, Bool.not_eq_true', List.all_eq_false, decide_eq_true_eq]
      have hdm : A d m < never := by
        have := (h d hd).le (m - 1)
        unfold pre at c
        split at c <;> omega
      constructor
      · rintro ⟨b, hb, hbet⟩
        obtain ⟨u, k, hu, k1, k2, hk, rfl⟩ := (hmem b).1 hb
        simp only [better, Bool.and_eq_true, decide_eq_true_eq] at hbet
        obtain ⟨⟨⟨hne, hdu⟩, ha⟩, hkm⟩ := hbet
        have hkm' : k ≤ m := by omega
        refine ⟨u, hu, fun hc => ?_⟩
        rcases hc with hc | hc
        · have e : u = d := by omega
          subst e
          have hk2 : k ≠ m := fun e => hne (by subst e; rfl)
          have := (h u hu).mono k (m - 1) (by omega)
          unfold pre at c
          rw [if_neg (by omega)] at c
          omega
        · have := (h u hu).mono k m hkm'
          omega
      · rintro ⟨u, hu, hc⟩
        have hlt : d < u := by
          rcases Int.lt_or_le d u with h1 | h1
          · exact h1
          · exact absurd (.inl h1) hc
        have hle : A u m ≤ A d m := by
          rcases Int.lt_or_le (A d m) (A u m) with h1 | h1
          · exact absurd (.inr h1) hc
          · exact h1
        obtain ⟨k, k1, k2, k3, k4⟩ := least_legs (h u hu) m hm.1 (by omega)
        refine ⟨⟨u, A u k, k⟩, (hmem _).2 ⟨u, k, hu, k1, by omega, k4, rfl⟩, ?_⟩
        simp only [better, Bool.and_eq_true, decide_eq_true_eq]
        refine ⟨⟨⟨fun e => ?_, by omega⟩, by omega⟩, by omega⟩
        have : u = d := congrArg Choice.Depart e
        omega
    simp only [Function.comp, hany, Bool.not_not, c, decide_true, Bool.true_and, Bool.and_true]
  · simp [Function.comp, c]
/-! ### The reference -/
def selB (A B : Nat → Int) (d : Int) (m fu : Nat) : List Choice := ((List.range' m fu).filter fun m => decide (A m < pre A m) && decide (A m < B m)).map fun m => ⟨d, A m, m⟩
theorem getD_set_self {l : List Int} {m : Nat} {v : Int} (h : m < l.length) : (l.set m v).getD m 0 = v := by
  rw [List.getD_eq_getElem?_getD, List.getElem?_set_self h]; rfl
theorem getD_set_ne {l : List Int} {m k : Nat} {v : Int} (h : m ≠ k) : (l.set m v).getD k 0 = l.getD k 0 := by
  rw [List.getD_eq_getElem?_getD, List.getD_eq_getElem?_getD, List.getElem?_set_ne h]
theorem up_encN {v : Int} (h : v = never ∨ 0 ≤ v) : up (encN v) = v := by unfold up encN; split <;> split <;> omega
theorem getLastD_snoc (l : List Choice) (x d : Choice) : (l ++ [x]).getLastD d = x := by simp
theorem nowGo_eq {A S B : Nat → Int} (hA : Falls A) (hB : Falls B) (hr : ∀ m, A m = never ∨ 0 ≤ A m) (hS : ∀ m, S m = encN (A m)) (d : Int) (fu : Nat) :
    ∀ (m : Nat) (best : List Int) (now : List Choice), 1 ≤ m → m + fu = 5 → best.length = 5 → (∀ k, m ≤ k → k < 5 → up (best.getD k 0) = B k) → (now = [] → ∀ k, 1 ≤ k → k < m → ¬ A k < B k) → (now ≠ [] → 1 < m ∧ A (m - 1) ≤ lastArr now ∧ (A (m - 1) < B (m - 1) → lastArr now = A (m - 1))) →
      (nowGo S d fu m best now).2 = now ++ selB A B d m fu ∧ (nowGo S d fu m best now).1.length = 5 ∧ (∀ k, k < m → (nowGo S d fu m best now).1.getD k 0 = best.getD k 0) ∧ ∀ k, m ≤ k → k < 5 → up ((nowGo S d fu m best now).1.getD k 0) = if A k < B k then A k else B k := by
  induction fu with
  | zero =>
    intro m best now h1 h2 h3 _ _ _
    refine ⟨by simp [nowGo, selB], h3, fun k _ => rfl, fun k hk1 hk2 => by omega⟩
  | succ fu ih =>
    intro m best now h1 h2 h3 h4 h5 h6
    have hb := h4 m (Nat.le_refl _) (by omega)
    have hAm := hr m
    have hle := hA.le m
    have hcond : (0 ≤ S m ∧ (best.getD m 0 < 0 ∨ S m < best.getD m 0)) ↔ A m < B m := by
      have hbl := hB.le m
      rw [← hb] at hbl
      rw [hS, ← hb]
      unfold encN
      unfold up at hbl ⊢
      split <;> split <;> omega
    have hstep : selB A B d m (fu + 1) = (if A m < pre A m ∧ A m < B m then [⟨d, A m, m⟩] else []) ++ selB A B d (m + 1) fu := by
      unfold selB
      rw [List.range'_succ]
      by_cases c : A m < pre A m ∧ A m < B m
      · rw [if_pos c, List.filter_cons_of_pos (by simpa using c)]; rfl
      · rw [if_neg c, List.filter_cons_of_neg (by simpa using c)]; rfl
    simp only [nowGo]
    by_cases c : A m < B m
    · rw [if_pos (hcond.2 c)]
      have hSm : S m = A m := by
        rw [hS]; unfold encN
        have := hB.le m
        rw [if_neg (by omega)]
      rw [hSm]
      have hset : ∀ k, m + 1 ≤ k → k < 5 → up ((best.set m (A m)).getD k 0) = B k := fun k k1 k2 => by rw [getD_set_ne (by omega)]; exact h4 k (by omega) k2
      have hself : (best.set m (A m)).getD m 0 = A m := getD_set_self (by omega)
      by_cases c2 : now.length = 0 ∨ A m < lastArr now
      · rw [if_pos c2]
        have hpre : A m < pre A m := by
          unfold pre
          split
          · have := hB.le m; omega
          · rename_i c3
            by_cases c4 : now = []
            · have := h5 c4 (m - 1) (by omega) (by omega)
              have := hB.mono (m - 1) m (by omega)
              omega
            · have h7 := h6 c4
              have hlt : A m < lastArr now := c2.resolve_left fun e => c4 (List.length_eq_zero_iff.1 e)
              have h8 := hA.mono (m - 1) m (by omega)
              have h9 := hB.mono (m - 1) m (by omega)
              rcases Int.lt_or_le (A m) (A (m - 1)) with h10 | h10
              · exact h10
              · have := h7.2.2 (by omega); omega
        have hlast : lastArr (now ++ [⟨d, A m, m⟩]) = A m := by unfold lastArr; rw [getLastD_snoc]
        obtain ⟨g1, g2, g3, g4⟩ := ih (m + 1) (best.set m (A m)) (now ++ [⟨d, A m, m⟩]) (by omega) (by omega) (by simpa using h3) hset (fun e => by simp at e) (fun _ => ⟨by omega, by rw [hlast, show m + 1 - 1 = m by omega]; omega, fun _ => by rw [hlast, show m + 1 - 1 = m by omega]⟩)
        refine ⟨by rw [g1, hstep, if_pos ⟨hpre, c⟩, List.append_assoc], g2, fun k hk => by rw [g3 k (by omega), getD_set_ne (by omega)], fun k k1 k2 => ?_⟩
        by_cases e : k = m
        · subst e
          rw [g3 k (by omega), hself, if_pos c]
          unfold up
          rw [if_neg (by have := hB.le k; omega)]
        · exact g4 k (by omega) k2
      · rw [if_neg c2]
        have c3 : now ≠ [] := fun e => c2 (.inl (by rw [e]; rfl))
        have h7 := h6 c3
        have hnlt : ¬ A m < lastArr now := fun h => c2 (.inr h)
        have h8 := hA.mono (m - 1) m (by omega)
        have heq : A m = A (m - 1) := by omega
        have hnp : ¬ (A m < pre A m ∧ A m < B m) := by
          unfold pre
          rw [if_neg (by omega)]
          omega
        have h9 := hB.mono (m - 1) m (by omega)
        have hla := h7.2.2 (by omega)
        obtain ⟨g1, g2, g3, g4⟩ := ih (m + 1) (best.set m (A m)) now (by omega) (by omega) (by simpa using h3) hset (fun e => absurd e c3) (fun _ => ⟨by omega, by rw [show m + 1 - 1 = m by omega]; omega, fun _ => by rw [show m + 1 - 1 = m by omega]; omega⟩)
        refine ⟨by rw [g1, hstep, if_neg hnp, List.nil_append], g2, fun k hk => by rw [g3 k (by omega), getD_set_ne (by omega)], fun k k1 k2 => ?_⟩
        by_cases e : k = m
        · subst e
          rw [g3 k (by omega), hself, if_pos c]
          unfold up
          rw [if_neg (by have := hB.le k; omega)]
        · exact g4 k (by omega) k2
    · rw [if_neg fun h => c (hcond.1 h)]
      have hnp : ¬ (A m < pre A m ∧ A m < B m) := fun h => c h.2
      obtain ⟨g1, g2, g3, g4⟩ := ih (m + 1) best now (by omega) (by omega) h3 (fun k k1 k2 => h4 k (by omega) k2)
        (fun e k k1 k2 => by
          by_cases e2 : k = m
          · subst e2; exact c
          · exact h5 e k k1 (by omega))
        (fun e => by
          have h7 := h6 e
          have h8 := hA.mono (m - 1) m (by omega)
          refine ⟨by omega, by rw [show m + 1 - 1 = m by omega]; omega, fun h => ?_⟩
          rw [show m + 1 - 1 = m by omega] at h
          exact absurd h c)
      refine ⟨by rw [g1, hstep, if_neg hnp, List.nil_append], g2, fun k hk => g3 k (by omega), fun k k1 k2 => ?_⟩
      by_cases e : k = m
      · subst e
        rw [g3 k (by omega), hb, if_neg c]
      · exact g4 k (by omega) k2
/-- The least that departures arrive at. -/
def minA (A : Int → Nat → Int) (m : Nat) : List Int → Int
  | [] => never
  | u :: l => if A u m < minA A m l then A u m else minA A m l
theorem minA_le {A : Int → Nat → Int} {l : List Int} (m : Nat) : minA A m l ≤ never := by
  induction l with
  | nil => exact Int.le_refl _
  | cons u l ih => simp only [minA]; split <;> omega
theorem minA_mono {A : Int → Nat → Int} {l : List Int} (h : ∀ u, u ∈ l → Falls (A u)) {m n : Nat} (hmn : m ≤ n) : minA A n l ≤ minA A m l := by
  induction l with
  | nil => exact Int.le_refl _
  | cons u l ih =>
    have h1 := ih fun v hv => h v (by simp [hv])
    have h2 := (h u (by simp)).mono m n hmn
    simp only [minA]
    split <;> split <;> omega
theorem minA_falls {A : Int → Nat → Int} {l : List Int} (h : ∀ u, u ∈ l → Falls (A u)) : Falls (fun m => minA A m l) := ⟨fun m => minA_le m, fun m n hmn => minA_mono h hmn⟩
theorem minA_lt {A : Int → Nat → Int} {l : List Int} {m : Nat} {a : Int} (ha : a < never) : a < minA A m l ↔ ∀ u, u ∈ l → a < A u m := by
  induction l with
  | nil => simp [minA, ha]
  | cons u l ih =>
    simp only [minA, List.forall_mem_cons, ← ih]
    split <;> omega
theorem pre_le {A : Nat → Int} (h : Falls A) (m : Nat) : pre A m ≤ never := by
  unfold pre
  split
  · exact Int.le_refl _
  · exact h.le _
theorem profGo_eq {A S : Int → Nat → Int} (hA : ∀ d, Falls (A d)) (hr : ∀ d m, A d m = never ∨ 0 ≤ A d m) (l : List Int) : ∀ (done best : List Int) (out : List Choice), (∀ d m, d ∈ l → S d m = encN (A d m)) → Asc (l.reverse ++ done) → best.length = 5 → (∀ m, 1 ≤ m → m < 5 → up (best.getD m 0) = minA A m done) →
    profGo S l best out = l.reverse.flatMap (sel A (l.reverse ++ done)) ++ out := by
  induction l with
  | nil => intro done best out _ _ _ _; simp [profGo]
  | cons d l ih =>
    intro done best out hS ha hlen hb
    have hfull : (d :: l).reverse ++ done = l.reverse ++ (d :: done) := by simp
    rw [hfull] at ha ⊢
    obtain ⟨g1, g2, g3, g4⟩ := nowGo_eq (A := A d) (S := S d) (B := fun m => minA A m done) (hA d) (minA_falls fun u _ => hA u) (hr d) (fun m => hS d m (by simp)) d 4 1 best [] (by omega) (by omega) hlen (fun k k1 k2 => hb k k1 k2) (fun _ k k1 k2 => by omega) (fun e => absurd rfl e)
    simp only [profGo]
    rw [ih (d :: done) _ _ (fun u m hu => hS u m (by simp [hu])) ha g2 (fun m m1 m2 => by rw [g4 m m1 m2]; rfl), g1]
    rw [List.reverse_cons, List.flatMap_append, List.nil_append, List.append_assoc]
    refine congrArg _ (congrArg (· ++ out) ?_)
    simp only [List.flatMap_cons, List.flatMap_nil, List.append_nil]
    unfold sel selB
    refine congrArg (List.map _) (List.filter_congr fun m hm => ?_)
    by_cases c : A d m < pre (A d) m
    · have hn : A d m < never := by have := pre_le (hA d) m; omega
      have : decide (A d m < minA A m done) = (l.reverse ++ (d :: done)).all fun u => decide (u ≤ d ∨ A d m < A u m) := by
        rw [Bool.eq_iff_iff]
        simp only [decide_eq_true_eq, List.all_eq_true]
        rw [minA_lt hn]
        unfold Asc at ha
        rw [List.pairwise_append, List.pairwise_cons] at ha
        obtain ⟨a1, ⟨a2, a3⟩, a4⟩ := ha
        constructor
        · intro h u hu
          rcases List.mem_append.1 hu with hu | hu
          · exact .inl (Int.le_of_lt (a4 u hu d (by simp)))
          · rcases List.mem_cons.1 hu with rfl | hu
            · exact .inl (Int.le_refl _)
            · exact .inr (h u hu)
        · intro h u hu
          have h1 := a2 u hu
          rcases h u (by simp [hu]) with h2 | h2
          · omega
          · exact h2
      rw [this]
    · simp [c]
theorem asc_ext {a b : List Int} (ha : Asc a) (hb : Asc b) (h : ∀ v, v ∈ a ↔ v ∈ b) : a = b := by
  induction a generalizing b with
  | nil =>
    cases b with
    | nil => rfl
    | cons y b => have := (h y).2 (by simp); simp at this
  | cons x a ih =>
    cases b with
    | nil => have := (h x).1 (by simp); simp at this
    | cons y b =>
      unfold Asc at ha hb
      rw [List.pairwise_cons] at ha hb
      have e : x = y := by
        have h1 := (h x).1 (by simp)
        have h2 := (h y).2 (by simp)
        rcases List.mem_cons.1 h1 with h1 | h1
        · exact h1
        · rcases List.mem_cons.1 h2 with h2 | h2
          · exact h2.symm
          · have := hb.1 x h1; have := ha.1 y h2; omega
      subst e
      refine congrArg _ (ih ha.2 hb.2 fun v => ?_)
      have hv := h v
      simp only [List.mem_cons] at hv
      constructor
      · intro hm
        rcases hv.1 (.inr hm) with e | e
        · have := ha.1 v hm; omega
        · exact e
      · intro hm
        rcases hv.2 (.inr hm) with e | e
        · have := hb.1 v hm; omega
        · exact e
theorem flatMap_sub {β : Type} {I S : List Int} (hI : Asc I) (hS : Asc S) (hs : ∀ v, v ∈ I → v ∈ S) {f : Int → List β} (h0 : ∀ v, v ∈ S → ¬ v ∈ I → f v = []) : S.flatMap f = I.flatMap f := by
  have e : S.filter (fun v => decide (v ∈ I)) = I := asc_ext (List.Pairwise.filter _ hS) hI fun v => by
    simp only [List.mem_filter, decide_eq_true_eq]
    exact ⟨fun h => h.2, fun h => ⟨hs v h, h⟩⟩
  conv => rhs; rw [← e]
  clear e hS hs
  induction S with
  | nil => rfl
  | cons x S ih =>
    have := ih fun v hv => h0 v (by simp [hv])
    by_cases c : x ∈ I
    · rw [List.filter_cons_of_pos (by simpa using c), List.flatMap_cons, List.flatMap_cons, this]
    · rw [List.filter_cons_of_neg (by simpa using c), List.flatMap_cons, h0 x (by simp) c, List.nil_append, this]
def profI (t : Timetable) (change from_ to : Int) : List Choice := keepCh (allCh (fun d m => arrV t change from_ d m to) (depsI t from_))
def profS (t : Timetable) (change from_ to : Int) : List Choice := profGo (fun d m => gi (arrS t change from_ d m) to) (depsS t from_).reverse best0 []
theorem prof_same {t : Timetable} {change from_ to : Int} (h : PairFacts t change from_ to) : profS t change from_ to = profI t change from_ to := by
  have hF : ∀ d, Falls (fun m => arrV t change from_ d m to) := fun d => ⟨fun m => arrV_le h.time h.ch.1 h.fr.1 h.fr.2 h.to_.1 h.to_.2 m, fun m n hmn => arrV_mono h.time h.ch.1 h.fr.1 h.fr.2 h.to_.1 h.to_.2 hmn⟩
  have hr : ∀ d m, arrV t change from_ d m to = never ∨ 0 ≤ arrV t change from_ d m to := fun d m => by
    have := arrV_rng h.time h.ch.1 h.fr.1 h.fr.2 h.to_.1 h.to_.2 (at_ := d) m
    omega
  unfold profI profS
  rw [keep_eq fun d _ => hF d, profGo_eq (A := fun d m => arrV t change from_ d m to) hF hr _ [] best0 [] ?_ ?_ rfl ?_]
  · rw [List.reverse_reverse, List.append_nil, List.append_nil]
    have hsel : ∀ d, sel (fun d m => arrV t change from_ d m to) (depsS t from_) d = sel (fun d m => arrV t change from_ d m to) (depsI t from_) d := fun d => by
      unfold sel
      refine congrArg (List.map _) (List.filter_congr fun m hm => ?_)
      by_cases c : arrV t change from_ d m to < pre (fun m => arrV t change from_ d m to) m
      · have hn : arrV t change from_ d m to < never := by have := pre_le (hF d) m; omega
        refine congrArg (fun b => _ && b) ?_
        rw [Bool.eq_iff_iff]
        simp only [List.all_eq_true, decide_eq_true_eq]
        refine ⟨fun k u hu => k u (deps_sub hu), fun k u hu => ?_⟩
        apply Decidable.byContradiction
        intro hc
        have h1 : d < u := by
          rcases Int.lt_or_le d u with h1 | h1
          · exact h1
          · exact absurd (.inl h1) hc
        have h2 : arrV t change from_ u m to ≤ arrV t change from_ d m to := by
          rcases Int.lt_or_le (arrV t change from_ d m to) (arrV t change from_ u m to) with h1 | h1
          · exact absurd (.inr h1) hc
          · exact h1
        obtain ⟨u', hu', h3, h4⟩ := arrV_dep h.time h.ch.1 h.fr.1 h.fr.2 h.to_.1 h.to_.2 m (show arrV t change from_ u m to < never by omega)
        rcases k u' hu' with h5 | h5 <;> omega
      · simp [c]
    rw [show (depsS t from_).flatMap (sel (fun d m => arrV t change from_ d m to) (depsS t from_)) = (depsS t from_).flatMap (sel (fun d m => arrV t change from_ d m to) (depsI t from_)) from by
      rw [List.flatMap_def, List.flatMap_def]; exact congrArg List.flatten (List.map_congr_left fun d _ => hsel d)]
    refine flatMap_sub (depsI_asc t from_) (depsS_asc t from_) (fun v hv => deps_sub hv) fun d hd hno => ?_
    unfold sel
    rw [List.filter_eq_nil_iff.2, List.map_nil]
    intro m hm
    simp only [Bool.and_eq_true, decide_eq_true_eq, List.all_eq_true]
    rintro ⟨c, k⟩
    have hn : arrV t change from_ d m to < never := by have := pre_le (hF d) m; omega
    obtain ⟨u, hu, h3, h4⟩ := arrV_dep h.time h.ch.1 h.fr.1 h.fr.2 h.to_.1 h.to_.2 m hn
    have : u ≠ d := fun e => hno (e ▸ hu)
    rcases k u hu with h5 | h5 <;> omega
  · intro d m hd
    have hd := deps_bd h.time (List.mem_reverse.1 hd)
    exact arr_same h.time h.ch.1 h.fr.1 h.fr.2 hd.1 hd.2 m h.to_.1 h.to_.2 (Ne.symm h.ne)
  · rw [List.reverse_reverse, List.append_nil]; exact depsS_asc t from_
  · intro m m1 m2
    have : m = 1 ∨ m = 2 ∨ m = 3 ∨ m = 4 := by omega
    rcases this with rfl | rfl | rfl | rfl <;> rfl
/-! ### What is asked of the profile -/
def fastGo : List Choice → Choice → Choice
  | [], b => b
  | c :: l, b => fastGo l (if c.Arrive - c.Depart < b.Arrive - b.Depart then c else b)
def noChoice : Choice := ⟨0, 0, 0⟩
def fastOf : List Choice → Choice × Bool
  | [] => (noChoice, false)
  | c :: l => (fastGo l c, true)
def costOf (at_ per : Int) (c : Choice) : Int := c.Arrive - at_ + per * c.Legs
def beats (b : Option (Choice × Int)) (v : Int) : Bool := match b with | none => true | some x => decide (v < x.2)
def costGo (at_ per : Int) : List Choice → Option (Choice × Int) → Option (Choice × Int)
  | [], b => b
  | c :: l, b => costGo at_ per l (if at_ ≤ c.Depart ∧ beats b (costOf at_ per c) = true then some (c, costOf at_ per c) else b)
def profRes (t : Timetable) (change from_ to : Int) : List Choice × Bool := if okPair t change from_ to = true then (profI t change from_ to, true) else ([], false)
def fastRes (t : Timetable) (change from_ to : Int) : Choice × Bool := if okPair t change from_ to = true then fastOf (profI t change from_ to) else (noChoice, false)
end Go.Proofs.Yteijofkkggifhaa
