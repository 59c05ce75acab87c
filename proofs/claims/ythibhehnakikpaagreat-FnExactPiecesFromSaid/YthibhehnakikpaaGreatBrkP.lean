/-
  Duties: forms of the rules for the loops. Plain functions.
-/
import Derived.Test.YthibhehnakikpaaGreatDutyP
import Derived.Test.YthibhehnakikpaaGreatDeadM
import Derived.Test.YthibhehnakikpaaGreatRuled
import Derived.Lib.SlicesCompact
namespace Go.Proofs.YthibhehnakikpaaGreat
open Go Go.RowKit
set_option linter.unusedVariables false
set_option maxRecDepth 100000
def pcsGo (bs : List (List Int)) : List (List Int) → List Int → Bool
  | [], _ => true
  | p :: l, seen => pieceOk bs p && (match idsGo p seen with | none => false | some s => pcsGo bs l s)
def pcsThen (bs l : List (List Int)) (p seen : List Int) : Bool := match idsGo p seen with | none => false | some s => pcsGo bs l s
theorem idsGo_nodup {l seen : List Int} (h : seen.Nodup) : idsGo l seen = if (seen ++ l).Nodup then some (seen ++ l) else none := by
  induction l generalizing seen with
  | nil => simp [idsGo, h]
  | cons v l ih =>
    simp only [idsGo]
    by_cases c : v ∈ seen
    · rw [if_pos c, if_neg]
      intro hn
      rw [List.nodup_append] at hn
      exact hn.2.2 v c v (by simp) rfl
    · rw [if_neg c, ih (by
        rw [List.nodup_append]
        exact ⟨h, by simp, by intro a ha b hb; simp at hb; subst hb; intro e; subst e; exact c ha⟩)]
      simp [List.append_assoc]
theorem pcsGo_eq (bs ps : List (List Int)) {seen : List Int} (h : seen.Nodup) : pcsGo bs ps seen = (ps.all (pieceOk bs) && decide (seen ++ ps.flatten).Nodup) := by
  induction ps generalizing seen with
  | nil => simp [pcsGo, h]
  | cons p l ih =>
    simp only [pcsGo, List.all_cons, List.flatten_cons]
    rw [idsGo_nodup h]
    by_cases c : (seen ++ p).Nodup
    · rw [if_pos c]
      simp only
      rw [ih c, List.append_assoc]
      cases pieceOk bs p <;> simp
    · rw [if_neg c]
      have : ¬ (seen ++ (p ++ l.flatten)).Nodup := by
        rw [← List.append_assoc]
        intro e
        exact c (List.nodup_append.1 e).1
      simp [this]
theorem okPieces_go (bs ps : List (List Int)) : okPieces bs ps = (pcsGo bs ps [] && inB ps.length 1 3) := by
  rw [pcsGo_eq bs ps List.nodup_nil]
  unfold okPieces
  simp only [List.nil_append]
  cases inB (ps.length : Int) 1 3 <;> cases ps.all (pieceOk bs) <;> simp
theorem pcsThen_cons_in {bs l : List (List Int)} {v : Int} {p seen : List Int} (h : v ∈ seen) : pcsThen bs l (v :: p) seen = false := by unfold pcsThen; simp [idsGo, h]
theorem pcsThen_cons_out {bs l : List (List Int)} {v : Int} {p seen : List Int} (h : ¬ v ∈ seen) : pcsThen bs l (v :: p) seen = pcsThen bs l p (seen ++ [v]) := by unfold pcsThen; simp [idsGo, h]
theorem pcsThen_nil {bs l : List (List Int)} {seen : List Int} : pcsThen bs l [] seen = pcsGo bs l seen := rfl
theorem pcsGo_bad {bs l : List (List Int)} {p seen : List Int} (h : pieceOk bs p = false) : pcsGo bs (p :: l) seen = false := by simp [pcsGo, h]
theorem pcsGo_good {bs l : List (List Int)} {p seen : List Int} (h : pieceOk bs p = true) : pcsGo bs (p :: l) seen = pcsThen bs l p seen := by simp [pcsGo, h, pcsThen]
/-- Sorted and without what follows its like: shorter just where one comes twice. -/
theorem compact_short (zs : List Int) : (Lib.compact (zs.mergeSort fun x y => decide (x ≤ y))).length < zs.length ↔ ¬ zs.Nodup := by
  obtain ⟨S, hS⟩ : ∃ S, S = zs.mergeSort fun x y => decide (x ≤ y) := ⟨_, rfl⟩
  have hp : S.Perm zs := by rw [hS]; exact List.mergeSort_perm _ _
  have hs : S.Pairwise (fun a b => a ≤ b) := by
    rw [hS]
    have := List.pairwise_mergeSort (le := fun x y : Int => decide (x ≤ y)) (by intro a b c; simp; omega) (by intro a b; simp; omega) zs
    simpa using this
  rw [← hS, ← hp.nodup_iff, ← hp.length_eq]
  have hk : (Lib.compact S).length < S.length ↔ ∃ j, j < S.length ∧ Lib.keeps S.toArray j = false := by
    unfold Lib.compact Lib.compactUpTo
    rw [List.length_map]
    have := @List.length_filter_lt_length_iff_exists _ (Lib.keeps S.toArray) (List.range S.length)
    rw [List.length_range] at this
    rw [this]
    simp
  rw [hk]
  have hg : ∀ j (hj : j < S.length), S.toArray[j]! = S[j] := fun j hj => by simp [hj]
  constructor
  · rintro ⟨j, hj, h⟩ hn
    simp only [Lib.keeps, decide_eq_false_iff_not, not_or, Decidable.not_not] at h
    have h1 : j ≠ 0 := h.1
    have h2 : S[j] = S[j - 1] := by have := h.2; rw [hg j hj, hg (j - 1) (by omega)] at this; simpa using this
    rw [List.Nodup, List.pairwise_iff_getElem] at hn
    exact hn (j - 1) j (by omega) hj (by omega) h2.symm
  · intro hn
    apply Decidable.byContradiction
    intro hc
    apply hn
    have hall : ∀ j (hj : j < S.length), j ≠ 0 → S[j] ≠ S[j - 1] := by
      intro j hj h0 he
      apply hc
      refine ⟨j, hj, ?_⟩
      simp only [Lib.keeps, decide_eq_false_iff_not, not_or, Decidable.not_not]
      exact ⟨h0, by rw [hg j hj, hg (j - 1) (by omega)]; exact he⟩
    rw [List.pairwise_iff_getElem] at hs
    rw [List.Nodup, List.pairwise_iff_getElem]
    intro i j hi hj hij
    have h1 := hall j hj (by omega)
    have h2 : S[j - 1] ≤ S[j] := hs (j - 1) j (by omega) hj (by omega)
    have h3 : S[i] ≤ S[j - 1] := by
      by_cases e : i = j - 1
      · subst e; exact Int.le_refl _
      · exact hs i (j - 1) hi (by omega) (by omega)
    omega
/-- Lists of a size that numbers bear. -/
structure Fits (ps : List (List Int)) : Prop where
  all : ps.flatten.length ≤ 4194304
  each : ∀ p, p ∈ ps → p.length ≤ 1048576
/-- What is known where the first rule is kept. -/
structure BrkFacts (t : Timetable) (ps : List (List Int)) : Prop where
  pos : 0 < ps.length
  max : ps.length ≤ 3
  piece : ∀ p, p ∈ ps → 0 < p.length
  found : ∀ p, p ∈ ps → FoundAll t p
theorem brkFacts {t : Timetable} {f : Fleet} {bs ps : List (List Int)} (h : okBlocks t f bs = true) (hp : okPieces bs ps = true) : BrkFacts t ps := by
  have h1 := h
  simp only [okBlocks, Bool.and_eq_true] at h1
  have bf := blkFacts h1.2
  have ⟨a, b⟩ := pcsFacts bf hp
  exact ⟨a.pos, b, fun p hp => (a.pieces p hp).1, fun p hp => (a.pieces p hp).2⟩
theorem BrkFacts.at_ {t : Timetable} {ps : List (List Int)} (h : BrkFacts t ps) {k : Nat} {p : List Int} (hp : ps[k]? = some p) : 0 < p.length ∧ FoundAll t p :=
  ⟨h.piece p (List.mem_of_getElem? hp), h.found p (List.mem_of_getElem? hp)⟩
theorem gapsP_mem {t : Timetable} {f : Fleet} (rf : RunFacts t f) {ps : List (List Int)} (h : BrkFacts t ps) : ∀ g, g ∈ gapsP t f ps → -1919 ≤ g ∧ g ≤ 1799 := by
  intro g hg
  obtain ⟨k, hk⟩ := List.getElem?_of_mem hg
  have hl : k < (gapsP t f ps).length := (List.getElem?_eq_some_iff.1 hk).1
  rw [gapsP_len] at hl
  have h0 : ps[k]? = some ps[k] := List.getElem?_eq_getElem (by omega)
  have h1 : ps[k + 1]? = some ps[k + 1] := List.getElem?_eq_getElem (by omega)
  have h2 := gapsP_at (t := t) (f := f) h0 h1
  rw [hk] at h2
  obtain rfl := Option.some.inj h2
  have a := h.at_ h0
  have b := h.at_ h1
  exact gapP_bd rf a.1 b.1 a.2 b.2
theorem lastP_of {ps : List (List Int)} {m : Nat} {x : List Int} (hl : m + 1 = ps.length) (h : ps[m]? = some x) : ps.getLastD [] = x := by
  rw [List.getLastD_eq_getLast?, List.getLast?_eq_getElem?, ← hl]
  simp [h]
theorem headP_of {ps : List (List Int)} {x : List Int} (h : ps[0]? = some x) : ps.headD [] = x := by
  cases ps with
  | nil => simp at h
  | cons y l => simpa using h
theorem lenD_bd {t : Timetable} (tf : TimeFacts t) {r : Rules} (rf : RulesFacts r) {ps : List (List Int)} (h : BrkFacts t ps) : -1799 ≤ lenD t r ps ∧ lenD t r ps ≤ 3599 := by
  have hp := h.pos
  have h0 : ps[0]? = some ps[0] := List.getElem?_eq_getElem (by omega)
  have h1 : ps[ps.length - 1]? = some ps[ps.length - 1] := List.getElem?_eq_getElem (by omega)
  have a := h.at_ h0
  have b := h.at_ h1
  have h2 := begP_bd tf a.1 a.2
  have h3 := finP_bd tf b.1 b.2
  have h4 := rf.on
  have h5 := rf.off
  unfold lenD
  rw [lastP_of (by omega) h1, headP_of h0]
  omega
section
variable {t : Timetable} {f : Fleet} {bs ps : List (List Int)} {r : Rules}
def overD (t : Timetable) (r : Rules) (p : List Int) : Bool := decide (r.MaxDrive < finP t p - begP t p)
def shortB (r : Rules) (g : Int) : Bool := decide (g < r.MinBreak)
theorem brokenD_1 (h : okPieces bs ps = false) : brokenD t f bs r ps = 1 := if_pos h
theorem brokenD_2 (h : okPieces bs ps = true) (h2 : ps.any (overD t r) = true) : brokenD t f bs r ps = 2 := by
  unfold brokenD
  rw [if_neg (by rw [h]; simp), if_pos (by exact h2)]
theorem brokenD_3 (h : okPieces bs ps = true) (h2 : ps.any (overD t r) = false) (h3 : (gapsP t f ps).any (shortB r) = true) : brokenD t f bs r ps = 3 := by
  unfold brokenD
  rw [if_neg (by rw [h]; simp), if_neg (by show ¬ (ps.any (overD t r) = true); rw [h2]; simp), if_pos (by exact h3)]
theorem brokenD_4 (h : okPieces bs ps = true) (h2 : ps.any (overD t r) = false) (h3 : (gapsP t f ps).any (shortB r) = false) (h4 : r.MaxLength < lenD t r ps) : brokenD t f bs r ps = 4 := by
  unfold brokenD
  rw [if_neg (by rw [h]; simp), if_neg (by show ¬ (ps.any (overD t r) = true); rw [h2]; simp), if_neg (by show ¬ ((gapsP t f ps).any (shortB r) = true); rw [h3]; simp), if_pos h4]
theorem brokenD_0 (h : okPieces bs ps = true) (h2 : ps.any (overD t r) = false) (h3 : (gapsP t f ps).any (shortB r) = false) (h4 : ¬ r.MaxLength < lenD t r ps) : brokenD t f bs r ps = 0 := by
  unfold brokenD
  rw [if_neg (by rw [h]; simp), if_neg (by show ¬ (ps.any (overD t r) = true); rw [h2]; simp), if_neg (by show ¬ ((gapsP t f ps).any (shortB r) = true); rw [h3]; simp), if_neg h4]
theorem brokenD_ok (h : brokenD t f bs r ps = 0) : okPieces bs ps = true := by
  cases c : okPieces bs ps with
  | true => rfl
  | false => rw [brokenD_1 c] at h; cases h
end
theorem any_snoc {α : Type} {l : List α} {k : Nat} {x : α} {p : α → Bool} (hx : l[k]? = some x) (h : (l.take k).any p = false) (hp : p x = false) : (l.take (k + 1)).any p = false := by
  rw [take_succ_at hx, List.any_append, h]
  simp [hp]
theorem any_at {α : Type} {l : List α} {k : Nat} {x : α} {p : α → Bool} (hx : l[k]? = some x) (hp : p x = true) : l.any p = true :=
  List.any_eq_true.2 ⟨x, List.mem_of_getElem? hx, hp⟩
theorem all_snoc {α : Type} {l : List α} {k : Nat} {x : α} {p : α → Bool} (hx : l[k]? = some x) (h : (l.take k).all p = true) (hp : p x = true) : (l.take (k + 1)).all p = true := by
  rw [take_succ_at hx, List.all_append, h]
  simp [hp]
theorem all_not {α : Type} {l : List α} {k : Nat} {x : α} {p : α → Bool} (hx : l[k]? = some x) (hp : p x = false) : l.all p = false := by
  cases c : l.all p with
  | false => rfl
  | true => rw [List.all_eq_true] at c; rw [c x (List.mem_of_getElem? hx)] at hp; cases hp
theorem flat_snoc {l : List (List Int)} {k : Nat} {x : List Int} (hx : l[k]? = some x) : (l.take (k + 1)).flatten = (l.take k).flatten ++ x := by
  rw [take_succ_at hx]
  simp
theorem flat_take_le (l : List (List Int)) (k : Nat) : (l.take k).flatten.length ≤ l.flatten.length := by
  have : l.flatten = (l.take k).flatten ++ (l.drop k).flatten := by rw [← List.flatten_append, List.take_append_drop]
  rw [this, List.length_append]
  omega
theorem okPieces_all {bs ps : List (List Int)} (h : ps.all (pieceOk bs) = false) : okPieces bs ps = false := by unfold okPieces; rw [h]; simp
theorem okPieces_len {bs ps : List (List Int)} (h : inB ps.length 1 3 = false) : okPieces bs ps = false := by unfold okPieces; rw [h]; simp
theorem okPieces_dup {bs ps : List (List Int)} (h : ¬ ps.flatten.Nodup) : okPieces bs ps = false := by unfold okPieces; simp [h]
theorem okPieces_yes {bs ps : List (List Int)} (h1 : inB ps.length 1 3 = true) (h2 : ps.all (pieceOk bs) = true) (h3 : ps.flatten.Nodup) : okPieces bs ps = true := by unfold okPieces; rw [h1, h2]; simp [h3]
end Go.Proofs.YthibhehnakikpaaGreat
