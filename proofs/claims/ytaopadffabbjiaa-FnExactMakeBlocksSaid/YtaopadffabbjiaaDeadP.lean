/-
  Blocks: the minutes driven empty. Plain functions.
-/
import Derived.Test.YtaopadffabbjiaaBlkP
namespace Go.Proofs.Ytaopadffabbjiaa
open Go Go.RowKit
set_option linter.unusedVariables false
set_option maxRecDepth 100000
def pairDead (t : Timetable) (f : Fleet) (p v : Int) : Int := deadB t f (tripI t (findI t p)) (tripI t (findI t v))
def rowDeadGo (t : Timetable) (f : Fleet) : Int → List Int → Int
  | _, [] => 0
  | p, v :: l => pairDead t f p v + rowDeadGo t f v l
def rowDead (t : Timetable) (f : Fleet) : List Int → Int
  | [] => 0
  | p :: l => rowDeadGo t f p l
def deadAll (t : Timetable) (f : Fleet) : List (List Int) → Int
  | [] => 0
  | x :: l => rowDead t f x + deadAll t f l
def FoundAll (t : Timetable) (l : List Int) : Prop := ∀ v, v ∈ l → 0 ≤ findI t v
theorem pairDead_bd {t : Timetable} {f : Fleet} (h : RunFacts t f) {p v : Int} (hp : 0 ≤ findI t p) (hv : 0 ≤ findI t v) : 0 ≤ pairDead t f p v ∧ pairDead t f p v ≤ 120 := by
  have a := tripI_facts h.time hp (findI_bd t p).2
  have b := tripI_facts h.time hv (findI_bd t v).2
  exact deadB_bd h.time.net h.fleet a.line0 a.line1 b.line0 b.line1
theorem rowDeadGo_bd {t : Timetable} {f : Fleet} (h : RunFacts t f) (l : List Int) (p : Int) (hp : 0 ≤ findI t p) (hl : FoundAll t l) : 0 ≤ rowDeadGo t f p l ∧ rowDeadGo t f p l ≤ 120 * l.length := by
  induction l generalizing p with
  | nil => simp [rowDeadGo]
  | cons v l ih =>
    have h1 := pairDead_bd h hp (hl v (by simp))
    have h2 := ih v (hl v (by simp)) (fun u hu => hl u (by simp [hu]))
    simp only [rowDeadGo, List.length_cons]
    omega
theorem rowDead_bd {t : Timetable} {f : Fleet} (h : RunFacts t f) (l : List Int) (hl : FoundAll t l) : 0 ≤ rowDead t f l ∧ rowDead t f l ≤ 120 * l.length := by
  cases l with
  | nil => simp [rowDead]
  | cons p l =>
    have := rowDeadGo_bd h l p (hl p (by simp)) (fun u hu => hl u (by simp [hu]))
    simp only [rowDead, List.length_cons]
    omega
theorem deadAll_bd {t : Timetable} {f : Fleet} (h : RunFacts t f) (bs : List (List Int)) (hl : ∀ x, x ∈ bs → FoundAll t x) : 0 ≤ deadAll t f bs ∧ deadAll t f bs ≤ 120 * bs.flatten.length := by
  induction bs with
  | nil => simp [deadAll]
  | cons x l ih =>
    have h1 := rowDead_bd h x (hl x (by simp))
    have h2 := ih (fun y hy => hl y (by simp [hy]))
    simp only [deadAll, List.flatten_cons, List.length_append]
    omega
theorem blkGo_len {t : Timetable} {f : Fleet} {bs : List (List Int)} {prev : Option Int} {seen s : List Int} (h : blkGo t f bs prev seen = some s) : s.length = seen.length + bs.flatten.length := by
  induction bs generalizing prev seen with
  | nil => simp [blkGo] at h; subst h; simp
  | cons b bs ih =>
    cases b with
    | nil => simp [blkGo] at h
    | cons id b =>
      simp only [blkGo] at h
      by_cases hc : notUp prev id = true
      · rw [if_pos hc] at h; cases h
      · rw [if_neg hc] at h
        cases hs : rowGo t f (id :: b) (-1) seen with
        | none => rw [hs] at h; cases h
        | some s' =>
          rw [hs] at h
          have h1 := ih h
          have h2 := (rowGo_found hs).2
          rw [h1, h2, List.flatten_cons, List.length_append]
          omega
end Go.Proofs.Ytaopadffabbjiaa
