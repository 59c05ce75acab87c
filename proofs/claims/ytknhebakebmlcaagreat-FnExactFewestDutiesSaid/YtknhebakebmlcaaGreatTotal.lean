/-
 Duties: the sum of the paid minutes (TotalPaid).
-/
import Derived.Test.YtknhebakebmlcaaGreatCover
import Derived.Test.YtknhebakebmlcaaGreatPaid
namespace Go.Proofs.YtknhebakebmlcaaGreat
open Go Go.RowKit
set_option linter.unusedVariables false
set_option maxRecDepth 100000
theorem idsGo_len {ids seen s : List Int} (h : idsGo ids seen = some s) : s.length = seen.length + ids.length := by
 induction ids generalizing seen with
 | nil => simp only [idsGo, Option.some.injEq] at h; subst h; simp
 | cons v l ih =>
  simp only [idsGo] at h
  split at h
  ·cases h
  ·have := ih h
   simp at this ⊢
   omega
theorem coverGo_facts {t : Timetable} {f : Fleet} {bs : List (List Int)} {r : Rules} {l : List Duty} {last : Int} {seen s : List Int} (h : coverGo t f bs r l last seen = some s) :
  (∀ d, d ∈ l → brokenD t f bs r d.Pieces = 0) ∧ seen.length + l.length ≤ s.length := by
 induction l generalizing last seen with
 | nil => simp only [coverGo, Option.some.injEq] at h; subst h; simp
 | cons d l ih =>
  simp only [coverGo] at h
  split at h
  ·cases h
  rename_i hb
  have hb0 : brokenD t f bs r d.Pieces = 0 := by simpa using hb
  split at h
  ·cases h
  split at h
  ·cases h
  rename_i s1 hs1
  have h1 := idsGo_len hs1
  obtain ⟨h2, h3⟩ := ih h
  have hop := brokenD_ok hb0
  have hfl : 1 ≤ d.Pieces.flatten.length := by
   simp only [okPieces, Bool.and_eq_true, inB_t, List.all_eq_true] at hop
   obtain ⟨x0, hx0⟩ : ∃ x0, d.Pieces[0]? = some x0 := ⟨_, List.getElem?_eq_getElem (by omega)⟩
   have h5 := len_flat (List.mem_of_getElem? hx0)
   have h6 := pieceOk_pos (hop.1.2 x0 (List.mem_of_getElem? hx0))
   omega
  refine ⟨fun e he => ?_, by simp only [List.length_cons]; omega⟩
  rcases List.mem_cons.1 he with rfl | he
  ·exact hb0
  ·exact h2 e he
theorem okCover_facts {t : Timetable} {f : Fleet} {bs : List (List Int)} {r : Rules} {l : List Duty} (tf : TimeFacts t) (h : okCover t f bs r l = true) : (∀ d, d ∈ l → brokenD t f bs r d.Pieces = 0) ∧ l.length ≤ 12 := by
 unfold okCover at h
 split at h
 ·cases h
 rename_i s hs
 obtain ⟨h1, h2⟩ := coverGo_facts hs
 have h3 := tf.len
 have h4 : s.length = t.Trips.length := by simpa using h
 simp at h2
 exact ⟨h1, by omega⟩
theorem paidD_bd {t : Timetable} {f : Fleet} {r : Rules} {ps : List (List Int)} (df : DutyFacts t f r ps) : -12000 ≤ paidD t f r ps ∧ paidD t f r ps ≤ 12000 := by
 have r1 := df.rules.on
 have r2 := df.rules.off
 have r3 := df.rules.paid
 have hm := df.brk.max
 have h1 := sumI_bd (l := ps.map (durP t)) (lo := -1799) (hi := 1799) (fun x hx => by
  obtain ⟨p, hp, rfl⟩ := List.mem_map.1 hx
  have q1 := begP_bd df.run.time (df.brk.piece p hp) (df.brk.found p hp)
  have q2 := finP_bd df.run.time (df.brk.piece p hp) (df.brk.found p hp)
  unfold durP
  omega)
 have h2 := sumI_bd (l := (gapsP t f ps).map fun g => min g r.PaidBreak) (lo := -1919) (hi := 900) (fun x hx => by
  obtain ⟨g, hg, rfl⟩ := List.mem_map.1 hx
  have q1 := gapsP_mem df.run df.brk g hg
  omega)
 simp only [List.length_map, gapsP_len] at h1 h2
 unfold paidD durs minsG
 omega
def totalOk (t : Timetable) (f : Fleet) (bs : List (List Int)) (r : Rules) (ls : List Duty) : Bool := okRuled t f bs r && okCover t f bs r ls
def totalRes (t : Timetable) (f : Fleet) (bs : List (List Int)) (r : Rules) (ls : List Duty) : Int × Bool := if totalOk t f bs r ls = true then (paidAll t f r ls, true) else (0, false)
end Go.Proofs.YtknhebakebmlcaaGreat
