/-
 Duties: whether a list of duties covers the blocks (isCover, l13Covers, IsCover).
-/
import Derived.Test.YtknhebakebmlcaaGreatDc
namespace Go.Proofs.YtknhebakebmlcaaGreat
open Go Go.RowKit
set_option linter.unusedVariables false
set_option maxRecDepth 100000
section
variable {t : Timetable} {f : Fleet} {bs : List (List Int)} {r : Rules}
def idsThen (t : Timetable) (f : Fleet) (bs : List (List Int)) (r : Rules) (l : List Duty) (lst : Int) (ids seen : List Int) : Option (List Int) := match idsGo ids seen with | none => none | some s => coverGo t f bs r l lst s
theorem idsThen_in {l : List Duty} {lst v : Int} {ids seen : List Int} (h : v ∈ seen) : idsThen t f bs r l lst (v :: ids) seen = none := by unfold idsThen; simp [idsGo, h]
theorem idsThen_out {l : List Duty} {lst v : Int} {ids seen : List Int} (h : ¬ v ∈ seen) : idsThen t f bs r l lst (v :: ids) seen = idsThen t f bs r l lst ids (seen ++ [v]) := by unfold idsThen; simp [idsGo, h]
theorem idsThen_nil {l : List Duty} {lst : Int} {seen : List Int} : idsThen t f bs r l lst [] seen = coverGo t f bs r l lst seen := rfl
theorem coverGo_good {d : Duty} {l : List Duty} {last : Int} {seen : List Int} (h1 : brokenD t f bs r d.Pieces = 0) (h2 : ¬ headI (d.Pieces.headD []) ≤ last) : coverGo t f bs r (d :: l) last seen = idsThen t f bs r l (headI (d.Pieces.headD [])) d.Pieces.flatten seen := by
 simp only [coverGo]
 rw [if_neg (by rw [h1]; simp), if_neg h2]
 rfl
theorem coverGo_bad1 {d : Duty} {l : List Duty} {last : Int} {seen : List Int} (h : brokenD t f bs r d.Pieces ≠ 0) : coverGo t f bs r (d :: l) last seen = none := by
 simp only [coverGo]
 rw [if_pos h]
theorem coverGo_bad2 {d : Duty} {l : List Duty} {last : Int} {seen : List Int} (h1 : brokenD t f bs r d.Pieces = 0) (h2 : headI (d.Pieces.headD []) ≤ last) : coverGo t f bs r (d :: l) last seen = none := by
 simp only [coverGo]
 rw [if_neg (by rw [h1]; simp), if_pos h2]
theorem okCover_none {l : List Duty} (h : coverGo t f bs r l 0 [] = none) : okCover t f bs r l = false := by unfold okCover; rw [h]
theorem okCover_some {l : List Duty} {s : List Int} (h : coverGo t f bs r l 0 [] = some s) : okCover t f bs r l = decide (s.length = t.Trips.length) := by unfold okCover; rw [h]
end
structure SeenI (t : Timetable) (sn : List Int) : Prop where
 ok : SeenOk t (sn.map (findI t))
 found : ∀ v, v ∈ sn → 0 ≤ findI t v
theorem SeenI.nil (t : Timetable) : SeenI t [] := ⟨SeenOk.nil t, by simp⟩
theorem SeenI.len {t : Timetable} {sn : List Int} (h : SeenI t sn) (tf : TimeFacts t) : sn.length ≤ 12 := by have := h.ok.len tf; simpa using this
theorem SeenI.mem {t : Timetable} {sn : List Int} (h : SeenI t sn) {v : Int} (hv : 0 ≤ findI t v) : findI t v ∈ sn.map (findI t) ↔ v ∈ sn := by
 rw [List.mem_map]
 constructor
 ·rintro ⟨u, hu, he⟩
  rw [find_eq (h.found u hu)] at he
  exact he ▸ hu
 ·exact fun hm => ⟨v, hm, rfl⟩
theorem SeenI.snoc {t : Timetable} {sn : List Int} (h : SeenI t sn) {v : Int} (hv : 0 ≤ findI t v) (hn : v ∉ sn) : SeenI t (sn ++ [v]) := by
 refine ⟨?_, fun u hu => ?_⟩
 ·rw [List.map_append]
  exact h.ok.snoc hv (findI_bd t v).2 (fun hm => hn ((h.mem hv).1 hm))
 ·rcases List.mem_append.1 hu with hu | hu
  ·exact h.found u hu
  ·simp at hu; subst hu; exact hv
theorem SeenI.i64 {t : Timetable} {sn : List Int} (h : SeenI t sn) (tf : TimeFacts t) : ∀ v, v ∈ sn → I64 v := by
 intro v hv
 have h0 := h.found v hv
 have h1 := findI_id h0
 have h2 := (tripI_facts tf h0 (findI_bd t v).2).id
 unfold I64
 omega
theorem flat_drop {ps : List (List Int)} {k : Nat} {x : List Int} (hx : ps[k]? = some x) : (ps.drop k).flatten = x ++ (ps.drop (k + 1)).flatten := by rw [drop_at hx]; rfl
theorem headV_pos {t : Timetable} (tf : TimeFacts t) {v : Int} (h : 0 ≤ findI t v) : 0 < v := by
 by_cases c : v ≤ 0
 ·have := find_neg tf c; omega
 ·omega
/-- The duty before the k-th, of which the first id is lst. -/
def LastAt (t : Timetable) (f : Fleet) (bs : List (List Int)) (r : Rules) (ls : List Duty) (k : Nat) (lst : Int) : Prop :=
 (k = 0 ∧ lst = 0) ∨ ∃ m d, k = m + 1 ∧ ls[m]? = some d ∧ lst = headI (d.Pieces.headD []) ∧ brokenD t f bs r d.Pieces = 0
def coverRes (t : Timetable) (f : Fleet) (bs : List (List Int)) (r : Rules) (ls : List Duty) : Bool × Bool := if okRuled t f bs r = true then (okCover t f bs r ls, true) else (false, false)
end Go.Proofs.YtknhebakebmlcaaGreat
