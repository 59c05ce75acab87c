/-
  Duties: pieces, gaps, lengths, what rule is broken. Plain functions.
-/
import Derived.Test.YtbkeccpjcmhhjaaDeadP
import Derived.Test.YtbkeccpjcmhhjaaPlace
namespace Go.Proofs.Ytbkeccpjcmhhjaa
open Go Go.RowKit
set_option linter.unusedVariables false
set_option maxRecDepth 100000
def blkI (bs : List (List Int)) (i : Int) : List Int := bs.getD i.toNat []
theorem blkI_of {bs : List (List Int)} {m : Nat} {x : List Int} (h : bs[m]? = some x) : blkI bs m = x := by simp [blkI, List.getD, h]
def cutOf (bs : List (List Int)) (v : Int) (n : Nat) : List Int := ((blkI bs (placeOf 0 v bs).1).drop (placeOf 0 v bs).2.toNat).take n
/-- A list of ids stands in one of the blocks. -/
def pieceOk (bs : List (List Int)) : List Int → Bool
  | [] => false
  | v :: p => decide (0 ≤ (placeOf 0 v bs).1) && decide (cutOf bs v (p.length + 1) = v :: p)
theorem placeGo_at {d v : Int} {bs : List (List Int)} {k : Nat} (h : 0 ≤ (placeGo d v bs k).1) :
    ∃ (m j : Nat) (x : List Int), placeGo d v bs k = (((k + m : Nat) : Int), (j : Int)) ∧ bs[m]? = some x ∧ x[j]? = some v := by
  induction bs generalizing k with
  | nil => simp [placeGo] at h
  | cons x l ih =>
    simp only [placeGo] at h ⊢
    by_cases c : 0 ≤ idx (intIs v) x
    · rw [if_pos c]
      obtain ⟨j, y, h1, h2, h3⟩ := idx_at c
      have : y = v := by simpa [intIs] using h2
      subst this
      exact ⟨0, j, x, by rw [h3]; simp, rfl, h1⟩
    · rw [if_neg c] at h ⊢
      obtain ⟨m, j, y, h1, h2, h3⟩ := ih h
      exact ⟨m + 1, j, y, by rw [h1]; congr 2; omega, by simpa using h2, h3⟩
theorem placeOf_at {d v : Int} {bs : List (List Int)} (h : 0 ≤ (placeOf d v bs).1) :
    ∃ (m j : Nat) (x : List Int), placeOf d v bs = ((m : Int), (j : Int)) ∧ bs[m]? = some x ∧ x[j]? = some v := by
  obtain ⟨m, j, x, h1, h2, h3⟩ := placeGo_at (k := 0) h
  exact ⟨m, j, x, by unfold placeOf; rw [h1]; simp, h2, h3⟩
/-- What is known of a piece. -/
theorem pieceOk_mem {bs : List (List Int)} {p : List Int} (h : pieceOk bs p = true) : ∃ x, x ∈ bs ∧ ∀ v, v ∈ p → v ∈ x := by
  cases p with
  | nil => simp [pieceOk] at h
  | cons v p =>
    simp only [pieceOk, Bool.and_eq_true, decide_eq_true_eq] at h
    obtain ⟨m, j, x, h1, h2, h3⟩ := placeOf_at h.1
    refine ⟨x, List.mem_of_getElem? h2, fun u hu => ?_⟩
    have h4 := h.2
    unfold cutOf at h4
    rw [h1] at h4
    simp only [blkI_of h2] at h4
    rw [← h4] at hu
    exact List.mem_of_mem_drop (List.mem_of_mem_take hu)
theorem pieceOk_found {t : Timetable} {bs : List (List Int)} {p : List Int} (bf : BlkFacts t bs) (h : pieceOk bs p = true) : FoundAll t p := by
  obtain ⟨x, hx, hv⟩ := pieceOk_mem h
  obtain ⟨i, hi⟩ := List.getElem?_of_mem hx
  intro v hvp
  obtain ⟨j, hj⟩ := List.getElem?_of_mem (hv v hvp)
  exact bf.found i x hi j v hj
theorem pieceOk_pos {bs : List (List Int)} {p : List Int} (h : pieceOk bs p = true) : 0 < p.length := by
  cases p with
  | nil => simp [pieceOk] at h
  | cons v p => simp
def headI (p : List Int) : Int := p.headD 0
def lastI (p : List Int) : Int := p.getLastD 0
theorem headI_of {p : List Int} {v : Int} (h : p[0]? = some v) : headI p = v := by
  cases p with
  | nil => simp at h
  | cons x p => simpa [headI] using h
theorem lastI_of {p : List Int} {v : Int} {m : Nat} (hl : m + 1 = p.length) (h : p[m]? = some v) : lastI p = v := by
  unfold lastI
  rw [List.getLastD_eq_getLast?, List.getLast?_eq_getElem?, ← hl]
  simp [h]
theorem headI_mem {p : List Int} (h : 0 < p.length) : headI p ∈ p := by
  cases p with
  | nil => simp at h
  | cons x p => simp [headI]
theorem lastI_mem {p : List Int} (h : 0 < p.length) : lastI p ∈ p := by
  obtain ⟨m, hm⟩ : ∃ m, m + 1 = p.length := ⟨p.length - 1, by omega⟩
  have : lastI p = p[m] := lastI_of hm (List.getElem?_eq_getElem (by omega))
  rw [this]
  exact List.getElem_mem _
/-- When a piece begins and when it ends. -/
def begP (t : Timetable) (p : List Int) : Int := (tripI t (findI t (headI p))).Start
def finP (t : Timetable) (p : List Int) : Int := endAt t (tripI t (findI t (lastI p)))
theorem begP_bd {t : Timetable} (h : TimeFacts t) {p : List Int} (hp : 0 < p.length) (hf : FoundAll t p) : 0 ≤ begP t p ∧ begP t p ≤ 1799 :=
  (tripI_facts h (hf _ (headI_mem hp)) (findI_bd t _).2).start
theorem finP_bd {t : Timetable} (h : TimeFacts t) {p : List Int} (hp : 0 < p.length) (hf : FoundAll t p) : 0 ≤ finP t p ∧ finP t p ≤ 1799 :=
  (tripI_facts h (hf _ (lastI_mem hp)) (findI_bd t _).2).fin
def gapP (t : Timetable) (f : Fleet) (a b : List Int) : Int := begP t b - finP t a - pairDead t f (lastI a) (headI b)
theorem gapP_bd {t : Timetable} {f : Fleet} (h : RunFacts t f) {a b : List Int} (ha : 0 < a.length) (hb : 0 < b.length) (fa : FoundAll t a) (fb : FoundAll t b) : -1919 ≤ gapP t f a b ∧ gapP t f a b ≤ 1799 := by
  have h1 := begP_bd h.time hb fb
  have h2 := finP_bd h.time ha fa
  have h3 := pairDead_bd h (fa _ (lastI_mem ha)) (fb _ (headI_mem hb))
  unfold gapP
  omega
def gapsGo (t : Timetable) (f : Fleet) : List Int → List (List Int) → List Int
  | _, [] => []
  | a, b :: l => gapP t f a b :: gapsGo t f b l
def gapsP (t : Timetable) (f : Fleet) : List (List Int) → List Int
  | [] => []
  | a :: l => gapsGo t f a l
theorem gapsGo_len (t : Timetable) (f : Fleet) (a : List Int) (l : List (List Int)) : (gapsGo t f a l).length = l.length := by
  induction l generalizing a with
  | nil => rfl
  | cons b l ih => simp [gapsGo, ih]
theorem gapsP_len (t : Timetable) (f : Fleet) (ps : List (List Int)) : (gapsP t f ps).length = ps.length - 1 := by
  cases ps with
  | nil => rfl
  | cons a l => simp [gapsP, gapsGo_len]
theorem gapsGo_at {t : Timetable} {f : Fleet} {a : List Int} {l : List (List Int)} {k : Nat} {x y : List Int} (hx : (a :: l)[k]? = some x) (hy : l[k]? = some y) : (gapsGo t f a l)[k]? = some (gapP t f x y) := by
  induction l generalizing a k with
  | nil => simp at hy
  | cons b l ih =>
    cases k with
    | zero => simp at hx hy; subst hx; subst hy; simp [gapsGo]
    | succ k => simp only [gapsGo, List.getElem?_cons_succ] at *; exact ih hx hy
theorem gapsP_at {t : Timetable} {f : Fleet} {ps : List (List Int)} {k : Nat} {x y : List Int} (hx : ps[k]? = some x) (hy : ps[k + 1]? = some y) : (gapsP t f ps)[k]? = some (gapP t f x y) := by
  cases ps with
  | nil => simp at hx
  | cons a l => exact gapsGo_at hx (by simpa using hy)
/-- Pieces that are pieces, one to three, no trip twice. -/
def okPieces (bs ps : List (List Int)) : Bool := inB ps.length 1 3 && ps.all (pieceOk bs) && decide ps.flatten.Nodup
structure PcsFacts (t : Timetable) (ps : List (List Int)) : Prop where
  pos : 0 < ps.length
  pieces : ∀ p, p ∈ ps → 0 < p.length ∧ FoundAll t p
theorem pcsFacts {t : Timetable} {bs ps : List (List Int)} (bf : BlkFacts t bs) (h : okPieces bs ps = true) : PcsFacts t ps ∧ ps.length ≤ 3 := by
  simp only [okPieces, Bool.and_eq_true, inB_t, List.all_eq_true] at h
  exact ⟨⟨by omega, fun p hp => ⟨pieceOk_pos (h.1.2 p hp), pieceOk_found bf (h.1.2 p hp)⟩⟩, by omega⟩
def lenD (t : Timetable) (r : Rules) (ps : List (List Int)) : Int := r.SignOn + finP t (ps.getLastD []) - begP t (ps.headD []) + r.SignOff
def brokenD (t : Timetable) (f : Fleet) (bs : List (List Int)) (r : Rules) (ps : List (List Int)) : Int :=
  if okPieces bs ps = false then 1
  else if ps.any (fun p => decide (r.MaxDrive < finP t p - begP t p)) then 2
  else if (gapsP t f ps).any (fun g => decide (g < r.MinBreak)) then 3
  else if r.MaxLength < lenD t r ps then 4
  else 0
theorem gapsGo_snoc (t : Timetable) (f : Fleet) (a : List Int) (l : List (List Int)) (x y : List Int) (h : (a :: l).getLastD [] = y) : gapsGo t f a (l ++ [x]) = gapsGo t f a l ++ [gapP t f y x] := by
  induction l generalizing a with
  | nil => simp [List.getLastD] at h; subst h; rfl
  | cons b l ih =>
    simp only [List.cons_append, gapsGo]
    rw [ih b (by rw [← h]; simp [List.getLastD])]
theorem gapsP_take {t : Timetable} {f : Fleet} {ps : List (List Int)} {k : Nat} {x y : List Int} (hx : ps[k]? = some x) (hy : ps[k + 1]? = some y) : gapsP t f (ps.take (k + 1 + 1)) = gapsP t f (ps.take (k + 1)) ++ [gapP t f x y] := by
  rw [take_succ_at hy]
  cases ps with
  | nil => simp at hx
  | cons a l =>
    simp only [List.take_succ_cons, List.cons_append, gapsP]
    refine gapsGo_snoc t f a _ y x ?_
    have hk := (List.getElem?_eq_some_iff.1 hx).1
    rw [List.getLastD_eq_getLast?, List.getLast?_eq_getElem?]
    have hlen : (a :: List.take k l).length - 1 = k := by simp at hk ⊢; omega
    rw [hlen]
    rw [show (a :: List.take k l) = (a :: l).take (k + 1) from rfl, List.getElem?_take]
    simp [hx]
theorem gapsP_one (t : Timetable) (f : Fleet) (ps : List (List Int)) : gapsP t f (ps.take 1) = [] := by
  cases ps with
  | nil => rfl
  | cons a l => rfl
def durP (t : Timetable) (p : List Int) : Int := finP t p - begP t p
def durs (t : Timetable) (ps : List (List Int)) : Int := sumI (ps.map (durP t))
def minsG (r : Rules) (gs : List Int) : Int := sumI (gs.map fun g => min g r.PaidBreak)
/-- The paid minutes of a duty. -/
def paidD (t : Timetable) (f : Fleet) (r : Rules) (ps : List (List Int)) : Int := r.SignOn + r.SignOff + durs t ps + minsG r (gapsP t f ps)
/-- The ids behind those that were seen; none: one comes twice. -/
def idsGo : List Int → List Int → Option (List Int)
  | [], seen => some seen
  | v :: l, seen => if v ∈ seen then none else idsGo l (seen ++ [v])
def coverGo (t : Timetable) (f : Fleet) (bs : List (List Int)) (r : Rules) : List Duty → Int → List Int → Option (List Int)
  | [], _, seen => some seen
  | d :: l, last, seen =>
    if brokenD t f bs r d.Pieces ≠ 0 then none
    else if headI (d.Pieces.headD []) ≤ last then none
    else match idsGo d.Pieces.flatten seen with
      | none => none
      | some s => coverGo t f bs r l (headI (d.Pieces.headD [])) s
def okCover (t : Timetable) (f : Fleet) (bs : List (List Int)) (r : Rules) (l : List Duty) : Bool :=
  match coverGo t f bs r l 0 [] with
  | none => false
  | some s => decide (s.length = t.Trips.length)
/-- The place of the duty in which a trip lies, or -1. -/
def hasId (v : Int) (d : Duty) : Bool := d.Pieces.any fun p => decide (v ∈ p)
def dutyI (l : List Duty) (v : Int) : Int := idx (hasId v) l
def paidAll (t : Timetable) (f : Fleet) (r : Rules) (l : List Duty) : Int := sumI (l.map fun d => paidD t f r d.Pieces)
end Go.Proofs.Ytbkeccpjcmhhjaa
