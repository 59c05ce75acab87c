/-
 Blocks: the minutes driven empty. Plain functions.
 Blocks: where a trip lies in them.
 Duties: pieces, gaps, lengths, what rule is broken. Plain functions.
 Pieces: equality of lists of numbers, a part of a slice, whether a list is a piece.
 Blocks: DeadMinutes on both sides.
 Blocks and rules: whether all are valid; the bound of duties.
 Blocks: IsPiece on both sides.
 Duties: forms of the rules for the loops. Plain functions.
-/
import Derived.Test.YtknhebakebmlcaaGreatKc
import Derived.Deep.RegionHeld3
import Derived.Test.YtknhebakebmlcaaGreatBlkD
import Derived.Test.YtknhebakebmlcaaGreatKa
import Derived.Lib.SlicesCompact
namespace Go.Proofs.YtknhebakebmlcaaGreat
open Go Go.RowKit
set_option linter.unusedVariables false
set_option maxRecDepth 100000
def pairDead (t : Timetable) (f : Fleet) (p v : Int) : Int := deadB t f (tripI t (findI t p)) (tripI t (findI t v))
def rowDeadGo (t : Timetable) (f : Fleet) : Int → List Int → Int
 | _, [] => 0
 | p, v :: l => pairDead t f p v + rowDeadGo t f v l
def rowDead (t : Timetable) (f : Fleet) : List Int → Int
 | [] => 0
 | p :: l => rowDeadGo t f p l
def deadAll (t : Timetable) (f : Fleet) : List (List Int) → Int
 | [] => 0
 | x :: l => rowDead t f x + deadAll t f l
def FoundAll (t : Timetable) (l : List Int) : Prop := ∀ v, v ∈ l → 0 ≤ findI t v
theorem pairDead_bd {t : Timetable} {f : Fleet} (h : RunFacts t f) {p v : Int} (hp : 0 ≤ findI t p) (hv : 0 ≤ findI t v) : 0 ≤ pairDead t f p v ∧ pairDead t f p v ≤ 120 := by
 have a := tripI_facts h.time hp (findI_bd t p).2
 have b := tripI_facts h.time hv (findI_bd t v).2
 exact deadB_bd h.time.net h.fleet a.line0 a.line1 b.line0 b.line1
theorem rowDeadGo_bd {t : Timetable} {f : Fleet} (h : RunFacts t f) (l : List Int) (p : Int) (hp : 0 ≤ findI t p) (hl : FoundAll t l) : 0 ≤ rowDeadGo t f p l ∧ rowDeadGo t f p l ≤ 120 * l.length := by
 induction l generalizing p with
 | nil => simp [rowDeadGo]
 | cons v l ih =>
  have h1 := pairDead_bd h hp (hl v (by simp))
  have h2 := ih v (hl v (by simp)) (fun u hu => hl u (by simp [hu]))
  simp only [rowDeadGo, List.length_cons]
  omega
theorem rowDead_bd {t : Timetable} {f : Fleet} (h : RunFacts t f) (l : List Int) (hl : FoundAll t l) : 0 ≤ rowDead t f l ∧ rowDead t f l ≤ 120 * l.length := by
 cases l with
 | nil => simp [rowDead]
 | cons p l =>
  have := rowDeadGo_bd h l p (hl p (by simp)) (fun u hu => hl u (by simp [hu]))
  simp only [rowDead, List.length_cons]
  omega
theorem deadAll_bd {t : Timetable} {f : Fleet} (h : RunFacts t f) (bs : List (List Int)) (hl : ∀ x, x ∈ bs → FoundAll t x) : 0 ≤ deadAll t f bs ∧ deadAll t f bs ≤ 120 * bs.flatten.length := by
 induction bs with
 | nil => simp [deadAll]
 | cons x l ih =>
  have h1 := rowDead_bd h x (hl x (by simp))
  have h2 := ih (fun y hy => hl y (by simp [hy]))
  simp only [deadAll, List.flatten_cons, List.length_append]
  omega
theorem blkGo_len {t : Timetable} {f : Fleet} {bs : List (List Int)} {prev : Option Int} {seen s : List Int} (h : blkGo t f bs prev seen = some s) : s.length = seen.length + bs.flatten.length := by
 induction bs generalizing prev seen with
 | nil => simp [blkGo] at h; subst h; simp
 | cons b bs ih =>
  cases b with
  | nil => simp [blkGo] at h
  | cons id b =>
   simp only [blkGo] at h
   by_cases hc : notUp prev id = true
   ·rw [if_pos hc] at h; cases h
   ·rw [if_neg hc] at h
    cases hs : rowGo t f (id :: b) (-1) seen with
    | none => rw [hs] at h; cases h
    | some s' =>
     rw [hs] at h
     have h1 := ih h
     have h2 := (rowGo_found hs).2
     rw [h1, h2, List.flatten_cons, List.length_append]
     omega
end Go.Proofs.YtknhebakebmlcaaGreat
namespace Go.Proofs.YtknhebakebmlcaaGreat
open Go Go.RowKit
set_option linter.unusedVariables false
set_option maxRecDepth 100000
/-- d: what stands for the place where there is none. -/
def placeGo (d v : Int) : List (List Int) → Nat → Int × Int
 | [], _ => (-1, d)
 | x :: l, k => if 0 ≤ idx (intIs v) x then ((k : Int), idx (intIs v) x) else placeGo d v l (k + 1)
def placeOf (d v : Int) (bs : List (List Int)) : Int × Int := placeGo d v bs 0
theorem placeGo_any (v : Int) (bs : List (List Int)) (k : Nat) : ((placeGo 0 v bs k).1 < 0 ∧ (placeGo (-1) v bs k).1 < 0) ∨ (0 ≤ (placeGo 0 v bs k).1 ∧ placeGo (-1) v bs k = placeGo 0 v bs k) := by
 induction bs generalizing k with
 | nil => left; simp [placeGo]
 | cons x l ih =>
  simp only [placeGo]
  split
  ·right; exact ⟨by simp, rfl⟩
  ·exact ih (k + 1)
theorem placeOf_any (v : Int) (bs : List (List Int)) : ((placeOf 0 v bs).1 < 0 ∧ (placeOf (-1) v bs).1 < 0) ∨ (0 ≤ (placeOf 0 v bs).1 ∧ placeOf (-1) v bs = placeOf 0 v bs) := placeGo_any v bs 0
theorem impl_placeIn {w0 w : World} {bA : Option Addr} {bn bc : Nat} {bs : List (List Int)} (h : Sl 1 (rSl 1 rInt) w0 bA bn bc bs) (hl : Later w0 w) (v : Int) :
  Calls Tryz.prog 57 #[.slice bA bn bc, .int .i64 v] w (Ret (.tuple #[.int .i64 (placeOf 0 v bs).1, .int .i64 (placeOf 0 v bs).2]) w) := by
 have hB := h.later hl
 have hbl := hB.le
 have Hbl := Lib.hid hB.len
 clear h
 go_enter Tryz.func57, Tryz.ntmps57
 go_wp2
 go_loopw [11] (fun i wr => ∃ k : Nat, k ≤ bn ∧ i = .int .i64 k ∧ Hid (placeGo 0 v (bs.drop k) k = placeOf 0 v bs) ∧ Later w wr) (fun i _ => bn - (intOf i).toNat)
 case atStart => exact ⟨0, by omega, rfl, rfl, inferInstance⟩
 case round =>
  obtain ⟨k, hk, rfl, HF, hX⟩ := hrel
  by_cases hlt : k < bn
  ·obtain ⟨b, o, A1, n1, c1, x, rfl, hx, hc0, hi⟩ := Sl.row_ hB hlt
   have HI := Lib.hid hi
   have hn1 := hi.le
   have HF1 := HF.out
   rw [drop_at hx.out] at HF1
   simp only [placeGo] at HF1
   clear HF hx hi
   by_cases c : 0 ≤ idx (intIs v) x
   ·rw [if_pos c] at HF1
    have HF2 := Lib.hid HF1
    clear HF1
    go_wp2_with (go_at_call 82; refine (slices_IndexInt HI.out hX v).mono ?_; rintro e w2 ⟨rfl, L2⟩; have X2 := hX.trans L2)
    go_ret2
    exact ⟨by rw [← HF2.out]; rfl, inferInstance⟩
   ·rw [if_neg c] at HF1
    have HF2 := Lib.hid HF1
    have cd : decide (0 ≤ idx (intIs v) x) = false := decide_eq_false c
    clear HF1
    go_wp2_with (go_at_call 82; refine (slices_IndexInt HI.out hX v).mono ?_; rintro e w2 ⟨rfl, L2⟩; have X2 := hX.trans L2)
    go_roundw
    case rel => exact ⟨k + 1, by omega, by go_num, HF2, inferInstance⟩
    case measure => simp [intOf]; omega
  ·have HF2 : Hid ((-1, 0) = placeOf 0 v bs) := by
    have h3 := HF.out
    rw [List.drop_eq_nil_of_le (by have := Hbl.out; omega)] at h3
    exact h3
   clear HF
   go_wp2
   go_ret2
   exact ⟨by rw [← HF2.out]; rfl, inferInstance⟩
theorem spec_l11Place {w0 w : World} {bA : Option Addr} {bn bc : Nat} {bs : List (List Int)} (h : Sl 1 (rSl 1 rInt) w0 bA bn bc bs) (hl : Later w0 w) (v : Int) :
  Calls Tryz.prog 182 #[.slice bA bn bc, .int .i64 v] w (Ret (.tuple #[.int .i64 (placeOf (-1) v bs).1, .int .i64 (placeOf (-1) v bs).2]) w) := by
 have hB := h.later hl
 have hbl := hB.le
 have Hbl := Lib.hid hB.len
 clear h
 go_enter Tryz.func182, Tryz.ntmps182
 go_wp2
 go_loopw [6] (fun i wr => ∃ k : Nat, k ≤ bn ∧ i = .int .i64 k ∧ Hid (placeGo (-1) v (bs.drop k) k = placeOf (-1) v bs) ∧ Later w wr) (fun i _ => bn - (intOf i).toNat)
 case atStart => exact ⟨0, by omega, rfl, rfl, inferInstance⟩
 case round =>
  obtain ⟨k, hk, rfl, HF, hX⟩ := hrel
  by_cases hlt : k < bn
  ·obtain ⟨b, o, A1, n1, c1, x, rfl, hx, hc0, hi⟩ := Sl.row_ hB hlt
   have hn1 := hi.le
   have Hxl := Lib.hid hi.len
   have HF1 := HF.out
   rw [drop_at hx.out] at HF1
   simp only [placeGo] at HF1
   have HG := Lib.hid HF1
   clear HF hx HF1
   go_wp2
   go_loopw [7] (fun i wr => ∃ j : Nat, j ≤ n1 ∧ i = .int .i64 j ∧ Hid (idxGo (intIs v) (x.drop j) j = idx (intIs v) x) ∧ Later w wr) (fun i _ => n1 - (intOf i).toNat)
   case atStart => exact ⟨0, by omega, rfl, rfl, inferInstance⟩
   case round =>
    obtain ⟨j, hj, rfl, HQ, hY⟩ := hrel
    by_cases hjt : j < n1
    ·obtain ⟨b2, o2, y, rfl, hy, hcy, _⟩ := Ints.at_ hi hjt
     have HQ1 := HQ.out
     rw [drop_at hy.out] at HQ1
     simp only [idxGo] at HQ1
     clear HQ
     by_cases e : y = v
     ·rw [if_pos (by simpa [intIs] using e)] at HQ1
      have HE : Hid (placeOf (-1) v bs = ((k : Int), (j : Int))) := by
       show _ = _; rw [← HG.out, ← HQ1, if_pos (by omega)]
      have e1 := (beqi_t e).1
      clear e HQ1 HG hy
      go_wp2
      go_ret2
      exact ⟨by rw [HE.out]; rfl, inferInstance⟩
     ·rw [if_neg (by simpa [intIs] using e)] at HQ1
      have HQ2 := Lib.hid HQ1
      have e1 := (beqi_f e).1
      clear e HQ1 hy
      go_wp2
      go_roundw
      case rel => exact ⟨j + 1, by omega, by go_num, HQ2, inferInstance⟩
      case measure => simp [intOf]; omega
    ·have HF2 : Hid (placeGo (-1) v (bs.drop (k + 1)) (k + 1) = placeOf (-1) v bs) := by
      have h3 := HQ.out
      rw [List.drop_eq_nil_of_le (by have := Hxl.out; omega)] at h3
      have h4 : (-1 : Int) = idx (intIs v) x := h3
      have h5 := HG.out
      rw [← h4, if_neg (by omega)] at h5
      exact h5
     clear HQ HG
     go_wp2
     go_roundw
     case rel => exact ⟨k + 1, by omega, by go_num, HF2, inferInstance⟩
     case measure => simp [intOf]; omega
  ·have HF2 : Hid ((-1, -1) = placeOf (-1) v bs) := by
    have h3 := HF.out
    rw [List.drop_eq_nil_of_le (by have := Hbl.out; omega)] at h3
    exact h3
   clear HF
   go_wp2
   go_ret2
   exact ⟨by rw [← HF2.out]; rfl, inferInstance⟩
end Go.Proofs.YtknhebakebmlcaaGreat
namespace Go.Proofs.YtknhebakebmlcaaGreat
open Go Go.RowKit
set_option linter.unusedVariables false
set_option maxRecDepth 100000
def blkI (bs : List (List Int)) (i : Int) : List Int := bs.getD i.toNat []
theorem blkI_of {bs : List (List Int)} {m : Nat} {x : List Int} (h : bs[m]? = some x) : blkI bs m = x := by simp [blkI, List.getD, h]
def cutOf (bs : List (List Int)) (v : Int) (n : Nat) : List Int := ((blkI bs (placeOf 0 v bs).1).drop (placeOf 0 v bs).2.toNat).take n
/-- A list of ids stands in one of the blocks. -/
def pieceOk (bs : List (List Int)) : List Int → Bool
 | [] => false
 | v :: p => decide (0 ≤ (placeOf 0 v bs).1) && decide (cutOf bs v (p.length + 1) = v :: p)
theorem placeGo_at {d v : Int} {bs : List (List Int)} {k : Nat} (h : 0 ≤ (placeGo d v bs k).1) :
  ∃ (m j : Nat) (x : List Int), placeGo d v bs k = (((k + m : Nat) : Int), (j : Int)) ∧ bs[m]? = some x ∧ x[j]? = some v := by
 induction bs generalizing k with
 | nil => simp [placeGo] at h
 | cons x l ih =>
  simp only [placeGo] at h ⊢
  by_cases c : 0 ≤ idx (intIs v) x
  ·rw [if_pos c]
   obtain ⟨j, y, h1, h2, h3⟩ := idx_at c
   have : y = v := by simpa [intIs] using h2
   subst this
   exact ⟨0, j, x, by rw [h3]; simp, rfl, h1⟩
  ·rw [if_neg c] at h ⊢
   obtain ⟨m, j, y, h1, h2, h3⟩ := ih h
   exact ⟨m + 1, j, y, by rw [h1]; congr 2; omega, by simpa using h2, h3⟩
theorem placeOf_at {d v : Int} {bs : List (List Int)} (h : 0 ≤ (placeOf d v bs).1) :
  ∃ (m j : Nat) (x : List Int), placeOf d v bs = ((m : Int), (j : Int)) ∧ bs[m]? = some x ∧ x[j]? = some v := by
 obtain ⟨m, j, x, h1, h2, h3⟩ := placeGo_at (k := 0) h
 exact ⟨m, j, x, by unfold placeOf; rw [h1]; simp, h2, h3⟩
/-- What is known of a piece. -/
theorem pieceOk_mem {bs : List (List Int)} {p : List Int} (h : pieceOk bs p = true) : ∃ x, x ∈ bs ∧ ∀ v, v ∈ p → v ∈ x := by
 cases p with
 | nil => simp [pieceOk] at h
 | cons v p =>
  simp only [pieceOk, Bool.and_eq_true, decide_eq_true_eq] at h
  obtain ⟨m, j, x, h1, h2, h3⟩ := placeOf_at h.1
  refine ⟨x, List.mem_of_getElem? h2, fun u hu => ?_⟩
  have h4 := h.2
  unfold cutOf at h4
  rw [h1] at h4
  simp only [blkI_of h2] at h4
  rw [← h4] at hu
  exact List.mem_of_mem_drop (List.mem_of_mem_take hu)
theorem pieceOk_found {t : Timetable} {bs : List (List Int)} {p : List Int} (bf : BlkFacts t bs) (h : pieceOk bs p = true) : FoundAll t p := by
 obtain ⟨x, hx, hv⟩ := pieceOk_mem h
 obtain ⟨i, hi⟩ := List.getElem?_of_mem hx
 intro v hvp
 obtain ⟨j, hj⟩ := List.getElem?_of_mem (hv v hvp)
 exact bf.found i x hi j v hj
theorem pieceOk_pos {bs : List (List Int)} {p : List Int} (h : pieceOk bs p = true) : 0 < p.length := by
 cases p with
 | nil => simp [pieceOk] at h
 | cons v p => simp
def headI (p : List Int) : Int := p.headD 0
def lastI (p : List Int) : Int := p.getLastD 0
theorem headI_of {p : List Int} {v : Int} (h : p[0]? = some v) : headI p = v := by
 cases p with
 | nil => simp at h
 | cons x p => simpa [headI] using h
theorem lastI_of {p : List Int} {v : Int} {m : Nat} (hl : m + 1 = p.length) (h : p[m]? = some v) : lastI p = v := by
 unfold lastI
 rw [List.getLastD_eq_getLast?, List.getLast?_eq_getElem?, ← hl]
 simp [h]
theorem headI_mem {p : List Int} (h : 0 < p.length) : headI p ∈ p := by
 cases p with
 | nil => simp at h
 | cons x p => simp [headI]
theorem lastI_mem {p : List Int} (h : 0 < p.length) : lastI p ∈ p := by
 obtain ⟨m, hm⟩ : ∃ m, m + 1 = p.length := ⟨p.length - 1, by omega⟩
 have : lastI p = p[m] := lastI_of hm (List.getElem?_eq_getElem (by omega))
 rw [this]
 exact List.getElem_mem _
/-- When a piece begins and when it ends. -/
def begP (t : Timetable) (p : List Int) : Int := (tripI t (findI t (headI p))).Start
def finP (t : Timetable) (p : List Int) : Int := endAt t (tripI t (findI t (lastI p)))
theorem begP_bd {t : Timetable} (h : TimeFacts t) {p : List Int} (hp : 0 < p.length) (hf : FoundAll t p) : 0 ≤ begP t p ∧ begP t p ≤ 1799 :=
 (tripI_facts h (hf _ (headI_mem hp)) (findI_bd t _).2).start
theorem finP_bd {t : Timetable} (h : TimeFacts t) {p : List Int} (hp : 0 < p.length) (hf : FoundAll t p) : 0 ≤ finP t p ∧ finP t p ≤ 1799 :=
 (tripI_facts h (hf _ (lastI_mem hp)) (findI_bd t _).2).fin
def gapP (t : Timetable) (f : Fleet) (a b : List Int) : Int := begP t b - finP t a - pairDead t f (lastI a) (headI b)
theorem gapP_bd {t : Timetable} {f : Fleet} (h : RunFacts t f) {a b : List Int} (ha : 0 < a.length) (hb : 0 < b.length) (fa : FoundAll t a) (fb : FoundAll t b) : -1919 ≤ gapP t f a b ∧ gapP t f a b ≤ 1799 := by
 have h1 := begP_bd h.time hb fb
 have h2 := finP_bd h.time ha fa
 have h3 := pairDead_bd h (fa _ (lastI_mem ha)) (fb _ (headI_mem hb))
 unfold gapP
 omega
def gapsGo (t : Timetable) (f : Fleet) : List Int → List (List Int) → List Int
 | _, [] => []
 | a, b :: l => gapP t f a b :: gapsGo t f b l
def gapsP (t : Timetable) (f : Fleet) : List (List Int) → List Int
 | [] => []
 | a :: l => gapsGo t f a l
theorem gapsGo_len (t : Timetable) (f : Fleet) (a : List Int) (l : List (List Int)) : (gapsGo t f a l).length = l.length := by
 induction l generalizing a with
 | nil => rfl
 | cons b l ih => simp [gapsGo, ih]
theorem gapsP_len (t : Timetable) (f : Fleet) (ps : List (List Int)) : (gapsP t f ps).length = ps.length - 1 := by
 cases ps with
 | nil => rfl
 | cons a l => simp [gapsP, gapsGo_len]
theorem gapsGo_at {t : Timetable} {f : Fleet} {a : List Int} {l : List (List Int)} {k : Nat} {x y : List Int} (hx : (a :: l)[k]? = some x) (hy : l[k]? = some y) : (gapsGo t f a l)[k]? = some (gapP t f x y) := by
 induction l generalizing a k with
 | nil => simp at hy
 | cons b l ih =>
  cases k with
  | zero => simp at hx hy; subst hx; subst hy; simp [gapsGo]
  | succ k => simp only [gapsGo, List.getElem?_cons_succ] at *; exact ih hx hy
theorem gapsP_at {t : Timetable} {f : Fleet} {ps : List (List Int)} {k : Nat} {x y : List Int} (hx : ps[k]? = some x) (hy : ps[k + 1]? = some y) : (gapsP t f ps)[k]? = some (gapP t f x y) := by
 cases ps with
 | nil => simp at hx
 | cons a l => exact gapsGo_at hx (by simpa using hy)
/-- Pieces that are pieces, one to three, no trip twice. -/
def okPieces (bs ps : List (List Int)) : Bool := inB ps.length 1 3 && ps.all (pieceOk bs) && decide ps.flatten.Nodup
structure PcsFacts (t : Timetable) (ps : List (List Int)) : Prop where
 pos : 0 < ps.length
 pieces : ∀ p, p ∈ ps → 0 < p.length ∧ FoundAll t p
theorem pcsFacts {t : Timetable} {bs ps : List (List Int)} (bf : BlkFacts t bs) (h : okPieces bs ps = true) : PcsFacts t ps ∧ ps.length ≤ 3 := by
 simp only [okPieces, Bool.and_eq_true, inB_t, List.all_eq_true] at h
 exact ⟨⟨by omega, fun p hp => ⟨pieceOk_pos (h.1.2 p hp), pieceOk_found bf (h.1.2 p hp)⟩⟩, by omega⟩
def lenD (t : Timetable) (r : Rules) (ps : List (List Int)) : Int := r.SignOn + finP t (ps.getLastD []) - begP t (ps.headD []) + r.SignOff
def brokenD (t : Timetable) (f : Fleet) (bs : List (List Int)) (r : Rules) (ps : List (List Int)) : Int :=
 if okPieces bs ps = false then 1
 else if ps.any (fun p => decide (r.MaxDrive < finP t p - begP t p)) then 2
 else if (gapsP t f ps).any (fun g => decide (g < r.MinBreak)) then 3
 else if r.MaxLength < lenD t r ps then 4
 else 0
theorem gapsGo_snoc (t : Timetable) (f : Fleet) (a : List Int) (l : List (List Int)) (x y : List Int) (h : (a :: l).getLastD [] = y) : gapsGo t f a (l ++ [x]) = gapsGo t f a l ++ [gapP t f y x] := by
 induction l generalizing a with
 | nil => simp [List.getLastD] at h; subst h; rfl
 | cons b l ih =>
  simp only [List.cons_append, gapsGo]
  rw [ih b (by rw [← h]; simp [List.getLastD])]
theorem gapsP_take {t : Timetable} {f : Fleet} {ps : List (List Int)} {k : Nat} {x y : List Int} (hx : ps[k]? = some x) (hy : ps[k + 1]? = some y) : gapsP t f (ps.take (k + 1 + 1)) = gapsP t f (ps.take (k + 1)) ++ [gapP t f x y] := by
 rw [take_succ_at hy]
 cases ps with
 | nil => simp at hx
 | cons a l =>
  simp only [List.take_succ_cons, List.cons_append, gapsP]
  refine gapsGo_snoc t f a _ y x ?_
  have hk := (List.getElem?_eq_some_iff.1 hx).1
  rw [List.getLastD_eq_getLast?, List.getLast?_eq_getElem?]
  have hlen : (a :: List.take k l).length - 1 = k := by simp at hk ⊢; omega
  rw [hlen]
  rw [show (a :: List.take k l) = (a :: l).take (k + 1) from rfl, List.getElem?_take]
  simp [hx]
theorem gapsP_one (t : Timetable) (f : Fleet) (ps : List (List Int)) : gapsP t f (ps.take 1) = [] := by
 cases ps with
 | nil => rfl
 | cons a l => rfl
def durP (t : Timetable) (p : List Int) : Int := finP t p - begP t p
def durs (t : Timetable) (ps : List (List Int)) : Int := sumI (ps.map (durP t))
def minsG (r : Rules) (gs : List Int) : Int := sumI (gs.map fun g => min g r.PaidBreak)
/-- The paid minutes of a duty. -/
def paidD (t : Timetable) (f : Fleet) (r : Rules) (ps : List (List Int)) : Int := r.SignOn + r.SignOff + durs t ps + minsG r (gapsP t f ps)
/-- The ids behind those that were seen; none: one comes twice. -/
def idsGo : List Int → List Int → Option (List Int)
 | [], seen => some seen
 | v :: l, seen => if v ∈ seen then none else idsGo l (seen ++ [v])
/-- The place of the duty in which a trip lies, or -1. -/
def hasId (v : Int) (d : Duty) : Bool := d.Pieces.any fun p => decide (v ∈ p)
def dutyI (l : List Duty) (v : Int) : Int := idx (hasId v) l
end Go.Proofs.YtknhebakebmlcaaGreat
namespace Go.Proofs.YtknhebakebmlcaaGreat
open Go Go.RowKit
set_option linter.unusedVariables false
set_option maxRecDepth 100000
theorem Sl.sub_ {α : Type} {r : Rep α} {w : World} {b o : Nat} {n c : Nat} {l : List α} (h : Sl 1 r w (some ⟨b, o, none⟩) n c l) {k m : Nat} (hk : k + m ≤ n) : Sl 1 r w (some ⟨b, o + k, none⟩) m (c - k) ((l.drop k).take m) := by
 have h1 := h.len
 have h2 := h.cap
 have h3 := h.max
 refine ⟨by rw [List.length_take, List.length_drop]; omega, by omega, by omega, fun j x hx => ?_⟩
 rw [List.getElem?_take] at hx
 split at hx
 ·rw [List.getElem?_drop] at hx
  obtain ⟨b', o', es, ha, he, hc, hr⟩ := h.el (k + j) x hx
  cases ha
  exact ⟨b, o + k, es, rfl, he, fun i v hv => by have := hc i v hv; rw [show o + k + j * 1 + i = o + (k + j) * 1 + i by omega]; exact this, hr⟩
 ·cases hx
theorem slices_EqualInts
 {w0 w1 w : World} {A B : Option Addr} {n c m d : Nat} {l r : List Int} (h : Ints w0 A n c l) (hl : Later w0 w) (h1 : Ints w1 B m d r) (hl1 : Later w1 w) :
  Calls Tryz.prog 138 #[.slice A n c, .slice B m d] w (Ret (.bool (decide (l = r))) w) := by
 replace h := h.later hl
 replace h1 := h1.later hl1
 have hn := h.le
 have hm := h1.le
 by_cases hnm : n = m
 ·subst hnm
  have hcont : ((n : Int) != n) = false := by simp
  go_enter Tryz.func138, Tryz.ntmps138
  go_wp2
  go_loopw [13] (fun i wr => ∃ k : Nat, k ≤ n ∧ i = .int .i64 k ∧ Hid (l.drop k = r.drop k ↔ l = r) ∧ Later w wr) (fun i _ => n - (intOf i).toNat)
  case atStart => exact ⟨0, by omega, rfl, Iff.rfl, inferInstance⟩
  case round =>
   obtain ⟨k, hk, rfl, HF, hX⟩ := hrel
   by_cases hlt : k < n
   ·obtain ⟨b, o, x, rfl, hx, hc, hi⟩ := Ints.at_ h hlt
    obtain ⟨b', o', y, rfl, hy, hc', hi'⟩ := Ints.at_ h1 hlt
    have hd := drop_at hx.out
    have hd' := drop_at hy.out
    by_cases hxy : x = y
    ·have HF2 : Hid (l.drop (k + 1) = r.drop (k + 1) ↔ l = r) := by rw [← HF.out, hd, hd', hxy]; show _ ↔ _; simp
     have hb : (x != y) = false := by simpa using hxy
     clear hxy hd hd'
     go_wp2
     go_quiet (fail)
     go_wp2
     go_roundw
     case rel => exact ⟨k + 1, by omega, by go_num, HF2, inferInstance⟩
     case measure => simp [intOf]; omega
    ·have HF2 : Hid (l ≠ r) := by rw [hd, hd'] at HF; intro e; have := HF.out.2 e; simp at this; exact hxy this.1
     have hb : (x != y) = true := by simpa using hxy
     clear hxy hd hd'
     go_wp2
     go_quiet (fail)
     go_wp2
     go_ret
     exact ⟨ret_bool (by rw [decide_eq_false HF2.out]), inferInstance⟩
   ·have H2 : Hid (l = r) := by
     rw [List.drop_eq_nil_of_le (by have := h.len; omega), List.drop_eq_nil_of_le (by have := h1.len; omega)] at HF
     exact HF.out.1 rfl
    go_wp2
    go_ret
    exact ⟨ret_bool (by rw [decide_eq_true H2.out]), inferInstance⟩
 ·have H2 : Hid (l ≠ r) := by intro e; apply hnm; rw [h.len, h1.len, e]
  have hb : ((n : Int) != m) = true := by rw [bne_iff_ne]; omega
  clear hnm
  go_enter Tryz.func138, Tryz.ntmps138
  go_wp2
  go_ret
  exact ⟨ret_bool (by rw [decide_eq_false H2.out]), inferInstance⟩
theorem spec_l1Same
 {w0 w1 w : World} {A B : Option Addr} {n c m d : Nat} {l r : List Int} (h : Ints w0 A n c l) (hl : Later w0 w) (h1 : Ints w1 B m d r) (hl1 : Later w1 w) :
  Calls Tryz.prog 183 #[.slice A n c, .slice B m d] w (Ret (.bool (decide (l = r))) w) := by
 replace h := h.later hl
 replace h1 := h1.later hl1
 have hn := h.le
 have hm := h1.le
 by_cases hnm : n = m
 ·subst hnm
  have hcont : ((n : Int) != n) = false := by simp
  go_enter Tryz.func183, Tryz.ntmps183
  go_wp2
  go_loopw [5] (fun i wr => ∃ k : Nat, k ≤ n ∧ i = .int .i64 k ∧ Hid (l.drop k = r.drop k ↔ l = r) ∧ Later w wr) (fun i _ => n - (intOf i).toNat)
  case atStart => exact ⟨0, by omega, rfl, Iff.rfl, inferInstance⟩
  case round =>
   obtain ⟨k, hk, rfl, HF, hX⟩ := hrel
   by_cases hlt : k < n
   ·obtain ⟨b, o, x, rfl, hx, hc, hi⟩ := Ints.at_ h hlt
    obtain ⟨b', o', y, rfl, hy, hc', hi'⟩ := Ints.at_ h1 hlt
    have hd := drop_at hx.out
    have hd' := drop_at hy.out
    by_cases hxy : x = y
    ·have HF2 : Hid (l.drop (k + 1) = r.drop (k + 1) ↔ l = r) := by rw [← HF.out, hd, hd', hxy]; show _ ↔ _; simp
     have hb : (x != y) = false := by simpa using hxy
     clear hxy hd hd'
     go_wp2
     go_quiet (fail)
     go_wp2
     go_roundw
     case rel => exact ⟨k + 1, by omega, by go_num, HF2, inferInstance⟩
     case measure => simp [intOf]; omega
    ·have HF2 : Hid (l ≠ r) := by rw [hd, hd'] at HF; intro e; have := HF.out.2 e; simp at this; exact hxy this.1
     have hb : (x != y) = true := by simpa using hxy
     clear hxy hd hd'
     go_wp2
     go_quiet (fail)
     go_wp2
     go_ret
     exact ⟨ret_bool (by rw [decide_eq_false HF2.out]), inferInstance⟩
   ·have H2 : Hid (l = r) := by
     rw [List.drop_eq_nil_of_le (by have := h.len; omega), List.drop_eq_nil_of_le (by have := h1.len; omega)] at HF
     exact HF.out.1 rfl
    go_wp2
    go_ret
    exact ⟨ret_bool (by rw [decide_eq_true H2.out]), inferInstance⟩
 ·have H2 : Hid (l ≠ r) := by intro e; apply hnm; rw [h.len, h1.len, e]
  have hb : ((n : Int) != m) = true := by rw [bne_iff_ne]; omega
  clear hnm
  go_enter Tryz.func183, Tryz.ntmps183
  go_wp2
  go_ret
  exact ⟨ret_bool (by rw [decide_eq_false H2.out]), inferInstance⟩
theorem pieceOk_no1 {bs : List (List Int)} {v : Int} {p : List Int} (h : ¬ 0 ≤ (placeOf 0 v bs).1) : pieceOk bs (v :: p) = false := by
 simp only [pieceOk]; rw [decide_eq_false h]; rfl
theorem cutOf_of {bs : List (List Int)} {v : Int} {m j n : Nat} {x : List Int} (h : placeOf 0 v bs = ((m : Int), (j : Int))) (hx : bs[m]? = some x) : cutOf bs v n = (x.drop j).take n := by
 unfold cutOf; rw [h]; simp only [blkI_of hx, Int.toNat_natCast]
theorem pieceOk_no2 {bs : List (List Int)} {v : Int} {p : List Int} {m j : Nat} {x : List Int} (h : placeOf 0 v bs = ((m : Int), (j : Int))) (hx : bs[m]? = some x) (hn : x.length < j + (p.length + 1)) : pieceOk bs (v :: p) = false := by
 simp only [pieceOk]
 rw [cutOf_of h hx, decide_eq_false (p := _ = _), Bool.and_false]
 intro e
 have := congrArg List.length e
 simp at this
 omega
theorem pieceOk_yes {bs : List (List Int)} {v : Int} {p : List Int} {m j : Nat} {x : List Int} (h : placeOf 0 v bs = ((m : Int), (j : Int))) (hx : bs[m]? = some x) : pieceOk bs (v :: p) = decide ((x.drop j).take (p.length + 1) = v :: p) := by
 simp only [pieceOk]
 rw [cutOf_of h hx, h]
 simp
set_option maxHeartbeats 1000000 in
theorem impl_isPiece {w w3 w4 : World} {bA : Option Addr} {bn bc : Nat} {bs : List (List Int)} (h3 : Sl 1 (rSl 1 rInt) w3 bA bn bc bs) (hl3 : Later w3 w) (hb3 : ∀ x, x ∈ bs → x.length ≤ 1048576) {pA : Option Addr} {pn pc : Nat} {p : List Int} (h4 : Ints w4 pA pn pc p) (hl4 : Later w4 w) (hpl : p.length ≤ 1048576) :
  Calls Tryz.prog 115 #[.slice bA bn bc, .slice pA pn pc] w (Ret (.bool (pieceOk bs p)) w) := by
 have hB := h3.later hl3
 have hP := h4.later hl4
 have hbl := hB.le
 have hpn : pn ≤ 1048576 := by rw [hP.len]; exact hpl
 cases p with
 | nil =>
  obtain rfl : pn = 0 := hP.len
  clear hP hB h3 h4
  go_enter Tryz.func115, Tryz.ntmps115
  go_wp2
  go_ret
  exact ⟨rfl, inferInstance⟩
 | cons v p =>
  have Hpl : Hid (pn = p.length + 1) := by show _ = _; have := hP.len; simpa using this
  have hp0 : 0 < pn := by rw [Hpl.out]; omega
  have e0 := (beqi_f (show ¬ (pn : Int) = 0 by omega)).1
  obtain ⟨b1, o1, v', rfl, hv, hcv, _⟩ := Ints.at_ hP hp0
  obtain rfl : v = v' := by simpa using hv.out
  simp only [Nat.add_zero] at hcv
  have HB := Lib.hid hB
  have HP := Lib.hid hP
  clear hP hv h3 h4
  by_cases c0 : 0 ≤ (placeOf 0 v bs).1
  rotate_left
  ·have c0d : (placeOf 0 v bs).1 < 0 := by have := placeOf_any v bs; omega
   have HR := Lib.hid (pieceOk_no1 (p := p) c0)
   have c1 : ¬ 0 ≤ (placeOf 0 v bs).1 := by omega
   have c2 : decide (0 ≤ (placeOf 0 v bs).1) = false := decide_eq_false c1
   clear hB c0
   go_enter Tryz.func115, Tryz.ntmps115
   go_wp2_with (go_at_call 57; refine (impl_placeIn HB.out inferInstance v).mono ?_; rintro e w5 ⟨rfl, L5⟩)
   go_ret
   exact ⟨ret_bool HR.out.symm, inferInstance⟩
  obtain ⟨m, j, x, hpo, hx, hj⟩ := placeOf_at c0
  have hpd : placeOf 0 v bs = ((m : Int), (j : Int)) := by rcases placeOf_any v bs with ⟨h1, _⟩ | ⟨_, h2⟩ <;> first | exact hpo | (rw [h2]; exact hpo) | omega
  have hmn : m < bn := by rw [hB.len]; exact (List.getElem?_eq_some_iff.1 hx).1
  obtain ⟨b, o, A1, n1, cc1, x', rfl, hx', hc0, hi⟩ := Sl.row_ hB hmn
  obtain rfl : x' = x := Option.some.inj (hx'.out.symm.trans hx)
  have hxl := hb3 x' (List.mem_of_getElem? hx)
  have hjx := (List.getElem?_eq_some_iff.1 hj).1
  have Hi := Lib.hid hi
  have Hxl := Lib.hid hi.len
  have hn1 : n1 ≤ 1048576 := by rw [hi.len]; exact hxl
  have hjn : j < n1 := by rw [hi.len]; exact hjx
  have hcap := hi.cap
  have hwj : IntKind.i64.wrap ((j : Int) + (pn : Int)) = ((j + pn : Nat) : Int) := by rw [IntKind.wrap_i64]; omega
  have HPD := Lib.hid hpd
  by_cases c1 : j + pn ≤ n1
  ·have HR := Lib.hid (pieceOk_yes (p := p) hpo hx)
   obtain ⟨bb, oo, yy, rfl, _, _, _⟩ := Ints.at_ hi hjn
   have HS := Lib.hid (Sl.sub_ hi c1)
   have c1i : ((j + pn : Nat) : Int) ≤ (n1 : Int) := by omega
   have c2i : (j : Int) + (pn : Int) ≤ (cc1 : Int) := by omega
   have c3i : (j : Int) ≤ (j : Int) + (pn : Int) := by omega
   clear hB hx hx' hj hpo hpd hi c0 hxl hjx
   rw [HR.out, ← Hpl.out]
   go_enter Tryz.func115, Tryz.ntmps115
   go_wp2_with first
    | (go_at_call 57; refine (impl_placeIn HB.out inferInstance v).mono ?_; rw [HPD.out]; rintro e w5 ⟨rfl, L5⟩)
    | (go_at_call 138; refine (slices_EqualInts HS.out inferInstance HP.out inferInstance).mono ?_; rintro e w6 ⟨rfl, L6⟩; have L7 := Later.trans (w := w) inferInstance L6)
   go_ret
   exact ⟨rfl, inferInstance⟩
  ·have HR := Lib.hid (pieceOk_no2 (p := p) hpo hx (by rw [← Hxl.out, ← Hpl.out]; omega))
   have c1i : ¬ (((j + pn : Nat) : Int) ≤ (n1 : Int)) := by omega
   have c1d : decide (((j + pn : Nat) : Int) ≤ (n1 : Int)) = false := decide_eq_false c1i
   clear hB hx hx' hj hpo hpd hi c0 hxl hjx
   go_enter Tryz.func115, Tryz.ntmps115
   go_wp2_with (go_at_call 57; refine (impl_placeIn HB.out inferInstance v).mono ?_; rw [HPD.out]; rintro e w5 ⟨rfl, L5⟩)
   go_ret
   exact ⟨ret_bool HR.out.symm, inferInstance⟩
set_option maxHeartbeats 1000000 in
theorem spec_l12Piece {w w3 w4 : World} {bA : Option Addr} {bn bc : Nat} {bs : List (List Int)} (h3 : Sl 1 (rSl 1 rInt) w3 bA bn bc bs) (hl3 : Later w3 w) (hb3 : ∀ x, x ∈ bs → x.length ≤ 1048576) {pA : Option Addr} {pn pc : Nat} {p : List Int} (h4 : Ints w4 pA pn pc p) (hl4 : Later w4 w) (hpl : p.length ≤ 1048576) :
  Calls Tryz.prog 156 #[.slice bA bn bc, .slice pA pn pc] w (Ret (.bool (pieceOk bs p)) w) := by
 have hB := h3.later hl3
 have hP := h4.later hl4
 have hbl := hB.le
 have hpn : pn ≤ 1048576 := by rw [hP.len]; exact hpl
 cases p with
 | nil =>
  obtain rfl : pn = 0 := hP.len
  clear hP hB h3 h4
  go_enter Tryz.func156, Tryz.ntmps156
  go_wp2
  go_ret
  exact ⟨rfl, inferInstance⟩
 | cons v p =>
  have Hpl : Hid (pn = p.length + 1) := by show _ = _; have := hP.len; simpa using this
  have hp0 : 0 < pn := by rw [Hpl.out]; omega
  have e0 := (beqi_f (show ¬ (pn : Int) = 0 by omega)).1
  obtain ⟨b1, o1, v', rfl, hv, hcv, _⟩ := Ints.at_ hP hp0
  obtain rfl : v = v' := by simpa using hv.out
  simp only [Nat.add_zero] at hcv
  have HB := Lib.hid hB
  have HP := Lib.hid hP
  clear hP hv h3 h4
  by_cases c0 : 0 ≤ (placeOf 0 v bs).1
  rotate_left
  ·have c0d : (placeOf (-1) v bs).1 < 0 := by have := placeOf_any v bs; omega
   have HR := Lib.hid (pieceOk_no1 (p := p) c0)
   have c1 : ¬ 0 ≤ (placeOf (-1) v bs).1 := by omega
   have c2 : decide (0 ≤ (placeOf (-1) v bs).1) = false := decide_eq_false c1
   clear hB c0
   go_enter Tryz.func156, Tryz.ntmps156
   go_wp2_with (go_at_call 182; refine (spec_l11Place HB.out inferInstance v).mono ?_; rintro e w5 ⟨rfl, L5⟩)
   go_ret
   exact ⟨ret_bool HR.out.symm, inferInstance⟩
  obtain ⟨m, j, x, hpo, hx, hj⟩ := placeOf_at c0
  have hpd : placeOf (-1) v bs = ((m : Int), (j : Int)) := by rcases placeOf_any v bs with ⟨h1, _⟩ | ⟨_, h2⟩ <;> first | exact hpo | (rw [h2]; exact hpo) | omega
  have hmn : m < bn := by rw [hB.len]; exact (List.getElem?_eq_some_iff.1 hx).1
  obtain ⟨b, o, A1, n1, cc1, x', rfl, hx', hc0, hi⟩ := Sl.row_ hB hmn
  obtain rfl : x' = x := Option.some.inj (hx'.out.symm.trans hx)
  have hxl := hb3 x' (List.mem_of_getElem? hx)
  have hjx := (List.getElem?_eq_some_iff.1 hj).1
  have Hi := Lib.hid hi
  have Hxl := Lib.hid hi.len
  have hn1 : n1 ≤ 1048576 := by rw [hi.len]; exact hxl
  have hjn : j < n1 := by rw [hi.len]; exact hjx
  have hcap := hi.cap
  have hwj : IntKind.i64.wrap ((j : Int) + (pn : Int)) = ((j + pn : Nat) : Int) := by rw [IntKind.wrap_i64]; omega
  have HPD := Lib.hid hpd
  by_cases c1 : j + pn ≤ n1
  ·have HR := Lib.hid (pieceOk_yes (p := p) hpo hx)
   obtain ⟨bb, oo, yy, rfl, _, _, _⟩ := Ints.at_ hi hjn
   have HS := Lib.hid (Sl.sub_ hi c1)
   have c1i : ((j + pn : Nat) : Int) ≤ (n1 : Int) := by omega
   have c2i : (j : Int) + (pn : Int) ≤ (cc1 : Int) := by omega
   have c3i : (j : Int) ≤ (j : Int) + (pn : Int) := by omega
   clear hB hx hx' hj hpo hpd hi c0 hxl hjx
   rw [HR.out, ← Hpl.out]
   go_enter Tryz.func156, Tryz.ntmps156
   go_wp2_with first
    | (go_at_call 182; refine (spec_l11Place HB.out inferInstance v).mono ?_; rw [HPD.out]; rintro e w5 ⟨rfl, L5⟩)
    | (go_at_call 183; refine (spec_l1Same HS.out inferInstance HP.out inferInstance).mono ?_; rintro e w6 ⟨rfl, L6⟩; have L7 := Later.trans (w := w) inferInstance L6)
   go_ret
   exact ⟨rfl, inferInstance⟩
  ·have HR := Lib.hid (pieceOk_no2 (p := p) hpo hx (by rw [← Hxl.out, ← Hpl.out]; omega))
   have c1i : ¬ (((j + pn : Nat) : Int) ≤ (n1 : Int)) := by omega
   have c1d : decide (((j + pn : Nat) : Int) ≤ (n1 : Int)) = false := decide_eq_false c1i
   clear hB hx hx' hj hpo hpd hi c0 hxl hjx
   go_enter Tryz.func156, Tryz.ntmps156
   go_wp2_with (go_at_call 182; refine (spec_l11Place HB.out inferInstance v).mono ?_; rw [HPD.out]; rintro e w5 ⟨rfl, L5⟩)
   go_ret
   exact ⟨ret_bool HR.out.symm, inferInstance⟩
end Go.Proofs.YtknhebakebmlcaaGreat
namespace Go.Proofs.YtknhebakebmlcaaGreat
open Go Go.RowKit
set_option linter.unusedVariables false
set_option maxRecDepth 100000
structure DeadFacts (t : Timetable) (f : Fleet) (bs : List (List Int)) : Prop where
 run : RunFacts t f
 pos : ∀ (i : Nat) (b : List Int), bs[i]? = some b → 0 < b.length
 found : ∀ x, x ∈ bs → FoundAll t x
 all : 0 ≤ deadAll t f bs ∧ deadAll t f bs ≤ 1440
 len : bs.length ≤ 12
theorem flat_len {bs : List (List Int)} (h : ∀ (i : Nat) (b : List Int), bs[i]? = some b → 0 < b.length) : bs.length ≤ bs.flatten.length := by
 induction bs with
 | nil => simp
 | cons x l ih =>
  have h1 := h 0 x rfl
  have h2 := ih fun i b hb => h (i + 1) b (by simpa using hb)
  simp only [List.length_cons, List.flatten_cons, List.length_append]
  omega
theorem deadFacts {t : Timetable} {f : Fleet} {bs : List (List Int)} (h : okBlocks t f bs = true) : DeadFacts t f bs := by
 simp only [okBlocks, Bool.and_eq_true] at h
 have rf := runFacts h.1
 have bf := blkFacts h.2
 have hf : ∀ x, x ∈ bs → FoundAll t x := fun x hx v hv => by
  obtain ⟨i, hi⟩ := List.getElem?_of_mem hx
  obtain ⟨j, hj⟩ := List.getElem?_of_mem hv
  exact bf.found i x hi j v hj
 have hd := deadAll_bd rf bs hf
 have hl : bs.flatten.length ≤ 12 := by
  have h2 := h.2
  unfold okBlk at h2
  split at h2
  ·cases h2
  ·rename_i s hs
   have h3 : s.length = bs.flatten.length := by have := blkGo_len hs; simpa using this
   have h4 := rf.time.len
   have h5 : s.length = t.Trips.length := by simpa using h2
   omega
 have hfl := flat_len bf.pos
 exact ⟨rf, bf.pos, hf, by omega, by omega⟩
end Go.Proofs.YtknhebakebmlcaaGreat
namespace Go.Proofs.YtknhebakebmlcaaGreat
open Go Go.RowKit
set_option linter.unusedVariables false
set_option maxRecDepth 100000
def okRuled (t : Timetable) (f : Fleet) (bs : List (List Int)) (r : Rules) : Bool := okBlocks t f bs && okRules r
theorem okRuled_blocks {t : Timetable} {f : Fleet} {bs : List (List Int)} {r : Rules} (h : okRuled t f bs r = true) : okBlocks t f bs = true := by
 unfold okRuled at h; simp at h; exact h.1
structure RulesFacts (r : Rules) : Prop where
 on : 0 ≤ r.SignOn ∧ r.SignOn ≤ 900
 off : 0 ≤ r.SignOff ∧ r.SignOff ≤ 900
 drive : 0 ≤ r.MaxDrive ∧ r.MaxDrive ≤ 900
 break_ : 0 ≤ r.MinBreak ∧ r.MinBreak ≤ 900
 paid : 0 ≤ r.PaidBreak ∧ r.PaidBreak ≤ 900
 len : 0 ≤ r.MaxLength ∧ r.MaxLength ≤ 900
theorem rulesFacts {r : Rules} (h : okRules r = true) : RulesFacts r := by
 simp only [okRules, Bool.and_eq_true, inB_t] at h
 obtain ⟨⟨⟨⟨⟨h1, h2⟩, h3⟩, h4⟩, h5⟩, h6⟩ := h
 exact ⟨h1, h2, h3, h4, h5, h6⟩
theorem okRuled_rules {t : Timetable} {f : Fleet} {bs : List (List Int)} {r : Rules} (h : okRuled t f bs r = true) : RulesFacts r := by
 unfold okRuled at h; simp at h; exact rulesFacts h.2
set_option maxHeartbeats 800000 in
theorem spec_l12Blocks {w0 w w2 w3 : World} {sA0 : Option Addr} {sn0 sc0 : Nat} {sA1 : Option Addr} {sn1 sc1 : Nat} {sA2 : Option Addr} {sn2 sc2 : Nat} {t : Timetable} (h : TimetableAt w0 sA0 sn0 sc0 sA1 sn1 sc1 sA2 sn2 sc2 t) (hl : Later w0 w) {qA0 : Option Addr} {qn0 qc0 : Nat} {f : Fleet} (h2 : FleetAt w2 qA0 qn0 qc0 f) (hl2 : Later w2 w) {bA : Option Addr} {bn bc : Nat} {bs : List (List Int)} (h3 : Sl 1 (rSl 1 rInt) w3 bA bn bc bs) (hl3 : Later w3 w) :
  Calls Tryz.prog 61 #[.agg #[.slice sA0 sn0 sc0, .slice sA1 sn1 sc1, .slice sA2 sn2 sc2], .agg #[.slice qA0 qn0 qc0, .int .i64 f.Turn], .slice bA bn bc] w (Ret (.bool (okBlocks t f bs)) w) := by
 have HB0 : ∀ W [Later ((w.alloc (.cells #[.slice sA0 sn0 sc0, .slice sA1 sn1 sc1, .slice sA2 sn2 sc2] 44)).alloc (.cells #[.slice qA0 qn0 qc0, .int .i64 f.Turn] 46)) W] (j : Nat), W.cell? ⟨w.heap.size, j, none⟩ = #[.slice sA0 sn0 sc0, .slice sA1 sn1 sc1, .slice sA2 sn2 sc2][j]? := Later.boxes (t := 44) (fr := (0, 0)) ((heap_old (by simp; try omega)).trans (heap_new (by simp; try omega))); have HB1 : ∀ W [Later ((w.alloc (.cells #[.slice sA0 sn0 sc0, .slice sA1 sn1 sc1, .slice sA2 sn2 sc2] 44)).alloc (.cells #[.slice qA0 qn0 qc0, .int .i64 f.Turn] 46)) W] (j : Nat), W.cell? ⟨w.heap.size + 1, j, none⟩ = #[.slice qA0 qn0 qc0, .int .i64 f.Turn][j]? := Later.boxes (t := 46) (fr := (0, 0)) (heap_new (by simp; try omega)); obtain ⟨wb, hwb⟩ : ∃ wb : World, wb = ((w.alloc (.cells #[.slice sA0 sn0 sc0, .slice sA1 sn1 sc1, .slice sA2 sn2 sc2] 44)).alloc (.cells #[.slice qA0 qn0 qc0, .int .i64 f.Turn] 46)) := ⟨_, rfl⟩; haveI hbW : Later wb ((w.alloc (.cells #[.slice sA0 sn0 sc0, .slice sA1 sn1 sc1, .slice sA2 sn2 sc2] 44)).alloc (.cells #[.slice qA0 qn0 qc0, .int .i64 f.Turn] 46)) := (by rw [hwb]; exact Later.rfl_); haveI hww : Later w wb := (by rw [hwb]; infer_instance); rw [← hwb] at HB0; rw [← hwb] at HB1; have hbE := Lib.hid (congrArg (fun x : World => x.heap.size) hwb); clear hwb
 have hwb0 := hl.trans hww
 have hwb2 := hl2.trans hww
 have hwb3 := hl3.trans hww
 have H := Lib.hid h
 have H2 := Lib.hid h2
 have H3 := Lib.hid h3
 clear h h2 h3
 by_cases c0 : okRun t f = true
 ·have RF := Lib.hid (runFacts c0)
  have HN : Hid (okBlocks t f bs = okBlk t f bs) := by show _ = _; unfold okBlocks; rw [c0]; rfl
  go_enter Tryz.func61, Tryz.ntmps61
  go_wp2_with first
   | (go_at_call 84; refine (spec_l11Asked H.out (hwb0.trans inferInstance) H2.out (hwb2.trans inferInstance)).mono ?_; rintro e w1 ⟨rfl, L1⟩; have X1 := Later.trans (w := wb) inferInstance L1)
   | (go_at_call 85; refine (spec_l11Blocks H.out (hwb0.trans inferInstance) H2.out (hwb2.trans inferInstance) H3.out (hwb3.trans inferInstance) RF.out.time RF.out.fleet).mono ?_; rintro e w6 ⟨rfl, L6⟩; have X6 := Later.trans (w := wb) inferInstance L6)
  go_ret
  exact ⟨ret_bool HN.out.symm, hww.trans inferInstance⟩
 ·have c1 : okRun t f = false := by simpa using c0
  have HN : Hid (okBlocks t f bs = false) := by show _ = _; unfold okBlocks; rw [c1]; rfl
  clear c0
  go_enter Tryz.func61, Tryz.ntmps61
  go_wp2_with (go_at_call 84; refine (spec_l11Asked H.out (hwb0.trans inferInstance) H2.out (hwb2.trans inferInstance)).mono ?_; rintro e w1 ⟨rfl, L1⟩; have X1 := Later.trans (w := wb) inferInstance L1)
  go_ret
  exact ⟨ret_bool HN.out.symm, hww.trans inferInstance⟩
set_option maxHeartbeats 800000 in
theorem spec_l12Asked {w0 w w2 w3 : World} {sA0 : Option Addr} {sn0 sc0 : Nat} {sA1 : Option Addr} {sn1 sc1 : Nat} {sA2 : Option Addr} {sn2 sc2 : Nat} {t : Timetable} (h : TimetableAt w0 sA0 sn0 sc0 sA1 sn1 sc1 sA2 sn2 sc2 t) (hl : Later w0 w) {qA0 : Option Addr} {qn0 qc0 : Nat} {f : Fleet} (h2 : FleetAt w2 qA0 qn0 qc0 f) (hl2 : Later w2 w) {bA : Option Addr} {bn bc : Nat} {bs : List (List Int)} (h3 : Sl 1 (rSl 1 rInt) w3 bA bn bc bs) (hl3 : Later w3 w) (r : Rules) :
  Calls Tryz.prog 38 #[.agg #[.slice sA0 sn0 sc0, .slice sA1 sn1 sc1, .slice sA2 sn2 sc2], .agg #[.slice qA0 qn0 qc0, .int .i64 f.Turn], .slice bA bn bc, .agg #[.int .i64 r.SignOn, .int .i64 r.SignOff, .int .i64 r.MaxDrive, .int .i64 r.MinBreak, .int .i64 r.PaidBreak, .int .i64 r.MaxLength]] w (Ret (.bool (okRuled t f bs r)) w) := by
 have HB0 : ∀ W [Later (((w.alloc (.cells #[.slice sA0 sn0 sc0, .slice sA1 sn1 sc1, .slice sA2 sn2 sc2] 44)).alloc (.cells #[.slice qA0 qn0 qc0, .int .i64 f.Turn] 46)).alloc (.cells #[.int .i64 r.SignOn, .int .i64 r.SignOff, .int .i64 r.MaxDrive, .int .i64 r.MinBreak, .int .i64 r.PaidBreak, .int .i64 r.MaxLength] 49)) W] (j : Nat), W.cell? ⟨w.heap.size, j, none⟩ = #[.slice sA0 sn0 sc0, .slice sA1 sn1 sc1, .slice sA2 sn2 sc2][j]? := Later.boxes (t := 44) (fr := (0, 0)) ((heap_old (by simp; try omega)).trans ((heap_old (by simp; try omega)).trans (heap_new (by simp; try omega)))); have HB1 : ∀ W [Later (((w.alloc (.cells #[.slice sA0 sn0 sc0, .slice sA1 sn1 sc1, .slice sA2 sn2 sc2] 44)).alloc (.cells #[.slice qA0 qn0 qc0, .int .i64 f.Turn] 46)).alloc (.cells #[.int .i64 r.SignOn, .int .i64 r.SignOff, .int .i64 r.MaxDrive, .int .i64 r.MinBreak, .int .i64 r.PaidBreak, .int .i64 r.MaxLength] 49)) W] (j : Nat), W.cell? ⟨w.heap.size + 1, j, none⟩ = #[.slice qA0 qn0 qc0, .int .i64 f.Turn][j]? := Later.boxes (t := 46) (fr := (0, 0)) ((heap_old (by simp; try omega)).trans (heap_new (by simp; try omega))); have HB2 : ∀ W [Later (((w.alloc (.cells #[.slice sA0 sn0 sc0, .slice sA1 sn1 sc1, .slice sA2 sn2 sc2] 44)).alloc (.cells #[.slice qA0 qn0 qc0, .int .i64 f.Turn] 46)).alloc (.cells #[.int .i64 r.SignOn, .int .i64 r.SignOff, .int .i64 r.MaxDrive, .int .i64 r.MinBreak, .int .i64 r.PaidBreak, .int .i64 r.MaxLength] 49)) W] (j : Nat), W.cell? ⟨w.heap.size + 1 + 1, j, none⟩ = #[.int .i64 r.SignOn, .int .i64 r.SignOff, .int .i64 r.MaxDrive, .int .i64 r.MinBreak, .int .i64 r.PaidBreak, .int .i64 r.MaxLength][j]? := Later.boxes (t := 49) (fr := (0, 0)) (heap_new (by simp; try omega)); obtain ⟨wb, hwb⟩ : ∃ wb : World, wb = (((w.alloc (.cells #[.slice sA0 sn0 sc0, .slice sA1 sn1 sc1, .slice sA2 sn2 sc2] 44)).alloc (.cells #[.slice qA0 qn0 qc0, .int .i64 f.Turn] 46)).alloc (.cells #[.int .i64 r.SignOn, .int .i64 r.SignOff, .int .i64 r.MaxDrive, .int .i64 r.MinBreak, .int .i64 r.PaidBreak, .int .i64 r.MaxLength] 49)) := ⟨_, rfl⟩; haveI hbW : Later wb (((w.alloc (.cells #[.slice sA0 sn0 sc0, .slice sA1 sn1 sc1, .slice sA2 sn2 sc2] 44)).alloc (.cells #[.slice qA0 qn0 qc0, .int .i64 f.Turn] 46)).alloc (.cells #[.int .i64 r.SignOn, .int .i64 r.SignOff, .int .i64 r.MaxDrive, .int .i64 r.MinBreak, .int .i64 r.PaidBreak, .int .i64 r.MaxLength] 49)) := (by rw [hwb]; exact Later.rfl_); haveI hww : Later w wb := (by rw [hwb]; infer_instance); rw [← hwb] at HB0; rw [← hwb] at HB1; rw [← hwb] at HB2; have hbE := Lib.hid (congrArg (fun x : World => x.heap.size) hwb); clear hwb
 have hwb0 := hl.trans hww
 have hwb2 := hl2.trans hww
 have hwb3 := hl3.trans hww
 have H := Lib.hid h
 have H2 := Lib.hid h2
 have H3 := Lib.hid h3
 clear h h2 h3
 by_cases c0 : okBlocks t f bs = true
 ·go_enter Tryz.func38, Tryz.ntmps38
  go_wp2_with first
   | (go_at_call 61; refine (spec_l12Blocks H.out (hwb0.trans inferInstance) H2.out (hwb2.trans inferInstance) H3.out (hwb3.trans inferInstance)).mono ?_; rintro e w1 ⟨rfl, L1⟩; have X1 := Later.trans (w := wb) inferInstance L1)
   | (go_at_call 62; refine (spec_l12Rules r _).mono ?_; rintro e w2 ⟨rfl, L2⟩; have X2 := Later.trans (w := wb) inferInstance L2)
  go_ret
  exact ⟨ret_bool (by unfold okRuled; rw [c0]; rfl), hww.trans inferInstance⟩
 ·have c1 : okBlocks t f bs = false := by simpa using c0
  clear c0
  go_enter Tryz.func38, Tryz.ntmps38
  go_wp2_with (go_at_call 61; refine (spec_l12Blocks H.out (hwb0.trans inferInstance) H2.out (hwb2.trans inferInstance) H3.out (hwb3.trans inferInstance)).mono ?_; rintro e w1 ⟨rfl, L1⟩; have X1 := Later.trans (w := wb) inferInstance L1)
  go_ret
  exact ⟨ret_bool (by unfold okRuled; rw [c1]; rfl), hww.trans inferInstance⟩
set_option maxHeartbeats 800000 in
theorem impl_areRuled {w0 w w2 w3 : World} {sA0 : Option Addr} {sn0 sc0 : Nat} {sA1 : Option Addr} {sn1 sc1 : Nat} {sA2 : Option Addr} {sn2 sc2 : Nat} {t : Timetable} (h : TimetableAt w0 sA0 sn0 sc0 sA1 sn1 sc1 sA2 sn2 sc2 t) (hl : Later w0 w) {qA0 : Option Addr} {qn0 qc0 : Nat} {f : Fleet} (h2 : FleetAt w2 qA0 qn0 qc0 f) (hl2 : Later w2 w) {bA : Option Addr} {bn bc : Nat} {bs : List (List Int)} (h3 : Sl 1 (rSl 1 rInt) w3 bA bn bc bs) (hl3 : Later w3 w) (r : Rules) :
  Calls Tryz.prog 40 #[.agg #[.slice sA0 sn0 sc0, .slice sA1 sn1 sc1, .slice sA2 sn2 sc2], .agg #[.slice qA0 qn0 qc0, .int .i64 f.Turn], .slice bA bn bc, .agg #[.int .i64 r.SignOn, .int .i64 r.SignOff, .int .i64 r.MaxDrive, .int .i64 r.MinBreak, .int .i64 r.PaidBreak, .int .i64 r.MaxLength]] w (Ret (.bool (okRuled t f bs r)) w) := by
 have HB0 : ∀ W [Later (((w.alloc (.cells #[.slice sA0 sn0 sc0, .slice sA1 sn1 sc1, .slice sA2 sn2 sc2] 44)).alloc (.cells #[.slice qA0 qn0 qc0, .int .i64 f.Turn] 46)).alloc (.cells #[.int .i64 r.SignOn, .int .i64 r.SignOff, .int .i64 r.MaxDrive, .int .i64 r.MinBreak, .int .i64 r.PaidBreak, .int .i64 r.MaxLength] 49)) W] (j : Nat), W.cell? ⟨w.heap.size, j, none⟩ = #[.slice sA0 sn0 sc0, .slice sA1 sn1 sc1, .slice sA2 sn2 sc2][j]? := Later.boxes (t := 44) (fr := (0, 0)) ((heap_old (by simp; try omega)).trans ((heap_old (by simp; try omega)).trans (heap_new (by simp; try omega)))); have HB1 : ∀ W [Later (((w.alloc (.cells #[.slice sA0 sn0 sc0, .slice sA1 sn1 sc1, .slice sA2 sn2 sc2] 44)).alloc (.cells #[.slice qA0 qn0 qc0, .int .i64 f.Turn] 46)).alloc (.cells #[.int .i64 r.SignOn, .int .i64 r.SignOff, .int .i64 r.MaxDrive, .int .i64 r.MinBreak, .int .i64 r.PaidBreak, .int .i64 r.MaxLength] 49)) W] (j : Nat), W.cell? ⟨w.heap.size + 1, j, none⟩ = #[.slice qA0 qn0 qc0, .int .i64 f.Turn][j]? := Later.boxes (t := 46) (fr := (0, 0)) ((heap_old (by simp; try omega)).trans (heap_new (by simp; try omega))); have HB2 : ∀ W [Later (((w.alloc (.cells #[.slice sA0 sn0 sc0, .slice sA1 sn1 sc1, .slice sA2 sn2 sc2] 44)).alloc (.cells #[.slice qA0 qn0 qc0, .int .i64 f.Turn] 46)).alloc (.cells #[.int .i64 r.SignOn, .int .i64 r.SignOff, .int .i64 r.MaxDrive, .int .i64 r.MinBreak, .int .i64 r.PaidBreak, .int .i64 r.MaxLength] 49)) W] (j : Nat), W.cell? ⟨w.heap.size + 1 + 1, j, none⟩ = #[.int .i64 r.SignOn, .int .i64 r.SignOff, .int .i64 r.MaxDrive, .int .i64 r.MinBreak, .int .i64 r.PaidBreak, .int .i64 r.MaxLength][j]? := Later.boxes (t := 49) (fr := (0, 0)) (heap_new (by simp; try omega)); obtain ⟨wb, hwb⟩ : ∃ wb : World, wb = (((w.alloc (.cells #[.slice sA0 sn0 sc0, .slice sA1 sn1 sc1, .slice sA2 sn2 sc2] 44)).alloc (.cells #[.slice qA0 qn0 qc0, .int .i64 f.Turn] 46)).alloc (.cells #[.int .i64 r.SignOn, .int .i64 r.SignOff, .int .i64 r.MaxDrive, .int .i64 r.MinBreak, .int .i64 r.PaidBreak, .int .i64 r.MaxLength] 49)) := ⟨_, rfl⟩; haveI hbW : Later wb (((w.alloc (.cells #[.slice sA0 sn0 sc0, .slice sA1 sn1 sc1, .slice sA2 sn2 sc2] 44)).alloc (.cells #[.slice qA0 qn0 qc0, .int .i64 f.Turn] 46)).alloc (.cells #[.int .i64 r.SignOn, .int .i64 r.SignOff, .int .i64 r.MaxDrive, .int .i64 r.MinBreak, .int .i64 r.PaidBreak, .int .i64 r.MaxLength] 49)) := (by rw [hwb]; exact Later.rfl_); haveI hww : Later w wb := (by rw [hwb]; infer_instance); rw [← hwb] at HB0; rw [← hwb] at HB1; rw [← hwb] at HB2; have hbE := Lib.hid (congrArg (fun x : World => x.heap.size) hwb); clear hwb
 have hwb0 := hl.trans hww
 have hwb2 := hl2.trans hww
 have hwb3 := hl3.trans hww
 have H := Lib.hid h
 have H2 := Lib.hid h2
 have H3 := Lib.hid h3
 clear h h2 h3
 by_cases c0 : okBlocks t f bs = true
 ·go_enter Tryz.func40, Tryz.ntmps40
  go_wp2_with first
   | (go_at_call 69; refine (impl_IsValidBlocks H.out (hwb0.trans inferInstance) H2.out (hwb2.trans inferInstance) H3.out (hwb3.trans inferInstance)).mono ?_; rintro e w1 ⟨rfl, L1⟩; have X1 := Later.trans (w := wb) inferInstance L1)
   | (go_at_call 70; refine (impl_IsValidRules r _).mono ?_; rintro e w2 ⟨rfl, L2⟩; have X2 := Later.trans (w := wb) inferInstance L2)
  go_ret
  exact ⟨ret_bool (by unfold okRuled; rw [c0]; rfl), hww.trans inferInstance⟩
 ·have c1 : okBlocks t f bs = false := by simpa using c0
  clear c0
  go_enter Tryz.func40, Tryz.ntmps40
  go_wp2_with (go_at_call 69; refine (impl_IsValidBlocks H.out (hwb0.trans inferInstance) H2.out (hwb2.trans inferInstance) H3.out (hwb3.trans inferInstance)).mono ?_; rintro e w1 ⟨rfl, L1⟩; have X1 := Later.trans (w := wb) inferInstance L1)
  go_ret
  exact ⟨ret_bool (by unfold okRuled; rw [c1]; rfl), hww.trans inferInstance⟩
end Go.Proofs.YtknhebakebmlcaaGreat
namespace Go.Proofs.YtknhebakebmlcaaGreat
open Go Go.RowKit
set_option linter.unusedVariables false
set_option maxRecDepth 100000
theorem len_flat {bs : List (List Int)} {x : List Int} (h : x ∈ bs) : x.length ≤ bs.flatten.length := by
 induction bs with
 | nil => cases h
 | cons y l ih =>
  simp only [List.flatten_cons, List.length_append]
  rcases List.mem_cons.1 h with rfl | h
  ·omega
  ·have := ih h; omega
theorem rows12 {t : Timetable} {f : Fleet} {bs : List (List Int)} (h : okBlocks t f bs = true) : ∀ x, x ∈ bs → x.length ≤ 1048576 := by
 have h1 := h
 simp only [okBlocks, Bool.and_eq_true] at h1
 have h2 := h1.2
 unfold okBlk at h2
 split at h2
 ·cases h2
 ·rename_i s hs
  have h3 : s.length = bs.flatten.length := by have := blkGo_len hs; simpa using this
  have h4 := (runFacts h1.1).time.len
  have h5 : s.length = t.Trips.length := by simpa using h2
  intro x hx
  have h6 := len_flat hx
  omega
end Go.Proofs.YtknhebakebmlcaaGreat
namespace Go.Proofs.YtknhebakebmlcaaGreat
open Go Go.RowKit
set_option linter.unusedVariables false
set_option maxRecDepth 100000
def pcsGo (bs : List (List Int)) : List (List Int) → List Int → Bool
 | [], _ => true
 | p :: l, seen => pieceOk bs p && (match idsGo p seen with | none => false | some s => pcsGo bs l s)
def pcsThen (bs l : List (List Int)) (p seen : List Int) : Bool := match idsGo p seen with | none => false | some s => pcsGo bs l s
theorem idsGo_nodup {l seen : List Int} (h : seen.Nodup) : idsGo l seen = if (seen ++ l).Nodup then some (seen ++ l) else none := by
 induction l generalizing seen with
 | nil => simp [idsGo, h]
 | cons v l ih =>
  simp only [idsGo]
  by_cases c : v ∈ seen
  ·rw [if_pos c, if_neg]
   intro hn
   rw [List.nodup_append] at hn
   exact hn.2.2 v c v (by simp) rfl
  ·rw [if_neg c, ih (by
    rw [List.nodup_append]
    exact ⟨h, by simp, by intro a ha b hb; simp at hb; subst hb; intro e; subst e; exact c ha⟩)]
   simp [List.append_assoc]
theorem pcsGo_eq (bs ps : List (List Int)) {seen : List Int} (h : seen.Nodup) : pcsGo bs ps seen = (ps.all (pieceOk bs) && decide (seen ++ ps.flatten).Nodup) := by
 induction ps generalizing seen with
 | nil => simp [pcsGo, h]
 | cons p l ih =>
  simp only [pcsGo, List.all_cons, List.flatten_cons]
  rw [idsGo_nodup h]
  by_cases c : (seen ++ p).Nodup
  ·rw [if_pos c]
   simp only
   rw [ih c, List.append_assoc]
   cases pieceOk bs p <;> simp
  ·rw [if_neg c]
   have : ¬ (seen ++ (p ++ l.flatten)).Nodup := by
    rw [← List.append_assoc]
    intro e
    exact c (List.nodup_append.1 e).1
   simp [this]
theorem okPieces_go (bs ps : List (List Int)) : okPieces bs ps = (pcsGo bs ps [] && inB ps.length 1 3) := by
 rw [pcsGo_eq bs ps List.nodup_nil]
 unfold okPieces
 simp only [List.nil_append]
 cases inB (ps.length : Int) 1 3 <;> cases ps.all (pieceOk bs) <;> simp
theorem pcsThen_cons_in {bs l : List (List Int)} {v : Int} {p seen : List Int} (h : v ∈ seen) : pcsThen bs l (v :: p) seen = false := by unfold pcsThen; simp [idsGo, h]
theorem pcsThen_cons_out {bs l : List (List Int)} {v : Int} {p seen : List Int} (h : ¬ v ∈ seen) : pcsThen bs l (v :: p) seen = pcsThen bs l p (seen ++ [v]) := by unfold pcsThen; simp [idsGo, h]
theorem pcsThen_nil {bs l : List (List Int)} {seen : List Int} : pcsThen bs l [] seen = pcsGo bs l seen := rfl
theorem pcsGo_good {bs l : List (List Int)} {p seen : List Int} (h : pieceOk bs p = true) : pcsGo bs (p :: l) seen = pcsThen bs l p seen := by simp [pcsGo, h, pcsThen]
/-- Sorted and without what follows its like: shorter just where one comes twice. -/
theorem compact_short (zs : List Int) : (Lib.compact (zs.mergeSort fun x y => decide (x ≤ y))).length < zs.length ↔ ¬ zs.Nodup := by
 obtain ⟨S, hS⟩ : ∃ S, S = zs.mergeSort fun x y => decide (x ≤ y) := ⟨_, rfl⟩
 have hp : S.Perm zs := by rw [hS]; exact List.mergeSort_perm _ _
 have hs : S.Pairwise (fun a b => a ≤ b) := by
  rw [hS]
  have := List.pairwise_mergeSort (le := fun x y : Int => decide (x ≤ y)) (by intro a b c; simp; omega) (by intro a b; simp; omega) zs
  simpa using this
 rw [← hS, ← hp.nodup_iff, ← hp.length_eq]
 have hk : (Lib.compact S).length < S.length ↔ ∃ j, j < S.length ∧ Lib.keeps S.toArray j = false := by
  unfold Lib.compact Lib.compactUpTo
  rw [List.length_map]
  have := @List.length_filter_lt_length_iff_exists _ (Lib.keeps S.toArray) (List.range S.length)
  rw [List.length_range] at this
  rw [this]
  simp
 rw [hk]
 have hg : ∀ j (hj : j < S.length), S.toArray[j]! = S[j] := fun j hj => by simp [hj]
 constructor
 ·rintro ⟨j, hj, h⟩ hn
  simp only [Lib.keeps, decide_eq_false_iff_not, not_or, Decidable.not_not] at h
  have h1 : j ≠ 0 := h.1
  have h2 : S[j] = S[j - 1] := by have := h.2; rw [hg j hj, hg (j - 1) (by omega)] at this; simpa using this
  rw [List.Nodup, List.pairwise_iff_getElem] at hn
  exact hn (j - 1) j (by omega) hj (by omega) h2.symm
 ·intro hn
  apply Decidable.byContradiction
  intro hc
  apply hn
  have hall : ∀ j (hj : j < S.length), j ≠ 0 → S[j] ≠ S[j - 1] := by
   intro j hj h0 he
   apply hc
   refine ⟨j, hj, ?_⟩
   simp only [Lib.keeps, decide_eq_false_iff_not, not_or, Decidable.not_not]
   exact ⟨h0, by rw [hg j hj, hg (j - 1) (by omega)]; exact he⟩
  rw [List.pairwise_iff_getElem] at hs
  rw [List.Nodup, List.pairwise_iff_getElem]
  intro i j hi hj hij
  have h1 := hall j hj (by omega)
  have h2 : S[j - 1] ≤ S[j] := hs (j - 1) j (by omega) hj (by omega)
  have h3 : S[i] ≤ S[j - 1] := by
   by_cases e : i = j - 1
   ·subst e; exact Int.le_refl _
   ·exact hs i (j - 1) hi (by omega) (by omega)
  omega
/-- Lists of a size that numbers bear. -/
structure Fits (ps : List (List Int)) : Prop where
 all : ps.flatten.length ≤ 4194304
 each : ∀ p, p ∈ ps → p.length ≤ 1048576
/-- What is known where the first rule is kept. -/
structure BrkFacts (t : Timetable) (ps : List (List Int)) : Prop where
 pos : 0 < ps.length
 max : ps.length ≤ 3
 piece : ∀ p, p ∈ ps → 0 < p.length
 found : ∀ p, p ∈ ps → FoundAll t p
theorem brkFacts {t : Timetable} {f : Fleet} {bs ps : List (List Int)} (h : okBlocks t f bs = true) (hp : okPieces bs ps = true) : BrkFacts t ps := by
 have h1 := h
 simp only [okBlocks, Bool.and_eq_true] at h1
 have bf := blkFacts h1.2
 have ⟨a, b⟩ := pcsFacts bf hp
 exact ⟨a.pos, b, fun p hp => (a.pieces p hp).1, fun p hp => (a.pieces p hp).2⟩
theorem BrkFacts.at_ {t : Timetable} {ps : List (List Int)} (h : BrkFacts t ps) {k : Nat} {p : List Int} (hp : ps[k]? = some p) : 0 < p.length ∧ FoundAll t p :=
 ⟨h.piece p (List.mem_of_getElem? hp), h.found p (List.mem_of_getElem? hp)⟩
theorem gapsP_mem {t : Timetable} {f : Fleet} (rf : RunFacts t f) {ps : List (List Int)} (h : BrkFacts t ps) : ∀ g, g ∈ gapsP t f ps → -1919 ≤ g ∧ g ≤ 1799 := by
 intro g hg
 obtain ⟨k, hk⟩ := List.getElem?_of_mem hg
 have hl : k < (gapsP t f ps).length := (List.getElem?_eq_some_iff.1 hk).1
 rw [gapsP_len] at hl
 have h0 : ps[k]? = some ps[k] := List.getElem?_eq_getElem (by omega)
 have h1 : ps[k + 1]? = some ps[k + 1] := List.getElem?_eq_getElem (by omega)
 have h2 := gapsP_at (t := t) (f := f) h0 h1
 rw [hk] at h2
 obtain rfl := Option.some.inj h2
 have a := h.at_ h0
 have b := h.at_ h1
 exact gapP_bd rf a.1 b.1 a.2 b.2
theorem lastP_of {ps : List (List Int)} {m : Nat} {x : List Int} (hl : m + 1 = ps.length) (h : ps[m]? = some x) : ps.getLastD [] = x := by
 rw [List.getLastD_eq_getLast?, List.getLast?_eq_getElem?, ← hl]
 simp [h]
theorem headP_of {ps : List (List Int)} {x : List Int} (h : ps[0]? = some x) : ps.headD [] = x := by
 cases ps with
 | nil => simp at h
 | cons y l => simpa using h
section
variable {t : Timetable} {f : Fleet} {bs ps : List (List Int)} {r : Rules}
def overD (t : Timetable) (r : Rules) (p : List Int) : Bool := decide (r.MaxDrive < finP t p - begP t p)
def shortB (r : Rules) (g : Int) : Bool := decide (g < r.MinBreak)
theorem brokenD_1 (h : okPieces bs ps = false) : brokenD t f bs r ps = 1 := if_pos h
theorem brokenD_2 (h : okPieces bs ps = true) (h2 : ps.any (overD t r) = true) : brokenD t f bs r ps = 2 := by
 unfold brokenD
 rw [if_neg (by rw [h]; simp), if_pos (by exact h2)]
theorem brokenD_3 (h : okPieces bs ps = true) (h2 : ps.any (overD t r) = false) (h3 : (gapsP t f ps).any (shortB r) = true) : brokenD t f bs r ps = 3 := by
 unfold brokenD
 rw [if_neg (by rw [h]; simp), if_neg (by show ¬ (ps.any (overD t r) = true); rw [h2]; simp), if_pos (by exact h3)]
theorem brokenD_4 (h : okPieces bs ps = true) (h2 : ps.any (overD t r) = false) (h3 : (gapsP t f ps).any (shortB r) = false) (h4 : r.MaxLength < lenD t r ps) : brokenD t f bs r ps = 4 := by
 unfold brokenD
 rw [if_neg (by rw [h]; simp), if_neg (by show ¬ (ps.any (overD t r) = true); rw [h2]; simp), if_neg (by show ¬ ((gapsP t f ps).any (shortB r) = true); rw [h3]; simp), if_pos h4]
theorem brokenD_0 (h : okPieces bs ps = true) (h2 : ps.any (overD t r) = false) (h3 : (gapsP t f ps).any (shortB r) = false) (h4 : ¬ r.MaxLength < lenD t r ps) : brokenD t f bs r ps = 0 := by
 unfold brokenD
 rw [if_neg (by rw [h]; simp), if_neg (by show ¬ (ps.any (overD t r) = true); rw [h2]; simp), if_neg (by show ¬ ((gapsP t f ps).any (shortB r) = true); rw [h3]; simp), if_neg h4]
theorem brokenD_ok (h : brokenD t f bs r ps = 0) : okPieces bs ps = true := by
 cases c : okPieces bs ps with
 | true => rfl
 | false => rw [brokenD_1 c] at h; cases h
end
theorem any_snoc {α : Type} {l : List α} {k : Nat} {x : α} {p : α → Bool} (hx : l[k]? = some x) (h : (l.take k).any p = false) (hp : p x = false) : (l.take (k + 1)).any p = false := by
 rw [take_succ_at hx, List.any_append, h]
 simp [hp]
theorem any_at {α : Type} {l : List α} {k : Nat} {x : α} {p : α → Bool} (hx : l[k]? = some x) (hp : p x = true) : l.any p = true :=
 List.any_eq_true.2 ⟨x, List.mem_of_getElem? hx, hp⟩
theorem all_snoc {α : Type} {l : List α} {k : Nat} {x : α} {p : α → Bool} (hx : l[k]? = some x) (h : (l.take k).all p = true) (hp : p x = true) : (l.take (k + 1)).all p = true := by
 rw [take_succ_at hx, List.all_append, h]
 simp [hp]
theorem all_not {α : Type} {l : List α} {k : Nat} {x : α} {p : α → Bool} (hx : l[k]? = some x) (hp : p x = false) : l.all p = false := by
 cases c : l.all p with
 | false => rfl
 | true => rw [List.all_eq_true] at c; rw [c x (List.mem_of_getElem? hx)] at hp; cases hp
theorem flat_snoc {l : List (List Int)} {k : Nat} {x : List Int} (hx : l[k]? = some x) : (l.take (k + 1)).flatten = (l.take k).flatten ++ x := by
 rw [take_succ_at hx]
 simp
theorem flat_take_le (l : List (List Int)) (k : Nat) : (l.take k).flatten.length ≤ l.flatten.length := by
 have : l.flatten = (l.take k).flatten ++ (l.drop k).flatten := by rw [← List.flatten_append, List.take_append_drop]
 rw [this, List.length_append]
 omega
theorem okPieces_all {bs ps : List (List Int)} (h : ps.all (pieceOk bs) = false) : okPieces bs ps = false := by unfold okPieces; rw [h]; simp
theorem okPieces_len {bs ps : List (List Int)} (h : inB ps.length 1 3 = false) : okPieces bs ps = false := by unfold okPieces; rw [h]; simp
theorem okPieces_dup {bs ps : List (List Int)} (h : ¬ ps.flatten.Nodup) : okPieces bs ps = false := by unfold okPieces; simp [h]
theorem okPieces_yes {bs ps : List (List Int)} (h1 : inB ps.length 1 3 = true) (h2 : ps.all (pieceOk bs) = true) (h3 : ps.flatten.Nodup) : okPieces bs ps = true := by unfold okPieces; rw [h1, h2]; simp [h3]
end Go.Proofs.YtknhebakebmlcaaGreat
