/-
 FewestDuties: the pieces of a cut, what their duties cost, the list of the best duties. Plain functions.
-/
import Derived.Test.YtknhebakebmlcaaGreatDpP
import Derived.Test.YtknhebakebmlcaaGreatCut
import Derived.Test.YtknhebakebmlcaaGreatPaid
namespace Go.Proofs.YtknhebakebmlcaaGreat
open Go Go.RowKit
set_option linter.unusedVariables false
set_option maxRecDepth 100000
set_option linter.unusedSimpArgs false
/-! ### Valid blocks: no trip twice, each trip starts behind the one before -/
theorem rowGo_seen {t : Timetable} {f : Fleet} {l : List Int} {prev : Int} {seen s : List Int} (h : rowGo t f l prev seen = some s) (hn : seen.Nodup) : s = seen ++ l.map (findI t) ∧ s.Nodup := by
 induction l generalizing prev seen with
 | nil => simp [rowGo] at h; subst h; simp [hn]
 | cons x l ih =>
  simp only [rowGo] at h
  split at h
  ·cases h
  ·rename_i hc
   obtain ⟨h1, h2⟩ := ih h (by
    rw [List.nodup_append]
    exact ⟨hn, by simp, fun a ha b hb e => by simp at hb; subst hb; subst e; exact hc (.inr (.inl ha))⟩)
   exact ⟨by rw [h1]; simp, h2⟩
theorem blkGo_seen {t : Timetable} {f : Fleet} {bs : List (List Int)} {prev : Option Int} {seen s : List Int} (h : blkGo t f bs prev seen = some s) (hn : seen.Nodup) : s = seen ++ bs.flatten.map (findI t) ∧ s.Nodup := by
 induction bs generalizing prev seen with
 | nil => simp [blkGo] at h; subst h; simp [hn]
 | cons b bs ih =>
  cases b with
  | nil => simp [blkGo] at h
  | cons id b =>
   simp only [blkGo] at h
   by_cases hc : notUp prev id = true
   ·rw [if_pos hc] at h; cases h
   ·rw [if_neg hc] at h
    cases hs : rowGo t f (id :: b) (-1) seen with
    | none => rw [hs] at h; cases h
    | some s' =>
     rw [hs] at h
     obtain ⟨h1, h2⟩ := rowGo_seen hs hn
     obtain ⟨h3, h4⟩ := ih h h2
     refine ⟨?_, h4⟩
     rw [h3, h1]
     simp
theorem blk_nodup {t : Timetable} {f : Fleet} {bs : List (List Int)} (h : okBlk t f bs = true) : bs.flatten.Nodup ∧ bs.flatten.length = t.Trips.length := by
 unfold okBlk at h
 split at h
 ·cases h
 ·rename_i s hs
  obtain ⟨h1, h2⟩ := blkGo_seen hs List.nodup_nil
  have h3 : s.length = t.Trips.length := by simpa using h
  rw [List.nil_append] at h1
  rw [h1] at h2 h3
  rw [List.length_map] at h3
  exact ⟨(List.pairwise_map.1 h2).imp fun hab e => hab (by rw [e]), h3⟩
theorem rowGo_chain {t : Timetable} {f : Fleet} {l : List Int} {prev : Int} {seen s : List Int} (h : rowGo t f l prev seen = some s) : ∀ (j : Nat) (a b : Int), l[j]? = some a → l[j + 1]? = some b → canF t f (tripI t (findI t a)) (tripI t (findI t b)) = true := by
 induction l generalizing prev seen with
 | nil => intro j a b h1; simp at h1
 | cons x l ih =>
  simp only [rowGo] at h
  split at h
  ·cases h
  ·rename_i hc
   intro j a b h1 h2
   cases j with
   | succ j => exact ih h j a b (by simpa using h1) (by simpa using h2)
   | zero =>
    simp at h1 h2
    subst h1
    cases l with
    | nil => simp at h2
    | cons y l =>
     simp at h2
     subst h2
     simp only [rowGo] at h
     split at h
     ·cases h
     ·rename_i hd
      have hx : ¬ findI t x < 0 := fun e => hc (.inl e)
      cases hF : canF t f (tripI t (findI t x)) (tripI t (findI t y)) with
      | true => rfl
      | false => exact absurd (.inr (.inr ⟨by omega, hF⟩)) hd
theorem blkGo_chain {t : Timetable} {f : Fleet} {bs : List (List Int)} {prev : Option Int} {seen s : List Int} (h : blkGo t f bs prev seen = some s) : ∀ x, x ∈ bs → ∀ (j : Nat) (a b : Int), x[j]? = some a → x[j + 1]? = some b → canF t f (tripI t (findI t a)) (tripI t (findI t b)) = true := by
 induction bs generalizing prev seen with
 | nil => intro x hx; cases hx
 | cons b bs ih =>
  cases b with
  | nil => simp [blkGo] at h
  | cons id b =>
   simp only [blkGo] at h
   by_cases hc : notUp prev id = true
   ·rw [if_pos hc] at h; cases h
   ·rw [if_neg hc] at h
    cases hs : rowGo t f (id :: b) (-1) seen with
    | none => rw [hs] at h; cases h
    | some s' =>
     rw [hs] at h
     intro x hx
     rcases List.mem_cons.1 hx with rfl | hx
     ·exact rowGo_chain hs
     ·exact ih h x hx
theorem sumI_pos {l : List Int} (h : ∀ r, r ∈ l → 0 ≤ r) : 0 ≤ sumI l := by
 induction l with
 | nil => simp [sumI]
 | cons x l ih =>
  have h1 := h x (by simp)
  have h2 := ih fun r hr => h r (by simp [hr])
  simp only [sumI]; omega
theorem endAt_ge {t : Timetable} (h : TimeFacts t) {i : Int} (h0 : 0 ≤ i) (h1 : i < t.Trips.length) : (tripI t i).Start ≤ endAt t (tripI t i) := by
 have hl := lineI_facts h h0 h1
 have := sumI_pos fun r hr => Int.le_trans (by omega) (hl.run r hr).1
 unfold endAt
 unfold lineI at this
 omega
/-- In a block each trip ends behind the start of the ones before. -/
theorem row_up {t : Timetable} {f : Fleet} (rf : RunFacts t f) {x : List Int} (hf : FoundAll t x) (hc : ∀ (j : Nat) (a b : Int), x[j]? = some a → x[j + 1]? = some b → canF t f (tripI t (findI t a)) (tripI t (findI t b)) = true) (n : Nat) :
  ∀ (j : Nat) (a b : Int), x[j]? = some a → x[j + n]? = some b → (tripI t (findI t a)).Start ≤ (tripI t (findI t b)).Start := by
 induction n with
 | zero => intro j a b h1 h2; rw [Nat.add_zero, h1] at h2; cases h2; omega
 | succ n ih =>
  intro j a b h1 h2
  obtain ⟨c, hcc⟩ : ∃ c, x[j + 1]? = some c := ⟨_, List.getElem?_eq_getElem (by have := (List.getElem?_eq_some_iff.1 h2).1; omega)⟩
  have h3 := ih (j + 1) c b hcc (by rw [show j + 1 + n = j + (n + 1) by omega]; exact h2)
  have h4 := hc j a c h1 hcc
  unfold canF at h4
  have h5 : endAt t (tripI t (findI t a)) + f.Turn + deadB t f (tripI t (findI t a)) (tripI t (findI t c)) ≤ (tripI t (findI t c)).Start := by simpa using h4
  have fa := hf a (List.mem_of_getElem? h1)
  have fc := hf c (List.mem_of_getElem? hcc)
  have ta := tripI_facts rf.time fa (findI_bd t a).2
  have tc := tripI_facts rf.time fc (findI_bd t c).2
  have h6 := deadB_bd rf.time.net rf.fleet ta.line0 ta.line1 tc.line0 tc.line1
  have h7 := rf.fleet.turn
  have h8 := endAt_ge rf.time fa (findI_bd t a).2
  omega
theorem durP_pos {t : Timetable} {f : Fleet} {bs : List (List Int)} (hb : okBlocks t f bs = true) {p : List Int} (hp : pieceOk bs p = true) : 0 ≤ durP t p := by
 have hb2 := hb
 simp only [okBlocks, Bool.and_eq_true] at hb2
 have rf := runFacts hb2.1
 have bf := blkFacts hb2.2
 have hok := hb2.2
 unfold okBlk at hok
 cases hs : blkGo t f bs none [] with
 | none => rw [hs] at hok; cases hok
 | some s =>
  have hch := blkGo_chain hs
  cases p with
  | nil => simp [pieceOk] at hp
  | cons v p =>
   have hp2 := hp
   simp only [pieceOk, Bool.and_eq_true, decide_eq_true_eq] at hp
   obtain ⟨m, j, x, h1, h2, h3⟩ := placeOf_at hp.1
   have h4 := hp.2
   unfold cutOf at h4
   rw [h1] at h4
   simp only [blkI_of h2, Int.toNat_natCast] at h4
   have hx := List.mem_of_getElem? h2
   have hfx : FoundAll t x := fun u hu => by
    obtain ⟨k, hk⟩ := List.getElem?_of_mem hu
    exact bf.found m x h2 k u hk
   have hlast : x[j + p.length]? = some (lastI (v :: p)) := by
    have e : (v :: p)[p.length]? = some (lastI (v :: p)) := by
     rw [List.getElem?_eq_getElem (by simp)]
     rw [lastI_of (m := p.length) (by simp) (List.getElem?_eq_getElem (by simp))]
    rw [← h4] at e
    rw [List.getElem?_take, if_pos (by omega), List.getElem?_drop] at e
    rw [e, ← h4]
   have hh : headI (v :: p) = v := rfl
   have h5 := row_up rf hfx (hch x hx) p.length j v _ h3 hlast
   have fl := hfx _ (List.mem_of_getElem? hlast)
   have h6 := endAt_ge rf.time fl (findI_bd t _).2
   unfold durP finP begP
   rw [hh]
   omega
/-- What the duty costs, or -1 where it breaks a rule. -/
def paidOr (t : Timetable) (f : Fleet) (bs : List (List Int)) (r : Rules) (ps : List (List Int)) : Int := if brokenD t f bs r ps = 0 then paidD t f r ps else -1
theorem paidD_in {t : Timetable} {f : Fleet} {bs : List (List Int)} {r : Rules} (hr : okRuled t f bs r = true) {ps : List (List Int)} (h0 : brokenD t f bs r ps = 0) (h2 : ps.length ≤ 2) : 0 ≤ paidD t f r ps ∧ paidD t f r ps ≤ 4500 := by
 have hb := okRuled_blocks hr
 have rr := okRuled_rules hr
 have hok := brokenD_ok h0
 have hdr : ps.any (overD t r) = false := by
  cases c : ps.any (overD t r) with
  | false => rfl
  | true => rw [brokenD_2 hok c] at h0; cases h0
 have hgp : (gapsP t f ps).any (shortB r) = false := by
  cases c : (gapsP t f ps).any (shortB r) with
  | false => rfl
  | true => rw [brokenD_3 hok hdr c] at h0; cases h0
 have hall : ∀ p, p ∈ ps → pieceOk bs p = true := by
  have := hok
  simp only [okPieces, Bool.and_eq_true, List.all_eq_true] at this
  exact this.1.2
 have hd : ∀ p, p ∈ ps → 0 ≤ durP t p ∧ durP t p ≤ 900 := fun p hp => by
  have h1 := durP_pos hb (hall p hp)
  have h2 := List.any_eq_false.1 hdr p hp
  unfold overD at h2
  have := rr.drive
  unfold durP at *
  simp at h2
  omega
 have hg : ∀ g, g ∈ gapsP t f ps → 0 ≤ g := fun g hg => by
  have h2 := List.any_eq_false.1 hgp g hg
  unfold shortB at h2
  have := rr.break_
  simp at h2
  omega
 have r1 := rr.on
 have r2 := rr.off
 have r3 := rr.paid
 unfold paidD durs minsG
 match ps, h2 with
 | [], _ => simp [gapsP, sumI]; omega
 | [p], _ =>
  have := hd p (by simp)
  simp [gapsP, gapsGo, sumI]; omega
 | [p, q], _ =>
  have a1 := hd p (by simp)
  have a2 := hd q (by simp)
  have a3 := hg (gapP t f p q) (by simp [gapsP, gapsGo])
  simp [gapsP, gapsGo, sumI]
  omega
theorem paidOr_in {t : Timetable} {f : Fleet} {bs : List (List Int)} {r : Rules} (hr : okRuled t f bs r = true) {ps : List (List Int)} (h2 : ps.length ≤ 2) : -1 ≤ paidOr t f bs r ps ∧ paidOr t f bs r ps ≤ 4500 := by
 unfold paidOr
 split
 ·rename_i h
  have := paidD_in hr h h2
  omega
 ·omega
/-! ### The pieces of a cut -/
theorem cutGo_flat (t : Timetable) (cut : Int) (l : List Int) : ∀ acc, l ≠ [] → (cutGo t cut acc l).flatten = acc ++ l := by
 induction l with
 | nil => intro acc h; exact absurd rfl h
 | cons v l ih =>
  intro acc _
  simp only [cutGo]
  split
  ·rename_i h
   by_cases e : l = []
   ·subst e; simp [cutGo]
   ·rw [List.flatten_cons, ih [] e]; simp
  ·rename_i h
   rw [ih _ fun e => h (.inl e)]; simp
theorem cutGo_pos (t : Timetable) (cut : Int) (l : List Int) : ∀ acc, ∀ p, p ∈ cutGo t cut acc l → p ≠ [] := by
 induction l with
 | nil => intro acc p h; simp [cutGo] at h
 | cons v l ih =>
  intro acc p h
  simp only [cutGo] at h
  split at h
  ·rcases List.mem_cons.1 h with rfl | h
   ·simp
   ·exact ih _ p h
  ·exact ih _ p h
theorem cutAll_flat (t : Timetable) (cut : Int) (bs : List (List Int)) : (cutAll t cut bs).flatten = bs.flatten := by
 induction bs with
 | nil => rfl
 | cons x l ih =>
  simp only [cutAll, List.flatMap_cons, List.flatten_append, List.flatten_cons] at *
  rw [ih]
  unfold cutRow
  by_cases e : x = []
  ·subst e; rfl
  ·rw [cutGo_flat t cut x [] e]; rfl
theorem cutAll_pos {t : Timetable} {cut : Int} {bs : List (List Int)} {p : List Int} (h : p ∈ cutAll t cut bs) : p ≠ [] := by
 unfold cutAll at h
 obtain ⟨x, _, h⟩ := List.mem_flatMap.1 h
 exact cutGo_pos t cut x [] p h
theorem heads_nodup {ps : List (List Int)} (hn : ps.flatten.Nodup) (hp : ∀ p, p ∈ ps → p ≠ []) : (ps.map headI).Nodup := by
 induction ps with
 | nil => simp
 | cons p ps ih =>
  rw [List.flatten_cons, List.nodup_append] at hn
  obtain ⟨h1, h2, h3⟩ := hn
  rw [List.map_cons, List.nodup_cons]
  refine ⟨fun hm => ?_, ih h2 fun q hq => hp q (by simp [hq])⟩
  obtain ⟨q, hq, e⟩ := List.mem_map.1 hm
  have hpp : headI p ∈ p := headI_mem (List.length_pos_iff.2 (hp p (by simp)))
  have hqq : headI q ∈ q := headI_mem (List.length_pos_iff.2 (hp q (by simp [hq])))
  exact h3 _ hpp (headI q) (List.mem_flatten.2 ⟨q, hq, hqq⟩) e.symm
def pcK (ps : List (List Int)) (i : Nat) : List Int := ps.getD i []
theorem pcK_of {ps : List (List Int)} {i : Nat} {p : List Int} (h : ps[i]? = some p) : pcK ps i = p := by simp [pcK, List.getD, h]
/-- A duty's key: the first id of its first piece. -/
def keyD (d : List (List Int)) : Int := headI (d.headD [])
theorem mix_keys (pc : Nat → List Int) (uf : Nat) (b : List (Option Nat)) : ∀ i, ((mixGo pc uf i b).map keyD).Sublist ((List.range' i b.length).map fun j => headI (pc j)) := by
 induction b with
 | nil => intro i; simp [mixGo]
 | cons o b ih =>
  intro i
  rw [List.length_cons, List.range'_succ, List.map_cons]
  cases o with
  | some k =>
   simp only [mixGo, List.map_cons]
   exact (ih (i + 1)).cons_cons _
  | none =>
   simp only [mixGo]
   split
   ·exact (ih (i + 1)).cons _
   ·rw [List.map_cons]
    exact (ih (i + 1)).cons_cons _
theorem mix_nodup {ps : List (List Int)} (hn : (ps.map headI).Nodup) (uf : Nat) {b : List (Option Nat)} (hb : b.length = ps.length) : ((mixGo (pcK ps) uf 0 b).map keyD).Nodup := by
 have h := mix_keys (pcK ps) uf b 0
 refine h.nodup ?_
 have e : (List.range' 0 b.length).map (fun j => headI (pcK ps j)) = ps.map headI := by
  rw [hb]
  apply List.ext_getElem?
  intro i
  rw [List.getElem?_map, List.getElem?_map]
  by_cases hi : i < ps.length
  ·rw [List.getElem?_range' hi, List.getElem?_eq_getElem hi]
   simp [pcK, List.getD, hi]
  ·rw [List.getElem?_eq_none (by simp; omega), List.getElem?_eq_none (by omega)]; rfl
 rw [e]
 exact hn
section
variable (t : Timetable) (f : Fleet) (bs : List (List Int)) (r : Rules) (ps : List (List Int))
def pcA (i : Nat) : Int := paidOr t f bs r [pcK ps i]
def pcP (i k : Nat) : Int := if i = k then -1 else paidOr t f bs r [pcK ps i, pcK ps k]
/-- Who drives behind whom. -/
def behL : List (Option Nat) := behGo ps.length (pcA t f bs r ps) (pcP t f bs r ps) ps.length 0
/-- The best duties of the pieces, by their first ids. -/
def bestD : List (List (List Int)) := sortK keyD (mixGo (pcK ps) (usedP 0 (behL t f bs r ps) 0) 0 (behL t f bs r ps))
def priceD : Int × Int := bI ps.length (pcA t f bs r ps) (pcP t f bs r ps) ps.length 0
end
section
variable {t : Timetable} {f : Fleet} {bs : List (List Int)} {r : Rules} {ps : List (List Int)}
theorem behL_len : (behL t f bs r ps).length = ps.length := behGo_len _ _
theorem bestD_alt (hn : (ps.map headI).Nodup) : bestD t f bs r ps = sortK keyD (pairsGo (pcK ps) 0 (behL t f bs r ps) ++ aloneGo (pcK ps) (usedP 0 (behL t f bs r ps) 0) 0 ps.length) := by
 unfold bestD
 refine sortK_uniq ?_ (mix_nodup hn _ behL_len)
 have := mix_perm (pcK ps) (usedP 0 (behL t f bs r ps) 0) (behL t f bs r ps) 0 fun t' k h => by
  rw [usedP_bit]
  exact .inr ⟨t', k, h, .inl (by omega)⟩
 rw [behL_len] at this
 exact this
end
end Go.Proofs.YtknhebakebmlcaaGreat
