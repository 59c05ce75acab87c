/-
 FewestDuties: what the reference's search for the best cut keeps, and how its list grows. Plain functions.
-/
import Derived.Test.YtknhebakebmlcaaGreatDpR
import Derived.Test.YtknhebakebmlcaaGreatDpW
import Derived.Test.YtknhebakebmlcaaGreatKh
namespace Go.Proofs.YtknhebakebmlcaaGreat
open Go Go.RowKit
set_option linter.unusedVariables false
set_option maxRecDepth 100000
set_option linter.unusedSimpArgs false
def bestI (b : Option (Nat × (Int × Int))) : Int := match b with
 | none => -1
 | some x => (x.1 : Int)
def lowI (b : Option (Nat × (Int × Int))) : Int := match b with
 | none => 0
 | some x => valP x.2
theorem val_lo {r : Nat} {b : Int × Int} (hb : PrIn r b) : 0 ≤ valP b ↔ b.1 < nev := by
 have h0 := hb.c0
 have h1 := hb.d0
 by_cases h : b.1 < nev
 ·rw [valP_lt h]; omega
 ·rw [valP_ge h]; omega
theorem pr_ref {r q : Nat} (hr : r ≤ 8) (hq : q ≤ 8) {b c : Int × Int} (hb : PrIn r b) (hc : PrIn q c) (hcn : 0 ≤ valP c) : prC b c < 0 ↔ 0 ≤ valP b ∧ valP b < valP c := by
 have h1 := val_nev hcn
 have h2 := hb.c0
 have h3 := hb.d0
 have h4 := hb.d1
 have h5 := hc.d0
 have h6 := hc.d1
 rw [prC_lt, valP_lt h1]
 by_cases h : b.1 < nev
 ·rw [valP_lt h]; omega
 ·rw [valP_ge h]; omega
section
variable {t : Timetable} {f : Fleet} {bs : List (List Int)} {r : Rules}
theorem cutBest_ok (hr : okRuled t f bs r = true) (h8 : t.Trips.length ≤ 8) (n : Nat) : ∀ x, cutBest t f bs r n = some x → x.2 = priceT t f bs r x.1 ∧ 0 ≤ valP x.2 ∧ okCut t bs (x.1 : Int) = true ∧ x.1 < n := by
 induction n with
 | zero => intro x h; simp [cutBest] at h
 | succ n ih =>
  intro x h
  simp only [cutBest, cutStep] at h
  split at h
  ·rename_i hc
   cases h
   have hp := priceT_in hr h8 n
   refine ⟨rfl, (val_lo hp).2 ?_, hc.1, by omega⟩
   have h2 := (prC_lt _ _).1 hc.2
   have h0 := hp.d0
   cases hb : cutBest t f bs r n with
   | none =>
    rw [hb] at h2
    simp only [leastP] at h2
    omega
   | some y =>
    rw [hb] at h2
    have h3 := val_nev (ih y hb).2.1
    simp only [leastP] at h2
    omega
  ·obtain ⟨h1, h2, h3, h4⟩ := ih x h
   exact ⟨h1, h2, h3, by omega⟩
/-- The reference's step. -/
theorem cutBest_ref (hr : okRuled t f bs r = true) (h8 : t.Trips.length ≤ 8) (c : Nat) : cutBest t f bs r (c + 1) =
  if okCut t bs (c : Int) = true ∧ 0 ≤ valP (priceT t f bs r c) ∧ (bestI (cutBest t f bs r c) < 0 ∨ valP (priceT t f bs r c) < lowI (cutBest t f bs r c)) then some (c, priceT t f bs r c) else cutBest t f bs r c := by
 have hp := priceT_in hr h8 c
 have key : prC (priceT t f bs r c) (leastP (cutBest t f bs r c)) < 0 ↔ 0 ≤ valP (priceT t f bs r c) ∧ (bestI (cutBest t f bs r c) < 0 ∨ valP (priceT t f bs r c) < lowI (cutBest t f bs r c)) := by
  cases hb : cutBest t f bs r c with
  | none =>
   have h0 := hp.d0
   rw [val_lo hp, prC_lt]
   simp only [leastP, bestI]
   omega
  | some y =>
   obtain ⟨h1, h2, h3, h4⟩ := cutBest_ok hr h8 c y hb
   have hq := priceT_in hr h8 y.1
   rw [← h1] at hq
   have := pr_ref (pcsC hr h8 c).m8 (pcsC hr h8 y.1).m8 hp hq h2
   simp only [leastP, bestI, lowI]
   rw [this]
   omega
 show cutStep t f bs r (cutBest t f bs r c) c = _
 unfold cutStep
 by_cases h : okCut t bs (c : Int) = true ∧ prC (priceT t f bs r c) (leastP (cutBest t f bs r c)) < 0
 ·rw [if_pos h, if_pos ⟨h.1, key.1 h.2⟩]
 ·rw [if_neg h, if_neg fun k => h ⟨k.1, key.2 k.2⟩]
theorem cutBest_bd (hr : okRuled t f bs r = true) (h8 : t.Trips.length ≤ 8) (n : Nat) : -1 ≤ bestI (cutBest t f bs r n) ∧ bestI (cutBest t f bs r n) < n ∧ -1 ≤ lowI (cutBest t f bs r n) ∧ lowI (cutBest t f bs r n) ≤ 30000000 := by
 cases hb : cutBest t f bs r n with
 | none => simp only [bestI, lowI]; omega
 | some y =>
  obtain ⟨h1, h2, h3, h4⟩ := cutBest_ok hr h8 n y hb
  have hq := priceT_in hr h8 y.1
  rw [← h1] at hq
  have h5 := val_nev h2
  have h6 := hq.c2
  have h7 := hq.d1
  have h9 := (pcsC hr h8 y.1).m8
  simp only [bestI, lowI]
  have h10 := hq.c0
  have h11 := hq.d0
  rw [valP_lt h5]
  have : y.2.1 ≤ 16 := by omega
  omega
theorem val_mod {p : Int × Int} {m : Nat} (hm : m ≤ 8) (h : PrIn m p) (h0 : 0 ≤ valP p) : valP p % 100000 = p.2 := by
 have h1 := h.d0
 have h2 := h.d1
 rw [valP_lt (val_nev h0)]
 omega
theorem priceT_val (c : Nat) : priceT t f bs r c = bI (cutAll t (c : Int) bs).length (pcA t f bs r (cutAll t (c : Int) bs)) (pcP t f bs r (cutAll t (c : Int) bs)) (cutAll t (c : Int) bs).length 0 := rfl
end
/-- The plan's cost, from the start. -/
theorem mS_start {m : Nat} {A : Nat → Int} {P : Nat → Nat → Int} (pin : PlanIn m A P) : mS m A P 0 0 = valP (bI m A P m 0) :=
 mS_val pin.m8 (fun k => (pin.a k).2) (fun i k => (pin.p i k).2) (Nat.le_refl m) (Nat.two_pow_pos m) (fun j hj _ => by rw [Nat.sub_self]; simp)
section
variable {α : Type} {pc : Nat → α}
theorem mixGo_snoc (uf : Nat) (o : Option Nat) (b : List (Option Nat)) : ∀ i, mixGo pc uf i (b ++ [o]) = mixGo pc uf i b ++ mixGo pc uf (i + b.length) [o] := by
 induction b with
 | nil => intro i; rfl
 | cons p b ih =>
  intro i
  have e : i + 1 + b.length = i + (b.length + 1) := by omega
  cases p with
  | some k => simp only [List.cons_append, mixGo, List.length_cons]; rw [ih (i + 1), e]
  | none =>
   simp only [List.cons_append, mixGo, List.length_cons]
   split
   ·rw [ih (i + 1), e]
   ·rw [ih (i + 1), e]; rfl
theorem mixGo_take {uf : Nat} {b : List (Option Nat)} {i : Nat} {o : Option Nat} (h : b[i]? = some o) : mixGo pc uf 0 (b.take (i + 1)) = mixGo pc uf 0 (b.take i) ++ mixGo pc uf i [o] := by
 have hl := (List.getElem?_eq_some_iff.1 h).1
 have e : b.take (i + 1) = b.take i ++ [o] := by
  rw [List.take_add_one, h]; rfl
 rw [e, mixGo_snoc, Nat.zero_add, List.length_take, Nat.min_eq_left (Nat.le_of_lt hl)]
theorem mixGo_mem {uf : Nat} {d : List α} (b : List (Option Nat)) : ∀ i, d ∈ mixGo pc uf i b → ∃ j k, d = [pc j, pc k] ∨ d = [pc j] := by
 induction b with
 | nil => intro i h; simp [mixGo] at h
 | cons o b ih =>
  intro i h
  cases o with
  | some k =>
   simp only [mixGo, List.mem_cons] at h
   rcases h with rfl | h
   ·exact ⟨i, k, .inl rfl⟩
   ·exact ih _ h
  | none =>
   simp only [mixGo] at h
   split at h
   ·exact ih _ h
   ·rcases List.mem_cons.1 h with rfl | h
    ·exact ⟨i, i, .inr rfl⟩
    ·exact ih _ h
end
/-- Nobody drives ahead of piece i. -/
theorem enc_has {m i : Nat} {BH : List (Option Nat)} {cs : List Int} (hE : EncB m BH cs) (hl : BH.length = m) (hi : i < m) (hn : BH[i]? = some none) : (i : Int) ∈ cs ↔ (usedP 0 BH 0).testBit i = true := by
 rw [usedP_bit]
 constructor
 ·intro h
  obtain ⟨t, ht⟩ := List.getElem?_of_mem h
  have htm : t < m := by rw [← hE.1]; exact (List.getElem?_eq_some_iff.1 ht).1
  have h2 := hE.2 t htm
  rw [ht] at h2
  have h3 := Option.some.inj h2
  cases hb : BH[t]? with
  | none => rw [hb] at h3; simp only [encO] at h3; omega
  | some o =>
   cases o with
   | none => rw [hb] at h3; simp only [encO] at h3; omega
   | some k =>
    rw [hb] at h3
    simp only [encO] at h3
    exact .inr ⟨t, k, hb, .inr (by omega)⟩
 ·rintro (h | ⟨t, k, hb, h⟩)
  ·simp at h
  ·have htm : t < m := by rw [← hl]; exact (List.getElem?_eq_some_iff.1 hb).1
   have h2 := hE.2 t htm
   rw [hb] at h2
   simp only [encO] at h2
   rcases h with h | h
   ·rw [Nat.zero_add] at h
    subst h
    rw [hn] at hb
    cases hb
   ·subst h
    exact List.mem_of_getElem? h2
theorem pcK_len (ps : List (List Int)) (j : Nat) : (pcK ps j).length ≤ ps.flatten.length := by
 unfold pcK
 by_cases h : j < ps.length
 ·rw [List.getD_eq_getElem?_getD, List.getElem?_eq_getElem h]
  exact len_flat (List.getElem_mem h)
 ·rw [List.getD_eq_getElem?_getD, List.getElem?_eq_none (by omega)]
  simp
theorem bestD_mem {t : Timetable} {f : Fleet} {bs : List (List Int)} {r : Rules} {ps : List (List Int)} {d : List (List Int)} (h : d ∈ bestD t f bs r ps) : ∃ j k, d = [pcK ps j, pcK ps k] ∨ d = [pcK ps j] := by
 unfold bestD at h
 exact mixGo_mem _ 0 ((sortK_perm _).mem_iff.1 h)
theorem bestD_len (t : Timetable) (f : Fleet) (bs : List (List Int)) (r : Rules) (ps : List (List Int)) : (bestD t f bs r ps).length ≤ ps.length := by
 unfold bestD
 rw [sortK_len]
 have h1 := mixGo_len (pc := pcK ps) (usedP 0 (behL t f bs r ps) 0) (behL t f bs r ps) 0
 rw [behL_len] at h1
 exact h1
/-- What is answered is small. -/
theorem fdRes_bd (t : Timetable) (f : Fleet) (bs : List (List Int)) (r : Rules) : (fdRes t f bs r).1.length ≤ 8 ∧ cntDutys (fdRes t f bs r).1 ≤ 192 := by
 unfold fdRes
 split
 ·rename_i h
  unfold fdOut
  split
  ·simp [cntDutys]
  ·rename_i x _
   have PC := pcsC h.1 h.2 (x.1 : Int)
   have hl := bestD_len t f bs r (cutAll t (x.1 : Int) bs)
   have h8 := PC.m8
   have h12 := PC.p12
   have hs : ∀ d, d ∈ (bestD t f bs r (cutAll t (x.1 : Int) bs)).map Duty.mk → sumLen d.Pieces ≤ 24 := fun d hd => by
    obtain ⟨e, he, rfl⟩ := List.mem_map.1 hd
    obtain ⟨j, k, rfl | rfl⟩ := bestD_mem he
    ·have h1 := pcK_len (cutAll t (x.1 : Int) bs) j
     have h2 := pcK_len (cutAll t (x.1 : Int) bs) k
     simp only [sumLen]; omega
    ·have h1 := pcK_len (cutAll t (x.1 : Int) bs) j
     simp only [sumLen]; omega
   have hc := cntDutys_le hs
   simp only [List.length_map] at hc ⊢
   omega
 ·simp [cntDutys]
end Go.Proofs.YtknhebakebmlcaaGreat
