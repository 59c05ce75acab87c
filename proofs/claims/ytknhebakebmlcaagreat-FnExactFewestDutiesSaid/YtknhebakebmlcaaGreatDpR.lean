/-
 FewestDuties: the best cut, and what is answered. Plain functions.
-/
import Derived.Test.YtknhebakebmlcaaGreatDpE
import Derived.Test.YtknhebakebmlcaaGreatDpN
namespace Go.Proofs.YtknhebakebmlcaaGreat
open Go Go.RowKit
set_option linter.unusedVariables false
set_option maxRecDepth 100000
set_option linter.unusedSimpArgs false
def leastP (b : Option (Nat × (Int × Int))) : Int × Int := match b with
 | none => (nev, 0)
 | some x => x.2
section
variable (t : Timetable) (f : Fleet) (bs : List (List Int)) (r : Rules)
def priceT (c : Nat) : Int × Int := priceD t f bs r (cutAll t (c : Int) bs)
def cutStep (b : Option (Nat × (Int × Int))) (c : Nat) : Option (Nat × (Int × Int)) := if okCut t bs (c : Int) = true ∧ prC (priceT t f bs r c) (leastP b) < 0 then some (c, priceT t f bs r c) else b
/-- The first cut with the least price among the first n. -/
def cutBest : Nat → Option (Nat × (Int × Int))
 | 0 => none
 | n + 1 => cutStep t f bs r (cutBest n) n
def fdOut (b : Option (Nat × (Int × Int))) : List Duty × Int × Int × Bool := match b with
 | none => ([], 0, 0, false)
 | some x => ((bestD t f bs r (cutAll t (x.1 : Int) bs)).map Duty.mk, (x.1 : Int), x.2.2, true)
def fdRes : List Duty × Int × Int × Bool := if okRuled t f bs r = true ∧ t.Trips.length ≤ 8 then fdOut t f bs r (cutBest t f bs r (2 ^ t.Trips.length)) else ([], 0, 0, false)
end
/-- A result of duties, a cut, minutes, and a Bool. -/
def RetD4 (x : List Duty × Int × Int × Bool) (w : World) (e : Ending) (w' : World) : Prop :=
 ∃ A n c fp, e = .returned (.tuple #[.slice A n c, .int .i64 x.2.1, .int .i64 x.2.2.1, .bool x.2.2.2]) ∧ OSl 1 oDuty w' A n c x.1 fp ∧ fp.Nodup ∧ (∀ g, g ∈ fp → w.heap.size ≤ g) ∧ Later w w'
/-- What is known of the pieces of a cut. -/
structure PcsC (t : Timetable) (f : Fleet) (bs : List (List Int)) (r : Rules) (ps : List (List Int)) : Prop where
 m8 : ps.length ≤ 8
 p12 : ps.flatten.length ≤ 12
 pos : ∀ p, p ∈ ps → p ≠ []
 heads : (ps.map headI).Nodup
 ci : CutIn ps.length (pcA t f bs r ps) (pcP t f bs r ps)
theorem pcsC {t : Timetable} {f : Fleet} {bs : List (List Int)} {r : Rules} (hr : okRuled t f bs r = true) (h8 : t.Trips.length ≤ 8) (c : Int) : PcsC t f bs r (cutAll t c bs) := by
 have hb := okRuled_blocks hr
 have hb2 := hb
 simp only [okBlocks, Bool.and_eq_true] at hb2
 obtain ⟨h1, h2⟩ := blk_nodup hb2.2
 have h3 := cutAll_sum t c bs
 have h4 := cutAll_flat t c bs
 have h5 : (cutAll t c bs).length ≤ 8 := by omega
 have hpos : ∀ p, p ∈ cutAll t c bs → p ≠ [] := fun p hp => cutAll_pos hp
 refine ⟨h5, by rw [h4]; omega, hpos, heads_nodup (by rw [h4]; exact h1) hpos, h5, fun k => (paidOr_in hr (by simp)).2, fun i k => ?_⟩
 unfold pcP
 split
 ·omega
 ·exact (paidOr_in hr (by simp)).2
theorem priceT_in {t : Timetable} {f : Fleet} {bs : List (List Int)} {r : Rules} (hr : okRuled t f bs r = true) (h8 : t.Trips.length ≤ 8) (c : Nat) : PrIn (cutAll t (c : Int) bs).length (priceT t f bs r c) :=
 (pcsC hr h8 c).ci.bI_in (Nat.le_refl _) (Nat.two_pow_pos _)
theorem bestD_raw {t : Timetable} {f : Fleet} {bs : List (List Int)} {r : Rules} {ps : List (List Int)} (h : PcsC t f bs r ps) : bestD t f bs r ps = sortK keyD (rawD ps.length (pcA t f bs r ps) (pcP t f bs r ps) ps) := bestD_alt h.heads
end Go.Proofs.YtknhebakebmlcaaGreat
