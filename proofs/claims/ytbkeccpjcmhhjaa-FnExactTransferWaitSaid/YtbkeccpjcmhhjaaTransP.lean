/-
  Headways: how long one waits between two patterns. Plain functions.
-/
import Derived.Test.YtbkeccpjcmhhjaaRestP
import Derived.Test.YtbkeccpjcmhhjaaHeadC
namespace Go.Proofs.Ytbkeccpjcmhhjaa
open Go Go.RowKit
set_option linter.unusedVariables false
set_option maxRecDepth 100000
def gapTo (x y walk p : Int) : Int := (y - (x + walk) % p + p) % p
theorem gapTo_cases {x y walk p : Int} (hp : 1 ≤ p) (y0 : 0 ≤ y) (y1 : y < p) : 0 ≤ (x + walk) % p ∧ (x + walk) % p < p ∧ 0 ≤ gapTo x y walk p ∧ gapTo x y walk p < p ∧
    ((x + walk) % p ≤ y ∧ (x + walk) % p + gapTo x y walk p = y ∨ y < (x + walk) % p ∧ (x + walk) % p + gapTo x y walk p = y + p) := by
  have r0 := Int.emod_nonneg (x + walk) (show p ≠ 0 by omega)
  have r1 := Int.emod_lt_of_pos (x + walk) (show 0 < p by omega)
  have g0 := Int.emod_nonneg (y - (x + walk) % p + p) (show p ≠ 0 by omega)
  have g1 := Int.emod_lt_of_pos (y - (x + walk) % p + p) (show 0 < p by omega)
  refine ⟨r0, r1, g0, g1, ?_⟩
  unfold gapTo
  generalize (x + walk) % p = r at *
  by_cases c : r ≤ y
  · refine .inl ⟨c, ?_⟩
    rw [Int.add_emod_right, Int.emod_eq_of_lt (by omega) (by omega)]; omega
  · refine .inr ⟨by omega, ?_⟩
    rw [Int.emod_eq_of_lt (by omega) (by omega)]; omega
theorem mod_step {s p j : Int} (hp : 1 ≤ p) (h : s % p + j < p) (h0 : 0 ≤ j) : (s + j) % p = s % p + j := by
  have e := Int.mul_ediv_add_emod s p
  have r0 := Int.emod_nonneg s (show p ≠ 0 by omega)
  rw [show s + j = (s % p + j) + p * (s / p) by omega, Int.add_mul_emod_self_left, Int.emod_eq_of_lt (by omega) h]
theorem mod_step2 {s p j : Int} (hp : 1 ≤ p) (h : p ≤ s % p + j) (h1 : s % p + j < 2 * p) : (s + j) % p = s % p + j - p := by
  have e := Int.mul_ediv_add_emod s p
  rw [show s + j = (s % p + j - p) + p * (s / p + 1) by rw [Int.mul_add]; omega, Int.add_mul_emod_self_left, Int.emod_eq_of_lt (by omega) (by omega)]
theorem gapTo_end {x y walk p : Int} (hp : 1 ≤ p) (y0 : 0 ≤ y) (y1 : y < p) : (x + (walk + gapTo x y walk p)) % p = y := by
  obtain ⟨r0, r1, g0, g1, h⟩ := gapTo_cases (x := x) (walk := walk) hp y0 y1
  rw [← Int.add_assoc]
  rcases h with ⟨_, h⟩ | ⟨_, h⟩
  · rw [mod_step hp (by omega) g0]; exact h
  · rw [mod_step2 hp (by omega) (by omega)]; omega
theorem gapTo_not {x y walk p j : Int} (hp : 1 ≤ p) (y0 : 0 ≤ y) (y1 : y < p) (h0 : 0 ≤ j) (h1 : j < gapTo x y walk p) : ¬ (x + (walk + j)) % p = y := by
  obtain ⟨r0, r1, g0, g1, h⟩ := gapTo_cases (x := x) (walk := walk) hp y0 y1
  rw [← Int.add_assoc]
  by_cases c : (x + walk) % p + j < p
  · rw [mod_step hp c h0]; omega
  · rw [mod_step2 hp (by omega) (by omega)]; omega
def transAsk (n : Network) (period : Int) (l : List Pattern) (a b stop walk : Int) : Bool :=
  okPassed n period l stop && inB a 0 ((l.length : Int) - 1) && inB b 0 ((l.length : Int) - 1) && decide (a ≠ b) && inB walk 0 60
def transGo (n : Network) (period : Int) (pa pb : Pattern) (stop walk : Int) : Int × Bool :=
  if placeIn (lineN n pa.Line) stop < 1 ∨ placeIn (lineN n pb.Line) stop < 0 ∨ placeIn (lineN n pb.Line) stop = ((lineN n pb.Line).Stops.length : Int) - 1 then (0, false)
  else (walk + gapTo (restOf n period pa stop) (restOf n period pb stop) walk period, true)
def twRes (n : Network) (period : Int) (l : List Pattern) (a b stop walk : Int) : Int × Bool :=
  if transAsk n period l a b stop walk = true then transGo n period (patI l a) (patI l b) stop walk else (0, false)
section
variable {n : Network} {period : Int} {l : List Pattern} {a b stop walk : Int}
theorem trans_no1 (h : okPassed n period l stop = false) : twRes n period l a b stop walk = (0, false) := by unfold twRes transAsk; rw [h]; rfl
theorem trans_no2 (h : inB a 0 ((l.length : Int) - 1) = false) : twRes n period l a b stop walk = (0, false) := by unfold twRes transAsk; rw [h]; simp
theorem trans_no3 (h : inB b 0 ((l.length : Int) - 1) = false) : twRes n period l a b stop walk = (0, false) := by unfold twRes transAsk; rw [h]; simp
theorem trans_no4 (h : a = b) : twRes n period l a b stop walk = (0, false) := by unfold twRes transAsk; simp [h]
theorem trans_no5 (h : inB walk 0 60 = false) : twRes n period l a b stop walk = (0, false) := by unfold twRes transAsk; rw [h]; simp
theorem trans_yes (h1 : okPassed n period l stop = true) (h2 : inB a 0 ((l.length : Int) - 1) = true) (h3 : inB b 0 ((l.length : Int) - 1) = true) (h4 : ¬ a = b) (h5 : inB walk 0 60 = true) : twRes n period l a b stop walk = transGo n period (patI l a) (patI l b) stop walk := by
  unfold twRes transAsk
  rw [h1, h2, h3, h5, decide_eq_true h4]; rfl
theorem rest_neg_iff (hp : 1 ≤ period) {p : Pattern} : restOf n period p stop < 0 ↔ placeIn (lineN n p.Line) stop < 0 := by
  constructor
  · intro h
    apply Decidable.byContradiction
    intro c
    rw [restOf_pos c] at h
    have := Int.emod_nonneg (p.Offset + runSum (lineN n p.Line) (placeIn (lineN n p.Line) stop).toNat) (show period ≠ 0 by omega)
    omega
  · intro h; rw [restOf_neg h]; omega
theorem place_iff {ns : Nat} {x : Line} (h : LineFacts ns x) {k : Nat} {s : Int} (hs : x.Stops[k]? = some s) : s = stop ↔ placeIn x stop = k := by
  constructor
  · rintro rfl; exact h.uniq k s hs
  · intro e
    obtain ⟨j, y, h1, h2, h3⟩ := idx_at (p := intIs stop) (l := x.Stops) (by unfold placeIn at e; omega)
    have ej : j = k := by unfold placeIn at e; omega
    subst ej
    rw [hs] at h1
    obtain rfl := Option.some.inj h1
    simpa [intIs] using h2
end
end Go.Proofs.Ytbkeccpjcmhhjaa
