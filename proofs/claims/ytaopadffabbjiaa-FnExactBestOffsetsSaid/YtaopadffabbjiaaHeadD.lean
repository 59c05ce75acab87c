/-
  Headways: PassingRests, GapsAt, DoubleWait, LargestGap, Unevenness on both sides.
-/
import Derived.Test.YtaopadffabbjiaaRestS
import Derived.Test.YtaopadffabbjiaaGapW
import Derived.Test.YtaopadffabbjiaaEven
namespace Go.Proofs.Ytaopadffabbjiaa
open Go Go.RowKit
set_option linter.unusedVariables false
set_option maxRecDepth 100000
set_option linter.unusedSimpArgs false
theorem okPassed_pat {n : Network} {period : Int} {l : List Pattern} {stop : Int} (h : okPassed n period l stop = true) : PatFacts n period l := by
  unfold okPassed at h
  rw [Bool.and_eq_true] at h
  exact patFacts h.1
theorem restsRes_len (n : Network) (period : Int) (l : List Pattern) (stop : Int) : (restsRes n period l stop).1.length ≤ 3 := by
  unfold restsRes
  split
  · rename_i h; have := rests_len n period l stop; have := (okPassed_pat h).len; simp only; omega
  · simp
theorem gapsRes_len (n : Network) (period : Int) (l : List Pattern) (stop : Int) : (gapsRes n period l stop).1.length ≤ 3 := by
  unfold gapsRes
  split
  · rename_i h; have := rests_len n period l stop; have := (okPassed_pat h).len; simp only; rw [gapsO_len]; omega
  · simp
theorem rests_sorted (n : Network) (period : Int) (l : List Pattern) (stop : Int) : (rests n period l stop).Pairwise (fun a b => a ≤ b) := sortI_sorted _
theorem gapsO_pos {rs : List Int} {period : Int} (h : RestsIn rs period) (hs : rs.Pairwise (fun a b => a ≤ b)) : ∀ g, g ∈ gapsO rs period → 0 ≤ g ∧ g ≤ 120 := by
  intro g hg
  obtain ⟨i, hi, rfl⟩ := List.mem_map.1 hg
  exact ⟨gapAt_pos h hs (List.mem_range.1 hi), (gapAt_bd h (List.mem_range.1 hi)).2⟩
theorem big_lt {l : List Int} (h : 0 < l.length) : (big l).2 < l.length := argGo_bd h (by omega)
def unevRes (n : Network) (period : Int) (l : List Pattern) (stop : Int) : Int × Bool :=
  if okPassed n period l stop = true ∧ inB (rests n period l stop).length 1 period = true then
    (sqSum (gapsO (rests n period l stop) period) - sqSum (gapsO (evenUpto (rests n period l stop).length (rests n period l stop).length period) period), true) else (0, false)
theorem even_in {c : Nat} {period : Int} (h1 : 1 ≤ c) (h2 : (c : Int) ≤ period) (h3 : period ≤ 60) : RestsIn (evenUpto c c period) period := by
  refine ⟨⟨by omega, h3⟩, by simp [evenUpto]; omega, fun r hr => ?_⟩
  obtain ⟨i, hi, rfl⟩ := List.mem_map.1 hr
  have hi := List.mem_range.1 hi
  unfold evenAt
  refine ⟨Int.ediv_nonneg (Int.mul_nonneg (by omega) (by omega)) (by omega), ?_⟩
  refine Int.ediv_lt_of_lt_mul (by omega) ?_
  rw [Int.mul_comm period]
  exact Int.mul_lt_mul_of_pos_right (by omega) (by omega)
theorem sqSum_le {l : List Int} (h : ∀ g, g ∈ l → -60 ≤ g ∧ g ≤ 120) : 0 ≤ sqSum l ∧ sqSum l ≤ 14400 * (l.length : Int) := by
  induction l with
  | nil => exact ⟨Int.le_refl _, by simp [sqSum]⟩
  | cons x l ih =>
    have h1 := ih fun g hg => h g (by simp [hg])
    have h2 := sq_bd (h x (by simp))
    simp only [sqSum, List.length_cons]
    omega
theorem spec_GapsAt {w0 w w2 : World} {sA0 : Option Addr} {sn0 sc0 : Nat} {sA1 : Option Addr} {sn1 sc1 : Nat} {n : Network} (h : NetworkAt w0 sA0 sn0 sc0 sA1 sn1 sc1 n) (hl : Later w0 w) (period : Int) {qA : Option Addr} {qn qc : Nat} {l : List Pattern} (h2 : Patterns w2 qA qn qc l) (hl2 : Later w2 w) (stop : Int) : Calls Try.prog 117 #[.agg #[.slice sA0 sn0 sc0, .slice sA1 sn1 sc1], .int .i64 period, .slice qA qn qc, .int .i64 stop] w (RetO2 1 oInt (gapsRes n period l stop).1 (gapsRes n period l stop).2 w) := by
  have hP := h2.later hl2
  have HSL := Lib.hid h.l_Stops.len
  have HB0 : ∀ W [Later (w.alloc (.cells #[.slice sA0 sn0 sc0, .slice sA1 sn1 sc1] 38)) W] (j : Nat), W.cell? ⟨w.heap.size, j, none⟩ = #[.slice sA0 sn0 sc0, .slice sA1 sn1 sc1][j]? := Later.boxes (t := 38) (fr := (0, 0)) (heap_new (by simp; try omega)); obtain ⟨wb, hwb⟩ : ∃ wb : World, wb = (w.alloc (.cells #[.slice sA0 sn0 sc0, .slice sA1 sn1 sc1] 38)) := ⟨_, rfl⟩; haveI hbW : Later wb (w.alloc (.cells #[.slice sA0 sn0 sc0, .slice sA1 sn1 sc1] 38)) := (by rw [hwb]; exact Later.rfl_); haveI hww : Later w wb := (by rw [hwb]; infer_instance); rw [← hwb] at HB0; have hbE := Lib.hid (congrArg (fun x : World => x.heap.size) hwb); clear hwb
  have hwb0 := hl.trans hww
  have hwb2 := hl2.trans hww
  have H := Lib.hid h
  have H2 := Lib.hid h2
  replace hP := hP.later hww
  have hq := hP.le
  have Hl := Lib.hid hP.len
  clear h h2
  by_cases c0 : okPassed n period l stop = true
  rotate_left
  · have c1 : okPassed n period l stop = false := by simpa using c0
    have HRES := Lib.hid (show gapsRes n period l stop = ([], false) from if_neg c0)
    rw [HRES.out]
    clear c0
    go_enter Try.func117, Try.ntmps117
    go_wp2_with first
      | (go_at_call 82; refine (impl_arePassed H.out (hwb0.trans inferInstance) _ H2.out (hwb2.trans inferInstance) _).mono ?_; rintro e w1 ⟨rfl, L1⟩; have X1 := Later.trans (w := wb) inferInstance L1)
      | (go_at_call 140; refine (spec_l10Asked H.out (hwb0.trans inferInstance) _ H2.out (hwb2.trans inferInstance) _).mono ?_; rintro e w1 ⟨rfl, L1⟩; have X1 := Later.trans (w := wb) inferInstance L1)
    go_ret2
    exact ⟨_, _, _, [], rfl, OSl.nil_ _, by simp, by simp, hww.trans inferInstance⟩
  rw [show gapsRes n period l stop = (gapsO (rests n period l stop) period, true) from if_pos c0]
  have PF := Lib.hid (okPassed_pat c0)
  go_enter Try.func117, Try.ntmps117
  go_wp2_with first
    | (go_at_call 82; refine (impl_arePassed H.out (hwb0.trans inferInstance) _ H2.out (hwb2.trans inferInstance) _).mono ?_; rintro e w1 ⟨rfl, L1⟩; have X1 := Later.trans (w := wb) inferInstance L1)
    | (go_at_call 140; refine (spec_l10Asked H.out (hwb0.trans inferInstance) _ H2.out (hwb2.trans inferInstance) _).mono ?_; rintro e w1 ⟨rfl, L1⟩; have X1 := Later.trans (w := wb) inferInstance L1)
    | (go_at_call 83; refine (impl_passingRests H.out (hwb0.trans inferInstance) _ H2.out (hwb2.trans inferInstance) PF.out stop).mono ?_; rintro e w3 ⟨A3, n3, c3, fp3, rfl, ho3, hnd3, hlo3, L3⟩; have X3 := Later.trans (w := wb) inferInstance L3; have h3 : Ints w3 A3 n3 c3 (rests n period l stop) := ho3.reads; have H3 := Lib.hid h3; clear h3)
    | (go_at_call 78; refine (spec_l10Rests H.out (hwb0.trans inferInstance) _ H2.out (hwb2.trans inferInstance) PF.out stop).mono ?_; rintro e w3 ⟨A3, n3, c3, fp3, rfl, ho3, hnd3, hlo3, L3⟩; have X3 := Later.trans (w := wb) inferInstance L3; have h3 : Ints w3 A3 n3 c3 (rests n period l stop) := ho3.reads; have H3 := Lib.hid h3; clear h3)
    | (go_at_call 77; refine (spec_l10Gaps H3.out inferInstance (restsIn PF.out)).mono ?_; rintro e w4 ⟨A4, n4, c4, fp4, rfl, ho4, hnd4, hlo4, L4⟩; have X4 := Later.trans (w := wb) inferInstance L4)
  go_ret2
  exact ⟨A4, n4, c4, fp4, rfl, ho4, hnd4, fun g hg => by have := hlo4 g hg; have := (hww.trans X3).size; omega, hww.trans inferInstance⟩
end Go.Proofs.Ytaopadffabbjiaa
