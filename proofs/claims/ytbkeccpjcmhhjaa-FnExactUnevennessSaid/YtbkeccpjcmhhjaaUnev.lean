/-
  Headways: Unevenness on both sides.
-/
import Derived.Test.YtbkeccpjcmhhjaaHeadD
namespace Go.Proofs.Ytbkeccpjcmhhjaa
open Go Go.RowKit
set_option linter.unusedVariables false
set_option maxRecDepth 100000
set_option linter.unusedSimpArgs false
theorem unev_no {n : Network} {period : Int} {l : List Pattern} {stop : Int} (h : ¬ (okPassed n period l stop = true ∧ inB (rests n period l stop).length 1 period = true)) : unevRes n period l stop = (0, false) := if_neg h
set_option maxHeartbeats 4000000 in
theorem impl_Unevenness {w0 w w2 : World} {sA0 : Option Addr} {sn0 sc0 : Nat} {sA1 : Option Addr} {sn1 sc1 : Nat} {n : Network} (h : NetworkAt w0 sA0 sn0 sc0 sA1 sn1 sc1 n) (hl : Later w0 w) (period : Int) {qA : Option Addr} {qn qc : Nat} {l : List Pattern} (h2 : Patterns w2 qA qn qc l) (hl2 : Later w2 w) (stop : Int) : Calls Try.prog 70 #[.agg #[.slice sA0 sn0 sc0, .slice sA1 sn1 sc1], .int .i64 period, .slice qA qn qc, .int .i64 stop] w (Ret (.tuple #[.int .i64 (unevRes n period l stop).1, .bool (unevRes n period l stop).2]) w) := by
  have hP := h2.later hl2
  have HSL := Lib.hid h.l_Stops.len
  have HB0 : ∀ W [Later (w.alloc (.cells #[.slice sA0 sn0 sc0, .slice sA1 sn1 sc1] 50)) W] (j : Nat), W.cell? ⟨w.heap.size, j, none⟩ = #[.slice sA0 sn0 sc0, .slice sA1 sn1 sc1][j]? := Later.boxes (t := 50) (fr := (0, 0)) (heap_new (by simp; try omega)); obtain ⟨wb, hwb⟩ : ∃ wb : World, wb = (w.alloc (.cells #[.slice sA0 sn0 sc0, .slice sA1 sn1 sc1] 50)) := ⟨_, rfl⟩; haveI hbW : Later wb (w.alloc (.cells #[.slice sA0 sn0 sc0, .slice sA1 sn1 sc1] 50)) := (by rw [hwb]; exact Later.rfl_); haveI hww : Later w wb := (by rw [hwb]; infer_instance); rw [← hwb] at HB0; have hbE := Lib.hid (congrArg (fun x : World => x.heap.size) hwb); clear hwb
  have hwb0 := hl.trans hww
  have hwb2 := hl2.trans hww
  have H := Lib.hid h
  have H2 := Lib.hid h2
  replace hP := hP.later hww
  have hq := hP.le
  have Hl := Lib.hid hP.len
  clear h h2
  by_cases c0 : okPassed n period l stop = true
  rotate_left
  · have HGR : Hid (gapsRes n period l stop = ([], false)) := if_neg c0
    rw [unev_no (fun h => c0 h.1)]
    clear c0
    go_enter Try.func70, Try.ntmps70
    go_wp2_with ((go_at_call 164; refine (impl_GapsAt H.out (hwb0.trans inferInstance) _ H2.out (hwb2.trans inferInstance) stop).mono ?_; rw [HGR.out]; rintro e w3 ⟨A3, n3, c3, fp3, rfl, ho3, hnd3, hlo3, L3⟩; have X3 := Later.trans (w := wb) inferInstance L3; have h3 : Ints w3 A3 n3 c3 _ := ho3.reads; have H3 := Lib.hid h3; have hn3 := h3.len; clear h3))
    go_ret2
    exact ⟨rfl, hww.trans inferInstance⟩
  have PF := Lib.hid (okPassed_pat c0)
  have hgl := gapsO_len (rests n period l stop) period
  have HGL := Lib.hid hgl
  have HGR : Hid (gapsRes n period l stop = (gapsO (rests n period l stop) period, true)) := if_pos c0
  have hp1 := PF.out.per.1
  have hp2 := PF.out.per.2
  have hb1 : inB period 1 60 = true := inB_t.2 ⟨hp1, hp2⟩
  by_cases c2 : inB (rests n period l stop).length 1 period = true
  rotate_left
  · have HER : Hid (evenRes (rests n period l stop).length period = ([], false)) := if_neg (by unfold okEven; rw [hb1]; simpa using c2)
    rw [unev_no (fun h => c2 h.2)]
    clear c0 c2 hgl
    go_enter Try.func70, Try.ntmps70
    go_wp2_with first
      | ((go_at_call 164; refine (impl_GapsAt H.out (hwb0.trans inferInstance) _ H2.out (hwb2.trans inferInstance) stop).mono ?_; rw [HGR.out]; rintro e w3 ⟨A3, n3, c3, fp3, rfl, ho3, hnd3, hlo3, L3⟩; have X3 := Later.trans (w := wb) inferInstance L3; have h3 : Ints w3 A3 n3 c3 _ := ho3.reads; have H3 := Lib.hid h3; have hn3 := h3.len; clear h3); have Hn3 : Hid (n3 = (rests n period l stop).length) := (by rw [← HGL.out]; exact hn3); clear hn3)
      | (go_at_call 172; refine (impl_EvenTimes _ _ _).mono ?_; rw [Hn3.out, HER.out]; rintro e w4 ⟨A4, n4, c4, fp4, rfl, ho4, hnd4, hlo4, L4⟩; have X4 := Later.trans (w := wb) inferInstance L4)
    go_ret2
    exact ⟨rfl, hww.trans inferInstance⟩
  have c3 := inB_t.1 c2
  obtain ⟨r, hr⟩ : ∃ r, r = (rests n period l stop).length := ⟨_, rfl⟩
  have HER : Hid (evenRes r period = (evenUpto r r period, true)) := by
    show _ = _
    unfold evenRes
    rw [if_pos (by unfold okEven; rw [hb1, hr, c2]; rfl)]; simp
  rw [show unevRes n period l stop = (sqSum (gapsO (rests n period l stop) period) - sqSum (gapsO (evenUpto (rests n period l stop).length (rests n period l stop).length period) period), true) from if_pos ⟨c0, c2⟩, ← hr]
  have hr1 : 1 ≤ r := by omega
  have hr2 : (r : Int) ≤ period := by omega
  have hr60 : r ≤ 60 := by omega
  have EI := Lib.hid (even_in hr1 hr2 hp2)
  have HMM := Lib.hid (gapsO_mem (restsIn (stop := stop) PF.out))
  have HME := Lib.hid (gapsO_mem EI.out)
  have s1 := sqSum_le HMM.out
  have s2 := sqSum_le HME.out
  rw [gapsO_len] at s1 s2
  rw [← hr] at s1
  have hel : (evenUpto r r period).length = r := by simp [evenUpto]
  rw [hel] at s2
  have HEL := Lib.hid hel
  have hw1 : IntKind.i64.wrap (sqSum (gapsO (rests n period l stop) period) - sqSum (gapsO (evenUpto r r period) period)) = sqSum (gapsO (rests n period l stop) period) - sqSum (gapsO (evenUpto r r period) period) := by rw [IntKind.wrap_i64]; omega
  have HRR := Lib.hid hr
  clear c0 c2 c3 hgl s1 s2 hel hr
  go_enter Try.func70, Try.ntmps70
  go_wp2_with first
    | ((go_at_call 164; refine (impl_GapsAt H.out (hwb0.trans inferInstance) _ H2.out (hwb2.trans inferInstance) stop).mono ?_; rw [HGR.out]; rintro e w3 ⟨A3, n3, c3, fp3, rfl, ho3, hnd3, hlo3, L3⟩; have X3 := Later.trans (w := wb) inferInstance L3; have h3 : Ints w3 A3 n3 c3 _ := ho3.reads; have H3 := Lib.hid h3; have hn3 := h3.len; clear h3); have H9 : Hid (Ints w3 A3 n3 c3 (gapsO (rests n period l stop) period)) := H3; have Hn3 : Hid (n3 = r) := (by rw [HRR.out, ← HGL.out]; exact hn3); have hn360 : n3 ≤ 60 := (by rw [Hn3.out]; exact hr60); clear hn3)
    | (go_at_call 172; refine (impl_EvenTimes _ _ _).mono ?_; rw [Hn3.out, HER.out]; rintro e w4 ⟨A4, n4, c4, fp4, rfl, ho4, hnd4, hlo4, L4⟩; have X4 := Later.trans (w := wb) inferInstance L4; have h4 : Ints w4 A4 n4 c4 (evenUpto r r period) := ho4.reads; have H4 := Lib.hid h4; have H9r : Hid (Ints w3 A3 r c3 (gapsO (rests n period l stop) period)) := (by rw [← Hn3.out]; exact H9); clear h4)
    | (go_at_call 173; refine (impl_gapsOf H4.out inferInstance EI.out).mono ?_; rintro e w6 ⟨A6, n6, c6, fp6, rfl, ho6, hnd6, hlo6, L6⟩; have X6 := Later.trans (w := wb) inferInstance L6; have h6 : Ints w6 A6 n6 c6 (gapsO (evenUpto r r period) period) := ho6.reads; have H6 := Lib.hid h6; have hn6 : n6 ≤ 60 := (by rw [h6.len, gapsO_len, HEL.out]; exact hr60); clear h6)
    | (go_at_call 165; (with_reducible refine (impl_squares (A := A3) (n := r) (c := c3) (l := gapsO (rests n period l stop) period) H9r.out inferInstance hr60 HMM.out).mono ?_); rintro e w5 ⟨rfl, L5⟩; have X5 := Later.trans (w := wb) inferInstance L5)
    | (go_at_call 165; (with_reducible refine (impl_squares (A := A6) (n := n6) (c := c6) (l := gapsO (evenUpto r r period) period) H6.out inferInstance hn6 HME.out).mono ?_); rintro e w7 ⟨rfl, L7⟩; have X7 := Later.trans (w := wb) inferInstance L7)
  go_ret2
  exact ⟨rfl, hww.trans inferInstance⟩
set_option maxHeartbeats 4000000 in
theorem spec_Unevenness {w0 w w2 : World} {sA0 : Option Addr} {sn0 sc0 : Nat} {sA1 : Option Addr} {sn1 sc1 : Nat} {n : Network} (h : NetworkAt w0 sA0 sn0 sc0 sA1 sn1 sc1 n) (hl : Later w0 w) (period : Int) {qA : Option Addr} {qn qc : Nat} {l : List Pattern} (h2 : Patterns w2 qA qn qc l) (hl2 : Later w2 w) (stop : Int) : Calls Try.prog 69 #[.agg #[.slice sA0 sn0 sc0, .slice sA1 sn1 sc1], .int .i64 period, .slice qA qn qc, .int .i64 stop] w (Ret (.tuple #[.int .i64 (unevRes n period l stop).1, .bool (unevRes n period l stop).2]) w) := by
  have hP := h2.later hl2
  have HSL := Lib.hid h.l_Stops.len
  have HB0 : ∀ W [Later (w.alloc (.cells #[.slice sA0 sn0 sc0, .slice sA1 sn1 sc1] 50)) W] (j : Nat), W.cell? ⟨w.heap.size, j, none⟩ = #[.slice sA0 sn0 sc0, .slice sA1 sn1 sc1][j]? := Later.boxes (t := 50) (fr := (0, 0)) (heap_new (by simp; try omega)); obtain ⟨wb, hwb⟩ : ∃ wb : World, wb = (w.alloc (.cells #[.slice sA0 sn0 sc0, .slice sA1 sn1 sc1] 50)) := ⟨_, rfl⟩; haveI hbW : Later wb (w.alloc (.cells #[.slice sA0 sn0 sc0, .slice sA1 sn1 sc1] 50)) := (by rw [hwb]; exact Later.rfl_); haveI hww : Later w wb := (by rw [hwb]; infer_instance); rw [← hwb] at HB0; have hbE := Lib.hid (congrArg (fun x : World => x.heap.size) hwb); clear hwb
  have hwb0 := hl.trans hww
  have hwb2 := hl2.trans hww
  have H := Lib.hid h
  have H2 := Lib.hid h2
  replace hP := hP.later hww
  have hq := hP.le
  have Hl := Lib.hid hP.len
  clear h h2
  by_cases c0 : okPassed n period l stop = true
  rotate_left
  · have HGR : Hid (gapsRes n period l stop = ([], false)) := if_neg c0
    rw [unev_no (fun h => c0 h.1)]
    clear c0
    go_enter Try.func69, Try.ntmps69
    go_wp2_with ((go_at_call 162; refine (spec_GapsAt H.out (hwb0.trans inferInstance) _ H2.out (hwb2.trans inferInstance) stop).mono ?_; rw [HGR.out]; rintro e w3 ⟨A3, n3, c3, fp3, rfl, ho3, hnd3, hlo3, L3⟩; have X3 := Later.trans (w := wb) inferInstance L3; have h3 : Ints w3 A3 n3 c3 _ := ho3.reads; have H3 := Lib.hid h3; have hn3 := h3.len; clear h3))
    go_ret2
    exact ⟨rfl, hww.trans inferInstance⟩
  have PF := Lib.hid (okPassed_pat c0)
  have hgl := gapsO_len (rests n period l stop) period
  have HGL := Lib.hid hgl
  have HGR : Hid (gapsRes n period l stop = (gapsO (rests n period l stop) period, true)) := if_pos c0
  have hp1 := PF.out.per.1
  have hp2 := PF.out.per.2
  by_cases c2 : inB (rests n period l stop).length 1 period = true
  rotate_left
  · have C2 : Hid (inB ((rests n period l stop).length : Int) 1 period = false) := by show _ = _; simpa using c2
    rw [unev_no (fun h => c2 h.2)]
    clear c0 c2 hgl
    go_enter Try.func69, Try.ntmps69
    go_wp2_with first
      | ((go_at_call 162; refine (spec_GapsAt H.out (hwb0.trans inferInstance) _ H2.out (hwb2.trans inferInstance) stop).mono ?_; rw [HGR.out]; rintro e w3 ⟨A3, n3, c3, fp3, rfl, ho3, hnd3, hlo3, L3⟩; have X3 := Later.trans (w := wb) inferInstance L3; have h3 : Ints w3 A3 n3 c3 _ := ho3.reads; have H3 := Lib.hid h3; have hn3 := h3.len; clear h3); have Hn3 : Hid (n3 = (rests n period l stop).length) := (by rw [← HGL.out]; exact hn3); clear hn3)
      | (go_at_call 93; refine (spec_l1In _ _ _ _).mono ?_; rw [show inB (n3 : Int) 1 period = false from by rw [Hn3.out]; exact C2.out]; rintro e w' ⟨rfl, rfl⟩)
    go_ret2
    exact ⟨rfl, hww.trans inferInstance⟩
  have c3 := inB_t.1 c2
  obtain ⟨r, hr⟩ : ∃ r, r = (rests n period l stop).length := ⟨_, rfl⟩
  rw [show unevRes n period l stop = (sqSum (gapsO (rests n period l stop) period) - sqSum (gapsO (evenUpto (rests n period l stop).length (rests n period l stop).length period) period), true) from if_pos ⟨c0, c2⟩, ← hr]
  have hr1 : 1 ≤ r := by omega
  have hr2 : (r : Int) ≤ period := by omega
  have hr60 : r ≤ 60 := by omega
  have C2 : Hid (inB (r : Int) 1 period = true) := by show _ = _; rw [hr]; exact c2
  have EI := Lib.hid (even_in hr1 hr2 hp2)
  have HMM := Lib.hid (gapsO_mem (restsIn (stop := stop) PF.out))
  have HME := Lib.hid (gapsO_mem EI.out)
  have s1 := sqSum_le HMM.out
  have s2 := sqSum_le HME.out
  rw [gapsO_len] at s1 s2
  rw [← hr] at s1
  have hel : (evenUpto r r period).length = r := by simp [evenUpto]
  rw [hel] at s2
  have HEL := Lib.hid hel
  have hw1 : IntKind.i64.wrap (sqSum (gapsO (rests n period l stop) period) - sqSum (gapsO (evenUpto r r period) period)) = sqSum (gapsO (rests n period l stop) period) - sqSum (gapsO (evenUpto r r period) period) := by rw [IntKind.wrap_i64]; omega
  have HRR := Lib.hid hr
  clear c0 c2 c3 hgl s1 s2 hel hr
  go_enter Try.func69, Try.ntmps69
  go_wp2_with first
    | ((go_at_call 162; refine (spec_GapsAt H.out (hwb0.trans inferInstance) _ H2.out (hwb2.trans inferInstance) stop).mono ?_; rw [HGR.out]; rintro e w3 ⟨A3, n3, c3, fp3, rfl, ho3, hnd3, hlo3, L3⟩; have X3 := Later.trans (w := wb) inferInstance L3; have h3 : Ints w3 A3 n3 c3 _ := ho3.reads; have H3 := Lib.hid h3; have hn3 := h3.len; clear h3); have H9 : Hid (Ints w3 A3 n3 c3 (gapsO (rests n period l stop) period)) := H3; have hn9 : n3 = r := (by rw [HRR.out, ← HGL.out]; exact hn3); clear hn3; subst hn9; clear H3)
    | (go_at_call 93; refine (spec_l1In _ _ _ _).mono ?_; rw [C2.out]; rintro e w' ⟨rfl, rfl⟩)
    | (go_at_call 163; (with_reducible refine (spec_l10Squares (A := A3) (n := n3) (c := c3) (l := gapsO (rests n period l stop) period) H9.out inferInstance hr60 HMM.out).mono ?_); rintro e w5 ⟨rfl, L5⟩; have X5 := Later.trans (w := wb) inferInstance L5)
    | (go_at_call 171; refine (spec_l10Even n3 _ _ hr1 hr60 hp1 hp2).mono ?_; rintro e w4 ⟨A4, n4, c4, fp4, rfl, ho4, hnd4, hlo4, L4⟩; have X4 := Later.trans (w := wb) inferInstance L4; have h4 : Ints w4 A4 n4 c4 (evenUpto n3 n3 period) := ho4.reads; have H4 := Lib.hid h4; clear h4)
    | (go_at_call 170; refine (spec_l10Gaps H4.out inferInstance EI.out).mono ?_; rintro e w6 ⟨A6, n6, c6, fp6, rfl, ho6, hnd6, hlo6, L6⟩; have X6 := Later.trans (w := wb) inferInstance L6; have h6 : Ints w6 A6 n6 c6 (gapsO (evenUpto n3 n3 period) period) := ho6.reads; have H6 := Lib.hid h6; have hn6 : n6 ≤ 60 := (by rw [h6.len, gapsO_len, HEL.out]; exact hr60); clear h6)
    | (go_at_call 163; (with_reducible refine (spec_l10Squares (A := A6) (n := n6) (c := c6) (l := gapsO (evenUpto n3 n3 period) period) H6.out inferInstance hn6 HME.out).mono ?_); rintro e w7 ⟨rfl, L7⟩; have X7 := Later.trans (w := wb) inferInstance L7)
  go_ret2
  exact ⟨rfl, hww.trans inferInstance⟩
end Go.Proofs.Ytbkeccpjcmhhjaa
