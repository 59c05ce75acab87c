/-
  The statement's call FnExactIsPiece: it returns true, out of what both functions return. Printed by a program of ours (gen_law.py).
-/
import Derived.Test.YthibhehnakikpaaIsPiece
import Derived.Test.YthibhehnakikpaaHBd
import Derived.Test.YthibhehnakikpaaHFleet
import Derived.Test.YthibhehnakikpaaHTimetable
import Derived.Test.YthibhehnakikpaaHIntSS
import Derived.Deep.RegionHeld3
namespace Go.Proofs.Ythibhehnakikpaa
open Go Go.RowKit
set_option linter.unusedVariables false
set_option maxRecDepth 100000
set_option linter.unusedSimpArgs false
set_option maxHeartbeats 1000000 in
theorem w_FnExactIsPiece {w : World} {aTA0 : Option Addr} {aTn0 aTc0 : Nat} {aTA1 : Option Addr} {aTn1 aTc1 : Nat} {aTA2 : Option Addr} {aTn2 aTc2 : Nat} {daT : Timetable} {aFA0 : Option Addr} {aFn0 aFc0 : Nat} {daF : Fleet} {aBlocksA : Option Addr} {aBlocksn aBlocksc : Nat} {daBlocks : List (List Int)} {aPieceA : Option Addr} {aPiecen aPiecec : Nat} {daPiece : List Int} (h_aT : TimetableAt w aTA0 aTn0 aTc0 aTA1 aTn1 aTc1 aTA2 aTn2 aTc2 daT) (h_aF : FleetAt w aFA0 aFn0 aFc0 daF) (h_aBlocks : Sl 1 (rSl 1 rInt) w aBlocksA aBlocksn aBlocksc daBlocks) (h_aPiece : Sl 1 rInt w aPieceA aPiecen aPiecec daPiece) : Calls Try.prog 3 #[.agg #[.slice aTA0 aTn0 aTc0, .slice aTA1 aTn1 aTc1, .slice aTA2 aTn2 aTc2], .agg #[.slice aFA0 aFn0 aFc0, .int .i64 daF.Turn], .slice aBlocksA aBlocksn aBlocksc, .slice aPieceA aPiecen aPiecec] w (Ret (.bool true) w) := by
  have HB0 : ∀ W [Later ((w.alloc (.cells #[.slice aTA0 aTn0 aTc0, .slice aTA1 aTn1 aTc1, .slice aTA2 aTn2 aTc2] 28)).alloc (.cells #[.slice aFA0 aFn0 aFc0, .int .i64 daF.Turn] 31)) W] (j : Nat), W.cell? ⟨w.heap.size, j, none⟩ = #[.slice aTA0 aTn0 aTc0, .slice aTA1 aTn1 aTc1, .slice aTA2 aTn2 aTc2][j]? := Later.boxes (t := 28) (fr := (0, 0)) ((heap_old (by simp; try omega)).trans (heap_new (by simp; try omega))); have HB1 : ∀ W [Later ((w.alloc (.cells #[.slice aTA0 aTn0 aTc0, .slice aTA1 aTn1 aTc1, .slice aTA2 aTn2 aTc2] 28)).alloc (.cells #[.slice aFA0 aFn0 aFc0, .int .i64 daF.Turn] 31)) W] (j : Nat), W.cell? ⟨w.heap.size + 1, j, none⟩ = #[.slice aFA0 aFn0 aFc0, .int .i64 daF.Turn][j]? := Later.boxes (t := 31) (fr := (0, 0)) (heap_new (by simp; try omega))
  have hbb : ∀ a : Bool, (a != a) = false := by simp
  have hii : ∀ a : Int, (a != a) = false := by simp
  go_enter Try.func3, Try.ntmps3
  have hle_aPiece := h_aPiece.le
  go_wp2_with fail
  · go_ret
    exact ⟨rfl, inferInstance⟩
  have hq_aPiece : aPiecen ≤ 1048576 := by omega
  go_wp2_with fail
  refine (laws_szTimetable h_aT inferInstance (by omega) (by omega)).mono ?_
  rintro e w1 ⟨r1, rfl, hr1, L1⟩
  have U1 := Later.trans (w := w) inferInstance L1
  have X1 := Later.trans (w := ((w.alloc (.cells #[.slice aTA0 aTn0 aTc0, .slice aTA1 aTn1 aTc1, .slice aTA2 aTn2 aTc2] 28)).alloc (.cells #[.slice aFA0 aFn0 aFc0, .int .i64 daF.Turn] 31))) inferInstance L1
  rcases hr1 with hr1 | ⟨hp1, hq1⟩
  · go_wp2
    go_ret
    exact ⟨rfl, inferInstance⟩
  have hb1 : r1 ≤ 1048576 := by omega
  have hq_aT : totTimetable daT ≤ 1048576 := by omega
  clear hq1
  go_wp2_with fail
  refine (laws_szFleet h_aF inferInstance hp1 hb1).mono ?_
  rintro e w2 ⟨r2, rfl, hr2, L2⟩
  have U2 := Later.trans (w := w) inferInstance L2
  have X2 := Later.trans (w := ((w.alloc (.cells #[.slice aTA0 aTn0 aTc0, .slice aTA1 aTn1 aTc1, .slice aTA2 aTn2 aTc2] 28)).alloc (.cells #[.slice aFA0 aFn0 aFc0, .int .i64 daF.Turn] 31))) inferInstance L2
  rcases hr2 with hr2 | ⟨hp2, hq2⟩
  · go_wp2
    go_ret
    exact ⟨rfl, inferInstance⟩
  have hb2 : r2 ≤ 1048576 := by omega
  have hq_aF : totFleet daF ≤ 1048576 := by omega
  clear hq2
  go_wp2_with fail
  refine (laws_szIntSS h_aBlocks inferInstance hp2 hb2).mono ?_
  rintro e w3 ⟨r3, rfl, hr3, L3⟩
  have U3 := Later.trans (w := w) inferInstance L3
  have X3 := Later.trans (w := ((w.alloc (.cells #[.slice aTA0 aTn0 aTc0, .slice aTA1 aTn1 aTc1, .slice aTA2 aTn2 aTc2] 28)).alloc (.cells #[.slice aFA0 aFn0 aFc0, .int .i64 daF.Turn] 31))) inferInstance L3
  rcases hr3 with hr3 | ⟨hp3, hq3⟩
  · go_wp2
    go_ret
    exact ⟨rfl, inferInstance⟩
  have hb3 : r3 ≤ 1048576 := by omega
  have hq_aBlocks : totRows daBlocks ≤ 1048576 := by omega
  clear hq3
  go_wp2_with fail
  go_region_held3 (fun w' => Later w w' ∧ Later ((w.alloc (.cells #[.slice aTA0 aTn0 aTc0, .slice aTA1 aTn1 aTc1, .slice aTA2 aTn2 aTc2] 28)).alloc (.cells #[.slice aFA0 aFn0 aFc0, .int .i64 daF.Turn] 31)) w') (first | exact ⟨inferInstance, inferInstance⟩) (first | (go_at_call 12; refine (laws_toTimetable h_aT inferInstance hq_aT).mono ?_; rintro e w4 ⟨z4A0, z4n0, z4c0, z4A1, z4n1, z4c1, z4A2, z4n2, z4c2, z4f0, z4f1, z4f2, rfl, o4, nd4, lo4, L4⟩; have U4 := Later.trans (w := w) inferInstance L4; have X4 := Later.trans (w := ((w.alloc (.cells #[.slice aTA0 aTn0 aTc0, .slice aTA1 aTn1 aTc1, .slice aTA2 aTn2 aTc2] 28)).alloc (.cells #[.slice aFA0 aFn0 aFc0, .int .i64 daF.Turn] 31))) inferInstance L4) | (go_at_call 13; refine (laws_toFleet h_aF inferInstance hq_aF).mono ?_; rintro e w5 ⟨z5A0, z5n0, z5c0, z5f0, rfl, o5, nd5, lo5, L5⟩; have U5 := Later.trans (w := w) inferInstance L5; have X5 := Later.trans (w := ((w.alloc (.cells #[.slice aTA0 aTn0 aTc0, .slice aTA1 aTn1 aTc1, .slice aTA2 aTn2 aTc2] 28)).alloc (.cells #[.slice aFA0 aFn0 aFc0, .int .i64 daF.Turn] 31))) inferInstance L5; have V4_5 := Later.trans (w := w4) inferInstance L5) | (go_at_call 14; refine (laws_toIntSS h_aBlocks inferInstance hq_aBlocks).mono ?_; rintro e w6 ⟨z6A, z6n, z6c, z6f, rfl, o6, nd6, lo6, L6⟩; have U6 := Later.trans (w := w) inferInstance L6; have X6 := Later.trans (w := ((w.alloc (.cells #[.slice aTA0 aTn0 aTc0, .slice aTA1 aTn1 aTc1, .slice aTA2 aTn2 aTc2] 28)).alloc (.cells #[.slice aFA0 aFn0 aFc0, .int .i64 daF.Turn] 31))) inferInstance L6; have V4_6 := Later.trans (w := w4) inferInstance L6; have V5_6 := Later.trans (w := w5) inferInstance L6) | (go_at_call 15; refine (laws_toIntS h_aPiece inferInstance (by have := h_aPiece.len; have := hq_aPiece; omega)).mono ?_; rintro e w7 ⟨z7A, z7n, z7c, z7f, rfl, o7, nd7, lo7, L7⟩; have U7 := Later.trans (w := w) inferInstance L7; have X7 := Later.trans (w := ((w.alloc (.cells #[.slice aTA0 aTn0 aTc0, .slice aTA1 aTn1 aTc1, .slice aTA2 aTn2 aTc2] 28)).alloc (.cells #[.slice aFA0 aFn0 aFc0, .int .i64 daF.Turn] 31))) inferInstance L7; have V4_7 := Later.trans (w := w4) inferInstance L7; have V5_7 := Later.trans (w := w5) inferInstance L7; have V6_7 := Later.trans (w := w6) inferInstance L7) | (go_at_call 11; refine (spec_IsPiece o4.reads inferInstance o5.reads inferInstance o6.reads inferInstance o7.reads inferInstance (by have := hq_aPiece; have := h_aPiece.len; omega)).mono ?_; rintro e w8 ⟨rfl, L8⟩; have U8 := Later.trans (w := w) inferInstance L8; have X8 := Later.trans (w := ((w.alloc (.cells #[.slice aTA0 aTn0 aTc0, .slice aTA1 aTn1 aTc1, .slice aTA2 aTn2 aTc2] 28)).alloc (.cells #[.slice aFA0 aFn0 aFc0, .int .i64 daF.Turn] 31))) inferInstance L8; have V4_8 := Later.trans (w := w4) inferInstance L8; have V5_8 := Later.trans (w := w5) inferInstance L8; have V6_8 := Later.trans (w := w6) inferInstance L8; have V7_8 := Later.trans (w := w7) inferInstance L8))
  go_wp2_with fail
  refine (laws_toTimetable h_aT inferInstance hq_aT).mono ?_
  rintro e w9 ⟨z9A0, z9n0, z9c0, z9A1, z9n1, z9c1, z9A2, z9n2, z9c2, z9f0, z9f1, z9f2, rfl, o9, nd9, lo9, L9⟩
  have U9 := Later.trans (w := w) inferInstance L9
  have X9 := Later.trans (w := ((w.alloc (.cells #[.slice aTA0 aTn0 aTc0, .slice aTA1 aTn1 aTc1, .slice aTA2 aTn2 aTc2] 28)).alloc (.cells #[.slice aFA0 aFn0 aFc0, .int .i64 daF.Turn] 31))) inferInstance L9
  have V4_9 := Later.trans (w := w4) inferInstance L9
  have V5_9 := Later.trans (w := w5) inferInstance L9
  have V6_9 := Later.trans (w := w6) inferInstance L9
  have V7_9 := Later.trans (w := w7) inferInstance L9
  have HBx9 : ∀ W [Later (w9.alloc (.cells #[.slice z9A0 z9n0 z9c0, .slice z9A1 z9n1 z9c1, .slice z9A2 z9n2 z9c2] 43)) W] (j : Nat), W.cell? ⟨w9.heap.size, j, none⟩ = #[.slice z9A0 z9n0 z9c0, .slice z9A1 z9n1 z9c1, .slice z9A2 z9n2 z9c2][j]? := Later.boxes (t := 43) (fr := (0, 0)) (heap_new rfl)
  go_wp2_with fail
  refine (laws_toFleet h_aF inferInstance hq_aF).mono ?_
  rintro e w10 ⟨z10A0, z10n0, z10c0, z10f0, rfl, o10, nd10, lo10, L10⟩
  have U10 := Later.trans (w := w) inferInstance L10
  have X10 := Later.trans (w := ((w.alloc (.cells #[.slice aTA0 aTn0 aTc0, .slice aTA1 aTn1 aTc1, .slice aTA2 aTn2 aTc2] 28)).alloc (.cells #[.slice aFA0 aFn0 aFc0, .int .i64 daF.Turn] 31))) inferInstance L10
  have V4_10 := Later.trans (w := w4) inferInstance L10
  have V5_10 := Later.trans (w := w5) inferInstance L10
  have V6_10 := Later.trans (w := w6) inferInstance L10
  have V7_10 := Later.trans (w := w7) inferInstance L10
  have V9_10 := Later.trans (w := w9) inferInstance L10
  have Y9_10 := Later.trans (w := (w9.alloc (.cells #[.slice z9A0 z9n0 z9c0, .slice z9A1 z9n1 z9c1, .slice z9A2 z9n2 z9c2] 43))) inferInstance L10
  have HBx10 : ∀ W [Later (w10.alloc (.cells #[.slice z10A0 z10n0 z10c0, .int .i64 daF.Turn] 45)) W] (j : Nat), W.cell? ⟨w10.heap.size, j, none⟩ = #[.slice z10A0 z10n0 z10c0, .int .i64 daF.Turn][j]? := Later.boxes (t := 45) (fr := (0, 0)) (heap_new rfl)
  go_wp2_with fail
  refine (laws_toIntSS h_aBlocks inferInstance hq_aBlocks).mono ?_
  rintro e w11 ⟨z11A, z11n, z11c, z11f, rfl, o11, nd11, lo11, L11⟩
  have U11 := Later.trans (w := w) inferInstance L11
  have X11 := Later.trans (w := ((w.alloc (.cells #[.slice aTA0 aTn0 aTc0, .slice aTA1 aTn1 aTc1, .slice aTA2 aTn2 aTc2] 28)).alloc (.cells #[.slice aFA0 aFn0 aFc0, .int .i64 daF.Turn] 31))) inferInstance L11
  have V4_11 := Later.trans (w := w4) inferInstance L11
  have V5_11 := Later.trans (w := w5) inferInstance L11
  have V6_11 := Later.trans (w := w6) inferInstance L11
  have V7_11 := Later.trans (w := w7) inferInstance L11
  have V9_11 := Later.trans (w := w9) inferInstance L11
  have Y9_11 := Later.trans (w := (w9.alloc (.cells #[.slice z9A0 z9n0 z9c0, .slice z9A1 z9n1 z9c1, .slice z9A2 z9n2 z9c2] 43))) inferInstance L11
  have V10_11 := Later.trans (w := w10) inferInstance L11
  have Y10_11 := Later.trans (w := (w10.alloc (.cells #[.slice z10A0 z10n0 z10c0, .int .i64 daF.Turn] 45))) inferInstance L11
  go_wp2_with fail
  refine (laws_toIntS h_aPiece inferInstance (by have := h_aPiece.len; have := hq_aPiece; omega)).mono ?_
  rintro e w12 ⟨z12A, z12n, z12c, z12f, rfl, o12, nd12, lo12, L12⟩
  have U12 := Later.trans (w := w) inferInstance L12
  have X12 := Later.trans (w := ((w.alloc (.cells #[.slice aTA0 aTn0 aTc0, .slice aTA1 aTn1 aTc1, .slice aTA2 aTn2 aTc2] 28)).alloc (.cells #[.slice aFA0 aFn0 aFc0, .int .i64 daF.Turn] 31))) inferInstance L12
  have V4_12 := Later.trans (w := w4) inferInstance L12
  have V5_12 := Later.trans (w := w5) inferInstance L12
  have V6_12 := Later.trans (w := w6) inferInstance L12
  have V7_12 := Later.trans (w := w7) inferInstance L12
  have V9_12 := Later.trans (w := w9) inferInstance L12
  have Y9_12 := Later.trans (w := (w9.alloc (.cells #[.slice z9A0 z9n0 z9c0, .slice z9A1 z9n1 z9c1, .slice z9A2 z9n2 z9c2] 43))) inferInstance L12
  have V10_12 := Later.trans (w := w10) inferInstance L12
  have Y10_12 := Later.trans (w := (w10.alloc (.cells #[.slice z10A0 z10n0 z10c0, .int .i64 daF.Turn] 45))) inferInstance L12
  have V11_12 := Later.trans (w := w11) inferInstance L12
  go_wp2_with fail
  refine (impl_IsPiece o9.reads inferInstance o10.reads inferInstance o11.reads inferInstance o12.reads inferInstance (by have := hq_aPiece; have := h_aPiece.len; omega)).mono ?_
  rintro e w13 ⟨rfl, L13⟩
  have U13 := Later.trans (w := w) inferInstance L13
  have X13 := Later.trans (w := ((w.alloc (.cells #[.slice aTA0 aTn0 aTc0, .slice aTA1 aTn1 aTc1, .slice aTA2 aTn2 aTc2] 28)).alloc (.cells #[.slice aFA0 aFn0 aFc0, .int .i64 daF.Turn] 31))) inferInstance L13
  have V4_13 := Later.trans (w := w4) inferInstance L13
  have V5_13 := Later.trans (w := w5) inferInstance L13
  have V6_13 := Later.trans (w := w6) inferInstance L13
  have V7_13 := Later.trans (w := w7) inferInstance L13
  have V9_13 := Later.trans (w := w9) inferInstance L13
  have Y9_13 := Later.trans (w := (w9.alloc (.cells #[.slice z9A0 z9n0 z9c0, .slice z9A1 z9n1 z9c1, .slice z9A2 z9n2 z9c2] 43))) inferInstance L13
  have V10_13 := Later.trans (w := w10) inferInstance L13
  have Y10_13 := Later.trans (w := (w10.alloc (.cells #[.slice z10A0 z10n0 z10c0, .int .i64 daF.Turn] 45))) inferInstance L13
  have V11_13 := Later.trans (w := w11) inferInstance L13
  have V12_13 := Later.trans (w := w12) inferInstance L13
  go_wp2_with fail
  go_region_held3 (fun w' => Later w w' ∧ Later ((w.alloc (.cells #[.slice aTA0 aTn0 aTc0, .slice aTA1 aTn1 aTc1, .slice aTA2 aTn2 aTc2] 28)).alloc (.cells #[.slice aFA0 aFn0 aFc0, .int .i64 daF.Turn] 31)) w' ∧ Later w4 w' ∧ Later w5 w' ∧ Later w6 w' ∧ Later w7 w' ∧ Later w9 w' ∧ Later (w9.alloc (.cells #[.slice z9A0 z9n0 z9c0, .slice z9A1 z9n1 z9c1, .slice z9A2 z9n2 z9c2] 43)) w' ∧ Later w10 w' ∧ Later (w10.alloc (.cells #[.slice z10A0 z10n0 z10c0, .int .i64 daF.Turn] 45)) w' ∧ Later w11 w' ∧ Later w12 w') (first | exact ⟨inferInstance, inferInstance, inferInstance, inferInstance, inferInstance, inferInstance, inferInstance, inferInstance, inferInstance, inferInstance, inferInstance, inferInstance⟩) (first | (go_at_call 12; refine (laws_toTimetable h_aT inferInstance hq_aT).mono ?_; rintro e w14 ⟨z14A0, z14n0, z14c0, z14A1, z14n1, z14c1, z14A2, z14n2, z14c2, z14f0, z14f1, z14f2, rfl, o14, nd14, lo14, L14⟩; have U14 := Later.trans (w := w) inferInstance L14; have X14 := Later.trans (w := ((w.alloc (.cells #[.slice aTA0 aTn0 aTc0, .slice aTA1 aTn1 aTc1, .slice aTA2 aTn2 aTc2] 28)).alloc (.cells #[.slice aFA0 aFn0 aFc0, .int .i64 daF.Turn] 31))) inferInstance L14; have V4_14 := Later.trans (w := w4) inferInstance L14; have V5_14 := Later.trans (w := w5) inferInstance L14; have V6_14 := Later.trans (w := w6) inferInstance L14; have V7_14 := Later.trans (w := w7) inferInstance L14; have V9_14 := Later.trans (w := w9) inferInstance L14; have Y9_14 := Later.trans (w := (w9.alloc (.cells #[.slice z9A0 z9n0 z9c0, .slice z9A1 z9n1 z9c1, .slice z9A2 z9n2 z9c2] 43))) inferInstance L14; have V10_14 := Later.trans (w := w10) inferInstance L14; have Y10_14 := Later.trans (w := (w10.alloc (.cells #[.slice z10A0 z10n0 z10c0, .int .i64 daF.Turn] 45))) inferInstance L14; have V11_14 := Later.trans (w := w11) inferInstance L14; have V12_14 := Later.trans (w := w12) inferInstance L14) | (go_at_call 17; refine (laws_eqTimetable o9.reads inferInstance o14.reads inferInstance).mono ?_; rintro e w15 ⟨rfl, L15⟩; have U15 := Later.trans (w := w) inferInstance L15; have X15 := Later.trans (w := ((w.alloc (.cells #[.slice aTA0 aTn0 aTc0, .slice aTA1 aTn1 aTc1, .slice aTA2 aTn2 aTc2] 28)).alloc (.cells #[.slice aFA0 aFn0 aFc0, .int .i64 daF.Turn] 31))) inferInstance L15; have V4_15 := Later.trans (w := w4) inferInstance L15; have V5_15 := Later.trans (w := w5) inferInstance L15; have V6_15 := Later.trans (w := w6) inferInstance L15; have V7_15 := Later.trans (w := w7) inferInstance L15; have V9_15 := Later.trans (w := w9) inferInstance L15; have Y9_15 := Later.trans (w := (w9.alloc (.cells #[.slice z9A0 z9n0 z9c0, .slice z9A1 z9n1 z9c1, .slice z9A2 z9n2 z9c2] 43))) inferInstance L15; have V10_15 := Later.trans (w := w10) inferInstance L15; have Y10_15 := Later.trans (w := (w10.alloc (.cells #[.slice z10A0 z10n0 z10c0, .int .i64 daF.Turn] 45))) inferInstance L15; have V11_15 := Later.trans (w := w11) inferInstance L15; have V12_15 := Later.trans (w := w12) inferInstance L15; have V14_15 := Later.trans (w := w14) inferInstance L15))
  go_wp2_with fail
  go_region_held3 (fun w' => Later w w' ∧ Later ((w.alloc (.cells #[.slice aTA0 aTn0 aTc0, .slice aTA1 aTn1 aTc1, .slice aTA2 aTn2 aTc2] 28)).alloc (.cells #[.slice aFA0 aFn0 aFc0, .int .i64 daF.Turn] 31)) w' ∧ Later w4 w' ∧ Later w5 w' ∧ Later w6 w' ∧ Later w7 w' ∧ Later w9 w' ∧ Later (w9.alloc (.cells #[.slice z9A0 z9n0 z9c0, .slice z9A1 z9n1 z9c1, .slice z9A2 z9n2 z9c2] 43)) w' ∧ Later w10 w' ∧ Later (w10.alloc (.cells #[.slice z10A0 z10n0 z10c0, .int .i64 daF.Turn] 45)) w' ∧ Later w11 w' ∧ Later w12 w') (first | exact ⟨inferInstance, inferInstance, inferInstance, inferInstance, inferInstance, inferInstance, inferInstance, inferInstance, inferInstance, inferInstance, inferInstance, inferInstance⟩) (first | (go_at_call 13; refine (laws_toFleet h_aF inferInstance hq_aF).mono ?_; rintro e w16 ⟨z16A0, z16n0, z16c0, z16f0, rfl, o16, nd16, lo16, L16⟩; have U16 := Later.trans (w := w) inferInstance L16; have X16 := Later.trans (w := ((w.alloc (.cells #[.slice aTA0 aTn0 aTc0, .slice aTA1 aTn1 aTc1, .slice aTA2 aTn2 aTc2] 28)).alloc (.cells #[.slice aFA0 aFn0 aFc0, .int .i64 daF.Turn] 31))) inferInstance L16; have V4_16 := Later.trans (w := w4) inferInstance L16; have V5_16 := Later.trans (w := w5) inferInstance L16; have V6_16 := Later.trans (w := w6) inferInstance L16; have V7_16 := Later.trans (w := w7) inferInstance L16; have V9_16 := Later.trans (w := w9) inferInstance L16; have Y9_16 := Later.trans (w := (w9.alloc (.cells #[.slice z9A0 z9n0 z9c0, .slice z9A1 z9n1 z9c1, .slice z9A2 z9n2 z9c2] 43))) inferInstance L16; have V10_16 := Later.trans (w := w10) inferInstance L16; have Y10_16 := Later.trans (w := (w10.alloc (.cells #[.slice z10A0 z10n0 z10c0, .int .i64 daF.Turn] 45))) inferInstance L16; have V11_16 := Later.trans (w := w11) inferInstance L16; have V12_16 := Later.trans (w := w12) inferInstance L16) | (go_at_call 18; refine (laws_eqFleet o10.reads inferInstance o16.reads inferInstance).mono ?_; rintro e w17 ⟨rfl, L17⟩; have U17 := Later.trans (w := w) inferInstance L17; have X17 := Later.trans (w := ((w.alloc (.cells #[.slice aTA0 aTn0 aTc0, .slice aTA1 aTn1 aTc1, .slice aTA2 aTn2 aTc2] 28)).alloc (.cells #[.slice aFA0 aFn0 aFc0, .int .i64 daF.Turn] 31))) inferInstance L17; have V4_17 := Later.trans (w := w4) inferInstance L17; have V5_17 := Later.trans (w := w5) inferInstance L17; have V6_17 := Later.trans (w := w6) inferInstance L17; have V7_17 := Later.trans (w := w7) inferInstance L17; have V9_17 := Later.trans (w := w9) inferInstance L17; have Y9_17 := Later.trans (w := (w9.alloc (.cells #[.slice z9A0 z9n0 z9c0, .slice z9A1 z9n1 z9c1, .slice z9A2 z9n2 z9c2] 43))) inferInstance L17; have V10_17 := Later.trans (w := w10) inferInstance L17; have Y10_17 := Later.trans (w := (w10.alloc (.cells #[.slice z10A0 z10n0 z10c0, .int .i64 daF.Turn] 45))) inferInstance L17; have V11_17 := Later.trans (w := w11) inferInstance L17; have V12_17 := Later.trans (w := w12) inferInstance L17; have V16_17 := Later.trans (w := w16) inferInstance L17))
  go_wp2_with first | (go_at_call 14; refine (laws_toIntSS h_aBlocks inferInstance hq_aBlocks).mono ?_; rintro e w18 ⟨z18A, z18n, z18c, z18f, rfl, o18, nd18, lo18, L18⟩; have U18 := Later.trans (w := w) inferInstance L18; have X18 := Later.trans (w := ((w.alloc (.cells #[.slice aTA0 aTn0 aTc0, .slice aTA1 aTn1 aTc1, .slice aTA2 aTn2 aTc2] 28)).alloc (.cells #[.slice aFA0 aFn0 aFc0, .int .i64 daF.Turn] 31))) inferInstance L18; have V4_18 := Later.trans (w := w4) inferInstance L18; have V5_18 := Later.trans (w := w5) inferInstance L18; have V6_18 := Later.trans (w := w6) inferInstance L18; have V7_18 := Later.trans (w := w7) inferInstance L18; have V9_18 := Later.trans (w := w9) inferInstance L18; have Y9_18 := Later.trans (w := (w9.alloc (.cells #[.slice z9A0 z9n0 z9c0, .slice z9A1 z9n1 z9c1, .slice z9A2 z9n2 z9c2] 43))) inferInstance L18; have V10_18 := Later.trans (w := w10) inferInstance L18; have Y10_18 := Later.trans (w := (w10.alloc (.cells #[.slice z10A0 z10n0 z10c0, .int .i64 daF.Turn] 45))) inferInstance L18; have V11_18 := Later.trans (w := w11) inferInstance L18; have V12_18 := Later.trans (w := w12) inferInstance L18) | (go_at_call 19; refine (laws_eqIntSS o11.reads inferInstance o18.reads inferInstance).mono ?_; rintro e w19 ⟨rfl, L19⟩; have U19 := Later.trans (w := w) inferInstance L19; have X19 := Later.trans (w := ((w.alloc (.cells #[.slice aTA0 aTn0 aTc0, .slice aTA1 aTn1 aTc1, .slice aTA2 aTn2 aTc2] 28)).alloc (.cells #[.slice aFA0 aFn0 aFc0, .int .i64 daF.Turn] 31))) inferInstance L19; have V4_19 := Later.trans (w := w4) inferInstance L19; have V5_19 := Later.trans (w := w5) inferInstance L19; have V6_19 := Later.trans (w := w6) inferInstance L19; have V7_19 := Later.trans (w := w7) inferInstance L19; have V9_19 := Later.trans (w := w9) inferInstance L19; have Y9_19 := Later.trans (w := (w9.alloc (.cells #[.slice z9A0 z9n0 z9c0, .slice z9A1 z9n1 z9c1, .slice z9A2 z9n2 z9c2] 43))) inferInstance L19; have V10_19 := Later.trans (w := w10) inferInstance L19; have Y10_19 := Later.trans (w := (w10.alloc (.cells #[.slice z10A0 z10n0 z10c0, .int .i64 daF.Turn] 45))) inferInstance L19; have V11_19 := Later.trans (w := w11) inferInstance L19; have V12_19 := Later.trans (w := w12) inferInstance L19; have V18_19 := Later.trans (w := w18) inferInstance L19)
  go_wp2_with first | (go_at_call 15; refine (laws_toIntS h_aPiece inferInstance (by have := h_aPiece.len; have := hq_aPiece; omega)).mono ?_; rintro e w20 ⟨z20A, z20n, z20c, z20f, rfl, o20, nd20, lo20, L20⟩; have U20 := Later.trans (w := w) inferInstance L20; have X20 := Later.trans (w := ((w.alloc (.cells #[.slice aTA0 aTn0 aTc0, .slice aTA1 aTn1 aTc1, .slice aTA2 aTn2 aTc2] 28)).alloc (.cells #[.slice aFA0 aFn0 aFc0, .int .i64 daF.Turn] 31))) inferInstance L20; have V4_20 := Later.trans (w := w4) inferInstance L20; have V5_20 := Later.trans (w := w5) inferInstance L20; have V6_20 := Later.trans (w := w6) inferInstance L20; have V7_20 := Later.trans (w := w7) inferInstance L20; have V9_20 := Later.trans (w := w9) inferInstance L20; have Y9_20 := Later.trans (w := (w9.alloc (.cells #[.slice z9A0 z9n0 z9c0, .slice z9A1 z9n1 z9c1, .slice z9A2 z9n2 z9c2] 43))) inferInstance L20; have V10_20 := Later.trans (w := w10) inferInstance L20; have Y10_20 := Later.trans (w := (w10.alloc (.cells #[.slice z10A0 z10n0 z10c0, .int .i64 daF.Turn] 45))) inferInstance L20; have V11_20 := Later.trans (w := w11) inferInstance L20; have V12_20 := Later.trans (w := w12) inferInstance L20) | (go_at_call 20; refine (laws_eqIntS o12.reads inferInstance o20.reads inferInstance).mono ?_; rintro e w21 ⟨rfl, L21⟩; have U21 := Later.trans (w := w) inferInstance L21; have X21 := Later.trans (w := ((w.alloc (.cells #[.slice aTA0 aTn0 aTc0, .slice aTA1 aTn1 aTc1, .slice aTA2 aTn2 aTc2] 28)).alloc (.cells #[.slice aFA0 aFn0 aFc0, .int .i64 daF.Turn] 31))) inferInstance L21; have V4_21 := Later.trans (w := w4) inferInstance L21; have V5_21 := Later.trans (w := w5) inferInstance L21; have V6_21 := Later.trans (w := w6) inferInstance L21; have V7_21 := Later.trans (w := w7) inferInstance L21; have V9_21 := Later.trans (w := w9) inferInstance L21; have Y9_21 := Later.trans (w := (w9.alloc (.cells #[.slice z9A0 z9n0 z9c0, .slice z9A1 z9n1 z9c1, .slice z9A2 z9n2 z9c2] 43))) inferInstance L21; have V10_21 := Later.trans (w := w10) inferInstance L21; have Y10_21 := Later.trans (w := (w10.alloc (.cells #[.slice z10A0 z10n0 z10c0, .int .i64 daF.Turn] 45))) inferInstance L21; have V11_21 := Later.trans (w := w11) inferInstance L21; have V12_21 := Later.trans (w := w12) inferInstance L21; have V20_21 := Later.trans (w := w20) inferInstance L21)
  go_wp2
  go_ret
  exact ⟨rfl, inferInstance⟩
end Go.Proofs.Ythibhehnakikpaa
