/-
  The statement's call FnExactSwapTails: it returns true, out of what both functions return. Printed by a program of ours (gen_law.py).
-/
import Derived.Test.YtbkeccpjcmhhjaaSwapI
import Derived.Test.YtbkeccpjcmhhjaaJh
import Derived.Deep.RegionHeld3
namespace Go.Proofs.Ytbkeccpjcmhhjaa
open Go Go.RowKit
set_option linter.unusedVariables false
set_option maxRecDepth 100000
set_option linter.unusedSimpArgs false
set_option maxHeartbeats 4000000 in
theorem w_FnExactSwapTails {w : World} {aTA0 : Option Addr} {aTn0 aTc0 : Nat} {aTA1 : Option Addr} {aTn1 aTc1 : Nat} {aTA2 : Option Addr} {aTn2 aTc2 : Nat} {daT : Timetable} {aFA0 : Option Addr} {aFn0 aFc0 : Nat} {daF : Fleet} {aBlocksA : Option Addr} {aBlocksn aBlocksc : Nat} {daBlocks : List (List Int)} {aA : Int} {aB : Int} (h_aT : TimetableAt w aTA0 aTn0 aTc0 aTA1 aTn1 aTc1 aTA2 aTn2 aTc2 daT) (h_aF : FleetAt w aFA0 aFn0 aFc0 daF) (h_aBlocks : Sl 1 (rSl 1 rInt) w aBlocksA aBlocksn aBlocksc daBlocks) (i_aA : I64 aA) (i_aB : I64 aB) : Calls Try.prog 7 #[.agg #[.slice aTA0 aTn0 aTc0, .slice aTA1 aTn1 aTc1, .slice aTA2 aTn2 aTc2], .agg #[.slice aFA0 aFn0 aFc0, .int .i64 daF.Turn], .slice aBlocksA aBlocksn aBlocksc, .int .i64 aA, .int .i64 aB] w (Ret (.bool true) w) := by
  have HB0 : ∀ W [Later ((w.alloc (.cells #[.slice aTA0 aTn0 aTc0, .slice aTA1 aTn1 aTc1, .slice aTA2 aTn2 aTc2] 59)).alloc (.cells #[.slice aFA0 aFn0 aFc0, .int .i64 daF.Turn] 82)) W] (j : Nat), W.cell? ⟨w.heap.size, j, none⟩ = #[.slice aTA0 aTn0 aTc0, .slice aTA1 aTn1 aTc1, .slice aTA2 aTn2 aTc2][j]? := Later.boxes (t := 59) (fr := (0, 0)) ((heap_old (by simp; try omega)).trans (heap_new (by simp; try omega))); have HB1 : ∀ W [Later ((w.alloc (.cells #[.slice aTA0 aTn0 aTc0, .slice aTA1 aTn1 aTc1, .slice aTA2 aTn2 aTc2] 59)).alloc (.cells #[.slice aFA0 aFn0 aFc0, .int .i64 daF.Turn] 82)) W] (j : Nat), W.cell? ⟨w.heap.size + 1, j, none⟩ = #[.slice aFA0 aFn0 aFc0, .int .i64 daF.Turn][j]? := Later.boxes (t := 82) (fr := (0, 0)) (heap_new (by simp; try omega))
  have hbb : ∀ a : Bool, (a != a) = false := by simp
  have hii : ∀ a : Int, (a != a) = false := by simp
  go_enter Try.func7, Try.ntmps7
  go_wp2_with fail
  refine (laws_szTimetable h_aT inferInstance (by omega) (by omega)).mono ?_
  rintro e w1 ⟨r1, rfl, hr1, L1⟩
  have U1 := Later.trans (w := w) inferInstance L1
  have X1 := Later.trans (w := ((w.alloc (.cells #[.slice aTA0 aTn0 aTc0, .slice aTA1 aTn1 aTc1, .slice aTA2 aTn2 aTc2] 59)).alloc (.cells #[.slice aFA0 aFn0 aFc0, .int .i64 daF.Turn] 82))) inferInstance L1
  rcases hr1 with hr1 | ⟨hp1, hq1⟩
  · go_wp2
    go_ret
    exact ⟨rfl, inferInstance⟩
  have hb1 : r1 ≤ 1048576 := by omega
  have hq_aT : totTimetable daT ≤ 1048576 := by omega
  clear hq1
  go_wp2_with fail
  refine (laws_szFleet h_aF inferInstance hp1 hb1).mono ?_
  rintro e w2 ⟨r2, rfl, hr2, L2⟩
  have U2 := Later.trans (w := w) inferInstance L2
  have X2 := Later.trans (w := ((w.alloc (.cells #[.slice aTA0 aTn0 aTc0, .slice aTA1 aTn1 aTc1, .slice aTA2 aTn2 aTc2] 59)).alloc (.cells #[.slice aFA0 aFn0 aFc0, .int .i64 daF.Turn] 82))) inferInstance L2
  rcases hr2 with hr2 | ⟨hp2, hq2⟩
  · go_wp2
    go_ret
    exact ⟨rfl, inferInstance⟩
  have hb2 : r2 ≤ 1048576 := by omega
  have hq_aF : totFleet daF ≤ 1048576 := by omega
  clear hq2
  go_wp2_with fail
  refine (laws_szIntSS h_aBlocks inferInstance hp2 hb2).mono ?_
  rintro e w3 ⟨r3, rfl, hr3, L3⟩
  have U3 := Later.trans (w := w) inferInstance L3
  have X3 := Later.trans (w := ((w.alloc (.cells #[.slice aTA0 aTn0 aTc0, .slice aTA1 aTn1 aTc1, .slice aTA2 aTn2 aTc2] 59)).alloc (.cells #[.slice aFA0 aFn0 aFc0, .int .i64 daF.Turn] 82))) inferInstance L3
  rcases hr3 with hr3 | ⟨hp3, hq3⟩
  · go_wp2
    go_ret
    exact ⟨rfl, inferInstance⟩
  have hb3 : r3 ≤ 1048576 := by omega
  have hq_aBlocks : totRows daBlocks ≤ 1048576 := by omega
  clear hq3
  go_wp2_with fail
  go_region_held3 (fun w' => Later w w' ∧ Later ((w.alloc (.cells #[.slice aTA0 aTn0 aTc0, .slice aTA1 aTn1 aTc1, .slice aTA2 aTn2 aTc2] 59)).alloc (.cells #[.slice aFA0 aFn0 aFc0, .int .i64 daF.Turn] 82)) w') (first | exact ⟨inferInstance, inferInstance⟩) (first | (go_at_call 36; refine (laws_toTimetable h_aT inferInstance hq_aT).mono ?_; rintro e w4 ⟨z4A0, z4n0, z4c0, z4A1, z4n1, z4c1, z4A2, z4n2, z4c2, z4f0, z4f1, z4f2, rfl, o4, nd4, lo4, L4⟩; have U4 := Later.trans (w := w) inferInstance L4; have X4 := Later.trans (w := ((w.alloc (.cells #[.slice aTA0 aTn0 aTc0, .slice aTA1 aTn1 aTc1, .slice aTA2 aTn2 aTc2] 59)).alloc (.cells #[.slice aFA0 aFn0 aFc0, .int .i64 daF.Turn] 82))) inferInstance L4) | (go_at_call 50; refine (laws_toFleet h_aF inferInstance hq_aF).mono ?_; rintro e w5 ⟨z5A0, z5n0, z5c0, z5f0, rfl, o5, nd5, lo5, L5⟩; have U5 := Later.trans (w := w) inferInstance L5; have X5 := Later.trans (w := ((w.alloc (.cells #[.slice aTA0 aTn0 aTc0, .slice aTA1 aTn1 aTc1, .slice aTA2 aTn2 aTc2] 59)).alloc (.cells #[.slice aFA0 aFn0 aFc0, .int .i64 daF.Turn] 82))) inferInstance L5; have V4_5 := Later.trans (w := w4) inferInstance L5) | (go_at_call 51; refine (laws_toIntSS h_aBlocks inferInstance hq_aBlocks).mono ?_; rintro e w6 ⟨z6A, z6n, z6c, z6f, rfl, o6, nd6, lo6, L6⟩; have U6 := Later.trans (w := w) inferInstance L6; have X6 := Later.trans (w := ((w.alloc (.cells #[.slice aTA0 aTn0 aTc0, .slice aTA1 aTn1 aTc1, .slice aTA2 aTn2 aTc2] 59)).alloc (.cells #[.slice aFA0 aFn0 aFc0, .int .i64 daF.Turn] 82))) inferInstance L6; have V4_6 := Later.trans (w := w4) inferInstance L6; have V5_6 := Later.trans (w := w5) inferInstance L6) | (go_at_call 49; refine (spec_SwapTails o4.reads inferInstance o5.reads inferInstance o6.reads inferInstance aA aB).mono ?_; rintro e w7 ⟨z7A, z7n, z7c, z7f, rfl, o7, nd7, lo7, L7⟩; have U7 := Later.trans (w := w) inferInstance L7; have X7 := Later.trans (w := ((w.alloc (.cells #[.slice aTA0 aTn0 aTc0, .slice aTA1 aTn1 aTc1, .slice aTA2 aTn2 aTc2] 59)).alloc (.cells #[.slice aFA0 aFn0 aFc0, .int .i64 daF.Turn] 82))) inferInstance L7; have V4_7 := Later.trans (w := w4) inferInstance L7; have V5_7 := Later.trans (w := w5) inferInstance L7; have V6_7 := Later.trans (w := w6) inferInstance L7))
  go_wp2_with fail
  refine (laws_toTimetable h_aT inferInstance hq_aT).mono ?_
  rintro e w8 ⟨z8A0, z8n0, z8c0, z8A1, z8n1, z8c1, z8A2, z8n2, z8c2, z8f0, z8f1, z8f2, rfl, o8, nd8, lo8, L8⟩
  have U8 := Later.trans (w := w) inferInstance L8
  have X8 := Later.trans (w := ((w.alloc (.cells #[.slice aTA0 aTn0 aTc0, .slice aTA1 aTn1 aTc1, .slice aTA2 aTn2 aTc2] 59)).alloc (.cells #[.slice aFA0 aFn0 aFc0, .int .i64 daF.Turn] 82))) inferInstance L8
  have V4_8 := Later.trans (w := w4) inferInstance L8
  have V5_8 := Later.trans (w := w5) inferInstance L8
  have V6_8 := Later.trans (w := w6) inferInstance L8
  have V7_8 := Later.trans (w := w7) inferInstance L8
  have HBx8 : ∀ W [Later (w8.alloc (.cells #[.slice z8A0 z8n0 z8c0, .slice z8A1 z8n1 z8c1, .slice z8A2 z8n2 z8c2] 67)) W] (j : Nat), W.cell? ⟨w8.heap.size, j, none⟩ = #[.slice z8A0 z8n0 z8c0, .slice z8A1 z8n1 z8c1, .slice z8A2 z8n2 z8c2][j]? := Later.boxes (t := 67) (fr := (0, 0)) (heap_new rfl)
  go_wp2_with fail
  refine (laws_toFleet h_aF inferInstance hq_aF).mono ?_
  rintro e w9 ⟨z9A0, z9n0, z9c0, z9f0, rfl, o9, nd9, lo9, L9⟩
  have U9 := Later.trans (w := w) inferInstance L9
  have X9 := Later.trans (w := ((w.alloc (.cells #[.slice aTA0 aTn0 aTc0, .slice aTA1 aTn1 aTc1, .slice aTA2 aTn2 aTc2] 59)).alloc (.cells #[.slice aFA0 aFn0 aFc0, .int .i64 daF.Turn] 82))) inferInstance L9
  have V4_9 := Later.trans (w := w4) inferInstance L9
  have V5_9 := Later.trans (w := w5) inferInstance L9
  have V6_9 := Later.trans (w := w6) inferInstance L9
  have V7_9 := Later.trans (w := w7) inferInstance L9
  have V8_9 := Later.trans (w := w8) inferInstance L9
  have Y8_9 := Later.trans (w := (w8.alloc (.cells #[.slice z8A0 z8n0 z8c0, .slice z8A1 z8n1 z8c1, .slice z8A2 z8n2 z8c2] 67))) inferInstance L9
  have HBx9 : ∀ W [Later (w9.alloc (.cells #[.slice z9A0 z9n0 z9c0, .int .i64 daF.Turn] 87)) W] (j : Nat), W.cell? ⟨w9.heap.size, j, none⟩ = #[.slice z9A0 z9n0 z9c0, .int .i64 daF.Turn][j]? := Later.boxes (t := 87) (fr := (0, 0)) (heap_new rfl)
  go_wp2_with fail
  refine (laws_toIntSS h_aBlocks inferInstance hq_aBlocks).mono ?_
  rintro e w10 ⟨z10A, z10n, z10c, z10f, rfl, o10, nd10, lo10, L10⟩
  have U10 := Later.trans (w := w) inferInstance L10
  have X10 := Later.trans (w := ((w.alloc (.cells #[.slice aTA0 aTn0 aTc0, .slice aTA1 aTn1 aTc1, .slice aTA2 aTn2 aTc2] 59)).alloc (.cells #[.slice aFA0 aFn0 aFc0, .int .i64 daF.Turn] 82))) inferInstance L10
  have V4_10 := Later.trans (w := w4) inferInstance L10
  have V5_10 := Later.trans (w := w5) inferInstance L10
  have V6_10 := Later.trans (w := w6) inferInstance L10
  have V7_10 := Later.trans (w := w7) inferInstance L10
  have V8_10 := Later.trans (w := w8) inferInstance L10
  have Y8_10 := Later.trans (w := (w8.alloc (.cells #[.slice z8A0 z8n0 z8c0, .slice z8A1 z8n1 z8c1, .slice z8A2 z8n2 z8c2] 67))) inferInstance L10
  have V9_10 := Later.trans (w := w9) inferInstance L10
  have Y9_10 := Later.trans (w := (w9.alloc (.cells #[.slice z9A0 z9n0 z9c0, .int .i64 daF.Turn] 87))) inferInstance L10
  go_wp2_with fail
  refine (impl_SwapTails o8.reads inferInstance o9.reads inferInstance o10.reads inferInstance aA aB).mono ?_
  rintro e w11 ⟨z11A, z11n, z11c, z11f, rfl, o11, nd11, lo11, L11⟩
  have U11 := Later.trans (w := w) inferInstance L11
  have X11 := Later.trans (w := ((w.alloc (.cells #[.slice aTA0 aTn0 aTc0, .slice aTA1 aTn1 aTc1, .slice aTA2 aTn2 aTc2] 59)).alloc (.cells #[.slice aFA0 aFn0 aFc0, .int .i64 daF.Turn] 82))) inferInstance L11
  have V4_11 := Later.trans (w := w4) inferInstance L11
  have V5_11 := Later.trans (w := w5) inferInstance L11
  have V6_11 := Later.trans (w := w6) inferInstance L11
  have V7_11 := Later.trans (w := w7) inferInstance L11
  have V8_11 := Later.trans (w := w8) inferInstance L11
  have Y8_11 := Later.trans (w := (w8.alloc (.cells #[.slice z8A0 z8n0 z8c0, .slice z8A1 z8n1 z8c1, .slice z8A2 z8n2 z8c2] 67))) inferInstance L11
  have V9_11 := Later.trans (w := w9) inferInstance L11
  have Y9_11 := Later.trans (w := (w9.alloc (.cells #[.slice z9A0 z9n0 z9c0, .int .i64 daF.Turn] 87))) inferInstance L11
  have V10_11 := Later.trans (w := w10) inferInstance L11
  go_wp2_with fail
  refine (laws_eqIntSS o11.reads inferInstance o7.reads inferInstance).mono ?_
  rintro e w12 ⟨rfl, L12⟩
  have U12 := Later.trans (w := w) inferInstance L12
  have X12 := Later.trans (w := ((w.alloc (.cells #[.slice aTA0 aTn0 aTc0, .slice aTA1 aTn1 aTc1, .slice aTA2 aTn2 aTc2] 59)).alloc (.cells #[.slice aFA0 aFn0 aFc0, .int .i64 daF.Turn] 82))) inferInstance L12
  have V4_12 := Later.trans (w := w4) inferInstance L12
  have V5_12 := Later.trans (w := w5) inferInstance L12
  have V6_12 := Later.trans (w := w6) inferInstance L12
  have V7_12 := Later.trans (w := w7) inferInstance L12
  have V8_12 := Later.trans (w := w8) inferInstance L12
  have Y8_12 := Later.trans (w := (w8.alloc (.cells #[.slice z8A0 z8n0 z8c0, .slice z8A1 z8n1 z8c1, .slice z8A2 z8n2 z8c2] 67))) inferInstance L12
  have V9_12 := Later.trans (w := w9) inferInstance L12
  have Y9_12 := Later.trans (w := (w9.alloc (.cells #[.slice z9A0 z9n0 z9c0, .int .i64 daF.Turn] 87))) inferInstance L12
  have V10_12 := Later.trans (w := w10) inferInstance L12
  have V11_12 := Later.trans (w := w11) inferInstance L12
  go_wp2_with fail
  go_region_held3 (fun w' => Later w w' ∧ Later ((w.alloc (.cells #[.slice aTA0 aTn0 aTc0, .slice aTA1 aTn1 aTc1, .slice aTA2 aTn2 aTc2] 59)).alloc (.cells #[.slice aFA0 aFn0 aFc0, .int .i64 daF.Turn] 82)) w' ∧ Later w4 w' ∧ Later w5 w' ∧ Later w6 w' ∧ Later w7 w' ∧ Later w8 w' ∧ Later (w8.alloc (.cells #[.slice z8A0 z8n0 z8c0, .slice z8A1 z8n1 z8c1, .slice z8A2 z8n2 z8c2] 67)) w' ∧ Later w9 w' ∧ Later (w9.alloc (.cells #[.slice z9A0 z9n0 z9c0, .int .i64 daF.Turn] 87)) w' ∧ Later w10 w' ∧ Later w11 w') (first | exact ⟨inferInstance, inferInstance, inferInstance, inferInstance, inferInstance, inferInstance, inferInstance, inferInstance, inferInstance, inferInstance, inferInstance, inferInstance⟩) (first | (go_at_call 36; refine (laws_toTimetable h_aT inferInstance hq_aT).mono ?_; rintro e w13 ⟨z13A0, z13n0, z13c0, z13A1, z13n1, z13c1, z13A2, z13n2, z13c2, z13f0, z13f1, z13f2, rfl, o13, nd13, lo13, L13⟩; have U13 := Later.trans (w := w) inferInstance L13; have X13 := Later.trans (w := ((w.alloc (.cells #[.slice aTA0 aTn0 aTc0, .slice aTA1 aTn1 aTc1, .slice aTA2 aTn2 aTc2] 59)).alloc (.cells #[.slice aFA0 aFn0 aFc0, .int .i64 daF.Turn] 82))) inferInstance L13; have V4_13 := Later.trans (w := w4) inferInstance L13; have V5_13 := Later.trans (w := w5) inferInstance L13; have V6_13 := Later.trans (w := w6) inferInstance L13; have V7_13 := Later.trans (w := w7) inferInstance L13; have V8_13 := Later.trans (w := w8) inferInstance L13; have Y8_13 := Later.trans (w := (w8.alloc (.cells #[.slice z8A0 z8n0 z8c0, .slice z8A1 z8n1 z8c1, .slice z8A2 z8n2 z8c2] 67))) inferInstance L13; have V9_13 := Later.trans (w := w9) inferInstance L13; have Y9_13 := Later.trans (w := (w9.alloc (.cells #[.slice z9A0 z9n0 z9c0, .int .i64 daF.Turn] 87))) inferInstance L13; have V10_13 := Later.trans (w := w10) inferInstance L13; have V11_13 := Later.trans (w := w11) inferInstance L13) | (go_at_call 39; refine (laws_eqTimetable o8.reads inferInstance o13.reads inferInstance).mono ?_; rintro e w14 ⟨rfl, L14⟩; have U14 := Later.trans (w := w) inferInstance L14; have X14 := Later.trans (w := ((w.alloc (.cells #[.slice aTA0 aTn0 aTc0, .slice aTA1 aTn1 aTc1, .slice aTA2 aTn2 aTc2] 59)).alloc (.cells #[.slice aFA0 aFn0 aFc0, .int .i64 daF.Turn] 82))) inferInstance L14; have V4_14 := Later.trans (w := w4) inferInstance L14; have V5_14 := Later.trans (w := w5) inferInstance L14; have V6_14 := Later.trans (w := w6) inferInstance L14; have V7_14 := Later.trans (w := w7) inferInstance L14; have V8_14 := Later.trans (w := w8) inferInstance L14; have Y8_14 := Later.trans (w := (w8.alloc (.cells #[.slice z8A0 z8n0 z8c0, .slice z8A1 z8n1 z8c1, .slice z8A2 z8n2 z8c2] 67))) inferInstance L14; have V9_14 := Later.trans (w := w9) inferInstance L14; have Y9_14 := Later.trans (w := (w9.alloc (.cells #[.slice z9A0 z9n0 z9c0, .int .i64 daF.Turn] 87))) inferInstance L14; have V10_14 := Later.trans (w := w10) inferInstance L14; have V11_14 := Later.trans (w := w11) inferInstance L14; have V13_14 := Later.trans (w := w13) inferInstance L14))
  go_wp2_with fail
  go_region_held3 (fun w' => Later w w' ∧ Later ((w.alloc (.cells #[.slice aTA0 aTn0 aTc0, .slice aTA1 aTn1 aTc1, .slice aTA2 aTn2 aTc2] 59)).alloc (.cells #[.slice aFA0 aFn0 aFc0, .int .i64 daF.Turn] 82)) w' ∧ Later w4 w' ∧ Later w5 w' ∧ Later w6 w' ∧ Later w7 w' ∧ Later w8 w' ∧ Later (w8.alloc (.cells #[.slice z8A0 z8n0 z8c0, .slice z8A1 z8n1 z8c1, .slice z8A2 z8n2 z8c2] 67)) w' ∧ Later w9 w' ∧ Later (w9.alloc (.cells #[.slice z9A0 z9n0 z9c0, .int .i64 daF.Turn] 87)) w' ∧ Later w10 w' ∧ Later w11 w') (first | exact ⟨inferInstance, inferInstance, inferInstance, inferInstance, inferInstance, inferInstance, inferInstance, inferInstance, inferInstance, inferInstance, inferInstance, inferInstance⟩) (first | (go_at_call 50; refine (laws_toFleet h_aF inferInstance hq_aF).mono ?_; rintro e w15 ⟨z15A0, z15n0, z15c0, z15f0, rfl, o15, nd15, lo15, L15⟩; have U15 := Later.trans (w := w) inferInstance L15; have X15 := Later.trans (w := ((w.alloc (.cells #[.slice aTA0 aTn0 aTc0, .slice aTA1 aTn1 aTc1, .slice aTA2 aTn2 aTc2] 59)).alloc (.cells #[.slice aFA0 aFn0 aFc0, .int .i64 daF.Turn] 82))) inferInstance L15; have V4_15 := Later.trans (w := w4) inferInstance L15; have V5_15 := Later.trans (w := w5) inferInstance L15; have V6_15 := Later.trans (w := w6) inferInstance L15; have V7_15 := Later.trans (w := w7) inferInstance L15; have V8_15 := Later.trans (w := w8) inferInstance L15; have Y8_15 := Later.trans (w := (w8.alloc (.cells #[.slice z8A0 z8n0 z8c0, .slice z8A1 z8n1 z8c1, .slice z8A2 z8n2 z8c2] 67))) inferInstance L15; have V9_15 := Later.trans (w := w9) inferInstance L15; have Y9_15 := Later.trans (w := (w9.alloc (.cells #[.slice z9A0 z9n0 z9c0, .int .i64 daF.Turn] 87))) inferInstance L15; have V10_15 := Later.trans (w := w10) inferInstance L15; have V11_15 := Later.trans (w := w11) inferInstance L15) | (go_at_call 54; refine (laws_eqFleet o9.reads inferInstance o15.reads inferInstance).mono ?_; rintro e w16 ⟨rfl, L16⟩; have U16 := Later.trans (w := w) inferInstance L16; have X16 := Later.trans (w := ((w.alloc (.cells #[.slice aTA0 aTn0 aTc0, .slice aTA1 aTn1 aTc1, .slice aTA2 aTn2 aTc2] 59)).alloc (.cells #[.slice aFA0 aFn0 aFc0, .int .i64 daF.Turn] 82))) inferInstance L16; have V4_16 := Later.trans (w := w4) inferInstance L16; have V5_16 := Later.trans (w := w5) inferInstance L16; have V6_16 := Later.trans (w := w6) inferInstance L16; have V7_16 := Later.trans (w := w7) inferInstance L16; have V8_16 := Later.trans (w := w8) inferInstance L16; have Y8_16 := Later.trans (w := (w8.alloc (.cells #[.slice z8A0 z8n0 z8c0, .slice z8A1 z8n1 z8c1, .slice z8A2 z8n2 z8c2] 67))) inferInstance L16; have V9_16 := Later.trans (w := w9) inferInstance L16; have Y9_16 := Later.trans (w := (w9.alloc (.cells #[.slice z9A0 z9n0 z9c0, .int .i64 daF.Turn] 87))) inferInstance L16; have V10_16 := Later.trans (w := w10) inferInstance L16; have V11_16 := Later.trans (w := w11) inferInstance L16; have V15_16 := Later.trans (w := w15) inferInstance L16))
  go_wp2_with first | (go_at_call 51; refine (laws_toIntSS h_aBlocks inferInstance hq_aBlocks).mono ?_; rintro e w17 ⟨z17A, z17n, z17c, z17f, rfl, o17, nd17, lo17, L17⟩; have U17 := Later.trans (w := w) inferInstance L17; have X17 := Later.trans (w := ((w.alloc (.cells #[.slice aTA0 aTn0 aTc0, .slice aTA1 aTn1 aTc1, .slice aTA2 aTn2 aTc2] 59)).alloc (.cells #[.slice aFA0 aFn0 aFc0, .int .i64 daF.Turn] 82))) inferInstance L17; have V4_17 := Later.trans (w := w4) inferInstance L17; have V5_17 := Later.trans (w := w5) inferInstance L17; have V6_17 := Later.trans (w := w6) inferInstance L17; have V7_17 := Later.trans (w := w7) inferInstance L17; have V8_17 := Later.trans (w := w8) inferInstance L17; have Y8_17 := Later.trans (w := (w8.alloc (.cells #[.slice z8A0 z8n0 z8c0, .slice z8A1 z8n1 z8c1, .slice z8A2 z8n2 z8c2] 67))) inferInstance L17; have V9_17 := Later.trans (w := w9) inferInstance L17; have Y9_17 := Later.trans (w := (w9.alloc (.cells #[.slice z9A0 z9n0 z9c0, .int .i64 daF.Turn] 87))) inferInstance L17; have V10_17 := Later.trans (w := w10) inferInstance L17; have V11_17 := Later.trans (w := w11) inferInstance L17) | (go_at_call 53; refine (laws_eqIntSS o10.reads inferInstance o17.reads inferInstance).mono ?_; rintro e w18 ⟨rfl, L18⟩; have U18 := Later.trans (w := w) inferInstance L18; have X18 := Later.trans (w := ((w.alloc (.cells #[.slice aTA0 aTn0 aTc0, .slice aTA1 aTn1 aTc1, .slice aTA2 aTn2 aTc2] 59)).alloc (.cells #[.slice aFA0 aFn0 aFc0, .int .i64 daF.Turn] 82))) inferInstance L18; have V4_18 := Later.trans (w := w4) inferInstance L18; have V5_18 := Later.trans (w := w5) inferInstance L18; have V6_18 := Later.trans (w := w6) inferInstance L18; have V7_18 := Later.trans (w := w7) inferInstance L18; have V8_18 := Later.trans (w := w8) inferInstance L18; have Y8_18 := Later.trans (w := (w8.alloc (.cells #[.slice z8A0 z8n0 z8c0, .slice z8A1 z8n1 z8c1, .slice z8A2 z8n2 z8c2] 67))) inferInstance L18; have V9_18 := Later.trans (w := w9) inferInstance L18; have Y9_18 := Later.trans (w := (w9.alloc (.cells #[.slice z9A0 z9n0 z9c0, .int .i64 daF.Turn] 87))) inferInstance L18; have V10_18 := Later.trans (w := w10) inferInstance L18; have V11_18 := Later.trans (w := w11) inferInstance L18; have V17_18 := Later.trans (w := w17) inferInstance L18)
  go_wp2_with fail
  have hcb19 := cntTimetable_le daT
  refine (laws_markTimetable (o8.later inferInstance) nd8 (by omega) (by have hqq := hq_aT; have hcl := cntTimetable_le daT; omega)).mono ?_
  rintro e w19 ⟨rfl, T19, p19⟩
  have U19 := T19.later (inferInstance : Later w _) (fun g hg => Nat.le_trans (Later.size (w := w) inferInstance) (lo8 g hg))
  have X19 := T19.later (inferInstance : Later ((w.alloc (.cells #[.slice aTA0 aTn0 aTc0, .slice aTA1 aTn1 aTc1, .slice aTA2 aTn2 aTc2] 59)).alloc (.cells #[.slice aFA0 aFn0 aFc0, .int .i64 daF.Turn] 82)) _) (fun g hg => Nat.le_trans (Later.size (w := ((w.alloc (.cells #[.slice aTA0 aTn0 aTc0, .slice aTA1 aTn1 aTc1, .slice aTA2 aTn2 aTc2] 59)).alloc (.cells #[.slice aFA0 aFn0 aFc0, .int .i64 daF.Turn] 82))) inferInstance) (lo8 g hg))
  have V4_19 := T19.later (inferInstance : Later w4 _) (fun g hg => Nat.le_trans (Later.size (w := w4) inferInstance) (lo8 g hg))
  have V5_19 := T19.later (inferInstance : Later w5 _) (fun g hg => Nat.le_trans (Later.size (w := w5) inferInstance) (lo8 g hg))
  have V6_19 := T19.later (inferInstance : Later w6 _) (fun g hg => Nat.le_trans (Later.size (w := w6) inferInstance) (lo8 g hg))
  have V7_19 := T19.later (inferInstance : Later w7 _) (fun g hg => Nat.le_trans (Later.size (w := w7) inferInstance) (lo8 g hg))
  have p19_9 := (o9.later (inferInstance : Later w9 _)).touch T19 (fun b hb hx => absurd (o8.lt b hx) (Nat.not_lt.2 (Nat.le_trans (Later.size (w := w8) inferInstance) (lo9 b hb))))
  have p19_10 := (o10.later (inferInstance : Later w10 _)).touch T19 (fun b hb hx => absurd (o8.lt b hx) (Nat.not_lt.2 (Nat.le_trans (Later.size (w := w8) inferInstance) (lo10 b hb))))
  have p19_11 := (o11.later (inferInstance : Later w11 _)).touch T19 (fun b hb hx => absurd (o8.lt b hx) (Nat.not_lt.2 (Nat.le_trans (Later.size (w := w8) inferInstance) (lo11 b hb))))
  have B19_9 : Blk w19 w9.heap.size 87 #[.slice z9A0 z9n0 z9c0, .int .i64 daF.Turn] := T19.blk (Blk.later (heap_new rfl : Blk (w9.alloc (.cells #[.slice z9A0 z9n0 z9c0, .int .i64 daF.Turn] 87)) w9.heap.size 87 #[.slice z9A0 z9n0 z9c0, .int .i64 daF.Turn]) (inferInstance : Later (w9.alloc (.cells #[.slice z9A0 z9n0 z9c0, .int .i64 daF.Turn] 87)) _)) (fun hh => absurd (o8.lt _ hh) (Nat.not_lt.2 (Later.size (w := w8) (W := w9) inferInstance)))
  have HBx19_9 : ∀ W [Later w19 W] (j : Nat), W.cell? ⟨w9.heap.size, j, none⟩ = #[.slice z9A0 z9n0 z9c0, .int .i64 daF.Turn][j]? := Later.boxes (t := 87) (fr := (0, 0)) B19_9
  have hk19 : ¬ ((1 + (cntTimetable daT : Int)) < 0) := by omega
  go_wp2_with fail
  have hcb20 := cntFleet_le daF
  refine (laws_markFleet (p19_9.later inferInstance) nd9 (by omega) (by have hqq := hq_aF; have hcl := cntFleet_le daF; omega)).mono ?_
  rintro e w20 ⟨rfl, T20, p20⟩
  have U20 := T20.later (inferInstance : Later w _) (fun g hg => Nat.le_trans (Later.size (w := w) inferInstance) (lo9 g hg))
  have X20 := T20.later (inferInstance : Later ((w.alloc (.cells #[.slice aTA0 aTn0 aTc0, .slice aTA1 aTn1 aTc1, .slice aTA2 aTn2 aTc2] 59)).alloc (.cells #[.slice aFA0 aFn0 aFc0, .int .i64 daF.Turn] 82)) _) (fun g hg => Nat.le_trans (Later.size (w := ((w.alloc (.cells #[.slice aTA0 aTn0 aTc0, .slice aTA1 aTn1 aTc1, .slice aTA2 aTn2 aTc2] 59)).alloc (.cells #[.slice aFA0 aFn0 aFc0, .int .i64 daF.Turn] 82))) inferInstance) (lo9 g hg))
  have V4_20 := T20.later (inferInstance : Later w4 _) (fun g hg => Nat.le_trans (Later.size (w := w4) inferInstance) (lo9 g hg))
  have V5_20 := T20.later (inferInstance : Later w5 _) (fun g hg => Nat.le_trans (Later.size (w := w5) inferInstance) (lo9 g hg))
  have V6_20 := T20.later (inferInstance : Later w6 _) (fun g hg => Nat.le_trans (Later.size (w := w6) inferInstance) (lo9 g hg))
  have V7_20 := T20.later (inferInstance : Later w7 _) (fun g hg => Nat.le_trans (Later.size (w := w7) inferInstance) (lo9 g hg))
  have p20_10 := (p19_10.later (inferInstance : Later w19 _)).touch T20 (fun b hb hx => absurd (o9.lt b hx) (Nat.not_lt.2 (Nat.le_trans (Later.size (w := w9) inferInstance) (lo10 b hb))))
  have p20_11 := (p19_11.later (inferInstance : Later w19 _)).touch T20 (fun b hb hx => absurd (o9.lt b hx) (Nat.not_lt.2 (Nat.le_trans (Later.size (w := w9) inferInstance) (lo11 b hb))))
  have hk20 : ¬ (((1 + (cntTimetable daT : Int)) + (cntFleet daF : Int)) < 0) := by omega
  go_wp2_with fail
  have hcb21 : sumLen daBlocks ≤ 1048576 := by have := hq_aBlocks; unfold totRows at this; omega
  refine (laws_markIntSS (p20_10.later inferInstance) nd10 (by omega) (by have hqq := hq_aBlocks; have hql := o10.len; first | omega | ((try simp only [totRows] at hqq); (try simp only [totRows]); omega))).mono ?_
  rintro e w21 ⟨rfl, T21, p21⟩
  have U21 := T21.later (inferInstance : Later w _) (fun g hg => Nat.le_trans (Later.size (w := w) inferInstance) (lo10 g hg))
  have X21 := T21.later (inferInstance : Later ((w.alloc (.cells #[.slice aTA0 aTn0 aTc0, .slice aTA1 aTn1 aTc1, .slice aTA2 aTn2 aTc2] 59)).alloc (.cells #[.slice aFA0 aFn0 aFc0, .int .i64 daF.Turn] 82)) _) (fun g hg => Nat.le_trans (Later.size (w := ((w.alloc (.cells #[.slice aTA0 aTn0 aTc0, .slice aTA1 aTn1 aTc1, .slice aTA2 aTn2 aTc2] 59)).alloc (.cells #[.slice aFA0 aFn0 aFc0, .int .i64 daF.Turn] 82))) inferInstance) (lo10 g hg))
  have V4_21 := T21.later (inferInstance : Later w4 _) (fun g hg => Nat.le_trans (Later.size (w := w4) inferInstance) (lo10 g hg))
  have V5_21 := T21.later (inferInstance : Later w5 _) (fun g hg => Nat.le_trans (Later.size (w := w5) inferInstance) (lo10 g hg))
  have V6_21 := T21.later (inferInstance : Later w6 _) (fun g hg => Nat.le_trans (Later.size (w := w6) inferInstance) (lo10 g hg))
  have V7_21 := T21.later (inferInstance : Later w7 _) (fun g hg => Nat.le_trans (Later.size (w := w7) inferInstance) (lo10 g hg))
  have p21_11 := (p20_11.later (inferInstance : Later w20 _)).touch T21 (fun b hb hx => absurd (o10.lt b hx) (Nat.not_lt.2 (Nat.le_trans (Later.size (w := w10) inferInstance) (lo11 b hb))))
  have hk21 : ¬ ((((1 + (cntTimetable daT : Int)) + (cntFleet daF : Int)) + (sumLen daBlocks : Int)) < 0) := by omega
  go_wp2_with fail
  refine (laws_eqIntSS p21_11.reads inferInstance o7.reads inferInstance).mono ?_
  rintro e w22 ⟨rfl, L22⟩
  have U22 := Later.trans (w := w) inferInstance L22
  have X22 := Later.trans (w := ((w.alloc (.cells #[.slice aTA0 aTn0 aTc0, .slice aTA1 aTn1 aTc1, .slice aTA2 aTn2 aTc2] 59)).alloc (.cells #[.slice aFA0 aFn0 aFc0, .int .i64 daF.Turn] 82))) inferInstance L22
  have V4_22 := Later.trans (w := w4) inferInstance L22
  have V5_22 := Later.trans (w := w5) inferInstance L22
  have V6_22 := Later.trans (w := w6) inferInstance L22
  have V7_22 := Later.trans (w := w7) inferInstance L22
  have P21_22 := Later.trans (w := w21) inferInstance L22
  go_wp2_with fail
  refine (laws_markIntSS (p21_11.later inferInstance) nd11 (by omega) (by have hqq := swapRes_len daT daF daBlocks aA aB; have hql := o11.len; first | omega | ((try simp only [totRows] at hqq); (try simp only [totRows]); omega))).mono ?_
  rintro e w23 ⟨rfl, T23, p23⟩
  have U23 := T23.later (inferInstance : Later w _) (fun g hg => Nat.le_trans (Later.size (w := w) inferInstance) (lo11 g hg))
  have X23 := T23.later (inferInstance : Later ((w.alloc (.cells #[.slice aTA0 aTn0 aTc0, .slice aTA1 aTn1 aTc1, .slice aTA2 aTn2 aTc2] 59)).alloc (.cells #[.slice aFA0 aFn0 aFc0, .int .i64 daF.Turn] 82)) _) (fun g hg => Nat.le_trans (Later.size (w := ((w.alloc (.cells #[.slice aTA0 aTn0 aTc0, .slice aTA1 aTn1 aTc1, .slice aTA2 aTn2 aTc2] 59)).alloc (.cells #[.slice aFA0 aFn0 aFc0, .int .i64 daF.Turn] 82))) inferInstance) (lo11 g hg))
  have V4_23 := T23.later (inferInstance : Later w4 _) (fun g hg => Nat.le_trans (Later.size (w := w4) inferInstance) (lo11 g hg))
  have V5_23 := T23.later (inferInstance : Later w5 _) (fun g hg => Nat.le_trans (Later.size (w := w5) inferInstance) (lo11 g hg))
  have V6_23 := T23.later (inferInstance : Later w6 _) (fun g hg => Nat.le_trans (Later.size (w := w6) inferInstance) (lo11 g hg))
  have V7_23 := T23.later (inferInstance : Later w7 _) (fun g hg => Nat.le_trans (Later.size (w := w7) inferInstance) (lo11 g hg))
  have hk23 : ¬ ((1 + (sumLen (swapRes daT daF daBlocks aA aB).1 : Int)) < 0) := by omega
  go_wp2_with fail
  refine (laws_heldIntSS p23.reads inferInstance (by omega) (by have hqq := swapRes_len daT daF daBlocks aA aB; have hql := o11.len; first | omega | ((try simp only [totRows] at hqq); (try simp only [totRows]); omega))).mono ?_
  rintro e w24 ⟨rfl, L24⟩
  have U24 := Later.trans (w := w) inferInstance L24
  have X24 := Later.trans (w := ((w.alloc (.cells #[.slice aTA0 aTn0 aTc0, .slice aTA1 aTn1 aTc1, .slice aTA2 aTn2 aTc2] 59)).alloc (.cells #[.slice aFA0 aFn0 aFc0, .int .i64 daF.Turn] 82))) inferInstance L24
  have V4_24 := Later.trans (w := w4) inferInstance L24
  have V5_24 := Later.trans (w := w5) inferInstance L24
  have V6_24 := Later.trans (w := w6) inferInstance L24
  have V7_24 := Later.trans (w := w7) inferInstance L24
  have P23_24 := Later.trans (w := w23) inferInstance L24
  go_wp2_with fail
  go_region_held3 (fun w' => Later w w' ∧ Later ((w.alloc (.cells #[.slice aTA0 aTn0 aTc0, .slice aTA1 aTn1 aTc1, .slice aTA2 aTn2 aTc2] 59)).alloc (.cells #[.slice aFA0 aFn0 aFc0, .int .i64 daF.Turn] 82)) w' ∧ Later w4 w' ∧ Later w5 w' ∧ Later w6 w' ∧ Later w7 w' ∧ Later w23 w') (first | exact ⟨inferInstance, inferInstance, inferInstance, inferInstance, inferInstance, inferInstance, inferInstance⟩) (first | (go_at_call 36; refine (laws_toTimetable h_aT inferInstance hq_aT).mono ?_; rintro e w25 ⟨z25A0, z25n0, z25c0, z25A1, z25n1, z25c1, z25A2, z25n2, z25c2, z25f0, z25f1, z25f2, rfl, o25, nd25, lo25, L25⟩; have U25 := Later.trans (w := w) inferInstance L25; have X25 := Later.trans (w := ((w.alloc (.cells #[.slice aTA0 aTn0 aTc0, .slice aTA1 aTn1 aTc1, .slice aTA2 aTn2 aTc2] 59)).alloc (.cells #[.slice aFA0 aFn0 aFc0, .int .i64 daF.Turn] 82))) inferInstance L25; have V4_25 := Later.trans (w := w4) inferInstance L25; have V5_25 := Later.trans (w := w5) inferInstance L25; have V6_25 := Later.trans (w := w6) inferInstance L25; have V7_25 := Later.trans (w := w7) inferInstance L25; have P23_25 := Later.trans (w := w23) inferInstance L25) | (go_at_call 50; refine (laws_toFleet h_aF inferInstance hq_aF).mono ?_; rintro e w26 ⟨z26A0, z26n0, z26c0, z26f0, rfl, o26, nd26, lo26, L26⟩; have U26 := Later.trans (w := w) inferInstance L26; have X26 := Later.trans (w := ((w.alloc (.cells #[.slice aTA0 aTn0 aTc0, .slice aTA1 aTn1 aTc1, .slice aTA2 aTn2 aTc2] 59)).alloc (.cells #[.slice aFA0 aFn0 aFc0, .int .i64 daF.Turn] 82))) inferInstance L26; have V4_26 := Later.trans (w := w4) inferInstance L26; have V5_26 := Later.trans (w := w5) inferInstance L26; have V6_26 := Later.trans (w := w6) inferInstance L26; have V7_26 := Later.trans (w := w7) inferInstance L26; have P23_26 := Later.trans (w := w23) inferInstance L26; have V25_26 := Later.trans (w := w25) inferInstance L26) | (go_at_call 51; refine (laws_toIntSS h_aBlocks inferInstance hq_aBlocks).mono ?_; rintro e w27 ⟨z27A, z27n, z27c, z27f, rfl, o27, nd27, lo27, L27⟩; have U27 := Later.trans (w := w) inferInstance L27; have X27 := Later.trans (w := ((w.alloc (.cells #[.slice aTA0 aTn0 aTc0, .slice aTA1 aTn1 aTc1, .slice aTA2 aTn2 aTc2] 59)).alloc (.cells #[.slice aFA0 aFn0 aFc0, .int .i64 daF.Turn] 82))) inferInstance L27; have V4_27 := Later.trans (w := w4) inferInstance L27; have V5_27 := Later.trans (w := w5) inferInstance L27; have V6_27 := Later.trans (w := w6) inferInstance L27; have V7_27 := Later.trans (w := w7) inferInstance L27; have P23_27 := Later.trans (w := w23) inferInstance L27; have V25_27 := Later.trans (w := w25) inferInstance L27; have V26_27 := Later.trans (w := w26) inferInstance L27) | (go_at_call 52; refine (impl_SwapTails o25.reads inferInstance o26.reads inferInstance o27.reads inferInstance aA aB).mono ?_; rintro e w28 ⟨z28A, z28n, z28c, z28f, rfl, o28, nd28, lo28, L28⟩; have U28 := Later.trans (w := w) inferInstance L28; have X28 := Later.trans (w := ((w.alloc (.cells #[.slice aTA0 aTn0 aTc0, .slice aTA1 aTn1 aTc1, .slice aTA2 aTn2 aTc2] 59)).alloc (.cells #[.slice aFA0 aFn0 aFc0, .int .i64 daF.Turn] 82))) inferInstance L28; have V4_28 := Later.trans (w := w4) inferInstance L28; have V5_28 := Later.trans (w := w5) inferInstance L28; have V6_28 := Later.trans (w := w6) inferInstance L28; have V7_28 := Later.trans (w := w7) inferInstance L28; have P23_28 := Later.trans (w := w23) inferInstance L28; have V25_28 := Later.trans (w := w25) inferInstance L28; have V26_28 := Later.trans (w := w26) inferInstance L28; have V27_28 := Later.trans (w := w27) inferInstance L28))
  go_wp2_with fail
  refine (laws_eqIntSS o28.reads inferInstance o7.reads inferInstance).mono ?_
  rintro e w29 ⟨rfl, L29⟩
  have U29 := Later.trans (w := w) inferInstance L29
  have X29 := Later.trans (w := ((w.alloc (.cells #[.slice aTA0 aTn0 aTc0, .slice aTA1 aTn1 aTc1, .slice aTA2 aTn2 aTc2] 59)).alloc (.cells #[.slice aFA0 aFn0 aFc0, .int .i64 daF.Turn] 82))) inferInstance L29
  have V4_29 := Later.trans (w := w4) inferInstance L29
  have V5_29 := Later.trans (w := w5) inferInstance L29
  have V6_29 := Later.trans (w := w6) inferInstance L29
  have V7_29 := Later.trans (w := w7) inferInstance L29
  have P23_29 := Later.trans (w := w23) inferInstance L29
  have V25_29 := Later.trans (w := w25) inferInstance L29
  have V26_29 := Later.trans (w := w26) inferInstance L29
  have V27_29 := Later.trans (w := w27) inferInstance L29
  have V28_29 := Later.trans (w := w28) inferInstance L29
  go_wp2_with fail
  refine (laws_heldIntSS p23.reads inferInstance (by omega) (by have hqq := swapRes_len daT daF daBlocks aA aB; have hql := o11.len; first | omega | ((try simp only [totRows] at hqq); (try simp only [totRows]); omega))).mono ?_
  rintro e w30 ⟨rfl, L30⟩
  have U30 := Later.trans (w := w) inferInstance L30
  have X30 := Later.trans (w := ((w.alloc (.cells #[.slice aTA0 aTn0 aTc0, .slice aTA1 aTn1 aTc1, .slice aTA2 aTn2 aTc2] 59)).alloc (.cells #[.slice aFA0 aFn0 aFc0, .int .i64 daF.Turn] 82))) inferInstance L30
  have V4_30 := Later.trans (w := w4) inferInstance L30
  have V5_30 := Later.trans (w := w5) inferInstance L30
  have V6_30 := Later.trans (w := w6) inferInstance L30
  have V7_30 := Later.trans (w := w7) inferInstance L30
  have P23_30 := Later.trans (w := w23) inferInstance L30
  have V25_30 := Later.trans (w := w25) inferInstance L30
  have V26_30 := Later.trans (w := w26) inferInstance L30
  have V27_30 := Later.trans (w := w27) inferInstance L30
  have V28_30 := Later.trans (w := w28) inferInstance L30
  go_wp2
  go_ret
  exact ⟨rfl, inferInstance⟩
end Go.Proofs.Ytbkeccpjcmhhjaa
