/-
  The statement's call FnExactDeadMinutes: it returns true, out of what both functions return. Printed by a program of ours (gen_law.py).
-/
import Derived.Test.YtbbbopdpmcpjjaaDeadM
import Derived.Test.YtbbbopdpmcpjjaaHBd
import Derived.Test.YtbbbopdpmcpjjaaHFleet
import Derived.Test.YtbbbopdpmcpjjaaHTimetable
import Derived.Test.YtbbbopdpmcpjjaaHIntSS
import Derived.Deep.RegionHeld3
namespace Go.Proofs.Ytbbbopdpmcpjjaa
open Go Go.RowKit
set_option linter.unusedVariables false
set_option maxRecDepth 100000
set_option linter.unusedSimpArgs false
set_option maxHeartbeats 1000000 in
theorem w_FnExactDeadMinutes {w : World} {aTA0 : Option Addr} {aTn0 aTc0 : Nat} {aTA1 : Option Addr} {aTn1 aTc1 : Nat} {aTA2 : Option Addr} {aTn2 aTc2 : Nat} {daT : Timetable} {aFA0 : Option Addr} {aFn0 aFc0 : Nat} {daF : Fleet} {aBlocksA : Option Addr} {aBlocksn aBlocksc : Nat} {daBlocks : List (List Int)} (h_aT : TimetableAt w aTA0 aTn0 aTc0 aTA1 aTn1 aTc1 aTA2 aTn2 aTc2 daT) (h_aF : FleetAt w aFA0 aFn0 aFc0 daF) (h_aBlocks : Sl 1 (rSl 1 rInt) w aBlocksA aBlocksn aBlocksc daBlocks) : Calls Try.prog 3 #[.agg #[.slice aTA0 aTn0 aTc0, .slice aTA1 aTn1 aTc1, .slice aTA2 aTn2 aTc2], .agg #[.slice aFA0 aFn0 aFc0, .int .i64 daF.Turn], .slice aBlocksA aBlocksn aBlocksc] w (Ret (.bool true) w) := by
  have HB0 : ∀ W [Later ((w.alloc (.cells #[.slice aTA0 aTn0 aTc0, .slice aTA1 aTn1 aTc1, .slice aTA2 aTn2 aTc2] 28)).alloc (.cells #[.slice aFA0 aFn0 aFc0, .int .i64 daF.Turn] 31)) W] (j : Nat), W.cell? ⟨w.heap.size, j, none⟩ = #[.slice aTA0 aTn0 aTc0, .slice aTA1 aTn1 aTc1, .slice aTA2 aTn2 aTc2][j]? := Later.boxes (t := 28) (fr := (0, 0)) ((heap_old (by simp; try omega)).trans (heap_new (by simp; try omega))); have HB1 : ∀ W [Later ((w.alloc (.cells #[.slice aTA0 aTn0 aTc0, .slice aTA1 aTn1 aTc1, .slice aTA2 aTn2 aTc2] 28)).alloc (.cells #[.slice aFA0 aFn0 aFc0, .int .i64 daF.Turn] 31)) W] (j : Nat), W.cell? ⟨w.heap.size + 1, j, none⟩ = #[.slice aFA0 aFn0 aFc0, .int .i64 daF.Turn][j]? := Later.boxes (t := 31) (fr := (0, 0)) (heap_new (by simp; try omega))
  have hbb : ∀ a : Bool, (a != a) = false := by simp
  have hii : ∀ a : Int, (a != a) = false := by simp
  go_enter Try.func3, Try.ntmps3
  go_wp2_with fail
  refine (laws_szTimetable h_aT inferInstance (by omega) (by omega)).mono ?_
  rintro e w1 ⟨r1, rfl, hr1, L1⟩
  have U1 := Later.trans (w := w) inferInstance L1
  have X1 := Later.trans (w := ((w.alloc (.cells #[.slice aTA0 aTn0 aTc0, .slice aTA1 aTn1 aTc1, .slice aTA2 aTn2 aTc2] 28)).alloc (.cells #[.slice aFA0 aFn0 aFc0, .int .i64 daF.Turn] 31))) inferInstance L1
  rcases hr1 with hr1 | ⟨hp1, hq1⟩
  · go_wp2
    go_ret
    exact ⟨rfl, inferInstance⟩
  have hb1 : r1 ≤ 1048576 := by omega
  have hq_aT : totTimetable daT ≤ 1048576 := by omega
  clear hq1
  go_wp2_with fail
  refine (laws_szFleet h_aF inferInstance hp1 hb1).mono ?_
  rintro e w2 ⟨r2, rfl, hr2, L2⟩
  have U2 := Later.trans (w := w) inferInstance L2
  have X2 := Later.trans (w := ((w.alloc (.cells #[.slice aTA0 aTn0 aTc0, .slice aTA1 aTn1 aTc1, .slice aTA2 aTn2 aTc2] 28)).alloc (.cells #[.slice aFA0 aFn0 aFc0, .int .i64 daF.Turn] 31))) inferInstance L2
  rcases hr2 with hr2 | ⟨hp2, hq2⟩
  · go_wp2
    go_ret
    exact ⟨rfl, inferInstance⟩
  have hb2 : r2 ≤ 1048576 := by omega
  have hq_aF : totFleet daF ≤ 1048576 := by omega
  clear hq2
  go_wp2_with fail
  refine (laws_szIntSS h_aBlocks inferInstance hp2 hb2).mono ?_
  rintro e w3 ⟨r3, rfl, hr3, L3⟩
  have U3 := Later.trans (w := w) inferInstance L3
  have X3 := Later.trans (w := ((w.alloc (.cells #[.slice aTA0 aTn0 aTc0, .slice aTA1 aTn1 aTc1, .slice aTA2 aTn2 aTc2] 28)).alloc (.cells #[.slice aFA0 aFn0 aFc0, .int .i64 daF.Turn] 31))) inferInstance L3
  rcases hr3 with hr3 | ⟨hp3, hq3⟩
  · go_wp2
    go_ret
    exact ⟨rfl, inferInstance⟩
  have hb3 : r3 ≤ 1048576 := by omega
  have hq_aBlocks : totRows daBlocks ≤ 1048576 := by omega
  clear hq3
  go_wp2_with fail
  go_region_held3 (fun w' => Later w w' ∧ Later ((w.alloc (.cells #[.slice aTA0 aTn0 aTc0, .slice aTA1 aTn1 aTc1, .slice aTA2 aTn2 aTc2] 28)).alloc (.cells #[.slice aFA0 aFn0 aFc0, .int .i64 daF.Turn] 31)) w') (first | exact ⟨inferInstance, inferInstance⟩) (first | (go_at_call 15; refine (laws_toTimetable h_aT inferInstance hq_aT).mono ?_; rintro e w4 ⟨z4A0, z4n0, z4c0, z4A1, z4n1, z4c1, z4A2, z4n2, z4c2, z4f0, z4f1, z4f2, rfl, o4, nd4, lo4, L4⟩; have U4 := Later.trans (w := w) inferInstance L4; have X4 := Later.trans (w := ((w.alloc (.cells #[.slice aTA0 aTn0 aTc0, .slice aTA1 aTn1 aTc1, .slice aTA2 aTn2 aTc2] 28)).alloc (.cells #[.slice aFA0 aFn0 aFc0, .int .i64 daF.Turn] 31))) inferInstance L4) | (go_at_call 16; refine (laws_toFleet h_aF inferInstance hq_aF).mono ?_; rintro e w5 ⟨z5A0, z5n0, z5c0, z5f0, rfl, o5, nd5, lo5, L5⟩; have U5 := Later.trans (w := w) inferInstance L5; have X5 := Later.trans (w := ((w.alloc (.cells #[.slice aTA0 aTn0 aTc0, .slice aTA1 aTn1 aTc1, .slice aTA2 aTn2 aTc2] 28)).alloc (.cells #[.slice aFA0 aFn0 aFc0, .int .i64 daF.Turn] 31))) inferInstance L5; have V4_5 := Later.trans (w := w4) inferInstance L5) | (go_at_call 17; refine (laws_toIntSS h_aBlocks inferInstance hq_aBlocks).mono ?_; rintro e w6 ⟨z6A, z6n, z6c, z6f, rfl, o6, nd6, lo6, L6⟩; have U6 := Later.trans (w := w) inferInstance L6; have X6 := Later.trans (w := ((w.alloc (.cells #[.slice aTA0 aTn0 aTc0, .slice aTA1 aTn1 aTc1, .slice aTA2 aTn2 aTc2] 28)).alloc (.cells #[.slice aFA0 aFn0 aFc0, .int .i64 daF.Turn] 31))) inferInstance L6; have V4_6 := Later.trans (w := w4) inferInstance L6; have V5_6 := Later.trans (w := w5) inferInstance L6) | (go_at_call 14; refine (spec_DeadMinutes o4.reads inferInstance o5.reads inferInstance o6.reads inferInstance).mono ?_; rintro e w7 ⟨rfl, L7⟩; have U7 := Later.trans (w := w) inferInstance L7; have X7 := Later.trans (w := ((w.alloc (.cells #[.slice aTA0 aTn0 aTc0, .slice aTA1 aTn1 aTc1, .slice aTA2 aTn2 aTc2] 28)).alloc (.cells #[.slice aFA0 aFn0 aFc0, .int .i64 daF.Turn] 31))) inferInstance L7; have V4_7 := Later.trans (w := w4) inferInstance L7; have V5_7 := Later.trans (w := w5) inferInstance L7; have V6_7 := Later.trans (w := w6) inferInstance L7))
  go_wp2_with fail
  refine (laws_toTimetable h_aT inferInstance hq_aT).mono ?_
  rintro e w8 ⟨z8A0, z8n0, z8c0, z8A1, z8n1, z8c1, z8A2, z8n2, z8c2, z8f0, z8f1, z8f2, rfl, o8, nd8, lo8, L8⟩
  have U8 := Later.trans (w := w) inferInstance L8
  have X8 := Later.trans (w := ((w.alloc (.cells #[.slice aTA0 aTn0 aTc0, .slice aTA1 aTn1 aTc1, .slice aTA2 aTn2 aTc2] 28)).alloc (.cells #[.slice aFA0 aFn0 aFc0, .int .i64 daF.Turn] 31))) inferInstance L8
  have V4_8 := Later.trans (w := w4) inferInstance L8
  have V5_8 := Later.trans (w := w5) inferInstance L8
  have V6_8 := Later.trans (w := w6) inferInstance L8
  have HBx8 : ∀ W [Later (w8.alloc (.cells #[.slice z8A0 z8n0 z8c0, .slice z8A1 z8n1 z8c1, .slice z8A2 z8n2 z8c2] 42)) W] (j : Nat), W.cell? ⟨w8.heap.size, j, none⟩ = #[.slice z8A0 z8n0 z8c0, .slice z8A1 z8n1 z8c1, .slice z8A2 z8n2 z8c2][j]? := Later.boxes (t := 42) (fr := (0, 0)) (heap_new rfl)
  go_wp2_with fail
  refine (laws_toFleet h_aF inferInstance hq_aF).mono ?_
  rintro e w9 ⟨z9A0, z9n0, z9c0, z9f0, rfl, o9, nd9, lo9, L9⟩
  have U9 := Later.trans (w := w) inferInstance L9
  have X9 := Later.trans (w := ((w.alloc (.cells #[.slice aTA0 aTn0 aTc0, .slice aTA1 aTn1 aTc1, .slice aTA2 aTn2 aTc2] 28)).alloc (.cells #[.slice aFA0 aFn0 aFc0, .int .i64 daF.Turn] 31))) inferInstance L9
  have V4_9 := Later.trans (w := w4) inferInstance L9
  have V5_9 := Later.trans (w := w5) inferInstance L9
  have V6_9 := Later.trans (w := w6) inferInstance L9
  have V8_9 := Later.trans (w := w8) inferInstance L9
  have Y8_9 := Later.trans (w := (w8.alloc (.cells #[.slice z8A0 z8n0 z8c0, .slice z8A1 z8n1 z8c1, .slice z8A2 z8n2 z8c2] 42))) inferInstance L9
  have HBx9 : ∀ W [Later (w9.alloc (.cells #[.slice z9A0 z9n0 z9c0, .int .i64 daF.Turn] 44)) W] (j : Nat), W.cell? ⟨w9.heap.size, j, none⟩ = #[.slice z9A0 z9n0 z9c0, .int .i64 daF.Turn][j]? := Later.boxes (t := 44) (fr := (0, 0)) (heap_new rfl)
  go_wp2_with fail
  refine (laws_toIntSS h_aBlocks inferInstance hq_aBlocks).mono ?_
  rintro e w10 ⟨z10A, z10n, z10c, z10f, rfl, o10, nd10, lo10, L10⟩
  have U10 := Later.trans (w := w) inferInstance L10
  have X10 := Later.trans (w := ((w.alloc (.cells #[.slice aTA0 aTn0 aTc0, .slice aTA1 aTn1 aTc1, .slice aTA2 aTn2 aTc2] 28)).alloc (.cells #[.slice aFA0 aFn0 aFc0, .int .i64 daF.Turn] 31))) inferInstance L10
  have V4_10 := Later.trans (w := w4) inferInstance L10
  have V5_10 := Later.trans (w := w5) inferInstance L10
  have V6_10 := Later.trans (w := w6) inferInstance L10
  have V8_10 := Later.trans (w := w8) inferInstance L10
  have Y8_10 := Later.trans (w := (w8.alloc (.cells #[.slice z8A0 z8n0 z8c0, .slice z8A1 z8n1 z8c1, .slice z8A2 z8n2 z8c2] 42))) inferInstance L10
  have V9_10 := Later.trans (w := w9) inferInstance L10
  have Y9_10 := Later.trans (w := (w9.alloc (.cells #[.slice z9A0 z9n0 z9c0, .int .i64 daF.Turn] 44))) inferInstance L10
  go_wp2_with fail
  refine (impl_DeadMinutes o8.reads inferInstance o9.reads inferInstance o10.reads inferInstance).mono ?_
  rintro e w11 ⟨rfl, L11⟩
  have U11 := Later.trans (w := w) inferInstance L11
  have X11 := Later.trans (w := ((w.alloc (.cells #[.slice aTA0 aTn0 aTc0, .slice aTA1 aTn1 aTc1, .slice aTA2 aTn2 aTc2] 28)).alloc (.cells #[.slice aFA0 aFn0 aFc0, .int .i64 daF.Turn] 31))) inferInstance L11
  have V4_11 := Later.trans (w := w4) inferInstance L11
  have V5_11 := Later.trans (w := w5) inferInstance L11
  have V6_11 := Later.trans (w := w6) inferInstance L11
  have V8_11 := Later.trans (w := w8) inferInstance L11
  have Y8_11 := Later.trans (w := (w8.alloc (.cells #[.slice z8A0 z8n0 z8c0, .slice z8A1 z8n1 z8c1, .slice z8A2 z8n2 z8c2] 42))) inferInstance L11
  have V9_11 := Later.trans (w := w9) inferInstance L11
  have Y9_11 := Later.trans (w := (w9.alloc (.cells #[.slice z9A0 z9n0 z9c0, .int .i64 daF.Turn] 44))) inferInstance L11
  have V10_11 := Later.trans (w := w10) inferInstance L11
  go_wp2_with fail
  go_region_held3 (fun w' => Later w w' ∧ Later ((w.alloc (.cells #[.slice aTA0 aTn0 aTc0, .slice aTA1 aTn1 aTc1, .slice aTA2 aTn2 aTc2] 28)).alloc (.cells #[.slice aFA0 aFn0 aFc0, .int .i64 daF.Turn] 31)) w' ∧ Later w4 w' ∧ Later w5 w' ∧ Later w6 w' ∧ Later w8 w' ∧ Later (w8.alloc (.cells #[.slice z8A0 z8n0 z8c0, .slice z8A1 z8n1 z8c1, .slice z8A2 z8n2 z8c2] 42)) w' ∧ Later w9 w' ∧ Later (w9.alloc (.cells #[.slice z9A0 z9n0 z9c0, .int .i64 daF.Turn] 44)) w' ∧ Later w10 w') (first | exact ⟨inferInstance, inferInstance, inferInstance, inferInstance, inferInstance, inferInstance, inferInstance, inferInstance, inferInstance, inferInstance⟩) (first | (go_at_call 15; refine (laws_toTimetable h_aT inferInstance hq_aT).mono ?_; rintro e w12 ⟨z12A0, z12n0, z12c0, z12A1, z12n1, z12c1, z12A2, z12n2, z12c2, z12f0, z12f1, z12f2, rfl, o12, nd12, lo12, L12⟩; have U12 := Later.trans (w := w) inferInstance L12; have X12 := Later.trans (w := ((w.alloc (.cells #[.slice aTA0 aTn0 aTc0, .slice aTA1 aTn1 aTc1, .slice aTA2 aTn2 aTc2] 28)).alloc (.cells #[.slice aFA0 aFn0 aFc0, .int .i64 daF.Turn] 31))) inferInstance L12; have V4_12 := Later.trans (w := w4) inferInstance L12; have V5_12 := Later.trans (w := w5) inferInstance L12; have V6_12 := Later.trans (w := w6) inferInstance L12; have V8_12 := Later.trans (w := w8) inferInstance L12; have Y8_12 := Later.trans (w := (w8.alloc (.cells #[.slice z8A0 z8n0 z8c0, .slice z8A1 z8n1 z8c1, .slice z8A2 z8n2 z8c2] 42))) inferInstance L12; have V9_12 := Later.trans (w := w9) inferInstance L12; have Y9_12 := Later.trans (w := (w9.alloc (.cells #[.slice z9A0 z9n0 z9c0, .int .i64 daF.Turn] 44))) inferInstance L12; have V10_12 := Later.trans (w := w10) inferInstance L12) | (go_at_call 19; refine (laws_eqTimetable o8.reads inferInstance o12.reads inferInstance).mono ?_; rintro e w13 ⟨rfl, L13⟩; have U13 := Later.trans (w := w) inferInstance L13; have X13 := Later.trans (w := ((w.alloc (.cells #[.slice aTA0 aTn0 aTc0, .slice aTA1 aTn1 aTc1, .slice aTA2 aTn2 aTc2] 28)).alloc (.cells #[.slice aFA0 aFn0 aFc0, .int .i64 daF.Turn] 31))) inferInstance L13; have V4_13 := Later.trans (w := w4) inferInstance L13; have V5_13 := Later.trans (w := w5) inferInstance L13; have V6_13 := Later.trans (w := w6) inferInstance L13; have V8_13 := Later.trans (w := w8) inferInstance L13; have Y8_13 := Later.trans (w := (w8.alloc (.cells #[.slice z8A0 z8n0 z8c0, .slice z8A1 z8n1 z8c1, .slice z8A2 z8n2 z8c2] 42))) inferInstance L13; have V9_13 := Later.trans (w := w9) inferInstance L13; have Y9_13 := Later.trans (w := (w9.alloc (.cells #[.slice z9A0 z9n0 z9c0, .int .i64 daF.Turn] 44))) inferInstance L13; have V10_13 := Later.trans (w := w10) inferInstance L13; have V12_13 := Later.trans (w := w12) inferInstance L13))
  go_wp2_with fail
  go_region_held3 (fun w' => Later w w' ∧ Later ((w.alloc (.cells #[.slice aTA0 aTn0 aTc0, .slice aTA1 aTn1 aTc1, .slice aTA2 aTn2 aTc2] 28)).alloc (.cells #[.slice aFA0 aFn0 aFc0, .int .i64 daF.Turn] 31)) w' ∧ Later w4 w' ∧ Later w5 w' ∧ Later w6 w' ∧ Later w8 w' ∧ Later (w8.alloc (.cells #[.slice z8A0 z8n0 z8c0, .slice z8A1 z8n1 z8c1, .slice z8A2 z8n2 z8c2] 42)) w' ∧ Later w9 w' ∧ Later (w9.alloc (.cells #[.slice z9A0 z9n0 z9c0, .int .i64 daF.Turn] 44)) w' ∧ Later w10 w') (first | exact ⟨inferInstance, inferInstance, inferInstance, inferInstance, inferInstance, inferInstance, inferInstance, inferInstance, inferInstance, inferInstance⟩) (first | (go_at_call 16; refine (laws_toFleet h_aF inferInstance hq_aF).mono ?_; rintro e w14 ⟨z14A0, z14n0, z14c0, z14f0, rfl, o14, nd14, lo14, L14⟩; have U14 := Later.trans (w := w) inferInstance L14; have X14 := Later.trans (w := ((w.alloc (.cells #[.slice aTA0 aTn0 aTc0, .slice aTA1 aTn1 aTc1, .slice aTA2 aTn2 aTc2] 28)).alloc (.cells #[.slice aFA0 aFn0 aFc0, .int .i64 daF.Turn] 31))) inferInstance L14; have V4_14 := Later.trans (w := w4) inferInstance L14; have V5_14 := Later.trans (w := w5) inferInstance L14; have V6_14 := Later.trans (w := w6) inferInstance L14; have V8_14 := Later.trans (w := w8) inferInstance L14; have Y8_14 := Later.trans (w := (w8.alloc (.cells #[.slice z8A0 z8n0 z8c0, .slice z8A1 z8n1 z8c1, .slice z8A2 z8n2 z8c2] 42))) inferInstance L14; have V9_14 := Later.trans (w := w9) inferInstance L14; have Y9_14 := Later.trans (w := (w9.alloc (.cells #[.slice z9A0 z9n0 z9c0, .int .i64 daF.Turn] 44))) inferInstance L14; have V10_14 := Later.trans (w := w10) inferInstance L14) | (go_at_call 20; refine (laws_eqFleet o9.reads inferInstance o14.reads inferInstance).mono ?_; rintro e w15 ⟨rfl, L15⟩; have U15 := Later.trans (w := w) inferInstance L15; have X15 := Later.trans (w := ((w.alloc (.cells #[.slice aTA0 aTn0 aTc0, .slice aTA1 aTn1 aTc1, .slice aTA2 aTn2 aTc2] 28)).alloc (.cells #[.slice aFA0 aFn0 aFc0, .int .i64 daF.Turn] 31))) inferInstance L15; have V4_15 := Later.trans (w := w4) inferInstance L15; have V5_15 := Later.trans (w := w5) inferInstance L15; have V6_15 := Later.trans (w := w6) inferInstance L15; have V8_15 := Later.trans (w := w8) inferInstance L15; have Y8_15 := Later.trans (w := (w8.alloc (.cells #[.slice z8A0 z8n0 z8c0, .slice z8A1 z8n1 z8c1, .slice z8A2 z8n2 z8c2] 42))) inferInstance L15; have V9_15 := Later.trans (w := w9) inferInstance L15; have Y9_15 := Later.trans (w := (w9.alloc (.cells #[.slice z9A0 z9n0 z9c0, .int .i64 daF.Turn] 44))) inferInstance L15; have V10_15 := Later.trans (w := w10) inferInstance L15; have V14_15 := Later.trans (w := w14) inferInstance L15))
  go_wp2_with first | (go_at_call 17; refine (laws_toIntSS h_aBlocks inferInstance hq_aBlocks).mono ?_; rintro e w16 ⟨z16A, z16n, z16c, z16f, rfl, o16, nd16, lo16, L16⟩; have U16 := Later.trans (w := w) inferInstance L16; have X16 := Later.trans (w := ((w.alloc (.cells #[.slice aTA0 aTn0 aTc0, .slice aTA1 aTn1 aTc1, .slice aTA2 aTn2 aTc2] 28)).alloc (.cells #[.slice aFA0 aFn0 aFc0, .int .i64 daF.Turn] 31))) inferInstance L16; have V4_16 := Later.trans (w := w4) inferInstance L16; have V5_16 := Later.trans (w := w5) inferInstance L16; have V6_16 := Later.trans (w := w6) inferInstance L16; have V8_16 := Later.trans (w := w8) inferInstance L16; have Y8_16 := Later.trans (w := (w8.alloc (.cells #[.slice z8A0 z8n0 z8c0, .slice z8A1 z8n1 z8c1, .slice z8A2 z8n2 z8c2] 42))) inferInstance L16; have V9_16 := Later.trans (w := w9) inferInstance L16; have Y9_16 := Later.trans (w := (w9.alloc (.cells #[.slice z9A0 z9n0 z9c0, .int .i64 daF.Turn] 44))) inferInstance L16; have V10_16 := Later.trans (w := w10) inferInstance L16) | (go_at_call 21; refine (laws_eqIntSS o10.reads inferInstance o16.reads inferInstance).mono ?_; rintro e w17 ⟨rfl, L17⟩; have U17 := Later.trans (w := w) inferInstance L17; have X17 := Later.trans (w := ((w.alloc (.cells #[.slice aTA0 aTn0 aTc0, .slice aTA1 aTn1 aTc1, .slice aTA2 aTn2 aTc2] 28)).alloc (.cells #[.slice aFA0 aFn0 aFc0, .int .i64 daF.Turn] 31))) inferInstance L17; have V4_17 := Later.trans (w := w4) inferInstance L17; have V5_17 := Later.trans (w := w5) inferInstance L17; have V6_17 := Later.trans (w := w6) inferInstance L17; have V8_17 := Later.trans (w := w8) inferInstance L17; have Y8_17 := Later.trans (w := (w8.alloc (.cells #[.slice z8A0 z8n0 z8c0, .slice z8A1 z8n1 z8c1, .slice z8A2 z8n2 z8c2] 42))) inferInstance L17; have V9_17 := Later.trans (w := w9) inferInstance L17; have Y9_17 := Later.trans (w := (w9.alloc (.cells #[.slice z9A0 z9n0 z9c0, .int .i64 daF.Turn] 44))) inferInstance L17; have V10_17 := Later.trans (w := w10) inferInstance L17; have V16_17 := Later.trans (w := w16) inferInstance L17)
  go_wp2
  go_ret
  exact ⟨rfl, inferInstance⟩
end Go.Proofs.Ytbbbopdpmcpjjaa
