/-
  The statement's call FnExactMakeBlocks: it returns true, out of what both functions return. Printed by a program of ours (gen_law.py).
-/
import Derived.Test.YtaopadffabbjiaaLnkX
import Derived.Test.YtaopadffabbjiaaJh
import Derived.Deep.RegionHeld3
namespace Go.Proofs.Ytaopadffabbjiaa
open Go Go.RowKit
set_option linter.unusedVariables false
set_option maxRecDepth 100000
set_option linter.unusedSimpArgs false
set_option maxHeartbeats 4000000 in
theorem w_FnExactMakeBlocks {w : World} {aTA0 : Option Addr} {aTn0 aTc0 : Nat} {aTA1 : Option Addr} {aTn1 aTc1 : Nat} {aTA2 : Option Addr} {aTn2 aTc2 : Nat} {daT : Timetable} {aFA0 : Option Addr} {aFn0 aFc0 : Nat} {daF : Fleet} (h_aT : TimetableAt w aTA0 aTn0 aTc0 aTA1 aTn1 aTc1 aTA2 aTn2 aTc2 daT) (h_aF : FleetAt w aFA0 aFn0 aFc0 daF) : Calls Try.prog 3 #[.agg #[.slice aTA0 aTn0 aTc0, .slice aTA1 aTn1 aTc1, .slice aTA2 aTn2 aTc2], .agg #[.slice aFA0 aFn0 aFc0, .int .i64 daF.Turn]] w (Ret (.bool true) w) := by
  have HB0 : ∀ W [Later ((w.alloc (.cells #[.slice aTA0 aTn0 aTc0, .slice aTA1 aTn1 aTc1, .slice aTA2 aTn2 aTc2] 28)).alloc (.cells #[.slice aFA0 aFn0 aFc0, .int .i64 daF.Turn] 31)) W] (j : Nat), W.cell? ⟨w.heap.size, j, none⟩ = #[.slice aTA0 aTn0 aTc0, .slice aTA1 aTn1 aTc1, .slice aTA2 aTn2 aTc2][j]? := Later.boxes (t := 28) (fr := (0, 0)) ((heap_old (by simp; try omega)).trans (heap_new (by simp; try omega))); have HB1 : ∀ W [Later ((w.alloc (.cells #[.slice aTA0 aTn0 aTc0, .slice aTA1 aTn1 aTc1, .slice aTA2 aTn2 aTc2] 28)).alloc (.cells #[.slice aFA0 aFn0 aFc0, .int .i64 daF.Turn] 31)) W] (j : Nat), W.cell? ⟨w.heap.size + 1, j, none⟩ = #[.slice aFA0 aFn0 aFc0, .int .i64 daF.Turn][j]? := Later.boxes (t := 31) (fr := (0, 0)) (heap_new (by simp; try omega))
  have hbb : ∀ a : Bool, (a != a) = false := by simp
  have hii : ∀ a : Int, (a != a) = false := by simp
  go_enter Try.func3, Try.ntmps3
  go_wp2_with fail
  refine (laws_szTimetable h_aT inferInstance (by omega) (by omega)).mono ?_
  rintro e w1 ⟨r1, rfl, hr1, L1⟩
  have U1 := Later.trans (w := w) inferInstance L1
  have X1 := Later.trans (w := ((w.alloc (.cells #[.slice aTA0 aTn0 aTc0, .slice aTA1 aTn1 aTc1, .slice aTA2 aTn2 aTc2] 28)).alloc (.cells #[.slice aFA0 aFn0 aFc0, .int .i64 daF.Turn] 31))) inferInstance L1
  rcases hr1 with hr1 | ⟨hp1, hq1⟩
  · go_wp2
    go_ret
    exact ⟨rfl, inferInstance⟩
  have hb1 : r1 ≤ 1048576 := by omega
  have hq_aT : totTimetable daT ≤ 1048576 := by omega
  clear hq1
  go_wp2_with fail
  refine (laws_szFleet h_aF inferInstance hp1 hb1).mono ?_
  rintro e w2 ⟨r2, rfl, hr2, L2⟩
  have U2 := Later.trans (w := w) inferInstance L2
  have X2 := Later.trans (w := ((w.alloc (.cells #[.slice aTA0 aTn0 aTc0, .slice aTA1 aTn1 aTc1, .slice aTA2 aTn2 aTc2] 28)).alloc (.cells #[.slice aFA0 aFn0 aFc0, .int .i64 daF.Turn] 31))) inferInstance L2
  rcases hr2 with hr2 | ⟨hp2, hq2⟩
  · go_wp2
    go_ret
    exact ⟨rfl, inferInstance⟩
  have hb2 : r2 ≤ 1048576 := by omega
  have hq_aF : totFleet daF ≤ 1048576 := by omega
  clear hq2
  go_wp2_with fail
  go_region_held3 (fun w' => Later w w' ∧ Later ((w.alloc (.cells #[.slice aTA0 aTn0 aTc0, .slice aTA1 aTn1 aTc1, .slice aTA2 aTn2 aTc2] 28)).alloc (.cells #[.slice aFA0 aFn0 aFc0, .int .i64 daF.Turn] 31)) w') (first | exact ⟨inferInstance, inferInstance⟩) (first | (go_at_call 9; refine (laws_toTimetable h_aT inferInstance hq_aT).mono ?_; rintro e w3 ⟨z3A0, z3n0, z3c0, z3A1, z3n1, z3c1, z3A2, z3n2, z3c2, z3f0, z3f1, z3f2, rfl, o3, nd3, lo3, L3⟩; have U3 := Later.trans (w := w) inferInstance L3; have X3 := Later.trans (w := ((w.alloc (.cells #[.slice aTA0 aTn0 aTc0, .slice aTA1 aTn1 aTc1, .slice aTA2 aTn2 aTc2] 28)).alloc (.cells #[.slice aFA0 aFn0 aFc0, .int .i64 daF.Turn] 31))) inferInstance L3) | (go_at_call 10; refine (laws_toFleet h_aF inferInstance hq_aF).mono ?_; rintro e w4 ⟨z4A0, z4n0, z4c0, z4f0, rfl, o4, nd4, lo4, L4⟩; have U4 := Later.trans (w := w) inferInstance L4; have X4 := Later.trans (w := ((w.alloc (.cells #[.slice aTA0 aTn0 aTc0, .slice aTA1 aTn1 aTc1, .slice aTA2 aTn2 aTc2] 28)).alloc (.cells #[.slice aFA0 aFn0 aFc0, .int .i64 daF.Turn] 31))) inferInstance L4; have V3_4 := Later.trans (w := w3) inferInstance L4) | (go_at_call 8; refine (spec_MakeBlocks o3.reads inferInstance o4.reads inferInstance).mono ?_; rintro e w5 ⟨z5A, z5n, z5c, z5f, rfl, o5, nd5, lo5, L5⟩; have U5 := Later.trans (w := w) inferInstance L5; have X5 := Later.trans (w := ((w.alloc (.cells #[.slice aTA0 aTn0 aTc0, .slice aTA1 aTn1 aTc1, .slice aTA2 aTn2 aTc2] 28)).alloc (.cells #[.slice aFA0 aFn0 aFc0, .int .i64 daF.Turn] 31))) inferInstance L5; have V3_5 := Later.trans (w := w3) inferInstance L5; have V4_5 := Later.trans (w := w4) inferInstance L5))
  go_wp2_with fail
  refine (laws_toTimetable h_aT inferInstance hq_aT).mono ?_
  rintro e w6 ⟨z6A0, z6n0, z6c0, z6A1, z6n1, z6c1, z6A2, z6n2, z6c2, z6f0, z6f1, z6f2, rfl, o6, nd6, lo6, L6⟩
  have U6 := Later.trans (w := w) inferInstance L6
  have X6 := Later.trans (w := ((w.alloc (.cells #[.slice aTA0 aTn0 aTc0, .slice aTA1 aTn1 aTc1, .slice aTA2 aTn2 aTc2] 28)).alloc (.cells #[.slice aFA0 aFn0 aFc0, .int .i64 daF.Turn] 31))) inferInstance L6
  have V3_6 := Later.trans (w := w3) inferInstance L6
  have V4_6 := Later.trans (w := w4) inferInstance L6
  have V5_6 := Later.trans (w := w5) inferInstance L6
  have HBx6 : ∀ W [Later (w6.alloc (.cells #[.slice z6A0 z6n0 z6c0, .slice z6A1 z6n1 z6c1, .slice z6A2 z6n2 z6c2] 41)) W] (j : Nat), W.cell? ⟨w6.heap.size, j, none⟩ = #[.slice z6A0 z6n0 z6c0, .slice z6A1 z6n1 z6c1, .slice z6A2 z6n2 z6c2][j]? := Later.boxes (t := 41) (fr := (0, 0)) (heap_new rfl)
  go_wp2_with fail
  refine (laws_toFleet h_aF inferInstance hq_aF).mono ?_
  rintro e w7 ⟨z7A0, z7n0, z7c0, z7f0, rfl, o7, nd7, lo7, L7⟩
  have U7 := Later.trans (w := w) inferInstance L7
  have X7 := Later.trans (w := ((w.alloc (.cells #[.slice aTA0 aTn0 aTc0, .slice aTA1 aTn1 aTc1, .slice aTA2 aTn2 aTc2] 28)).alloc (.cells #[.slice aFA0 aFn0 aFc0, .int .i64 daF.Turn] 31))) inferInstance L7
  have V3_7 := Later.trans (w := w3) inferInstance L7
  have V4_7 := Later.trans (w := w4) inferInstance L7
  have V5_7 := Later.trans (w := w5) inferInstance L7
  have V6_7 := Later.trans (w := w6) inferInstance L7
  have Y6_7 := Later.trans (w := (w6.alloc (.cells #[.slice z6A0 z6n0 z6c0, .slice z6A1 z6n1 z6c1, .slice z6A2 z6n2 z6c2] 41))) inferInstance L7
  have HBx7 : ∀ W [Later (w7.alloc (.cells #[.slice z7A0 z7n0 z7c0, .int .i64 daF.Turn] 43)) W] (j : Nat), W.cell? ⟨w7.heap.size, j, none⟩ = #[.slice z7A0 z7n0 z7c0, .int .i64 daF.Turn][j]? := Later.boxes (t := 43) (fr := (0, 0)) (heap_new rfl)
  go_wp2_with fail
  refine (impl_MakeBlocks o6.reads inferInstance o7.reads inferInstance).mono ?_
  rintro e w8 ⟨z8A, z8n, z8c, z8f, rfl, o8, nd8, lo8, L8⟩
  have U8 := Later.trans (w := w) inferInstance L8
  have X8 := Later.trans (w := ((w.alloc (.cells #[.slice aTA0 aTn0 aTc0, .slice aTA1 aTn1 aTc1, .slice aTA2 aTn2 aTc2] 28)).alloc (.cells #[.slice aFA0 aFn0 aFc0, .int .i64 daF.Turn] 31))) inferInstance L8
  have V3_8 := Later.trans (w := w3) inferInstance L8
  have V4_8 := Later.trans (w := w4) inferInstance L8
  have V5_8 := Later.trans (w := w5) inferInstance L8
  have V6_8 := Later.trans (w := w6) inferInstance L8
  have Y6_8 := Later.trans (w := (w6.alloc (.cells #[.slice z6A0 z6n0 z6c0, .slice z6A1 z6n1 z6c1, .slice z6A2 z6n2 z6c2] 41))) inferInstance L8
  have V7_8 := Later.trans (w := w7) inferInstance L8
  have Y7_8 := Later.trans (w := (w7.alloc (.cells #[.slice z7A0 z7n0 z7c0, .int .i64 daF.Turn] 43))) inferInstance L8
  go_wp2_with fail
  refine (laws_eqIntSS o8.reads inferInstance o5.reads inferInstance).mono ?_
  rintro e w9 ⟨rfl, L9⟩
  have U9 := Later.trans (w := w) inferInstance L9
  have X9 := Later.trans (w := ((w.alloc (.cells #[.slice aTA0 aTn0 aTc0, .slice aTA1 aTn1 aTc1, .slice aTA2 aTn2 aTc2] 28)).alloc (.cells #[.slice aFA0 aFn0 aFc0, .int .i64 daF.Turn] 31))) inferInstance L9
  have V3_9 := Later.trans (w := w3) inferInstance L9
  have V4_9 := Later.trans (w := w4) inferInstance L9
  have V5_9 := Later.trans (w := w5) inferInstance L9
  have V6_9 := Later.trans (w := w6) inferInstance L9
  have Y6_9 := Later.trans (w := (w6.alloc (.cells #[.slice z6A0 z6n0 z6c0, .slice z6A1 z6n1 z6c1, .slice z6A2 z6n2 z6c2] 41))) inferInstance L9
  have V7_9 := Later.trans (w := w7) inferInstance L9
  have Y7_9 := Later.trans (w := (w7.alloc (.cells #[.slice z7A0 z7n0 z7c0, .int .i64 daF.Turn] 43))) inferInstance L9
  have V8_9 := Later.trans (w := w8) inferInstance L9
  go_wp2_with fail
  go_region_held3 (fun w' => Later w w' ∧ Later ((w.alloc (.cells #[.slice aTA0 aTn0 aTc0, .slice aTA1 aTn1 aTc1, .slice aTA2 aTn2 aTc2] 28)).alloc (.cells #[.slice aFA0 aFn0 aFc0, .int .i64 daF.Turn] 31)) w' ∧ Later w3 w' ∧ Later w4 w' ∧ Later w5 w' ∧ Later w6 w' ∧ Later (w6.alloc (.cells #[.slice z6A0 z6n0 z6c0, .slice z6A1 z6n1 z6c1, .slice z6A2 z6n2 z6c2] 41)) w' ∧ Later w7 w' ∧ Later (w7.alloc (.cells #[.slice z7A0 z7n0 z7c0, .int .i64 daF.Turn] 43)) w' ∧ Later w8 w') (first | exact ⟨inferInstance, inferInstance, inferInstance, inferInstance, inferInstance, inferInstance, inferInstance, inferInstance, inferInstance, inferInstance⟩) (first | (go_at_call 9; refine (laws_toTimetable h_aT inferInstance hq_aT).mono ?_; rintro e w10 ⟨z10A0, z10n0, z10c0, z10A1, z10n1, z10c1, z10A2, z10n2, z10c2, z10f0, z10f1, z10f2, rfl, o10, nd10, lo10, L10⟩; have U10 := Later.trans (w := w) inferInstance L10; have X10 := Later.trans (w := ((w.alloc (.cells #[.slice aTA0 aTn0 aTc0, .slice aTA1 aTn1 aTc1, .slice aTA2 aTn2 aTc2] 28)).alloc (.cells #[.slice aFA0 aFn0 aFc0, .int .i64 daF.Turn] 31))) inferInstance L10; have V3_10 := Later.trans (w := w3) inferInstance L10; have V4_10 := Later.trans (w := w4) inferInstance L10; have V5_10 := Later.trans (w := w5) inferInstance L10; have V6_10 := Later.trans (w := w6) inferInstance L10; have Y6_10 := Later.trans (w := (w6.alloc (.cells #[.slice z6A0 z6n0 z6c0, .slice z6A1 z6n1 z6c1, .slice z6A2 z6n2 z6c2] 41))) inferInstance L10; have V7_10 := Later.trans (w := w7) inferInstance L10; have Y7_10 := Later.trans (w := (w7.alloc (.cells #[.slice z7A0 z7n0 z7c0, .int .i64 daF.Turn] 43))) inferInstance L10; have V8_10 := Later.trans (w := w8) inferInstance L10) | (go_at_call 13; refine (laws_eqTimetable o6.reads inferInstance o10.reads inferInstance).mono ?_; rintro e w11 ⟨rfl, L11⟩; have U11 := Later.trans (w := w) inferInstance L11; have X11 := Later.trans (w := ((w.alloc (.cells #[.slice aTA0 aTn0 aTc0, .slice aTA1 aTn1 aTc1, .slice aTA2 aTn2 aTc2] 28)).alloc (.cells #[.slice aFA0 aFn0 aFc0, .int .i64 daF.Turn] 31))) inferInstance L11; have V3_11 := Later.trans (w := w3) inferInstance L11; have V4_11 := Later.trans (w := w4) inferInstance L11; have V5_11 := Later.trans (w := w5) inferInstance L11; have V6_11 := Later.trans (w := w6) inferInstance L11; have Y6_11 := Later.trans (w := (w6.alloc (.cells #[.slice z6A0 z6n0 z6c0, .slice z6A1 z6n1 z6c1, .slice z6A2 z6n2 z6c2] 41))) inferInstance L11; have V7_11 := Later.trans (w := w7) inferInstance L11; have Y7_11 := Later.trans (w := (w7.alloc (.cells #[.slice z7A0 z7n0 z7c0, .int .i64 daF.Turn] 43))) inferInstance L11; have V8_11 := Later.trans (w := w8) inferInstance L11; have V10_11 := Later.trans (w := w10) inferInstance L11))
  go_wp2_with fail
  go_region_held3 (fun w' => Later w w' ∧ Later ((w.alloc (.cells #[.slice aTA0 aTn0 aTc0, .slice aTA1 aTn1 aTc1, .slice aTA2 aTn2 aTc2] 28)).alloc (.cells #[.slice aFA0 aFn0 aFc0, .int .i64 daF.Turn] 31)) w' ∧ Later w3 w' ∧ Later w4 w' ∧ Later w5 w' ∧ Later w6 w' ∧ Later (w6.alloc (.cells #[.slice z6A0 z6n0 z6c0, .slice z6A1 z6n1 z6c1, .slice z6A2 z6n2 z6c2] 41)) w' ∧ Later w7 w' ∧ Later (w7.alloc (.cells #[.slice z7A0 z7n0 z7c0, .int .i64 daF.Turn] 43)) w' ∧ Later w8 w') (first | exact ⟨inferInstance, inferInstance, inferInstance, inferInstance, inferInstance, inferInstance, inferInstance, inferInstance, inferInstance, inferInstance⟩) (first | (go_at_call 10; refine (laws_toFleet h_aF inferInstance hq_aF).mono ?_; rintro e w12 ⟨z12A0, z12n0, z12c0, z12f0, rfl, o12, nd12, lo12, L12⟩; have U12 := Later.trans (w := w) inferInstance L12; have X12 := Later.trans (w := ((w.alloc (.cells #[.slice aTA0 aTn0 aTc0, .slice aTA1 aTn1 aTc1, .slice aTA2 aTn2 aTc2] 28)).alloc (.cells #[.slice aFA0 aFn0 aFc0, .int .i64 daF.Turn] 31))) inferInstance L12; have V3_12 := Later.trans (w := w3) inferInstance L12; have V4_12 := Later.trans (w := w4) inferInstance L12; have V5_12 := Later.trans (w := w5) inferInstance L12; have V6_12 := Later.trans (w := w6) inferInstance L12; have Y6_12 := Later.trans (w := (w6.alloc (.cells #[.slice z6A0 z6n0 z6c0, .slice z6A1 z6n1 z6c1, .slice z6A2 z6n2 z6c2] 41))) inferInstance L12; have V7_12 := Later.trans (w := w7) inferInstance L12; have Y7_12 := Later.trans (w := (w7.alloc (.cells #[.slice z7A0 z7n0 z7c0, .int .i64 daF.Turn] 43))) inferInstance L12; have V8_12 := Later.trans (w := w8) inferInstance L12) | (go_at_call 14; refine (laws_eqFleet o7.reads inferInstance o12.reads inferInstance).mono ?_; rintro e w13 ⟨rfl, L13⟩; have U13 := Later.trans (w := w) inferInstance L13; have X13 := Later.trans (w := ((w.alloc (.cells #[.slice aTA0 aTn0 aTc0, .slice aTA1 aTn1 aTc1, .slice aTA2 aTn2 aTc2] 28)).alloc (.cells #[.slice aFA0 aFn0 aFc0, .int .i64 daF.Turn] 31))) inferInstance L13; have V3_13 := Later.trans (w := w3) inferInstance L13; have V4_13 := Later.trans (w := w4) inferInstance L13; have V5_13 := Later.trans (w := w5) inferInstance L13; have V6_13 := Later.trans (w := w6) inferInstance L13; have Y6_13 := Later.trans (w := (w6.alloc (.cells #[.slice z6A0 z6n0 z6c0, .slice z6A1 z6n1 z6c1, .slice z6A2 z6n2 z6c2] 41))) inferInstance L13; have V7_13 := Later.trans (w := w7) inferInstance L13; have Y7_13 := Later.trans (w := (w7.alloc (.cells #[.slice z7A0 z7n0 z7c0, .int .i64 daF.Turn] 43))) inferInstance L13; have V8_13 := Later.trans (w := w8) inferInstance L13; have V12_13 := Later.trans (w := w12) inferInstance L13))
  go_wp2_with fail
  have hcb14 := cntTimetable_le daT
  refine (laws_markTimetable (o6.later inferInstance) nd6 (by omega) (by have hqq := hq_aT; have hcl := cntTimetable_le daT; omega)).mono ?_
  rintro e w14 ⟨rfl, T14, p14⟩
  have U14 := T14.later (inferInstance : Later w _) (fun g hg => Nat.le_trans (Later.size (w := w) inferInstance) (lo6 g hg))
  have X14 := T14.later (inferInstance : Later ((w.alloc (.cells #[.slice aTA0 aTn0 aTc0, .slice aTA1 aTn1 aTc1, .slice aTA2 aTn2 aTc2] 28)).alloc (.cells #[.slice aFA0 aFn0 aFc0, .int .i64 daF.Turn] 31)) _) (fun g hg => Nat.le_trans (Later.size (w := ((w.alloc (.cells #[.slice aTA0 aTn0 aTc0, .slice aTA1 aTn1 aTc1, .slice aTA2 aTn2 aTc2] 28)).alloc (.cells #[.slice aFA0 aFn0 aFc0, .int .i64 daF.Turn] 31))) inferInstance) (lo6 g hg))
  have V3_14 := T14.later (inferInstance : Later w3 _) (fun g hg => Nat.le_trans (Later.size (w := w3) inferInstance) (lo6 g hg))
  have V4_14 := T14.later (inferInstance : Later w4 _) (fun g hg => Nat.le_trans (Later.size (w := w4) inferInstance) (lo6 g hg))
  have V5_14 := T14.later (inferInstance : Later w5 _) (fun g hg => Nat.le_trans (Later.size (w := w5) inferInstance) (lo6 g hg))
  have p14_7 := (o7.later (inferInstance : Later w7 _)).touch T14 (fun b hb hx => absurd (o6.lt b hx) (Nat.not_lt.2 (Nat.le_trans (Later.size (w := w6) inferInstance) (lo7 b hb))))
  have p14_8 := (o8.later (inferInstance : Later w8 _)).touch T14 (fun b hb hx => absurd (o6.lt b hx) (Nat.not_lt.2 (Nat.le_trans (Later.size (w := w6) inferInstance) (lo8 b hb))))
  have B14_7 : Blk w14 w7.heap.size 43 #[.slice z7A0 z7n0 z7c0, .int .i64 daF.Turn] := T14.blk (Blk.later (heap_new rfl : Blk (w7.alloc (.cells #[.slice z7A0 z7n0 z7c0, .int .i64 daF.Turn] 43)) w7.heap.size 43 #[.slice z7A0 z7n0 z7c0, .int .i64 daF.Turn]) (inferInstance : Later (w7.alloc (.cells #[.slice z7A0 z7n0 z7c0, .int .i64 daF.Turn] 43)) _)) (fun hh => absurd (o6.lt _ hh) (Nat.not_lt.2 (Later.size (w := w6) (W := w7) inferInstance)))
  have HBx14_7 : ∀ W [Later w14 W] (j : Nat), W.cell? ⟨w7.heap.size, j, none⟩ = #[.slice z7A0 z7n0 z7c0, .int .i64 daF.Turn][j]? := Later.boxes (t := 43) (fr := (0, 0)) B14_7
  have hk14 : ¬ ((1 + (cntTimetable daT : Int)) < 0) := by omega
  go_wp2_with fail
  have hcb15 := cntFleet_le daF
  refine (laws_markFleet (p14_7.later inferInstance) nd7 (by omega) (by have hqq := hq_aF; have hcl := cntFleet_le daF; omega)).mono ?_
  rintro e w15 ⟨rfl, T15, p15⟩
  have U15 := T15.later (inferInstance : Later w _) (fun g hg => Nat.le_trans (Later.size (w := w) inferInstance) (lo7 g hg))
  have X15 := T15.later (inferInstance : Later ((w.alloc (.cells #[.slice aTA0 aTn0 aTc0, .slice aTA1 aTn1 aTc1, .slice aTA2 aTn2 aTc2] 28)).alloc (.cells #[.slice aFA0 aFn0 aFc0, .int .i64 daF.Turn] 31)) _) (fun g hg => Nat.le_trans (Later.size (w := ((w.alloc (.cells #[.slice aTA0 aTn0 aTc0, .slice aTA1 aTn1 aTc1, .slice aTA2 aTn2 aTc2] 28)).alloc (.cells #[.slice aFA0 aFn0 aFc0, .int .i64 daF.Turn] 31))) inferInstance) (lo7 g hg))
  have V3_15 := T15.later (inferInstance : Later w3 _) (fun g hg => Nat.le_trans (Later.size (w := w3) inferInstance) (lo7 g hg))
  have V4_15 := T15.later (inferInstance : Later w4 _) (fun g hg => Nat.le_trans (Later.size (w := w4) inferInstance) (lo7 g hg))
  have V5_15 := T15.later (inferInstance : Later w5 _) (fun g hg => Nat.le_trans (Later.size (w := w5) inferInstance) (lo7 g hg))
  have p15_8 := (p14_8.later (inferInstance : Later w14 _)).touch T15 (fun b hb hx => absurd (o7.lt b hx) (Nat.not_lt.2 (Nat.le_trans (Later.size (w := w7) inferInstance) (lo8 b hb))))
  have hk15 : ¬ (((1 + (cntTimetable daT : Int)) + (cntFleet daF : Int)) < 0) := by omega
  go_wp2_with fail
  refine (laws_eqIntSS p15_8.reads inferInstance o5.reads inferInstance).mono ?_
  rintro e w16 ⟨rfl, L16⟩
  have U16 := Later.trans (w := w) inferInstance L16
  have X16 := Later.trans (w := ((w.alloc (.cells #[.slice aTA0 aTn0 aTc0, .slice aTA1 aTn1 aTc1, .slice aTA2 aTn2 aTc2] 28)).alloc (.cells #[.slice aFA0 aFn0 aFc0, .int .i64 daF.Turn] 31))) inferInstance L16
  have V3_16 := Later.trans (w := w3) inferInstance L16
  have V4_16 := Later.trans (w := w4) inferInstance L16
  have V5_16 := Later.trans (w := w5) inferInstance L16
  have P15_16 := Later.trans (w := w15) inferInstance L16
  go_wp2_with fail
  refine (laws_markIntSS (p15_8.later inferInstance) nd8 (by omega) (by have hqq := blkRes_bd daT daF; have hql := o8.len; first | omega | ((try simp only [totRows] at hqq); (try simp only [totRows]); omega))).mono ?_
  rintro e w17 ⟨rfl, T17, p17⟩
  have U17 := T17.later (inferInstance : Later w _) (fun g hg => Nat.le_trans (Later.size (w := w) inferInstance) (lo8 g hg))
  have X17 := T17.later (inferInstance : Later ((w.alloc (.cells #[.slice aTA0 aTn0 aTc0, .slice aTA1 aTn1 aTc1, .slice aTA2 aTn2 aTc2] 28)).alloc (.cells #[.slice aFA0 aFn0 aFc0, .int .i64 daF.Turn] 31)) _) (fun g hg => Nat.le_trans (Later.size (w := ((w.alloc (.cells #[.slice aTA0 aTn0 aTc0, .slice aTA1 aTn1 aTc1, .slice aTA2 aTn2 aTc2] 28)).alloc (.cells #[.slice aFA0 aFn0 aFc0, .int .i64 daF.Turn] 31))) inferInstance) (lo8 g hg))
  have V3_17 := T17.later (inferInstance : Later w3 _) (fun g hg => Nat.le_trans (Later.size (w := w3) inferInstance) (lo8 g hg))
  have V4_17 := T17.later (inferInstance : Later w4 _) (fun g hg => Nat.le_trans (Later.size (w := w4) inferInstance) (lo8 g hg))
  have V5_17 := T17.later (inferInstance : Later w5 _) (fun g hg => Nat.le_trans (Later.size (w := w5) inferInstance) (lo8 g hg))
  have hk17 : ¬ ((1 + (sumLen (blkRes daT daF).1 : Int)) < 0) := by omega
  go_wp2_with fail
  refine (laws_heldIntSS p17.reads inferInstance (by omega) (by have hqq := blkRes_bd daT daF; have hql := o8.len; first | omega | ((try simp only [totRows] at hqq); (try simp only [totRows]); omega))).mono ?_
  rintro e w18 ⟨rfl, L18⟩
  have U18 := Later.trans (w := w) inferInstance L18
  have X18 := Later.trans (w := ((w.alloc (.cells #[.slice aTA0 aTn0 aTc0, .slice aTA1 aTn1 aTc1, .slice aTA2 aTn2 aTc2] 28)).alloc (.cells #[.slice aFA0 aFn0 aFc0, .int .i64 daF.Turn] 31))) inferInstance L18
  have V3_18 := Later.trans (w := w3) inferInstance L18
  have V4_18 := Later.trans (w := w4) inferInstance L18
  have V5_18 := Later.trans (w := w5) inferInstance L18
  have P17_18 := Later.trans (w := w17) inferInstance L18
  go_wp2_with fail
  go_region_held3 (fun w' => Later w w' ∧ Later ((w.alloc (.cells #[.slice aTA0 aTn0 aTc0, .slice aTA1 aTn1 aTc1, .slice aTA2 aTn2 aTc2] 28)).alloc (.cells #[.slice aFA0 aFn0 aFc0, .int .i64 daF.Turn] 31)) w' ∧ Later w3 w' ∧ Later w4 w' ∧ Later w5 w' ∧ Later w17 w') (first | exact ⟨inferInstance, inferInstance, inferInstance, inferInstance, inferInstance, inferInstance⟩) (first | (go_at_call 9; refine (laws_toTimetable h_aT inferInstance hq_aT).mono ?_; rintro e w19 ⟨z19A0, z19n0, z19c0, z19A1, z19n1, z19c1, z19A2, z19n2, z19c2, z19f0, z19f1, z19f2, rfl, o19, nd19, lo19, L19⟩; have U19 := Later.trans (w := w) inferInstance L19; have X19 := Later.trans (w := ((w.alloc (.cells #[.slice aTA0 aTn0 aTc0, .slice aTA1 aTn1 aTc1, .slice aTA2 aTn2 aTc2] 28)).alloc (.cells #[.slice aFA0 aFn0 aFc0, .int .i64 daF.Turn] 31))) inferInstance L19; have V3_19 := Later.trans (w := w3) inferInstance L19; have V4_19 := Later.trans (w := w4) inferInstance L19; have V5_19 := Later.trans (w := w5) inferInstance L19; have P17_19 := Later.trans (w := w17) inferInstance L19) | (go_at_call 10; refine (laws_toFleet h_aF inferInstance hq_aF).mono ?_; rintro e w20 ⟨z20A0, z20n0, z20c0, z20f0, rfl, o20, nd20, lo20, L20⟩; have U20 := Later.trans (w := w) inferInstance L20; have X20 := Later.trans (w := ((w.alloc (.cells #[.slice aTA0 aTn0 aTc0, .slice aTA1 aTn1 aTc1, .slice aTA2 aTn2 aTc2] 28)).alloc (.cells #[.slice aFA0 aFn0 aFc0, .int .i64 daF.Turn] 31))) inferInstance L20; have V3_20 := Later.trans (w := w3) inferInstance L20; have V4_20 := Later.trans (w := w4) inferInstance L20; have V5_20 := Later.trans (w := w5) inferInstance L20; have P17_20 := Later.trans (w := w17) inferInstance L20; have V19_20 := Later.trans (w := w19) inferInstance L20) | (go_at_call 11; refine (impl_MakeBlocks o19.reads inferInstance o20.reads inferInstance).mono ?_; rintro e w21 ⟨z21A, z21n, z21c, z21f, rfl, o21, nd21, lo21, L21⟩; have U21 := Later.trans (w := w) inferInstance L21; have X21 := Later.trans (w := ((w.alloc (.cells #[.slice aTA0 aTn0 aTc0, .slice aTA1 aTn1 aTc1, .slice aTA2 aTn2 aTc2] 28)).alloc (.cells #[.slice aFA0 aFn0 aFc0, .int .i64 daF.Turn] 31))) inferInstance L21; have V3_21 := Later.trans (w := w3) inferInstance L21; have V4_21 := Later.trans (w := w4) inferInstance L21; have V5_21 := Later.trans (w := w5) inferInstance L21; have P17_21 := Later.trans (w := w17) inferInstance L21; have V19_21 := Later.trans (w := w19) inferInstance L21; have V20_21 := Later.trans (w := w20) inferInstance L21))
  go_wp2_with fail
  refine (laws_eqIntSS o21.reads inferInstance o5.reads inferInstance).mono ?_
  rintro e w22 ⟨rfl, L22⟩
  have U22 := Later.trans (w := w) inferInstance L22
  have X22 := Later.trans (w := ((w.alloc (.cells #[.slice aTA0 aTn0 aTc0, .slice aTA1 aTn1 aTc1, .slice aTA2 aTn2 aTc2] 28)).alloc (.cells #[.slice aFA0 aFn0 aFc0, .int .i64 daF.Turn] 31))) inferInstance L22
  have V3_22 := Later.trans (w := w3) inferInstance L22
  have V4_22 := Later.trans (w := w4) inferInstance L22
  have V5_22 := Later.trans (w := w5) inferInstance L22
  have P17_22 := Later.trans (w := w17) inferInstance L22
  have V19_22 := Later.trans (w := w19) inferInstance L22
  have V20_22 := Later.trans (w := w20) inferInstance L22
  have V21_22 := Later.trans (w := w21) inferInstance L22
  go_wp2_with fail
  refine (laws_heldIntSS p17.reads inferInstance (by omega) (by have hqq := blkRes_bd daT daF; have hql := o8.len; first | omega | ((try simp only [totRows] at hqq); (try simp only [totRows]); omega))).mono ?_
  rintro e w23 ⟨rfl, L23⟩
  have U23 := Later.trans (w := w) inferInstance L23
  have X23 := Later.trans (w := ((w.alloc (.cells #[.slice aTA0 aTn0 aTc0, .slice aTA1 aTn1 aTc1, .slice aTA2 aTn2 aTc2] 28)).alloc (.cells #[.slice aFA0 aFn0 aFc0, .int .i64 daF.Turn] 31))) inferInstance L23
  have V3_23 := Later.trans (w := w3) inferInstance L23
  have V4_23 := Later.trans (w := w4) inferInstance L23
  have V5_23 := Later.trans (w := w5) inferInstance L23
  have P17_23 := Later.trans (w := w17) inferInstance L23
  have V19_23 := Later.trans (w := w19) inferInstance L23
  have V20_23 := Later.trans (w := w20) inferInstance L23
  have V21_23 := Later.trans (w := w21) inferInstance L23
  go_wp2
  go_ret
  exact ⟨rfl, inferInstance⟩
end Go.Proofs.Ytaopadffabbjiaa
