/-
  The statement's call FnExactWaitingMinutes: it returns true, out of what both functions return. Printed by a program of ours (gen_law.py).
-/
import Derived.Test.YtbkeccpjcmhhjaaGreatWait
import Derived.Test.YtbkeccpjcmhhjaaGreatJh
import Derived.Test.YtbkeccpjcmhhjaaGreatHSpan
import Derived.Deep.RegionHeld3
namespace Go.Proofs.YtbkeccpjcmhhjaaGreat
open Go Go.RowKit
set_option linter.unusedVariables false
set_option maxRecDepth 100000
set_option linter.unusedSimpArgs false
set_option maxHeartbeats 4000000 in
theorem w_FnExactWaitingMinutes {w : World} {aTA0 : Option Addr} {aTn0 aTc0 : Nat} {aTA1 : Option Addr} {aTn1 aTc1 : Nat} {aTA2 : Option Addr} {aTn2 aTc2 : Nat} {daT : Timetable} {aChange : Int} {aFrom : Int} {aTo : Int}  {daSpan : Span} (h_aT : TimetableAt w aTA0 aTn0 aTc0 aTA1 aTn1 aTc1 aTA2 aTn2 aTc2 daT) (i_aChange : I64 aChange) (i_aFrom : I64 aFrom) (i_aTo : I64 aTo) (h_aSpan : SpanOk daSpan) : Calls Tryz.prog 3 #[.agg #[.slice aTA0 aTn0 aTc0, .slice aTA1 aTn1 aTc1, .slice aTA2 aTn2 aTc2], .int .i64 aChange, .int .i64 aFrom, .int .i64 aTo, .agg #[.int .i64 daSpan.From, .int .i64 daSpan.To]] w (Ret (.bool true) w) := by
  have HB0 : ∀ W [Later ((w.alloc (.cells #[.slice aTA0 aTn0 aTc0, .slice aTA1 aTn1 aTc1, .slice aTA2 aTn2 aTc2] 28)).alloc (.cells #[.int .i64 daSpan.From, .int .i64 daSpan.To] 30)) W] (j : Nat), W.cell? ⟨w.heap.size, j, none⟩ = #[.slice aTA0 aTn0 aTc0, .slice aTA1 aTn1 aTc1, .slice aTA2 aTn2 aTc2][j]? := Later.boxes (t := 28) (fr := (0, 0)) ((heap_old (by simp; try omega)).trans (heap_new (by simp; try omega))); have HB1 : ∀ W [Later ((w.alloc (.cells #[.slice aTA0 aTn0 aTc0, .slice aTA1 aTn1 aTc1, .slice aTA2 aTn2 aTc2] 28)).alloc (.cells #[.int .i64 daSpan.From, .int .i64 daSpan.To] 30)) W] (j : Nat), W.cell? ⟨w.heap.size + 1, j, none⟩ = #[.int .i64 daSpan.From, .int .i64 daSpan.To][j]? := Later.boxes (t := 30) (fr := (0, 0)) (heap_new (by simp; try omega))
  have hbb : ∀ a : Bool, (a != a) = false := by simp
  have hii : ∀ a : Int, (a != a) = false := by simp
  go_enter Tryz.func3, Tryz.ntmps3
  go_wp2_with fail
  refine (laws_szTimetable h_aT inferInstance (by omega) (by omega)).mono ?_
  rintro e w1 ⟨r1, rfl, hr1, L1⟩
  have U1 := Later.trans (w := w) inferInstance L1
  have X1 := Later.trans (w := ((w.alloc (.cells #[.slice aTA0 aTn0 aTc0, .slice aTA1 aTn1 aTc1, .slice aTA2 aTn2 aTc2] 28)).alloc (.cells #[.int .i64 daSpan.From, .int .i64 daSpan.To] 30))) inferInstance L1
  rcases hr1 with hr1 | ⟨hp1, hq1⟩
  · go_wp2
    go_ret
    exact ⟨rfl, inferInstance⟩
  have hb1 : r1 ≤ 1048576 := by omega
  have hq_aT : totTimetable daT ≤ 1048576 := by omega
  clear hq1
  go_wp2_with fail
  go_region_held3 (fun w' => Later w w' ∧ Later ((w.alloc (.cells #[.slice aTA0 aTn0 aTc0, .slice aTA1 aTn1 aTc1, .slice aTA2 aTn2 aTc2] 28)).alloc (.cells #[.int .i64 daSpan.From, .int .i64 daSpan.To] 30)) w') (first | exact ⟨inferInstance, inferInstance⟩) (first | (go_at_call 7; refine (laws_toTimetable h_aT inferInstance hq_aT).mono ?_; rintro e w2 ⟨z2A0, z2n0, z2c0, z2A1, z2n1, z2c1, z2A2, z2n2, z2c2, z2f0, z2f1, z2f2, rfl, o2, nd2, lo2, L2⟩; have U2 := Later.trans (w := w) inferInstance L2; have X2 := Later.trans (w := ((w.alloc (.cells #[.slice aTA0 aTn0 aTc0, .slice aTA1 aTn1 aTc1, .slice aTA2 aTn2 aTc2] 28)).alloc (.cells #[.int .i64 daSpan.From, .int .i64 daSpan.To] 30))) inferInstance L2) | (go_at_call 8; refine (laws_toSpan _ _).mono ?_; rintro e w3 ⟨rfl, L3⟩; have U3 := Later.trans (w := w) inferInstance L3; have X3 := Later.trans (w := ((w.alloc (.cells #[.slice aTA0 aTn0 aTc0, .slice aTA1 aTn1 aTc1, .slice aTA2 aTn2 aTc2] 28)).alloc (.cells #[.int .i64 daSpan.From, .int .i64 daSpan.To] 30))) inferInstance L3; have V2_3 := Later.trans (w := w2) inferInstance L3) | (go_at_call 6; refine (spec_WaitingMinutes o2.reads inferInstance aChange aFrom aTo daSpan).mono ?_; rintro e w4 ⟨rfl, L4⟩; have U4 := Later.trans (w := w) inferInstance L4; have X4 := Later.trans (w := ((w.alloc (.cells #[.slice aTA0 aTn0 aTc0, .slice aTA1 aTn1 aTc1, .slice aTA2 aTn2 aTc2] 28)).alloc (.cells #[.int .i64 daSpan.From, .int .i64 daSpan.To] 30))) inferInstance L4; have V2_4 := Later.trans (w := w2) inferInstance L4))
  go_wp2_with fail
  refine (laws_toTimetable h_aT inferInstance hq_aT).mono ?_
  rintro e w5 ⟨z5A0, z5n0, z5c0, z5A1, z5n1, z5c1, z5A2, z5n2, z5c2, z5f0, z5f1, z5f2, rfl, o5, nd5, lo5, L5⟩
  have U5 := Later.trans (w := w) inferInstance L5
  have X5 := Later.trans (w := ((w.alloc (.cells #[.slice aTA0 aTn0 aTc0, .slice aTA1 aTn1 aTc1, .slice aTA2 aTn2 aTc2] 28)).alloc (.cells #[.int .i64 daSpan.From, .int .i64 daSpan.To] 30))) inferInstance L5
  have V2_5 := Later.trans (w := w2) inferInstance L5
  have HBx5 : ∀ W [Later (w5.alloc (.cells #[.slice z5A0 z5n0 z5c0, .slice z5A1 z5n1 z5c1, .slice z5A2 z5n2 z5c2] 39)) W] (j : Nat), W.cell? ⟨w5.heap.size, j, none⟩ = #[.slice z5A0 z5n0 z5c0, .slice z5A1 z5n1 z5c1, .slice z5A2 z5n2 z5c2][j]? := Later.boxes (t := 39) (fr := (0, 0)) (heap_new rfl)
  go_wp2_with fail
  go_region_held3 (fun w' => Later w w' ∧ Later ((w.alloc (.cells #[.slice aTA0 aTn0 aTc0, .slice aTA1 aTn1 aTc1, .slice aTA2 aTn2 aTc2] 28)).alloc (.cells #[.int .i64 daSpan.From, .int .i64 daSpan.To] 30)) w' ∧ Later w2 w' ∧ Later w5 w' ∧ Later (w5.alloc (.cells #[.slice z5A0 z5n0 z5c0, .slice z5A1 z5n1 z5c1, .slice z5A2 z5n2 z5c2] 39)) w') (first | exact ⟨inferInstance, inferInstance, inferInstance, inferInstance, inferInstance⟩) (first | (go_at_call 8; refine (laws_toSpan _ _).mono ?_; rintro e w6 ⟨rfl, L6⟩; have U6 := Later.trans (w := w) inferInstance L6; have X6 := Later.trans (w := ((w.alloc (.cells #[.slice aTA0 aTn0 aTc0, .slice aTA1 aTn1 aTc1, .slice aTA2 aTn2 aTc2] 28)).alloc (.cells #[.int .i64 daSpan.From, .int .i64 daSpan.To] 30))) inferInstance L6; have V2_6 := Later.trans (w := w2) inferInstance L6; have V5_6 := Later.trans (w := w5) inferInstance L6; have Y5_6 := Later.trans (w := (w5.alloc (.cells #[.slice z5A0 z5n0 z5c0, .slice z5A1 z5n1 z5c1, .slice z5A2 z5n2 z5c2] 39))) inferInstance L6) | (go_at_call 9; refine (impl_WaitingMinutes o5.reads inferInstance aChange aFrom aTo daSpan).mono ?_; rintro e w7 ⟨rfl, L7⟩; have U7 := Later.trans (w := w) inferInstance L7; have X7 := Later.trans (w := ((w.alloc (.cells #[.slice aTA0 aTn0 aTc0, .slice aTA1 aTn1 aTc1, .slice aTA2 aTn2 aTc2] 28)).alloc (.cells #[.int .i64 daSpan.From, .int .i64 daSpan.To] 30))) inferInstance L7; have V2_7 := Later.trans (w := w2) inferInstance L7; have V5_7 := Later.trans (w := w5) inferInstance L7; have Y5_7 := Later.trans (w := (w5.alloc (.cells #[.slice z5A0 z5n0 z5c0, .slice z5A1 z5n1 z5c1, .slice z5A2 z5n2 z5c2] 39))) inferInstance L7))
  go_wp2_with fail
  go_region_held3 (fun w' => Later w w' ∧ Later ((w.alloc (.cells #[.slice aTA0 aTn0 aTc0, .slice aTA1 aTn1 aTc1, .slice aTA2 aTn2 aTc2] 28)).alloc (.cells #[.int .i64 daSpan.From, .int .i64 daSpan.To] 30)) w' ∧ Later w2 w' ∧ Later w5 w' ∧ Later (w5.alloc (.cells #[.slice z5A0 z5n0 z5c0, .slice z5A1 z5n1 z5c1, .slice z5A2 z5n2 z5c2] 39)) w') (first | exact ⟨inferInstance, inferInstance, inferInstance, inferInstance, inferInstance⟩) (first | (go_at_call 7; refine (laws_toTimetable h_aT inferInstance hq_aT).mono ?_; rintro e w8 ⟨z8A0, z8n0, z8c0, z8A1, z8n1, z8c1, z8A2, z8n2, z8c2, z8f0, z8f1, z8f2, rfl, o8, nd8, lo8, L8⟩; have U8 := Later.trans (w := w) inferInstance L8; have X8 := Later.trans (w := ((w.alloc (.cells #[.slice aTA0 aTn0 aTc0, .slice aTA1 aTn1 aTc1, .slice aTA2 aTn2 aTc2] 28)).alloc (.cells #[.int .i64 daSpan.From, .int .i64 daSpan.To] 30))) inferInstance L8; have V2_8 := Later.trans (w := w2) inferInstance L8; have V5_8 := Later.trans (w := w5) inferInstance L8; have Y5_8 := Later.trans (w := (w5.alloc (.cells #[.slice z5A0 z5n0 z5c0, .slice z5A1 z5n1 z5c1, .slice z5A2 z5n2 z5c2] 39))) inferInstance L8) | (go_at_call 10; refine (laws_eqTimetable o5.reads inferInstance o8.reads inferInstance).mono ?_; rintro e w9 ⟨rfl, L9⟩; have U9 := Later.trans (w := w) inferInstance L9; have X9 := Later.trans (w := ((w.alloc (.cells #[.slice aTA0 aTn0 aTc0, .slice aTA1 aTn1 aTc1, .slice aTA2 aTn2 aTc2] 28)).alloc (.cells #[.int .i64 daSpan.From, .int .i64 daSpan.To] 30))) inferInstance L9; have V2_9 := Later.trans (w := w2) inferInstance L9; have V5_9 := Later.trans (w := w5) inferInstance L9; have Y5_9 := Later.trans (w := (w5.alloc (.cells #[.slice z5A0 z5n0 z5c0, .slice z5A1 z5n1 z5c1, .slice z5A2 z5n2 z5c2] 39))) inferInstance L9; have V8_9 := Later.trans (w := w8) inferInstance L9))
  go_wp2
  go_ret
  exact ⟨rfl, inferInstance⟩
end Go.Proofs.YtbkeccpjcmhhjaaGreat
