/-
  The statement's call FnExactChangeTime: it returns true, out of what both functions return. Printed by a program of ours (gen_law.py).
-/
import Derived.Test.YteijofkkggifhaaChgS
import Derived.Test.YteijofkkggifhaaChgI
import Derived.Test.YteijofkkggifhaaJh
import Derived.Test.YteijofkkggifhaaHWalk
import Derived.Deep.RegionHeld3
namespace Go.Proofs.Yteijofkkggifhaa
open Go Go.RowKit
set_option linter.unusedVariables false
set_option maxRecDepth 100000
set_option linter.unusedSimpArgs false
set_option maxHeartbeats 4000000 in
theorem w_FnExactChangeTime {w : World} {aTA0 : Option Addr} {aTn0 aTc0 : Nat} {aTA1 : Option Addr} {aTn1 aTc1 : Nat} {aTA2 : Option Addr} {aTn2 aTc2 : Nat} {daT : Timetable} {aListA : Option Addr} {aListn aListc : Nat} {daList : List Walk} {aFrom : Int} {aTo : Int} (h_aT : TimetableAt w aTA0 aTn0 aTc0 aTA1 aTn1 aTc1 aTA2 aTn2 aTc2 daT) (h_aList : Sl 3 rWalk w aListA aListn aListc daList) (i_aFrom : I64 aFrom) (i_aTo : I64 aTo) : Calls Try.prog 3 #[.agg #[.slice aTA0 aTn0 aTc0, .slice aTA1 aTn1 aTc1, .slice aTA2 aTn2 aTc2], .slice aListA aListn aListc, .int .i64 aFrom, .int .i64 aTo] w (Ret (.bool true) w) := by
  have HB0 : ∀ W [Later (w.alloc (.cells #[.slice aTA0 aTn0 aTc0, .slice aTA1 aTn1 aTc1, .slice aTA2 aTn2 aTc2] 28)) W] (j : Nat), W.cell? ⟨w.heap.size, j, none⟩ = #[.slice aTA0 aTn0 aTc0, .slice aTA1 aTn1 aTc1, .slice aTA2 aTn2 aTc2][j]? := Later.boxes (t := 28) (fr := (0, 0)) (heap_new (by simp; try omega))
  have hbb : ∀ a : Bool, (a != a) = false := by simp
  have hii : ∀ a : Int, (a != a) = false := by simp
  go_enter Try.func3, Try.ntmps3
  go_wp2_with fail
  refine (laws_szTimetable h_aT inferInstance (by omega) (by omega)).mono ?_
  rintro e w1 ⟨r1, rfl, hr1, L1⟩
  have U1 := Later.trans (w := w) inferInstance L1
  have X1 := Later.trans (w := (w.alloc (.cells #[.slice aTA0 aTn0 aTc0, .slice aTA1 aTn1 aTc1, .slice aTA2 aTn2 aTc2] 28))) inferInstance L1
  rcases hr1 with hr1 | ⟨hp1, hq1⟩
  · go_wp2
    go_ret
    exact ⟨rfl, inferInstance⟩
  have hb1 : r1 ≤ 1048576 := by omega
  have hq_aT : totTimetable daT ≤ 1048576 := by omega
  clear hq1
  go_wp2_with fail
  refine (laws_szWalkS h_aList hp1 hb1).mono ?_
  rintro e w2 ⟨r2, rfl, hr2, L2⟩
  have U2 := Later.trans (w := w) inferInstance L2
  have X2 := Later.trans (w := (w.alloc (.cells #[.slice aTA0 aTn0 aTc0, .slice aTA1 aTn1 aTc1, .slice aTA2 aTn2 aTc2] 28))) inferInstance L2
  rcases hr2 with hr2 | ⟨hp2, hq2⟩
  · go_wp2
    go_ret
    exact ⟨rfl, inferInstance⟩
  have hb2 : r2 ≤ 1048576 := by omega
  have hq_aList : daList.length ≤ 1048576 := by omega
  clear hq2
  go_wp2_with fail
  refine (laws_toTimetable h_aT inferInstance hq_aT).mono ?_
  rintro e w3 ⟨z3A0, z3n0, z3c0, z3A1, z3n1, z3c1, z3A2, z3n2, z3c2, z3f0, z3f1, z3f2, rfl, o3, nd3, lo3, L3⟩
  have U3 := Later.trans (w := w) inferInstance L3
  have X3 := Later.trans (w := (w.alloc (.cells #[.slice aTA0 aTn0 aTc0, .slice aTA1 aTn1 aTc1, .slice aTA2 aTn2 aTc2] 28))) inferInstance L3
  go_wp2_with fail
  refine (laws_toWalkS h_aList inferInstance (by have := h_aList.len; have := hq_aList; omega)).mono ?_
  rintro e w4 ⟨z4A, z4n, z4c, z4f, rfl, o4, nd4, lo4, L4⟩
  have U4 := Later.trans (w := w) inferInstance L4
  have X4 := Later.trans (w := (w.alloc (.cells #[.slice aTA0 aTn0 aTc0, .slice aTA1 aTn1 aTc1, .slice aTA2 aTn2 aTc2] 28))) inferInstance L4
  have V3_4 := Later.trans (w := w3) inferInstance L4
  go_wp2_with fail
  refine (spec_ChangeTime o3.reads inferInstance o4.reads inferInstance aFrom aTo).mono ?_
  rintro e w5 ⟨rfl, L5⟩
  have U5 := Later.trans (w := w) inferInstance L5
  have X5 := Later.trans (w := (w.alloc (.cells #[.slice aTA0 aTn0 aTc0, .slice aTA1 aTn1 aTc1, .slice aTA2 aTn2 aTc2] 28))) inferInstance L5
  have V3_5 := Later.trans (w := w3) inferInstance L5
  have V4_5 := Later.trans (w := w4) inferInstance L5
  go_wp2_with fail
  refine (laws_toTimetable h_aT inferInstance hq_aT).mono ?_
  rintro e w6 ⟨z6A0, z6n0, z6c0, z6A1, z6n1, z6c1, z6A2, z6n2, z6c2, z6f0, z6f1, z6f2, rfl, o6, nd6, lo6, L6⟩
  have U6 := Later.trans (w := w) inferInstance L6
  have X6 := Later.trans (w := (w.alloc (.cells #[.slice aTA0 aTn0 aTc0, .slice aTA1 aTn1 aTc1, .slice aTA2 aTn2 aTc2] 28))) inferInstance L6
  have V3_6 := Later.trans (w := w3) inferInstance L6
  have V4_6 := Later.trans (w := w4) inferInstance L6
  have HBx6 : ∀ W [Later (w6.alloc (.cells #[.slice z6A0 z6n0 z6c0, .slice z6A1 z6n1 z6c1, .slice z6A2 z6n2 z6c2] 39)) W] (j : Nat), W.cell? ⟨w6.heap.size, j, none⟩ = #[.slice z6A0 z6n0 z6c0, .slice z6A1 z6n1 z6c1, .slice z6A2 z6n2 z6c2][j]? := Later.boxes (t := 39) (fr := (0, 0)) (heap_new rfl)
  go_wp2_with fail
  refine (laws_toWalkS h_aList inferInstance (by have := h_aList.len; have := hq_aList; omega)).mono ?_
  rintro e w7 ⟨z7A, z7n, z7c, z7f, rfl, o7, nd7, lo7, L7⟩
  have U7 := Later.trans (w := w) inferInstance L7
  have X7 := Later.trans (w := (w.alloc (.cells #[.slice aTA0 aTn0 aTc0, .slice aTA1 aTn1 aTc1, .slice aTA2 aTn2 aTc2] 28))) inferInstance L7
  have V3_7 := Later.trans (w := w3) inferInstance L7
  have V4_7 := Later.trans (w := w4) inferInstance L7
  have V6_7 := Later.trans (w := w6) inferInstance L7
  have Y6_7 := Later.trans (w := (w6.alloc (.cells #[.slice z6A0 z6n0 z6c0, .slice z6A1 z6n1 z6c1, .slice z6A2 z6n2 z6c2] 39))) inferInstance L7
  go_wp2_with fail
  refine (impl_ChangeTime o6.reads inferInstance o7.reads inferInstance aFrom aTo).mono ?_
  rintro e w8 ⟨rfl, L8⟩
  have U8 := Later.trans (w := w) inferInstance L8
  have X8 := Later.trans (w := (w.alloc (.cells #[.slice aTA0 aTn0 aTc0, .slice aTA1 aTn1 aTc1, .slice aTA2 aTn2 aTc2] 28))) inferInstance L8
  have V3_8 := Later.trans (w := w3) inferInstance L8
  have V4_8 := Later.trans (w := w4) inferInstance L8
  have V6_8 := Later.trans (w := w6) inferInstance L8
  have Y6_8 := Later.trans (w := (w6.alloc (.cells #[.slice z6A0 z6n0 z6c0, .slice z6A1 z6n1 z6c1, .slice z6A2 z6n2 z6c2] 39))) inferInstance L8
  have V7_8 := Later.trans (w := w7) inferInstance L8
  go_wp2_with fail
  go_region_held3 (fun w' => Later w w' ∧ Later (w.alloc (.cells #[.slice aTA0 aTn0 aTc0, .slice aTA1 aTn1 aTc1, .slice aTA2 aTn2 aTc2] 28)) w' ∧ Later w3 w' ∧ Later w4 w' ∧ Later w6 w' ∧ Later (w6.alloc (.cells #[.slice z6A0 z6n0 z6c0, .slice z6A1 z6n1 z6c1, .slice z6A2 z6n2 z6c2] 39)) w' ∧ Later w7 w') (first | exact ⟨inferInstance, inferInstance, inferInstance, inferInstance, inferInstance, inferInstance, inferInstance⟩) (first | (go_at_call 13; refine (laws_toTimetable h_aT inferInstance hq_aT).mono ?_; rintro e w9 ⟨z9A0, z9n0, z9c0, z9A1, z9n1, z9c1, z9A2, z9n2, z9c2, z9f0, z9f1, z9f2, rfl, o9, nd9, lo9, L9⟩; have U9 := Later.trans (w := w) inferInstance L9; have X9 := Later.trans (w := (w.alloc (.cells #[.slice aTA0 aTn0 aTc0, .slice aTA1 aTn1 aTc1, .slice aTA2 aTn2 aTc2] 28))) inferInstance L9; have V3_9 := Later.trans (w := w3) inferInstance L9; have V4_9 := Later.trans (w := w4) inferInstance L9; have V6_9 := Later.trans (w := w6) inferInstance L9; have Y6_9 := Later.trans (w := (w6.alloc (.cells #[.slice z6A0 z6n0 z6c0, .slice z6A1 z6n1 z6c1, .slice z6A2 z6n2 z6c2] 39))) inferInstance L9; have V7_9 := Later.trans (w := w7) inferInstance L9) | (go_at_call 16; refine (laws_eqTimetable o6.reads inferInstance o9.reads inferInstance).mono ?_; rintro e w10 ⟨rfl, L10⟩; have U10 := Later.trans (w := w) inferInstance L10; have X10 := Later.trans (w := (w.alloc (.cells #[.slice aTA0 aTn0 aTc0, .slice aTA1 aTn1 aTc1, .slice aTA2 aTn2 aTc2] 28))) inferInstance L10; have V3_10 := Later.trans (w := w3) inferInstance L10; have V4_10 := Later.trans (w := w4) inferInstance L10; have V6_10 := Later.trans (w := w6) inferInstance L10; have Y6_10 := Later.trans (w := (w6.alloc (.cells #[.slice z6A0 z6n0 z6c0, .slice z6A1 z6n1 z6c1, .slice z6A2 z6n2 z6c2] 39))) inferInstance L10; have V7_10 := Later.trans (w := w7) inferInstance L10; have V9_10 := Later.trans (w := w9) inferInstance L10))
  go_wp2_with first | (go_at_call 14; refine (laws_toWalkS h_aList inferInstance (by have := h_aList.len; have := hq_aList; omega)).mono ?_; rintro e w11 ⟨z11A, z11n, z11c, z11f, rfl, o11, nd11, lo11, L11⟩; have U11 := Later.trans (w := w) inferInstance L11; have X11 := Later.trans (w := (w.alloc (.cells #[.slice aTA0 aTn0 aTc0, .slice aTA1 aTn1 aTc1, .slice aTA2 aTn2 aTc2] 28))) inferInstance L11; have V3_11 := Later.trans (w := w3) inferInstance L11; have V4_11 := Later.trans (w := w4) inferInstance L11; have V6_11 := Later.trans (w := w6) inferInstance L11; have Y6_11 := Later.trans (w := (w6.alloc (.cells #[.slice z6A0 z6n0 z6c0, .slice z6A1 z6n1 z6c1, .slice z6A2 z6n2 z6c2] 39))) inferInstance L11; have V7_11 := Later.trans (w := w7) inferInstance L11) | (go_at_call 17; refine (laws_eqWalkS o7.reads inferInstance o11.reads inferInstance).mono ?_; rintro e w12 ⟨rfl, L12⟩; have U12 := Later.trans (w := w) inferInstance L12; have X12 := Later.trans (w := (w.alloc (.cells #[.slice aTA0 aTn0 aTc0, .slice aTA1 aTn1 aTc1, .slice aTA2 aTn2 aTc2] 28))) inferInstance L12; have V3_12 := Later.trans (w := w3) inferInstance L12; have V4_12 := Later.trans (w := w4) inferInstance L12; have V6_12 := Later.trans (w := w6) inferInstance L12; have Y6_12 := Later.trans (w := (w6.alloc (.cells #[.slice z6A0 z6n0 z6c0, .slice z6A1 z6n1 z6c1, .slice z6A2 z6n2 z6c2] 39))) inferInstance L12; have V7_12 := Later.trans (w := w7) inferInstance L12; have V11_12 := Later.trans (w := w11) inferInstance L12)
  go_wp2
  go_ret
  exact ⟨rfl, inferInstance⟩
end Go.Proofs.Yteijofkkggifhaa
