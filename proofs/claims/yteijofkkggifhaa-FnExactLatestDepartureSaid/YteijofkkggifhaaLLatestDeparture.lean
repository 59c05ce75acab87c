/-
  The statement's call FnExactLatestDeparture: it returns true, out of what both functions return. Printed by a program of ours (gen_law.py).
-/
import Derived.Test.YteijofkkggifhaaLatI
import Derived.Test.YteijofkkggifhaaJh
import Derived.Deep.RegionHeld3
namespace Go.Proofs.Yteijofkkggifhaa
open Go Go.RowKit
set_option linter.unusedVariables false
set_option maxRecDepth 100000
set_option linter.unusedSimpArgs false
set_option maxHeartbeats 4000000 in
theorem w_FnExactLatestDeparture {w : World} {aTA0 : Option Addr} {aTn0 aTc0 : Nat} {aTA1 : Option Addr} {aTn1 aTc1 : Nat} {aTA2 : Option Addr} {aTn2 aTc2 : Nat} {daT : Timetable} {aChange : Int} {aFrom : Int} {aTo : Int} {aBy : Int} (h_aT : TimetableAt w aTA0 aTn0 aTc0 aTA1 aTn1 aTc1 aTA2 aTn2 aTc2 daT) (i_aChange : I64 aChange) (i_aFrom : I64 aFrom) (i_aTo : I64 aTo) (i_aBy : I64 aBy) : Calls Try.prog 9 #[.agg #[.slice aTA0 aTn0 aTc0, .slice aTA1 aTn1 aTc1, .slice aTA2 aTn2 aTc2], .int .i64 aChange, .int .i64 aFrom, .int .i64 aTo, .int .i64 aBy] w (Ret (.bool true) w) := by
  have HB0 : ∀ W [Later (w.alloc (.cells #[.slice aTA0 aTn0 aTc0, .slice aTA1 aTn1 aTc1, .slice aTA2 aTn2 aTc2] 28)) W] (j : Nat), W.cell? ⟨w.heap.size, j, none⟩ = #[.slice aTA0 aTn0 aTc0, .slice aTA1 aTn1 aTc1, .slice aTA2 aTn2 aTc2][j]? := Later.boxes (t := 28) (fr := (0, 0)) (heap_new (by simp; try omega))
  have hbb : ∀ a : Bool, (a != a) = false := by simp
  have hii : ∀ a : Int, (a != a) = false := by simp
  go_enter Try.func9, Try.ntmps9
  go_wp2_with fail
  refine (laws_szTimetable h_aT inferInstance (by omega) (by omega)).mono ?_
  rintro e w1 ⟨r1, rfl, hr1, L1⟩
  have U1 := Later.trans (w := w) inferInstance L1
  have X1 := Later.trans (w := (w.alloc (.cells #[.slice aTA0 aTn0 aTc0, .slice aTA1 aTn1 aTc1, .slice aTA2 aTn2 aTc2] 28))) inferInstance L1
  rcases hr1 with hr1 | ⟨hp1, hq1⟩
  · go_wp2
    go_ret
    exact ⟨rfl, inferInstance⟩
  have hb1 : r1 ≤ 1048576 := by omega
  have hq_aT : totTimetable daT ≤ 1048576 := by omega
  clear hq1
  go_wp2_with fail
  refine (laws_toTimetable h_aT inferInstance hq_aT).mono ?_
  rintro e w2 ⟨z2A0, z2n0, z2c0, z2A1, z2n1, z2c1, z2A2, z2n2, z2c2, z2f0, z2f1, z2f2, rfl, o2, nd2, lo2, L2⟩
  have U2 := Later.trans (w := w) inferInstance L2
  have X2 := Later.trans (w := (w.alloc (.cells #[.slice aTA0 aTn0 aTc0, .slice aTA1 aTn1 aTc1, .slice aTA2 aTn2 aTc2] 28))) inferInstance L2
  go_wp2_with fail
  refine (spec_LatestDeparture o2.reads inferInstance aChange aFrom aTo aBy).mono ?_
  rintro e w3 ⟨rfl, L3⟩
  have U3 := Later.trans (w := w) inferInstance L3
  have X3 := Later.trans (w := (w.alloc (.cells #[.slice aTA0 aTn0 aTc0, .slice aTA1 aTn1 aTc1, .slice aTA2 aTn2 aTc2] 28))) inferInstance L3
  have V2_3 := Later.trans (w := w2) inferInstance L3
  go_wp2_with fail
  refine (laws_toTimetable h_aT inferInstance hq_aT).mono ?_
  rintro e w4 ⟨z4A0, z4n0, z4c0, z4A1, z4n1, z4c1, z4A2, z4n2, z4c2, z4f0, z4f1, z4f2, rfl, o4, nd4, lo4, L4⟩
  have U4 := Later.trans (w := w) inferInstance L4
  have X4 := Later.trans (w := (w.alloc (.cells #[.slice aTA0 aTn0 aTc0, .slice aTA1 aTn1 aTc1, .slice aTA2 aTn2 aTc2] 28))) inferInstance L4
  have V2_4 := Later.trans (w := w2) inferInstance L4
  have HBx4 : ∀ W [Later (w4.alloc (.cells #[.slice z4A0 z4n0 z4c0, .slice z4A1 z4n1 z4c1, .slice z4A2 z4n2 z4c2] 39)) W] (j : Nat), W.cell? ⟨w4.heap.size, j, none⟩ = #[.slice z4A0 z4n0 z4c0, .slice z4A1 z4n1 z4c1, .slice z4A2 z4n2 z4c2][j]? := Later.boxes (t := 39) (fr := (0, 0)) (heap_new rfl)
  go_wp2_with fail
  refine (impl_LatestDeparture o4.reads inferInstance aChange aFrom aTo aBy).mono ?_
  rintro e w5 ⟨rfl, L5⟩
  have U5 := Later.trans (w := w) inferInstance L5
  have X5 := Later.trans (w := (w.alloc (.cells #[.slice aTA0 aTn0 aTc0, .slice aTA1 aTn1 aTc1, .slice aTA2 aTn2 aTc2] 28))) inferInstance L5
  have V2_5 := Later.trans (w := w2) inferInstance L5
  have V4_5 := Later.trans (w := w4) inferInstance L5
  have Y4_5 := Later.trans (w := (w4.alloc (.cells #[.slice z4A0 z4n0 z4c0, .slice z4A1 z4n1 z4c1, .slice z4A2 z4n2 z4c2] 39))) inferInstance L5
  go_wp2_with fail
  go_region_held3 (fun w' => Later w w' ∧ Later (w.alloc (.cells #[.slice aTA0 aTn0 aTc0, .slice aTA1 aTn1 aTc1, .slice aTA2 aTn2 aTc2] 28)) w' ∧ Later w2 w' ∧ Later w4 w' ∧ Later (w4.alloc (.cells #[.slice z4A0 z4n0 z4c0, .slice z4A1 z4n1 z4c1, .slice z4A2 z4n2 z4c2] 39)) w') (first | exact ⟨inferInstance, inferInstance, inferInstance, inferInstance, inferInstance⟩) (first | (go_at_call 13; refine (laws_toTimetable h_aT inferInstance hq_aT).mono ?_; rintro e w6 ⟨z6A0, z6n0, z6c0, z6A1, z6n1, z6c1, z6A2, z6n2, z6c2, z6f0, z6f1, z6f2, rfl, o6, nd6, lo6, L6⟩; have U6 := Later.trans (w := w) inferInstance L6; have X6 := Later.trans (w := (w.alloc (.cells #[.slice aTA0 aTn0 aTc0, .slice aTA1 aTn1 aTc1, .slice aTA2 aTn2 aTc2] 28))) inferInstance L6; have V2_6 := Later.trans (w := w2) inferInstance L6; have V4_6 := Later.trans (w := w4) inferInstance L6; have Y4_6 := Later.trans (w := (w4.alloc (.cells #[.slice z4A0 z4n0 z4c0, .slice z4A1 z4n1 z4c1, .slice z4A2 z4n2 z4c2] 39))) inferInstance L6) | (go_at_call 16; refine (laws_eqTimetable o4.reads inferInstance o6.reads inferInstance).mono ?_; rintro e w7 ⟨rfl, L7⟩; have U7 := Later.trans (w := w) inferInstance L7; have X7 := Later.trans (w := (w.alloc (.cells #[.slice aTA0 aTn0 aTc0, .slice aTA1 aTn1 aTc1, .slice aTA2 aTn2 aTc2] 28))) inferInstance L7; have V2_7 := Later.trans (w := w2) inferInstance L7; have V4_7 := Later.trans (w := w4) inferInstance L7; have Y4_7 := Later.trans (w := (w4.alloc (.cells #[.slice z4A0 z4n0 z4c0, .slice z4A1 z4n1 z4c1, .slice z4A2 z4n2 z4c2] 39))) inferInstance L7; have V6_7 := Later.trans (w := w6) inferInstance L7))
  go_wp2
  go_ret
  exact ⟨rfl, inferInstance⟩
end Go.Proofs.Yteijofkkggifhaa
