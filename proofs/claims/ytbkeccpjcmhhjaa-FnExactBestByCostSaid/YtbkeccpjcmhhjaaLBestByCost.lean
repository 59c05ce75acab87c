/-
  The statement's call FnExactBestByCost: it returns true, out of what both functions return. Printed by a program of ours (gen_law.py).
-/
import Derived.Test.YtbkeccpjcmhhjaaJp
import Derived.Test.YtbkeccpjcmhhjaaJh
import Derived.Deep.RegionHeld3
namespace Go.Proofs.Ytbkeccpjcmhhjaa
open Go Go.RowKit
set_option linter.unusedVariables false
set_option maxRecDepth 100000
set_option linter.unusedSimpArgs false
set_option maxHeartbeats 4000000 in
theorem w_FnExactBestByCost {w : World} {aTA0 : Option Addr} {aTn0 aTc0 : Nat} {aTA1 : Option Addr} {aTn1 aTc1 : Nat} {aTA2 : Option Addr} {aTn2 aTc2 : Nat} {daT : Timetable} {aChange : Int} {aFrom : Int} {aTo : Int} {aAt : Int} {aPerLeg : Int} (h_aT : TimetableAt w aTA0 aTn0 aTc0 aTA1 aTn1 aTc1 aTA2 aTn2 aTc2 daT) (i_aChange : I64 aChange) (i_aFrom : I64 aFrom) (i_aTo : I64 aTo) (i_aAt : I64 aAt) (i_aPerLeg : I64 aPerLeg) : Calls Try.prog 17 #[.agg #[.slice aTA0 aTn0 aTc0, .slice aTA1 aTn1 aTc1, .slice aTA2 aTn2 aTc2], .int .i64 aChange, .int .i64 aFrom, .int .i64 aTo, .int .i64 aAt, .int .i64 aPerLeg] w (Ret (.bool true) w) := by
  have HB0 : ∀ W [Later (w.alloc (.cells #[.slice aTA0 aTn0 aTc0, .slice aTA1 aTn1 aTc1, .slice aTA2 aTn2 aTc2] 59)) W] (j : Nat), W.cell? ⟨w.heap.size, j, none⟩ = #[.slice aTA0 aTn0 aTc0, .slice aTA1 aTn1 aTc1, .slice aTA2 aTn2 aTc2][j]? := Later.boxes (t := 59) (fr := (0, 0)) (heap_new (by simp; try omega))
  have hbb : ∀ a : Bool, (a != a) = false := by simp
  have hii : ∀ a : Int, (a != a) = false := by simp
  go_enter Try.func17, Try.ntmps17
  go_wp2_with fail
  refine (laws_szTimetable h_aT inferInstance (by omega) (by omega)).mono ?_
  rintro e w1 ⟨r1, rfl, hr1, L1⟩
  have U1 := Later.trans (w := w) inferInstance L1
  have X1 := Later.trans (w := (w.alloc (.cells #[.slice aTA0 aTn0 aTc0, .slice aTA1 aTn1 aTc1, .slice aTA2 aTn2 aTc2] 59))) inferInstance L1
  rcases hr1 with hr1 | ⟨hp1, hq1⟩
  · go_wp2
    go_ret
    exact ⟨rfl, inferInstance⟩
  have hb1 : r1 ≤ 1048576 := by omega
  have hq_aT : totTimetable daT ≤ 1048576 := by omega
  clear hq1
  go_wp2_with fail
  refine (laws_toTimetable h_aT inferInstance hq_aT).mono ?_
  rintro e w2 ⟨z2A0, z2n0, z2c0, z2A1, z2n1, z2c1, z2A2, z2n2, z2c2, z2f0, z2f1, z2f2, rfl, o2, nd2, lo2, L2⟩
  have U2 := Later.trans (w := w) inferInstance L2
  have X2 := Later.trans (w := (w.alloc (.cells #[.slice aTA0 aTn0 aTc0, .slice aTA1 aTn1 aTc1, .slice aTA2 aTn2 aTc2] 59))) inferInstance L2
  go_wp2_with fail
  refine (spec_BestByCost o2.reads inferInstance aChange aFrom aTo aAt aPerLeg).mono ?_
  rintro e w3 ⟨rfl, L3⟩
  have U3 := Later.trans (w := w) inferInstance L3
  have X3 := Later.trans (w := (w.alloc (.cells #[.slice aTA0 aTn0 aTc0, .slice aTA1 aTn1 aTc1, .slice aTA2 aTn2 aTc2] 59))) inferInstance L3
  have V2_3 := Later.trans (w := w2) inferInstance L3
  have HBx3 : ∀ W [Later (w3.alloc (.cells #[.int .i64 (costRes daT aChange aFrom aTo aAt aPerLeg).1.Depart, .int .i64 (costRes daT aChange aFrom aTo aAt aPerLeg).1.Arrive, .int .i64 (costRes daT aChange aFrom aTo aAt aPerLeg).1.Legs] 120)) W] (j : Nat), W.cell? ⟨w3.heap.size, j, none⟩ = #[.int .i64 (costRes daT aChange aFrom aTo aAt aPerLeg).1.Depart, .int .i64 (costRes daT aChange aFrom aTo aAt aPerLeg).1.Arrive, .int .i64 (costRes daT aChange aFrom aTo aAt aPerLeg).1.Legs][j]? := Later.boxes (t := 120) (fr := (0, 0)) (heap_new rfl)
  go_wp2_with fail
  refine (laws_toTimetable h_aT inferInstance hq_aT).mono ?_
  rintro e w4 ⟨z4A0, z4n0, z4c0, z4A1, z4n1, z4c1, z4A2, z4n2, z4c2, z4f0, z4f1, z4f2, rfl, o4, nd4, lo4, L4⟩
  have U4 := Later.trans (w := w) inferInstance L4
  have X4 := Later.trans (w := (w.alloc (.cells #[.slice aTA0 aTn0 aTc0, .slice aTA1 aTn1 aTc1, .slice aTA2 aTn2 aTc2] 59))) inferInstance L4
  have V2_4 := Later.trans (w := w2) inferInstance L4
  have Y3_4 := Later.trans (w := (w3.alloc (.cells #[.int .i64 (costRes daT aChange aFrom aTo aAt aPerLeg).1.Depart, .int .i64 (costRes daT aChange aFrom aTo aAt aPerLeg).1.Arrive, .int .i64 (costRes daT aChange aFrom aTo aAt aPerLeg).1.Legs] 120))) inferInstance L4
  have HBx4 : ∀ W [Later (w4.alloc (.cells #[.slice z4A0 z4n0 z4c0, .slice z4A1 z4n1 z4c1, .slice z4A2 z4n2 z4c2] 67)) W] (j : Nat), W.cell? ⟨w4.heap.size, j, none⟩ = #[.slice z4A0 z4n0 z4c0, .slice z4A1 z4n1 z4c1, .slice z4A2 z4n2 z4c2][j]? := Later.boxes (t := 67) (fr := (0, 0)) (heap_new rfl)
  go_wp2_with fail
  refine (impl_BestByCost o4.reads inferInstance aChange aFrom aTo aAt aPerLeg).mono ?_
  rintro e w5 ⟨rfl, L5⟩
  have U5 := Later.trans (w := w) inferInstance L5
  have X5 := Later.trans (w := (w.alloc (.cells #[.slice aTA0 aTn0 aTc0, .slice aTA1 aTn1 aTc1, .slice aTA2 aTn2 aTc2] 59))) inferInstance L5
  have V2_5 := Later.trans (w := w2) inferInstance L5
  have Y3_5 := Later.trans (w := (w3.alloc (.cells #[.int .i64 (costRes daT aChange aFrom aTo aAt aPerLeg).1.Depart, .int .i64 (costRes daT aChange aFrom aTo aAt aPerLeg).1.Arrive, .int .i64 (costRes daT aChange aFrom aTo aAt aPerLeg).1.Legs] 120))) inferInstance L5
  have V4_5 := Later.trans (w := w4) inferInstance L5
  have Y4_5 := Later.trans (w := (w4.alloc (.cells #[.slice z4A0 z4n0 z4c0, .slice z4A1 z4n1 z4c1, .slice z4A2 z4n2 z4c2] 67))) inferInstance L5
  have HBx5 : ∀ W [Later (w5.alloc (.cells #[.int .i64 (costRes daT aChange aFrom aTo aAt aPerLeg).1.Depart, .int .i64 (costRes daT aChange aFrom aTo aAt aPerLeg).1.Arrive, .int .i64 (costRes daT aChange aFrom aTo aAt aPerLeg).1.Legs] 120)) W] (j : Nat), W.cell? ⟨w5.heap.size, j, none⟩ = #[.int .i64 (costRes daT aChange aFrom aTo aAt aPerLeg).1.Depart, .int .i64 (costRes daT aChange aFrom aTo aAt aPerLeg).1.Arrive, .int .i64 (costRes daT aChange aFrom aTo aAt aPerLeg).1.Legs][j]? := Later.boxes (t := 120) (fr := (0, 0)) (heap_new rfl)
  go_wp2_with fail
  refine (laws_eqChoice _ _ _).mono ?_
  rintro e w6 ⟨rfl, L6⟩
  have U6 := Later.trans (w := w) inferInstance L6
  have X6 := Later.trans (w := (w.alloc (.cells #[.slice aTA0 aTn0 aTc0, .slice aTA1 aTn1 aTc1, .slice aTA2 aTn2 aTc2] 59))) inferInstance L6
  have V2_6 := Later.trans (w := w2) inferInstance L6
  have Y3_6 := Later.trans (w := (w3.alloc (.cells #[.int .i64 (costRes daT aChange aFrom aTo aAt aPerLeg).1.Depart, .int .i64 (costRes daT aChange aFrom aTo aAt aPerLeg).1.Arrive, .int .i64 (costRes daT aChange aFrom aTo aAt aPerLeg).1.Legs] 120))) inferInstance L6
  have V4_6 := Later.trans (w := w4) inferInstance L6
  have Y4_6 := Later.trans (w := (w4.alloc (.cells #[.slice z4A0 z4n0 z4c0, .slice z4A1 z4n1 z4c1, .slice z4A2 z4n2 z4c2] 67))) inferInstance L6
  have Y5_6 := Later.trans (w := (w5.alloc (.cells #[.int .i64 (costRes daT aChange aFrom aTo aAt aPerLeg).1.Depart, .int .i64 (costRes daT aChange aFrom aTo aAt aPerLeg).1.Arrive, .int .i64 (costRes daT aChange aFrom aTo aAt aPerLeg).1.Legs] 120))) inferInstance L6
  go_wp2_with fail
  go_region_held3 (fun w' => Later w w' ∧ Later (w.alloc (.cells #[.slice aTA0 aTn0 aTc0, .slice aTA1 aTn1 aTc1, .slice aTA2 aTn2 aTc2] 59)) w' ∧ Later w2 w' ∧ Later (w3.alloc (.cells #[.int .i64 (costRes daT aChange aFrom aTo aAt aPerLeg).1.Depart, .int .i64 (costRes daT aChange aFrom aTo aAt aPerLeg).1.Arrive, .int .i64 (costRes daT aChange aFrom aTo aAt aPerLeg).1.Legs] 120)) w' ∧ Later w4 w' ∧ Later (w4.alloc (.cells #[.slice z4A0 z4n0 z4c0, .slice z4A1 z4n1 z4c1, .slice z4A2 z4n2 z4c2] 67)) w' ∧ Later (w5.alloc (.cells #[.int .i64 (costRes daT aChange aFrom aTo aAt aPerLeg).1.Depart, .int .i64 (costRes daT aChange aFrom aTo aAt aPerLeg).1.Arrive, .int .i64 (costRes daT aChange aFrom aTo aAt aPerLeg).1.Legs] 120)) w') (first | exact ⟨inferInstance, inferInstance, inferInstance, inferInstance, inferInstance, inferInstance, inferInstance⟩) (first | (go_at_call 36; refine (laws_toTimetable h_aT inferInstance hq_aT).mono ?_; rintro e w7 ⟨z7A0, z7n0, z7c0, z7A1, z7n1, z7c1, z7A2, z7n2, z7c2, z7f0, z7f1, z7f2, rfl, o7, nd7, lo7, L7⟩; have U7 := Later.trans (w := w) inferInstance L7; have X7 := Later.trans (w := (w.alloc (.cells #[.slice aTA0 aTn0 aTc0, .slice aTA1 aTn1 aTc1, .slice aTA2 aTn2 aTc2] 59))) inferInstance L7; have V2_7 := Later.trans (w := w2) inferInstance L7; have Y3_7 := Later.trans (w := (w3.alloc (.cells #[.int .i64 (costRes daT aChange aFrom aTo aAt aPerLeg).1.Depart, .int .i64 (costRes daT aChange aFrom aTo aAt aPerLeg).1.Arrive, .int .i64 (costRes daT aChange aFrom aTo aAt aPerLeg).1.Legs] 120))) inferInstance L7; have V4_7 := Later.trans (w := w4) inferInstance L7; have Y4_7 := Later.trans (w := (w4.alloc (.cells #[.slice z4A0 z4n0 z4c0, .slice z4A1 z4n1 z4c1, .slice z4A2 z4n2 z4c2] 67))) inferInstance L7; have Y5_7 := Later.trans (w := (w5.alloc (.cells #[.int .i64 (costRes daT aChange aFrom aTo aAt aPerLeg).1.Depart, .int .i64 (costRes daT aChange aFrom aTo aAt aPerLeg).1.Arrive, .int .i64 (costRes daT aChange aFrom aTo aAt aPerLeg).1.Legs] 120))) inferInstance L7) | (go_at_call 39; refine (laws_eqTimetable o4.reads inferInstance o7.reads inferInstance).mono ?_; rintro e w8 ⟨rfl, L8⟩; have U8 := Later.trans (w := w) inferInstance L8; have X8 := Later.trans (w := (w.alloc (.cells #[.slice aTA0 aTn0 aTc0, .slice aTA1 aTn1 aTc1, .slice aTA2 aTn2 aTc2] 59))) inferInstance L8; have V2_8 := Later.trans (w := w2) inferInstance L8; have Y3_8 := Later.trans (w := (w3.alloc (.cells #[.int .i64 (costRes daT aChange aFrom aTo aAt aPerLeg).1.Depart, .int .i64 (costRes daT aChange aFrom aTo aAt aPerLeg).1.Arrive, .int .i64 (costRes daT aChange aFrom aTo aAt aPerLeg).1.Legs] 120))) inferInstance L8; have V4_8 := Later.trans (w := w4) inferInstance L8; have Y4_8 := Later.trans (w := (w4.alloc (.cells #[.slice z4A0 z4n0 z4c0, .slice z4A1 z4n1 z4c1, .slice z4A2 z4n2 z4c2] 67))) inferInstance L8; have Y5_8 := Later.trans (w := (w5.alloc (.cells #[.int .i64 (costRes daT aChange aFrom aTo aAt aPerLeg).1.Depart, .int .i64 (costRes daT aChange aFrom aTo aAt aPerLeg).1.Arrive, .int .i64 (costRes daT aChange aFrom aTo aAt aPerLeg).1.Legs] 120))) inferInstance L8; have V7_8 := Later.trans (w := w7) inferInstance L8))
  go_wp2
  go_ret
  exact ⟨rfl, inferInstance⟩
end Go.Proofs.Ytbkeccpjcmhhjaa
