/-
  The statement's call FnExactParetoJourneys: it returns true, out of what both functions return. Printed by a program of ours (gen_law.py).
-/
import Derived.Test.YteijofkkggifhaaJe
import Derived.Test.YteijofkkggifhaaJg
import Derived.Test.YteijofkkggifhaaJh
import Derived.Deep.RegionHeld3
namespace Go.Proofs.Yteijofkkggifhaa
open Go Go.RowKit
set_option linter.unusedVariables false
set_option maxRecDepth 100000
set_option linter.unusedSimpArgs false
set_option maxHeartbeats 4000000 in
theorem w_FnExactParetoJourneys {w : World} {aTA0 : Option Addr} {aTn0 aTc0 : Nat} {aTA1 : Option Addr} {aTn1 aTc1 : Nat} {aTA2 : Option Addr} {aTn2 aTc2 : Nat} {daT : Timetable} {aChange : Int} {aFrom : Int} {aTo : Int} {aAt : Int} (h_aT : TimetableAt w aTA0 aTn0 aTc0 aTA1 aTn1 aTc1 aTA2 aTn2 aTc2 daT) (i_aChange : I64 aChange) (i_aFrom : I64 aFrom) (i_aTo : I64 aTo) (i_aAt : I64 aAt) : Calls Try.prog 5 #[.agg #[.slice aTA0 aTn0 aTc0, .slice aTA1 aTn1 aTc1, .slice aTA2 aTn2 aTc2], .int .i64 aChange, .int .i64 aFrom, .int .i64 aTo, .int .i64 aAt] w (Ret (.bool true) w) := by
  have HB0 : ∀ W [Later (w.alloc (.cells #[.slice aTA0 aTn0 aTc0, .slice aTA1 aTn1 aTc1, .slice aTA2 aTn2 aTc2] 28)) W] (j : Nat), W.cell? ⟨w.heap.size, j, none⟩ = #[.slice aTA0 aTn0 aTc0, .slice aTA1 aTn1 aTc1, .slice aTA2 aTn2 aTc2][j]? := Later.boxes (t := 28) (fr := (0, 0)) (heap_new (by simp; try omega))
  have hbb : ∀ a : Bool, (a != a) = false := by simp
  have hii : ∀ a : Int, (a != a) = false := by simp
  go_enter Try.func5, Try.ntmps5
  go_wp2_with fail
  refine (laws_szTimetable h_aT inferInstance (by omega) (by omega)).mono ?_
  rintro e w1 ⟨r1, rfl, hr1, L1⟩
  have U1 := Later.trans (w := w) inferInstance L1
  have X1 := Later.trans (w := (w.alloc (.cells #[.slice aTA0 aTn0 aTc0, .slice aTA1 aTn1 aTc1, .slice aTA2 aTn2 aTc2] 28))) inferInstance L1
  rcases hr1 with hr1 | ⟨hp1, hq1⟩
  · go_wp2
    go_ret
    exact ⟨rfl, inferInstance⟩
  have hb1 : r1 ≤ 1048576 := by omega
  have hq_aT : totTimetable daT ≤ 1048576 := by omega
  clear hq1
  go_wp2_with fail
  refine (laws_toTimetable h_aT inferInstance hq_aT).mono ?_
  rintro e w2 ⟨z2A0, z2n0, z2c0, z2A1, z2n1, z2c1, z2A2, z2n2, z2c2, z2f0, z2f1, z2f2, rfl, o2, nd2, lo2, L2⟩
  have U2 := Later.trans (w := w) inferInstance L2
  have X2 := Later.trans (w := (w.alloc (.cells #[.slice aTA0 aTn0 aTc0, .slice aTA1 aTn1 aTc1, .slice aTA2 aTn2 aTc2] 28))) inferInstance L2
  go_wp2_with fail
  refine (spec_ParetoJourneys o2.reads inferInstance aChange aFrom aTo aAt).mono ?_
  rintro e w3 ⟨z3A, z3n, z3c, z3f, rfl, o3, nd3, lo3, L3⟩
  have U3 := Later.trans (w := w) inferInstance L3
  have X3 := Later.trans (w := (w.alloc (.cells #[.slice aTA0 aTn0 aTc0, .slice aTA1 aTn1 aTc1, .slice aTA2 aTn2 aTc2] 28))) inferInstance L3
  have V2_3 := Later.trans (w := w2) inferInstance L3
  go_wp2_with fail
  refine (laws_toTimetable h_aT inferInstance hq_aT).mono ?_
  rintro e w4 ⟨z4A0, z4n0, z4c0, z4A1, z4n1, z4c1, z4A2, z4n2, z4c2, z4f0, z4f1, z4f2, rfl, o4, nd4, lo4, L4⟩
  have U4 := Later.trans (w := w) inferInstance L4
  have X4 := Later.trans (w := (w.alloc (.cells #[.slice aTA0 aTn0 aTc0, .slice aTA1 aTn1 aTc1, .slice aTA2 aTn2 aTc2] 28))) inferInstance L4
  have V2_4 := Later.trans (w := w2) inferInstance L4
  have V3_4 := Later.trans (w := w3) inferInstance L4
  have HBx4 : ∀ W [Later (w4.alloc (.cells #[.slice z4A0 z4n0 z4c0, .slice z4A1 z4n1 z4c1, .slice z4A2 z4n2 z4c2] 39)) W] (j : Nat), W.cell? ⟨w4.heap.size, j, none⟩ = #[.slice z4A0 z4n0 z4c0, .slice z4A1 z4n1 z4c1, .slice z4A2 z4n2 z4c2][j]? := Later.boxes (t := 39) (fr := (0, 0)) (heap_new rfl)
  go_wp2_with fail
  refine (impl_ParetoJourneys o4.reads inferInstance aChange aFrom aTo aAt).mono ?_
  rintro e w5 ⟨z5A, z5n, z5c, z5f, rfl, o5, nd5, lo5, L5⟩
  have U5 := Later.trans (w := w) inferInstance L5
  have X5 := Later.trans (w := (w.alloc (.cells #[.slice aTA0 aTn0 aTc0, .slice aTA1 aTn1 aTc1, .slice aTA2 aTn2 aTc2] 28))) inferInstance L5
  have V2_5 := Later.trans (w := w2) inferInstance L5
  have V3_5 := Later.trans (w := w3) inferInstance L5
  have V4_5 := Later.trans (w := w4) inferInstance L5
  have Y4_5 := Later.trans (w := (w4.alloc (.cells #[.slice z4A0 z4n0 z4c0, .slice z4A1 z4n1 z4c1, .slice z4A2 z4n2 z4c2] 39))) inferInstance L5
  go_wp2_with fail
  refine (laws_eqLegSS o5.reads inferInstance o3.reads inferInstance).mono ?_
  rintro e w6 ⟨rfl, L6⟩
  have U6 := Later.trans (w := w) inferInstance L6
  have X6 := Later.trans (w := (w.alloc (.cells #[.slice aTA0 aTn0 aTc0, .slice aTA1 aTn1 aTc1, .slice aTA2 aTn2 aTc2] 28))) inferInstance L6
  have V2_6 := Later.trans (w := w2) inferInstance L6
  have V3_6 := Later.trans (w := w3) inferInstance L6
  have V4_6 := Later.trans (w := w4) inferInstance L6
  have Y4_6 := Later.trans (w := (w4.alloc (.cells #[.slice z4A0 z4n0 z4c0, .slice z4A1 z4n1 z4c1, .slice z4A2 z4n2 z4c2] 39))) inferInstance L6
  have V5_6 := Later.trans (w := w5) inferInstance L6
  go_wp2_with fail
  go_region_held3 (fun w' => Later w w' ∧ Later (w.alloc (.cells #[.slice aTA0 aTn0 aTc0, .slice aTA1 aTn1 aTc1, .slice aTA2 aTn2 aTc2] 28)) w' ∧ Later w2 w' ∧ Later w3 w' ∧ Later w4 w' ∧ Later (w4.alloc (.cells #[.slice z4A0 z4n0 z4c0, .slice z4A1 z4n1 z4c1, .slice z4A2 z4n2 z4c2] 39)) w' ∧ Later w5 w') (first | exact ⟨inferInstance, inferInstance, inferInstance, inferInstance, inferInstance, inferInstance, inferInstance⟩) (first | (go_at_call 13; refine (laws_toTimetable h_aT inferInstance hq_aT).mono ?_; rintro e w7 ⟨z7A0, z7n0, z7c0, z7A1, z7n1, z7c1, z7A2, z7n2, z7c2, z7f0, z7f1, z7f2, rfl, o7, nd7, lo7, L7⟩; have U7 := Later.trans (w := w) inferInstance L7; have X7 := Later.trans (w := (w.alloc (.cells #[.slice aTA0 aTn0 aTc0, .slice aTA1 aTn1 aTc1, .slice aTA2 aTn2 aTc2] 28))) inferInstance L7; have V2_7 := Later.trans (w := w2) inferInstance L7; have V3_7 := Later.trans (w := w3) inferInstance L7; have V4_7 := Later.trans (w := w4) inferInstance L7; have Y4_7 := Later.trans (w := (w4.alloc (.cells #[.slice z4A0 z4n0 z4c0, .slice z4A1 z4n1 z4c1, .slice z4A2 z4n2 z4c2] 39))) inferInstance L7; have V5_7 := Later.trans (w := w5) inferInstance L7) | (go_at_call 16; refine (laws_eqTimetable o4.reads inferInstance o7.reads inferInstance).mono ?_; rintro e w8 ⟨rfl, L8⟩; have U8 := Later.trans (w := w) inferInstance L8; have X8 := Later.trans (w := (w.alloc (.cells #[.slice aTA0 aTn0 aTc0, .slice aTA1 aTn1 aTc1, .slice aTA2 aTn2 aTc2] 28))) inferInstance L8; have V2_8 := Later.trans (w := w2) inferInstance L8; have V3_8 := Later.trans (w := w3) inferInstance L8; have V4_8 := Later.trans (w := w4) inferInstance L8; have Y4_8 := Later.trans (w := (w4.alloc (.cells #[.slice z4A0 z4n0 z4c0, .slice z4A1 z4n1 z4c1, .slice z4A2 z4n2 z4c2] 39))) inferInstance L8; have V5_8 := Later.trans (w := w5) inferInstance L8; have V7_8 := Later.trans (w := w7) inferInstance L8))
  go_wp2_with fail
  have hcb9 := cntTimetable_le daT
  refine (laws_markTimetable (o4.later inferInstance) nd4 (by omega) (by have hqq := hq_aT; have hcl := cntTimetable_le daT; omega)).mono ?_
  rintro e w9 ⟨rfl, T9, p9⟩
  have U9 := T9.later (inferInstance : Later w _) (fun g hg => Nat.le_trans (Later.size (w := w) inferInstance) (lo4 g hg))
  have X9 := T9.later (inferInstance : Later (w.alloc (.cells #[.slice aTA0 aTn0 aTc0, .slice aTA1 aTn1 aTc1, .slice aTA2 aTn2 aTc2] 28)) _) (fun g hg => Nat.le_trans (Later.size (w := (w.alloc (.cells #[.slice aTA0 aTn0 aTc0, .slice aTA1 aTn1 aTc1, .slice aTA2 aTn2 aTc2] 28))) inferInstance) (lo4 g hg))
  have V2_9 := T9.later (inferInstance : Later w2 _) (fun g hg => Nat.le_trans (Later.size (w := w2) inferInstance) (lo4 g hg))
  have V3_9 := T9.later (inferInstance : Later w3 _) (fun g hg => Nat.le_trans (Later.size (w := w3) inferInstance) (lo4 g hg))
  have p9_5 := (o5.later (inferInstance : Later w5 _)).touch T9 (fun b hb hx => absurd (o4.lt b hx) (Nat.not_lt.2 (Nat.le_trans (Later.size (w := w4) inferInstance) (lo5 b hb))))
  have hk9 : ¬ ((1 + (cntTimetable daT : Int)) < 0) := by omega
  go_wp2_with fail
  refine (laws_eqLegSS p9_5.reads inferInstance o3.reads inferInstance).mono ?_
  rintro e w10 ⟨rfl, L10⟩
  have U10 := Later.trans (w := w) inferInstance L10
  have X10 := Later.trans (w := (w.alloc (.cells #[.slice aTA0 aTn0 aTc0, .slice aTA1 aTn1 aTc1, .slice aTA2 aTn2 aTc2] 28))) inferInstance L10
  have V2_10 := Later.trans (w := w2) inferInstance L10
  have V3_10 := Later.trans (w := w3) inferInstance L10
  have P9_10 := Later.trans (w := w9) inferInstance L10
  go_wp2_with fail
  refine (laws_markLegSS (p9_5.later inferInstance) nd5 (by omega) (by have hqq := parRes_bd daT aChange aFrom aTo aAt; have hql := o5.len; first | omega | ((try simp only [totNetwork, cntNetwork, totTimetable, cntTimetable] at hqq); (try simp only [totNetwork, cntNetwork, totTimetable, cntTimetable]); omega))).mono ?_
  rintro e w11 ⟨rfl, T11, p11⟩
  have U11 := T11.later (inferInstance : Later w _) (fun g hg => Nat.le_trans (Later.size (w := w) inferInstance) (lo5 g hg))
  have X11 := T11.later (inferInstance : Later (w.alloc (.cells #[.slice aTA0 aTn0 aTc0, .slice aTA1 aTn1 aTc1, .slice aTA2 aTn2 aTc2] 28)) _) (fun g hg => Nat.le_trans (Later.size (w := (w.alloc (.cells #[.slice aTA0 aTn0 aTc0, .slice aTA1 aTn1 aTc1, .slice aTA2 aTn2 aTc2] 28))) inferInstance) (lo5 g hg))
  have V2_11 := T11.later (inferInstance : Later w2 _) (fun g hg => Nat.le_trans (Later.size (w := w2) inferInstance) (lo5 g hg))
  have V3_11 := T11.later (inferInstance : Later w3 _) (fun g hg => Nat.le_trans (Later.size (w := w3) inferInstance) (lo5 g hg))
  have hk11 : ¬ ((1 + (sumLegs (parRes daT aChange aFrom aTo aAt).1 : Int)) < 0) := by omega
  go_wp2_with fail
  refine (laws_heldLegSS p11.reads inferInstance (by omega) (by have hqq := parRes_bd daT aChange aFrom aTo aAt; have hql := o5.len; first | omega | ((try simp only [totNetwork, cntNetwork, totTimetable, cntTimetable] at hqq); (try simp only [totNetwork, cntNetwork, totTimetable, cntTimetable]); omega))).mono ?_
  rintro e w12 ⟨rfl, L12⟩
  have U12 := Later.trans (w := w) inferInstance L12
  have X12 := Later.trans (w := (w.alloc (.cells #[.slice aTA0 aTn0 aTc0, .slice aTA1 aTn1 aTc1, .slice aTA2 aTn2 aTc2] 28))) inferInstance L12
  have V2_12 := Later.trans (w := w2) inferInstance L12
  have V3_12 := Later.trans (w := w3) inferInstance L12
  have P11_12 := Later.trans (w := w11) inferInstance L12
  go_wp2_with fail
  refine (laws_toTimetable h_aT inferInstance hq_aT).mono ?_
  rintro e w13 ⟨z13A0, z13n0, z13c0, z13A1, z13n1, z13c1, z13A2, z13n2, z13c2, z13f0, z13f1, z13f2, rfl, o13, nd13, lo13, L13⟩
  have U13 := Later.trans (w := w) inferInstance L13
  have X13 := Later.trans (w := (w.alloc (.cells #[.slice aTA0 aTn0 aTc0, .slice aTA1 aTn1 aTc1, .slice aTA2 aTn2 aTc2] 28))) inferInstance L13
  have V2_13 := Later.trans (w := w2) inferInstance L13
  have V3_13 := Later.trans (w := w3) inferInstance L13
  have P11_13 := Later.trans (w := w11) inferInstance L13
  go_wp2_with fail
  refine (impl_ParetoJourneys o13.reads inferInstance aChange aFrom aTo aAt).mono ?_
  rintro e w14 ⟨z14A, z14n, z14c, z14f, rfl, o14, nd14, lo14, L14⟩
  have U14 := Later.trans (w := w) inferInstance L14
  have X14 := Later.trans (w := (w.alloc (.cells #[.slice aTA0 aTn0 aTc0, .slice aTA1 aTn1 aTc1, .slice aTA2 aTn2 aTc2] 28))) inferInstance L14
  have V2_14 := Later.trans (w := w2) inferInstance L14
  have V3_14 := Later.trans (w := w3) inferInstance L14
  have P11_14 := Later.trans (w := w11) inferInstance L14
  have V13_14 := Later.trans (w := w13) inferInstance L14
  go_wp2_with fail
  refine (laws_eqLegSS o14.reads inferInstance o3.reads inferInstance).mono ?_
  rintro e w15 ⟨rfl, L15⟩
  have U15 := Later.trans (w := w) inferInstance L15
  have X15 := Later.trans (w := (w.alloc (.cells #[.slice aTA0 aTn0 aTc0, .slice aTA1 aTn1 aTc1, .slice aTA2 aTn2 aTc2] 28))) inferInstance L15
  have V2_15 := Later.trans (w := w2) inferInstance L15
  have V3_15 := Later.trans (w := w3) inferInstance L15
  have P11_15 := Later.trans (w := w11) inferInstance L15
  have V13_15 := Later.trans (w := w13) inferInstance L15
  have V14_15 := Later.trans (w := w14) inferInstance L15
  go_wp2_with fail
  refine (laws_heldLegSS p11.reads inferInstance (by omega) (by have hqq := parRes_bd daT aChange aFrom aTo aAt; have hql := o5.len; first | omega | ((try simp only [totNetwork, cntNetwork, totTimetable, cntTimetable] at hqq); (try simp only [totNetwork, cntNetwork, totTimetable, cntTimetable]); omega))).mono ?_
  rintro e w16 ⟨rfl, L16⟩
  have U16 := Later.trans (w := w) inferInstance L16
  have X16 := Later.trans (w := (w.alloc (.cells #[.slice aTA0 aTn0 aTc0, .slice aTA1 aTn1 aTc1, .slice aTA2 aTn2 aTc2] 28))) inferInstance L16
  have V2_16 := Later.trans (w := w2) inferInstance L16
  have V3_16 := Later.trans (w := w3) inferInstance L16
  have P11_16 := Later.trans (w := w11) inferInstance L16
  have V13_16 := Later.trans (w := w13) inferInstance L16
  have V14_16 := Later.trans (w := w14) inferInstance L16
  go_wp2
  go_ret
  exact ⟨rfl, inferInstance⟩
end Go.Proofs.Yteijofkkggifhaa
