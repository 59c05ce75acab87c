/-
  The statement's call FnExactKeepsRules: it returns true, out of what both functions return. Printed by a program of ours (gen_law.py).
-/
import Derived.Test.YthoappgpkelakaaRostF
import Derived.Deep.RegionHeld3
namespace Go.Proofs.Ythoappgpkelakaa
open Go Go.RowKit
set_option linter.unusedVariables false
set_option maxHeartbeats 1000000 in
theorem w_FnExactKeepsRules {w : World} {aRA0 : Option Addr} {aRn0 aRc0 : Nat} {aRA1 : Option Addr} {aRn1 aRc1 : Nat} {daR : Roster} (h_aR : RosterAt w aRA0 aRn0 aRc0 aRA1 aRn1 aRc1 daR) : Calls Try.prog 12 #[.agg #[.slice aRA0 aRn0 aRc0, .int .i64 daR.Rules.MinRest, .int .i64 daR.Rules.MaxRow, .int .i64 daR.Rules.MaxWeek, .slice aRA1 aRn1 aRc1]] w (Ret (.bool true) w) := by
  have HB0 : ∀ W [Later (w.alloc (.cells #[.slice aRA0 aRn0 aRc0, .int .i64 daR.Rules.MinRest, .int .i64 daR.Rules.MaxRow, .int .i64 daR.Rules.MaxWeek, .slice aRA1 aRn1 aRc1] 39)) W] (j : Nat), W.cell? ⟨w.heap.size, j, none⟩ = #[.slice aRA0 aRn0 aRc0, .int .i64 daR.Rules.MinRest, .int .i64 daR.Rules.MaxRow, .int .i64 daR.Rules.MaxWeek, .slice aRA1 aRn1 aRc1][j]? := Later.boxes (t := 39) (fr := (0, 0)) (heap_new (by simp; try omega))
  have hbb : ∀ a : Bool, (a != a) = false := by simp
  have hii : ∀ a : Int, (a != a) = false := by simp
  go_enter Try.func12, Try.ntmps12
  go_wp2_with fail
  refine (laws_szRoster h_aR inferInstance (by omega) (by omega)).mono ?_
  rintro e w1 ⟨r1, rfl, hr1, L1⟩
  have U1 := Later.trans (w := w) inferInstance L1
  have X1 := Later.trans (w := (w.alloc (.cells #[.slice aRA0 aRn0 aRc0, .int .i64 daR.Rules.MinRest, .int .i64 daR.Rules.MaxRow, .int .i64 daR.Rules.MaxWeek, .slice aRA1 aRn1 aRc1] 39))) inferInstance L1
  rcases hr1 with hr1 | ⟨hp1, hq1⟩
  · go_wp2
    go_ret
    exact ⟨rfl, inferInstance⟩
  have hb1 : r1 ≤ 1048576 := by omega
  have hq_aR : totRoster daR ≤ 1048576 := by omega
  clear hq1
  go_wp2_with fail
  refine (laws_toRoster h_aR inferInstance hq_aR).mono ?_
  rintro e w2 ⟨z2A0, z2n0, z2c0, z2A1, z2n1, z2c1, z2f0, z2f1, rfl, o2, nd2, lo2, L2⟩
  have U2 := Later.trans (w := w) inferInstance L2
  have X2 := Later.trans (w := (w.alloc (.cells #[.slice aRA0 aRn0 aRc0, .int .i64 daR.Rules.MinRest, .int .i64 daR.Rules.MaxRow, .int .i64 daR.Rules.MaxWeek, .slice aRA1 aRn1 aRc1] 39))) inferInstance L2
  go_wp2_with fail
  refine (spec_KeepsRules o2.reads inferInstance).mono ?_
  rintro e w3 ⟨rfl, L3⟩
  have U3 := Later.trans (w := w) inferInstance L3
  have X3 := Later.trans (w := (w.alloc (.cells #[.slice aRA0 aRn0 aRc0, .int .i64 daR.Rules.MinRest, .int .i64 daR.Rules.MaxRow, .int .i64 daR.Rules.MaxWeek, .slice aRA1 aRn1 aRc1] 39))) inferInstance L3
  have V2_3 := Later.trans (w := w2) inferInstance L3
  go_wp2_with fail
  refine (laws_toRoster h_aR inferInstance hq_aR).mono ?_
  rintro e w4 ⟨z4A0, z4n0, z4c0, z4A1, z4n1, z4c1, z4f0, z4f1, rfl, o4, nd4, lo4, L4⟩
  have U4 := Later.trans (w := w) inferInstance L4
  have X4 := Later.trans (w := (w.alloc (.cells #[.slice aRA0 aRn0 aRc0, .int .i64 daR.Rules.MinRest, .int .i64 daR.Rules.MaxRow, .int .i64 daR.Rules.MaxWeek, .slice aRA1 aRn1 aRc1] 39))) inferInstance L4
  have V2_4 := Later.trans (w := w2) inferInstance L4
  have HBx4 : ∀ W [Later (w4.alloc (.cells #[.slice z4A0 z4n0 z4c0, .int .i64 daR.Rules.MinRest, .int .i64 daR.Rules.MaxRow, .int .i64 daR.Rules.MaxWeek, .slice z4A1 z4n1 z4c1] 45)) W] (j : Nat), W.cell? ⟨w4.heap.size, j, none⟩ = #[.slice z4A0 z4n0 z4c0, .int .i64 daR.Rules.MinRest, .int .i64 daR.Rules.MaxRow, .int .i64 daR.Rules.MaxWeek, .slice z4A1 z4n1 z4c1][j]? := Later.boxes (t := 45) (fr := (0, 0)) (heap_new rfl)
  go_wp2_with fail
  refine (impl_KeepsRules o4.reads inferInstance).mono ?_
  rintro e w5 ⟨rfl, L5⟩
  have U5 := Later.trans (w := w) inferInstance L5
  have X5 := Later.trans (w := (w.alloc (.cells #[.slice aRA0 aRn0 aRc0, .int .i64 daR.Rules.MinRest, .int .i64 daR.Rules.MaxRow, .int .i64 daR.Rules.MaxWeek, .slice aRA1 aRn1 aRc1] 39))) inferInstance L5
  have V2_5 := Later.trans (w := w2) inferInstance L5
  have V4_5 := Later.trans (w := w4) inferInstance L5
  have Y4_5 := Later.trans (w := (w4.alloc (.cells #[.slice z4A0 z4n0 z4c0, .int .i64 daR.Rules.MinRest, .int .i64 daR.Rules.MaxRow, .int .i64 daR.Rules.MaxWeek, .slice z4A1 z4n1 z4c1] 45))) inferInstance L5
  go_wp2_with fail
  go_region_held3 (fun w' => Later w w' ∧ Later (w.alloc (.cells #[.slice aRA0 aRn0 aRc0, .int .i64 daR.Rules.MinRest, .int .i64 daR.Rules.MaxRow, .int .i64 daR.Rules.MaxWeek, .slice aRA1 aRn1 aRc1] 39)) w' ∧ Later w2 w' ∧ Later w4 w' ∧ Later (w4.alloc (.cells #[.slice z4A0 z4n0 z4c0, .int .i64 daR.Rules.MinRest, .int .i64 daR.Rules.MaxRow, .int .i64 daR.Rules.MaxWeek, .slice z4A1 z4n1 z4c1] 45)) w') (first | exact ⟨inferInstance, inferInstance, inferInstance, inferInstance, inferInstance⟩) (first | (go_at_call 23; refine (laws_toRoster h_aR inferInstance hq_aR).mono ?_; rintro e w6 ⟨z6A0, z6n0, z6c0, z6A1, z6n1, z6c1, z6f0, z6f1, rfl, o6, nd6, lo6, L6⟩; have U6 := Later.trans (w := w) inferInstance L6; have X6 := Later.trans (w := (w.alloc (.cells #[.slice aRA0 aRn0 aRc0, .int .i64 daR.Rules.MinRest, .int .i64 daR.Rules.MaxRow, .int .i64 daR.Rules.MaxWeek, .slice aRA1 aRn1 aRc1] 39))) inferInstance L6; have V2_6 := Later.trans (w := w2) inferInstance L6; have V4_6 := Later.trans (w := w4) inferInstance L6; have Y4_6 := Later.trans (w := (w4.alloc (.cells #[.slice z4A0 z4n0 z4c0, .int .i64 daR.Rules.MinRest, .int .i64 daR.Rules.MaxRow, .int .i64 daR.Rules.MaxWeek, .slice z4A1 z4n1 z4c1] 45))) inferInstance L6) | (go_at_call 25; refine (laws_eqRoster o4.reads inferInstance o6.reads inferInstance).mono ?_; rintro e w7 ⟨rfl, L7⟩; have U7 := Later.trans (w := w) inferInstance L7; have X7 := Later.trans (w := (w.alloc (.cells #[.slice aRA0 aRn0 aRc0, .int .i64 daR.Rules.MinRest, .int .i64 daR.Rules.MaxRow, .int .i64 daR.Rules.MaxWeek, .slice aRA1 aRn1 aRc1] 39))) inferInstance L7; have V2_7 := Later.trans (w := w2) inferInstance L7; have V4_7 := Later.trans (w := w4) inferInstance L7; have Y4_7 := Later.trans (w := (w4.alloc (.cells #[.slice z4A0 z4n0 z4c0, .int .i64 daR.Rules.MinRest, .int .i64 daR.Rules.MaxRow, .int .i64 daR.Rules.MaxWeek, .slice z4A1 z4n1 z4c1] 45))) inferInstance L7; have V6_7 := Later.trans (w := w6) inferInstance L7))
  go_wp2
  go_ret
  exact ⟨rfl, inferInstance⟩
end Go.Proofs.Ythoappgpkelakaa
