/-
  Earliest arrivals: the program's functions.
-/
import Derived.Test.YteijofkkggifhaaArrB
import Derived.Test.YteijofkkggifhaaEarP
import Derived.Test.YteijofkkggifhaaTimeC
import Derived.Deep.RegionHeld3
import Derived.Test.YteijofkkggifhaaCopy
namespace Go.Proofs.Yteijofkkggifhaa
open Go Go.RowKit
set_option linter.unusedVariables false
set_option maxRecDepth 100000
theorem impl_isChange (v : Int) (w : World) : Calls Try.prog 138 #[.int .i64 v] w (RetS (.bool (inB v 0 30)) w) := by
  go_enter Try.func138, Try.ntmps138
  go_wp2_with (go_at_call 132; refine (impl_within _ _ _ _).mono ?_; rintro e w' ⟨rfl, rfl⟩)
  go_ret
  exact ⟨rfl, rfl⟩
set_option maxHeartbeats 800000 in
theorem impl_isFrom {w0 w : World} {sA0 : Option Addr} {sn0 sc0 : Nat} {sA1 : Option Addr} {sn1 sc1 : Nat} {sA2 : Option Addr} {sn2 sc2 : Nat} {t : Timetable} (h : TimetableAt w0 sA0 sn0 sc0 sA1 sn1 sc1 sA2 sn2 sc2 t) (hl : Later w0 w) (change from_ at_ : Int) : Calls Try.prog 78 #[.agg #[.slice sA0 sn0 sc0, .slice sA1 sn1 sc1, .slice sA2 sn2 sc2], .int .i64 change, .int .i64 from_, .int .i64 at_] w (Ret (.bool (okFrom t change from_ at_)) w) := by
  have HB0 : ∀ W [Later (w.alloc (.cells #[.slice sA0 sn0 sc0, .slice sA1 sn1 sc1, .slice sA2 sn2 sc2] 39)) W] (j : Nat), W.cell? ⟨w.heap.size, j, none⟩ = #[.slice sA0 sn0 sc0, .slice sA1 sn1 sc1, .slice sA2 sn2 sc2][j]? := Later.boxes (t := 39) (fr := (0, 0)) (heap_new (by simp; try omega)); obtain ⟨wb, hwb⟩ : ∃ wb : World, wb = (w.alloc (.cells #[.slice sA0 sn0 sc0, .slice sA1 sn1 sc1, .slice sA2 sn2 sc2] 39)) := ⟨_, rfl⟩; haveI hbW : Later wb (w.alloc (.cells #[.slice sA0 sn0 sc0, .slice sA1 sn1 sc1, .slice sA2 sn2 sc2] 39)) := (by rw [hwb]; exact Later.rfl_); haveI hww : Later w wb := (by rw [hwb]; infer_instance); rw [← hwb] at HB0; have hbE := Lib.hid (congrArg (fun x : World => x.heap.size) hwb); clear hwb
  have hwb0 := hl.trans hww
  have H := Lib.hid h
  clear h
  by_cases b1 : okTimetable t = true
  rotate_left
  · have g1 : okTimetable t = false := by simpa using b1
    clear b1
    go_enter Try.func78, Try.ntmps78
    go_wp2_with first
      | (go_at_call 68; refine (impl_IsValidTimetable H.out (hwb0.trans inferInstance)).mono ?_; rintro e w1 ⟨rfl, L1⟩; have X1 := Later.trans (w := wb) inferInstance L1)
      | (go_at_call 138; refine (impl_isChange _ _).mono ?_; rintro e w' ⟨rfl, rfl⟩)
      | (go_at_call 79; refine (impl_isStop (r := t.Network) ⟨H.out.l_Network_Stops, H.out.l_Network_Lines⟩ (hwb0.trans inferInstance) _).mono ?_; rintro e w2 ⟨rfl, L2⟩; have X2 := Later.trans (w := wb) inferInstance L2)
      | (go_at_call 86; refine (impl_IsValidTime _ _).mono ?_; rintro e w' ⟨rfl, rfl⟩)
    go_ret
    exact ⟨ret_bool (by simp [okFrom, okAsked, *]), hww.trans inferInstance⟩
  by_cases b2 : inB change 0 30 = true
  rotate_left
  · have g1 : inB change 0 30 = false := by simpa using b2
    clear b2
    go_enter Try.func78, Try.ntmps78
    go_wp2_with first
      | (go_at_call 68; refine (impl_IsValidTimetable H.out (hwb0.trans inferInstance)).mono ?_; rintro e w1 ⟨rfl, L1⟩; have X1 := Later.trans (w := wb) inferInstance L1)
      | (go_at_call 138; refine (impl_isChange _ _).mono ?_; rintro e w' ⟨rfl, rfl⟩)
      | (go_at_call 79; refine (impl_isStop (r := t.Network) ⟨H.out.l_Network_Stops, H.out.l_Network_Lines⟩ (hwb0.trans inferInstance) _).mono ?_; rintro e w2 ⟨rfl, L2⟩; have X2 := Later.trans (w := wb) inferInstance L2)
      | (go_at_call 86; refine (impl_IsValidTime _ _).mono ?_; rintro e w' ⟨rfl, rfl⟩)
    go_ret
    exact ⟨ret_bool (by simp [okFrom, okAsked, *]), hww.trans inferInstance⟩
  by_cases b3 : inB from_ 0 ((t.Network.Stops.length : Int) - 1) = true
  rotate_left
  · have g1 : inB from_ 0 ((t.Network.Stops.length : Int) - 1) = false := by simpa using b3
    clear b3
    go_enter Try.func78, Try.ntmps78
    go_wp2_with first
      | (go_at_call 68; refine (impl_IsValidTimetable H.out (hwb0.trans inferInstance)).mono ?_; rintro e w1 ⟨rfl, L1⟩; have X1 := Later.trans (w := wb) inferInstance L1)
      | (go_at_call 138; refine (impl_isChange _ _).mono ?_; rintro e w' ⟨rfl, rfl⟩)
      | (go_at_call 79; refine (impl_isStop (r := t.Network) ⟨H.out.l_Network_Stops, H.out.l_Network_Lines⟩ (hwb0.trans inferInstance) _).mono ?_; rintro e w2 ⟨rfl, L2⟩; have X2 := Later.trans (w := wb) inferInstance L2)
      | (go_at_call 86; refine (impl_IsValidTime _ _).mono ?_; rintro e w' ⟨rfl, rfl⟩)
    go_ret
    exact ⟨ret_bool (by simp [okFrom, okAsked, *]), hww.trans inferInstance⟩
  go_enter Try.func78, Try.ntmps78
  go_wp2_with first
    | (go_at_call 68; refine (impl_IsValidTimetable H.out (hwb0.trans inferInstance)).mono ?_; rintro e w1 ⟨rfl, L1⟩; have X1 := Later.trans (w := wb) inferInstance L1)
    | (go_at_call 138; refine (impl_isChange _ _).mono ?_; rintro e w' ⟨rfl, rfl⟩)
    | (go_at_call 79; refine (impl_isStop (r := t.Network) ⟨H.out.l_Network_Stops, H.out.l_Network_Lines⟩ (hwb0.trans inferInstance) _).mono ?_; rintro e w2 ⟨rfl, L2⟩; have X2 := Later.trans (w := wb) inferInstance L2)
    | (go_at_call 86; refine (impl_IsValidTime _ _).mono ?_; rintro e w' ⟨rfl, rfl⟩)
  go_ret
  exact ⟨ret_bool (by simp [okFrom, okAsked, *]), hww.trans inferInstance⟩
end Go.Proofs.Yteijofkkggifhaa
