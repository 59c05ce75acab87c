/-
  Journeys: IsValidJourney and JourneyTimes on both sides.
-/
import Derived.Test.YteeeihnkofoagaaJour
import Derived.Test.YteeeihnkofoagaaJourS
namespace Go.Proofs.Yteeeihnkofoagaa
open Go Go.RowKit
set_option linter.unusedVariables false
set_option maxRecDepth 100000
set_option linter.unusedSimpArgs false
set_option maxHeartbeats 800000 in
theorem impl_IsValidJourney {w0 w : World} {sA0 : Option Addr} {sn0 sc0 : Nat} {sA1 : Option Addr} {sn1 sc1 : Nat} {sA2 : Option Addr} {sn2 sc2 : Nat} {t : Timetable} (h : TimetableAt w0 sA0 sn0 sc0 sA1 sn1 sc1 sA2 sn2 sc2 t) (hl : Later w0 w) (change : Int) {w3 : World} {lA : Option Addr} {ln lc : Nat} {ls : List Leg} (h3 : Legs w3 lA ln lc ls) (hl3 : Later w3 w) : Calls Try.prog 81 #[.agg #[.slice sA0 sn0 sc0, .slice sA1 sn1 sc1, .slice sA2 sn2 sc2], .int .i64 change, .slice lA ln lc] w (Ret (.bool (okJourney t change ls)) w) := by
  have hLw := h3.later hl3
  have HB0 : ∀ W [Later (w.alloc (.cells #[.slice sA0 sn0 sc0, .slice sA1 sn1 sc1, .slice sA2 sn2 sc2] 50)) W] (j : Nat), W.cell? ⟨w.heap.size, j, none⟩ = #[.slice sA0 sn0 sc0, .slice sA1 sn1 sc1, .slice sA2 sn2 sc2][j]? := Later.boxes (t := 50) (fr := (0, 0)) (heap_new (by simp; try omega)); obtain ⟨wb, hwb⟩ : ∃ wb : World, wb = (w.alloc (.cells #[.slice sA0 sn0 sc0, .slice sA1 sn1 sc1, .slice sA2 sn2 sc2] 50)) := ⟨_, rfl⟩; haveI hbW : Later wb (w.alloc (.cells #[.slice sA0 sn0 sc0, .slice sA1 sn1 sc1, .slice sA2 sn2 sc2] 50)) := (by rw [hwb]; exact Later.rfl_); haveI hww : Later w wb := (by rw [hwb]; infer_instance); rw [← hwb] at HB0; have hbE := Lib.hid (congrArg (fun x : World => x.heap.size) hwb); clear hwb
  have hwb0 := hl.trans hww
  have H := Lib.hid h
  clear h
  have hwb3 := hl3.trans hww
  have H3 := Lib.hid h3
  replace hLw := hLw.later hww
  have hln := hLw.le
  have Hln := Lib.hid hLw.len
  clear h3
  by_cases b1 : okTimetable t = true
  rotate_left
  · have g1 : okTimetable t = false := by simpa using b1
    clear b1
    go_enter Try.func81, Try.ntmps81
    go_wp2_with first
      | (go_at_call 125; refine (impl_IsValidTimetable H.out (hwb0.trans inferInstance)).mono ?_; rintro e w1 ⟨rfl, L1⟩; have X1 := Later.trans (w := wb) inferInstance L1)
      | (go_at_call 126; refine (impl_isChange _ _).mono ?_; rintro e w' ⟨rfl, rfl⟩)
      | (go_at_call 127; refine (impl_isJourney H.out (hwb0.trans inferInstance) H3.out (hwb3.trans inferInstance) AF.out.1 change AF.out.2.1 AF.out.2.2).mono ?_; rintro e w3 ⟨rfl, L3⟩; have X3 := Later.trans (w := wb) inferInstance L3)
    go_ret
    exact ⟨ret_bool (by simp [okJourney, okAsked, *]), hww.trans inferInstance⟩
  by_cases b2 : inB change 0 30 = true
  rotate_left
  · have g1 : inB change 0 30 = false := by simpa using b2
    clear b2
    go_enter Try.func81, Try.ntmps81
    go_wp2_with first
      | (go_at_call 125; refine (impl_IsValidTimetable H.out (hwb0.trans inferInstance)).mono ?_; rintro e w1 ⟨rfl, L1⟩; have X1 := Later.trans (w := wb) inferInstance L1)
      | (go_at_call 126; refine (impl_isChange _ _).mono ?_; rintro e w' ⟨rfl, rfl⟩)
      | (go_at_call 127; refine (impl_isJourney H.out (hwb0.trans inferInstance) H3.out (hwb3.trans inferInstance) AF.out.1 change AF.out.2.1 AF.out.2.2).mono ?_; rintro e w3 ⟨rfl, L3⟩; have X3 := Later.trans (w := wb) inferInstance L3)
    go_ret
    exact ⟨ret_bool (by simp [okJourney, okAsked, *]), hww.trans inferInstance⟩
  have AF : Hid (TimeFacts t ∧ 0 ≤ change ∧ change ≤ 30) := ⟨timeFacts b1, inB_t.1 b2⟩
  go_enter Try.func81, Try.ntmps81
  go_wp2_with first
    | (go_at_call 125; refine (impl_IsValidTimetable H.out (hwb0.trans inferInstance)).mono ?_; rintro e w1 ⟨rfl, L1⟩; have X1 := Later.trans (w := wb) inferInstance L1)
    | (go_at_call 126; refine (impl_isChange _ _).mono ?_; rintro e w' ⟨rfl, rfl⟩)
    | (go_at_call 127; refine (impl_isJourney H.out (hwb0.trans inferInstance) H3.out (hwb3.trans inferInstance) AF.out.1 change AF.out.2.1 AF.out.2.2).mono ?_; rintro e w3 ⟨rfl, L3⟩; have X3 := Later.trans (w := wb) inferInstance L3)
  go_ret
  exact ⟨ret_bool (by simp [okJourney, okAsked, *]), hww.trans inferInstance⟩
end Go.Proofs.Yteeeihnkofoagaa
