/-
  Two different stops: what is asked, on both sides; which choice is better.
-/
import Derived.Test.YteijofkkggifhaaProfQ
import Derived.Test.YteijofkkggifhaaEar
import Derived.Test.YteijofkkggifhaaArrS
import Derived.Test.YteijofkkggifhaaAppF
import Derived.Deep.RegionHeld3
namespace Go.Proofs.Yteijofkkggifhaa
open Go Go.RowKit
set_option linter.unusedVariables false
set_option maxRecDepth 100000
set_option linter.unusedSimpArgs false
set_option maxHeartbeats 1600000 in
theorem impl_isPair {w0 w : World} {sA0 : Option Addr} {sn0 sc0 : Nat} {sA1 : Option Addr} {sn1 sc1 : Nat} {sA2 : Option Addr} {sn2 sc2 : Nat} {t : Timetable} (h : TimetableAt w0 sA0 sn0 sc0 sA1 sn1 sc1 sA2 sn2 sc2 t) (hl : Later w0 w) (change from_ to : Int) : Calls Try.prog 85 #[.agg #[.slice sA0 sn0 sc0, .slice sA1 sn1 sc1, .slice sA2 sn2 sc2], .int .i64 change, .int .i64 from_, .int .i64 to] w (Ret (.bool (okPair t change from_ to)) w) := by
  have HB0 : ∀ W [Later (w.alloc (.cells #[.slice sA0 sn0 sc0, .slice sA1 sn1 sc1, .slice sA2 sn2 sc2] 39)) W] (j : Nat), W.cell? ⟨w.heap.size, j, none⟩ = #[.slice sA0 sn0 sc0, .slice sA1 sn1 sc1, .slice sA2 sn2 sc2][j]? := Later.boxes (t := 39) (fr := (0, 0)) (heap_new (by simp; try omega)); obtain ⟨wb, hwb⟩ : ∃ wb : World, wb = (w.alloc (.cells #[.slice sA0 sn0 sc0, .slice sA1 sn1 sc1, .slice sA2 sn2 sc2] 39)) := ⟨_, rfl⟩; haveI hbW : Later wb (w.alloc (.cells #[.slice sA0 sn0 sc0, .slice sA1 sn1 sc1, .slice sA2 sn2 sc2] 39)) := (by rw [hwb]; exact Later.rfl_); haveI hww : Later w wb := (by rw [hwb]; infer_instance); rw [← hwb] at HB0; have hbE := Lib.hid (congrArg (fun x : World => x.heap.size) hwb); clear hwb
  have hwb0 := hl.trans hww
  have H := Lib.hid h
  clear h
  by_cases b1 : okTimetable t = true
  rotate_left
  · have g1 : okTimetable t = false := by simpa using b1
    clear b1
    go_enter Try.func85, Try.ntmps85
    go_wp2_with first
      | (go_at_call 68; refine (impl_IsValidTimetable H.out (hwb0.trans inferInstance)).mono ?_; rintro e w1 ⟨rfl, L1⟩; have X1 := Later.trans (w := wb) inferInstance L1)
      | (go_at_call 138; refine (impl_isChange _ _).mono ?_; rintro e w' ⟨rfl, rfl⟩)
      | (go_at_call 79; (with_reducible refine (impl_isStop (r := t.Network) ⟨H.out.l_Network_Stops, H.out.l_Network_Lines⟩ (hwb0.trans inferInstance) from_).mono ?_); rintro e w2 ⟨rfl, L2⟩; have X2 := Later.trans (w := wb) inferInstance L2)
      | (go_at_call 79; (with_reducible refine (impl_isStop (r := t.Network) ⟨H.out.l_Network_Stops, H.out.l_Network_Lines⟩ (hwb0.trans inferInstance) to).mono ?_); rintro e w3 ⟨rfl, L3⟩; have X3 := Later.trans (w := wb) inferInstance L3)
    go_ret
    exact ⟨ret_bool (by simp [okPair, okAsked, *]), hww.trans inferInstance⟩
  by_cases b2 : inB change 0 30 = true
  rotate_left
  · have g1 : inB change 0 30 = false := by simpa using b2
    clear b2
    go_enter Try.func85, Try.ntmps85
    go_wp2_with first
      | (go_at_call 68; refine (impl_IsValidTimetable H.out (hwb0.trans inferInstance)).mono ?_; rintro e w1 ⟨rfl, L1⟩; have X1 := Later.trans (w := wb) inferInstance L1)
      | (go_at_call 138; refine (impl_isChange _ _).mono ?_; rintro e w' ⟨rfl, rfl⟩)
      | (go_at_call 79; (with_reducible refine (impl_isStop (r := t.Network) ⟨H.out.l_Network_Stops, H.out.l_Network_Lines⟩ (hwb0.trans inferInstance) from_).mono ?_); rintro e w2 ⟨rfl, L2⟩; have X2 := Later.trans (w := wb) inferInstance L2)
      | (go_at_call 79; (with_reducible refine (impl_isStop (r := t.Network) ⟨H.out.l_Network_Stops, H.out.l_Network_Lines⟩ (hwb0.trans inferInstance) to).mono ?_); rintro e w3 ⟨rfl, L3⟩; have X3 := Later.trans (w := wb) inferInstance L3)
    go_ret
    exact ⟨ret_bool (by simp [okPair, okAsked, *]), hww.trans inferInstance⟩
  by_cases b3 : inB from_ 0 ((t.Network.Stops.length : Int) - 1) = true
  rotate_left
  · have g1 : inB from_ 0 ((t.Network.Stops.length : Int) - 1) = false := by simpa using b3
    clear b3
    go_enter Try.func85, Try.ntmps85
    go_wp2_with first
      | (go_at_call 68; refine (impl_IsValidTimetable H.out (hwb0.trans inferInstance)).mono ?_; rintro e w1 ⟨rfl, L1⟩; have X1 := Later.trans (w := wb) inferInstance L1)
      | (go_at_call 138; refine (impl_isChange _ _).mono ?_; rintro e w' ⟨rfl, rfl⟩)
      | (go_at_call 79; (with_reducible refine (impl_isStop (r := t.Network) ⟨H.out.l_Network_Stops, H.out.l_Network_Lines⟩ (hwb0.trans inferInstance) from_).mono ?_); rintro e w2 ⟨rfl, L2⟩; have X2 := Later.trans (w := wb) inferInstance L2)
      | (go_at_call 79; (with_reducible refine (impl_isStop (r := t.Network) ⟨H.out.l_Network_Stops, H.out.l_Network_Lines⟩ (hwb0.trans inferInstance) to).mono ?_); rintro e w3 ⟨rfl, L3⟩; have X3 := Later.trans (w := wb) inferInstance L3)
    go_ret
    exact ⟨ret_bool (by simp [okPair, okAsked, *]), hww.trans inferInstance⟩
  by_cases b4 : inB to 0 ((t.Network.Stops.length : Int) - 1) = true
  rotate_left
  · have g1 : inB to 0 ((t.Network.Stops.length : Int) - 1) = false := by simpa using b4
    clear b4
    go_enter Try.func85, Try.ntmps85
    go_wp2_with first
      | (go_at_call 68; refine (impl_IsValidTimetable H.out (hwb0.trans inferInstance)).mono ?_; rintro e w1 ⟨rfl, L1⟩; have X1 := Later.trans (w := wb) inferInstance L1)
      | (go_at_call 138; refine (impl_isChange _ _).mono ?_; rintro e w' ⟨rfl, rfl⟩)
      | (go_at_call 79; (with_reducible refine (impl_isStop (r := t.Network) ⟨H.out.l_Network_Stops, H.out.l_Network_Lines⟩ (hwb0.trans inferInstance) from_).mono ?_); rintro e w2 ⟨rfl, L2⟩; have X2 := Later.trans (w := wb) inferInstance L2)
      | (go_at_call 79; (with_reducible refine (impl_isStop (r := t.Network) ⟨H.out.l_Network_Stops, H.out.l_Network_Lines⟩ (hwb0.trans inferInstance) to).mono ?_); rintro e w3 ⟨rfl, L3⟩; have X3 := Later.trans (w := wb) inferInstance L3)
    go_ret
    exact ⟨ret_bool (by simp [okPair, okAsked, *]), hww.trans inferInstance⟩
  by_cases b5 : from_ = to
  · have e1 := bnei_f b5
    have HB5 := Lib.hid b5
    have HN : Hid (okPair t change from_ to = false) := by show _ = _; simp [okPair, HB5.out]
    rw [HN.out]
    clear b5
    go_enter Try.func85, Try.ntmps85
    go_wp2_with first
      | (go_at_call 68; refine (impl_IsValidTimetable H.out (hwb0.trans inferInstance)).mono ?_; rintro e w1 ⟨rfl, L1⟩; have X1 := Later.trans (w := wb) inferInstance L1)
      | (go_at_call 138; refine (impl_isChange _ _).mono ?_; rintro e w' ⟨rfl, rfl⟩)
      | (go_at_call 79; (with_reducible refine (impl_isStop (r := t.Network) ⟨H.out.l_Network_Stops, H.out.l_Network_Lines⟩ (hwb0.trans inferInstance) from_).mono ?_); rintro e w2 ⟨rfl, L2⟩; have X2 := Later.trans (w := wb) inferInstance L2)
      | (go_at_call 79; (with_reducible refine (impl_isStop (r := t.Network) ⟨H.out.l_Network_Stops, H.out.l_Network_Lines⟩ (hwb0.trans inferInstance) to).mono ?_); rintro e w3 ⟨rfl, L3⟩; have X3 := Later.trans (w := wb) inferInstance L3)
    go_ret
    exact ⟨rfl, hww.trans inferInstance⟩
  have e1 := bnei_t b5
  have HN : Hid (okPair t change from_ to = true) := by show _ = _; simp [okPair, okAsked, b1, b2, b3, b4, b5]
  rw [HN.out]
  clear b5
  go_enter Try.func85, Try.ntmps85
  go_wp2_with first
    | (go_at_call 68; refine (impl_IsValidTimetable H.out (hwb0.trans inferInstance)).mono ?_; rintro e w1 ⟨rfl, L1⟩; have X1 := Later.trans (w := wb) inferInstance L1)
    | (go_at_call 138; refine (impl_isChange _ _).mono ?_; rintro e w' ⟨rfl, rfl⟩)
    | (go_at_call 79; (with_reducible refine (impl_isStop (r := t.Network) ⟨H.out.l_Network_Stops, H.out.l_Network_Lines⟩ (hwb0.trans inferInstance) from_).mono ?_); rintro e w2 ⟨rfl, L2⟩; have X2 := Later.trans (w := wb) inferInstance L2)
    | (go_at_call 79; (with_reducible refine (impl_isStop (r := t.Network) ⟨H.out.l_Network_Stops, H.out.l_Network_Lines⟩ (hwb0.trans inferInstance) to).mono ?_); rintro e w3 ⟨rfl, L3⟩; have X3 := Later.trans (w := wb) inferInstance L3)
  go_ret
  exact ⟨rfl, hww.trans inferInstance⟩
theorem okPair_iff {t : Timetable} {change from_ to at_ : Int} (h : okTime at_ = true) : okPair t change from_ to = (okFrom t change from_ at_ && inB to 0 ((t.Network.Stops.length : Int) - 1) && decide (from_ ≠ to)) := by
  simp [okPair, okFrom, h]
def okPairAt (t : Timetable) (change from_ to at_ : Int) : Bool := okFrom t change from_ at_ && inB to 0 ((t.Network.Stops.length : Int) - 1) && decide (from_ ≠ to)
theorem okPairAt_eq (t : Timetable) (change from_ to at_ : Int) : okPairAt t change from_ to at_ = (okPair t change from_ to && okTime at_) := by
  unfold okPairAt okPair okFrom
  cases okAsked t change <;> cases inB from_ 0 ((t.Network.Stops.length : Int) - 1) <;> cases okTime at_ <;> simp
set_option maxHeartbeats 1600000 in
theorem spec_l8Pair {w0 w : World} {sA0 : Option Addr} {sn0 sc0 : Nat} {sA1 : Option Addr} {sn1 sc1 : Nat} {sA2 : Option Addr} {sn2 sc2 : Nat} {t : Timetable} (h : TimetableAt w0 sA0 sn0 sc0 sA1 sn1 sc1 sA2 sn2 sc2 t) (hl : Later w0 w) (change from_ to at_ : Int) : Calls Try.prog 76 #[.agg #[.slice sA0 sn0 sc0, .slice sA1 sn1 sc1, .slice sA2 sn2 sc2], .int .i64 change, .int .i64 from_, .int .i64 to, .int .i64 at_] w (Ret (.bool (okPairAt t change from_ to at_)) w) := by
  have hS := h.l_Network_Stops
  have Hl := Lib.hid hS.len
  have hsn := hS.le
  clear hS
  have HB0 : ∀ W [Later (w.alloc (.cells #[.slice sA0 sn0 sc0, .slice sA1 sn1 sc1, .slice sA2 sn2 sc2] 39)) W] (j : Nat), W.cell? ⟨w.heap.size, j, none⟩ = #[.slice sA0 sn0 sc0, .slice sA1 sn1 sc1, .slice sA2 sn2 sc2][j]? := Later.boxes (t := 39) (fr := (0, 0)) (heap_new (by simp; try omega)); obtain ⟨wb, hwb⟩ : ∃ wb : World, wb = (w.alloc (.cells #[.slice sA0 sn0 sc0, .slice sA1 sn1 sc1, .slice sA2 sn2 sc2] 39)) := ⟨_, rfl⟩; haveI hbW : Later wb (w.alloc (.cells #[.slice sA0 sn0 sc0, .slice sA1 sn1 sc1, .slice sA2 sn2 sc2] 39)) := (by rw [hwb]; exact Later.rfl_); haveI hww : Later w wb := (by rw [hwb]; infer_instance); rw [← hwb] at HB0; have hbE := Lib.hid (congrArg (fun x : World => x.heap.size) hwb); clear hwb
  have hwb0 := hl.trans hww
  have H := Lib.hid h
  clear h
  by_cases b1 : okFrom t change from_ at_ = true
  rotate_left
  · have g1 : okFrom t change from_ at_ = false := by simpa using b1
    have HN : Hid (okPairAt t change from_ to at_ = false) := by show _ = _; unfold okPairAt; rw [g1]; rfl
    rw [HN.out]
    clear b1
    go_enter Try.func76, Try.ntmps76
    go_wp2_with first
      | (go_at_call 137; refine (spec_l8From H.out (hwb0.trans inferInstance) _ _ _).mono ?_; rintro e w1 ⟨rfl, L1⟩; have X1 := Later.trans (w := wb) inferInstance L1)
      | (go_at_call 95; refine (spec_l1In _ _ _ _).mono ?_; rintro e w' ⟨rfl, rfl⟩)
    go_ret
    exact ⟨rfl, hww.trans inferInstance⟩
  by_cases b3 : inB to 0 ((sn0 : Int) - 1) = true
  rotate_left
  · have g1 : inB to 0 ((sn0 : Int) - 1) = false := by simpa using b3
    have HN : Hid (okPairAt t change from_ to at_ = false) := by show _ = _; unfold okPairAt; rw [← Hl.out, g1]; simp
    rw [HN.out]
    clear b3
    go_enter Try.func76, Try.ntmps76
    go_wp2_with first
      | (go_at_call 137; refine (spec_l8From H.out (hwb0.trans inferInstance) _ _ _).mono ?_; rintro e w1 ⟨rfl, L1⟩; have X1 := Later.trans (w := wb) inferInstance L1)
      | (go_at_call 95; refine (spec_l1In _ _ _ _).mono ?_; rintro e w' ⟨rfl, rfl⟩)
    go_ret
    exact ⟨rfl, hww.trans inferInstance⟩
  by_cases b5 : from_ = to
  · have e1 := bnei_f b5
    have HN : Hid (okPairAt t change from_ to at_ = false) := by show _ = _; unfold okPairAt; simp [b5]
    rw [HN.out]
    clear b5
    go_enter Try.func76, Try.ntmps76
    go_wp2_with first
      | (go_at_call 137; refine (spec_l8From H.out (hwb0.trans inferInstance) _ _ _).mono ?_; rintro e w1 ⟨rfl, L1⟩; have X1 := Later.trans (w := wb) inferInstance L1)
      | (go_at_call 95; refine (spec_l1In _ _ _ _).mono ?_; rintro e w' ⟨rfl, rfl⟩)
    go_ret
    exact ⟨rfl, hww.trans inferInstance⟩
  have e1 := bnei_t b5
  have HN : Hid (okPairAt t change from_ to at_ = true) := by show _ = _; unfold okPairAt; rw [b1, ← Hl.out, b3, decide_eq_true b5]; rfl
  rw [HN.out]
  clear b5
  go_enter Try.func76, Try.ntmps76
  go_wp2_with first
    | (go_at_call 137; refine (spec_l8From H.out (hwb0.trans inferInstance) _ _ _).mono ?_; rintro e w1 ⟨rfl, L1⟩; have X1 := Later.trans (w := wb) inferInstance L1)
    | (go_at_call 95; refine (spec_l1In _ _ _ _).mono ?_; rintro e w' ⟨rfl, rfl⟩)
  go_ret
  exact ⟨rfl, hww.trans inferInstance⟩
end Go.Proofs.Yteijofkkggifhaa
