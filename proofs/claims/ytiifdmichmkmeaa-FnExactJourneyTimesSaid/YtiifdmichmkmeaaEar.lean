/-
  Earliest arrivals: the program's functions.
-/
import Derived.Test.YtiifdmichmkmeaaArrB
import Derived.Test.YtiifdmichmkmeaaEarP
import Derived.Test.YtiifdmichmkmeaaTimeC
import Derived.Deep.RegionHeld3
import Derived.Test.YtiifdmichmkmeaaCopy
namespace Go.Proofs.Ytiifdmichmkmeaa
open Go Go.RowKit
set_option linter.unusedVariables false
set_option maxRecDepth 100000
theorem impl_isChange (v : Int) (w : World) : Calls Try.prog 164 #[.int .i64 v] w (RetS (.bool (inB v 0 30)) w) := by
  go_enter Try.func164, Try.ntmps164
  go_wp2_with (go_at_call 131; refine (impl_within _ _ _ _).mono ?_; rintro e w' ⟨rfl, rfl⟩)
  go_ret
  exact ⟨rfl, rfl⟩
set_option maxHeartbeats 800000 in
theorem impl_isFrom {w0 w : World} {sA0 : Option Addr} {sn0 sc0 : Nat} {sA1 : Option Addr} {sn1 sc1 : Nat} {sA2 : Option Addr} {sn2 sc2 : Nat} {t : Timetable} (h : TimetableAt w0 sA0 sn0 sc0 sA1 sn1 sc1 sA2 sn2 sc2 t) (hl : Later w0 w) (change from_ at_ : Int) : Calls Try.prog 168 #[.agg #[.slice sA0 sn0 sc0, .slice sA1 sn1 sc1, .slice sA2 sn2 sc2], .int .i64 change, .int .i64 from_, .int .i64 at_] w (Ret (.bool (okFrom t change from_ at_)) w) := by
  have HB0 : ∀ W [Later (w.alloc (.cells #[.slice sA0 sn0 sc0, .slice sA1 sn1 sc1, .slice sA2 sn2 sc2] 67)) W] (j : Nat), W.cell? ⟨w.heap.size, j, none⟩ = #[.slice sA0 sn0 sc0, .slice sA1 sn1 sc1, .slice sA2 sn2 sc2][j]? := Later.boxes (t := 67) (fr := (0, 0)) (heap_new (by simp; try omega)); obtain ⟨wb, hwb⟩ : ∃ wb : World, wb = (w.alloc (.cells #[.slice sA0 sn0 sc0, .slice sA1 sn1 sc1, .slice sA2 sn2 sc2] 67)) := ⟨_, rfl⟩; haveI hbW : Later wb (w.alloc (.cells #[.slice sA0 sn0 sc0, .slice sA1 sn1 sc1, .slice sA2 sn2 sc2] 67)) := (by rw [hwb]; exact Later.rfl_); haveI hww : Later w wb := (by rw [hwb]; infer_instance); rw [← hwb] at HB0; have hbE := Lib.hid (congrArg (fun x : World => x.heap.size) hwb); clear hwb
  have hwb0 := hl.trans hww
  have H := Lib.hid h
  clear h
  by_cases b1 : okTimetable t = true
  rotate_left
  · have g1 : okTimetable t = false := by simpa using b1
    clear b1
    go_enter Try.func168, Try.ntmps168
    go_wp2_with first
      | (go_at_call 156; refine (impl_IsValidTimetable H.out (hwb0.trans inferInstance)).mono ?_; rintro e w1 ⟨rfl, L1⟩; have X1 := Later.trans (w := wb) inferInstance L1)
      | (go_at_call 164; refine (impl_isChange _ _).mono ?_; rintro e w' ⟨rfl, rfl⟩)
      | (go_at_call 157; refine (impl_isStop (r := t.Network) ⟨H.out.l_Network_Stops, H.out.l_Network_Lines⟩ (hwb0.trans inferInstance) _).mono ?_; rintro e w2 ⟨rfl, L2⟩; have X2 := Later.trans (w := wb) inferInstance L2)
      | (go_at_call 172; refine (impl_IsValidTime _ _).mono ?_; rintro e w' ⟨rfl, rfl⟩)
    go_ret
    exact ⟨ret_bool (by simp [okFrom, okAsked, *]), hww.trans inferInstance⟩
  by_cases b2 : inB change 0 30 = true
  rotate_left
  · have g1 : inB change 0 30 = false := by simpa using b2
    clear b2
    go_enter Try.func168, Try.ntmps168
    go_wp2_with first
      | (go_at_call 156; refine (impl_IsValidTimetable H.out (hwb0.trans inferInstance)).mono ?_; rintro e w1 ⟨rfl, L1⟩; have X1 := Later.trans (w := wb) inferInstance L1)
      | (go_at_call 164; refine (impl_isChange _ _).mono ?_; rintro e w' ⟨rfl, rfl⟩)
      | (go_at_call 157; refine (impl_isStop (r := t.Network) ⟨H.out.l_Network_Stops, H.out.l_Network_Lines⟩ (hwb0.trans inferInstance) _).mono ?_; rintro e w2 ⟨rfl, L2⟩; have X2 := Later.trans (w := wb) inferInstance L2)
      | (go_at_call 172; refine (impl_IsValidTime _ _).mono ?_; rintro e w' ⟨rfl, rfl⟩)
    go_ret
    exact ⟨ret_bool (by simp [okFrom, okAsked, *]), hww.trans inferInstance⟩
  by_cases b3 : inB from_ 0 ((t.Network.Stops.length : Int) - 1) = true
  rotate_left
  · have g1 : inB from_ 0 ((t.Network.Stops.length : Int) - 1) = false := by simpa using b3
    clear b3
    go_enter Try.func168, Try.ntmps168
    go_wp2_with first
      | (go_at_call 156; refine (impl_IsValidTimetable H.out (hwb0.trans inferInstance)).mono ?_; rintro e w1 ⟨rfl, L1⟩; have X1 := Later.trans (w := wb) inferInstance L1)
      | (go_at_call 164; refine (impl_isChange _ _).mono ?_; rintro e w' ⟨rfl, rfl⟩)
      | (go_at_call 157; refine (impl_isStop (r := t.Network) ⟨H.out.l_Network_Stops, H.out.l_Network_Lines⟩ (hwb0.trans inferInstance) _).mono ?_; rintro e w2 ⟨rfl, L2⟩; have X2 := Later.trans (w := wb) inferInstance L2)
      | (go_at_call 172; refine (impl_IsValidTime _ _).mono ?_; rintro e w' ⟨rfl, rfl⟩)
    go_ret
    exact ⟨ret_bool (by simp [okFrom, okAsked, *]), hww.trans inferInstance⟩
  go_enter Try.func168, Try.ntmps168
  go_wp2_with first
    | (go_at_call 156; refine (impl_IsValidTimetable H.out (hwb0.trans inferInstance)).mono ?_; rintro e w1 ⟨rfl, L1⟩; have X1 := Later.trans (w := wb) inferInstance L1)
    | (go_at_call 164; refine (impl_isChange _ _).mono ?_; rintro e w' ⟨rfl, rfl⟩)
    | (go_at_call 157; refine (impl_isStop (r := t.Network) ⟨H.out.l_Network_Stops, H.out.l_Network_Lines⟩ (hwb0.trans inferInstance) _).mono ?_; rintro e w2 ⟨rfl, L2⟩; have X2 := Later.trans (w := wb) inferInstance L2)
    | (go_at_call 172; refine (impl_IsValidTime _ _).mono ?_; rintro e w' ⟨rfl, rfl⟩)
  go_ret
  exact ⟨ret_bool (by simp [okFrom, okAsked, *]), hww.trans inferInstance⟩
set_option maxHeartbeats 2000000 in
theorem impl_earliestArrivals {w0 w : World} {sA0 : Option Addr} {sn0 sc0 : Nat} {sA1 : Option Addr} {sn1 sc1 : Nat} {sA2 : Option Addr} {sn2 sc2 : Nat} {t : Timetable} (h : TimetableAt w0 sA0 sn0 sc0 sA1 sn1 sc1 sA2 sn2 sc2 t) (hl : Later w0 w) (change from_ at_ : Int) (ff : FromFacts t change from_ at_) :
    Calls Try.prog 169 #[.agg #[.slice sA0 sn0 sc0, .slice sA1 sn1 sc1, .slice sA2 sn2 sc2], .int .i64 change, .int .i64 from_, .int .i64 at_] w (RetB sn0 (earL t change from_ at_) w) := by
  have Hl : Hid (sn0 = t.Network.Stops.length) := h.l_Network_Stops.len
  have FF := Lib.hid ff
  have hn8 : sn0 ≤ 8 := by have := ff.time.net.stops; rw [Hl.out]; omega
  have c0 := ff.ch0
  have c1 := ff.ch1
  have hsm : Hid (Small (readyL t.Network.Stops.length from_ at_)) := by
    intro v hv
    unfold readyL at hv
    rcases List.mem_or_eq_of_mem_set hv with h1 | h1
    · rw [List.eq_of_mem_replicate h1]; unfold never; omega
    · subst h1; have := ff.a0; have := ff.a1; omega
  have HRL : Hid ((readyL t.Network.Stops.length from_ at_).length = t.Network.Stops.length) := by show _ = _; simp [readyL]
  obtain ⟨lg, hlg⟩ : ∃ m : Nat, m = 4 := ⟨4, rfl⟩
  have HE : Hid (earL t change from_ at_ = ((arrL t change (readyL t.Network.Stops.length from_ at_) lg).map encN).set from_.toNat at_) := by show _ = _; rw [hlg]; rfl
  have HAL := Lib.hid (arrL_min (stopsIn ff.time) ff.ch0 (at_ := at_) ff.f0 ff.f1 lg).1
  rw [HE.out]
  have hlg1 : lg ≤ 100 := by omega
  have HLG : Hid ((4 : Int) = lg) := by show _ = _; omega
  clear hlg
  clear ff
  have HB0 : ∀ W [Later (w.alloc (.cells #[.slice sA0 sn0 sc0, .slice sA1 sn1 sc1, .slice sA2 sn2 sc2] 67)) W] (j : Nat), W.cell? ⟨w.heap.size, j, none⟩ = #[.slice sA0 sn0 sc0, .slice sA1 sn1 sc1, .slice sA2 sn2 sc2][j]? := Later.boxes (t := 67) (fr := (0, 0)) (heap_new (by simp; try omega)); obtain ⟨wb, hwb⟩ : ∃ wb : World, wb = (w.alloc (.cells #[.slice sA0 sn0 sc0, .slice sA1 sn1 sc1, .slice sA2 sn2 sc2] 67)) := ⟨_, rfl⟩; haveI hbW : Later wb (w.alloc (.cells #[.slice sA0 sn0 sc0, .slice sA1 sn1 sc1, .slice sA2 sn2 sc2] 67)) := (by rw [hwb]; exact Later.rfl_); haveI hww : Later w wb := (by rw [hwb]; infer_instance); rw [← hwb] at HB0; have hbE := Lib.hid (congrArg (fun x : World => x.heap.size) hwb); clear hwb
  have hwb0 := hl.trans hww
  have H := Lib.hid h
  clear h
  go_enter Try.func169, Try.ntmps169
  go_wp2_with fail
  go_region_held3 (fun w' => Later wb w') (exact inferInstance) (first
    | (go_at_call 229; refine (impl_readyAt H.out (hwb0.trans inferInstance) FF.out.time.net _ _ FF.out.f0 FF.out.f1).mono ?_; rintro e w1 ⟨g1, rfl, hl1, hB1, hg1, L1⟩; have X1 := Later.trans (w := wb) inferInstance L1; have HL1 := Lib.hid hl1; clear hl1)
    | (go_at_call 228; refine (impl_arrivalsI H.out (hwb0.trans inferInstance) FF.out.time _ c0 c1 (hB1.ints HL1.out (by omega) hsm.out.i64) inferInstance HRL.out hsm.out lg hlg1 _ HLG.out).mono ?_; rintro e w2 ⟨g2, rfl, hl2, hB2, hg2, L2⟩; have X2 := Later.trans (w := wb) inferInstance L2; clear hl2))
  clear hB1 hg1
  have hB3 := hB2.drew
  haveI hN2 : New wb g2 := ⟨by have := Later.size (w := wb) X1; omega⟩
  go_wp2_with fail
  go_loopw [21] (fun i wr => ∃ (j : Nat) (cur : List Int), j ≤ sn0 ∧ i = .int .i64 j ∧ Hid (Mid sn0 j ((arrL t change (readyL t.Network.Stops.length from_ at_) lg).map encN) (arrL t change (readyL t.Network.Stops.length from_ at_) lg) cur) ∧ Blk wr g2 3 (rowA cur) ∧ Later wb wr) (fun i _ => sn0 - (intOf i).toNat)
  case atStart => exact ⟨0, _, by omega, rfl, .start (by rw [HAL.out, Hl.out]), hB3, inferInstance⟩
  case round =>
    obtain ⟨j, cur, hj, rfl, HM, hB, hX⟩ := hrel
    by_cases hlt : j < sn0
    · obtain ⟨a, ha⟩ : ∃ a, (arrL t change (readyL t.Network.Stops.length from_ at_) lg)[j]? = some a := ⟨_, List.getElem?_eq_getElem (by rw [HAL.out, ← Hl.out]; exact hlt)⟩
      have hcu : cur[j]? = some a := by rw [HM.out.ge j (Nat.le_refl _)]; exact ha
      have hcc := hB.rowAts hcu
      have hfc := hB.frozen j
      have HA := Lib.hid ha
      have HN1 : Hid (((arrL t change (readyL t.Network.Stops.length from_ at_) lg).map encN)[j]? = some (encN a)) := by show _ = _; rw [List.getElem?_map, ha]; rfl
      clear ha hcu
      by_cases he : a = 1073741824
      · have e1 := (beqi_t he).1
        have HN2 : Hid (((arrL t change (readyL t.Network.Stops.length from_ at_) lg).map encN)[j]? = some (-1)) := by have := HN1.out; rwa [show encN a = -1 from if_pos he] at this
        clear HN1
        go_wp2
        go_roundw
        case rel => exact ⟨j + 1, _, by omega, by go_num, HM.out.put hlt HN2.out, hB.rowSet _, inferInstance⟩
        case measure => simp [intOf]; omega
      · have e1 := (beqi_f he).1
        have HN2 : Hid (((arrL t change (readyL t.Network.Stops.length from_ at_) lg).map encN)[j]? = some a) := by have := HN1.out; rwa [show encN a = a from if_neg he] at this
        clear HN1
        go_wp2
        go_roundw
        case rel => exact ⟨j + 1, _, by omega, by go_num, HM.out.keep HA.out HN2.out, hB, inferInstance⟩
        case measure => simp [intOf]; omega
    · have HD := Lib.hid (HM.out.done (by omega) (by rw [List.length_map, HAL.out, Hl.out]))
      obtain ⟨p, hp⟩ := Int.eq_ofNat_of_zero_le FF.out.f0
      have hp2 : p < sn0 := by have := FF.out.f1; have := Hl.out; omega
      have HP := Lib.hid hp
      subst hp
      obtain ⟨v0, hv0⟩ : ∃ v, cur[p]? = some v := ⟨_, List.getElem?_eq_getElem (by rw [HM.out.len]; exact hp2)⟩
      have hcc := hB.rowAts hv0
      have hfc := hB.frozen p
      clear hv0
      go_wp2
      go_ret
      exact ⟨g2, rfl, by have := HD.out; simp [HAL.out, Hl.out], by rw [← HD.out]; exact hB.rowSet at_, by have := Later.size (w := w) (hww.trans X1); omega, hww.trans inferInstance⟩
set_option maxHeartbeats 800000 in
theorem impl_EarliestArrivals {w0 w : World} {sA0 : Option Addr} {sn0 sc0 : Nat} {sA1 : Option Addr} {sn1 sc1 : Nat} {sA2 : Option Addr} {sn2 sc2 : Nat} {t : Timetable} (h : TimetableAt w0 sA0 sn0 sc0 sA1 sn1 sc1 sA2 sn2 sc2 t) (hl : Later w0 w) (change from_ at_ : Int) :
    Calls Try.prog 57 #[.agg #[.slice sA0 sn0 sc0, .slice sA1 sn1 sc1, .slice sA2 sn2 sc2], .int .i64 change, .int .i64 from_, .int .i64 at_] w (RetO2 1 oInt (earRes t change from_ at_).1 (earRes t change from_ at_).2 w) := by
  have Hl : Hid (sn0 = t.Network.Stops.length) := h.l_Network_Stops.len
  have HB0 : ∀ W [Later (w.alloc (.cells #[.slice sA0 sn0 sc0, .slice sA1 sn1 sc1, .slice sA2 sn2 sc2] 67)) W] (j : Nat), W.cell? ⟨w.heap.size, j, none⟩ = #[.slice sA0 sn0 sc0, .slice sA1 sn1 sc1, .slice sA2 sn2 sc2][j]? := Later.boxes (t := 67) (fr := (0, 0)) (heap_new (by simp; try omega)); obtain ⟨wb, hwb⟩ : ∃ wb : World, wb = (w.alloc (.cells #[.slice sA0 sn0 sc0, .slice sA1 sn1 sc1, .slice sA2 sn2 sc2] 67)) := ⟨_, rfl⟩; haveI hbW : Later wb (w.alloc (.cells #[.slice sA0 sn0 sc0, .slice sA1 sn1 sc1, .slice sA2 sn2 sc2] 67)) := (by rw [hwb]; exact Later.rfl_); haveI hww : Later w wb := (by rw [hwb]; infer_instance); rw [← hwb] at HB0; have hbE := Lib.hid (congrArg (fun x : World => x.heap.size) hwb); clear hwb
  have hwb0 := hl.trans hww
  have H := Lib.hid h
  clear h
  by_cases c : okFrom t change from_ at_ = true
  · have FF := Lib.hid (fromFacts c)
    have hn8 : sn0 ≤ 8 := by have := FF.out.time.net.stops; rw [Hl.out]; omega
    have HL := Lib.hid (earL_len FF.out)
    have HB := Lib.hid (earL_bd FF.out)
    rw [show earRes t change from_ at_ = (earL t change from_ at_, true) from if_pos c]
    go_enter Try.func57, Try.ntmps57
    go_wp2_with first
      | (go_at_call 168; refine (impl_isFrom H.out (hwb0.trans inferInstance) _ _ _).mono ?_; rintro e w1 ⟨rfl, L1⟩; have X1 := Later.trans (w := wb) inferInstance L1)
      | (go_at_call 169; refine (impl_earliestArrivals H.out (hwb0.trans inferInstance) _ _ _ FF.out).mono ?_; rintro e w2 ⟨g2, rfl, hl2, hB2, hg2, L2⟩; have X2 := Later.trans (w := wb) inferInstance L2; have HL2 := Lib.hid hl2; clear hl2)
    go_ret2
    exact ⟨some ⟨g2, 0, none⟩, sn0, sn0, [g2], rfl, hB2.osl HL2.out (by omega) (fun v hv => by have := HB.out v hv; unfold I64; omega), by simp, by intro g hg; simp at hg; subst hg; have := Later.size (w := w) (hww.trans X1); omega, hww.trans inferInstance⟩
  · have c1 : okFrom t change from_ at_ = false := by simpa using c
    rw [show earRes t change from_ at_ = ([], false) from if_neg c]
    clear c
    go_enter Try.func57, Try.ntmps57
    go_wp2_with (go_at_call 168; refine (impl_isFrom H.out (hwb0.trans inferInstance) _ _ _).mono ?_; rintro e w1 ⟨rfl, L1⟩; have X1 := Later.trans (w := wb) inferInstance L1)
    go_ret2
    exact ⟨none, 0, 0, [], rfl, OSl.nil_ _, by simp, by simp, hww.trans inferInstance⟩
set_option maxHeartbeats 2000000 in
theorem impl_ReachedBy {w0 w : World} {sA0 : Option Addr} {sn0 sc0 : Nat} {sA1 : Option Addr} {sn1 sc1 : Nat} {sA2 : Option Addr} {sn2 sc2 : Nat} {t : Timetable} (h : TimetableAt w0 sA0 sn0 sc0 sA1 sn1 sc1 sA2 sn2 sc2 t) (hl : Later w0 w) (change from_ at_ by_ : Int) :
    Calls Try.prog 63 #[.agg #[.slice sA0 sn0 sc0, .slice sA1 sn1 sc1, .slice sA2 sn2 sc2], .int .i64 change, .int .i64 from_, .int .i64 at_, .int .i64 by_] w (RetO2 1 oInt (reachRes t change from_ at_ by_).1 (reachRes t change from_ at_ by_).2 w) := by
  have Hl : Hid (sn0 = t.Network.Stops.length) := h.l_Network_Stops.len
  have HB0 : ∀ W [Later (w.alloc (.cells #[.slice sA0 sn0 sc0, .slice sA1 sn1 sc1, .slice sA2 sn2 sc2] 67)) W] (j : Nat), W.cell? ⟨w.heap.size, j, none⟩ = #[.slice sA0 sn0 sc0, .slice sA1 sn1 sc1, .slice sA2 sn2 sc2][j]? := Later.boxes (t := 67) (fr := (0, 0)) (heap_new (by simp; try omega)); obtain ⟨wb, hwb⟩ : ∃ wb : World, wb = (w.alloc (.cells #[.slice sA0 sn0 sc0, .slice sA1 sn1 sc1, .slice sA2 sn2 sc2] 67)) := ⟨_, rfl⟩; haveI hbW : Later wb (w.alloc (.cells #[.slice sA0 sn0 sc0, .slice sA1 sn1 sc1, .slice sA2 sn2 sc2] 67)) := (by rw [hwb]; exact Later.rfl_); haveI hww : Later w wb := (by rw [hwb]; infer_instance); rw [← hwb] at HB0; have hbE := Lib.hid (congrArg (fun x : World => x.heap.size) hwb); clear hwb
  have hwb0 := hl.trans hww
  have H := Lib.hid h
  clear h
  have hbs : wb.heap.size ≤ w.heap.size + 1 := by have := hbE.out; simp at this; omega
  have hbs2 : w.heap.size + 1 ≤ wb.heap.size := by have := hbE.out; simp at this; omega
  by_cases c : okFrom t change from_ at_ = true
  rotate_left
  · have c1 : okFrom t change from_ at_ = false := by simpa using c
    rw [show reachRes t change from_ at_ by_ = ([], false) from if_neg fun k => c k.1]
    clear c
    go_enter Try.func63, Try.ntmps63
    go_wp2_with (go_at_call 168; refine (impl_isFrom H.out (hwb0.trans inferInstance) _ _ _).mono ?_; rintro e w1 ⟨rfl, L1⟩; have X1 := Later.trans (w := wb) inferInstance L1)
    go_ret2
    exact ⟨none, 0, 0, [], rfl, OSl.nil_ _, by simp, by simp, hww.trans inferInstance⟩
  have FF := Lib.hid (fromFacts c)
  by_cases c2 : okTime by_ = true
  rotate_left
  · have c1 : okTime by_ = false := by simpa using c2
    rw [show reachRes t change from_ at_ by_ = ([], false) from if_neg fun k => c2 k.2]
    clear c2
    go_enter Try.func63, Try.ntmps63
    go_wp2_with first
      | (go_at_call 168; refine (impl_isFrom H.out (hwb0.trans inferInstance) _ _ _).mono ?_; rintro e w1 ⟨rfl, L1⟩; have X1 := Later.trans (w := wb) inferInstance L1)
      | (go_at_call 172; refine (impl_IsValidTime _ _).mono ?_; rintro e w' ⟨rfl, rfl⟩)
    go_ret2
    exact ⟨none, 0, 0, [], rfl, OSl.nil_ _, by simp, by simp, hww.trans inferInstance⟩
  have hn8 : sn0 ≤ 8 := by have := FF.out.time.net.stops; rw [Hl.out]; omega
  have HL := Lib.hid (earL_len FF.out)
  have HB := Lib.hid (earL_bd FF.out)
  rw [show reachRes t change from_ at_ by_ = (inGo by_ (earL t change from_ at_) 0, true) from if_pos ⟨c, c2⟩]
  go_enter Try.func63, Try.ntmps63
  go_wp2_with first
    | (go_at_call 168; refine (impl_isFrom H.out (hwb0.trans inferInstance) _ _ _).mono ?_; rintro e w1 ⟨rfl, L1⟩; have X1 := Later.trans (w := wb) inferInstance L1)
    | (go_at_call 172; refine (impl_IsValidTime _ _).mono ?_; rintro e w' ⟨rfl, rfl⟩)
    | (go_at_call 169; refine (impl_earliestArrivals H.out (hwb0.trans inferInstance) _ _ _ FF.out).mono ?_; rintro e w2 ⟨g2, rfl, hl2, hB2, hg2, L2⟩; have X2 := Later.trans (w := wb) inferInstance L2; clear hl2)
  clear c c2
  have HI := Lib.hid (hB2.ints (n := sn0) (by rw [HL.out]; exact Hl.out) (by omega) (fun v hv => by have := HB.out v hv; unfold I64; omega))
  clear hB2 hg2
  go_loopw [12, 32] (fun ov i wr => ∃ (k : Nat) (acc : List Int), k ≤ sn0 ∧ i = .int .i64 k ∧ acc.length ≤ k ∧ Hid (acc ++ inGo by_ ((earL t change from_ at_).drop k) k = inGo by_ (earL t change from_ at_) 0) ∧ Hid (wr.ownsRow w2.heap.size 3 1 ov acc.length (acc.map (Value.int .i64))) ∧ Later wb wr ∧ Later w2 wr) (fun _ i _ => sn0 - (intOf i).toNat)
  case atStart => exact ⟨0, [], by omega, rfl, by simp, by show _ = _; simp, Lib.hid ⟨rfl, .inl ⟨rfl, rfl⟩⟩, inferInstance, inferInstance⟩
  case round =>
    obtain ⟨k, acc, hk, rfl, hal, HF, hown, hX, hY⟩ := hrel
    have hsz2 : w2.heap.size ≤ wr.heap.size := hY.size
    by_cases hlt : k < sn0
    · obtain ⟨b1, o1, a, hA, hs0, hcs, hsi⟩ := Ints.at_ HI.out hlt
      cases hA
      have HF1 := HF.out
      rw [drop_at hs0.out] at HF1
      simp only [inGo] at HF1
      simp only [Nat.zero_add] at hcs
      clear HF hs0 hsi
      by_cases ha : 0 ≤ a ∧ a ≤ by_
      · rw [if_pos (inB_t.2 ha)] at HF1
        have HF2 : Hid ((acc ++ [(k : Int)]) ++ inGo by_ ((earL t change from_ at_).drop (k + 1)) (k + 1) = inGo by_ (earL t change from_ at_) 0) := by show _ = _; rw [← HF1]; simp
        have ha0 := ha.1
        have ha1 := ha.2
        clear HF1 ha
        go_wp2_with (at_builtin; refine wpList_app_B rfl _ _ 81 rfl Try.underlying81 infoInt rfl (by decide) (by decide) rfl (by exact hown.out) (inferInstance : Later w2 wr) (Nat.le_refl _) hsz2 rfl rfl (one_cell _ _) (by omega) ?_; intro v' w4 hown' hX'; have hX4 := Later.trans (w := wb) inferInstance hX')
        go_roundw
        case rel => exact ⟨k + 1, acc ++ [(k : Int)], by omega, by go_num, by simp; omega, HF2, by show World.ownsRow _ _ _ _ _ _ _; rw [List.map_append, List.length_append]; exact hown', inferInstance, inferInstance⟩
        case measure => simp [intOf]; omega
      · rw [if_neg fun e => ha (inB_t.1 e)] at HF1
        have HF2 := Lib.hid HF1
        clear HF1
        by_cases ha0 : 0 ≤ a
        · have ha1 : ¬ a ≤ by_ := fun e => ha ⟨ha0, e⟩
          clear ha
          go_wp2
          go_roundw
          case rel => exact ⟨k + 1, acc, by omega, by go_num, by omega, HF2, hown, inferInstance, inferInstance⟩
          case measure => simp [intOf]; omega
        · clear ha
          go_wp2
          go_roundw
          case rel => exact ⟨k + 1, acc, by omega, by go_num, by omega, HF2, hown, inferInstance, inferInstance⟩
          case measure => simp [intOf]; omega
    · have HE : Hid (acc = inGo by_ (earL t change from_ at_) 0) := by
        have h3 := HF.out
        rw [List.drop_eq_nil_of_le (by rw [HL.out]; have := Hl.out; omega)] at h3
        exact (by simpa [inGo] using h3 : acc = _)
      clear HF
      go_wp2
      go_ret2
      obtain ⟨A, c, fp, rfl, ho, hnd, hlo⟩ := OSl.ints_of_own hown.out (fun y' hy' => by
        have := inGo_bd by_ (earL t change from_ at_) 0 y' (by rw [← HE.out]; exact hy')
        have := HL.out
        have := Hl.out
        unfold I64; omega)
      exact ⟨A, acc.length, c, fp, rfl, by rw [← HE.out]; exact ho, hnd, fun g hg => by have := hlo g hg; have := Later.size (w := w) (hww.trans X2); omega, hww.trans inferInstance⟩
end Go.Proofs.Ytiifdmichmkmeaa
