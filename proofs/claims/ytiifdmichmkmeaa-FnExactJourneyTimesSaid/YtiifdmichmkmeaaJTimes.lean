/-
  Journeys: JourneyTimes on both sides.
-/
import Derived.Test.YtiifdmichmkmeaaIsJ
namespace Go.Proofs.Ytiifdmichmkmeaa
open Go Go.RowKit
set_option linter.unusedVariables false
set_option maxRecDepth 100000
set_option linter.unusedSimpArgs false
theorem waitGo_at {ls : List Leg} {j : Nat} {x y : Leg} (hx : ls[j]? = some x) (hy : ls[j + 1]? = some y) : waitGo (ls.drop j) = (y.Depart - x.Arrive) + waitGo (ls.drop (j + 1)) := by
  rw [drop_at hx, drop_at hy]; rfl
theorem waitGo_last {ls : List Leg} {j : Nat} (h : ls.length ≤ j + 1) : waitGo (ls.drop j) = 0 := by
  have : (ls.drop j).length ≤ 1 := by simp; omega
  match h2 : ls.drop j with
  | [] => rfl
  | [a] => rfl
  | a :: b :: l => rw [h2] at this; simp at this
set_option maxHeartbeats 2000000 in
theorem impl_JourneyTimes {w0 w : World} {sA0 : Option Addr} {sn0 sc0 : Nat} {sA1 : Option Addr} {sn1 sc1 : Nat} {sA2 : Option Addr} {sn2 sc2 : Nat} {t : Timetable} (h : TimetableAt w0 sA0 sn0 sc0 sA1 sn1 sc1 sA2 sn2 sc2 t) (hl : Later w0 w) (change : Int) {w3 : World} {lA : Option Addr} {ln lc : Nat} {ls : List Leg} (h3 : Legs w3 lA ln lc ls) (hl3 : Later w3 w) : Calls Try.prog 55 #[.agg #[.slice sA0 sn0 sc0, .slice sA1 sn1 sc1, .slice sA2 sn2 sc2], .int .i64 change, .slice lA ln lc] w (Ret (.tuple #[.int .i64 (timesRes t change ls).1, .int .i64 (timesRes t change ls).2.1, .bool (timesRes t change ls).2.2]) w) := by
  have hLw := h3.later hl3
  have HB0 : ∀ W [Later (w.alloc (.cells #[.slice sA0 sn0 sc0, .slice sA1 sn1 sc1, .slice sA2 sn2 sc2] 67)) W] (j : Nat), W.cell? ⟨w.heap.size, j, none⟩ = #[.slice sA0 sn0 sc0, .slice sA1 sn1 sc1, .slice sA2 sn2 sc2][j]? := Later.boxes (t := 67) (fr := (0, 0)) (heap_new (by simp; try omega)); obtain ⟨wb, hwb⟩ : ∃ wb : World, wb = (w.alloc (.cells #[.slice sA0 sn0 sc0, .slice sA1 sn1 sc1, .slice sA2 sn2 sc2] 67)) := ⟨_, rfl⟩; haveI hbW : Later wb (w.alloc (.cells #[.slice sA0 sn0 sc0, .slice sA1 sn1 sc1, .slice sA2 sn2 sc2] 67)) := (by rw [hwb]; exact Later.rfl_); haveI hww : Later w wb := (by rw [hwb]; infer_instance); rw [← hwb] at HB0; have hbE := Lib.hid (congrArg (fun x : World => x.heap.size) hwb); clear hwb
  have hwb0 := hl.trans hww
  have H := Lib.hid h
  clear h
  have hwb3 := hl3.trans hww
  have H3 := Lib.hid h3
  replace hLw := hLw.later hww
  have hln := hLw.le
  have Hln := Lib.hid hLw.len
  clear h3
  by_cases c0 : okJourney t change ls = true
  rotate_left
  · have c1 : okJourney t change ls = false := by simpa using c0
    clear c0
    have HRES := Lib.hid (show timesRes t change ls = (0, 0, false) from by simp [timesRes, c1])
    rw [HRES.out]
    go_enter Try.func55, Try.ntmps55
    go_wp2_with (go_at_call 52; refine (impl_IsValidJourney H.out (hwb0.trans inferInstance) change H3.out (hwb3.trans inferInstance)).mono ?_; rintro e w1 ⟨rfl, L1⟩; have X1 := Later.trans (w := wb) inferInstance L1)
    go_ret3; exact ⟨rfl, hww.trans inferInstance⟩
  have JF := Lib.hid (jourFacts c0)
  have hl4 : ln ≤ 4 := by have := JF.out.len; have := Hln.out; omega
  have hl1 : 0 < ln := by have := JF.out.len; have := Hln.out; omega
  rw [show timesRes t change ls = ((ls.getLastD default).Arrive - (ls.headD default).Depart, waitGo ls, true) from if_pos c0]
  go_enter Try.func55, Try.ntmps55
  go_wp2_with (go_at_call 52; refine (impl_IsValidJourney H.out (hwb0.trans inferInstance) change H3.out (hwb3.trans inferInstance)).mono ?_; rintro e w1 ⟨rfl, L1⟩; have X1 := Later.trans (w := wb) inferInstance L1)
  clear c0
  go_loopw [9, 10] (fun s i wr => ∃ (k j : Nat) (v : Int), k = j + 1 ∧ j < ln ∧ s = .int .i64 v ∧ i = .int .i64 k ∧ -2099 * (k : Int) ≤ v ∧ v ≤ 2099 * (k : Int) ∧ Hid (v + waitGo (ls.drop j) = waitGo ls) ∧ Later wb wr) (fun _ i _ => ln - (intOf i).toNat)
  case atStart => exact ⟨1, 0, 0, rfl, hl1, rfl, rfl, by omega, by omega, by show _ = _; simp, inferInstance⟩
  case round =>
    obtain ⟨k, j, v, hkj, hj, rfl, rfl, hv0, hv1, HF, hX⟩ := hrel
    have HKJ := Lib.hid hkj
    have HLW := Lib.hid hLw
    obtain ⟨b, o, x, rfl, hx, hc0, hc1, hc2, hc3, hc4, _⟩ := Legs.at_ hLw hj
    have hxa := (JF.out.leg j x hx.out).arrive
    have hxa0 := hxa.1
    have hxa1 := hxa.2
    have hk4 : k ≤ 4 := by omega
    by_cases hlt : k < ln
    · obtain ⟨b8, o8, y, hA8, hy, hd0, hd1, hd2, hd3, hd4, _⟩ := Legs.at_ HLW.out hlt
      cases hA8
      have hyd := (JF.out.leg k y hy.out).depart
      have hyd0 := hyd.1
      have hyd1 := hyd.2
      have hwk : IntKind.i64.wrap ((k : Int) - 1) = (j : Int) := by rw [IntKind.wrap_i64]; omega
      have hw1 : IntKind.i64.wrap (y.Depart - x.Arrive) = y.Depart - x.Arrive := by rw [IntKind.wrap_i64]; omega
      have hw2 : IntKind.i64.wrap (v + (y.Depart - x.Arrive)) = v + (y.Depart - x.Arrive) := by rw [IntKind.wrap_i64]; omega
      have hw3 : IntKind.i64.wrap (v + y.Depart) = v + y.Depart := by rw [IntKind.wrap_i64]; omega
      have hw4 : IntKind.i64.wrap (v + y.Depart - x.Arrive) = v + y.Depart - x.Arrive := by rw [IntKind.wrap_i64]; omega
      have HF2 : Hid (v + (y.Depart - x.Arrive) + waitGo (ls.drop k) = waitGo ls) := by
        show _ = _
        have h1 := HF.out
        have h2 := HKJ.out
        subst h2
        rw [waitGo_at hx.out hy.out] at h1
        omega
      clear HF hx hy hxa hyd hkj
      go_wp2_with fail
      go_quiet (fail)
      clear hwk
      go_wp2
      go_roundw
      case rel => exact ⟨k + 1, k, v + (y.Depart - x.Arrive), rfl, hlt, by first | rfl | (congr 1; omega), by go_num, by omega, by omega, HF2, inferInstance⟩
      case measure => simp [intOf]; omega
    · obtain ⟨b8, o8, f, hA8, hf, hd0, hd1, hd2, hd3, hd4, _⟩ := Legs.at_ HLW.out hl1
      cases hA8
      have hyd := (JF.out.leg 0 f hf.out).depart
      have hyd0 := hyd.1
      have hyd1 := hyd.2
      have hwk : IntKind.i64.wrap ((ln : Int) - 1) = (j : Int) := by rw [IntKind.wrap_i64]; omega
      have hw1 : IntKind.i64.wrap (x.Arrive - f.Depart) = x.Arrive - f.Depart := by rw [IntKind.wrap_i64]; omega
      have HFS : Hid (ls.headD default = f) := by show _ = _; cases ls with | nil => simp at hf; exact absurd hf.out (by simp) | cons a l => have := hf.out; simp at this; simpa using this
      have HLS : Hid (ls.getLastD default = x) := by
        show _ = _
        have h1 := hx.out
        rw [List.getLastD_eq_getLast?, List.getLast?_eq_getElem?, show ls.length - 1 = j from by have := Hln.out; omega, h1]; rfl
      have HVS : Hid (waitGo ls = v) := by show _ = _; rw [← HF.out, waitGo_last (by have := Hln.out; omega)]; omega
      simp only [Nat.zero_mul, Nat.add_zero] at hd0 hd1 hd2 hd3 hd4
      clear HF hx hf hxa hyd hkj
      go_wp2_with fail
      go_quiet (fail)
      go_wp2
      go_ret3
      exact ⟨by rw [HLS.out, HFS.out, HVS.out]; rfl, hww.trans inferInstance⟩
set_option maxHeartbeats 2000000 in
theorem spec_JourneyTimes {w0 w : World} {sA0 : Option Addr} {sn0 sc0 : Nat} {sA1 : Option Addr} {sn1 sc1 : Nat} {sA2 : Option Addr} {sn2 sc2 : Nat} {t : Timetable} (h : TimetableAt w0 sA0 sn0 sc0 sA1 sn1 sc1 sA2 sn2 sc2 t) (hl : Later w0 w) (change : Int) {w3 : World} {lA : Option Addr} {ln lc : Nat} {ls : List Leg} (h3 : Legs w3 lA ln lc ls) (hl3 : Later w3 w) : Calls Try.prog 54 #[.agg #[.slice sA0 sn0 sc0, .slice sA1 sn1 sc1, .slice sA2 sn2 sc2], .int .i64 change, .slice lA ln lc] w (Ret (.tuple #[.int .i64 (timesRes t change ls).1, .int .i64 (timesRes t change ls).2.1, .bool (timesRes t change ls).2.2]) w) := by
  have hLw := h3.later hl3
  have HB0 : ∀ W [Later (w.alloc (.cells #[.slice sA0 sn0 sc0, .slice sA1 sn1 sc1, .slice sA2 sn2 sc2] 67)) W] (j : Nat), W.cell? ⟨w.heap.size, j, none⟩ = #[.slice sA0 sn0 sc0, .slice sA1 sn1 sc1, .slice sA2 sn2 sc2][j]? := Later.boxes (t := 67) (fr := (0, 0)) (heap_new (by simp; try omega)); obtain ⟨wb, hwb⟩ : ∃ wb : World, wb = (w.alloc (.cells #[.slice sA0 sn0 sc0, .slice sA1 sn1 sc1, .slice sA2 sn2 sc2] 67)) := ⟨_, rfl⟩; haveI hbW : Later wb (w.alloc (.cells #[.slice sA0 sn0 sc0, .slice sA1 sn1 sc1, .slice sA2 sn2 sc2] 67)) := (by rw [hwb]; exact Later.rfl_); haveI hww : Later w wb := (by rw [hwb]; infer_instance); rw [← hwb] at HB0; have hbE := Lib.hid (congrArg (fun x : World => x.heap.size) hwb); clear hwb
  have hwb0 := hl.trans hww
  have H := Lib.hid h
  clear h
  have hwb3 := hl3.trans hww
  have H3 := Lib.hid h3
  replace hLw := hLw.later hww
  have hln := hLw.le
  have Hln := Lib.hid hLw.len
  clear h3
  by_cases cr : okAsked t change = true
  rotate_left
  · have c1 : okAsked t change = false := by simpa using cr
    clear cr
    have HRES := Lib.hid (show timesRes t change ls = (0, 0, false) from by simp [timesRes, okJourney, c1])
    rw [HRES.out]
    go_enter Try.func54, Try.ntmps54
    go_wp2_with (go_at_call 161; refine (spec_l8Asked H.out (hwb0.trans inferInstance) _).mono ?_; rintro e w1 ⟨rfl, L1⟩; have X1 := Later.trans (w := wb) inferInstance L1)
    go_ret3; exact ⟨rfl, hww.trans inferInstance⟩
  have AF : Hid (TimeFacts t ∧ 0 ≤ change ∧ change ≤ 30) := by
    have := cr
    simp only [okAsked, Bool.and_eq_true, inB_t] at this
    exact ⟨timeFacts this.1, this.2⟩
  by_cases cb : okLegs t change ls = true
  rotate_left
  · have c1 : okLegs t change ls = false := by simpa using cb
    clear cb
    have HRES := Lib.hid (show timesRes t change ls = (0, 0, false) from by simp [timesRes, okJourney, c1])
    rw [HRES.out]
    go_enter Try.func54, Try.ntmps54
    go_wp2_with first
      | (go_at_call 161; refine (spec_l8Asked H.out (hwb0.trans inferInstance) _).mono ?_; rintro e w1 ⟨rfl, L1⟩; have X1 := Later.trans (w := wb) inferInstance L1)
      | (go_at_call 162; refine (spec_l8Journey H.out (hwb0.trans inferInstance) H3.out (hwb3.trans inferInstance) AF.out.1 change AF.out.2.1 AF.out.2.2).mono ?_; rintro e w2 ⟨rfl, L2⟩; have X2 := Later.trans (w := wb) inferInstance L2)
    go_ret3; exact ⟨rfl, hww.trans inferInstance⟩
  have c0 : okJourney t change ls = true := by unfold okJourney; rw [cr, cb]; rfl
  have JF := Lib.hid (jourFacts c0)
  have hl4 : ln ≤ 4 := by have := JF.out.len; have := Hln.out; omega
  have hl1 : 0 < ln := by have := JF.out.len; have := Hln.out; omega
  rw [show timesRes t change ls = ((ls.getLastD default).Arrive - (ls.headD default).Depart, waitGo ls, true) from if_pos c0]
  go_enter Try.func54, Try.ntmps54
  go_wp2_with first
    | (go_at_call 161; refine (spec_l8Asked H.out (hwb0.trans inferInstance) _).mono ?_; rintro e w1 ⟨rfl, L1⟩; have X1 := Later.trans (w := wb) inferInstance L1)
    | (go_at_call 162; refine (spec_l8Journey H.out (hwb0.trans inferInstance) H3.out (hwb3.trans inferInstance) AF.out.1 change AF.out.2.1 AF.out.2.2).mono ?_; rintro e w2 ⟨rfl, L2⟩; have X2 := Later.trans (w := wb) inferInstance L2)
  clear cr cb
  clear c0
  go_loopw [9, 10] (fun s i wr => ∃ (k j : Nat) (v : Int), k = j + 1 ∧ j < ln ∧ s = .int .i64 v ∧ i = .int .i64 k ∧ -2099 * (k : Int) ≤ v ∧ v ≤ 2099 * (k : Int) ∧ Hid (v + waitGo (ls.drop j) = waitGo ls) ∧ Later wb wr) (fun _ i _ => ln - (intOf i).toNat)
  case atStart => exact ⟨1, 0, 0, rfl, hl1, rfl, rfl, by omega, by omega, by show _ = _; simp, inferInstance⟩
  case round =>
    obtain ⟨k, j, v, hkj, hj, rfl, rfl, hv0, hv1, HF, hX⟩ := hrel
    have HKJ := Lib.hid hkj
    have HLW := Lib.hid hLw
    obtain ⟨b, o, x, rfl, hx, hc0, hc1, hc2, hc3, hc4, _⟩ := Legs.at_ hLw hj
    have hxa := (JF.out.leg j x hx.out).arrive
    have hxa0 := hxa.1
    have hxa1 := hxa.2
    have hk4 : k ≤ 4 := by omega
    by_cases hlt : k < ln
    · obtain ⟨b8, o8, y, hA8, hy, hd0, hd1, hd2, hd3, hd4, _⟩ := Legs.at_ HLW.out hlt
      cases hA8
      have hyd := (JF.out.leg k y hy.out).depart
      have hyd0 := hyd.1
      have hyd1 := hyd.2
      have hwk : IntKind.i64.wrap ((k : Int) - 1) = (j : Int) := by rw [IntKind.wrap_i64]; omega
      have hw1 : IntKind.i64.wrap (y.Depart - x.Arrive) = y.Depart - x.Arrive := by rw [IntKind.wrap_i64]; omega
      have hw2 : IntKind.i64.wrap (v + (y.Depart - x.Arrive)) = v + (y.Depart - x.Arrive) := by rw [IntKind.wrap_i64]; omega
      have hw3 : IntKind.i64.wrap (v + y.Depart) = v + y.Depart := by rw [IntKind.wrap_i64]; omega
      have hw4 : IntKind.i64.wrap (v + y.Depart - x.Arrive) = v + y.Depart - x.Arrive := by rw [IntKind.wrap_i64]; omega
      have HF2 : Hid (v + (y.Depart - x.Arrive) + waitGo (ls.drop k) = waitGo ls) := by
        show _ = _
        have h1 := HF.out
        have h2 := HKJ.out
        subst h2
        rw [waitGo_at hx.out hy.out] at h1
        omega
      clear HF hx hy hxa hyd hkj
      go_wp2_with fail
      go_quiet (fail)
      clear hwk
      go_wp2
      go_roundw
      case rel => exact ⟨k + 1, k, v + (y.Depart - x.Arrive), rfl, hlt, by first | rfl | (congr 1; omega), by go_num, by omega, by omega, HF2, inferInstance⟩
      case measure => simp [intOf]; omega
    · obtain ⟨b8, o8, f, hA8, hf, hd0, hd1, hd2, hd3, hd4, _⟩ := Legs.at_ HLW.out hl1
      cases hA8
      have hyd := (JF.out.leg 0 f hf.out).depart
      have hyd0 := hyd.1
      have hyd1 := hyd.2
      have hwk : IntKind.i64.wrap ((ln : Int) - 1) = (j : Int) := by rw [IntKind.wrap_i64]; omega
      have hw1 : IntKind.i64.wrap (x.Arrive - f.Depart) = x.Arrive - f.Depart := by rw [IntKind.wrap_i64]; omega
      have HFS : Hid (ls.headD default = f) := by show _ = _; cases ls with | nil => simp at hf; exact absurd hf.out (by simp) | cons a l => have := hf.out; simp at this; simpa using this
      have HLS : Hid (ls.getLastD default = x) := by
        show _ = _
        have h1 := hx.out
        rw [List.getLastD_eq_getLast?, List.getLast?_eq_getElem?, show ls.length - 1 = j from by have := Hln.out; omega, h1]; rfl
      have HVS : Hid (waitGo ls = v) := by show _ = _; rw [← HF.out, waitGo_last (by have := Hln.out; omega)]; omega
      simp only [Nat.zero_mul, Nat.add_zero] at hd0 hd1 hd2 hd3 hd4
      clear HF hx hf hxa hyd hkj
      go_wp2_with fail
      go_quiet (fail)
      go_wp2
      go_ret3
      exact ⟨by rw [HLS.out, HFS.out, HVS.out]; rfl, hww.trans inferInstance⟩
end Go.Proofs.Ytiifdmichmkmeaa
