/-
  Journeys: SurvivesDelay on both sides.
-/
import Derived.Test.YteeeihnkofoagaaIsJ
namespace Go.Proofs.Yteeeihnkofoagaa
open Go Go.RowKit
set_option linter.unusedVariables false
set_option maxRecDepth 100000
set_option linter.unusedSimpArgs false
theorem survGo_at {change trip minutes : Int} {ls : List Leg} {j : Nat} {x y : Leg} (hx : ls[j]? = some x) (hy : ls[j + 1]? = some y) : survGo change trip minutes (ls.drop j) = (!(decide (y.Depart + lateBy trip minutes y < x.Arrive + lateBy trip minutes x + change)) && survGo change trip minutes (ls.drop (j + 1))) := by
  rw [drop_at hx, drop_at hy]; rfl
theorem survGo_last {change trip minutes : Int} {ls : List Leg} {j : Nat} (h : ls.length ≤ j + 1) : survGo change trip minutes (ls.drop j) = true := by
  have : (ls.drop j).length ≤ 1 := by simp; omega
  match h2 : ls.drop j with
  | [] => rfl
  | [a] => rfl
  | a :: b :: l => rw [h2] at this; simp at this
theorem survRes_no {t : Timetable} {change : Int} {ls : List Leg} {trip minutes : Int} (h : ¬ (okJourney t change ls = true ∧ 0 ≤ findI t trip ∧ inB minutes 0 240 = true)) : survRes t change ls trip minutes = (false, false) := if_neg h
theorem survRes_yes {t : Timetable} {change : Int} {ls : List Leg} {trip minutes : Int} (h : okJourney t change ls = true) (h2 : 0 ≤ findI t trip) (h3 : inB minutes 0 240 = true) : survRes t change ls trip minutes = (survGo change trip minutes ls, true) := if_pos ⟨h, h2, h3⟩
set_option maxHeartbeats 2000000 in
theorem spec_SurvivesDelay {w0 w : World} {sA0 : Option Addr} {sn0 sc0 : Nat} {sA1 : Option Addr} {sn1 sc1 : Nat} {sA2 : Option Addr} {sn2 sc2 : Nat} {t : Timetable} (h : TimetableAt w0 sA0 sn0 sc0 sA1 sn1 sc1 sA2 sn2 sc2 t) (hl : Later w0 w) (change : Int) {w3 : World} {lA : Option Addr} {ln lc : Nat} {ls : List Leg} (h3 : Legs w3 lA ln lc ls) (hl3 : Later w3 w) (trip minutes : Int) : Calls Try.prog 25 #[.agg #[.slice sA0 sn0 sc0, .slice sA1 sn1 sc1, .slice sA2 sn2 sc2], .int .i64 change, .slice lA ln lc, .int .i64 trip, .int .i64 minutes] w (Ret (.tuple #[.bool (survRes t change ls trip minutes).1, .bool (survRes t change ls trip minutes).2]) w) := by
  obtain ⟨p, hp⟩ : ∃ p, findI t trip = p := ⟨_, rfl⟩
  have HP := Lib.hid hp
  clear hp
  have hLw := h3.later hl3
  have HB0 : ∀ W [Later (w.alloc (.cells #[.slice sA0 sn0 sc0, .slice sA1 sn1 sc1, .slice sA2 sn2 sc2] 50)) W] (j : Nat), W.cell? ⟨w.heap.size, j, none⟩ = #[.slice sA0 sn0 sc0, .slice sA1 sn1 sc1, .slice sA2 sn2 sc2][j]? := Later.boxes (t := 50) (fr := (0, 0)) (heap_new (by simp; try omega)); obtain ⟨wb, hwb⟩ : ∃ wb : World, wb = (w.alloc (.cells #[.slice sA0 sn0 sc0, .slice sA1 sn1 sc1, .slice sA2 sn2 sc2] 50)) := ⟨_, rfl⟩; haveI hbW : Later wb (w.alloc (.cells #[.slice sA0 sn0 sc0, .slice sA1 sn1 sc1, .slice sA2 sn2 sc2] 50)) := (by rw [hwb]; exact Later.rfl_); haveI hww : Later w wb := (by rw [hwb]; infer_instance); rw [← hwb] at HB0; have hbE := Lib.hid (congrArg (fun x : World => x.heap.size) hwb); clear hwb
  have hwb0 := hl.trans hww
  have H := Lib.hid h
  clear h
  have hwb3 := hl3.trans hww
  have H3 := Lib.hid h3
  replace hLw := hLw.later hww
  have hln := hLw.le
  have Hln := Lib.hid hLw.len
  clear h3
  by_cases cr : okAsked t change = true
  rotate_left
  · have c1 : okAsked t change = false := by simpa using cr
    clear cr
    have HRES := Lib.hid (show survRes t change ls trip minutes = (false, false) from by simp [survRes, okJourney, c1])
    rw [HRES.out]
    go_enter Try.func25, Try.ntmps25
    go_wp2_with (go_at_call 76; refine (spec_l8Asked H.out (hwb0.trans inferInstance) _).mono ?_; rintro e w1 ⟨rfl, L1⟩; have X1 := Later.trans (w := wb) inferInstance L1)
    go_ret2; exact ⟨rfl, hww.trans inferInstance⟩
  have AF : Hid (TimeFacts t ∧ 0 ≤ change ∧ change ≤ 30) := by
    have := cr
    simp only [okAsked, Bool.and_eq_true, inB_t] at this
    exact ⟨timeFacts this.1, this.2⟩
  by_cases cb : okLegs t change ls = true
  rotate_left
  · have c1 : okLegs t change ls = false := by simpa using cb
    clear cb
    have HRES := Lib.hid (show survRes t change ls trip minutes = (false, false) from by simp [survRes, okJourney, c1])
    rw [HRES.out]
    go_enter Try.func25, Try.ntmps25
    go_wp2_with first
      | (go_at_call 76; refine (spec_l8Asked H.out (hwb0.trans inferInstance) _).mono ?_; rintro e w1 ⟨rfl, L1⟩; have X1 := Later.trans (w := wb) inferInstance L1)
      | (go_at_call 77; refine (spec_l8Journey H.out (hwb0.trans inferInstance) H3.out (hwb3.trans inferInstance) AF.out.1 change AF.out.2.1 AF.out.2.2).mono ?_; rintro e w2 ⟨rfl, L2⟩; have X2 := Later.trans (w := wb) inferInstance L2)
    go_ret2; exact ⟨rfl, hww.trans inferInstance⟩
  have c0 : okJourney t change ls = true := by unfold okJourney; rw [cr, cb]; rfl
  have JF := Lib.hid (jourFacts c0)
  by_cases cp : p < 0
  · rw [survRes_no (fun hh => by have := hh.2.1; rw [HP.out] at this; omega)]
    clear c0
    go_enter Try.func25, Try.ntmps25
    go_wp2_with first
      | (go_at_call 76; refine (spec_l8Asked H.out (hwb0.trans inferInstance) _).mono ?_; rintro e w1 ⟨rfl, L1⟩; have X1 := Later.trans (w := wb) inferInstance L1)
      | (go_at_call 77; refine (spec_l8Journey H.out (hwb0.trans inferInstance) H3.out (hwb3.trans inferInstance) AF.out.1 change AF.out.2.1 AF.out.2.2).mono ?_; rintro e w2 ⟨rfl, L2⟩; have X2 := Later.trans (w := wb) inferInstance L2)
      | (go_at_call 78; refine (spec_l5Find H.out (hwb0.trans inferInstance) _).mono ?_; rw [HP.out]; rintro e w3 ⟨rfl, L3⟩; have X3 := Later.trans (w := wb) inferInstance L3)
    go_ret2
    exact ⟨rfl, hww.trans inferInstance⟩
  by_cases c2 : inB minutes 0 240 = true
  rotate_left
  · rw [survRes_no (fun hh => c2 hh.2.2)]
    have c3 : inB minutes 0 240 = false := by simpa using c2
    clear c0 c2
    go_enter Try.func25, Try.ntmps25
    go_wp2_with first
      | (go_at_call 76; refine (spec_l8Asked H.out (hwb0.trans inferInstance) _).mono ?_; rintro e w1 ⟨rfl, L1⟩; have X1 := Later.trans (w := wb) inferInstance L1)
      | (go_at_call 77; refine (spec_l8Journey H.out (hwb0.trans inferInstance) H3.out (hwb3.trans inferInstance) AF.out.1 change AF.out.2.1 AF.out.2.2).mono ?_; rintro e w2 ⟨rfl, L2⟩; have X2 := Later.trans (w := wb) inferInstance L2)
      | (go_at_call 78; refine (spec_l5Find H.out (hwb0.trans inferInstance) _).mono ?_; rw [HP.out]; rintro e w3 ⟨rfl, L3⟩; have X3 := Later.trans (w := wb) inferInstance L3)
      | (go_at_call 62; refine (spec_l1In _ _ _ _).mono ?_; rintro e w' ⟨rfl, rfl⟩)
    go_ret2
    exact ⟨rfl, hww.trans inferInstance⟩
  have hl4 : ln ≤ 4 := by have := JF.out.len; have := Hln.out; omega
  have hl1 : 0 < ln := by have := JF.out.len; have := Hln.out; omega
  have hch0 := JF.out.ch.1
  have hch1 := JF.out.ch.2
  have hm0 : 0 ≤ minutes := (inB_t.1 c2).1
  have hm1 : minutes ≤ 240 := (inB_t.1 c2).2
  rw [survRes_yes c0 (by rw [HP.out]; omega) c2]
  go_enter Try.func25, Try.ntmps25
  go_wp2_with first
    | (go_at_call 76; refine (spec_l8Asked H.out (hwb0.trans inferInstance) _).mono ?_; rintro e w1 ⟨rfl, L1⟩; have X1 := Later.trans (w := wb) inferInstance L1)
    | (go_at_call 77; refine (spec_l8Journey H.out (hwb0.trans inferInstance) H3.out (hwb3.trans inferInstance) AF.out.1 change AF.out.2.1 AF.out.2.2).mono ?_; rintro e w2 ⟨rfl, L2⟩; have X2 := Later.trans (w := wb) inferInstance L2)
    | (go_at_call 78; refine (spec_l5Find H.out (hwb0.trans inferInstance) _).mono ?_; rw [HP.out]; rintro e w3 ⟨rfl, L3⟩; have X3 := Later.trans (w := wb) inferInstance L3)
    | (go_at_call 62; refine (spec_l1In _ _ _ _).mono ?_; rintro e w' ⟨rfl, rfl⟩)
  clear cr cb cp
  clear c0 c2
  go_loopw [12] (fun i wr => ∃ (k j : Nat), k = j + 1 ∧ j < ln ∧ i = .int .i64 k ∧ Hid (survGo change trip minutes (ls.drop j) = survGo change trip minutes ls) ∧ Later wb wr) (fun i _ => ln - (intOf i).toNat)
  case atStart => exact ⟨1, 0, rfl, hl1, rfl, by show _ = _; simp, inferInstance⟩
  case round =>
    obtain ⟨k, j, hkj, hj, rfl, HF, hX⟩ := hrel
    have HKJ := Lib.hid hkj
    have HLW := Lib.hid hLw
    have hk4 : k ≤ 4 := by omega
    by_cases hlt : k < ln
    · obtain ⟨b, o, x, rfl, hx, hc0, hc1, hc2, hc3, hc4, _⟩ := Legs.at_ hLw hj
      obtain ⟨b8, o8, y, hA8, hy, hd0, hd1, hd2, hd3, hd4, _⟩ := Legs.at_ HLW.out hlt
      cases hA8
      have hxa := (JF.out.leg j x hx.out).arrive
      have hyd := (JF.out.leg k y hy.out).depart
      have hwk : IntKind.i64.wrap ((k : Int) - 1) = (j : Int) := by rw [IntKind.wrap_i64]; omega
      have hw1 : IntKind.i64.wrap (x.Arrive + minutes) = x.Arrive + minutes := by rw [IntKind.wrap_i64]; omega
      have hw2 : IntKind.i64.wrap (y.Depart + minutes) = y.Depart + minutes := by rw [IntKind.wrap_i64]; omega
      have hw3 : IntKind.i64.wrap (x.Arrive + minutes + change) = x.Arrive + minutes + change := by rw [IntKind.wrap_i64]; omega
      have hw4 : IntKind.i64.wrap (x.Arrive + change) = x.Arrive + change := by rw [IntKind.wrap_i64]; omega
      have hw5 : IntKind.i64.wrap y.Depart = y.Depart := by rw [IntKind.wrap_i64]; omega
      have hw6 : IntKind.i64.wrap x.Arrive = x.Arrive := by rw [IntKind.wrap_i64]; omega
      have hjt' : (j : Int) < ln := by omega
      have hkt' : (k : Int) < ln := by omega
      have HF1 : Hid ((!(decide (y.Depart + lateBy trip minutes y < x.Arrive + lateBy trip minutes x + change)) && survGo change trip minutes (ls.drop k)) = survGo change trip minutes ls) := by
        show _ = _
        have h1 := HF.out
        have h2 := HKJ.out
        subst h2
        rw [survGo_at hx.out hy.out] at h1
        exact h1
      clear HF hx hy hxa hyd hkj
      by_cases cx : x.Trip = trip
      · have e1 := (beqi_t cx).1
        have e2 := (beqi_t cx).2
        have HLX : Hid (lateBy trip minutes x = minutes) := if_pos cx
        clear cx
        by_cases cy : y.Trip = trip
        · have e3 := (beqi_t cy).1
          have e4 := (beqi_t cy).2
          have HLY : Hid (lateBy trip minutes y = minutes) := if_pos cy
          clear cy
          by_cases cd : y.Depart + minutes < x.Arrive + minutes + change
          · have HG : Hid (survGo change trip minutes ls = false) := by
              show _ = _
              rw [← HF1.out, HLX.out, HLY.out]
              simp [cd]
            clear HF1
            go_wp2_with fail
            go_quiet (fail)
            go_wp2
            go_ret2
            exact ⟨by rw [HG.out]; first | done | rfl, hww.trans inferInstance⟩
          · have HF2 : Hid (survGo change trip minutes (ls.drop k) = survGo change trip minutes ls) := by
              show _ = _
              rw [← HF1.out, HLX.out, HLY.out]
              simp [cd]
            clear HF1
            go_wp2_with fail
            go_quiet (fail)
            go_wp2
            go_roundw
            case rel => exact ⟨k + 1, k, rfl, hlt, by go_num, HF2, inferInstance⟩
            case measure => simp [intOf]; omega
        · have e3 := (beqi_f cy).1
          have e4 := (beqi_f cy).2
          have HLY : Hid (lateBy trip minutes y = 0) := if_neg cy
          clear cy
          by_cases cd : y.Depart < x.Arrive + minutes + change
          · have HG : Hid (survGo change trip minutes ls = false) := by
              show _ = _
              rw [← HF1.out, HLX.out, HLY.out]
              simp [cd]
            clear HF1
            go_wp2_with fail
            go_quiet (fail)
            go_wp2
            go_ret2
            exact ⟨by rw [HG.out]; first | done | rfl, hww.trans inferInstance⟩
          · have HF2 : Hid (survGo change trip minutes (ls.drop k) = survGo change trip minutes ls) := by
              show _ = _
              rw [← HF1.out, HLX.out, HLY.out]
              simp [cd]
            clear HF1
            go_wp2_with fail
            go_quiet (fail)
            go_wp2
            go_roundw
            case rel => exact ⟨k + 1, k, rfl, hlt, by go_num, HF2, inferInstance⟩
            case measure => simp [intOf]; omega
      · have e1 := (beqi_f cx).1
        have e2 := (beqi_f cx).2
        have HLX : Hid (lateBy trip minutes x = 0) := if_neg cx
        clear cx
        by_cases cy : y.Trip = trip
        · have e3 := (beqi_t cy).1
          have e4 := (beqi_t cy).2
          have HLY : Hid (lateBy trip minutes y = minutes) := if_pos cy
          clear cy
          by_cases cd : y.Depart + minutes < x.Arrive + change
          · have HG : Hid (survGo change trip minutes ls = false) := by
              show _ = _
              rw [← HF1.out, HLX.out, HLY.out]
              simp [cd]
            clear HF1
            go_wp2_with fail
            go_quiet (fail)
            go_wp2
            go_ret2
            exact ⟨by rw [HG.out]; first | done | rfl, hww.trans inferInstance⟩
          · have HF2 : Hid (survGo change trip minutes (ls.drop k) = survGo change trip minutes ls) := by
              show _ = _
              rw [← HF1.out, HLX.out, HLY.out]
              simp [cd]
            clear HF1
            go_wp2_with fail
            go_quiet (fail)
            go_wp2
            go_roundw
            case rel => exact ⟨k + 1, k, rfl, hlt, by go_num, HF2, inferInstance⟩
            case measure => simp [intOf]; omega
        · have e3 := (beqi_f cy).1
          have e4 := (beqi_f cy).2
          have HLY : Hid (lateBy trip minutes y = 0) := if_neg cy
          clear cy
          by_cases cd : y.Depart < x.Arrive + change
          · have HG : Hid (survGo change trip minutes ls = false) := by
              show _ = _
              rw [← HF1.out, HLX.out, HLY.out]
              simp [cd]
            clear HF1
            go_wp2_with fail
            go_quiet (fail)
            go_wp2
            go_ret2
            exact ⟨by rw [HG.out]; first | done | rfl, hww.trans inferInstance⟩
          · have HF2 : Hid (survGo change trip minutes (ls.drop k) = survGo change trip minutes ls) := by
              show _ = _
              rw [← HF1.out, HLX.out, HLY.out]
              simp [cd]
            clear HF1
            go_wp2_with fail
            go_quiet (fail)
            go_wp2
            go_roundw
            case rel => exact ⟨k + 1, k, rfl, hlt, by go_num, HF2, inferInstance⟩
            case measure => simp [intOf]; omega
    · have HG : Hid (survGo change trip minutes ls = true) := by show _ = _; rw [← HF.out, survGo_last (by have := Hln.out; omega)]
      clear HF
      go_wp2
      go_ret2
      exact ⟨by rw [HG.out]; first | done | rfl, hww.trans inferInstance⟩
theorem impl_surv1 {w0 w : World} (x : Leg) (p q : Addr) (trip minutes : Int) (hp : ∀ W [Later w0 W], W.cell? p = some (.int .i64 trip)) (hq : ∀ W [Later w0 W], W.cell? q = some (.int .i64 minutes)) (hl : Later w0 w) :
    Calls Try.prog 83 #[.agg #[.int .i64 x.Trip, .int .i64 x.From, .int .i64 x.To, .int .i64 x.Depart, .int .i64 x.Arrive], .pointer (some p), .pointer (some q)] w (Ret (.int .i64 (lateBy trip minutes x)) w) := by
  have HB0 : ∀ W [Later (w.alloc (.cells #[.int .i64 x.Trip, .int .i64 x.From, .int .i64 x.To, .int .i64 x.Depart, .int .i64 x.Arrive] 100)) W] (j : Nat), W.cell? ⟨w.heap.size, j, none⟩ = #[.int .i64 x.Trip, .int .i64 x.From, .int .i64 x.To, .int .i64 x.Depart, .int .i64 x.Arrive][j]? := Later.boxes (t := 100) (fr := (0, 0)) (heap_new (by simp; try omega)); obtain ⟨wb, hwb⟩ : ∃ wb : World, wb = (w.alloc (.cells #[.int .i64 x.Trip, .int .i64 x.From, .int .i64 x.To, .int .i64 x.Depart, .int .i64 x.Arrive] 100)) := ⟨_, rfl⟩; haveI hbW : Later wb (w.alloc (.cells #[.int .i64 x.Trip, .int .i64 x.From, .int .i64 x.To, .int .i64 x.Depart, .int .i64 x.Arrive] 100)) := (by rw [hwb]; exact Later.rfl_); haveI hww : Later w wb := (by rw [hwb]; infer_instance); rw [← hwb] at HB0; have hbE := Lib.hid (congrArg (fun x : World => x.heap.size) hwb); clear hwb
  replace hp := shift (hl.trans hww) hp
  replace hq := shift (hl.trans hww) hq
  by_cases hv : x.Trip = trip
  · have e1 := (beqi_t hv).1
    have HN : Hid (lateBy trip minutes x = minutes) := if_pos hv
    clear hv
    go_enter Try.func83, Try.ntmps83
    go_wp2
    go_ret
    exact ⟨ret_int HN.out.symm, hww.trans inferInstance⟩
  · have e1 := (beqi_f hv).1
    have HN : Hid (lateBy trip minutes x = 0) := if_neg hv
    clear hv
    go_enter Try.func83, Try.ntmps83
    go_wp2
    go_ret
    exact ⟨ret_int HN.out.symm, hww.trans inferInstance⟩
set_option maxHeartbeats 2000000 in
theorem impl_SurvivesDelay {w0 w : World} {sA0 : Option Addr} {sn0 sc0 : Nat} {sA1 : Option Addr} {sn1 sc1 : Nat} {sA2 : Option Addr} {sn2 sc2 : Nat} {t : Timetable} (h : TimetableAt w0 sA0 sn0 sc0 sA1 sn1 sc1 sA2 sn2 sc2 t) (hl : Later w0 w) (change : Int) {w3 : World} {lA : Option Addr} {ln lc : Nat} {ls : List Leg} (h3 : Legs w3 lA ln lc ls) (hl3 : Later w3 w) (trip minutes : Int) : Calls Try.prog 28 #[.agg #[.slice sA0 sn0 sc0, .slice sA1 sn1 sc1, .slice sA2 sn2 sc2], .int .i64 change, .slice lA ln lc, .int .i64 trip, .int .i64 minutes] w (Ret (.tuple #[.bool (survRes t change ls trip minutes).1, .bool (survRes t change ls trip minutes).2]) w) := by
  obtain ⟨p, hp⟩ : ∃ p, findI t trip = p := ⟨_, rfl⟩
  have HP := Lib.hid hp
  clear hp
  obtain ⟨wx, hwx⟩ : ∃ wx : World, wx = ((w.alloc (.cells #[.slice sA0 sn0 sc0, .slice sA1 sn1 sc1, .slice sA2 sn2 sc2] 50)).alloc (.cells #[.int .i64 trip] 3)).alloc (.cells #[.int .i64 minutes] 3) := ⟨_, rfl⟩
  have HX1 : ∀ W [Later wx W], W.cell? ⟨w.heap.size + 1, 0, none⟩ = some (.int .i64 trip) := by rw [hwx]; exact fun W hW => @Later.boxes _ _ _ 3 (fr := (0, 0)) ((heap_old (by simp)).trans (heap_new (by simp))) W hW 0
  have HX2 : ∀ W [Later wx W], W.cell? ⟨w.heap.size + 1 + 1, 0, none⟩ = some (.int .i64 minutes) := by rw [hwx]; exact fun W hW => @Later.boxes _ _ _ 3 (fr := (0, 0)) (heap_new (by simp)) W hW 0
  have hLw := h3.later hl3
  have HB0 : ∀ W [Later (w.alloc (.cells #[.slice sA0 sn0 sc0, .slice sA1 sn1 sc1, .slice sA2 sn2 sc2] 50)) W] (j : Nat), W.cell? ⟨w.heap.size, j, none⟩ = #[.slice sA0 sn0 sc0, .slice sA1 sn1 sc1, .slice sA2 sn2 sc2][j]? := Later.boxes (t := 50) (fr := (0, 0)) (heap_new (by simp; try omega)); obtain ⟨wb, hwb⟩ : ∃ wb : World, wb = (w.alloc (.cells #[.slice sA0 sn0 sc0, .slice sA1 sn1 sc1, .slice sA2 sn2 sc2] 50)) := ⟨_, rfl⟩; haveI hbW : Later wb (w.alloc (.cells #[.slice sA0 sn0 sc0, .slice sA1 sn1 sc1, .slice sA2 sn2 sc2] 50)) := (by rw [hwb]; exact Later.rfl_); haveI hww : Later w wb := (by rw [hwb]; infer_instance); rw [← hwb] at HB0; have hbE := Lib.hid (congrArg (fun x : World => x.heap.size) hwb); clear hwb
  have hwb0 := hl.trans hww
  have H := Lib.hid h
  clear h
  have hwb3 := hl3.trans hww
  have H3 := Lib.hid h3
  replace hLw := hLw.later hww
  have hln := hLw.le
  have Hln := Lib.hid hLw.len
  clear h3
  haveI hxW : Later wx (((w.alloc (.cells #[.slice sA0 sn0 sc0, .slice sA1 sn1 sc1, .slice sA2 sn2 sc2] 50)).alloc (.cells #[.int .i64 trip] 3)).alloc (.cells #[.int .i64 minutes] 3)) := by rw [hwx]; exact Later.rfl_
  haveI hbx : Later wb wx := by rw [hwx]; infer_instance
  have HY1 := Lib.hid HX1
  have HY2 := Lib.hid HX2
  clear hwx
  by_cases c0 : okJourney t change ls = true
  rotate_left
  · rw [survRes_no (fun hh => c0 hh.1)]
    have c1 : okJourney t change ls = false := by simpa using c0
    clear c0
    go_enter Try.func28, Try.ntmps28
    go_wp2_with (go_at_call 81; refine (impl_IsValidJourney H.out (hwb0.trans inferInstance) change H3.out (hwb3.trans inferInstance)).mono ?_; rintro e w1 ⟨rfl, L1⟩; have X1 := Later.trans (w := wb) inferInstance L1; have Z1 := Later.trans (w := wx) inferInstance L1)
    go_ret2
    exact ⟨rfl, hww.trans inferInstance⟩
  have JF := Lib.hid (jourFacts c0)
  by_cases cp : p < 0
  · rw [survRes_no (fun hh => by have := hh.2.1; rw [HP.out] at this; omega)]
    go_enter Try.func28, Try.ntmps28
    go_wp2_with first
      | (go_at_call 81; refine (impl_IsValidJourney H.out (hwb0.trans inferInstance) change H3.out (hwb3.trans inferInstance)).mono ?_; rintro e w1 ⟨rfl, L1⟩; have X1 := Later.trans (w := wb) inferInstance L1; have Z1 := Later.trans (w := wx) inferInstance L1)
      | (go_at_call 82; refine (impl_tripIndex H.out (hwb0.trans inferInstance) trip).mono ?_; rw [HP.out]; rintro e w3 ⟨rfl, L3⟩; have X3 := Later.trans (w := wb) inferInstance L3; have Z3 := Later.trans (w := wx) inferInstance L3)
    go_ret2
    exact ⟨rfl, hww.trans inferInstance⟩
  by_cases c2 : inB minutes 0 240 = true
  rotate_left
  · rw [survRes_no (fun hh => c2 hh.2.2)]
    have c3 : inB minutes 0 240 = false := by simpa using c2
    clear c2
    go_enter Try.func28, Try.ntmps28
    go_wp2_with first
      | (go_at_call 81; refine (impl_IsValidJourney H.out (hwb0.trans inferInstance) change H3.out (hwb3.trans inferInstance)).mono ?_; rintro e w1 ⟨rfl, L1⟩; have X1 := Later.trans (w := wb) inferInstance L1; have Z1 := Later.trans (w := wx) inferInstance L1)
      | (go_at_call 82; refine (impl_tripIndex H.out (hwb0.trans inferInstance) trip).mono ?_; rw [HP.out]; rintro e w3 ⟨rfl, L3⟩; have X3 := Later.trans (w := wb) inferInstance L3; have Z3 := Later.trans (w := wx) inferInstance L3)
      | (go_at_call 70; refine (impl_within _ _ _ _).mono ?_; rintro e w' ⟨rfl, rfl⟩)
    go_ret2
    exact ⟨rfl, hww.trans inferInstance⟩
  have hl4 : ln ≤ 4 := by have := JF.out.len; have := Hln.out; omega
  have hl1 : 0 < ln := by have := JF.out.len; have := Hln.out; omega
  have hch0 := JF.out.ch.1
  have hch1 := JF.out.ch.2
  have hm0 : 0 ≤ minutes := (inB_t.1 c2).1
  have hm1 : minutes ≤ 240 := (inB_t.1 c2).2
  rw [survRes_yes c0 (by rw [HP.out]; omega) c2]
  go_enter Try.func28, Try.ntmps28
  go_wp2_with first
    | (go_at_call 81; refine (impl_IsValidJourney H.out (hwb0.trans inferInstance) change H3.out (hwb3.trans inferInstance)).mono ?_; rintro e w1 ⟨rfl, L1⟩; have X1 := Later.trans (w := wb) inferInstance L1; have Z1 := Later.trans (w := wx) inferInstance L1)
    | (go_at_call 82; refine (impl_tripIndex H.out (hwb0.trans inferInstance) trip).mono ?_; rw [HP.out]; rintro e w3 ⟨rfl, L3⟩; have X3 := Later.trans (w := wb) inferInstance L3; have Z3 := Later.trans (w := wx) inferInstance L3)
    | (go_at_call 70; refine (impl_within _ _ _ _).mono ?_; rintro e w' ⟨rfl, rfl⟩)
  clear cp
  clear c0 c2
  go_loopw [13] (fun i wr => ∃ (k j : Nat), k = j + 1 ∧ j < ln ∧ i = .int .i64 k ∧ Hid (survGo change trip minutes (ls.drop j) = survGo change trip minutes ls) ∧ Later wb wr ∧ Later wx wr) (fun i _ => ln - (intOf i).toNat)
  case atStart => exact ⟨1, 0, rfl, hl1, rfl, by show _ = _; simp, inferInstance, inferInstance⟩
  case round =>
    obtain ⟨k, j, hkj, hj, rfl, HF, hX, hX2⟩ := hrel
    have HKJ := Lib.hid hkj
    have HLW := Lib.hid hLw
    have hk4 : k ≤ 4 := by omega
    by_cases hlt : k < ln
    · obtain ⟨b, o, x, rfl, hx, hc0, hc1, hc2, hc3, hc4, _⟩ := Legs.at_ hLw hj
      obtain ⟨b8, o8, y, hA8, hy, hd0, hd1, hd2, hd3, hd4, _⟩ := Legs.at_ HLW.out hlt
      cases hA8
      have hxa := (JF.out.leg j x hx.out).arrive
      have hyd := (JF.out.leg k y hy.out).depart
      have hwk : IntKind.i64.wrap ((k : Int) - 1) = (j : Int) := by rw [IntKind.wrap_i64]; omega
      have hw1 : IntKind.i64.wrap (x.Arrive + minutes) = x.Arrive + minutes := by rw [IntKind.wrap_i64]; omega
      have hw2 : IntKind.i64.wrap (y.Depart + minutes) = y.Depart + minutes := by rw [IntKind.wrap_i64]; omega
      have hw3 : IntKind.i64.wrap (x.Arrive + minutes + change) = x.Arrive + minutes + change := by rw [IntKind.wrap_i64]; omega
      have hw4 : IntKind.i64.wrap (x.Arrive + change) = x.Arrive + change := by rw [IntKind.wrap_i64]; omega
      have hw5 : IntKind.i64.wrap y.Depart = y.Depart := by rw [IntKind.wrap_i64]; omega
      have hw6 : IntKind.i64.wrap x.Arrive = x.Arrive := by rw [IntKind.wrap_i64]; omega
      have hjt' : (j : Int) < ln := by omega
      have hkt' : (k : Int) < ln := by omega
      have HF1 : Hid ((!(decide (y.Depart + lateBy trip minutes y < x.Arrive + lateBy trip minutes x + change)) && survGo change trip minutes (ls.drop k)) = survGo change trip minutes ls) := by
        show _ = _
        have h1 := HF.out
        have h2 := HKJ.out
        subst h2
        rw [survGo_at hx.out hy.out] at h1
        exact h1
      clear HF hx hy hxa hyd hkj
      by_cases cx : x.Trip = trip
      · have e1 := (beqi_t cx).1
        have e2 := (beqi_t cx).2
        have HLX : Hid (lateBy trip minutes x = minutes) := if_pos cx
        clear cx
        by_cases cy : y.Trip = trip
        · have e3 := (beqi_t cy).1
          have e4 := (beqi_t cy).2
          have HLY : Hid (lateBy trip minutes y = minutes) := if_pos cy
          clear cy
          by_cases cd : y.Depart + minutes < x.Arrive + minutes + change
          · have HG : Hid (survGo change trip minutes ls = false) := by
              show _ = _
              rw [← HF1.out, HLX.out, HLY.out]
              simp [cd]
            clear HF1
            go_wp2_with fail
            go_region_held3 (fun w' => Later wb w' ∧ Later wx w') (exact ⟨inferInstance, inferInstance⟩) (first
              | ((with_reducible refine (impl_surv1 x _ _ trip minutes HY1.out HY2.out inferInstance).mono ?_); rw [HLX.out]; rintro e w5 ⟨rfl, L5⟩; have X5 := Later.trans (w := wb) inferInstance L5; have Z5 := Later.trans (w := wx) inferInstance L5)
              | ((with_reducible refine (impl_surv1 y _ _ trip minutes HY1.out HY2.out inferInstance).mono ?_); rw [HLY.out]; rintro e w6 ⟨rfl, L6⟩; have X6 := Later.trans (w := wb) inferInstance L6; have Z6 := Later.trans (w := wx) inferInstance L6))
            go_wp2
            go_ret2
            exact ⟨by rw [HG.out]; first | done | rfl, hww.trans inferInstance⟩
          · have HF2 : Hid (survGo change trip minutes (ls.drop k) = survGo change trip minutes ls) := by
              show _ = _
              rw [← HF1.out, HLX.out, HLY.out]
              simp [cd]
            clear HF1
            go_wp2_with fail
            go_region_held3 (fun w' => Later wb w' ∧ Later wx w') (exact ⟨inferInstance, inferInstance⟩) (first
              | ((with_reducible refine (impl_surv1 x _ _ trip minutes HY1.out HY2.out inferInstance).mono ?_); rw [HLX.out]; rintro e w5 ⟨rfl, L5⟩; have X5 := Later.trans (w := wb) inferInstance L5; have Z5 := Later.trans (w := wx) inferInstance L5)
              | ((with_reducible refine (impl_surv1 y _ _ trip minutes HY1.out HY2.out inferInstance).mono ?_); rw [HLY.out]; rintro e w6 ⟨rfl, L6⟩; have X6 := Later.trans (w := wb) inferInstance L6; have Z6 := Later.trans (w := wx) inferInstance L6))
            go_wp2
            go_roundw
            case rel => exact ⟨k + 1, k, rfl, hlt, by go_num, HF2, inferInstance, inferInstance⟩
            case measure => simp [intOf]; omega
        · have e3 := (beqi_f cy).1
          have e4 := (beqi_f cy).2
          have HLY : Hid (lateBy trip minutes y = 0) := if_neg cy
          clear cy
          by_cases cd : y.Depart < x.Arrive + minutes + change
          · have HG : Hid (survGo change trip minutes ls = false) := by
              show _ = _
              rw [← HF1.out, HLX.out, HLY.out]
              simp [cd]
            clear HF1
            go_wp2_with fail
            go_region_held3 (fun w' => Later wb w' ∧ Later wx w') (exact ⟨inferInstance, inferInstance⟩) (first
              | ((with_reducible refine (impl_surv1 x _ _ trip minutes HY1.out HY2.out inferInstance).mono ?_); rw [HLX.out]; rintro e w5 ⟨rfl, L5⟩; have X5 := Later.trans (w := wb) inferInstance L5; have Z5 := Later.trans (w := wx) inferInstance L5)
              | ((with_reducible refine (impl_surv1 y _ _ trip minutes HY1.out HY2.out inferInstance).mono ?_); rw [HLY.out]; rintro e w6 ⟨rfl, L6⟩; have X6 := Later.trans (w := wb) inferInstance L6; have Z6 := Later.trans (w := wx) inferInstance L6))
            go_wp2
            go_ret2
            exact ⟨by rw [HG.out]; first | done | rfl, hww.trans inferInstance⟩
          · have HF2 : Hid (survGo change trip minutes (ls.drop k) = survGo change trip minutes ls) := by
              show _ = _
              rw [← HF1.out, HLX.out, HLY.out]
              simp [cd]
            clear HF1
            go_wp2_with fail
            go_region_held3 (fun w' => Later wb w' ∧ Later wx w') (exact ⟨inferInstance, inferInstance⟩) (first
              | ((with_reducible refine (impl_surv1 x _ _ trip minutes HY1.out HY2.out inferInstance).mono ?_); rw [HLX.out]; rintro e w5 ⟨rfl, L5⟩; have X5 := Later.trans (w := wb) inferInstance L5; have Z5 := Later.trans (w := wx) inferInstance L5)
              | ((with_reducible refine (impl_surv1 y _ _ trip minutes HY1.out HY2.out inferInstance).mono ?_); rw [HLY.out]; rintro e w6 ⟨rfl, L6⟩; have X6 := Later.trans (w := wb) inferInstance L6; have Z6 := Later.trans (w := wx) inferInstance L6))
            go_wp2
            go_roundw
            case rel => exact ⟨k + 1, k, rfl, hlt, by go_num, HF2, inferInstance, inferInstance⟩
            case measure => simp [intOf]; omega
      · have e1 := (beqi_f cx).1
        have e2 := (beqi_f cx).2
        have HLX : Hid (lateBy trip minutes x = 0) := if_neg cx
        clear cx
        by_cases cy : y.Trip = trip
        · have e3 := (beqi_t cy).1
          have e4 := (beqi_t cy).2
          have HLY : Hid (lateBy trip minutes y = minutes) := if_pos cy
          clear cy
          by_cases cd : y.Depart + minutes < x.Arrive + change
          · have HG : Hid (survGo change trip minutes ls = false) := by
              show _ = _
              rw [← HF1.out, HLX.out, HLY.out]
              simp [cd]
            clear HF1
            go_wp2_with fail
            go_region_held3 (fun w' => Later wb w' ∧ Later wx w') (exact ⟨inferInstance, inferInstance⟩) (first
              | ((with_reducible refine (impl_surv1 x _ _ trip minutes HY1.out HY2.out inferInstance).mono ?_); rw [HLX.out]; rintro e w5 ⟨rfl, L5⟩; have X5 := Later.trans (w := wb) inferInstance L5; have Z5 := Later.trans (w := wx) inferInstance L5)
              | ((with_reducible refine (impl_surv1 y _ _ trip minutes HY1.out HY2.out inferInstance).mono ?_); rw [HLY.out]; rintro e w6 ⟨rfl, L6⟩; have X6 := Later.trans (w := wb) inferInstance L6; have Z6 := Later.trans (w := wx) inferInstance L6))
            go_wp2
            go_ret2
            exact ⟨by rw [HG.out]; first | done | rfl, hww.trans inferInstance⟩
          · have HF2 : Hid (survGo change trip minutes (ls.drop k) = survGo change trip minutes ls) := by
              show _ = _
              rw [← HF1.out, HLX.out, HLY.out]
              simp [cd]
            clear HF1
            go_wp2_with fail
            go_region_held3 (fun w' => Later wb w' ∧ Later wx w') (exact ⟨inferInstance, inferInstance⟩) (first
              | ((with_reducible refine (impl_surv1 x _ _ trip minutes HY1.out HY2.out inferInstance).mono ?_); rw [HLX.out]; rintro e w5 ⟨rfl, L5⟩; have X5 := Later.trans (w := wb) inferInstance L5; have Z5 := Later.trans (w := wx) inferInstance L5)
              | ((with_reducible refine (impl_surv1 y _ _ trip minutes HY1.out HY2.out inferInstance).mono ?_); rw [HLY.out]; rintro e w6 ⟨rfl, L6⟩; have X6 := Later.trans (w := wb) inferInstance L6; have Z6 := Later.trans (w := wx) inferInstance L6))
            go_wp2
            go_roundw
            case rel => exact ⟨k + 1, k, rfl, hlt, by go_num, HF2, inferInstance, inferInstance⟩
            case measure => simp [intOf]; omega
        · have e3 := (beqi_f cy).1
          have e4 := (beqi_f cy).2
          have HLY : Hid (lateBy trip minutes y = 0) := if_neg cy
          clear cy
          by_cases cd : y.Depart < x.Arrive + change
          · have HG : Hid (survGo change trip minutes ls = false) := by
              show _ = _
              rw [← HF1.out, HLX.out, HLY.out]
              simp [cd]
            clear HF1
            go_wp2_with fail
            go_region_held3 (fun w' => Later wb w' ∧ Later wx w') (exact ⟨inferInstance, inferInstance⟩) (first
              | ((with_reducible refine (impl_surv1 x _ _ trip minutes HY1.out HY2.out inferInstance).mono ?_); rw [HLX.out]; rintro e w5 ⟨rfl, L5⟩; have X5 := Later.trans (w := wb) inferInstance L5; have Z5 := Later.trans (w := wx) inferInstance L5)
              | ((with_reducible refine (impl_surv1 y _ _ trip minutes HY1.out HY2.out inferInstance).mono ?_); rw [HLY.out]; rintro e w6 ⟨rfl, L6⟩; have X6 := Later.trans (w := wb) inferInstance L6; have Z6 := Later.trans (w := wx) inferInstance L6))
            go_wp2
            go_ret2
            exact ⟨by rw [HG.out]; first | done | rfl, hww.trans inferInstance⟩
          · have HF2 : Hid (survGo change trip minutes (ls.drop k) = survGo change trip minutes ls) := by
              show _ = _
              rw [← HF1.out, HLX.out, HLY.out]
              simp [cd]
            clear HF1
            go_wp2_with fail
            go_region_held3 (fun w' => Later wb w' ∧ Later wx w') (exact ⟨inferInstance, inferInstance⟩) (first
              | ((with_reducible refine (impl_surv1 x _ _ trip minutes HY1.out HY2.out inferInstance).mono ?_); rw [HLX.out]; rintro e w5 ⟨rfl, L5⟩; have X5 := Later.trans (w := wb) inferInstance L5; have Z5 := Later.trans (w := wx) inferInstance L5)
              | ((with_reducible refine (impl_surv1 y _ _ trip minutes HY1.out HY2.out inferInstance).mono ?_); rw [HLY.out]; rintro e w6 ⟨rfl, L6⟩; have X6 := Later.trans (w := wb) inferInstance L6; have Z6 := Later.trans (w := wx) inferInstance L6))
            go_wp2
            go_roundw
            case rel => exact ⟨k + 1, k, rfl, hlt, by go_num, HF2, inferInstance, inferInstance⟩
            case measure => simp [intOf]; omega
    · have HG : Hid (survGo change trip minutes ls = true) := by show _ = _; rw [← HF.out, survGo_last (by have := Hln.out; omega)]
      clear HF
      go_wp2
      go_ret2
      exact ⟨by rw [HG.out]; first | done | rfl, hww.trans inferInstance⟩
end Go.Proofs.Yteeeihnkofoagaa
