/-
  Timetables: when one is valid.
-/
import Derived.Test.YtaopadffabbjiaaTimeB
namespace Go.Proofs.Ytaopadffabbjiaa
open Go Go.RowKit
set_option linter.unusedVariables false
set_option maxRecDepth 100000
theorem tripOk_no1 {t : Timetable} {last : Int} {x : Trip} (h : ¬ (last < x.Id ∧ x.Id ≤ 999)) : tripOk t last x = false := by unfold tripOk; rw [decide_eq_false h]; rfl
theorem tripOk_no2 {t : Timetable} {last : Int} {x : Trip} (h : inB x.Line 0 ((t.Network.Lines.length : Int) - 1) = false) : tripOk t last x = false := by unfold tripOk; rw [h]; simp
theorem tripOk_no3 {t : Timetable} {last : Int} {x : Trip} (h : okTime x.Start = false) : tripOk t last x = false := by unfold tripOk; rw [h]; simp
theorem tripOk_no4 {t : Timetable} {last : Int} {x : Trip} (h : okTime (endAt t x) = false) : tripOk t last x = false := by unfold tripOk; rw [h]; simp
theorem tripOk_yes {t : Timetable} {last : Int} {x : Trip} (h0 : last < x.Id ∧ x.Id ≤ 999) (h1 : inB x.Line 0 ((t.Network.Lines.length : Int) - 1) = true) (h2 : okTime x.Start = true) (h3 : okTime (endAt t x) = true) : tripOk t last x = true := by
  unfold tripOk; rw [decide_eq_true h0, h1, h2, h3]; rfl
def areTrips (t : Timetable) : Bool := decide (t.Trips.length ≤ 12) && tripsGo t t.Trips 0
set_option maxHeartbeats 1000000 in
theorem impl_areTrips {w0 w : World} {sA0 : Option Addr} {sn0 sc0 : Nat} {sA1 : Option Addr} {sn1 sc1 : Nat} {sA2 : Option Addr} {sn2 sc2 : Nat} {t : Timetable} (h : TimetableAt w0 sA0 sn0 sc0 sA1 sn1 sc1 sA2 sn2 sc2 t) (hl : Later w0 w) (nf : NetFacts t.Network) :
    Calls Try.prog 111 #[.agg #[.slice sA0 sn0 sc0, .slice sA1 sn1 sc1, .slice sA2 sn2 sc2]] w (Ret (.bool (areTrips t)) w) := by
  replace h := h.later hl
  have hT := h.l_Trips
  have hn := hT.le
  have Hl := Lib.hid hT.len
  have NF := Lib.hid nf
  clear nf
  by_cases b1 : 12 < sn2
  · have HN : Hid (areTrips t = false) := by show _ = _; unfold areTrips; rw [decide_eq_false (by rw [← Hl.out]; omega)]; rfl
    have HB0 : ∀ W [Later (w.alloc (.cells #[.slice sA0 sn0 sc0, .slice sA1 sn1 sc1, .slice sA2 sn2 sc2] 41)) W] (j : Nat), W.cell? ⟨w.heap.size, j, none⟩ = #[.slice sA0 sn0 sc0, .slice sA1 sn1 sc1, .slice sA2 sn2 sc2][j]? := Later.boxes (t := 41) (fr := (0, 0)) (heap_new (by simp; try omega)); obtain ⟨wb, hwb⟩ : ∃ wb : World, wb = (w.alloc (.cells #[.slice sA0 sn0 sc0, .slice sA1 sn1 sc1, .slice sA2 sn2 sc2] 41)) := ⟨_, rfl⟩; haveI hbW : Later wb (w.alloc (.cells #[.slice sA0 sn0 sc0, .slice sA1 sn1 sc1, .slice sA2 sn2 sc2] 41)) := (by rw [hwb]; exact Later.rfl_); haveI hww : Later w wb := (by rw [hwb]; infer_instance); rw [← hwb] at HB0; have hbE := Lib.hid (congrArg (fun x : World => x.heap.size) hwb); clear hwb
    go_enter Try.func111, Try.ntmps111
    go_wp2
    go_ret
    exact ⟨ret_bool HN.out.symm, hww.trans inferInstance⟩
  have B1 : Hid (t.Trips.length ≤ 12) := by show _ ≤ _; rw [← Hl.out]; omega
  have HB0 : ∀ W [Later (w.alloc (.cells #[.slice sA0 sn0 sc0, .slice sA1 sn1 sc1, .slice sA2 sn2 sc2] 41)) W] (j : Nat), W.cell? ⟨w.heap.size, j, none⟩ = #[.slice sA0 sn0 sc0, .slice sA1 sn1 sc1, .slice sA2 sn2 sc2][j]? := Later.boxes (t := 41) (fr := (0, 0)) (heap_new (by simp; try omega)); obtain ⟨wb, hwb⟩ : ∃ wb : World, wb = (w.alloc (.cells #[.slice sA0 sn0 sc0, .slice sA1 sn1 sc1, .slice sA2 sn2 sc2] 41)) := ⟨_, rfl⟩; haveI hbW : Later wb (w.alloc (.cells #[.slice sA0 sn0 sc0, .slice sA1 sn1 sc1, .slice sA2 sn2 sc2] 41)) := (by rw [hwb]; exact Later.rfl_); haveI hww : Later w wb := (by rw [hwb]; infer_instance); rw [← hwb] at HB0; have hbE := Lib.hid (congrArg (fun x : World => x.heap.size) hwb); clear hwb
  replace h := h.later hww
  replace hT := hT.later hww
  have H := Lib.hid h
  clear h
  go_enter Try.func111, Try.ntmps111
  go_wp2
  go_loopw [3, 13] (fun la i wr => ∃ (k : Nat) (last : Int), k ≤ sn2 ∧ i = .int .i64 k ∧ la = .int .i64 last ∧ Hid (tripsGo t (t.Trips.drop k) last = tripsGo t t.Trips 0) ∧ Later wb wr) (fun _ i _ => sn2 - (intOf i).toNat)
  case atStart => exact ⟨0, 0, by omega, rfl, rfl, rfl, inferInstance⟩
  case round =>
    obtain ⟨k, last, hk, rfl, rfl, HF, hX⟩ := hrel
    have hU := Later.trans (w := w) inferInstance hX
    by_cases hlt : k < sn2
    · obtain ⟨b, o, x, rfl, hx, hc0, hc1, hc2, hi⟩ := Trips.at_ hT hlt
      have HF1 : Hid (tripsGo t t.Trips 0 = (tripOk t last x && tripsGo t (t.Trips.drop (k + 1)) x.Id)) := by rw [← HF.out, drop_at hx.out]; rfl
      clear HF hi hx
      have HBX : ∀ W [Later (wr.alloc (.cells #[.int .i64 x.Id, .int .i64 x.Line, .int .i64 x.Start] 99)) W] (j : Nat), W.cell? ⟨wr.heap.size, j, none⟩ = #[.int .i64 x.Id, .int .i64 x.Line, .int .i64 x.Start][j]? := Later.boxes (t := 99) (fr := (0, 0)) (heap_new (by simp; try omega)); obtain ⟨wx, hwx⟩ : ∃ wx : World, wx = (wr.alloc (.cells #[.int .i64 x.Id, .int .i64 x.Line, .int .i64 x.Start] 99)) := ⟨_, rfl⟩; haveI hxW : Later wx (wr.alloc (.cells #[.int .i64 x.Id, .int .i64 x.Line, .int .i64 x.Start] 99)) := (by rw [hwx]; exact Later.rfl_); haveI hbx : Later wb wx := (by rw [hwx]; infer_instance); rw [← hwx] at HBX; clear hwx
      by_cases c0 : last < x.Id
      rotate_left
      · have c0' : x.Id ≤ last := by omega
        have HL := tripOk_no1 (t := t) (last := last) (x := x) (by omega)
        clear c0
        have HF2 : Hid (areTrips t = false) := by show _ = _; unfold areTrips; rw [HF1.out, HL]; simp
        clear HF1 HL
        go_wp2
        go_ret
        exact ⟨ret_bool HF2.out.symm, hww.trans inferInstance⟩
      by_cases c1 : x.Id ≤ 999
      rotate_left
      · have c1' : 999 < x.Id := by omega
        have HL := tripOk_no1 (t := t) (last := last) (x := x) (by omega)
        clear c1
        have HF2 : Hid (areTrips t = false) := by show _ = _; unfold areTrips; rw [HF1.out, HL]; simp
        clear HF1 HL
        go_wp2
        go_ret
        exact ⟨ret_bool HF2.out.symm, hww.trans inferInstance⟩
      by_cases c2 : inB x.Line 0 ((t.Network.Lines.length : Int) - 1) = true
      rotate_left
      · have c2' : inB x.Line 0 ((t.Network.Lines.length : Int) - 1) = false := by simpa using c2
        clear c2
        have HL := tripOk_no2 (last := last) c2'
        have HF2 : Hid (areTrips t = false) := by show _ = _; unfold areTrips; rw [HF1.out, HL]; simp
        clear HF1 HL
        go_wp2_with (go_at_call 136; refine (impl_isLine (r := t.Network) ⟨H.out.l_Network_Stops, H.out.l_Network_Lines⟩ inferInstance _).mono ?_; rintro e w1 ⟨rfl, L1⟩; have Z1 := Later.trans (w := wx) inferInstance L1; have X1 := Later.trans (w := wb) inferInstance L1)
        go_ret
        exact ⟨ret_bool HF2.out.symm, hww.trans inferInstance⟩
      have hln : Hid (0 ≤ x.Line ∧ x.Line < t.Network.Lines.length) := by have := inB_t.1 c2; exact ⟨by omega, by omega⟩
      by_cases c3 : okTime x.Start = true
      rotate_left
      · have c3' : okTime x.Start = false := by simpa using c3
        clear c3
        have HL := tripOk_no3 (t := t) (last := last) c3'
        have HF2 : Hid (areTrips t = false) := by show _ = _; unfold areTrips; rw [HF1.out, HL]; simp
        clear HF1 HL
        go_wp2_with first
          | (go_at_call 136; refine (impl_isLine (r := t.Network) ⟨H.out.l_Network_Stops, H.out.l_Network_Lines⟩ inferInstance _).mono ?_; rintro e w1 ⟨rfl, L1⟩; have Z1 := Later.trans (w := wx) inferInstance L1; have X1 := Later.trans (w := wb) inferInstance L1)
          | (go_at_call 64; refine (impl_IsValidTime _ _).mono ?_; rintro e w' ⟨rfl, rfl⟩)
        go_ret
        exact ⟨ret_bool HF2.out.symm, hww.trans inferInstance⟩
      have hst : Hid (0 ≤ x.Start ∧ x.Start ≤ 1799) := by have := inB_t.1 c3; exact this
      by_cases c4 : okTime (endAt t x) = true
      rotate_left
      · have c4' : okTime (endAt t x) = false := by simpa using c4
        clear c4
        have HL := tripOk_no4 (t := t) (last := last) c4'
        have HF2 : Hid (areTrips t = false) := by show _ = _; unfold areTrips; rw [HF1.out, HL]; simp
        clear HF1 HL
        go_wp2_with first
          | (go_at_call 136; refine (impl_isLine (r := t.Network) ⟨H.out.l_Network_Stops, H.out.l_Network_Lines⟩ inferInstance _).mono ?_; rintro e w1 ⟨rfl, L1⟩; have Z1 := Later.trans (w := wx) inferInstance L1; have X1 := Later.trans (w := wb) inferInstance L1)
          | (go_at_call 64; refine (impl_IsValidTime _ _).mono ?_; rintro e w' ⟨rfl, rfl⟩)
          | (go_at_call 137; refine (impl_endOf H.out inferInstance NF.out x hln.out.1 hln.out.2 hst.out.1 hst.out.2).mono ?_; rintro e w2 ⟨rfl, L2⟩; have Z2 := Later.trans (w := wx) inferInstance L2; have X2 := Later.trans (w := wb) inferInstance L2)
        go_ret
        exact ⟨ret_bool HF2.out.symm, hww.trans inferInstance⟩
      have HL := tripOk_yes ⟨c0, c1⟩ c2 c3 c4
      have HF2 : Hid (tripsGo t (t.Trips.drop (k + 1)) x.Id = tripsGo t t.Trips 0) := by rw [HF1.out, HL]; rfl
      clear HF1 HL
      go_wp2_with first
        | (go_at_call 136; refine (impl_isLine (r := t.Network) ⟨H.out.l_Network_Stops, H.out.l_Network_Lines⟩ inferInstance _).mono ?_; rintro e w1 ⟨rfl, L1⟩; have Z1 := Later.trans (w := wx) inferInstance L1; have X1 := Later.trans (w := wb) inferInstance L1)
        | (go_at_call 64; refine (impl_IsValidTime _ _).mono ?_; rintro e w' ⟨rfl, rfl⟩)
        | (go_at_call 137; refine (impl_endOf H.out inferInstance NF.out x hln.out.1 hln.out.2 hst.out.1 hst.out.2).mono ?_; rintro e w2 ⟨rfl, L2⟩; have Z2 := Later.trans (w := wx) inferInstance L2; have X2 := Later.trans (w := wb) inferInstance L2)
      go_roundw
      case rel => exact ⟨k + 1, x.Id, by omega, by go_num, rfl, HF2, inferInstance⟩
      case measure => simp [intOf]; omega
    · have HF2 : Hid (areTrips t = true) := by
        show _ = _
        unfold areTrips
        rw [← HF.out, List.drop_eq_nil_of_le (by have := Hl.out; omega), decide_eq_true B1.out]; rfl
      clear HF
      go_wp2
      go_ret
      exact ⟨ret_bool HF2.out.symm, hww.trans inferInstance⟩
theorem okTimetable_are (t : Timetable) : okTimetable t = (okNetwork t.Network && areTrips t) := by unfold okTimetable areTrips; rw [Bool.and_assoc]
theorem impl_IsValidTimetable {w0 w : World} {sA0 : Option Addr} {sn0 sc0 : Nat} {sA1 : Option Addr} {sn1 sc1 : Nat} {sA2 : Option Addr} {sn2 sc2 : Nat} {t : Timetable} (h : TimetableAt w0 sA0 sn0 sc0 sA1 sn1 sc1 sA2 sn2 sc2 t) (hl : Later w0 w) :
    Calls Try.prog 61 #[.agg #[.slice sA0 sn0 sc0, .slice sA1 sn1 sc1, .slice sA2 sn2 sc2]] w (Ret (.bool (okTimetable t)) w) := by
  replace h := h.later hl
  rw [okTimetable_are]
  have HB0 : ∀ W [Later (w.alloc (.cells #[.slice sA0 sn0 sc0, .slice sA1 sn1 sc1, .slice sA2 sn2 sc2] 41)) W] (j : Nat), W.cell? ⟨w.heap.size, j, none⟩ = #[.slice sA0 sn0 sc0, .slice sA1 sn1 sc1, .slice sA2 sn2 sc2][j]? := Later.boxes (t := 41) (fr := (0, 0)) (heap_new (by simp; try omega)); obtain ⟨wb, hwb⟩ : ∃ wb : World, wb = (w.alloc (.cells #[.slice sA0 sn0 sc0, .slice sA1 sn1 sc1, .slice sA2 sn2 sc2] 41)) := ⟨_, rfl⟩; haveI hbW : Later wb (w.alloc (.cells #[.slice sA0 sn0 sc0, .slice sA1 sn1 sc1, .slice sA2 sn2 sc2] 41)) := (by rw [hwb]; exact Later.rfl_); haveI hww : Later w wb := (by rw [hwb]; infer_instance); rw [← hwb] at HB0; have hbE := Lib.hid (congrArg (fun x : World => x.heap.size) hwb); clear hwb
  replace h := h.later hww
  have H := Lib.hid h
  clear h
  by_cases b : okNetwork t.Network = true
  · have NF := Lib.hid (netFacts b)
    go_enter Try.func61, Try.ntmps61
    go_wp2_with first
      | (go_at_call 110; refine (impl_IsValidNetwork (r := t.Network) ⟨H.out.l_Network_Stops, H.out.l_Network_Lines⟩ inferInstance).mono ?_; rintro e w1 ⟨rfl, L1⟩; have X1 := Later.trans (w := wb) inferInstance L1)
      | (go_at_call 111; refine (impl_areTrips H.out inferInstance NF.out).mono ?_; rintro e w2 ⟨rfl, L2⟩; have X2 := Later.trans (w := wb) inferInstance L2)
    go_ret
    exact ⟨ret_bool (by simp [b]), hww.trans inferInstance⟩
  · have b' : okNetwork t.Network = false := by simpa using b
    clear b
    go_enter Try.func61, Try.ntmps61
    go_wp2_with (go_at_call 110; refine (impl_IsValidNetwork (r := t.Network) ⟨H.out.l_Network_Stops, H.out.l_Network_Lines⟩ inferInstance).mono ?_; rintro e w1 ⟨rfl, L1⟩; have X1 := Later.trans (w := wb) inferInstance L1)
    go_ret
    exact ⟨ret_bool (by simp [b']), hww.trans inferInstance⟩
end Go.Proofs.Ytaopadffabbjiaa
