/-
 Blocks: what lies between two trips, and whether one can follow the other.
-/
import Derived.Test.YtknhebakebmlcaaGreatKc
import Derived.Test.YtknhebakebmlcaaGreatTimeD
namespace Go.Proofs.YtknhebakebmlcaaGreat
open Go Go.RowKit
set_option linter.unusedVariables false
set_option maxRecDepth 100000
theorem firstS_of {t : Timetable} {x : Trip} {s : Int} (h : (lineAtT t x.Line).Stops[0]? = some s) : firstS t x = s := by simp [firstS, List.getD, h]
theorem lastS_of {t : Timetable} {x : Trip} {s : Int} {m : Nat} (hl : m + 1 = (lineAtT t x.Line).Stops.length) (h : (lineAtT t x.Line).Stops[m]? = some s) : lastS t x = s := by
 unfold lastS
 rw [← hl]
 simp [List.getD, h]
theorem deadB_of {t : Timetable} {f : Fleet} {a b : Trip} {i j : Nat} {row : List Int} {d : Int} (hi : lastS t a = i) (hj : firstS t b = j) (hr : f.Dead[i]? = some row) (hd : row[j]? = some d) : deadB t f a b = d := by
 unfold deadB; rw [hi, hj]; simp [List.getD, hr, hd]
theorem impl_isRun {w0 w w2 : World} {sA0 : Option Addr} {sn0 sc0 : Nat} {sA1 : Option Addr} {sn1 sc1 : Nat} {sA2 : Option Addr} {sn2 sc2 : Nat} {t : Timetable} (h : TimetableAt w0 sA0 sn0 sc0 sA1 sn1 sc1 sA2 sn2 sc2 t) (hl : Later w0 w) {qA0 : Option Addr} {qn0 qc0 : Nat} {f : Fleet} (h2 : FleetAt w2 qA0 qn0 qc0 f) (hl2 : Later w2 w) :
  Calls Tryz.prog 92 #[.agg #[.slice sA0 sn0 sc0, .slice sA1 sn1 sc1, .slice sA2 sn2 sc2], .agg #[.slice qA0 qn0 qc0, .int .i64 f.Turn]] w (Ret (.bool (okRun t f)) w) := by
 have HB0 : ∀ W [Later ((w.alloc (.cells #[.slice sA0 sn0 sc0, .slice sA1 sn1 sc1, .slice sA2 sn2 sc2] 44)).alloc (.cells #[.slice qA0 qn0 qc0, .int .i64 f.Turn] 46)) W] (j : Nat), W.cell? ⟨w.heap.size, j, none⟩ = #[.slice sA0 sn0 sc0, .slice sA1 sn1 sc1, .slice sA2 sn2 sc2][j]? := Later.boxes (t := 44) (fr := (0, 0)) ((heap_old (by simp; try omega)).trans (heap_new (by simp; try omega))); have HB1 : ∀ W [Later ((w.alloc (.cells #[.slice sA0 sn0 sc0, .slice sA1 sn1 sc1, .slice sA2 sn2 sc2] 44)).alloc (.cells #[.slice qA0 qn0 qc0, .int .i64 f.Turn] 46)) W] (j : Nat), W.cell? ⟨w.heap.size + 1, j, none⟩ = #[.slice qA0 qn0 qc0, .int .i64 f.Turn][j]? := Later.boxes (t := 46) (fr := (0, 0)) (heap_new (by simp; try omega)); obtain ⟨wb, hwb⟩ : ∃ wb : World, wb = ((w.alloc (.cells #[.slice sA0 sn0 sc0, .slice sA1 sn1 sc1, .slice sA2 sn2 sc2] 44)).alloc (.cells #[.slice qA0 qn0 qc0, .int .i64 f.Turn] 46)) := ⟨_, rfl⟩; haveI hbW : Later wb ((w.alloc (.cells #[.slice sA0 sn0 sc0, .slice sA1 sn1 sc1, .slice sA2 sn2 sc2] 44)).alloc (.cells #[.slice qA0 qn0 qc0, .int .i64 f.Turn] 46)) := (by rw [hwb]; exact Later.rfl_); haveI hww : Later w wb := (by rw [hwb]; infer_instance); rw [← hwb] at HB0; rw [← hwb] at HB1; have hbE := Lib.hid (congrArg (fun x : World => x.heap.size) hwb); clear hwb
 have hwb0 := hl.trans hww
 have hwb2 := hl2.trans hww
 have H := Lib.hid h
 have H2 := Lib.hid h2
 clear h h2
 by_cases b : okTimetable t = true
 ·go_enter Tryz.func92, Tryz.ntmps92
  go_wp2_with first
   | (go_at_call 111; refine (impl_IsValidTimetable H.out (hwb0.trans inferInstance)).mono ?_; rintro e w1 ⟨rfl, L1⟩; have X1 := Later.trans (w := wb) inferInstance L1)
   | (go_at_call 112; refine (impl_isFleet (n := t.Network) ⟨H.out.l_Network_Stops, H.out.l_Network_Lines⟩ (hwb0.trans inferInstance) H2.out (hwb2.trans inferInstance)).mono ?_; rintro e w3 ⟨rfl, L2⟩; have X2 := Later.trans (w := wb) inferInstance L2)
  go_ret
  exact ⟨ret_bool (by unfold okRun; simp [b]), hww.trans inferInstance⟩
 ·have b' : okTimetable t = false := by simpa using b
  clear b
  go_enter Tryz.func92, Tryz.ntmps92
  go_wp2_with (go_at_call 111; refine (impl_IsValidTimetable H.out (hwb0.trans inferInstance)).mono ?_; rintro e w1 ⟨rfl, L1⟩; have X1 := Later.trans (w := wb) inferInstance L1)
  go_ret
  exact ⟨ret_bool (by unfold okRun; simp [b']), hww.trans inferInstance⟩
theorem spec_l11Asked {w0 w w2 : World} {sA0 : Option Addr} {sn0 sc0 : Nat} {sA1 : Option Addr} {sn1 sc1 : Nat} {sA2 : Option Addr} {sn2 sc2 : Nat} {t : Timetable} (h : TimetableAt w0 sA0 sn0 sc0 sA1 sn1 sc1 sA2 sn2 sc2 t) (hl : Later w0 w) {qA0 : Option Addr} {qn0 qc0 : Nat} {f : Fleet} (h2 : FleetAt w2 qA0 qn0 qc0 f) (hl2 : Later w2 w) :
  Calls Tryz.prog 84 #[.agg #[.slice sA0 sn0 sc0, .slice sA1 sn1 sc1, .slice sA2 sn2 sc2], .agg #[.slice qA0 qn0 qc0, .int .i64 f.Turn]] w (Ret (.bool (okRun t f)) w) := by
 have HB0 : ∀ W [Later ((w.alloc (.cells #[.slice sA0 sn0 sc0, .slice sA1 sn1 sc1, .slice sA2 sn2 sc2] 44)).alloc (.cells #[.slice qA0 qn0 qc0, .int .i64 f.Turn] 46)) W] (j : Nat), W.cell? ⟨w.heap.size, j, none⟩ = #[.slice sA0 sn0 sc0, .slice sA1 sn1 sc1, .slice sA2 sn2 sc2][j]? := Later.boxes (t := 44) (fr := (0, 0)) ((heap_old (by simp; try omega)).trans (heap_new (by simp; try omega))); have HB1 : ∀ W [Later ((w.alloc (.cells #[.slice sA0 sn0 sc0, .slice sA1 sn1 sc1, .slice sA2 sn2 sc2] 44)).alloc (.cells #[.slice qA0 qn0 qc0, .int .i64 f.Turn] 46)) W] (j : Nat), W.cell? ⟨w.heap.size + 1, j, none⟩ = #[.slice qA0 qn0 qc0, .int .i64 f.Turn][j]? := Later.boxes (t := 46) (fr := (0, 0)) (heap_new (by simp; try omega)); obtain ⟨wb, hwb⟩ : ∃ wb : World, wb = ((w.alloc (.cells #[.slice sA0 sn0 sc0, .slice sA1 sn1 sc1, .slice sA2 sn2 sc2] 44)).alloc (.cells #[.slice qA0 qn0 qc0, .int .i64 f.Turn] 46)) := ⟨_, rfl⟩; haveI hbW : Later wb ((w.alloc (.cells #[.slice sA0 sn0 sc0, .slice sA1 sn1 sc1, .slice sA2 sn2 sc2] 44)).alloc (.cells #[.slice qA0 qn0 qc0, .int .i64 f.Turn] 46)) := (by rw [hwb]; exact Later.rfl_); haveI hww : Later w wb := (by rw [hwb]; infer_instance); rw [← hwb] at HB0; rw [← hwb] at HB1; have hbE := Lib.hid (congrArg (fun x : World => x.heap.size) hwb); clear hwb
 have hwb0 := hl.trans hww
 have hwb2 := hl2.trans hww
 have H := Lib.hid h
 have H2 := Lib.hid h2
 clear h h2
 by_cases b : okTimetable t = true
 ·have b2 : okNetwork t.Network = true := by simp only [okTimetable, Bool.and_eq_true] at b; exact b.1.1
  have B2 := Lib.hid b2
  clear b2
  go_enter Tryz.func84, Tryz.ntmps84
  go_wp2_with first
   | (go_at_call 106; refine (spec_l5Good H.out (hwb0.trans inferInstance)).mono ?_; rintro e w1 ⟨rfl, L1⟩; have X1 := Later.trans (w := wb) inferInstance L1)
   | (go_at_call 107; refine (spec_l11Fleet (n := t.Network) ⟨H.out.l_Network_Stops, H.out.l_Network_Lines⟩ (hwb0.trans inferInstance) H2.out (hwb2.trans inferInstance)).mono ?_; rintro e w3 ⟨rfl, L2⟩; have X2 := Later.trans (w := wb) inferInstance L2)
  go_ret
  exact ⟨ret_bool (by unfold okRun okFleet; rw [B2.out]; simp [b]), hww.trans inferInstance⟩
 ·have b' : okTimetable t = false := by simpa using b
  clear b
  go_enter Tryz.func84, Tryz.ntmps84
  go_wp2_with (go_at_call 106; refine (spec_l5Good H.out (hwb0.trans inferInstance)).mono ?_; rintro e w1 ⟨rfl, L1⟩; have X1 := Later.trans (w := wb) inferInstance L1)
  go_ret
  exact ⟨ret_bool (by unfold okRun; simp [b']), hww.trans inferInstance⟩
theorem impl_firstStop {w0 w : World} {sA0 : Option Addr} {sn0 sc0 : Nat} {sA1 : Option Addr} {sn1 sc1 : Nat} {sA2 : Option Addr} {sn2 sc2 : Nat} {t : Timetable} (h : TimetableAt w0 sA0 sn0 sc0 sA1 sn1 sc1 sA2 sn2 sc2 t) (hl : Later w0 w) (nf : NetFacts t.Network) (x : Trip) (hx0 : 0 ≤ x.Line) (hx1 : x.Line < t.Network.Lines.length) :
  Calls Tryz.prog 164 #[.agg #[.slice sA0 sn0 sc0, .slice sA1 sn1 sc1, .slice sA2 sn2 sc2], .agg #[.int .i64 x.Id, .int .i64 x.Line, .int .i64 x.Start]] w (Ret (.int .i64 (firstS t x)) w) := by
 have lf := lineAtT_facts nf hx0 hx1
 have HB0 : ∀ W [Later ((w.alloc (.cells #[.slice sA0 sn0 sc0, .slice sA1 sn1 sc1, .slice sA2 sn2 sc2] 44)).alloc (.cells #[.int .i64 x.Id, .int .i64 x.Line, .int .i64 x.Start] 82)) W] (j : Nat), W.cell? ⟨w.heap.size, j, none⟩ = #[.slice sA0 sn0 sc0, .slice sA1 sn1 sc1, .slice sA2 sn2 sc2][j]? := Later.boxes (t := 44) (fr := (0, 0)) ((heap_old (by simp; try omega)).trans (heap_new (by simp; try omega))); have HB1 : ∀ W [Later ((w.alloc (.cells #[.slice sA0 sn0 sc0, .slice sA1 sn1 sc1, .slice sA2 sn2 sc2] 44)).alloc (.cells #[.int .i64 x.Id, .int .i64 x.Line, .int .i64 x.Start] 82)) W] (j : Nat), W.cell? ⟨w.heap.size + 1, j, none⟩ = #[.int .i64 x.Id, .int .i64 x.Line, .int .i64 x.Start][j]? := Later.boxes (t := 82) (fr := (0, 0)) (heap_new (by simp; try omega)); obtain ⟨wb, hwb⟩ : ∃ wb : World, wb = ((w.alloc (.cells #[.slice sA0 sn0 sc0, .slice sA1 sn1 sc1, .slice sA2 sn2 sc2] 44)).alloc (.cells #[.int .i64 x.Id, .int .i64 x.Line, .int .i64 x.Start] 82)) := ⟨_, rfl⟩; haveI hbW : Later wb ((w.alloc (.cells #[.slice sA0 sn0 sc0, .slice sA1 sn1 sc1, .slice sA2 sn2 sc2] 44)).alloc (.cells #[.int .i64 x.Id, .int .i64 x.Line, .int .i64 x.Start] 82)) := (by rw [hwb]; exact Later.rfl_); haveI hww : Later w wb := (by rw [hwb]; infer_instance); rw [← hwb] at HB0; rw [← hwb] at HB1; have hbE := Lib.hid (congrArg (fun x : World => x.heap.size) hwb); clear hwb
 have hwb0 := hl.trans hww
 have H := Lib.hid h
 have LF := Lib.hid lf
 have hfl := field_Line1
 clear h lf
 go_enter Tryz.func164, Tryz.ntmps164
 go_wp2_with ((go_at_call 187; refine (impl_lineOf H.out (hwb0.trans inferInstance) x hx0 hx1).mono ?_; rintro e w1 ⟨A0, n0, c0, A1, n1, c1, rfl, hy, L1⟩; have X1 := Later.trans (w := wb) inferInstance L1; have hS := hy.l_Stops.later hwb0; have hn0 : 0 < n0 := (by rw [hS.len]; have := LF.out.stops; omega); obtain ⟨b, o, s, rfl, hs, hcs, _⟩ := Ints.at_ hS hn0; (simp only [Nat.add_zero] at hcs); clear hy hS))
 go_ret
 exact ⟨ret_int (firstS_of hs.out).symm, hww.trans inferInstance⟩
theorem impl_lastStop {w0 w : World} {sA0 : Option Addr} {sn0 sc0 : Nat} {sA1 : Option Addr} {sn1 sc1 : Nat} {sA2 : Option Addr} {sn2 sc2 : Nat} {t : Timetable} (h : TimetableAt w0 sA0 sn0 sc0 sA1 sn1 sc1 sA2 sn2 sc2 t) (hl : Later w0 w) (nf : NetFacts t.Network) (x : Trip) (hx0 : 0 ≤ x.Line) (hx1 : x.Line < t.Network.Lines.length) :
  Calls Tryz.prog 163 #[.agg #[.slice sA0 sn0 sc0, .slice sA1 sn1 sc1, .slice sA2 sn2 sc2], .agg #[.int .i64 x.Id, .int .i64 x.Line, .int .i64 x.Start]] w (Ret (.int .i64 (lastS t x)) w) := by
 have lf := lineAtT_facts nf hx0 hx1
 have HB0 : ∀ W [Later ((w.alloc (.cells #[.slice sA0 sn0 sc0, .slice sA1 sn1 sc1, .slice sA2 sn2 sc2] 44)).alloc (.cells #[.int .i64 x.Id, .int .i64 x.Line, .int .i64 x.Start] 82)) W] (j : Nat), W.cell? ⟨w.heap.size, j, none⟩ = #[.slice sA0 sn0 sc0, .slice sA1 sn1 sc1, .slice sA2 sn2 sc2][j]? := Later.boxes (t := 44) (fr := (0, 0)) ((heap_old (by simp; try omega)).trans (heap_new (by simp; try omega))); have HB1 : ∀ W [Later ((w.alloc (.cells #[.slice sA0 sn0 sc0, .slice sA1 sn1 sc1, .slice sA2 sn2 sc2] 44)).alloc (.cells #[.int .i64 x.Id, .int .i64 x.Line, .int .i64 x.Start] 82)) W] (j : Nat), W.cell? ⟨w.heap.size + 1, j, none⟩ = #[.int .i64 x.Id, .int .i64 x.Line, .int .i64 x.Start][j]? := Later.boxes (t := 82) (fr := (0, 0)) (heap_new (by simp; try omega)); obtain ⟨wb, hwb⟩ : ∃ wb : World, wb = ((w.alloc (.cells #[.slice sA0 sn0 sc0, .slice sA1 sn1 sc1, .slice sA2 sn2 sc2] 44)).alloc (.cells #[.int .i64 x.Id, .int .i64 x.Line, .int .i64 x.Start] 82)) := ⟨_, rfl⟩; haveI hbW : Later wb ((w.alloc (.cells #[.slice sA0 sn0 sc0, .slice sA1 sn1 sc1, .slice sA2 sn2 sc2] 44)).alloc (.cells #[.int .i64 x.Id, .int .i64 x.Line, .int .i64 x.Start] 82)) := (by rw [hwb]; exact Later.rfl_); haveI hww : Later w wb := (by rw [hwb]; infer_instance); rw [← hwb] at HB0; rw [← hwb] at HB1; have hbE := Lib.hid (congrArg (fun x : World => x.heap.size) hwb); clear hwb
 have hwb0 := hl.trans hww
 have H := Lib.hid h
 have LF := Lib.hid lf
 have hfl := field_Line1
 clear h lf
 go_enter Tryz.func163, Tryz.ntmps163
 go_wp2_with ((go_at_call 187; refine (impl_lineOf H.out (hwb0.trans inferInstance) x hx0 hx1).mono ?_; rintro e w1 ⟨A0, n0, c0, A1, n1, c1, rfl, hy, L1⟩; have X1 := Later.trans (w := wb) inferInstance L1; have hS := hy.l_Stops.later hwb0; have hle := hS.le; have HL : Hid (n0 = (lineAtT t x.Line).Stops.length) := hS.len; obtain ⟨m, rfl⟩ : ∃ m : Nat, n0 = m + 1 := ⟨n0 - 1, by have := HL.out; have := LF.out.stops; omega⟩; obtain ⟨b, o, s, rfl, hs, hcs, _⟩ := Ints.at_ hS (show m < m + 1 by omega); clear hy hS))
 go_ret
 exact ⟨ret_int (lastS_of HL.out hs.out).symm, hww.trans inferInstance⟩
set_option maxHeartbeats 400000 in
theorem impl_deadBetween {w0 w w2 : World} {sA0 : Option Addr} {sn0 sc0 : Nat} {sA1 : Option Addr} {sn1 sc1 : Nat} {sA2 : Option Addr} {sn2 sc2 : Nat} {t : Timetable} (h : TimetableAt w0 sA0 sn0 sc0 sA1 sn1 sc1 sA2 sn2 sc2 t) (hl : Later w0 w) {qA0 : Option Addr} {qn0 qc0 : Nat} {f : Fleet} (h2 : FleetAt w2 qA0 qn0 qc0 f) (hl2 : Later w2 w) (nf : NetFacts t.Network) (ff : FleetFacts t.Network.Stops.length f) (a b : Trip) (ta : TripIn t a) (tb : TripIn t b) :
  Calls Tryz.prog 137 #[.agg #[.slice sA0 sn0 sc0, .slice sA1 sn1 sc1, .slice sA2 sn2 sc2], .agg #[.slice qA0 qn0 qc0, .int .i64 f.Turn], .agg #[.int .i64 a.Id, .int .i64 a.Line, .int .i64 a.Start], .agg #[.int .i64 b.Id, .int .i64 b.Line, .int .i64 b.Start]] w (Ret (.int .i64 (deadB t f a b)) w) := by
 have h20 := h2
 have HB0 : ∀ W [Later ((((w.alloc (.cells #[.slice sA0 sn0 sc0, .slice sA1 sn1 sc1, .slice sA2 sn2 sc2] 44)).alloc (.cells #[.slice qA0 qn0 qc0, .int .i64 f.Turn] 46)).alloc (.cells #[.int .i64 a.Id, .int .i64 a.Line, .int .i64 a.Start] 82)).alloc (.cells #[.int .i64 b.Id, .int .i64 b.Line, .int .i64 b.Start] 82)) W] (j : Nat), W.cell? ⟨w.heap.size, j, none⟩ = #[.slice sA0 sn0 sc0, .slice sA1 sn1 sc1, .slice sA2 sn2 sc2][j]? := Later.boxes (t := 44) (fr := (0, 0)) ((heap_old (by simp; try omega)).trans ((heap_old (by simp; try omega)).trans ((heap_old (by simp; try omega)).trans (heap_new (by simp; try omega))))); have HB1 : ∀ W [Later ((((w.alloc (.cells #[.slice sA0 sn0 sc0, .slice sA1 sn1 sc1, .slice sA2 sn2 sc2] 44)).alloc (.cells #[.slice qA0 qn0 qc0, .int .i64 f.Turn] 46)).alloc (.cells #[.int .i64 a.Id, .int .i64 a.Line, .int .i64 a.Start] 82)).alloc (.cells #[.int .i64 b.Id, .int .i64 b.Line, .int .i64 b.Start] 82)) W] (j : Nat), W.cell? ⟨w.heap.size + 1, j, none⟩ = #[.slice qA0 qn0 qc0, .int .i64 f.Turn][j]? := Later.boxes (t := 46) (fr := (0, 0)) ((heap_old (by simp; try omega)).trans ((heap_old (by simp; try omega)).trans (heap_new (by simp; try omega)))); have HB2 : ∀ W [Later ((((w.alloc (.cells #[.slice sA0 sn0 sc0, .slice sA1 sn1 sc1, .slice sA2 sn2 sc2] 44)).alloc (.cells #[.slice qA0 qn0 qc0, .int .i64 f.Turn] 46)).alloc (.cells #[.int .i64 a.Id, .int .i64 a.Line, .int .i64 a.Start] 82)).alloc (.cells #[.int .i64 b.Id, .int .i64 b.Line, .int .i64 b.Start] 82)) W] (j : Nat), W.cell? ⟨w.heap.size + 1 + 1, j, none⟩ = #[.int .i64 a.Id, .int .i64 a.Line, .int .i64 a.Start][j]? := Later.boxes (t := 82) (fr := (0, 0)) ((heap_old (by simp; try omega)).trans (heap_new (by simp; try omega))); have HB3 : ∀ W [Later ((((w.alloc (.cells #[.slice sA0 sn0 sc0, .slice sA1 sn1 sc1, .slice sA2 sn2 sc2] 44)).alloc (.cells #[.slice qA0 qn0 qc0, .int .i64 f.Turn] 46)).alloc (.cells #[.int .i64 a.Id, .int .i64 a.Line, .int .i64 a.Start] 82)).alloc (.cells #[.int .i64 b.Id, .int .i64 b.Line, .int .i64 b.Start] 82)) W] (j : Nat), W.cell? ⟨w.heap.size + 1 + 1 + 1, j, none⟩ = #[.int .i64 b.Id, .int .i64 b.Line, .int .i64 b.Start][j]? := Later.boxes (t := 82) (fr := (0, 0)) (heap_new (by simp; try omega)); obtain ⟨wb, hwb⟩ : ∃ wb : World, wb = ((((w.alloc (.cells #[.slice sA0 sn0 sc0, .slice sA1 sn1 sc1, .slice sA2 sn2 sc2] 44)).alloc (.cells #[.slice qA0 qn0 qc0, .int .i64 f.Turn] 46)).alloc (.cells #[.int .i64 a.Id, .int .i64 a.Line, .int .i64 a.Start] 82)).alloc (.cells #[.int .i64 b.Id, .int .i64 b.Line, .int .i64 b.Start] 82)) := ⟨_, rfl⟩; haveI hbW : Later wb ((((w.alloc (.cells #[.slice sA0 sn0 sc0, .slice sA1 sn1 sc1, .slice sA2 sn2 sc2] 44)).alloc (.cells #[.slice qA0 qn0 qc0, .int .i64 f.Turn] 46)).alloc (.cells #[.int .i64 a.Id, .int .i64 a.Line, .int .i64 a.Start] 82)).alloc (.cells #[.int .i64 b.Id, .int .i64 b.Line, .int .i64 b.Start] 82)) := (by rw [hwb]; exact Later.rfl_); haveI hww : Later w wb := (by rw [hwb]; infer_instance); rw [← hwb] at HB0; rw [← hwb] at HB1; rw [← hwb] at HB2; rw [← hwb] at HB3; have hbE := Lib.hid (congrArg (fun x : World => x.heap.size) hwb); clear hwb
 have hwb0 := hl.trans hww
 have hwb2 := hl2.trans hww
 have H := Lib.hid h
 have NF := Lib.hid nf
 have TA := Lib.hid ta
 have TB := Lib.hid tb
 have hD := h2.l_Dead.later hwb2
 have hdl := hD.le
 have k1 := lastS_bd nf ta.line0 ta.line1
 have k2 := firstS_bd nf tb.line0 tb.line1
 obtain ⟨i, hi⟩ := Int.eq_ofNat_of_zero_le k1.1
 obtain ⟨j, hj⟩ := Int.eq_ofNat_of_zero_le k2.1
 have hin : i < qn0 := by rw [hD.len, ff.len]; omega
 obtain ⟨b1, o1, A1, n1, c1, row, rfl, hr, hcr, hrow⟩ := Sl.row_ hD hin
 have hjn : j < n1 := by rw [hrow.len, (ff.row i row hr.out).1]; omega
 have hrl := hrow.le
 obtain ⟨b2, o2, d, rfl, hd, hcd, _⟩ := Ints.at_ hrow hjn
 have HE : Hid (deadB t f a b = d) := deadB_of hi hj hr.out hd.out
 have HI := Lib.hid hi
 have HJ := Lib.hid hj
 clear h h2 h20 nf ta tb hD hr hrow hd hi hj k1 k2 ff
 go_enter Tryz.func137, Tryz.ntmps137
 go_wp2_with fail
 go_region_held3 (fun w' => Later wb w') (exact inferInstance) (first
  | (go_at_call 163; refine (impl_lastStop H.out (hwb0.trans inferInstance) NF.out a TA.out.line0 TA.out.line1).mono ?_; rw [HI.out]; rintro e w3 ⟨rfl, L3⟩; have X3 := Later.trans (w := wb) inferInstance L3)
  | (go_at_call 164; refine (impl_firstStop H.out (hwb0.trans inferInstance) NF.out b TB.out.line0 TB.out.line1).mono ?_; rw [HJ.out]; rintro e w4 ⟨rfl, L4⟩; have X4 := Later.trans (w := wb) inferInstance L4))
 go_wp2
 go_ret
 exact ⟨ret_int HE.out.symm, hww.trans inferInstance⟩
set_option maxHeartbeats 400000 in
theorem impl_canFollow {w0 w w2 : World} {sA0 : Option Addr} {sn0 sc0 : Nat} {sA1 : Option Addr} {sn1 sc1 : Nat} {sA2 : Option Addr} {sn2 sc2 : Nat} {t : Timetable} (h : TimetableAt w0 sA0 sn0 sc0 sA1 sn1 sc1 sA2 sn2 sc2 t) (hl : Later w0 w) {qA0 : Option Addr} {qn0 qc0 : Nat} {f : Fleet} (h2 : FleetAt w2 qA0 qn0 qc0 f) (hl2 : Later w2 w) (nf : NetFacts t.Network) (ff : FleetFacts t.Network.Stops.length f) (a b : Trip) (ta : TripFacts t a) (tb : TripFacts t b) :
  Calls Tryz.prog 113 #[.agg #[.slice sA0 sn0 sc0, .slice sA1 sn1 sc1, .slice sA2 sn2 sc2], .agg #[.slice qA0 qn0 qc0, .int .i64 f.Turn], .agg #[.int .i64 a.Id, .int .i64 a.Line, .int .i64 a.Start], .agg #[.int .i64 b.Id, .int .i64 b.Line, .int .i64 b.Start]] w (Ret (.bool (canF t f a b)) w) := by
 have HB0 : ∀ W [Later ((((w.alloc (.cells #[.slice sA0 sn0 sc0, .slice sA1 sn1 sc1, .slice sA2 sn2 sc2] 44)).alloc (.cells #[.slice qA0 qn0 qc0, .int .i64 f.Turn] 46)).alloc (.cells #[.int .i64 a.Id, .int .i64 a.Line, .int .i64 a.Start] 82)).alloc (.cells #[.int .i64 b.Id, .int .i64 b.Line, .int .i64 b.Start] 82)) W] (j : Nat), W.cell? ⟨w.heap.size, j, none⟩ = #[.slice sA0 sn0 sc0, .slice sA1 sn1 sc1, .slice sA2 sn2 sc2][j]? := Later.boxes (t := 44) (fr := (0, 0)) ((heap_old (by simp; try omega)).trans ((heap_old (by simp; try omega)).trans ((heap_old (by simp; try omega)).trans (heap_new (by simp; try omega))))); have HB1 : ∀ W [Later ((((w.alloc (.cells #[.slice sA0 sn0 sc0, .slice sA1 sn1 sc1, .slice sA2 sn2 sc2] 44)).alloc (.cells #[.slice qA0 qn0 qc0, .int .i64 f.Turn] 46)).alloc (.cells #[.int .i64 a.Id, .int .i64 a.Line, .int .i64 a.Start] 82)).alloc (.cells #[.int .i64 b.Id, .int .i64 b.Line, .int .i64 b.Start] 82)) W] (j : Nat), W.cell? ⟨w.heap.size + 1, j, none⟩ = #[.slice qA0 qn0 qc0, .int .i64 f.Turn][j]? := Later.boxes (t := 46) (fr := (0, 0)) ((heap_old (by simp; try omega)).trans ((heap_old (by simp; try omega)).trans (heap_new (by simp; try omega)))); have HB2 : ∀ W [Later ((((w.alloc (.cells #[.slice sA0 sn0 sc0, .slice sA1 sn1 sc1, .slice sA2 sn2 sc2] 44)).alloc (.cells #[.slice qA0 qn0 qc0, .int .i64 f.Turn] 46)).alloc (.cells #[.int .i64 a.Id, .int .i64 a.Line, .int .i64 a.Start] 82)).alloc (.cells #[.int .i64 b.Id, .int .i64 b.Line, .int .i64 b.Start] 82)) W] (j : Nat), W.cell? ⟨w.heap.size + 1 + 1, j, none⟩ = #[.int .i64 a.Id, .int .i64 a.Line, .int .i64 a.Start][j]? := Later.boxes (t := 82) (fr := (0, 0)) ((heap_old (by simp; try omega)).trans (heap_new (by simp; try omega))); have HB3 : ∀ W [Later ((((w.alloc (.cells #[.slice sA0 sn0 sc0, .slice sA1 sn1 sc1, .slice sA2 sn2 sc2] 44)).alloc (.cells #[.slice qA0 qn0 qc0, .int .i64 f.Turn] 46)).alloc (.cells #[.int .i64 a.Id, .int .i64 a.Line, .int .i64 a.Start] 82)).alloc (.cells #[.int .i64 b.Id, .int .i64 b.Line, .int .i64 b.Start] 82)) W] (j : Nat), W.cell? ⟨w.heap.size + 1 + 1 + 1, j, none⟩ = #[.int .i64 b.Id, .int .i64 b.Line, .int .i64 b.Start][j]? := Later.boxes (t := 82) (fr := (0, 0)) (heap_new (by simp; try omega)); obtain ⟨wb, hwb⟩ : ∃ wb : World, wb = ((((w.alloc (.cells #[.slice sA0 sn0 sc0, .slice sA1 sn1 sc1, .slice sA2 sn2 sc2] 44)).alloc (.cells #[.slice qA0 qn0 qc0, .int .i64 f.Turn] 46)).alloc (.cells #[.int .i64 a.Id, .int .i64 a.Line, .int .i64 a.Start] 82)).alloc (.cells #[.int .i64 b.Id, .int .i64 b.Line, .int .i64 b.Start] 82)) := ⟨_, rfl⟩; haveI hbW : Later wb ((((w.alloc (.cells #[.slice sA0 sn0 sc0, .slice sA1 sn1 sc1, .slice sA2 sn2 sc2] 44)).alloc (.cells #[.slice qA0 qn0 qc0, .int .i64 f.Turn] 46)).alloc (.cells #[.int .i64 a.Id, .int .i64 a.Line, .int .i64 a.Start] 82)).alloc (.cells #[.int .i64 b.Id, .int .i64 b.Line, .int .i64 b.Start] 82)) := (by rw [hwb]; exact Later.rfl_); haveI hww : Later w wb := (by rw [hwb]; infer_instance); rw [← hwb] at HB0; rw [← hwb] at HB1; rw [← hwb] at HB2; rw [← hwb] at HB3; have hbE := Lib.hid (congrArg (fun x : World => x.heap.size) hwb); clear hwb
 have hwb0 := hl.trans hww
 have hwb2 := hl2.trans hww
 have H := Lib.hid h
 have H2 := Lib.hid h2
 have NF := Lib.hid nf
 have FF := Lib.hid ff
 have TA := Lib.hid ta
 have TB := Lib.hid tb
 have k1 := deadB_bd nf ff ta.line0 ta.line1 tb.line0 tb.line1
 have e1 := ta.fin
 have e2 := ff.turn
 have d1 := k1.1
 have d2 := k1.2
 have d3 := e1.1
 have d4 := e1.2
 have d5 := e2.1
 have d6 := e2.2
 have hw1 : IntKind.i64.wrap (endAt t a + f.Turn) = endAt t a + f.Turn := by rw [IntKind.wrap_i64]; omega
 have hw2 : IntKind.i64.wrap (endAt t a + f.Turn + deadB t f a b) = endAt t a + f.Turn + deadB t f a b := by rw [IntKind.wrap_i64]; omega
 clear h h2 nf ta tb ff k1 e1 e2
 go_enter Tryz.func113, Tryz.ntmps113
 go_wp2_with fail
 go_region_held3 (fun w' => Later wb w') (exact inferInstance) (first
  | (go_at_call 136; refine (impl_endOf H.out (hwb0.trans inferInstance) NF.out a TA.out.line0 TA.out.line1 TA.out.start.1 TA.out.start.2).mono ?_; rintro e w3 ⟨rfl, L3⟩; have X3 := Later.trans (w := wb) inferInstance L3)
  | (go_at_call 137; refine (impl_deadBetween H.out (hwb0.trans inferInstance) H2.out (hwb2.trans inferInstance) NF.out FF.out a b TA.out.in_ TB.out.in_).mono ?_; rintro e w4 ⟨rfl, L4⟩; have X4 := Later.trans (w := wb) inferInstance L4))
 clear hw1 hw2
 go_wp2
 go_ret
 exact ⟨rfl, hww.trans inferInstance⟩
set_option maxHeartbeats 400000 in
theorem spec_l11Dead {w0 w w2 : World} {sA0 : Option Addr} {sn0 sc0 : Nat} {sA1 : Option Addr} {sn1 sc1 : Nat} {sA2 : Option Addr} {sn2 sc2 : Nat} {t : Timetable} (h : TimetableAt w0 sA0 sn0 sc0 sA1 sn1 sc1 sA2 sn2 sc2 t) (hl : Later w0 w) {qA0 : Option Addr} {qn0 qc0 : Nat} {f : Fleet} (h2 : FleetAt w2 qA0 qn0 qc0 f) (hl2 : Later w2 w) (nf : NetFacts t.Network) (ff : FleetFacts t.Network.Stops.length f) (a b : Int) (a0 : 0 ≤ a) (a1 : a < t.Trips.length) (b0 : 0 ≤ b) (b1 : b < t.Trips.length) (ta : TripIn t (tripI t a)) (tb : TripIn t (tripI t b)) :
  Calls Tryz.prog 127 #[.agg #[.slice sA0 sn0 sc0, .slice sA1 sn1 sc1, .slice sA2 sn2 sc2], .agg #[.slice qA0 qn0 qc0, .int .i64 f.Turn], .int .i64 a, .int .i64 b] w (Ret (.int .i64 (deadB t f (tripI t a) (tripI t b))) w) := by
 have HB0 : ∀ W [Later ((w.alloc (.cells #[.slice sA0 sn0 sc0, .slice sA1 sn1 sc1, .slice sA2 sn2 sc2] 44)).alloc (.cells #[.slice qA0 qn0 qc0, .int .i64 f.Turn] 46)) W] (j : Nat), W.cell? ⟨w.heap.size, j, none⟩ = #[.slice sA0 sn0 sc0, .slice sA1 sn1 sc1, .slice sA2 sn2 sc2][j]? := Later.boxes (t := 44) (fr := (0, 0)) ((heap_old (by simp; try omega)).trans (heap_new (by simp; try omega))); have HB1 : ∀ W [Later ((w.alloc (.cells #[.slice sA0 sn0 sc0, .slice sA1 sn1 sc1, .slice sA2 sn2 sc2] 44)).alloc (.cells #[.slice qA0 qn0 qc0, .int .i64 f.Turn] 46)) W] (j : Nat), W.cell? ⟨w.heap.size + 1, j, none⟩ = #[.slice qA0 qn0 qc0, .int .i64 f.Turn][j]? := Later.boxes (t := 46) (fr := (0, 0)) (heap_new (by simp; try omega)); obtain ⟨wb, hwb⟩ : ∃ wb : World, wb = ((w.alloc (.cells #[.slice sA0 sn0 sc0, .slice sA1 sn1 sc1, .slice sA2 sn2 sc2] 44)).alloc (.cells #[.slice qA0 qn0 qc0, .int .i64 f.Turn] 46)) := ⟨_, rfl⟩; haveI hbW : Later wb ((w.alloc (.cells #[.slice sA0 sn0 sc0, .slice sA1 sn1 sc1, .slice sA2 sn2 sc2] 44)).alloc (.cells #[.slice qA0 qn0 qc0, .int .i64 f.Turn] 46)) := (by rw [hwb]; exact Later.rfl_); haveI hww : Later w wb := (by rw [hwb]; infer_instance); rw [← hwb] at HB0; rw [← hwb] at HB1; have hbE := Lib.hid (congrArg (fun x : World => x.heap.size) hwb); clear hwb
 have hwb0 := hl.trans hww
 have hwb2 := hl2.trans hww
 have H := Lib.hid h
 have TA := Lib.hid ta
 have TB := Lib.hid tb
 have hD := h2.l_Dead.later hwb2
 have hdl := hD.le
 have k1 := lastS_bd nf ta.line0 ta.line1
 have k2 := firstS_bd nf tb.line0 tb.line1
 have LA := Lib.hid (lineAtT_facts nf ta.line0 ta.line1)
 have LB := Lib.hid (lineAtT_facts nf tb.line0 tb.line1)
 obtain ⟨i, hi⟩ := Int.eq_ofNat_of_zero_le k1.1
 obtain ⟨j, hj⟩ := Int.eq_ofNat_of_zero_le k2.1
 have hin : i < qn0 := by rw [hD.len, ff.len]; omega
 obtain ⟨b5, o1, A5, n5, c5, row, rfl, hr, hcr, hrow⟩ := Sl.row_ hD hin
 have hjn : j < n5 := by rw [hrow.len, (ff.row i row hr.out).1]; omega
 have hrl := hrow.le
 obtain ⟨b2, o2, d, rfl, hd, hcd, _⟩ := Ints.at_ hrow hjn
 have HE : Hid (deadB t f (tripI t a) (tripI t b) = d) := deadB_of hi hj hr.out hd.out
 have HI := Lib.hid hi
 have HJ := Lib.hid hj
 clear h h2 nf ta tb hD hr hrow hd hi hj k1 k2 ff
 go_enter Tryz.func127, Tryz.ntmps127
 go_wp2_with fail
 go_region_held3 (fun w' => Later wb w') (exact inferInstance) (first
  | ((with_reducible refine (spec_l5Stops H.out (hwb0.trans inferInstance) a a0 a1 TA.out).mono ?_); rintro e w3 ⟨A3, n3, c3, rfl, hy, L3⟩; have X3 := Later.trans (w := wb) inferInstance L3; have HY := Lib.hid hy; clear hy)
  | ((with_reducible refine (spec_l5Stops H.out (hwb0.trans inferInstance) b b0 b1 TB.out).mono ?_); rintro e w4 ⟨A4, n4, c4, rfl, hz, L4⟩; have X4 := Later.trans (w := wb) inferInstance L4; have HZ := Lib.hid hz; clear hz))
 have hS := HY.out.later hwb0
 have hF := HZ.out.later hwb0
 have hle := hS.le
 have hle2 := hF.le
 have HL : Hid (n3 = (lineI t a).Stops.length) := hS.len
 obtain ⟨m, rfl⟩ : ∃ m : Nat, n3 = m + 1 := ⟨n3 - 1, by have := HL.out; have := LA.out.stops; unfold lineI at *; omega⟩
 obtain ⟨b6, o6, s, rfl, hs, hcs, _⟩ := Ints.at_ hS (show m < m + 1 by omega)
 have hn4 : 0 < n4 := by rw [hF.len]; have := LB.out.stops; unfold lineI; omega
 obtain ⟨b7, o7, s', rfl, hs', hcs', _⟩ := Ints.at_ hF hn4
 simp only [Nat.add_zero] at hcs'
 obtain rfl : s = (i : Int) := (lastS_of HL.out hs.out).symm.trans HI.out
 obtain rfl : s' = (j : Int) := (firstS_of hs'.out).symm.trans HJ.out
 have hwm : IntKind.i64.wrap (((m + 1 : Nat) : Int) - 1) = (m : Int) := by rw [IntKind.wrap_i64]; omega
 have hwm2 : IntKind.i64.wrap ((m : Int) + 1 - 1) = (m : Int) := by rw [IntKind.wrap_i64]; omega
 clear hS hF hs hs'
 go_wp2_with fail
 go_quiet (fail)
 clear hwm hwm2
 go_wp2
 go_ret
 exact ⟨ret_int HE.out.symm, hww.trans inferInstance⟩
set_option maxHeartbeats 400000 in
theorem spec_l11Follows {w0 w w2 : World} {sA0 : Option Addr} {sn0 sc0 : Nat} {sA1 : Option Addr} {sn1 sc1 : Nat} {sA2 : Option Addr} {sn2 sc2 : Nat} {t : Timetable} (h : TimetableAt w0 sA0 sn0 sc0 sA1 sn1 sc1 sA2 sn2 sc2 t) (hl : Later w0 w) {qA0 : Option Addr} {qn0 qc0 : Nat} {f : Fleet} (h2 : FleetAt w2 qA0 qn0 qc0 f) (hl2 : Later w2 w) (nf : NetFacts t.Network) (ff : FleetFacts t.Network.Stops.length f) (a b : Int) (a0 : 0 ≤ a) (a1 : a < t.Trips.length) (b0 : 0 ≤ b) (b1 : b < t.Trips.length) (ta : TripFacts t (tripI t a)) (tb : TripFacts t (tripI t b)) (hab : a ≠ b) :
  Calls Tryz.prog 108 #[.agg #[.slice sA0 sn0 sc0, .slice sA1 sn1 sc1, .slice sA2 sn2 sc2], .agg #[.slice qA0 qn0 qc0, .int .i64 f.Turn], .int .i64 a, .int .i64 b] w (Ret (.bool (canF t f (tripI t a) (tripI t b))) w) := by
 have hT := h.l_Trips
 have hab2 : (a != b) = true := by rw [bne_iff_ne]; exact hab
 obtain ⟨j, rfl⟩ := Int.eq_ofNat_of_zero_le b0
 have hjn : j < sn2 := by rw [hT.len]; omega
 have hsl := hT.le
 have HB0 : ∀ W [Later ((w.alloc (.cells #[.slice sA0 sn0 sc0, .slice sA1 sn1 sc1, .slice sA2 sn2 sc2] 44)).alloc (.cells #[.slice qA0 qn0 qc0, .int .i64 f.Turn] 46)) W] (j : Nat), W.cell? ⟨w.heap.size, j, none⟩ = #[.slice sA0 sn0 sc0, .slice sA1 sn1 sc1, .slice sA2 sn2 sc2][j]? := Later.boxes (t := 44) (fr := (0, 0)) ((heap_old (by simp; try omega)).trans (heap_new (by simp; try omega))); have HB1 : ∀ W [Later ((w.alloc (.cells #[.slice sA0 sn0 sc0, .slice sA1 sn1 sc1, .slice sA2 sn2 sc2] 44)).alloc (.cells #[.slice qA0 qn0 qc0, .int .i64 f.Turn] 46)) W] (j : Nat), W.cell? ⟨w.heap.size + 1, j, none⟩ = #[.slice qA0 qn0 qc0, .int .i64 f.Turn][j]? := Later.boxes (t := 46) (fr := (0, 0)) (heap_new (by simp; try omega)); obtain ⟨wb, hwb⟩ : ∃ wb : World, wb = ((w.alloc (.cells #[.slice sA0 sn0 sc0, .slice sA1 sn1 sc1, .slice sA2 sn2 sc2] 44)).alloc (.cells #[.slice qA0 qn0 qc0, .int .i64 f.Turn] 46)) := ⟨_, rfl⟩; haveI hbW : Later wb ((w.alloc (.cells #[.slice sA0 sn0 sc0, .slice sA1 sn1 sc1, .slice sA2 sn2 sc2] 44)).alloc (.cells #[.slice qA0 qn0 qc0, .int .i64 f.Turn] 46)) := (by rw [hwb]; exact Later.rfl_); haveI hww : Later w wb := (by rw [hwb]; infer_instance); rw [← hwb] at HB0; rw [← hwb] at HB1; have hbE := Lib.hid (congrArg (fun x : World => x.heap.size) hwb); clear hwb
 have hwb0 := hl.trans hww
 have hwb2 := hl2.trans hww
 have H := Lib.hid h
 have H2 := Lib.hid h2
 have NF := Lib.hid nf
 have FF := Lib.hid ff
 have TA := Lib.hid ta
 have TB := Lib.hid tb
 have k1 := deadB_bd nf ff ta.line0 ta.line1 tb.line0 tb.line1
 have e1 := ta.fin
 have e2 := ff.turn
 have d1 := k1.1
 have d2 := k1.2
 have d3 := e1.1
 have d4 := e1.2
 have d5 := e2.1
 have d6 := e2.2
 obtain ⟨b5, o5, y, rfl, hy, hc0, hc1, hc2, _⟩ := Trips.at_ hT hjn
 replace hc2 := shift hwb0 hc2
 have HY : Hid (tripI t (j : Int) = y) := tripI_of hy.out
 have HR : Hid (canF t f (tripI t a) (tripI t (j : Int)) = decide (endAt t (tripI t a) + f.Turn + deadB t f (tripI t a) (tripI t (j : Int)) ≤ y.Start)) := by show _ = _; unfold canF; rw [HY.out]
 have hw1 : IntKind.i64.wrap (endAt t (tripI t a) + f.Turn) = endAt t (tripI t a) + f.Turn := by rw [IntKind.wrap_i64]; omega
 have hw2 : IntKind.i64.wrap (endAt t (tripI t a) + f.Turn + deadB t f (tripI t a) (tripI t (j : Int))) = endAt t (tripI t a) + f.Turn + deadB t f (tripI t a) (tripI t (j : Int)) := by rw [IntKind.wrap_i64]; omega
 have HA := Lib.hid (And.intro a0 (And.intro a1 (And.intro b0 b1)))
 clear h h2 nf ta tb ff k1 e1 e2 hab hy hc0 hc1 a0 a1 b0 b1 hT
 go_enter Tryz.func108, Tryz.ntmps108
 go_wp2_with fail
 go_region_held3 (fun w' => Later wb w') (exact inferInstance) (first
  | (go_at_call 126; refine (spec_l5End H.out (hwb0.trans inferInstance) NF.out _ HA.out.1 HA.out.2.1 TA.out.in_).mono ?_; rintro e w3 ⟨rfl, L3⟩; have X3 := Later.trans (w := wb) inferInstance L3)
  | (go_at_call 127; refine (spec_l11Dead H.out (hwb0.trans inferInstance) H2.out (hwb2.trans inferInstance) NF.out FF.out _ _ HA.out.1 HA.out.2.1 HA.out.2.2.1 HA.out.2.2.2 TA.out.in_ TB.out.in_).mono ?_; rintro e w4 ⟨rfl, L4⟩; have X4 := Later.trans (w := wb) inferInstance L4))
 clear hw1 hw2
 go_wp2
 go_ret
 exact ⟨ret_bool HR.out.symm, hww.trans inferInstance⟩
end Go.Proofs.YtknhebakebmlcaaGreat
