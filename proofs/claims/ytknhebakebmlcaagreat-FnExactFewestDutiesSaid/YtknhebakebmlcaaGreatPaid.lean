/-
 Duties: the paid minutes of a duty (paidMinutes, l12Paid, PaidMinutes).
-/
import Derived.Test.YtknhebakebmlcaaGreatDc
namespace Go.Proofs.YtknhebakebmlcaaGreat
open Go Go.RowKit
set_option linter.unusedVariables false
set_option maxRecDepth 100000
theorem durs_snoc {t : Timetable} {ps : List (List Int)} {k : Nat} {x : List Int} (hx : ps[k]? = some x) : durs t (ps.take (k + 1)) = durs t (ps.take k) + durP t x := by
 unfold durs
 rw [take_succ_at hx, List.map_append, sumI_append]
 simp [sumI]
theorem minsG_app (r : Rules) (l : List Int) (y : Int) : minsG r (l ++ [y]) = minsG r l + min y r.PaidBreak := by
 unfold minsG
 rw [List.map_append, sumI_append]
 simp [sumI]
theorem minsG_snoc {r : Rules} {l : List Int} {k : Nat} {y : Int} (hy : l[k]? = some y) : minsG r (l.take (k + 1)) = minsG r (l.take k) + min y r.PaidBreak := by
 rw [take_succ_at hy, minsG_app]
set_option maxHeartbeats 2000000 in
theorem impl_paidMinutes {w0 w w2 : World} {sA0 : Option Addr} {sn0 sc0 : Nat} {sA1 : Option Addr} {sn1 sc1 : Nat} {sA2 : Option Addr} {sn2 sc2 : Nat} {t : Timetable} (h : TimetableAt w0 sA0 sn0 sc0 sA1 sn1 sc1 sA2 sn2 sc2 t) (hl : Later w0 w) {qA0 : Option Addr} {qn0 qc0 : Nat} {f : Fleet} (h2 : FleetAt w2 qA0 qn0 qc0 f) (hl2 : Later w2 w) (r : Rules) {eA0 : Option Addr} {en0 ec0 : Nat} {d : Duty} {w4 : World} (h4 : DutyAt w4 eA0 en0 ec0 d) (hl4 : Later w4 w) (df : DutyFacts t f r d.Pieces) :
  Calls Tryz.prog 97 #[.agg #[.slice sA0 sn0 sc0, .slice sA1 sn1 sc1, .slice sA2 sn2 sc2], .agg #[.slice qA0 qn0 qc0, .int .i64 f.Turn], .agg #[.int .i64 r.SignOn, .int .i64 r.SignOff, .int .i64 r.MaxDrive, .int .i64 r.MinBreak, .int .i64 r.PaidBreak, .int .i64 r.MaxLength], .agg #[.slice eA0 en0 ec0]] w (Ret (.int .i64 (paidD t f r d.Pieces)) w) := by
 have hP := h4.l_Pieces.later hl4
 have HB0 : ∀ W [Later ((((w.alloc (.cells #[.slice sA0 sn0 sc0, .slice sA1 sn1 sc1, .slice sA2 sn2 sc2] 44)).alloc (.cells #[.slice qA0 qn0 qc0, .int .i64 f.Turn] 46)).alloc (.cells #[.int .i64 r.SignOn, .int .i64 r.SignOff, .int .i64 r.MaxDrive, .int .i64 r.MinBreak, .int .i64 r.PaidBreak, .int .i64 r.MaxLength] 49)).alloc (.cells #[.slice eA0 en0 ec0] 76)) W] (j : Nat), W.cell? ⟨w.heap.size, j, none⟩ = #[.slice sA0 sn0 sc0, .slice sA1 sn1 sc1, .slice sA2 sn2 sc2][j]? := Later.boxes (t := 44) (fr := (0, 0)) ((heap_old (by simp; try omega)).trans ((heap_old (by simp; try omega)).trans ((heap_old (by simp; try omega)).trans (heap_new (by simp; try omega))))); have HB1 : ∀ W [Later ((((w.alloc (.cells #[.slice sA0 sn0 sc0, .slice sA1 sn1 sc1, .slice sA2 sn2 sc2] 44)).alloc (.cells #[.slice qA0 qn0 qc0, .int .i64 f.Turn] 46)).alloc (.cells #[.int .i64 r.SignOn, .int .i64 r.SignOff, .int .i64 r.MaxDrive, .int .i64 r.MinBreak, .int .i64 r.PaidBreak, .int .i64 r.MaxLength] 49)).alloc (.cells #[.slice eA0 en0 ec0] 76)) W] (j : Nat), W.cell? ⟨w.heap.size + 1, j, none⟩ = #[.slice qA0 qn0 qc0, .int .i64 f.Turn][j]? := Later.boxes (t := 46) (fr := (0, 0)) ((heap_old (by simp; try omega)).trans ((heap_old (by simp; try omega)).trans (heap_new (by simp; try omega)))); have HB2 : ∀ W [Later ((((w.alloc (.cells #[.slice sA0 sn0 sc0, .slice sA1 sn1 sc1, .slice sA2 sn2 sc2] 44)).alloc (.cells #[.slice qA0 qn0 qc0, .int .i64 f.Turn] 46)).alloc (.cells #[.int .i64 r.SignOn, .int .i64 r.SignOff, .int .i64 r.MaxDrive, .int .i64 r.MinBreak, .int .i64 r.PaidBreak, .int .i64 r.MaxLength] 49)).alloc (.cells #[.slice eA0 en0 ec0] 76)) W] (j : Nat), W.cell? ⟨w.heap.size + 1 + 1, j, none⟩ = #[.int .i64 r.SignOn, .int .i64 r.SignOff, .int .i64 r.MaxDrive, .int .i64 r.MinBreak, .int .i64 r.PaidBreak, .int .i64 r.MaxLength][j]? := Later.boxes (t := 49) (fr := (0, 0)) ((heap_old (by simp; try omega)).trans (heap_new (by simp; try omega))); have HB3 : ∀ W [Later ((((w.alloc (.cells #[.slice sA0 sn0 sc0, .slice sA1 sn1 sc1, .slice sA2 sn2 sc2] 44)).alloc (.cells #[.slice qA0 qn0 qc0, .int .i64 f.Turn] 46)).alloc (.cells #[.int .i64 r.SignOn, .int .i64 r.SignOff, .int .i64 r.MaxDrive, .int .i64 r.MinBreak, .int .i64 r.PaidBreak, .int .i64 r.MaxLength] 49)).alloc (.cells #[.slice eA0 en0 ec0] 76)) W] (j : Nat), W.cell? ⟨w.heap.size + 1 + 1 + 1, j, none⟩ = #[.slice eA0 en0 ec0][j]? := Later.boxes (t := 76) (fr := (0, 0)) (heap_new (by simp; try omega)); obtain ⟨wb, hwb⟩ : ∃ wb : World, wb = ((((w.alloc (.cells #[.slice sA0 sn0 sc0, .slice sA1 sn1 sc1, .slice sA2 sn2 sc2] 44)).alloc (.cells #[.slice qA0 qn0 qc0, .int .i64 f.Turn] 46)).alloc (.cells #[.int .i64 r.SignOn, .int .i64 r.SignOff, .int .i64 r.MaxDrive, .int .i64 r.MinBreak, .int .i64 r.PaidBreak, .int .i64 r.MaxLength] 49)).alloc (.cells #[.slice eA0 en0 ec0] 76)) := ⟨_, rfl⟩; haveI hbW : Later wb ((((w.alloc (.cells #[.slice sA0 sn0 sc0, .slice sA1 sn1 sc1, .slice sA2 sn2 sc2] 44)).alloc (.cells #[.slice qA0 qn0 qc0, .int .i64 f.Turn] 46)).alloc (.cells #[.int .i64 r.SignOn, .int .i64 r.SignOff, .int .i64 r.MaxDrive, .int .i64 r.MinBreak, .int .i64 r.PaidBreak, .int .i64 r.MaxLength] 49)).alloc (.cells #[.slice eA0 en0 ec0] 76)) := (by rw [hwb]; exact Later.rfl_); haveI hww : Later w wb := (by rw [hwb]; infer_instance); rw [← hwb] at HB0; rw [← hwb] at HB1; rw [← hwb] at HB2; rw [← hwb] at HB3; have hbE := Lib.hid (congrArg (fun x : World => x.heap.size) hwb); clear hwb
 have hwb0 := hl.trans hww
 have hwb2 := hl2.trans hww
 have hwb4 := hl4.trans hww
 have H := Lib.hid h
 have H2 := Lib.hid h2
 have H4 := Lib.hid h4
 replace hP := hP.later hww
 have hpl := hP.le
 have Hpl := Lib.hid hP.len
 have DF := Lib.hid df
 have hn3 : en0 ≤ 3 := by rw [hP.len]; exact df.brk.max
 have r1 := df.rules.on
 have r2 := df.rules.off
 have r3 := df.rules.paid
 have hf0 := field_Span0
 have hf1 := field_Span1
 have hw0 : IntKind.i64.wrap (r.SignOn + r.SignOff) = r.SignOn + r.SignOff := by rw [IntKind.wrap_i64]; omega
 clear h h2 h4 df
 go_enter Tryz.func97, Tryz.ntmps97
 go_wp2_with fail
 go_loopw [9, 23] (fun so i wr => ∃ (k : Nat) (sm : Int), k ≤ en0 ∧ i = .int .i64 k ∧ so = .int .i64 sm ∧ -1800 * (k : Int) ≤ sm ∧ sm ≤ 1800 + 1800 * (k : Int) ∧ Hid (sm = r.SignOn + r.SignOff + durs t (d.Pieces.take k)) ∧ Later wb wr) (fun _ i _ => en0 - (intOf i).toNat)
 case atStart => exact ⟨0, r.SignOn + r.SignOff, by omega, rfl, rfl, by omega, by omega, by show _ = _; simp [durs, sumI], inferInstance⟩
 case round =>
  obtain ⟨k, sm, hk, rfl, rfl, s0, s1, HV, hX⟩ := hrel
  by_cases hlt : k < en0
  ·obtain ⟨b, o, A1, n1, c1, x, rfl, hx, hc0, hi⟩ := Sl.row_ hP hlt
   have HI := Lib.hid hi
   have hxf := DF.out.brk.at_ hx.out
   have HXP := Lib.hid hxf.1
   have HXF := Lib.hid hxf.2
   have q1 := begP_bd DF.out.run.time hxf.1 hxf.2
   have q2 := finP_bd DF.out.run.time hxf.1 hxf.2
   have q3 : -1800 * ((k + 1 : Nat) : Int) ≤ sm + (finP t x - begP t x) := by omega
   have q4 : sm + (finP t x - begP t x) ≤ 1800 + 1800 * ((k + 1 : Nat) : Int) := by omega
   have hw1 : IntKind.i64.wrap (finP t x - begP t x) = finP t x - begP t x := by rw [IntKind.wrap_i64]; omega
   have hw2 : IntKind.i64.wrap (sm + (finP t x - begP t x)) = sm + (finP t x - begP t x) := by rw [IntKind.wrap_i64]; omega
   have HV2 : Hid (sm + (finP t x - begP t x) = r.SignOn + r.SignOff + durs t (d.Pieces.take (k + 1))) := by show _ = _; rw [durs_snoc hx.out, HV.out]; unfold durP; omega
   clear hi hxf q1 q2 hx HV
   go_wp2_with (go_at_call 118; refine (impl_spanOf H.out (hwb0.trans inferInstance) DF.out.run.time HI.out inferInstance HXP.out HXF.out).mono ?_; rintro e w9 ⟨rfl, L9⟩; have X9 := Later.trans (w := wb) inferInstance L9; have Z9 := Later.trans (w := wr) inferInstance L9)
   clear hw1 hw2
   go_roundw
   case rel => exact ⟨k + 1, _, by omega, by go_num, rfl, q3, q4, HV2, inferInstance⟩
   case measure => simp [intOf]; omega
  have HV2 : Hid (sm = r.SignOn + r.SignOff + durs t d.Pieces) := by show _ = _; rw [HV.out, List.take_of_length_le (by have := Hpl.out; omega)]
  have s2 : -5400 ≤ sm := by omega
  have s3 : sm ≤ 7200 := by omega
  clear HV s0 s1
  go_wp2_with (go_at_call 119; refine (impl_gapsIn H.out (hwb0.trans inferInstance) H2.out (hwb2.trans inferInstance) H4.out.l_Pieces (hwb4.trans inferInstance) DF.out.run DF.out.brk).mono ?_; rintro e w10 ⟨A9, n9, c9, fp9, rfl, ho9, nd9, lo9, L10⟩; have X10 := Later.trans (w := wb) inferInstance L10; have hG : Ints w10 A9 n9 c9 (gapsP t f d.Pieces) := ho9.reads; have hgl9 := hG.le; have Hgn := Lib.hid hG.len; clear ho9 nd9 lo9)
  have hn9 : n9 ≤ 2 := by rw [Hgn.out, gapsP_len]; have := Hpl.out; omega
  go_loopw [9, 44] (fun so i wr => ∃ (k : Nat) (sq : Int), k ≤ n9 ∧ i = .int .i64 k ∧ so = .int .i64 sq ∧ -5400 - 1920 * (k : Int) ≤ sq ∧ sq ≤ 7200 + 1800 * (k : Int) ∧ Hid (sq = sm + minsG r ((gapsP t f d.Pieces).take k)) ∧ Later wb wr ∧ Later w10 wr) (fun _ i _ => n9 - (intOf i).toNat)
  case atStart => exact ⟨0, sm, by omega, rfl, rfl, by omega, by omega, by show _ = _; simp [minsG, sumI], inferInstance, inferInstance⟩
  case round =>
   obtain ⟨k, sq, hk, rfl, rfl, u0, u1, HW, hX, hX2⟩ := hrel
   by_cases hlt : k < n9
   ·obtain ⟨b, o, y, rfl, hy, hc0, _⟩ := Ints.at_ hG hlt
    have q1 := gapsP_mem DF.out.run DF.out.brk y (List.mem_of_getElem? hy.out)
    have HW2 : Hid (sq + min y r.PaidBreak = sm + minsG r ((gapsP t f d.Pieces).take (k + 1))) := by show _ = _; rw [minsG_snoc hy.out, HW.out]; omega
    by_cases cM : y ≤ r.PaidBreak
    ·have hm : min y r.PaidBreak = y := by omega
     rw [hm] at HW2
     have cM2 : ¬ (r.PaidBreak < y) := by omega
     have hw2 : IntKind.i64.wrap (sq + y) = sq + y := by rw [IntKind.wrap_i64]; omega
     have u2 : -5400 - 1920 * ((k + 1 : Nat) : Int) ≤ sq + y := by omega
     have u3 : sq + y ≤ 7200 + 1800 * ((k + 1 : Nat) : Int) := by omega
     clear hy HW q1
     go_wp2_with fail
     clear hw2
     go_roundw
     case rel => exact ⟨k + 1, _, by omega, by go_num, rfl, u2, u3, HW2, inferInstance, inferInstance⟩
     case measure => simp [intOf]; omega
    ·have hm : min y r.PaidBreak = r.PaidBreak := by omega
     rw [hm] at HW2
     have cM2 : r.PaidBreak < y := by omega
     have hw2 : IntKind.i64.wrap (sq + r.PaidBreak) = sq + r.PaidBreak := by rw [IntKind.wrap_i64]; omega
     have u2 : -5400 - 1920 * ((k + 1 : Nat) : Int) ≤ sq + r.PaidBreak := by omega
     have u3 : sq + r.PaidBreak ≤ 7200 + 1800 * ((k + 1 : Nat) : Int) := by omega
     clear hy HW q1
     go_wp2_with fail
     clear hw2
     go_roundw
     case rel => exact ⟨k + 1, _, by omega, by go_num, rfl, u2, u3, HW2, inferInstance, inferInstance⟩
     case measure => simp [intOf]; omega
   have HE : Hid (sq = paidD t f r d.Pieces) := by
    show _ = _
    have h5 := HW.out
    rw [List.take_of_length_le (by have := Hgn.out; omega), HV2.out] at h5
    exact h5
   clear HW
   go_wp2
   go_ret
   exact ⟨ret_int HE.out, hww.trans inferInstance⟩
set_option maxHeartbeats 2000000 in
theorem spec_l12Paid {w0 w w2 : World} {sA0 : Option Addr} {sn0 sc0 : Nat} {sA1 : Option Addr} {sn1 sc1 : Nat} {sA2 : Option Addr} {sn2 sc2 : Nat} {t : Timetable} (h : TimetableAt w0 sA0 sn0 sc0 sA1 sn1 sc1 sA2 sn2 sc2 t) (hl : Later w0 w) {qA0 : Option Addr} {qn0 qc0 : Nat} {f : Fleet} (h2 : FleetAt w2 qA0 qn0 qc0 f) (hl2 : Later w2 w) (r : Rules) {eA0 : Option Addr} {en0 ec0 : Nat} {d : Duty} {w4 : World} (h4 : DutyAt w4 eA0 en0 ec0 d) (hl4 : Later w4 w) (df : DutyFacts t f r d.Pieces) :
  Calls Tryz.prog 110 #[.agg #[.slice sA0 sn0 sc0, .slice sA1 sn1 sc1, .slice sA2 sn2 sc2], .agg #[.slice qA0 qn0 qc0, .int .i64 f.Turn], .agg #[.int .i64 r.SignOn, .int .i64 r.SignOff, .int .i64 r.MaxDrive, .int .i64 r.MinBreak, .int .i64 r.PaidBreak, .int .i64 r.MaxLength], .agg #[.slice eA0 en0 ec0]] w (Ret (.int .i64 (paidD t f r d.Pieces)) w) := by
 have hP := h4.l_Pieces.later hl4
 have HB0 : ∀ W [Later ((((w.alloc (.cells #[.slice sA0 sn0 sc0, .slice sA1 sn1 sc1, .slice sA2 sn2 sc2] 44)).alloc (.cells #[.slice qA0 qn0 qc0, .int .i64 f.Turn] 46)).alloc (.cells #[.int .i64 r.SignOn, .int .i64 r.SignOff, .int .i64 r.MaxDrive, .int .i64 r.MinBreak, .int .i64 r.PaidBreak, .int .i64 r.MaxLength] 49)).alloc (.cells #[.slice eA0 en0 ec0] 76)) W] (j : Nat), W.cell? ⟨w.heap.size, j, none⟩ = #[.slice sA0 sn0 sc0, .slice sA1 sn1 sc1, .slice sA2 sn2 sc2][j]? := Later.boxes (t := 44) (fr := (0, 0)) ((heap_old (by simp; try omega)).trans ((heap_old (by simp; try omega)).trans ((heap_old (by simp; try omega)).trans (heap_new (by simp; try omega))))); have HB1 : ∀ W [Later ((((w.alloc (.cells #[.slice sA0 sn0 sc0, .slice sA1 sn1 sc1, .slice sA2 sn2 sc2] 44)).alloc (.cells #[.slice qA0 qn0 qc0, .int .i64 f.Turn] 46)).alloc (.cells #[.int .i64 r.SignOn, .int .i64 r.SignOff, .int .i64 r.MaxDrive, .int .i64 r.MinBreak, .int .i64 r.PaidBreak, .int .i64 r.MaxLength] 49)).alloc (.cells #[.slice eA0 en0 ec0] 76)) W] (j : Nat), W.cell? ⟨w.heap.size + 1, j, none⟩ = #[.slice qA0 qn0 qc0, .int .i64 f.Turn][j]? := Later.boxes (t := 46) (fr := (0, 0)) ((heap_old (by simp; try omega)).trans ((heap_old (by simp; try omega)).trans (heap_new (by simp; try omega)))); have HB2 : ∀ W [Later ((((w.alloc (.cells #[.slice sA0 sn0 sc0, .slice sA1 sn1 sc1, .slice sA2 sn2 sc2] 44)).alloc (.cells #[.slice qA0 qn0 qc0, .int .i64 f.Turn] 46)).alloc (.cells #[.int .i64 r.SignOn, .int .i64 r.SignOff, .int .i64 r.MaxDrive, .int .i64 r.MinBreak, .int .i64 r.PaidBreak, .int .i64 r.MaxLength] 49)).alloc (.cells #[.slice eA0 en0 ec0] 76)) W] (j : Nat), W.cell? ⟨w.heap.size + 1 + 1, j, none⟩ = #[.int .i64 r.SignOn, .int .i64 r.SignOff, .int .i64 r.MaxDrive, .int .i64 r.MinBreak, .int .i64 r.PaidBreak, .int .i64 r.MaxLength][j]? := Later.boxes (t := 49) (fr := (0, 0)) ((heap_old (by simp; try omega)).trans (heap_new (by simp; try omega))); have HB3 : ∀ W [Later ((((w.alloc (.cells #[.slice sA0 sn0 sc0, .slice sA1 sn1 sc1, .slice sA2 sn2 sc2] 44)).alloc (.cells #[.slice qA0 qn0 qc0, .int .i64 f.Turn] 46)).alloc (.cells #[.int .i64 r.SignOn, .int .i64 r.SignOff, .int .i64 r.MaxDrive, .int .i64 r.MinBreak, .int .i64 r.PaidBreak, .int .i64 r.MaxLength] 49)).alloc (.cells #[.slice eA0 en0 ec0] 76)) W] (j : Nat), W.cell? ⟨w.heap.size + 1 + 1 + 1, j, none⟩ = #[.slice eA0 en0 ec0][j]? := Later.boxes (t := 76) (fr := (0, 0)) (heap_new (by simp; try omega)); obtain ⟨wb, hwb⟩ : ∃ wb : World, wb = ((((w.alloc (.cells #[.slice sA0 sn0 sc0, .slice sA1 sn1 sc1, .slice sA2 sn2 sc2] 44)).alloc (.cells #[.slice qA0 qn0 qc0, .int .i64 f.Turn] 46)).alloc (.cells #[.int .i64 r.SignOn, .int .i64 r.SignOff, .int .i64 r.MaxDrive, .int .i64 r.MinBreak, .int .i64 r.PaidBreak, .int .i64 r.MaxLength] 49)).alloc (.cells #[.slice eA0 en0 ec0] 76)) := ⟨_, rfl⟩; haveI hbW : Later wb ((((w.alloc (.cells #[.slice sA0 sn0 sc0, .slice sA1 sn1 sc1, .slice sA2 sn2 sc2] 44)).alloc (.cells #[.slice qA0 qn0 qc0, .int .i64 f.Turn] 46)).alloc (.cells #[.int .i64 r.SignOn, .int .i64 r.SignOff, .int .i64 r.MaxDrive, .int .i64 r.MinBreak, .int .i64 r.PaidBreak, .int .i64 r.MaxLength] 49)).alloc (.cells #[.slice eA0 en0 ec0] 76)) := (by rw [hwb]; exact Later.rfl_); haveI hww : Later w wb := (by rw [hwb]; infer_instance); rw [← hwb] at HB0; rw [← hwb] at HB1; rw [← hwb] at HB2; rw [← hwb] at HB3; have hbE := Lib.hid (congrArg (fun x : World => x.heap.size) hwb); clear hwb
 have hwb0 := hl.trans hww
 have hwb2 := hl2.trans hww
 have H := Lib.hid h
 have H2 := Lib.hid h2
 replace hP := hP.later hww
 have hpl := hP.le
 have Hpl := Lib.hid hP.len
 have DF := Lib.hid df
 have hn3 : en0 ≤ 3 := by rw [hP.len]; exact df.brk.max
 have r1 := df.rules.on
 have r2 := df.rules.off
 have r3 := df.rules.paid
 have hw0 : IntKind.i64.wrap (r.SignOn + r.SignOff) = r.SignOn + r.SignOff := by rw [IntKind.wrap_i64]; omega
 clear h h2 h4 df
 go_enter Tryz.func110, Tryz.ntmps110
 go_wp2_with fail
 go_loopw [9, 10] (fun so i wr => ∃ (k : Nat) (sm : Int), k ≤ en0 ∧ i = .int .i64 k ∧ so = .int .i64 sm ∧ -4000 * (k : Int) ≤ sm ∧ sm ≤ 1800 + 4000 * (k : Int) ∧ Hid (sm = r.SignOn + r.SignOff + durs t (d.Pieces.take k) + minsG r (gapsP t f (d.Pieces.take k))) ∧ Later wb wr) (fun _ i _ => en0 - (intOf i).toNat)
 case atStart => exact ⟨0, r.SignOn + r.SignOff, by omega, rfl, rfl, by omega, by omega, by show _ = _; simp [durs, minsG, gapsP, sumI], inferInstance⟩
 case round =>
  obtain ⟨k, sm, hk, rfl, rfl, s0, s1, HV, hX⟩ := hrel
  by_cases hlt : k < en0
  ·obtain ⟨b, o, A1, n1, c1, x, rfl, hx, hc0, hi⟩ := Sl.row_ hP hlt
   have HI := Lib.hid hi
   have hxf := DF.out.brk.at_ hx.out
   have HXP := Lib.hid hxf.1
   have HXF := Lib.hid hxf.2
   have q1 := begP_bd DF.out.run.time hxf.1 hxf.2
   have q2 := finP_bd DF.out.run.time hxf.1 hxf.2
   have hw1 : IntKind.i64.wrap (sm + finP t x) = sm + finP t x := by rw [IntKind.wrap_i64]; omega
   have hw2 : IntKind.i64.wrap (sm + finP t x - begP t x) = sm + finP t x - begP t x := by rw [IntKind.wrap_i64]; omega
   have HD := Lib.hid (durs_snoc (t := t) hx.out)
   by_cases hk0 : k = 0
   ·subst hk0
    simp only [Nat.add_zero] at hc0
    have HV2 : Hid (sm + finP t x - begP t x = r.SignOn + r.SignOff + durs t (d.Pieces.take (0 + 1)) + minsG r (gapsP t f (d.Pieces.take (0 + 1)))) := by
     show _ = _
     have h5 := HV.out
     rw [HD.out, gapsP_one]
     simp [durs, minsG, gapsP, sumI, durP] at h5 ⊢
     omega
    have s2 : -4000 * ((0 + 1 : Nat) : Int) ≤ sm + finP t x - begP t x := by omega
    have s3 : sm + finP t x - begP t x ≤ 1800 + 4000 * ((0 + 1 : Nat) : Int) := by omega
    clear hi hxf hx HV q1 q2
    go_wp2_with fail
    go_region_held3 (fun w' => Later wb w' ∧ Later wr w') (exact ⟨inferInstance, inferInstance⟩) (first
     | (go_at_call 130; refine (spec_l12Start H.out (hwb0.trans inferInstance) DF.out.run.time HI.out inferInstance HXP.out HXF.out).mono ?_; rintro e w7 ⟨rfl, L7⟩; have X7 := Later.trans (w := wb) inferInstance L7; have Z7 := Later.trans (w := wr) inferInstance L7)
     | (go_at_call 129; refine (spec_l12End H.out (hwb0.trans inferInstance) DF.out.run.time HI.out inferInstance HXP.out HXF.out).mono ?_; rintro e w8 ⟨rfl, L8⟩; have X8 := Later.trans (w := wb) inferInstance L8; have Z8 := Later.trans (w := wr) inferInstance L8))
    clear hw1 hw2
    go_wp2_with fail
    go_roundw
    case rel => exact ⟨0 + 1, _, by omega, by go_num, rfl, s2, s3, HV2, inferInstance⟩
    case measure => simp [intOf]; omega
   ·obtain ⟨m, hkm⟩ : ∃ m : Nat, k = m + 1 := ⟨k - 1, by omega⟩
    obtain ⟨b', o', A2, n2, c2, z, hA', hz, hc0', hi'⟩ := Sl.row_ hP (show m < en0 by omega)
    cases hA'
    have hzf := DF.out.brk.at_ hz.out
    have HI' := Lib.hid hi'
    have HZP := Lib.hid hzf.1
    have HZF := Lib.hid hzf.2
    have q3 := gapP_bd DF.out.run hzf.1 hxf.1 hzf.2 hxf.2
    have HGA : Hid (gapsP t f (d.Pieces.take (k + 1)) = gapsP t f (d.Pieces.take k) ++ [gapP t f z x]) := by show _ = _; subst hkm; exact gapsP_take hz.out hx.out
    obtain ⟨u, hu0⟩ : ∃ u, u = leastI (gapP t f z x) r.PaidBreak := ⟨_, rfl⟩
    have hu : u = min (gapP t f z x) r.PaidBreak := by rw [hu0]; unfold leastI; split <;> omega
    have q4 : -1919 ≤ u ∧ u ≤ 900 := by omega
    have HU := Lib.hid hu0
    clear hu0
    have hw3 : IntKind.i64.wrap (sm + finP t x - begP t x + u) = sm + finP t x - begP t x + u := by rw [IntKind.wrap_i64]; omega
    have HV2 : Hid (sm + finP t x - begP t x + u = r.SignOn + r.SignOff + durs t (d.Pieces.take (k + 1)) + minsG r (gapsP t f (d.Pieces.take (k + 1)))) := by
     show _ = _
     have h5 := HV.out
     rw [HGA.out, minsG_app, HD.out, ← hu]
     unfold durP
     omega
    have s2 : -4000 * ((k + 1 : Nat) : Int) ≤ sm + finP t x - begP t x + u := by omega
    have s3 : sm + finP t x - begP t x + u ≤ 1800 + 4000 * ((k + 1 : Nat) : Int) := by omega
    have hwm : IntKind.i64.wrap ((k : Int) - 1) = (m : Int) := by rw [IntKind.wrap_i64]; omega
    have hm0 : (0 : Int) < (k : Int) := by omega
    have hm0n : 0 < k := by omega
    have hm1 : (m : Int) < (en0 : Int) := by omega
    have hm2 : (k : Int) < (en0 : Int) := by omega
    have Hkm := Lib.hid hkm
    clear hi hxf hx HV q1 q2 hi' hz hzf q3 q4 hu hkm
    go_wp2_with fail
    go_region_held3 (fun w' => Later wb w' ∧ Later wr w') (exact ⟨inferInstance, inferInstance⟩) (first
     | (go_at_call 130; refine (spec_l12Start H.out (hwb0.trans inferInstance) DF.out.run.time HI.out inferInstance HXP.out HXF.out).mono ?_; rintro e w7 ⟨rfl, L7⟩; have X7 := Later.trans (w := wb) inferInstance L7; have Z7 := Later.trans (w := wr) inferInstance L7)
     | (go_at_call 129; refine (spec_l12End H.out (hwb0.trans inferInstance) DF.out.run.time HI.out inferInstance HXP.out HXF.out).mono ?_; rintro e w8 ⟨rfl, L8⟩; have X8 := Later.trans (w := wb) inferInstance L8; have Z8 := Later.trans (w := wr) inferInstance L8))
    clear hw1 hw2
    go_wp2_with fail
    go_region_held3 (fun w' => Later wb w' ∧ Later wr w') (exact ⟨inferInstance, inferInstance⟩) (first
     | (go_at_call 131; refine (spec_l12Gap H.out (hwb0.trans inferInstance) H2.out (hwb2.trans inferInstance) DF.out.run HI'.out inferInstance HZP.out HZF.out HI.out inferInstance HXP.out HXF.out).mono ?_; rintro e w9 ⟨rfl, L9⟩; have X9 := Later.trans (w := wb) inferInstance L9; have Z9 := Later.trans (w := wr) inferInstance L9)
     | (go_at_call 133; refine (spec_l1Least _ _ _).mono ?_; rw [← HU.out]; rintro e w' ⟨rfl, rfl⟩))
    clear hw3 hwm
    go_wp2_with fail
    go_roundw
    case rel => exact ⟨k + 1, _, by omega, by go_num, rfl, s2, s3, HV2, inferInstance⟩
    case measure => simp [intOf]; omega
  have HE : Hid (sm = paidD t f r d.Pieces) := by
   show _ = _
   have h5 := HV.out
   rw [List.take_of_length_le (by have := Hpl.out; omega)] at h5
   exact h5
  clear HV
  go_wp2
  go_ret
  exact ⟨ret_int HE.out, hww.trans inferInstance⟩
end Go.Proofs.YtknhebakebmlcaaGreat
