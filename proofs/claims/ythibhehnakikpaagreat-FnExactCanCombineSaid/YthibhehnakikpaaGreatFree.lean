/-
  Duties: the gaps of a duty, two pieces as a duty (FreeMinutes, CanCombine).
-/
import Derived.Test.YthibhehnakikpaaGreatDc
namespace Go.Proofs.YthibhehnakikpaaGreat
open Go Go.RowKit
set_option linter.unusedVariables false
set_option maxRecDepth 100000
def freeRes (t : Timetable) (f : Fleet) (bs : List (List Int)) (r : Rules) (ps : List (List Int)) : List Int × Bool := if dutyOk t f bs r ps = true then (gapsP t f ps, true) else ([], false)
theorem freeRes_len (t : Timetable) (f : Fleet) (bs : List (List Int)) (r : Rules) (ps : List (List Int)) : (freeRes t f bs r ps).1.length ≤ 2 := by
  unfold freeRes
  split
  · rename_i h; have := (dutyFacts h).brk.max; simp only [gapsP_len]; omega
  · simp
set_option maxHeartbeats 800000 in
theorem impl_FreeMinutes {w0 w w2 w3 : World} {sA0 : Option Addr} {sn0 sc0 : Nat} {sA1 : Option Addr} {sn1 sc1 : Nat} {sA2 : Option Addr} {sn2 sc2 : Nat} {t : Timetable} (h : TimetableAt w0 sA0 sn0 sc0 sA1 sn1 sc1 sA2 sn2 sc2 t) (hl : Later w0 w) {qA0 : Option Addr} {qn0 qc0 : Nat} {f : Fleet} (h2 : FleetAt w2 qA0 qn0 qc0 f) (hl2 : Later w2 w) {bA : Option Addr} {bn bc : Nat} {bs : List (List Int)} (h3 : Sl 1 (rSl 1 rInt) w3 bA bn bc bs) (hl3 : Later w3 w) (r : Rules) {eA0 : Option Addr} {en0 ec0 : Nat} {d : Duty} {w4 : World} (h4 : DutyAt w4 eA0 en0 ec0 d) (hl4 : Later w4 w) (hps : Fits d.Pieces) :
    Calls Tryz.prog 49 #[.agg #[.slice sA0 sn0 sc0, .slice sA1 sn1 sc1, .slice sA2 sn2 sc2], .agg #[.slice qA0 qn0 qc0, .int .i64 f.Turn], .slice bA bn bc, .agg #[.int .i64 r.SignOn, .int .i64 r.SignOff, .int .i64 r.MaxDrive, .int .i64 r.MinBreak, .int .i64 r.PaidBreak, .int .i64 r.MaxLength], .agg #[.slice eA0 en0 ec0]] w (RetO2 1 oInt (freeRes t f bs r d.Pieces).1 (freeRes t f bs r d.Pieces).2 w) := by
  have hPP := h4.l_Pieces.later hl4
  have HB0 : ∀ W [Later ((((w.alloc (.cells #[.slice sA0 sn0 sc0, .slice sA1 sn1 sc1, .slice sA2 sn2 sc2] 46)).alloc (.cells #[.slice qA0 qn0 qc0, .int .i64 f.Turn] 48)).alloc (.cells #[.int .i64 r.SignOn, .int .i64 r.SignOff, .int .i64 r.MaxDrive, .int .i64 r.MinBreak, .int .i64 r.PaidBreak, .int .i64 r.MaxLength] 51)).alloc (.cells #[.slice eA0 en0 ec0] 75)) W] (j : Nat), W.cell? ⟨w.heap.size, j, none⟩ = #[.slice sA0 sn0 sc0, .slice sA1 sn1 sc1, .slice sA2 sn2 sc2][j]? := Later.boxes (t := 46) (fr := (0, 0)) ((heap_old (by simp; try omega)).trans ((heap_old (by simp; try omega)).trans ((heap_old (by simp; try omega)).trans (heap_new (by simp; try omega))))); have HB1 : ∀ W [Later ((((w.alloc (.cells #[.slice sA0 sn0 sc0, .slice sA1 sn1 sc1, .slice sA2 sn2 sc2] 46)).alloc (.cells #[.slice qA0 qn0 qc0, .int .i64 f.Turn] 48)).alloc (.cells #[.int .i64 r.SignOn, .int .i64 r.SignOff, .int .i64 r.MaxDrive, .int .i64 r.MinBreak, .int .i64 r.PaidBreak, .int .i64 r.MaxLength] 51)).alloc (.cells #[.slice eA0 en0 ec0] 75)) W] (j : Nat), W.cell? ⟨w.heap.size + 1, j, none⟩ = #[.slice qA0 qn0 qc0, .int .i64 f.Turn][j]? := Later.boxes (t := 48) (fr := (0, 0)) ((heap_old (by simp; try omega)).trans ((heap_old (by simp; try omega)).trans (heap_new (by simp; try omega)))); have HB2 : ∀ W [Later ((((w.alloc (.cells #[.slice sA0 sn0 sc0, .slice sA1 sn1 sc1, .slice sA2 sn2 sc2] 46)).alloc (.cells #[.slice qA0 qn0 qc0, .int .i64 f.Turn] 48)).alloc (.cells #[.int .i64 r.SignOn, .int .i64 r.SignOff, .int .i64 r.MaxDrive, .int .i64 r.MinBreak, .int .i64 r.PaidBreak, .int .i64 r.MaxLength] 51)).alloc (.cells #[.slice eA0 en0 ec0] 75)) W] (j : Nat), W.cell? ⟨w.heap.size + 1 + 1, j, none⟩ = #[.int .i64 r.SignOn, .int .i64 r.SignOff, .int .i64 r.MaxDrive, .int .i64 r.MinBreak, .int .i64 r.PaidBreak, .int .i64 r.MaxLength][j]? := Later.boxes (t := 51) (fr := (0, 0)) ((heap_old (by simp; try omega)).trans (heap_new (by simp; try omega))); have HB3 : ∀ W [Later ((((w.alloc (.cells #[.slice sA0 sn0 sc0, .slice sA1 sn1 sc1, .slice sA2 sn2 sc2] 46)).alloc (.cells #[.slice qA0 qn0 qc0, .int .i64 f.Turn] 48)).alloc (.cells #[.int .i64 r.SignOn, .int .i64 r.SignOff, .int .i64 r.MaxDrive, .int .i64 r.MinBreak, .int .i64 r.PaidBreak, .int .i64 r.MaxLength] 51)).alloc (.cells #[.slice eA0 en0 ec0] 75)) W] (j : Nat), W.cell? ⟨w.heap.size + 1 + 1 + 1, j, none⟩ = #[.slice eA0 en0 ec0][j]? := Later.boxes (t := 75) (fr := (0, 0)) (heap_new (by simp; try omega)); obtain ⟨wb, hwb⟩ : ∃ wb : World, wb = ((((w.alloc (.cells #[.slice sA0 sn0 sc0, .slice sA1 sn1 sc1, .slice sA2 sn2 sc2] 46)).alloc (.cells #[.slice qA0 qn0 qc0, .int .i64 f.Turn] 48)).alloc (.cells #[.int .i64 r.SignOn, .int .i64 r.SignOff, .int .i64 r.MaxDrive, .int .i64 r.MinBreak, .int .i64 r.PaidBreak, .int .i64 r.MaxLength] 51)).alloc (.cells #[.slice eA0 en0 ec0] 75)) := ⟨_, rfl⟩; haveI hbW : Later wb ((((w.alloc (.cells #[.slice sA0 sn0 sc0, .slice sA1 sn1 sc1, .slice sA2 sn2 sc2] 46)).alloc (.cells #[.slice qA0 qn0 qc0, .int .i64 f.Turn] 48)).alloc (.cells #[.int .i64 r.SignOn, .int .i64 r.SignOff, .int .i64 r.MaxDrive, .int .i64 r.MinBreak, .int .i64 r.PaidBreak, .int .i64 r.MaxLength] 51)).alloc (.cells #[.slice eA0 en0 ec0] 75)) := (by rw [hwb]; exact Later.rfl_); haveI hww : Later w wb := (by rw [hwb]; infer_instance); rw [← hwb] at HB0; rw [← hwb] at HB1; rw [← hwb] at HB2; rw [← hwb] at HB3; have hbE := Lib.hid (congrArg (fun x : World => x.heap.size) hwb); clear hwb
  have hwb0 := hl.trans hww
  have hwb2 := hl2.trans hww
  have hwb3 := hl3.trans hww
  have hwb4 := hl4.trans hww
  have H := Lib.hid h
  have H2 := Lib.hid h2
  have H3 := Lib.hid h3
  have H4 := Lib.hid h4
  replace hPP := hPP.later hww
  have hpl := hPP.le
  have HPS := Lib.hid hps
  clear h h2 h3 h4 hps
  by_cases c0 : dutyOk t f bs r d.Pieces = true
  · have DF := Lib.hid (dutyFacts c0)
    rw [show freeRes t f bs r d.Pieces = (gapsP t f d.Pieces, true) from if_pos c0]
    go_enter Tryz.func49, Tryz.ntmps49
    go_wp2_with first
      | (go_at_call 81; refine (impl_isDuty H.out (hwb0.trans inferInstance) H2.out (hwb2.trans inferInstance) H3.out (hwb3.trans inferInstance) r H4.out (hwb4.trans inferInstance) HPS.out).mono ?_; rintro e w1 ⟨rfl, L1⟩; have X1 := Later.trans (w := wb) inferInstance L1)
      | (go_at_call 84; refine (impl_gapsIn H.out (hwb0.trans inferInstance) H2.out (hwb2.trans inferInstance) H4.out.l_Pieces (hwb4.trans inferInstance) DF.out.run DF.out.brk).mono ?_; rintro e w2 ⟨A9, n9, c9, fp9, rfl, ho9, nd9, lo9, L2⟩; have X2 := Later.trans (w := wb) inferInstance L2)
    go_ret2
    exact ⟨A9, n9, c9, fp9, rfl, ho9, nd9, fun g hg => by have h1 := lo9 g hg; have h2 := X1.size; have h3 := hww.size; omega, hww.trans inferInstance⟩
  · have c1 : dutyOk t f bs r d.Pieces = false := by simpa using c0
    rw [show freeRes t f bs r d.Pieces = ([], false) from if_neg c0]
    clear c0
    go_enter Tryz.func49, Tryz.ntmps49
    go_wp2_with (go_at_call 81; refine (impl_isDuty H.out (hwb0.trans inferInstance) H2.out (hwb2.trans inferInstance) H3.out (hwb3.trans inferInstance) r H4.out (hwb4.trans inferInstance) HPS.out).mono ?_; rintro e w1 ⟨rfl, L1⟩; have X1 := Later.trans (w := wb) inferInstance L1)
    go_ret2
    exact ⟨none, 0, 0, [], rfl, OSl.nil_ _, by simp, by simp, hww.trans inferInstance⟩
set_option maxHeartbeats 2000000 in
theorem spec_FreeMinutes {w0 w w2 w3 : World} {sA0 : Option Addr} {sn0 sc0 : Nat} {sA1 : Option Addr} {sn1 sc1 : Nat} {sA2 : Option Addr} {sn2 sc2 : Nat} {t : Timetable} (h : TimetableAt w0 sA0 sn0 sc0 sA1 sn1 sc1 sA2 sn2 sc2 t) (hl : Later w0 w) {qA0 : Option Addr} {qn0 qc0 : Nat} {f : Fleet} (h2 : FleetAt w2 qA0 qn0 qc0 f) (hl2 : Later w2 w) {bA : Option Addr} {bn bc : Nat} {bs : List (List Int)} (h3 : Sl 1 (rSl 1 rInt) w3 bA bn bc bs) (hl3 : Later w3 w) (r : Rules) {eA0 : Option Addr} {en0 ec0 : Nat} {d : Duty} {w4 : World} (h4 : DutyAt w4 eA0 en0 ec0 d) (hl4 : Later w4 w) (hps : Fits d.Pieces) :
    Calls Tryz.prog 48 #[.agg #[.slice sA0 sn0 sc0, .slice sA1 sn1 sc1, .slice sA2 sn2 sc2], .agg #[.slice qA0 qn0 qc0, .int .i64 f.Turn], .slice bA bn bc, .agg #[.int .i64 r.SignOn, .int .i64 r.SignOff, .int .i64 r.MaxDrive, .int .i64 r.MinBreak, .int .i64 r.PaidBreak, .int .i64 r.MaxLength], .agg #[.slice eA0 en0 ec0]] w (RetO2 1 oInt (freeRes t f bs r d.Pieces).1 (freeRes t f bs r d.Pieces).2 w) := by
  have hPP := h4.l_Pieces.later hl4
  have HB0 : ∀ W [Later ((((w.alloc (.cells #[.slice sA0 sn0 sc0, .slice sA1 sn1 sc1, .slice sA2 sn2 sc2] 46)).alloc (.cells #[.slice qA0 qn0 qc0, .int .i64 f.Turn] 48)).alloc (.cells #[.int .i64 r.SignOn, .int .i64 r.SignOff, .int .i64 r.MaxDrive, .int .i64 r.MinBreak, .int .i64 r.PaidBreak, .int .i64 r.MaxLength] 51)).alloc (.cells #[.slice eA0 en0 ec0] 75)) W] (j : Nat), W.cell? ⟨w.heap.size, j, none⟩ = #[.slice sA0 sn0 sc0, .slice sA1 sn1 sc1, .slice sA2 sn2 sc2][j]? := Later.boxes (t := 46) (fr := (0, 0)) ((heap_old (by simp; try omega)).trans ((heap_old (by simp; try omega)).trans ((heap_old (by simp; try omega)).trans (heap_new (by simp; try omega))))); have HB1 : ∀ W [Later ((((w.alloc (.cells #[.slice sA0 sn0 sc0, .slice sA1 sn1 sc1, .slice sA2 sn2 sc2] 46)).alloc (.cells #[.slice qA0 qn0 qc0, .int .i64 f.Turn] 48)).alloc (.cells #[.int .i64 r.SignOn, .int .i64 r.SignOff, .int .i64 r.MaxDrive, .int .i64 r.MinBreak, .int .i64 r.PaidBreak, .int .i64 r.MaxLength] 51)).alloc (.cells #[.slice eA0 en0 ec0] 75)) W] (j : Nat), W.cell? ⟨w.heap.size + 1, j, none⟩ = #[.slice qA0 qn0 qc0, .int .i64 f.Turn][j]? := Later.boxes (t := 48) (fr := (0, 0)) ((heap_old (by simp; try omega)).trans ((heap_old (by simp; try omega)).trans (heap_new (by simp; try omega)))); have HB2 : ∀ W [Later ((((w.alloc (.cells #[.slice sA0 sn0 sc0, .slice sA1 sn1 sc1, .slice sA2 sn2 sc2] 46)).alloc (.cells #[.slice qA0 qn0 qc0, .int .i64 f.Turn] 48)).alloc (.cells #[.int .i64 r.SignOn, .int .i64 r.SignOff, .int .i64 r.MaxDrive, .int .i64 r.MinBreak, .int .i64 r.PaidBreak, .int .i64 r.MaxLength] 51)).alloc (.cells #[.slice eA0 en0 ec0] 75)) W] (j : Nat), W.cell? ⟨w.heap.size + 1 + 1, j, none⟩ = #[.int .i64 r.SignOn, .int .i64 r.SignOff, .int .i64 r.MaxDrive, .int .i64 r.MinBreak, .int .i64 r.PaidBreak, .int .i64 r.MaxLength][j]? := Later.boxes (t := 51) (fr := (0, 0)) ((heap_old (by simp; try omega)).trans (heap_new (by simp; try omega))); have HB3 : ∀ W [Later ((((w.alloc (.cells #[.slice sA0 sn0 sc0, .slice sA1 sn1 sc1, .slice sA2 sn2 sc2] 46)).alloc (.cells #[.slice qA0 qn0 qc0, .int .i64 f.Turn] 48)).alloc (.cells #[.int .i64 r.SignOn, .int .i64 r.SignOff, .int .i64 r.MaxDrive, .int .i64 r.MinBreak, .int .i64 r.PaidBreak, .int .i64 r.MaxLength] 51)).alloc (.cells #[.slice eA0 en0 ec0] 75)) W] (j : Nat), W.cell? ⟨w.heap.size + 1 + 1 + 1, j, none⟩ = #[.slice eA0 en0 ec0][j]? := Later.boxes (t := 75) (fr := (0, 0)) (heap_new (by simp; try omega)); obtain ⟨wb, hwb⟩ : ∃ wb : World, wb = ((((w.alloc (.cells #[.slice sA0 sn0 sc0, .slice sA1 sn1 sc1, .slice sA2 sn2 sc2] 46)).alloc (.cells #[.slice qA0 qn0 qc0, .int .i64 f.Turn] 48)).alloc (.cells #[.int .i64 r.SignOn, .int .i64 r.SignOff, .int .i64 r.MaxDrive, .int .i64 r.MinBreak, .int .i64 r.PaidBreak, .int .i64 r.MaxLength] 51)).alloc (.cells #[.slice eA0 en0 ec0] 75)) := ⟨_, rfl⟩; haveI hbW : Later wb ((((w.alloc (.cells #[.slice sA0 sn0 sc0, .slice sA1 sn1 sc1, .slice sA2 sn2 sc2] 46)).alloc (.cells #[.slice qA0 qn0 qc0, .int .i64 f.Turn] 48)).alloc (.cells #[.int .i64 r.SignOn, .int .i64 r.SignOff, .int .i64 r.MaxDrive, .int .i64 r.MinBreak, .int .i64 r.PaidBreak, .int .i64 r.MaxLength] 51)).alloc (.cells #[.slice eA0 en0 ec0] 75)) := (by rw [hwb]; exact Later.rfl_); haveI hww : Later w wb := (by rw [hwb]; infer_instance); rw [← hwb] at HB0; rw [← hwb] at HB1; rw [← hwb] at HB2; rw [← hwb] at HB3; have hbE := Lib.hid (congrArg (fun x : World => x.heap.size) hwb); clear hwb
  have hwb0 := hl.trans hww
  have hwb2 := hl2.trans hww
  have hwb3 := hl3.trans hww
  have hwb4 := hl4.trans hww
  have H := Lib.hid h
  have H2 := Lib.hid h2
  have H3 := Lib.hid h3
  have H4 := Lib.hid h4
  replace hPP := hPP.later hww
  have hpl := hPP.le
  have HPS := Lib.hid hps
  clear h h2 h3 h4 hps
  have hbs : wb.heap.size ≤ w.heap.size + 4 := by have := hbE.out; simp at this; omega
  have hbs2 : w.heap.size + 4 ≤ wb.heap.size := by have := hbE.out; simp at this; omega
  by_cases c0 : dutyOk t f bs r d.Pieces = true
  rotate_left
  · have c1 : dutyOk t f bs r d.Pieces = false := by simpa using c0
    rw [show freeRes t f bs r d.Pieces = ([], false) from if_neg c0]
    clear c0
    go_enter Tryz.func48, Tryz.ntmps48
    go_wp2_with (go_at_call 79; refine (spec_l12Good H.out (hwb0.trans inferInstance) H2.out (hwb2.trans inferInstance) H3.out (hwb3.trans inferInstance) r H4.out (hwb4.trans inferInstance) HPS.out).mono ?_; rintro e w1 ⟨rfl, L1⟩; have X1 := Later.trans (w := wb) inferInstance L1)
    go_ret2
    exact ⟨_, _, _, [], rfl, OSl.nil_ _, by simp, by simp, hww.trans inferInstance⟩
  have DF := Lib.hid (dutyFacts c0)
  rw [show freeRes t f bs r d.Pieces = (gapsP t f d.Pieces, true) from if_pos c0]
  have Hpl := Lib.hid hPP.len
  have hn3 : en0 ≤ 3 := by rw [hPP.len]; exact DF.out.brk.max
  have hn1 : 0 < en0 := by rw [hPP.len]; exact DF.out.brk.pos
  go_enter Tryz.func48, Tryz.ntmps48
  go_wp2_with (go_at_call 79; refine (spec_l12Good H.out (hwb0.trans inferInstance) H2.out (hwb2.trans inferInstance) H3.out (hwb3.trans inferInstance) r H4.out (hwb4.trans inferInstance) HPS.out).mono ?_; rintro e w1 ⟨rfl, L1⟩; have X1 := Later.trans (w := wb) inferInstance L1; have V1 : Later (((((w.alloc (.cells #[.slice sA0 sn0 sc0, .slice sA1 sn1 sc1, .slice sA2 sn2 sc2] 46)).alloc (.cells #[.slice qA0 qn0 qc0, .int .i64 f.Turn] 48)).alloc (.cells #[.int .i64 r.SignOn, .int .i64 r.SignOff, .int .i64 r.MaxDrive, .int .i64 r.MinBreak, .int .i64 r.PaidBreak, .int .i64 r.MaxLength] 51)).alloc (.cells #[.slice eA0 en0 ec0] 75)).alloc (.cells #[] 3)) w1 := Later.trans inferInstance L1)
  clear c0
  go_loopw [12, 13] (fun ov i wr => ∃ (j m : Nat), j = m + 1 ∧ m < en0 ∧ i = .int .i64 j ∧ Hid (wr.ownsRow (w.heap.size + 4) 3 1 ov (gapsP t f (d.Pieces.take j)).length ((gapsP t f (d.Pieces.take j)).map (Value.int .i64))) ∧ Later wb wr) (fun _ i _ => en0 - (intOf i).toNat)
  case atStart => exact ⟨1, 0, rfl, hn1, rfl, by rw [gapsP_one]; exact Lib.hid (ownsRow_later (by simpa using World.ownsRow_lit (base := w.heap.size + 4) (e := 3) (size := 1) ((((w.alloc (.cells #[.slice sA0 sn0 sc0, .slice sA1 sn1 sc1, .slice sA2 sn2 sc2] 46)).alloc (.cells #[.slice qA0 qn0 qc0, .int .i64 f.Turn] 48)).alloc (.cells #[.int .i64 r.SignOn, .int .i64 r.SignOff, .int .i64 r.MaxDrive, .int .i64 r.MinBreak, .int .i64 r.PaidBreak, .int .i64 r.MaxLength] 51)).alloc (.cells #[.slice eA0 en0 ec0] 75)) #[] 0 (by simp; try omega) (by simp [maxLen]) rfl) (inferInstance : Later (((((w.alloc (.cells #[.slice sA0 sn0 sc0, .slice sA1 sn1 sc1, .slice sA2 sn2 sc2] 46)).alloc (.cells #[.slice qA0 qn0 qc0, .int .i64 f.Turn] 48)).alloc (.cells #[.int .i64 r.SignOn, .int .i64 r.SignOff, .int .i64 r.MaxDrive, .int .i64 r.MinBreak, .int .i64 r.PaidBreak, .int .i64 r.MaxLength] 51)).alloc (.cells #[.slice eA0 en0 ec0] 75)).alloc (.cells #[] 3)) _)), inferInstance⟩
  case round =>
    obtain ⟨j, m, hjm, hm, rfl, hown, hX⟩ := hrel
    by_cases hjt : j < en0
    · obtain ⟨b, o, A1, n1, c1, x, rfl, hx, hc0, hi⟩ := Sl.row_ hPP hm
      obtain ⟨b', o', A2, n2, c2, z, hA', hz, hc0', hi'⟩ := Sl.row_ hPP hjt
      cases hA'
      have hxf := DF.out.brk.at_ hx.out
      have hzf := DF.out.brk.at_ hz.out
      have HI := Lib.hid hi
      have HI' := Lib.hid hi'
      have HXP := Lib.hid hxf.1
      have HXF := Lib.hid hxf.2
      have HZP := Lib.hid hzf.1
      have HZF := Lib.hid hzf.2
      have HT : Hid (gapsP t f (d.Pieces.take (j + 1)) = gapsP t f (d.Pieces.take j) ++ [gapP t f x z]) := by show _ = _; subst hjm; exact gapsP_take hx.out hz.out
      have hle : (gapsP t f (d.Pieces.take j)).length ≤ 3 := by rw [gapsP_len, List.length_take]; omega
      have hwm : IntKind.i64.wrap ((j : Int) - 1) = (m : Int) := by rw [IntKind.wrap_i64]; omega
      have hjt' : (j : Int) < en0 := by omega
      have hm' : (m : Int) < en0 := by omega
      have Hjm := Lib.hid hjm
      clear hi hi' hxf hzf hx hz hjm
      go_wp2_with fail
      go_region_held3 (fun w' => Later wb w') (exact inferInstance) (first
        | (go_at_call 83; refine (spec_l12Gap H.out (hwb0.trans inferInstance) H2.out (hwb2.trans inferInstance) DF.out.run HI.out inferInstance HXP.out HXF.out HI'.out inferInstance HZP.out HZF.out).mono ?_; rintro e w7 ⟨rfl, L7⟩; have X7 := Later.trans (w := wb) inferInstance L7; have Z7 := Later.trans (w := wr) inferInstance L7)
        | (rw [if_pos (by rfl)]; refine wp_app_B _ _ 65 rfl Tryz.underlying65 infoInt rfl (by decide) (by decide) rfl (by exact ownsRow_later hown.out (inferInstance : Later wr _)) (inferInstance : Later wb _) hbs (Nat.le_trans hbs2 (Later.size (w := wb) inferInstance)) rfl rfl (one_cell _ _) (by omega) ?_; intro v' w9 hown' hX9))
      clear hwm
      go_wp2
      go_roundw
      case rel => exact ⟨j + 1, j, rfl, hjt, by go_num, by show World.ownsRow _ _ _ _ _ _ _; rw [HT.out, List.map_append, List.length_append]; exact hown', inferInstance⟩
      case measure => simp [intOf]; omega
    · have hjt' : ¬ ((j : Int) < en0) := by omega
      have HE : Hid (gapsP t f (d.Pieces.take j) = gapsP t f d.Pieces) := by show _ = _; rw [List.take_of_length_le (by have := Hpl.out; omega)]
      rw [HE.out] at hown
      clear HE
      go_wp2
      go_ret2
      obtain ⟨A, c, fp, rfl, ho, hnd, hlo⟩ := OSl.ints_of_own hown.out (fun y hy => by have := gapsP_mem DF.out.run DF.out.brk y hy; unfold I64; omega)
      exact ⟨A, _, c, fp, rfl, ho, hnd, fun g hg => by have := hlo g hg; omega, hww.trans inferInstance⟩
theorem sl_two {W : World} {A1 A2 : Option Addr} {n1 c1 n2 c2 : Nat} {a b : List Int} {te : TypeId} (h1 : Ints W A1 n1 c1 a) (h2 : Ints W A2 n2 c2 b) :
    Sl 1 (rSl 1 rInt) (W.alloc (.cells #[.slice A1 n1 c1, .slice A2 n2 c2] te)) (some ⟨W.heap.size, 0, none⟩) 2 2 [a, b] := by
  refine ⟨rfl, by omega, by omega, fun k x hx => ?_⟩
  match k, hx with
  | 0, hx =>
    simp at hx
    subst hx
    exact ⟨_, _, [.slice A1 n1 c1], rfl, rfl, fun j v hv => by
      match j, hv with
      | 0, hv => simp at hv; subst hv; rw [World.cell?_alloc_new]; rfl, A1, n1, c1, rfl, h1.later inferInstance⟩
  | 1, hx =>
    simp at hx
    subst hx
    exact ⟨_, _, [.slice A2 n2 c2], rfl, rfl, fun j v hv => by
      match j, hv with
      | 0, hv => simp at hv; subst hv; rw [World.cell?_alloc_new]; rfl, A2, n2, c2, rfl, h2.later inferInstance⟩
def combRes (t : Timetable) (f : Fleet) (bs : List (List Int)) (r : Rules) (a b : List Int) : Bool × Bool := if okRuled t f bs r = true then (decide (brokenD t f bs r [a, b] = 0), true) else (false, false)
set_option maxHeartbeats 800000 in
theorem impl_CanCombine {w0 w w2 w3 : World} {sA0 : Option Addr} {sn0 sc0 : Nat} {sA1 : Option Addr} {sn1 sc1 : Nat} {sA2 : Option Addr} {sn2 sc2 : Nat} {t : Timetable} (h : TimetableAt w0 sA0 sn0 sc0 sA1 sn1 sc1 sA2 sn2 sc2 t) (hl : Later w0 w) {qA0 : Option Addr} {qn0 qc0 : Nat} {f : Fleet} (h2 : FleetAt w2 qA0 qn0 qc0 f) (hl2 : Later w2 w) {bA : Option Addr} {bn bc : Nat} {bs : List (List Int)} (h3 : Sl 1 (rSl 1 rInt) w3 bA bn bc bs) (hl3 : Later w3 w) (r : Rules) {w4 w5 : World} {aA : Option Addr} {an ac : Nat} {a : List Int} (h4 : Ints w4 aA an ac a) (hl4 : Later w4 w) {gA : Option Addr} {gn gc : Nat} {g : List Int} (h5 : Ints w5 gA gn gc g) (hl5 : Later w5 w) (hps : a.length ≤ 1048576 ∧ g.length ≤ 1048576) :
    Calls Tryz.prog 35 #[.agg #[.slice sA0 sn0 sc0, .slice sA1 sn1 sc1, .slice sA2 sn2 sc2], .agg #[.slice qA0 qn0 qc0, .int .i64 f.Turn], .slice bA bn bc, .agg #[.int .i64 r.SignOn, .int .i64 r.SignOff, .int .i64 r.MaxDrive, .int .i64 r.MinBreak, .int .i64 r.PaidBreak, .int .i64 r.MaxLength], .slice aA an ac, .slice gA gn gc] w (Ret (.tuple #[.bool (combRes t f bs r a g).1, .bool (combRes t f bs r a g).2]) w) := by
  have ha := h4.later hl4
  have hg := h5.later hl5
  have HB0 : ∀ W [Later (((w.alloc (.cells #[.slice sA0 sn0 sc0, .slice sA1 sn1 sc1, .slice sA2 sn2 sc2] 46)).alloc (.cells #[.slice qA0 qn0 qc0, .int .i64 f.Turn] 48)).alloc (.cells #[.int .i64 r.SignOn, .int .i64 r.SignOff, .int .i64 r.MaxDrive, .int .i64 r.MinBreak, .int .i64 r.PaidBreak, .int .i64 r.MaxLength] 51)) W] (j : Nat), W.cell? ⟨w.heap.size, j, none⟩ = #[.slice sA0 sn0 sc0, .slice sA1 sn1 sc1, .slice sA2 sn2 sc2][j]? := Later.boxes (t := 46) (fr := (0, 0)) ((heap_old (by simp; try omega)).trans ((heap_old (by simp; try omega)).trans (heap_new (by simp; try omega)))); have HB1 : ∀ W [Later (((w.alloc (.cells #[.slice sA0 sn0 sc0, .slice sA1 sn1 sc1, .slice sA2 sn2 sc2] 46)).alloc (.cells #[.slice qA0 qn0 qc0, .int .i64 f.Turn] 48)).alloc (.cells #[.int .i64 r.SignOn, .int .i64 r.SignOff, .int .i64 r.MaxDrive, .int .i64 r.MinBreak, .int .i64 r.PaidBreak, .int .i64 r.MaxLength] 51)) W] (j : Nat), W.cell? ⟨w.heap.size + 1, j, none⟩ = #[.slice qA0 qn0 qc0, .int .i64 f.Turn][j]? := Later.boxes (t := 48) (fr := (0, 0)) ((heap_old (by simp; try omega)).trans (heap_new (by simp; try omega))); have HB2 : ∀ W [Later (((w.alloc (.cells #[.slice sA0 sn0 sc0, .slice sA1 sn1 sc1, .slice sA2 sn2 sc2] 46)).alloc (.cells #[.slice qA0 qn0 qc0, .int .i64 f.Turn] 48)).alloc (.cells #[.int .i64 r.SignOn, .int .i64 r.SignOff, .int .i64 r.MaxDrive, .int .i64 r.MinBreak, .int .i64 r.PaidBreak, .int .i64 r.MaxLength] 51)) W] (j : Nat), W.cell? ⟨w.heap.size + 1 + 1, j, none⟩ = #[.int .i64 r.SignOn, .int .i64 r.SignOff, .int .i64 r.MaxDrive, .int .i64 r.MinBreak, .int .i64 r.PaidBreak, .int .i64 r.MaxLength][j]? := Later.boxes (t := 51) (fr := (0, 0)) (heap_new (by simp; try omega)); obtain ⟨wb, hwb⟩ : ∃ wb : World, wb = (((w.alloc (.cells #[.slice sA0 sn0 sc0, .slice sA1 sn1 sc1, .slice sA2 sn2 sc2] 46)).alloc (.cells #[.slice qA0 qn0 qc0, .int .i64 f.Turn] 48)).alloc (.cells #[.int .i64 r.SignOn, .int .i64 r.SignOff, .int .i64 r.MaxDrive, .int .i64 r.MinBreak, .int .i64 r.PaidBreak, .int .i64 r.MaxLength] 51)) := ⟨_, rfl⟩; haveI hbW : Later wb (((w.alloc (.cells #[.slice sA0 sn0 sc0, .slice sA1 sn1 sc1, .slice sA2 sn2 sc2] 46)).alloc (.cells #[.slice qA0 qn0 qc0, .int .i64 f.Turn] 48)).alloc (.cells #[.int .i64 r.SignOn, .int .i64 r.SignOff, .int .i64 r.MaxDrive, .int .i64 r.MinBreak, .int .i64 r.PaidBreak, .int .i64 r.MaxLength] 51)) := (by rw [hwb]; exact Later.rfl_); haveI hww : Later w wb := (by rw [hwb]; infer_instance); rw [← hwb] at HB0; rw [← hwb] at HB1; rw [← hwb] at HB2; have hbE := Lib.hid (congrArg (fun x : World => x.heap.size) hwb); clear hwb
  have hwb0 := hl.trans hww
  have hwb2 := hl2.trans hww
  have hwb3 := hl3.trans hww
  have H := Lib.hid h
  have H2 := Lib.hid h2
  have H3 := Lib.hid h3
  clear h h2 h3
  have HA := Lib.hid (ha.later hww)
  have HG := Lib.hid (hg.later hww)
  have HPS : Hid (Fits [a, g]) := ⟨by simp; omega, by intro p hp; simp at hp; rcases hp with rfl | rfl <;> omega⟩
  clear h4 h5 ha hg hps
  by_cases c0 : okRuled t f bs r = true
  · have HK := Lib.hid (okRuled_blocks c0)
    have RR := Lib.hid (okRuled_rules c0)
    rw [show combRes t f bs r a g = (decide (brokenD t f bs r [a, g] = 0), true) from if_pos c0]
    go_enter Tryz.func35, Tryz.ntmps35
    go_wp2_with first
      | (go_at_call 63; refine (impl_areRuled H.out (hwb0.trans inferInstance) H2.out (hwb2.trans inferInstance) H3.out (hwb3.trans inferInstance) r).mono ?_; rintro e w1 ⟨rfl, L1⟩; have X1 := Later.trans (w := wb) inferInstance L1)
      | (go_at_call 78; have HDU : DutyAt (w1.alloc (.cells #[.slice aA an ac, .slice gA gn gc] 65)) (some ⟨w1.heap.size, 0, none⟩) 2 2 ⟨[a, g]⟩ := ⟨sl_two (HA.out.later inferInstance) (HG.out.later inferInstance)⟩; refine (impl_brokenRule H.out (hwb0.trans inferInstance) H2.out (hwb2.trans inferInstance) H3.out (hwb3.trans inferInstance) HDU Later.rfl_ HK.out RR.out HPS.out).mono ?_; rintro e w2 ⟨rfl, L2⟩; have X2 := Later.trans (w := wb) inferInstance L2)
    go_ret2
    exact ⟨rfl, hww.trans inferInstance⟩
  · have c1 : okRuled t f bs r = false := by simpa using c0
    rw [show combRes t f bs r a g = (false, false) from if_neg c0]
    clear c0
    go_enter Tryz.func35, Tryz.ntmps35
    go_wp2_with (go_at_call 63; refine (impl_areRuled H.out (hwb0.trans inferInstance) H2.out (hwb2.trans inferInstance) H3.out (hwb3.trans inferInstance) r).mono ?_; rintro e w1 ⟨rfl, L1⟩; have X1 := Later.trans (w := wb) inferInstance L1)
    go_ret2
    exact ⟨rfl, hww.trans inferInstance⟩
set_option maxHeartbeats 800000 in
theorem spec_CanCombine {w0 w w2 w3 : World} {sA0 : Option Addr} {sn0 sc0 : Nat} {sA1 : Option Addr} {sn1 sc1 : Nat} {sA2 : Option Addr} {sn2 sc2 : Nat} {t : Timetable} (h : TimetableAt w0 sA0 sn0 sc0 sA1 sn1 sc1 sA2 sn2 sc2 t) (hl : Later w0 w) {qA0 : Option Addr} {qn0 qc0 : Nat} {f : Fleet} (h2 : FleetAt w2 qA0 qn0 qc0 f) (hl2 : Later w2 w) {bA : Option Addr} {bn bc : Nat} {bs : List (List Int)} (h3 : Sl 1 (rSl 1 rInt) w3 bA bn bc bs) (hl3 : Later w3 w) (r : Rules) {w4 w5 : World} {aA : Option Addr} {an ac : Nat} {a : List Int} (h4 : Ints w4 aA an ac a) (hl4 : Later w4 w) {gA : Option Addr} {gn gc : Nat} {g : List Int} (h5 : Ints w5 gA gn gc g) (hl5 : Later w5 w) (hps : a.length ≤ 1048576 ∧ g.length ≤ 1048576) :
    Calls Tryz.prog 33 #[.agg #[.slice sA0 sn0 sc0, .slice sA1 sn1 sc1, .slice sA2 sn2 sc2], .agg #[.slice qA0 qn0 qc0, .int .i64 f.Turn], .slice bA bn bc, .agg #[.int .i64 r.SignOn, .int .i64 r.SignOff, .int .i64 r.MaxDrive, .int .i64 r.MinBreak, .int .i64 r.PaidBreak, .int .i64 r.MaxLength], .slice aA an ac, .slice gA gn gc] w (Ret (.tuple #[.bool (combRes t f bs r a g).1, .bool (combRes t f bs r a g).2]) w) := by
  have ha := h4.later hl4
  have hg := h5.later hl5
  have HB0 : ∀ W [Later (((w.alloc (.cells #[.slice sA0 sn0 sc0, .slice sA1 sn1 sc1, .slice sA2 sn2 sc2] 46)).alloc (.cells #[.slice qA0 qn0 qc0, .int .i64 f.Turn] 48)).alloc (.cells #[.int .i64 r.SignOn, .int .i64 r.SignOff, .int .i64 r.MaxDrive, .int .i64 r.MinBreak, .int .i64 r.PaidBreak, .int .i64 r.MaxLength] 51)) W] (j : Nat), W.cell? ⟨w.heap.size, j, none⟩ = #[.slice sA0 sn0 sc0, .slice sA1 sn1 sc1, .slice sA2 sn2 sc2][j]? := Later.boxes (t := 46) (fr := (0, 0)) ((heap_old (by simp; try omega)).trans ((heap_old (by simp; try omega)).trans (heap_new (by simp; try omega)))); have HB1 : ∀ W [Later (((w.alloc (.cells #[.slice sA0 sn0 sc0, .slice sA1 sn1 sc1, .slice sA2 sn2 sc2] 46)).alloc (.cells #[.slice qA0 qn0 qc0, .int .i64 f.Turn] 48)).alloc (.cells #[.int .i64 r.SignOn, .int .i64 r.SignOff, .int .i64 r.MaxDrive, .int .i64 r.MinBreak, .int .i64 r.PaidBreak, .int .i64 r.MaxLength] 51)) W] (j : Nat), W.cell? ⟨w.heap.size + 1, j, none⟩ = #[.slice qA0 qn0 qc0, .int .i64 f.Turn][j]? := Later.boxes (t := 48) (fr := (0, 0)) ((heap_old (by simp; try omega)).trans (heap_new (by simp; try omega))); have HB2 : ∀ W [Later (((w.alloc (.cells #[.slice sA0 sn0 sc0, .slice sA1 sn1 sc1, .slice sA2 sn2 sc2] 46)).alloc (.cells #[.slice qA0 qn0 qc0, .int .i64 f.Turn] 48)).alloc (.cells #[.int .i64 r.SignOn, .int .i64 r.SignOff, .int .i64 r.MaxDrive, .int .i64 r.MinBreak, .int .i64 r.PaidBreak, .int .i64 r.MaxLength] 51)) W] (j : Nat), W.cell? ⟨w.heap.size + 1 + 1, j, none⟩ = #[.int .i64 r.SignOn, .int .i64 r.SignOff, .int .i64 r.MaxDrive, .int .i64 r.MinBreak, .int .i64 r.PaidBreak, .int .i64 r.MaxLength][j]? := Later.boxes (t := 51) (fr := (0, 0)) (heap_new (by simp; try omega)); obtain ⟨wb, hwb⟩ : ∃ wb : World, wb = (((w.alloc (.cells #[.slice sA0 sn0 sc0, .slice sA1 sn1 sc1, .slice sA2 sn2 sc2] 46)).alloc (.cells #[.slice qA0 qn0 qc0, .int .i64 f.Turn] 48)).alloc (.cells #[.int .i64 r.SignOn, .int .i64 r.SignOff, .int .i64 r.MaxDrive, .int .i64 r.MinBreak, .int .i64 r.PaidBreak, .int .i64 r.MaxLength] 51)) := ⟨_, rfl⟩; haveI hbW : Later wb (((w.alloc (.cells #[.slice sA0 sn0 sc0, .slice sA1 sn1 sc1, .slice sA2 sn2 sc2] 46)).alloc (.cells #[.slice qA0 qn0 qc0, .int .i64 f.Turn] 48)).alloc (.cells #[.int .i64 r.SignOn, .int .i64 r.SignOff, .int .i64 r.MaxDrive, .int .i64 r.MinBreak, .int .i64 r.PaidBreak, .int .i64 r.MaxLength] 51)) := (by rw [hwb]; exact Later.rfl_); haveI hww : Later w wb := (by rw [hwb]; infer_instance); rw [← hwb] at HB0; rw [← hwb] at HB1; rw [← hwb] at HB2; have hbE := Lib.hid (congrArg (fun x : World => x.heap.size) hwb); clear hwb
  have hwb0 := hl.trans hww
  have hwb2 := hl2.trans hww
  have hwb3 := hl3.trans hww
  have H := Lib.hid h
  have H2 := Lib.hid h2
  have H3 := Lib.hid h3
  clear h h2 h3
  have HA := Lib.hid (ha.later hww)
  have HG := Lib.hid (hg.later hww)
  have HPS : Hid (Fits [a, g]) := ⟨by simp; omega, by intro p hp; simp at hp; rcases hp with rfl | rfl <;> omega⟩
  clear h4 h5 ha hg hps
  by_cases c0 : okRuled t f bs r = true
  · have HK := Lib.hid (okRuled_blocks c0)
    have RR := Lib.hid (okRuled_rules c0)
    rw [show combRes t f bs r a g = (decide (brokenD t f bs r [a, g] = 0), true) from if_pos c0]
    go_enter Tryz.func33, Tryz.ntmps33
    go_wp2_with first
      | (go_at_call 58; refine (spec_l12Asked H.out (hwb0.trans inferInstance) H2.out (hwb2.trans inferInstance) H3.out (hwb3.trans inferInstance) r).mono ?_; rintro e w1 ⟨rfl, L1⟩; have X1 := Later.trans (w := wb) inferInstance L1)
      | (go_at_call 77; have HDU : DutyAt (w1.alloc (.cells #[.slice aA an ac, .slice gA gn gc] 65)) (some ⟨w1.heap.size, 0, none⟩) 2 2 ⟨[a, g]⟩ := ⟨sl_two (HA.out.later inferInstance) (HG.out.later inferInstance)⟩; refine (spec_l12Broken H.out (hwb0.trans inferInstance) H2.out (hwb2.trans inferInstance) H3.out (hwb3.trans inferInstance) HDU Later.rfl_ HK.out RR.out HPS.out).mono ?_; rintro e w2 ⟨rfl, L2⟩; have X2 := Later.trans (w := wb) inferInstance L2)
    go_ret2
    exact ⟨rfl, hww.trans inferInstance⟩
  · have c1 : okRuled t f bs r = false := by simpa using c0
    rw [show combRes t f bs r a g = (false, false) from if_neg c0]
    clear c0
    go_enter Tryz.func33, Tryz.ntmps33
    go_wp2_with (go_at_call 58; refine (spec_l12Asked H.out (hwb0.trans inferInstance) H2.out (hwb2.trans inferInstance) H3.out (hwb3.trans inferInstance) r).mono ?_; rintro e w1 ⟨rfl, L1⟩; have X1 := Later.trans (w := wb) inferInstance L1)
    go_ret2
    exact ⟨rfl, hww.trans inferInstance⟩
end Go.Proofs.YthibhehnakikpaaGreat
