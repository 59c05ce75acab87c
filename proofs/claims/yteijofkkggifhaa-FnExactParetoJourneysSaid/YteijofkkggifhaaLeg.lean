/-
  Legs: the leg of a trip between two stops.
-/
import Derived.Test.YteijofkkggifhaaTimeE

import Derived.Test.YteijofkkggifhaaLegP
namespace Go.Proofs.Yteijofkkggifhaa
open Go Go.RowKit
set_option linter.unusedVariables false
set_option maxRecDepth 100000
def RetLegB (r : Leg × Bool) (w : World) (e : Ending) (w' : World) : Prop := e = .returned (.tuple #[.agg #[.int .i64 r.1.Trip, .int .i64 r.1.From, .int .i64 r.1.To, .int .i64 r.1.Depart, .int .i64 r.1.Arrive], .bool r.2]) ∧ Later w w'
set_option maxHeartbeats 1000000 in
theorem impl_fillLeg {w0 w : World} {sA0 : Option Addr} {sn0 sc0 : Nat} {sA1 : Option Addr} {sn1 sc1 : Nat} {sA2 : Option Addr} {sn2 sc2 : Nat} {t : Timetable} (h : TimetableAt w0 sA0 sn0 sc0 sA1 sn1 sc1 sA2 sn2 sc2 t) (hl : Later w0 w) (nf : NetFacts t.Network) (x : Trip) (ti : TripIn t x) (a b : Int) :
    Calls Try.prog 180 #[.agg #[.slice sA0 sn0 sc0, .slice sA1 sn1 sc1, .slice sA2 sn2 sc2], .agg #[.int .i64 x.Id, .int .i64 x.Line, .int .i64 x.Start], .int .i64 a, .int .i64 b] w (RetLegB (fillT t x a b) w) := by
  have lf := lineAtT_facts nf ti.line0 ti.line1
  have NF := Lib.hid nf
  have TI := Lib.hid ti
  obtain ⟨wx, hwx⟩ : ∃ wx : World, wx = ((w.alloc (.cells #[.slice sA0 sn0 sc0, .slice sA1 sn1 sc1, .slice sA2 sn2 sc2] 39)).alloc (.cells #[.int .i64 x.Id, .int .i64 x.Line, .int .i64 x.Start] 107)).alloc (.cells #[.int .i64 0, .int .i64 0, .int .i64 0, .int .i64 0, .int .i64 0] 122) := ⟨_, rfl⟩
  have HBX : Blk wx (w.heap.size + 1 + 1) 122 #[.int .i64 0, .int .i64 0, .int .i64 0, .int .i64 0, .int .i64 0] := by rw [hwx]; exact heap_new (by simp)
  have HB0 : ∀ W [Later ((w.alloc (.cells #[.slice sA0 sn0 sc0, .slice sA1 sn1 sc1, .slice sA2 sn2 sc2] 39)).alloc (.cells #[.int .i64 x.Id, .int .i64 x.Line, .int .i64 x.Start] 107)) W] (j : Nat), W.cell? ⟨w.heap.size, j, none⟩ = #[.slice sA0 sn0 sc0, .slice sA1 sn1 sc1, .slice sA2 sn2 sc2][j]? := Later.boxes (t := 39) (fr := (0, 0)) ((heap_old (by simp; try omega)).trans (heap_new (by simp; try omega))); have HB1 : ∀ W [Later ((w.alloc (.cells #[.slice sA0 sn0 sc0, .slice sA1 sn1 sc1, .slice sA2 sn2 sc2] 39)).alloc (.cells #[.int .i64 x.Id, .int .i64 x.Line, .int .i64 x.Start] 107)) W] (j : Nat), W.cell? ⟨w.heap.size + 1, j, none⟩ = #[.int .i64 x.Id, .int .i64 x.Line, .int .i64 x.Start][j]? := Later.boxes (t := 107) (fr := (0, 0)) (heap_new (by simp; try omega)); obtain ⟨wb, hwb⟩ : ∃ wb : World, wb = ((w.alloc (.cells #[.slice sA0 sn0 sc0, .slice sA1 sn1 sc1, .slice sA2 sn2 sc2] 39)).alloc (.cells #[.int .i64 x.Id, .int .i64 x.Line, .int .i64 x.Start] 107)) := ⟨_, rfl⟩; haveI hbW : Later wb ((w.alloc (.cells #[.slice sA0 sn0 sc0, .slice sA1 sn1 sc1, .slice sA2 sn2 sc2] 39)).alloc (.cells #[.int .i64 x.Id, .int .i64 x.Line, .int .i64 x.Start] 107)) := (by rw [hwb]; exact Later.rfl_); haveI hww : Later w wb := (by rw [hwb]; infer_instance); rw [← hwb] at HB0; rw [← hwb] at HB1; have hbE := Lib.hid (congrArg (fun x : World => x.heap.size) hwb); clear hwb
  have hwb0 := hl.trans hww
  haveI hxW : Later wx (((w.alloc (.cells #[.slice sA0 sn0 sc0, .slice sA1 sn1 sc1, .slice sA2 sn2 sc2] 39)).alloc (.cells #[.int .i64 x.Id, .int .i64 x.Line, .int .i64 x.Start] 107)).alloc (.cells #[.int .i64 0, .int .i64 0, .int .i64 0, .int .i64 0, .int .i64 0] 122)) := by rw [hwx]; exact Later.rfl_
  haveI hbx : Later wb wx := by rw [hwx]; infer_instance
  have hzb : wb.heap.size ≤ w.heap.size + 1 + 1 := by have := hbE.out; simp at this; omega
  haveI hN : New wb (w.heap.size + 1 + 1) := ⟨hzb⟩
  have H := Lib.hid h
  have hpb := idx_bd (intIs a) (lineAtT t x.Line).Stops
  have hqb := idx_bd (intIs b) (lineAtT t x.Line).Stops
  have HRL : Hid ((lineAtT t x.Line).Runs.length + 1 = (lineAtT t x.Line).Stops.length) := lf.runs
  obtain ⟨p, hp⟩ : ∃ p : Int, p = idx (intIs a) (lineAtT t x.Line).Stops := ⟨_, rfl⟩
  obtain ⟨q, hq⟩ : ∃ q : Int, q = idx (intIs b) (lineAtT t x.Line).Stops := ⟨_, rfl⟩
  rw [← hp] at hpb
  rw [← hq] at hqb
  have HP := Lib.hid hp
  have HQ := Lib.hid hq
  have hfl := field_Line1
  clear h hwx lf nf ti hp hq
  by_cases c : p < 0 ∨ q ≤ p
  · have HR : Hid (fillT t x a b = (noLeg, false)) := by show _ = _; unfold fillT; rw [← HP.out, ← HQ.out, if_pos c]
    rw [HR.out]
    rcases Classical.em (p < 0) with c1 | c1
    · clear c
      go_enter Try.func180, Try.ntmps180
      go_wp2_with first
        | (go_at_call 73; refine (impl_lineOf H.out (hwb0.trans inferInstance) x TI.out.line0 TI.out.line1).mono ?_; rintro e w1 ⟨A0, n0, c0, A1, n1, c1', rfl, hy, L1⟩; have X1 := Later.trans (w := wb) inferInstance L1; have Z1 := Later.trans (w := wx) inferInstance L1; have HY := Lib.hid hy; clear hy)
        | (go_at_call 151; ((with_reducible refine (slices_IndexInt HY.out.l_Stops (hwb0.trans inferInstance) a).mono ?_); rw [← HP.out]; rintro e w2 ⟨rfl, L2⟩); have X2 := Later.trans (w := wb) inferInstance L2; have Z2 := Later.trans (w := wx) inferInstance L2)
        | (go_at_call 151; ((with_reducible refine (slices_IndexInt HY.out.l_Stops (hwb0.trans inferInstance) b).mono ?_); rw [← HQ.out]; rintro e w3 ⟨rfl, L3⟩); have X3 := Later.trans (w := wb) inferInstance L3; have Z3 := Later.trans (w := wx) inferInstance L3; have hB := HBX.later Z3; have hcr := fun i => hB.cell i; have hfr := fun i => hB.frozen i)
      have HF := ((((hB.set_ 0 (.int .i64 0)).set_ 1 (.int .i64 0)).set_ 2 (.int .i64 0)).set_ 3 (.int .i64 0)).set_ 4 (.int .i64 0)
      have hr0 := (HF.cell 0).trans (show _ = some (.int .i64 0 : Value) from rfl)
      have hr1 := (HF.cell 1).trans (show _ = some (.int .i64 0 : Value) from rfl)
      have hr2 := (HF.cell 2).trans (show _ = some (.int .i64 0 : Value) from rfl)
      have hr3 := (HF.cell 3).trans (show _ = some (.int .i64 0 : Value) from rfl)
      have hr4 := (HF.cell 4).trans (show _ = some (.int .i64 0 : Value) from rfl)
      refine bodyPost_ret (v := .tuple #[.agg #[.int .i64 0, .int .i64 0, .int .i64 0, .int .i64 0, .int .i64 0], .bool false]) (by simp [results, Try.results180, go_sem, hr0, hr1, hr2, hr3, hr4]) rfl ?_
      exact ⟨rfl, hww.trans inferInstance⟩
    · have c2 : q ≤ p := by omega
      clear c
      go_enter Try.func180, Try.ntmps180
      go_wp2_with first
        | (go_at_call 73; refine (impl_lineOf H.out (hwb0.trans inferInstance) x TI.out.line0 TI.out.line1).mono ?_; rintro e w1 ⟨A0, n0, c0, A1, n1, c1', rfl, hy, L1⟩; have X1 := Later.trans (w := wb) inferInstance L1; have Z1 := Later.trans (w := wx) inferInstance L1; have HY := Lib.hid hy; clear hy)
        | (go_at_call 151; ((with_reducible refine (slices_IndexInt HY.out.l_Stops (hwb0.trans inferInstance) a).mono ?_); rw [← HP.out]; rintro e w2 ⟨rfl, L2⟩); have X2 := Later.trans (w := wb) inferInstance L2; have Z2 := Later.trans (w := wx) inferInstance L2)
        | (go_at_call 151; ((with_reducible refine (slices_IndexInt HY.out.l_Stops (hwb0.trans inferInstance) b).mono ?_); rw [← HQ.out]; rintro e w3 ⟨rfl, L3⟩); have X3 := Later.trans (w := wb) inferInstance L3; have Z3 := Later.trans (w := wx) inferInstance L3; have hB := HBX.later Z3; have hcr := fun i => hB.cell i; have hfr := fun i => hB.frozen i)
      have HF := ((((hB.set_ 0 (.int .i64 0)).set_ 1 (.int .i64 0)).set_ 2 (.int .i64 0)).set_ 3 (.int .i64 0)).set_ 4 (.int .i64 0)
      have hr0 := (HF.cell 0).trans (show _ = some (.int .i64 0 : Value) from rfl)
      have hr1 := (HF.cell 1).trans (show _ = some (.int .i64 0 : Value) from rfl)
      have hr2 := (HF.cell 2).trans (show _ = some (.int .i64 0 : Value) from rfl)
      have hr3 := (HF.cell 3).trans (show _ = some (.int .i64 0 : Value) from rfl)
      have hr4 := (HF.cell 4).trans (show _ = some (.int .i64 0 : Value) from rfl)
      refine bodyPost_ret (v := .tuple #[.agg #[.int .i64 0, .int .i64 0, .int .i64 0, .int .i64 0, .int .i64 0], .bool false]) (by simp [results, Try.results180, go_sem, hr0, hr1, hr2, hr3, hr4]) rfl ?_
      exact ⟨rfl, hww.trans inferInstance⟩
  · have c1 : ¬ p < 0 := by omega
    have c2 : ¬ q ≤ p := by omega
    clear c
    obtain ⟨m, rfl⟩ := Int.eq_ofNat_of_zero_le (show 0 ≤ p by omega)
    obtain ⟨j, rfl⟩ := Int.eq_ofNat_of_zero_le (show 0 ≤ q by omega)
    have HR : Hid (fillT t x a b = (⟨x.Id, a, b, timeAt t x m, timeAt t x j⟩, true)) := by
      show _ = _; unfold fillT; rw [← HP.out, ← HQ.out, if_neg (by omega)]; rfl
    rw [HR.out]
    have HML : Hid (m ≤ (lineAtT t x.Line).Runs.length ∧ j ≤ (lineAtT t x.Line).Runs.length) := ⟨by have := HRL.out; omega, by have := HRL.out; omega⟩
    clear hpb hqb
    go_enter Try.func180, Try.ntmps180
    go_wp2_with first
      | (go_at_call 73; refine (impl_lineOf H.out (hwb0.trans inferInstance) x TI.out.line0 TI.out.line1).mono ?_; rintro e w1 ⟨A0, n0, c0, A1, n1, c1', rfl, hy, L1⟩; have X1 := Later.trans (w := wb) inferInstance L1; have Z1 := Later.trans (w := wx) inferInstance L1; have HY := Lib.hid hy; clear hy)
      | (go_at_call 151; ((with_reducible refine (slices_IndexInt HY.out.l_Stops (hwb0.trans inferInstance) a).mono ?_); rw [← HP.out]; rintro e w2 ⟨rfl, L2⟩); have X2 := Later.trans (w := wb) inferInstance L2; have Z2 := Later.trans (w := wx) inferInstance L2)
      | (go_at_call 151; ((with_reducible refine (slices_IndexInt HY.out.l_Stops (hwb0.trans inferInstance) b).mono ?_); rw [← HQ.out]; rintro e w3 ⟨rfl, L3⟩); have X3 := Later.trans (w := wb) inferInstance L3; have Z3 := Later.trans (w := wx) inferInstance L3; have hB := HBX.later Z3; have hcr := fun i => hB.cell i; have hfr := fun i => hB.frozen i)
    go_wp2_with (go_at_call 72; refine (impl_stopTimes H.out (hwb0.trans inferInstance) NF.out x TI.out).mono ?_; rintro e w4 ⟨A4, n4, c4, f4, rfl, o4, nd4, lo4, L4⟩; have X4 := Later.trans (w := wb) inferInstance L4; have Z4 := Later.trans (w := wx) inferInstance L4; have hS4 : Ints w4 A4 n4 c4 (timesOf t x) := o4.reads)
    have hm4 : m < n4 := by rw [hS4.len, timesOf_len]; have := HML.out.1; omega
    have hj4 : j < n4 := by rw [hS4.len, timesOf_len]; have := HML.out.2; omega
    have hn4 := hS4.le
    obtain ⟨b4, q4, y4, rfl, hy4, hcy4, _⟩ := Ints.at_ hS4 hm4
    obtain ⟨b5, q5, y5, hA5, hy5, hcy5, _⟩ := Ints.at_ hS4 hj4
    cases hA5
    obtain rfl : timeAt t x m = y4 := Option.some.inj ((timesOf_at HML.out.1).symm.trans hy4.out)
    obtain rfl : timeAt t x j = y5 := Option.some.inj ((timesOf_at HML.out.2).symm.trans hy5.out)
    have hB := HBX.later Z4
    have hcr := fun i => hB.cell i
    have hfr := fun i => hB.frozen i
    clear o4 hS4 hy4 hy5 nd4 lo4
    go_still_tail 13, (by kernel_rfl)
    change wpList _ _ _ _ _ w4.drew
    go_wp2
    have HF := ((((hB.set_ 0 (.int .i64 x.Id)).set_ 1 (.int .i64 a)).set_ 2 (.int .i64 b)).set_ 3 (.int .i64 (timeAt t x m))).set_ 4 (.int .i64 (timeAt t x j))
    have hr0 := (HF.cell 0).trans (show _ = some (.int .i64 x.Id : Value) from rfl)
    have hr1 := (HF.cell 1).trans (show _ = some (.int .i64 a : Value) from rfl)
    have hr2 := (HF.cell 2).trans (show _ = some (.int .i64 b : Value) from rfl)
    have hr3 := (HF.cell 3).trans (show _ = some (.int .i64 (timeAt t x m) : Value) from rfl)
    have hr4 := (HF.cell 4).trans (show _ = some (.int .i64 (timeAt t x j) : Value) from rfl)
    refine bodyPost_ret (v := .tuple #[.agg #[.int .i64 x.Id, .int .i64 a, .int .i64 b, .int .i64 (timeAt t x m), .int .i64 (timeAt t x j)], .bool true]) (by simp [results, Try.results180, go_sem, hr0, hr1, hr2, hr3, hr4]) rfl ?_
    exact ⟨rfl, hww.trans inferInstance⟩
end Go.Proofs.Yteijofkkggifhaa
