/-
  Blocks: when each begins and ends (spanOf, BlockSpans).
-/
import Derived.Test.YthibhehnakikpaaGreatDeadM
import Derived.Test.YthibhehnakikpaaGreatDutyP
import Derived.Test.YthibhehnakikpaaGreatHSpan
import Derived.Test.YthibhehnakikpaaGreatOwnB
import Derived.Test.YthibhehnakikpaaGreatCopy
import Derived.Test.YthibhehnakikpaaGreatAppN
import Derived.StillTailTactics
namespace Go.Proofs.YthibhehnakikpaaGreat
open Go Go.RowKit
set_option linter.unusedVariables false
set_option maxRecDepth 100000
def spansOf (t : Timetable) (bs : List (List Int)) : List Span := bs.map fun b => ⟨begP t b, finP t b⟩
def spansRes (t : Timetable) (f : Fleet) (bs : List (List Int)) : List Span × Bool := if okBlocks t f bs = true then (spansOf t bs, true) else ([], false)
theorem spansRes_len (t : Timetable) (f : Fleet) (bs : List (List Int)) : (spansRes t f bs).1.length ≤ 12 := by
  unfold spansRes
  split
  · rename_i h; have := (deadFacts h).len; simpa [spansOf] using this
  · simp
theorem field_Trip2 (a b c : Int) (w : World) : (Instr.field 119 (.agg #[.int .i64 a, .int .i64 b, .int .i64 c]) 2).run Tryz.prog w = .ok (.int .i64 c) w := by kernel_rfl
theorem infoSpan : (Tryz.prog.info? 99).map (fun i => (i.zero, i.size, i.bytes)) = some (some (.agg #[.int .i64 0, .int .i64 0]), 2, 16) := by kernel_rfl
set_option maxHeartbeats 800000 in
theorem impl_spanOf {w0 w : World} {sA0 : Option Addr} {sn0 sc0 : Nat} {sA1 : Option Addr} {sn1 sc1 : Nat} {sA2 : Option Addr} {sn2 sc2 : Nat} {t : Timetable} (h : TimetableAt w0 sA0 sn0 sc0 sA1 sn1 sc1 sA2 sn2 sc2 t) (hl : Later w0 w) {w3 : World} (tf : TimeFacts t) {pA : Option Addr} {pn pc : Nat} {p : List Int} (h3 : Ints w3 pA pn pc p) (hl3 : Later w3 w) (hpos : 0 < p.length) (hfo : FoundAll t p) :
    Calls Tryz.prog 74 #[.agg #[.slice sA0 sn0 sc0, .slice sA1 sn1 sc1, .slice sA2 sn2 sc2], .slice pA pn pc] w (Ret (.agg #[.int .i64 (begP t p), .int .i64 (finP t p)]) w) := by
  obtain ⟨wx, hwx⟩ : ∃ wx : World, wx = ((w.alloc (.cells #[.slice sA0 sn0 sc0, .slice sA1 sn1 sc1, .slice sA2 sn2 sc2] 46)).alloc (.cells #[.int .i64 0, .int .i64 0] 99)) := ⟨_, rfl⟩
  have HBX : Blk wx (w.heap.size + 1) 99 #[.int .i64 0, .int .i64 0] := by rw [hwx]; exact heap_new (by simp)
  have hP := h3.later hl3
  have HB0 : ∀ W [Later (w.alloc (.cells #[.slice sA0 sn0 sc0, .slice sA1 sn1 sc1, .slice sA2 sn2 sc2] 46)) W] (j : Nat), W.cell? ⟨w.heap.size, j, none⟩ = #[.slice sA0 sn0 sc0, .slice sA1 sn1 sc1, .slice sA2 sn2 sc2][j]? := Later.boxes (t := 46) (fr := (0, 0)) (heap_new (by simp; try omega)); obtain ⟨wb, hwb⟩ : ∃ wb : World, wb = (w.alloc (.cells #[.slice sA0 sn0 sc0, .slice sA1 sn1 sc1, .slice sA2 sn2 sc2] 46)) := ⟨_, rfl⟩; haveI hbW : Later wb (w.alloc (.cells #[.slice sA0 sn0 sc0, .slice sA1 sn1 sc1, .slice sA2 sn2 sc2] 46)) := (by rw [hwb]; exact Later.rfl_); haveI hww : Later w wb := (by rw [hwb]; infer_instance); rw [← hwb] at HB0; have hbE := Lib.hid (congrArg (fun x : World => x.heap.size) hwb); clear hwb
  have hwb0 := hl.trans hww
  have H := Lib.hid h
  clear h
  replace hP := hP.later hww
  have hpl := hP.le
  haveI hxW : Later wx ((w.alloc (.cells #[.slice sA0 sn0 sc0, .slice sA1 sn1 sc1, .slice sA2 sn2 sc2] 46)).alloc (.cells #[.int .i64 0, .int .i64 0] 99)) := by rw [hwx]; exact Later.rfl_
  haveI hbx : Later wb wx := by rw [hwx]; infer_instance
  haveI hOB : OwnB ((w.alloc (.cells #[.slice sA0 sn0 sc0, .slice sA1 sn1 sc1, .slice sA2 sn2 sc2] 46)).alloc (.cells #[.int .i64 0, .int .i64 0] 99)) (w.heap.size + 1) 99 2 := .of (by rw [← hwx]; exact HBX) rfl
  have hzb : wb.heap.size ≤ w.heap.size + 1 := by have := hbE.out; simp at this; omega
  haveI hN : New wb (w.heap.size + 1) := ⟨hzb⟩
  have Hlen := Lib.hid hP.len
  obtain ⟨m, rfl⟩ : ∃ m : Nat, pn = m + 1 := ⟨pn - 1, by have := Hlen.out; omega⟩
  obtain ⟨b1, o1, v, rfl, hv, hcv, _⟩ := Ints.at_ hP (show 0 < m + 1 by omega)
  obtain ⟨b2, o2, u, hA2, hu, hcu, _⟩ := Ints.at_ hP (show m < m + 1 by omega)
  cases hA2
  simp only [Nat.add_zero] at hcv
  have e1 := headI_of hv.out
  have e2 := lastI_of Hlen.out hu.out
  have fv := hfo v (List.mem_of_getElem? hv.out)
  have fu := hfo u (List.mem_of_getElem? hu.out)
  have TV := Lib.hid (tripI_facts tf fv (findI_bd t v).2)
  have TU := Lib.hid (tripI_facts tf fu (findI_bd t u).2)
  have HE1 : Hid (begP t p = (tripI t (findI t v)).Start) := by show _ = _; unfold begP; rw [e1]
  have HE2 : Hid (finP t p = endAt t (tripI t (findI t u))) := by show _ = _; unfold finP; rw [e2]
  have FV := Lib.hid fv
  have FU := Lib.hid fu
  have NF := Lib.hid tf.net
  obtain ⟨x, hx⟩ : ∃ x : Trip, tripI t (findI t v) = x := ⟨_, rfl⟩
  obtain ⟨y, hy⟩ : ∃ y : Trip, tripI t (findI t u) = y := ⟨_, rfl⟩
  rw [hx] at TV HE1
  rw [hy] at TU HE2
  have HX := Lib.hid hx
  have HY := Lib.hid hy
  rw [HE1.out, HE2.out]
  have hwm : IntKind.i64.wrap (((m + 1 : Nat) : Int) - 1) = (m : Int) := by rw [IntKind.wrap_i64]; omega
  have hwm2 : IntKind.i64.wrap ((m : Int) + 1 - 1) = (m : Int) := by rw [IntKind.wrap_i64]; omega
  have hwm3 : IntKind.i64.wrap (m : Int) = (m : Int) := by rw [IntKind.wrap_i64]; omega
  have hm0 : (0 : Int) < ((m + 1 : Nat) : Int) := by omega
  have hm1 : (m : Int) < (m : Int) + 1 := by omega
  have hm2 : (0 : Int) < (m : Int) + 1 := by omega
  have hft := field_Trip2
  clear h3 hP hpos hfo hv hu e1 e2 fv fu hx hy hwx tf
  go_enter Tryz.func74, Tryz.ntmps74
  go_wp2_with fail
  go_region_held3 (fun w' => Later wb w' ∧ OwnB w' (w.heap.size + 1) 99 2) (exact ⟨inferInstance, inferInstance⟩) (first
    | ((with_reducible refine (impl_tripWith H.out (hwb0.trans inferInstance) v FV.out x HX.out).mono ?_); rintro e w4 ⟨rfl, L4⟩; have X4 := Later.trans (w := wb) inferInstance L4; haveI O4 : OwnB w4 (w.heap.size + 1) 99 2 := OwnB.later inferInstance L4; obtain ⟨cs, hB, hcs⟩ := O4.ex; have Hcs := Lib.hid hcs; obtain ⟨q0, hq0⟩ := hB.get (i := 0) (by omega); obtain ⟨q1, hq1⟩ := hB.get (i := 1) (by omega); have hf0 := hB.frozen 0; have hf1 := hB.frozen 1; clear hcs)
    | ((with_reducible refine (impl_tripWith H.out (hwb0.trans inferInstance) u FU.out y HY.out).mono ?_); rintro e w5 ⟨rfl, L5⟩; have X5 := Later.trans (w := wb) inferInstance L5; haveI O5 : OwnB w5 (w.heap.size + 1) 99 2 := OwnB.later inferInstance L5; obtain ⟨cs, hB, hcs⟩ := O5.ex; have Hcs := Lib.hid hcs; obtain ⟨q0, hq0⟩ := hB.get (i := 0) (by omega); obtain ⟨q1, hq1⟩ := hB.get (i := 1) (by omega); have hf0 := hB.frozen 0; have hf1 := hB.frozen 1; clear hcs)
    | (go_at_call 107; refine (impl_endOf H.out (hwb0.trans inferInstance) NF.out y TU.out.line0 TU.out.line1 TU.out.start.1 TU.out.start.2).mono ?_; rintro e w6 ⟨rfl, L6⟩; have X6 := Later.trans (w := wb) inferInstance L6; haveI O6 : OwnB w6 (w.heap.size + 1) 99 2 := OwnB.later inferInstance L6; obtain ⟨cs, hB, hcs⟩ := O6.ex; have Hcs := Lib.hid hcs; obtain ⟨q0, hq0⟩ := hB.get (i := 0) (by omega); obtain ⟨q1, hq1⟩ := hB.get (i := 1) (by omega); have hf0 := hB.frozen 0; have hf1 := hB.frozen 1; clear hcs))
  go_wp2
  have HF := (hB.set_ 0 (.int .i64 x.Start)).set_ 1 (.int .i64 (endAt t y))
  have hr0 := (HF.cell 0).trans (set2_0 Hcs.out _ _)
  have hr1 := (HF.cell 1).trans (set2_1 Hcs.out _ _)
  refine bodyPost_ret (v := .agg #[.int .i64 x.Start, .int .i64 (endAt t y)]) (by simp [results, Tryz.results74, go_sem, hr0, hr1]) rfl ?_
  exact ⟨rfl, hww.trans inferInstance⟩
end Go.Proofs.YthibhehnakikpaaGreat
