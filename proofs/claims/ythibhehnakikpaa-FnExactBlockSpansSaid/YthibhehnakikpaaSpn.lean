/-
  Blocks: when each begins and ends (spanOf, BlockSpans).
-/
import Derived.Test.YthibhehnakikpaaDeadM
import Derived.Test.YthibhehnakikpaaDutyP
import Derived.Test.YthibhehnakikpaaHSpan
import Derived.Test.YthibhehnakikpaaOwnB
import Derived.Test.YthibhehnakikpaaCopy
import Derived.Test.YthibhehnakikpaaAppN
import Derived.StillTailTactics
namespace Go.Proofs.Ythibhehnakikpaa
open Go Go.RowKit
set_option linter.unusedVariables false
set_option maxRecDepth 100000
def spansOf (t : Timetable) (bs : List (List Int)) : List Span := bs.map fun b => ⟨begP t b, finP t b⟩
def spansRes (t : Timetable) (f : Fleet) (bs : List (List Int)) : List Span × Bool := if okBlocks t f bs = true then (spansOf t bs, true) else ([], false)
theorem spansRes_len (t : Timetable) (f : Fleet) (bs : List (List Int)) : (spansRes t f bs).1.length ≤ 12 := by
  unfold spansRes
  split
  · rename_i h; have := (deadFacts h).len; simpa [spansOf] using this
  · simp
theorem field_Trip2 (a b c : Int) (w : World) : (Instr.field 96 (.agg #[.int .i64 a, .int .i64 b, .int .i64 c]) 2).run Try.prog w = .ok (.int .i64 c) w := by kernel_rfl
theorem infoSpan : (Try.prog.info? 98).map (fun i => (i.zero, i.size, i.bytes)) = some (some (.agg #[.int .i64 0, .int .i64 0]), 2, 16) := by kernel_rfl
set_option maxHeartbeats 800000 in
theorem impl_spanOf {w0 w : World} {sA0 : Option Addr} {sn0 sc0 : Nat} {sA1 : Option Addr} {sn1 sc1 : Nat} {sA2 : Option Addr} {sn2 sc2 : Nat} {t : Timetable} (h : TimetableAt w0 sA0 sn0 sc0 sA1 sn1 sc1 sA2 sn2 sc2 t) (hl : Later w0 w) {w3 : World} (tf : TimeFacts t) {pA : Option Addr} {pn pc : Nat} {p : List Int} (h3 : Ints w3 pA pn pc p) (hl3 : Later w3 w) (hpos : 0 < p.length) (hfo : FoundAll t p) :
    Calls Try.prog 64 #[.agg #[.slice sA0 sn0 sc0, .slice sA1 sn1 sc1, .slice sA2 sn2 sc2], .slice pA pn pc] w (Ret (.agg #[.int .i64 (begP t p), .int .i64 (finP t p)]) w) := by
  obtain ⟨wx, hwx⟩ : ∃ wx : World, wx = ((w.alloc (.cells #[.slice sA0 sn0 sc0, .slice sA1 sn1 sc1, .slice sA2 sn2 sc2] 43)).alloc (.cells #[.int .i64 0, .int .i64 0] 98)) := ⟨_, rfl⟩
  have HBX : Blk wx (w.heap.size + 1) 98 #[.int .i64 0, .int .i64 0] := by rw [hwx]; exact heap_new (by simp)
  have hP := h3.later hl3
  have HB0 : ∀ W [Later (w.alloc (.cells #[.slice sA0 sn0 sc0, .slice sA1 sn1 sc1, .slice sA2 sn2 sc2] 43)) W] (j : Nat), W.cell? ⟨w.heap.size, j, none⟩ = #[.slice sA0 sn0 sc0, .slice sA1 sn1 sc1, .slice sA2 sn2 sc2][j]? := Later.boxes (t := 43) (fr := (0, 0)) (heap_new (by simp; try omega)); obtain ⟨wb, hwb⟩ : ∃ wb : World, wb = (w.alloc (.cells #[.slice sA0 sn0 sc0, .slice sA1 sn1 sc1, .slice sA2 sn2 sc2] 43)) := ⟨_, rfl⟩; haveI hbW : Later wb (w.alloc (.cells #[.slice sA0 sn0 sc0, .slice sA1 sn1 sc1, .slice sA2 sn2 sc2] 43)) := (by rw [hwb]; exact Later.rfl_); haveI hww : Later w wb := (by rw [hwb]; infer_instance); rw [← hwb] at HB0; have hbE := Lib.hid (congrArg (fun x : World => x.heap.size) hwb); clear hwb
  have hwb0 := hl.trans hww
  have H := Lib.hid h
  clear h
  replace hP := hP.later hww
  have hpl := hP.le
  haveI hxW : Later wx ((w.alloc (.cells #[.slice sA0 sn0 sc0, .slice sA1 sn1 sc1, .slice sA2 sn2 sc2] 43)).alloc (.cells #[.int .i64 0, .int .i64 0] 98)) := by rw [hwx]; exact Later.rfl_
  haveI hbx : Later wb wx := by rw [hwx]; infer_instance
  haveI hOB : OwnB ((w.alloc (.cells #[.slice sA0 sn0 sc0, .slice sA1 sn1 sc1, .slice sA2 sn2 sc2] 43)).alloc (.cells #[.int .i64 0, .int .i64 0] 98)) (w.heap.size + 1) 98 2 := .of (by rw [← hwx]; exact HBX) rfl
  have hzb : wb.heap.size ≤ w.heap.size + 1 := by have := hbE.out; simp at this; omega
  haveI hN : New wb (w.heap.size + 1) := ⟨hzb⟩
  have Hlen := Lib.hid hP.len
  obtain ⟨m, rfl⟩ : ∃ m : Nat, pn = m + 1 := ⟨pn - 1, by have := Hlen.out; omega⟩
  obtain ⟨b1, o1, v, rfl, hv, hcv, _⟩ := Ints.at_ hP (show 0 < m + 1 by omega)
  obtain ⟨b2, o2, u, hA2, hu, hcu, _⟩ := Ints.at_ hP (show m < m + 1 by omega)
  cases hA2
  simp only [Nat.add_zero] at hcv
  have e1 := headI_of hv.out
  have e2 := lastI_of Hlen.out hu.out
  have fv := hfo v (List.mem_of_getElem? hv.out)
  have fu := hfo u (List.mem_of_getElem? hu.out)
  have TV := Lib.hid (tripI_facts tf fv (findI_bd t v).2)
  have TU := Lib.hid (tripI_facts tf fu (findI_bd t u).2)
  have HE1 : Hid (begP t p = (tripI t (findI t v)).Start) := by show _ = _; unfold begP; rw [e1]
  have HE2 : Hid (finP t p = endAt t (tripI t (findI t u))) := by show _ = _; unfold finP; rw [e2]
  have FV := Lib.hid fv
  have FU := Lib.hid fu
  have NF := Lib.hid tf.net
  obtain ⟨x, hx⟩ : ∃ x : Trip, tripI t (findI t v) = x := ⟨_, rfl⟩
  obtain ⟨y, hy⟩ : ∃ y : Trip, tripI t (findI t u) = y := ⟨_, rfl⟩
  rw [hx] at TV HE1
  rw [hy] at TU HE2
  have HX := Lib.hid hx
  have HY := Lib.hid hy
  rw [HE1.out, HE2.out]
  have hwm : IntKind.i64.wrap (((m + 1 : Nat) : Int) - 1) = (m : Int) := by rw [IntKind.wrap_i64]; omega
  have hwm2 : IntKind.i64.wrap ((m : Int) + 1 - 1) = (m : Int) := by rw [IntKind.wrap_i64]; omega
  have hwm3 : IntKind.i64.wrap (m : Int) = (m : Int) := by rw [IntKind.wrap_i64]; omega
  have hm0 : (0 : Int) < ((m + 1 : Nat) : Int) := by omega
  have hm1 : (m : Int) < (m : Int) + 1 := by omega
  have hm2 : (0 : Int) < (m : Int) + 1 := by omega
  have hft := field_Trip2
  clear h3 hP hpos hfo hv hu e1 e2 fv fu hx hy hwx tf
  go_enter Try.func64, Try.ntmps64
  go_wp2_with fail
  go_region_held3 (fun w' => Later wb w' ∧ OwnB w' (w.heap.size + 1) 98 2) (exact ⟨inferInstance, inferInstance⟩) (first
    | ((with_reducible refine (impl_tripWith H.out (hwb0.trans inferInstance) v FV.out x HX.out).mono ?_); rintro e w4 ⟨rfl, L4⟩; have X4 := Later.trans (w := wb) inferInstance L4; haveI O4 : OwnB w4 (w.heap.size + 1) 98 2 := OwnB.later inferInstance L4; obtain ⟨cs, hB, hcs⟩ := O4.ex; have Hcs := Lib.hid hcs; obtain ⟨q0, hq0⟩ := hB.get (i := 0) (by omega); obtain ⟨q1, hq1⟩ := hB.get (i := 1) (by omega); have hf0 := hB.frozen 0; have hf1 := hB.frozen 1; clear hcs)
    | ((with_reducible refine (impl_tripWith H.out (hwb0.trans inferInstance) u FU.out y HY.out).mono ?_); rintro e w5 ⟨rfl, L5⟩; have X5 := Later.trans (w := wb) inferInstance L5; haveI O5 : OwnB w5 (w.heap.size + 1) 98 2 := OwnB.later inferInstance L5; obtain ⟨cs, hB, hcs⟩ := O5.ex; have Hcs := Lib.hid hcs; obtain ⟨q0, hq0⟩ := hB.get (i := 0) (by omega); obtain ⟨q1, hq1⟩ := hB.get (i := 1) (by omega); have hf0 := hB.frozen 0; have hf1 := hB.frozen 1; clear hcs)
    | (go_at_call 101; refine (impl_endOf H.out (hwb0.trans inferInstance) NF.out y TU.out.line0 TU.out.line1 TU.out.start.1 TU.out.start.2).mono ?_; rintro e w6 ⟨rfl, L6⟩; have X6 := Later.trans (w := wb) inferInstance L6; haveI O6 : OwnB w6 (w.heap.size + 1) 98 2 := OwnB.later inferInstance L6; obtain ⟨cs, hB, hcs⟩ := O6.ex; have Hcs := Lib.hid hcs; obtain ⟨q0, hq0⟩ := hB.get (i := 0) (by omega); obtain ⟨q1, hq1⟩ := hB.get (i := 1) (by omega); have hf0 := hB.frozen 0; have hf1 := hB.frozen 1; clear hcs))
  go_wp2
  have HF := (hB.set_ 0 (.int .i64 x.Start)).set_ 1 (.int .i64 (endAt t y))
  have hr0 := (HF.cell 0).trans (set2_0 Hcs.out _ _)
  have hr1 := (HF.cell 1).trans (set2_1 Hcs.out _ _)
  refine bodyPost_ret (v := .agg #[.int .i64 x.Start, .int .i64 (endAt t y)]) (by simp [results, Try.results64, go_sem, hr0, hr1]) rfl ?_
  exact ⟨rfl, hww.trans inferInstance⟩
set_option maxHeartbeats 2000000 in
theorem impl_BlockSpans {w0 w w2 w3 : World} {sA0 : Option Addr} {sn0 sc0 : Nat} {sA1 : Option Addr} {sn1 sc1 : Nat} {sA2 : Option Addr} {sn2 sc2 : Nat} {t : Timetable} (h : TimetableAt w0 sA0 sn0 sc0 sA1 sn1 sc1 sA2 sn2 sc2 t) (hl : Later w0 w) {qA0 : Option Addr} {qn0 qc0 : Nat} {f : Fleet} (h2 : FleetAt w2 qA0 qn0 qc0 f) (hl2 : Later w2 w) {bA : Option Addr} {bn bc : Nat} {bs : List (List Int)} (h3 : Sl 1 (rSl 1 rInt) w3 bA bn bc bs) (hl3 : Later w3 w) :
    Calls Try.prog 31 #[.agg #[.slice sA0 sn0 sc0, .slice sA1 sn1 sc1, .slice sA2 sn2 sc2], .agg #[.slice qA0 qn0 qc0, .int .i64 f.Turn], .slice bA bn bc] w (RetO2 2 (oFlat rSpan) (spansRes t f bs).1 (spansRes t f bs).2 w) := by
  have hB := h3.later hl3
  have HB0 : ∀ W [Later ((w.alloc (.cells #[.slice sA0 sn0 sc0, .slice sA1 sn1 sc1, .slice sA2 sn2 sc2] 43)).alloc (.cells #[.slice qA0 qn0 qc0, .int .i64 f.Turn] 45)) W] (j : Nat), W.cell? ⟨w.heap.size, j, none⟩ = #[.slice sA0 sn0 sc0, .slice sA1 sn1 sc1, .slice sA2 sn2 sc2][j]? := Later.boxes (t := 43) (fr := (0, 0)) ((heap_old (by simp; try omega)).trans (heap_new (by simp; try omega))); have HB1 : ∀ W [Later ((w.alloc (.cells #[.slice sA0 sn0 sc0, .slice sA1 sn1 sc1, .slice sA2 sn2 sc2] 43)).alloc (.cells #[.slice qA0 qn0 qc0, .int .i64 f.Turn] 45)) W] (j : Nat), W.cell? ⟨w.heap.size + 1, j, none⟩ = #[.slice qA0 qn0 qc0, .int .i64 f.Turn][j]? := Later.boxes (t := 45) (fr := (0, 0)) (heap_new (by simp; try omega)); obtain ⟨wb, hwb⟩ : ∃ wb : World, wb = ((w.alloc (.cells #[.slice sA0 sn0 sc0, .slice sA1 sn1 sc1, .slice sA2 sn2 sc2] 43)).alloc (.cells #[.slice qA0 qn0 qc0, .int .i64 f.Turn] 45)) := ⟨_, rfl⟩; haveI hbW : Later wb ((w.alloc (.cells #[.slice sA0 sn0 sc0, .slice sA1 sn1 sc1, .slice sA2 sn2 sc2] 43)).alloc (.cells #[.slice qA0 qn0 qc0, .int .i64 f.Turn] 45)) := (by rw [hwb]; exact Later.rfl_); haveI hww : Later w wb := (by rw [hwb]; infer_instance); rw [← hwb] at HB0; rw [← hwb] at HB1; have hbE := Lib.hid (congrArg (fun x : World => x.heap.size) hwb); clear hwb
  have hwb0 := hl.trans hww
  have hwb2 := hl2.trans hww
  have hwb3 := hl3.trans hww
  have H := Lib.hid h
  have H2 := Lib.hid h2
  have H3 := Lib.hid h3
  clear h h2 h3
  replace hB := hB.later hww
  have hbl := hB.le
  have Hbl := Lib.hid hB.len
  by_cases c0 : okBlocks t f bs = true
  rotate_left
  · have c1 : okBlocks t f bs = false := by simpa using c0
    rw [show spansRes t f bs = ([], false) from if_neg c0]
    clear c0
    go_enter Try.func31, Try.ntmps31
    go_wp2_with (go_at_call 49; refine (impl_IsValidBlocks H.out (hwb0.trans inferInstance) H2.out (hwb2.trans inferInstance) H3.out (hwb3.trans inferInstance)).mono ?_; rintro e w1 ⟨rfl, L1⟩; have X1 := Later.trans (w := wb) inferInstance L1)
    go_ret2
    exact ⟨none, 0, 0, [], rfl, OSl.nil_ _, by simp, by simp, hww.trans inferInstance⟩
  have DF := Lib.hid (deadFacts c0)
  rw [show spansRes t f bs = (spansOf t bs, true) from if_pos c0]
  have hbn : bn ≤ 12 := by rw [hB.len]; exact DF.out.len
  obtain ⟨C0, hC0, hmk⟩ := make_row (P := Try.prog) 65 98 Try.underlying65 infoSpan bn (by omega) (by omega)
  go_enter Try.func31, Try.ntmps31
  go_wp2_with (go_at_call 49; refine (impl_IsValidBlocks H.out (hwb0.trans inferInstance) H2.out (hwb2.trans inferInstance) H3.out (hwb3.trans inferInstance)).mono ?_; rintro e w1 ⟨rfl, L1⟩; have X1 := Later.trans (w := wb) inferInstance L1)
  clear c0
  have hz1 : w.heap.size ≤ w1.heap.size := (Later.size (w := w) (hww.trans X1))
  haveI hN1 : New wb w1.heap.size := ⟨X1.size⟩
  go_loopw [21] (fun i wr => ∃ (k : Nat) (cs : Array Value), k ≤ bn ∧ i = .int .i64 k ∧ Blk wr w1.heap.size 98 cs ∧ cs.size = bn * 2 ∧ (∀ (j : Nat) (x : List Int), j < k → bs[j]? = some x → cs[j * 2]? = some (.int .i64 (begP t x)) ∧ cs[j * 2 + 1]? = some (.int .i64 (finP t x))) ∧ Later wb wr) (fun i _ => bn - (intOf i).toNat)
  case atStart => exact ⟨0, C0, by omega, rfl, Blk.new _ _ _, by omega, fun j x hj => by omega, inferInstance⟩
  case round =>
    obtain ⟨k, cs, hk, rfl, hBk, hsz, hcs, hX⟩ := hrel
    have HB := Lib.hid hBk
    have HS := Lib.hid hcs
    have Hsz := Lib.hid hsz
    by_cases hlt : k < bn
    · obtain ⟨b, o, A1, n1, c1, x, rfl, hx, hc0, hi⟩ := Sl.row_ hB hlt
      have HI := Lib.hid hi
      have HFA := Lib.hid (DF.out.found x (List.mem_of_getElem? hx.out))
      have HPO := Lib.hid (DF.out.pos k x hx.out)
      clear hBk hcs hsz hi
      go_wp2_with fail
      refine (impl_spanOf H.out (hwb0.trans inferInstance) DF.out.run.time HI.out inferInstance HPO.out HFA.out).mono ?_
      rintro e w5 ⟨rfl, hL⟩
      have hY : Later wb w5 := Later.trans (w := wb) inferInstance hL
      have HB1 := Lib.hid (HB.out.later (Later.trans (w := wr) inferInstance hL))
      obtain ⟨v0, hv0⟩ := HB1.out.get (i := k * 2) (by have := Hsz.out; omega)
      obtain ⟨v1, hv1⟩ := HB1.out.get (i := k * 2 + 1) (by have := Hsz.out; omega)
      have hf0 := HB1.out.frozen (k * 2)
      have hf1 := HB1.out.frozen (k * 2 + 1)
      go_wp2
      go_roundw
      case rel =>
        refine ⟨k + 1, ((cs.setIfInBounds (k * 2) (.int .i64 (begP t x))).setIfInBounds (k * 2 + 1) (.int .i64 (finP t x))), by omega, by go_num, ((HB1.out.set_ _ _).set_ _ _), by have := Hsz.out; simpa using this, fun j y hj hy => ?_, inferInstance⟩
        by_cases e : j = k
        · subst e
          obtain rfl := Option.some.inj (hx.out.symm.trans hy)
          have hs := Hsz.out
          exact ⟨by rw [set_ne _ (by omega), set_eq _ (by (try simp only [Array.size_setIfInBounds]); omega)], by rw [set_eq _ (by (try simp only [Array.size_setIfInBounds]); omega)]⟩
        · have h3 := HS.out j y (by omega) hy
          exact ⟨by rw [set_ne _ (by omega), set_ne _ (by omega)]; exact h3.1, by rw [set_ne _ (by omega), set_ne _ (by omega)]; exact h3.2⟩
      case measure => simp [intOf]; omega
    · clear hBk hcs hsz
      go_wp2
      go_ret2
      obtain ⟨fp, ho, hfp⟩ := OSl.of_blk (sz := 2) (r := rSpan) (l := spansOf t bs) (n := bn) (c := bn) HB.out (by simp [spansOf]; exact Hbl.out) (Nat.le_refl _) (by omega) (fun j x hx => by
        simp only [spansOf, List.getElem?_map, Option.map_eq_some_iff] at hx
        obtain ⟨y, hy, rfl⟩ := hx
        have hjl := (List.getElem?_eq_some_iff.1 hy).1
        obtain ⟨h1, h2⟩ := HS.out j y (by have := Hbl.out; omega) hy
        have q1 := begP_bd DF.out.run.time (DF.out.pos j y hy) (DF.out.found y (List.mem_of_getElem? hy))
        have q2 := finP_bd DF.out.run.time (DF.out.pos j y hy) (DF.out.found y (List.mem_of_getElem? hy))
        exact ⟨[.int .i64 (begP t y), .int .i64 (finP t y)], rfl, fun j' v hv => by
          match j', hv with
          | 0, hv => simp at hv; subst hv; exact h1
          | 1, hv => simp at hv; subst hv; exact h2
          , fun _ => ⟨rfl, ⟨by show I64 (begP t y); unfold I64; omega, by show I64 (finP t y); unfold I64; omega⟩⟩⟩)
      subst hfp
      exact ⟨_, _, _, _, rfl, ho, by simp, by simpa using hz1, hww.trans inferInstance⟩
def encSpan (s : Span) : List Value := [.int .i64 s.From, .int .i64 s.To]
theorem spans_snoc {t : Timetable} {bs : List (List Int)} {k : Nat} {x : List Int} (hx : bs[k]? = some x) : (spansOf t (bs.take (k + 1))).flatMap encSpan = (spansOf t (bs.take k)).flatMap encSpan ++ [.int .i64 (begP t x), .int .i64 (finP t x)] := by
  rw [take_succ_at hx]
  simp [spansOf, encSpan]
theorem two_cell (a b : Int) : ∀ u ∈ (#[Value.int .i64 a, Value.int .i64 b] : Array Value).toList, u.oneCell' = true := by
  intro u hu
  simp at hu
  rcases hu with rfl | rfl <;> rfl
set_option maxHeartbeats 2000000 in
theorem spec_BlockSpans {w0 w w2 w3 : World} {sA0 : Option Addr} {sn0 sc0 : Nat} {sA1 : Option Addr} {sn1 sc1 : Nat} {sA2 : Option Addr} {sn2 sc2 : Nat} {t : Timetable} (h : TimetableAt w0 sA0 sn0 sc0 sA1 sn1 sc1 sA2 sn2 sc2 t) (hl : Later w0 w) {qA0 : Option Addr} {qn0 qc0 : Nat} {f : Fleet} (h2 : FleetAt w2 qA0 qn0 qc0 f) (hl2 : Later w2 w) {bA : Option Addr} {bn bc : Nat} {bs : List (List Int)} (h3 : Sl 1 (rSl 1 rInt) w3 bA bn bc bs) (hl3 : Later w3 w) :
    Calls Try.prog 30 #[.agg #[.slice sA0 sn0 sc0, .slice sA1 sn1 sc1, .slice sA2 sn2 sc2], .agg #[.slice qA0 qn0 qc0, .int .i64 f.Turn], .slice bA bn bc] w (RetO2 2 (oFlat rSpan) (spansRes t f bs).1 (spansRes t f bs).2 w) := by
  have hT := h.l_Trips
  have hsl := hT.le
  have HNT := Lib.hid hT.len
  have hB := h3.later hl3
  have HB0 : ∀ W [Later ((w.alloc (.cells #[.slice sA0 sn0 sc0, .slice sA1 sn1 sc1, .slice sA2 sn2 sc2] 43)).alloc (.cells #[.slice qA0 qn0 qc0, .int .i64 f.Turn] 45)) W] (j : Nat), W.cell? ⟨w.heap.size, j, none⟩ = #[.slice sA0 sn0 sc0, .slice sA1 sn1 sc1, .slice sA2 sn2 sc2][j]? := Later.boxes (t := 43) (fr := (0, 0)) ((heap_old (by simp; try omega)).trans (heap_new (by simp; try omega))); have HB1 : ∀ W [Later ((w.alloc (.cells #[.slice sA0 sn0 sc0, .slice sA1 sn1 sc1, .slice sA2 sn2 sc2] 43)).alloc (.cells #[.slice qA0 qn0 qc0, .int .i64 f.Turn] 45)) W] (j : Nat), W.cell? ⟨w.heap.size + 1, j, none⟩ = #[.slice qA0 qn0 qc0, .int .i64 f.Turn][j]? := Later.boxes (t := 45) (fr := (0, 0)) (heap_new (by simp; try omega)); obtain ⟨wb, hwb⟩ : ∃ wb : World, wb = ((w.alloc (.cells #[.slice sA0 sn0 sc0, .slice sA1 sn1 sc1, .slice sA2 sn2 sc2] 43)).alloc (.cells #[.slice qA0 qn0 qc0, .int .i64 f.Turn] 45)) := ⟨_, rfl⟩; haveI hbW : Later wb ((w.alloc (.cells #[.slice sA0 sn0 sc0, .slice sA1 sn1 sc1, .slice sA2 sn2 sc2] 43)).alloc (.cells #[.slice qA0 qn0 qc0, .int .i64 f.Turn] 45)) := (by rw [hwb]; exact Later.rfl_); haveI hww : Later w wb := (by rw [hwb]; infer_instance); rw [← hwb] at HB0; rw [← hwb] at HB1; have hbE := Lib.hid (congrArg (fun x : World => x.heap.size) hwb); clear hwb
  have hwb0 := hl.trans hww
  have hwb2 := hl2.trans hww
  have hwb3 := hl3.trans hww
  have H := Lib.hid h
  have H2 := Lib.hid h2
  have H3 := Lib.hid h3
  clear h h2 h3
  replace hB := hB.later hww
  have hbl := hB.le
  have Hbl := Lib.hid hB.len
  by_cases cr : okRun t f = true
  rotate_left
  · have c1 : okRun t f = false := by simpa using cr
    rw [show spansRes t f bs = ([], false) from if_neg (fun k => by unfold okBlocks at k; rw [c1] at k; simp at k)]
    clear cr
    have RF : Hid (False ∨ True) := .inr trivial
    go_enter Try.func30, Try.ntmps30
    go_wp2_with first
      | (go_at_call 60; refine (spec_l11Asked H.out (hwb0.trans inferInstance) H2.out (hwb2.trans inferInstance)).mono ?_; rintro e w1 ⟨rfl, L1⟩; have X1 := Later.trans (w := wb) inferInstance L1)
      | (go_at_call 61; refine (spec_l11Blocks H.out (hwb0.trans inferInstance) H2.out (hwb2.trans inferInstance) H3.out (hwb3.trans inferInstance) RF.out.time RF.out.fleet).mono ?_; rintro e w6 ⟨rfl, L6⟩; have X6 := Later.trans (w := wb) inferInstance L6)
    go_ret2; exact ⟨_, _, _, [], rfl, OSl.nil_ _, by simp, by simp, hww.trans inferInstance⟩
  have RF := Lib.hid (runFacts cr)
  by_cases cb : okBlk t f bs = true
  rotate_left
  · have c1 : okBlk t f bs = false := by simpa using cb
    rw [show spansRes t f bs = ([], false) from if_neg (fun k => by unfold okBlocks at k; rw [c1] at k; simp at k)]
    clear cb
    go_enter Try.func30, Try.ntmps30
    go_wp2_with first
      | (go_at_call 60; refine (spec_l11Asked H.out (hwb0.trans inferInstance) H2.out (hwb2.trans inferInstance)).mono ?_; rintro e w1 ⟨rfl, L1⟩; have X1 := Later.trans (w := wb) inferInstance L1)
      | (go_at_call 61; refine (spec_l11Blocks H.out (hwb0.trans inferInstance) H2.out (hwb2.trans inferInstance) H3.out (hwb3.trans inferInstance) RF.out.time RF.out.fleet).mono ?_; rintro e w6 ⟨rfl, L6⟩; have X6 := Later.trans (w := wb) inferInstance L6)
    go_ret2; exact ⟨_, _, _, [], rfl, OSl.nil_ _, by simp, by simp, hww.trans inferInstance⟩
  have c0 : okBlocks t f bs = true := by unfold okBlocks; rw [cr, cb]; rfl
  rw [show spansRes t f bs = (spansOf t bs, true) from if_pos c0]
  have DF := Lib.hid (deadFacts c0)
  have hbn : bn ≤ 12 := by rw [hB.len]; exact DF.out.len
  have NF := Lib.hid DF.out.run.time.net
  have hbs : wb.heap.size ≤ w.heap.size + 2 := by have := hbE.out; simp at this; omega
  have hbs2 : w.heap.size + 2 ≤ wb.heap.size := by have := hbE.out; simp at this; omega
  clear c0
  go_enter Try.func30, Try.ntmps30
  go_wp2_with first
    | ((go_at_call 60; refine (spec_l11Asked H.out (hwb0.trans inferInstance) H2.out (hwb2.trans inferInstance)).mono ?_; rintro e w1 ⟨rfl, L1⟩; have X1 := Later.trans (w := wb) inferInstance L1); have V1 : Later (((w.alloc (.cells #[.slice sA0 sn0 sc0, .slice sA1 sn1 sc1, .slice sA2 sn2 sc2] 43)).alloc (.cells #[.slice qA0 qn0 qc0, .int .i64 f.Turn] 45)).alloc (.cells #[] 98)) w1 := Later.trans inferInstance L1)
    | ((go_at_call 61; refine (spec_l11Blocks H.out (hwb0.trans inferInstance) H2.out (hwb2.trans inferInstance) H3.out (hwb3.trans inferInstance) RF.out.time RF.out.fleet).mono ?_; rintro e w6 ⟨rfl, L6⟩; have X6 := Later.trans (w := wb) inferInstance L6); have V6 : Later (((w.alloc (.cells #[.slice sA0 sn0 sc0, .slice sA1 sn1 sc1, .slice sA2 sn2 sc2] 43)).alloc (.cells #[.slice qA0 qn0 qc0, .int .i64 f.Turn] 45)).alloc (.cells #[] 98)) w6 := Later.trans inferInstance L6)
  go_loopw [8, 9] (fun ov i wr => ∃ k : Nat, k ≤ bn ∧ i = .int .i64 k ∧ Hid (wr.ownsRow (w.heap.size + 2) 98 2 ov k ((spansOf t (bs.take k)).flatMap encSpan)) ∧ Later wb wr) (fun _ i _ => bn - (intOf i).toNat)
  case atStart => exact ⟨0, by omega, rfl, Lib.hid (ownsRow_later (by simpa [spansOf] using World.ownsRow_lit (base := w.heap.size + 2) (e := 98) (size := 2) ((w.alloc (.cells #[.slice sA0 sn0 sc0, .slice sA1 sn1 sc1, .slice sA2 sn2 sc2] 43)).alloc (.cells #[.slice qA0 qn0 qc0, .int .i64 f.Turn] 45)) #[] 0 (by simp; try omega) (by simp [maxLen]) rfl) (inferInstance : Later (((w.alloc (.cells #[.slice sA0 sn0 sc0, .slice sA1 sn1 sc1, .slice sA2 sn2 sc2] 43)).alloc (.cells #[.slice qA0 qn0 qc0, .int .i64 f.Turn] 45)).alloc (.cells #[] 98)) _)), inferInstance⟩
  case round =>
    obtain ⟨k, hk, rfl, hown, hX⟩ := hrel
    by_cases hlt : k < bn
    · obtain ⟨b, o, A1, n1, c1, x, rfl, hx, hc0, hi⟩ := Sl.row_ hB hlt
      have hn1 := hi.le
      have hxl := hi.len
      have hxp := DF.out.pos k x hx.out
      have hxf := DF.out.found x (List.mem_of_getElem? hx.out)
      obtain ⟨m, rfl⟩ : ∃ m : Nat, n1 = m + 1 := ⟨n1 - 1, by omega⟩
      obtain ⟨b1, o1, v, rfl, hv, hcv, _⟩ := Ints.at_ hi (show 0 < m + 1 by omega)
      obtain ⟨b2, o2, u, hA2, hu, hcu, _⟩ := Ints.at_ hi (show m < m + 1 by omega)
      cases hA2
      simp only [Nat.add_zero] at hcv
      have e1 : headI x = v := headI_of hv.out
      have e2 : lastI x = u := lastI_of hxl hu.out
      have fv := hxf v (List.mem_of_getElem? hv.out)
      have fu := hxf u (List.mem_of_getElem? hu.out)
      obtain ⟨j, hj⟩ := Int.eq_ofNat_of_zero_le fv
      have hjn : j < sn2 := by rw [HNT.out]; have := (findI_bd t v).2; omega
      have hjn' : (j : Int) < (sn2 : Int) := by omega
      obtain ⟨b5, o5, y, hA5, hy, hd0, hd1, hd2, _⟩ := Trips.at_ hT hjn
      subst hA5
      replace hd2 := shift hwb0 hd2
      have HE1 : Hid (begP t x = y.Start) := by show _ = _; unfold begP; rw [e1, hj, tripI_of hy.out]
      have HE2 : Hid (finP t x = endAt t (tripI t (findI t u))) := by show _ = _; unfold finP; rw [e2]
      have HJ := Lib.hid hj
      have TU := Lib.hid (tripI_facts DF.out.run.time fu (findI_bd t u).2)
      have FU : Hid (0 ≤ findI t u ∧ findI t u < t.Trips.length) := ⟨fu, (findI_bd t u).2⟩
      have HT : Hid ((spansOf t (bs.take (k + 1))).flatMap encSpan = (spansOf t (bs.take k)).flatMap encSpan ++ [.int .i64 y.Start, .int .i64 (endAt t (tripI t (findI t u)))]) := by show _ = _; rw [spans_snoc hx.out, HE1.out, HE2.out]
      have hwm : IntKind.i64.wrap (((m + 1 : Nat) : Int) - 1) = (m : Int) := by rw [IntKind.wrap_i64]; omega
      have hwm2 : IntKind.i64.wrap ((m : Int) + 1 - 1) = (m : Int) := by rw [IntKind.wrap_i64]; omega
      have hwm3 : IntKind.i64.wrap (m : Int) = (m : Int) := by rw [IntKind.wrap_i64]; omega
      have hm1 : (m : Int) < (m : Int) + 1 := by omega
      have hm2 : (0 : Int) < (m : Int) + 1 := by omega
      clear hi hxl hxp hxf hv hu e1 e2 fv fu hj hy hd0 hd1 hx
      go_wp2_with fail
      go_region_held3 (fun w' => Later wb w') (exact inferInstance) (first
        | ((with_reducible refine (spec_l5Find H.out (hwb0.trans inferInstance) v).mono ?_); rw [HJ.out]; rintro e w4 ⟨rfl, L4⟩; have X4 := Later.trans (w := wb) inferInstance L4; have Z4 := Later.trans (w := wr) inferInstance L4)
        | ((with_reducible refine (spec_l5Find H.out (hwb0.trans inferInstance) u).mono ?_); rintro e w5 ⟨rfl, L5⟩; have X5 := Later.trans (w := wb) inferInstance L5; have Z5 := Later.trans (w := wr) inferInstance L5))
      clear hwm hwm2 hwm3
      go_wp2_with fail
      go_region_held3 (fun w' => Later wb w') (exact inferInstance) (first
        | (go_at_call 63; refine (spec_l5End H.out (hwb0.trans inferInstance) NF.out _ FU.out.1 FU.out.2 TU.out.in_).mono ?_; rintro e w7 ⟨rfl, L7⟩; have X7 := Later.trans (w := wb) inferInstance L7; have Z7 := Later.trans (w := wr) inferInstance L7)
        | (rw [if_pos (by rfl)]; refine wp_app_B _ _ 65 rfl Try.underlying65 infoSpan rfl (by decide) (by decide) rfl (by exact ownsRow_later hown.out (inferInstance : Later wr _)) (inferInstance : Later wb _) hbs (Nat.le_trans hbs2 (Later.size (w := wb) inferInstance)) rfl rfl (two_cell _ _) (by omega) ?_; intro v' w9 hown' hX9))
      go_wp2
      go_roundw
      case rel => exact ⟨k + 1, by omega, by go_num, by show World.ownsRow _ _ _ _ _ _ _; rw [HT.out]; exact hown', inferInstance⟩
      case measure => simp [intOf]; omega
    · have HE : Hid (k = bs.length ∧ bs.take k = bs) := ⟨by have := Hbl.out; omega, by rw [List.take_of_length_le (by have := Hbl.out; omega)]⟩
      go_wp2
      go_ret2
      have ho1 := hown.out
      rw [HE.out.2] at ho1
      obtain ⟨A, c, fp, rfl, ho, hnd, hlo⟩ := OSl.of_own (r := rSpan) (l := spansOf t bs) ho1 (by rw [HE.out.1]; simp [spansOf]) (fun j z hz => ⟨encSpan z, rfl, fun j' u' hu' => flat_at (enc := encSpan) (sz := 2) (fun _ => rfl) _ hz hu', fun _ => ⟨rfl, by
        simp only [spansOf, List.getElem?_map, Option.map_eq_some_iff] at hz
        obtain ⟨y, hy, rfl⟩ := hz
        have q1 := begP_bd DF.out.run.time (DF.out.pos j y hy) (DF.out.found y (List.mem_of_getElem? hy))
        have q2 := finP_bd DF.out.run.time (DF.out.pos j y hy) (DF.out.found y (List.mem_of_getElem? hy))
        exact ⟨by show I64 (begP t y); unfold I64; omega, by show I64 (finP t y); unfold I64; omega⟩⟩⟩)
      exact ⟨A, _, c, fp, rfl, ho, hnd, fun g hg => by have := hlo g hg; omega, hww.trans inferInstance⟩
end Go.Proofs.Ythibhehnakikpaa
