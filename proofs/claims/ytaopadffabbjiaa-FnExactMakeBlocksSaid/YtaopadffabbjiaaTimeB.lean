/-
  Timetables: the reference's lines and times, and the place of a trip.
-/
import Derived.Test.YtaopadffabbjiaaTime
namespace Go.Proofs.Ytaopadffabbjiaa
open Go Go.RowKit
set_option linter.unusedVariables false
set_option maxRecDepth 100000
/-- A trip whose line is there. -/
structure TripIn (t : Timetable) (x : Trip) : Prop where
  line0 : 0 ≤ x.Line
  line1 : x.Line < t.Network.Lines.length
  start : 0 ≤ x.Start ∧ x.Start ≤ 1799
theorem TripFacts.in_ {t : Timetable} {x : Trip} (h : TripFacts t x) : TripIn t x := ⟨h.line0, h.line1, h.start⟩
theorem wp_gen {P : Program} {c : Code} {Q : Exit → Act → World → Prop} {a : Act} {w : World} (h : ∀ wq, wq = w → Code.wp P c Q a wq) : Code.wp P c Q a w := h w rfl
theorem field_Line1 (s : ByteArray) (x y : Value) (w : World) : (Instr.field 109 (.agg #[.string s, x, y]) 1).run Try.prog w = .ok x w := by kernel_rfl
theorem field_Line2 (s : ByteArray) (x y : Value) (w : World) : (Instr.field 109 (.agg #[.string s, x, y]) 2).run Try.prog w = .ok y w := by kernel_rfl
theorem spec_l5Line {w0 w : World} {sA0 : Option Addr} {sn0 sc0 : Nat} {sA1 : Option Addr} {sn1 sc1 : Nat} {sA2 : Option Addr} {sn2 sc2 : Nat} {t : Timetable} (h : TimetableAt w0 sA0 sn0 sc0 sA1 sn1 sc1 sA2 sn2 sc2 t) (hl : Later w0 w) (i : Int) (i0 : 0 ≤ i) (i1 : i < t.Trips.length) (ti : TripIn t (tripI t i)) :
    Calls Try.prog 108 #[.agg #[.slice sA0 sn0 sc0, .slice sA1 sn1 sc1, .slice sA2 sn2 sc2], .int .i64 i] w (RetLine (lineI t i) w0 w) := by
  have hP0 := h.l_Network_Lines
  have hT0 := h.l_Trips
  obtain ⟨m, rfl⟩ := Int.eq_ofNat_of_zero_le i0
  have hm : m < sn2 := by rw [hT0.len]; omega
  have hm5 : sn2 ≤ 9223372036854775807 := hT0.le
  have hm6 : sn1 ≤ 9223372036854775807 := hP0.le
  clear i0 i1
  have HB0 : ∀ W [Later (w.alloc (.cells #[.slice sA0 sn0 sc0, .slice sA1 sn1 sc1, .slice sA2 sn2 sc2] 41)) W] (j : Nat), W.cell? ⟨w.heap.size, j, none⟩ = #[.slice sA0 sn0 sc0, .slice sA1 sn1 sc1, .slice sA2 sn2 sc2][j]? := Later.boxes (t := 41) (fr := (0, 0)) (heap_new (by simp; try omega)); obtain ⟨wb, hwb⟩ : ∃ wb : World, wb = (w.alloc (.cells #[.slice sA0 sn0 sc0, .slice sA1 sn1 sc1, .slice sA2 sn2 sc2] 41)) := ⟨_, rfl⟩; haveI hbW : Later wb (w.alloc (.cells #[.slice sA0 sn0 sc0, .slice sA1 sn1 sc1, .slice sA2 sn2 sc2] 41)) := (by rw [hwb]; exact Later.rfl_); haveI hww : Later w wb := (by rw [hwb]; infer_instance); rw [← hwb] at HB0; have hbE := Lib.hid (congrArg (fun x : World => x.heap.size) hwb); clear hwb
  have hwb0 := hl.trans hww
  obtain ⟨b, o, x, rfl, hx, hd0, hd1, hd2, hi⟩ := Trips.at_ hT0 hm
  have hxi := tripI_of hx.out
  unfold lineI
  rw [hxi] at ti ⊢
  obtain ⟨id, ln, st⟩ := x
  obtain ⟨t0, t1, t2⟩ := ti
  simp only at t0 t1 t2 hd0 hd1 hd2 ⊢
  obtain ⟨p, rfl⟩ := Int.eq_ofNat_of_zero_le t0
  have hp : p < sn1 := by rw [hP0.len]; omega
  obtain ⟨b', o', xA0, xn0, xc0, xA1, xn1, xc1, y, rfl, hy, hc0, hc1, hc2, hi'⟩ := Lines.at_ hP0 hp
  replace hc0 := shift hwb0 hc0
  replace hc1 := shift hwb0 hc1
  replace hc2 := shift hwb0 hc2
  replace hd1 := shift hwb0 hd1
  rw [lineAtT_of hy.out]
  have hI := Lib.hid hi'
  clear hi hi' hy hx hd0 hd2 t0 t1 t2 hxi
  go_enter Try.func108, Try.ntmps108
  go_wp2_with fail
  haveI hN : New wb (w.heap.size + 1) := ⟨by have := hbW.size; simpa using this⟩
  refine wp_gen fun wq hq => ?_
  have hbq : Later wb wq := by rw [hq]; infer_instance
  have hB : Blk wq (w.heap.size + 1) 109 #[.string ByteArray.empty, .slice none 0 0, .slice none 0 0] := by rw [hq]; exact heap_new (by simp)
  have hcr := fun j => hB.cell j
  have hfr := fun j => hB.frozen j
  clear hq
  go_still_tail 11, (by kernel_rfl)
  change wpList _ _ _ _ _ wq.drew
  go_wp2
  have HF := (((hB.set_ 0 (.string y.Name)).set_ 1 (.slice xA0 xn0 xc0)).set_ 2 (.slice xA1 xn1 xc1))
  have hr0 := (HF.cell 0).trans (show _ = some (.string y.Name : Value) from rfl)
  have hr1 := (HF.cell 1).trans (show _ = some (.slice xA0 xn0 xc0 : Value) from rfl)
  have hr2 := (HF.cell 2).trans (show _ = some (.slice xA1 xn1 xc1 : Value) from rfl)
  refine bodyPost_ret (v := .agg #[.string y.Name, .slice xA0 xn0 xc0, .slice xA1 xn1 xc1]) (by simp [results, Try.results108, go_sem, hr0, hr1, hr2]) rfl ?_
  exact ⟨_, _, _, _, _, _, rfl, hI.out, hww.trans inferInstance⟩
theorem spec_l5Stops {w0 w : World} {sA0 : Option Addr} {sn0 sc0 : Nat} {sA1 : Option Addr} {sn1 sc1 : Nat} {sA2 : Option Addr} {sn2 sc2 : Nat} {t : Timetable} (h : TimetableAt w0 sA0 sn0 sc0 sA1 sn1 sc1 sA2 sn2 sc2 t) (hl : Later w0 w) (i : Int) (i0 : 0 ≤ i) (i1 : i < t.Trips.length) (ti : TripIn t (tripI t i)) :
    Calls Try.prog 58 #[.agg #[.slice sA0 sn0 sc0, .slice sA1 sn1 sc1, .slice sA2 sn2 sc2], .int .i64 i] w (RetOld 1 rInt (lineI t i).Stops w0 w) := by
  have HB0 : ∀ W [Later (w.alloc (.cells #[.slice sA0 sn0 sc0, .slice sA1 sn1 sc1, .slice sA2 sn2 sc2] 41)) W] (j : Nat), W.cell? ⟨w.heap.size, j, none⟩ = #[.slice sA0 sn0 sc0, .slice sA1 sn1 sc1, .slice sA2 sn2 sc2][j]? := Later.boxes (t := 41) (fr := (0, 0)) (heap_new (by simp; try omega)); obtain ⟨wb, hwb⟩ : ∃ wb : World, wb = (w.alloc (.cells #[.slice sA0 sn0 sc0, .slice sA1 sn1 sc1, .slice sA2 sn2 sc2] 41)) := ⟨_, rfl⟩; haveI hbW : Later wb (w.alloc (.cells #[.slice sA0 sn0 sc0, .slice sA1 sn1 sc1, .slice sA2 sn2 sc2] 41)) := (by rw [hwb]; exact Later.rfl_); haveI hww : Later w wb := (by rw [hwb]; infer_instance); rw [← hwb] at HB0; have hbE := Lib.hid (congrArg (fun x : World => x.heap.size) hwb); clear hwb
  have hwb0 := hl.trans hww
  have hfl := field_Line1
  go_enter Try.func58, Try.ntmps58
  go_wp2_with (go_at_call 108; refine (spec_l5Line h (hwb0.trans inferInstance) _ i0 i1 ti).mono ?_; rintro e w1 ⟨A0, n0, c0, A1, n1, c1, rfl, hy, L1⟩; have X1 := Later.trans (w := wb) inferInstance L1)
  go_ret
  exact ⟨_, _, _, rfl, hy.l_Stops, hww.trans X1⟩
theorem spec_l5At {w0 w : World} {sA0 : Option Addr} {sn0 sc0 : Nat} {sA1 : Option Addr} {sn1 sc1 : Nat} {sA2 : Option Addr} {sn2 sc2 : Nat} {t : Timetable} (h : TimetableAt w0 sA0 sn0 sc0 sA1 sn1 sc1 sA2 sn2 sc2 t) (hl : Later w0 w) (nf : NetFacts t.Network) (i : Int) (i0 : 0 ≤ i) (i1 : i < t.Trips.length) (ti : TripIn t (tripI t i)) (k : Int) (k0 : 0 ≤ k) (k1 : k ≤ (lineI t i).Runs.length) :
    Calls Try.prog 59 #[.agg #[.slice sA0 sn0 sc0, .slice sA1 sn1 sc1, .slice sA2 sn2 sc2], .int .i64 i, .int .i64 k] w (Ret (.int .i64 (timeI t i k)) w) := by
  have hT0 := h.l_Trips
  have lf := lineAtT_facts nf ti.line0 ti.line1
  have H := Lib.hid h
  have hm5 : sn2 ≤ 9223372036854775807 := hT0.le
  have HB0 : ∀ W [Later (w.alloc (.cells #[.slice sA0 sn0 sc0, .slice sA1 sn1 sc1, .slice sA2 sn2 sc2] 41)) W] (j : Nat), W.cell? ⟨w.heap.size, j, none⟩ = #[.slice sA0 sn0 sc0, .slice sA1 sn1 sc1, .slice sA2 sn2 sc2][j]? := Later.boxes (t := 41) (fr := (0, 0)) (heap_new (by simp; try omega)); obtain ⟨wb, hwb⟩ : ∃ wb : World, wb = (w.alloc (.cells #[.slice sA0 sn0 sc0, .slice sA1 sn1 sc1, .slice sA2 sn2 sc2] 41)) := ⟨_, rfl⟩; haveI hbW : Later wb (w.alloc (.cells #[.slice sA0 sn0 sc0, .slice sA1 sn1 sc1, .slice sA2 sn2 sc2] 41)) := (by rw [hwb]; exact Later.rfl_); haveI hww : Later w wb := (by rw [hwb]; infer_instance); rw [← hwb] at HB0; have hbE := Lib.hid (congrArg (fun x : World => x.heap.size) hwb); clear hwb
  have hwb0 := hl.trans hww
  obtain ⟨m, rfl⟩ := Int.eq_ofNat_of_zero_le i0
  have hm : m < sn2 := by rw [hT0.len]; omega
  obtain ⟨b, o, x, rfl, hx, hd0, hd1, hd2, hi⟩ := Trips.at_ hT0 hm
  replace hd2 := shift hwb0 hd2
  have hxi := tripI_of hx.out
  have HE : Hid (timeI t m k = x.Start + runSum (lineI t m) k.toNat) := by show _ = _; unfold timeI timeAt lineI; rw [hxi]
  have hst := ti.start
  rw [hxi] at hst
  have hs0 := hst.1
  have hs1 := hst.2
  have hrb := runSum_bd (x := lineI t m) lf k.toNat
  have hr0 := hrb.1
  have hr1 := hrb.2
  have hwr : IntKind.i64.wrap (x.Start + runSum (lineI t m) k.toNat) = x.Start + runSum (lineI t m) k.toNat := by rw [IntKind.wrap_i64]; omega
  have HR : Hid (∀ r, r ∈ (lineI t m).Runs → 1 ≤ r ∧ r ≤ 60) := lf.run
  have HL : Hid ((lineI t m).Runs.length ≤ 5) := by have := lf.runs; have := lf.stops; show (lineAtT t (tripI t m).Line).Runs.length ≤ 5; omega
  clear hx hd0 hd1 hi hxi hrb hst lf h
  go_enter Try.func59, Try.ntmps59
  go_wp2_with fail
  go_region_held3 (fun w' => Later wb w') (exact inferInstance) (first
    | (go_at_call 108; refine (spec_l5Line H.out (hwb0.trans inferInstance) _ i0 i1 ti).mono ?_; rintro e w1 ⟨A0, n0, c0, A1, n1, c1, rfl, hy, L1⟩; have X1 := Later.trans (w := wb) inferInstance L1; have HY := Lib.hid hy; clear hy)
    | (go_at_call 109; refine (spec_l2Run HY.out (hwb0.trans inferInstance) HR.out _ k0 k1 (by have := HY.out.l_Runs.len; have := HL.out; omega)).mono ?_; rintro e w2 ⟨rfl, L2⟩; have X2 := Later.trans (w := wb) inferInstance L2))
  go_wp2
  go_ret
  exact ⟨ret_int HE.out.symm, hww.trans inferInstance⟩
theorem spec_l5End {w0 w : World} {sA0 : Option Addr} {sn0 sc0 : Nat} {sA1 : Option Addr} {sn1 sc1 : Nat} {sA2 : Option Addr} {sn2 sc2 : Nat} {t : Timetable} (h : TimetableAt w0 sA0 sn0 sc0 sA1 sn1 sc1 sA2 sn2 sc2 t) (hl : Later w0 w) (nf : NetFacts t.Network) (i : Int) (i0 : 0 ≤ i) (i1 : i < t.Trips.length) (ti : TripIn t (tripI t i)) :
    Calls Try.prog 107 #[.agg #[.slice sA0 sn0 sc0, .slice sA1 sn1 sc1, .slice sA2 sn2 sc2], .int .i64 i] w (Ret (.int .i64 (endAt t (tripI t i))) w) := by
  have lf := lineAtT_facts nf ti.line0 ti.line1
  have H := Lib.hid h
  have NF := Lib.hid nf
  have HL : Hid ((lineI t i).Runs.length + 1 = (lineI t i).Stops.length ∧ (lineI t i).Stops.length ≤ 6) := ⟨lf.runs, lf.stops.2⟩
  have HB0 : ∀ W [Later (w.alloc (.cells #[.slice sA0 sn0 sc0, .slice sA1 sn1 sc1, .slice sA2 sn2 sc2] 41)) W] (j : Nat), W.cell? ⟨w.heap.size, j, none⟩ = #[.slice sA0 sn0 sc0, .slice sA1 sn1 sc1, .slice sA2 sn2 sc2][j]? := Later.boxes (t := 41) (fr := (0, 0)) (heap_new (by simp; try omega)); obtain ⟨wb, hwb⟩ : ∃ wb : World, wb = (w.alloc (.cells #[.slice sA0 sn0 sc0, .slice sA1 sn1 sc1, .slice sA2 sn2 sc2] 41)) := ⟨_, rfl⟩; haveI hbW : Later wb (w.alloc (.cells #[.slice sA0 sn0 sc0, .slice sA1 sn1 sc1, .slice sA2 sn2 sc2] 41)) := (by rw [hwb]; exact Later.rfl_); haveI hww : Later w wb := (by rw [hwb]; infer_instance); rw [← hwb] at HB0; have hbE := Lib.hid (congrArg (fun x : World => x.heap.size) hwb); clear hwb
  have hwb0 := hl.trans hww
  clear h lf nf
  go_enter Try.func107, Try.ntmps107
  go_wp2_with fail
  go_region_held3 (fun w' => Later wb w') (exact inferInstance) (first
    | (go_at_call 58; refine (spec_l5Stops H.out (hwb0.trans inferInstance) _ i0 i1 ti).mono ?_; rintro e w1 ⟨A0, n0, c0, rfl, hy, L1⟩; have X1 := Later.trans (w := wb) inferInstance L1; have HN : Hid ((n0 : Int) = (lineI t i).Stops.length) := (by show _ = _; rw [hy.len]); have hwr : IntKind.i64.wrap ((n0 : Int) - 1) = (n0 : Int) - 1 := (by rw [IntKind.wrap_i64]; have := HN.out; have := HL.out.2; omega); clear hy)
    | (go_at_call 59; refine (spec_l5At H.out (hwb0.trans inferInstance) NF.out _ i0 i1 ti _ (by have := HN.out; have := HL.out.1; omega) (by have := HN.out; have := HL.out.1; omega)).mono ?_; rintro e w2 ⟨rfl, L2⟩; have X2 := Later.trans (w := wb) inferInstance L2))
  go_wp2
  go_ret
  exact ⟨ret_int (by unfold timeI; exact endAt_eq (by have := HN.out; have := HL.out.1; unfold lineI at *; omega)), hww.trans inferInstance⟩
theorem spec_l5Find {w0 w : World} {sA0 : Option Addr} {sn0 sc0 : Nat} {sA1 : Option Addr} {sn1 sc1 : Nat} {sA2 : Option Addr} {sn2 sc2 : Nat} {t : Timetable} (h : TimetableAt w0 sA0 sn0 sc0 sA1 sn1 sc1 sA2 sn2 sc2 t) (hl : Later w0 w) (v : Int) :
    Calls Try.prog 97 #[.agg #[.slice sA0 sn0 sc0, .slice sA1 sn1 sc1, .slice sA2 sn2 sc2], .int .i64 v] w (Ret (.int .i64 (findI t v)) w) := by
  replace h := h.later hl
  have hS := h.l_Trips
  have hn := hS.le
  have Hl := Lib.hid hS.len
  unfold findI
  have HB0 : ∀ W [Later (w.alloc (.cells #[.slice sA0 sn0 sc0, .slice sA1 sn1 sc1, .slice sA2 sn2 sc2] 41)) W] (j : Nat), W.cell? ⟨w.heap.size, j, none⟩ = #[.slice sA0 sn0 sc0, .slice sA1 sn1 sc1, .slice sA2 sn2 sc2][j]? := Later.boxes (t := 41) (fr := (0, 0)) (heap_new (by simp; try omega))
  go_enter Try.func97, Try.ntmps97
  go_wp2
  go_loopw [5] (fun i wr => ∃ k : Nat, k ≤ sn2 ∧ i = .int .i64 k ∧ Hid (idxGo (idIs v) (t.Trips.drop k) k = idx (idIs v) t.Trips) ∧ Later (w.alloc (.cells #[.slice sA0 sn0 sc0, .slice sA1 sn1 sc1, .slice sA2 sn2 sc2] 41)) wr) (fun i _ => sn2 - (intOf i).toNat)
  case atStart => exact ⟨0, by omega, rfl, rfl, inferInstance⟩
  case round =>
    obtain ⟨k, hk, rfl, HF, hX⟩ := hrel
    have hXw := Later.trans (w := w) inferInstance hX
    by_cases hlt : k < sn2
    · obtain ⟨b, o, x, rfl, hx, hc0, hc1, hc2, hi⟩ := Trips.at_ hS hlt
      have HF1 := HF.out
      rw [drop_at hx.out] at HF1
      simp only [idxGo] at HF1
      clear HF
      by_cases hxy : x.Id = v
      · rw [if_pos (by (first | simpa [nameIs, intIs] using hxy | simpa [idIs] using hxy))] at HF1
        have HF2 := Lib.hid HF1
        clear HF1
        obtain ⟨e1, e2⟩ := beqi_t hxy
        clear hxy
        go_wp2
        go_ret
        exact ⟨ret_int HF2.out, inferInstance⟩
      · rw [if_neg (by (first | simpa [nameIs, intIs] using hxy | simpa [idIs] using hxy))] at HF1
        have HF2 := Lib.hid HF1
        clear HF1
        obtain ⟨e1, e2⟩ := beqi_f hxy
        clear hxy
        go_wp2
        go_roundw
        case rel => exact ⟨k + 1, by omega, by go_num, HF2, inferInstance⟩
        case measure => simp [intOf]; omega
    · have HF2 : Hid (-1 = idx (idIs v) t.Trips) := by
        have h3 := HF.out
        rw [List.drop_eq_nil_of_le (by have := Hl.out; omega)] at h3
        exact h3
      clear HF
      go_wp2
      go_ret
      exact ⟨ret_int HF2.out, inferInstance⟩
end Go.Proofs.Ytaopadffabbjiaa
