/-
  Duties: the gaps between pieces, the length of a duty (gapsIn, lengthOf).
-/
import Derived.Test.YthibhehnakikpaaGreatSpn
import Derived.Test.YthibhehnakikpaaGreatBrkP
import Derived.Test.YthibhehnakikpaaGreatAppN
namespace Go.Proofs.YthibhehnakikpaaGreat
open Go Go.RowKit
set_option linter.unusedVariables false
set_option maxRecDepth 100000
theorem field_Span0 (a b : Int) (w : World) : (Instr.field 99 (.agg #[.int .i64 a, .int .i64 b]) 0).run Tryz.prog w = .ok (.int .i64 a) w := by kernel_rfl
theorem field_Span1 (a b : Int) (w : World) : (Instr.field 99 (.agg #[.int .i64 a, .int .i64 b]) 1).run Tryz.prog w = .ok (.int .i64 b) w := by kernel_rfl
set_option maxHeartbeats 4000000 in
theorem impl_gapsIn {w0 w w2 w3 : World} {sA0 : Option Addr} {sn0 sc0 : Nat} {sA1 : Option Addr} {sn1 sc1 : Nat} {sA2 : Option Addr} {sn2 sc2 : Nat} {t : Timetable} (h : TimetableAt w0 sA0 sn0 sc0 sA1 sn1 sc1 sA2 sn2 sc2 t) (hl : Later w0 w) {qA0 : Option Addr} {qn0 qc0 : Nat} {f : Fleet} (h2 : FleetAt w2 qA0 qn0 qc0 f) (hl2 : Later w2 w) {bA : Option Addr} {bn bc : Nat} {ps : List (List Int)} (h3 : Sl 1 (rSl 1 rInt) w3 bA bn bc ps) (hl3 : Later w3 w) (rf : RunFacts t f) (bf : BrkFacts t ps) :
    Calls Tryz.prog 84 #[.agg #[.slice sA0 sn0 sc0, .slice sA1 sn1 sc1, .slice sA2 sn2 sc2], .agg #[.slice qA0 qn0 qc0, .int .i64 f.Turn], .slice bA bn bc] w (RetO 1 oInt (gapsP t f ps) w) := by
  have hB := h3.later hl3
  have HB0 : ∀ W [Later ((w.alloc (.cells #[.slice sA0 sn0 sc0, .slice sA1 sn1 sc1, .slice sA2 sn2 sc2] 46)).alloc (.cells #[.slice qA0 qn0 qc0, .int .i64 f.Turn] 48)) W] (j : Nat), W.cell? ⟨w.heap.size, j, none⟩ = #[.slice sA0 sn0 sc0, .slice sA1 sn1 sc1, .slice sA2 sn2 sc2][j]? := Later.boxes (t := 46) (fr := (0, 0)) ((heap_old (by simp; try omega)).trans (heap_new (by simp; try omega))); have HB1 : ∀ W [Later ((w.alloc (.cells #[.slice sA0 sn0 sc0, .slice sA1 sn1 sc1, .slice sA2 sn2 sc2] 46)).alloc (.cells #[.slice qA0 qn0 qc0, .int .i64 f.Turn] 48)) W] (j : Nat), W.cell? ⟨w.heap.size + 1, j, none⟩ = #[.slice qA0 qn0 qc0, .int .i64 f.Turn][j]? := Later.boxes (t := 48) (fr := (0, 0)) (heap_new (by simp; try omega)); obtain ⟨wb, hwb⟩ : ∃ wb : World, wb = ((w.alloc (.cells #[.slice sA0 sn0 sc0, .slice sA1 sn1 sc1, .slice sA2 sn2 sc2] 46)).alloc (.cells #[.slice qA0 qn0 qc0, .int .i64 f.Turn] 48)) := ⟨_, rfl⟩; haveI hbW : Later wb ((w.alloc (.cells #[.slice sA0 sn0 sc0, .slice sA1 sn1 sc1, .slice sA2 sn2 sc2] 46)).alloc (.cells #[.slice qA0 qn0 qc0, .int .i64 f.Turn] 48)) := (by rw [hwb]; exact Later.rfl_); haveI hww : Later w wb := (by rw [hwb]; infer_instance); rw [← hwb] at HB0; rw [← hwb] at HB1; have hbE := Lib.hid (congrArg (fun x : World => x.heap.size) hwb); clear hwb
  have hwb0 := hl.trans hww
  have hwb2 := hl2.trans hww
  have hwb3 := hl3.trans hww
  have H := Lib.hid h
  have H2 := Lib.hid h2
  have H3 := Lib.hid h3
  clear h h2 h3
  replace hB := hB.later hww
  have hbl := hB.le
  have Hbl := Lib.hid hB.len
  have hb0 := bf.pos
  have hb3 := bf.max
  have hbn : 0 < bn := by rw [hB.len]; exact hb0
  have hbn3 : bn ≤ 3 := by rw [hB.len]; exact hb3
  have BF := Lib.hid bf
  have RF := Lib.hid rf
  have NF := Lib.hid rf.time.net
  have FF := Lib.hid rf.fleet
  have hbs : wb.heap.size ≤ w.heap.size + 2 := by have := hbE.out; simp at this; omega
  have hbs2 : w.heap.size + 2 ≤ wb.heap.size := by have := hbE.out; simp at this; omega
  have hf0 := field_Span0
  have hf1 := field_Span1
  clear bf rf hb0 hb3
  go_enter Tryz.func84, Tryz.ntmps84
  go_wp2_with fail
  go_loopw [7, 8] (fun ov i wr => ∃ (j m : Nat), j = m + 1 ∧ m < bn ∧ i = .int .i64 j ∧ Hid (wr.ownsRow (w.heap.size + 2) 3 1 ov (gapsP t f (ps.take j)).length ((gapsP t f (ps.take j)).map (Value.int .i64))) ∧ Later wb wr) (fun _ i _ => bn - (intOf i).toNat)
  case atStart => exact ⟨1, 0, rfl, by omega, rfl, by rw [gapsP_one]; exact Lib.hid ⟨rfl, .inl ⟨rfl, rfl⟩⟩, inferInstance⟩
  case round =>
    obtain ⟨j, m, hjm, hm, rfl, hown, hX⟩ := hrel
    by_cases hjt : j < bn
    · obtain ⟨b, o, A1, n1, c1, x, rfl, hx, hc0, hi⟩ := Sl.row_ hB hm
      obtain ⟨b', o', A2, n2, c2, y, hA', hy, hc0', hi'⟩ := Sl.row_ hB hjt
      cases hA'
      have hxf := BF.out.at_ hx.out
      have hyf := BF.out.at_ hy.out
      have hn1 : 0 < n1 := by rw [hi.len]; exact hxf.1
      have hn2 : 0 < n2 := by rw [hi'.len]; exact hyf.1
      have hn1m := hi.le
      have hn2m := hi'.le
      have HI := Lib.hid hi
      have HI' := Lib.hid hi'
      have HXP := Lib.hid hxf.1
      have HYP := Lib.hid hyf.1
      have HXF := Lib.hid hxf.2
      have HYF := Lib.hid hyf.2
      obtain ⟨m1, rfl⟩ : ∃ m1 : Nat, n1 = m1 + 1 := ⟨n1 - 1, by omega⟩
      obtain ⟨b4, o4, u, rfl, hu, hcu, _⟩ := Ints.at_ hi (show m1 < m1 + 1 by omega)
      obtain ⟨b5, o5, v, rfl, hv, hcv, _⟩ := Ints.at_ hi' hn2
      simp only [Nat.add_zero] at hcv
      have e1 : lastI x = u := lastI_of hi.len hu.out
      have e2 : headI y = v := headI_of hv.out
      have fu := hxf.2 u (List.mem_of_getElem? hu.out)
      have fv := hyf.2 v (List.mem_of_getElem? hv.out)
      have TU := Lib.hid (tripI_facts RF.out.time fu (findI_bd t u).2)
      have TV := Lib.hid (tripI_facts RF.out.time fv (findI_bd t v).2)
      have FU := Lib.hid fu
      have FV := Lib.hid fv
      have q1 := begP_bd RF.out.time hyf.1 hyf.2
      have q2 := finP_bd RF.out.time hxf.1 hxf.2
      have q3 := pairDead_bd RF.out fu fv
      have hg : begP t y - finP t x - pairDead t f u v = gapP t f x y := by unfold gapP; rw [e1, e2]
      have hw1 : IntKind.i64.wrap (begP t y - finP t x) = begP t y - finP t x := by rw [IntKind.wrap_i64]; omega
      have hw2 : IntKind.i64.wrap (begP t y - finP t x - pairDead t f u v) = gapP t f x y := by rw [IntKind.wrap_i64, hg]; omega
      have hwm : IntKind.i64.wrap ((j : Int) - 1) = (m : Int) := by rw [IntKind.wrap_i64]; omega
      have hjt' : (j : Int) < bn := by omega
      have hm' : (m : Int) < bn := by omega
      have hwl : IntKind.i64.wrap (((m1 + 1 : Nat) : Int) - 1) = (m1 : Int) := by rw [IntKind.wrap_i64]; omega
      have hwl2 : IntKind.i64.wrap ((m1 : Int) + 1 - 1) = (m1 : Int) := by rw [IntKind.wrap_i64]; omega
      have hwl3 : IntKind.i64.wrap (m1 : Int) = (m1 : Int) := by rw [IntKind.wrap_i64]; omega
      have hl0 : (m1 : Int) < (m1 : Int) + 1 := by omega
      have hl1 : (0 : Int) < (n2 : Int) := by omega
      have HT : Hid (gapsP t f (ps.take (j + 1)) = gapsP t f (ps.take j) ++ [gapP t f x y]) := by show _ = _; subst hjm; exact gapsP_take hx.out hy.out
      have Hjm := Lib.hid hjm
      have Hal : (gapsP t f (ps.take j)).length ≤ 3 := by rw [gapsP_len, List.length_take]; omega
      clear hx hy hxf hyf hi hi' hu hv e1 e2 fu fv q1 q2 q3 hg hjm
      go_wp2_with fail
      go_quiet (fail)
      go_wp2_with fail
      go_region_held3 (fun w' => Later wb w') (exact inferInstance) (first
        | ((with_reducible refine (impl_spanOf H.out (hwb0.trans inferInstance) RF.out.time HI'.out inferInstance HYP.out HYF.out).mono ?_); rintro e w4 ⟨rfl, L4⟩; have X4 := Later.trans (w := wb) inferInstance L4; have Z4 := Later.trans (w := wr) inferInstance L4)
        | ((with_reducible refine (impl_spanOf H.out (hwb0.trans inferInstance) RF.out.time HI.out inferInstance HXP.out HXF.out).mono ?_); rintro e w5 ⟨rfl, L5⟩; have X5 := Later.trans (w := wb) inferInstance L5; have Z5 := Later.trans (w := wr) inferInstance L5)
        | ((with_reducible refine (impl_tripWith H.out (hwb0.trans inferInstance) u FU.out _ rfl).mono ?_); rintro e w6 ⟨rfl, L6⟩; have X6 := Later.trans (w := wb) inferInstance L6; have Z6 := Later.trans (w := wr) inferInstance L6)
        | ((with_reducible refine (impl_tripWith H.out (hwb0.trans inferInstance) v FV.out _ rfl).mono ?_); rintro e w7 ⟨rfl, L7⟩; have X7 := Later.trans (w := wb) inferInstance L7; have Z7 := Later.trans (w := wr) inferInstance L7)
        | (go_at_call 116; refine (impl_deadBetween H.out (hwb0.trans inferInstance) H2.out (hwb2.trans inferInstance) NF.out FF.out _ _ TU.out.in_ TV.out.in_).mono ?_; change ∀ _ _, Ret (.int .i64 (pairDead t f u v)) _ _ _ → _; rintro e w8 ⟨rfl, L8⟩; have X8 := Later.trans (w := wb) inferInstance L8; have Z8 := Later.trans (w := wr) inferInstance L8)
        | (rw [if_pos (by rfl)]; refine wp_app_B _ _ 65 rfl Tryz.underlying65 infoInt rfl (by decide) (by decide) rfl (by exact ownsRow_later hown.out (inferInstance : Later wr _)) (inferInstance : Later wb _) hbs (Nat.le_trans hbs2 (Later.size (w := wb) inferInstance)) rfl rfl (one_cell _ _) (by omega) ?_; intro v' w9 hown' hX9))
      clear hw1 hw2
      go_wp2
      go_roundw
      case rel => exact ⟨j + 1, j, rfl, hjt, by go_num, by show World.ownsRow _ _ _ _ _ _ _; rw [HT.out, List.map_append, List.length_append]; exact hown', inferInstance⟩
      case measure => simp [intOf]; omega
    · have hjt' : ¬ ((j : Int) < bn) := by omega
      have HE : Hid (gapsP t f (ps.take j) = gapsP t f ps) := by show _ = _; rw [List.take_of_length_le (by have := Hbl.out; omega)]
      rw [HE.out] at hown
      clear HE
      go_wp2
      go_ret
      obtain ⟨A, c, fp, rfl, ho, hnd, hlo⟩ := OSl.ints_of_own hown.out (fun y hy => by have := gapsP_mem RF.out BF.out y hy; unfold I64; omega)
      exact ⟨A, _, c, fp, rfl, ho, hnd, fun g hg => by have := hlo g hg; omega, hww.trans inferInstance⟩
set_option maxHeartbeats 1000000 in
theorem impl_lengthOf {w0 w : World} {sA0 : Option Addr} {sn0 sc0 : Nat} {sA1 : Option Addr} {sn1 sc1 : Nat} {sA2 : Option Addr} {sn2 sc2 : Nat} {t : Timetable} (h : TimetableAt w0 sA0 sn0 sc0 sA1 sn1 sc1 sA2 sn2 sc2 t) (hl : Later w0 w) {r : Rules} {eA0 : Option Addr} {en0 ec0 : Nat} {d : Duty} {w3 : World} (h3 : DutyAt w3 eA0 en0 ec0 d) (hl3 : Later w3 w) (tf : TimeFacts t) (rf : RulesFacts r) (bf : BrkFacts t d.Pieces) :
    Calls Tryz.prog 82 #[.agg #[.slice sA0 sn0 sc0, .slice sA1 sn1 sc1, .slice sA2 sn2 sc2], .agg #[.int .i64 r.SignOn, .int .i64 r.SignOff, .int .i64 r.MaxDrive, .int .i64 r.MinBreak, .int .i64 r.PaidBreak, .int .i64 r.MaxLength], .agg #[.slice eA0 en0 ec0]] w (Ret (.int .i64 (lenD t r d.Pieces)) w) := by
  have hB := h3.l_Pieces.later hl3
  have HB0 : ∀ W [Later (((w.alloc (.cells #[.slice sA0 sn0 sc0, .slice sA1 sn1 sc1, .slice sA2 sn2 sc2] 46)).alloc (.cells #[.int .i64 r.SignOn, .int .i64 r.SignOff, .int .i64 r.MaxDrive, .int .i64 r.MinBreak, .int .i64 r.PaidBreak, .int .i64 r.MaxLength] 51)).alloc (.cells #[.slice eA0 en0 ec0] 75)) W] (j : Nat), W.cell? ⟨w.heap.size, j, none⟩ = #[.slice sA0 sn0 sc0, .slice sA1 sn1 sc1, .slice sA2 sn2 sc2][j]? := Later.boxes (t := 46) (fr := (0, 0)) ((heap_old (by simp; try omega)).trans ((heap_old (by simp; try omega)).trans (heap_new (by simp; try omega)))); have HB1 : ∀ W [Later (((w.alloc (.cells #[.slice sA0 sn0 sc0, .slice sA1 sn1 sc1, .slice sA2 sn2 sc2] 46)).alloc (.cells #[.int .i64 r.SignOn, .int .i64 r.SignOff, .int .i64 r.MaxDrive, .int .i64 r.MinBreak, .int .i64 r.PaidBreak, .int .i64 r.MaxLength] 51)).alloc (.cells #[.slice eA0 en0 ec0] 75)) W] (j : Nat), W.cell? ⟨w.heap.size + 1, j, none⟩ = #[.int .i64 r.SignOn, .int .i64 r.SignOff, .int .i64 r.MaxDrive, .int .i64 r.MinBreak, .int .i64 r.PaidBreak, .int .i64 r.MaxLength][j]? := Later.boxes (t := 51) (fr := (0, 0)) ((heap_old (by simp; try omega)).trans (heap_new (by simp; try omega))); have HB2 : ∀ W [Later (((w.alloc (.cells #[.slice sA0 sn0 sc0, .slice sA1 sn1 sc1, .slice sA2 sn2 sc2] 46)).alloc (.cells #[.int .i64 r.SignOn, .int .i64 r.SignOff, .int .i64 r.MaxDrive, .int .i64 r.MinBreak, .int .i64 r.PaidBreak, .int .i64 r.MaxLength] 51)).alloc (.cells #[.slice eA0 en0 ec0] 75)) W] (j : Nat), W.cell? ⟨w.heap.size + 1 + 1, j, none⟩ = #[.slice eA0 en0 ec0][j]? := Later.boxes (t := 75) (fr := (0, 0)) (heap_new (by simp; try omega)); obtain ⟨wb, hwb⟩ : ∃ wb : World, wb = (((w.alloc (.cells #[.slice sA0 sn0 sc0, .slice sA1 sn1 sc1, .slice sA2 sn2 sc2] 46)).alloc (.cells #[.int .i64 r.SignOn, .int .i64 r.SignOff, .int .i64 r.MaxDrive, .int .i64 r.MinBreak, .int .i64 r.PaidBreak, .int .i64 r.MaxLength] 51)).alloc (.cells #[.slice eA0 en0 ec0] 75)) := ⟨_, rfl⟩; haveI hbW : Later wb (((w.alloc (.cells #[.slice sA0 sn0 sc0, .slice sA1 sn1 sc1, .slice sA2 sn2 sc2] 46)).alloc (.cells #[.int .i64 r.SignOn, .int .i64 r.SignOff, .int .i64 r.MaxDrive, .int .i64 r.MinBreak, .int .i64 r.PaidBreak, .int .i64 r.MaxLength] 51)).alloc (.cells #[.slice eA0 en0 ec0] 75)) := (by rw [hwb]; exact Later.rfl_); haveI hww : Later w wb := (by rw [hwb]; infer_instance); rw [← hwb] at HB0; rw [← hwb] at HB1; rw [← hwb] at HB2; have hbE := Lib.hid (congrArg (fun x : World => x.heap.size) hwb); clear hwb
  have hwb0 := hl.trans hww
  have H := Lib.hid h
  replace hB := hB.later hww
  have hbl := hB.le
  have hen : en0 = d.Pieces.length := hB.len
  have hb0 := bf.pos
  obtain ⟨m, rfl⟩ : ∃ m : Nat, en0 = m + 1 := ⟨en0 - 1, by omega⟩
  obtain ⟨b, o, A1, n1, c1, x, rfl, hx, hc0, hi⟩ := Sl.row_ hB (show 0 < m + 1 by omega)
  obtain ⟨b', o', A2, n2, c2, z, hA', hz, hc0', hi'⟩ := Sl.row_ hB (show m < m + 1 by omega)
  cases hA'
  simp only [Nat.add_zero] at hc0
  have hxf := bf.at_ hx.out
  have hzf := bf.at_ hz.out
  have q1 := begP_bd tf hxf.1 hxf.2
  have q2 := finP_bd tf hzf.1 hzf.2
  have q3 := rf.on
  have q4 := rf.off
  have HE : Hid (lenD t r d.Pieces = r.SignOn + finP t z - begP t x + r.SignOff) := by show _ = _; unfold lenD; rw [lastP_of hen hz.out, headP_of hx.out]
  have hw1 : IntKind.i64.wrap (r.SignOn + finP t z) = r.SignOn + finP t z := by rw [IntKind.wrap_i64]; omega
  have hw2 : IntKind.i64.wrap (r.SignOn + finP t z - begP t x) = r.SignOn + finP t z - begP t x := by rw [IntKind.wrap_i64]; omega
  have hw3 : IntKind.i64.wrap (r.SignOn + finP t z - begP t x + r.SignOff) = r.SignOn + finP t z - begP t x + r.SignOff := by rw [IntKind.wrap_i64]; omega
  have hwm : IntKind.i64.wrap (((m + 1 : Nat) : Int) - 1) = (m : Int) := by rw [IntKind.wrap_i64]; omega
  have hwm2 : IntKind.i64.wrap ((m : Int) + 1 - 1) = (m : Int) := by rw [IntKind.wrap_i64]; omega
  have hwm3 : IntKind.i64.wrap (m : Int) = (m : Int) := by rw [IntKind.wrap_i64]; omega
  have hm1 : (m : Int) < (m : Int) + 1 := by omega
  have hm2 : (0 : Int) < (m : Int) + 1 := by omega
  have HI := Lib.hid hi
  have HI' := Lib.hid hi'
  have HXP := Lib.hid hxf.1
  have HZP := Lib.hid hzf.1
  have HXF := Lib.hid hxf.2
  have HZF := Lib.hid hzf.2
  have TF := Lib.hid tf
  have hf0 := field_Span0
  have hf1 := field_Span1
  clear h h3 hB hi hi' hx hz hxf hzf q1 q2 q3 q4 tf rf bf hen hb0
  go_enter Tryz.func82, Tryz.ntmps82
  go_wp2_with fail
  go_region_held3 (fun w' => Later wb w') (exact inferInstance) (first
    | ((with_reducible refine (impl_spanOf H.out (hwb0.trans inferInstance) TF.out HI.out inferInstance HXP.out HXF.out).mono ?_); rintro e w4 ⟨rfl, L4⟩; have X4 := Later.trans (w := wb) inferInstance L4)
    | ((with_reducible refine (impl_spanOf H.out (hwb0.trans inferInstance) TF.out HI'.out inferInstance HZP.out HZF.out).mono ?_); rintro e w5 ⟨rfl, L5⟩; have X5 := Later.trans (w := wb) inferInstance L5))
  clear hw1 hw2 hw3 hwm hwm2 hwm3
  go_wp2
  go_ret
  exact ⟨ret_int HE.out.symm, hww.trans inferInstance⟩
set_option maxHeartbeats 400000 in
theorem spec_l12Start {w0 w : World} {sA0 : Option Addr} {sn0 sc0 : Nat} {sA1 : Option Addr} {sn1 sc1 : Nat} {sA2 : Option Addr} {sn2 sc2 : Nat} {t : Timetable} (h : TimetableAt w0 sA0 sn0 sc0 sA1 sn1 sc1 sA2 sn2 sc2 t) (hl : Later w0 w) {w3 : World} (tf : TimeFacts t) {pA : Option Addr} {pn pc : Nat} {p : List Int} (h3 : Ints w3 pA pn pc p) (hl3 : Later w3 w) (hpos : 0 < p.length) (hfo : FoundAll t p) :
    Calls Tryz.prog 71 #[.agg #[.slice sA0 sn0 sc0, .slice sA1 sn1 sc1, .slice sA2 sn2 sc2], .slice pA pn pc] w (Ret (.int .i64 (begP t p)) w) := by
  have hP := h3.later hl3
  have hT := h.l_Trips
  have hsl := hT.le
  have hnT := hT.len
  have HB0 : ∀ W [Later (w.alloc (.cells #[.slice sA0 sn0 sc0, .slice sA1 sn1 sc1, .slice sA2 sn2 sc2] 46)) W] (j : Nat), W.cell? ⟨w.heap.size, j, none⟩ = #[.slice sA0 sn0 sc0, .slice sA1 sn1 sc1, .slice sA2 sn2 sc2][j]? := Later.boxes (t := 46) (fr := (0, 0)) (heap_new (by simp; try omega)); obtain ⟨wb, hwb⟩ : ∃ wb : World, wb = (w.alloc (.cells #[.slice sA0 sn0 sc0, .slice sA1 sn1 sc1, .slice sA2 sn2 sc2] 46)) := ⟨_, rfl⟩; haveI hbW : Later wb (w.alloc (.cells #[.slice sA0 sn0 sc0, .slice sA1 sn1 sc1, .slice sA2 sn2 sc2] 46)) := (by rw [hwb]; exact Later.rfl_); haveI hww : Later w wb := (by rw [hwb]; infer_instance); rw [← hwb] at HB0; have hbE := Lib.hid (congrArg (fun x : World => x.heap.size) hwb); clear hwb
  have hwb0 := hl.trans hww
  have H := Lib.hid h
  clear h
  replace hP := hP.later hww
  have hpn : 0 < pn := by rw [hP.len]; exact hpos
  have hpn' : (0 : Int) < (pn : Int) := by omega
  have hpl := hP.le
  obtain ⟨b1, o1, v, rfl, hv, hcv, _⟩ := Ints.at_ hP hpn
  simp only [Nat.add_zero] at hcv
  have e1 := headI_of hv.out
  have fv := hfo v (List.mem_of_getElem? hv.out)
  obtain ⟨j, hj⟩ := Int.eq_ofNat_of_zero_le fv
  have hjn : j < sn2 := by rw [hnT]; have := (findI_bd t v).2; omega
  have hjn' : (j : Int) < (sn2 : Int) := by omega
  obtain ⟨b5, o5, y, rfl, hy, hc0, hc1, hc2, _⟩ := Trips.at_ hT hjn
  replace hc2 := shift hwb0 hc2
  have HE : Hid (begP t p = y.Start) := by show _ = _; unfold begP; rw [e1, hj, tripI_of hy.out]
  have HJ := Lib.hid hj
  clear h3 hP hT hpos hfo hv e1 fv hj hy hc0 hc1 tf hnT
  go_enter Tryz.func71, Tryz.ntmps71
  go_wp2_with fail
  go_region_held3 (fun w' => Later wb w') (exact inferInstance) (first
    | (go_at_call 104; refine (spec_l5Find H.out (hwb0.trans inferInstance) v).mono ?_; rw [HJ.out]; rintro e w4 ⟨rfl, L4⟩; have X4 := Later.trans (w := wb) inferInstance L4))
  go_wp2
  go_ret
  exact ⟨ret_int HE.out.symm, hww.trans inferInstance⟩
set_option maxHeartbeats 400000 in
theorem spec_l12End {w0 w : World} {sA0 : Option Addr} {sn0 sc0 : Nat} {sA1 : Option Addr} {sn1 sc1 : Nat} {sA2 : Option Addr} {sn2 sc2 : Nat} {t : Timetable} (h : TimetableAt w0 sA0 sn0 sc0 sA1 sn1 sc1 sA2 sn2 sc2 t) (hl : Later w0 w) {w3 : World} (tf : TimeFacts t) {pA : Option Addr} {pn pc : Nat} {p : List Int} (h3 : Ints w3 pA pn pc p) (hl3 : Later w3 w) (hpos : 0 < p.length) (hfo : FoundAll t p) :
    Calls Tryz.prog 70 #[.agg #[.slice sA0 sn0 sc0, .slice sA1 sn1 sc1, .slice sA2 sn2 sc2], .slice pA pn pc] w (Ret (.int .i64 (finP t p)) w) := by
  have hP := h3.later hl3
  have HB0 : ∀ W [Later (w.alloc (.cells #[.slice sA0 sn0 sc0, .slice sA1 sn1 sc1, .slice sA2 sn2 sc2] 46)) W] (j : Nat), W.cell? ⟨w.heap.size, j, none⟩ = #[.slice sA0 sn0 sc0, .slice sA1 sn1 sc1, .slice sA2 sn2 sc2][j]? := Later.boxes (t := 46) (fr := (0, 0)) (heap_new (by simp; try omega)); obtain ⟨wb, hwb⟩ : ∃ wb : World, wb = (w.alloc (.cells #[.slice sA0 sn0 sc0, .slice sA1 sn1 sc1, .slice sA2 sn2 sc2] 46)) := ⟨_, rfl⟩; haveI hbW : Later wb (w.alloc (.cells #[.slice sA0 sn0 sc0, .slice sA1 sn1 sc1, .slice sA2 sn2 sc2] 46)) := (by rw [hwb]; exact Later.rfl_); haveI hww : Later w wb := (by rw [hwb]; infer_instance); rw [← hwb] at HB0; have hbE := Lib.hid (congrArg (fun x : World => x.heap.size) hwb); clear hwb
  have hwb0 := hl.trans hww
  have H := Lib.hid h
  clear h
  replace hP := hP.later hww
  have hpl := hP.le
  have Hlen := Lib.hid hP.len
  obtain ⟨m, rfl⟩ : ∃ m : Nat, pn = m + 1 := ⟨pn - 1, by have := Hlen.out; omega⟩
  obtain ⟨b1, o1, u, rfl, hu, hcu, _⟩ := Ints.at_ hP (show m < m + 1 by omega)
  have e2 := lastI_of Hlen.out hu.out
  have fu := hfo u (List.mem_of_getElem? hu.out)
  have TU := Lib.hid (tripI_facts tf fu (findI_bd t u).2)
  have FU : Hid (0 ≤ findI t u ∧ findI t u < t.Trips.length) := ⟨fu, (findI_bd t u).2⟩
  have HE : Hid (finP t p = endAt t (tripI t (findI t u))) := by show _ = _; unfold finP; rw [e2]
  have NF := Lib.hid tf.net
  have hwm : IntKind.i64.wrap (((m + 1 : Nat) : Int) - 1) = (m : Int) := by rw [IntKind.wrap_i64]; omega
  have hwm2 : IntKind.i64.wrap ((m : Int) + 1 - 1) = (m : Int) := by rw [IntKind.wrap_i64]; omega
  have hwm3 : IntKind.i64.wrap (m : Int) = (m : Int) := by rw [IntKind.wrap_i64]; omega
  have hm1 : (m : Int) < (m : Int) + 1 := by omega
  clear h3 hP hpos hfo hu e2 fu tf
  go_enter Tryz.func70, Tryz.ntmps70
  go_wp2_with fail
  go_region_held3 (fun w' => Later wb w') (exact inferInstance) (first
    | (go_at_call 104; refine (spec_l5Find H.out (hwb0.trans inferInstance) u).mono ?_; rintro e w4 ⟨rfl, L4⟩; have X4 := Later.trans (w := wb) inferInstance L4)
    | (go_at_call 103; refine (spec_l5End H.out (hwb0.trans inferInstance) NF.out _ FU.out.1 FU.out.2 TU.out.in_).mono ?_; rintro e w5 ⟨rfl, L5⟩; have X5 := Later.trans (w := wb) inferInstance L5))
  go_wp2
  go_ret
  exact ⟨ret_int HE.out.symm, hww.trans inferInstance⟩
set_option maxHeartbeats 1000000 in
theorem spec_l12Gap {w0 w w2 : World} {sA0 : Option Addr} {sn0 sc0 : Nat} {sA1 : Option Addr} {sn1 sc1 : Nat} {sA2 : Option Addr} {sn2 sc2 : Nat} {t : Timetable} (h : TimetableAt w0 sA0 sn0 sc0 sA1 sn1 sc1 sA2 sn2 sc2 t) (hl : Later w0 w) {qA0 : Option Addr} {qn0 qc0 : Nat} {f : Fleet} (h2 : FleetAt w2 qA0 qn0 qc0 f) (hl2 : Later w2 w) (rf : RunFacts t f) {w3 w4 : World} {aA : Option Addr} {an ac : Nat} {x : List Int} (h3 : Ints w3 aA an ac x) (hl3 : Later w3 w) (hxp : 0 < x.length) (hxf : FoundAll t x) {cA : Option Addr} {cn cc : Nat} {z : List Int} (h4 : Ints w4 cA cn cc z) (hl4 : Later w4 w) (hzp : 0 < z.length) (hzf : FoundAll t z) :
    Calls Tryz.prog 83 #[.agg #[.slice sA0 sn0 sc0, .slice sA1 sn1 sc1, .slice sA2 sn2 sc2], .agg #[.slice qA0 qn0 qc0, .int .i64 f.Turn], .slice aA an ac, .slice cA cn cc] w (Ret (.int .i64 (gapP t f x z)) w) := by
  have hP := h3.later hl3
  have hR := h4.later hl4
  have HB0 : ∀ W [Later ((w.alloc (.cells #[.slice sA0 sn0 sc0, .slice sA1 sn1 sc1, .slice sA2 sn2 sc2] 46)).alloc (.cells #[.slice qA0 qn0 qc0, .int .i64 f.Turn] 48)) W] (j : Nat), W.cell? ⟨w.heap.size, j, none⟩ = #[.slice sA0 sn0 sc0, .slice sA1 sn1 sc1, .slice sA2 sn2 sc2][j]? := Later.boxes (t := 46) (fr := (0, 0)) ((heap_old (by simp; try omega)).trans (heap_new (by simp; try omega))); have HB1 : ∀ W [Later ((w.alloc (.cells #[.slice sA0 sn0 sc0, .slice sA1 sn1 sc1, .slice sA2 sn2 sc2] 46)).alloc (.cells #[.slice qA0 qn0 qc0, .int .i64 f.Turn] 48)) W] (j : Nat), W.cell? ⟨w.heap.size + 1, j, none⟩ = #[.slice qA0 qn0 qc0, .int .i64 f.Turn][j]? := Later.boxes (t := 48) (fr := (0, 0)) (heap_new (by simp; try omega)); obtain ⟨wb, hwb⟩ : ∃ wb : World, wb = ((w.alloc (.cells #[.slice sA0 sn0 sc0, .slice sA1 sn1 sc1, .slice sA2 sn2 sc2] 46)).alloc (.cells #[.slice qA0 qn0 qc0, .int .i64 f.Turn] 48)) := ⟨_, rfl⟩; haveI hbW : Later wb ((w.alloc (.cells #[.slice sA0 sn0 sc0, .slice sA1 sn1 sc1, .slice sA2 sn2 sc2] 46)).alloc (.cells #[.slice qA0 qn0 qc0, .int .i64 f.Turn] 48)) := (by rw [hwb]; exact Later.rfl_); haveI hww : Later w wb := (by rw [hwb]; infer_instance); rw [← hwb] at HB0; rw [← hwb] at HB1; have hbE := Lib.hid (congrArg (fun x : World => x.heap.size) hwb); clear hwb
  have hwb0 := hl.trans hww
  have hwb2 := hl2.trans hww
  have H := Lib.hid h
  have H2 := Lib.hid h2
  clear h h2
  replace hP := hP.later hww
  replace hR := hR.later hww
  have hpl := hP.le
  have hrl := hR.le
  have Hlen := Lib.hid hP.len
  obtain ⟨m, rfl⟩ : ∃ m : Nat, an = m + 1 := ⟨an - 1, by have := Hlen.out; omega⟩
  have hcn : 0 < cn := by rw [hR.len]; exact hzp
  have hcn' : (0 : Int) < (cn : Int) := by omega
  obtain ⟨b1, o1, u, rfl, hu, hcu, _⟩ := Ints.at_ hP (show m < m + 1 by omega)
  obtain ⟨b2, o2, v, rfl, hv, hcv, _⟩ := Ints.at_ hR hcn
  simp only [Nat.add_zero] at hcv
  have e1 : lastI x = u := lastI_of Hlen.out hu.out
  have e2 : headI z = v := headI_of hv.out
  have fu := hxf u (List.mem_of_getElem? hu.out)
  have fv := hzf v (List.mem_of_getElem? hv.out)
  have TU := Lib.hid (tripI_facts rf.time fu (findI_bd t u).2)
  have TV := Lib.hid (tripI_facts rf.time fv (findI_bd t v).2)
  have FU : Hid (0 ≤ findI t u ∧ findI t u < t.Trips.length) := ⟨fu, (findI_bd t u).2⟩
  have FV : Hid (0 ≤ findI t v ∧ findI t v < t.Trips.length) := ⟨fv, (findI_bd t v).2⟩
  have q1 := begP_bd rf.time hzp hzf
  have q2 := finP_bd rf.time hxp hxf
  have q3 := pairDead_bd rf fu fv
  have hg : begP t z - finP t x - pairDead t f u v = gapP t f x z := by unfold gapP; rw [e1, e2]
  have hw1 : IntKind.i64.wrap (begP t z - finP t x) = begP t z - finP t x := by rw [IntKind.wrap_i64]; omega
  have hw2 : IntKind.i64.wrap (begP t z - finP t x - pairDead t f u v) = gapP t f x z := by rw [IntKind.wrap_i64, hg]; omega
  have hwm : IntKind.i64.wrap (((m + 1 : Nat) : Int) - 1) = (m : Int) := by rw [IntKind.wrap_i64]; omega
  have hwm2 : IntKind.i64.wrap ((m : Int) + 1 - 1) = (m : Int) := by rw [IntKind.wrap_i64]; omega
  have hwm3 : IntKind.i64.wrap (m : Int) = (m : Int) := by rw [IntKind.wrap_i64]; omega
  have hm1 : (m : Int) < (m : Int) + 1 := by omega
  have HP := Lib.hid hP
  have HR := Lib.hid hR
  have HXP := Lib.hid hxp
  have HXF := Lib.hid hxf
  have HZP := Lib.hid hzp
  have HZF := Lib.hid hzf
  have RF := Lib.hid rf
  clear h3 h4 hP hR hxp hxf hzp hzf hu hv e1 e2 fu fv q1 q2 q3 hg rf
  go_enter Tryz.func83, Tryz.ntmps83
  go_wp2_with fail
  go_region_held3 (fun w' => Later wb w') (exact inferInstance) (first
    | (go_at_call 71; refine (spec_l12Start H.out (hwb0.trans inferInstance) RF.out.time HR.out inferInstance HZP.out HZF.out).mono ?_; rintro e w4 ⟨rfl, L4⟩; have X4 := Later.trans (w := wb) inferInstance L4)
    | (go_at_call 70; refine (spec_l12End H.out (hwb0.trans inferInstance) RF.out.time HP.out inferInstance HXP.out HXF.out).mono ?_; rintro e w5 ⟨rfl, L5⟩; have X5 := Later.trans (w := wb) inferInstance L5)
    | ((with_reducible refine (spec_l5Find H.out (hwb0.trans inferInstance) u).mono ?_); rintro e w6 ⟨rfl, L6⟩; have X6 := Later.trans (w := wb) inferInstance L6)
    | ((with_reducible refine (spec_l5Find H.out (hwb0.trans inferInstance) v).mono ?_); rintro e w7 ⟨rfl, L7⟩; have X7 := Later.trans (w := wb) inferInstance L7)
    | (go_at_call 115; refine (spec_l11Dead H.out (hwb0.trans inferInstance) H2.out (hwb2.trans inferInstance) RF.out.time.net RF.out.fleet _ _ FU.out.1 FU.out.2 FV.out.1 FV.out.2 TU.out.in_ TV.out.in_).mono ?_; change ∀ _ _, Ret (.int .i64 (pairDead t f u v)) _ _ _ → _; rintro e w8 ⟨rfl, L8⟩; have X8 := Later.trans (w := wb) inferInstance L8))
  clear hw1 hw2
  go_wp2
  go_ret
  exact ⟨rfl, hww.trans inferInstance⟩
set_option maxHeartbeats 1000000 in
theorem spec_l12Length {w0 w : World} {sA0 : Option Addr} {sn0 sc0 : Nat} {sA1 : Option Addr} {sn1 sc1 : Nat} {sA2 : Option Addr} {sn2 sc2 : Nat} {t : Timetable} (h : TimetableAt w0 sA0 sn0 sc0 sA1 sn1 sc1 sA2 sn2 sc2 t) (hl : Later w0 w) {r : Rules} {eA0 : Option Addr} {en0 ec0 : Nat} {d : Duty} {w3 : World} (h3 : DutyAt w3 eA0 en0 ec0 d) (hl3 : Later w3 w) (tf : TimeFacts t) (rf : RulesFacts r) (bf : BrkFacts t d.Pieces) :
    Calls Tryz.prog 80 #[.agg #[.slice sA0 sn0 sc0, .slice sA1 sn1 sc1, .slice sA2 sn2 sc2], .agg #[.int .i64 r.SignOn, .int .i64 r.SignOff, .int .i64 r.MaxDrive, .int .i64 r.MinBreak, .int .i64 r.PaidBreak, .int .i64 r.MaxLength], .agg #[.slice eA0 en0 ec0]] w (Ret (.int .i64 (lenD t r d.Pieces)) w) := by
  have hB := h3.l_Pieces.later hl3
  have HB0 : ∀ W [Later (((w.alloc (.cells #[.slice sA0 sn0 sc0, .slice sA1 sn1 sc1, .slice sA2 sn2 sc2] 46)).alloc (.cells #[.int .i64 r.SignOn, .int .i64 r.SignOff, .int .i64 r.MaxDrive, .int .i64 r.MinBreak, .int .i64 r.PaidBreak, .int .i64 r.MaxLength] 51)).alloc (.cells #[.slice eA0 en0 ec0] 75)) W] (j : Nat), W.cell? ⟨w.heap.size, j, none⟩ = #[.slice sA0 sn0 sc0, .slice sA1 sn1 sc1, .slice sA2 sn2 sc2][j]? := Later.boxes (t := 46) (fr := (0, 0)) ((heap_old (by simp; try omega)).trans ((heap_old (by simp; try omega)).trans (heap_new (by simp; try omega)))); have HB1 : ∀ W [Later (((w.alloc (.cells #[.slice sA0 sn0 sc0, .slice sA1 sn1 sc1, .slice sA2 sn2 sc2] 46)).alloc (.cells #[.int .i64 r.SignOn, .int .i64 r.SignOff, .int .i64 r.MaxDrive, .int .i64 r.MinBreak, .int .i64 r.PaidBreak, .int .i64 r.MaxLength] 51)).alloc (.cells #[.slice eA0 en0 ec0] 75)) W] (j : Nat), W.cell? ⟨w.heap.size + 1, j, none⟩ = #[.int .i64 r.SignOn, .int .i64 r.SignOff, .int .i64 r.MaxDrive, .int .i64 r.MinBreak, .int .i64 r.PaidBreak, .int .i64 r.MaxLength][j]? := Later.boxes (t := 51) (fr := (0, 0)) ((heap_old (by simp; try omega)).trans (heap_new (by simp; try omega))); have HB2 : ∀ W [Later (((w.alloc (.cells #[.slice sA0 sn0 sc0, .slice sA1 sn1 sc1, .slice sA2 sn2 sc2] 46)).alloc (.cells #[.int .i64 r.SignOn, .int .i64 r.SignOff, .int .i64 r.MaxDrive, .int .i64 r.MinBreak, .int .i64 r.PaidBreak, .int .i64 r.MaxLength] 51)).alloc (.cells #[.slice eA0 en0 ec0] 75)) W] (j : Nat), W.cell? ⟨w.heap.size + 1 + 1, j, none⟩ = #[.slice eA0 en0 ec0][j]? := Later.boxes (t := 75) (fr := (0, 0)) (heap_new (by simp; try omega)); obtain ⟨wb, hwb⟩ : ∃ wb : World, wb = (((w.alloc (.cells #[.slice sA0 sn0 sc0, .slice sA1 sn1 sc1, .slice sA2 sn2 sc2] 46)).alloc (.cells #[.int .i64 r.SignOn, .int .i64 r.SignOff, .int .i64 r.MaxDrive, .int .i64 r.MinBreak, .int .i64 r.PaidBreak, .int .i64 r.MaxLength] 51)).alloc (.cells #[.slice eA0 en0 ec0] 75)) := ⟨_, rfl⟩; haveI hbW : Later wb (((w.alloc (.cells #[.slice sA0 sn0 sc0, .slice sA1 sn1 sc1, .slice sA2 sn2 sc2] 46)).alloc (.cells #[.int .i64 r.SignOn, .int .i64 r.SignOff, .int .i64 r.MaxDrive, .int .i64 r.MinBreak, .int .i64 r.PaidBreak, .int .i64 r.MaxLength] 51)).alloc (.cells #[.slice eA0 en0 ec0] 75)) := (by rw [hwb]; exact Later.rfl_); haveI hww : Later w wb := (by rw [hwb]; infer_instance); rw [← hwb] at HB0; rw [← hwb] at HB1; rw [← hwb] at HB2; have hbE := Lib.hid (congrArg (fun x : World => x.heap.size) hwb); clear hwb
  have hwb0 := hl.trans hww
  have H := Lib.hid h
  replace hB := hB.later hww
  have hbl := hB.le
  have hen : en0 = d.Pieces.length := hB.len
  have hb0 := bf.pos
  obtain ⟨m, rfl⟩ : ∃ m : Nat, en0 = m + 1 := ⟨en0 - 1, by omega⟩
  obtain ⟨b, o, A1, n1, c1, x, rfl, hx, hc0, hi⟩ := Sl.row_ hB (show 0 < m + 1 by omega)
  obtain ⟨b', o', A2, n2, c2, z, hA', hz, hc0', hi'⟩ := Sl.row_ hB (show m < m + 1 by omega)
  cases hA'
  simp only [Nat.add_zero] at hc0
  have hxf := bf.at_ hx.out
  have hzf := bf.at_ hz.out
  have q1 := begP_bd tf hxf.1 hxf.2
  have q2 := finP_bd tf hzf.1 hzf.2
  have q3 := rf.on
  have q4 := rf.off
  have HE : Hid (lenD t r d.Pieces = r.SignOn + finP t z - begP t x + r.SignOff) := by show _ = _; unfold lenD; rw [lastP_of hen hz.out, headP_of hx.out]
  have hw1 : IntKind.i64.wrap (r.SignOn + finP t z) = r.SignOn + finP t z := by rw [IntKind.wrap_i64]; omega
  have hw2 : IntKind.i64.wrap (r.SignOn + finP t z - begP t x) = r.SignOn + finP t z - begP t x := by rw [IntKind.wrap_i64]; omega
  have hw3 : IntKind.i64.wrap (r.SignOn + finP t z - begP t x + r.SignOff) = r.SignOn + finP t z - begP t x + r.SignOff := by rw [IntKind.wrap_i64]; omega
  have hwm : IntKind.i64.wrap (((m + 1 : Nat) : Int) - 1) = (m : Int) := by rw [IntKind.wrap_i64]; omega
  have hwm2 : IntKind.i64.wrap ((m : Int) + 1 - 1) = (m : Int) := by rw [IntKind.wrap_i64]; omega
  have hwm3 : IntKind.i64.wrap (m : Int) = (m : Int) := by rw [IntKind.wrap_i64]; omega
  have hm1 : (m : Int) < (m : Int) + 1 := by omega
  have hm2 : (0 : Int) < (m : Int) + 1 := by omega
  have HI := Lib.hid hi
  have HI' := Lib.hid hi'
  have HXP := Lib.hid hxf.1
  have HZP := Lib.hid hzf.1
  have HXF := Lib.hid hxf.2
  have HZF := Lib.hid hzf.2
  have TF := Lib.hid tf
  have hf0 := field_Span0
  have hf1 := field_Span1
  clear h h3 hB hi hi' hx hz hxf hzf q1 q2 q3 q4 tf rf bf hen hb0
  go_enter Tryz.func80, Tryz.ntmps80
  go_wp2_with fail
  go_region_held3 (fun w' => Later wb w') (exact inferInstance) (first
    | (go_at_call 71; refine (spec_l12Start H.out (hwb0.trans inferInstance) TF.out HI.out inferInstance HXP.out HXF.out).mono ?_; rintro e w4 ⟨rfl, L4⟩; have X4 := Later.trans (w := wb) inferInstance L4)
    | (go_at_call 70; refine (spec_l12End H.out (hwb0.trans inferInstance) TF.out HI'.out inferInstance HZP.out HZF.out).mono ?_; rintro e w5 ⟨rfl, L5⟩; have X5 := Later.trans (w := wb) inferInstance L5))
  clear hw1 hw2 hw3 hwm hwm2 hwm3
  go_wp2
  go_ret
  exact ⟨ret_int HE.out.symm, hww.trans inferInstance⟩
end Go.Proofs.YthibhehnakikpaaGreat
