/-
  Timetables: lines, stops and times of trips.
-/
import Derived.Test.YtaopadffabbjiaaTimeP
import Derived.Test.YtaopadffabbjiaaNetD
namespace Go.Proofs.Ytaopadffabbjiaa
open Go Go.RowKit
set_option linter.unusedVariables false
set_option maxRecDepth 100000
/-- The call returned a line. -/
def RetLine (x : Line) (w0 w : World) (e : Ending) (w' : World) : Prop := ∃ A0 n0 c0 A1 n1 c1, e = .returned (.agg #[.string x.Name, .slice A0 n0 c0, .slice A1 n1 c1]) ∧ LineAt w0 A0 n0 c0 A1 n1 c1 x ∧ Later w w'
/-- The call returned a slice that was there, and reads as l. -/
def RetOld {α : Type} (sz : Nat) (r : Rep α) (l : List α) (w0 w : World) (e : Ending) (w' : World) : Prop := ∃ A n c, e = .returned (.slice A n c) ∧ Sl sz r w0 A n c l ∧ Later w w'
theorem shift {w0 wb : World} {p : Addr} {v : Option Value} (h : Later w0 wb) (hc : ∀ W [Later w0 W], W.cell? p = v) : ∀ W [Later wb W], W.cell? p = v := fun W hW => @hc W (h.trans hW)
theorem impl_total {w0 w : World} {A : Option Addr} {n c : Nat} {l : List Int} (h : Ints w0 A n c l) (hl : Later w0 w) (hb : ∀ x, x ∈ l → 0 ≤ x ∧ x ≤ 1000000) (hn : n ≤ 1048576) :
    Calls Try.prog 142 #[.slice A n c] w (Ret (.int .i64 (sumI l)) w) := by
  replace h := h.later hl
  have Hl := Lib.hid h.len
  have Hb := Lib.hid hb
  clear hb
  go_enter Try.func142, Try.ntmps142
  go_wp2
  go_loopw [3, 8] (fun s i wr => ∃ (k : Nat) (q : Int), k ≤ n ∧ i = .int .i64 k ∧ s = .int .i64 q ∧ 0 ≤ q ∧ q ≤ 1000000 * (k : Int) ∧ Hid (q + sumI (l.drop k) = sumI l) ∧ Later w wr) (fun _ i _ => n - (intOf i).toNat)
  case atStart => exact ⟨0, 0, by omega, rfl, rfl, by omega, by omega, by show _ = _; simp, inferInstance⟩
  case round =>
    obtain ⟨k, q, hk, rfl, rfl, hq0, hq1, HF, hX⟩ := hrel
    by_cases hlt : k < n
    · obtain ⟨b, o, x, rfl, hx, hc, hi⟩ := Ints.at_ h hlt
      have HF2 : Hid (q + x + sumI (l.drop (k + 1)) = sumI l) := by
        have h3 := HF.out
        rw [drop_at hx.out] at h3
        simp only [sumI] at h3
        show _ = _; omega
      have hxb := Hb.out x (List.mem_of_getElem? hx.out)
      have hx0 := hxb.1
      have hx1 := hxb.2
      clear HF hxb
      go_wp2
      go_roundw
      case rel => exact ⟨k + 1, q + x, by omega, by go_num, rfl, by omega, by omega, HF2, inferInstance⟩
      case measure => simp [intOf]; omega
    · have HF2 : Hid (q = sumI l) := by
        have h3 := HF.out
        rw [List.drop_eq_nil_of_le (by have := Hl.out; omega)] at h3
        exact (by simpa [sumI] using h3 : q = sumI l)
      clear HF
      go_wp2
      go_ret
      exact ⟨ret_int HF2.out, inferInstance⟩
theorem spec_l2Run {w0 w : World} {qA0 : Option Addr} {qn0 qc0 : Nat} {qA1 : Option Addr} {qn1 qc1 : Nat} {x : Line} (h : LineAt w0 qA0 qn0 qc0 qA1 qn1 qc1 x) (hl : Later w0 w) (hb : ∀ r, r ∈ x.Runs → 1 ≤ r ∧ r ≤ 60) (v : Int) (hv0 : 0 ≤ v) (hv1 : v ≤ x.Runs.length) (hn : qn1 ≤ 1048576) :
    Calls Try.prog 109 #[.agg #[.string x.Name, .slice qA0 qn0 qc0, .slice qA1 qn1 qc1], .int .i64 0, .int .i64 v] w (Ret (.int .i64 (runSum x v.toNat)) w) := by
  replace h := h.later hl
  have hR := h.l_Runs
  obtain ⟨m, rfl⟩ := Int.eq_ofNat_of_zero_le hv0
  rw [Int.toNat_natCast]
  have hm : m ≤ qn1 := by rw [hR.len]; omega
  have Hb := Lib.hid hb
  clear hb hv0 hv1
  have HB0 : ∀ W [Later (w.alloc (.cells #[.string x.Name, .slice qA0 qn0 qc0, .slice qA1 qn1 qc1] 109)) W] (j : Nat), W.cell? ⟨w.heap.size, j, none⟩ = #[.string x.Name, .slice qA0 qn0 qc0, .slice qA1 qn1 qc1][j]? := Later.boxes (t := 109) (fr := (0, 0)) (heap_new (by simp; try omega)); obtain ⟨wb, hwb⟩ : ∃ wb : World, wb = (w.alloc (.cells #[.string x.Name, .slice qA0 qn0 qc0, .slice qA1 qn1 qc1] 109)) := ⟨_, rfl⟩; haveI hbW : Later wb (w.alloc (.cells #[.string x.Name, .slice qA0 qn0 qc0, .slice qA1 qn1 qc1] 109)) := (by rw [hwb]; exact Later.rfl_); haveI hww : Later w wb := (by rw [hwb]; infer_instance); rw [← hwb] at HB0; have hbE := Lib.hid (congrArg (fun x : World => x.heap.size) hwb); clear hwb
  go_enter Try.func109, Try.ntmps109
  go_wp2
  go_loopw [7, 8] (fun s i wr => ∃ (k : Nat) (q : Int), k ≤ m ∧ i = .int .i64 k ∧ s = .int .i64 q ∧ 0 ≤ q ∧ q ≤ 60 * (k : Int) ∧ Hid (q = runSum x k) ∧ Later wb wr) (fun _ i _ => m - (intOf i).toNat)
  case atStart => exact ⟨0, 0, by omega, rfl, rfl, by omega, by omega, rfl, inferInstance⟩
  case round =>
    obtain ⟨k, q, hk, rfl, rfl, hq0, hq1, HF, hX⟩ := hrel
    have hU := Later.trans (w := w) inferInstance hX
    by_cases hlt : k < m
    · obtain ⟨b, o, y, rfl, hy, hc, hi⟩ := Ints.at_ hR (show k < qn1 by omega)
      have HF2 : Hid (q + y = runSum x (k + 1)) := by show _ = _; rw [runSum_succ hy.out, HF.out]
      have hxb := Hb.out y (List.mem_of_getElem? hy.out)
      have hx0 := hxb.1
      have hx1 := hxb.2
      clear HF hxb
      go_wp2
      go_roundw
      case rel => exact ⟨k + 1, q + y, by omega, by go_num, rfl, by omega, by omega, HF2, inferInstance⟩
      case measure => simp [intOf]; omega
    · obtain rfl : k = m := by omega
      go_wp2
      go_ret
      exact ⟨ret_int HF.out, inferInstance⟩
theorem impl_IsValidTime (v : Int) (w : World) : Calls Try.prog 64 #[.int .i64 v] w (RetS (.bool (okTime v)) w) := by
  go_enter Try.func64, Try.ntmps64
  go_wp2_with (go_at_call 112; refine (impl_within _ _ _ _).mono ?_; rintro e w' ⟨rfl, rfl⟩)
  go_ret
  exact ⟨rfl, rfl⟩
theorem spec_l4Time (v : Int) (w : World) : Calls Try.prog 56 #[.int .i64 v] w (RetS (.bool (okTime v)) w) := by
  go_enter Try.func56, Try.ntmps56
  go_wp2_with (go_at_call 55; refine (spec_l1In _ _ _ _).mono ?_; rintro e w' ⟨rfl, rfl⟩)
  go_ret
  exact ⟨rfl, rfl⟩
theorem impl_endOf {w0 w : World} {sA0 : Option Addr} {sn0 sc0 : Nat} {sA1 : Option Addr} {sn1 sc1 : Nat} {sA2 : Option Addr} {sn2 sc2 : Nat} {t : Timetable} (h : TimetableAt w0 sA0 sn0 sc0 sA1 sn1 sc1 sA2 sn2 sc2 t) (hl : Later w0 w) (nf : NetFacts t.Network) (x : Trip) (hx0 : 0 ≤ x.Line) (hx1 : x.Line < t.Network.Lines.length) (hs0 : 0 ≤ x.Start) (hs1 : x.Start ≤ 1799) :
    Calls Try.prog 137 #[.agg #[.slice sA0 sn0 sc0, .slice sA1 sn1 sc1, .slice sA2 sn2 sc2], .agg #[.int .i64 x.Id, .int .i64 x.Line, .int .i64 x.Start]] w (Ret (.int .i64 (endAt t x)) w) := by
  replace h := h.later hl
  have hP := h.l_Network_Lines
  obtain ⟨id, ln, st⟩ := x
  simp only at hx0 hx1 hs0 hs1 ⊢
  obtain ⟨m, rfl⟩ := Int.eq_ofNat_of_zero_le hx0
  have hm : m < sn1 := by rw [hP.len]; omega
  have hm5 : sn1 ≤ 9223372036854775807 := hP.le
  clear hx0 hx1
  have HB0 : ∀ W [Later ((w.alloc (.cells #[.slice sA0 sn0 sc0, .slice sA1 sn1 sc1, .slice sA2 sn2 sc2] 41)).alloc (.cells #[.int .i64 id, .int .i64 (m:Int), .int .i64 st] 99)) W] (j : Nat), W.cell? ⟨w.heap.size, j, none⟩ = #[.slice sA0 sn0 sc0, .slice sA1 sn1 sc1, .slice sA2 sn2 sc2][j]? := Later.boxes (t := 41) (fr := (0, 0)) ((heap_old (by simp; try omega)).trans (heap_new (by simp; try omega))); have HB1 : ∀ W [Later ((w.alloc (.cells #[.slice sA0 sn0 sc0, .slice sA1 sn1 sc1, .slice sA2 sn2 sc2] 41)).alloc (.cells #[.int .i64 id, .int .i64 (m:Int), .int .i64 st] 99)) W] (j : Nat), W.cell? ⟨w.heap.size + 1, j, none⟩ = #[.int .i64 id, .int .i64 (m:Int), .int .i64 st][j]? := Later.boxes (t := 99) (fr := (0, 0)) (heap_new (by simp; try omega)); obtain ⟨wb, hwb⟩ : ∃ wb : World, wb = ((w.alloc (.cells #[.slice sA0 sn0 sc0, .slice sA1 sn1 sc1, .slice sA2 sn2 sc2] 41)).alloc (.cells #[.int .i64 id, .int .i64 (m:Int), .int .i64 st] 99)) := ⟨_, rfl⟩; haveI hbW : Later wb ((w.alloc (.cells #[.slice sA0 sn0 sc0, .slice sA1 sn1 sc1, .slice sA2 sn2 sc2] 41)).alloc (.cells #[.int .i64 id, .int .i64 (m:Int), .int .i64 st] 99)) := (by rw [hwb]; exact Later.rfl_); haveI hww : Later w wb := (by rw [hwb]; infer_instance); rw [← hwb] at HB0; rw [← hwb] at HB1; have hbE := Lib.hid (congrArg (fun x : World => x.heap.size) hwb); clear hwb
  replace hP := hP.later hww
  obtain ⟨b, o, xA0, xn0, xc0, xA1, xn1, xc1, y, rfl, hy, hc0, hc1, hc2, hi⟩ := Lines.at_ hP hm
  have lf := nf.line m y hy.out
  have hsb := runSum_bd lf y.Runs.length
  rw [runSum_all (Nat.le_refl _)] at hsb
  have hR := hi.l_Runs
  have hRn : xn1 ≤ 1048576 := by rw [hR.len]; have := lf.runs; have := lf.stops; omega
  have HR := Lib.hid lf.run
  have HE : Hid (endAt t ⟨id, ↑m, st⟩ = st + sumI y.Runs) := by show _ = _; unfold endAt; rw [lineAtT_of hy.out]
  have h1 := hsb.1
  have h2 := hsb.2
  have hwr : IntKind.i64.wrap (st + sumI y.Runs) = st + sumI y.Runs := by rw [IntKind.wrap_i64]; omega
  clear hsb lf hi hy
  go_enter Try.func137, Try.ntmps137
  go_wp2_with fail
  go_region_held3 (fun w' => Later wb w') (exact inferInstance) ((go_at_call 142; refine (impl_total hR inferInstance (fun r hr => by have := HR.out r hr; omega) hRn).mono ?_; rintro e w1 ⟨rfl, L1⟩; have hX1 := Later.trans (w := wb) inferInstance L1))
  go_wp2
  go_ret
  exact ⟨ret_int HE.out.symm, hww.trans inferInstance⟩

theorem impl_lineOf {w0 w : World} {sA0 : Option Addr} {sn0 sc0 : Nat} {sA1 : Option Addr} {sn1 sc1 : Nat} {sA2 : Option Addr} {sn2 sc2 : Nat} {t : Timetable} (h : TimetableAt w0 sA0 sn0 sc0 sA1 sn1 sc1 sA2 sn2 sc2 t) (hl : Later w0 w) (x : Trip) (hx0 : 0 ≤ x.Line) (hx1 : x.Line < t.Network.Lines.length) :
    Calls Try.prog 66 #[.agg #[.slice sA0 sn0 sc0, .slice sA1 sn1 sc1, .slice sA2 sn2 sc2], .agg #[.int .i64 x.Id, .int .i64 x.Line, .int .i64 x.Start]] w (RetLine (lineAtT t x.Line) w0 w) := by
  have hP0 := h.l_Network_Lines
  obtain ⟨id, ln, st⟩ := x
  simp only at hx0 hx1 ⊢
  obtain ⟨m, rfl⟩ := Int.eq_ofNat_of_zero_le hx0
  have hm : m < sn1 := by rw [hP0.len]; omega
  have hm5 : sn1 ≤ 9223372036854775807 := hP0.le
  clear hx0 hx1
  have HB0 : ∀ W [Later ((w.alloc (.cells #[.slice sA0 sn0 sc0, .slice sA1 sn1 sc1, .slice sA2 sn2 sc2] 41)).alloc (.cells #[.int .i64 id, .int .i64 (m:Int), .int .i64 st] 99)) W] (j : Nat), W.cell? ⟨w.heap.size, j, none⟩ = #[.slice sA0 sn0 sc0, .slice sA1 sn1 sc1, .slice sA2 sn2 sc2][j]? := Later.boxes (t := 41) (fr := (0, 0)) ((heap_old (by simp; try omega)).trans (heap_new (by simp; try omega))); have HB1 : ∀ W [Later ((w.alloc (.cells #[.slice sA0 sn0 sc0, .slice sA1 sn1 sc1, .slice sA2 sn2 sc2] 41)).alloc (.cells #[.int .i64 id, .int .i64 (m:Int), .int .i64 st] 99)) W] (j : Nat), W.cell? ⟨w.heap.size + 1, j, none⟩ = #[.int .i64 id, .int .i64 (m:Int), .int .i64 st][j]? := Later.boxes (t := 99) (fr := (0, 0)) (heap_new (by simp; try omega)); obtain ⟨wb, hwb⟩ : ∃ wb : World, wb = ((w.alloc (.cells #[.slice sA0 sn0 sc0, .slice sA1 sn1 sc1, .slice sA2 sn2 sc2] 41)).alloc (.cells #[.int .i64 id, .int .i64 (m:Int), .int .i64 st] 99)) := ⟨_, rfl⟩; haveI hbW : Later wb ((w.alloc (.cells #[.slice sA0 sn0 sc0, .slice sA1 sn1 sc1, .slice sA2 sn2 sc2] 41)).alloc (.cells #[.int .i64 id, .int .i64 (m:Int), .int .i64 st] 99)) := (by rw [hwb]; exact Later.rfl_); haveI hww : Later w wb := (by rw [hwb]; infer_instance); rw [← hwb] at HB0; rw [← hwb] at HB1; have hbE := Lib.hid (congrArg (fun x : World => x.heap.size) hwb); clear hwb
  have hwb0 := hl.trans hww
  obtain ⟨b, o, xA0, xn0, xc0, xA1, xn1, xc1, y, rfl, hy, hc0, hc1, hc2, hi⟩ := Lines.at_ hP0 hm
  replace hc0 := shift hwb0 hc0
  replace hc1 := shift hwb0 hc1
  replace hc2 := shift hwb0 hc2
  rw [lineAtT_of hy.out]
  have hI := Lib.hid hi
  clear hi hy
  go_enter Try.func66, Try.ntmps66
  go_wp2
  refine bodyPost_ret (v := .agg #[.string y.Name, .slice xA0 xn0 xc0, .slice xA1 xn1 xc1]) (by simp [results, Try.results66, go_sem]) rfl ?_
  exact ⟨_, _, _, _, _, _, rfl, hI.out, hww.trans inferInstance⟩
end Go.Proofs.Ytaopadffabbjiaa
