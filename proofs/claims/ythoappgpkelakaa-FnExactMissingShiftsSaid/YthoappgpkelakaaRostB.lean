/-
  Rosters: the minutes of drivers.
-/
import Derived.Test.YthoappgpkelakaaRost
namespace Go.Proofs.Ythoappgpkelakaa
open Go Go.RowKit
set_option linter.unusedVariables false
def rowOf (r : Roster) (d : Nat) : List Int := r.Plan.getD d []
def cellLen (r : Roster) (s : Int) : Int := if s < 0 then 0 else (r.Shifts.getD s.toNat ⟨0, 0⟩).To - (r.Shifts.getD s.toNat ⟨0, 0⟩).From
def lenOn (r : Roster) (d k : Nat) : Int := cellLen r ((rowOf r d).getD k 0)
theorem rowOf_eq {r : Roster} {d : Nat} {x : List Int} (h : r.Plan[d]? = some x) : rowOf r d = x := by simp [rowOf, List.getD, h]
/-- What validity says, for use. -/
structure RosterFacts (r : Roster) : Prop where
  shifts : 1 ≤ r.Shifts.length ∧ r.Shifts.length ≤ 8
  span : ∀ (k : Nat) (x : Span), r.Shifts[k]? = some x → 0 ≤ x.From ∧ x.From ≤ x.To ∧ x.To ≤ 1799
  plan : 1 ≤ r.Plan.length ∧ r.Plan.length ≤ 6
  days : 1 ≤ days r ∧ days r ≤ 14
  row : ∀ (d : Nat) (x : List Int), r.Plan[d]? = some x → x.length = (r.Plan.headD []).length ∧ ∀ (k : Nat) (s : Int), x[k]? = some s → -1 ≤ s ∧ s < r.Shifts.length
  rest : 0 ≤ r.Rules.MinRest ∧ r.Rules.MinRest ≤ 1440
  maxRow : 1 ≤ r.Rules.MaxRow ∧ r.Rules.MaxRow ≤ 14
  maxWeek : 0 ≤ r.Rules.MaxWeek ∧ r.Rules.MaxWeek ≤ 10080
theorem rosterFacts {r : Roster} (h : okRoster r = true) : RosterFacts r := by
  simp only [okRoster, Bool.and_eq_true, inB_t] at h
  obtain ⟨⟨⟨⟨⟨⟨⟨h1, h2⟩, h3⟩, h4⟩, h5⟩, h6⟩, h7⟩, h8⟩ := h
  refine ⟨by omega, fun k x hx => ?_, by omega, by omega, fun d x hx => ?_, h6, h7, h8⟩
  · have := List.all_eq_true.1 h3 x (List.mem_of_getElem? hx)
    simp only [okSpan, Bool.and_eq_true, inB_t, decide_eq_true_eq] at this
    omega
  · have := List.all_eq_true.1 h5 x (List.mem_of_getElem? hx)
    simp only [okRow, Bool.and_eq_true, decide_eq_true_eq] at this
    refine ⟨this.1, fun k s hs => ?_⟩
    have := inB_t.1 (List.all_eq_true.1 this.2 s (List.mem_of_getElem? hs))
    omega
theorem cellLen_bd {r : Roster} (h : RosterFacts r) {s : Int} (hs : s < r.Shifts.length) : 0 ≤ cellLen r s ∧ cellLen r s ≤ 1799 := by
  unfold cellLen
  split
  · omega
  · have hk : s.toNat < r.Shifts.length := by omega
    have := h.span s.toNat _ (List.getElem?_eq_getElem hk)
    have e : r.Shifts.getD s.toNat ⟨0, 0⟩ = r.Shifts[s.toNat] := by simp [List.getD, hk]
    rw [e]; omega
theorem impl_minutesOn {w0 w : World} {sA0 : Option Addr} {sn0 sc0 : Nat} {sA1 : Option Addr} {sn1 sc1 : Nat} {r : Roster} (h : RosterAt w0 sA0 sn0 sc0 sA1 sn1 sc1 r) (hl : Later w0 w) (ok : RosterFacts r) {d k : Nat} (hd : d < r.Plan.length) (hk : k < days r) :
    Calls Try.prog 87 #[.agg #[.slice sA0 sn0 sc0, .int .i64 r.Rules.MinRest, .int .i64 r.Rules.MaxRow, .int .i64 r.Rules.MaxWeek, .slice sA1 sn1 sc1], .int .i64 d, .int .i64 k] w (Ret (.int .i64 (lenOn r d k)) w) := by
  replace h := h.later hl
  have hS := h.l_Shifts
  have hP := h.l_Plan
  have hm := hP.le
  have hn := hS.le
  have hdn : d < sn1 := by rw [hP.len]; exact hd
  obtain ⟨b, o, A1, n1, c1, x, rfl, hx, hc0, hi⟩ := Sl.row_ hP hdn
  have hxr := ok.row d x hx.out
  have hkn : k < n1 := by rw [hi.len, hxr.1]; exact hk
  have hn1 := hi.le
  obtain ⟨b1, o1, s, rfl, hs, hc1, hsi⟩ := Ints.at_ hi hkn
  have hsb := hxr.2 k s hs.out
  have HL : Hid (lenOn r d k = cellLen r s) := by
    show _ = _
    unfold lenOn
    rw [rowOf_eq hx.out]
    simp [List.getD, hs.out]
  have hsn : s < (sn0 : Int) := by rw [hS.len]; exact hsb.2
  clear hxr
  by_cases hneg : s < 0
  · have HL2 : Hid (lenOn r d k = 0) := by show _ = _; rw [HL.out]; simp [cellLen, hneg]
    clear hi hx hs hsb hsi ok
    go_enter Try.func87, Try.ntmps87
    go_wp2
    skip
    go_ret
    exact ⟨ret_int HL2.out.symm, inferInstance⟩
  · obtain ⟨m, rfl⟩ := Int.eq_ofNat_of_zero_le (show 0 ≤ s by omega)
    have hmn : m < sn0 := by omega
    obtain ⟨b2, o2, y, rfl, hy, hc2, hc3, hyi⟩ := Spans.at_ hS hmn
    have hyb := ok.span m y hy.out
    have y1 := hyb.1
    have y2 := hyb.2.1
    have y3 := hyb.2.2
    have HL2 : Hid (lenOn r d k = y.To - y.From) := by show _ = _; rw [HL.out]; unfold cellLen; rw [if_neg hneg]; simp [List.getD, hy.out]
    clear hi hx hs hsb hsi ok hyi hyb hneg
    go_enter Try.func87, Try.ntmps87
    go_wp2
    go_quiet (fail)
    go_wp2
    go_ret
    exact ⟨ret_int HL2.out.symm, inferInstance⟩
theorem spec_l14Length {w0 w : World} {sA0 : Option Addr} {sn0 sc0 : Nat} {sA1 : Option Addr} {sn1 sc1 : Nat} {r : Roster} (h : RosterAt w0 sA0 sn0 sc0 sA1 sn1 sc1 r) (hl : Later w0 w) (ok : RosterFacts r) {d k : Nat} (hd : d < r.Plan.length) (hk : k < days r) :
    Calls Try.prog 86 #[.agg #[.slice sA0 sn0 sc0, .int .i64 r.Rules.MinRest, .int .i64 r.Rules.MaxRow, .int .i64 r.Rules.MaxWeek, .slice sA1 sn1 sc1], .int .i64 d, .int .i64 k] w (Ret (.int .i64 (lenOn r d k)) w) := by
  replace h := h.later hl
  have hS := h.l_Shifts
  have hP := h.l_Plan
  have hm := hP.le
  have hn := hS.le
  have hdn : d < sn1 := by rw [hP.len]; exact hd
  obtain ⟨b, o, A1, n1, c1, x, rfl, hx, hc0, hi⟩ := Sl.row_ hP hdn
  have hxr := ok.row d x hx.out
  have hkn : k < n1 := by rw [hi.len, hxr.1]; exact hk
  have hn1 := hi.le
  obtain ⟨b1, o1, s, rfl, hs, hc1, hsi⟩ := Ints.at_ hi hkn
  have hsb := hxr.2 k s hs.out
  have HL : Hid (lenOn r d k = cellLen r s) := by
    show _ = _
    unfold lenOn
    rw [rowOf_eq hx.out]
    simp [List.getD, hs.out]
  have hsn : s < (sn0 : Int) := by rw [hS.len]; exact hsb.2
  clear hxr
  by_cases hneg : s < 0
  · have HL2 : Hid (lenOn r d k = 0) := by show _ = _; rw [HL.out]; simp [cellLen, hneg]
    clear hi hx hs hsb hsi ok
    go_enter Try.func86, Try.ntmps86
    go_wp2
    skip
    go_ret
    exact ⟨ret_int HL2.out.symm, inferInstance⟩
  · obtain ⟨m, rfl⟩ := Int.eq_ofNat_of_zero_le (show 0 ≤ s by omega)
    have hmn : m < sn0 := by omega
    obtain ⟨b2, o2, y, rfl, hy, hc2, hc3, hyi⟩ := Spans.at_ hS hmn
    have hyb := ok.span m y hy.out
    have y1 := hyb.1
    have y2 := hyb.2.1
    have y3 := hyb.2.2
    have HL2 : Hid (lenOn r d k = y.To - y.From) := by show _ = _; rw [HL.out]; unfold cellLen; rw [if_neg hneg]; simp [List.getD, hy.out]
    clear hi hx hs hsb hsi ok hyi hyb hneg
    go_enter Try.func86, Try.ntmps86
    go_wp2
    go_quiet (fail)
    go_wp2
    go_ret
    exact ⟨ret_int HL2.out.symm, inferInstance⟩
theorem impl_isDriver {w0 w : World} {sA0 : Option Addr} {sn0 sc0 : Nat} {sA1 : Option Addr} {sn1 sc1 : Nat} {r : Roster} (h : RosterAt w0 sA0 sn0 sc0 sA1 sn1 sc1 r) (hl : Later w0 w) (d : Int) :
    Calls Try.prog 58 #[.agg #[.slice sA0 sn0 sc0, .int .i64 r.Rules.MinRest, .int .i64 r.Rules.MaxRow, .int .i64 r.Rules.MaxWeek, .slice sA1 sn1 sc1], .int .i64 d] w (Ret (.bool (inB d 0 ((r.Plan.length : Int) - 1))) w) := by
  have hlen := Lib.hid h.l_Plan.len
  have hm := h.l_Plan.le
  go_enter Try.func58, Try.ntmps58
  go_wp2
  all_goals
    go_ret
    exact ⟨ret_bool (by rw [← hlen.out]; unfold inB; rw [Bool.eq_iff_iff]; simp; try omega), inferInstance⟩
theorem spec_l14Asked {w0 w : World} {sA0 : Option Addr} {sn0 sc0 : Nat} {sA1 : Option Addr} {sn1 sc1 : Nat} {r : Roster} (h : RosterAt w0 sA0 sn0 sc0 sA1 sn1 sc1 r) (hl : Later w0 w) (d : Int) :
    Calls Try.prog 56 #[.agg #[.slice sA0 sn0 sc0, .int .i64 r.Rules.MinRest, .int .i64 r.Rules.MaxRow, .int .i64 r.Rules.MaxWeek, .slice sA1 sn1 sc1], .int .i64 d] w (Ret (.bool (okRoster r && inB d 0 ((r.Plan.length : Int) - 1))) w) := by
  have hlen := Lib.hid h.l_Plan.len
  have hm := h.l_Plan.le
  have HB0 : ∀ W [Later (w.alloc (.cells #[.slice sA0 sn0 sc0, .int .i64 r.Rules.MinRest, .int .i64 r.Rules.MaxRow, .int .i64 r.Rules.MaxWeek, .slice sA1 sn1 sc1] 45)) W] (j : Nat), W.cell? ⟨w.heap.size, j, none⟩ = #[.slice sA0 sn0 sc0, .int .i64 r.Rules.MinRest, .int .i64 r.Rules.MaxRow, .int .i64 r.Rules.MaxWeek, .slice sA1 sn1 sc1][j]? := Later.boxes (t := 45) (fr := (0, 0)) (heap_new (by simp; try omega))
  go_enter Try.func56, Try.ntmps56
  go_wp2_with first
    | (go_at_call 48; refine (spec_l14Good h (Later.trans hl inferInstance)).mono ?_; rintro e w1 ⟨rfl, hL⟩; have hX := Later.trans (w := (w.alloc (.cells #[.slice sA0 sn0 sc0, .int .i64 r.Rules.MinRest, .int .i64 r.Rules.MaxRow, .int .i64 r.Rules.MaxWeek, .slice sA1 sn1 sc1] 45))) inferInstance hL; have hU := Later.trans (w := w) inferInstance hL)
    | (go_at_call 44; refine (spec_l1In _ _ _ _).mono ?_; rintro e w' ⟨rfl, rfl⟩)
  all_goals
    go_ret
    exact ⟨ret_bool (by rw [← hlen.out]; simp_all), inferInstance⟩
def rowSum (r : Roster) : List Int → Int
  | [] => 0
  | s :: l => cellLen r s + rowSum r l
def worked (r : Roster) (d : Nat) : Int := rowSum r (rowOf r d)
theorem rowSum_bd {r : Roster} (h : RosterFacts r) (l : List Int) (hl : ∀ s, s ∈ l → s < r.Shifts.length) : 0 ≤ rowSum r l ∧ rowSum r l ≤ 1799 * l.length := by
  induction l with
  | nil => simp [rowSum]
  | cons s l ih =>
    have h1 := cellLen_bd h (hl s (by simp))
    have h2 := ih fun x hx => hl x (by simp [hx])
    simp only [rowSum, List.length_cons]
    omega
theorem RosterFacts.mem {r : Roster} (h : RosterFacts r) {d : Nat} {x : List Int} (hx : r.Plan[d]? = some x) : ∀ s, s ∈ x → s < r.Shifts.length := by
  intro s hs
  obtain ⟨k, hk⟩ := List.getElem?_of_mem hs
  exact ((h.row d x hx).2 k s hk).2
theorem lenOn_at {r : Roster} {d k : Nat} {x : List Int} {s : Int} (hx : r.Plan[d]? = some x) (hs : x[k]? = some s) : lenOn r d k = cellLen r s := by
  unfold lenOn
  rw [rowOf_eq hx]
  simp [List.getD, hs]
theorem spec_l14Worked {w0 w : World} {sA0 : Option Addr} {sn0 sc0 : Nat} {sA1 : Option Addr} {sn1 sc1 : Nat} {r : Roster} (h : RosterAt w0 sA0 sn0 sc0 sA1 sn1 sc1 r) (hl : Later w0 w) (ok : RosterFacts r) {d : Nat} (hd : d < r.Plan.length) :
    Calls Try.prog 60 #[.agg #[.slice sA0 sn0 sc0, .int .i64 r.Rules.MinRest, .int .i64 r.Rules.MaxRow, .int .i64 r.Rules.MaxWeek, .slice sA1 sn1 sc1], .int .i64 d] w (Ret (.int .i64 (worked r d)) w) := by
  replace h := h.later hl
  have hP := h.l_Plan
  have hm := hP.le
  have hdn : d < sn1 := by rw [hP.len]; exact hd
  obtain ⟨b, o, A1, n1, c1, x, rfl, hx, hc0, hi⟩ := Sl.row_ hP hdn
  have hn1 := hi.le
  have Hi := Lib.hid hi
  have Ok := Lib.hid ok
  have hxl := ok.row d x hx.out
  have hxd : Hid (n1 = days r) := by show _ = _; rw [hi.len, hxl.1]; rfl
  have hn14 : n1 ≤ 14 := by have := ok.days; have := hxd.out; omega
  have HM := Lib.hid (ok.mem hx.out)
  have HW : Hid (worked r d = rowSum r x) := by show _ = _; unfold worked; rw [rowOf_eq hx.out]
  have HB := Lib.hid (rowSum_bd ok x HM.out)
  have Hln := Lib.hid hi.len
  clear hi ok hxl
  have HB0 : ∀ W [Later (w.alloc (.cells #[.slice sA0 sn0 sc0, .int .i64 r.Rules.MinRest, .int .i64 r.Rules.MaxRow, .int .i64 r.Rules.MaxWeek, .slice (some ⟨b, o, none⟩) sn1 sc1] 45)) W] (j : Nat), W.cell? ⟨w.heap.size, j, none⟩ = #[.slice sA0 sn0 sc0, .int .i64 r.Rules.MinRest, .int .i64 r.Rules.MaxRow, .int .i64 r.Rules.MaxWeek, .slice (some ⟨b, o, none⟩) sn1 sc1][j]? := Later.boxes (t := 45) (fr := (0, 0)) (heap_new (by simp; try omega))
  go_enter Try.func60, Try.ntmps60
  go_wp2
  go_loopw [5, 6] (fun sm i wr => ∃ (k : Nat) (q : Int), k ≤ n1 ∧ i = .int .i64 k ∧ sm = .int .i64 q ∧ 0 ≤ q ∧ q ≤ 1799 * k ∧ Hid (q + rowSum r (x.drop k) = rowSum r x) ∧ Later (w.alloc (.cells #[.slice sA0 sn0 sc0, .int .i64 r.Rules.MinRest, .int .i64 r.Rules.MaxRow, .int .i64 r.Rules.MaxWeek, .slice (some ⟨b, o, none⟩) sn1 sc1] 45)) wr) (fun _ i _ => n1 - (intOf i).toNat)
  case atStart => exact ⟨0, 0, by omega, rfl, rfl, by omega, by omega, by show _ = _; simp, inferInstance⟩
  case round =>
    obtain ⟨k, q, hk, rfl, rfl, hq0, hq1, HF, hX⟩ := hrel
    have hU := Later.trans (w := w) inferInstance hX
    by_cases hlt : k < n1
    · have hkx : k < x.length := by have := Hln.out; omega
      have hs := List.getElem?_eq_getElem hkx
      generalize x[k] = s at hs
      have hbd := cellLen_bd Ok.out (HM.out s (List.mem_of_getElem? hs))
      have hbd1 : 0 ≤ lenOn r d k := by rw [lenOn_at hx.out hs]; exact hbd.1
      have hbd2 : lenOn r d k ≤ 1799 := by rw [lenOn_at hx.out hs]; exact hbd.2
      have HF1 : Hid (q + lenOn r d k + rowSum r (x.drop (k + 1)) = rowSum r x) := by
        show _ = _
        rw [← HF.out, drop_at hs, lenOn_at hx.out hs]
        simp only [rowSum]
        omega
      clear hs hbd
      go_wp2_with (go_at_call 86; refine (spec_l14Length h inferInstance Ok.out hd (by have := hxd.out; omega)).mono ?_; rintro e w1 ⟨rfl, hL⟩; have hV := Later.trans (w := wr) inferInstance hL; have hY := hX.trans hV; have hU1 := hU.trans hV)
      go_roundw
      case rel => exact ⟨k + 1, q + lenOn r d k, by omega, by go_num, rfl, by omega, by omega, HF1, inferInstance⟩
      case measure => simp [intOf]; omega
    · have HE : Hid (q = worked r d) := by
        show _ = _
        have h3 := HF.out
        rw [List.drop_eq_nil_of_le (by have := Hln.out; omega)] at h3
        rw [HW.out]; simpa [rowSum] using h3
      clear HF
      go_wp2
      go_ret
      exact ⟨ret_int HE.out, inferInstance⟩
theorem impl_workedMinutes {w0 w : World} {sA0 : Option Addr} {sn0 sc0 : Nat} {sA1 : Option Addr} {sn1 sc1 : Nat} {r : Roster} (h : RosterAt w0 sA0 sn0 sc0 sA1 sn1 sc1 r) (hl : Later w0 w) (ok : RosterFacts r) {d : Nat} (hd : d < r.Plan.length) :
    Calls Try.prog 61 #[.agg #[.slice sA0 sn0 sc0, .int .i64 r.Rules.MinRest, .int .i64 r.Rules.MaxRow, .int .i64 r.Rules.MaxWeek, .slice sA1 sn1 sc1], .int .i64 d] w (Ret (.int .i64 (worked r d)) w) := by
  replace h := h.later hl
  have hP := h.l_Plan
  have hm := hP.le
  have hdn : d < sn1 := by rw [hP.len]; exact hd
  obtain ⟨b, o, A1, n1, c1, x, rfl, hx, hc0, hi⟩ := Sl.row_ hP hdn
  have hn1 := hi.le
  have Hi := Lib.hid hi
  have Ok := Lib.hid ok
  have hxl := ok.row d x hx.out
  have hxd : Hid (n1 = days r) := by show _ = _; rw [hi.len, hxl.1]; rfl
  have hn14 : n1 ≤ 14 := by have := ok.days; have := hxd.out; omega
  have HM := Lib.hid (ok.mem hx.out)
  have HW : Hid (worked r d = rowSum r x) := by show _ = _; unfold worked; rw [rowOf_eq hx.out]
  have HB := Lib.hid (rowSum_bd ok x HM.out)
  have Hln := Lib.hid hi.len
  clear hi ok hxl
  have HB0 : ∀ W [Later (w.alloc (.cells #[.slice sA0 sn0 sc0, .int .i64 r.Rules.MinRest, .int .i64 r.Rules.MaxRow, .int .i64 r.Rules.MaxWeek, .slice (some ⟨b, o, none⟩) sn1 sc1] 45)) W] (j : Nat), W.cell? ⟨w.heap.size, j, none⟩ = #[.slice sA0 sn0 sc0, .int .i64 r.Rules.MinRest, .int .i64 r.Rules.MaxRow, .int .i64 r.Rules.MaxWeek, .slice (some ⟨b, o, none⟩) sn1 sc1][j]? := Later.boxes (t := 45) (fr := (0, 0)) (heap_new (by simp; try omega))
  go_enter Try.func61, Try.ntmps61
  go_wp2
  go_loopw [5, 13] (fun sm i wr => ∃ (k : Nat) (q : Int), k ≤ n1 ∧ i = .int .i64 k ∧ sm = .int .i64 q ∧ 0 ≤ q ∧ q ≤ 1799 * k ∧ Hid (q + rowSum r (x.drop k) = rowSum r x) ∧ Later (w.alloc (.cells #[.slice sA0 sn0 sc0, .int .i64 r.Rules.MinRest, .int .i64 r.Rules.MaxRow, .int .i64 r.Rules.MaxWeek, .slice (some ⟨b, o, none⟩) sn1 sc1] 45)) wr) (fun _ i _ => n1 - (intOf i).toNat)
  case atStart => exact ⟨0, 0, by omega, rfl, rfl, by omega, by omega, by show _ = _; simp, inferInstance⟩
  case round =>
    obtain ⟨k, q, hk, rfl, rfl, hq0, hq1, HF, hX⟩ := hrel
    have hU := Later.trans (w := w) inferInstance hX
    by_cases hlt : k < n1
    · have hkx : k < x.length := by have := Hln.out; omega
      have hs := List.getElem?_eq_getElem hkx
      generalize x[k] = s at hs
      have hbd := cellLen_bd Ok.out (HM.out s (List.mem_of_getElem? hs))
      have hbd1 : 0 ≤ lenOn r d k := by rw [lenOn_at hx.out hs]; exact hbd.1
      have hbd2 : lenOn r d k ≤ 1799 := by rw [lenOn_at hx.out hs]; exact hbd.2
      have HF1 : Hid (q + lenOn r d k + rowSum r (x.drop (k + 1)) = rowSum r x) := by
        show _ = _
        rw [← HF.out, drop_at hs, lenOn_at hx.out hs]
        simp only [rowSum]
        omega
      clear hs hbd
      go_wp2_with (go_at_call 87; refine (impl_minutesOn h inferInstance Ok.out hd (by have := hxd.out; omega)).mono ?_; rintro e w1 ⟨rfl, hL⟩; have hV := Later.trans (w := wr) inferInstance hL; have hY := hX.trans hV; have hU1 := hU.trans hV)
      go_roundw
      case rel => exact ⟨k + 1, q + lenOn r d k, by omega, by go_num, rfl, by omega, by omega, HF1, inferInstance⟩
      case measure => simp [intOf]; omega
    · have HE : Hid (q = worked r d) := by
        show _ = _
        have h3 := HF.out
        rw [List.drop_eq_nil_of_le (by have := Hln.out; omega)] at h3
        rw [HW.out]; simpa [rowSum] using h3
      clear HF
      go_wp2
      go_ret
      exact ⟨ret_int HE.out, inferInstance⟩
end Go.Proofs.Ythoappgpkelakaa
