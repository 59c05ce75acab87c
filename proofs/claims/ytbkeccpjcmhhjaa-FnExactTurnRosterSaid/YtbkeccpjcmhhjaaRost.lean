/-
  Rosters: validity, and what the calls on drivers and days return.
-/
import Derived.Test.YtbkeccpjcmhhjaaHRoster
import Derived.Test.YtbkeccpjcmhhjaaSpans
namespace Go.Proofs.Ytbkeccpjcmhhjaa
open Go Go.RowKit
set_option linter.unusedVariables false
set_option maxRecDepth 100000
def okRow (ns n0 : Nat) (row : List Int) : Bool := decide (row.length = n0) && row.all fun s => inB s (-1) ((ns : Int) - 1)
def days (r : Roster) : Nat := (r.Plan.headD []).length
def okRoster (r : Roster) : Bool :=
  inB r.Shifts.length 1 8 && inB r.Plan.length 1 6 && r.Shifts.all okSpan && inB (days r) 1 14 && r.Plan.all (okRow r.Shifts.length (days r)) &&
  inB r.Rules.MinRest 0 1440 && inB r.Rules.MaxRow 1 14 && inB r.Rules.MaxWeek 0 10080
def okRow2 (ns n0 : Nat) (row : List Int) : Bool := inB row.length 1 14 && decide (row.length = n0) && row.all fun s => inB s (-1) ((ns : Int) - 1)
theorem all_row2 {r : Roster} (h : inB r.Plan.length 1 6 = true) : r.Plan.all (okRow2 r.Shifts.length (days r)) = (inB (days r) 1 14 && r.Plan.all (okRow r.Shifts.length (days r))) := by
  have hd : days r = (r.Plan.headD []).length := rfl
  generalize days r = d at *
  match hp : r.Plan with
  | [] => rw [hp] at h; simp [inB] at h
  | x :: l =>
    rw [hp] at hd
    simp only [List.headD_cons] at hd
    by_cases h1 : inB d 1 14 = true
    · rw [h1, Bool.true_and]
      congr 1
      funext row
      unfold okRow2 okRow
      by_cases h2 : row.length = d
      · rw [h2, h1]; simp
      · simp [h2]
    · have h2 : inB d 1 14 = false := by simpa using h1
      rw [h2, Bool.false_and]
      simp [okRow2, ← hd, h2]
theorem okRoster_plan {r : Roster} (h : inB r.Plan.length 1 6 = true) : okRoster r =
    (inB r.Shifts.length 1 8 && r.Shifts.all okSpan && r.Plan.all (okRow2 r.Shifts.length (days r)) && inB r.Rules.MinRest 0 1440 && inB r.Rules.MaxRow 1 14 && inB r.Rules.MaxWeek 0 10080) := by
  rw [all_row2 h]
  unfold okRoster
  rw [h]
  simp only [Bool.and_true, Bool.and_assoc]
theorem spec_l14Good {w0 w : World} {sA0 : Option Addr} {sn0 sc0 : Nat} {sA1 : Option Addr} {sn1 sc1 : Nat} {r : Roster} (h : RosterAt w0 sA0 sn0 sc0 sA1 sn1 sc1 r) (hl : Later w0 w) :
    Calls Try.prog 92 #[.agg #[.slice sA0 sn0 sc0, .int .i64 r.Rules.MinRest, .int .i64 r.Rules.MaxRow, .int .i64 r.Rules.MaxWeek, .slice sA1 sn1 sc1]] w (Ret (.bool (okRoster r)) w) := by
  replace h := h.later hl
  have hS := h.l_Shifts
  have hP := h.l_Plan
  have hn := hS.le
  have hm := hP.le
  have hlen := Lib.hid hS.len
  have hlen1 := Lib.hid hP.len
  have hls : (sn0 : Int) = r.Shifts.length := by rw [hlen.out]
  have hlp : (sn1 : Int) = r.Plan.length := by rw [hlen1.out]
  by_cases b1 : inB sn0 1 8 = true
  rotate_left
  · have g1 : inB sn0 1 8 = false := by simpa using b1
    have HN : Hid (okRoster r = false) := by unfold okRoster; rw [← hls, g1]; rfl
    clear b1 hls hlp
    go_enter Try.func92, Try.ntmps92
    go_wp2_with (go_at_call 93; refine (spec_l1In _ _ _ _).mono ?_; rintro e w' ⟨rfl, rfl⟩)
    go_ret
    exact ⟨ret_bool HN.out.symm, inferInstance⟩
  by_cases b2 : inB sn1 1 6 = true
  rotate_left
  · have g1 : inB sn1 1 6 = false := by simpa using b2
    have HN : Hid (okRoster r = false) := by unfold okRoster; rw [← hlp, g1, Bool.and_false]; rfl
    clear b2 hls hlp
    go_enter Try.func92, Try.ntmps92
    go_wp2_with (go_at_call 93; refine (spec_l1In _ _ _ _).mono ?_; rintro e w' ⟨rfl, rfl⟩)
    go_ret
    exact ⟨ret_bool HN.out.symm, inferInstance⟩
  have B1 := Lib.hid b1
  have B2 := Lib.hid b2
  have c1 := inB_t.1 b1
  have c2 := inB_t.1 b2
  have B1' : Hid (inB r.Shifts.length 1 8 = true) := by rw [← hls]; exact b1
  have B2' : Hid (inB r.Plan.length 1 6 = true) := by rw [← hlp]; exact b2
  clear hls hlp
  have HB0 : ∀ W [Later (w.alloc (.cells #[.slice sA0 sn0 sc0, .int .i64 r.Rules.MinRest, .int .i64 r.Rules.MaxRow, .int .i64 r.Rules.MaxWeek, .slice sA1 sn1 sc1] 32)) W] (j : Nat), W.cell? ⟨w.heap.size, j, none⟩ = #[.slice sA0 sn0 sc0, .int .i64 r.Rules.MinRest, .int .i64 r.Rules.MaxRow, .int .i64 r.Rules.MaxWeek, .slice sA1 sn1 sc1][j]? := Later.boxes (t := 32) (fr := (0, 0)) (heap_new (by simp; try omega))
  go_enter Try.func92, Try.ntmps92
  go_wp2_with (go_at_call 93; refine (spec_l1In _ _ _ _).mono ?_; rintro e w' ⟨rfl, rfl⟩)
  go_loopw [3] (fun i wr => ∃ (k : Nat), k ≤ sn0 ∧ i = .int .i64 k ∧ Hid (r.Shifts.all okSpan = (r.Shifts.drop k).all okSpan) ∧ Later (w.alloc (.cells #[.slice sA0 sn0 sc0, .int .i64 r.Rules.MinRest, .int .i64 r.Rules.MaxRow, .int .i64 r.Rules.MaxWeek, .slice sA1 sn1 sc1] 32)) wr) (fun i _ => sn0 - (intOf i).toNat)
  case atStart => exact ⟨0, by omega, rfl, rfl, inferInstance⟩
  case round =>
    obtain ⟨k, hk, rfl, HF, hX⟩ := hrel
    have hU := Later.trans (w := w) inferInstance hX
    by_cases hlt : k < sn0
    · obtain ⟨b, o, x, rfl, hx, hc0, hc1, hi⟩ := Spans.at_ hS hlt
      have HF1 : Hid (r.Shifts.all okSpan = (okSpan x && (r.Shifts.drop (k + 1)).all okSpan)) := by rw [HF.out, drop_at hx.out]; rfl
      clear HF hi
      go_wp2_with (go_at_call 190; refine (spec_l4Span _ _).mono ?_; rintro e w1 ⟨rfl, hL⟩; have hV := Later.trans (w := wr) inferInstance hL; have hY := hX.trans hV; have hU1 := hU.trans hV)
      any_goals
        go_ret
        have hb0 : (!okSpan x) = true := by assumption
        have hb : okSpan x = false := by simpa using hb0
        exact ⟨ret_bool (by unfold okRoster; rw [HF1.out, hb]; simp), inferInstance⟩
      have hb0 : (!okSpan x) = false := by assumption
      have hb : okSpan x = true := by simpa using hb0
      go_roundw
      case rel => exact ⟨k + 1, by omega, by go_num, by rw [HF1.out, hb]; rfl, inferInstance⟩
      case measure => simp [intOf]; omega
    · have B3 : Hid (r.Shifts.all okSpan = true) := by rw [HF.out, List.drop_eq_nil_of_le (by have := hlen.out; omega)]; rfl
      clear HF
      have hs0 : (sn0 : Int) ≤ 8 := by have := inB_t.1 B1.out; omega
      go_wp2_with fail
      go_loopw [4] (fun i wr => ∃ (k : Nat), k ≤ sn1 ∧ i = .int .i64 k ∧ Hid (r.Plan.all (okRow2 r.Shifts.length (days r)) = (r.Plan.drop k).all (okRow2 r.Shifts.length (days r))) ∧ Later (w.alloc (.cells #[.slice sA0 sn0 sc0, .int .i64 r.Rules.MinRest, .int .i64 r.Rules.MaxRow, .int .i64 r.Rules.MaxWeek, .slice sA1 sn1 sc1] 32)) wr) (fun i _ => sn1 - (intOf i).toNat)
      case atStart => exact ⟨0, by omega, rfl, rfl, inferInstance⟩
      case round =>
        clear hX hU
        obtain ⟨k, hk, rfl, HF, hX⟩ := hrel
        have hU := Later.trans (w := w) inferInstance hX
        by_cases hlt : k < sn1
        · obtain ⟨b, o, A1, n1, c1, x, rfl, hx, hc0, hi⟩ := Sl.row_ hP hlt
          obtain ⟨b', o', A2, n2, c2, x0, hA, hx0, hc1, hi0⟩ := Sl.row_ hP (k := 0) (by omega)
          cases hA
          simp only [Nat.add_zero] at hc1
          have hp1 : 0 < sn1 := by omega
          have HF1 : Hid (r.Plan.all (okRow2 r.Shifts.length (days r)) = (okRow2 r.Shifts.length (days r) x && (r.Plan.drop (k + 1)).all (okRow2 r.Shifts.length (days r)))) := by rw [HF.out, drop_at hx.out]; rfl
          have Hd : Hid (n2 = days r) := by
            have q := hx0.out
            show n2 = days r
            rw [hi0.len]; unfold days
            cases hp : r.Plan with
            | nil => rw [hp] at q; simp at q
            | cons y l => rw [hp] at q; simp at q; rw [q]; rfl
          have Hn1 := Lib.hid hi.len
          have hn1 := hi.le
          have hn2 := hi0.le
          have Hi := Lib.hid hi
          clear HF hi hi0 hx0
          by_cases g1 : inB n1 1 14 = true
          rotate_left
          · have g2 : inB n1 1 14 = false := by simpa using g1
            clear g1
            go_wp2_with fail
            go_quiet ((go_at_call 93; first | exact quiet_S (spec_l1In _ _ _ _) | exact quiet_S2 (spec_l1In _ _ _ _)))
            go_wp2
            go_ret
            exact ⟨ret_bool (by rw [okRoster_plan B2'.out, HF1.out]; unfold okRow2; rw [← Hn1.out, g2]; simp), inferInstance⟩
          by_cases g3 : n1 = n2
          rotate_left
          · have g2 : ((n1 : Int) != n2) = true := by rw [bne_iff_ne]; omega
            have g4 : decide (x.length = days r) = false := decide_eq_false (by rw [← Hn1.out, ← Hd.out]; exact g3)
            have G4 := Lib.hid g4
            clear g3 g4
            go_wp2_with fail
            go_quiet ((go_at_call 93; first | exact quiet_S (spec_l1In _ _ _ _) | exact quiet_S2 (spec_l1In _ _ _ _)))
            go_wp2
            go_ret
            exact ⟨ret_bool (by rw [okRoster_plan B2'.out, HF1.out]; unfold okRow2; rw [G4.out]; simp), inferInstance⟩
          have g2 : ((n1 : Int) != n2) = false := by rw [bne_eq_false_iff_eq]; omega
          have G1 := Lib.hid g1
          have g4 : decide (x.length = days r) = true := decide_eq_true (by rw [← Hn1.out, ← Hd.out]; exact g3)
          have HF2 : Hid (okRow2 r.Shifts.length (days r) x = x.all fun s => inB s (-1) ((r.Shifts.length : Int) - 1)) := by
            show _ = _
            unfold okRow2
            rw [g4, ← Hn1.out, G1.out]
            simp
          clear g3 g4
          go_wp2_with fail
          go_quiet ((go_at_call 93; first | exact quiet_S (spec_l1In _ _ _ _) | exact quiet_S2 (spec_l1In _ _ _ _)))
          clear g1 g2
          go_wp2_with fail
          obtain ⟨wo, rfl⟩ : ∃ wo : World, wo = wr := ⟨_, rfl⟩
          go_loopw [5] (fun i wr => ∃ (j : Nat), j ≤ n1 ∧ i = .int .i64 j ∧ Hid ((x.all fun s => inB s (-1) ((r.Shifts.length : Int) - 1)) = (x.drop j).all fun s => inB s (-1) ((r.Shifts.length : Int) - 1)) ∧ Later wo wr) (fun i _ => n1 - (intOf i).toNat)
          case atStart => exact ⟨0, by omega, rfl, rfl, inferInstance⟩
          case round =>
            obtain ⟨j, hj, rfl, HG, hY⟩ := hrel
            have hX2 := hX.trans hY
            have hU2 := hU.trans hY
            by_cases hjt : j < n1
            · obtain ⟨b2, o2, y, rfl, hy, hcy, hyi⟩ := Ints.at_ Hi.out hjt
              have HG1 : Hid ((x.all fun s => inB s (-1) ((r.Shifts.length : Int) - 1)) = (inB y (-1) ((r.Shifts.length : Int) - 1) && (x.drop (j + 1)).all fun s => inB s (-1) ((r.Shifts.length : Int) - 1))) := by rw [HG.out, drop_at hy.out]; rfl
              clear HG hyi
              by_cases g5 : inB y (-1) ((sn0 : Int) - 1) = true
              · have HG2 : Hid ((x.all fun s => inB s (-1) ((r.Shifts.length : Int) - 1)) = (x.drop (j + 1)).all fun s => inB s (-1) ((r.Shifts.length : Int) - 1)) := by rw [HG1.out, ← hlen.out, g5, Bool.true_and]; rfl
                go_wp2_with fail
                go_quiet ((go_at_call 93; first | exact quiet_S (spec_l1In _ _ _ _) | exact quiet_S2 (spec_l1In _ _ _ _)))
                go_wp2
                go_roundw
                case rel => exact ⟨j + 1, by omega, by go_num, HG2, inferInstance⟩
                case measure => simp [intOf]; omega
              · have g6 : inB y (-1) ((sn0 : Int) - 1) = false := by simpa using g5
                have HG2 : Hid (okRoster r = false) := by
                  show _ = _
                  rw [okRoster_plan B2'.out, HF1.out, HF2.out, HG1.out, ← hlen.out, g6]; simp
                clear g5
                go_wp2_with fail
                go_quiet ((go_at_call 93; first | exact quiet_S (spec_l1In _ _ _ _) | exact quiet_S2 (spec_l1In _ _ _ _)))
                go_wp2
                go_ret
                exact ⟨ret_bool HG2.out.symm, inferInstance⟩
            · have HG2 : Hid (okRow2 r.Shifts.length (days r) x = true) := by
                show _ = _
                rw [HF2.out, HG.out, List.drop_eq_nil_of_le (by have := Hn1.out; omega)]; rfl
              clear HG
              go_wp2
              go_roundw
              case rel => exact ⟨k + 1, by omega, by go_num, by rw [HF1.out, HG2.out]; rfl, inferInstance⟩
              case measure => simp [intOf]; omega
        · have B4 : Hid (r.Plan.all (okRow2 r.Shifts.length (days r)) = true) := by rw [HF.out, List.drop_eq_nil_of_le (by have := hlen1.out; omega)]; rfl
          clear HF
          have HR : Hid (okRoster r = (inB r.Rules.MinRest 0 1440 && inB r.Rules.MaxRow 1 14 && inB r.Rules.MaxWeek 0 10080)) := by
            show _ = _
            rw [okRoster_plan B2'.out, B1'.out, B3.out, B4.out]; simp
          go_wp2_with (go_at_call 93; refine (spec_l1In _ _ _ _).mono ?_; rintro e w' ⟨rfl, rfl⟩)
          all_goals
            go_ret
            exact ⟨ret_bool (by rw [HR.out]; simp_all), inferInstance⟩
theorem impl_IsValidRoster {w0 w : World} {sA0 : Option Addr} {sn0 sc0 : Nat} {sA1 : Option Addr} {sn1 sc1 : Nat} {r : Roster} (h : RosterAt w0 sA0 sn0 sc0 sA1 sn1 sc1 r) (hl : Later w0 w) :
    Calls Try.prog 97 #[.agg #[.slice sA0 sn0 sc0, .int .i64 r.Rules.MinRest, .int .i64 r.Rules.MaxRow, .int .i64 r.Rules.MaxWeek, .slice sA1 sn1 sc1]] w (Ret (.bool (okRoster r)) w) := by
  replace h := h.later hl
  have hS := h.l_Shifts
  have hP := h.l_Plan
  have hn := hS.le
  have hm := hP.le
  have hlen := Lib.hid hS.len
  have hlen1 := Lib.hid hP.len
  have HR : Hid (okRoster r = (inB sn0 1 8 && inB sn1 1 6 && (decide (r.Shifts.length ≤ 20) && r.Shifts.all okSpan) && inB (days r) 1 14 && r.Plan.all (okRow r.Shifts.length (days r)) &&
      inB r.Rules.MinRest 0 1440 && inB r.Rules.MaxRow 1 14 && inB r.Rules.MaxWeek 0 10080)) := by
    show _ = _
    unfold okRoster
    rw [hlen.out, hlen1.out]
    by_cases q : inB r.Shifts.length 1 8 = true
    · have : r.Shifts.length ≤ 20 := by have := inB_t.1 q; omega
      rw [decide_eq_true this, Bool.true_and]
    · have q2 : inB r.Shifts.length 1 8 = false := by simpa using q
      rw [q2]; simp
  have HB0 : ∀ W [Later (w.alloc (.cells #[.slice sA0 sn0 sc0, .int .i64 r.Rules.MinRest, .int .i64 r.Rules.MaxRow, .int .i64 r.Rules.MaxWeek, .slice sA1 sn1 sc1] 32)) W] (j : Nat), W.cell? ⟨w.heap.size, j, none⟩ = #[.slice sA0 sn0 sc0, .int .i64 r.Rules.MinRest, .int .i64 r.Rules.MaxRow, .int .i64 r.Rules.MaxWeek, .slice sA1 sn1 sc1][j]? := Later.boxes (t := 32) (fr := (0, 0)) (heap_new (by simp; try omega))
  by_cases b1 : (inB sn0 1 8) = true
  rotate_left
  · have q : (inB sn0 1 8) = false := by simpa using b1
    have HN : Hid (okRoster r = false) := by show _ = _; rw [HR.out, q]; simp
    clear b1
    go_enter Try.func97, Try.ntmps97
    go_wp2_with first
      | (go_at_call 98; refine (impl_within _ _ _ _).mono ?_; rintro e w' ⟨rfl, rfl⟩)
      | (go_at_call 192; refine (impl_areSpans hS inferInstance).mono ?_; rintro e w1 ⟨rfl, hL⟩; have hX := Later.trans (w := (w.alloc (.cells #[.slice sA0 sn0 sc0, .int .i64 r.Rules.MinRest, .int .i64 r.Rules.MaxRow, .int .i64 r.Rules.MaxWeek, .slice sA1 sn1 sc1] 32))) inferInstance hL; have hU := Later.trans (w := w) inferInstance hX)
    go_ret
    exact ⟨ret_bool HN.out.symm, inferInstance⟩
  by_cases b2 : (decide (r.Shifts.length ≤ 20) && r.Shifts.all okSpan) = true
  rotate_left
  · have q : (decide (r.Shifts.length ≤ 20) && r.Shifts.all okSpan) = false := by simpa using b2
    have HN : Hid (okRoster r = false) := by show _ = _; rw [HR.out, q]; simp
    clear b2
    go_enter Try.func97, Try.ntmps97
    go_wp2_with first
      | (go_at_call 98; refine (impl_within _ _ _ _).mono ?_; rintro e w' ⟨rfl, rfl⟩)
      | (go_at_call 192; refine (impl_areSpans hS inferInstance).mono ?_; rintro e w1 ⟨rfl, hL⟩; have hX := Later.trans (w := (w.alloc (.cells #[.slice sA0 sn0 sc0, .int .i64 r.Rules.MinRest, .int .i64 r.Rules.MaxRow, .int .i64 r.Rules.MaxWeek, .slice sA1 sn1 sc1] 32))) inferInstance hL; have hU := Later.trans (w := w) inferInstance hX)
    go_ret
    exact ⟨ret_bool HN.out.symm, inferInstance⟩
  by_cases b3 : (inB r.Rules.MinRest 0 1440) = true
  rotate_left
  · have q : (inB r.Rules.MinRest 0 1440) = false := by simpa using b3
    have HN : Hid (okRoster r = false) := by show _ = _; rw [HR.out, q]; simp
    clear b3
    go_enter Try.func97, Try.ntmps97
    go_wp2_with first
      | (go_at_call 98; refine (impl_within _ _ _ _).mono ?_; rintro e w' ⟨rfl, rfl⟩)
      | (go_at_call 192; refine (impl_areSpans hS inferInstance).mono ?_; rintro e w1 ⟨rfl, hL⟩; have hX := Later.trans (w := (w.alloc (.cells #[.slice sA0 sn0 sc0, .int .i64 r.Rules.MinRest, .int .i64 r.Rules.MaxRow, .int .i64 r.Rules.MaxWeek, .slice sA1 sn1 sc1] 32))) inferInstance hL; have hU := Later.trans (w := w) inferInstance hX)
    go_ret
    exact ⟨ret_bool HN.out.symm, inferInstance⟩
  by_cases b4 : (inB r.Rules.MaxRow 1 14) = true
  rotate_left
  · have q : (inB r.Rules.MaxRow 1 14) = false := by simpa using b4
    have HN : Hid (okRoster r = false) := by show _ = _; rw [HR.out, q]; simp
    clear b4
    go_enter Try.func97, Try.ntmps97
    go_wp2_with first
      | (go_at_call 98; refine (impl_within _ _ _ _).mono ?_; rintro e w' ⟨rfl, rfl⟩)
      | (go_at_call 192; refine (impl_areSpans hS inferInstance).mono ?_; rintro e w1 ⟨rfl, hL⟩; have hX := Later.trans (w := (w.alloc (.cells #[.slice sA0 sn0 sc0, .int .i64 r.Rules.MinRest, .int .i64 r.Rules.MaxRow, .int .i64 r.Rules.MaxWeek, .slice sA1 sn1 sc1] 32))) inferInstance hL; have hU := Later.trans (w := w) inferInstance hX)
    go_ret
    exact ⟨ret_bool HN.out.symm, inferInstance⟩
  by_cases b5 : (inB r.Rules.MaxWeek 0 10080) = true
  rotate_left
  · have q : (inB r.Rules.MaxWeek 0 10080) = false := by simpa using b5
    have HN : Hid (okRoster r = false) := by show _ = _; rw [HR.out, q]; simp
    clear b5
    go_enter Try.func97, Try.ntmps97
    go_wp2_with first
      | (go_at_call 98; refine (impl_within _ _ _ _).mono ?_; rintro e w' ⟨rfl, rfl⟩)
      | (go_at_call 192; refine (impl_areSpans hS inferInstance).mono ?_; rintro e w1 ⟨rfl, hL⟩; have hX := Later.trans (w := (w.alloc (.cells #[.slice sA0 sn0 sc0, .int .i64 r.Rules.MinRest, .int .i64 r.Rules.MaxRow, .int .i64 r.Rules.MaxWeek, .slice sA1 sn1 sc1] 32))) inferInstance hL; have hU := Later.trans (w := w) inferInstance hX)
    go_ret
    exact ⟨ret_bool HN.out.symm, inferInstance⟩
  by_cases b6 : (inB sn1 1 6) = true
  rotate_left
  · have q : (inB sn1 1 6) = false := by simpa using b6
    have HN : Hid (okRoster r = false) := by show _ = _; rw [HR.out, q]; simp
    clear b6
    go_enter Try.func97, Try.ntmps97
    go_wp2_with first
      | (go_at_call 98; refine (impl_within _ _ _ _).mono ?_; rintro e w' ⟨rfl, rfl⟩)
      | (go_at_call 192; refine (impl_areSpans hS inferInstance).mono ?_; rintro e w1 ⟨rfl, hL⟩; have hX := Later.trans (w := (w.alloc (.cells #[.slice sA0 sn0 sc0, .int .i64 r.Rules.MinRest, .int .i64 r.Rules.MaxRow, .int .i64 r.Rules.MaxWeek, .slice sA1 sn1 sc1] 32))) inferInstance hL; have hU := Later.trans (w := w) inferInstance hX)
    go_ret
    exact ⟨ret_bool HN.out.symm, inferInstance⟩
  have c1 := inB_t.1 b1
  have c2 := inB_t.1 b6
  have hp1 : 0 < sn1 := by omega
  obtain ⟨b, o, A2, n2, c2', x0, rfl, hx0, hc1, hi0⟩ := Sl.row_ hP (k := 0) hp1
  simp only [Nat.add_zero] at hc1
  have Hd : Hid (n2 = days r) := by
    have q := hx0.out
    show n2 = days r
    rw [hi0.len]; unfold days
    cases hp : r.Plan with
    | nil => rw [hp] at q; simp at q
    | cons y l => rw [hp] at q; simp at q; rw [q]; rfl
  have hn2 := hi0.le
  clear hx0 hi0
  replace HR : Hid (okRoster r = (inB n2 1 14 && r.Plan.all (okRow r.Shifts.length (days r)))) := by
    show _ = _
    rw [HR.out, b1, b2, b3, b4, b5, b6, ← Hd.out]; simp
  clear HB0
  have HB0 : ∀ W [Later (w.alloc (.cells #[.slice sA0 sn0 sc0, .int .i64 r.Rules.MinRest, .int .i64 r.Rules.MaxRow, .int .i64 r.Rules.MaxWeek, .slice (some ⟨b, o, none⟩) sn1 sc1] 32)) W] (j : Nat), W.cell? ⟨w.heap.size, j, none⟩ = #[.slice sA0 sn0 sc0, .int .i64 r.Rules.MinRest, .int .i64 r.Rules.MaxRow, .int .i64 r.Rules.MaxWeek, .slice (some ⟨b, o, none⟩) sn1 sc1][j]? := Later.boxes (t := 32) (fr := (0, 0)) (heap_new (by simp; try omega))
  by_cases b7 : (inB n2 1 14) = true
  rotate_left
  · have q : (inB n2 1 14) = false := by simpa using b7
    have HN : Hid (okRoster r = false) := by show _ = _; rw [HR.out, q]; simp
    clear b7
    go_enter Try.func97, Try.ntmps97
    go_wp2_with first
      | (go_at_call 98; refine (impl_within _ _ _ _).mono ?_; rintro e w' ⟨rfl, rfl⟩)
      | (go_at_call 192; refine (impl_areSpans hS inferInstance).mono ?_; rintro e w1 ⟨rfl, hL⟩; have hX := Later.trans (w := (w.alloc (.cells #[.slice sA0 sn0 sc0, .int .i64 r.Rules.MinRest, .int .i64 r.Rules.MaxRow, .int .i64 r.Rules.MaxWeek, .slice (some ⟨b, o, none⟩) sn1 sc1] 32))) inferInstance hL; have hU := Later.trans (w := w) inferInstance hX)
    go_ret
    exact ⟨ret_bool HN.out.symm, inferInstance⟩
  have B7 : Hid (okRoster r = r.Plan.all (okRow r.Shifts.length (days r))) := by show _ = _; rw [HR.out, b7]; simp
  clear HR
  go_enter Try.func97, Try.ntmps97
  go_wp2_with first
    | (go_at_call 98; refine (impl_within _ _ _ _).mono ?_; rintro e w' ⟨rfl, rfl⟩)
    | (go_at_call 192; refine (impl_areSpans hS inferInstance).mono ?_; rintro e w1 ⟨rfl, hL⟩; have hX := Later.trans (w := (w.alloc (.cells #[.slice sA0 sn0 sc0, .int .i64 r.Rules.MinRest, .int .i64 r.Rules.MaxRow, .int .i64 r.Rules.MaxWeek, .slice (some ⟨b, o, none⟩) sn1 sc1] 32))) inferInstance hL; have hU := Later.trans (w := w) inferInstance hX)
  go_loopw [56] (fun i wr => ∃ (k : Nat), k ≤ sn1 ∧ i = .int .i64 k ∧ Hid (r.Plan.all (okRow r.Shifts.length (days r)) = (r.Plan.drop k).all (okRow r.Shifts.length (days r))) ∧ Later (w.alloc (.cells #[.slice sA0 sn0 sc0, .int .i64 r.Rules.MinRest, .int .i64 r.Rules.MaxRow, .int .i64 r.Rules.MaxWeek, .slice (some ⟨b, o, none⟩) sn1 sc1] 32)) wr) (fun i _ => sn1 - (intOf i).toNat)
  case atStart => exact ⟨0, by omega, rfl, rfl, inferInstance⟩
  case round =>
    clear hX hU hL
    obtain ⟨k, hk, rfl, HF, hX⟩ := hrel
    have hU := Later.trans (w := w) inferInstance hX
    by_cases hlt : k < sn1
    · obtain ⟨b', o', A1, n1, c1, x, hA, hx, hc0, hi⟩ := Sl.row_ hP hlt
      cases hA
      have HF1 : Hid (r.Plan.all (okRow r.Shifts.length (days r)) = (okRow r.Shifts.length (days r) x && (r.Plan.drop (k + 1)).all (okRow r.Shifts.length (days r)))) := by rw [HF.out, drop_at hx.out]; rfl
      have Hn1 := Lib.hid hi.len
      have hn1 := hi.le
      have Hi := Lib.hid hi
      clear HF hi
      by_cases g3 : n1 = n2
      rotate_left
      · have g2 : ((n1 : Int) != n2) = true := by rw [bne_iff_ne]; omega
        have g4 : decide (x.length = days r) = false := decide_eq_false (by rw [← Hn1.out, ← Hd.out]; exact g3)
        have G4 : Hid (okRoster r = false) := by show _ = _; rw [B7.out, HF1.out]; unfold okRow; rw [g4]; rfl
        clear g3 g4
        go_wp2_with fail
        go_ret
        exact ⟨ret_bool G4.out.symm, inferInstance⟩
      · have g2 : ((n1 : Int) != n2) = false := by rw [bne_eq_false_iff_eq]; omega
        have g4 : decide (x.length = days r) = true := decide_eq_true (by rw [← Hn1.out, ← Hd.out]; exact g3)
        have HF2 : Hid (okRow r.Shifts.length (days r) x = x.all fun s => inB s (-1) ((r.Shifts.length : Int) - 1)) := by
          show _ = _
          unfold okRow
          rw [g4, Bool.true_and]
        clear g3 g4
        go_wp2_with fail
        obtain ⟨wo, rfl⟩ : ∃ wo : World, wo = wr := ⟨_, rfl⟩
        go_loopw [70] (fun i wr => ∃ (j : Nat), j ≤ n1 ∧ i = .int .i64 j ∧ Hid ((x.all fun s => inB s (-1) ((r.Shifts.length : Int) - 1)) = (x.drop j).all fun s => inB s (-1) ((r.Shifts.length : Int) - 1)) ∧ Later wo wr) (fun i _ => n1 - (intOf i).toNat)
        case atStart => exact ⟨0, by omega, rfl, rfl, inferInstance⟩
        case round =>
          obtain ⟨j, hj, rfl, HG, hY⟩ := hrel
          have hX2 := hX.trans hY
          have hU2 := hU.trans hY
          by_cases hjt : j < n1
          · obtain ⟨b2, o2, y, rfl, hy, hcy, hyi⟩ := Ints.at_ Hi.out hjt
            have HG1 : Hid ((x.all fun s => inB s (-1) ((r.Shifts.length : Int) - 1)) = (inB y (-1) ((r.Shifts.length : Int) - 1) && (x.drop (j + 1)).all fun s => inB s (-1) ((r.Shifts.length : Int) - 1))) := by rw [HG.out, drop_at hy.out]; rfl
            clear HG hyi
            by_cases g5 : inB y (-1) ((sn0 : Int) - 1) = true
            · have HG2 : Hid ((x.all fun s => inB s (-1) ((r.Shifts.length : Int) - 1)) = (x.drop (j + 1)).all fun s => inB s (-1) ((r.Shifts.length : Int) - 1)) := by rw [HG1.out, ← hlen.out, g5, Bool.true_and]; rfl
              go_wp2_with (go_at_call 98; refine (impl_within _ _ _ _).mono ?_; rintro e w' ⟨rfl, rfl⟩)
              go_roundw
              case rel => exact ⟨j + 1, by omega, by go_num, HG2, inferInstance⟩
              case measure => simp [intOf]; omega
            · have g6 : inB y (-1) ((sn0 : Int) - 1) = false := by simpa using g5
              have HG2 : Hid (okRoster r = false) := by
                show _ = _
                rw [B7.out, HF1.out, HF2.out, HG1.out, ← hlen.out, g6]; simp
              clear g5
              go_wp2_with (go_at_call 98; refine (impl_within _ _ _ _).mono ?_; rintro e w' ⟨rfl, rfl⟩)
              go_ret
              exact ⟨ret_bool HG2.out.symm, inferInstance⟩
          · have HG2 : Hid (okRow r.Shifts.length (days r) x = true) := by
              show _ = _
              rw [HF2.out, HG.out, List.drop_eq_nil_of_le (by have := Hn1.out; omega)]; rfl
            clear HG
            go_wp2
            go_roundw
            case rel => exact ⟨k + 1, by omega, by go_num, by rw [HF1.out, HG2.out]; rfl, inferInstance⟩
            case measure => simp [intOf]; omega
    · have B8 : Hid (okRoster r = true) := by show _ = _; rw [B7.out, HF.out, List.drop_eq_nil_of_le (by have := hlen1.out; omega)]; rfl
      clear HF
      go_wp2
      go_ret
      exact ⟨ret_bool B8.out.symm, inferInstance⟩
end Go.Proofs.Ytbkeccpjcmhhjaa
