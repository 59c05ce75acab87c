/-
  Rosters: the busiest week.
-/
import Derived.Test.YthoappgpkelakaaRostC
import Derived.OwnWalk
namespace Go.Proofs.Ythoappgpkelakaa
open Go Go.RowKit
set_option linter.unusedVariables false
/-- The minutes of the days d .. d+6 of a row. -/
def weekOf (r : Roster) (x : List Int) (d : Nat) : Int := rowSum r ((x.take (min (d + 7) x.length)).drop d)
def wkGo (r : Roster) (x : List Int) : Nat → Nat → Int → Int → Int × Int
  | 0, _, b, m => (b, m)
  | f + 1, d, b, m => if m < weekOf r x d then wkGo r x f (d + 1) d (weekOf r x d) else wkGo r x f (d + 1) b m
def weeks (n : Nat) : Nat := if n < 8 then 1 else n - 6
def busiest (r : Roster) (d : Nat) : Int × Int := wkGo r (rowOf r d) (weeks (rowOf r d).length) 0 0 (-1)
theorem weekOf_bd {r : Roster} (h : RosterFacts r) (x : List Int) (d : Nat) (hl : ∀ s, s ∈ x → s < r.Shifts.length) : 0 ≤ weekOf r x d ∧ weekOf r x d ≤ 1799 * 7 := by
  have := rowSum_bd h ((x.take (min (d + 7) x.length)).drop d) fun s hs => hl s (List.mem_of_mem_take (List.mem_of_mem_drop hs))
  have h2 : ((x.take (min (d + 7) x.length)).drop d).length ≤ 7 := by simp; omega
  unfold weekOf
  omega
theorem spec_l1Least_l {a b : Int} (h : a < b) (w : World) : Calls Try.prog 88 #[.int .i64 a, .int .i64 b] w (RetS (.int .i64 a) w) := by
  have := spec_l1Least a b w
  rwa [show leastI a b = a from if_pos h] at this
theorem spec_l1Least_r {a b : Int} (h : ¬ a < b) (w : World) : Calls Try.prog 88 #[.int .i64 a, .int .i64 b] w (RetS (.int .i64 b) w) := by
  have := spec_l1Least a b w
  rwa [show leastI a b = b from if_neg h] at this
theorem take_at {α : Type} {x : List α} {k m : Nat} {s : α} (h : x[k]? = some s) (hk : k < m) : (x.take m)[k]? = some s := by rw [List.getElem?_take_of_lt hk]; exact h
set_option maxHeartbeats 800000 in
theorem spec_l14Week {w0 w : World} {sA0 : Option Addr} {sn0 sc0 : Nat} {sA1 : Option Addr} {sn1 sc1 : Nat} {r : Roster} (h : RosterAt w0 sA0 sn0 sc0 sA1 sn1 sc1 r) (hl : Later w0 w) (ok : RosterFacts r) {d : Nat} (hd : d < r.Plan.length) :
    Calls Try.prog 62 #[.agg #[.slice sA0 sn0 sc0, .int .i64 r.Rules.MinRest, .int .i64 r.Rules.MaxRow, .int .i64 r.Rules.MaxWeek, .slice sA1 sn1 sc1], .int .i64 d] w (Ret (.tuple #[.int .i64 (busiest r d).1, .int .i64 (busiest r d).2]) w) := by
  replace h := h.later hl
  have hP := h.l_Plan
  have hm := hP.le
  have hdn : d < sn1 := by rw [hP.len]; exact hd
  obtain ⟨b, o, A1, n1, c1, x, rfl, hx, hc0, hi⟩ := Sl.row_ hP hdn
  have hn1 := hi.le
  have Hi := Lib.hid hi
  have Ok := Lib.hid ok
  have hxl := ok.row d x hx.out
  have hxd : Hid (n1 = days r) := by show _ = _; rw [hi.len, hxl.1]; rfl
  have hn14 : n1 ≤ 14 := by have := ok.days; have := hxd.out; omega
  have hn01 : 1 ≤ n1 := by have := ok.days; have := hxd.out; omega
  have HM := Lib.hid (ok.mem hx.out)
  have HW : Hid (rowOf r d = x) := rowOf_eq hx.out
  have Hln := Lib.hid hi.len
  have hwn : weeks n1 ≤ n1 := by unfold weeks; split <;> omega
  have hwn1 : 1 ≤ weeks n1 := by unfold weeks; split <;> omega
  clear hi ok hxl
  have HB0 : ∀ W [Later (w.alloc (.cells #[.slice sA0 sn0 sc0, .int .i64 r.Rules.MinRest, .int .i64 r.Rules.MaxRow, .int .i64 r.Rules.MaxWeek, .slice (some ⟨b, o, none⟩) sn1 sc1] 45)) W] (j : Nat), W.cell? ⟨w.heap.size, j, none⟩ = #[.slice sA0 sn0 sc0, .int .i64 r.Rules.MinRest, .int .i64 r.Rules.MaxRow, .int .i64 r.Rules.MaxWeek, .slice (some ⟨b, o, none⟩) sn1 sc1][j]? := Later.boxes (t := 45) (fr := (0, 0)) (heap_new (by simp; try omega))
  go_enter Try.func62, Try.ntmps62
  go_wp2
  go_loopw [6, 7, 9] (fun bo mo i wr => ∃ (k : Nat) (a c : Int), k ≤ weeks n1 ∧ i = .int .i64 k ∧ bo = .int .i64 a ∧ mo = .int .i64 c ∧ 0 ≤ a ∧ a ≤ 14 ∧ -1 ≤ c ∧ c ≤ 12593 ∧ Hid (wkGo r x (weeks n1 - k) k a c = wkGo r x (weeks n1) 0 0 (-1)) ∧ Later (w.alloc (.cells #[.slice sA0 sn0 sc0, .int .i64 r.Rules.MinRest, .int .i64 r.Rules.MaxRow, .int .i64 r.Rules.MaxWeek, .slice (some ⟨b, o, none⟩) sn1 sc1] 45)) wr) (fun _ _ i _ => weeks n1 - (intOf i).toNat)
  case atStart => exact ⟨0, 0, -1, by omega, rfl, rfl, rfl, by omega, by omega, by omega, by omega, rfl, inferInstance⟩
  case round =>
    obtain ⟨k, a, c, hk, rfl, rfl, rfl, ha0, ha1, hc0', hc1', HF, hX⟩ := hrel
    have hU := Later.trans (w := w) inferInstance hX
    by_cases hlt : k < weeks n1
    · have hbd := weekOf_bd Ok.out x k HM.out
      have HF1 := HF.out
      rw [show weeks n1 - k = (weeks n1 - (k + 1)) + 1 from by omega] at HF1
      simp only [wkGo] at HF1
      have hcond : k = 0 ∨ 0 < k ∧ (k : Int) + 7 ≤ n1 := by unfold weeks at hlt; split at hlt <;> omega
      have HS : Hid (weekOf r x k = rowSum r ((x.take (min (k + 7) n1)).drop k)) := by show _ = _; unfold weekOf; rw [Hln.out]
      generalize weekOf r x k = wk at HS hbd HF1
      have HF2 := Lib.hid HF1
      clear HF HF1
      have HB := Lib.hid hbd
      have hmk : k ≤ min (k + 7) n1 := by omega
      obtain ⟨wo, rfl⟩ : ∃ wo : World, wo = wr := ⟨_, rfl⟩
      rcases hcond with h00 | ⟨h01, h02⟩
      · have h0e : ((k : Int) == 0) = true := by rw [h00]; rfl
        have H00 := Lib.hid h00
        clear h00
        go_wp2_with fail
        go_loopw [10, 11] (fun sm i wr => ∃ (j : Nat) (q : Int), k ≤ j ∧ j ≤ min (k + 7) n1 ∧ i = .int .i64 j ∧ sm = .int .i64 q ∧ 0 ≤ q ∧ q ≤ 1799 * (j - k) ∧ Hid (q + rowSum r ((x.take (min (k + 7) n1)).drop j) = wk) ∧ Later wo wr) (fun _ i _ => n1 - (intOf i).toNat)
        case atStart => exact ⟨k, 0, by omega, hmk, rfl, rfl, by omega, by omega, (by show _ = _; rw [HS.out]; simp), inferInstance⟩
        case round =>
          obtain ⟨j, q, hkj, hj, rfl, rfl, hq0, hq1, HG, hY⟩ := hrel
          have hX2 := hX.trans hY
          have hU2 := hU.trans hY
          by_cases hjt : j < min (k + 7) n1
          · have hjx : j < x.length := by have := Hln.out; omega
            have hs := List.getElem?_eq_getElem hjx
            generalize x[j] = s at hs
            have hbd := cellLen_bd Ok.out (HM.out s (List.mem_of_getElem? hs))
            have hbd1 : 0 ≤ lenOn r d j := by rw [lenOn_at hx.out hs]; exact hbd.1
            have hbd2 : lenOn r d j ≤ 1799 := by rw [lenOn_at hx.out hs]; exact hbd.2
            have HG1 : Hid (q + lenOn r d j + rowSum r ((x.take (min (k + 7) n1)).drop (j + 1)) = wk) := by
              show _ = _
              rw [← HG.out, drop_at (take_at hs hjt), lenOn_at hx.out hs]
              simp only [rowSum]
              omega
            clear hs hbd
            have hj1 : (j : Int) < (k : Int) + 7 := by omega
            have hj2 : j < n1 := by omega
            by_cases hmn : (k : Int) + 7 < n1
            · go_wp2_with first
                | (go_at_call 88; refine (spec_l1Least_l (by omega) _).mono ?_; rintro e w' ⟨rfl, rfl⟩)
                | (go_at_call 86; refine (spec_l14Length h inferInstance Ok.out hd (by have := hxd.out; omega)).mono ?_; rintro e w1 ⟨rfl, hL⟩; have hV := Later.trans (w := wr) inferInstance hL; have hY2 := hY.trans hV; have hX3 := hX.trans hY2; have hU3 := hU.trans hY2)
              go_roundw
              case rel => exact ⟨j + 1, q + lenOn r d j, by omega, by omega, by go_num, rfl, by omega, by omega, HG1, inferInstance⟩
              case measure => simp [intOf]; omega
            · go_wp2_with first
                | (go_at_call 88; refine (spec_l1Least_r (by omega) _).mono ?_; rintro e w' ⟨rfl, rfl⟩)
                | (go_at_call 86; refine (spec_l14Length h inferInstance Ok.out hd (by have := hxd.out; omega)).mono ?_; rintro e w1 ⟨rfl, hL⟩; have hV := Later.trans (w := wr) inferInstance hL; have hY2 := hY.trans hV; have hX3 := hX.trans hY2; have hU3 := hU.trans hY2)
              go_roundw
              case rel => exact ⟨j + 1, q + lenOn r d j, by omega, by omega, by go_num, rfl, by omega, by omega, HG1, inferInstance⟩
              case measure => simp [intOf]; omega
          · have HG2 : Hid (q = wk) := by
              show _ = _
              have h3 := HG.out
              rw [List.drop_eq_nil_of_le (by simp; omega)] at h3
              simpa [rowSum] using h3
            clear HG
            have hqw := HG2.out
            subst hqw
            have hj1 : ¬ ((j : Int) < (k : Int) + 7 ∧ (j : Int) < n1) := by omega
            have hw0 := HB.out.1
            have hw1 := HB.out.2
            by_cases hbig : c < q
            · have HF3 := HF2.out
              rw [if_pos hbig] at HF3
              have HF4 := Lib.hid HF3
              clear HF3 HF2
              by_cases hmn : (k : Int) + 7 < n1
              · have hj4 : ¬ (j : Int) < (k : Int) + 7 := by omega
                go_wp2_with (go_at_call 88; refine (spec_l1Least_l (by omega) _).mono ?_; rintro e w' ⟨rfl, rfl⟩)
                go_roundw
                case rel => exact ⟨k + 1, k, q, by omega, by go_num, rfl, rfl, by omega, by omega, by omega, by omega, HF4, inferInstance⟩
                case measure => simp [intOf]; omega
              · have hj4 : ¬ (j : Int) < n1 := by omega
                go_wp2_with (go_at_call 88; refine (spec_l1Least_r (by omega) _).mono ?_; rintro e w' ⟨rfl, rfl⟩)
                go_roundw
                case rel => exact ⟨k + 1, k, q, by omega, by go_num, rfl, rfl, by omega, by omega, by omega, by omega, HF4, inferInstance⟩
                case measure => simp [intOf]; omega
            · have HF3 := HF2.out
              rw [if_neg hbig] at HF3
              have HF4 := Lib.hid HF3
              clear HF3 HF2
              by_cases hmn : (k : Int) + 7 < n1
              · have hj4 : ¬ (j : Int) < (k : Int) + 7 := by omega
                go_wp2_with (go_at_call 88; refine (spec_l1Least_l (by omega) _).mono ?_; rintro e w' ⟨rfl, rfl⟩)
                go_roundw
                case rel => exact ⟨k + 1, a, c, by omega, by go_num, rfl, rfl, by omega, by omega, by omega, by omega, HF4, inferInstance⟩
                case measure => simp [intOf]; omega
              · have hj4 : ¬ (j : Int) < n1 := by omega
                go_wp2_with (go_at_call 88; refine (spec_l1Least_r (by omega) _).mono ?_; rintro e w' ⟨rfl, rfl⟩)
                go_roundw
                case rel => exact ⟨k + 1, a, c, by omega, by go_num, rfl, rfl, by omega, by omega, by omega, by omega, HF4, inferInstance⟩
                case measure => simp [intOf]; omega
      · have h0f : ((k : Int) == 0) = false := by simp; omega
        go_wp2_with fail
        go_loopw [10, 11] (fun sm i wr => ∃ (j : Nat) (q : Int), k ≤ j ∧ j ≤ min (k + 7) n1 ∧ i = .int .i64 j ∧ sm = .int .i64 q ∧ 0 ≤ q ∧ q ≤ 1799 * (j - k) ∧ Hid (q + rowSum r ((x.take (min (k + 7) n1)).drop j) = wk) ∧ Later wo wr) (fun _ i _ => n1 - (intOf i).toNat)
        case atStart => exact ⟨k, 0, by omega, hmk, rfl, rfl, by omega, by omega, (by show _ = _; rw [HS.out]; simp), inferInstance⟩
        case round =>
          obtain ⟨j, q, hkj, hj, rfl, rfl, hq0, hq1, HG, hY⟩ := hrel
          have hX2 := hX.trans hY
          have hU2 := hU.trans hY
          by_cases hjt : j < min (k + 7) n1
          · have hjx : j < x.length := by have := Hln.out; omega
            have hs := List.getElem?_eq_getElem hjx
            generalize x[j] = s at hs
            have hbd := cellLen_bd Ok.out (HM.out s (List.mem_of_getElem? hs))
            have hbd1 : 0 ≤ lenOn r d j := by rw [lenOn_at hx.out hs]; exact hbd.1
            have hbd2 : lenOn r d j ≤ 1799 := by rw [lenOn_at hx.out hs]; exact hbd.2
            have HG1 : Hid (q + lenOn r d j + rowSum r ((x.take (min (k + 7) n1)).drop (j + 1)) = wk) := by
              show _ = _
              rw [← HG.out, drop_at (take_at hs hjt), lenOn_at hx.out hs]
              simp only [rowSum]
              omega
            clear hs hbd
            have hj1 : (j : Int) < (k : Int) + 7 := by omega
            have hj2 : j < n1 := by omega
            by_cases hmn : (k : Int) + 7 < n1
            · go_wp2_with first
                | (go_at_call 88; refine (spec_l1Least_l (by omega) _).mono ?_; rintro e w' ⟨rfl, rfl⟩)
                | (go_at_call 86; refine (spec_l14Length h inferInstance Ok.out hd (by have := hxd.out; omega)).mono ?_; rintro e w1 ⟨rfl, hL⟩; have hV := Later.trans (w := wr) inferInstance hL; have hY2 := hY.trans hV; have hX3 := hX.trans hY2; have hU3 := hU.trans hY2)
              go_roundw
              case rel => exact ⟨j + 1, q + lenOn r d j, by omega, by omega, by go_num, rfl, by omega, by omega, HG1, inferInstance⟩
              case measure => simp [intOf]; omega
            · go_wp2_with first
                | (go_at_call 88; refine (spec_l1Least_r (by omega) _).mono ?_; rintro e w' ⟨rfl, rfl⟩)
                | (go_at_call 86; refine (spec_l14Length h inferInstance Ok.out hd (by have := hxd.out; omega)).mono ?_; rintro e w1 ⟨rfl, hL⟩; have hV := Later.trans (w := wr) inferInstance hL; have hY2 := hY.trans hV; have hX3 := hX.trans hY2; have hU3 := hU.trans hY2)
              go_roundw
              case rel => exact ⟨j + 1, q + lenOn r d j, by omega, by omega, by go_num, rfl, by omega, by omega, HG1, inferInstance⟩
              case measure => simp [intOf]; omega
          · have HG2 : Hid (q = wk) := by
              show _ = _
              have h3 := HG.out
              rw [List.drop_eq_nil_of_le (by simp; omega)] at h3
              simpa [rowSum] using h3
            clear HG
            have hqw := HG2.out
            subst hqw
            have hj1 : ¬ ((j : Int) < (k : Int) + 7 ∧ (j : Int) < n1) := by omega
            have hw0 := HB.out.1
            have hw1 := HB.out.2
            by_cases hbig : c < q
            · have HF3 := HF2.out
              rw [if_pos hbig] at HF3
              have HF4 := Lib.hid HF3
              clear HF3 HF2
              by_cases hmn : (k : Int) + 7 < n1
              · have hj4 : ¬ (j : Int) < (k : Int) + 7 := by omega
                go_wp2_with (go_at_call 88; refine (spec_l1Least_l (by omega) _).mono ?_; rintro e w' ⟨rfl, rfl⟩)
                go_roundw
                case rel => exact ⟨k + 1, k, q, by omega, by go_num, rfl, rfl, by omega, by omega, by omega, by omega, HF4, inferInstance⟩
                case measure => simp [intOf]; omega
              · have hj4 : ¬ (j : Int) < n1 := by omega
                go_wp2_with (go_at_call 88; refine (spec_l1Least_r (by omega) _).mono ?_; rintro e w' ⟨rfl, rfl⟩)
                go_roundw
                case rel => exact ⟨k + 1, k, q, by omega, by go_num, rfl, rfl, by omega, by omega, by omega, by omega, HF4, inferInstance⟩
                case measure => simp [intOf]; omega
            · have HF3 := HF2.out
              rw [if_neg hbig] at HF3
              have HF4 := Lib.hid HF3
              clear HF3 HF2
              by_cases hmn : (k : Int) + 7 < n1
              · have hj4 : ¬ (j : Int) < (k : Int) + 7 := by omega
                go_wp2_with (go_at_call 88; refine (spec_l1Least_l (by omega) _).mono ?_; rintro e w' ⟨rfl, rfl⟩)
                go_roundw
                case rel => exact ⟨k + 1, a, c, by omega, by go_num, rfl, rfl, by omega, by omega, by omega, by omega, HF4, inferInstance⟩
                case measure => simp [intOf]; omega
              · have hj4 : ¬ (j : Int) < n1 := by omega
                go_wp2_with (go_at_call 88; refine (spec_l1Least_r (by omega) _).mono ?_; rintro e w' ⟨rfl, rfl⟩)
                go_roundw
                case rel => exact ⟨k + 1, a, c, by omega, by go_num, rfl, rfl, by omega, by omega, by omega, by omega, HF4, inferInstance⟩
                case measure => simp [intOf]; omega
    · have hkw : k = weeks n1 := by omega
      have hcond : 0 < k ∧ (n1 : Int) < (k : Int) + 7 := by unfold weeks at hkw hwn1; split at hkw <;> omega
      obtain ⟨h01, h02⟩ := hcond
      have HE : Hid (busiest r d = (a, c)) := by
        show _ = _
        unfold busiest
        rw [HW.out, ← Hln.out, ← HF.out, hkw, Nat.sub_self]; rfl
      have HE2 : Hid ((busiest r d).1 = a ∧ (busiest r d).2 = c) := by show _ ∧ _; rw [HE.out]; exact ⟨rfl, rfl⟩
      have hk14 : k ≤ 14 := by omega
      clear HF hkw
      have h0f : ((k : Int) == 0) = false := by simp; omega
      go_wp2
      go_ret2
      exact ⟨by rw [HE2.out.1, HE2.out.2]; rfl, inferInstance⟩
set_option maxHeartbeats 800000 in
theorem impl_busiestWeek {w0 w : World} {sA0 : Option Addr} {sn0 sc0 : Nat} {sA1 : Option Addr} {sn1 sc1 : Nat} {r : Roster} (h : RosterAt w0 sA0 sn0 sc0 sA1 sn1 sc1 r) (hl : Later w0 w) (ok : RosterFacts r) {d : Nat} (hd : d < r.Plan.length) :
    Calls Try.prog 63 #[.agg #[.slice sA0 sn0 sc0, .int .i64 r.Rules.MinRest, .int .i64 r.Rules.MaxRow, .int .i64 r.Rules.MaxWeek, .slice sA1 sn1 sc1], .int .i64 d] w (Ret (.tuple #[.int .i64 (busiest r d).1, .int .i64 (busiest r d).2]) w) := by
  replace h := h.later hl
  have hP := h.l_Plan
  have hm := hP.le
  have hdn : d < sn1 := by rw [hP.len]; exact hd
  obtain ⟨b, o, A1, n1, c1, x, rfl, hx, hc0, hi⟩ := Sl.row_ hP hdn
  have hn1 := hi.le
  have Hi := Lib.hid hi
  have Ok := Lib.hid ok
  have hxl := ok.row d x hx.out
  have hxd : Hid (n1 = days r) := by show _ = _; rw [hi.len, hxl.1]; rfl
  have hn14 : n1 ≤ 14 := by have := ok.days; have := hxd.out; omega
  have hn01 : 1 ≤ n1 := by have := ok.days; have := hxd.out; omega
  have HM := Lib.hid (ok.mem hx.out)
  have HW : Hid (rowOf r d = x) := rowOf_eq hx.out
  have Hln := Lib.hid hi.len
  have hwn : weeks n1 ≤ n1 := by unfold weeks; split <;> omega
  have hwn1 : 1 ≤ weeks n1 := by unfold weeks; split <;> omega
  clear hi ok hxl
  have HB0 : ∀ W [Later (w.alloc (.cells #[.slice sA0 sn0 sc0, .int .i64 r.Rules.MinRest, .int .i64 r.Rules.MaxRow, .int .i64 r.Rules.MaxWeek, .slice (some ⟨b, o, none⟩) sn1 sc1] 45)) W] (j : Nat), W.cell? ⟨w.heap.size, j, none⟩ = #[.slice sA0 sn0 sc0, .int .i64 r.Rules.MinRest, .int .i64 r.Rules.MaxRow, .int .i64 r.Rules.MaxWeek, .slice (some ⟨b, o, none⟩) sn1 sc1][j]? := Later.boxes (t := 45) (fr := (0, 0)) (heap_new (by simp; try omega))
  go_enter Try.func63, Try.ntmps63
  go_wp2
  go_loopw [7, 8, 9] (fun bo mo i wr => ∃ (k : Nat) (a c : Int), k ≤ weeks n1 ∧ i = .int .i64 k ∧ bo = .int .i64 a ∧ mo = .int .i64 c ∧ 0 ≤ a ∧ a ≤ 14 ∧ -1 ≤ c ∧ c ≤ 12593 ∧ Hid (wkGo r x (weeks n1 - k) k a c = wkGo r x (weeks n1) 0 0 (-1)) ∧ Later (w.alloc (.cells #[.slice sA0 sn0 sc0, .int .i64 r.Rules.MinRest, .int .i64 r.Rules.MaxRow, .int .i64 r.Rules.MaxWeek, .slice (some ⟨b, o, none⟩) sn1 sc1] 45)) wr) (fun _ _ i _ => weeks n1 - (intOf i).toNat)
  case atStart => exact ⟨0, 0, -1, by omega, rfl, rfl, rfl, by omega, by omega, by omega, by omega, rfl, inferInstance⟩
  case round =>
    obtain ⟨k, a, c, hk, rfl, rfl, rfl, ha0, ha1, hc0', hc1', HF, hX⟩ := hrel
    have hU := Later.trans (w := w) inferInstance hX
    by_cases hlt : k < weeks n1
    · have hbd := weekOf_bd Ok.out x k HM.out
      have HF1 := HF.out
      rw [show weeks n1 - k = (weeks n1 - (k + 1)) + 1 from by omega] at HF1
      simp only [wkGo] at HF1
      have hcond : k = 0 ∨ 0 < k ∧ (k : Int) + 7 ≤ n1 := by unfold weeks at hlt; split at hlt <;> omega
      have HS : Hid (weekOf r x k = rowSum r ((x.take (min (k + 7) n1)).drop k)) := by show _ = _; unfold weekOf; rw [Hln.out]
      generalize weekOf r x k = wk at HS hbd HF1
      have HF2 := Lib.hid HF1
      clear HF HF1
      have HB := Lib.hid hbd
      have hmk : k ≤ min (k + 7) n1 := by omega
      obtain ⟨wo, rfl⟩ : ∃ wo : World, wo = wr := ⟨_, rfl⟩
      rcases hcond with h00 | ⟨h01, h02⟩
      · have h0e : ((k : Int) == 0) = true := by rw [h00]; rfl
        have H00 := Lib.hid h00
        clear h00
        go_wp2_with fail
        go_loopw [10, 11] (fun sm i wr => ∃ (j : Nat) (q : Int), k ≤ j ∧ j ≤ min (k + 7) n1 ∧ i = .int .i64 j ∧ sm = .int .i64 q ∧ 0 ≤ q ∧ q ≤ 1799 * (j - k) ∧ Hid (q + rowSum r ((x.take (min (k + 7) n1)).drop j) = wk) ∧ Later wo wr) (fun _ i _ => n1 - (intOf i).toNat)
        case atStart => exact ⟨k, 0, by omega, hmk, rfl, rfl, by omega, by omega, (by show _ = _; rw [HS.out]; simp), inferInstance⟩
        case round =>
          obtain ⟨j, q, hkj, hj, rfl, rfl, hq0, hq1, HG, hY⟩ := hrel
          have hX2 := hX.trans hY
          have hU2 := hU.trans hY
          by_cases hjt : j < min (k + 7) n1
          · have hjx : j < x.length := by have := Hln.out; omega
            have hs := List.getElem?_eq_getElem hjx
            generalize x[j] = s at hs
            have hbd := cellLen_bd Ok.out (HM.out s (List.mem_of_getElem? hs))
            have hbd1 : 0 ≤ lenOn r d j := by rw [lenOn_at hx.out hs]; exact hbd.1
            have hbd2 : lenOn r d j ≤ 1799 := by rw [lenOn_at hx.out hs]; exact hbd.2
            have HG1 : Hid (q + lenOn r d j + rowSum r ((x.take (min (k + 7) n1)).drop (j + 1)) = wk) := by
              show _ = _
              rw [← HG.out, drop_at (take_at hs hjt), lenOn_at hx.out hs]
              simp only [rowSum]
              omega
            clear hs hbd
            have hj1 : (j : Int) < (k : Int) + 7 := by omega
            have hj2 : j < n1 := by omega
            by_cases hmn : (k : Int) + 7 < n1
            · go_wp2_with first
                | (go_at_call 88; refine (spec_l1Least_l (by omega) _).mono ?_; rintro e w' ⟨rfl, rfl⟩)
                | (go_at_call 87; refine (impl_minutesOn h inferInstance Ok.out hd (by have := hxd.out; omega)).mono ?_; rintro e w1 ⟨rfl, hL⟩; have hV := Later.trans (w := wr) inferInstance hL; have hY2 := hY.trans hV; have hX3 := hX.trans hY2; have hU3 := hU.trans hY2)
              go_roundw
              case rel => exact ⟨j + 1, q + lenOn r d j, by omega, by omega, by go_num, rfl, by omega, by omega, HG1, inferInstance⟩
              case measure => simp [intOf]; omega
            · go_wp2_with first
                | (go_at_call 88; refine (spec_l1Least_r (by omega) _).mono ?_; rintro e w' ⟨rfl, rfl⟩)
                | (go_at_call 87; refine (impl_minutesOn h inferInstance Ok.out hd (by have := hxd.out; omega)).mono ?_; rintro e w1 ⟨rfl, hL⟩; have hV := Later.trans (w := wr) inferInstance hL; have hY2 := hY.trans hV; have hX3 := hX.trans hY2; have hU3 := hU.trans hY2)
              go_roundw
              case rel => exact ⟨j + 1, q + lenOn r d j, by omega, by omega, by go_num, rfl, by omega, by omega, HG1, inferInstance⟩
              case measure => simp [intOf]; omega
          · have HG2 : Hid (q = wk) := by
              show _ = _
              have h3 := HG.out
              rw [List.drop_eq_nil_of_le (by simp; omega)] at h3
              simpa [rowSum] using h3
            clear HG
            have hqw := HG2.out
            subst hqw
            have hj1 : ¬ ((j : Int) < (k : Int) + 7 ∧ (j : Int) < n1) := by omega
            have hw0 := HB.out.1
            have hw1 := HB.out.2
            by_cases hbig : c < q
            · have HF3 := HF2.out
              rw [if_pos hbig] at HF3
              have HF4 := Lib.hid HF3
              clear HF3 HF2
              by_cases hmn : (k : Int) + 7 < n1
              · have hj4 : ¬ (j : Int) < (k : Int) + 7 := by omega
                go_wp2_with (go_at_call 88; refine (spec_l1Least_l (by omega) _).mono ?_; rintro e w' ⟨rfl, rfl⟩)
                go_roundw
                case rel => exact ⟨k + 1, k, q, by omega, by go_num, rfl, rfl, by omega, by omega, by omega, by omega, HF4, inferInstance⟩
                case measure => simp [intOf]; omega
              · have hj4 : ¬ (j : Int) < n1 := by omega
                go_wp2_with (go_at_call 88; refine (spec_l1Least_r (by omega) _).mono ?_; rintro e w' ⟨rfl, rfl⟩)
                go_roundw
                case rel => exact ⟨k + 1, k, q, by omega, by go_num, rfl, rfl, by omega, by omega, by omega, by omega, HF4, inferInstance⟩
                case measure => simp [intOf]; omega
            · have HF3 := HF2.out
              rw [if_neg hbig] at HF3
              have HF4 := Lib.hid HF3
              clear HF3 HF2
              by_cases hmn : (k : Int) + 7 < n1
              · have hj4 : ¬ (j : Int) < (k : Int) + 7 := by omega
                go_wp2_with (go_at_call 88; refine (spec_l1Least_l (by omega) _).mono ?_; rintro e w' ⟨rfl, rfl⟩)
                go_roundw
                case rel => exact ⟨k + 1, a, c, by omega, by go_num, rfl, rfl, by omega, by omega, by omega, by omega, HF4, inferInstance⟩
                case measure => simp [intOf]; omega
              · have hj4 : ¬ (j : Int) < n1 := by omega
                go_wp2_with (go_at_call 88; refine (spec_l1Least_r (by omega) _).mono ?_; rintro e w' ⟨rfl, rfl⟩)
                go_roundw
                case rel => exact ⟨k + 1, a, c, by omega, by go_num, rfl, rfl, by omega, by omega, by omega, by omega, HF4, inferInstance⟩
                case measure => simp [intOf]; omega
      · have h0f : ((k : Int) == 0) = false := by simp; omega
        go_wp2_with fail
        go_loopw [10, 11] (fun sm i wr => ∃ (j : Nat) (q : Int), k ≤ j ∧ j ≤ min (k + 7) n1 ∧ i = .int .i64 j ∧ sm = .int .i64 q ∧ 0 ≤ q ∧ q ≤ 1799 * (j - k) ∧ Hid (q + rowSum r ((x.take (min (k + 7) n1)).drop j) = wk) ∧ Later wo wr) (fun _ i _ => n1 - (intOf i).toNat)
        case atStart => exact ⟨k, 0, by omega, hmk, rfl, rfl, by omega, by omega, (by show _ = _; rw [HS.out]; simp), inferInstance⟩
        case round =>
          obtain ⟨j, q, hkj, hj, rfl, rfl, hq0, hq1, HG, hY⟩ := hrel
          have hX2 := hX.trans hY
          have hU2 := hU.trans hY
          by_cases hjt : j < min (k + 7) n1
          · have hjx : j < x.length := by have := Hln.out; omega
            have hs := List.getElem?_eq_getElem hjx
            generalize x[j] = s at hs
            have hbd := cellLen_bd Ok.out (HM.out s (List.mem_of_getElem? hs))
            have hbd1 : 0 ≤ lenOn r d j := by rw [lenOn_at hx.out hs]; exact hbd.1
            have hbd2 : lenOn r d j ≤ 1799 := by rw [lenOn_at hx.out hs]; exact hbd.2
            have HG1 : Hid (q + lenOn r d j + rowSum r ((x.take (min (k + 7) n1)).drop (j + 1)) = wk) := by
              show _ = _
              rw [← HG.out, drop_at (take_at hs hjt), lenOn_at hx.out hs]
              simp only [rowSum]
              omega
            clear hs hbd
            have hj1 : (j : Int) < (k : Int) + 7 := by omega
            have hj2 : j < n1 := by omega
            by_cases hmn : (k : Int) + 7 < n1
            · go_wp2_with first
                | (go_at_call 88; refine (spec_l1Least_l (by omega) _).mono ?_; rintro e w' ⟨rfl, rfl⟩)
                | (go_at_call 87; refine (impl_minutesOn h inferInstance Ok.out hd (by have := hxd.out; omega)).mono ?_; rintro e w1 ⟨rfl, hL⟩; have hV := Later.trans (w := wr) inferInstance hL; have hY2 := hY.trans hV; have hX3 := hX.trans hY2; have hU3 := hU.trans hY2)
              go_roundw
              case rel => exact ⟨j + 1, q + lenOn r d j, by omega, by omega, by go_num, rfl, by omega, by omega, HG1, inferInstance⟩
              case measure => simp [intOf]; omega
            · go_wp2_with first
                | (go_at_call 88; refine (spec_l1Least_r (by omega) _).mono ?_; rintro e w' ⟨rfl, rfl⟩)
                | (go_at_call 87; refine (impl_minutesOn h inferInstance Ok.out hd (by have := hxd.out; omega)).mono ?_; rintro e w1 ⟨rfl, hL⟩; have hV := Later.trans (w := wr) inferInstance hL; have hY2 := hY.trans hV; have hX3 := hX.trans hY2; have hU3 := hU.trans hY2)
              go_roundw
              case rel => exact ⟨j + 1, q + lenOn r d j, by omega, by omega, by go_num, rfl, by omega, by omega, HG1, inferInstance⟩
              case measure => simp [intOf]; omega
          · have HG2 : Hid (q = wk) := by
              show _ = _
              have h3 := HG.out
              rw [List.drop_eq_nil_of_le (by simp; omega)] at h3
              simpa [rowSum] using h3
            clear HG
            have hqw := HG2.out
            subst hqw
            have hj1 : ¬ ((j : Int) < (k : Int) + 7 ∧ (j : Int) < n1) := by omega
            have hw0 := HB.out.1
            have hw1 := HB.out.2
            by_cases hbig : c < q
            · have HF3 := HF2.out
              rw [if_pos hbig] at HF3
              have HF4 := Lib.hid HF3
              clear HF3 HF2
              by_cases hmn : (k : Int) + 7 < n1
              · have hj4 : ¬ (j : Int) < (k : Int) + 7 := by omega
                go_wp2_with (go_at_call 88; refine (spec_l1Least_l (by omega) _).mono ?_; rintro e w' ⟨rfl, rfl⟩)
                go_roundw
                case rel => exact ⟨k + 1, k, q, by omega, by go_num, rfl, rfl, by omega, by omega, by omega, by omega, HF4, inferInstance⟩
                case measure => simp [intOf]; omega
              · have hj4 : ¬ (j : Int) < n1 := by omega
                go_wp2_with (go_at_call 88; refine (spec_l1Least_r (by omega) _).mono ?_; rintro e w' ⟨rfl, rfl⟩)
                go_roundw
                case rel => exact ⟨k + 1, k, q, by omega, by go_num, rfl, rfl, by omega, by omega, by omega, by omega, HF4, inferInstance⟩
                case measure => simp [intOf]; omega
            · have HF3 := HF2.out
              rw [if_neg hbig] at HF3
              have HF4 := Lib.hid HF3
              clear HF3 HF2
              by_cases hmn : (k : Int) + 7 < n1
              · have hj4 : ¬ (j : Int) < (k : Int) + 7 := by omega
                go_wp2_with (go_at_call 88; refine (spec_l1Least_l (by omega) _).mono ?_; rintro e w' ⟨rfl, rfl⟩)
                go_roundw
                case rel => exact ⟨k + 1, a, c, by omega, by go_num, rfl, rfl, by omega, by omega, by omega, by omega, HF4, inferInstance⟩
                case measure => simp [intOf]; omega
              · have hj4 : ¬ (j : Int) < n1 := by omega
                go_wp2_with (go_at_call 88; refine (spec_l1Least_r (by omega) _).mono ?_; rintro e w' ⟨rfl, rfl⟩)
                go_roundw
                case rel => exact ⟨k + 1, a, c, by omega, by go_num, rfl, rfl, by omega, by omega, by omega, by omega, HF4, inferInstance⟩
                case measure => simp [intOf]; omega
    · have hkw : k = weeks n1 := by omega
      have hcond : 0 < k ∧ (n1 : Int) < (k : Int) + 7 := by unfold weeks at hkw hwn1; split at hkw <;> omega
      obtain ⟨h01, h02⟩ := hcond
      have HE : Hid (busiest r d = (a, c)) := by
        show _ = _
        unfold busiest
        rw [HW.out, ← Hln.out, ← HF.out, hkw, Nat.sub_self]; rfl
      have HE2 : Hid ((busiest r d).1 = a ∧ (busiest r d).2 = c) := by show _ ∧ _; rw [HE.out]; exact ⟨rfl, rfl⟩
      have hk14 : k ≤ 14 := by omega
      clear HF hkw
      have h0f : ((k : Int) == 0) = false := by simp; omega
      go_wp2
      go_ret2
      exact ⟨by rw [HE2.out.1, HE2.out.2]; rfl, inferInstance⟩
def busiestRes (r : Roster) (d : Int) : Int × Int × Bool := if asked r d then ((busiest r d.toNat).1, (busiest r d.toNat).2, true) else (0, 0, false)
theorem spec_BusiestWeek {w0 w : World} {sA0 : Option Addr} {sn0 sc0 : Nat} {sA1 : Option Addr} {sn1 sc1 : Nat} {r : Roster} (h : RosterAt w0 sA0 sn0 sc0 sA1 sn1 sc1 r) (hl : Later w0 w) (d : Int) :
    Calls Try.prog 30 #[.agg #[.slice sA0 sn0 sc0, .int .i64 r.Rules.MinRest, .int .i64 r.Rules.MaxRow, .int .i64 r.Rules.MaxWeek, .slice sA1 sn1 sc1], .int .i64 d] w (Ret (.tuple #[.int .i64 (busiestRes r d).1, .int .i64 (busiestRes r d).2.1, .bool (busiestRes r d).2.2]) w) := by
  have HB0 : ∀ W [Later (w.alloc (.cells #[.slice sA0 sn0 sc0, .int .i64 r.Rules.MinRest, .int .i64 r.Rules.MaxRow, .int .i64 r.Rules.MaxWeek, .slice sA1 sn1 sc1] 45)) W] (j : Nat), W.cell? ⟨w.heap.size, j, none⟩ = #[.slice sA0 sn0 sc0, .int .i64 r.Rules.MinRest, .int .i64 r.Rules.MaxRow, .int .i64 r.Rules.MaxWeek, .slice sA1 sn1 sc1][j]? := Later.boxes (t := 45) (fr := (0, 0)) (heap_new (by simp; try omega))
  by_cases ha : asked r d = true
  · obtain ⟨hv, hi, m, rfl, hm⟩ := asked_t ha
    have ok := Lib.hid (rosterFacts hv)
    rw [show busiestRes r m = ((busiest r m).1, (busiest r m).2, true) from by simp [busiestRes, ha]]
    clear hv hi
    go_enter Try.func30, Try.ntmps30
    go_wp2_with first
      | (go_at_call 56; refine (spec_l14Asked h (Later.trans hl inferInstance) _).mono ?_; rintro e w1 ⟨rfl, hL⟩; have hX := Later.trans (w := (w.alloc (.cells #[.slice sA0 sn0 sc0, .int .i64 r.Rules.MinRest, .int .i64 r.Rules.MaxRow, .int .i64 r.Rules.MaxWeek, .slice sA1 sn1 sc1] 45))) inferInstance hL; have hU := Later.trans (w := w) inferInstance hL; simp only [asked] at ha)
      | (go_at_call 62; refine (spec_l14Week h (Later.trans hl inferInstance) ok.out hm).mono ?_; rintro e w2 ⟨rfl, hL2⟩; have hV := Later.trans (w := w) inferInstance hL2)
    go_ret3
    exact ⟨rfl, inferInstance⟩
  · rw [show busiestRes r d = (0, 0, false) from by simp [busiestRes, ha]]
    simp only [asked, Bool.not_eq_true] at ha
    go_enter Try.func30, Try.ntmps30
    go_wp2_with
      (go_at_call 56; refine (spec_l14Asked h (Later.trans hl inferInstance) _).mono ?_; rintro e w1 ⟨rfl, hL⟩; have hX := Later.trans (w := (w.alloc (.cells #[.slice sA0 sn0 sc0, .int .i64 r.Rules.MinRest, .int .i64 r.Rules.MaxRow, .int .i64 r.Rules.MaxWeek, .slice sA1 sn1 sc1] 45))) inferInstance hL; have hU := Later.trans (w := w) inferInstance hL)
    go_ret3
    exact ⟨rfl, inferInstance⟩
theorem impl_BusiestWeek {w0 w : World} {sA0 : Option Addr} {sn0 sc0 : Nat} {sA1 : Option Addr} {sn1 sc1 : Nat} {r : Roster} (h : RosterAt w0 sA0 sn0 sc0 sA1 sn1 sc1 r) (hl : Later w0 w) (d : Int) :
    Calls Try.prog 31 #[.agg #[.slice sA0 sn0 sc0, .int .i64 r.Rules.MinRest, .int .i64 r.Rules.MaxRow, .int .i64 r.Rules.MaxWeek, .slice sA1 sn1 sc1], .int .i64 d] w (Ret (.tuple #[.int .i64 (busiestRes r d).1, .int .i64 (busiestRes r d).2.1, .bool (busiestRes r d).2.2]) w) := by
  have HB0 : ∀ W [Later (w.alloc (.cells #[.slice sA0 sn0 sc0, .int .i64 r.Rules.MinRest, .int .i64 r.Rules.MaxRow, .int .i64 r.Rules.MaxWeek, .slice sA1 sn1 sc1] 45)) W] (j : Nat), W.cell? ⟨w.heap.size, j, none⟩ = #[.slice sA0 sn0 sc0, .int .i64 r.Rules.MinRest, .int .i64 r.Rules.MaxRow, .int .i64 r.Rules.MaxWeek, .slice sA1 sn1 sc1][j]? := Later.boxes (t := 45) (fr := (0, 0)) (heap_new (by simp; try omega))
  by_cases ha : asked r d = true
  · obtain ⟨hv, hi, m, rfl, hm⟩ := asked_t ha
    have ok := Lib.hid (rosterFacts hv)
    rw [show busiestRes r m = ((busiest r m).1, (busiest r m).2, true) from by simp [busiestRes, ha]]
    clear ha
    go_enter Try.func31, Try.ntmps31
    go_wp2_with first
      | (go_at_call 24; refine (impl_IsValidRoster h (Later.trans hl inferInstance)).mono ?_; rintro e w1 ⟨rfl, hL⟩; have hX := Later.trans (w := (w.alloc (.cells #[.slice sA0 sn0 sc0, .int .i64 r.Rules.MinRest, .int .i64 r.Rules.MaxRow, .int .i64 r.Rules.MaxWeek, .slice sA1 sn1 sc1] 45))) inferInstance hL; have hU := Later.trans (w := w) inferInstance hL)
      | (go_at_call 58; refine (impl_isDriver h (Later.trans hl inferInstance) _).mono ?_; rintro e w2 ⟨rfl, hL2⟩; have hX2 := Later.trans (w := (w.alloc (.cells #[.slice sA0 sn0 sc0, .int .i64 r.Rules.MinRest, .int .i64 r.Rules.MaxRow, .int .i64 r.Rules.MaxWeek, .slice sA1 sn1 sc1] 45))) inferInstance hL2; have hV := Later.trans (w := w) inferInstance hL2)
      | (go_at_call 63; refine (impl_busiestWeek h (Later.trans hl inferInstance) ok.out hm).mono ?_; rintro e w3 ⟨rfl, hL3⟩; have hZ := Later.trans (w := w) inferInstance hL3)
    go_ret3
    exact ⟨rfl, inferInstance⟩
  · rw [show busiestRes r d = (0, 0, false) from by simp [busiestRes, ha]]
    simp only [asked, Bool.not_eq_true] at ha
    by_cases hv : okRoster r = true
    · have hi : inB d 0 ((r.Plan.length : Int) - 1) = false := by simpa [hv] using ha
      clear ha
      go_enter Try.func31, Try.ntmps31
      go_wp2_with first
        | (go_at_call 24; refine (impl_IsValidRoster h (Later.trans hl inferInstance)).mono ?_; rintro e w1 ⟨rfl, hL⟩; have hX := Later.trans (w := (w.alloc (.cells #[.slice sA0 sn0 sc0, .int .i64 r.Rules.MinRest, .int .i64 r.Rules.MaxRow, .int .i64 r.Rules.MaxWeek, .slice sA1 sn1 sc1] 45))) inferInstance hL; have hU := Later.trans (w := w) inferInstance hL)
        | (go_at_call 58; refine (impl_isDriver h (Later.trans hl inferInstance) _).mono ?_; rintro e w2 ⟨rfl, hL2⟩; have hX2 := Later.trans (w := (w.alloc (.cells #[.slice sA0 sn0 sc0, .int .i64 r.Rules.MinRest, .int .i64 r.Rules.MaxRow, .int .i64 r.Rules.MaxWeek, .slice sA1 sn1 sc1] 45))) inferInstance hL2; have hV := Later.trans (w := w) inferInstance hL2)
      go_ret3
      exact ⟨rfl, inferInstance⟩
    · have hv0 : okRoster r = false := by simpa using hv
      clear ha hv
      go_enter Try.func31, Try.ntmps31
      go_wp2_with
        (go_at_call 24; refine (impl_IsValidRoster h (Later.trans hl inferInstance)).mono ?_; rintro e w1 ⟨rfl, hL⟩; have hX := Later.trans (w := (w.alloc (.cells #[.slice sA0 sn0 sc0, .int .i64 r.Rules.MinRest, .int .i64 r.Rules.MaxRow, .int .i64 r.Rules.MaxWeek, .slice sA1 sn1 sc1] 45))) inferInstance hL; have hU := Later.trans (w := w) inferInstance hL)
      go_ret3
      exact ⟨rfl, inferInstance⟩
end Go.Proofs.Ythoappgpkelakaa
