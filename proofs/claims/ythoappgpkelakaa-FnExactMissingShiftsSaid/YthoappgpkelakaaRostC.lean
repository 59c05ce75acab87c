/-
  Rosters: worked minutes, the longest row.
-/
import Derived.Test.YthoappgpkelakaaRostB
namespace Go.Proofs.Ythoappgpkelakaa
open Go Go.RowKit
set_option linter.unusedVariables false
def asked (r : Roster) (d : Int) : Bool := okRoster r && inB d 0 ((r.Plan.length : Int) - 1)
theorem asked_t {r : Roster} {d : Int} (h : asked r d = true) : okRoster r = true ∧ inB d 0 ((r.Plan.length : Int) - 1) = true ∧ ∃ m : Nat, d = m ∧ m < r.Plan.length := by
  simp only [asked, Bool.and_eq_true] at h
  refine ⟨h.1, h.2, d.toNat, ?_⟩
  have := inB_t.1 h.2
  omega
def workedRes (r : Roster) (d : Int) : Int × Bool := if asked r d then (worked r d.toNat, true) else (0, false)
theorem spec_WorkedMinutes {w0 w : World} {sA0 : Option Addr} {sn0 sc0 : Nat} {sA1 : Option Addr} {sn1 sc1 : Nat} {r : Roster} (h : RosterAt w0 sA0 sn0 sc0 sA1 sn1 sc1 r) (hl : Later w0 w) (d : Int) :
    Calls Try.prog 28 #[.agg #[.slice sA0 sn0 sc0, .int .i64 r.Rules.MinRest, .int .i64 r.Rules.MaxRow, .int .i64 r.Rules.MaxWeek, .slice sA1 sn1 sc1], .int .i64 d] w (Ret (.tuple #[.int .i64 (workedRes r d).1, .bool (workedRes r d).2]) w) := by
  have HB0 : ∀ W [Later (w.alloc (.cells #[.slice sA0 sn0 sc0, .int .i64 r.Rules.MinRest, .int .i64 r.Rules.MaxRow, .int .i64 r.Rules.MaxWeek, .slice sA1 sn1 sc1] 45)) W] (j : Nat), W.cell? ⟨w.heap.size, j, none⟩ = #[.slice sA0 sn0 sc0, .int .i64 r.Rules.MinRest, .int .i64 r.Rules.MaxRow, .int .i64 r.Rules.MaxWeek, .slice sA1 sn1 sc1][j]? := Later.boxes (t := 45) (fr := (0, 0)) (heap_new (by simp; try omega))
  by_cases ha : asked r d = true
  · obtain ⟨hv, hi, m, rfl, hm⟩ := asked_t ha
    have ok := Lib.hid (rosterFacts hv)
    rw [show workedRes r m = (worked r m, true) from by simp [workedRes, ha]]
    clear hv hi
    go_enter Try.func28, Try.ntmps28
    go_wp2_with first
      | (go_at_call 56; refine (spec_l14Asked h (Later.trans hl inferInstance) _).mono ?_; rintro e w1 ⟨rfl, hL⟩; have hX := Later.trans (w := (w.alloc (.cells #[.slice sA0 sn0 sc0, .int .i64 r.Rules.MinRest, .int .i64 r.Rules.MaxRow, .int .i64 r.Rules.MaxWeek, .slice sA1 sn1 sc1] 45))) inferInstance hL; have hU := Later.trans (w := w) inferInstance hL; simp only [asked] at ha)
      | (go_at_call 60; refine (spec_l14Worked h (Later.trans hl inferInstance) ok.out hm).mono ?_; rintro e w2 ⟨rfl, hL2⟩; have hV := Later.trans (w := w) inferInstance hL2)
    go_ret2
    exact ⟨rfl, inferInstance⟩
  · rw [show workedRes r d = (0, false) from by simp [workedRes, ha]]
    simp only [asked, Bool.not_eq_true] at ha
    go_enter Try.func28, Try.ntmps28
    go_wp2_with
      (go_at_call 56; refine (spec_l14Asked h (Later.trans hl inferInstance) _).mono ?_; rintro e w1 ⟨rfl, hL⟩; have hX := Later.trans (w := (w.alloc (.cells #[.slice sA0 sn0 sc0, .int .i64 r.Rules.MinRest, .int .i64 r.Rules.MaxRow, .int .i64 r.Rules.MaxWeek, .slice sA1 sn1 sc1] 45))) inferInstance hL; have hU := Later.trans (w := w) inferInstance hL)
    go_ret2
    exact ⟨rfl, inferInstance⟩
theorem impl_WorkedMinutes {w0 w : World} {sA0 : Option Addr} {sn0 sc0 : Nat} {sA1 : Option Addr} {sn1 sc1 : Nat} {r : Roster} (h : RosterAt w0 sA0 sn0 sc0 sA1 sn1 sc1 r) (hl : Later w0 w) (d : Int) :
    Calls Try.prog 29 #[.agg #[.slice sA0 sn0 sc0, .int .i64 r.Rules.MinRest, .int .i64 r.Rules.MaxRow, .int .i64 r.Rules.MaxWeek, .slice sA1 sn1 sc1], .int .i64 d] w (Ret (.tuple #[.int .i64 (workedRes r d).1, .bool (workedRes r d).2]) w) := by
  have HB0 : ∀ W [Later (w.alloc (.cells #[.slice sA0 sn0 sc0, .int .i64 r.Rules.MinRest, .int .i64 r.Rules.MaxRow, .int .i64 r.Rules.MaxWeek, .slice sA1 sn1 sc1] 45)) W] (j : Nat), W.cell? ⟨w.heap.size, j, none⟩ = #[.slice sA0 sn0 sc0, .int .i64 r.Rules.MinRest, .int .i64 r.Rules.MaxRow, .int .i64 r.Rules.MaxWeek, .slice sA1 sn1 sc1][j]? := Later.boxes (t := 45) (fr := (0, 0)) (heap_new (by simp; try omega))
  by_cases ha : asked r d = true
  · obtain ⟨hv, hi, m, rfl, hm⟩ := asked_t ha
    have ok := Lib.hid (rosterFacts hv)
    rw [show workedRes r m = (worked r m, true) from by simp [workedRes, ha]]
    clear ha
    go_enter Try.func29, Try.ntmps29
    go_wp2_with first
      | (go_at_call 24; refine (impl_IsValidRoster h (Later.trans hl inferInstance)).mono ?_; rintro e w1 ⟨rfl, hL⟩; have hX := Later.trans (w := (w.alloc (.cells #[.slice sA0 sn0 sc0, .int .i64 r.Rules.MinRest, .int .i64 r.Rules.MaxRow, .int .i64 r.Rules.MaxWeek, .slice sA1 sn1 sc1] 45))) inferInstance hL; have hU := Later.trans (w := w) inferInstance hL)
      | (go_at_call 58; refine (impl_isDriver h (Later.trans hl inferInstance) _).mono ?_; rintro e w2 ⟨rfl, hL2⟩; have hX2 := Later.trans (w := (w.alloc (.cells #[.slice sA0 sn0 sc0, .int .i64 r.Rules.MinRest, .int .i64 r.Rules.MaxRow, .int .i64 r.Rules.MaxWeek, .slice sA1 sn1 sc1] 45))) inferInstance hL2; have hV := Later.trans (w := w) inferInstance hL2)
      | (go_at_call 61; refine (impl_workedMinutes h (Later.trans hl inferInstance) ok.out hm).mono ?_; rintro e w3 ⟨rfl, hL3⟩; have hZ := Later.trans (w := w) inferInstance hL3)
    go_ret2
    exact ⟨rfl, inferInstance⟩
  · rw [show workedRes r d = (0, false) from by simp [workedRes, ha]]
    simp only [asked, Bool.not_eq_true] at ha
    by_cases hv : okRoster r = true
    · have hi : inB d 0 ((r.Plan.length : Int) - 1) = false := by simpa [hv] using ha
      clear ha
      go_enter Try.func29, Try.ntmps29
      go_wp2_with first
        | (go_at_call 24; refine (impl_IsValidRoster h (Later.trans hl inferInstance)).mono ?_; rintro e w1 ⟨rfl, hL⟩; have hX := Later.trans (w := (w.alloc (.cells #[.slice sA0 sn0 sc0, .int .i64 r.Rules.MinRest, .int .i64 r.Rules.MaxRow, .int .i64 r.Rules.MaxWeek, .slice sA1 sn1 sc1] 45))) inferInstance hL; have hU := Later.trans (w := w) inferInstance hL)
        | (go_at_call 58; refine (impl_isDriver h (Later.trans hl inferInstance) _).mono ?_; rintro e w2 ⟨rfl, hL2⟩; have hX2 := Later.trans (w := (w.alloc (.cells #[.slice sA0 sn0 sc0, .int .i64 r.Rules.MinRest, .int .i64 r.Rules.MaxRow, .int .i64 r.Rules.MaxWeek, .slice sA1 sn1 sc1] 45))) inferInstance hL2; have hV := Later.trans (w := w) inferInstance hL2)
      go_ret2
      exact ⟨rfl, inferInstance⟩
    · have hv0 : okRoster r = false := by simpa using hv
      clear ha hv
      go_enter Try.func29, Try.ntmps29
      go_wp2_with
        (go_at_call 24; refine (impl_IsValidRoster h (Later.trans hl inferInstance)).mono ?_; rintro e w1 ⟨rfl, hL⟩; have hX := Later.trans (w := (w.alloc (.cells #[.slice sA0 sn0 sc0, .int .i64 r.Rules.MinRest, .int .i64 r.Rules.MaxRow, .int .i64 r.Rules.MaxWeek, .slice sA1 sn1 sc1] 45))) inferInstance hL; have hU := Later.trans (w := w) inferInstance hL)
      go_ret2
      exact ⟨rfl, inferInstance⟩
def lrGo : List Int → Int → Int → Int
  | [], most, _ => most
  | s :: l, most, now => lrGo l (mostI most (if s < 0 then 0 else now + 1)) (if s < 0 then 0 else now + 1)
def longest (r : Roster) (d : Nat) : Int := lrGo (rowOf r d) 0 0
theorem lrGo_neg {s : Int} {l : List Int} {a b : Int} (h : s < 0) : lrGo (s :: l) a b = lrGo l (mostI a 0) 0 := by simp [lrGo, h]
theorem lrGo_pos {s : Int} {l : List Int} {a b : Int} (h : ¬ s < 0) : lrGo (s :: l) a b = lrGo l (mostI a (b + 1)) (b + 1) := by simp [lrGo, h]
theorem spec_l14Row {w0 w : World} {sA0 : Option Addr} {sn0 sc0 : Nat} {sA1 : Option Addr} {sn1 sc1 : Nat} {r : Roster} (h : RosterAt w0 sA0 sn0 sc0 sA1 sn1 sc1 r) (hl : Later w0 w) (ok : RosterFacts r) {d : Nat} (hd : d < r.Plan.length) :
    Calls Try.prog 57 #[.agg #[.slice sA0 sn0 sc0, .int .i64 r.Rules.MinRest, .int .i64 r.Rules.MaxRow, .int .i64 r.Rules.MaxWeek, .slice sA1 sn1 sc1], .int .i64 d] w (Ret (.int .i64 (longest r d)) w) := by
  replace h := h.later hl
  have hP := h.l_Plan
  have hm := hP.le
  have hdn : d < sn1 := by rw [hP.len]; exact hd
  obtain ⟨b, o, A1, n1, c1, x, rfl, hx, hc0, hi⟩ := Sl.row_ hP hdn
  have hn1 := hi.le
  have Hi := Lib.hid hi
  have Ok := Lib.hid ok
  have hxl := ok.row d x hx.out
  have hxd : Hid (n1 = days r) := by show _ = _; rw [hi.len, hxl.1]; rfl
  have hn14 : n1 ≤ 14 := by have := ok.days; have := hxd.out; omega
  have HM := Lib.hid (ok.mem hx.out)
  have HW : Hid (rowOf r d = x) := rowOf_eq hx.out
  have Hln := Lib.hid hi.len
  clear hi ok hxl
  have HB0 : ∀ W [Later (w.alloc (.cells #[.slice sA0 sn0 sc0, .int .i64 r.Rules.MinRest, .int .i64 r.Rules.MaxRow, .int .i64 r.Rules.MaxWeek, .slice (some ⟨b, o, none⟩) sn1 sc1] 45)) W] (j : Nat), W.cell? ⟨w.heap.size, j, none⟩ = #[.slice sA0 sn0 sc0, .int .i64 r.Rules.MinRest, .int .i64 r.Rules.MaxRow, .int .i64 r.Rules.MaxWeek, .slice (some ⟨b, o, none⟩) sn1 sc1][j]? := Later.boxes (t := 45) (fr := (0, 0)) (heap_new (by simp; try omega))
  go_enter Try.func57, Try.ntmps57
  go_wp2
  go_loopw [5, 6, 7] (fun mo no i wr => ∃ (k : Nat) (a c : Int), k ≤ n1 ∧ i = .int .i64 k ∧ mo = .int .i64 a ∧ no = .int .i64 c ∧ 0 ≤ a ∧ a ≤ k ∧ 0 ≤ c ∧ c ≤ k ∧ Hid (lrGo (x.drop k) a c = lrGo x 0 0) ∧ Later (w.alloc (.cells #[.slice sA0 sn0 sc0, .int .i64 r.Rules.MinRest, .int .i64 r.Rules.MaxRow, .int .i64 r.Rules.MaxWeek, .slice (some ⟨b, o, none⟩) sn1 sc1] 45)) wr) (fun _ _ i _ => n1 - (intOf i).toNat)
  case atStart => exact ⟨0, 0, 0, by omega, rfl, rfl, rfl, by omega, by omega, by omega, by omega, by show _ = _; simp, inferInstance⟩
  case round =>
    obtain ⟨k, a, c, hk, rfl, rfl, rfl, ha0, ha1, hc0', hc1', HF, hX⟩ := hrel
    have hU := Later.trans (w := w) inferInstance hX
    by_cases hlt : k < n1
    · obtain ⟨b1, o1, s, rfl, hs, hc1, hsi⟩ := Ints.at_ Hi.out hlt
      have HF1 := HF.out
      rw [drop_at hs.out] at HF1
      by_cases hneg : s < 0
      · rw [lrGo_neg hneg] at HF1
        have HF2 := Lib.hid HF1
        have hmo : 0 ≤ mostI a 0 ∧ mostI a 0 ≤ k := by unfold mostI; split <;> omega
        obtain ⟨hmo1, hmo2⟩ := hmo
        clear HF1 hs
        go_wp2_with (go_at_call 85; refine (spec_l1Most _ _ _).mono ?_; rintro e w' ⟨rfl, rfl⟩)
        go_roundw
        case rel => exact ⟨k + 1, mostI a 0, 0, by omega, by go_num, (by first | rfl | (unfold mostI; rw [if_neg (by omega)])), rfl, by omega, by omega, by omega, by omega, HF2, inferInstance⟩
        case measure => simp [intOf]; omega
      · rw [lrGo_pos hneg] at HF1
        have HF2 := Lib.hid HF1
        have hmo : 0 ≤ mostI a (c + 1) ∧ mostI a (c + 1) ≤ k + 1 := by unfold mostI; split <;> omega
        obtain ⟨hmo1, hmo2⟩ := hmo
        clear HF1 hs
        go_wp2_with (go_at_call 85; refine (spec_l1Most _ _ _).mono ?_; rintro e w' ⟨rfl, rfl⟩)
        go_roundw
        case rel => exact ⟨k + 1, mostI a (c + 1), c + 1, by omega, by go_num, rfl, rfl, by omega, by omega, by omega, by omega, HF2, inferInstance⟩
        case measure => simp [intOf]; omega
    · have HE : Hid (a = longest r d) := by
        show _ = _
        have h3 := HF.out
        rw [List.drop_eq_nil_of_le (by have := Hln.out; omega)] at h3
        unfold longest
        rw [HW.out]; simpa [lrGo] using h3
      clear HF
      go_wp2
      go_ret
      exact ⟨ret_int HE.out, inferInstance⟩
theorem impl_longestRow {w0 w : World} {sA0 : Option Addr} {sn0 sc0 : Nat} {sA1 : Option Addr} {sn1 sc1 : Nat} {r : Roster} (h : RosterAt w0 sA0 sn0 sc0 sA1 sn1 sc1 r) (hl : Later w0 w) (ok : RosterFacts r) {d : Nat} (hd : d < r.Plan.length) :
    Calls Try.prog 59 #[.agg #[.slice sA0 sn0 sc0, .int .i64 r.Rules.MinRest, .int .i64 r.Rules.MaxRow, .int .i64 r.Rules.MaxWeek, .slice sA1 sn1 sc1], .int .i64 d] w (Ret (.int .i64 (longest r d)) w) := by
  replace h := h.later hl
  have hP := h.l_Plan
  have hm := hP.le
  have hdn : d < sn1 := by rw [hP.len]; exact hd
  obtain ⟨b, o, A1, n1, c1, x, rfl, hx, hc0, hi⟩ := Sl.row_ hP hdn
  have hn1 := hi.le
  have Hi := Lib.hid hi
  have Ok := Lib.hid ok
  have hxl := ok.row d x hx.out
  have hxd : Hid (n1 = days r) := by show _ = _; rw [hi.len, hxl.1]; rfl
  have hn14 : n1 ≤ 14 := by have := ok.days; have := hxd.out; omega
  have HM := Lib.hid (ok.mem hx.out)
  have HW : Hid (rowOf r d = x) := rowOf_eq hx.out
  have Hln := Lib.hid hi.len
  clear hi ok hxl
  have HB0 : ∀ W [Later (w.alloc (.cells #[.slice sA0 sn0 sc0, .int .i64 r.Rules.MinRest, .int .i64 r.Rules.MaxRow, .int .i64 r.Rules.MaxWeek, .slice (some ⟨b, o, none⟩) sn1 sc1] 45)) W] (j : Nat), W.cell? ⟨w.heap.size, j, none⟩ = #[.slice sA0 sn0 sc0, .int .i64 r.Rules.MinRest, .int .i64 r.Rules.MaxRow, .int .i64 r.Rules.MaxWeek, .slice (some ⟨b, o, none⟩) sn1 sc1][j]? := Later.boxes (t := 45) (fr := (0, 0)) (heap_new (by simp; try omega))
  go_enter Try.func59, Try.ntmps59
  go_wp2
  go_loopw [5, 6, 15] (fun mo no i wr => ∃ (k : Nat) (a c : Int), k ≤ n1 ∧ i = .int .i64 k ∧ mo = .int .i64 a ∧ no = .int .i64 c ∧ 0 ≤ a ∧ a ≤ k ∧ 0 ≤ c ∧ c ≤ k ∧ Hid (lrGo (x.drop k) a c = lrGo x 0 0) ∧ Later (w.alloc (.cells #[.slice sA0 sn0 sc0, .int .i64 r.Rules.MinRest, .int .i64 r.Rules.MaxRow, .int .i64 r.Rules.MaxWeek, .slice (some ⟨b, o, none⟩) sn1 sc1] 45)) wr) (fun _ _ i _ => n1 - (intOf i).toNat)
  case atStart => exact ⟨0, 0, 0, by omega, rfl, rfl, rfl, by omega, by omega, by omega, by omega, by show _ = _; simp, inferInstance⟩
  case round =>
    obtain ⟨k, a, c, hk, rfl, rfl, rfl, ha0, ha1, hc0', hc1', HF, hX⟩ := hrel
    have hU := Later.trans (w := w) inferInstance hX
    by_cases hlt : k < n1
    · obtain ⟨b1, o1, s, rfl, hs, hc1, hsi⟩ := Ints.at_ Hi.out hlt
      have HF1 := HF.out
      rw [drop_at hs.out] at HF1
      by_cases hneg : s < 0
      · rw [lrGo_neg hneg] at HF1
        have HF2 := Lib.hid HF1
        have hmo : 0 ≤ mostI a 0 ∧ mostI a 0 ≤ k := by unfold mostI; split <;> omega
        obtain ⟨hmo1, hmo2⟩ := hmo
        clear HF1 hs
        go_wp2_with (go_at_call 85; refine (spec_l1Most _ _ _).mono ?_; rintro e w' ⟨rfl, rfl⟩)
        go_roundw
        case rel => exact ⟨k + 1, mostI a 0, 0, by omega, by go_num, (by first | rfl | (unfold mostI; rw [if_neg (by omega)])), rfl, by omega, by omega, by omega, by omega, HF2, inferInstance⟩
        case measure => simp [intOf]; omega
      · rw [lrGo_pos hneg] at HF1
        have HF2 := Lib.hid HF1
        have hmo : 0 ≤ mostI a (c + 1) ∧ mostI a (c + 1) ≤ k + 1 := by unfold mostI; split <;> omega
        obtain ⟨hmo1, hmo2⟩ := hmo
        clear HF1 hs
        go_wp2_with (go_at_call 85; refine (spec_l1Most _ _ _).mono ?_; rintro e w' ⟨rfl, rfl⟩)
        go_roundw
        case rel => exact ⟨k + 1, mostI a (c + 1), c + 1, by omega, by go_num, rfl, rfl, by omega, by omega, by omega, by omega, HF2, inferInstance⟩
        case measure => simp [intOf]; omega
    · have HE : Hid (a = longest r d) := by
        show _ = _
        have h3 := HF.out
        rw [List.drop_eq_nil_of_le (by have := Hln.out; omega)] at h3
        unfold longest
        rw [HW.out]; simpa [lrGo] using h3
      clear HF
      go_wp2
      go_ret
      exact ⟨ret_int HE.out, inferInstance⟩
def longestRes (r : Roster) (d : Int) : Int × Bool := if asked r d then (longest r d.toNat, true) else (0, false)
theorem spec_LongestRow {w0 w : World} {sA0 : Option Addr} {sn0 sc0 : Nat} {sA1 : Option Addr} {sn1 sc1 : Nat} {r : Roster} (h : RosterAt w0 sA0 sn0 sc0 sA1 sn1 sc1 r) (hl : Later w0 w) (d : Int) :
    Calls Try.prog 26 #[.agg #[.slice sA0 sn0 sc0, .int .i64 r.Rules.MinRest, .int .i64 r.Rules.MaxRow, .int .i64 r.Rules.MaxWeek, .slice sA1 sn1 sc1], .int .i64 d] w (Ret (.tuple #[.int .i64 (longestRes r d).1, .bool (longestRes r d).2]) w) := by
  have HB0 : ∀ W [Later (w.alloc (.cells #[.slice sA0 sn0 sc0, .int .i64 r.Rules.MinRest, .int .i64 r.Rules.MaxRow, .int .i64 r.Rules.MaxWeek, .slice sA1 sn1 sc1] 45)) W] (j : Nat), W.cell? ⟨w.heap.size, j, none⟩ = #[.slice sA0 sn0 sc0, .int .i64 r.Rules.MinRest, .int .i64 r.Rules.MaxRow, .int .i64 r.Rules.MaxWeek, .slice sA1 sn1 sc1][j]? := Later.boxes (t := 45) (fr := (0, 0)) (heap_new (by simp; try omega))
  by_cases ha : asked r d = true
  · obtain ⟨hv, hi, m, rfl, hm⟩ := asked_t ha
    have ok := Lib.hid (rosterFacts hv)
    rw [show longestRes r m = (longest r m, true) from by simp [longestRes, ha]]
    clear hv hi
    go_enter Try.func26, Try.ntmps26
    go_wp2_with first
      | (go_at_call 56; refine (spec_l14Asked h (Later.trans hl inferInstance) _).mono ?_; rintro e w1 ⟨rfl, hL⟩; have hX := Later.trans (w := (w.alloc (.cells #[.slice sA0 sn0 sc0, .int .i64 r.Rules.MinRest, .int .i64 r.Rules.MaxRow, .int .i64 r.Rules.MaxWeek, .slice sA1 sn1 sc1] 45))) inferInstance hL; have hU := Later.trans (w := w) inferInstance hL; simp only [asked] at ha)
      | (go_at_call 57; refine (spec_l14Row h (Later.trans hl inferInstance) ok.out hm).mono ?_; rintro e w2 ⟨rfl, hL2⟩; have hV := Later.trans (w := w) inferInstance hL2)
    go_ret2
    exact ⟨rfl, inferInstance⟩
  · rw [show longestRes r d = (0, false) from by simp [longestRes, ha]]
    simp only [asked, Bool.not_eq_true] at ha
    go_enter Try.func26, Try.ntmps26
    go_wp2_with
      (go_at_call 56; refine (spec_l14Asked h (Later.trans hl inferInstance) _).mono ?_; rintro e w1 ⟨rfl, hL⟩; have hX := Later.trans (w := (w.alloc (.cells #[.slice sA0 sn0 sc0, .int .i64 r.Rules.MinRest, .int .i64 r.Rules.MaxRow, .int .i64 r.Rules.MaxWeek, .slice sA1 sn1 sc1] 45))) inferInstance hL; have hU := Later.trans (w := w) inferInstance hL)
    go_ret2
    exact ⟨rfl, inferInstance⟩
theorem impl_LongestRow {w0 w : World} {sA0 : Option Addr} {sn0 sc0 : Nat} {sA1 : Option Addr} {sn1 sc1 : Nat} {r : Roster} (h : RosterAt w0 sA0 sn0 sc0 sA1 sn1 sc1 r) (hl : Later w0 w) (d : Int) :
    Calls Try.prog 27 #[.agg #[.slice sA0 sn0 sc0, .int .i64 r.Rules.MinRest, .int .i64 r.Rules.MaxRow, .int .i64 r.Rules.MaxWeek, .slice sA1 sn1 sc1], .int .i64 d] w (Ret (.tuple #[.int .i64 (longestRes r d).1, .bool (longestRes r d).2]) w) := by
  have HB0 : ∀ W [Later (w.alloc (.cells #[.slice sA0 sn0 sc0, .int .i64 r.Rules.MinRest, .int .i64 r.Rules.MaxRow, .int .i64 r.Rules.MaxWeek, .slice sA1 sn1 sc1] 45)) W] (j : Nat), W.cell? ⟨w.heap.size, j, none⟩ = #[.slice sA0 sn0 sc0, .int .i64 r.Rules.MinRest, .int .i64 r.Rules.MaxRow, .int .i64 r.Rules.MaxWeek, .slice sA1 sn1 sc1][j]? := Later.boxes (t := 45) (fr := (0, 0)) (heap_new (by simp; try omega))
  by_cases ha : asked r d = true
  · obtain ⟨hv, hi, m, rfl, hm⟩ := asked_t ha
    have ok := Lib.hid (rosterFacts hv)
    rw [show longestRes r m = (longest r m, true) from by simp [longestRes, ha]]
    clear ha
    go_enter Try.func27, Try.ntmps27
    go_wp2_with first
      | (go_at_call 24; refine (impl_IsValidRoster h (Later.trans hl inferInstance)).mono ?_; rintro e w1 ⟨rfl, hL⟩; have hX := Later.trans (w := (w.alloc (.cells #[.slice sA0 sn0 sc0, .int .i64 r.Rules.MinRest, .int .i64 r.Rules.MaxRow, .int .i64 r.Rules.MaxWeek, .slice sA1 sn1 sc1] 45))) inferInstance hL; have hU := Later.trans (w := w) inferInstance hL)
      | (go_at_call 58; refine (impl_isDriver h (Later.trans hl inferInstance) _).mono ?_; rintro e w2 ⟨rfl, hL2⟩; have hX2 := Later.trans (w := (w.alloc (.cells #[.slice sA0 sn0 sc0, .int .i64 r.Rules.MinRest, .int .i64 r.Rules.MaxRow, .int .i64 r.Rules.MaxWeek, .slice sA1 sn1 sc1] 45))) inferInstance hL2; have hV := Later.trans (w := w) inferInstance hL2)
      | (go_at_call 59; refine (impl_longestRow h (Later.trans hl inferInstance) ok.out hm).mono ?_; rintro e w3 ⟨rfl, hL3⟩; have hZ := Later.trans (w := w) inferInstance hL3)
    go_ret2
    exact ⟨rfl, inferInstance⟩
  · rw [show longestRes r d = (0, false) from by simp [longestRes, ha]]
    simp only [asked, Bool.not_eq_true] at ha
    by_cases hv : okRoster r = true
    · have hi : inB d 0 ((r.Plan.length : Int) - 1) = false := by simpa [hv] using ha
      clear ha
      go_enter Try.func27, Try.ntmps27
      go_wp2_with first
        | (go_at_call 24; refine (impl_IsValidRoster h (Later.trans hl inferInstance)).mono ?_; rintro e w1 ⟨rfl, hL⟩; have hX := Later.trans (w := (w.alloc (.cells #[.slice sA0 sn0 sc0, .int .i64 r.Rules.MinRest, .int .i64 r.Rules.MaxRow, .int .i64 r.Rules.MaxWeek, .slice sA1 sn1 sc1] 45))) inferInstance hL; have hU := Later.trans (w := w) inferInstance hL)
        | (go_at_call 58; refine (impl_isDriver h (Later.trans hl inferInstance) _).mono ?_; rintro e w2 ⟨rfl, hL2⟩; have hX2 := Later.trans (w := (w.alloc (.cells #[.slice sA0 sn0 sc0, .int .i64 r.Rules.MinRest, .int .i64 r.Rules.MaxRow, .int .i64 r.Rules.MaxWeek, .slice sA1 sn1 sc1] 45))) inferInstance hL2; have hV := Later.trans (w := w) inferInstance hL2)
      go_ret2
      exact ⟨rfl, inferInstance⟩
    · have hv0 : okRoster r = false := by simpa using hv
      clear ha hv
      go_enter Try.func27, Try.ntmps27
      go_wp2_with
        (go_at_call 24; refine (impl_IsValidRoster h (Later.trans hl inferInstance)).mono ?_; rintro e w1 ⟨rfl, hL⟩; have hX := Later.trans (w := (w.alloc (.cells #[.slice sA0 sn0 sc0, .int .i64 r.Rules.MinRest, .int .i64 r.Rules.MaxRow, .int .i64 r.Rules.MaxWeek, .slice sA1 sn1 sc1] 45))) inferInstance hL; have hU := Later.trans (w := w) inferInstance hL)
      go_ret2
      exact ⟨rfl, inferInstance⟩
end Go.Proofs.Ythoappgpkelakaa
