/-
  Rosters: the broken rests.
-/
import Derived.Test.YthoappgpkelakaaRostD
import Derived.Test.YthoappgpkelakaaApp
namespace Go.Proofs.Ythoappgpkelakaa
open Go Go.RowKit
set_option linter.unusedVariables false
def shiftOf (r : Roster) (s : Int) : Span := r.Shifts.getD s.toNat ⟨0, 0⟩
def restsGo (r : Roster) : List Int → Nat → Int → List Int
  | [], _, _ => []
  | s :: l, d, q => if s < 0 then restsGo r l (d + 1) q
    else if 1440 * (d : Int) + (shiftOf r s).From - q < r.Rules.MinRest then (d : Int) :: restsGo r l (d + 1) (1440 * (d : Int) + (shiftOf r s).To)
    else restsGo r l (d + 1) (1440 * (d : Int) + (shiftOf r s).To)
def restsOf (r : Roster) (d : Nat) : List Int := restsGo r (rowOf r d) 0 (-1000000)
theorem restsGo_bd (r : Roster) (l : List Int) (d : Nat) (q : Int) : ∀ y, y ∈ restsGo r l d q → (d : Int) ≤ y ∧ y < (d : Int) + l.length := by
  induction l generalizing d q with
  | nil => intro y hy; simp [restsGo] at hy
  | cons s l ih =>
    intro y hy
    simp only [restsGo] at hy
    simp only [List.length_cons]
    split at hy
    · have := ih _ _ y hy; omega
    · split at hy
      · rcases List.mem_cons.1 hy with h | h
        · omega
        · have := ih _ _ y h; omega
      · have := ih _ _ y hy; omega
theorem restsGo_len (r : Roster) (l : List Int) (d : Nat) (q : Int) : (restsGo r l d q).length ≤ l.length := by
  induction l generalizing d q with
  | nil => simp [restsGo]
  | cons s l ih =>
    simp only [restsGo, List.length_cons]
    split
    · have := ih (d + 1) q; omega
    · split
      · have := ih (d + 1) (1440 * (d : Int) + (shiftOf r s).To); simp; omega
      · have := ih (d + 1) (1440 * (d : Int) + (shiftOf r s).To); omega
set_option maxHeartbeats 800000 in
theorem spec_l14Rests {w0 w : World} {sA0 : Option Addr} {sn0 sc0 : Nat} {sA1 : Option Addr} {sn1 sc1 : Nat} {r : Roster} (h : RosterAt w0 sA0 sn0 sc0 sA1 sn1 sc1 r) (hl : Later w0 w) (ok : RosterFacts r) {d : Nat} (hd : d < r.Plan.length) :
    Calls Try.prog 69 #[.agg #[.slice sA0 sn0 sc0, .int .i64 r.Rules.MinRest, .int .i64 r.Rules.MaxRow, .int .i64 r.Rules.MaxWeek, .slice sA1 sn1 sc1], .int .i64 d] w (RetO 1 oInt (restsOf r d) w) := by
  replace h := h.later hl
  have hP := h.l_Plan
  have hS := h.l_Shifts
  have hm := hP.le
  have hns := hS.le
  have hdn : d < sn1 := by rw [hP.len]; exact hd
  obtain ⟨b, o, A1, n1, c1, x, rfl, hx, hc0, hi⟩ := Sl.row_ hP hdn
  have hn1 := hi.le
  have Hi := Lib.hid hi
  have Ok := Lib.hid ok
  have hxl := ok.row d x hx.out
  have hxd : Hid (n1 = days r) := by show _ = _; rw [hi.len, hxl.1]; rfl
  have hn14 : n1 ≤ 14 := by have := ok.days; have := hxd.out; omega
  have HM := Lib.hid (ok.mem hx.out)
  have HW : Hid (rowOf r d = x) := rowOf_eq hx.out
  have Hln := Lib.hid hi.len
  have HSl := Lib.hid hS.len
  have hmr := ok.rest
  have hmr0 := hmr.1
  have hmr1 := hmr.2
  clear hi ok hxl hmr
  have HB0 : ∀ W [Later (w.alloc (.cells #[.slice sA0 sn0 sc0, .int .i64 r.Rules.MinRest, .int .i64 r.Rules.MaxRow, .int .i64 r.Rules.MaxWeek, .slice (some ⟨b, o, none⟩) sn1 sc1] 45)) W] (j : Nat), W.cell? ⟨w.heap.size, j, none⟩ = #[.slice sA0 sn0 sc0, .int .i64 r.Rules.MinRest, .int .i64 r.Rules.MaxRow, .int .i64 r.Rules.MaxWeek, .slice (some ⟨b, o, none⟩) sn1 sc1][j]? := Later.boxes (t := 45) (fr := (0, 0)) (heap_new (by simp; try omega))
  go_enter Try.func69, Try.ntmps69
  go_wp2
  go_loopw [5, 6, 7] (fun ov la i wr => ∃ (k : Nat) (acc : List Int) (q : Int), k ≤ n1 ∧ i = .int .i64 k ∧ la = .int .i64 q ∧ -1000000 ≤ q ∧ q ≤ 30000 ∧ acc.length ≤ k ∧ Hid (acc ++ restsGo r (x.drop k) k q = restsGo r x 0 (-1000000)) ∧ Hid (wr.ownsRow (w.heap.size + 1) 3 1 ov acc.length (acc.map (Value.int .i64))) ∧ Later (w.alloc (.cells #[.slice sA0 sn0 sc0, .int .i64 r.Rules.MinRest, .int .i64 r.Rules.MaxRow, .int .i64 r.Rules.MaxWeek, .slice (some ⟨b, o, none⟩) sn1 sc1] 45)) wr) (fun _ _ i _ => n1 - (intOf i).toNat)
  case atStart => exact ⟨0, [], -1000000, by omega, rfl, rfl, by omega, by omega, by simp, by show _ = _; simp, Lib.hid (by simpa using World.ownsRow_lit (base := w.heap.size + 1) (w.alloc (.cells #[.slice sA0 sn0 sc0, .int .i64 r.Rules.MinRest, .int .i64 r.Rules.MaxRow, .int .i64 r.Rules.MaxWeek, .slice (some ⟨b, o, none⟩) sn1 sc1] 45)) #[] 0 (by simp; try omega) (by simp [maxLen]) rfl), inferInstance⟩
  case round =>
    obtain ⟨k, acc, q, hk, rfl, rfl, hq0, hq1, hal, HF, hown, hX⟩ := hrel
    have hU := Later.trans (w := w) inferInstance hX
    by_cases hlt : k < n1
    · obtain ⟨b1, o1, s, rfl, hs0, hc1, hsi⟩ := Ints.at_ Hi.out hlt
      have hs := hs0.out
      have HF1 := HF.out
      rw [drop_at hs] at HF1
      simp only [restsGo] at HF1
      by_cases hneg : s < 0
      · rw [if_pos hneg] at HF1
        have HF2 := Lib.hid HF1
        clear HF HF1 hs hs0
        go_wp2_with fail
        go_roundw
        case rel => exact ⟨k + 1, acc, q, by omega, by go_num, rfl, by omega, by omega, by omega, HF2, hown, inferInstance⟩
        case measure => simp [intOf]; omega
      · rw [if_neg hneg] at HF1
        have hsb := HM.out s (List.mem_of_getElem? hs)
        obtain ⟨m, rfl⟩ := Int.eq_ofNat_of_zero_le (show 0 ≤ s by omega)
        have hmn : m < sn0 := by have := HSl.out; omega
        obtain ⟨b2, o2, y, rfl, hy, hc2, hc3, hyi⟩ := Spans.at_ hS hmn
        have hyb := Ok.out.span m y hy.out
        have y1 := hyb.1
        have y2 := hyb.2.1
        have y3 := hyb.2.2
        have hsh : shiftOf r m = y := by unfold shiftOf; simp [List.getD, hy.out]
        rw [hsh] at HF1
        clear hs hs0 hsb hyi hyb hneg hsh hy
        by_cases hbad : 1440 * (k : Int) + y.From - q < r.Rules.MinRest
        · rw [if_pos hbad] at HF1
          have HF2 : Hid ((acc ++ [(k : Int)]) ++ restsGo r (x.drop (k + 1)) (k + 1) (1440 * (k : Int) + y.To) = restsGo r x 0 (-1000000)) := by show _ = _; rw [← HF1]; simp
          clear HF HF1
          go_wp2_with fail
          go_quiet (fail)
          go_wp2_with (at_builtin; refine wpList_app_B rfl _ _ 28 rfl Try.underlying28 infoInt rfl (by decide) (by decide) rfl (by exact hown.out) (hX.trans inferInstance) (by simp) (by have := hX.size; simp at this ⊢; omega) rfl rfl (one_cell _ _) (by omega) ?_; intro v' w1 hown' hX'; have hU' := Later.trans (w := w) inferInstance hX')
          go_roundw
          case rel => exact ⟨k + 1, acc ++ [(k : Int)], 1440 * (k : Int) + y.To, by omega, by go_num, rfl, by omega, by omega, by simp; omega, HF2, by show World.ownsRow _ _ _ _ _ _ _; rw [List.map_append, List.length_append]; exact hown', inferInstance⟩
          case measure => simp [intOf]; omega
        · rw [if_neg hbad] at HF1
          have HF2 := Lib.hid HF1
          clear HF HF1
          go_wp2_with fail
          go_quiet (fail)
          go_wp2_with fail
          go_roundw
          case rel => exact ⟨k + 1, acc, 1440 * (k : Int) + y.To, by omega, by go_num, rfl, by omega, by omega, by omega, HF2, hown, inferInstance⟩
          case measure => simp [intOf]; omega
    · have HE : Hid (acc = restsOf r d) := by
        show _ = _
        have h3 := HF.out
        rw [List.drop_eq_nil_of_le (by have := Hln.out; omega)] at h3
        unfold restsOf
        rw [HW.out]; simpa [restsGo] using h3
      clear HF
      go_wp2
      go_ret
      obtain ⟨A, c, fp, rfl, ho, hnd, hlo⟩ := OSl.ints_of_own hown.out (fun y hy => by
        have := restsGo_bd r x 0 (-1000000) y (by rw [← HW.out]; change y ∈ restsOf r d; rw [← HE.out]; exact hy)
        have := Hln.out
        unfold I64; omega)
      refine ⟨A, acc.length, c, fp, rfl, by rw [← HE.out]; exact ho, hnd, fun g hg => by have := hlo g hg; omega, inferInstance⟩
set_option maxHeartbeats 800000 in
theorem impl_brokenRests {w0 w : World} {sA0 : Option Addr} {sn0 sc0 : Nat} {sA1 : Option Addr} {sn1 sc1 : Nat} {r : Roster} (h : RosterAt w0 sA0 sn0 sc0 sA1 sn1 sc1 r) (hl : Later w0 w) (ok : RosterFacts r) {d : Nat} (hd : d < r.Plan.length) :
    Calls Try.prog 70 #[.agg #[.slice sA0 sn0 sc0, .int .i64 r.Rules.MinRest, .int .i64 r.Rules.MaxRow, .int .i64 r.Rules.MaxWeek, .slice sA1 sn1 sc1], .int .i64 d] w (RetO 1 oInt (restsOf r d) w) := by
  replace h := h.later hl
  have hP := h.l_Plan
  have hS := h.l_Shifts
  have hm := hP.le
  have hns := hS.le
  have hdn : d < sn1 := by rw [hP.len]; exact hd
  obtain ⟨b, o, A1, n1, c1, x, rfl, hx, hc0, hi⟩ := Sl.row_ hP hdn
  have hn1 := hi.le
  have Hi := Lib.hid hi
  have Ok := Lib.hid ok
  have hxl := ok.row d x hx.out
  have hxd : Hid (n1 = days r) := by show _ = _; rw [hi.len, hxl.1]; rfl
  have hn14 : n1 ≤ 14 := by have := ok.days; have := hxd.out; omega
  have HM := Lib.hid (ok.mem hx.out)
  have HW : Hid (rowOf r d = x) := rowOf_eq hx.out
  have Hln := Lib.hid hi.len
  have HSl := Lib.hid hS.len
  have hmr := ok.rest
  have hmr0 := hmr.1
  have hmr1 := hmr.2
  clear hi ok hxl hmr
  have HB0 : ∀ W [Later (w.alloc (.cells #[.slice sA0 sn0 sc0, .int .i64 r.Rules.MinRest, .int .i64 r.Rules.MaxRow, .int .i64 r.Rules.MaxWeek, .slice (some ⟨b, o, none⟩) sn1 sc1] 45)) W] (j : Nat), W.cell? ⟨w.heap.size, j, none⟩ = #[.slice sA0 sn0 sc0, .int .i64 r.Rules.MinRest, .int .i64 r.Rules.MaxRow, .int .i64 r.Rules.MaxWeek, .slice (some ⟨b, o, none⟩) sn1 sc1][j]? := Later.boxes (t := 45) (fr := (0, 0)) (heap_new (by simp; try omega))
  go_enter Try.func70, Try.ntmps70
  go_wp2
  go_loopw [5, 6, 16] (fun ov bf i wr => ∃ (k : Nat) (acc : List Int) (q : Int), k ≤ n1 ∧ i = .int .i64 k ∧ (bf = .int .i64 (-1) ∧ q = -1000000 ∨ ∃ (bd s : Nat) (y : Span), bf = .int .i64 bd ∧ bd < k ∧ Hid (x[bd]? = some (s : Int)) ∧ Hid (r.Shifts[s]? = some y) ∧ q = 1440 * (bd : Int) + y.To) ∧ -1000000 ≤ q ∧ q ≤ 30000 ∧ acc.length ≤ k ∧ Hid (acc ++ restsGo r (x.drop k) k q = restsGo r x 0 (-1000000)) ∧ Hid (wr.ownsRow (w.heap.size + 1) 3 1 ov acc.length (acc.map (Value.int .i64))) ∧ Later (w.alloc (.cells #[.slice sA0 sn0 sc0, .int .i64 r.Rules.MinRest, .int .i64 r.Rules.MaxRow, .int .i64 r.Rules.MaxWeek, .slice (some ⟨b, o, none⟩) sn1 sc1] 45)) wr) (fun _ _ i _ => n1 - (intOf i).toNat)
  case atStart => exact ⟨0, [], -1000000, by omega, rfl, .inl ⟨rfl, rfl⟩, by omega, by omega, by simp, by show _ = _; simp, Lib.hid ⟨rfl, .inl ⟨rfl, rfl⟩⟩, inferInstance⟩
  case round =>
    obtain ⟨k, acc, q, hk, rfl, hbf, hq0, hq1, hal, HF, hown, hX⟩ := hrel
    have hU := Later.trans (w := w) inferInstance hX
    by_cases hlt : k < n1
    · obtain ⟨b1, o1, s, rfl, hs0, hc1, hsi⟩ := Ints.at_ Hi.out hlt
      have hs := hs0.out
      have HF1 := HF.out
      rw [drop_at hs] at HF1
      simp only [restsGo] at HF1
      by_cases hneg : s < 0
      · rw [if_pos hneg] at HF1
        have HF2 := Lib.hid HF1
        have HBF := Lib.hid hbf
        clear HF HF1 hs hs0 hbf
        go_wp2_with fail
        go_roundw
        case rel =>
          refine ⟨k + 1, acc, q, by omega, by go_num, ?_, by omega, by omega, by omega, HF2, hown, inferInstance⟩
          rcases HBF.out with hh | ⟨bd, s', y', e1, e2, e3, e4, e5⟩
          · exact .inl hh
          · exact .inr ⟨bd, s', y', e1, by omega, e3, e4, e5⟩
        case measure => simp [intOf]; omega
      · rw [if_neg hneg] at HF1
        have hsb := HM.out s (List.mem_of_getElem? hs)
        obtain ⟨m, rfl⟩ := Int.eq_ofNat_of_zero_le (show 0 ≤ s by omega)
        have hmn : m < sn0 := by have := HSl.out; omega
        obtain ⟨b2, o2, y, rfl, hy, hc2, hc3, hyi⟩ := Spans.at_ hS hmn
        have hyb := Ok.out.span m y hy.out
        have y1 := hyb.1
        have y2 := hyb.2.1
        have y3 := hyb.2.2
        have hsh : shiftOf r m = y := by unfold shiftOf; simp [List.getD, hy.out]
        rw [hsh] at HF1
        clear hs hsb hyi hyb hneg hsh
        rcases hbf with ⟨rfl, rfl⟩ | ⟨bd, s', y', rfl, hbd, hs1, hy1, rfl⟩
        · rw [if_neg (by omega)] at HF1
          have HF2 := Lib.hid HF1
          clear HF HF1
          go_wp2_with fail
          go_roundw
          case rel => exact ⟨k + 1, acc, 1440 * (k : Int) + y.To, by omega, by go_num, .inr ⟨k, m, y, rfl, by omega, hs0, hy, rfl⟩, by omega, by omega, by omega, HF2, hown, inferInstance⟩
          case measure => simp [intOf]; omega
        · have hbn : bd < n1 := by omega
          obtain ⟨b3, o3, s2, hAA, hs3, hc4, hs4⟩ := Ints.at_ Hi.out hbn
          cases hAA
          obtain rfl : s2 = (s' : Int) := Option.some.inj (hs3.out.symm.trans hs1.out)
          have hmn' : s' < sn0 := by have := HM.out _ (List.mem_of_getElem? hs1.out); have := HSl.out; omega
          obtain ⟨b5, o5, y5, hAA, hy5, hc5, hc6, hyi5⟩ := Spans.at_ hS hmn'
          cases hAA
          obtain rfl : y5 = y' := Option.some.inj (hy5.out.symm.trans hy1.out)
          have hyb5 := Ok.out.span s' y5 hy1.out
          have z1 := hyb5.1
          have z2 := hyb5.2.1
          have z3 := hyb5.2.2
          clear hyb5 hs3 hs4 hy5 hyi5 hs1 hy1
          by_cases hbad : 1440 * (k : Int) + y.From < 1440 * (bd : Int) + y5.To + r.Rules.MinRest
          · rw [if_pos (by omega)] at HF1
            have HF2 : Hid ((acc ++ [(k : Int)]) ++ restsGo r (x.drop (k + 1)) (k + 1) (1440 * (k : Int) + y.To) = restsGo r x 0 (-1000000)) := by show _ = _; rw [← HF1]; simp
            clear HF HF1
            go_wp2_with fail
            go_quiet (fail)
            go_wp2_with fail
            go_quiet (fail)
            go_wp2_with (at_builtin; refine wpList_app_B rfl _ _ 28 rfl Try.underlying28 infoInt rfl (by decide) (by decide) rfl (by exact hown.out) (hX.trans inferInstance) (by simp) (by have := hX.size; simp at this ⊢; omega) rfl rfl (one_cell _ _) (by omega) ?_; intro v' w1 hown' hX'; have hU' := Later.trans (w := w) inferInstance hX')
            go_roundw
            case rel => exact ⟨k + 1, acc ++ [(k : Int)], 1440 * (k : Int) + y.To, by omega, by go_num, .inr ⟨k, m, y, rfl, by omega, hs0, hy, rfl⟩, by omega, by omega, by simp; omega, HF2, by show World.ownsRow _ _ _ _ _ _ _; rw [List.map_append, List.length_append]; exact hown', inferInstance⟩
            case measure => simp [intOf]; omega
          · rw [if_neg (by omega)] at HF1
            have HF2 := Lib.hid HF1
            clear HF HF1
            go_wp2_with fail
            go_quiet (fail)
            go_wp2_with fail
            go_quiet (fail)
            go_wp2_with fail
            go_roundw
            case rel => exact ⟨k + 1, acc, 1440 * (k : Int) + y.To, by omega, by go_num, .inr ⟨k, m, y, rfl, by omega, hs0, hy, rfl⟩, by omega, by omega, by omega, HF2, hown, inferInstance⟩
            case measure => simp [intOf]; omega
    · have HE : Hid (acc = restsOf r d) := by
        show _ = _
        have h3 := HF.out
        rw [List.drop_eq_nil_of_le (by have := Hln.out; omega)] at h3
        unfold restsOf
        rw [HW.out]; simpa [restsGo] using h3
      clear HF
      go_wp2
      go_ret
      obtain ⟨A, c, fp, rfl, ho, hnd, hlo⟩ := OSl.ints_of_own hown.out (fun y hy => by
        have := restsGo_bd r x 0 (-1000000) y (by rw [← HW.out]; change y ∈ restsOf r d; rw [← HE.out]; exact hy)
        have := Hln.out
        unfold I64; omega)
      refine ⟨A, acc.length, c, fp, rfl, by rw [← HE.out]; exact ho, hnd, fun g hg => by have := hlo g hg; omega, inferInstance⟩
def restsRes (r : Roster) (d : Int) : List Int × Bool := if asked r d then (restsOf r d.toNat, true) else ([], false)
theorem restsRes_len (r : Roster) (d : Int) : (restsRes r d).1.length ≤ 14 := by
  unfold restsRes
  split
  · rename_i ha
    obtain ⟨hv, _, m, rfl, hm⟩ := asked_t ha
    have ok := rosterFacts hv
    have h1 := restsGo_len r (rowOf r m) 0 (-1000000)
    have h2 := (ok.row m _ (List.getElem?_eq_getElem hm)).1
    have h3 := ok.days
    have h4 : rowOf r m = r.Plan[m] := rowOf_eq (List.getElem?_eq_getElem hm)
    rw [h4, h2] at h1
    simp only [Int.toNat_natCast]
    unfold restsOf
    rw [h4]
    unfold days at h3
    omega
  · simp
theorem spec_BrokenRests {w0 w : World} {sA0 : Option Addr} {sn0 sc0 : Nat} {sA1 : Option Addr} {sn1 sc1 : Nat} {r : Roster} (h : RosterAt w0 sA0 sn0 sc0 sA1 sn1 sc1 r) (hl : Later w0 w) (d : Int) :
    Calls Try.prog 35 #[.agg #[.slice sA0 sn0 sc0, .int .i64 r.Rules.MinRest, .int .i64 r.Rules.MaxRow, .int .i64 r.Rules.MaxWeek, .slice sA1 sn1 sc1], .int .i64 d] w (RetO2 1 oInt (restsRes r d).1 (restsRes r d).2 w) := by
  have HB0 : ∀ W [Later (w.alloc (.cells #[.slice sA0 sn0 sc0, .int .i64 r.Rules.MinRest, .int .i64 r.Rules.MaxRow, .int .i64 r.Rules.MaxWeek, .slice sA1 sn1 sc1] 45)) W] (j : Nat), W.cell? ⟨w.heap.size, j, none⟩ = #[.slice sA0 sn0 sc0, .int .i64 r.Rules.MinRest, .int .i64 r.Rules.MaxRow, .int .i64 r.Rules.MaxWeek, .slice sA1 sn1 sc1][j]? := Later.boxes (t := 45) (fr := (0, 0)) (heap_new (by simp; try omega))
  by_cases ha : asked r d = true
  · obtain ⟨hv, hi, m, rfl, hm⟩ := asked_t ha
    have ok := Lib.hid (rosterFacts hv)
    rw [show restsRes r m = (restsOf r m, true) from by simp [restsRes, ha]]
    clear hv hi
    go_enter Try.func35, Try.ntmps35
    go_wp2_with first
      | (go_at_call 56; refine (spec_l14Asked h (Later.trans hl inferInstance) _).mono ?_; rintro e w1 ⟨rfl, hL⟩; have hX := Later.trans (w := (w.alloc (.cells #[.slice sA0 sn0 sc0, .int .i64 r.Rules.MinRest, .int .i64 r.Rules.MaxRow, .int .i64 r.Rules.MaxWeek, .slice sA1 sn1 sc1] 45))) inferInstance hL; have hU := Later.trans (w := w) inferInstance hL; simp only [asked] at ha)
      | (go_at_call 69; refine (spec_l14Rests h (Later.trans hl inferInstance) ok.out hm).mono ?_; rintro e w2 ⟨A, n, c, fp, rfl, ho, hnd, hlo, hL2⟩; have hV := Later.trans (w := w) inferInstance hL2)
    go_ret2
    exact ⟨A, n, c, fp, rfl, ho, hnd, fun g hg => Nat.le_trans hU.size (hlo g hg), inferInstance⟩
  · rw [show restsRes r d = ([], false) from by simp [restsRes, ha]]
    simp only [asked, Bool.not_eq_true] at ha
    go_enter Try.func35, Try.ntmps35
    go_wp2_with
      (go_at_call 56; refine (spec_l14Asked h (Later.trans hl inferInstance) _).mono ?_; rintro e w1 ⟨rfl, hL⟩; have hX := Later.trans (w := (w.alloc (.cells #[.slice sA0 sn0 sc0, .int .i64 r.Rules.MinRest, .int .i64 r.Rules.MaxRow, .int .i64 r.Rules.MaxWeek, .slice sA1 sn1 sc1] 45))) inferInstance hL; have hU := Later.trans (w := w) inferInstance hL)
    go_ret2
    exact ⟨_, _, _, [], rfl, OSl.nil_ _, by simp, by simp, inferInstance⟩
theorem impl_BrokenRests {w0 w : World} {sA0 : Option Addr} {sn0 sc0 : Nat} {sA1 : Option Addr} {sn1 sc1 : Nat} {r : Roster} (h : RosterAt w0 sA0 sn0 sc0 sA1 sn1 sc1 r) (hl : Later w0 w) (d : Int) :
    Calls Try.prog 36 #[.agg #[.slice sA0 sn0 sc0, .int .i64 r.Rules.MinRest, .int .i64 r.Rules.MaxRow, .int .i64 r.Rules.MaxWeek, .slice sA1 sn1 sc1], .int .i64 d] w (RetO2 1 oInt (restsRes r d).1 (restsRes r d).2 w) := by
  have HB0 : ∀ W [Later (w.alloc (.cells #[.slice sA0 sn0 sc0, .int .i64 r.Rules.MinRest, .int .i64 r.Rules.MaxRow, .int .i64 r.Rules.MaxWeek, .slice sA1 sn1 sc1] 45)) W] (j : Nat), W.cell? ⟨w.heap.size, j, none⟩ = #[.slice sA0 sn0 sc0, .int .i64 r.Rules.MinRest, .int .i64 r.Rules.MaxRow, .int .i64 r.Rules.MaxWeek, .slice sA1 sn1 sc1][j]? := Later.boxes (t := 45) (fr := (0, 0)) (heap_new (by simp; try omega))
  by_cases ha : asked r d = true
  · obtain ⟨hv, hi, m, rfl, hm⟩ := asked_t ha
    have ok := Lib.hid (rosterFacts hv)
    rw [show restsRes r m = (restsOf r m, true) from by simp [restsRes, ha]]
    clear ha
    go_enter Try.func36, Try.ntmps36
    go_wp2_with first
      | (go_at_call 24; refine (impl_IsValidRoster h (Later.trans hl inferInstance)).mono ?_; rintro e w1 ⟨rfl, hL⟩; have hX := Later.trans (w := (w.alloc (.cells #[.slice sA0 sn0 sc0, .int .i64 r.Rules.MinRest, .int .i64 r.Rules.MaxRow, .int .i64 r.Rules.MaxWeek, .slice sA1 sn1 sc1] 45))) inferInstance hL; have hU := Later.trans (w := w) inferInstance hL)
      | (go_at_call 58; refine (impl_isDriver h (Later.trans hl inferInstance) _).mono ?_; rintro e w2 ⟨rfl, hL2⟩; have hX2 := Later.trans (w := (w.alloc (.cells #[.slice sA0 sn0 sc0, .int .i64 r.Rules.MinRest, .int .i64 r.Rules.MaxRow, .int .i64 r.Rules.MaxWeek, .slice sA1 sn1 sc1] 45))) inferInstance hL2; have hV := Later.trans (w := w) inferInstance hL2)
      | (go_at_call 70; refine (impl_brokenRests h (Later.trans hl inferInstance) ok.out hm).mono ?_; rintro e w3 ⟨A, n, c, fp, rfl, ho, hnd, hlo, hL3⟩; have hZ := Later.trans (w := w) inferInstance hL3)
    go_ret2
    exact ⟨A, n, c, fp, rfl, ho, hnd, fun g hg => Nat.le_trans hV.size (hlo g hg), inferInstance⟩
  · rw [show restsRes r d = ([], false) from by simp [restsRes, ha]]
    simp only [asked, Bool.not_eq_true] at ha
    by_cases hv : okRoster r = true
    · have hi : inB d 0 ((r.Plan.length : Int) - 1) = false := by simpa [hv] using ha
      clear ha
      go_enter Try.func36, Try.ntmps36
      go_wp2_with first
        | (go_at_call 24; refine (impl_IsValidRoster h (Later.trans hl inferInstance)).mono ?_; rintro e w1 ⟨rfl, hL⟩; have hX := Later.trans (w := (w.alloc (.cells #[.slice sA0 sn0 sc0, .int .i64 r.Rules.MinRest, .int .i64 r.Rules.MaxRow, .int .i64 r.Rules.MaxWeek, .slice sA1 sn1 sc1] 45))) inferInstance hL; have hU := Later.trans (w := w) inferInstance hL)
        | (go_at_call 58; refine (impl_isDriver h (Later.trans hl inferInstance) _).mono ?_; rintro e w2 ⟨rfl, hL2⟩; have hX2 := Later.trans (w := (w.alloc (.cells #[.slice sA0 sn0 sc0, .int .i64 r.Rules.MinRest, .int .i64 r.Rules.MaxRow, .int .i64 r.Rules.MaxWeek, .slice sA1 sn1 sc1] 45))) inferInstance hL2; have hV := Later.trans (w := w) inferInstance hL2)
      go_ret2
      exact ⟨_, _, _, [], rfl, OSl.nil_ _, by simp, by simp, inferInstance⟩
    · have hv0 : okRoster r = false := by simpa using hv
      clear ha hv
      go_enter Try.func36, Try.ntmps36
      go_wp2_with
        (go_at_call 24; refine (impl_IsValidRoster h (Later.trans hl inferInstance)).mono ?_; rintro e w1 ⟨rfl, hL⟩; have hX := Later.trans (w := (w.alloc (.cells #[.slice sA0 sn0 sc0, .int .i64 r.Rules.MinRest, .int .i64 r.Rules.MaxRow, .int .i64 r.Rules.MaxWeek, .slice sA1 sn1 sc1] 45))) inferInstance hL; have hU := Later.trans (w := w) inferInstance hL)
      go_ret2
      exact ⟨_, _, _, [], rfl, OSl.nil_ _, by simp, by simp, inferInstance⟩
end Go.Proofs.Ythoappgpkelakaa
