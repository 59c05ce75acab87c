/-
  CanFollow: whether one trip can follow another in a block.
-/
import Derived.Test.YtiiafionboeecaaBlk
import Derived.Deep.RegionHeld3
namespace Go.Proofs.Ytiiafionboeecaa
open Go Go.RowKit
set_option linter.unusedVariables false
set_option maxRecDepth 100000
def followOk (t : Timetable) (f : Fleet) (a b : Int) : Prop := okRun t f = true ∧ a ≠ b ∧ 0 ≤ findI t a ∧ 0 ≤ findI t b
instance (t : Timetable) (f : Fleet) (a b : Int) : Decidable (followOk t f a b) := by unfold followOk; infer_instance
def followRes (t : Timetable) (f : Fleet) (a b : Int) : Bool × Bool :=
  if followOk t f a b then (canF t f (tripI t (findI t a)) (tripI t (findI t b)), true) else (false, false)
theorem find_eq {t : Timetable} {a b : Int} (h : 0 ≤ findI t a) : findI t a = findI t b ↔ a = b := by
  constructor
  · intro e
    have h1 := findI_id h
    have h2 := findI_id (t := t) (v := b) (by omega)
    rw [e] at h1
    omega
  · rintro rfl; rfl
theorem find_at {t : Timetable} {a : Int} (h : 0 ≤ findI t a) : ∃ (i : Nat) (x : Trip), findI t a = i ∧ t.Trips[i]? = some x ∧ tripI t (findI t a) = x := by
  obtain ⟨i, hi⟩ := Int.eq_ofNat_of_zero_le h
  have := (findI_bd t a).2
  have hn : i < t.Trips.length := by omega
  exact ⟨i, t.Trips[i], hi, List.getElem?_eq_getElem hn, by rw [hi]; exact tripI_of (List.getElem?_eq_getElem hn)⟩
set_option maxHeartbeats 800000 in
theorem impl_CanFollow {w0 w w2 : World} {sA0 : Option Addr} {sn0 sc0 : Nat} {sA1 : Option Addr} {sn1 sc1 : Nat} {sA2 : Option Addr} {sn2 sc2 : Nat} {t : Timetable} (h : TimetableAt w0 sA0 sn0 sc0 sA1 sn1 sc1 sA2 sn2 sc2 t) (hl : Later w0 w) {qA0 : Option Addr} {qn0 qc0 : Nat} {f : Fleet} (h2 : FleetAt w2 qA0 qn0 qc0 f) (hl2 : Later w2 w) (a b : Int) :
    Calls Try.prog 17 #[.agg #[.slice sA0 sn0 sc0, .slice sA1 sn1 sc1, .slice sA2 sn2 sc2], .agg #[.slice qA0 qn0 qc0, .int .i64 f.Turn], .int .i64 a, .int .i64 b] w (Ret (.tuple #[.bool (followRes t f a b).1, .bool (followRes t f a b).2]) w) := by
  have hT := h.l_Trips.later hl
  have HB0 : ∀ W [Later ((w.alloc (.cells #[.slice sA0 sn0 sc0, .slice sA1 sn1 sc1, .slice sA2 sn2 sc2] 41)).alloc (.cells #[.slice qA0 qn0 qc0, .int .i64 f.Turn] 43)) W] (j : Nat), W.cell? ⟨w.heap.size, j, none⟩ = #[.slice sA0 sn0 sc0, .slice sA1 sn1 sc1, .slice sA2 sn2 sc2][j]? := Later.boxes (t := 41) (fr := (0, 0)) ((heap_old (by simp; try omega)).trans (heap_new (by simp; try omega))); have HB1 : ∀ W [Later ((w.alloc (.cells #[.slice sA0 sn0 sc0, .slice sA1 sn1 sc1, .slice sA2 sn2 sc2] 41)).alloc (.cells #[.slice qA0 qn0 qc0, .int .i64 f.Turn] 43)) W] (j : Nat), W.cell? ⟨w.heap.size + 1, j, none⟩ = #[.slice qA0 qn0 qc0, .int .i64 f.Turn][j]? := Later.boxes (t := 43) (fr := (0, 0)) (heap_new (by simp; try omega)); obtain ⟨wb, hwb⟩ : ∃ wb : World, wb = ((w.alloc (.cells #[.slice sA0 sn0 sc0, .slice sA1 sn1 sc1, .slice sA2 sn2 sc2] 41)).alloc (.cells #[.slice qA0 qn0 qc0, .int .i64 f.Turn] 43)) := ⟨_, rfl⟩; haveI hbW : Later wb ((w.alloc (.cells #[.slice sA0 sn0 sc0, .slice sA1 sn1 sc1, .slice sA2 sn2 sc2] 41)).alloc (.cells #[.slice qA0 qn0 qc0, .int .i64 f.Turn] 43)) := (by rw [hwb]; exact Later.rfl_); haveI hww : Later w wb := (by rw [hwb]; infer_instance); rw [← hwb] at HB0; rw [← hwb] at HB1; have hbE := Lib.hid (congrArg (fun x : World => x.heap.size) hwb); clear hwb
  have hwb0 := hl.trans hww
  have hwb2 := hl2.trans hww
  replace hT := hT.later hww
  have hsl := hT.le
  by_cases c0 : okRun t f = true
  rotate_left
  · have c1 : okRun t f = false := by simpa using c0
    rw [show followRes t f a b = (false, false) from if_neg (fun k => c0 k.1)]
    clear c0
    have H := Lib.hid h
    have H2 := Lib.hid h2
    clear h h2
    go_enter Try.func17, Try.ntmps17
    go_wp2_with (go_at_call 56; refine (impl_isRun H.out (hwb0.trans inferInstance) H2.out (hwb2.trans inferInstance)).mono ?_; rintro e w1 ⟨rfl, L1⟩; have X1 := Later.trans (w := wb) inferInstance L1)
    go_ret2
    exact ⟨rfl, hww.trans inferInstance⟩
  by_cases c1 : a = b
  · rw [show followRes t f a b = (false, false) from if_neg (fun k => k.2.1 c1)]
    have e1 := (beqi_t c1).1
    clear c1
    have H := Lib.hid h
    have H2 := Lib.hid h2
    clear h h2
    go_enter Try.func17, Try.ntmps17
    go_wp2_with (go_at_call 56; refine (impl_isRun H.out (hwb0.trans inferInstance) H2.out (hwb2.trans inferInstance)).mono ?_; rintro e w1 ⟨rfl, L1⟩; have X1 := Later.trans (w := wb) inferInstance L1)
    go_ret2
    exact ⟨rfl, hww.trans inferInstance⟩
  have e1 := (beqi_f c1).1
  by_cases c2 : findI t a < 0
  · rw [show followRes t f a b = (false, false) from if_neg (fun k => by have := k.2.2.1; omega)]
    clear c1
    have H := Lib.hid h
    have H2 := Lib.hid h2
    clear h h2
    go_enter Try.func17, Try.ntmps17
    go_wp2_with (go_at_call 56; refine (impl_isRun H.out (hwb0.trans inferInstance) H2.out (hwb2.trans inferInstance)).mono ?_; rintro e w1 ⟨rfl, L1⟩; have X1 := Later.trans (w := wb) inferInstance L1)
    go_region_held3 (fun w' => Later wb w') (exact inferInstance) (first
      | ((with_reducible refine (impl_tripIndex H.out (hwb0.trans inferInstance) a).mono ?_); rintro e w3 ⟨rfl, L3⟩; have X3 := Later.trans (w := wb) inferInstance L3)
      | ((with_reducible refine (impl_tripIndex H.out (hwb0.trans inferInstance) b).mono ?_); rintro e w4 ⟨rfl, L4⟩; have X4 := Later.trans (w := wb) inferInstance L4))
    go_wp2
    go_ret2
    exact ⟨rfl, hww.trans inferInstance⟩
  by_cases c3 : findI t b < 0
  · rw [show followRes t f a b = (false, false) from if_neg (fun k => by have := k.2.2.2; omega)]
    clear c1
    have H := Lib.hid h
    have H2 := Lib.hid h2
    clear h h2
    go_enter Try.func17, Try.ntmps17
    go_wp2_with (go_at_call 56; refine (impl_isRun H.out (hwb0.trans inferInstance) H2.out (hwb2.trans inferInstance)).mono ?_; rintro e w1 ⟨rfl, L1⟩; have X1 := Later.trans (w := wb) inferInstance L1)
    go_region_held3 (fun w' => Later wb w') (exact inferInstance) (first
      | ((with_reducible refine (impl_tripIndex H.out (hwb0.trans inferInstance) a).mono ?_); rintro e w3 ⟨rfl, L3⟩; have X3 := Later.trans (w := wb) inferInstance L3)
      | ((with_reducible refine (impl_tripIndex H.out (hwb0.trans inferInstance) b).mono ?_); rintro e w4 ⟨rfl, L4⟩; have X4 := Later.trans (w := wb) inferInstance L4))
    go_wp2
    go_ret2
    exact ⟨rfl, hww.trans inferInstance⟩
  rw [show followRes t f a b = (canF t f (tripI t (findI t a)) (tripI t (findI t b)), true) from if_pos ⟨c0, c1, by omega, by omega⟩]
  have rf := runFacts c0
  obtain ⟨i, x, hi, hx, hxi⟩ := find_at (t := t) (a := a) (by omega)
  obtain ⟨j, y, hj, hy, hyj⟩ := find_at (t := t) (a := b) (by omega)
  have tx := rf.time.trip i x hx
  have ty := rf.time.trip j y hy
  have hin : i < sn2 := by rw [hT.len]; exact (List.getElem?_eq_some_iff.1 hx).1
  have hjn : j < sn2 := by rw [hT.len]; exact (List.getElem?_eq_some_iff.1 hy).1
  obtain ⟨b1, o1, x', rfl, hx', hc0, hc1, hc2, _⟩ := Trips.at_ hT hin
  obtain rfl : x' = x := Option.some.inj (hx'.out.symm.trans hx)
  obtain ⟨b2, o2, y', hA, hy', hd0, hd1, hd2, _⟩ := Trips.at_ hT hjn
  cases hA
  obtain rfl : y' = y := Option.some.inj (hy'.out.symm.trans hy)
  have RF := Lib.hid rf
  have TX := Lib.hid tx
  have TY := Lib.hid ty
  have HI := Lib.hid hi
  have HJ := Lib.hid hj
  rw [hxi, hyj]
  clear c1 c2 c3 hx hy hx' hy' hi hj hxi hyj rf tx ty hT
  have H := Lib.hid h
  have H2 := Lib.hid h2
  clear h h2
  go_enter Try.func17, Try.ntmps17
  go_wp2_with (go_at_call 56; refine (impl_isRun H.out (hwb0.trans inferInstance) H2.out (hwb2.trans inferInstance)).mono ?_; rintro e w1 ⟨rfl, L1⟩; have X1 := Later.trans (w := wb) inferInstance L1)
  clear c0
  go_region_held3 (fun w' => Later wb w') (exact inferInstance) (first
    | ((with_reducible refine (impl_tripIndex H.out (hwb0.trans inferInstance) a).mono ?_); rw [HI.out]; rintro e w3 ⟨rfl, L3⟩; have X3 := Later.trans (w := wb) inferInstance L3)
    | ((with_reducible refine (impl_tripIndex H.out (hwb0.trans inferInstance) b).mono ?_); rw [HJ.out]; rintro e w4 ⟨rfl, L4⟩; have X4 := Later.trans (w := wb) inferInstance L4))
  go_wp2_with fail
  go_region_held3 (fun w' => Later wb w') (exact inferInstance) (first | (go_at_call 58; refine (impl_canFollow H.out (hwb0.trans inferInstance) H2.out (hwb2.trans inferInstance) RF.out.time.net RF.out.fleet _ _ TX.out TY.out).mono ?_; rintro e w5 ⟨rfl, L5⟩; have X5 := Later.trans (w := wb) inferInstance L5))
  go_wp2
  go_ret2
  exact ⟨rfl, hww.trans inferInstance⟩
set_option maxHeartbeats 800000 in
theorem spec_CanFollow {w0 w w2 : World} {sA0 : Option Addr} {sn0 sc0 : Nat} {sA1 : Option Addr} {sn1 sc1 : Nat} {sA2 : Option Addr} {sn2 sc2 : Nat} {t : Timetable} (h : TimetableAt w0 sA0 sn0 sc0 sA1 sn1 sc1 sA2 sn2 sc2 t) (hl : Later w0 w) {qA0 : Option Addr} {qn0 qc0 : Nat} {f : Fleet} (h2 : FleetAt w2 qA0 qn0 qc0 f) (hl2 : Later w2 w) (a b : Int) :
    Calls Try.prog 14 #[.agg #[.slice sA0 sn0 sc0, .slice sA1 sn1 sc1, .slice sA2 sn2 sc2], .agg #[.slice qA0 qn0 qc0, .int .i64 f.Turn], .int .i64 a, .int .i64 b] w (Ret (.tuple #[.bool (followRes t f a b).1, .bool (followRes t f a b).2]) w) := by
  have HB0 : ∀ W [Later ((w.alloc (.cells #[.slice sA0 sn0 sc0, .slice sA1 sn1 sc1, .slice sA2 sn2 sc2] 41)).alloc (.cells #[.slice qA0 qn0 qc0, .int .i64 f.Turn] 43)) W] (j : Nat), W.cell? ⟨w.heap.size, j, none⟩ = #[.slice sA0 sn0 sc0, .slice sA1 sn1 sc1, .slice sA2 sn2 sc2][j]? := Later.boxes (t := 41) (fr := (0, 0)) ((heap_old (by simp; try omega)).trans (heap_new (by simp; try omega))); have HB1 : ∀ W [Later ((w.alloc (.cells #[.slice sA0 sn0 sc0, .slice sA1 sn1 sc1, .slice sA2 sn2 sc2] 41)).alloc (.cells #[.slice qA0 qn0 qc0, .int .i64 f.Turn] 43)) W] (j : Nat), W.cell? ⟨w.heap.size + 1, j, none⟩ = #[.slice qA0 qn0 qc0, .int .i64 f.Turn][j]? := Later.boxes (t := 43) (fr := (0, 0)) (heap_new (by simp; try omega)); obtain ⟨wb, hwb⟩ : ∃ wb : World, wb = ((w.alloc (.cells #[.slice sA0 sn0 sc0, .slice sA1 sn1 sc1, .slice sA2 sn2 sc2] 41)).alloc (.cells #[.slice qA0 qn0 qc0, .int .i64 f.Turn] 43)) := ⟨_, rfl⟩; haveI hbW : Later wb ((w.alloc (.cells #[.slice sA0 sn0 sc0, .slice sA1 sn1 sc1, .slice sA2 sn2 sc2] 41)).alloc (.cells #[.slice qA0 qn0 qc0, .int .i64 f.Turn] 43)) := (by rw [hwb]; exact Later.rfl_); haveI hww : Later w wb := (by rw [hwb]; infer_instance); rw [← hwb] at HB0; rw [← hwb] at HB1; have hbE := Lib.hid (congrArg (fun x : World => x.heap.size) hwb); clear hwb
  have hwb0 := hl.trans hww
  have hwb2 := hl2.trans hww
  by_cases c0 : okRun t f = true
  rotate_left
  · have c1 : okRun t f = false := by simpa using c0
    rw [show followRes t f a b = (false, false) from if_neg (fun k => c0 k.1)]
    clear c0
    have H := Lib.hid h
    have H2 := Lib.hid h2
    clear h h2
    go_enter Try.func14, Try.ntmps14
    go_wp2_with fail
    go_region_held3 (fun w' => Later wb w') (exact inferInstance) (first
      | ((with_reducible refine (spec_l5Find H.out (hwb0.trans inferInstance) a).mono ?_); skip; rintro e w3 ⟨rfl, L3⟩; have X3 := Later.trans (w := wb) inferInstance L3)
      | ((with_reducible refine (spec_l5Find H.out (hwb0.trans inferInstance) b).mono ?_); skip; rintro e w4 ⟨rfl, L4⟩; have X4 := Later.trans (w := wb) inferInstance L4))
    go_wp2_with (go_at_call 52; refine (spec_l11Asked H.out (hwb0.trans inferInstance) H2.out (hwb2.trans inferInstance)).mono ?_; rintro e w1 ⟨rfl, L1⟩; have X1 := Later.trans (w := wb) inferInstance L1)
    go_ret2
    exact ⟨rfl, hww.trans inferInstance⟩
  by_cases c2 : findI t a < 0
  · rw [show followRes t f a b = (false, false) from if_neg (fun k => by have := k.2.2.1; omega)]
    have H := Lib.hid h
    have H2 := Lib.hid h2
    clear h h2
    go_enter Try.func14, Try.ntmps14
    go_wp2_with fail
    go_region_held3 (fun w' => Later wb w') (exact inferInstance) (first
      | ((with_reducible refine (spec_l5Find H.out (hwb0.trans inferInstance) a).mono ?_); skip; rintro e w3 ⟨rfl, L3⟩; have X3 := Later.trans (w := wb) inferInstance L3)
      | ((with_reducible refine (spec_l5Find H.out (hwb0.trans inferInstance) b).mono ?_); skip; rintro e w4 ⟨rfl, L4⟩; have X4 := Later.trans (w := wb) inferInstance L4))
    go_wp2_with (go_at_call 52; refine (spec_l11Asked H.out (hwb0.trans inferInstance) H2.out (hwb2.trans inferInstance)).mono ?_; rintro e w1 ⟨rfl, L1⟩; have X1 := Later.trans (w := wb) inferInstance L1)
    go_ret2
    exact ⟨rfl, hww.trans inferInstance⟩
  by_cases c3 : findI t b < 0
  · rw [show followRes t f a b = (false, false) from if_neg (fun k => by have := k.2.2.2; omega)]
    have H := Lib.hid h
    have H2 := Lib.hid h2
    clear h h2
    go_enter Try.func14, Try.ntmps14
    go_wp2_with fail
    go_region_held3 (fun w' => Later wb w') (exact inferInstance) (first
      | ((with_reducible refine (spec_l5Find H.out (hwb0.trans inferInstance) a).mono ?_); skip; rintro e w3 ⟨rfl, L3⟩; have X3 := Later.trans (w := wb) inferInstance L3)
      | ((with_reducible refine (spec_l5Find H.out (hwb0.trans inferInstance) b).mono ?_); skip; rintro e w4 ⟨rfl, L4⟩; have X4 := Later.trans (w := wb) inferInstance L4))
    go_wp2_with (go_at_call 52; refine (spec_l11Asked H.out (hwb0.trans inferInstance) H2.out (hwb2.trans inferInstance)).mono ?_; rintro e w1 ⟨rfl, L1⟩; have X1 := Later.trans (w := wb) inferInstance L1)
    go_ret2
    exact ⟨rfl, hww.trans inferInstance⟩
  by_cases c1 : a = b
  · rw [show followRes t f a b = (false, false) from if_neg (fun k => k.2.1 c1)]
    have e1 := (beqi_t ((find_eq (by omega)).2 c1 : findI t a = findI t b)).1
    clear c1
    have H := Lib.hid h
    have H2 := Lib.hid h2
    clear h h2
    go_enter Try.func14, Try.ntmps14
    go_wp2_with fail
    go_region_held3 (fun w' => Later wb w') (exact inferInstance) (first
      | ((with_reducible refine (spec_l5Find H.out (hwb0.trans inferInstance) a).mono ?_); skip; rintro e w3 ⟨rfl, L3⟩; have X3 := Later.trans (w := wb) inferInstance L3)
      | ((with_reducible refine (spec_l5Find H.out (hwb0.trans inferInstance) b).mono ?_); skip; rintro e w4 ⟨rfl, L4⟩; have X4 := Later.trans (w := wb) inferInstance L4))
    go_wp2_with (go_at_call 52; refine (spec_l11Asked H.out (hwb0.trans inferInstance) H2.out (hwb2.trans inferInstance)).mono ?_; rintro e w1 ⟨rfl, L1⟩; have X1 := Later.trans (w := wb) inferInstance L1)
    go_ret2
    exact ⟨rfl, hww.trans inferInstance⟩
  rw [show followRes t f a b = (canF t f (tripI t (findI t a)) (tripI t (findI t b)), true) from if_pos ⟨c0, c1, by omega, by omega⟩]
  have hne : findI t a ≠ findI t b := fun e => c1 ((find_eq (by omega)).1 e)
  have e1 := (beqi_f hne).1
  have rf := runFacts c0
  have k1 : 0 ≤ findI t a := by omega
  have k2 : 0 ≤ findI t b := by omega
  have k3 := (findI_bd t a).2
  have k4 := (findI_bd t b).2
  have TX := Lib.hid (tripI_facts rf.time k1 k3)
  have TY := Lib.hid (tripI_facts rf.time k2 k4)
  have K := Lib.hid (And.intro k1 (And.intro k3 (And.intro k2 k4)))
  have RF := Lib.hid rf
  have HN := Lib.hid hne
  clear c1 hne rf k1 k2 k3 k4
  have H := Lib.hid h
  have H2 := Lib.hid h2
  clear h h2
  go_enter Try.func14, Try.ntmps14
  go_wp2_with fail
  go_region_held3 (fun w' => Later wb w') (exact inferInstance) (first
    | ((with_reducible refine (spec_l5Find H.out (hwb0.trans inferInstance) a).mono ?_); skip; rintro e w3 ⟨rfl, L3⟩; have X3 := Later.trans (w := wb) inferInstance L3)
    | ((with_reducible refine (spec_l5Find H.out (hwb0.trans inferInstance) b).mono ?_); skip; rintro e w4 ⟨rfl, L4⟩; have X4 := Later.trans (w := wb) inferInstance L4))
  go_wp2_with first
    | (go_at_call 52; refine (spec_l11Asked H.out (hwb0.trans inferInstance) H2.out (hwb2.trans inferInstance)).mono ?_; rintro e w1 ⟨rfl, L1⟩; have X1 := Later.trans (w := wb) inferInstance L1)
    | (go_at_call 53; refine (spec_l11Follows H.out (hwb0.trans inferInstance) H2.out (hwb2.trans inferInstance) RF.out.time.net RF.out.fleet _ _ K.out.1 K.out.2.1 K.out.2.2.1 K.out.2.2.2 TX.out TY.out HN.out).mono ?_; rintro e w6 ⟨rfl, L6⟩; have X6 := Later.trans (w := wb) inferInstance L6)
  go_ret2
  exact ⟨rfl, hww.trans inferInstance⟩
end Go.Proofs.Ytiiafionboeecaa
