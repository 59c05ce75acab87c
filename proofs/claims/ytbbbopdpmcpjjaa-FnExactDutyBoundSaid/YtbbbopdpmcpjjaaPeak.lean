/-
  The peak of trips.
-/
import Derived.Test.YtbbbopdpmcpjjaaPeakP
import Derived.Test.YtbbbopdpmcpjjaaTimeD
namespace Go.Proofs.Ytbbbopdpmcpjjaa
open Go Go.RowKit
set_option linter.unusedVariables false
set_option maxRecDepth 100000
theorem TimeFacts.grows {t : Timetable} (h : TimeFacts t) : ∀ x, x ∈ t.Trips → 0 ≤ x.Start ∧ x.Start ≤ 1799 ∧ x.Start < endAt t x := fun x hx => by
  obtain ⟨i, hi, rfl⟩ := List.getElem_of_mem hx
  have f := h.trip i _ (List.getElem?_eq_getElem hi)
  have lf := lineAtT_facts h.net f.line0 f.line1
  have hb := sumI_bd (l := (lineAtT t t.Trips[i].Line).Runs) (lo := 1) (hi := 60) lf.run
  have h1 := lf.stops
  have h2 := lf.runs
  have := f.start
  unfold endAt
  omega
def peakRes (t : Timetable) : Int × Int × Bool := if okTimetable t then ((peakOf t).1, (peakOf t).2, true) else (0, 0, false)
set_option maxHeartbeats 1000000 in
theorem impl_peakTrips {w0 w : World} {sA0 : Option Addr} {sn0 sc0 : Nat} {sA1 : Option Addr} {sn1 sc1 : Nat} {sA2 : Option Addr} {sn2 sc2 : Nat} {t : Timetable} (h : TimetableAt w0 sA0 sn0 sc0 sA1 sn1 sc1 sA2 sn2 sc2 t) (hl : Later w0 w) (tf : TimeFacts t) :
    Calls Try.prog 71 #[.agg #[.slice sA0 sn0 sc0, .slice sA1 sn1 sc1, .slice sA2 sn2 sc2]] w (Ret (.tuple #[.int .i64 (peakOf t).1, .int .i64 (peakOf t).2]) w) := by
  replace h := h.later hl
  have hT := h.l_Trips
  have hn := hT.le
  have Hl := Lib.hid hT.len
  have hn12 : sn2 ≤ 12 := by rw [hT.len]; exact tf.len
  have TF := Lib.hid tf
  rw [← peak_eq tf.grows]
  have HB0 : ∀ W [Later (w.alloc (.cells #[.slice sA0 sn0 sc0, .slice sA1 sn1 sc1, .slice sA2 sn2 sc2] 42)) W] (j : Nat), W.cell? ⟨w.heap.size, j, none⟩ = #[.slice sA0 sn0 sc0, .slice sA1 sn1 sc1, .slice sA2 sn2 sc2][j]? := Later.boxes (t := 42) (fr := (0, 0)) (heap_new (by simp; try omega)); obtain ⟨wb, hwb⟩ : ∃ wb : World, wb = (w.alloc (.cells #[.slice sA0 sn0 sc0, .slice sA1 sn1 sc1, .slice sA2 sn2 sc2] 42)) := ⟨_, rfl⟩; haveI hbW : Later wb (w.alloc (.cells #[.slice sA0 sn0 sc0, .slice sA1 sn1 sc1, .slice sA2 sn2 sc2] 42)) := (by rw [hwb]; exact Later.rfl_); haveI hww : Later w wb := (by rw [hwb]; infer_instance); rw [← hwb] at HB0; have hbE := Lib.hid (congrArg (fun x : World => x.heap.size) hwb); clear hwb
  replace h := h.later hww
  replace hT := hT.later hww
  have H := Lib.hid h
  have HT := Lib.hid hT
  clear h tf
  go_enter Try.func71, Try.ntmps71
  go_wp2
  go_loopw [4, 5, 14] (fun bo mo i wr => ∃ (k : Nat) (b m : Int), k ≤ sn2 ∧ i = .int .i64 k ∧ bo = .int .i64 b ∧ mo = .int .i64 m ∧ Hid (pkImpl t (t.Trips.drop k) b m = pkImpl t t.Trips 0 0) ∧ Later wb wr) (fun _ _ i _ => sn2 - (intOf i).toNat)
  case atStart => exact ⟨0, 0, 0, by omega, rfl, rfl, rfl, rfl, inferInstance⟩
  case round =>
    obtain ⟨k, b, m, hk, rfl, rfl, rfl, HF, hX⟩ := hrel
    by_cases hlt : k < sn2
    · obtain ⟨bb, o, x, hA, hx, hc0, hc1, hc2, hi⟩ := Trips.at_ hT hlt
      have HF1 := HF.out
      rw [drop_at hx.out] at HF1
      simp only [pkImpl] at HF1
      have HG := Lib.hid HF1
      have hT' := hT
      subst hA
      clear HF HF1 hi hx
      have HBX : ∀ W [Later (wr.alloc (.cells #[.int .i64 x.Id, .int .i64 x.Line, .int .i64 x.Start] 97)) W] (j : Nat), W.cell? ⟨wr.heap.size, j, none⟩ = #[.int .i64 x.Id, .int .i64 x.Line, .int .i64 x.Start][j]? := Later.boxes (t := 97) (fr := (0, 0)) (heap_new (by simp; try omega)); obtain ⟨wx, hwx⟩ : ∃ wx : World, wx = (wr.alloc (.cells #[.int .i64 x.Id, .int .i64 x.Line, .int .i64 x.Start] 97)) := ⟨_, rfl⟩; haveI hxW : Later wx (wr.alloc (.cells #[.int .i64 x.Id, .int .i64 x.Line, .int .i64 x.Start] 97)) := (by rw [hwx]; exact Later.rfl_); haveI hbx : Later wb wx := (by rw [hwx]; infer_instance); rw [← hwx] at HBX; clear hwx
      go_wp2_with fail
      go_loopw [8, 21] (fun co i wr => ∃ (j : Nat) (q : Int), j ≤ sn2 ∧ i = .int .i64 j ∧ co = .int .i64 q ∧ 0 ≤ q ∧ q ≤ j ∧ Hid (q + cntGo t x.Start (t.Trips.drop j) = cntAt t x.Start) ∧ Later wx wr ∧ Later wb wr) (fun _ i _ => sn2 - (intOf i).toNat)
      case atStart => exact ⟨0, 0, by omega, rfl, rfl, by omega, by omega, by show _ = _; simp [cntAt], inferInstance, inferInstance⟩
      case round =>
        obtain ⟨j, q, hj, rfl, rfl, hq0, hq1, HQ, hZ, hY⟩ := hrel
        by_cases hjt : j < sn2
        · obtain ⟨bb2, o2, y, hA2, hy, hd0, hd1, hd2, hi2⟩ := Trips.at_ hT hjt
          cases hA2
          have yf := TF.out.trip j y hy.out
          have HY := Lib.hid yf
          have HQ1 : Hid (q + ((if onAt t x.Start y = true then 1 else 0) + cntGo t x.Start (t.Trips.drop (j + 1))) = cntAt t x.Start) := by
            have h3 := HQ.out
            rw [drop_at hy.out] at h3
            exact h3
          clear HQ hi2 hy yf
          have HBY : ∀ W [Later (wr.alloc (.cells #[.int .i64 y.Id, .int .i64 y.Line, .int .i64 y.Start] 97)) W] (j : Nat), W.cell? ⟨wr.heap.size, j, none⟩ = #[.int .i64 y.Id, .int .i64 y.Line, .int .i64 y.Start][j]? := Later.boxes (t := 97) (fr := (0, 0)) (heap_new (by simp; try omega)); obtain ⟨wy, hwy⟩ : ∃ wy : World, wy = (wr.alloc (.cells #[.int .i64 y.Id, .int .i64 y.Line, .int .i64 y.Start] 97)) := ⟨_, rfl⟩; haveI hyW : Later wy (wr.alloc (.cells #[.int .i64 y.Id, .int .i64 y.Line, .int .i64 y.Start] 97)) := (by rw [hwy]; exact Later.rfl_); haveI hby : Later wb wy := (by rw [hwy]; infer_instance); haveI hxy : Later wx wy := (by rw [hwy]; infer_instance); rw [← hwy] at HBY; clear hwy
          by_cases e1 : y.Start ≤ x.Start
          · by_cases e2 : x.Start < endAt t y
            · have HQ2 : Hid (q + 1 + cntGo t x.Start (t.Trips.drop (j + 1)) = cntAt t x.Start) := by
                have h3 := HQ1.out
                rw [if_pos (by simp [onAt]; omega)] at h3
                show _ = _; omega
              clear HQ1
              go_wp2_with fail
              go_region_held3 (fun w' => Later wb w' ∧ Later wx w' ∧ Later wy w') (exact ⟨inferInstance, inferInstance, inferInstance⟩) ((go_at_call 117; refine (impl_endOf H.out inferInstance TF.out.net y HY.out.line0 HY.out.line1 HY.out.start.1 HY.out.start.2).mono ?_; rintro e w4 ⟨rfl, L4⟩; have X4 := Later.trans (w := wb) inferInstance L4; have Z4 := Later.trans (w := wx) inferInstance L4; have Y4 := Later.trans (w := wy) inferInstance L4))
              go_wp2
              go_roundw
              case rel => exact ⟨j + 1, q + 1, by omega, by go_num, rfl, by omega, by omega, HQ2, inferInstance, inferInstance⟩
              case measure => simp [intOf]; omega
            · have HQ2 : Hid (q + cntGo t x.Start (t.Trips.drop (j + 1)) = cntAt t x.Start) := by
                have h3 := HQ1.out
                rw [if_neg (by simp [onAt]; omega)] at h3
                show _ = _; omega
              clear HQ1
              go_wp2_with fail
              go_region_held3 (fun w' => Later wb w' ∧ Later wx w' ∧ Later wy w') (exact ⟨inferInstance, inferInstance, inferInstance⟩) ((go_at_call 117; refine (impl_endOf H.out inferInstance TF.out.net y HY.out.line0 HY.out.line1 HY.out.start.1 HY.out.start.2).mono ?_; rintro e w4 ⟨rfl, L4⟩; have X4 := Later.trans (w := wb) inferInstance L4; have Z4 := Later.trans (w := wx) inferInstance L4; have Y4 := Later.trans (w := wy) inferInstance L4))
              go_wp2
              go_roundw
              case rel => exact ⟨j + 1, q, by omega, by go_num, rfl, by omega, by omega, HQ2, inferInstance, inferInstance⟩
              case measure => simp [intOf]; omega
          · have HQ2 : Hid (q + cntGo t x.Start (t.Trips.drop (j + 1)) = cntAt t x.Start) := by
              have h3 := HQ1.out
              rw [if_neg (by simp [onAt]; omega)] at h3
              show _ = _; omega
            have e1' : x.Start < y.Start := by omega
            have e1d : decide (y.Start ≤ x.Start) = false := decide_eq_false e1
            clear HQ1
            go_wp2_with fail
            refine wp_region_held_drew (S := (fun w' => Later wb w' ∧ Later wx w' ∧ Later wy w')) (by kernel_rfl) (by exact ⟨inferInstance, inferInstance, inferInstance⟩) (fun hHeld => ?_)
            refine wpAnyH_take (i := 0) (v := ?_) (by simp only [List.getElem?_toArray, List.getElem?_cons_zero] <;> rfl) (by kernel_rfl) (by kernel_rfl) (by kernel_rfl) (by exact fun _ _ _ h => h) (Or.inl ⟨by kernel_rfl, ?_⟩) (by assumption) ?_
            rotate_left
            · intro w' hSw; (try dsimp only at hSw); go_simp; try with_reducible rfl
            try simp only [Act.put, List.setIfInBounds_toArray, List.set_cons_zero, List.set_cons_succ]
            refine wpAnyH_take (i := 1) (v := ?_) (by simp only [List.getElem?_toArray, List.getElem?_cons_succ, List.getElem?_cons_zero] <;> rfl) (by kernel_rfl) (by kernel_rfl) (by kernel_rfl) (by exact fun _ _ _ h => h) (Or.inl ⟨by kernel_rfl, ?_⟩) (by assumption) ?_
            rotate_left
            · intro w' hSw; (try dsimp only at hSw); go_simp; try with_reducible rfl
            try simp only [Act.put, List.setIfInBounds_toArray, List.set_cons_zero, List.set_cons_succ]
            refine wpAnyH_take (i := 2) (v := ?_) (by simp only [List.getElem?_toArray, List.getElem?_cons_succ, List.getElem?_cons_zero] <;> rfl) (by kernel_rfl) (by kernel_rfl) (by kernel_rfl) (by exact fun _ _ _ h => h) (Or.inl ⟨by kernel_rfl, ?_⟩) (by assumption) ?_
            rotate_left
            · intro w' hSw; (try dsimp only at hSw); go_simp; try with_reducible rfl
            try simp only [Act.put, List.setIfInBounds_toArray, List.set_cons_zero, List.set_cons_succ]
            refine wpAnyH_take (i := 3) (v := ?_) (by simp only [List.getElem?_toArray, List.getElem?_cons_succ, List.getElem?_cons_zero] <;> rfl) (by kernel_rfl) (by kernel_rfl) (by kernel_rfl) (by exact fun _ _ _ h => h) (Or.inl ⟨by kernel_rfl, ?_⟩) (by assumption) ?_
            rotate_left
            · intro w' hSw; (try dsimp only at hSw); go_simp; try with_reducible rfl
            try simp only [Act.put, List.setIfInBounds_toArray, List.set_cons_zero, List.set_cons_succ]
            refine wpAnyH_take (i := 4) (v := ?_) (by simp only [List.getElem?_toArray, List.getElem?_cons_succ, List.getElem?_cons_zero] <;> rfl) (by kernel_rfl) (by kernel_rfl) (by kernel_rfl) (by exact fun _ _ _ h => h) (Or.inl ⟨by kernel_rfl, ?_⟩) (by assumption) ?_
            rotate_left
            · intro w' hSw; (try dsimp only at hSw); go_simp; try with_reducible rfl
            try simp only [Act.put, List.setIfInBounds_toArray, List.set_cons_zero, List.set_cons_succ]
            refine wpAnyH_take (i := 5) (v := ?_) (by simp only [List.getElem?_toArray, List.getElem?_cons_succ, List.getElem?_cons_zero] <;> rfl) (by kernel_rfl) (by kernel_rfl) (by kernel_rfl) (by exact fun _ _ _ h => h) (Or.inl ⟨by kernel_rfl, ?_⟩) (by assumption) ?_
            rotate_left
            · intro w' hSw; (try dsimp only at hSw); go_simp; try with_reducible rfl
            try simp only [Act.put, List.setIfInBounds_toArray, List.set_cons_zero, List.set_cons_succ]
            refine wpAnyH_take (i := 6) (v := undef) (by simp only [List.getElem?_toArray, List.getElem?_cons_succ, List.getElem?_cons_zero] <;> rfl) (by kernel_rfl) (by kernel_rfl) (by kernel_rfl) (by exact fun _ _ _ h => h) (Or.inr ⟨by kernel_rfl, rfl⟩) (by assumption) ?_
            try simp only [Act.put, List.setIfInBounds_toArray, List.set_cons_zero, List.set_cons_succ]
            refine wpAnyH_take (i := 7) (v := undef) (by simp only [List.getElem?_toArray, List.getElem?_cons_succ, List.getElem?_cons_zero] <;> rfl) (by kernel_rfl) (by kernel_rfl) (by kernel_rfl) (by exact fun _ _ _ h => h) (Or.inr ⟨by kernel_rfl, rfl⟩) (by assumption) ?_
            try simp only [Act.put, List.setIfInBounds_toArray, List.set_cons_zero, List.set_cons_succ]
            refine wpAnyH_take (i := 8) (v := undef) (by simp only [List.getElem?_toArray, List.getElem?_cons_succ, List.getElem?_cons_zero] <;> rfl) (by kernel_rfl) (by kernel_rfl) (by kernel_rfl) (by exact fun _ _ _ h => h) (Or.inr ⟨by kernel_rfl, rfl⟩) (by assumption) ?_
            try simp only [Act.put, List.setIfInBounds_toArray, List.set_cons_zero, List.set_cons_succ]
            refine wpAnyH_take (i := 9) (v := undef) (by simp only [List.getElem?_toArray, List.getElem?_cons_succ, List.getElem?_cons_zero] <;> rfl) (by kernel_rfl) (by kernel_rfl) (by kernel_rfl) (by exact fun _ _ _ h => h) (Or.inr ⟨by kernel_rfl, rfl⟩) (by assumption) ?_
            try simp only [Act.put, List.setIfInBounds_toArray, List.set_cons_zero, List.set_cons_succ]
            refine wpAnyH_take (i := 10) (v := undef) (by simp only [List.getElem?_toArray, List.getElem?_cons_succ, List.getElem?_cons_zero] <;> rfl) (by kernel_rfl) (by kernel_rfl) (by kernel_rfl) (by exact fun _ _ _ h => h) (Or.inr ⟨by kernel_rfl, rfl⟩) (by assumption) ?_
            try simp only [Act.put, List.setIfInBounds_toArray, List.set_cons_zero, List.set_cons_succ]
            refine wpAnyH_take (i := 11) (v := undef) (by simp only [List.getElem?_toArray, List.getElem?_cons_succ, List.getElem?_cons_zero] <;> rfl) (by kernel_rfl) (by kernel_rfl) (by kernel_rfl) (by exact fun _ _ _ h => h) (Or.inr ⟨by kernel_rfl, rfl⟩) (by assumption) ?_
            try simp only [Act.put, List.setIfInBounds_toArray, List.set_cons_zero, List.set_cons_succ]
            refine wpAnyH_take (i := 12) (v := ?_) (by simp only [List.getElem?_toArray, List.getElem?_cons_succ, List.getElem?_cons_zero] <;> rfl) (by kernel_rfl) (by kernel_rfl) (by kernel_rfl) (by exact fun _ _ _ h => h) (Or.inl ⟨by kernel_rfl, ?_⟩) (by assumption) ?_
            rotate_left
            · intro w' hSw; (try dsimp only at hSw); go_simp; try with_reducible rfl
            try simp only [Act.put, List.setIfInBounds_toArray, List.set_cons_zero, List.set_cons_succ]
            refine wpAnyH_done (by kernel_rfl) ?_ _
            go_wp2
            go_roundw
            case rel => exact ⟨j + 1, q, by omega, by go_num, rfl, by omega, by omega, HQ2, inferInstance, inferInstance⟩
            case measure => simp [intOf]; omega
        · have HQ2 : Hid (q = cntAt t x.Start) := by
            have h3 := HQ.out
            rw [List.drop_eq_nil_of_le (by have := Hl.out; omega)] at h3
            exact (by simpa [cntGo] using h3 : q = _)
          have HG1 := HG.out
          rw [← HQ2.out] at HG1
          clear HG HQ HQ2
          by_cases c1 : m < q
          · rw [if_pos (.inl c1)] at HG1
            have HG2 := Lib.hid HG1
            clear HG1
            go_wp2
            go_roundw
            case rel => exact ⟨k + 1, x.Start, q, by omega, by go_num, rfl, rfl, HG2, inferInstance⟩
            case measure => simp [intOf]; omega
          · by_cases c2 : q = m
            · have e3 := (beqi_t c2).1
              by_cases c3 : x.Start < b
              · rw [if_pos (.inr ⟨c2, c3⟩)] at HG1
                have HG2 := Lib.hid HG1
                clear HG1 c2
                go_wp2
                go_roundw
                case rel => exact ⟨k + 1, x.Start, q, by omega, by go_num, rfl, rfl, HG2, inferInstance⟩
                case measure => simp [intOf]; omega
              · rw [if_neg (by omega)] at HG1
                have HG2 := Lib.hid HG1
                clear HG1 c2
                go_wp2
                go_roundw
                case rel => exact ⟨k + 1, b, m, by omega, by go_num, rfl, rfl, HG2, inferInstance⟩
                case measure => simp [intOf]; omega
            · have e3 := (beqi_f c2).1
              rw [if_neg (by omega)] at HG1
              have HG2 := Lib.hid HG1
              clear HG1 c2
              go_wp2
              go_roundw
              case rel => exact ⟨k + 1, b, m, by omega, by go_num, rfl, rfl, HG2, inferInstance⟩
              case measure => simp [intOf]; omega
    · have HE : Hid (pkImpl t t.Trips 0 0 = (b, m)) := by
        show _ = _
        rw [← HF.out, List.drop_eq_nil_of_le (by have := Hl.out; omega)]; rfl
      clear HF
      go_wp2
      go_ret2
      exact ⟨by rw [HE.out]; rfl, hww.trans inferInstance⟩
set_option maxHeartbeats 1000000 in
theorem spec_PeakTrips {w0 w : World} {sA0 : Option Addr} {sn0 sc0 : Nat} {sA1 : Option Addr} {sn1 sc1 : Nat} {sA2 : Option Addr} {sn2 sc2 : Nat} {t : Timetable} (h : TimetableAt w0 sA0 sn0 sc0 sA1 sn1 sc1 sA2 sn2 sc2 t) (hl : Later w0 w) :
    Calls Try.prog 69 #[.agg #[.slice sA0 sn0 sc0, .slice sA1 sn1 sc1, .slice sA2 sn2 sc2]] w (Ret (.tuple #[.int .i64 (peakRes t).1, .int .i64 (peakRes t).2.1, .bool (peakRes t).2.2]) w) := by
  replace h := h.later hl
  have hT := h.l_Trips
  have hn := hT.le
  have Hl := Lib.hid hT.len
  have HB0 : ∀ W [Later (w.alloc (.cells #[.slice sA0 sn0 sc0, .slice sA1 sn1 sc1, .slice sA2 sn2 sc2] 42)) W] (j : Nat), W.cell? ⟨w.heap.size, j, none⟩ = #[.slice sA0 sn0 sc0, .slice sA1 sn1 sc1, .slice sA2 sn2 sc2][j]? := Later.boxes (t := 42) (fr := (0, 0)) (heap_new (by simp; try omega)); obtain ⟨wb, hwb⟩ : ∃ wb : World, wb = (w.alloc (.cells #[.slice sA0 sn0 sc0, .slice sA1 sn1 sc1, .slice sA2 sn2 sc2] 42)) := ⟨_, rfl⟩; haveI hbW : Later wb (w.alloc (.cells #[.slice sA0 sn0 sc0, .slice sA1 sn1 sc1, .slice sA2 sn2 sc2] 42)) := (by rw [hwb]; exact Later.rfl_); haveI hww : Later w wb := (by rw [hwb]; infer_instance); rw [← hwb] at HB0; have hbE := Lib.hid (congrArg (fun x : World => x.heap.size) hwb); clear hwb
  replace h := h.later hww
  replace hT := hT.later hww
  have H := Lib.hid h
  clear h
  by_cases b : okTimetable t = true
  rotate_left
  · have b' : okTimetable t = false := by simpa using b
    rw [show peakRes t = (0, 0, false) from by simp [peakRes, b]]
    clear b
    go_enter Try.func69, Try.ntmps69
    go_wp2_with (go_at_call 99; refine (spec_l5Good H.out inferInstance).mono ?_; rintro e w1 ⟨rfl, L1⟩; have X1 := Later.trans (w := wb) inferInstance L1)
    go_ret3
    exact ⟨rfl, hww.trans inferInstance⟩
  have TF := Lib.hid (timeFacts b)
  have hn12 : sn2 ≤ 12 := by rw [hT.len]; exact TF.out.len
  rw [show peakRes t = ((peakOf t).1, (peakOf t).2, true) from by simp [peakRes, b]]
  go_enter Try.func69, Try.ntmps69
  go_wp2_with (go_at_call 99; refine (spec_l5Good H.out inferInstance).mono ?_; rintro e w1 ⟨rfl, L1⟩; have X1 := Later.trans (w := wb) inferInstance L1)
  clear b
  go_loopw [5, 6, 7] (fun bo mo i wr => ∃ (k : Nat) (b m : Int), k ≤ 1800 ∧ i = .int .i64 k ∧ bo = .int .i64 b ∧ mo = .int .i64 m ∧ Hid (pkSpec t (1800 - k) k b m = peakOf t) ∧ Later wb wr) (fun _ _ i _ => 1800 - (intOf i).toNat)
  case atStart => exact ⟨0, 0, 0, by omega, rfl, rfl, rfl, rfl, inferInstance⟩
  case round =>
    obtain ⟨k, b, m, hk, rfl, rfl, rfl, HF, hX⟩ := hrel
    by_cases hlt : k < 1800
    · have hle : (k : Int) ≤ 1799 := by omega
      have HG : Hid ((if m < cntAt t k then pkSpec t (1800 - (k + 1)) ((k : Int) + 1) k (cntAt t k) else pkSpec t (1800 - (k + 1)) ((k : Int) + 1) b m) = peakOf t) := by
        have h3 := HF.out
        rw [show 1800 - k = (1800 - (k + 1)) + 1 by omega] at h3
        exact h3
      clear HF
      go_wp2_with fail
      go_loopw [8, 9] (fun co i wr => ∃ (j : Nat) (q : Int), j ≤ sn2 ∧ i = .int .i64 j ∧ co = .int .i64 q ∧ 0 ≤ q ∧ q ≤ j ∧ Hid (q + cntGo t k (t.Trips.drop j) = cntAt t k) ∧ Later wb wr) (fun _ i _ => sn2 - (intOf i).toNat)
      case atStart => exact ⟨0, 0, by omega, rfl, rfl, by omega, by omega, by show _ = _; simp [cntAt], inferInstance⟩
      case round =>
        obtain ⟨j, q, hj, rfl, rfl, hq0, hq1, HQ, hY⟩ := hrel
        by_cases hjt : j < sn2
        · obtain ⟨bb2, o2, y, rfl, hy, hd0, hd1, hd2, hi2⟩ := Trips.at_ hT hjt
          have yf := TF.out.trip j y hy.out
          have Hyi : Hid (tripI t (j : Int) = y) := tripI_of hy.out
          have HY : Hid (TripIn t (tripI t (j : Int))) := by rw [Hyi.out]; exact yf.in_
          have HJ : Hid (0 ≤ (j : Int) ∧ (j : Int) < t.Trips.length) := ⟨by omega, by have := Hl.out; omega⟩
          have HQ1 : Hid (q + ((if onAt t k y = true then 1 else 0) + cntGo t k (t.Trips.drop (j + 1))) = cntAt t k) := by
            have h3 := HQ.out
            rw [drop_at hy.out] at h3
            exact h3
          clear HQ hi2 hy yf
          by_cases e1 : y.Start ≤ (k : Int)
          · by_cases e2 : (k : Int) < endAt t (tripI t (j : Int))
            · have HQ2 : Hid (q + 1 + cntGo t k (t.Trips.drop (j + 1)) = cntAt t k) := by
                have h3 := HQ1.out
                rw [if_pos (by rw [Hyi.out] at e2; simp [onAt]; omega)] at h3
                show _ = _; omega
              clear HQ1
              go_wp2_with (go_at_call 80; refine (spec_l5End H.out inferInstance TF.out.net _ HJ.out.1 HJ.out.2 HY.out).mono ?_; rintro e w4 ⟨rfl, L4⟩; have X4 := Later.trans (w := wb) inferInstance L4)
              go_roundw
              case rel => exact ⟨j + 1, q + 1, by omega, by go_num, rfl, by omega, by omega, HQ2, inferInstance⟩
              case measure => simp [intOf]; omega
            · have HQ2 : Hid (q + cntGo t k (t.Trips.drop (j + 1)) = cntAt t k) := by
                have h3 := HQ1.out
                rw [if_neg (by rw [Hyi.out] at e2; simp [onAt]; omega)] at h3
                show _ = _; omega
              clear HQ1
              go_wp2_with (go_at_call 80; refine (spec_l5End H.out inferInstance TF.out.net _ HJ.out.1 HJ.out.2 HY.out).mono ?_; rintro e w4 ⟨rfl, L4⟩; have X4 := Later.trans (w := wb) inferInstance L4)
              go_roundw
              case rel => exact ⟨j + 1, q, by omega, by go_num, rfl, by omega, by omega, HQ2, inferInstance⟩
              case measure => simp [intOf]; omega
          · have HQ2 : Hid (q + cntGo t k (t.Trips.drop (j + 1)) = cntAt t k) := by
              have h3 := HQ1.out
              rw [if_neg (by simp [onAt]; omega)] at h3
              show _ = _; omega
            clear HQ1
            go_wp2
            go_roundw
            case rel => exact ⟨j + 1, q, by omega, by go_num, rfl, by omega, by omega, HQ2, inferInstance⟩
            case measure => simp [intOf]; omega
        · have HQ2 : Hid (q = cntAt t k) := by
            have h3 := HQ.out
            rw [List.drop_eq_nil_of_le (by have := Hl.out; omega)] at h3
            exact (by simpa [cntGo] using h3 : q = _)
          have HG1 := HG.out
          rw [← HQ2.out] at HG1
          clear HG HQ HQ2
          by_cases c1 : m < q
          · rw [if_pos c1] at HG1
            have HG2 := Lib.hid HG1
            clear HG1
            go_wp2
            go_roundw
            case rel => exact ⟨k + 1, k, q, by omega, by go_num, rfl, rfl, by rw [show ((k + 1 : Nat) : Int) = (k : Int) + 1 by omega]; exact HG2, inferInstance⟩
            case measure => simp [intOf]; omega
          · rw [if_neg c1] at HG1
            have HG2 := Lib.hid HG1
            clear HG1
            go_wp2
            go_roundw
            case rel => exact ⟨k + 1, b, m, by omega, by go_num, rfl, rfl, by rw [show ((k + 1 : Nat) : Int) = (k : Int) + 1 by omega]; exact HG2, inferInstance⟩
            case measure => simp [intOf]; omega
    · have HE : Hid (peakOf t = (b, m)) := by
        have h3 := HF.out
        rw [show 1800 - k = 0 by omega] at h3
        exact h3.symm
      have hgt : ¬ (k : Int) ≤ 1799 := by omega
      clear HF
      go_wp2
      go_ret3
      exact ⟨by rw [HE.out]; rfl, hww.trans inferInstance⟩
end Go.Proofs.Ytbbbopdpmcpjjaa
