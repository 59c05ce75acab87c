/-
  Earliest arrivals: the program's way.
-/
import Derived.Test.YteijofkkggifhaaRowA
import Derived.Test.YteijofkkggifhaaArrQ

namespace Go.Proofs.Yteijofkkggifhaa
open Go Go.RowKit
set_option linter.unusedVariables false
set_option maxRecDepth 100000
theorem trips_take {t : Timetable} {k : Nat} {x : Trip} (h : t.Trips[k]? = some x) : t.Trips.drop k = x :: t.Trips.drop (k + 1) := drop_at h
set_option maxHeartbeats 800000 in
theorem impl_readyAt {w0 w : World} {sA0 : Option Addr} {sn0 sc0 : Nat} {sA1 : Option Addr} {sn1 sc1 : Nat} {sA2 : Option Addr} {sn2 sc2 : Nat} {t : Timetable} (h : TimetableAt w0 sA0 sn0 sc0 sA1 sn1 sc1 sA2 sn2 sc2 t) (hl : Later w0 w) (nf : NetFacts t.Network) (stop at_ : Int) (s0 : 0 ≤ stop) (s1 : stop < t.Network.Stops.length) :
    Calls Try.prog 124 #[.agg #[.slice sA0 sn0 sc0, .slice sA1 sn1 sc1, .slice sA2 sn2 sc2], .int .i64 stop, .int .i64 at_] w (RetB sn0 (readyL t.Network.Stops.length stop at_) w) := by
  have hS := h.l_Network_Stops
  have Hl : Hid (sn0 = t.Network.Stops.length) := hS.len
  have hn8 : sn0 ≤ 8 := by have := nf.stops; rw [hS.len]; omega
  rw [← Hl.out] at s1 ⊢
  obtain ⟨p, rfl⟩ := Int.eq_ofNat_of_zero_le s0
  have hp : p < sn0 := by omega
  have hmk := make_ints sn0 (by omega)
  clear hS s0
  have HB0 : ∀ W [Later (w.alloc (.cells #[.slice sA0 sn0 sc0, .slice sA1 sn1 sc1, .slice sA2 sn2 sc2] 39)) W] (j : Nat), W.cell? ⟨w.heap.size, j, none⟩ = #[.slice sA0 sn0 sc0, .slice sA1 sn1 sc1, .slice sA2 sn2 sc2][j]? := Later.boxes (t := 39) (fr := (0, 0)) (heap_new (by simp; try omega)); obtain ⟨wb, hwb⟩ : ∃ wb : World, wb = (w.alloc (.cells #[.slice sA0 sn0 sc0, .slice sA1 sn1 sc1, .slice sA2 sn2 sc2] 39)) := ⟨_, rfl⟩; haveI hbW : Later wb (w.alloc (.cells #[.slice sA0 sn0 sc0, .slice sA1 sn1 sc1, .slice sA2 sn2 sc2] 39)) := (by rw [hwb]; exact Later.rfl_); haveI hww : Later w wb := (by rw [hwb]; infer_instance); rw [← hwb] at HB0; have hbE := Lib.hid (congrArg (fun x : World => x.heap.size) hwb); clear hwb
  have hwb0 := hl.trans hww
  have H := Lib.hid h
  clear h
  have hbs : wb.heap.size ≤ w.heap.size + 1 := by have := hbE.out; simp at this; omega
  haveI hN : New wb (w.heap.size + 1) := ⟨hbs⟩
  go_enter Try.func124, Try.ntmps124
  go_wp2_with fail
  go_loopw [16] (fun i wr => ∃ (k : Nat) (cs : List Int), k ≤ sn0 ∧ i = .int .i64 k ∧ Hid (cs.length = sn0 ∧ ∀ j, j < k → cs[j]? = some 1073741824) ∧ Blk wr (w.heap.size + 1) 3 (rowA cs) ∧ Later wb wr) (fun i _ => sn0 - (intOf i).toNat)
  case atStart => exact ⟨0, _, by omega, rfl, ⟨by simp, fun j hj => by omega⟩, heap_new (by simp), inferInstance⟩
  case round =>
    obtain ⟨k, cs, hk, rfl, HC, hB, hX⟩ := hrel
    by_cases hlt : k < sn0
    · obtain ⟨v0, hv0⟩ : ∃ v, cs[k]? = some v := ⟨_, List.getElem?_eq_getElem (by have := HC.out.1; omega)⟩
      have hc0 := hB.rowAt hv0
      have hf0 := hB.frozen k
      clear hv0
      go_wp2
      go_roundw
      case rel => exact ⟨k + 1, cs.set k 1073741824, by omega, by go_num, fill_step HC.out hlt, hB.rowSet _, inferInstance⟩
      case measure => simp [intOf]; omega
    · obtain rfl := all_rep HC.out (by omega)
      have hc0 := hB.rowAt (k := p) (v := 1073741824) (by rw [List.getElem?_replicate, if_pos hp])
      have hf0 := hB.frozen p
      go_wp2
      go_ret
      exact ⟨_, rfl, by simp [readyL], hB.rowSet _, by omega, hww.trans inferInstance⟩
set_option maxHeartbeats 2000000 in
theorem impl_ride {w0 w : World} {sA0 : Option Addr} {sn0 sc0 : Nat} {sA1 : Option Addr} {sn1 sc1 : Nat} {sA2 : Option Addr} {sn2 sc2 : Nat} {t : Timetable} (h : TimetableAt w0 sA0 sn0 sc0 sA1 sn1 sc1 sA2 sn2 sc2 t) (hl : Later w0 w) {w3 : World} (tf : TimeFacts t) {rA : Option Addr} {rn rc : Nat} {ready : List Int} (h3 : Ints w3 rA rn rc ready) (hl3 : Later w3 w) (hrn : ready.length = t.Network.Stops.length) :
    Calls Try.prog 169 #[.agg #[.slice sA0 sn0 sc0, .slice sA1 sn1 sc1, .slice sA2 sn2 sc2], .slice rA rn rc] w (RetB rn (rideL t ready) w) := by
  have hT := h.l_Trips.later hl
  have hR := h3.later hl3
  have hn2 := hT.le
  have Hl := Lib.hid hT.len
  have Hr := Lib.hid hR.len
  have NF := Lib.hid tf.net
  have TF := Lib.hid tf
  have HRN : Hid (rn = t.Network.Stops.length) := by show _ = _; rw [hR.len, hrn]
  have hn8 : rn ≤ 8 := by have := tf.net.stops; have := HRN.out; omega
  have hmk := make_ints rn (by omega)
  clear h3 tf hrn
  have HB0 : ∀ W [Later (w.alloc (.cells #[.slice sA0 sn0 sc0, .slice sA1 sn1 sc1, .slice sA2 sn2 sc2] 39)) W] (j : Nat), W.cell? ⟨w.heap.size, j, none⟩ = #[.slice sA0 sn0 sc0, .slice sA1 sn1 sc1, .slice sA2 sn2 sc2][j]? := Later.boxes (t := 39) (fr := (0, 0)) (heap_new (by simp; try omega)); obtain ⟨wb, hwb⟩ : ∃ wb : World, wb = (w.alloc (.cells #[.slice sA0 sn0 sc0, .slice sA1 sn1 sc1, .slice sA2 sn2 sc2] 39)) := ⟨_, rfl⟩; haveI hbW : Later wb (w.alloc (.cells #[.slice sA0 sn0 sc0, .slice sA1 sn1 sc1, .slice sA2 sn2 sc2] 39)) := (by rw [hwb]; exact Later.rfl_); haveI hww : Later w wb := (by rw [hwb]; infer_instance); rw [← hwb] at HB0; have hbE := Lib.hid (congrArg (fun x : World => x.heap.size) hwb); clear hwb
  have hwb0 := hl.trans hww
  have H := Lib.hid h
  clear h
  replace hT := hT.later hww
  replace hR := hR.later hww
  have HR := Lib.hid hR
  clear hR
  have hbs : wb.heap.size ≤ w.heap.size + 1 := by have := hbE.out; simp at this; omega
  haveI hN : New wb (w.heap.size + 1) := ⟨hbs⟩
  have hfl := field_Line1
  go_enter Try.func169, Try.ntmps169
  go_wp2_with fail
  go_loopw [18] (fun i wr => ∃ (k : Nat) (cs : List Int), k ≤ rn ∧ i = .int .i64 k ∧ Hid (cs.length = rn ∧ ∀ j, j < k → cs[j]? = some 1073741824) ∧ Blk wr (w.heap.size + 1) 3 (rowA cs) ∧ Later wb wr) (fun i _ => rn - (intOf i).toNat)
  case atStart => exact ⟨0, _, by omega, rfl, ⟨by simp, fun j hj => by omega⟩, heap_new (by simp), inferInstance⟩
  case round =>
    obtain ⟨k, cs, hk, rfl, HC, hB, hX⟩ := hrel
    by_cases hlt : k < rn
    · obtain ⟨v0, hv0⟩ : ∃ v, cs[k]? = some v := ⟨_, List.getElem?_eq_getElem (by have := HC.out.1; omega)⟩
      have hc0 := hB.rowAt hv0
      have hf0 := hB.frozen k
      clear hv0
      go_wp2
      go_roundw
      case rel => exact ⟨k + 1, cs.set k 1073741824, by omega, by go_num, fill_step HC.out hlt, hB.rowSet _, inferInstance⟩
      case measure => simp [intOf]; omega
    obtain rfl := all_rep HC.out (by omega)
    clear HC hk
    go_wp2_with fail
    go_loopw [28] (fun i wr => ∃ (k : Nat) (out : List Int), k ≤ sn2 ∧ i = .int .i64 k ∧ Hid (out.length = rn ∧ rideAll t ready (t.Trips.drop k) out = rideL t ready) ∧ Blk wr (w.heap.size + 1) 3 (rowA out) ∧ Later wb wr) (fun i _ => sn2 - (intOf i).toNat)
    case atStart => exact ⟨0, _, by omega, rfl, ⟨by simp, by rw [List.drop_zero]; unfold rideL; rw [← Hr.out]; rfl⟩, hB.drew, inferInstance⟩
    case round =>
      obtain ⟨k, out, hk, rfl, HF, hB, hX⟩ := hrel
      by_cases hlt : k < sn2
      · obtain ⟨b, o, x, rfl, hx, hc0, hc1, hc2, hi⟩ := Trips.at_ hT hlt
        have HF1 : Hid (rideAll t ready (t.Trips.drop (k + 1)) (rideGo ready (passT t x) false out) = rideL t ready) := by rw [← HF.out.2, drop_at hx.out]; rfl
        have TI := Lib.hid (TF.out.trip k x hx.out).in_
        have TM := Lib.hid (List.mem_of_getElem? hx.out)
        have HOL : Hid (out.length = rn) := HF.out.1
        clear HF hi hx
        have HBX : ∀ W [Later (wr.alloc (.cells #[.int .i64 x.Id, .int .i64 x.Line, .int .i64 x.Start] 107)) W] (j : Nat), W.cell? ⟨wr.heap.size, j, none⟩ = #[.int .i64 x.Id, .int .i64 x.Line, .int .i64 x.Start][j]? := Later.boxes (t := 107) (fr := (0, 0)) (heap_new (by simp; try omega)); obtain ⟨wx, hwx⟩ : ∃ wx : World, wx = (wr.alloc (.cells #[.int .i64 x.Id, .int .i64 x.Line, .int .i64 x.Start] 107)) := ⟨_, rfl⟩; haveI hxW : Later wx (wr.alloc (.cells #[.int .i64 x.Id, .int .i64 x.Line, .int .i64 x.Start] 107)) := (by rw [hwx]; exact Later.rfl_); haveI hbx : Later wb wx := (by rw [hwx]; infer_instance); rw [← hwx] at HBX; clear hwx
        go_wp2_with first
          | (go_at_call 72; refine (impl_stopTimes H.out (hwb0.trans inferInstance) NF.out x TI.out).mono ?_; rintro e w4 ⟨A4, n4, c4, f4, rfl, o4, nd4, lo4, L4⟩; have X4 := Later.trans (w := wb) inferInstance L4; have Z4 := Later.trans (w := wx) inferInstance L4; have Y4 := Later.trans (w := wr) inferInstance L4)
          | (go_at_call 73; refine (impl_lineOf H.out (hwb0.trans inferInstance) x TI.out.line0 TI.out.line1).mono ?_; rintro e w5 ⟨A0, n0, c0, A1, n1, c1', rfl, hy, L5⟩; have X5 := Later.trans (w := wb) inferInstance L5; have Y5 := Later.trans (w := wr) inferInstance L5; have U5 := Later.trans (w := w4) inferInstance L5)
        have hS := hy.l_Stops.later hwb0
        have lf := Lib.hid (lineAtT_facts NF.out TI.out.line0 TI.out.line1)
        have HS0 := Lib.hid hS.len
        have hn0 : n0 ≤ 6 := by rw [hS.len]; have := lf.out.stops; omega
        have HN4 : Hid (n4 = n0) := by show _ = _; rw [o4.len, timesOf_len, HS0.out]; exact lf.out.runs
        have hgf : w.heap.size + 1 ∉ f4 := fun hg => by have h1 := lo4 _ hg; have h2 := hB.lt; simp at h1; omega
        have hB5 := hB.later Y5
        have HO4 := Lib.hid (o4.later U5)
        clear hB hy o4 nd4 lo4
        go_wp2_with fail
        go_loopw [10, 40] (fun on i wr => ∃ (m : Nat) (b : Bool) (out' : List Int), m ≤ n0 ∧ i = .int .i64 m ∧ on = .bool b ∧ Hid (out'.length = rn ∧ rideGo ready ((passT t x).drop m) b out' = rideGo ready (passT t x) false out) ∧ Hid (OSl 1 oInt wr A4 n4 c4 (timesOf t x) f4) ∧ Blk wr (w.heap.size + 1) 3 (rowA out') ∧ Later wb wr) (fun _ i _ => n0 - (intOf i).toNat)
        case atStart => exact ⟨0, false, out, by omega, rfl, rfl, ⟨HOL.out, by rw [List.drop_zero]⟩, HO4.out, hB5.drew, inferInstance⟩
        case round =>
          obtain ⟨m, on, out', hm, rfl, rfl, HG, HO, hB, hX⟩ := hrel
          by_cases hlm : m < n0
          · obtain ⟨b1, o1, s, rfl, hs, hcs, _⟩ := Ints.at_ hS hlm
            have hsb := lf.out.mem m s hs.out
            obtain ⟨q, rfl⟩ := Int.eq_ofNat_of_zero_le hsb.1
            have hqr : q < rn := by have := HRN.out; omega
            have HI4 : Ints wr A4 n4 c4 (timesOf t x) := HO.out.reads
            obtain ⟨b2, o2, τ, rfl, ht, hct, _⟩ := Ints.at_ HI4 (show m < n4 by have := HN4.out; omega)
            have hmn : m < n4 := by have := HN4.out; omega
            have hn4 := HI4.le
            have HT : Hid (τ = timeAt t x m) := by show _ = _; exact Option.some.inj (ht.out.symm.trans (timesOf_at (by have := lf.out.runs; have := HS0.out; omega)))
            obtain ⟨b3, o3, rv, hA3, hr, hcr, _⟩ := Ints.at_ HR.out hqr
            obtain ⟨ov, hov⟩ : ∃ v, out'[q]? = some v := ⟨_, List.getElem?_eq_getElem (by have := HG.out.1; omega)⟩
            have hco := hB.rowAts hov
            have hfo := hB.frozen q
            have HG1 : Hid (out'.length = rn ∧ rideGo ready ((passT t x).drop (m + 1)) (on || decide (rv ≤ τ)) (if on = true then out'.set q (lo ov τ) else out') = rideGo ready (passT t x) false out) := by
              refine ⟨HG.out.1, ?_⟩
              have h9 := HG.out.2
              rw [drop_at (passT_at hs.out), ← HT.out] at h9
              simp only [rideGo] at h9
              rw [gi_at hr.out, gi_at hov] at h9
              simpa using h9
            subst hA3
            clear HG hs ht hr hov hsb
            cases on with
            | true =>
              by_cases hmn2 : τ < ov
              · have HG2 : Hid ((out'.set q τ).length = rn ∧ rideGo ready ((passT t x).drop (m + 1)) true (out'.set q τ) = rideGo ready (passT t x) false out) := ⟨by rw [List.length_set]; exact HG1.out.1, by have := HG1.out.2; simpa [lo, hmn2] using this⟩
                clear HG1
                go_wp2_with fail
                go_still_tail 12, (by kernel_rfl)
                go_wp2_with fail
                go_quiet (fail)
                go_wp2
                go_roundw
                case rel => exact ⟨m + 1, true, _, by omega, by go_num, rfl, HG2, Lib.hid ((HO.out.keep (W := wr.drew) fun _ _ => rfl).setc hgf _ _ |>.keep fun _ _ => rfl), (by exact hB.drew.rowSet τ), inferInstance⟩
                case measure => simp [intOf]; omega
              · have HG2 : Hid ((out'.set q ov).length = rn ∧ rideGo ready ((passT t x).drop (m + 1)) true (out'.set q ov) = rideGo ready (passT t x) false out) := ⟨by rw [List.length_set]; exact HG1.out.1, by have := HG1.out.2; simpa [lo, hmn2] using this⟩
                clear HG1
                go_wp2_with fail
                go_still_tail 12, (by kernel_rfl)
                go_wp2_with fail
                go_quiet (fail)
                go_wp2
                go_roundw
                case rel => exact ⟨m + 1, true, _, by omega, by go_num, rfl, HG2, Lib.hid ((HO.out.keep (W := wr.drew) fun _ _ => rfl).setc hgf _ _ |>.keep fun _ _ => rfl), (by exact hB.drew.rowSet ov), inferInstance⟩
                case measure => simp [intOf]; omega
            | false =>
              by_cases hle : rv ≤ τ
              · go_wp2
                go_quiet (fail)
                go_wp2
                go_roundw
                case rel => exact ⟨m + 1, true, out', by omega, by go_num, rfl, ⟨HG1.out.1, by have := HG1.out.2; simpa [hle] using this⟩, Lib.hid (HO.out.keep fun _ _ => rfl), hB.drewN _, inferInstance⟩
                case measure => simp [intOf]; omega
              · go_wp2
                go_quiet (fail)
                go_wp2
                go_roundw
                case rel => exact ⟨m + 1, decide (rv ≤ τ), out', by omega, by go_num, rfl, ⟨HG1.out.1, by have := HG1.out.2; simpa using this⟩, Lib.hid (HO.out.keep fun _ _ => rfl), hB.drewN _, inferInstance⟩
                case measure => simp [intOf]; omega
          · have HG1 : Hid (out' = rideGo ready (passT t x) false out) := by
              have h9 := HG.out.2
              rw [List.drop_eq_nil_of_le (by rw [passT_len]; have := HS0.out; omega)] at h9
              exact h9
            have HL := Lib.hid HG.out.1
            go_wp2
            go_roundw
            case rel => exact ⟨k + 1, out', by omega, by go_num, ⟨HL.out, by rw [HG1.out]; exact HF1.out⟩, hB, inferInstance⟩
            case measure => simp [intOf]; omega
      · have HE : Hid (out = rideL t ready) := by
          have h9 := HF.out.2
          rw [List.drop_eq_nil_of_le (by have := Hl.out; omega)] at h9
          exact h9
        go_wp2
        go_ret
        rw [← HE.out]
        exact ⟨_, rfl, HF.out.1.symm, hB, by omega, hww.trans inferInstance⟩
end Go.Proofs.Yteijofkkggifhaa
