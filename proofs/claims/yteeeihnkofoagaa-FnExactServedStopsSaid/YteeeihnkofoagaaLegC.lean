/-
  Legs: filling one by a trip's id, in the reference.
-/
import Derived.Test.YteeeihnkofoagaaLegB

namespace Go.Proofs.Yteeeihnkofoagaa
open Go Go.RowKit
set_option linter.unusedVariables false
set_option maxRecDepth 100000
set_option maxHeartbeats 2000000 in
theorem spec_l8Fill {w0 w : World} {sA0 : Option Addr} {sn0 sc0 : Nat} {sA1 : Option Addr} {sn1 sc1 : Nat} {sA2 : Option Addr} {sn2 sc2 : Nat} {t : Timetable} (h : TimetableAt w0 sA0 sn0 sc0 sA1 sn1 sc1 sA2 sn2 sc2 t) (hl : Later w0 w) (tf : TimeFacts t) (id a b : Int) : Calls Try.prog 123 #[.agg #[.slice sA0 sn0 sc0, .slice sA1 sn1 sc1, .slice sA2 sn2 sc2], .int .i64 id, .int .i64 a, .int .i64 b] w (RetLegB (fillI t id a b) w) := by
  have hT := h.l_Trips
  have Hl2 := Lib.hid hT.len
  clear hT
  obtain ⟨p, hp⟩ : ∃ p, findI t id = p := ⟨_, rfl⟩
  have hfb := findI_bd t id
  rw [hp] at hfb
  have HF0 := Lib.hid hp
  clear hp
  obtain ⟨wx, hwx⟩ : ∃ wx : World, wx = ((w.alloc (.cells #[.slice sA0 sn0 sc0, .slice sA1 sn1 sc1, .slice sA2 sn2 sc2] 50)).alloc (.cells #[.int .i64 0, .int .i64 0, .int .i64 0, .int .i64 0, .int .i64 0] 100)) := ⟨_, rfl⟩
  have HBX : Blk wx (w.heap.size + 1) 100 #[.int .i64 0, .int .i64 0, .int .i64 0, .int .i64 0, .int .i64 0] := by rw [hwx]; exact heap_new (by simp)
  have HB0 : ∀ W [Later (w.alloc (.cells #[.slice sA0 sn0 sc0, .slice sA1 sn1 sc1, .slice sA2 sn2 sc2] 50)) W] (j : Nat), W.cell? ⟨w.heap.size, j, none⟩ = #[.slice sA0 sn0 sc0, .slice sA1 sn1 sc1, .slice sA2 sn2 sc2][j]? := Later.boxes (t := 50) (fr := (0, 0)) (heap_new (by simp; try omega)); obtain ⟨wb, hwb⟩ : ∃ wb : World, wb = (w.alloc (.cells #[.slice sA0 sn0 sc0, .slice sA1 sn1 sc1, .slice sA2 sn2 sc2] 50)) := ⟨_, rfl⟩; haveI hbW : Later wb (w.alloc (.cells #[.slice sA0 sn0 sc0, .slice sA1 sn1 sc1, .slice sA2 sn2 sc2] 50)) := (by rw [hwb]; exact Later.rfl_); haveI hww : Later w wb := (by rw [hwb]; infer_instance); rw [← hwb] at HB0; have hbE := Lib.hid (congrArg (fun x : World => x.heap.size) hwb); clear hwb
  have hwb0 := hl.trans hww
  have H := Lib.hid h
  clear h
  haveI hxW : Later wx ((w.alloc (.cells #[.slice sA0 sn0 sc0, .slice sA1 sn1 sc1, .slice sA2 sn2 sc2] 50)).alloc (.cells #[.int .i64 0, .int .i64 0, .int .i64 0, .int .i64 0, .int .i64 0] 100)) := by rw [hwx]; exact Later.rfl_
  haveI hbx : Later wb wx := by rw [hwx]; infer_instance
  have hzb : wb.heap.size ≤ w.heap.size + 1 := by have := hbE.out; simp at this; omega
  haveI hN : New wb (w.heap.size + 1) := ⟨hzb⟩
  clear hwx
  by_cases c : p < 0
  · rw [show fillI t id a b = (noLeg, false) from by unfold fillI; rw [HF0.out, if_pos c]]
    go_enter Try.func123, Try.ntmps123
    go_wp2_with (go_at_call 78; refine (spec_l5Find H.out (hwb0.trans inferInstance) id).mono ?_; rw [HF0.out]; rintro e w1 ⟨rfl, L1⟩; have X1 := Later.trans (w := wb) inferInstance L1; have Z1 := Later.trans (w := wx) inferInstance L1; have hB := HBX.later Z1; have hcr := fun i => hB.cell i; have hfr := fun i => hB.frozen i)
    have HF := ((((hB.set_ 0 (.int .i64 (0))).set_ 1 (.int .i64 (0))).set_ 2 (.int .i64 (0))).set_ 3 (.int .i64 (0))).set_ 4 (.int .i64 (0))
    have hr0 := (HF.cell 0).trans (show _ = some (.int .i64 (0) : Value) from rfl)
    have hr1 := (HF.cell 1).trans (show _ = some (.int .i64 (0) : Value) from rfl)
    have hr2 := (HF.cell 2).trans (show _ = some (.int .i64 (0) : Value) from rfl)
    have hr3 := (HF.cell 3).trans (show _ = some (.int .i64 (0) : Value) from rfl)
    have hr4 := (HF.cell 4).trans (show _ = some (.int .i64 (0) : Value) from rfl)
    refine bodyPost_ret (v := .tuple #[.agg #[.int .i64 (0), .int .i64 (0), .int .i64 (0), .int .i64 (0), .int .i64 (0)], .bool false]) (by simp [results, Try.results123, go_sem, hr0, hr1, hr2, hr3, hr4]) rfl ?_
    exact ⟨rfl, hww.trans inferInstance⟩
  obtain ⟨m, rfl⟩ := Int.eq_ofNat_of_zero_le (show 0 ≤ p by omega)
  obtain ⟨x, hx⟩ : ∃ x, t.Trips[m]? = some x := ⟨_, List.getElem?_eq_getElem (by omega)⟩
  have TI := Lib.hid (tf.trip m x hx).in_
  have HXI : Hid (tripI t (m : Int) = x) := tripI_of hx
  have TIK : Hid (TripIn t (tripI t (m : Int))) := by show TripIn t _; rw [HXI.out]; exact TI.out
  have HK : Hid (0 ≤ (m : Int) ∧ (m : Int) < t.Trips.length) := ⟨by omega, hfb.2⟩
  have HLI : Hid (lineI t (m : Int) = lineAtT t x.Line) := by show _ = _; unfold lineI; rw [HXI.out]
  have HFI : Hid (fillI t id a b = fillT t x a b) := by show _ = _; unfold fillI; rw [HF0.out, if_neg c, HXI.out]
  have TF := Lib.hid tf
  have HX := Lib.hid hx
  obtain ⟨pa, hpa⟩ : ∃ pa, idx (intIs a) (lineAtT t x.Line).Stops = pa := ⟨_, rfl⟩
  obtain ⟨pb, hpb⟩ : ∃ pb, idx (intIs b) (lineAtT t x.Line).Stops = pb := ⟨_, rfl⟩
  have HPA := Lib.hid hpa
  have HPB := Lib.hid hpb
  rw [HFI.out]
  clear hx hfb hpa hpb tf
  by_cases d : pa < 0 ∨ pb ≤ pa
  · rw [show fillT t x a b = (noLeg, false) from by unfold fillT; rw [HPA.out, HPB.out, if_pos d]]
    by_cases d1 : pa < 0
    · clear d
      go_enter Try.func123, Try.ntmps123
      go_wp2_with (go_at_call 78; refine (spec_l5Find H.out (hwb0.trans inferInstance) id).mono ?_; rw [HF0.out]; rintro e w1 ⟨rfl, L1⟩; have X1 := Later.trans (w := wb) inferInstance L1; have Z1 := Later.trans (w := wx) inferInstance L1; have hB := HBX.later Z1; have hcr := fun i => hB.cell i; have hfr := fun i => hB.frozen i)
      go_region_held3 (fun w' => Later wb w') (exact inferInstance) (first
        | (go_at_call 87; refine (spec_l5Line H.out (hwb0.trans inferInstance) _ HK.out.1 HK.out.2 TIK.out).mono ?_; rintro e w2 ⟨A0, n0, c0, A1, n1, c1, rfl, hy, L2⟩; have X2 := Later.trans (w := wb) inferInstance L2; have Z2 := Later.trans (w := wx) inferInstance L2; have hB := HBX.later Z2; have hcr := fun i => hB.cell i; have hfr := fun i => hB.frozen i; have HY := Lib.hid hy; clear hy)
        | ((with_reducible refine (spec_l2Place (r := lineI t (m : Int)) (Hid.out (by assumption)) (hwb0.trans inferInstance) a).mono ?_); rw [HLI.out, HPA.out]; rintro e w3 ⟨rfl, L3⟩; have X3 := Later.trans (w := wb) inferInstance L3; have Z3 := Later.trans (w := wx) inferInstance L3; have hB := HBX.later Z3; have hcr := fun i => hB.cell i; have hfr := fun i => hB.frozen i)
        | ((with_reducible refine (spec_l2Place (r := lineI t (m : Int)) (Hid.out (by assumption)) (hwb0.trans inferInstance) b).mono ?_); rw [HLI.out, HPB.out]; rintro e w4 ⟨rfl, L4⟩; have X4 := Later.trans (w := wb) inferInstance L4; have Z4 := Later.trans (w := wx) inferInstance L4; have hB := HBX.later Z4; have hcr := fun i => hB.cell i; have hfr := fun i => hB.frozen i))
      go_wp2
      have HF := ((((hB.set_ 0 (.int .i64 (0))).set_ 1 (.int .i64 (0))).set_ 2 (.int .i64 (0))).set_ 3 (.int .i64 (0))).set_ 4 (.int .i64 (0))
      have hr0 := (HF.cell 0).trans (show _ = some (.int .i64 (0) : Value) from rfl)
      have hr1 := (HF.cell 1).trans (show _ = some (.int .i64 (0) : Value) from rfl)
      have hr2 := (HF.cell 2).trans (show _ = some (.int .i64 (0) : Value) from rfl)
      have hr3 := (HF.cell 3).trans (show _ = some (.int .i64 (0) : Value) from rfl)
      have hr4 := (HF.cell 4).trans (show _ = some (.int .i64 (0) : Value) from rfl)
      refine bodyPost_ret (v := .tuple #[.agg #[.int .i64 (0), .int .i64 (0), .int .i64 (0), .int .i64 (0), .int .i64 (0)], .bool false]) (by simp [results, Try.results123, go_sem, hr0, hr1, hr2, hr3, hr4]) rfl ?_
      exact ⟨rfl, hww.trans inferInstance⟩
    · have d2 : pb ≤ pa := d.resolve_left d1
      clear d
      go_enter Try.func123, Try.ntmps123
      go_wp2_with (go_at_call 78; refine (spec_l5Find H.out (hwb0.trans inferInstance) id).mono ?_; rw [HF0.out]; rintro e w1 ⟨rfl, L1⟩; have X1 := Later.trans (w := wb) inferInstance L1; have Z1 := Later.trans (w := wx) inferInstance L1; have hB := HBX.later Z1; have hcr := fun i => hB.cell i; have hfr := fun i => hB.frozen i)
      go_region_held3 (fun w' => Later wb w') (exact inferInstance) (first
        | (go_at_call 87; refine (spec_l5Line H.out (hwb0.trans inferInstance) _ HK.out.1 HK.out.2 TIK.out).mono ?_; rintro e w2 ⟨A0, n0, c0, A1, n1, c1, rfl, hy, L2⟩; have X2 := Later.trans (w := wb) inferInstance L2; have Z2 := Later.trans (w := wx) inferInstance L2; have hB := HBX.later Z2; have hcr := fun i => hB.cell i; have hfr := fun i => hB.frozen i; have HY := Lib.hid hy; clear hy)
        | ((with_reducible refine (spec_l2Place (r := lineI t (m : Int)) (Hid.out (by assumption)) (hwb0.trans inferInstance) a).mono ?_); rw [HLI.out, HPA.out]; rintro e w3 ⟨rfl, L3⟩; have X3 := Later.trans (w := wb) inferInstance L3; have Z3 := Later.trans (w := wx) inferInstance L3; have hB := HBX.later Z3; have hcr := fun i => hB.cell i; have hfr := fun i => hB.frozen i)
        | ((with_reducible refine (spec_l2Place (r := lineI t (m : Int)) (Hid.out (by assumption)) (hwb0.trans inferInstance) b).mono ?_); rw [HLI.out, HPB.out]; rintro e w4 ⟨rfl, L4⟩; have X4 := Later.trans (w := wb) inferInstance L4; have Z4 := Later.trans (w := wx) inferInstance L4; have hB := HBX.later Z4; have hcr := fun i => hB.cell i; have hfr := fun i => hB.frozen i))
      go_wp2
      have HF := ((((hB.set_ 0 (.int .i64 (0))).set_ 1 (.int .i64 (0))).set_ 2 (.int .i64 (0))).set_ 3 (.int .i64 (0))).set_ 4 (.int .i64 (0))
      have hr0 := (HF.cell 0).trans (show _ = some (.int .i64 (0) : Value) from rfl)
      have hr1 := (HF.cell 1).trans (show _ = some (.int .i64 (0) : Value) from rfl)
      have hr2 := (HF.cell 2).trans (show _ = some (.int .i64 (0) : Value) from rfl)
      have hr3 := (HF.cell 3).trans (show _ = some (.int .i64 (0) : Value) from rfl)
      have hr4 := (HF.cell 4).trans (show _ = some (.int .i64 (0) : Value) from rfl)
      refine bodyPost_ret (v := .tuple #[.agg #[.int .i64 (0), .int .i64 (0), .int .i64 (0), .int .i64 (0), .int .i64 (0)], .bool false]) (by simp [results, Try.results123, go_sem, hr0, hr1, hr2, hr3, hr4]) rfl ?_
      exact ⟨rfl, hww.trans inferInstance⟩
  · have d1 : ¬ pa < 0 := fun e => d (.inl e)
    have d2 : ¬ pb ≤ pa := fun e => d (.inr e)
    rw [show fillT t x a b = (⟨x.Id, a, b, timeAt t x pa.toNat, timeAt t x pb.toNat⟩, true) from by unfold fillT; rw [HPA.out, HPB.out, if_neg d]]
    obtain ⟨ka, rfl⟩ := Int.eq_ofNat_of_zero_le (show 0 ≤ pa by omega)
    obtain ⟨kb, rfl⟩ := Int.eq_ofNat_of_zero_le (show 0 ≤ pb by omega)
    have HAT := Lib.hid (placeI_at HPA.out)
    have HBT := Lib.hid (placeI_at HPB.out)
    have hkk : ka < kb := by omega
    rw [Int.toNat_natCast, Int.toNat_natCast]
    clear d
    go_enter Try.func123, Try.ntmps123
    go_wp2_with (go_at_call 78; refine (spec_l5Find H.out (hwb0.trans inferInstance) id).mono ?_; rw [HF0.out]; rintro e w1 ⟨rfl, L1⟩; have X1 := Later.trans (w := wb) inferInstance L1; have Z1 := Later.trans (w := wx) inferInstance L1; have hB := HBX.later Z1; have hcr := fun i => hB.cell i; have hfr := fun i => hB.frozen i)
    go_region_held3 (fun w' => Later wb w') (exact inferInstance) (first
      | (go_at_call 87; refine (spec_l5Line H.out (hwb0.trans inferInstance) _ HK.out.1 HK.out.2 TIK.out).mono ?_; rintro e w2 ⟨A0, n0, c0, A1, n1, c1, rfl, hy, L2⟩; have X2 := Later.trans (w := wb) inferInstance L2; have Z2 := Later.trans (w := wx) inferInstance L2; have hB := HBX.later Z2; have hcr := fun i => hB.cell i; have hfr := fun i => hB.frozen i; have HY := Lib.hid hy; clear hy)
      | ((with_reducible refine (spec_l2Place (r := lineI t (m : Int)) (Hid.out (by assumption)) (hwb0.trans inferInstance) a).mono ?_); rw [HLI.out, HPA.out]; rintro e w3 ⟨rfl, L3⟩; have X3 := Later.trans (w := wb) inferInstance L3; have Z3 := Later.trans (w := wx) inferInstance L3; have hB := HBX.later Z3; have hcr := fun i => hB.cell i; have hfr := fun i => hB.frozen i)
      | ((with_reducible refine (spec_l2Place (r := lineI t (m : Int)) (Hid.out (by assumption)) (hwb0.trans inferInstance) b).mono ?_); rw [HLI.out, HPB.out]; rintro e w4 ⟨rfl, L4⟩; have X4 := Later.trans (w := wb) inferInstance L4; have Z4 := Later.trans (w := wx) inferInstance L4; have hB := HBX.later Z4; have hcr := fun i => hB.cell i; have hfr := fun i => hB.frozen i))
    go_wp2_with (go_at_call 152; refine (spec_l8Leg H.out (hwb0.trans inferInstance) TF.out m x HX.out ka kb a b HAT.out HBT.out hkk).mono ?_; rintro e w5 ⟨rfl, L5⟩; have X5 := Later.trans (w := wb) inferInstance L5; have Z5 := Later.trans (w := wx) inferInstance L5; have hB := HBX.later Z5; have hcr := fun i => hB.cell i; have hfr := fun i => hB.frozen i)
    have HF := ((((hB.set_ 0 (.int .i64 (x.Id))).set_ 1 (.int .i64 (a))).set_ 2 (.int .i64 (b))).set_ 3 (.int .i64 (timeAt t x ka))).set_ 4 (.int .i64 (timeAt t x kb))
    have hr0 := (HF.cell 0).trans (show _ = some (.int .i64 (x.Id) : Value) from rfl)
    have hr1 := (HF.cell 1).trans (show _ = some (.int .i64 (a) : Value) from rfl)
    have hr2 := (HF.cell 2).trans (show _ = some (.int .i64 (b) : Value) from rfl)
    have hr3 := (HF.cell 3).trans (show _ = some (.int .i64 (timeAt t x ka) : Value) from rfl)
    have hr4 := (HF.cell 4).trans (show _ = some (.int .i64 (timeAt t x kb) : Value) from rfl)
    refine bodyPost_ret (v := .tuple #[.agg #[.int .i64 (x.Id), .int .i64 (a), .int .i64 (b), .int .i64 (timeAt t x ka), .int .i64 (timeAt t x kb)], .bool true]) (by simp [results, Try.results123, go_sem, hr0, hr1, hr2, hr3, hr4]) rfl ?_
    exact ⟨rfl, hww.trans inferInstance⟩
end Go.Proofs.Yteeeihnkofoagaa
