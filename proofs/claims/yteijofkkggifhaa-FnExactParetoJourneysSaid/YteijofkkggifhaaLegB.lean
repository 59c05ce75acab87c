/-
  Legs: filling one by a trip's id, in the program and the reference.
-/
import Derived.Test.YteijofkkggifhaaLeg
import Derived.Test.YteijofkkggifhaaTimeD
namespace Go.Proofs.Yteijofkkggifhaa
open Go Go.RowKit
set_option linter.unusedVariables false
set_option maxRecDepth 100000
theorem fillTop_no1 {t : Timetable} {id a b : Int} (h : okTimetable t = false) : fillTop t id a b = (noLeg, false) := by unfold fillTop; rw [h]; rfl
theorem fillTop_no2 {t : Timetable} {id a b : Int} (h : inB a 0 ((t.Network.Stops.length : Int) - 1) = false) : fillTop t id a b = (noLeg, false) := by unfold fillTop; rw [h]; simp
theorem fillTop_no3 {t : Timetable} {id a b : Int} (h : inB b 0 ((t.Network.Stops.length : Int) - 1) = false) : fillTop t id a b = (noLeg, false) := by unfold fillTop; rw [h]; simp
theorem fillTop_yes {t : Timetable} {id a b : Int} (h1 : okTimetable t = true) (h2 : inB a 0 ((t.Network.Stops.length : Int) - 1) = true) (h3 : inB b 0 ((t.Network.Stops.length : Int) - 1) = true) : fillTop t id a b = fillI t id a b := by unfold fillTop; rw [h1, h2, h3]; rfl
theorem placeI_at {x : Line} {s : Int} {k : Nat} (h : idx (intIs s) x.Stops = k) : x.Stops[k]? = some s := by
  obtain ⟨j, y, h1, h2, h3⟩ := idx_at (p := intIs s) (l := x.Stops) (by omega)
  have : y = s := by simpa [intIs] using h2
  subst this
  have : j = k := by omega
  subst this
  exact h1
set_option maxHeartbeats 2000000 in
theorem spec_l8Leg {w0 w : World} {sA0 : Option Addr} {sn0 sc0 : Nat} {sA1 : Option Addr} {sn1 sc1 : Nat} {sA2 : Option Addr} {sn2 sc2 : Nat} {t : Timetable} (h : TimetableAt w0 sA0 sn0 sc0 sA1 sn1 sc1 sA2 sn2 sc2 t) (hl : Later w0 w) (tf : TimeFacts t) (i : Nat) (x : Trip) (hx : t.Trips[i]? = some x) (a b : Nat) (va vb : Int) (ha : (lineAtT t x.Line).Stops[a]? = some va) (hb : (lineAtT t x.Line).Stops[b]? = some vb) (hab : a < b) :
    Calls Try.prog 181 #[.agg #[.slice sA0 sn0 sc0, .slice sA1 sn1 sc1, .slice sA2 sn2 sc2], .int .i64 i, .int .i64 a, .int .i64 b] w (Ret (.agg #[.int .i64 x.Id, .int .i64 va, .int .i64 vb, .int .i64 (timeAt t x a), .int .i64 (timeAt t x b)]) w) := by
  have hT := h.l_Trips.later hl
  have hn2 := hT.le
  have Hl2 := Lib.hid hT.len
  have him : i < sn2 := by rw [hT.len]; exact (List.getElem?_eq_some_iff.1 hx).1
  have TI := Lib.hid (tf.trip i x hx).in_
  have HXI : Hid (tripI t (i : Int) = x) := tripI_of hx
  have TIK : Hid (TripIn t (tripI t (i : Int))) := by show TripIn t _; rw [HXI.out]; exact TI.out
  have HK : Hid (0 ≤ (i : Int) ∧ (i : Int) < t.Trips.length) := ⟨by omega, by have := Hl2.out; omega⟩
  have lf := Lib.hid (lineAtT_facts tf.net TI.out.line0 TI.out.line1)
  have HLI : Hid (lineI t (i : Int) = lineAtT t x.Line) := by show _ = _; unfold lineI; rw [HXI.out]
  have NF := Lib.hid tf.net
  have hal := (List.getElem?_eq_some_iff.1 ha).1
  have hbl := (List.getElem?_eq_some_iff.1 hb).1
  have HMA : Hid (0 ≤ (a : Int) ∧ (a : Int) ≤ (lineI t (i : Int)).Runs.length) := ⟨by omega, by rw [HLI.out]; have := lf.out.runs; omega⟩
  have HMB : Hid (0 ≤ (b : Int) ∧ (b : Int) ≤ (lineI t (i : Int)).Runs.length) := ⟨by omega, by rw [HLI.out]; have := lf.out.runs; omega⟩
  have HTA : Hid (timeI t (i : Int) (a : Int) = timeAt t x a) := by show _ = _; unfold timeI; rw [HXI.out]; rfl
  have HTB : Hid (timeI t (i : Int) (b : Int) = timeAt t x b) := by show _ = _; unfold timeI; rw [HXI.out]; rfl
  have HA := Lib.hid ha
  have HB := Lib.hid hb
  have HBL := Lib.hid hbl
  obtain ⟨wx, hwx⟩ : ∃ wx : World, wx = ((w.alloc (.cells #[.slice sA0 sn0 sc0, .slice sA1 sn1 sc1, .slice sA2 sn2 sc2] 39)).alloc (.cells #[.int .i64 0, .int .i64 0, .int .i64 0, .int .i64 0, .int .i64 0] 122)) := ⟨_, rfl⟩
  have HBX : Blk wx (w.heap.size + 1) 122 #[.int .i64 0, .int .i64 0, .int .i64 0, .int .i64 0, .int .i64 0] := by rw [hwx]; exact heap_new (by simp)
  have HB0 : ∀ W [Later (w.alloc (.cells #[.slice sA0 sn0 sc0, .slice sA1 sn1 sc1, .slice sA2 sn2 sc2] 39)) W] (j : Nat), W.cell? ⟨w.heap.size, j, none⟩ = #[.slice sA0 sn0 sc0, .slice sA1 sn1 sc1, .slice sA2 sn2 sc2][j]? := Later.boxes (t := 39) (fr := (0, 0)) (heap_new (by simp; try omega)); obtain ⟨wb, hwb⟩ : ∃ wb : World, wb = (w.alloc (.cells #[.slice sA0 sn0 sc0, .slice sA1 sn1 sc1, .slice sA2 sn2 sc2] 39)) := ⟨_, rfl⟩; haveI hbW : Later wb (w.alloc (.cells #[.slice sA0 sn0 sc0, .slice sA1 sn1 sc1, .slice sA2 sn2 sc2] 39)) := (by rw [hwb]; exact Later.rfl_); haveI hww : Later w wb := (by rw [hwb]; infer_instance); rw [← hwb] at HB0; have hbE := Lib.hid (congrArg (fun x : World => x.heap.size) hwb); clear hwb
  have hwb0 := hl.trans hww
  have H := Lib.hid h
  clear h
  haveI hxW : Later wx ((w.alloc (.cells #[.slice sA0 sn0 sc0, .slice sA1 sn1 sc1, .slice sA2 sn2 sc2] 39)).alloc (.cells #[.int .i64 0, .int .i64 0, .int .i64 0, .int .i64 0, .int .i64 0] 122)) := by rw [hwx]; exact Later.rfl_
  haveI hbx : Later wb wx := by rw [hwx]; infer_instance
  have hzb : wb.heap.size ≤ w.heap.size + 1 := by have := hbE.out; simp at this; omega
  haveI hN : New wb (w.heap.size + 1) := ⟨hzb⟩
  clear hwx
  replace hT := hT.later hww
  obtain ⟨bb, o, x', rfl, hx', hc0, hc1, hc2, _⟩ := Trips.at_ hT him
  obtain rfl : x' = x := Option.some.inj (hx'.out.symm.trans hx)
  clear tf hx hx' ha hb hal hbl
  go_enter Try.func181, Try.ntmps181
  go_wp2_with (go_at_call 63; refine (spec_l5Stops H.out (hwb0.trans inferInstance) _ HK.out.1 HK.out.2 TIK.out).mono ?_; rintro e w1 ⟨A0, n0, c0, rfl, hy, L1⟩; have X1 := Later.trans (w := wb) inferInstance L1; have Z1 := Later.trans (w := wx) inferInstance L1; have hB := HBX.later Z1; have hcr := fun i => hB.cell i; have hfr := fun i => hB.frozen i; have HY := Lib.hid hy; clear hy)
  have hS := HY.out.later hwb0
  rw [HLI.out] at hS
  have HSl := Lib.hid hS.len
  have han : a < n0 := by have := HSl.out; have := HBL.out; omega
  have hbn : b < n0 := by have := HSl.out; have := HBL.out; omega
  have hn0 := hS.le
  obtain ⟨b1, o1, va', rfl, hva, hca, _⟩ := Ints.at_ hS han
  obtain ⟨b2, o2, vb', hA2, hvb, hcb, _⟩ := Ints.at_ hS hbn
  cases hA2
  obtain rfl : va' = va := Option.some.inj (hva.out.symm.trans HA.out)
  obtain rfl : vb' = vb := Option.some.inj (hvb.out.symm.trans HB.out)
  clear hva hvb hS
  go_region_held3 (fun w' => Later wb w') (exact inferInstance) (first
    | ((with_reducible refine (spec_l5At H.out (hwb0.trans inferInstance) NF.out _ HK.out.1 HK.out.2 TIK.out (a : Int) HMA.out.1 HMA.out.2).mono ?_); rw [HTA.out]; rintro e w2 ⟨rfl, L2⟩; have X2 := Later.trans (w := wb) inferInstance L2; have Z2 := Later.trans (w := wx) inferInstance L2; have hB := HBX.later Z2; have hcr := fun i => hB.cell i; have hfr := fun i => hB.frozen i)
    | ((with_reducible refine (spec_l5At H.out (hwb0.trans inferInstance) NF.out _ HK.out.1 HK.out.2 TIK.out (b : Int) HMB.out.1 HMB.out.2).mono ?_); rw [HTB.out]; rintro e w3 ⟨rfl, L3⟩; have X3 := Later.trans (w := wb) inferInstance L3; have Z3 := Later.trans (w := wx) inferInstance L3; have hB := HBX.later Z3; have hcr := fun i => hB.cell i; have hfr := fun i => hB.frozen i))
  go_wp2
  have HF := ((((hB.set_ 0 (.int .i64 x'.Id)).set_ 1 (.int .i64 va')).set_ 2 (.int .i64 vb')).set_ 3 (.int .i64 (timeAt t x' a))).set_ 4 (.int .i64 (timeAt t x' b))
  have hr0 := (HF.cell 0).trans (show _ = some (.int .i64 x'.Id : Value) from rfl)
  have hr1 := (HF.cell 1).trans (show _ = some (.int .i64 va' : Value) from rfl)
  have hr2 := (HF.cell 2).trans (show _ = some (.int .i64 vb' : Value) from rfl)
  have hr3 := (HF.cell 3).trans (show _ = some (.int .i64 (timeAt t x' a) : Value) from rfl)
  have hr4 := (HF.cell 4).trans (show _ = some (.int .i64 (timeAt t x' b) : Value) from rfl)
  refine bodyPost_ret (v := .agg #[.int .i64 x'.Id, .int .i64 va', .int .i64 vb', .int .i64 (timeAt t x' a), .int .i64 (timeAt t x' b)]) (by simp [results, Try.results181, go_sem, hr0, hr1, hr2, hr3, hr4]) rfl ?_
  exact ⟨rfl, hww.trans inferInstance⟩
end Go.Proofs.Yteijofkkggifhaa
