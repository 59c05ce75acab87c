/-
 Timetables: when one is valid, in the reference.
-/
import Derived.Test.YtknhebakebmlcaaGreatKc
import Derived.Deep.RegionHeld3
namespace Go.Proofs.YtknhebakebmlcaaGreat
open Go Go.RowKit
set_option linter.unusedVariables false
set_option maxRecDepth 100000
def LastOk (t : Timetable) (k : Nat) (last : Int) : Prop := 0 ≤ last ∧ ((k = 0 ∧ last = 0) ∨ ∃ (j : Nat) (y : Trip), k = j + 1 ∧ t.Trips[j]? = some y ∧ last = y.Id)
set_option maxHeartbeats 2000000 in
theorem spec_l5Good {w0 w : World} {sA0 : Option Addr} {sn0 sc0 : Nat} {sA1 : Option Addr} {sn1 sc1 : Nat} {sA2 : Option Addr} {sn2 sc2 : Nat} {t : Timetable} (h : TimetableAt w0 sA0 sn0 sc0 sA1 sn1 sc1 sA2 sn2 sc2 t) (hl : Later w0 w) :
  Calls Tryz.prog 106 #[.agg #[.slice sA0 sn0 sc0, .slice sA1 sn1 sc1, .slice sA2 sn2 sc2]] w (Ret (.bool (okTimetable t)) w) := by
 replace h := h.later hl
 have hT := h.l_Trips
 have hP := h.l_Network_Lines
 have hn := hT.le
 have hn1 := hP.le
 have Hl := Lib.hid hT.len
 have Hl1 := Lib.hid hP.len
 by_cases b0 : okNetwork t.Network = true
 rotate_left
 ·have g0 : okNetwork t.Network = false := by simpa using b0
  have HN : Hid (okTimetable t = false) := by show _ = _; unfold okTimetable; rw [g0]; rfl
  clear b0
  have HB0 : ∀ W [Later (w.alloc (.cells #[.slice sA0 sn0 sc0, .slice sA1 sn1 sc1, .slice sA2 sn2 sc2] 44)) W] (j : Nat), W.cell? ⟨w.heap.size, j, none⟩ = #[.slice sA0 sn0 sc0, .slice sA1 sn1 sc1, .slice sA2 sn2 sc2][j]? := Later.boxes (t := 44) (fr := (0, 0)) (heap_new (by simp; try omega)); obtain ⟨wb, hwb⟩ : ∃ wb : World, wb = (w.alloc (.cells #[.slice sA0 sn0 sc0, .slice sA1 sn1 sc1, .slice sA2 sn2 sc2] 44)) := ⟨_, rfl⟩; haveI hbW : Later wb (w.alloc (.cells #[.slice sA0 sn0 sc0, .slice sA1 sn1 sc1, .slice sA2 sn2 sc2] 44)) := (by rw [hwb]; exact Later.rfl_); haveI hww : Later w wb := (by rw [hwb]; infer_instance); rw [← hwb] at HB0; have hbE := Lib.hid (congrArg (fun x : World => x.heap.size) hwb); clear hwb
  replace h := h.later hww
  have H := Lib.hid h
  clear h
  go_enter Tryz.func106, Tryz.ntmps106
  go_wp2_with (go_at_call 124; refine (spec_l2Good (r := t.Network) ⟨H.out.l_Network_Stops, H.out.l_Network_Lines⟩ inferInstance).mono ?_; rintro e w1 ⟨rfl, L1⟩; have X1 := Later.trans (w := wb) inferInstance L1)
  go_ret
  exact ⟨ret_bool HN.out.symm, hww.trans inferInstance⟩
 have NF := Lib.hid (netFacts b0)
 by_cases b1 : 12 < sn2
 ·have HN : Hid (okTimetable t = false) := by show _ = _; unfold okTimetable; rw [decide_eq_false (by rw [← Hl.out]; omega)]; simp
  have HB0 : ∀ W [Later (w.alloc (.cells #[.slice sA0 sn0 sc0, .slice sA1 sn1 sc1, .slice sA2 sn2 sc2] 44)) W] (j : Nat), W.cell? ⟨w.heap.size, j, none⟩ = #[.slice sA0 sn0 sc0, .slice sA1 sn1 sc1, .slice sA2 sn2 sc2][j]? := Later.boxes (t := 44) (fr := (0, 0)) (heap_new (by simp; try omega)); obtain ⟨wb, hwb⟩ : ∃ wb : World, wb = (w.alloc (.cells #[.slice sA0 sn0 sc0, .slice sA1 sn1 sc1, .slice sA2 sn2 sc2] 44)) := ⟨_, rfl⟩; haveI hbW : Later wb (w.alloc (.cells #[.slice sA0 sn0 sc0, .slice sA1 sn1 sc1, .slice sA2 sn2 sc2] 44)) := (by rw [hwb]; exact Later.rfl_); haveI hww : Later w wb := (by rw [hwb]; infer_instance); rw [← hwb] at HB0; have hbE := Lib.hid (congrArg (fun x : World => x.heap.size) hwb); clear hwb
  replace h := h.later hww
  have H := Lib.hid h
  clear h
  go_enter Tryz.func106, Tryz.ntmps106
  go_wp2_with (go_at_call 124; refine (spec_l2Good (r := t.Network) ⟨H.out.l_Network_Stops, H.out.l_Network_Lines⟩ inferInstance).mono ?_; rintro e w1 ⟨rfl, L1⟩; have X1 := Later.trans (w := wb) inferInstance L1)
  go_ret
  exact ⟨ret_bool HN.out.symm, hww.trans inferInstance⟩
 have B0 := Lib.hid b0
 have B1 : Hid (t.Trips.length ≤ 12) := by show _ ≤ _; rw [← Hl.out]; omega
 have HB0 : ∀ W [Later (w.alloc (.cells #[.slice sA0 sn0 sc0, .slice sA1 sn1 sc1, .slice sA2 sn2 sc2] 44)) W] (j : Nat), W.cell? ⟨w.heap.size, j, none⟩ = #[.slice sA0 sn0 sc0, .slice sA1 sn1 sc1, .slice sA2 sn2 sc2][j]? := Later.boxes (t := 44) (fr := (0, 0)) (heap_new (by simp; try omega)); obtain ⟨wb, hwb⟩ : ∃ wb : World, wb = (w.alloc (.cells #[.slice sA0 sn0 sc0, .slice sA1 sn1 sc1, .slice sA2 sn2 sc2] 44)) := ⟨_, rfl⟩; haveI hbW : Later wb (w.alloc (.cells #[.slice sA0 sn0 sc0, .slice sA1 sn1 sc1, .slice sA2 sn2 sc2] 44)) := (by rw [hwb]; exact Later.rfl_); haveI hww : Later w wb := (by rw [hwb]; infer_instance); rw [← hwb] at HB0; have hbE := Lib.hid (congrArg (fun x : World => x.heap.size) hwb); clear hwb
 replace h := h.later hww
 replace hT := hT.later hww
 have H := Lib.hid h
 clear h
 go_enter Tryz.func106, Tryz.ntmps106
 go_wp2_with (go_at_call 124; refine (spec_l2Good (r := t.Network) ⟨H.out.l_Network_Stops, H.out.l_Network_Lines⟩ inferInstance).mono ?_; rintro e w1 ⟨rfl, L1⟩; have X1 := Later.trans (w := wb) inferInstance L1)
 clear b0
 go_loopw [3] (fun i wr => ∃ (k : Nat) (last : Int), k ≤ sn2 ∧ i = .int .i64 k ∧ Hid (tripsGo t (t.Trips.drop k) last = tripsGo t t.Trips 0) ∧ Hid (LastOk t k last) ∧ Later wb wr) (fun i _ => sn2 - (intOf i).toNat)
 case atStart => exact ⟨0, 0, by omega, rfl, rfl, ⟨by omega, .inl ⟨rfl, rfl⟩⟩, inferInstance⟩
 case round =>
  obtain ⟨k, last, hk, rfl, HF, HLA, hX⟩ := hrel
  have hU := Later.trans (w := w) inferInstance hX
  by_cases hlt : k < sn2
  ·have HT := Lib.hid hT
   obtain ⟨b, o, x, hA, hx, hc0, hc1, hc2, hi⟩ := Trips.at_ hT hlt
   have HF1 : Hid (tripsGo t t.Trips 0 = (tripOk t last x && tripsGo t (t.Trips.drop (k + 1)) x.Id)) := by rw [← HF.out, drop_at hx.out]; rfl
   have Hxi : Hid (tripI t (k : Int) = x) := tripI_of hx.out
   have HX := Lib.hid hx.out
   have HK : Hid (0 ≤ (k : Int) ∧ (k : Int) < t.Trips.length) := ⟨by omega, by have := Hl.out; omega⟩
   clear HF hi hx
   subst hA
   have HBX : ∀ W [Later (wr.alloc (.cells #[.int .i64 x.Id, .int .i64 x.Line, .int .i64 x.Start] 82)) W] (j : Nat), W.cell? ⟨wr.heap.size, j, none⟩ = #[.int .i64 x.Id, .int .i64 x.Line, .int .i64 x.Start][j]? := Later.boxes (t := 82) (fr := (0, 0)) (heap_new (by simp; try omega)); obtain ⟨wx, hwx⟩ : ∃ wx : World, wx = (wr.alloc (.cells #[.int .i64 x.Id, .int .i64 x.Line, .int .i64 x.Start] 82)) := ⟨_, rfl⟩; haveI hxW : Later wx (wr.alloc (.cells #[.int .i64 x.Id, .int .i64 x.Line, .int .i64 x.Start] 82)) := (by rw [hwx]; exact Later.rfl_); haveI hbx : Later wb wx := (by rw [hwx]; infer_instance); rw [← hwx] at HBX; clear hwx
   by_cases c1 : inB x.Id 1 999 = true
   rotate_left
   ·have c1' : inB x.Id 1 999 = false := by simpa using c1
    clear c1
    have HL := tripOk_no1 (t := t) (last := last) (x := x) (by have := inB_f.1 c1'; have := HLA.out.1; omega)
    have HF2 : Hid (okTimetable t = false) := by show _ = _; unfold okTimetable; rw [HF1.out, HL]; simp
    clear HF1 HL
    go_wp2_with fail
    have hwr : IntKind.i64.wrap ((sn1 : Int) - 1) = (sn1 : Int) - 1 := by rw [IntKind.wrap_i64]; omega
    refine gO (S := (fun w' => Later wb w' ∧ Later wx w')) (by kernel_rfl) (by exact ⟨inferInstance, inferInstance⟩) (fun _ _ _ _ _ h => h) (fun hHeld hZq => ?_)
    refine gT 0 rfl (by kernel_rfl) (by intro w' hSw; go_simp <;> rfl) hZq hHeld ?_; simp only [Act.put, sA, sZ, sS]
    refine gT 1 rfl (by kernel_rfl) (by intro w' hSw; go_simp <;> rfl) hZq hHeld ?_; simp only [Act.put, sA, sZ, sS]
    refine gE 2 rfl (by kernel_rfl) (fun K hK => ?_)
    go_simp
    (go_at_call 87; refine (spec_l1In _ _ _ _).mono ?_; rintro e w' ⟨rfl, rfl⟩)
    refine hK.out _ _ (by exact ⟨inferInstance, inferInstance⟩) (fun hHeld => ?_)
    try simp only [Act.put, sA, sZ, sS]
    refine gT 3 rfl (by kernel_rfl) (by intro w' hSw; go_simp <;> rfl) hZq hHeld ?_; simp only [Act.put, sA, sZ, sS]
    refine gT 4 rfl (by kernel_rfl) (by intro w' hSw; go_simp <;> rfl) hZq hHeld ?_; simp only [Act.put, sA, sZ, sS]
    refine gU 5 rfl (by kernel_rfl) hZq hHeld ?_; simp only [Act.put, sA, sZ, sS]
    refine gU 6 rfl (by kernel_rfl) hZq hHeld ?_; simp only [Act.put, sA, sZ, sS]
    refine gU 7 rfl (by kernel_rfl) hZq hHeld ?_; simp only [Act.put, sA, sZ, sS]
    refine gU 8 rfl (by kernel_rfl) hZq hHeld ?_; simp only [Act.put, sA, sZ, sS]
    refine gU 9 rfl (by kernel_rfl) hZq hHeld ?_; simp only [Act.put, sA, sZ, sS]
    refine gU 10 rfl (by kernel_rfl) hZq hHeld ?_; simp only [Act.put, sA, sZ, sS]
    refine gU 11 rfl (by kernel_rfl) hZq hHeld ?_; simp only [Act.put, sA, sZ, sS]
    refine gU 12 rfl (by kernel_rfl) hZq hHeld ?_; simp only [Act.put, sA, sZ, sS]
    refine gU 13 rfl (by kernel_rfl) hZq hHeld ?_; simp only [Act.put, sA, sZ, sS]
    refine gT 14 rfl (by kernel_rfl) (by intro w' hSw; go_simp <;> rfl) hZq hHeld ?_; simp only [Act.put, sA, sZ, sS]
    refine gT 15 rfl (by kernel_rfl) (by intro w' hSw; go_simp <;> rfl) hZq hHeld ?_; simp only [Act.put, sA, sZ, sS]
    refine gU 16 rfl (by kernel_rfl) hZq hHeld ?_; simp only [Act.put, sA, sZ, sS]
    refine gU 17 rfl (by kernel_rfl) hZq hHeld ?_; simp only [Act.put, sA, sZ, sS]
    refine gU 18 rfl (by kernel_rfl) hZq hHeld ?_; simp only [Act.put, sA, sZ, sS]
    refine gU 19 rfl (by kernel_rfl) hZq hHeld ?_; simp only [Act.put, sA, sZ, sS]
    refine gT 20 rfl (by kernel_rfl) (by intro w' hSw; go_simp <;> rfl) hZq hHeld ?_; simp only [Act.put, sA, sZ, sS]
    refine gT 21 rfl (by kernel_rfl) (by intro w' hSw; go_simp <;> rfl) hZq hHeld ?_; simp only [Act.put, sA, sZ, sS]
    refine gU 22 rfl (by kernel_rfl) hZq hHeld ?_; simp only [Act.put, sA, sZ, sS]
    refine gU 23 rfl (by kernel_rfl) hZq hHeld ?_; simp only [Act.put, sA, sZ, sS]
    refine gU 24 rfl (by kernel_rfl) hZq hHeld ?_; simp only [Act.put, sA, sZ, sS]
    refine gU 25 rfl (by kernel_rfl) hZq hHeld ?_; simp only [Act.put, sA, sZ, sS]
    refine gU 26 rfl (by kernel_rfl) hZq hHeld ?_; simp only [Act.put, sA, sZ, sS]
    refine gT 27 rfl (by kernel_rfl) (by intro w' hSw; go_simp <;> rfl) hZq hHeld ?_; simp only [Act.put, sA, sZ, sS]
    refine gT 28 rfl (by kernel_rfl) (by intro w' hSw; go_simp <;> rfl) hZq hHeld ?_; simp only [Act.put, sA, sZ, sS]
    refine gU 29 rfl (by kernel_rfl) hZq hHeld ?_; simp only [Act.put, sA, sZ, sS]
    refine gU 30 rfl (by kernel_rfl) hZq hHeld ?_; simp only [Act.put, sA, sZ, sS]
    refine gU 31 rfl (by kernel_rfl) hZq hHeld ?_; simp only [Act.put, sA, sZ, sS]
    refine gU 32 rfl (by kernel_rfl) hZq hHeld ?_; simp only [Act.put, sA, sZ, sS]
    refine gU 33 rfl (by kernel_rfl) hZq hHeld ?_; simp only [Act.put, sA, sZ, sS]
    refine gU 34 rfl (by kernel_rfl) hZq hHeld ?_; simp only [Act.put, sA, sZ, sS]
    refine gU 35 rfl (by kernel_rfl) hZq hHeld ?_; simp only [Act.put, sA, sZ, sS]
    refine gU 36 rfl (by kernel_rfl) hZq hHeld ?_; simp only [Act.put, sA, sZ, sS]
    refine gU 37 rfl (by kernel_rfl) hZq hHeld ?_; simp only [Act.put, sA, sZ, sS]
    refine gU 38 rfl (by kernel_rfl) hZq hHeld ?_; simp only [Act.put, sA, sZ, sS]
    refine gU 39 rfl (by kernel_rfl) hZq hHeld ?_; simp only [Act.put, sA, sZ, sS]
    refine gU 40 rfl (by kernel_rfl) hZq hHeld ?_; simp only [Act.put, sA, sZ, sS]
    refine gU 41 rfl (by kernel_rfl) hZq hHeld ?_; simp only [Act.put, sA, sZ, sS]
    refine gU 42 rfl (by kernel_rfl) hZq hHeld ?_; simp only [Act.put, sA, sZ, sS]
    refine gT 43 rfl (by kernel_rfl) (by intro w' hSw; go_simp <;> rfl) hZq hHeld ?_; simp only [Act.put, sA, sZ, sS]
    refine wpAnyH_done (by kernel_rfl) ?_ _
    clear hwr
    go_wp2
    go_ret
    exact ⟨ret_bool HF2.out.symm, hww.trans inferInstance⟩
   by_cases c2 : inB x.Line 0 ((sn1 : Int) - 1) = true
   rotate_left
   ·have c2' : inB x.Line 0 ((sn1 : Int) - 1) = false := by simpa using c2
    clear c2
    have HL := tripOk_no2 (t := t) (last := last) (x := x) (by rw [← Hl1.out]; exact c2')
    have HF2 : Hid (okTimetable t = false) := by show _ = _; unfold okTimetable; rw [HF1.out, HL]; simp
    clear HF1 HL
    go_wp2_with fail
    have hwr : IntKind.i64.wrap ((sn1 : Int) - 1) = (sn1 : Int) - 1 := by rw [IntKind.wrap_i64]; omega
    refine gO (S := (fun w' => Later wb w' ∧ Later wx w')) (by kernel_rfl) (by exact ⟨inferInstance, inferInstance⟩) (fun _ _ _ _ _ h => h) (fun hHeld hZq => ?_)
    refine gT 0 rfl (by kernel_rfl) (by intro w' hSw; go_simp <;> rfl) hZq hHeld ?_; simp only [Act.put, sA, sZ, sS]
    refine gT 1 rfl (by kernel_rfl) (by intro w' hSw; go_simp <;> rfl) hZq hHeld ?_; simp only [Act.put, sA, sZ, sS]
    refine gE 2 rfl (by kernel_rfl) (fun K hK => ?_)
    go_simp
    (go_at_call 87; refine (spec_l1In _ _ _ _).mono ?_; rintro e w' ⟨rfl, rfl⟩)
    refine hK.out _ _ (by exact ⟨inferInstance, inferInstance⟩) (fun hHeld => ?_)
    try simp only [Act.put, sA, sZ, sS]
    refine gT 3 rfl (by kernel_rfl) (by intro w' hSw; go_simp <;> rfl) hZq hHeld ?_; simp only [Act.put, sA, sZ, sS]
    refine gT 4 rfl (by kernel_rfl) (by intro w' hSw; go_simp <;> rfl) hZq hHeld ?_; simp only [Act.put, sA, sZ, sS]
    refine gT 5 rfl (by kernel_rfl) (by intro w' hSw; go_simp <;> rfl) hZq hHeld ?_; simp only [Act.put, sA, sZ, sS]
    refine gT 6 rfl (by kernel_rfl) (by intro w' hSw; go_simp <;> rfl) hZq hHeld ?_; simp only [Act.put, sA, sZ, sS]
    refine gT 7 rfl (by kernel_rfl) (by intro w' hSw; go_simp <;> rfl) hZq hHeld ?_; simp only [Act.put, sA, sZ, sS]
    refine gT 8 rfl (by kernel_rfl) (by intro w' hSw; go_simp <;> rfl) hZq hHeld ?_; simp only [Act.put, sA, sZ, sS]
    refine gT 9 rfl (by kernel_rfl) (by intro w' hSw; go_simp <;> rfl) hZq hHeld ?_; simp only [Act.put, sA, sZ, sS]
    refine gT 10 rfl (by kernel_rfl) (by intro w' hSw; go_simp <;> rfl) hZq hHeld ?_; simp only [Act.put, sA, sZ, sS]
    refine gT 11 rfl (by kernel_rfl) (by intro w' hSw; go_simp <;> rfl) hZq hHeld ?_; simp only [Act.put, sA, sZ, sS]
    refine gE 12 rfl (by kernel_rfl) (fun K hK => ?_)
    go_simp
    (go_at_call 87; refine (spec_l1In _ _ _ _).mono ?_; rintro e w' ⟨rfl, rfl⟩)
    refine hK.out _ _ (by exact ⟨inferInstance, inferInstance⟩) (fun hHeld => ?_)
    try simp only [Act.put, sA, sZ, sS]
    refine gT 13 rfl (by kernel_rfl) (by intro w' hSw; go_simp <;> rfl) hZq hHeld ?_; simp only [Act.put, sA, sZ, sS]
    refine gT 14 rfl (by kernel_rfl) (by intro w' hSw; go_simp <;> rfl) hZq hHeld ?_; simp only [Act.put, sA, sZ, sS]
    refine gT 15 rfl (by kernel_rfl) (by intro w' hSw; go_simp <;> rfl) hZq hHeld ?_; simp only [Act.put, sA, sZ, sS]
    refine gU 16 rfl (by kernel_rfl) hZq hHeld ?_; simp only [Act.put, sA, sZ, sS]
    refine gU 17 rfl (by kernel_rfl) hZq hHeld ?_; simp only [Act.put, sA, sZ, sS]
    refine gU 18 rfl (by kernel_rfl) hZq hHeld ?_; simp only [Act.put, sA, sZ, sS]
    refine gU 19 rfl (by kernel_rfl) hZq hHeld ?_; simp only [Act.put, sA, sZ, sS]
    refine gT 20 rfl (by kernel_rfl) (by intro w' hSw; go_simp <;> rfl) hZq hHeld ?_; simp only [Act.put, sA, sZ, sS]
    refine gT 21 rfl (by kernel_rfl) (by intro w' hSw; go_simp <;> rfl) hZq hHeld ?_; simp only [Act.put, sA, sZ, sS]
    refine gU 22 rfl (by kernel_rfl) hZq hHeld ?_; simp only [Act.put, sA, sZ, sS]
    refine gU 23 rfl (by kernel_rfl) hZq hHeld ?_; simp only [Act.put, sA, sZ, sS]
    refine gU 24 rfl (by kernel_rfl) hZq hHeld ?_; simp only [Act.put, sA, sZ, sS]
    refine gU 25 rfl (by kernel_rfl) hZq hHeld ?_; simp only [Act.put, sA, sZ, sS]
    refine gU 26 rfl (by kernel_rfl) hZq hHeld ?_; simp only [Act.put, sA, sZ, sS]
    refine gT 27 rfl (by kernel_rfl) (by intro w' hSw; go_simp <;> rfl) hZq hHeld ?_; simp only [Act.put, sA, sZ, sS]
    refine gT 28 rfl (by kernel_rfl) (by intro w' hSw; go_simp <;> rfl) hZq hHeld ?_; simp only [Act.put, sA, sZ, sS]
    refine gU 29 rfl (by kernel_rfl) hZq hHeld ?_; simp only [Act.put, sA, sZ, sS]
    refine gU 30 rfl (by kernel_rfl) hZq hHeld ?_; simp only [Act.put, sA, sZ, sS]
    refine gU 31 rfl (by kernel_rfl) hZq hHeld ?_; simp only [Act.put, sA, sZ, sS]
    refine gU 32 rfl (by kernel_rfl) hZq hHeld ?_; simp only [Act.put, sA, sZ, sS]
    refine gU 33 rfl (by kernel_rfl) hZq hHeld ?_; simp only [Act.put, sA, sZ, sS]
    refine gU 34 rfl (by kernel_rfl) hZq hHeld ?_; simp only [Act.put, sA, sZ, sS]
    refine gU 35 rfl (by kernel_rfl) hZq hHeld ?_; simp only [Act.put, sA, sZ, sS]
    refine gU 36 rfl (by kernel_rfl) hZq hHeld ?_; simp only [Act.put, sA, sZ, sS]
    refine gU 37 rfl (by kernel_rfl) hZq hHeld ?_; simp only [Act.put, sA, sZ, sS]
    refine gU 38 rfl (by kernel_rfl) hZq hHeld ?_; simp only [Act.put, sA, sZ, sS]
    refine gU 39 rfl (by kernel_rfl) hZq hHeld ?_; simp only [Act.put, sA, sZ, sS]
    refine gU 40 rfl (by kernel_rfl) hZq hHeld ?_; simp only [Act.put, sA, sZ, sS]
    refine gU 41 rfl (by kernel_rfl) hZq hHeld ?_; simp only [Act.put, sA, sZ, sS]
    refine gU 42 rfl (by kernel_rfl) hZq hHeld ?_; simp only [Act.put, sA, sZ, sS]
    refine gT 43 rfl (by kernel_rfl) (by intro w' hSw; go_simp <;> rfl) hZq hHeld ?_; simp only [Act.put, sA, sZ, sS]
    refine wpAnyH_done (by kernel_rfl) ?_ _
    clear hwr
    go_wp2
    go_ret
    exact ⟨ret_bool HF2.out.symm, hww.trans inferInstance⟩
   by_cases c3 : okTime x.Start = true
   rotate_left
   ·have c3' : okTime x.Start = false := by simpa using c3
    clear c3
    have HL := tripOk_no3 (t := t) (last := last) c3'
    have HF2 : Hid (okTimetable t = false) := by show _ = _; unfold okTimetable; rw [HF1.out, HL]; simp
    clear HF1 HL
    go_wp2_with fail
    have hwr : IntKind.i64.wrap ((sn1 : Int) - 1) = (sn1 : Int) - 1 := by rw [IntKind.wrap_i64]; omega
    refine gO (S := (fun w' => Later wb w' ∧ Later wx w')) (by kernel_rfl) (by exact ⟨inferInstance, inferInstance⟩) (fun _ _ _ _ _ h => h) (fun hHeld hZq => ?_)
    refine gT 0 rfl (by kernel_rfl) (by intro w' hSw; go_simp <;> rfl) hZq hHeld ?_; simp only [Act.put, sA, sZ, sS]
    refine gT 1 rfl (by kernel_rfl) (by intro w' hSw; go_simp <;> rfl) hZq hHeld ?_; simp only [Act.put, sA, sZ, sS]
    refine gE 2 rfl (by kernel_rfl) (fun K hK => ?_)
    go_simp
    (go_at_call 87; refine (spec_l1In _ _ _ _).mono ?_; rintro e w' ⟨rfl, rfl⟩)
    refine hK.out _ _ (by exact ⟨inferInstance, inferInstance⟩) (fun hHeld => ?_)
    try simp only [Act.put, sA, sZ, sS]
    refine gT 3 rfl (by kernel_rfl) (by intro w' hSw; go_simp <;> rfl) hZq hHeld ?_; simp only [Act.put, sA, sZ, sS]
    refine gT 4 rfl (by kernel_rfl) (by intro w' hSw; go_simp <;> rfl) hZq hHeld ?_; simp only [Act.put, sA, sZ, sS]
    refine gT 5 rfl (by kernel_rfl) (by intro w' hSw; go_simp <;> rfl) hZq hHeld ?_; simp only [Act.put, sA, sZ, sS]
    refine gT 6 rfl (by kernel_rfl) (by intro w' hSw; go_simp <;> rfl) hZq hHeld ?_; simp only [Act.put, sA, sZ, sS]
    refine gT 7 rfl (by kernel_rfl) (by intro w' hSw; go_simp <;> rfl) hZq hHeld ?_; simp only [Act.put, sA, sZ, sS]
    refine gT 8 rfl (by kernel_rfl) (by intro w' hSw; go_simp <;> rfl) hZq hHeld ?_; simp only [Act.put, sA, sZ, sS]
    refine gT 9 rfl (by kernel_rfl) (by intro w' hSw; go_simp <;> rfl) hZq hHeld ?_; simp only [Act.put, sA, sZ, sS]
    refine gT 10 rfl (by kernel_rfl) (by intro w' hSw; go_simp <;> rfl) hZq hHeld ?_; simp only [Act.put, sA, sZ, sS]
    refine gT 11 rfl (by kernel_rfl) (by intro w' hSw; go_simp <;> rfl) hZq hHeld ?_; simp only [Act.put, sA, sZ, sS]
    refine gE 12 rfl (by kernel_rfl) (fun K hK => ?_)
    go_simp
    (go_at_call 87; refine (spec_l1In _ _ _ _).mono ?_; rintro e w' ⟨rfl, rfl⟩)
    refine hK.out _ _ (by exact ⟨inferInstance, inferInstance⟩) (fun hHeld => ?_)
    try simp only [Act.put, sA, sZ, sS]
    refine gT 13 rfl (by kernel_rfl) (by intro w' hSw; go_simp <;> rfl) hZq hHeld ?_; simp only [Act.put, sA, sZ, sS]
    refine gT 14 rfl (by kernel_rfl) (by intro w' hSw; go_simp <;> rfl) hZq hHeld ?_; simp only [Act.put, sA, sZ, sS]
    refine gT 15 rfl (by kernel_rfl) (by intro w' hSw; go_simp <;> rfl) hZq hHeld ?_; simp only [Act.put, sA, sZ, sS]
    refine gT 16 rfl (by kernel_rfl) (by intro w' hSw; go_simp <;> rfl) hZq hHeld ?_; simp only [Act.put, sA, sZ, sS]
    refine gT 17 rfl (by kernel_rfl) (by intro w' hSw; go_simp <;> rfl) hZq hHeld ?_; simp only [Act.put, sA, sZ, sS]
    refine gE 18 rfl (by kernel_rfl) (fun K hK => ?_)
    go_simp
    (go_at_call 125; refine (spec_l4Time _ _).mono ?_; rintro e w' ⟨rfl, rfl⟩)
    refine hK.out _ _ (by exact ⟨inferInstance, inferInstance⟩) (fun hHeld => ?_)
    try simp only [Act.put, sA, sZ, sS]
    refine gT 19 rfl (by kernel_rfl) (by intro w' hSw; go_simp <;> rfl) hZq hHeld ?_; simp only [Act.put, sA, sZ, sS]
    refine gT 20 rfl (by kernel_rfl) (by intro w' hSw; go_simp <;> rfl) hZq hHeld ?_; simp only [Act.put, sA, sZ, sS]
    refine gT 21 rfl (by kernel_rfl) (by intro w' hSw; go_simp <;> rfl) hZq hHeld ?_; simp only [Act.put, sA, sZ, sS]
    refine gU 22 rfl (by kernel_rfl) hZq hHeld ?_; simp only [Act.put, sA, sZ, sS]
    refine gU 23 rfl (by kernel_rfl) hZq hHeld ?_; simp only [Act.put, sA, sZ, sS]
    refine gU 24 rfl (by kernel_rfl) hZq hHeld ?_; simp only [Act.put, sA, sZ, sS]
    refine gU 25 rfl (by kernel_rfl) hZq hHeld ?_; simp only [Act.put, sA, sZ, sS]
    refine gU 26 rfl (by kernel_rfl) hZq hHeld ?_; simp only [Act.put, sA, sZ, sS]
    refine gT 27 rfl (by kernel_rfl) (by intro w' hSw; go_simp <;> rfl) hZq hHeld ?_; simp only [Act.put, sA, sZ, sS]
    refine gT 28 rfl (by kernel_rfl) (by intro w' hSw; go_simp <;> rfl) hZq hHeld ?_; simp only [Act.put, sA, sZ, sS]
    refine gU 29 rfl (by kernel_rfl) hZq hHeld ?_; simp only [Act.put, sA, sZ, sS]
    refine gU 30 rfl (by kernel_rfl) hZq hHeld ?_; simp only [Act.put, sA, sZ, sS]
    refine gU 31 rfl (by kernel_rfl) hZq hHeld ?_; simp only [Act.put, sA, sZ, sS]
    refine gU 32 rfl (by kernel_rfl) hZq hHeld ?_; simp only [Act.put, sA, sZ, sS]
    refine gU 33 rfl (by kernel_rfl) hZq hHeld ?_; simp only [Act.put, sA, sZ, sS]
    refine gU 34 rfl (by kernel_rfl) hZq hHeld ?_; simp only [Act.put, sA, sZ, sS]
    refine gU 35 rfl (by kernel_rfl) hZq hHeld ?_; simp only [Act.put, sA, sZ, sS]
    refine gU 36 rfl (by kernel_rfl) hZq hHeld ?_; simp only [Act.put, sA, sZ, sS]
    refine gU 37 rfl (by kernel_rfl) hZq hHeld ?_; simp only [Act.put, sA, sZ, sS]
    refine gU 38 rfl (by kernel_rfl) hZq hHeld ?_; simp only [Act.put, sA, sZ, sS]
    refine gU 39 rfl (by kernel_rfl) hZq hHeld ?_; simp only [Act.put, sA, sZ, sS]
    refine gU 40 rfl (by kernel_rfl) hZq hHeld ?_; simp only [Act.put, sA, sZ, sS]
    refine gU 41 rfl (by kernel_rfl) hZq hHeld ?_; simp only [Act.put, sA, sZ, sS]
    refine gU 42 rfl (by kernel_rfl) hZq hHeld ?_; simp only [Act.put, sA, sZ, sS]
    refine gT 43 rfl (by kernel_rfl) (by intro w' hSw; go_simp <;> rfl) hZq hHeld ?_; simp only [Act.put, sA, sZ, sS]
    refine wpAnyH_done (by kernel_rfl) ?_ _
    clear hwr
    go_wp2
    go_ret
    exact ⟨ret_bool HF2.out.symm, hww.trans inferInstance⟩
   have HTI : Hid (TripIn t (tripI t (k : Int))) := by
    rw [Hxi.out]
    have q1 := inB_t.1 c2
    have q2 := inB_t.1 c3
    have := Hl1.out
    exact ⟨by omega, by omega, q2⟩
   by_cases c4 : okTime (endAt t (tripI t (k : Int))) = true
   rotate_left
   ·have c4' : okTime (endAt t (tripI t (k : Int))) = false := by simpa using c4
    clear c4
    have HL := tripOk_no4 (t := t) (last := last) (x := x) (by rw [← Hxi.out]; exact c4')
    have HF2 : Hid (okTimetable t = false) := by show _ = _; unfold okTimetable; rw [HF1.out, HL]; simp
    clear HF1 HL
    go_wp2_with fail
    have hwr : IntKind.i64.wrap ((sn1 : Int) - 1) = (sn1 : Int) - 1 := by rw [IntKind.wrap_i64]; omega
    refine gO (S := (fun w' => Later wb w' ∧ Later wx w')) (by kernel_rfl) (by exact ⟨inferInstance, inferInstance⟩) (fun _ _ _ _ _ h => h) (fun hHeld hZq => ?_)
    refine gT 0 rfl (by kernel_rfl) (by intro w' hSw; go_simp <;> rfl) hZq hHeld ?_; simp only [Act.put, sA, sZ, sS]
    refine gT 1 rfl (by kernel_rfl) (by intro w' hSw; go_simp <;> rfl) hZq hHeld ?_; simp only [Act.put, sA, sZ, sS]
    refine gE 2 rfl (by kernel_rfl) (fun K hK => ?_)
    go_simp
    (go_at_call 87; refine (spec_l1In _ _ _ _).mono ?_; rintro e w' ⟨rfl, rfl⟩)
    refine hK.out _ _ (by exact ⟨inferInstance, inferInstance⟩) (fun hHeld => ?_)
    try simp only [Act.put, sA, sZ, sS]
    refine gT 3 rfl (by kernel_rfl) (by intro w' hSw; go_simp <;> rfl) hZq hHeld ?_; simp only [Act.put, sA, sZ, sS]
    refine gT 4 rfl (by kernel_rfl) (by intro w' hSw; go_simp <;> rfl) hZq hHeld ?_; simp only [Act.put, sA, sZ, sS]
    refine gT 5 rfl (by kernel_rfl) (by intro w' hSw; go_simp <;> rfl) hZq hHeld ?_; simp only [Act.put, sA, sZ, sS]
    refine gT 6 rfl (by kernel_rfl) (by intro w' hSw; go_simp <;> rfl) hZq hHeld ?_; simp only [Act.put, sA, sZ, sS]
    refine gT 7 rfl (by kernel_rfl) (by intro w' hSw; go_simp <;> rfl) hZq hHeld ?_; simp only [Act.put, sA, sZ, sS]
    refine gT 8 rfl (by kernel_rfl) (by intro w' hSw; go_simp <;> rfl) hZq hHeld ?_; simp only [Act.put, sA, sZ, sS]
    refine gT 9 rfl (by kernel_rfl) (by intro w' hSw; go_simp <;> rfl) hZq hHeld ?_; simp only [Act.put, sA, sZ, sS]
    refine gT 10 rfl (by kernel_rfl) (by intro w' hSw; go_simp <;> rfl) hZq hHeld ?_; simp only [Act.put, sA, sZ, sS]
    refine gT 11 rfl (by kernel_rfl) (by intro w' hSw; go_simp <;> rfl) hZq hHeld ?_; simp only [Act.put, sA, sZ, sS]
    refine gE 12 rfl (by kernel_rfl) (fun K hK => ?_)
    go_simp
    (go_at_call 87; refine (spec_l1In _ _ _ _).mono ?_; rintro e w' ⟨rfl, rfl⟩)
    refine hK.out _ _ (by exact ⟨inferInstance, inferInstance⟩) (fun hHeld => ?_)
    try simp only [Act.put, sA, sZ, sS]
    refine gT 13 rfl (by kernel_rfl) (by intro w' hSw; go_simp <;> rfl) hZq hHeld ?_; simp only [Act.put, sA, sZ, sS]
    refine gT 14 rfl (by kernel_rfl) (by intro w' hSw; go_simp <;> rfl) hZq hHeld ?_; simp only [Act.put, sA, sZ, sS]
    refine gT 15 rfl (by kernel_rfl) (by intro w' hSw; go_simp <;> rfl) hZq hHeld ?_; simp only [Act.put, sA, sZ, sS]
    refine gT 16 rfl (by kernel_rfl) (by intro w' hSw; go_simp <;> rfl) hZq hHeld ?_; simp only [Act.put, sA, sZ, sS]
    refine gT 17 rfl (by kernel_rfl) (by intro w' hSw; go_simp <;> rfl) hZq hHeld ?_; simp only [Act.put, sA, sZ, sS]
    refine gE 18 rfl (by kernel_rfl) (fun K hK => ?_)
    go_simp
    (go_at_call 125; refine (spec_l4Time _ _).mono ?_; rintro e w' ⟨rfl, rfl⟩)
    refine hK.out _ _ (by exact ⟨inferInstance, inferInstance⟩) (fun hHeld => ?_)
    try simp only [Act.put, sA, sZ, sS]
    refine gT 19 rfl (by kernel_rfl) (by intro w' hSw; go_simp <;> rfl) hZq hHeld ?_; simp only [Act.put, sA, sZ, sS]
    refine gT 20 rfl (by kernel_rfl) (by intro w' hSw; go_simp <;> rfl) hZq hHeld ?_; simp only [Act.put, sA, sZ, sS]
    refine gT 21 rfl (by kernel_rfl) (by intro w' hSw; go_simp <;> rfl) hZq hHeld ?_; simp only [Act.put, sA, sZ, sS]
    refine gT 22 rfl (by kernel_rfl) (by intro w' hSw; go_simp <;> rfl) hZq hHeld ?_; simp only [Act.put, sA, sZ, sS]
    refine gT 23 rfl (by kernel_rfl) (by intro w' hSw; go_simp <;> rfl) hZq hHeld ?_; simp only [Act.put, sA, sZ, sS]
    refine gE 24 rfl (by kernel_rfl) (fun K hK => ?_)
    go_simp
    (go_at_call 126; refine (spec_l5End H.out inferInstance NF.out _ HK.out.1 HK.out.2 HTI.out).mono ?_; rintro e w2 ⟨rfl, L2⟩; have Z2 := Later.trans (w := wx) inferInstance L2; have X2 := Later.trans (w := wb) inferInstance L2)
    refine hK.out _ _ (by exact ⟨inferInstance, inferInstance⟩) (fun hHeld => ?_)
    try simp only [Act.put, sA, sZ, sS]
    refine gE 25 rfl (by kernel_rfl) (fun K hK => ?_)
    go_simp
    (go_at_call 125; refine (spec_l4Time _ _).mono ?_; rintro e w' ⟨rfl, rfl⟩)
    refine hK.out _ _ (by exact ⟨inferInstance, inferInstance⟩) (fun hHeld => ?_)
    try simp only [Act.put, sA, sZ, sS]
    refine gT 26 rfl (by kernel_rfl) (by intro w' hSw; go_simp <;> rfl) hZq hHeld ?_; simp only [Act.put, sA, sZ, sS]
    refine gT 27 rfl (by kernel_rfl) (by intro w' hSw; go_simp <;> rfl) hZq hHeld ?_; simp only [Act.put, sA, sZ, sS]
    refine gT 28 rfl (by kernel_rfl) (by intro w' hSw; go_simp <;> rfl) hZq hHeld ?_; simp only [Act.put, sA, sZ, sS]
    refine gU 29 rfl (by kernel_rfl) hZq hHeld ?_; simp only [Act.put, sA, sZ, sS]
    refine gU 30 rfl (by kernel_rfl) hZq hHeld ?_; simp only [Act.put, sA, sZ, sS]
    refine gU 31 rfl (by kernel_rfl) hZq hHeld ?_; simp only [Act.put, sA, sZ, sS]
    refine gU 32 rfl (by kernel_rfl) hZq hHeld ?_; simp only [Act.put, sA, sZ, sS]
    refine gU 33 rfl (by kernel_rfl) hZq hHeld ?_; simp only [Act.put, sA, sZ, sS]
    refine gU 34 rfl (by kernel_rfl) hZq hHeld ?_; simp only [Act.put, sA, sZ, sS]
    refine gU 35 rfl (by kernel_rfl) hZq hHeld ?_; simp only [Act.put, sA, sZ, sS]
    refine gU 36 rfl (by kernel_rfl) hZq hHeld ?_; simp only [Act.put, sA, sZ, sS]
    refine gU 37 rfl (by kernel_rfl) hZq hHeld ?_; simp only [Act.put, sA, sZ, sS]
    refine gU 38 rfl (by kernel_rfl) hZq hHeld ?_; simp only [Act.put, sA, sZ, sS]
    refine gU 39 rfl (by kernel_rfl) hZq hHeld ?_; simp only [Act.put, sA, sZ, sS]
    refine gU 40 rfl (by kernel_rfl) hZq hHeld ?_; simp only [Act.put, sA, sZ, sS]
    refine gU 41 rfl (by kernel_rfl) hZq hHeld ?_; simp only [Act.put, sA, sZ, sS]
    refine gU 42 rfl (by kernel_rfl) hZq hHeld ?_; simp only [Act.put, sA, sZ, sS]
    refine gT 43 rfl (by kernel_rfl) (by intro w' hSw; go_simp <;> rfl) hZq hHeld ?_; simp only [Act.put, sA, sZ, sS]
    refine wpAnyH_done (by kernel_rfl) ?_ _
    clear hwr
    go_wp2
    go_ret
    exact ⟨ret_bool HF2.out.symm, hww.trans inferInstance⟩
   rcases HLA.out.2 with ⟨k0, hl0⟩ | ⟨j, y, kj, hy, hly⟩
   ·have k0' : ¬ (0 < (k : Int)) := by omega
    have k0n : ¬ (0 < k) := by omega
    have k0d : decide (0 < k) = false := decide_eq_false k0n
    have HL := tripOk_yes (t := t) (last := last) (x := x) (by have := inB_t.1 c1; omega) (by rw [← Hl1.out]; exact c2) c3 (by rw [← Hxi.out]; exact c4)
    have HF2 : Hid (tripsGo t (t.Trips.drop (k + 1)) x.Id = tripsGo t t.Trips 0) := by rw [HF1.out, HL]; rfl
    have HL2 : Hid (LastOk t (k + 1) x.Id) := ⟨by have := inB_t.1 c1; omega, .inr ⟨k, x, rfl, HX.out, rfl⟩⟩
    clear HF1 HL k0 hl0
    go_wp2_with fail
    have hwr : IntKind.i64.wrap ((sn1 : Int) - 1) = (sn1 : Int) - 1 := by rw [IntKind.wrap_i64]; omega
    refine gO (S := (fun w' => Later wb w' ∧ Later wx w')) (by kernel_rfl) (by exact ⟨inferInstance, inferInstance⟩) (fun _ _ _ _ _ h => h) (fun hHeld hZq => ?_)
    refine gT 0 rfl (by kernel_rfl) (by intro w' hSw; go_simp <;> rfl) hZq hHeld ?_; simp only [Act.put, sA, sZ, sS]
    refine gT 1 rfl (by kernel_rfl) (by intro w' hSw; go_simp <;> rfl) hZq hHeld ?_; simp only [Act.put, sA, sZ, sS]
    refine gE 2 rfl (by kernel_rfl) (fun K hK => ?_)
    go_simp
    (go_at_call 87; refine (spec_l1In _ _ _ _).mono ?_; rintro e w' ⟨rfl, rfl⟩)
    refine hK.out _ _ (by exact ⟨inferInstance, inferInstance⟩) (fun hHeld => ?_)
    try simp only [Act.put, sA, sZ, sS]
    refine gT 3 rfl (by kernel_rfl) (by intro w' hSw; go_simp <;> rfl) hZq hHeld ?_; simp only [Act.put, sA, sZ, sS]
    refine gT 4 rfl (by kernel_rfl) (by intro w' hSw; go_simp <;> rfl) hZq hHeld ?_; simp only [Act.put, sA, sZ, sS]
    refine gT 5 rfl (by kernel_rfl) (by intro w' hSw; go_simp <;> rfl) hZq hHeld ?_; simp only [Act.put, sA, sZ, sS]
    refine gT 6 rfl (by kernel_rfl) (by intro w' hSw; go_simp <;> rfl) hZq hHeld ?_; simp only [Act.put, sA, sZ, sS]
    refine gT 7 rfl (by kernel_rfl) (by intro w' hSw; go_simp <;> rfl) hZq hHeld ?_; simp only [Act.put, sA, sZ, sS]
    refine gT 8 rfl (by kernel_rfl) (by intro w' hSw; go_simp <;> rfl) hZq hHeld ?_; simp only [Act.put, sA, sZ, sS]
    refine gT 9 rfl (by kernel_rfl) (by intro w' hSw; go_simp <;> rfl) hZq hHeld ?_; simp only [Act.put, sA, sZ, sS]
    refine gT 10 rfl (by kernel_rfl) (by intro w' hSw; go_simp <;> rfl) hZq hHeld ?_; simp only [Act.put, sA, sZ, sS]
    refine gT 11 rfl (by kernel_rfl) (by intro w' hSw; go_simp <;> rfl) hZq hHeld ?_; simp only [Act.put, sA, sZ, sS]
    refine gE 12 rfl (by kernel_rfl) (fun K hK => ?_)
    go_simp
    (go_at_call 87; refine (spec_l1In _ _ _ _).mono ?_; rintro e w' ⟨rfl, rfl⟩)
    refine hK.out _ _ (by exact ⟨inferInstance, inferInstance⟩) (fun hHeld => ?_)
    try simp only [Act.put, sA, sZ, sS]
    refine gT 13 rfl (by kernel_rfl) (by intro w' hSw; go_simp <;> rfl) hZq hHeld ?_; simp only [Act.put, sA, sZ, sS]
    refine gT 14 rfl (by kernel_rfl) (by intro w' hSw; go_simp <;> rfl) hZq hHeld ?_; simp only [Act.put, sA, sZ, sS]
    refine gT 15 rfl (by kernel_rfl) (by intro w' hSw; go_simp <;> rfl) hZq hHeld ?_; simp only [Act.put, sA, sZ, sS]
    refine gT 16 rfl (by kernel_rfl) (by intro w' hSw; go_simp <;> rfl) hZq hHeld ?_; simp only [Act.put, sA, sZ, sS]
    refine gT 17 rfl (by kernel_rfl) (by intro w' hSw; go_simp <;> rfl) hZq hHeld ?_; simp only [Act.put, sA, sZ, sS]
    refine gE 18 rfl (by kernel_rfl) (fun K hK => ?_)
    go_simp
    (go_at_call 125; refine (spec_l4Time _ _).mono ?_; rintro e w' ⟨rfl, rfl⟩)
    refine hK.out _ _ (by exact ⟨inferInstance, inferInstance⟩) (fun hHeld => ?_)
    try simp only [Act.put, sA, sZ, sS]
    refine gT 19 rfl (by kernel_rfl) (by intro w' hSw; go_simp <;> rfl) hZq hHeld ?_; simp only [Act.put, sA, sZ, sS]
    refine gT 20 rfl (by kernel_rfl) (by intro w' hSw; go_simp <;> rfl) hZq hHeld ?_; simp only [Act.put, sA, sZ, sS]
    refine gT 21 rfl (by kernel_rfl) (by intro w' hSw; go_simp <;> rfl) hZq hHeld ?_; simp only [Act.put, sA, sZ, sS]
    refine gT 22 rfl (by kernel_rfl) (by intro w' hSw; go_simp <;> rfl) hZq hHeld ?_; simp only [Act.put, sA, sZ, sS]
    refine gT 23 rfl (by kernel_rfl) (by intro w' hSw; go_simp <;> rfl) hZq hHeld ?_; simp only [Act.put, sA, sZ, sS]
    refine gE 24 rfl (by kernel_rfl) (fun K hK => ?_)
    go_simp
    (go_at_call 126; refine (spec_l5End H.out inferInstance NF.out _ HK.out.1 HK.out.2 HTI.out).mono ?_; rintro e w2 ⟨rfl, L2⟩; have Z2 := Later.trans (w := wx) inferInstance L2; have X2 := Later.trans (w := wb) inferInstance L2)
    refine hK.out _ _ (by exact ⟨inferInstance, inferInstance⟩) (fun hHeld => ?_)
    try simp only [Act.put, sA, sZ, sS]
    refine gE 25 rfl (by kernel_rfl) (fun K hK => ?_)
    go_simp
    (go_at_call 125; refine (spec_l4Time _ _).mono ?_; rintro e w' ⟨rfl, rfl⟩)
    refine hK.out _ _ (by exact ⟨inferInstance, inferInstance⟩) (fun hHeld => ?_)
    try simp only [Act.put, sA, sZ, sS]
    refine gT 26 rfl (by kernel_rfl) (by intro w' hSw; go_simp <;> rfl) hZq hHeld ?_; simp only [Act.put, sA, sZ, sS]
    refine gT 27 rfl (by kernel_rfl) (by intro w' hSw; go_simp <;> rfl) hZq hHeld ?_; simp only [Act.put, sA, sZ, sS]
    refine gT 28 rfl (by kernel_rfl) (by intro w' hSw; go_simp <;> rfl) hZq hHeld ?_; simp only [Act.put, sA, sZ, sS]
    refine gT 29 rfl (by kernel_rfl) (by intro w' hSw; go_simp <;> rfl) hZq hHeld ?_; simp only [Act.put, sA, sZ, sS]
    refine gT 30 rfl (by kernel_rfl) (by intro w' hSw; go_simp <;> rfl) hZq hHeld ?_; simp only [Act.put, sA, sZ, sS]
    refine gT 31 rfl (by kernel_rfl) (by intro w' hSw; go_simp <;> rfl) hZq hHeld ?_; simp only [Act.put, sA, sZ, sS]
    refine gU 32 rfl (by kernel_rfl) hZq hHeld ?_; simp only [Act.put, sA, sZ, sS]
    refine gU 33 rfl (by kernel_rfl) hZq hHeld ?_; simp only [Act.put, sA, sZ, sS]
    refine gU 34 rfl (by kernel_rfl) hZq hHeld ?_; simp only [Act.put, sA, sZ, sS]
    refine gU 35 rfl (by kernel_rfl) hZq hHeld ?_; simp only [Act.put, sA, sZ, sS]
    refine gU 36 rfl (by kernel_rfl) hZq hHeld ?_; simp only [Act.put, sA, sZ, sS]
    refine gU 37 rfl (by kernel_rfl) hZq hHeld ?_; simp only [Act.put, sA, sZ, sS]
    refine gU 38 rfl (by kernel_rfl) hZq hHeld ?_; simp only [Act.put, sA, sZ, sS]
    refine gU 39 rfl (by kernel_rfl) hZq hHeld ?_; simp only [Act.put, sA, sZ, sS]
    refine gU 40 rfl (by kernel_rfl) hZq hHeld ?_; simp only [Act.put, sA, sZ, sS]
    refine gU 41 rfl (by kernel_rfl) hZq hHeld ?_; simp only [Act.put, sA, sZ, sS]
    refine gT 42 rfl (by kernel_rfl) (by intro w' hSw; go_simp <;> rfl) hZq hHeld ?_; simp only [Act.put, sA, sZ, sS]
    refine gT 43 rfl (by kernel_rfl) (by intro w' hSw; go_simp <;> rfl) hZq hHeld ?_; simp only [Act.put, sA, sZ, sS]
    refine wpAnyH_done (by kernel_rfl) ?_ _
    clear hwr
    go_wp2
    go_roundw
    case rel => exact ⟨k + 1, x.Id, by omega, by go_num, HF2, HL2, inferInstance⟩
    case measure => simp [intOf]; omega
   ·obtain ⟨b3, o3, y', hA3, hy3, hd0, hd1, hd2, hi3⟩ := Trips.at_ HT.out (k := j) (by omega)
    obtain rfl : y' = y := Option.some.inj (hy3.out.symm.trans hy)
    cases hA3
    have hkz : (0 : Int) < (k : Int) := by omega
    have hkn : 0 < k := by omega
    have hkj : ((k : Int) - 1) = (j : Int) := by omega
    have HKJ := Lib.hid hkj
    have HLY := Lib.hid hly
    clear hd1 hd2 hi3 hy3 hkj hly hy
    have hjn : j < sn2 := by omega
    have Kj := Lib.hid kj
    by_cases c5 : y'.Id < x.Id
    ·have c5' : ¬ (x.Id ≤ y'.Id) := by omega
     have HL := tripOk_yes (t := t) (last := last) (x := x) (by have := inB_t.1 c1; have := HLY.out; omega) (by rw [← Hl1.out]; exact c2) c3 (by rw [← Hxi.out]; exact c4)
     have HF2 : Hid (tripsGo t (t.Trips.drop (k + 1)) x.Id = tripsGo t t.Trips 0) := by rw [HF1.out, HL]; rfl
     have HL2 : Hid (LastOk t (k + 1) x.Id) := ⟨by have := inB_t.1 c1; omega, .inr ⟨k, x, rfl, HX.out, rfl⟩⟩
     clear HF1 HL kj
     go_wp2_with fail
     have hwr : IntKind.i64.wrap ((sn1 : Int) - 1) = (sn1 : Int) - 1 := by rw [IntKind.wrap_i64]; omega
     have hwk : IntKind.i64.wrap ((k : Int) - 1) = (j : Int) := by rw [IntKind.wrap_i64, HKJ.out]; omega
     go_region_held3 (fun w' => Later wb w' ∧ Later wx w') (exact ⟨inferInstance, inferInstance⟩) (first | (go_at_call 87; refine (spec_l1In _ _ _ _).mono ?_; rintro e w' ⟨rfl, rfl⟩) | (go_at_call 125; refine (spec_l4Time _ _).mono ?_; rintro e w' ⟨rfl, rfl⟩) | (go_at_call 126; refine (spec_l5End H.out inferInstance NF.out _ HK.out.1 HK.out.2 HTI.out).mono ?_; rintro e w2 ⟨rfl, L2⟩; have Z2 := Later.trans (w := wx) inferInstance L2; have X2 := Later.trans (w := wb) inferInstance L2))
     clear hwr hwk
     go_wp2
     go_roundw
     case rel => exact ⟨k + 1, x.Id, by omega, by go_num, HF2, HL2, inferInstance⟩
     case measure => simp [intOf]; omega
    ·have c5' : x.Id ≤ y'.Id := by omega
     have HL := tripOk_no1 (t := t) (last := last) (x := x) (by have := HLY.out; omega)
     have HF2 : Hid (okTimetable t = false) := by show _ = _; unfold okTimetable; rw [HF1.out, HL]; simp
     clear HF1 HL kj c5
     go_wp2_with fail
     have hwr : IntKind.i64.wrap ((sn1 : Int) - 1) = (sn1 : Int) - 1 := by rw [IntKind.wrap_i64]; omega
     have hwk : IntKind.i64.wrap ((k : Int) - 1) = (j : Int) := by rw [IntKind.wrap_i64, HKJ.out]; omega
     go_region_held3 (fun w' => Later wb w' ∧ Later wx w') (exact ⟨inferInstance, inferInstance⟩) (first | (go_at_call 87; refine (spec_l1In _ _ _ _).mono ?_; rintro e w' ⟨rfl, rfl⟩) | (go_at_call 125; refine (spec_l4Time _ _).mono ?_; rintro e w' ⟨rfl, rfl⟩) | (go_at_call 126; refine (spec_l5End H.out inferInstance NF.out _ HK.out.1 HK.out.2 HTI.out).mono ?_; rintro e w2 ⟨rfl, L2⟩; have Z2 := Later.trans (w := wx) inferInstance L2; have X2 := Later.trans (w := wb) inferInstance L2))
     clear hwr hwk
     go_wp2
     go_ret
     exact ⟨ret_bool HF2.out.symm, hww.trans inferInstance⟩
  ·have HF2 : Hid (okTimetable t = true) := by
    show _ = _
    unfold okTimetable
    rw [← HF.out, List.drop_eq_nil_of_le (by have := Hl.out; omega), decide_eq_true B1.out, B0.out]; rfl
   clear HF
   go_wp2
   go_ret
   exact ⟨ret_bool HF2.out.symm, hww.trans inferInstance⟩
end Go.Proofs.YtknhebakebmlcaaGreat
