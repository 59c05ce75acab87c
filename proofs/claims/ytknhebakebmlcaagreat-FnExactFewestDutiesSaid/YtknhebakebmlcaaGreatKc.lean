/-
 Fleets: when one is valid.
 Blocks: when trips can follow, and when blocks are valid. Plain functions.
 Timetables: lines, stops and times of trips.
 Timetables: the reference's lines and times, and the place of a trip.
 Timetables: when one is valid.
 Timetables: the list of a trip's times.
 A row of numbers in a block of the call's own, as made by make and written element by element. Lemmas only.
-/
import Derived.Test.YtknhebakebmlcaaGreatKb
import Derived.Test.YtknhebakebmlcaaGreatKa
namespace Go.Proofs.YtknhebakebmlcaaGreat
open Go Go.RowKit
set_option linter.unusedVariables false
set_option maxRecDepth 100000
def okRowF (ns : Nat) (k : Nat) (row : List Int) : Bool := decide (row.length = ns) && decide (row.getD k 0 = 0) && row.all fun d => inB d 0 120
def okFleetN (ns : Nat) (f : Fleet) : Bool := decide (f.Dead.length = ns) && inB f.Turn 0 30 && allFrom (okRowF ns) f.Dead 0
def okFleet (n : Network) (f : Fleet) : Bool := okNetwork n && okFleetN n.Stops.length f
theorem okRowF_1 {ns k : Nat} {row : List Int} (h : ¬ row.length = ns) : okRowF ns k row = false := by unfold okRowF; rw [decide_eq_false h]; rfl
theorem okRowF_2 {ns k : Nat} {row : List Int} (h : ¬ row.getD k 0 = 0) : okRowF ns k row = false := by unfold okRowF; rw [decide_eq_false h]; simp
theorem okRowF_3 {ns k : Nat} {row : List Int} (h : (row.all fun d => inB d 0 120) = false) : okRowF ns k row = false := by unfold okRowF; rw [h]; simp
theorem okRowF_y {ns k : Nat} {row : List Int} (h1 : row.length = ns) (h2 : row.getD k 0 = 0) (h3 : (row.all fun d => inB d 0 120) = true) : okRowF ns k row = true := by unfold okRowF; rw [decide_eq_true h1, decide_eq_true h2, h3]; rfl
theorem okFl_1 {ns : Nat} {f : Fleet} (h : ¬ f.Dead.length = ns) : okFleetN ns f = false := by unfold okFleetN; rw [decide_eq_false h]; rfl
theorem okFl_2 {ns : Nat} {f : Fleet} (h : inB f.Turn 0 30 = false) : okFleetN ns f = false := by unfold okFleetN; rw [h]; simp
theorem okFl_3 {ns : Nat} {f : Fleet} (h : allFrom (okRowF ns) f.Dead 0 = false) : okFleetN ns f = false := by unfold okFleetN; rw [h]; simp
theorem okFl_y {ns : Nat} {f : Fleet} (h : f.Dead.length = ns) (h2 : inB f.Turn 0 30 = true) (h3 : allFrom (okRowF ns) f.Dead 0 = true) : okFleetN ns f = true := by unfold okFleetN; rw [decide_eq_true h, h2, h3]; rfl
structure FleetFacts (ns : Nat) (f : Fleet) : Prop where
 len : f.Dead.length = ns
 turn : 0 ≤ f.Turn ∧ f.Turn ≤ 30
 row : ∀ (i : Nat) (row : List Int), f.Dead[i]? = some row → row.length = ns ∧ ∀ (j : Nat) (d : Int), row[j]? = some d → 0 ≤ d ∧ d ≤ 120
theorem fleetFacts {ns : Nat} {f : Fleet} (h : okFleetN ns f = true) : FleetFacts ns f := by
 simp only [okFleetN, Bool.and_eq_true, decide_eq_true_eq, inB_t, allFrom_iff, okRowF, List.all_eq_true] at h
 obtain ⟨⟨h1, h2⟩, h3⟩ := h
 exact ⟨h1, h2, fun i row hr => ⟨(h3 i row hr).1.1, fun j d hd => (h3 i row hr).2 d (List.mem_of_getElem? hd)⟩⟩
set_option maxHeartbeats 800000 in
theorem impl_isFleet {w0 w w2 : World} {sA0 : Option Addr} {sn0 sc0 : Nat} {sA1 : Option Addr} {sn1 sc1 : Nat} {n : Network} (h : NetworkAt w0 sA0 sn0 sc0 sA1 sn1 sc1 n) (hl : Later w0 w) {qA0 : Option Addr} {qn0 qc0 : Nat} {f : Fleet} (h2 : FleetAt w2 qA0 qn0 qc0 f) (hl2 : Later w2 w) :
  Calls Tryz.prog 112 #[.agg #[.slice sA0 sn0 sc0, .slice sA1 sn1 sc1], .agg #[.slice qA0 qn0 qc0, .int .i64 f.Turn]] w (Ret (.bool (okFleetN n.Stops.length f)) w) := by
 replace h := h.later hl
 replace h2 := h2.later hl2
 have hS := h.l_Stops
 have hD := h2.l_Dead
 have hn0 := hS.le
 have hn1 := hD.le
 have Hs := Lib.hid hS.len
 have Hd := Lib.hid hD.len
 rw [← hS.len]
 have HB0 : ∀ W [Later ((w.alloc (.cells #[.slice sA0 sn0 sc0, .slice sA1 sn1 sc1] 41)).alloc (.cells #[.slice qA0 qn0 qc0, .int .i64 f.Turn] 46)) W] (j : Nat), W.cell? ⟨w.heap.size, j, none⟩ = #[.slice sA0 sn0 sc0, .slice sA1 sn1 sc1][j]? := Later.boxes (t := 41) (fr := (0, 0)) ((heap_old (by simp; try omega)).trans (heap_new (by simp; try omega))); have HB1 : ∀ W [Later ((w.alloc (.cells #[.slice sA0 sn0 sc0, .slice sA1 sn1 sc1] 41)).alloc (.cells #[.slice qA0 qn0 qc0, .int .i64 f.Turn] 46)) W] (j : Nat), W.cell? ⟨w.heap.size + 1, j, none⟩ = #[.slice qA0 qn0 qc0, .int .i64 f.Turn][j]? := Later.boxes (t := 46) (fr := (0, 0)) (heap_new (by simp; try omega)); obtain ⟨wb, hwb⟩ : ∃ wb : World, wb = ((w.alloc (.cells #[.slice sA0 sn0 sc0, .slice sA1 sn1 sc1] 41)).alloc (.cells #[.slice qA0 qn0 qc0, .int .i64 f.Turn] 46)) := ⟨_, rfl⟩; haveI hbW : Later wb ((w.alloc (.cells #[.slice sA0 sn0 sc0, .slice sA1 sn1 sc1] 41)).alloc (.cells #[.slice qA0 qn0 qc0, .int .i64 f.Turn] 46)) := (by rw [hwb]; exact Later.rfl_); haveI hww : Later w wb := (by rw [hwb]; infer_instance); rw [← hwb] at HB0; rw [← hwb] at HB1; have hbE := Lib.hid (congrArg (fun x : World => x.heap.size) hwb); clear hwb
 replace hD := hD.later hww
 clear h h2 hS
 by_cases b1 : qn0 = sn0
 rotate_left
 ·have g1 : ((qn0 : Int) != (sn0 : Int)) = true := by rw [bne_iff_ne]; omega
  have HN : Hid (okFleetN sn0 f = false) := okFl_1 (by rw [← Hd.out]; exact b1)
  clear b1
  go_enter Tryz.func112, Tryz.ntmps112
  go_wp2
  go_ret
  exact ⟨ret_bool HN.out.symm, hww.trans inferInstance⟩
 have g1 : ((qn0 : Int) != (sn0 : Int)) = false := by rw [bne_eq_false_iff_eq]; omega
 by_cases b2 : inB f.Turn 0 30 = true
 rotate_left
 ·have g2 : inB f.Turn 0 30 = false := by simpa using b2
  have HN := Lib.hid (okFl_2 (ns := sn0) g2)
  clear b2 b1
  go_enter Tryz.func112, Tryz.ntmps112
  go_wp2_with (go_at_call 94; refine (impl_within _ _ _ _).mono ?_; rintro e w' ⟨rfl, rfl⟩)
  go_ret
  exact ⟨ret_bool HN.out.symm, hww.trans inferInstance⟩
 have B1 : Hid (f.Dead.length = sn0) := by rw [← Hd.out]; exact b1
 have hqs : qn0 ≤ sn0 := by omega
 have B2 := Lib.hid b2
 have ENO : Hid (allFrom (okRowF sn0) f.Dead 0 = false → okFleetN sn0 f = false) := okFl_3
 clear b1
 go_enter Tryz.func112, Tryz.ntmps112
 go_wp2_with (go_at_call 94; refine (impl_within _ _ _ _).mono ?_; rintro e w' ⟨rfl, rfl⟩)
 clear b2 g1
 go_loopw [25] (fun i wr => ∃ k : Nat, k ≤ qn0 ∧ i = .int .i64 k ∧ Hid (allFrom (okRowF sn0) (f.Dead.drop k) k = allFrom (okRowF sn0) f.Dead 0) ∧ Later wb wr) (fun i _ => qn0 - (intOf i).toNat)
 case atStart => exact ⟨0, by omega, rfl, rfl, inferInstance⟩
 case round =>
  obtain ⟨k, hk, rfl, HF, hX⟩ := hrel
  by_cases hlt : k < qn0
  ·obtain ⟨b, o, A1, n1, c1, x, rfl, hx, hc0, hi⟩ := Sl.row_ hD hlt
   have HF1 : Hid (allFrom (okRowF sn0) f.Dead 0 = (okRowF sn0 k x && allFrom (okRowF sn0) (f.Dead.drop (k + 1)) (k + 1))) := by rw [← HF.out, drop_at hx.out]; rfl
   have Hn1 := Lib.hid hi.len
   have hnn1 := hi.le
   have Hi := Lib.hid hi
   clear HF hi
   by_cases d1 : n1 = sn0
   rotate_left
   ·have g3 : ((n1 : Int) != (sn0 : Int)) = true := by rw [bne_iff_ne]; omega
    have HF2 : Hid (okFleetN sn0 f = false) := ENO.out (by rw [HF1.out, okRowF_1 (by rw [← Hn1.out]; exact d1)]; rfl)
    clear HF1 d1
    go_wp2
    go_ret
    exact ⟨ret_bool HF2.out.symm, hww.trans inferInstance⟩
   have g3 : ((n1 : Int) != (sn0 : Int)) = false := by rw [bne_eq_false_iff_eq]; omega
   have hkn1 : k < n1 := by omega
   have C1 : Hid (x.length = sn0) := by rw [← Hn1.out]; exact d1
   clear d1
   obtain ⟨b3, o3, y0, rfl, hy0, hcy0, _⟩ := Ints.at_ Hi.out hkn1
   have hgd : x.getD k 0 = y0 := by simp [List.getD, hy0.out]
   by_cases d2 : y0 = 0
   rotate_left
   ·have g4 : (y0 != 0) = true := by rw [bne_iff_ne]; exact d2
    have HF2 : Hid (okFleetN sn0 f = false) := ENO.out (by rw [HF1.out, okRowF_2 (by rw [hgd]; exact d2)]; rfl)
    clear HF1 d2 hgd
    go_wp2
    go_ret
    exact ⟨ret_bool HF2.out.symm, hww.trans inferInstance⟩
   have C2 : Hid (x.getD k 0 = 0) := by rw [hgd]; exact d2
   subst d2
   clear hgd
   go_wp2_with fail
   go_loopw [45] (fun i wr => ∃ j : Nat, j ≤ n1 ∧ i = .int .i64 j ∧ Hid ((x.drop j).all (fun d => inB d 0 120) = x.all (fun d => inB d 0 120)) ∧ Later wb wr) (fun i _ => n1 - (intOf i).toNat)
   case atStart => exact ⟨0, by omega, rfl, rfl, inferInstance⟩
   case round =>
    obtain ⟨j, hj, rfl, HG, hY⟩ := hrel
    by_cases hjt : j < n1
    ·obtain ⟨b2, o2, y, hA2, hy, hcy, hyi⟩ := Ints.at_ Hi.out hjt
     cases hA2
     have HG1 : Hid (x.all (fun d => inB d 0 120) = (inB y 0 120 && (x.drop (j + 1)).all (fun d => inB d 0 120))) := by rw [← HG.out, drop_at hy.out]; rfl
     clear HG
     by_cases c1 : inB y 0 120 = true
     ·have HG2 : Hid ((x.drop (j + 1)).all (fun d => inB d 0 120) = x.all (fun d => inB d 0 120)) := by rw [HG1.out, c1]; rfl
      clear HG1
      go_wp2_with (go_at_call 94; refine (impl_within _ _ _ _).mono ?_; rintro e w' ⟨rfl, rfl⟩)
      go_roundw
      case rel => exact ⟨j + 1, by omega, by go_num, HG2, inferInstance⟩
      case measure => simp [intOf]; omega
     ·have c2 : inB y 0 120 = false := by simpa using c1
      have HG2 := Lib.hid (okRowF_3 (ns := sn0) (k := k) (row := x) (by rw [HG1.out, c2]; rfl))
      have HF2 : Hid (okFleetN sn0 f = false) := ENO.out (by rw [HF1.out, HG2.out]; rfl)
      clear HG1 c1
      go_wp2_with (go_at_call 94; refine (impl_within _ _ _ _).mono ?_; rintro e w' ⟨rfl, rfl⟩)
      go_ret
      exact ⟨ret_bool HF2.out.symm, hww.trans inferInstance⟩
    ·have HG2 : Hid (x.all (fun d => inB d 0 120) = true) := by show _ = _; rw [← HG.out, List.drop_eq_nil_of_le (by have := Hn1.out; omega)]; rfl
     have HF2 : Hid (allFrom (okRowF sn0) (f.Dead.drop (k + 1)) (k + 1) = allFrom (okRowF sn0) f.Dead 0) := by rw [HF1.out, okRowF_y C1.out C2.out HG2.out]; rfl
     clear HF1 HG
     go_wp2
     go_roundw
     case rel => exact ⟨k + 1, by omega, by go_num, HF2, inferInstance⟩
     case measure => simp [intOf]; omega
  ·have HF2 : Hid (okFleetN sn0 f = true) := okFl_y B1.out B2.out (by rw [← HF.out, List.drop_eq_nil_of_le (by have := Hd.out; omega)]; rfl)
   clear HF
   go_wp2
   go_ret
   exact ⟨ret_bool HF2.out.symm, hww.trans inferInstance⟩
set_option maxHeartbeats 800000 in
theorem spec_l11Fleet {w0 w w2 : World} {sA0 : Option Addr} {sn0 sc0 : Nat} {sA1 : Option Addr} {sn1 sc1 : Nat} {n : Network} (h : NetworkAt w0 sA0 sn0 sc0 sA1 sn1 sc1 n) (hl : Later w0 w) {qA0 : Option Addr} {qn0 qc0 : Nat} {f : Fleet} (h2 : FleetAt w2 qA0 qn0 qc0 f) (hl2 : Later w2 w) :
  Calls Tryz.prog 107 #[.agg #[.slice sA0 sn0 sc0, .slice sA1 sn1 sc1], .agg #[.slice qA0 qn0 qc0, .int .i64 f.Turn]] w (Ret (.bool (okFleet n f)) w) := by
 replace h := h.later hl
 replace h2 := h2.later hl2
 have hS := h.l_Stops
 have hD := h2.l_Dead
 have hn0 := hS.le
 have hn1 := hD.le
 have Hs := Lib.hid hS.len
 have Hd := Lib.hid hD.len
 unfold okFleet
 rw [← hS.len]
 have HB0 : ∀ W [Later ((w.alloc (.cells #[.slice sA0 sn0 sc0, .slice sA1 sn1 sc1] 41)).alloc (.cells #[.slice qA0 qn0 qc0, .int .i64 f.Turn] 46)) W] (j : Nat), W.cell? ⟨w.heap.size, j, none⟩ = #[.slice sA0 sn0 sc0, .slice sA1 sn1 sc1][j]? := Later.boxes (t := 41) (fr := (0, 0)) ((heap_old (by simp; try omega)).trans (heap_new (by simp; try omega))); have HB1 : ∀ W [Later ((w.alloc (.cells #[.slice sA0 sn0 sc0, .slice sA1 sn1 sc1] 41)).alloc (.cells #[.slice qA0 qn0 qc0, .int .i64 f.Turn] 46)) W] (j : Nat), W.cell? ⟨w.heap.size + 1, j, none⟩ = #[.slice qA0 qn0 qc0, .int .i64 f.Turn][j]? := Later.boxes (t := 46) (fr := (0, 0)) (heap_new (by simp; try omega)); obtain ⟨wb, hwb⟩ : ∃ wb : World, wb = ((w.alloc (.cells #[.slice sA0 sn0 sc0, .slice sA1 sn1 sc1] 41)).alloc (.cells #[.slice qA0 qn0 qc0, .int .i64 f.Turn] 46)) := ⟨_, rfl⟩; haveI hbW : Later wb ((w.alloc (.cells #[.slice sA0 sn0 sc0, .slice sA1 sn1 sc1] 41)).alloc (.cells #[.slice qA0 qn0 qc0, .int .i64 f.Turn] 46)) := (by rw [hwb]; exact Later.rfl_); haveI hww : Later w wb := (by rw [hwb]; infer_instance); rw [← hwb] at HB0; rw [← hwb] at HB1; have hbE := Lib.hid (congrArg (fun x : World => x.heap.size) hwb); clear hwb
 replace hD := hD.later hww
 replace h := h.later hww
 have H := Lib.hid h
 clear h h2 hS
 by_cases b0 : okNetwork n = true
 rotate_left
 ·have g0 : okNetwork n = false := by simpa using b0
  clear b0
  go_enter Tryz.func107, Tryz.ntmps107
  go_wp2_with (go_at_call 124; refine (spec_l2Good H.out inferInstance).mono ?_; rintro e w1 ⟨rfl, L1⟩; have X1 := Later.trans (w := wb) inferInstance L1)
  go_ret
  exact ⟨ret_bool (by rw [g0]; rfl), hww.trans inferInstance⟩
 rw [b0, Bool.true_and]
 by_cases b1 : qn0 = sn0
 rotate_left
 ·have g1 : ((qn0 : Int) != (sn0 : Int)) = true := by rw [bne_iff_ne]; omega
  have HN : Hid (okFleetN sn0 f = false) := okFl_1 (by rw [← Hd.out]; exact b1)
  clear b1
  go_enter Tryz.func107, Tryz.ntmps107
  go_wp2_with (go_at_call 124; refine (spec_l2Good H.out inferInstance).mono ?_; rintro e w1 ⟨rfl, L1⟩; have X1 := Later.trans (w := wb) inferInstance L1)
  go_ret
  exact ⟨ret_bool HN.out.symm, hww.trans inferInstance⟩
 have g1 : ((qn0 : Int) != (sn0 : Int)) = false := by rw [bne_eq_false_iff_eq]; omega
 by_cases b2 : inB f.Turn 0 30 = true
 rotate_left
 ·have g2 : inB f.Turn 0 30 = false := by simpa using b2
  have HN := Lib.hid (okFl_2 (ns := sn0) g2)
  clear b2 b1
  go_enter Tryz.func107, Tryz.ntmps107
  go_wp2_with first
   | (go_at_call 124; refine (spec_l2Good H.out inferInstance).mono ?_; rintro e w1 ⟨rfl, L1⟩; have X1 := Later.trans (w := wb) inferInstance L1)
   | (go_at_call 87; refine (spec_l1In _ _ _ _).mono ?_; rintro e w' ⟨rfl, rfl⟩)
  go_ret
  exact ⟨ret_bool HN.out.symm, hww.trans inferInstance⟩
 have B1 : Hid (f.Dead.length = sn0) := by rw [← Hd.out]; exact b1
 have hqs : qn0 ≤ sn0 := by omega
 have B2 := Lib.hid b2
 have ENO : Hid (allFrom (okRowF sn0) f.Dead 0 = false → okFleetN sn0 f = false) := okFl_3
 clear b1
 go_enter Tryz.func107, Tryz.ntmps107
 go_wp2_with first
  | (go_at_call 124; refine (spec_l2Good H.out inferInstance).mono ?_; rintro e w1 ⟨rfl, L1⟩; have X1 := Later.trans (w := wb) inferInstance L1)
  | (go_at_call 87; refine (spec_l1In _ _ _ _).mono ?_; rintro e w' ⟨rfl, rfl⟩)
 clear b2 g1 b0
 go_loopw [5] (fun i wr => ∃ k : Nat, k ≤ qn0 ∧ i = .int .i64 k ∧ Hid (allFrom (okRowF sn0) (f.Dead.drop k) k = allFrom (okRowF sn0) f.Dead 0) ∧ Later wb wr) (fun i _ => qn0 - (intOf i).toNat)
 case atStart => exact ⟨0, by omega, rfl, rfl, inferInstance⟩
 case round =>
  obtain ⟨k, hk, rfl, HF, hX⟩ := hrel
  by_cases hlt : k < qn0
  ·obtain ⟨b, o, A1, n1, c1, x, rfl, hx, hc0, hi⟩ := Sl.row_ hD hlt
   have HF1 : Hid (allFrom (okRowF sn0) f.Dead 0 = (okRowF sn0 k x && allFrom (okRowF sn0) (f.Dead.drop (k + 1)) (k + 1))) := by rw [← HF.out, drop_at hx.out]; rfl
   have Hn1 := Lib.hid hi.len
   have hnn1 := hi.le
   have Hi := Lib.hid hi
   clear HF hi
   by_cases d1 : n1 = sn0
   rotate_left
   ·have g3 : ((n1 : Int) != (sn0 : Int)) = true := by rw [bne_iff_ne]; omega
    have HF2 : Hid (okFleetN sn0 f = false) := ENO.out (by rw [HF1.out, okRowF_1 (by rw [← Hn1.out]; exact d1)]; rfl)
    clear HF1 d1
    go_wp2_with fail
    refine gO (S := (fun w' => Later wb w')) (by kernel_rfl) (by exact inferInstance) (fun _ _ _ _ _ h => h) (fun hHeld hZq => ?_)
    refine gT 0 rfl (by kernel_rfl) (by intro w' hSw; go_simp <;> rfl) hZq hHeld ?_; simp only [Act.put, sA, sZ, sS]
    refine gT 1 rfl (by kernel_rfl) (by intro w' hSw; go_simp <;> rfl) hZq hHeld ?_; simp only [Act.put, sA, sZ, sS]
    refine gT 2 rfl (by kernel_rfl) (by intro w' hSw; go_simp <;> rfl) hZq hHeld ?_; simp only [Act.put, sA, sZ, sS]
    refine gT 3 rfl (by kernel_rfl) (by intro w' hSw; go_simp <;> rfl) hZq hHeld ?_; simp only [Act.put, sA, sZ, sS]
    refine gT 4 rfl (by kernel_rfl) (by intro w' hSw; go_simp <;> rfl) hZq hHeld ?_; simp only [Act.put, sA, sZ, sS]
    refine gT 5 rfl (by kernel_rfl) (by intro w' hSw; go_simp <;> rfl) hZq hHeld ?_; simp only [Act.put, sA, sZ, sS]
    refine gT 6 rfl (by kernel_rfl) (by intro w' hSw; go_simp <;> rfl) hZq hHeld ?_; simp only [Act.put, sA, sZ, sS]
    refine gT 7 rfl (by kernel_rfl) (by intro w' hSw; go_simp <;> rfl) hZq hHeld ?_; simp only [Act.put, sA, sZ, sS]
    refine gT 8 rfl (by kernel_rfl) (by intro w' hSw; go_simp <;> rfl) hZq hHeld ?_; simp only [Act.put, sA, sZ, sS]
    refine gT 9 rfl (by kernel_rfl) (by intro w' hSw; go_simp <;> rfl) hZq hHeld ?_; simp only [Act.put, sA, sZ, sS]
    refine gT 10 rfl (by kernel_rfl) (by intro w' hSw; go_simp <;> rfl) hZq hHeld ?_; simp only [Act.put, sA, sZ, sS]
    refine gU 11 rfl (by kernel_rfl) hZq hHeld ?_; simp only [Act.put, sA, sZ, sS]
    refine gU 12 rfl (by kernel_rfl) hZq hHeld ?_; simp only [Act.put, sA, sZ, sS]
    refine gU 13 rfl (by kernel_rfl) hZq hHeld ?_; simp only [Act.put, sA, sZ, sS]
    refine gU 14 rfl (by kernel_rfl) hZq hHeld ?_; simp only [Act.put, sA, sZ, sS]
    refine gU 15 rfl (by kernel_rfl) hZq hHeld ?_; simp only [Act.put, sA, sZ, sS]
    refine gU 16 rfl (by kernel_rfl) hZq hHeld ?_; simp only [Act.put, sA, sZ, sS]
    refine gU 17 rfl (by kernel_rfl) hZq hHeld ?_; simp only [Act.put, sA, sZ, sS]
    refine gU 18 rfl (by kernel_rfl) hZq hHeld ?_; simp only [Act.put, sA, sZ, sS]
    refine gU 19 rfl (by kernel_rfl) hZq hHeld ?_; simp only [Act.put, sA, sZ, sS]
    refine gT 20 rfl (by kernel_rfl) (by intro w' hSw; go_simp <;> rfl) hZq hHeld ?_; simp only [Act.put, sA, sZ, sS]
    refine wpAnyH_done (by kernel_rfl) ?_ _
    go_wp2
    go_ret
    exact ⟨ret_bool HF2.out.symm, hww.trans inferInstance⟩
   have g3 : ((n1 : Int) != (sn0 : Int)) = false := by rw [bne_eq_false_iff_eq]; omega
   have hkn1 : k < n1 := by omega
   have C1 : Hid (x.length = sn0) := by rw [← Hn1.out]; exact d1
   clear d1
   obtain ⟨b3, o3, y0, rfl, hy0, hcy0, _⟩ := Ints.at_ Hi.out hkn1
   have hgd : x.getD k 0 = y0 := by simp [List.getD, hy0.out]
   by_cases d2 : y0 = 0
   rotate_left
   ·have g4 : (y0 != 0) = true := by rw [bne_iff_ne]; exact d2
    have HF2 : Hid (okFleetN sn0 f = false) := ENO.out (by rw [HF1.out, okRowF_2 (by rw [hgd]; exact d2)]; rfl)
    clear HF1 d2 hgd
    go_wp2_with fail
    go_region_held3 (fun w' => Later wb w') (exact inferInstance) (fail)
    go_wp2
    go_ret
    exact ⟨ret_bool HF2.out.symm, hww.trans inferInstance⟩
   have C2 : Hid (x.getD k 0 = 0) := by rw [hgd]; exact d2
   subst d2
   clear hgd
   go_wp2_with fail
   go_region_held3 (fun w' => Later wb w') (exact inferInstance) (fail)
   go_wp2_with fail
   go_loopw [6] (fun i wr => ∃ j : Nat, j ≤ n1 ∧ i = .int .i64 j ∧ Hid ((x.drop j).all (fun d => inB d 0 120) = x.all (fun d => inB d 0 120)) ∧ Later wb wr) (fun i _ => n1 - (intOf i).toNat)
   case atStart => exact ⟨0, by omega, rfl, rfl, inferInstance⟩
   case round =>
    obtain ⟨j, hj, rfl, HG, hY⟩ := hrel
    by_cases hjt : j < n1
    ·obtain ⟨b2, o2, y, hA2, hy, hcy, hyi⟩ := Ints.at_ Hi.out hjt
     cases hA2
     have HG1 : Hid (x.all (fun d => inB d 0 120) = (inB y 0 120 && (x.drop (j + 1)).all (fun d => inB d 0 120))) := by rw [← HG.out, drop_at hy.out]; rfl
     clear HG
     by_cases c1 : inB y 0 120 = true
     ·have HG2 : Hid ((x.drop (j + 1)).all (fun d => inB d 0 120) = x.all (fun d => inB d 0 120)) := by rw [HG1.out, c1]; rfl
      clear HG1
      go_wp2_with (go_at_call 87; refine (spec_l1In _ _ _ _).mono ?_; rintro e w' ⟨rfl, rfl⟩)
      go_roundw
      case rel => exact ⟨j + 1, by omega, by go_num, HG2, inferInstance⟩
      case measure => simp [intOf]; omega
     ·have c2 : inB y 0 120 = false := by simpa using c1
      have HG2 := Lib.hid (okRowF_3 (ns := sn0) (k := k) (row := x) (by rw [HG1.out, c2]; rfl))
      have HF2 : Hid (okFleetN sn0 f = false) := ENO.out (by rw [HF1.out, HG2.out]; rfl)
      clear HG1 c1
      go_wp2_with (go_at_call 87; refine (spec_l1In _ _ _ _).mono ?_; rintro e w' ⟨rfl, rfl⟩)
      go_ret
      exact ⟨ret_bool HF2.out.symm, hww.trans inferInstance⟩
    ·have HG2 : Hid (x.all (fun d => inB d 0 120) = true) := by show _ = _; rw [← HG.out, List.drop_eq_nil_of_le (by have := Hn1.out; omega)]; rfl
     have HF2 : Hid (allFrom (okRowF sn0) (f.Dead.drop (k + 1)) (k + 1) = allFrom (okRowF sn0) f.Dead 0) := by rw [HF1.out, okRowF_y C1.out C2.out HG2.out]; rfl
     clear HF1 HG
     go_wp2
     go_roundw
     case rel => exact ⟨k + 1, by omega, by go_num, HF2, inferInstance⟩
     case measure => simp [intOf]; omega
  ·have HF2 : Hid (okFleetN sn0 f = true) := okFl_y B1.out B2.out (by rw [← HF.out, List.drop_eq_nil_of_le (by have := Hd.out; omega)]; rfl)
   clear HF
   go_wp2
   go_ret
   exact ⟨ret_bool HF2.out.symm, hww.trans inferInstance⟩
end Go.Proofs.YtknhebakebmlcaaGreat
namespace Go.Proofs.YtknhebakebmlcaaGreat
open Go Go.RowKit
set_option linter.unusedVariables false
set_option maxRecDepth 100000
def firstS (t : Timetable) (x : Trip) : Int := (lineAtT t x.Line).Stops.getD 0 0
def lastS (t : Timetable) (x : Trip) : Int := (lineAtT t x.Line).Stops.getD ((lineAtT t x.Line).Stops.length - 1) 0
def deadB (t : Timetable) (f : Fleet) (a b : Trip) : Int := (f.Dead.getD (lastS t a).toNat []).getD (firstS t b).toNat 0
def canF (t : Timetable) (f : Fleet) (a b : Trip) : Bool := decide (endAt t a + f.Turn + deadB t f a b ≤ b.Start)
def okRun (t : Timetable) (f : Fleet) : Bool := okTimetable t && okFleetN t.Network.Stops.length f
structure RunFacts (t : Timetable) (f : Fleet) : Prop where
 time : TimeFacts t
 fleet : FleetFacts t.Network.Stops.length f
theorem runFacts {t : Timetable} {f : Fleet} (h : okRun t f = true) : RunFacts t f := by
 simp only [okRun, Bool.and_eq_true] at h
 exact ⟨timeFacts h.1, fleetFacts h.2⟩
theorem firstS_bd {t : Timetable} (h : NetFacts t.Network) {x : Trip} (hx : 0 ≤ x.Line) (hx1 : x.Line < t.Network.Lines.length) : 0 ≤ firstS t x ∧ firstS t x < t.Network.Stops.length := by
 have lf := lineAtT_facts h hx hx1
 have h0 : 0 < (lineAtT t x.Line).Stops.length := by have := lf.stops; omega
 have := lf.mem 0 _ (List.getElem?_eq_getElem h0)
 unfold firstS
 simpa [List.getD, List.getElem?_eq_getElem h0] using this
theorem lastS_bd {t : Timetable} (h : NetFacts t.Network) {x : Trip} (hx : 0 ≤ x.Line) (hx1 : x.Line < t.Network.Lines.length) : 0 ≤ lastS t x ∧ lastS t x < t.Network.Stops.length := by
 have lf := lineAtT_facts h hx hx1
 have h0 : (lineAtT t x.Line).Stops.length - 1 < (lineAtT t x.Line).Stops.length := by have := lf.stops; omega
 have := lf.mem _ _ (List.getElem?_eq_getElem h0)
 unfold lastS
 simpa [List.getD, List.getElem?_eq_getElem h0] using this
theorem deadB_bd {t : Timetable} {f : Fleet} (h : NetFacts t.Network) (hf : FleetFacts t.Network.Stops.length f) {a b : Trip} (ha : 0 ≤ a.Line) (ha1 : a.Line < t.Network.Lines.length) (hb : 0 ≤ b.Line) (hb1 : b.Line < t.Network.Lines.length) :
  0 ≤ deadB t f a b ∧ deadB t f a b ≤ 120 := by
 have h1 := lastS_bd h ha ha1
 have h2 := firstS_bd h hb hb1
 unfold deadB
 generalize lastS t a = i at *
 generalize firstS t b = j at *
 have hi : i.toNat < f.Dead.length := by rw [hf.len]; omega
 obtain ⟨r1, r2⟩ := hf.row _ _ (List.getElem?_eq_getElem hi)
 have hj : j.toNat < f.Dead[i.toNat].length := by rw [r1]; omega
 have := r2 _ _ (List.getElem?_eq_getElem hj)
 simpa [List.getD, List.getElem?_eq_getElem hi, List.getElem?_eq_getElem hj] using this
/-- The indices of a block's trips behind those that were seen; none: it is no block. -/
def rowGo (t : Timetable) (f : Fleet) : List Int → Int → List Int → Option (List Int)
 | [], _, seen => some seen
 | id :: r, prev, seen =>
  if findI t id < 0 ∨ findI t id ∈ seen ∨ (0 ≤ prev ∧ canF t f (tripI t prev) (tripI t (findI t id)) = false) then none
  else rowGo t f r (findI t id) (seen ++ [findI t id])
/-- A block's first trip comes not behind the block before's. -/
def notUp : Option Int → Int → Bool
 | none, _ => false
 | some p, id => decide (id ≤ p)
def blkGo (t : Timetable) (f : Fleet) : List (List Int) → Option Int → List Int → Option (List Int)
 | [], _, seen => some seen
 | [] :: _, _, _ => none
 | (id :: b) :: r, prev, seen =>
  if notUp prev id = true then none
  else match rowGo t f (id :: b) (-1) seen with
   | none => none
   | some s => blkGo t f r (some id) s
def okBlk (t : Timetable) (f : Fleet) (blocks : List (List Int)) : Bool :=
 match blkGo t f blocks none [] with
 | none => false
 | some s => decide (s.length = t.Trips.length)
def okBlocks (t : Timetable) (f : Fleet) (blocks : List (List Int)) : Bool := okRun t f && okBlk t f blocks
/-- What is known of valid blocks. -/
structure BlkFacts (t : Timetable) (blocks : List (List Int)) : Prop where
 pos : ∀ (i : Nat) (b : List Int), blocks[i]? = some b → 0 < b.length
 found : ∀ (i : Nat) (b : List Int), blocks[i]? = some b → ∀ (j : Nat) (id : Int), b[j]? = some id → 0 ≤ findI t id
theorem rowGo_found {t : Timetable} {f : Fleet} {l : List Int} {prev : Int} {seen s : List Int} (h : rowGo t f l prev seen = some s) : (∀ (j : Nat) (id : Int), l[j]? = some id → 0 ≤ findI t id) ∧ s.length = seen.length + l.length := by
 induction l generalizing prev seen with
 | nil => simp [rowGo] at h; subst h; simp
 | cons x l ih =>
  simp only [rowGo] at h
  split at h
  ·cases h
  ·rename_i hn
   obtain ⟨h1, h2⟩ := ih h
   refine ⟨fun j id hj => ?_, by rw [h2]; simp; omega⟩
   cases j with
   | zero => simp at hj; subst hj; omega
   | succ j => exact h1 j id (by simpa using hj)
theorem blkGo_found {t : Timetable} {f : Fleet} {bs : List (List Int)} {prev : Option Int} {seen s : List Int} (h : blkGo t f bs prev seen = some s) : BlkFacts t bs := by
 induction bs generalizing prev seen with
 | nil => exact ⟨by simp, by simp⟩
 | cons b bs ih =>
  cases b with
  | nil => simp [blkGo] at h
  | cons id b =>
   simp only [blkGo] at h
   by_cases hc : notUp prev id = true
   ·rw [if_pos hc] at h; cases h
   ·rw [if_neg hc] at h
    cases hs : rowGo t f (id :: b) (-1) seen with
    | none => rw [hs] at h; cases h
    | some s' =>
     rw [hs] at h
     have h3 := ih h
     have h4 := (rowGo_found hs).1
     refine ⟨fun i c hc => ?_, fun i c hc => ?_⟩
     ·cases i with
      | zero => simp at hc; subst hc; simp
      | succ i => exact h3.pos i c (by simpa using hc)
     ·cases i with
      | zero => simp at hc; subst hc; exact h4
      | succ i => exact h3.found i c (by simpa using hc)
theorem blkFacts {t : Timetable} {f : Fleet} {bs : List (List Int)} (h : okBlk t f bs = true) : BlkFacts t bs := by
 unfold okBlk at h
 split at h
 ·cases h
 ·rename_i s hs
  exact blkGo_found hs
end Go.Proofs.YtknhebakebmlcaaGreat
namespace Go.Proofs.YtknhebakebmlcaaGreat
open Go Go.RowKit
set_option linter.unusedVariables false
set_option maxRecDepth 100000
/-- The call returned a line. -/
def RetLine (x : Line) (w0 w : World) (e : Ending) (w' : World) : Prop := ∃ A0 n0 c0 A1 n1 c1, e = .returned (.agg #[.string x.Name, .slice A0 n0 c0, .slice A1 n1 c1]) ∧ LineAt w0 A0 n0 c0 A1 n1 c1 x ∧ Later w w'
/-- The call returned a slice that was there, and reads as l. -/
def RetOld {α : Type} (sz : Nat) (r : Rep α) (l : List α) (w0 w : World) (e : Ending) (w' : World) : Prop := ∃ A n c, e = .returned (.slice A n c) ∧ Sl sz r w0 A n c l ∧ Later w w'
theorem shift {w0 wb : World} {p : Addr} {v : Option Value} (h : Later w0 wb) (hc : ∀ W [Later w0 W], W.cell? p = v) : ∀ W [Later wb W], W.cell? p = v := fun W hW => @hc W (h.trans hW)
theorem impl_total {w0 w : World} {A : Option Addr} {n c : Nat} {l : List Int} (h : Ints w0 A n c l) (hl : Later w0 w) (hb : ∀ x, x ∈ l → 0 ≤ x ∧ x ≤ 1000000) (hn : n ≤ 1048576) :
  Calls Tryz.prog 162 #[.slice A n c] w (Ret (.int .i64 (sumI l)) w) := by
 replace h := h.later hl
 have Hl := Lib.hid h.len
 have Hb := Lib.hid hb
 clear hb
 go_enter Tryz.func162, Tryz.ntmps162
 go_wp2
 go_loopw [3, 8] (fun s i wr => ∃ (k : Nat) (q : Int), k ≤ n ∧ i = .int .i64 k ∧ s = .int .i64 q ∧ 0 ≤ q ∧ q ≤ 1000000 * (k : Int) ∧ Hid (q + sumI (l.drop k) = sumI l) ∧ Later w wr) (fun _ i _ => n - (intOf i).toNat)
 case atStart => exact ⟨0, 0, by omega, rfl, rfl, by omega, by omega, by show _ = _; simp, inferInstance⟩
 case round =>
  obtain ⟨k, q, hk, rfl, rfl, hq0, hq1, HF, hX⟩ := hrel
  by_cases hlt : k < n
  ·obtain ⟨b, o, x, rfl, hx, hc, hi⟩ := Ints.at_ h hlt
   have HF2 : Hid (q + x + sumI (l.drop (k + 1)) = sumI l) := by
    have h3 := HF.out
    rw [drop_at hx.out] at h3
    simp only [sumI] at h3
    show _ = _; omega
   have hxb := Hb.out x (List.mem_of_getElem? hx.out)
   have hx0 := hxb.1
   have hx1 := hxb.2
   clear HF hxb
   go_wp2
   go_roundw
   case rel => exact ⟨k + 1, q + x, by omega, by go_num, rfl, by omega, by omega, HF2, inferInstance⟩
   case measure => simp [intOf]; omega
  ·have HF2 : Hid (q = sumI l) := by
    have h3 := HF.out
    rw [List.drop_eq_nil_of_le (by have := Hl.out; omega)] at h3
    exact (by simpa [sumI] using h3 : q = sumI l)
   clear HF
   go_wp2
   go_ret
   exact ⟨ret_int HF2.out, inferInstance⟩
theorem spec_l2Run {w0 w : World} {qA0 : Option Addr} {qn0 qc0 : Nat} {qA1 : Option Addr} {qn1 qc1 : Nat} {x : Line} (h : LineAt w0 qA0 qn0 qc0 qA1 qn1 qc1 x) (hl : Later w0 w) (hb : ∀ r, r ∈ x.Runs → 1 ≤ r ∧ r ≤ 60) (v : Int) (hv0 : 0 ≤ v) (hv1 : v ≤ x.Runs.length) (hn : qn1 ≤ 1048576) :
  Calls Tryz.prog 180 #[.agg #[.string x.Name, .slice qA0 qn0 qc0, .slice qA1 qn1 qc1], .int .i64 0, .int .i64 v] w (Ret (.int .i64 (runSum x v.toNat)) w) := by
 replace h := h.later hl
 have hR := h.l_Runs
 obtain ⟨m, rfl⟩ := Int.eq_ofNat_of_zero_le hv0
 rw [Int.toNat_natCast]
 have hm : m ≤ qn1 := by rw [hR.len]; omega
 have Hb := Lib.hid hb
 clear hb hv0 hv1
 have HB0 : ∀ W [Later (w.alloc (.cells #[.string x.Name, .slice qA0 qn0 qc0, .slice qA1 qn1 qc1] 120)) W] (j : Nat), W.cell? ⟨w.heap.size, j, none⟩ = #[.string x.Name, .slice qA0 qn0 qc0, .slice qA1 qn1 qc1][j]? := Later.boxes (t := 120) (fr := (0, 0)) (heap_new (by simp; try omega)); obtain ⟨wb, hwb⟩ : ∃ wb : World, wb = (w.alloc (.cells #[.string x.Name, .slice qA0 qn0 qc0, .slice qA1 qn1 qc1] 120)) := ⟨_, rfl⟩; haveI hbW : Later wb (w.alloc (.cells #[.string x.Name, .slice qA0 qn0 qc0, .slice qA1 qn1 qc1] 120)) := (by rw [hwb]; exact Later.rfl_); haveI hww : Later w wb := (by rw [hwb]; infer_instance); rw [← hwb] at HB0; have hbE := Lib.hid (congrArg (fun x : World => x.heap.size) hwb); clear hwb
 go_enter Tryz.func180, Tryz.ntmps180
 go_wp2
 go_loopw [7, 8] (fun s i wr => ∃ (k : Nat) (q : Int), k ≤ m ∧ i = .int .i64 k ∧ s = .int .i64 q ∧ 0 ≤ q ∧ q ≤ 60 * (k : Int) ∧ Hid (q = runSum x k) ∧ Later wb wr) (fun _ i _ => m - (intOf i).toNat)
 case atStart => exact ⟨0, 0, by omega, rfl, rfl, by omega, by omega, rfl, inferInstance⟩
 case round =>
  obtain ⟨k, q, hk, rfl, rfl, hq0, hq1, HF, hX⟩ := hrel
  have hU := Later.trans (w := w) inferInstance hX
  by_cases hlt : k < m
  ·obtain ⟨b, o, y, rfl, hy, hc, hi⟩ := Ints.at_ hR (show k < qn1 by omega)
   have HF2 : Hid (q + y = runSum x (k + 1)) := by show _ = _; rw [runSum_succ hy.out, HF.out]
   have hxb := Hb.out y (List.mem_of_getElem? hy.out)
   have hx0 := hxb.1
   have hx1 := hxb.2
   clear HF hxb
   go_wp2
   go_roundw
   case rel => exact ⟨k + 1, q + y, by omega, by go_num, rfl, by omega, by omega, HF2, inferInstance⟩
   case measure => simp [intOf]; omega
  ·obtain rfl : k = m := by omega
   go_wp2
   go_ret
   exact ⟨ret_int HF.out, inferInstance⟩
theorem impl_IsValidTime (v : Int) (w : World) : Calls Tryz.prog 161 #[.int .i64 v] w (RetS (.bool (okTime v)) w) := by
 go_enter Tryz.func161, Tryz.ntmps161
 go_wp2_with (go_at_call 94; refine (impl_within _ _ _ _).mono ?_; rintro e w' ⟨rfl, rfl⟩)
 go_ret
 exact ⟨rfl, rfl⟩
theorem spec_l4Time (v : Int) (w : World) : Calls Tryz.prog 125 #[.int .i64 v] w (RetS (.bool (okTime v)) w) := by
 go_enter Tryz.func125, Tryz.ntmps125
 go_wp2_with (go_at_call 87; refine (spec_l1In _ _ _ _).mono ?_; rintro e w' ⟨rfl, rfl⟩)
 go_ret
 exact ⟨rfl, rfl⟩
theorem impl_endOf {w0 w : World} {sA0 : Option Addr} {sn0 sc0 : Nat} {sA1 : Option Addr} {sn1 sc1 : Nat} {sA2 : Option Addr} {sn2 sc2 : Nat} {t : Timetable} (h : TimetableAt w0 sA0 sn0 sc0 sA1 sn1 sc1 sA2 sn2 sc2 t) (hl : Later w0 w) (nf : NetFacts t.Network) (x : Trip) (hx0 : 0 ≤ x.Line) (hx1 : x.Line < t.Network.Lines.length) (hs0 : 0 ≤ x.Start) (hs1 : x.Start ≤ 1799) :
  Calls Tryz.prog 136 #[.agg #[.slice sA0 sn0 sc0, .slice sA1 sn1 sc1, .slice sA2 sn2 sc2], .agg #[.int .i64 x.Id, .int .i64 x.Line, .int .i64 x.Start]] w (Ret (.int .i64 (endAt t x)) w) := by
 replace h := h.later hl
 have hP := h.l_Network_Lines
 obtain ⟨id, ln, st⟩ := x
 simp only at hx0 hx1 hs0 hs1 ⊢
 obtain ⟨m, rfl⟩ := Int.eq_ofNat_of_zero_le hx0
 have hm : m < sn1 := by rw [hP.len]; omega
 have hm5 : sn1 ≤ 9223372036854775807 := hP.le
 clear hx0 hx1
 have HB0 : ∀ W [Later ((w.alloc (.cells #[.slice sA0 sn0 sc0, .slice sA1 sn1 sc1, .slice sA2 sn2 sc2] 44)).alloc (.cells #[.int .i64 id, .int .i64 (m:Int), .int .i64 st] 82)) W] (j : Nat), W.cell? ⟨w.heap.size, j, none⟩ = #[.slice sA0 sn0 sc0, .slice sA1 sn1 sc1, .slice sA2 sn2 sc2][j]? := Later.boxes (t := 44) (fr := (0, 0)) ((heap_old (by simp; try omega)).trans (heap_new (by simp; try omega))); have HB1 : ∀ W [Later ((w.alloc (.cells #[.slice sA0 sn0 sc0, .slice sA1 sn1 sc1, .slice sA2 sn2 sc2] 44)).alloc (.cells #[.int .i64 id, .int .i64 (m:Int), .int .i64 st] 82)) W] (j : Nat), W.cell? ⟨w.heap.size + 1, j, none⟩ = #[.int .i64 id, .int .i64 (m:Int), .int .i64 st][j]? := Later.boxes (t := 82) (fr := (0, 0)) (heap_new (by simp; try omega)); obtain ⟨wb, hwb⟩ : ∃ wb : World, wb = ((w.alloc (.cells #[.slice sA0 sn0 sc0, .slice sA1 sn1 sc1, .slice sA2 sn2 sc2] 44)).alloc (.cells #[.int .i64 id, .int .i64 (m:Int), .int .i64 st] 82)) := ⟨_, rfl⟩; haveI hbW : Later wb ((w.alloc (.cells #[.slice sA0 sn0 sc0, .slice sA1 sn1 sc1, .slice sA2 sn2 sc2] 44)).alloc (.cells #[.int .i64 id, .int .i64 (m:Int), .int .i64 st] 82)) := (by rw [hwb]; exact Later.rfl_); haveI hww : Later w wb := (by rw [hwb]; infer_instance); rw [← hwb] at HB0; rw [← hwb] at HB1; have hbE := Lib.hid (congrArg (fun x : World => x.heap.size) hwb); clear hwb
 replace hP := hP.later hww
 obtain ⟨b, o, xA0, xn0, xc0, xA1, xn1, xc1, y, rfl, hy, hc0, hc1, hc2, hi⟩ := Lines.at_ hP hm
 have lf := nf.line m y hy.out
 have hsb := runSum_bd lf y.Runs.length
 rw [runSum_all (Nat.le_refl _)] at hsb
 have hR := hi.l_Runs
 have hRn : xn1 ≤ 1048576 := by rw [hR.len]; have := lf.runs; have := lf.stops; omega
 have HR := Lib.hid lf.run
 have HE : Hid (endAt t ⟨id, ↑m, st⟩ = st + sumI y.Runs) := by show _ = _; unfold endAt; rw [lineAtT_of hy.out]
 have h1 := hsb.1
 have h2 := hsb.2
 have hwr : IntKind.i64.wrap (st + sumI y.Runs) = st + sumI y.Runs := by rw [IntKind.wrap_i64]; omega
 clear hsb lf hi hy
 go_enter Tryz.func136, Tryz.ntmps136
 go_wp2_with fail
 go_region_held3 (fun w' => Later wb w') (exact inferInstance) ((go_at_call 162; refine (impl_total hR inferInstance (fun r hr => by have := HR.out r hr; omega) hRn).mono ?_; rintro e w1 ⟨rfl, L1⟩; have hX1 := Later.trans (w := wb) inferInstance L1))
 go_wp2
 go_ret
 exact ⟨ret_int HE.out.symm, hww.trans inferInstance⟩

theorem impl_lineOf {w0 w : World} {sA0 : Option Addr} {sn0 sc0 : Nat} {sA1 : Option Addr} {sn1 sc1 : Nat} {sA2 : Option Addr} {sn2 sc2 : Nat} {t : Timetable} (h : TimetableAt w0 sA0 sn0 sc0 sA1 sn1 sc1 sA2 sn2 sc2 t) (hl : Later w0 w) (x : Trip) (hx0 : 0 ≤ x.Line) (hx1 : x.Line < t.Network.Lines.length) :
  Calls Tryz.prog 187 #[.agg #[.slice sA0 sn0 sc0, .slice sA1 sn1 sc1, .slice sA2 sn2 sc2], .agg #[.int .i64 x.Id, .int .i64 x.Line, .int .i64 x.Start]] w (RetLine (lineAtT t x.Line) w0 w) := by
 have hP0 := h.l_Network_Lines
 obtain ⟨id, ln, st⟩ := x
 simp only at hx0 hx1 ⊢
 obtain ⟨m, rfl⟩ := Int.eq_ofNat_of_zero_le hx0
 have hm : m < sn1 := by rw [hP0.len]; omega
 have hm5 : sn1 ≤ 9223372036854775807 := hP0.le
 clear hx0 hx1
 have HB0 : ∀ W [Later ((w.alloc (.cells #[.slice sA0 sn0 sc0, .slice sA1 sn1 sc1, .slice sA2 sn2 sc2] 44)).alloc (.cells #[.int .i64 id, .int .i64 (m:Int), .int .i64 st] 82)) W] (j : Nat), W.cell? ⟨w.heap.size, j, none⟩ = #[.slice sA0 sn0 sc0, .slice sA1 sn1 sc1, .slice sA2 sn2 sc2][j]? := Later.boxes (t := 44) (fr := (0, 0)) ((heap_old (by simp; try omega)).trans (heap_new (by simp; try omega))); have HB1 : ∀ W [Later ((w.alloc (.cells #[.slice sA0 sn0 sc0, .slice sA1 sn1 sc1, .slice sA2 sn2 sc2] 44)).alloc (.cells #[.int .i64 id, .int .i64 (m:Int), .int .i64 st] 82)) W] (j : Nat), W.cell? ⟨w.heap.size + 1, j, none⟩ = #[.int .i64 id, .int .i64 (m:Int), .int .i64 st][j]? := Later.boxes (t := 82) (fr := (0, 0)) (heap_new (by simp; try omega)); obtain ⟨wb, hwb⟩ : ∃ wb : World, wb = ((w.alloc (.cells #[.slice sA0 sn0 sc0, .slice sA1 sn1 sc1, .slice sA2 sn2 sc2] 44)).alloc (.cells #[.int .i64 id, .int .i64 (m:Int), .int .i64 st] 82)) := ⟨_, rfl⟩; haveI hbW : Later wb ((w.alloc (.cells #[.slice sA0 sn0 sc0, .slice sA1 sn1 sc1, .slice sA2 sn2 sc2] 44)).alloc (.cells #[.int .i64 id, .int .i64 (m:Int), .int .i64 st] 82)) := (by rw [hwb]; exact Later.rfl_); haveI hww : Later w wb := (by rw [hwb]; infer_instance); rw [← hwb] at HB0; rw [← hwb] at HB1; have hbE := Lib.hid (congrArg (fun x : World => x.heap.size) hwb); clear hwb
 have hwb0 := hl.trans hww
 obtain ⟨b, o, xA0, xn0, xc0, xA1, xn1, xc1, y, rfl, hy, hc0, hc1, hc2, hi⟩ := Lines.at_ hP0 hm
 replace hc0 := shift hwb0 hc0
 replace hc1 := shift hwb0 hc1
 replace hc2 := shift hwb0 hc2
 rw [lineAtT_of hy.out]
 have hI := Lib.hid hi
 clear hi hy
 go_enter Tryz.func187, Tryz.ntmps187
 go_wp2
 refine bodyPost_ret (v := .agg #[.string y.Name, .slice xA0 xn0 xc0, .slice xA1 xn1 xc1]) (by simp [results, Tryz.results187, go_sem]) rfl ?_
 exact ⟨_, _, _, _, _, _, rfl, hI.out, hww.trans inferInstance⟩
end Go.Proofs.YtknhebakebmlcaaGreat
namespace Go.Proofs.YtknhebakebmlcaaGreat
open Go Go.RowKit
set_option linter.unusedVariables false
set_option maxRecDepth 100000
/-- A trip whose line is there. -/
structure TripIn (t : Timetable) (x : Trip) : Prop where
 line0 : 0 ≤ x.Line
 line1 : x.Line < t.Network.Lines.length
 start : 0 ≤ x.Start ∧ x.Start ≤ 1799
theorem TripFacts.in_ {t : Timetable} {x : Trip} (h : TripFacts t x) : TripIn t x := ⟨h.line0, h.line1, h.start⟩
theorem wp_gen {P : Program} {c : Code} {Q : Exit → Act → World → Prop} {a : Act} {w : World} (h : ∀ wq, wq = w → Code.wp P c Q a wq) : Code.wp P c Q a w := h w rfl
theorem field_Line1 (s : ByteArray) (x y : Value) (w : World) : (Instr.field 120 (.agg #[.string s, x, y]) 1).run Tryz.prog w = .ok x w := by kernel_rfl
theorem spec_l5Line {w0 w : World} {sA0 : Option Addr} {sn0 sc0 : Nat} {sA1 : Option Addr} {sn1 sc1 : Nat} {sA2 : Option Addr} {sn2 sc2 : Nat} {t : Timetable} (h : TimetableAt w0 sA0 sn0 sc0 sA1 sn1 sc1 sA2 sn2 sc2 t) (hl : Later w0 w) (i : Int) (i0 : 0 ≤ i) (i1 : i < t.Trips.length) (ti : TripIn t (tripI t i)) :
  Calls Tryz.prog 181 #[.agg #[.slice sA0 sn0 sc0, .slice sA1 sn1 sc1, .slice sA2 sn2 sc2], .int .i64 i] w (RetLine (lineI t i) w0 w) := by
 have hP0 := h.l_Network_Lines
 have hT0 := h.l_Trips
 obtain ⟨m, rfl⟩ := Int.eq_ofNat_of_zero_le i0
 have hm : m < sn2 := by rw [hT0.len]; omega
 have hm5 : sn2 ≤ 9223372036854775807 := hT0.le
 have hm6 : sn1 ≤ 9223372036854775807 := hP0.le
 clear i0 i1
 have HB0 : ∀ W [Later (w.alloc (.cells #[.slice sA0 sn0 sc0, .slice sA1 sn1 sc1, .slice sA2 sn2 sc2] 44)) W] (j : Nat), W.cell? ⟨w.heap.size, j, none⟩ = #[.slice sA0 sn0 sc0, .slice sA1 sn1 sc1, .slice sA2 sn2 sc2][j]? := Later.boxes (t := 44) (fr := (0, 0)) (heap_new (by simp; try omega)); obtain ⟨wb, hwb⟩ : ∃ wb : World, wb = (w.alloc (.cells #[.slice sA0 sn0 sc0, .slice sA1 sn1 sc1, .slice sA2 sn2 sc2] 44)) := ⟨_, rfl⟩; haveI hbW : Later wb (w.alloc (.cells #[.slice sA0 sn0 sc0, .slice sA1 sn1 sc1, .slice sA2 sn2 sc2] 44)) := (by rw [hwb]; exact Later.rfl_); haveI hww : Later w wb := (by rw [hwb]; infer_instance); rw [← hwb] at HB0; have hbE := Lib.hid (congrArg (fun x : World => x.heap.size) hwb); clear hwb
 have hwb0 := hl.trans hww
 obtain ⟨b, o, x, rfl, hx, hd0, hd1, hd2, hi⟩ := Trips.at_ hT0 hm
 have hxi := tripI_of hx.out
 unfold lineI
 rw [hxi] at ti ⊢
 obtain ⟨id, ln, st⟩ := x
 obtain ⟨t0, t1, t2⟩ := ti
 simp only at t0 t1 t2 hd0 hd1 hd2 ⊢
 obtain ⟨p, rfl⟩ := Int.eq_ofNat_of_zero_le t0
 have hp : p < sn1 := by rw [hP0.len]; omega
 obtain ⟨b', o', xA0, xn0, xc0, xA1, xn1, xc1, y, rfl, hy, hc0, hc1, hc2, hi'⟩ := Lines.at_ hP0 hp
 replace hc0 := shift hwb0 hc0
 replace hc1 := shift hwb0 hc1
 replace hc2 := shift hwb0 hc2
 replace hd1 := shift hwb0 hd1
 rw [lineAtT_of hy.out]
 have hI := Lib.hid hi'
 clear hi hi' hy hx hd0 hd2 t0 t1 t2 hxi
 go_enter Tryz.func181, Tryz.ntmps181
 go_wp2_with fail
 haveI hN : New wb (w.heap.size + 1) := ⟨by have := hbW.size; simpa using this⟩
 refine wp_gen fun wq hq => ?_
 have hbq : Later wb wq := by rw [hq]; infer_instance
 have hB : Blk wq (w.heap.size + 1) 120 #[.string ByteArray.empty, .slice none 0 0, .slice none 0 0] := by rw [hq]; exact heap_new (by simp)
 have hcr := fun j => hB.cell j
 have hfr := fun j => hB.frozen j
 clear hq
 go_still_tail 11, (by kernel_rfl)
 change wpList _ _ _ _ _ wq.drew
 go_wp2
 have HF := (((hB.set_ 0 (.string y.Name)).set_ 1 (.slice xA0 xn0 xc0)).set_ 2 (.slice xA1 xn1 xc1))
 have hr0 := (HF.cell 0).trans (show _ = some (.string y.Name : Value) from rfl)
 have hr1 := (HF.cell 1).trans (show _ = some (.slice xA0 xn0 xc0 : Value) from rfl)
 have hr2 := (HF.cell 2).trans (show _ = some (.slice xA1 xn1 xc1 : Value) from rfl)
 refine bodyPost_ret (v := .agg #[.string y.Name, .slice xA0 xn0 xc0, .slice xA1 xn1 xc1]) (by simp [results, Tryz.results181, go_sem, hr0, hr1, hr2]) rfl ?_
 exact ⟨_, _, _, _, _, _, rfl, hI.out, hww.trans inferInstance⟩
theorem spec_l5Stops {w0 w : World} {sA0 : Option Addr} {sn0 sc0 : Nat} {sA1 : Option Addr} {sn1 sc1 : Nat} {sA2 : Option Addr} {sn2 sc2 : Nat} {t : Timetable} (h : TimetableAt w0 sA0 sn0 sc0 sA1 sn1 sc1 sA2 sn2 sc2 t) (hl : Later w0 w) (i : Int) (i0 : 0 ≤ i) (i1 : i < t.Trips.length) (ti : TripIn t (tripI t i)) :
  Calls Tryz.prog 155 #[.agg #[.slice sA0 sn0 sc0, .slice sA1 sn1 sc1, .slice sA2 sn2 sc2], .int .i64 i] w (RetOld 1 rInt (lineI t i).Stops w0 w) := by
 have HB0 : ∀ W [Later (w.alloc (.cells #[.slice sA0 sn0 sc0, .slice sA1 sn1 sc1, .slice sA2 sn2 sc2] 44)) W] (j : Nat), W.cell? ⟨w.heap.size, j, none⟩ = #[.slice sA0 sn0 sc0, .slice sA1 sn1 sc1, .slice sA2 sn2 sc2][j]? := Later.boxes (t := 44) (fr := (0, 0)) (heap_new (by simp; try omega)); obtain ⟨wb, hwb⟩ : ∃ wb : World, wb = (w.alloc (.cells #[.slice sA0 sn0 sc0, .slice sA1 sn1 sc1, .slice sA2 sn2 sc2] 44)) := ⟨_, rfl⟩; haveI hbW : Later wb (w.alloc (.cells #[.slice sA0 sn0 sc0, .slice sA1 sn1 sc1, .slice sA2 sn2 sc2] 44)) := (by rw [hwb]; exact Later.rfl_); haveI hww : Later w wb := (by rw [hwb]; infer_instance); rw [← hwb] at HB0; have hbE := Lib.hid (congrArg (fun x : World => x.heap.size) hwb); clear hwb
 have hwb0 := hl.trans hww
 have hfl := field_Line1
 go_enter Tryz.func155, Tryz.ntmps155
 go_wp2_with (go_at_call 181; refine (spec_l5Line h (hwb0.trans inferInstance) _ i0 i1 ti).mono ?_; rintro e w1 ⟨A0, n0, c0, A1, n1, c1, rfl, hy, L1⟩; have X1 := Later.trans (w := wb) inferInstance L1)
 go_ret
 exact ⟨_, _, _, rfl, hy.l_Stops, hww.trans X1⟩
theorem spec_l5At {w0 w : World} {sA0 : Option Addr} {sn0 sc0 : Nat} {sA1 : Option Addr} {sn1 sc1 : Nat} {sA2 : Option Addr} {sn2 sc2 : Nat} {t : Timetable} (h : TimetableAt w0 sA0 sn0 sc0 sA1 sn1 sc1 sA2 sn2 sc2 t) (hl : Later w0 w) (nf : NetFacts t.Network) (i : Int) (i0 : 0 ≤ i) (i1 : i < t.Trips.length) (ti : TripIn t (tripI t i)) (k : Int) (k0 : 0 ≤ k) (k1 : k ≤ (lineI t i).Runs.length) :
  Calls Tryz.prog 154 #[.agg #[.slice sA0 sn0 sc0, .slice sA1 sn1 sc1, .slice sA2 sn2 sc2], .int .i64 i, .int .i64 k] w (Ret (.int .i64 (timeI t i k)) w) := by
 have hT0 := h.l_Trips
 have lf := lineAtT_facts nf ti.line0 ti.line1
 have H := Lib.hid h
 have hm5 : sn2 ≤ 9223372036854775807 := hT0.le
 have HB0 : ∀ W [Later (w.alloc (.cells #[.slice sA0 sn0 sc0, .slice sA1 sn1 sc1, .slice sA2 sn2 sc2] 44)) W] (j : Nat), W.cell? ⟨w.heap.size, j, none⟩ = #[.slice sA0 sn0 sc0, .slice sA1 sn1 sc1, .slice sA2 sn2 sc2][j]? := Later.boxes (t := 44) (fr := (0, 0)) (heap_new (by simp; try omega)); obtain ⟨wb, hwb⟩ : ∃ wb : World, wb = (w.alloc (.cells #[.slice sA0 sn0 sc0, .slice sA1 sn1 sc1, .slice sA2 sn2 sc2] 44)) := ⟨_, rfl⟩; haveI hbW : Later wb (w.alloc (.cells #[.slice sA0 sn0 sc0, .slice sA1 sn1 sc1, .slice sA2 sn2 sc2] 44)) := (by rw [hwb]; exact Later.rfl_); haveI hww : Later w wb := (by rw [hwb]; infer_instance); rw [← hwb] at HB0; have hbE := Lib.hid (congrArg (fun x : World => x.heap.size) hwb); clear hwb
 have hwb0 := hl.trans hww
 obtain ⟨m, rfl⟩ := Int.eq_ofNat_of_zero_le i0
 have hm : m < sn2 := by rw [hT0.len]; omega
 obtain ⟨b, o, x, rfl, hx, hd0, hd1, hd2, hi⟩ := Trips.at_ hT0 hm
 replace hd2 := shift hwb0 hd2
 have hxi := tripI_of hx.out
 have HE : Hid (timeI t m k = x.Start + runSum (lineI t m) k.toNat) := by show _ = _; unfold timeI timeAt lineI; rw [hxi]
 have hst := ti.start
 rw [hxi] at hst
 have hs0 := hst.1
 have hs1 := hst.2
 have hrb := runSum_bd (x := lineI t m) lf k.toNat
 have hr0 := hrb.1
 have hr1 := hrb.2
 have hwr : IntKind.i64.wrap (x.Start + runSum (lineI t m) k.toNat) = x.Start + runSum (lineI t m) k.toNat := by rw [IntKind.wrap_i64]; omega
 have HR : Hid (∀ r, r ∈ (lineI t m).Runs → 1 ≤ r ∧ r ≤ 60) := lf.run
 have HL : Hid ((lineI t m).Runs.length ≤ 5) := by have := lf.runs; have := lf.stops; show (lineAtT t (tripI t m).Line).Runs.length ≤ 5; omega
 clear hx hd0 hd1 hi hxi hrb hst lf h
 go_enter Tryz.func154, Tryz.ntmps154
 go_wp2_with fail
 go_region_held3 (fun w' => Later wb w') (exact inferInstance) (first
  | (go_at_call 181; refine (spec_l5Line H.out (hwb0.trans inferInstance) _ i0 i1 ti).mono ?_; rintro e w1 ⟨A0, n0, c0, A1, n1, c1, rfl, hy, L1⟩; have X1 := Later.trans (w := wb) inferInstance L1; have HY := Lib.hid hy; clear hy)
  | (go_at_call 180; refine (spec_l2Run HY.out (hwb0.trans inferInstance) HR.out _ k0 k1 (by have := HY.out.l_Runs.len; have := HL.out; omega)).mono ?_; rintro e w2 ⟨rfl, L2⟩; have X2 := Later.trans (w := wb) inferInstance L2))
 go_wp2
 go_ret
 exact ⟨ret_int HE.out.symm, hww.trans inferInstance⟩
theorem spec_l5End {w0 w : World} {sA0 : Option Addr} {sn0 sc0 : Nat} {sA1 : Option Addr} {sn1 sc1 : Nat} {sA2 : Option Addr} {sn2 sc2 : Nat} {t : Timetable} (h : TimetableAt w0 sA0 sn0 sc0 sA1 sn1 sc1 sA2 sn2 sc2 t) (hl : Later w0 w) (nf : NetFacts t.Network) (i : Int) (i0 : 0 ≤ i) (i1 : i < t.Trips.length) (ti : TripIn t (tripI t i)) :
  Calls Tryz.prog 126 #[.agg #[.slice sA0 sn0 sc0, .slice sA1 sn1 sc1, .slice sA2 sn2 sc2], .int .i64 i] w (Ret (.int .i64 (endAt t (tripI t i))) w) := by
 have lf := lineAtT_facts nf ti.line0 ti.line1
 have H := Lib.hid h
 have NF := Lib.hid nf
 have HL : Hid ((lineI t i).Runs.length + 1 = (lineI t i).Stops.length ∧ (lineI t i).Stops.length ≤ 6) := ⟨lf.runs, lf.stops.2⟩
 have HB0 : ∀ W [Later (w.alloc (.cells #[.slice sA0 sn0 sc0, .slice sA1 sn1 sc1, .slice sA2 sn2 sc2] 44)) W] (j : Nat), W.cell? ⟨w.heap.size, j, none⟩ = #[.slice sA0 sn0 sc0, .slice sA1 sn1 sc1, .slice sA2 sn2 sc2][j]? := Later.boxes (t := 44) (fr := (0, 0)) (heap_new (by simp; try omega)); obtain ⟨wb, hwb⟩ : ∃ wb : World, wb = (w.alloc (.cells #[.slice sA0 sn0 sc0, .slice sA1 sn1 sc1, .slice sA2 sn2 sc2] 44)) := ⟨_, rfl⟩; haveI hbW : Later wb (w.alloc (.cells #[.slice sA0 sn0 sc0, .slice sA1 sn1 sc1, .slice sA2 sn2 sc2] 44)) := (by rw [hwb]; exact Later.rfl_); haveI hww : Later w wb := (by rw [hwb]; infer_instance); rw [← hwb] at HB0; have hbE := Lib.hid (congrArg (fun x : World => x.heap.size) hwb); clear hwb
 have hwb0 := hl.trans hww
 clear h lf nf
 go_enter Tryz.func126, Tryz.ntmps126
 go_wp2_with fail
 go_region_held3 (fun w' => Later wb w') (exact inferInstance) (first
  | (go_at_call 155; refine (spec_l5Stops H.out (hwb0.trans inferInstance) _ i0 i1 ti).mono ?_; rintro e w1 ⟨A0, n0, c0, rfl, hy, L1⟩; have X1 := Later.trans (w := wb) inferInstance L1; have HN : Hid ((n0 : Int) = (lineI t i).Stops.length) := (by show _ = _; rw [hy.len]); have hwr : IntKind.i64.wrap ((n0 : Int) - 1) = (n0 : Int) - 1 := (by rw [IntKind.wrap_i64]; have := HN.out; have := HL.out.2; omega); clear hy)
  | (go_at_call 154; refine (spec_l5At H.out (hwb0.trans inferInstance) NF.out _ i0 i1 ti _ (by have := HN.out; have := HL.out.1; omega) (by have := HN.out; have := HL.out.1; omega)).mono ?_; rintro e w2 ⟨rfl, L2⟩; have X2 := Later.trans (w := wb) inferInstance L2))
 go_wp2
 go_ret
 exact ⟨ret_int (by unfold timeI; exact endAt_eq (by have := HN.out; have := HL.out.1; unfold lineI at *; omega)), hww.trans inferInstance⟩
theorem impl_tripIndex1 {w0 w : World} (x : Trip) (p : Addr) (v : Int) (hc : ∀ W [Later w0 W], W.cell? p = some (.int .i64 v)) (hl : Later w0 w) :
  Calls Tryz.prog 54 #[.agg #[.int .i64 x.Id, .int .i64 x.Line, .int .i64 x.Start], .pointer (some p)] w (Ret (.bool (idIs v x)) w) := by
 have HB0 : ∀ W [Later (w.alloc (.cells #[.int .i64 x.Id, .int .i64 x.Line, .int .i64 x.Start] 82)) W] (j : Nat), W.cell? ⟨w.heap.size, j, none⟩ = #[.int .i64 x.Id, .int .i64 x.Line, .int .i64 x.Start][j]? := Later.boxes (t := 82) (fr := (0, 0)) (heap_new (by simp; try omega)); obtain ⟨wb, hwb⟩ : ∃ wb : World, wb = (w.alloc (.cells #[.int .i64 x.Id, .int .i64 x.Line, .int .i64 x.Start] 82)) := ⟨_, rfl⟩; haveI hbW : Later wb (w.alloc (.cells #[.int .i64 x.Id, .int .i64 x.Line, .int .i64 x.Start] 82)) := (by rw [hwb]; exact Later.rfl_); haveI hww : Later w wb := (by rw [hwb]; infer_instance); rw [← hwb] at HB0; have hbE := Lib.hid (congrArg (fun x : World => x.heap.size) hwb); clear hwb
 replace hc := shift (hl.trans hww) hc
 by_cases hv : x.Id = v
 ·have e1 := (beqi_t hv).1
  have HN : Hid (idIs v x = true) := by show _ = _; simp [idIs, hv]
  clear hv
  go_enter Tryz.func54, Tryz.ntmps54
  go_wp2
  go_ret
  exact ⟨ret_bool HN.out.symm, hww.trans inferInstance⟩
 ·have e1 := (beqi_f hv).1
  have HN : Hid (idIs v x = false) := by show _ = _; simp [idIs, hv]
  clear hv
  go_enter Tryz.func54, Tryz.ntmps54
  go_wp2
  go_ret
  exact ⟨ret_bool HN.out.symm, hww.trans inferInstance⟩
theorem slices_IndexTrip {w0 w : World} {A : Option Addr} {n c : Nat} {l : List Trip} (h : Trips w0 A n c l) (hl : Later w0 w) (p : Addr) (v : Int) (hp : ∀ W [Later w0 W], W.cell? p = some (.int .i64 v)) :
  Calls Tryz.prog 53 #[.slice A n c, .func (.func 54) #[] #[.pointer (some p)]] w (Ret (.int .i64 (idx (idIs v) l)) w) := by
 have hn := h.le
 have Hl := Lib.hid h.len
 have HP : Hid (∀ W [Later w0 W], W.cell? p = some (.int .i64 v)) := hp
 clear hp
 go_enter Tryz.func53, Tryz.ntmps53
 go_wp2
 go_loopw [8] (fun i wr => ∃ k : Nat, k ≤ n ∧ i = .int .i64 k ∧ Hid (idxGo (idIs v) (l.drop k) k = idx (idIs v) l) ∧ Later w wr) (fun i _ => n - (intOf i).toNat)
 case atStart => exact ⟨0, by omega, rfl, rfl, inferInstance⟩
 case round =>
  obtain ⟨k, hk, rfl, HF, hX⟩ := hrel
  have hX0 := hl.trans hX
  by_cases hlt : k < n
  ·obtain ⟨b, o, x, rfl, hx, hc0, hc1, hc2, hi⟩ := Trips.at_ h hlt
   have HF1 := HF.out
   rw [drop_at hx.out] at HF1
   simp only [idxGo] at HF1
   clear HF
   by_cases hxy : idIs v x = true
   ·rw [if_pos hxy] at HF1
    have HF2 := Lib.hid HF1
    clear HF1
    go_wp2_with ((refine (impl_tripIndex1 x p v HP.out hX0).mono ?_); rintro e w1 ⟨rfl, L1⟩; have X1 := hX.trans L1)
    go_ret
    exact ⟨ret_int HF2.out, inferInstance⟩
   ·rw [if_neg hxy] at HF1
    have HF2 := Lib.hid HF1
    have hxz : idIs v x = false := by simpa using hxy
    clear HF1 hxy
    go_wp2_with ((refine (impl_tripIndex1 x p v HP.out hX0).mono ?_); rintro e w1 ⟨rfl, L1⟩; have X1 := hX.trans L1)
    go_roundw
    case rel => exact ⟨k + 1, by omega, by go_num, HF2, inferInstance⟩
    case measure => simp [intOf]; omega
  ·have HF2 : Hid (-1 = idx (idIs v) l) := by
    have h3 := HF.out
    rw [List.drop_eq_nil_of_le (by have := Hl.out; omega)] at h3
    exact h3
   clear HF
   go_wp2
   go_ret
   exact ⟨ret_int HF2.out, inferInstance⟩
theorem impl_tripIndex {w0 w : World} {sA0 : Option Addr} {sn0 sc0 : Nat} {sA1 : Option Addr} {sn1 sc1 : Nat} {sA2 : Option Addr} {sn2 sc2 : Nat} {t : Timetable} (h : TimetableAt w0 sA0 sn0 sc0 sA1 sn1 sc1 sA2 sn2 sc2 t) (hl : Later w0 w) (v : Int) :
  Calls Tryz.prog 33 #[.agg #[.slice sA0 sn0 sc0, .slice sA1 sn1 sc1, .slice sA2 sn2 sc2], .int .i64 v] w (Ret (.int .i64 (findI t v)) w) := by
 obtain ⟨wb, hwb⟩ : ∃ wb : World, wb = (w.alloc (.cells #[.slice sA0 sn0 sc0, .slice sA1 sn1 sc1, .slice sA2 sn2 sc2] 44)).alloc (.cells #[.int .i64 v] 3) := ⟨_, rfl⟩
 have HB0 : ∀ W [Later wb W] (j : Nat), W.cell? ⟨w.heap.size, j, none⟩ = #[.slice sA0 sn0 sc0, .slice sA1 sn1 sc1, .slice sA2 sn2 sc2][j]? := by rw [hwb]; exact Later.boxes (t := 44) (fr := (0, 0)) ((heap_old (by simp)).trans (heap_new (by simp)))
 have HB1 : ∀ W [Later wb W], W.cell? ⟨w.heap.size + 1, 0, none⟩ = some (.int .i64 v) := by rw [hwb]; exact fun W hW => @Later.boxes _ _ _ 3 (fr := (0, 0)) (heap_new (by simp)) W hW 0
 have hww : Later w wb := by rw [hwb]; infer_instance
 have hT := (h.l_Trips.later hl).later hww
 have hT' := Lib.hid hT
 have HB1' := Lib.hid HB1
 go_enter Tryz.func33, Tryz.ntmps33
 go_wp2_with (rw [← hwb]; go_at_call 53; refine (slices_IndexTrip hT'.out inferInstance _ v HB1'.out).mono ?_; rintro e w1 ⟨rfl, L1⟩)
 go_ret
 exact ⟨rfl, hww.trans inferInstance⟩
theorem spec_l5Find {w0 w : World} {sA0 : Option Addr} {sn0 sc0 : Nat} {sA1 : Option Addr} {sn1 sc1 : Nat} {sA2 : Option Addr} {sn2 sc2 : Nat} {t : Timetable} (h : TimetableAt w0 sA0 sn0 sc0 sA1 sn1 sc1 sA2 sn2 sc2 t) (hl : Later w0 w) (v : Int) :
  Calls Tryz.prog 28 #[.agg #[.slice sA0 sn0 sc0, .slice sA1 sn1 sc1, .slice sA2 sn2 sc2], .int .i64 v] w (Ret (.int .i64 (findI t v)) w) := by
 replace h := h.later hl
 have hS := h.l_Trips
 have hn := hS.le
 have Hl := Lib.hid hS.len
 unfold findI
 have HB0 : ∀ W [Later (w.alloc (.cells #[.slice sA0 sn0 sc0, .slice sA1 sn1 sc1, .slice sA2 sn2 sc2] 44)) W] (j : Nat), W.cell? ⟨w.heap.size, j, none⟩ = #[.slice sA0 sn0 sc0, .slice sA1 sn1 sc1, .slice sA2 sn2 sc2][j]? := Later.boxes (t := 44) (fr := (0, 0)) (heap_new (by simp; try omega))
 go_enter Tryz.func28, Tryz.ntmps28
 go_wp2
 go_loopw [5] (fun i wr => ∃ k : Nat, k ≤ sn2 ∧ i = .int .i64 k ∧ Hid (idxGo (idIs v) (t.Trips.drop k) k = idx (idIs v) t.Trips) ∧ Later (w.alloc (.cells #[.slice sA0 sn0 sc0, .slice sA1 sn1 sc1, .slice sA2 sn2 sc2] 44)) wr) (fun i _ => sn2 - (intOf i).toNat)
 case atStart => exact ⟨0, by omega, rfl, rfl, inferInstance⟩
 case round =>
  obtain ⟨k, hk, rfl, HF, hX⟩ := hrel
  have hXw := Later.trans (w := w) inferInstance hX
  by_cases hlt : k < sn2
  ·obtain ⟨b, o, x, rfl, hx, hc0, hc1, hc2, hi⟩ := Trips.at_ hS hlt
   have HF1 := HF.out
   rw [drop_at hx.out] at HF1
   simp only [idxGo] at HF1
   clear HF
   by_cases hxy : x.Id = v
   ·rw [if_pos (by (first | simpa [nameIs, intIs] using hxy | simpa [idIs] using hxy))] at HF1
    have HF2 := Lib.hid HF1
    clear HF1
    obtain ⟨e1, e2⟩ := beqi_t hxy
    clear hxy
    go_wp2
    go_ret
    exact ⟨ret_int HF2.out, inferInstance⟩
   ·rw [if_neg (by (first | simpa [nameIs, intIs] using hxy | simpa [idIs] using hxy))] at HF1
    have HF2 := Lib.hid HF1
    clear HF1
    obtain ⟨e1, e2⟩ := beqi_f hxy
    clear hxy
    go_wp2
    go_roundw
    case rel => exact ⟨k + 1, by omega, by go_num, HF2, inferInstance⟩
    case measure => simp [intOf]; omega
  ·have HF2 : Hid (-1 = idx (idIs v) t.Trips) := by
    have h3 := HF.out
    rw [List.drop_eq_nil_of_le (by have := Hl.out; omega)] at h3
    exact h3
   clear HF
   go_wp2
   go_ret
   exact ⟨ret_int HF2.out, inferInstance⟩
end Go.Proofs.YtknhebakebmlcaaGreat
namespace Go.Proofs.YtknhebakebmlcaaGreat
open Go Go.RowKit
set_option linter.unusedVariables false
set_option maxRecDepth 100000
theorem tripOk_no1 {t : Timetable} {last : Int} {x : Trip} (h : ¬ (last < x.Id ∧ x.Id ≤ 999)) : tripOk t last x = false := by unfold tripOk; rw [decide_eq_false h]; rfl
theorem tripOk_no2 {t : Timetable} {last : Int} {x : Trip} (h : inB x.Line 0 ((t.Network.Lines.length : Int) - 1) = false) : tripOk t last x = false := by unfold tripOk; rw [h]; simp
theorem tripOk_no3 {t : Timetable} {last : Int} {x : Trip} (h : okTime x.Start = false) : tripOk t last x = false := by unfold tripOk; rw [h]; simp
theorem tripOk_no4 {t : Timetable} {last : Int} {x : Trip} (h : okTime (endAt t x) = false) : tripOk t last x = false := by unfold tripOk; rw [h]; simp
theorem tripOk_yes {t : Timetable} {last : Int} {x : Trip} (h0 : last < x.Id ∧ x.Id ≤ 999) (h1 : inB x.Line 0 ((t.Network.Lines.length : Int) - 1) = true) (h2 : okTime x.Start = true) (h3 : okTime (endAt t x) = true) : tripOk t last x = true := by
 unfold tripOk; rw [decide_eq_true h0, h1, h2, h3]; rfl
def areTrips (t : Timetable) : Bool := decide (t.Trips.length ≤ 12) && tripsGo t t.Trips 0
set_option maxHeartbeats 1000000 in
theorem impl_areTrips {w0 w : World} {sA0 : Option Addr} {sn0 sc0 : Nat} {sA1 : Option Addr} {sn1 sc1 : Nat} {sA2 : Option Addr} {sn2 sc2 : Nat} {t : Timetable} (h : TimetableAt w0 sA0 sn0 sc0 sA1 sn1 sc1 sA2 sn2 sc2 t) (hl : Later w0 w) (nf : NetFacts t.Network) :
  Calls Tryz.prog 135 #[.agg #[.slice sA0 sn0 sc0, .slice sA1 sn1 sc1, .slice sA2 sn2 sc2]] w (Ret (.bool (areTrips t)) w) := by
 replace h := h.later hl
 have hT := h.l_Trips
 have hn := hT.le
 have Hl := Lib.hid hT.len
 have NF := Lib.hid nf
 clear nf
 by_cases b1 : 12 < sn2
 ·have HN : Hid (areTrips t = false) := by show _ = _; unfold areTrips; rw [decide_eq_false (by rw [← Hl.out]; omega)]; rfl
  have HB0 : ∀ W [Later (w.alloc (.cells #[.slice sA0 sn0 sc0, .slice sA1 sn1 sc1, .slice sA2 sn2 sc2] 44)) W] (j : Nat), W.cell? ⟨w.heap.size, j, none⟩ = #[.slice sA0 sn0 sc0, .slice sA1 sn1 sc1, .slice sA2 sn2 sc2][j]? := Later.boxes (t := 44) (fr := (0, 0)) (heap_new (by simp; try omega)); obtain ⟨wb, hwb⟩ : ∃ wb : World, wb = (w.alloc (.cells #[.slice sA0 sn0 sc0, .slice sA1 sn1 sc1, .slice sA2 sn2 sc2] 44)) := ⟨_, rfl⟩; haveI hbW : Later wb (w.alloc (.cells #[.slice sA0 sn0 sc0, .slice sA1 sn1 sc1, .slice sA2 sn2 sc2] 44)) := (by rw [hwb]; exact Later.rfl_); haveI hww : Later w wb := (by rw [hwb]; infer_instance); rw [← hwb] at HB0; have hbE := Lib.hid (congrArg (fun x : World => x.heap.size) hwb); clear hwb
  go_enter Tryz.func135, Tryz.ntmps135
  go_wp2
  go_ret
  exact ⟨ret_bool HN.out.symm, hww.trans inferInstance⟩
 have B1 : Hid (t.Trips.length ≤ 12) := by show _ ≤ _; rw [← Hl.out]; omega
 have HB0 : ∀ W [Later (w.alloc (.cells #[.slice sA0 sn0 sc0, .slice sA1 sn1 sc1, .slice sA2 sn2 sc2] 44)) W] (j : Nat), W.cell? ⟨w.heap.size, j, none⟩ = #[.slice sA0 sn0 sc0, .slice sA1 sn1 sc1, .slice sA2 sn2 sc2][j]? := Later.boxes (t := 44) (fr := (0, 0)) (heap_new (by simp; try omega)); obtain ⟨wb, hwb⟩ : ∃ wb : World, wb = (w.alloc (.cells #[.slice sA0 sn0 sc0, .slice sA1 sn1 sc1, .slice sA2 sn2 sc2] 44)) := ⟨_, rfl⟩; haveI hbW : Later wb (w.alloc (.cells #[.slice sA0 sn0 sc0, .slice sA1 sn1 sc1, .slice sA2 sn2 sc2] 44)) := (by rw [hwb]; exact Later.rfl_); haveI hww : Later w wb := (by rw [hwb]; infer_instance); rw [← hwb] at HB0; have hbE := Lib.hid (congrArg (fun x : World => x.heap.size) hwb); clear hwb
 replace h := h.later hww
 replace hT := hT.later hww
 have H := Lib.hid h
 clear h
 go_enter Tryz.func135, Tryz.ntmps135
 go_wp2
 go_loopw [3, 13] (fun la i wr => ∃ (k : Nat) (last : Int), k ≤ sn2 ∧ i = .int .i64 k ∧ la = .int .i64 last ∧ Hid (tripsGo t (t.Trips.drop k) last = tripsGo t t.Trips 0) ∧ Later wb wr) (fun _ i _ => sn2 - (intOf i).toNat)
 case atStart => exact ⟨0, 0, by omega, rfl, rfl, rfl, inferInstance⟩
 case round =>
  obtain ⟨k, last, hk, rfl, rfl, HF, hX⟩ := hrel
  have hU := Later.trans (w := w) inferInstance hX
  by_cases hlt : k < sn2
  ·obtain ⟨b, o, x, rfl, hx, hc0, hc1, hc2, hi⟩ := Trips.at_ hT hlt
   have HF1 : Hid (tripsGo t t.Trips 0 = (tripOk t last x && tripsGo t (t.Trips.drop (k + 1)) x.Id)) := by rw [← HF.out, drop_at hx.out]; rfl
   clear HF hi hx
   have HBX : ∀ W [Later (wr.alloc (.cells #[.int .i64 x.Id, .int .i64 x.Line, .int .i64 x.Start] 82)) W] (j : Nat), W.cell? ⟨wr.heap.size, j, none⟩ = #[.int .i64 x.Id, .int .i64 x.Line, .int .i64 x.Start][j]? := Later.boxes (t := 82) (fr := (0, 0)) (heap_new (by simp; try omega)); obtain ⟨wx, hwx⟩ : ∃ wx : World, wx = (wr.alloc (.cells #[.int .i64 x.Id, .int .i64 x.Line, .int .i64 x.Start] 82)) := ⟨_, rfl⟩; haveI hxW : Later wx (wr.alloc (.cells #[.int .i64 x.Id, .int .i64 x.Line, .int .i64 x.Start] 82)) := (by rw [hwx]; exact Later.rfl_); haveI hbx : Later wb wx := (by rw [hwx]; infer_instance); rw [← hwx] at HBX; clear hwx
   by_cases c0 : last < x.Id
   rotate_left
   ·have c0' : x.Id ≤ last := by omega
    have HL := tripOk_no1 (t := t) (last := last) (x := x) (by omega)
    clear c0
    have HF2 : Hid (areTrips t = false) := by show _ = _; unfold areTrips; rw [HF1.out, HL]; simp
    clear HF1 HL
    go_wp2
    go_ret
    exact ⟨ret_bool HF2.out.symm, hww.trans inferInstance⟩
   by_cases c1 : x.Id ≤ 999
   rotate_left
   ·have c1' : 999 < x.Id := by omega
    have HL := tripOk_no1 (t := t) (last := last) (x := x) (by omega)
    clear c1
    have HF2 : Hid (areTrips t = false) := by show _ = _; unfold areTrips; rw [HF1.out, HL]; simp
    clear HF1 HL
    go_wp2
    go_ret
    exact ⟨ret_bool HF2.out.symm, hww.trans inferInstance⟩
   by_cases c2 : inB x.Line 0 ((t.Network.Lines.length : Int) - 1) = true
   rotate_left
   ·have c2' : inB x.Line 0 ((t.Network.Lines.length : Int) - 1) = false := by simpa using c2
    clear c2
    have HL := tripOk_no2 (last := last) c2'
    have HF2 : Hid (areTrips t = false) := by show _ = _; unfold areTrips; rw [HF1.out, HL]; simp
    clear HF1 HL
    go_wp2_with (go_at_call 160; refine (impl_isLine (r := t.Network) ⟨H.out.l_Network_Stops, H.out.l_Network_Lines⟩ inferInstance _).mono ?_; rintro e w1 ⟨rfl, L1⟩; have Z1 := Later.trans (w := wx) inferInstance L1; have X1 := Later.trans (w := wb) inferInstance L1)
    go_ret
    exact ⟨ret_bool HF2.out.symm, hww.trans inferInstance⟩
   have hln : Hid (0 ≤ x.Line ∧ x.Line < t.Network.Lines.length) := by have := inB_t.1 c2; exact ⟨by omega, by omega⟩
   by_cases c3 : okTime x.Start = true
   rotate_left
   ·have c3' : okTime x.Start = false := by simpa using c3
    clear c3
    have HL := tripOk_no3 (t := t) (last := last) c3'
    have HF2 : Hid (areTrips t = false) := by show _ = _; unfold areTrips; rw [HF1.out, HL]; simp
    clear HF1 HL
    go_wp2_with first
     | (go_at_call 160; refine (impl_isLine (r := t.Network) ⟨H.out.l_Network_Stops, H.out.l_Network_Lines⟩ inferInstance _).mono ?_; rintro e w1 ⟨rfl, L1⟩; have Z1 := Later.trans (w := wx) inferInstance L1; have X1 := Later.trans (w := wb) inferInstance L1)
     | (go_at_call 161; refine (impl_IsValidTime _ _).mono ?_; rintro e w' ⟨rfl, rfl⟩)
    go_ret
    exact ⟨ret_bool HF2.out.symm, hww.trans inferInstance⟩
   have hst : Hid (0 ≤ x.Start ∧ x.Start ≤ 1799) := by have := inB_t.1 c3; exact this
   by_cases c4 : okTime (endAt t x) = true
   rotate_left
   ·have c4' : okTime (endAt t x) = false := by simpa using c4
    clear c4
    have HL := tripOk_no4 (t := t) (last := last) c4'
    have HF2 : Hid (areTrips t = false) := by show _ = _; unfold areTrips; rw [HF1.out, HL]; simp
    clear HF1 HL
    go_wp2_with first
     | (go_at_call 160; refine (impl_isLine (r := t.Network) ⟨H.out.l_Network_Stops, H.out.l_Network_Lines⟩ inferInstance _).mono ?_; rintro e w1 ⟨rfl, L1⟩; have Z1 := Later.trans (w := wx) inferInstance L1; have X1 := Later.trans (w := wb) inferInstance L1)
     | (go_at_call 161; refine (impl_IsValidTime _ _).mono ?_; rintro e w' ⟨rfl, rfl⟩)
     | (go_at_call 136; refine (impl_endOf H.out inferInstance NF.out x hln.out.1 hln.out.2 hst.out.1 hst.out.2).mono ?_; rintro e w2 ⟨rfl, L2⟩; have Z2 := Later.trans (w := wx) inferInstance L2; have X2 := Later.trans (w := wb) inferInstance L2)
    go_ret
    exact ⟨ret_bool HF2.out.symm, hww.trans inferInstance⟩
   have HL := tripOk_yes ⟨c0, c1⟩ c2 c3 c4
   have HF2 : Hid (tripsGo t (t.Trips.drop (k + 1)) x.Id = tripsGo t t.Trips 0) := by rw [HF1.out, HL]; rfl
   clear HF1 HL
   go_wp2_with first
    | (go_at_call 160; refine (impl_isLine (r := t.Network) ⟨H.out.l_Network_Stops, H.out.l_Network_Lines⟩ inferInstance _).mono ?_; rintro e w1 ⟨rfl, L1⟩; have Z1 := Later.trans (w := wx) inferInstance L1; have X1 := Later.trans (w := wb) inferInstance L1)
    | (go_at_call 161; refine (impl_IsValidTime _ _).mono ?_; rintro e w' ⟨rfl, rfl⟩)
    | (go_at_call 136; refine (impl_endOf H.out inferInstance NF.out x hln.out.1 hln.out.2 hst.out.1 hst.out.2).mono ?_; rintro e w2 ⟨rfl, L2⟩; have Z2 := Later.trans (w := wx) inferInstance L2; have X2 := Later.trans (w := wb) inferInstance L2)
   go_roundw
   case rel => exact ⟨k + 1, x.Id, by omega, by go_num, rfl, HF2, inferInstance⟩
   case measure => simp [intOf]; omega
  ·have HF2 : Hid (areTrips t = true) := by
    show _ = _
    unfold areTrips
    rw [← HF.out, List.drop_eq_nil_of_le (by have := Hl.out; omega), decide_eq_true B1.out]; rfl
   clear HF
   go_wp2
   go_ret
   exact ⟨ret_bool HF2.out.symm, hww.trans inferInstance⟩
theorem okTimetable_are (t : Timetable) : okTimetable t = (okNetwork t.Network && areTrips t) := by unfold okTimetable areTrips; rw [Bool.and_assoc]
theorem impl_IsValidTimetable {w0 w : World} {sA0 : Option Addr} {sn0 sc0 : Nat} {sA1 : Option Addr} {sn1 sc1 : Nat} {sA2 : Option Addr} {sn2 sc2 : Nat} {t : Timetable} (h : TimetableAt w0 sA0 sn0 sc0 sA1 sn1 sc1 sA2 sn2 sc2 t) (hl : Later w0 w) :
  Calls Tryz.prog 111 #[.agg #[.slice sA0 sn0 sc0, .slice sA1 sn1 sc1, .slice sA2 sn2 sc2]] w (Ret (.bool (okTimetable t)) w) := by
 replace h := h.later hl
 rw [okTimetable_are]
 have HB0 : ∀ W [Later (w.alloc (.cells #[.slice sA0 sn0 sc0, .slice sA1 sn1 sc1, .slice sA2 sn2 sc2] 44)) W] (j : Nat), W.cell? ⟨w.heap.size, j, none⟩ = #[.slice sA0 sn0 sc0, .slice sA1 sn1 sc1, .slice sA2 sn2 sc2][j]? := Later.boxes (t := 44) (fr := (0, 0)) (heap_new (by simp; try omega)); obtain ⟨wb, hwb⟩ : ∃ wb : World, wb = (w.alloc (.cells #[.slice sA0 sn0 sc0, .slice sA1 sn1 sc1, .slice sA2 sn2 sc2] 44)) := ⟨_, rfl⟩; haveI hbW : Later wb (w.alloc (.cells #[.slice sA0 sn0 sc0, .slice sA1 sn1 sc1, .slice sA2 sn2 sc2] 44)) := (by rw [hwb]; exact Later.rfl_); haveI hww : Later w wb := (by rw [hwb]; infer_instance); rw [← hwb] at HB0; have hbE := Lib.hid (congrArg (fun x : World => x.heap.size) hwb); clear hwb
 replace h := h.later hww
 have H := Lib.hid h
 clear h
 by_cases b : okNetwork t.Network = true
 ·have NF := Lib.hid (netFacts b)
  go_enter Tryz.func111, Tryz.ntmps111
  go_wp2_with first
   | (go_at_call 134; refine (impl_IsValidNetwork (r := t.Network) ⟨H.out.l_Network_Stops, H.out.l_Network_Lines⟩ inferInstance).mono ?_; rintro e w1 ⟨rfl, L1⟩; have X1 := Later.trans (w := wb) inferInstance L1)
   | (go_at_call 135; refine (impl_areTrips H.out inferInstance NF.out).mono ?_; rintro e w2 ⟨rfl, L2⟩; have X2 := Later.trans (w := wb) inferInstance L2)
  go_ret
  exact ⟨ret_bool (by simp [b]), hww.trans inferInstance⟩
 ·have b' : okNetwork t.Network = false := by simpa using b
  clear b
  go_enter Tryz.func111, Tryz.ntmps111
  go_wp2_with (go_at_call 134; refine (impl_IsValidNetwork (r := t.Network) ⟨H.out.l_Network_Stops, H.out.l_Network_Lines⟩ inferInstance).mono ?_; rintro e w1 ⟨rfl, L1⟩; have X1 := Later.trans (w := wb) inferInstance L1)
  go_ret
  exact ⟨ret_bool (by simp [b']), hww.trans inferInstance⟩
end Go.Proofs.YtknhebakebmlcaaGreat
namespace Go.Proofs.YtknhebakebmlcaaGreat
open Go Go.RowKit
set_option linter.unusedVariables false
set_option maxRecDepth 100000
theorem ownsRow_later {w W : World} {base : Nat} {e : TypeId} {sz : Nat} {v : Value} {n : Nat} {xs : List Value} (h : w.ownsRow base e sz v n xs) (hl : Later w W) : W.ownsRow base e sz v n xs := by
 obtain ⟨hxs, h2⟩ := h
 refine ⟨hxs, ?_⟩
 rcases h2 with h2 | ⟨g, cap, cur, h1, hb, hg, h3⟩
 ·exact .inl h2
 ·exact .inr ⟨g, cap, cur, h1, hb, (show Blk W g e cur from Blk.later (show Blk w g e cur from hg) hl), h3⟩
end Go.Proofs.YtknhebakebmlcaaGreat
namespace Go.Proofs.YtknhebakebmlcaaGreat
open Go Go.RowKit
set_option linter.unusedVariables false
set_option maxRecDepth 100000
def rowA (l : List Int) : Array Value := (l.map (Value.int .i64)).toArray
theorem rowA_get {l : List Int} {k : Nat} {v : Int} (h : l[k]? = some v) : (rowA l)[k]? = some (.int .i64 v) := by simp [rowA, h]
theorem rowA_set (l : List Int) (k : Nat) (v : Int) : (rowA l).setIfInBounds k (.int .i64 v) = rowA (l.set k v) := by simp [rowA, List.map_set]
theorem make_ints (n : Nat) (hn : n ≤ 1048576) : ∀ w : World, (Instr.makeSlice 66 (.int .i64 (n : Int)) (.int .i64 (n : Int))).run Tryz.prog w = .ok (.slice (some ⟨w.heap.size, 0, none⟩) n n) (w.alloc (.cells (rowA (List.replicate n 0)) 3)) := by
 intro w
 obtain ⟨i, h1, h2, h3, h4⟩ := info_parts infoInt
 have h := run_make_rowN (P := Tryz.prog) 66 3 i (.int .i64 0) Tryz.underlying66 h1 h2 .i64 .i64 n n (Nat.le_refl _) (by rw [h4]; omega) (by omega) w
 rw [h, h3, Nat.mul_one]
 refine congrArg (fun cs => Result.ok _ (w.alloc (.cells cs 3))) ?_
 apply Array.toList_inj.1
 show (madeCells #[Value.int .i64 0] n).toList = _
 rw [toList_madeCells_one]
 simp [rowA]
theorem Blk.ints {w : World} {g n : Nat} {l : List Int} (hb : Blk w g 3 (rowA l)) (hn : n = l.length) (hm : n ≤ 1048576) (hi : ∀ v, v ∈ l → I64 v) : Ints w (some ⟨g, 0, none⟩) n n l :=
 (OSl.ints_blk hb hn (by omega) fun k x hx => ⟨rowA_get hx, hi x (List.mem_of_getElem? hx)⟩).reads
theorem Blk.rowAt {w : World} {g k : Nat} {l : List Int} {v : Int} (hb : Blk w g 3 (rowA l)) (h : l[k]? = some v) : w.cell? ⟨g, k, none⟩ = some (.int .i64 v) := (hb.cell k).trans (rowA_get h)
theorem Blk.rowAts {w : World} {g k : Nat} {l : List Int} {v : Int} (hb : Blk w g 3 (rowA l)) (h : l[k]? = some v) : ∀ W [Later w W], W.cell? ⟨g, k, none⟩ = some (.int .i64 v) := Later.cells (hb.rowAt h)
theorem Blk.rowSet {w : World} {g k : Nat} {l : List Int} (hb : Blk w g 3 (rowA l)) (v : Int) : Blk (w.setCell ⟨g, k, none⟩ (.int .i64 v)) g 3 (rowA (l.set k v)) := by
 rw [← rowA_set]; exact hb.set_ k _
/-- What has been filled up to its end. -/
theorem all_rep {cs : List Int} {n k : Nat} {v : Int} (h : cs.length = n ∧ ∀ j, j < k → cs[j]? = some v) (hk : k = n) : cs = List.replicate n v := by
 refine List.ext_getElem? fun j => ?_
 rw [List.getElem?_replicate]
 split
 ·exact h.2 j (by omega)
 ·exact List.getElem?_eq_none (by omega)
theorem fill_step {cs : List Int} {n k : Nat} {v : Int} (h : cs.length = n ∧ ∀ j, j < k → cs[j]? = some v) (hk : k < n) : (cs.set k v).length = n ∧ ∀ j, j < k + 1 → (cs.set k v)[j]? = some v := by
 refine ⟨by rw [List.length_set]; exact h.1, fun j hj => ?_⟩
 by_cases e : j = k
 ·subst e; exact List.getElem?_set_self (by omega)
 ·rw [List.getElem?_set_ne (Ne.symm e)]; exact h.2 j (by omega)
section
variable {w W : World} {g o : Nat} {l : List Int}
end
end Go.Proofs.YtknhebakebmlcaaGreat
