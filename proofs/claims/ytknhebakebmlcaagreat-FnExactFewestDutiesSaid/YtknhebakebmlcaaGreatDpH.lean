/-
 FewestDuties, AlwaysTogether: the program's exported functions.
-/
import Derived.Test.YtknhebakebmlcaaGreatDpG
import Derived.Test.YtknhebakebmlcaaGreatDutyOf
namespace Go.Proofs.YtknhebakebmlcaaGreat
open Go Go.RowKit
set_option linter.unusedVariables false
set_option maxRecDepth 100000
set_option linter.unusedSimpArgs false
def atRes (t : Timetable) (f : Fleet) (bs : List (List Int)) (r : Rules) (a b : Int) : Bool × Bool := if (fdRes t f bs r).2.2.2 = true ∧ 0 ≤ findI t a ∧ 0 ≤ findI t b then (decide (dutyI (fdRes t f bs r).1 a = dutyI (fdRes t f bs r).1 b), true) else (false, false)
set_option maxHeartbeats 2000000 in
theorem impl_FewestDuties {w0 w w2 w3 : World} {sA0 : Option Addr} {sn0 sc0 : Nat} {sA1 : Option Addr} {sn1 sc1 : Nat} {sA2 : Option Addr} {sn2 sc2 : Nat} {t : Timetable} (h : TimetableAt w0 sA0 sn0 sc0 sA1 sn1 sc1 sA2 sn2 sc2 t) (hl : Later w0 w) {qA0 : Option Addr} {qn0 qc0 : Nat} {f : Fleet} (h2 : FleetAt w2 qA0 qn0 qc0 f) (hl2 : Later w2 w) {bA : Option Addr} {bn bc : Nat} {bs : List (List Int)} (h3 : Sl 1 (rSl 1 rInt) w3 bA bn bc bs) (hl3 : Later w3 w) (r : Rules) : Calls Tryz.prog 18 #[.agg #[.slice sA0 sn0 sc0, .slice sA1 sn1 sc1, .slice sA2 sn2 sc2], .agg #[.slice qA0 qn0 qc0, .int .i64 f.Turn], .slice bA bn bc, .agg #[.int .i64 r.SignOn, .int .i64 r.SignOff, .int .i64 r.MaxDrive, .int .i64 r.MinBreak, .int .i64 r.PaidBreak, .int .i64 r.MaxLength]] w (RetD4 (fdRes t f bs r) w) := by
 have HB0 : ∀ W [Later (((w.alloc (.cells #[.slice sA0 sn0 sc0, .slice sA1 sn1 sc1, .slice sA2 sn2 sc2] 44)).alloc (.cells #[.slice qA0 qn0 qc0, .int .i64 f.Turn] 46)).alloc (.cells #[.int .i64 r.SignOn, .int .i64 r.SignOff, .int .i64 r.MaxDrive, .int .i64 r.MinBreak, .int .i64 r.PaidBreak, .int .i64 r.MaxLength] 49)) W] (j : Nat), W.cell? ⟨w.heap.size, j, none⟩ = #[.slice sA0 sn0 sc0, .slice sA1 sn1 sc1, .slice sA2 sn2 sc2][j]? := Later.boxes (t := 44) (fr := (0, 0)) ((heap_old (by simp; try omega)).trans ((heap_old (by simp; try omega)).trans (heap_new (by simp; try omega)))); have HB1 : ∀ W [Later (((w.alloc (.cells #[.slice sA0 sn0 sc0, .slice sA1 sn1 sc1, .slice sA2 sn2 sc2] 44)).alloc (.cells #[.slice qA0 qn0 qc0, .int .i64 f.Turn] 46)).alloc (.cells #[.int .i64 r.SignOn, .int .i64 r.SignOff, .int .i64 r.MaxDrive, .int .i64 r.MinBreak, .int .i64 r.PaidBreak, .int .i64 r.MaxLength] 49)) W] (j : Nat), W.cell? ⟨w.heap.size + 1, j, none⟩ = #[.slice qA0 qn0 qc0, .int .i64 f.Turn][j]? := Later.boxes (t := 46) (fr := (0, 0)) ((heap_old (by simp; try omega)).trans (heap_new (by simp; try omega))); have HB2 : ∀ W [Later (((w.alloc (.cells #[.slice sA0 sn0 sc0, .slice sA1 sn1 sc1, .slice sA2 sn2 sc2] 44)).alloc (.cells #[.slice qA0 qn0 qc0, .int .i64 f.Turn] 46)).alloc (.cells #[.int .i64 r.SignOn, .int .i64 r.SignOff, .int .i64 r.MaxDrive, .int .i64 r.MinBreak, .int .i64 r.PaidBreak, .int .i64 r.MaxLength] 49)) W] (j : Nat), W.cell? ⟨w.heap.size + 1 + 1, j, none⟩ = #[.int .i64 r.SignOn, .int .i64 r.SignOff, .int .i64 r.MaxDrive, .int .i64 r.MinBreak, .int .i64 r.PaidBreak, .int .i64 r.MaxLength][j]? := Later.boxes (t := 49) (fr := (0, 0)) (heap_new (by simp; try omega)); obtain ⟨wb, hwb⟩ : ∃ wb : World, wb = (((w.alloc (.cells #[.slice sA0 sn0 sc0, .slice sA1 sn1 sc1, .slice sA2 sn2 sc2] 44)).alloc (.cells #[.slice qA0 qn0 qc0, .int .i64 f.Turn] 46)).alloc (.cells #[.int .i64 r.SignOn, .int .i64 r.SignOff, .int .i64 r.MaxDrive, .int .i64 r.MinBreak, .int .i64 r.PaidBreak, .int .i64 r.MaxLength] 49)) := ⟨_, rfl⟩; haveI hbW : Later wb (((w.alloc (.cells #[.slice sA0 sn0 sc0, .slice sA1 sn1 sc1, .slice sA2 sn2 sc2] 44)).alloc (.cells #[.slice qA0 qn0 qc0, .int .i64 f.Turn] 46)).alloc (.cells #[.int .i64 r.SignOn, .int .i64 r.SignOff, .int .i64 r.MaxDrive, .int .i64 r.MinBreak, .int .i64 r.PaidBreak, .int .i64 r.MaxLength] 49)) := (by rw [hwb]; exact Later.rfl_); haveI hww : Later w wb := (by rw [hwb]; infer_instance); rw [← hwb] at HB0; rw [← hwb] at HB1; rw [← hwb] at HB2; have hbE := Lib.hid (congrArg (fun x : World => x.heap.size) hwb); clear hwb
 have hwb0 := hl.trans hww
 have hwb2 := hl2.trans hww
 have hwb3 := hl3.trans hww
 have H := Lib.hid h
 have H2 := Lib.hid h2
 have H3 := Lib.hid h3
 clear h h2 h3
 by_cases c0 : okRuled t f bs r = true
 ·have HOK := Lib.hid c0
  obtain ⟨X, hX⟩ : ∃ X, fdRes t f bs r = X := ⟨_, rfl⟩
  rw [hX]
  have HX := Lib.hid hX
  clear hX
  go_enter Tryz.func18, Tryz.ntmps18
  go_wp2_with first
   | (go_at_call 40; refine (impl_areRuled H.out (hwb0.trans inferInstance) H2.out (hwb2.trans inferInstance) H3.out (hwb3.trans inferInstance) r).mono ?_; rintro e w1 ⟨rfl, L1⟩; have X1 := Later.trans (w := wb) inferInstance L1)
   | (go_at_call 41; go_loud (refine (impl_fewestDuties H.out (hwb0.trans inferInstance) H2.out (hwb2.trans inferInstance) H3.out (hwb3.trans inferInstance) r HOK.out).mono ?_; rw [HX.out]; rintro e w9 ⟨A9, n9, c9, fp9, rfl, o9, nd9, lo9, L9⟩; have X9 := Later.trans (w := wb) inferInstance L9; have HO9 := Lib.hid o9; have HND9 := Lib.hid nd9; have HLO9 := Lib.hid lo9; have Y1 := X1; clear o9 nd9 lo9))
  (try simp only [Exit.inBlock, Exit.then])
  refine bodyPost_ret (v := .tuple #[.slice A9 n9 c9, .int .i64 (X.2.1), .int .i64 (X.2.2.1), .bool X.2.2.2]) (by simp [results, Tryz.results18, go_sem]) rfl ?_
  exact ⟨A9, n9, c9, fp9, rfl, HO9.out.later inferInstance, HND9.out, fun g hg => by have h1 := HLO9.out g hg; have h2 := X1.size; have h3 := hww.size; omega, hww.trans inferInstance⟩
 ·have c1 : okRuled t f bs r = false := by simpa using c0
  rw [show fdRes t f bs r = ([], 0, 0, false) from if_neg fun k => c0 k.1]
  clear c0
  go_enter Tryz.func18, Tryz.ntmps18
  go_wp2_with (go_at_call 40; refine (impl_areRuled H.out (hwb0.trans inferInstance) H2.out (hwb2.trans inferInstance) H3.out (hwb3.trans inferInstance) r).mono ?_; rintro e w1 ⟨rfl, L1⟩; have X1 := Later.trans (w := wb) inferInstance L1)
  (try simp only [Exit.inBlock, Exit.then])
  refine bodyPost_ret (v := .tuple #[.slice none 0 0, .int .i64 (0), .int .i64 (0), .bool false]) (by simp [results, Tryz.results18, go_sem]) rfl ?_
  exact ⟨_, _, _, [], rfl, OSl.nil_ _, by simp, by simp, hww.trans inferInstance⟩
set_option maxHeartbeats 2000000 in
theorem impl_AlwaysTogether {w0 w w2 w3 : World} {sA0 : Option Addr} {sn0 sc0 : Nat} {sA1 : Option Addr} {sn1 sc1 : Nat} {sA2 : Option Addr} {sn2 sc2 : Nat} {t : Timetable} (h : TimetableAt w0 sA0 sn0 sc0 sA1 sn1 sc1 sA2 sn2 sc2 t) (hl : Later w0 w) {qA0 : Option Addr} {qn0 qc0 : Nat} {f : Fleet} (h2 : FleetAt w2 qA0 qn0 qc0 f) (hl2 : Later w2 w) {bA : Option Addr} {bn bc : Nat} {bs : List (List Int)} (h3 : Sl 1 (rSl 1 rInt) w3 bA bn bc bs) (hl3 : Later w3 w) (r : Rules) (a b' : Int) : Calls Tryz.prog 13 #[.agg #[.slice sA0 sn0 sc0, .slice sA1 sn1 sc1, .slice sA2 sn2 sc2], .agg #[.slice qA0 qn0 qc0, .int .i64 f.Turn], .slice bA bn bc, .agg #[.int .i64 r.SignOn, .int .i64 r.SignOff, .int .i64 r.MaxDrive, .int .i64 r.MinBreak, .int .i64 r.PaidBreak, .int .i64 r.MaxLength], .int .i64 a, .int .i64 b'] w (Ret (.tuple #[.bool (atRes t f bs r a b').1, .bool (atRes t f bs r a b').2]) w) := by
 have HB0 : ∀ W [Later (((w.alloc (.cells #[.slice sA0 sn0 sc0, .slice sA1 sn1 sc1, .slice sA2 sn2 sc2] 44)).alloc (.cells #[.slice qA0 qn0 qc0, .int .i64 f.Turn] 46)).alloc (.cells #[.int .i64 r.SignOn, .int .i64 r.SignOff, .int .i64 r.MaxDrive, .int .i64 r.MinBreak, .int .i64 r.PaidBreak, .int .i64 r.MaxLength] 49)) W] (j : Nat), W.cell? ⟨w.heap.size, j, none⟩ = #[.slice sA0 sn0 sc0, .slice sA1 sn1 sc1, .slice sA2 sn2 sc2][j]? := Later.boxes (t := 44) (fr := (0, 0)) ((heap_old (by simp; try omega)).trans ((heap_old (by simp; try omega)).trans (heap_new (by simp; try omega)))); have HB1 : ∀ W [Later (((w.alloc (.cells #[.slice sA0 sn0 sc0, .slice sA1 sn1 sc1, .slice sA2 sn2 sc2] 44)).alloc (.cells #[.slice qA0 qn0 qc0, .int .i64 f.Turn] 46)).alloc (.cells #[.int .i64 r.SignOn, .int .i64 r.SignOff, .int .i64 r.MaxDrive, .int .i64 r.MinBreak, .int .i64 r.PaidBreak, .int .i64 r.MaxLength] 49)) W] (j : Nat), W.cell? ⟨w.heap.size + 1, j, none⟩ = #[.slice qA0 qn0 qc0, .int .i64 f.Turn][j]? := Later.boxes (t := 46) (fr := (0, 0)) ((heap_old (by simp; try omega)).trans (heap_new (by simp; try omega))); have HB2 : ∀ W [Later (((w.alloc (.cells #[.slice sA0 sn0 sc0, .slice sA1 sn1 sc1, .slice sA2 sn2 sc2] 44)).alloc (.cells #[.slice qA0 qn0 qc0, .int .i64 f.Turn] 46)).alloc (.cells #[.int .i64 r.SignOn, .int .i64 r.SignOff, .int .i64 r.MaxDrive, .int .i64 r.MinBreak, .int .i64 r.PaidBreak, .int .i64 r.MaxLength] 49)) W] (j : Nat), W.cell? ⟨w.heap.size + 1 + 1, j, none⟩ = #[.int .i64 r.SignOn, .int .i64 r.SignOff, .int .i64 r.MaxDrive, .int .i64 r.MinBreak, .int .i64 r.PaidBreak, .int .i64 r.MaxLength][j]? := Later.boxes (t := 49) (fr := (0, 0)) (heap_new (by simp; try omega)); obtain ⟨wb, hwb⟩ : ∃ wb : World, wb = (((w.alloc (.cells #[.slice sA0 sn0 sc0, .slice sA1 sn1 sc1, .slice sA2 sn2 sc2] 44)).alloc (.cells #[.slice qA0 qn0 qc0, .int .i64 f.Turn] 46)).alloc (.cells #[.int .i64 r.SignOn, .int .i64 r.SignOff, .int .i64 r.MaxDrive, .int .i64 r.MinBreak, .int .i64 r.PaidBreak, .int .i64 r.MaxLength] 49)) := ⟨_, rfl⟩; haveI hbW : Later wb (((w.alloc (.cells #[.slice sA0 sn0 sc0, .slice sA1 sn1 sc1, .slice sA2 sn2 sc2] 44)).alloc (.cells #[.slice qA0 qn0 qc0, .int .i64 f.Turn] 46)).alloc (.cells #[.int .i64 r.SignOn, .int .i64 r.SignOff, .int .i64 r.MaxDrive, .int .i64 r.MinBreak, .int .i64 r.PaidBreak, .int .i64 r.MaxLength] 49)) := (by rw [hwb]; exact Later.rfl_); haveI hww : Later w wb := (by rw [hwb]; infer_instance); rw [← hwb] at HB0; rw [← hwb] at HB1; rw [← hwb] at HB2; have hbE := Lib.hid (congrArg (fun x : World => x.heap.size) hwb); clear hwb
 have hwb0 := hl.trans hww
 have hwb2 := hl2.trans hww
 have hwb3 := hl3.trans hww
 have H := Lib.hid h
 have H2 := Lib.hid h2
 have H3 := Lib.hid h3
 clear h h2 h3
 obtain ⟨l, x1, x2, ok, hX⟩ : ∃ l x1 x2 ok, fdRes t f bs r = (l, x1, x2, ok) := ⟨_, _, _, _, rfl⟩
 have HX := Lib.hid hX
 have HAT : Hid (atRes t f bs r a b' = if ok = true ∧ 0 ≤ findI t a ∧ 0 ≤ findI t b' then (decide (dutyI l a = dutyI l b'), true) else (false, false)) := by show _ = _; unfold atRes; rw [hX]
 clear hX
 obtain ⟨ia, hia⟩ : ∃ x, findI t a = x := ⟨_, rfl⟩
 obtain ⟨ib, hib⟩ : ∃ x, findI t b' = x := ⟨_, rfl⟩
 rw [hia, hib] at HAT
 have HIA := Lib.hid hia
 have HIB := Lib.hid hib
 obtain ⟨da, hda⟩ : ∃ x, dutyI l a = x := ⟨_, rfl⟩
 obtain ⟨db, hdb⟩ : ∃ x, dutyI l b' = x := ⟨_, rfl⟩
 rw [hda, hdb] at HAT
 have HDA := Lib.hid hda
 have HDB := Lib.hid hdb
 clear hia hib hda hdb
 cases ok with
 | false =>
  rw [HAT.out, if_neg (by simp)]
  go_enter Tryz.func13, Tryz.ntmps13
  go_wp2_with (go_at_call 18; go_loud (refine (impl_FewestDuties H.out (hwb0.trans inferInstance) H2.out (hwb2.trans inferInstance) H3.out (hwb3.trans inferInstance) r).mono ?_; rw [HX.out]; rintro e w9 ⟨A9, n9, c9, fp9, rfl, o9, nd9, lo9, L9⟩; have X9 := Later.trans (w := wb) inferInstance L9; have HO9 : Hid (Dutys w9 A9 n9 c9 l) := o9.reads; clear o9 nd9 lo9))
  go_ret2
  exact ⟨rfl, hww.trans inferInstance⟩
 | true =>
  by_cases ca : ia < 0
  ·rw [HAT.out, if_neg (by omega)]
   go_enter Tryz.func13, Tryz.ntmps13
   go_wp2_with first
    | (go_at_call 18; go_loud (refine (impl_FewestDuties H.out (hwb0.trans inferInstance) H2.out (hwb2.trans inferInstance) H3.out (hwb3.trans inferInstance) r).mono ?_; rw [HX.out]; rintro e w9 ⟨A9, n9, c9, fp9, rfl, o9, nd9, lo9, L9⟩; have X9 := Later.trans (w := wb) inferInstance L9; have HO9 : Hid (Dutys w9 A9 n9 c9 l) := o9.reads; clear o9 nd9 lo9))
    | (go_at_call 33; refine (impl_tripIndex H.out (hwb0.trans inferInstance) a).mono ?_; rw [HIA.out]; rintro e w1 ⟨rfl, L1⟩; have X1 := Later.trans (w := wb) inferInstance L1; have Z1 := Later.trans (w := w9) inferInstance L1)
   go_ret2
   exact ⟨rfl, hww.trans inferInstance⟩
  by_cases cb : ib < 0
  ·rw [HAT.out, if_neg (by omega)]
   go_enter Tryz.func13, Tryz.ntmps13
   go_wp2_with first
    | (go_at_call 18; go_loud (refine (impl_FewestDuties H.out (hwb0.trans inferInstance) H2.out (hwb2.trans inferInstance) H3.out (hwb3.trans inferInstance) r).mono ?_; rw [HX.out]; rintro e w9 ⟨A9, n9, c9, fp9, rfl, o9, nd9, lo9, L9⟩; have X9 := Later.trans (w := wb) inferInstance L9; have HO9 : Hid (Dutys w9 A9 n9 c9 l) := o9.reads; clear o9 nd9 lo9))
    | (go_at_call 33; refine (impl_tripIndex H.out (hwb0.trans inferInstance) a).mono ?_; rw [HIA.out]; rintro e w1 ⟨rfl, L1⟩; have X1 := Later.trans (w := wb) inferInstance L1; have Z1 := Later.trans (w := w9) inferInstance L1)
    | (go_at_call 33; refine (impl_tripIndex H.out (hwb0.trans inferInstance) b').mono ?_; rw [HIB.out]; rintro e w2 ⟨rfl, L2⟩; have X2 := Later.trans (w := wb) inferInstance L2; have Z2 := Later.trans (w := w9) inferInstance L2)
   go_ret2
   exact ⟨rfl, hww.trans inferInstance⟩
  rw [HAT.out, if_pos ⟨rfl, by omega, by omega⟩]
  go_enter Tryz.func13, Tryz.ntmps13
  go_wp2_with first
   | (go_at_call 18; go_loud (refine (impl_FewestDuties H.out (hwb0.trans inferInstance) H2.out (hwb2.trans inferInstance) H3.out (hwb3.trans inferInstance) r).mono ?_; rw [HX.out]; rintro e w9 ⟨A9, n9, c9, fp9, rfl, o9, nd9, lo9, L9⟩; have X9 := Later.trans (w := wb) inferInstance L9; have HO9 : Hid (Dutys w9 A9 n9 c9 l) := o9.reads; clear o9 nd9 lo9))
   | (go_at_call 33; refine (impl_tripIndex H.out (hwb0.trans inferInstance) a).mono ?_; rw [HIA.out]; rintro e w1 ⟨rfl, L1⟩; have X1 := Later.trans (w := wb) inferInstance L1; have Z1 := Later.trans (w := w9) inferInstance L1)
   | (go_at_call 33; refine (impl_tripIndex H.out (hwb0.trans inferInstance) b').mono ?_; rw [HIB.out]; rintro e w2 ⟨rfl, L2⟩; have X2 := Later.trans (w := wb) inferInstance L2; have Z2 := Later.trans (w := w9) inferInstance L2)
   | (go_at_call 34; refine (impl_dutyOf HO9.out inferInstance a).mono ?_; rw [HDA.out]; rintro e w3 ⟨rfl, L3⟩; have X3 := Later.trans (w := wb) inferInstance L3; have Z3 := Later.trans (w := w9) inferInstance L3)
   | (go_at_call 34; refine (impl_dutyOf HO9.out inferInstance b').mono ?_; rw [HDB.out]; rintro e w4 ⟨rfl, L4⟩; have X4 := Later.trans (w := wb) inferInstance L4; have Z4 := Later.trans (w := w9) inferInstance L4)
  go_ret2
  exact ⟨rfl, hww.trans inferInstance⟩
end Go.Proofs.YtknhebakebmlcaaGreat
