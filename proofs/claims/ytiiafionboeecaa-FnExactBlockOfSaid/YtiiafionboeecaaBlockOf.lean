/-
  Blocks: BlockOf on both sides.
-/
import Derived.Test.YtiiafionboeecaaBlkD
import Derived.Test.YtiiafionboeecaaPlace
namespace Go.Proofs.Ytiiafionboeecaa
open Go Go.RowKit
set_option linter.unusedVariables false
set_option maxRecDepth 100000
def blockRes (t : Timetable) (f : Fleet) (bs : List (List Int)) (id : Int) : Int × Int × Bool :=
  if okBlocks t f bs = true ∧ 0 ≤ (placeOf 0 id bs).1 then ((placeOf 0 id bs).1, (placeOf 0 id bs).2, true) else (0, 0, false)
set_option maxHeartbeats 800000 in
theorem impl_BlockOf {w0 w w2 w3 : World} {sA0 : Option Addr} {sn0 sc0 : Nat} {sA1 : Option Addr} {sn1 sc1 : Nat} {sA2 : Option Addr} {sn2 sc2 : Nat} {t : Timetable} (h : TimetableAt w0 sA0 sn0 sc0 sA1 sn1 sc1 sA2 sn2 sc2 t) (hl : Later w0 w) {qA0 : Option Addr} {qn0 qc0 : Nat} {f : Fleet} (h2 : FleetAt w2 qA0 qn0 qc0 f) (hl2 : Later w2 w) {bA : Option Addr} {bn bc : Nat} {bs : List (List Int)} (h3 : Sl 1 (rSl 1 rInt) w3 bA bn bc bs) (hl3 : Later w3 w) (id : Int) :
    Calls Try.prog 28 #[.agg #[.slice sA0 sn0 sc0, .slice sA1 sn1 sc1, .slice sA2 sn2 sc2], .agg #[.slice qA0 qn0 qc0, .int .i64 f.Turn], .slice bA bn bc, .int .i64 id] w (Ret (.tuple #[.int .i64 (blockRes t f bs id).1, .int .i64 (blockRes t f bs id).2.1, .bool (blockRes t f bs id).2.2]) w) := by
  have HB0 : ∀ W [Later ((w.alloc (.cells #[.slice sA0 sn0 sc0, .slice sA1 sn1 sc1, .slice sA2 sn2 sc2] 41)).alloc (.cells #[.slice qA0 qn0 qc0, .int .i64 f.Turn] 43)) W] (j : Nat), W.cell? ⟨w.heap.size, j, none⟩ = #[.slice sA0 sn0 sc0, .slice sA1 sn1 sc1, .slice sA2 sn2 sc2][j]? := Later.boxes (t := 41) (fr := (0, 0)) ((heap_old (by simp; try omega)).trans (heap_new (by simp; try omega))); have HB1 : ∀ W [Later ((w.alloc (.cells #[.slice sA0 sn0 sc0, .slice sA1 sn1 sc1, .slice sA2 sn2 sc2] 41)).alloc (.cells #[.slice qA0 qn0 qc0, .int .i64 f.Turn] 43)) W] (j : Nat), W.cell? ⟨w.heap.size + 1, j, none⟩ = #[.slice qA0 qn0 qc0, .int .i64 f.Turn][j]? := Later.boxes (t := 43) (fr := (0, 0)) (heap_new (by simp; try omega)); obtain ⟨wb, hwb⟩ : ∃ wb : World, wb = ((w.alloc (.cells #[.slice sA0 sn0 sc0, .slice sA1 sn1 sc1, .slice sA2 sn2 sc2] 41)).alloc (.cells #[.slice qA0 qn0 qc0, .int .i64 f.Turn] 43)) := ⟨_, rfl⟩; haveI hbW : Later wb ((w.alloc (.cells #[.slice sA0 sn0 sc0, .slice sA1 sn1 sc1, .slice sA2 sn2 sc2] 41)).alloc (.cells #[.slice qA0 qn0 qc0, .int .i64 f.Turn] 43)) := (by rw [hwb]; exact Later.rfl_); haveI hww : Later w wb := (by rw [hwb]; infer_instance); rw [← hwb] at HB0; rw [← hwb] at HB1; have hbE := Lib.hid (congrArg (fun x : World => x.heap.size) hwb); clear hwb
  have hwb0 := hl.trans hww
  have hwb2 := hl2.trans hww
  have hwb3 := hl3.trans hww
  have H := Lib.hid h
  have H2 := Lib.hid h2
  have H3 := Lib.hid h3
  clear h h2 h3
  by_cases c0 : okBlocks t f bs = true
  · by_cases c2 : (placeOf 0 id bs).1 < 0
    · rw [show blockRes t f bs id = (0, 0, false) from if_neg (fun k => by have := k.2; omega)]
      go_enter Try.func28, Try.ntmps28
      go_wp2_with first
        | (go_at_call 23; refine (impl_IsValidBlocks H.out (hwb0.trans inferInstance) H2.out (hwb2.trans inferInstance) H3.out (hwb3.trans inferInstance)).mono ?_; rintro e w1 ⟨rfl, L1⟩; have X1 := Later.trans (w := wb) inferInstance L1)
        | (go_at_call 68; refine (impl_placeIn H3.out (hwb3.trans inferInstance) id).mono ?_; rintro e w5 ⟨rfl, L5⟩; have X5 := Later.trans (w := wb) inferInstance L5)
      go_ret3
      exact ⟨rfl, hww.trans inferInstance⟩
    · rw [show blockRes t f bs id = ((placeOf 0 id bs).1, (placeOf 0 id bs).2, true) from if_pos ⟨c0, by omega⟩]
      have c2d : decide ((placeOf 0 id bs).1 < 0) = false := decide_eq_false c2
      go_enter Try.func28, Try.ntmps28
      go_wp2_with first
        | (go_at_call 23; refine (impl_IsValidBlocks H.out (hwb0.trans inferInstance) H2.out (hwb2.trans inferInstance) H3.out (hwb3.trans inferInstance)).mono ?_; rintro e w1 ⟨rfl, L1⟩; have X1 := Later.trans (w := wb) inferInstance L1)
        | (go_at_call 68; refine (impl_placeIn H3.out (hwb3.trans inferInstance) id).mono ?_; rintro e w5 ⟨rfl, L5⟩; have X5 := Later.trans (w := wb) inferInstance L5)
      go_ret3
      exact ⟨rfl, hww.trans inferInstance⟩
  · have c1 : okBlocks t f bs = false := by simpa using c0
    rw [show blockRes t f bs id = (0, 0, false) from if_neg (fun k => c0 k.1)]
    clear c0
    go_enter Try.func28, Try.ntmps28
    go_wp2_with first
      | (go_at_call 23; refine (impl_IsValidBlocks H.out (hwb0.trans inferInstance) H2.out (hwb2.trans inferInstance) H3.out (hwb3.trans inferInstance)).mono ?_; rintro e w1 ⟨rfl, L1⟩; have X1 := Later.trans (w := wb) inferInstance L1)
      | (go_at_call 68; refine (impl_placeIn H3.out (hwb3.trans inferInstance) id).mono ?_; rintro e w5 ⟨rfl, L5⟩; have X5 := Later.trans (w := wb) inferInstance L5)
    go_ret3
    exact ⟨rfl, hww.trans inferInstance⟩
set_option maxHeartbeats 800000 in
theorem spec_BlockOf {w0 w w2 w3 : World} {sA0 : Option Addr} {sn0 sc0 : Nat} {sA1 : Option Addr} {sn1 sc1 : Nat} {sA2 : Option Addr} {sn2 sc2 : Nat} {t : Timetable} (h : TimetableAt w0 sA0 sn0 sc0 sA1 sn1 sc1 sA2 sn2 sc2 t) (hl : Later w0 w) {qA0 : Option Addr} {qn0 qc0 : Nat} {f : Fleet} (h2 : FleetAt w2 qA0 qn0 qc0 f) (hl2 : Later w2 w) {bA : Option Addr} {bn bc : Nat} {bs : List (List Int)} (h3 : Sl 1 (rSl 1 rInt) w3 bA bn bc bs) (hl3 : Later w3 w) (id : Int) :
    Calls Try.prog 27 #[.agg #[.slice sA0 sn0 sc0, .slice sA1 sn1 sc1, .slice sA2 sn2 sc2], .agg #[.slice qA0 qn0 qc0, .int .i64 f.Turn], .slice bA bn bc, .int .i64 id] w (Ret (.tuple #[.int .i64 (blockRes t f bs id).1, .int .i64 (blockRes t f bs id).2.1, .bool (blockRes t f bs id).2.2]) w) := by
  have HB0 : ∀ W [Later ((w.alloc (.cells #[.slice sA0 sn0 sc0, .slice sA1 sn1 sc1, .slice sA2 sn2 sc2] 41)).alloc (.cells #[.slice qA0 qn0 qc0, .int .i64 f.Turn] 43)) W] (j : Nat), W.cell? ⟨w.heap.size, j, none⟩ = #[.slice sA0 sn0 sc0, .slice sA1 sn1 sc1, .slice sA2 sn2 sc2][j]? := Later.boxes (t := 41) (fr := (0, 0)) ((heap_old (by simp; try omega)).trans (heap_new (by simp; try omega))); have HB1 : ∀ W [Later ((w.alloc (.cells #[.slice sA0 sn0 sc0, .slice sA1 sn1 sc1, .slice sA2 sn2 sc2] 41)).alloc (.cells #[.slice qA0 qn0 qc0, .int .i64 f.Turn] 43)) W] (j : Nat), W.cell? ⟨w.heap.size + 1, j, none⟩ = #[.slice qA0 qn0 qc0, .int .i64 f.Turn][j]? := Later.boxes (t := 43) (fr := (0, 0)) (heap_new (by simp; try omega)); obtain ⟨wb, hwb⟩ : ∃ wb : World, wb = ((w.alloc (.cells #[.slice sA0 sn0 sc0, .slice sA1 sn1 sc1, .slice sA2 sn2 sc2] 41)).alloc (.cells #[.slice qA0 qn0 qc0, .int .i64 f.Turn] 43)) := ⟨_, rfl⟩; haveI hbW : Later wb ((w.alloc (.cells #[.slice sA0 sn0 sc0, .slice sA1 sn1 sc1, .slice sA2 sn2 sc2] 41)).alloc (.cells #[.slice qA0 qn0 qc0, .int .i64 f.Turn] 43)) := (by rw [hwb]; exact Later.rfl_); haveI hww : Later w wb := (by rw [hwb]; infer_instance); rw [← hwb] at HB0; rw [← hwb] at HB1; have hbE := Lib.hid (congrArg (fun x : World => x.heap.size) hwb); clear hwb
  have hwb0 := hl.trans hww
  have hwb2 := hl2.trans hww
  have hwb3 := hl3.trans hww
  have H := Lib.hid h
  have H2 := Lib.hid h2
  have H3 := Lib.hid h3
  clear h h2 h3
  by_cases cr : okRun t f = true
  rotate_left
  · have c1 : okRun t f = false := by simpa using cr
    rw [show blockRes t f bs id = (0, 0, false) from if_neg (fun k => by have := k.1; unfold okBlocks at this; rw [c1] at this; simp at this)]
    clear cr
    have RF : Hid (False ∨ True) := .inr trivial
    go_enter Try.func27, Try.ntmps27
    go_wp2_with first
      | (go_at_call 67; refine (spec_l11Place H3.out (hwb3.trans inferInstance) id).mono ?_; rintro e w5 ⟨rfl, L5⟩; have X5 := Later.trans (w := wb) inferInstance L5)
      | (go_at_call 52; refine (spec_l11Asked H.out (hwb0.trans inferInstance) H2.out (hwb2.trans inferInstance)).mono ?_; rintro e w1 ⟨rfl, L1⟩; have X1 := Later.trans (w := wb) inferInstance L1)
      | (go_at_call 62; refine (spec_l11Blocks H.out (hwb0.trans inferInstance) H2.out (hwb2.trans inferInstance) H3.out (hwb3.trans inferInstance) RF.out.time RF.out.fleet).mono ?_; rintro e w6 ⟨rfl, L6⟩; have X6 := Later.trans (w := wb) inferInstance L6)
    go_ret3
    exact ⟨rfl, hww.trans inferInstance⟩
  have RF := Lib.hid (runFacts cr)
  by_cases cb : okBlk t f bs = true
  rotate_left
  · have c1 : okBlk t f bs = false := by simpa using cb
    rw [show blockRes t f bs id = (0, 0, false) from if_neg (fun k => by have := k.1; unfold okBlocks at this; rw [c1] at this; simp at this)]
    clear cb
    go_enter Try.func27, Try.ntmps27
    go_wp2_with first
      | (go_at_call 67; refine (spec_l11Place H3.out (hwb3.trans inferInstance) id).mono ?_; rintro e w5 ⟨rfl, L5⟩; have X5 := Later.trans (w := wb) inferInstance L5)
      | (go_at_call 52; refine (spec_l11Asked H.out (hwb0.trans inferInstance) H2.out (hwb2.trans inferInstance)).mono ?_; rintro e w1 ⟨rfl, L1⟩; have X1 := Later.trans (w := wb) inferInstance L1)
      | (go_at_call 62; refine (spec_l11Blocks H.out (hwb0.trans inferInstance) H2.out (hwb2.trans inferInstance) H3.out (hwb3.trans inferInstance) RF.out.time RF.out.fleet).mono ?_; rintro e w6 ⟨rfl, L6⟩; have X6 := Later.trans (w := wb) inferInstance L6)
    go_ret3
    exact ⟨rfl, hww.trans inferInstance⟩
  rcases placeOf_any id bs with ⟨c2, c3⟩ | ⟨c2, c3⟩
  · rw [show blockRes t f bs id = (0, 0, false) from if_neg (fun k => by have := k.2; omega)]
    clear c2
    go_enter Try.func27, Try.ntmps27
    go_wp2_with first
      | (go_at_call 67; refine (spec_l11Place H3.out (hwb3.trans inferInstance) id).mono ?_; rintro e w5 ⟨rfl, L5⟩; have X5 := Later.trans (w := wb) inferInstance L5)
      | (go_at_call 52; refine (spec_l11Asked H.out (hwb0.trans inferInstance) H2.out (hwb2.trans inferInstance)).mono ?_; rintro e w1 ⟨rfl, L1⟩; have X1 := Later.trans (w := wb) inferInstance L1)
      | (go_at_call 62; refine (spec_l11Blocks H.out (hwb0.trans inferInstance) H2.out (hwb2.trans inferInstance) H3.out (hwb3.trans inferInstance) RF.out.time RF.out.fleet).mono ?_; rintro e w6 ⟨rfl, L6⟩; have X6 := Later.trans (w := wb) inferInstance L6)
    go_ret3
    exact ⟨rfl, hww.trans inferInstance⟩
  · rw [show blockRes t f bs id = ((placeOf (-1) id bs).1, (placeOf (-1) id bs).2, true) from by rw [c3]; exact if_pos ⟨by unfold okBlocks; rw [cr, cb]; rfl, c2⟩]
    rw [← c3] at c2
    have c4 : decide ((placeOf (-1) id bs).1 < 0) = false := decide_eq_false (by omega)
    clear c3
    go_enter Try.func27, Try.ntmps27
    go_wp2_with first
      | (go_at_call 67; refine (spec_l11Place H3.out (hwb3.trans inferInstance) id).mono ?_; rintro e w5 ⟨rfl, L5⟩; have X5 := Later.trans (w := wb) inferInstance L5)
      | (go_at_call 52; refine (spec_l11Asked H.out (hwb0.trans inferInstance) H2.out (hwb2.trans inferInstance)).mono ?_; rintro e w1 ⟨rfl, L1⟩; have X1 := Later.trans (w := wb) inferInstance L1)
      | (go_at_call 62; refine (spec_l11Blocks H.out (hwb0.trans inferInstance) H2.out (hwb2.trans inferInstance) H3.out (hwb3.trans inferInstance) RF.out.time RF.out.fleet).mono ?_; rintro e w6 ⟨rfl, L6⟩; have X6 := Later.trans (w := wb) inferInstance L6)
    go_ret3
    exact ⟨rfl, hww.trans inferInstance⟩
end Go.Proofs.Ytiiafionboeecaa
