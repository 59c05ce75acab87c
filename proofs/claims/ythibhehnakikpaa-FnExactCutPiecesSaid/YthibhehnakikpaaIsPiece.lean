/-
  Blocks: IsPiece on both sides.
-/
import Derived.Test.YthibhehnakikpaaRuled
import Derived.Test.YthibhehnakikpaaPiece
import Derived.Test.YthibhehnakikpaaDeadM
namespace Go.Proofs.Ythibhehnakikpaa
open Go Go.RowKit
set_option linter.unusedVariables false
set_option maxRecDepth 100000
def pieceRes (t : Timetable) (f : Fleet) (bs : List (List Int)) (p : List Int) : Bool × Bool := if okBlocks t f bs = true then (pieceOk bs p, true) else (false, false)
theorem len_flat {bs : List (List Int)} {x : List Int} (h : x ∈ bs) : x.length ≤ bs.flatten.length := by
  induction bs with
  | nil => cases h
  | cons y l ih =>
    simp only [List.flatten_cons, List.length_append]
    rcases List.mem_cons.1 h with rfl | h
    · omega
    · have := ih h; omega
theorem rows12 {t : Timetable} {f : Fleet} {bs : List (List Int)} (h : okBlocks t f bs = true) : ∀ x, x ∈ bs → x.length ≤ 1048576 := by
  have h1 := h
  simp only [okBlocks, Bool.and_eq_true] at h1
  have h2 := h1.2
  unfold okBlk at h2
  split at h2
  · cases h2
  · rename_i s hs
    have h3 : s.length = bs.flatten.length := by have := blkGo_len hs; simpa using this
    have h4 := (runFacts h1.1).time.len
    have h5 : s.length = t.Trips.length := by simpa using h2
    intro x hx
    have h6 := len_flat hx
    omega
set_option maxHeartbeats 800000 in
theorem impl_IsPiece {w0 w w2 w3 : World} {sA0 : Option Addr} {sn0 sc0 : Nat} {sA1 : Option Addr} {sn1 sc1 : Nat} {sA2 : Option Addr} {sn2 sc2 : Nat} {t : Timetable} (h : TimetableAt w0 sA0 sn0 sc0 sA1 sn1 sc1 sA2 sn2 sc2 t) (hl : Later w0 w) {qA0 : Option Addr} {qn0 qc0 : Nat} {f : Fleet} (h2 : FleetAt w2 qA0 qn0 qc0 f) (hl2 : Later w2 w) {bA : Option Addr} {bn bc : Nat} {bs : List (List Int)} (h3 : Sl 1 (rSl 1 rInt) w3 bA bn bc bs) (hl3 : Later w3 w) {w4 : World} {pA : Option Addr} {pn pc : Nat} {p : List Int} (h4 : Ints w4 pA pn pc p) (hl4 : Later w4 w) (hpl : p.length ≤ 1048576) :
    Calls Try.prog 16 #[.agg #[.slice sA0 sn0 sc0, .slice sA1 sn1 sc1, .slice sA2 sn2 sc2], .agg #[.slice qA0 qn0 qc0, .int .i64 f.Turn], .slice bA bn bc, .slice pA pn pc] w (Ret (.tuple #[.bool (pieceRes t f bs p).1, .bool (pieceRes t f bs p).2]) w) := by
  have HB0 : ∀ W [Later ((w.alloc (.cells #[.slice sA0 sn0 sc0, .slice sA1 sn1 sc1, .slice sA2 sn2 sc2] 43)).alloc (.cells #[.slice qA0 qn0 qc0, .int .i64 f.Turn] 45)) W] (j : Nat), W.cell? ⟨w.heap.size, j, none⟩ = #[.slice sA0 sn0 sc0, .slice sA1 sn1 sc1, .slice sA2 sn2 sc2][j]? := Later.boxes (t := 43) (fr := (0, 0)) ((heap_old (by simp; try omega)).trans (heap_new (by simp; try omega))); have HB1 : ∀ W [Later ((w.alloc (.cells #[.slice sA0 sn0 sc0, .slice sA1 sn1 sc1, .slice sA2 sn2 sc2] 43)).alloc (.cells #[.slice qA0 qn0 qc0, .int .i64 f.Turn] 45)) W] (j : Nat), W.cell? ⟨w.heap.size + 1, j, none⟩ = #[.slice qA0 qn0 qc0, .int .i64 f.Turn][j]? := Later.boxes (t := 45) (fr := (0, 0)) (heap_new (by simp; try omega)); obtain ⟨wb, hwb⟩ : ∃ wb : World, wb = ((w.alloc (.cells #[.slice sA0 sn0 sc0, .slice sA1 sn1 sc1, .slice sA2 sn2 sc2] 43)).alloc (.cells #[.slice qA0 qn0 qc0, .int .i64 f.Turn] 45)) := ⟨_, rfl⟩; haveI hbW : Later wb ((w.alloc (.cells #[.slice sA0 sn0 sc0, .slice sA1 sn1 sc1, .slice sA2 sn2 sc2] 43)).alloc (.cells #[.slice qA0 qn0 qc0, .int .i64 f.Turn] 45)) := (by rw [hwb]; exact Later.rfl_); haveI hww : Later w wb := (by rw [hwb]; infer_instance); rw [← hwb] at HB0; rw [← hwb] at HB1; have hbE := Lib.hid (congrArg (fun x : World => x.heap.size) hwb); clear hwb
  have hwb0 := hl.trans hww
  have hwb2 := hl2.trans hww
  have hwb3 := hl3.trans hww
  have H := Lib.hid h
  have H2 := Lib.hid h2
  have H3 := Lib.hid h3
  clear h h2 h3
  have hwb4 := hl4.trans hww
  have H4 := Lib.hid h4
  have HPL := Lib.hid hpl
  clear h4 hpl
  by_cases c0 : okBlocks t f bs = true
  · have RW := Lib.hid (rows12 c0)
    rw [show pieceRes t f bs p = (pieceOk bs p, true) from if_pos c0]
    go_enter Try.func16, Try.ntmps16
    go_wp2_with first
      | (go_at_call 49; refine (impl_IsValidBlocks H.out (hwb0.trans inferInstance) H2.out (hwb2.trans inferInstance) H3.out (hwb3.trans inferInstance)).mono ?_; rintro e w1 ⟨rfl, L1⟩; have X1 := Later.trans (w := wb) inferInstance L1)
      | (go_at_call 50; refine (impl_isPiece H3.out (hwb3.trans inferInstance) RW.out H4.out (hwb4.trans inferInstance) HPL.out).mono ?_; rintro e w2 ⟨rfl, L2⟩; have X2 := Later.trans (w := wb) inferInstance L2)
    go_ret2
    exact ⟨rfl, hww.trans inferInstance⟩
  · have c1 : okBlocks t f bs = false := by simpa using c0
    rw [show pieceRes t f bs p = (false, false) from if_neg c0]
    clear c0
    go_enter Try.func16, Try.ntmps16
    go_wp2_with (go_at_call 49; refine (impl_IsValidBlocks H.out (hwb0.trans inferInstance) H2.out (hwb2.trans inferInstance) H3.out (hwb3.trans inferInstance)).mono ?_; rintro e w1 ⟨rfl, L1⟩; have X1 := Later.trans (w := wb) inferInstance L1)
    go_ret2
    exact ⟨rfl, hww.trans inferInstance⟩
set_option maxHeartbeats 800000 in
theorem spec_IsPiece {w0 w w2 w3 : World} {sA0 : Option Addr} {sn0 sc0 : Nat} {sA1 : Option Addr} {sn1 sc1 : Nat} {sA2 : Option Addr} {sn2 sc2 : Nat} {t : Timetable} (h : TimetableAt w0 sA0 sn0 sc0 sA1 sn1 sc1 sA2 sn2 sc2 t) (hl : Later w0 w) {qA0 : Option Addr} {qn0 qc0 : Nat} {f : Fleet} (h2 : FleetAt w2 qA0 qn0 qc0 f) (hl2 : Later w2 w) {bA : Option Addr} {bn bc : Nat} {bs : List (List Int)} (h3 : Sl 1 (rSl 1 rInt) w3 bA bn bc bs) (hl3 : Later w3 w) {w4 : World} {pA : Option Addr} {pn pc : Nat} {p : List Int} (h4 : Ints w4 pA pn pc p) (hl4 : Later w4 w) (hpl : p.length ≤ 1048576) :
    Calls Try.prog 11 #[.agg #[.slice sA0 sn0 sc0, .slice sA1 sn1 sc1, .slice sA2 sn2 sc2], .agg #[.slice qA0 qn0 qc0, .int .i64 f.Turn], .slice bA bn bc, .slice pA pn pc] w (Ret (.tuple #[.bool (pieceRes t f bs p).1, .bool (pieceRes t f bs p).2]) w) := by
  have HB0 : ∀ W [Later ((w.alloc (.cells #[.slice sA0 sn0 sc0, .slice sA1 sn1 sc1, .slice sA2 sn2 sc2] 43)).alloc (.cells #[.slice qA0 qn0 qc0, .int .i64 f.Turn] 45)) W] (j : Nat), W.cell? ⟨w.heap.size, j, none⟩ = #[.slice sA0 sn0 sc0, .slice sA1 sn1 sc1, .slice sA2 sn2 sc2][j]? := Later.boxes (t := 43) (fr := (0, 0)) ((heap_old (by simp; try omega)).trans (heap_new (by simp; try omega))); have HB1 : ∀ W [Later ((w.alloc (.cells #[.slice sA0 sn0 sc0, .slice sA1 sn1 sc1, .slice sA2 sn2 sc2] 43)).alloc (.cells #[.slice qA0 qn0 qc0, .int .i64 f.Turn] 45)) W] (j : Nat), W.cell? ⟨w.heap.size + 1, j, none⟩ = #[.slice qA0 qn0 qc0, .int .i64 f.Turn][j]? := Later.boxes (t := 45) (fr := (0, 0)) (heap_new (by simp; try omega)); obtain ⟨wb, hwb⟩ : ∃ wb : World, wb = ((w.alloc (.cells #[.slice sA0 sn0 sc0, .slice sA1 sn1 sc1, .slice sA2 sn2 sc2] 43)).alloc (.cells #[.slice qA0 qn0 qc0, .int .i64 f.Turn] 45)) := ⟨_, rfl⟩; haveI hbW : Later wb ((w.alloc (.cells #[.slice sA0 sn0 sc0, .slice sA1 sn1 sc1, .slice sA2 sn2 sc2] 43)).alloc (.cells #[.slice qA0 qn0 qc0, .int .i64 f.Turn] 45)) := (by rw [hwb]; exact Later.rfl_); haveI hww : Later w wb := (by rw [hwb]; infer_instance); rw [← hwb] at HB0; rw [← hwb] at HB1; have hbE := Lib.hid (congrArg (fun x : World => x.heap.size) hwb); clear hwb
  have hwb0 := hl.trans hww
  have hwb2 := hl2.trans hww
  have hwb3 := hl3.trans hww
  have H := Lib.hid h
  have H2 := Lib.hid h2
  have H3 := Lib.hid h3
  clear h h2 h3
  have hwb4 := hl4.trans hww
  have H4 := Lib.hid h4
  have HPL := Lib.hid hpl
  clear h4 hpl
  by_cases c0 : okBlocks t f bs = true
  · have RW := Lib.hid (rows12 c0)
    rw [show pieceRes t f bs p = (pieceOk bs p, true) from if_pos c0]
    go_enter Try.func11, Try.ntmps11
    go_wp2_with first
      | (go_at_call 45; refine (spec_l12Blocks H.out (hwb0.trans inferInstance) H2.out (hwb2.trans inferInstance) H3.out (hwb3.trans inferInstance)).mono ?_; rintro e w1 ⟨rfl, L1⟩; have X1 := Later.trans (w := wb) inferInstance L1)
      | (go_at_call 46; refine (spec_l12Piece H3.out (hwb3.trans inferInstance) RW.out H4.out (hwb4.trans inferInstance) HPL.out).mono ?_; rintro e w2 ⟨rfl, L2⟩; have X2 := Later.trans (w := wb) inferInstance L2)
    go_ret2
    exact ⟨rfl, hww.trans inferInstance⟩
  · have c1 : okBlocks t f bs = false := by simpa using c0
    rw [show pieceRes t f bs p = (false, false) from if_neg c0]
    clear c0
    go_enter Try.func11, Try.ntmps11
    go_wp2_with (go_at_call 45; refine (spec_l12Blocks H.out (hwb0.trans inferInstance) H2.out (hwb2.trans inferInstance) H3.out (hwb3.trans inferInstance)).mono ?_; rintro e w1 ⟨rfl, L1⟩; have X1 := Later.trans (w := wb) inferInstance L1)
    go_ret2
    exact ⟨rfl, hww.trans inferInstance⟩
end Go.Proofs.Ythibhehnakikpaa
