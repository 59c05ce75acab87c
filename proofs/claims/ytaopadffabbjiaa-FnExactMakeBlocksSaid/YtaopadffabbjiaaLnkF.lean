/-
  MakeBlocks: impl.MakeBlocks.
-/
import Derived.Test.YtaopadffabbjiaaLnkD
import Derived.Test.YtaopadffabbjiaaBlkD
namespace Go.Proofs.Ytaopadffabbjiaa
open Go Go.RowKit
set_option linter.unusedVariables false
set_option maxRecDepth 100000
set_option linter.unusedSimpArgs false
def blkRes (t : Timetable) (f : Fleet) : List (List Int) × Int × Bool := if okRun t f = true then (blkRows t f, blkDead t f, true) else ([], 0, false)
/-- A slice in blocks of its own, a number and a Bool. -/
def RetK3 {α : Type} (sz : Nat) (ro : ORep α) (l : List α) (z : Int) (b : Bool) (w : World) (e : Ending) (w' : World) : Prop :=
  ∃ A n c fp, e = .returned (.tuple #[.slice A n c, .int .i64 z, .bool b]) ∧ OSl sz ro w' A n c l fp ∧ fp.Nodup ∧ (∀ g, g ∈ fp → w.heap.size ≤ g) ∧ Later w w'
set_option maxHeartbeats 1600000 in
theorem impl_MakeBlocks {w0 w w2 : World} {sA0 : Option Addr} {sn0 sc0 : Nat} {sA1 : Option Addr} {sn1 sc1 : Nat} {sA2 : Option Addr} {sn2 sc2 : Nat} {t : Timetable} (h : TimetableAt w0 sA0 sn0 sc0 sA1 sn1 sc1 sA2 sn2 sc2 t) (hl : Later w0 w) {qA0 : Option Addr} {qn0 qc0 : Nat} {f : Fleet} (h2 : FleetAt w2 qA0 qn0 qc0 f) (hl2 : Later w2 w) :
    Calls Try.prog 11 #[.agg #[.slice sA0 sn0 sc0, .slice sA1 sn1 sc1, .slice sA2 sn2 sc2], .agg #[.slice qA0 qn0 qc0, .int .i64 f.Turn]] w (RetK3 1 (oSl 1 oInt) (blkRes t f).1 (blkRes t f).2.1 (blkRes t f).2.2 w) := by
  have HB0 : ∀ W [Later ((w.alloc (.cells #[.slice sA0 sn0 sc0, .slice sA1 sn1 sc1, .slice sA2 sn2 sc2] 41)).alloc (.cells #[.slice qA0 qn0 qc0, .int .i64 f.Turn] 43)) W] (j : Nat), W.cell? ⟨w.heap.size, j, none⟩ = #[.slice sA0 sn0 sc0, .slice sA1 sn1 sc1, .slice sA2 sn2 sc2][j]? := Later.boxes (t := 41) (fr := (0, 0)) ((heap_old (by simp; try omega)).trans (heap_new (by simp; try omega))); have HB1 : ∀ W [Later ((w.alloc (.cells #[.slice sA0 sn0 sc0, .slice sA1 sn1 sc1, .slice sA2 sn2 sc2] 41)).alloc (.cells #[.slice qA0 qn0 qc0, .int .i64 f.Turn] 43)) W] (j : Nat), W.cell? ⟨w.heap.size + 1, j, none⟩ = #[.slice qA0 qn0 qc0, .int .i64 f.Turn][j]? := Later.boxes (t := 43) (fr := (0, 0)) (heap_new (by simp; try omega)); obtain ⟨wb, hwb⟩ : ∃ wb : World, wb = ((w.alloc (.cells #[.slice sA0 sn0 sc0, .slice sA1 sn1 sc1, .slice sA2 sn2 sc2] 41)).alloc (.cells #[.slice qA0 qn0 qc0, .int .i64 f.Turn] 43)) := ⟨_, rfl⟩; haveI hbW : Later wb ((w.alloc (.cells #[.slice sA0 sn0 sc0, .slice sA1 sn1 sc1, .slice sA2 sn2 sc2] 41)).alloc (.cells #[.slice qA0 qn0 qc0, .int .i64 f.Turn] 43)) := (by rw [hwb]; exact Later.rfl_); haveI hww : Later w wb := (by rw [hwb]; infer_instance); rw [← hwb] at HB0; rw [← hwb] at HB1; have hbE := Lib.hid (congrArg (fun x : World => x.heap.size) hwb); clear hwb
  have hbs : wb.heap.size = w.heap.size + 2 := by simpa using hbE.out
  have hwb0 := hl.trans hww
  have hwb2 := hl2.trans hww
  clear hbE
  by_cases c : okRun t f = true
  · have RF := Lib.hid (runFacts c)
    rw [show blkRes t f = (blkRows t f, blkDead t f, true) from if_pos c]
    go_enter Try.func11, Try.ntmps11
    go_wp2_with first
      | (go_at_call 49; refine (impl_isRun h (hwb0.trans inferInstance) h2 (hwb2.trans inferInstance)).mono ?_; rintro e w1 ⟨rfl, L1⟩; have X1 := Later.trans (w := wb) inferInstance L1)
      | (go_at_call 50; refine (impl_makeBlocks h (hwb0.trans inferInstance) h2 (hwb2.trans inferInstance) RF.out).mono ?_; rintro e w3 ⟨A3, n3, c3, fp3, rfl, ho3, hnd3, hlo3, L3⟩; have X3 := Later.trans (w := wb) inferInstance L3)
    go_ret3
    exact ⟨A3, n3, c3, fp3, rfl, ho3, hnd3, fun g hg => by have := hlo3 g hg; have := X1.size; omega, hww.trans inferInstance⟩
  · have c1 : okRun t f = false := Bool.eq_false_iff.2 c
    rw [show blkRes t f = ([], 0, false) from if_neg c]
    clear c
    go_enter Try.func11, Try.ntmps11
    go_wp2_with (go_at_call 49; refine (impl_isRun h (hwb0.trans inferInstance) h2 (hwb2.trans inferInstance)).mono ?_; rintro e w1 ⟨rfl, L1⟩; have X1 := Later.trans (w := wb) inferInstance L1)
    go_ret3
    exact ⟨_, _, _, [], rfl, OSl.nil_ _, by simp, by simp, hww.trans inferInstance⟩
end Go.Proofs.Ytaopadffabbjiaa
