/-
  MakeBlocks: spec.MakeBlocks.
-/
import Derived.Test.YtaopadffabbjiaaLnkF
import Derived.Test.YtaopadffabbjiaaLnkU
import Derived.Test.YtaopadffabbjiaaLnkV
import Derived.Test.YtaopadffabbjiaaLnkW
import Derived.Test.YtaopadffabbjiaaJh
namespace Go.Proofs.Ytaopadffabbjiaa
open Go Go.RowKit
set_option linter.unusedVariables false
set_option maxRecDepth 100000
set_option linter.unusedSimpArgs false
set_option maxHeartbeats 1600000 in
theorem spec_MakeBlocks {w0 w w2 : World} {sA0 : Option Addr} {sn0 sc0 : Nat} {sA1 : Option Addr} {sn1 sc1 : Nat} {sA2 : Option Addr} {sn2 sc2 : Nat} {t : Timetable} (h : TimetableAt w0 sA0 sn0 sc0 sA1 sn1 sc1 sA2 sn2 sc2 t) (hl : Later w0 w) {qA0 : Option Addr} {qn0 qc0 : Nat} {f : Fleet} (h2 : FleetAt w2 qA0 qn0 qc0 f) (hl2 : Later w2 w) :
    Calls Try.prog 8 #[.agg #[.slice sA0 sn0 sc0, .slice sA1 sn1 sc1, .slice sA2 sn2 sc2], .agg #[.slice qA0 qn0 qc0, .int .i64 f.Turn]] w (RetK3 1 (oSl 1 oInt) (blkRes t f).1 (blkRes t f).2.1 (blkRes t f).2.2 w) := by
  have HB0 : ∀ W [Later ((w.alloc (.cells #[.slice sA0 sn0 sc0, .slice sA1 sn1 sc1, .slice sA2 sn2 sc2] 41)).alloc (.cells #[.slice qA0 qn0 qc0, .int .i64 f.Turn] 43)) W] (j : Nat), W.cell? ⟨w.heap.size, j, none⟩ = #[.slice sA0 sn0 sc0, .slice sA1 sn1 sc1, .slice sA2 sn2 sc2][j]? := Later.boxes (t := 41) (fr := (0, 0)) ((heap_old (by simp; try omega)).trans (heap_new (by simp; try omega))); have HB1 : ∀ W [Later ((w.alloc (.cells #[.slice sA0 sn0 sc0, .slice sA1 sn1 sc1, .slice sA2 sn2 sc2] 41)).alloc (.cells #[.slice qA0 qn0 qc0, .int .i64 f.Turn] 43)) W] (j : Nat), W.cell? ⟨w.heap.size + 1, j, none⟩ = #[.slice qA0 qn0 qc0, .int .i64 f.Turn][j]? := Later.boxes (t := 43) (fr := (0, 0)) (heap_new (by simp; try omega)); obtain ⟨wb, hwb⟩ : ∃ wb : World, wb = ((w.alloc (.cells #[.slice sA0 sn0 sc0, .slice sA1 sn1 sc1, .slice sA2 sn2 sc2] 41)).alloc (.cells #[.slice qA0 qn0 qc0, .int .i64 f.Turn] 43)) := ⟨_, rfl⟩; haveI hbW : Later wb ((w.alloc (.cells #[.slice sA0 sn0 sc0, .slice sA1 sn1 sc1, .slice sA2 sn2 sc2] 41)).alloc (.cells #[.slice qA0 qn0 qc0, .int .i64 f.Turn] 43)) := (by rw [hwb]; exact Later.rfl_); haveI hww : Later w wb := (by rw [hwb]; infer_instance); rw [← hwb] at HB0; rw [← hwb] at HB1; have hbE := Lib.hid (congrArg (fun x : World => x.heap.size) hwb); clear hwb
  have hbs : wb.heap.size = w.heap.size + 2 := by simpa using hbE.out
  have hwb0 := hl.trans hww
  have hwb2 := hl2.trans hww
  clear hbE
  by_cases c : okRun t f = true
  · have RF := Lib.hid (runFacts c)
    have OK := Lib.hid (show okTimetable t = true by unfold okRun at c; rw [Bool.and_eq_true] at c; exact c.1)
    have HDA := Lib.hid (deadAll_blk OK.out RF.out)
    rw [show blkRes t f = (blkRows t f, blkDead t f, true) from if_pos c]
    go_enter Try.func8, Try.ntmps8
    go_wp2_with (go_at_call 43; refine (spec_l11Asked h (hwb0.trans inferInstance) h2 (hwb2.trans inferInstance)).mono ?_; rintro e w1 ⟨rfl, L1⟩; have X1 := Later.trans (w := wb) inferInstance L1)
    refine wp_region_held_drew (S := (fun w' => Later wb w')) (by kernel_rfl) (by exact inferInstance) (fun hHeld => ?_)
    refine wpAnyH_take (i := 0) (v := ?_) (by simp only [List.getElem?_toArray, List.getElem?_cons_zero] <;> rfl) (by kernel_rfl) (by kernel_rfl) (by kernel_rfl) (by exact fun _ _ _ h => h) (Or.inl ⟨by kernel_rfl, ?_⟩) (by assumption) ?_
    rotate_left
    · intro w' hSw; (try dsimp only at hSw); go_simp; try with_reducible rfl
    try simp only [Act.put, List.setIfInBounds_toArray, List.set_cons_zero, List.set_cons_succ]
    refine wpAnyH_take (i := 1) (v := ?_) (by simp only [List.getElem?_toArray, List.getElem?_cons_succ, List.getElem?_cons_zero] <;> rfl) (by kernel_rfl) (by kernel_rfl) (by kernel_rfl) (by exact fun _ _ _ h => h) (Or.inl ⟨by kernel_rfl, ?_⟩) (by assumption) ?_
    rotate_left
    · intro w' hSw; (try dsimp only at hSw); go_simp; try with_reducible rfl
    try simp only [Act.put, List.setIfInBounds_toArray, List.set_cons_zero, List.set_cons_succ]
    refine wpAnyH_take (i := 2) (v := ?_) (by simp only [List.getElem?_toArray, List.getElem?_cons_succ, List.getElem?_cons_zero] <;> rfl) (by kernel_rfl) (by kernel_rfl) (by kernel_rfl) (by exact fun _ _ _ h => h) (Or.inl ⟨by kernel_rfl, ?_⟩) (by assumption) ?_
    rotate_left
    · intro w' hSw; (try dsimp only at hSw); go_simp; try with_reducible rfl
    try simp only [Act.put, List.setIfInBounds_toArray, List.set_cons_zero, List.set_cons_succ]
    refine wpAnyH_ready (rs := [3]) (by kernel_rfl) (by simp) (AllReadyH.cons rfl (fun K hK => ?_) AllReadyH.nil)
    go_simp
    (go_at_call 45; go_loud (refine (spec_l11Before h (hwb0.trans inferInstance) h2 (hwb2.trans inferInstance) RF.out).mono ?_; rintro e w3 ⟨A3, n3, c3, fp3, rfl, ho3, hnd3, hlo3, L3⟩; have X3 := Later.trans (w := wb) inferInstance L3; have H3 := Lib.hid (show Ints w3 A3 n3 c3 ((blkBs t f).map bI) from ho3.reads)))
    refine hK.out _ _ (by exact inferInstance) (fun hHeld => ?_)
    try simp only [Act.put, List.setIfInBounds_toArray, List.set_cons_zero, List.set_cons_succ]
    refine wpAnyH_ready (rs := [4]) (by kernel_rfl) (by simp) (AllReadyH.cons rfl (fun K hK => ?_) AllReadyH.nil)
    go_simp
    (go_at_call 44; go_loud (refine (spec_l11Chains h (hwb0.trans inferInstance) RF.out H3.out inferInstance).mono ?_; rintro e w4 ⟨A4, n4, c4, fp4, rfl, ho4, hnd4, hlo4, L4⟩; have X4 := Later.trans (w := wb) inferInstance L4; have H4 := Lib.hid (show Sl 1 (rSl 1 rInt) w4 A4 n4 c4 (blkRows t f) from ho4.reads)))
    refine hK.out _ _ (by exact inferInstance) (fun hHeld => ?_)
    try simp only [Act.put, List.setIfInBounds_toArray, List.set_cons_zero, List.set_cons_succ]
    refine wpAnyH_take (i := 5) (v := ?_) (by simp only [List.getElem?_toArray, List.getElem?_cons_succ, List.getElem?_cons_zero] <;> rfl) (by kernel_rfl) (by kernel_rfl) (by kernel_rfl) (by exact fun _ _ _ h => h) (Or.inl ⟨by kernel_rfl, ?_⟩) (by assumption) ?_
    rotate_left
    · intro w' hSw; (try dsimp only at hSw); go_simp; try with_reducible rfl
    try simp only [Act.put, List.setIfInBounds_toArray, List.set_cons_zero, List.set_cons_succ]
    refine wpAnyH_done (by kernel_rfl) ?_ _
    go_wp2_with (go_at_call 46; go_loud (refine (spec_l11Sum h (hwb0.trans inferInstance) h2 (hwb2.trans inferInstance) H4.out inferInstance (blkDeadFacts OK.out RF.out)).mono ?_; rw [HDA.out]; rintro e w5 ⟨rfl, L5⟩; have X5 := Later.trans (w := wb) inferInstance L5; have Z5 := Later.trans (w := w4) inferInstance L5))
    go_ret3
    exact ⟨A4, n4, c4, fp4, rfl, ho4.later Z5, hnd4, fun g hg => by have := hlo4 g hg; have := X3.size; omega, hww.trans inferInstance⟩
  · have c1 : okRun t f = false := Bool.eq_false_iff.2 c
    rw [show blkRes t f = ([], 0, false) from if_neg c]
    clear c
    go_enter Try.func8, Try.ntmps8
    go_wp2_with (go_at_call 43; refine (spec_l11Asked h (hwb0.trans inferInstance) h2 (hwb2.trans inferInstance)).mono ?_; rintro e w1 ⟨rfl, L1⟩; have X1 := Later.trans (w := wb) inferInstance L1)
    go_ret3
    exact ⟨_, _, _, [], rfl, OSl.nil_ _, by simp, by simp, hww.trans inferInstance⟩
theorem blkRes_bd (t : Timetable) (f : Fleet) : (blkRes t f).1.length ≤ 12 ∧ sumLen (blkRes t f).1 ≤ 156 := by
  unfold blkRes
  split
  · rename_i c
    have rf := runFacts c
    have hlen := rf.time.len
    have h1 := blkUp_len t f t.Trips.length
    have key : ∀ k, k ≤ t.Trips.length → sumLen (blkUp t f k) ≤ k * 13 := by
      intro k
      induction k with
      | zero => intro _; simp [blkUp, sumLen]
      | succ k ih =>
        intro hk
        have ih := ih (by omega)
        have hb := List.getElem?_eq_getElem (l := blkBs t f) (i := k) (by rw [blkBs_len]; omega)
        cases c2 : (blkBs t f)[k]'(by rw [blkBs_len]; omega) with
        | some a => rw [c2] at hb; rw [blkUp_no hb]; omega
        | none =>
          rw [c2] at hb
          rw [blkUp_yes hb, sumLen_append]
          have h9 := chain_len (blkBs t f) ((blkBs t f).length + 1) k
          have h8 : (blkIds t f k).length ≤ 13 := by
            unfold blkIds chain
            rw [List.length_map]
            rw [blkBs_len] at h9 ⊢
            omega
          simp only [sumLen]
          omega
    have h2 := key t.Trips.length (Nat.le_refl _)
    simp only
    unfold blkRows
    omega
  · simp [sumLen]
end Go.Proofs.Ytaopadffabbjiaa
