/-
  Networks: the reference's lines, and when a network is valid.
-/
import Derived.Test.YtaopadffabbjiaaNetB
namespace Go.Proofs.Ytaopadffabbjiaa
open Go Go.RowKit
set_option linter.unusedVariables false
set_option maxRecDepth 100000
theorem okLineS_no0 {ns : Nat} {x : Line} (h : okName x.Name = false) : okLineS ns x = false := by unfold okLineS; rw [h]; rfl
theorem okLineS_no {ns : Nat} {x : Line} (h : okLine ns x = false) : okLineS ns x = false := by unfold okLineS; rw [h]; simp
theorem okLineS_yes {ns : Nat} {x : Line} (h0 : okName x.Name = true) (h : okLine ns x = true) : okLineS ns x = true := by unfold okLineS; rw [h, h0]; rfl
set_option maxHeartbeats 800000 in
theorem spec_l2Line {w0 w : World} {ns : Nat} {qA0 : Option Addr} {qn0 qc0 : Nat} {qA1 : Option Addr} {qn1 qc1 : Nat} {x : Line} (h' : LineAt w0 qA0 qn0 qc0 qA1 qn1 qc1 x) (hl : Later w0 w) (hns : ns ≤ 1048576) :
    Calls Try.prog 131 #[.agg #[.string x.Name, .slice qA0 qn0 qc0, .slice qA1 qn1 qc1], .int .i64 ns] w (Ret (.bool (okLineS ns x)) w) := by
  replace h' := h'.later hl
  have hS := h'.l_Stops
  have hR := h'.l_Runs
  have hnm : x.Name.size ≤ 9223372036854775807 := by have := h'.s_Name; unfold maxLen at this; exact this
  have hn0 := hS.le
  have hn1 := hR.le
  have Hls := Lib.hid hS.len
  have Hlr := Lib.hid hR.len
  have HB0 : ∀ W [Later (w.alloc (.cells #[.string x.Name, .slice qA0 qn0 qc0, .slice qA1 qn1 qc1] 109)) W] (j : Nat), W.cell? ⟨w.heap.size, j, none⟩ = #[.string x.Name, .slice qA0 qn0 qc0, .slice qA1 qn1 qc1][j]? := Later.boxes (t := 109) (fr := (0, 0)) (heap_new (by simp; try omega))
  have hB : Later w (w.alloc (.cells #[.string x.Name, .slice qA0 qn0 qc0, .slice qA1 qn1 qc1] 109)) := inferInstance
  by_cases b0 : okName x.Name = true
  rotate_left
  · have g0 : okName x.Name = false := by simpa using b0
    have HN := Lib.hid (okLineS_no0 (ns := ns) g0)
    clear b0
    go_enter Try.func131, Try.ntmps131
    go_wp2_with first
      | (go_at_call 55; refine (spec_l1In _ _ _ _).mono ?_; rintro e w' ⟨rfl, rfl⟩)
      | (go_at_call 129; refine (spec_l2Name _ hnm _).mono ?_; rintro e w' ⟨rfl, rfl⟩)
    go_ret
    exact ⟨ret_bool HN.out.symm, inferInstance⟩
  by_cases b1 : inB qn0 2 6 = true
  rotate_left
  · have g1 : inB qn0 2 6 = false := by simpa using b1
    have HN : Hid (okLineS ns x = false) := okLineS_no (okLine_no1 (by rw [← Hls.out]; exact g1))
    clear b1
    go_enter Try.func131, Try.ntmps131
    go_wp2_with first
      | (go_at_call 55; refine (spec_l1In _ _ _ _).mono ?_; rintro e w' ⟨rfl, rfl⟩)
      | (go_at_call 129; refine (spec_l2Name _ hnm _).mono ?_; rintro e w' ⟨rfl, rfl⟩)
    go_ret
    exact ⟨ret_bool HN.out.symm, inferInstance⟩
  have c2 := inB_t.1 b1
  have hq1 : 2 ≤ qn0 := by omega
  have hq2 : qn0 ≤ 6 := by omega
  clear c2
  by_cases b2 : qn1 + 1 = qn0
  rotate_left
  · have g2 : ((qn1 : Int) != (qn0 : Int) - 1) = true := by rw [bne_iff_ne]; omega
    have HN : Hid (okLineS ns x = false) := okLineS_no (okLine_no2 (by rw [← Hls.out, ← Hlr.out]; exact b2))
    clear b2
    go_enter Try.func131, Try.ntmps131
    go_wp2_with first
      | (go_at_call 55; refine (spec_l1In _ _ _ _).mono ?_; rintro e w' ⟨rfl, rfl⟩)
      | (go_at_call 129; refine (spec_l2Name _ hnm _).mono ?_; rintro e w' ⟨rfl, rfl⟩)
    go_ret
    exact ⟨ret_bool HN.out.symm, inferInstance⟩
  have g2 : ((qn1 : Int) != (qn0 : Int) - 1) = false := by rw [bne_eq_false_iff_eq]; omega
  have B0 := Lib.hid b0
  have B1 : Hid (inB x.Stops.length 2 6 = true) := by rw [← Hls.out]; exact b1
  have B2 : Hid (x.Runs.length + 1 = x.Stops.length) := by rw [← Hls.out, ← Hlr.out]; exact b2
  clear b2
  go_enter Try.func131, Try.ntmps131
  go_wp2_with first
    | (go_at_call 55; refine (spec_l1In _ _ _ _).mono ?_; rintro e w' ⟨rfl, rfl⟩)
    | (go_at_call 129; refine (spec_l2Name _ hnm _).mono ?_; rintro e w' ⟨rfl, rfl⟩)
  clear b1 g2 b0
  go_loopw [5] (fun i wr => ∃ k : Nat, k ≤ qn0 ∧ i = .int .i64 k ∧ Hid (allFrom (stopAt ns x.Stops) (x.Stops.drop k) k = allFrom (stopAt ns x.Stops) x.Stops 0) ∧ Later (w.alloc (.cells #[.string x.Name, .slice qA0 qn0 qc0, .slice qA1 qn1 qc1] 109)) wr) (fun i _ => qn0 - (intOf i).toNat)
  case atStart => exact ⟨0, by omega, rfl, rfl, inferInstance⟩
  case round =>
    obtain ⟨k, hk, rfl, HF, hX⟩ := hrel
    have hU := Later.trans (w := w) inferInstance hX
    by_cases hlt : k < qn0
    · have H' := Lib.hid h'
      obtain ⟨b, o, y, hA, hy, hc, hi⟩ := Ints.at_ hS hlt
      have HF1 : Hid (allFrom (stopAt ns x.Stops) x.Stops 0 = (stopAt ns x.Stops k y && allFrom (stopAt ns x.Stops) (x.Stops.drop (k + 1)) (k + 1))) := by rw [← HF.out, drop_at hy.out]; rfl
      clear HF
      subst hA
      by_cases c1 : inB y 0 ((ns : Int) - 1) = true
      · by_cases c2 : idx (intIs y) x.Stops = k
        · have HF2 : Hid (allFrom (stopAt ns x.Stops) (x.Stops.drop (k + 1)) (k + 1) = allFrom (stopAt ns x.Stops) x.Stops 0) := by rw [HF1.out, stopAt_yes c1 c2]; rfl
          have e2 := bnei_f c2
          clear HF1 c2
          go_wp2_with fail
          have hwr : IntKind.i64.wrap ((ns : Int) - 1) = (ns : Int) - 1 := by rw [IntKind.wrap_i64]; omega
          go_region_held3 (fun w' => Later w w' ∧ Later (w.alloc (.cells #[.string x.Name, .slice (some ⟨b, o, none⟩) qn0 qc0, .slice qA1 qn1 qc1] 109)) w') (exact ⟨inferInstance, inferInstance⟩) (first | (go_at_call 55; refine (spec_l1In _ _ _ _).mono ?_; rintro e w' ⟨rfl, rfl⟩) | (go_at_call 141; refine (spec_l2Place H'.out inferInstance _).mono ?_; rintro e w2 ⟨rfl, L2⟩; have hX2 := Later.trans (w := (w.alloc (.cells #[.string x.Name, .slice (some ⟨b, o, none⟩) qn0 qc0, .slice qA1 qn1 qc1] 109))) inferInstance L2; have hU2 := Later.trans (w := w) inferInstance L2))
          clear hwr
          go_wp2
          go_roundw
          case rel => exact ⟨k + 1, by omega, by go_num, HF2, inferInstance⟩
          case measure => simp [intOf]; omega
        · have HF2 : Hid (okLineS ns x = false) := okLineS_no (okLine_no3 (by rw [HF1.out, stopAt_no2 c2]; rfl))
          have e2 := bnei_t c2
          clear HF1 c2
          go_wp2_with fail
          have hwr : IntKind.i64.wrap ((ns : Int) - 1) = (ns : Int) - 1 := by rw [IntKind.wrap_i64]; omega
          go_region_held3 (fun w' => Later w w' ∧ Later (w.alloc (.cells #[.string x.Name, .slice (some ⟨b, o, none⟩) qn0 qc0, .slice qA1 qn1 qc1] 109)) w') (exact ⟨inferInstance, inferInstance⟩) (first | (go_at_call 55; refine (spec_l1In _ _ _ _).mono ?_; rintro e w' ⟨rfl, rfl⟩) | (go_at_call 141; refine (spec_l2Place H'.out inferInstance _).mono ?_; rintro e w2 ⟨rfl, L2⟩; have hX2 := Later.trans (w := (w.alloc (.cells #[.string x.Name, .slice (some ⟨b, o, none⟩) qn0 qc0, .slice qA1 qn1 qc1] 109))) inferInstance L2; have hU2 := Later.trans (w := w) inferInstance L2))
          clear hwr
          go_wp2
          go_ret
          exact ⟨ret_bool HF2.out.symm, inferInstance⟩
      · have c3 : inB y 0 ((ns : Int) - 1) = false := by simpa using c1
        have HF2 : Hid (okLineS ns x = false) := okLineS_no (okLine_no3 (by rw [HF1.out, stopAt_no1 c3]; rfl))
        clear HF1 c1
        go_wp2_with fail
        have hwr : IntKind.i64.wrap ((ns : Int) - 1) = (ns : Int) - 1 := by rw [IntKind.wrap_i64]; omega
        refine wp_region_held_drew (S := (fun w' => Later w w' ∧ Later (w.alloc (.cells #[.string x.Name, .slice (some ⟨b, o, none⟩) qn0 qc0, .slice qA1 qn1 qc1] 109)) w')) (by kernel_rfl) (by exact ⟨inferInstance, inferInstance⟩) (fun hHeld => ?_)
        refine wpAnyH_take (i := 0) (v := ?_) (by simp only [List.getElem?_toArray, List.getElem?_cons_zero] <;> rfl) (by kernel_rfl) (by kernel_rfl) (by kernel_rfl) (by exact fun _ _ _ h => h) (Or.inl ⟨by kernel_rfl, ?_⟩) (by assumption) ?_
        rotate_left
        · intro w' hSw; (try dsimp only at hSw); go_simp; try with_reducible rfl
        try simp only [Act.put, List.setIfInBounds_toArray, List.set_cons_zero, List.set_cons_succ]
        refine wpAnyH_take (i := 1) (v := ?_) (by simp only [List.getElem?_toArray, List.getElem?_cons_succ, List.getElem?_cons_zero] <;> rfl) (by kernel_rfl) (by kernel_rfl) (by kernel_rfl) (by exact fun _ _ _ h => h) (Or.inl ⟨by kernel_rfl, ?_⟩) (by assumption) ?_
        rotate_left
        · intro w' hSw; (try dsimp only at hSw); go_simp; try with_reducible rfl
        try simp only [Act.put, List.setIfInBounds_toArray, List.set_cons_zero, List.set_cons_succ]
        refine wpAnyH_take (i := 2) (v := ?_) (by simp only [List.getElem?_toArray, List.getElem?_cons_succ, List.getElem?_cons_zero] <;> rfl) (by kernel_rfl) (by kernel_rfl) (by kernel_rfl) (by exact fun _ _ _ h => h) (Or.inl ⟨by kernel_rfl, ?_⟩) (by assumption) ?_
        rotate_left
        · intro w' hSw; (try dsimp only at hSw); go_simp; try with_reducible rfl
        try simp only [Act.put, List.setIfInBounds_toArray, List.set_cons_zero, List.set_cons_succ]
        refine wpAnyH_take (i := 3) (v := ?_) (by simp only [List.getElem?_toArray, List.getElem?_cons_succ, List.getElem?_cons_zero] <;> rfl) (by kernel_rfl) (by kernel_rfl) (by kernel_rfl) (by exact fun _ _ _ h => h) (Or.inl ⟨by kernel_rfl, ?_⟩) (by assumption) ?_
        rotate_left
        · intro w' hSw; (try dsimp only at hSw); go_simp; try with_reducible rfl
        try simp only [Act.put, List.setIfInBounds_toArray, List.set_cons_zero, List.set_cons_succ]
        refine wpAnyH_take (i := 4) (v := ?_) (by simp only [List.getElem?_toArray, List.getElem?_cons_succ, List.getElem?_cons_zero] <;> rfl) (by kernel_rfl) (by kernel_rfl) (by kernel_rfl) (by exact fun _ _ _ h => h) (Or.inl ⟨by kernel_rfl, ?_⟩) (by assumption) ?_
        rotate_left
        · intro w' hSw; (try dsimp only at hSw); go_simp; try with_reducible rfl
        try simp only [Act.put, List.setIfInBounds_toArray, List.set_cons_zero, List.set_cons_succ]
        refine wpAnyH_take (i := 5) (v := ?_) (by simp only [List.getElem?_toArray, List.getElem?_cons_succ, List.getElem?_cons_zero] <;> rfl) (by kernel_rfl) (by kernel_rfl) (by kernel_rfl) (by exact fun _ _ _ h => h) (Or.inl ⟨by kernel_rfl, ?_⟩) (by assumption) ?_
        rotate_left
        · intro w' hSw; (try dsimp only at hSw); go_simp; try with_reducible rfl
        try simp only [Act.put, List.setIfInBounds_toArray, List.set_cons_zero, List.set_cons_succ]
        refine wpAnyH_take (i := 6) (v := ?_) (by simp only [List.getElem?_toArray, List.getElem?_cons_succ, List.getElem?_cons_zero] <;> rfl) (by kernel_rfl) (by kernel_rfl) (by kernel_rfl) (by exact fun _ _ _ h => h) (Or.inl ⟨by kernel_rfl, ?_⟩) (by assumption) ?_
        rotate_left
        · intro w' hSw; (try dsimp only at hSw); go_simp; try with_reducible rfl
        try simp only [Act.put, List.setIfInBounds_toArray, List.set_cons_zero, List.set_cons_succ]
        refine wpAnyH_ready (rs := [7]) (by kernel_rfl) (by simp) (AllReadyH.cons rfl (fun K hK => ?_) AllReadyH.nil)
        go_simp
        (go_at_call 55; refine (spec_l1In _ _ _ _).mono ?_; rintro e w' ⟨rfl, rfl⟩)
        refine hK.out _ _ (by exact ⟨inferInstance, inferInstance⟩) (fun hHeld => ?_)
        try simp only [Act.put, List.setIfInBounds_toArray, List.set_cons_zero, List.set_cons_succ]
        refine wpAnyH_take (i := 8) (v := ?_) (by simp only [List.getElem?_toArray, List.getElem?_cons_succ, List.getElem?_cons_zero] <;> rfl) (by kernel_rfl) (by kernel_rfl) (by kernel_rfl) (by exact fun _ _ _ h => h) (Or.inl ⟨by kernel_rfl, ?_⟩) (by assumption) ?_
        rotate_left
        · intro w' hSw; (try dsimp only at hSw); go_simp; try with_reducible rfl
        try simp only [Act.put, List.setIfInBounds_toArray, List.set_cons_zero, List.set_cons_succ]
        refine wpAnyH_take (i := 9) (v := ?_) (by simp only [List.getElem?_toArray, List.getElem?_cons_succ, List.getElem?_cons_zero] <;> rfl) (by kernel_rfl) (by kernel_rfl) (by kernel_rfl) (by exact fun _ _ _ h => h) (Or.inl ⟨by kernel_rfl, ?_⟩) (by assumption) ?_
        rotate_left
        · intro w' hSw; (try dsimp only at hSw); go_simp; try with_reducible rfl
        try simp only [Act.put, List.setIfInBounds_toArray, List.set_cons_zero, List.set_cons_succ]
        refine wpAnyH_take (i := 10) (v := undef) (by simp only [List.getElem?_toArray, List.getElem?_cons_succ, List.getElem?_cons_zero] <;> rfl) (by kernel_rfl) (by kernel_rfl) (by kernel_rfl) (by exact fun _ _ _ h => h) (Or.inr ⟨by kernel_rfl, rfl⟩) (by assumption) ?_
        try simp only [Act.put, List.setIfInBounds_toArray, List.set_cons_zero, List.set_cons_succ]
        refine wpAnyH_take (i := 11) (v := undef) (by simp only [List.getElem?_toArray, List.getElem?_cons_succ, List.getElem?_cons_zero] <;> rfl) (by kernel_rfl) (by kernel_rfl) (by kernel_rfl) (by exact fun _ _ _ h => h) (Or.inr ⟨by kernel_rfl, rfl⟩) (by assumption) ?_
        try simp only [Act.put, List.setIfInBounds_toArray, List.set_cons_zero, List.set_cons_succ]
        refine wpAnyH_take (i := 12) (v := undef) (by simp only [List.getElem?_toArray, List.getElem?_cons_succ, List.getElem?_cons_zero] <;> rfl) (by kernel_rfl) (by kernel_rfl) (by kernel_rfl) (by exact fun _ _ _ h => h) (Or.inr ⟨by kernel_rfl, rfl⟩) (by assumption) ?_
        try simp only [Act.put, List.setIfInBounds_toArray, List.set_cons_zero, List.set_cons_succ]
        refine wpAnyH_take (i := 13) (v := undef) (by simp only [List.getElem?_toArray, List.getElem?_cons_succ, List.getElem?_cons_zero] <;> rfl) (by kernel_rfl) (by kernel_rfl) (by kernel_rfl) (by exact fun _ _ _ h => h) (Or.inr ⟨by kernel_rfl, rfl⟩) (by assumption) ?_
        try simp only [Act.put, List.setIfInBounds_toArray, List.set_cons_zero, List.set_cons_succ]
        refine wpAnyH_take (i := 14) (v := undef) (by simp only [List.getElem?_toArray, List.getElem?_cons_succ, List.getElem?_cons_zero] <;> rfl) (by kernel_rfl) (by kernel_rfl) (by kernel_rfl) (by exact fun _ _ _ h => h) (Or.inr ⟨by kernel_rfl, rfl⟩) (by assumption) ?_
        try simp only [Act.put, List.setIfInBounds_toArray, List.set_cons_zero, List.set_cons_succ]
        refine wpAnyH_take (i := 15) (v := undef) (by simp only [List.getElem?_toArray, List.getElem?_cons_succ, List.getElem?_cons_zero] <;> rfl) (by kernel_rfl) (by kernel_rfl) (by kernel_rfl) (by exact fun _ _ _ h => h) (Or.inr ⟨by kernel_rfl, rfl⟩) (by assumption) ?_
        try simp only [Act.put, List.setIfInBounds_toArray, List.set_cons_zero, List.set_cons_succ]
        refine wpAnyH_take (i := 16) (v := undef) (by simp only [List.getElem?_toArray, List.getElem?_cons_succ, List.getElem?_cons_zero] <;> rfl) (by kernel_rfl) (by kernel_rfl) (by kernel_rfl) (by exact fun _ _ _ h => h) (Or.inr ⟨by kernel_rfl, rfl⟩) (by assumption) ?_
        try simp only [Act.put, List.setIfInBounds_toArray, List.set_cons_zero, List.set_cons_succ]
        refine wpAnyH_take (i := 17) (v := undef) (by simp only [List.getElem?_toArray, List.getElem?_cons_succ, List.getElem?_cons_zero] <;> rfl) (by kernel_rfl) (by kernel_rfl) (by kernel_rfl) (by exact fun _ _ _ h => h) (Or.inr ⟨by kernel_rfl, rfl⟩) (by assumption) ?_
        try simp only [Act.put, List.setIfInBounds_toArray, List.set_cons_zero, List.set_cons_succ]
        refine wpAnyH_take (i := 18) (v := undef) (by simp only [List.getElem?_toArray, List.getElem?_cons_succ, List.getElem?_cons_zero] <;> rfl) (by kernel_rfl) (by kernel_rfl) (by kernel_rfl) (by exact fun _ _ _ h => h) (Or.inr ⟨by kernel_rfl, rfl⟩) (by assumption) ?_
        try simp only [Act.put, List.setIfInBounds_toArray, List.set_cons_zero, List.set_cons_succ]
        refine wpAnyH_take (i := 19) (v := ?_) (by simp only [List.getElem?_toArray, List.getElem?_cons_succ, List.getElem?_cons_zero] <;> rfl) (by kernel_rfl) (by kernel_rfl) (by kernel_rfl) (by exact fun _ _ _ h => h) (Or.inl ⟨by kernel_rfl, ?_⟩) (by assumption) ?_
        rotate_left
        · intro w' hSw; (try dsimp only at hSw); go_simp; try with_reducible rfl
        try simp only [Act.put, List.setIfInBounds_toArray, List.set_cons_zero, List.set_cons_succ]
        refine wpAnyH_done (by kernel_rfl) ?_ _
        clear hwr
        go_wp2
        go_ret
        exact ⟨ret_bool HF2.out.symm, inferInstance⟩
    · have B3 : Hid (allFrom (stopAt ns x.Stops) x.Stops 0 = true) := by show _ = _; rw [← HF.out, List.drop_eq_nil_of_le (by have := Hls.out; omega)]; rfl
      clear HF
      go_wp2_with fail
      go_loopw [6] (fun i wr => ∃ k : Nat, k ≤ qn1 ∧ i = .int .i64 k ∧ Hid ((x.Runs.drop k).all (fun r => inB r 1 60) = x.Runs.all (fun r => inB r 1 60)) ∧ Later (w.alloc (.cells #[.string x.Name, .slice qA0 qn0 qc0, .slice qA1 qn1 qc1] 109)) wr) (fun i _ => qn1 - (intOf i).toNat)
      case atStart => exact ⟨0, by omega, rfl, rfl, inferInstance⟩
      case round =>
        obtain ⟨k, hk, rfl, HF, hX⟩ := hrel
        have hU := Later.trans (w := w) inferInstance hX
        by_cases hlt : k < qn1
        · obtain ⟨b, o, y, rfl, hy, hc, hi⟩ := Ints.at_ hR hlt
          have HF1 : Hid (x.Runs.all (fun r => inB r 1 60) = (inB y 1 60 && (x.Runs.drop (k + 1)).all (fun r => inB r 1 60))) := by rw [← HF.out, drop_at hy.out]; rfl
          clear HF
          by_cases c1 : inB y 1 60 = true
          · have HF2 : Hid ((x.Runs.drop (k + 1)).all (fun r => inB r 1 60) = x.Runs.all (fun r => inB r 1 60)) := by rw [HF1.out, c1]; rfl
            clear HF1
            go_wp2_with (go_at_call 55; refine (spec_l1In _ _ _ _).mono ?_; rintro e w' ⟨rfl, rfl⟩)
            go_roundw
            case rel => exact ⟨k + 1, by omega, by go_num, HF2, inferInstance⟩
            case measure => simp [intOf]; omega
          · have c2 : inB y 1 60 = false := by simpa using c1
            have HG : x.Runs.all (fun r => inB r 1 60) = false := by rw [HF1.out, c2]; rfl
            have HF2 := Lib.hid HG
            clear HF1 c1 HG
            go_wp2_with (go_at_call 55; refine (spec_l1In _ _ _ _).mono ?_; rintro e w' ⟨rfl, rfl⟩)
            go_ret
            exact ⟨ret_bool (okLineS_no (okLine_no4 HF2.out)).symm, inferInstance⟩
        · have HF2 : Hid (x.Runs.all (fun r => inB r 1 60) = true) := by show _ = _; rw [← HF.out, List.drop_eq_nil_of_le (by have := Hlr.out; omega)]; rfl
          clear HF
          go_wp2
          go_ret
          exact ⟨ret_bool (okLineS_yes B0.out (okLine_yes B1.out B2.out B3.out HF2.out)).symm, inferInstance⟩
end Go.Proofs.Ytaopadffabbjiaa
