/-
  Networks: when one is valid; sums of running times.
-/
import Derived.Test.YtaopadffabbjiaaNetC
namespace Go.Proofs.Ytaopadffabbjiaa
open Go Go.RowKit
set_option linter.unusedVariables false
set_option maxRecDepth 100000
theorem okNet_1 {n : Network} (h : inB n.Stops.length 2 8 = false) : okNetwork n = false := by unfold okNetwork; rw [h]; rfl
theorem okNet_2 {n : Network} (h : inB n.Lines.length 1 5 = false) : okNetwork n = false := by unfold okNetwork; rw [h]; simp
theorem okNet_3 {n : Network} (h : okNames n.Stops = false) : okNetwork n = false := by unfold okNetwork; rw [h]; simp
theorem okNet_4 {n : Network} (h : okNames (n.Lines.map Line.Name) = false) : okNetwork n = false := by unfold okNetwork; rw [h]; simp
theorem okNet_5 {n : Network} (h : n.Lines.all (okLine n.Stops.length) = false) : okNetwork n = false := by unfold okNetwork; rw [h]; simp
theorem okNet_6 {n : Network} (h : allFrom (fun i x => okLineS n.Stops.length x && decide (idx (fun y => nameIs x.Name y.Name) n.Lines = (i : Int))) n.Lines 0 = false) : okNetwork n = false := by rw [okNetwork_spec, h]; simp
set_option maxHeartbeats 800000 in
theorem impl_IsValidNetwork {w0 w : World} {sA0 : Option Addr} {sn0 sc0 : Nat} {sA1 : Option Addr} {sn1 sc1 : Nat} {r : Network} (h : NetworkAt w0 sA0 sn0 sc0 sA1 sn1 sc1 r) (hl : Later w0 w) :
    Calls Try.prog 110 #[.agg #[.slice sA0 sn0 sc0, .slice sA1 sn1 sc1]] w (Ret (.bool (okNetwork r)) w) := by
  replace h := h.later hl
  have hS := h.l_Stops
  have hP := h.l_Lines
  have hn := hS.le
  have hm := hP.le
  have hlen := Lib.hid hS.len
  have hlen1 := Lib.hid hP.len
  have HB0 : ∀ W [Later (w.alloc (.cells #[.slice sA0 sn0 sc0, .slice sA1 sn1 sc1] 38)) W] (j : Nat), W.cell? ⟨w.heap.size, j, none⟩ = #[.slice sA0 sn0 sc0, .slice sA1 sn1 sc1][j]? := Later.boxes (t := 38) (fr := (0, 0)) (heap_new (by simp; try omega))
  by_cases b1 : inB sn0 2 8 = true
  rotate_left
  · have g1 : inB sn0 2 8 = false := by simpa using b1
    have HN : Hid (okNetwork r = false) := okNet_1 (by rw [← hlen.out]; exact g1)
    clear b1
    go_enter Try.func110, Try.ntmps110
    go_wp2_with (go_at_call 112; refine (impl_within _ _ _ _).mono ?_; rintro e w' ⟨rfl, rfl⟩)
    go_ret
    exact ⟨ret_bool HN.out.symm, inferInstance⟩
  by_cases b2 : inB sn1 1 5 = true
  rotate_left
  · have g1 : inB sn1 1 5 = false := by simpa using b2
    have HN : Hid (okNetwork r = false) := okNet_2 (by rw [← hlen1.out]; exact g1)
    clear b2
    go_enter Try.func110, Try.ntmps110
    go_wp2_with (go_at_call 112; refine (impl_within _ _ _ _).mono ?_; rintro e w' ⟨rfl, rfl⟩)
    go_ret
    exact ⟨ret_bool HN.out.symm, inferInstance⟩
  have hn15 : sn1 ≤ 1048576 := by have := inB_t.1 b2; omega
  have B1 : Hid (inB r.Stops.length 2 8 = true) := by rw [← hlen.out]; exact b1
  have B2 : Hid (inB r.Lines.length 1 5 = true) := by rw [← hlen1.out]; exact b2
  by_cases b3 : okNames r.Stops = true
  rotate_left
  · have g1 : okNames r.Stops = false := by simpa using b3
    have HN := Lib.hid (okNet_3 g1)
    clear b3
    go_enter Try.func110, Try.ntmps110
    go_wp2_with first
      | (go_at_call 112; refine (impl_within _ _ _ _).mono ?_; rintro e w' ⟨rfl, rfl⟩)
      | (go_at_call 133; ((with_reducible refine (impl_areNames hS inferInstance).mono ?_); rintro e w1 ⟨rfl, L1⟩); have hX1 := Later.trans (w := (w.alloc (.cells #[.slice sA0 sn0 sc0, .slice sA1 sn1 sc1] 38))) inferInstance L1; have hU1 := Later.trans (w := w) inferInstance L1)
      | (go_at_call 134; refine (impl_lineNames h inferInstance hn15).mono ?_; rintro e w2 ⟨A2, n2, c2, rfl, o2, L2⟩; have hX2 := Later.trans (w := (w.alloc (.cells #[.slice sA0 sn0 sc0, .slice sA1 sn1 sc1] 38))) inferInstance L2; have hU2 := Later.trans (w := w) inferInstance L2)
      | (go_at_call 133; ((with_reducible refine (impl_areNames o2 inferInstance).mono ?_); rintro e w3 ⟨rfl, L3⟩); have hX3 := Later.trans (w := (w.alloc (.cells #[.slice sA0 sn0 sc0, .slice sA1 sn1 sc1] 38))) inferInstance L3; have hU3 := Later.trans (w := w) inferInstance L3)
    go_ret
    exact ⟨ret_bool HN.out.symm, inferInstance⟩
  by_cases b4 : okNames (r.Lines.map Line.Name) = true
  rotate_left
  · have g1 : okNames (r.Lines.map Line.Name) = false := by simpa using b4
    have HN := Lib.hid (okNet_4 g1)
    clear b4
    go_enter Try.func110, Try.ntmps110
    go_wp2_with first
      | (go_at_call 112; refine (impl_within _ _ _ _).mono ?_; rintro e w' ⟨rfl, rfl⟩)
      | (go_at_call 133; ((with_reducible refine (impl_areNames hS inferInstance).mono ?_); rintro e w1 ⟨rfl, L1⟩); have hX1 := Later.trans (w := (w.alloc (.cells #[.slice sA0 sn0 sc0, .slice sA1 sn1 sc1] 38))) inferInstance L1; have hU1 := Later.trans (w := w) inferInstance L1)
      | (go_at_call 134; refine (impl_lineNames h inferInstance hn15).mono ?_; rintro e w2 ⟨A2, n2, c2, rfl, o2, L2⟩; have hX2 := Later.trans (w := (w.alloc (.cells #[.slice sA0 sn0 sc0, .slice sA1 sn1 sc1] 38))) inferInstance L2; have hU2 := Later.trans (w := w) inferInstance L2)
      | (go_at_call 133; ((with_reducible refine (impl_areNames o2 inferInstance).mono ?_); rintro e w3 ⟨rfl, L3⟩); have hX3 := Later.trans (w := (w.alloc (.cells #[.slice sA0 sn0 sc0, .slice sA1 sn1 sc1] 38))) inferInstance L3; have hU3 := Later.trans (w := w) inferInstance L3)
    go_ret
    exact ⟨ret_bool HN.out.symm, inferInstance⟩
  have B3 := Lib.hid b3
  have B4 := Lib.hid b4
  go_enter Try.func110, Try.ntmps110
  go_wp2_with first
    | (go_at_call 112; refine (impl_within _ _ _ _).mono ?_; rintro e w' ⟨rfl, rfl⟩)
    | (go_at_call 133; ((with_reducible refine (impl_areNames hS inferInstance).mono ?_); rintro e w1 ⟨rfl, L1⟩); have hX1 := Later.trans (w := (w.alloc (.cells #[.slice sA0 sn0 sc0, .slice sA1 sn1 sc1] 38))) inferInstance L1; have hU1 := Later.trans (w := w) inferInstance L1)
    | (go_at_call 134; refine (impl_lineNames h inferInstance hn15).mono ?_; rintro e w2 ⟨A2, n2, c2, rfl, o2, L2⟩; have hX2 := Later.trans (w := (w.alloc (.cells #[.slice sA0 sn0 sc0, .slice sA1 sn1 sc1] 38))) inferInstance L2; have hU2 := Later.trans (w := w) inferInstance L2)
    | (go_at_call 133; ((with_reducible refine (impl_areNames o2 inferInstance).mono ?_); rintro e w3 ⟨rfl, L3⟩); have hX3 := Later.trans (w := (w.alloc (.cells #[.slice sA0 sn0 sc0, .slice sA1 sn1 sc1] 38))) inferInstance L3; have hU3 := Later.trans (w := w) inferInstance L3)
  clear b1 b2 b3 b4
  go_loopw [32] (fun i wr => ∃ (k : Nat), k ≤ sn1 ∧ i = .int .i64 k ∧ Hid (r.Lines.all (okLine r.Stops.length) = (r.Lines.drop k).all (okLine r.Stops.length)) ∧ Later (w.alloc (.cells #[.slice sA0 sn0 sc0, .slice sA1 sn1 sc1] 38)) wr) (fun i _ => sn1 - (intOf i).toNat)
  case atStart => exact ⟨0, by omega, rfl, rfl, inferInstance⟩
  case round =>
    obtain ⟨k, hk, rfl, HF, hX⟩ := hrel
    have hU := Later.trans (w := w) inferInstance hX
    by_cases hlt : k < sn1
    · have H := Lib.hid h
      obtain ⟨b, o, xA0, xn0, xc0, xA1, xn1, xc1, x, rfl, hx, hc0, hc1, hc2, hi⟩ := Lines.at_ hP hlt
      have HF1 : Hid (r.Lines.all (okLine r.Stops.length) = (okLine r.Stops.length x && (r.Lines.drop (k + 1)).all (okLine r.Stops.length))) := by rw [HF.out, drop_at hx.out]; rfl
      clear HF
      by_cases c1 : okLine r.Stops.length x = true
      · have HF2 : Hid (r.Lines.all (okLine r.Stops.length) = (r.Lines.drop (k + 1)).all (okLine r.Stops.length)) := by rw [HF1.out, c1]; rfl
        clear HF1
        go_wp2_with (go_at_call 135; refine (impl_isValidLine H.out inferInstance hi).mono ?_; rintro e w4 ⟨rfl, L4⟩; have hX4 := hX.trans (Later.trans (w := wr) inferInstance L4); have hU4 := hU.trans (Later.trans (w := wr) inferInstance L4))
        go_roundw
        case rel => exact ⟨k + 1, by omega, by go_num, HF2, inferInstance⟩
        case measure => simp [intOf]; omega
      · have c3 : okLine r.Stops.length x = false := by simpa using c1
        have HF2 : Hid (okNetwork r = false) := okNet_5 (by rw [HF1.out, c3]; rfl)
        clear HF1 c1
        go_wp2_with (go_at_call 135; refine (impl_isValidLine H.out inferInstance hi).mono ?_; rintro e w4 ⟨rfl, L4⟩; have hX4 := hX.trans (Later.trans (w := wr) inferInstance L4); have hU4 := hU.trans (Later.trans (w := wr) inferInstance L4))
        go_ret
        exact ⟨ret_bool HF2.out.symm, inferInstance⟩
    · have HF2 : Hid (okNetwork r = true) := by
        show _ = _
        unfold okNetwork
        rw [B1.out, B2.out, B3.out, B4.out, HF.out, List.drop_eq_nil_of_le (by have := hlen1.out; omega)]; rfl
      clear HF
      go_wp2
      go_ret
      exact ⟨ret_bool HF2.out.symm, inferInstance⟩
set_option maxHeartbeats 1000000 in
theorem spec_l2Good {w0 w : World} {sA0 : Option Addr} {sn0 sc0 : Nat} {sA1 : Option Addr} {sn1 sc1 : Nat} {r : Network} (h : NetworkAt w0 sA0 sn0 sc0 sA1 sn1 sc1 r) (hl : Later w0 w) :
    Calls Try.prog 106 #[.agg #[.slice sA0 sn0 sc0, .slice sA1 sn1 sc1]] w (Ret (.bool (okNetwork r)) w) := by
  replace h := h.later hl
  have hS := h.l_Stops
  have hP := h.l_Lines
  have hn := hS.le
  have hm := hP.le
  have hlen := Lib.hid hS.len
  have hlen1 := Lib.hid hP.len
  obtain ⟨wb, hwb⟩ : ∃ wb : World, wb = (w.alloc (.cells #[.slice sA0 sn0 sc0, .slice sA1 sn1 sc1] 38)) := ⟨_, rfl⟩
  have HWB := Lib.hid hwb
  clear hwb
  have HB0 : ∀ W [Later (w.alloc (.cells #[.slice sA0 sn0 sc0, .slice sA1 sn1 sc1] 38)) W] (j : Nat), W.cell? ⟨w.heap.size, j, none⟩ = #[.slice sA0 sn0 sc0, .slice sA1 sn1 sc1][j]? := Later.boxes (t := 38) (fr := (0, 0)) (heap_new (by simp; try omega))
  by_cases b1 : inB sn0 2 8 = true
  rotate_left
  · have g1 : inB sn0 2 8 = false := by simpa using b1
    have HN : Hid (okNetwork r = false) := okNet_1 (by rw [← hlen.out]; exact g1)
    clear b1
    go_enter Try.func106, Try.ntmps106
    go_wp2_with (go_at_call 55; refine (spec_l1In _ _ _ _).mono ?_; rintro e w' ⟨rfl, rfl⟩)
    go_ret
    exact ⟨ret_bool HN.out.symm, inferInstance⟩
  by_cases b2 : inB sn1 1 5 = true
  rotate_left
  · have g1 : inB sn1 1 5 = false := by simpa using b2
    have HN : Hid (okNetwork r = false) := okNet_2 (by rw [← hlen1.out]; exact g1)
    clear b2
    go_enter Try.func106, Try.ntmps106
    go_wp2_with (go_at_call 55; refine (spec_l1In _ _ _ _).mono ?_; rintro e w' ⟨rfl, rfl⟩)
    go_ret
    exact ⟨ret_bool HN.out.symm, inferInstance⟩
  have hn15 : sn0 ≤ 1048576 := by have := inB_t.1 b1; omega
  have B1 : Hid (inB r.Stops.length 2 8 = true) := by rw [← hlen.out]; exact b1
  have B2 : Hid (inB r.Lines.length 1 5 = true) := by rw [← hlen1.out]; exact b2
  go_enter Try.func106, Try.ntmps106
  go_wp2_with (go_at_call 55; refine (spec_l1In _ _ _ _).mono ?_; rintro e w' ⟨rfl, rfl⟩)
  clear b1 b2
  go_loopw [3] (fun i wr => ∃ k : Nat, k ≤ sn0 ∧ i = .int .i64 k ∧ Hid (allFrom (nameAt r.Stops) (r.Stops.drop k) k = okNames r.Stops) ∧ Later wb wr) (fun i _ => sn0 - (intOf i).toNat)
  case atStart => exact ⟨0, by omega, rfl, rfl, by rw [HWB.out]; infer_instance⟩
  case round =>
    obtain ⟨k, hk, rfl, HF, hX'⟩ := hrel
    have hX : Later (w.alloc (.cells #[.slice sA0 sn0 sc0, .slice sA1 sn1 sc1] 38)) wr := HWB.out ▸ hX'
    have hU := Later.trans (w := w) inferInstance hX
    clear hX'
    by_cases hlt : k < sn0
    · have HS := Lib.hid hS
      have HB0' : ∀ W [Later wb W] (j : Nat), W.cell? ⟨w.heap.size, j, none⟩ = #[.slice sA0 sn0 sc0, .slice sA1 sn1 sc1][j]? := by rw [HWB.out]; exact HB0
      replace hX : Later wb wr := HWB.out.symm ▸ hX
      clear HB0
      obtain ⟨b, o, x, rfl, hx, hc, hi⟩ := Strs.at_ hS hlt
      have HF1 : Hid (okNames r.Stops = (nameAt r.Stops k x && allFrom (nameAt r.Stops) (r.Stops.drop (k + 1)) (k + 1))) := by rw [← HF.out, drop_at hx.out]; rfl
      clear HF
      by_cases c1 : okName x = true
      · by_cases c2 : idx (nameIs x) r.Stops = k
        · have HF2 : Hid (allFrom (nameAt r.Stops) (r.Stops.drop (k + 1)) (k + 1) = okNames r.Stops) := by rw [HF1.out]; unfold nameAt; rw [c1, decide_eq_true c2]; rfl
          have e2 := bnei_f c2
          clear HF1 c2
          go_wp2_with fail
          go_region_held3 (fun w' => Later w w' ∧ Later wb w') (exact ⟨inferInstance, inferInstance⟩) (first | (go_at_call 129; refine (spec_l2Name _ hi _).mono ?_; rintro e w' ⟨rfl, rfl⟩) | (go_at_call 130; refine (spec_l2Find HS.out inferInstance _).mono ?_; rintro e w2 ⟨rfl, L2⟩; have hX2 := Later.trans (w := wb) inferInstance L2; have hU2 := Later.trans (w := w) inferInstance L2))
          go_wp2
          go_roundw
          case rel => exact ⟨k + 1, by omega, by go_num, HF2, inferInstance⟩
          case measure => simp [intOf]; omega
        · have HF2 : Hid (okNetwork r = false) := okNet_3 (by rw [HF1.out]; unfold nameAt; rw [decide_eq_false c2]; simp)
          have e2 := bnei_t c2
          clear HF1 c2
          go_wp2_with fail
          go_region_held3 (fun w' => Later w w' ∧ Later wb w') (exact ⟨inferInstance, inferInstance⟩) (first | (go_at_call 129; refine (spec_l2Name _ hi _).mono ?_; rintro e w' ⟨rfl, rfl⟩) | (go_at_call 130; refine (spec_l2Find HS.out inferInstance _).mono ?_; rintro e w2 ⟨rfl, L2⟩; have hX2 := Later.trans (w := wb) inferInstance L2; have hU2 := Later.trans (w := w) inferInstance L2))
          go_wp2
          go_ret
          exact ⟨ret_bool HF2.out.symm, inferInstance⟩
      · have c3 : okName x = false := by simpa using c1
        have HF2 : Hid (okNetwork r = false) := okNet_3 (by rw [HF1.out]; unfold nameAt; rw [c3]; simp)
        clear HF1 c1
        go_wp2_with fail
        refine wp_region_held_drew (S := (fun w' => Later w w' ∧ Later wb w')) (by kernel_rfl) (by exact ⟨inferInstance, inferInstance⟩) (fun hHeld => ?_)
        refine wpAnyH_take (i := 0) (v := ?_) (by simp only [List.getElem?_toArray, List.getElem?_cons_zero] <;> rfl) (by kernel_rfl) (by kernel_rfl) (by kernel_rfl) (by exact fun _ _ _ h => h) (Or.inl ⟨by kernel_rfl, ?_⟩) (by assumption) ?_
        rotate_left
        · intro w' hSw; (try dsimp only at hSw); go_simp; try with_reducible rfl
        try simp only [Act.put, List.setIfInBounds_toArray, List.set_cons_zero, List.set_cons_succ]
        refine wpAnyH_take (i := 1) (v := ?_) (by simp only [List.getElem?_toArray, List.getElem?_cons_succ, List.getElem?_cons_zero] <;> rfl) (by kernel_rfl) (by kernel_rfl) (by kernel_rfl) (by exact fun _ _ _ h => h) (Or.inl ⟨by kernel_rfl, ?_⟩) (by assumption) ?_
        rotate_left
        · intro w' hSw; (try dsimp only at hSw); go_simp; try with_reducible rfl
        try simp only [Act.put, List.setIfInBounds_toArray, List.set_cons_zero, List.set_cons_succ]
        refine wpAnyH_take (i := 2) (v := ?_) (by simp only [List.getElem?_toArray, List.getElem?_cons_succ, List.getElem?_cons_zero] <;> rfl) (by kernel_rfl) (by kernel_rfl) (by kernel_rfl) (by exact fun _ _ _ h => h) (Or.inl ⟨by kernel_rfl, ?_⟩) (by assumption) ?_
        rotate_left
        · intro w' hSw; (try dsimp only at hSw); go_simp; try with_reducible rfl
        try simp only [Act.put, List.setIfInBounds_toArray, List.set_cons_zero, List.set_cons_succ]
        refine wpAnyH_take (i := 3) (v := ?_) (by simp only [List.getElem?_toArray, List.getElem?_cons_succ, List.getElem?_cons_zero] <;> rfl) (by kernel_rfl) (by kernel_rfl) (by kernel_rfl) (by exact fun _ _ _ h => h) (Or.inl ⟨by kernel_rfl, ?_⟩) (by assumption) ?_
        rotate_left
        · intro w' hSw; (try dsimp only at hSw); go_simp; try with_reducible rfl
        try simp only [Act.put, List.setIfInBounds_toArray, List.set_cons_zero, List.set_cons_succ]
        refine wpAnyH_take (i := 4) (v := ?_) (by simp only [List.getElem?_toArray, List.getElem?_cons_succ, List.getElem?_cons_zero] <;> rfl) (by kernel_rfl) (by kernel_rfl) (by kernel_rfl) (by exact fun _ _ _ h => h) (Or.inl ⟨by kernel_rfl, ?_⟩) (by assumption) ?_
        rotate_left
        · intro w' hSw; (try dsimp only at hSw); go_simp; try with_reducible rfl
        try simp only [Act.put, List.setIfInBounds_toArray, List.set_cons_zero, List.set_cons_succ]
        refine wpAnyH_ready (rs := [5]) (by kernel_rfl) (by simp) (AllReadyH.cons rfl (fun K hK => ?_) AllReadyH.nil)
        go_simp
        (go_at_call 129; refine (spec_l2Name _ hi _).mono ?_; rintro e w' ⟨rfl, rfl⟩)
        refine hK.out _ _ (by exact ⟨inferInstance, inferInstance⟩) (fun hHeld => ?_)
        try simp only [Act.put, List.setIfInBounds_toArray, List.set_cons_zero, List.set_cons_succ]
        refine wpAnyH_take (i := 6) (v := ?_) (by simp only [List.getElem?_toArray, List.getElem?_cons_succ, List.getElem?_cons_zero] <;> rfl) (by kernel_rfl) (by kernel_rfl) (by kernel_rfl) (by exact fun _ _ _ h => h) (Or.inl ⟨by kernel_rfl, ?_⟩) (by assumption) ?_
        rotate_left
        · intro w' hSw; (try dsimp only at hSw); go_simp; try with_reducible rfl
        try simp only [Act.put, List.setIfInBounds_toArray, List.set_cons_zero, List.set_cons_succ]
        refine wpAnyH_take (i := 7) (v := ?_) (by simp only [List.getElem?_toArray, List.getElem?_cons_succ, List.getElem?_cons_zero] <;> rfl) (by kernel_rfl) (by kernel_rfl) (by kernel_rfl) (by exact fun _ _ _ h => h) (Or.inl ⟨by kernel_rfl, ?_⟩) (by assumption) ?_
        rotate_left
        · intro w' hSw; (try dsimp only at hSw); go_simp; try with_reducible rfl
        try simp only [Act.put, List.setIfInBounds_toArray, List.set_cons_zero, List.set_cons_succ]
        refine wpAnyH_take (i := 8) (v := undef) (by simp only [List.getElem?_toArray, List.getElem?_cons_succ, List.getElem?_cons_zero] <;> rfl) (by kernel_rfl) (by kernel_rfl) (by kernel_rfl) (by exact fun _ _ _ h => h) (Or.inr ⟨by kernel_rfl, rfl⟩) (by assumption) ?_
        try simp only [Act.put, List.setIfInBounds_toArray, List.set_cons_zero, List.set_cons_succ]
        refine wpAnyH_take (i := 9) (v := undef) (by simp only [List.getElem?_toArray, List.getElem?_cons_succ, List.getElem?_cons_zero] <;> rfl) (by kernel_rfl) (by kernel_rfl) (by kernel_rfl) (by exact fun _ _ _ h => h) (Or.inr ⟨by kernel_rfl, rfl⟩) (by assumption) ?_
        try simp only [Act.put, List.setIfInBounds_toArray, List.set_cons_zero, List.set_cons_succ]
        refine wpAnyH_take (i := 10) (v := undef) (by simp only [List.getElem?_toArray, List.getElem?_cons_succ, List.getElem?_cons_zero] <;> rfl) (by kernel_rfl) (by kernel_rfl) (by kernel_rfl) (by exact fun _ _ _ h => h) (Or.inr ⟨by kernel_rfl, rfl⟩) (by assumption) ?_
        try simp only [Act.put, List.setIfInBounds_toArray, List.set_cons_zero, List.set_cons_succ]
        refine wpAnyH_take (i := 11) (v := undef) (by simp only [List.getElem?_toArray, List.getElem?_cons_succ, List.getElem?_cons_zero] <;> rfl) (by kernel_rfl) (by kernel_rfl) (by kernel_rfl) (by exact fun _ _ _ h => h) (Or.inr ⟨by kernel_rfl, rfl⟩) (by assumption) ?_
        try simp only [Act.put, List.setIfInBounds_toArray, List.set_cons_zero, List.set_cons_succ]
        refine wpAnyH_take (i := 12) (v := undef) (by simp only [List.getElem?_toArray, List.getElem?_cons_succ, List.getElem?_cons_zero] <;> rfl) (by kernel_rfl) (by kernel_rfl) (by kernel_rfl) (by exact fun _ _ _ h => h) (Or.inr ⟨by kernel_rfl, rfl⟩) (by assumption) ?_
        try simp only [Act.put, List.setIfInBounds_toArray, List.set_cons_zero, List.set_cons_succ]
        refine wpAnyH_take (i := 13) (v := undef) (by simp only [List.getElem?_toArray, List.getElem?_cons_succ, List.getElem?_cons_zero] <;> rfl) (by kernel_rfl) (by kernel_rfl) (by kernel_rfl) (by exact fun _ _ _ h => h) (Or.inr ⟨by kernel_rfl, rfl⟩) (by assumption) ?_
        try simp only [Act.put, List.setIfInBounds_toArray, List.set_cons_zero, List.set_cons_succ]
        refine wpAnyH_take (i := 14) (v := undef) (by simp only [List.getElem?_toArray, List.getElem?_cons_succ, List.getElem?_cons_zero] <;> rfl) (by kernel_rfl) (by kernel_rfl) (by kernel_rfl) (by exact fun _ _ _ h => h) (Or.inr ⟨by kernel_rfl, rfl⟩) (by assumption) ?_
        try simp only [Act.put, List.setIfInBounds_toArray, List.set_cons_zero, List.set_cons_succ]
        refine wpAnyH_take (i := 15) (v := undef) (by simp only [List.getElem?_toArray, List.getElem?_cons_succ, List.getElem?_cons_zero] <;> rfl) (by kernel_rfl) (by kernel_rfl) (by kernel_rfl) (by exact fun _ _ _ h => h) (Or.inr ⟨by kernel_rfl, rfl⟩) (by assumption) ?_
        try simp only [Act.put, List.setIfInBounds_toArray, List.set_cons_zero, List.set_cons_succ]
        refine wpAnyH_take (i := 16) (v := undef) (by simp only [List.getElem?_toArray, List.getElem?_cons_succ, List.getElem?_cons_zero] <;> rfl) (by kernel_rfl) (by kernel_rfl) (by kernel_rfl) (by exact fun _ _ _ h => h) (Or.inr ⟨by kernel_rfl, rfl⟩) (by assumption) ?_
        try simp only [Act.put, List.setIfInBounds_toArray, List.set_cons_zero, List.set_cons_succ]
        refine wpAnyH_take (i := 17) (v := undef) (by simp only [List.getElem?_toArray, List.getElem?_cons_succ, List.getElem?_cons_zero] <;> rfl) (by kernel_rfl) (by kernel_rfl) (by kernel_rfl) (by exact fun _ _ _ h => h) (Or.inr ⟨by kernel_rfl, rfl⟩) (by assumption) ?_
        try simp only [Act.put, List.setIfInBounds_toArray, List.set_cons_zero, List.set_cons_succ]
        refine wpAnyH_take (i := 18) (v := ?_) (by simp only [List.getElem?_toArray, List.getElem?_cons_succ, List.getElem?_cons_zero] <;> rfl) (by kernel_rfl) (by kernel_rfl) (by kernel_rfl) (by exact fun _ _ _ h => h) (Or.inl ⟨by kernel_rfl, ?_⟩) (by assumption) ?_
        rotate_left
        · intro w' hSw; (try dsimp only at hSw); go_simp; try with_reducible rfl
        try simp only [Act.put, List.setIfInBounds_toArray, List.set_cons_zero, List.set_cons_succ]
        refine wpAnyH_done (by kernel_rfl) ?_ _
        go_wp2
        go_ret
        exact ⟨ret_bool HF2.out.symm, inferInstance⟩
    · have B3 : Hid (okNames r.Stops = true) := by show _ = _; rw [← HF.out, List.drop_eq_nil_of_le (by have := hlen.out; omega)]; rfl
      clear HF
      go_wp2_with fail
      go_loopw [4] (fun i wr => ∃ k : Nat, k ≤ sn1 ∧ i = .int .i64 k ∧ Hid (allFrom (fun i x => okLineS r.Stops.length x && decide (idx (fun y => nameIs x.Name y.Name) r.Lines = (i : Int))) (r.Lines.drop k) k = allFrom (fun i x => okLineS r.Stops.length x && decide (idx (fun y => nameIs x.Name y.Name) r.Lines = (i : Int))) r.Lines 0) ∧ Later wb wr) (fun i _ => sn1 - (intOf i).toNat)
      case atStart => exact ⟨0, by omega, rfl, rfl, by rw [HWB.out]; infer_instance⟩
      case round =>
        clear hX hU
        obtain ⟨k, hk, rfl, HF, hX⟩ := hrel
        have hU : Later w wr := by have := hX; rw [HWB.out] at this; exact Later.trans (w := w) inferInstance this
        have HB0' : ∀ W [Later wb W] (j : Nat), W.cell? ⟨w.heap.size, j, none⟩ = #[.slice sA0 sn0 sc0, .slice sA1 sn1 sc1][j]? := by rw [HWB.out]; exact HB0
        clear HB0
        by_cases hlt : k < sn1
        · have H := Lib.hid h
          obtain ⟨b, o, xA0, xn0, xc0, xA1, xn1, xc1, x, rfl, hx, hc0, hc1, hc2, hi⟩ := Lines.at_ hP hlt
          have HF1 : Hid (allFrom (fun i x => okLineS r.Stops.length x && decide (idx (fun y => nameIs x.Name y.Name) r.Lines = (i : Int))) r.Lines 0 = ((okLineS r.Stops.length x && decide (idx (fun y => nameIs x.Name y.Name) r.Lines = (k : Int))) && allFrom (fun i x => okLineS r.Stops.length x && decide (idx (fun y => nameIs x.Name y.Name) r.Lines = (i : Int))) (r.Lines.drop (k + 1)) (k + 1))) := by rw [← HF.out, drop_at hx.out]; rfl
          clear HF
          have Hn0 : Hid (sn0 = r.Stops.length) := hlen.out
          by_cases c1 : okLineS sn0 x = true
          · by_cases c2 : idx (fun y => nameIs x.Name y.Name) r.Lines = k
            · have HF2 : Hid (allFrom (fun i x => okLineS r.Stops.length x && decide (idx (fun y => nameIs x.Name y.Name) r.Lines = (i : Int))) (r.Lines.drop (k + 1)) (k + 1) = allFrom (fun i x => okLineS r.Stops.length x && decide (idx (fun y => nameIs x.Name y.Name) r.Lines = (i : Int))) r.Lines 0) := by rw [HF1.out, ← hlen.out, c1, decide_eq_true c2]; rfl
              have e2 := bnei_f c2
              clear HF1 c2
              go_wp2_with fail
              go_region_held3 (fun w' => Later w w' ∧ Later wb w') (exact ⟨inferInstance, inferInstance⟩) (first | (go_at_call 131; refine (spec_l2Line hi inferInstance hn15).mono ?_; rintro e w3 ⟨rfl, L3⟩; have hX3 := Later.trans (w := wb) inferInstance L3; have hU3 := Later.trans (w := w) inferInstance L3) | (go_at_call 132; refine (spec_l2LineNamed H.out inferInstance _).mono ?_; rintro e w2 ⟨rfl, L2⟩; have hX2 := Later.trans (w := wb) inferInstance L2; have hU2 := Later.trans (w := w) inferInstance L2))
              go_wp2
              go_roundw
              case rel => exact ⟨k + 1, by omega, by go_num, HF2, inferInstance⟩
              case measure => simp [intOf]; omega
            · have HF2 : Hid (okNetwork r = false) := okNet_6 (by rw [HF1.out, decide_eq_false c2]; simp)
              have e2 := bnei_t c2
              clear HF1 c2
              go_wp2_with fail
              go_region_held3 (fun w' => Later w w' ∧ Later wb w') (exact ⟨inferInstance, inferInstance⟩) (first | (go_at_call 131; refine (spec_l2Line hi inferInstance hn15).mono ?_; rintro e w3 ⟨rfl, L3⟩; have hX3 := Later.trans (w := wb) inferInstance L3; have hU3 := Later.trans (w := w) inferInstance L3) | (go_at_call 132; refine (spec_l2LineNamed H.out inferInstance _).mono ?_; rintro e w2 ⟨rfl, L2⟩; have hX2 := Later.trans (w := wb) inferInstance L2; have hU2 := Later.trans (w := w) inferInstance L2))
              go_wp2
              go_ret
              exact ⟨ret_bool HF2.out.symm, inferInstance⟩
          · have c3 : okLineS sn0 x = false := by simpa using c1
            have HF2 : Hid (okNetwork r = false) := okNet_6 (by rw [HF1.out, ← hlen.out, c3]; rfl)
            clear HF1 c1
            go_wp2_with fail
            refine wp_region_held_drew (S := (fun w' => Later w w' ∧ Later wb w')) (by kernel_rfl) (by exact ⟨inferInstance, inferInstance⟩) (fun hHeld => ?_)
            refine wpAnyH_take (i := 0) (v := ?_) (by simp only [List.getElem?_toArray, List.getElem?_cons_zero] <;> rfl) (by kernel_rfl) (by kernel_rfl) (by kernel_rfl) (by exact fun _ _ _ h => h) (Or.inl ⟨by kernel_rfl, ?_⟩) (by assumption) ?_
            rotate_left
            · intro w' hSw; (try dsimp only at hSw); go_simp; try with_reducible rfl
            try simp only [Act.put, List.setIfInBounds_toArray, List.set_cons_zero, List.set_cons_succ]
            refine wpAnyH_take (i := 1) (v := ?_) (by simp only [List.getElem?_toArray, List.getElem?_cons_succ, List.getElem?_cons_zero] <;> rfl) (by kernel_rfl) (by kernel_rfl) (by kernel_rfl) (by exact fun _ _ _ h => h) (Or.inl ⟨by kernel_rfl, ?_⟩) (by assumption) ?_
            rotate_left
            · intro w' hSw; (try dsimp only at hSw); go_simp; try with_reducible rfl
            try simp only [Act.put, List.setIfInBounds_toArray, List.set_cons_zero, List.set_cons_succ]
            refine wpAnyH_take (i := 2) (v := ?_) (by simp only [List.getElem?_toArray, List.getElem?_cons_succ, List.getElem?_cons_zero] <;> rfl) (by kernel_rfl) (by kernel_rfl) (by kernel_rfl) (by exact fun _ _ _ h => h) (Or.inl ⟨by kernel_rfl, ?_⟩) (by assumption) ?_
            rotate_left
            · intro w' hSw; (try dsimp only at hSw); go_simp; try with_reducible rfl
            try simp only [Act.put, List.setIfInBounds_toArray, List.set_cons_zero, List.set_cons_succ]
            refine wpAnyH_take (i := 3) (v := ?_) (by simp only [List.getElem?_toArray, List.getElem?_cons_succ, List.getElem?_cons_zero] <;> rfl) (by kernel_rfl) (by kernel_rfl) (by kernel_rfl) (by exact fun _ _ _ h => h) (Or.inl ⟨by kernel_rfl, ?_⟩) (by assumption) ?_
            rotate_left
            · intro w' hSw; (try dsimp only at hSw); go_simp; try with_reducible rfl
            try simp only [Act.put, List.setIfInBounds_toArray, List.set_cons_zero, List.set_cons_succ]
            refine wpAnyH_take (i := 4) (v := ?_) (by simp only [List.getElem?_toArray, List.getElem?_cons_succ, List.getElem?_cons_zero] <;> rfl) (by kernel_rfl) (by kernel_rfl) (by kernel_rfl) (by exact fun _ _ _ h => h) (Or.inl ⟨by kernel_rfl, ?_⟩) (by assumption) ?_
            rotate_left
            · intro w' hSw; (try dsimp only at hSw); go_simp; try with_reducible rfl
            try simp only [Act.put, List.setIfInBounds_toArray, List.set_cons_zero, List.set_cons_succ]
            refine wpAnyH_take (i := 5) (v := ?_) (by simp only [List.getElem?_toArray, List.getElem?_cons_succ, List.getElem?_cons_zero] <;> rfl) (by kernel_rfl) (by kernel_rfl) (by kernel_rfl) (by exact fun _ _ _ h => h) (Or.inl ⟨by kernel_rfl, ?_⟩) (by assumption) ?_
            rotate_left
            · intro w' hSw; (try dsimp only at hSw); go_simp; try with_reducible rfl
            try simp only [Act.put, List.setIfInBounds_toArray, List.set_cons_zero, List.set_cons_succ]
            refine wpAnyH_take (i := 6) (v := ?_) (by simp only [List.getElem?_toArray, List.getElem?_cons_succ, List.getElem?_cons_zero] <;> rfl) (by kernel_rfl) (by kernel_rfl) (by kernel_rfl) (by exact fun _ _ _ h => h) (Or.inl ⟨by kernel_rfl, ?_⟩) (by assumption) ?_
            rotate_left
            · intro w' hSw; (try dsimp only at hSw); go_simp; try with_reducible rfl
            try simp only [Act.put, List.setIfInBounds_toArray, List.set_cons_zero, List.set_cons_succ]
            refine wpAnyH_take (i := 7) (v := ?_) (by simp only [List.getElem?_toArray, List.getElem?_cons_succ, List.getElem?_cons_zero] <;> rfl) (by kernel_rfl) (by kernel_rfl) (by kernel_rfl) (by exact fun _ _ _ h => h) (Or.inl ⟨by kernel_rfl, ?_⟩) (by assumption) ?_
            rotate_left
            · intro w' hSw; (try dsimp only at hSw); go_simp; try with_reducible rfl
            try simp only [Act.put, List.setIfInBounds_toArray, List.set_cons_zero, List.set_cons_succ]
            refine wpAnyH_ready (rs := [8]) (by kernel_rfl) (by simp) (AllReadyH.cons rfl (fun K hK => ?_) AllReadyH.nil)
            go_simp
            (go_at_call 131; refine (spec_l2Line hi inferInstance hn15).mono ?_; rintro e w3 ⟨rfl, L3⟩; have hX3 := Later.trans (w := wb) inferInstance L3; have hU3 := Later.trans (w := w) inferInstance L3)
            refine hK.out _ _ (by exact ⟨inferInstance, inferInstance⟩) (fun hHeld => ?_)
            try simp only [Act.put, List.setIfInBounds_toArray, List.set_cons_zero, List.set_cons_succ]
            refine wpAnyH_take (i := 9) (v := ?_) (by simp only [List.getElem?_toArray, List.getElem?_cons_succ, List.getElem?_cons_zero] <;> rfl) (by kernel_rfl) (by kernel_rfl) (by kernel_rfl) (by exact fun _ _ _ h => h) (Or.inl ⟨by kernel_rfl, ?_⟩) (by assumption) ?_
            rotate_left
            · intro w' hSw; (try dsimp only at hSw); go_simp; try with_reducible rfl
            try simp only [Act.put, List.setIfInBounds_toArray, List.set_cons_zero, List.set_cons_succ]
            refine wpAnyH_take (i := 10) (v := ?_) (by simp only [List.getElem?_toArray, List.getElem?_cons_succ, List.getElem?_cons_zero] <;> rfl) (by kernel_rfl) (by kernel_rfl) (by kernel_rfl) (by exact fun _ _ _ h => h) (Or.inl ⟨by kernel_rfl, ?_⟩) (by assumption) ?_
            rotate_left
            · intro w' hSw; (try dsimp only at hSw); go_simp; try with_reducible rfl
            try simp only [Act.put, List.setIfInBounds_toArray, List.set_cons_zero, List.set_cons_succ]
            refine wpAnyH_take (i := 11) (v := undef) (by simp only [List.getElem?_toArray, List.getElem?_cons_succ, List.getElem?_cons_zero] <;> rfl) (by kernel_rfl) (by kernel_rfl) (by kernel_rfl) (by exact fun _ _ _ h => h) (Or.inr ⟨by kernel_rfl, rfl⟩) (by assumption) ?_
            try simp only [Act.put, List.setIfInBounds_toArray, List.set_cons_zero, List.set_cons_succ]
            refine wpAnyH_take (i := 12) (v := undef) (by simp only [List.getElem?_toArray, List.getElem?_cons_succ, List.getElem?_cons_zero] <;> rfl) (by kernel_rfl) (by kernel_rfl) (by kernel_rfl) (by exact fun _ _ _ h => h) (Or.inr ⟨by kernel_rfl, rfl⟩) (by assumption) ?_
            try simp only [Act.put, List.setIfInBounds_toArray, List.set_cons_zero, List.set_cons_succ]
            refine wpAnyH_take (i := 13) (v := undef) (by simp only [List.getElem?_toArray, List.getElem?_cons_succ, List.getElem?_cons_zero] <;> rfl) (by kernel_rfl) (by kernel_rfl) (by kernel_rfl) (by exact fun _ _ _ h => h) (Or.inr ⟨by kernel_rfl, rfl⟩) (by assumption) ?_
            try simp only [Act.put, List.setIfInBounds_toArray, List.set_cons_zero, List.set_cons_succ]
            refine wpAnyH_take (i := 14) (v := undef) (by simp only [List.getElem?_toArray, List.getElem?_cons_succ, List.getElem?_cons_zero] <;> rfl) (by kernel_rfl) (by kernel_rfl) (by kernel_rfl) (by exact fun _ _ _ h => h) (Or.inr ⟨by kernel_rfl, rfl⟩) (by assumption) ?_
            try simp only [Act.put, List.setIfInBounds_toArray, List.set_cons_zero, List.set_cons_succ]
            refine wpAnyH_take (i := 15) (v := undef) (by simp only [List.getElem?_toArray, List.getElem?_cons_succ, List.getElem?_cons_zero] <;> rfl) (by kernel_rfl) (by kernel_rfl) (by kernel_rfl) (by exact fun _ _ _ h => h) (Or.inr ⟨by kernel_rfl, rfl⟩) (by assumption) ?_
            try simp only [Act.put, List.setIfInBounds_toArray, List.set_cons_zero, List.set_cons_succ]
            refine wpAnyH_take (i := 16) (v := undef) (by simp only [List.getElem?_toArray, List.getElem?_cons_succ, List.getElem?_cons_zero] <;> rfl) (by kernel_rfl) (by kernel_rfl) (by kernel_rfl) (by exact fun _ _ _ h => h) (Or.inr ⟨by kernel_rfl, rfl⟩) (by assumption) ?_
            try simp only [Act.put, List.setIfInBounds_toArray, List.set_cons_zero, List.set_cons_succ]
            refine wpAnyH_take (i := 17) (v := undef) (by simp only [List.getElem?_toArray, List.getElem?_cons_succ, List.getElem?_cons_zero] <;> rfl) (by kernel_rfl) (by kernel_rfl) (by kernel_rfl) (by exact fun _ _ _ h => h) (Or.inr ⟨by kernel_rfl, rfl⟩) (by assumption) ?_
            try simp only [Act.put, List.setIfInBounds_toArray, List.set_cons_zero, List.set_cons_succ]
            refine wpAnyH_take (i := 18) (v := undef) (by simp only [List.getElem?_toArray, List.getElem?_cons_succ, List.getElem?_cons_zero] <;> rfl) (by kernel_rfl) (by kernel_rfl) (by kernel_rfl) (by exact fun _ _ _ h => h) (Or.inr ⟨by kernel_rfl, rfl⟩) (by assumption) ?_
            try simp only [Act.put, List.setIfInBounds_toArray, List.set_cons_zero, List.set_cons_succ]
            refine wpAnyH_take (i := 19) (v := undef) (by simp only [List.getElem?_toArray, List.getElem?_cons_succ, List.getElem?_cons_zero] <;> rfl) (by kernel_rfl) (by kernel_rfl) (by kernel_rfl) (by exact fun _ _ _ h => h) (Or.inr ⟨by kernel_rfl, rfl⟩) (by assumption) ?_
            try simp only [Act.put, List.setIfInBounds_toArray, List.set_cons_zero, List.set_cons_succ]
            refine wpAnyH_take (i := 20) (v := undef) (by simp only [List.getElem?_toArray, List.getElem?_cons_succ, List.getElem?_cons_zero] <;> rfl) (by kernel_rfl) (by kernel_rfl) (by kernel_rfl) (by exact fun _ _ _ h => h) (Or.inr ⟨by kernel_rfl, rfl⟩) (by assumption) ?_
            try simp only [Act.put, List.setIfInBounds_toArray, List.set_cons_zero, List.set_cons_succ]
            refine wpAnyH_take (i := 21) (v := ?_) (by simp only [List.getElem?_toArray, List.getElem?_cons_succ, List.getElem?_cons_zero] <;> rfl) (by kernel_rfl) (by kernel_rfl) (by kernel_rfl) (by exact fun _ _ _ h => h) (Or.inl ⟨by kernel_rfl, ?_⟩) (by assumption) ?_
            rotate_left
            · intro w' hSw; (try dsimp only at hSw); go_simp; try with_reducible rfl
            try simp only [Act.put, List.setIfInBounds_toArray, List.set_cons_zero, List.set_cons_succ]
            refine wpAnyH_done (by kernel_rfl) ?_ _
            go_wp2
            go_ret
            exact ⟨ret_bool HF2.out.symm, inferInstance⟩
        · have HF2 : Hid (okNetwork r = true) := by
            show _ = _
            rw [okNetwork_spec, B1.out, B2.out, B3.out, ← HF.out, List.drop_eq_nil_of_le (by have := hlen1.out; omega)]; rfl
          clear HF
          go_wp2
          go_ret
          exact ⟨ret_bool HF2.out.symm, inferInstance⟩
end Go.Proofs.Ytaopadffabbjiaa
