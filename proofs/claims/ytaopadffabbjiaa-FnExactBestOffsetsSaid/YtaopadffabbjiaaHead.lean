/-
  Headways: when patterns are valid.
-/
import Derived.Test.YtaopadffabbjiaaNetD
namespace Go.Proofs.Ytaopadffabbjiaa
open Go Go.RowKit
set_option linter.unusedVariables false
set_option maxRecDepth 100000
def okPat (nl : Nat) (period : Int) (p : Pattern) : Bool := inB p.Line 0 ((nl : Int) - 1) && inB p.Offset 0 (period - 1)
def okPatterns (n : Network) (period : Int) (l : List Pattern) : Bool := okNetwork n && inB period 1 60 && inB l.length 1 3 && l.all (okPat n.Lines.length period)
theorem okPat_no1 {nl : Nat} {period : Int} {p : Pattern} (h : inB p.Line 0 ((nl : Int) - 1) = false) : okPat nl period p = false := by unfold okPat; rw [h]; rfl
theorem okPat_no2 {nl : Nat} {period : Int} {p : Pattern} (h : inB p.Offset 0 (period - 1) = false) : okPat nl period p = false := by unfold okPat; rw [h]; simp
theorem okPat_yes {nl : Nat} {period : Int} {p : Pattern} (h : inB p.Line 0 ((nl : Int) - 1) = true) (h2 : inB p.Offset 0 (period - 1) = true) : okPat nl period p = true := by unfold okPat; rw [h, h2]; rfl
theorem okPs1 {n : Network} {period : Int} {l : List Pattern} (h : okNetwork n = false) : okPatterns n period l = false := by unfold okPatterns; rw [h]; rfl
theorem okPs2 {n : Network} {period : Int} {l : List Pattern} (h : inB period 1 60 = false) : okPatterns n period l = false := by unfold okPatterns; rw [h]; simp
theorem okPs3 {n : Network} {period : Int} {l : List Pattern} (h : inB l.length 1 3 = false) : okPatterns n period l = false := by unfold okPatterns; rw [h]; simp
theorem okPs4 {n : Network} {period : Int} {l : List Pattern} (h : l.all (okPat n.Lines.length period) = false) : okPatterns n period l = false := by unfold okPatterns; rw [h]; simp
structure PatFacts (n : Network) (period : Int) (l : List Pattern) : Prop where
  net : okNetwork n = true
  per : 1 ≤ period ∧ period ≤ 60
  len : 1 ≤ l.length ∧ l.length ≤ 3
  pat : ∀ (i : Nat) (p : Pattern), l[i]? = some p → 0 ≤ p.Line ∧ p.Line < n.Lines.length ∧ 0 ≤ p.Offset ∧ p.Offset < period
theorem patFacts {n : Network} {period : Int} {l : List Pattern} (h : okPatterns n period l = true) : PatFacts n period l := by
  simp only [okPatterns, Bool.and_eq_true, inB_t, List.all_eq_true, okPat] at h
  obtain ⟨⟨⟨h1, h2⟩, h3⟩, h4⟩ := h
  exact ⟨h1, h2, by omega, fun i p hp => by have := h4 p (List.mem_of_getElem? hp); omega⟩
set_option maxHeartbeats 800000 in
theorem impl_IsValidPatterns {w0 w w2 : World} {sA0 : Option Addr} {sn0 sc0 : Nat} {sA1 : Option Addr} {sn1 sc1 : Nat} {n : Network} (h : NetworkAt w0 sA0 sn0 sc0 sA1 sn1 sc1 n) (hl : Later w0 w) (period : Int) {qA : Option Addr} {qn qc : Nat} {l : List Pattern} (h2 : Patterns w2 qA qn qc l) (hl2 : Later w2 w) :
    Calls Try.prog 120 #[.agg #[.slice sA0 sn0 sc0, .slice sA1 sn1 sc1], .int .i64 period, .slice qA qn qc] w (Ret (.bool (okPatterns n period l)) w) := by
  replace h := h.later hl
  replace h2 := h2.later hl2
  have hP := h.l_Lines
  have hn1 := hP.le
  have hn2 := h2.le
  have Hl := Lib.hid h2.len
  have Hl1 := Lib.hid hP.len
  have HB0 : ∀ W [Later (w.alloc (.cells #[.slice sA0 sn0 sc0, .slice sA1 sn1 sc1] 38)) W] (j : Nat), W.cell? ⟨w.heap.size, j, none⟩ = #[.slice sA0 sn0 sc0, .slice sA1 sn1 sc1][j]? := Later.boxes (t := 38) (fr := (0, 0)) (heap_new (by simp; try omega)); obtain ⟨wb, hwb⟩ : ∃ wb : World, wb = (w.alloc (.cells #[.slice sA0 sn0 sc0, .slice sA1 sn1 sc1] 38)) := ⟨_, rfl⟩; haveI hbW : Later wb (w.alloc (.cells #[.slice sA0 sn0 sc0, .slice sA1 sn1 sc1] 38)) := (by rw [hwb]; exact Later.rfl_); haveI hww : Later w wb := (by rw [hwb]; infer_instance); rw [← hwb] at HB0; have hbE := Lib.hid (congrArg (fun x : World => x.heap.size) hwb); clear hwb
  replace h := h.later hww
  replace h2 := h2.later hww
  have H := Lib.hid h
  clear h
  by_cases b1 : okNetwork n = true
  rotate_left
  · have g1 : okNetwork n = false := by simpa using b1
    have HN := Lib.hid (okPs1 (period := period) (l := l) g1)
    clear b1
    go_enter Try.func120, Try.ntmps120
    go_wp2_with first
      | (go_at_call 110; refine (impl_IsValidNetwork H.out inferInstance).mono ?_; rintro e w1 ⟨rfl, L1⟩; have X1 := Later.trans (w := wb) inferInstance L1)
      | (go_at_call 112; refine (impl_within _ _ _ _).mono ?_; rintro e w' ⟨rfl, rfl⟩)
    go_ret
    exact ⟨ret_bool HN.out.symm, hww.trans inferInstance⟩
  by_cases b2 : inB period 1 60 = true
  rotate_left
  · have g1 : inB period 1 60 = false := by simpa using b2
    have HN := Lib.hid (okPs2 (n := n) (l := l) g1)
    clear b2
    go_enter Try.func120, Try.ntmps120
    go_wp2_with first
      | (go_at_call 110; refine (impl_IsValidNetwork H.out inferInstance).mono ?_; rintro e w1 ⟨rfl, L1⟩; have X1 := Later.trans (w := wb) inferInstance L1)
      | (go_at_call 112; refine (impl_within _ _ _ _).mono ?_; rintro e w' ⟨rfl, rfl⟩)
    go_ret
    exact ⟨ret_bool HN.out.symm, hww.trans inferInstance⟩
  by_cases b3 : inB qn 1 3 = true
  rotate_left
  · have g1 : inB qn 1 3 = false := by simpa using b3
    have HN : Hid (okPatterns n period l = false) := okPs3 (by rw [← Hl.out]; exact g1)
    clear b3
    go_enter Try.func120, Try.ntmps120
    go_wp2_with first
      | (go_at_call 110; refine (impl_IsValidNetwork H.out inferInstance).mono ?_; rintro e w1 ⟨rfl, L1⟩; have X1 := Later.trans (w := wb) inferInstance L1)
      | (go_at_call 112; refine (impl_within _ _ _ _).mono ?_; rintro e w' ⟨rfl, rfl⟩)
    go_ret
    exact ⟨ret_bool HN.out.symm, hww.trans inferInstance⟩
  have B : Hid (∀ v, l.all (okPat n.Lines.length period) = v → okPatterns n period l = v) := fun v hv => by unfold okPatterns; rw [b1, b2, ← Hl.out, b3, hv]; rfl
  have c2 := inB_t.1 b2
  have hp1 := c2.1
  have hp2 := c2.2
  clear c2
  go_enter Try.func120, Try.ntmps120
  go_wp2_with first
    | (go_at_call 110; refine (impl_IsValidNetwork H.out inferInstance).mono ?_; rintro e w1 ⟨rfl, L1⟩; have X1 := Later.trans (w := wb) inferInstance L1)
    | (go_at_call 112; refine (impl_within _ _ _ _).mono ?_; rintro e w' ⟨rfl, rfl⟩)
  clear b1 b2 b3
  go_loopw [25] (fun i wr => ∃ (k : Nat), k ≤ qn ∧ i = .int .i64 k ∧ Hid (l.all (okPat n.Lines.length period) = (l.drop k).all (okPat n.Lines.length period)) ∧ Later wb wr) (fun i _ => qn - (intOf i).toNat)
  case atStart => exact ⟨0, by omega, rfl, rfl, inferInstance⟩
  case round =>
    obtain ⟨k, hk, rfl, HF, hX⟩ := hrel
    by_cases hlt : k < qn
    · obtain ⟨b, o, x, rfl, hx, hc0, hc1, hi⟩ := Patterns.at_ h2 hlt
      have HF1 : Hid (l.all (okPat n.Lines.length period) = (okPat n.Lines.length period x && (l.drop (k + 1)).all (okPat n.Lines.length period))) := by rw [HF.out, drop_at hx.out]; rfl
      clear HF
      have HBX : ∀ W [Later (wr.alloc (.cells #[.int .i64 x.Line, .int .i64 x.Offset] 122)) W] (j : Nat), W.cell? ⟨wr.heap.size, j, none⟩ = #[.int .i64 x.Line, .int .i64 x.Offset][j]? := Later.boxes (t := 122) (fr := (0, 0)) (heap_new (by simp; try omega)); obtain ⟨wx, hwx⟩ : ∃ wx : World, wx = (wr.alloc (.cells #[.int .i64 x.Line, .int .i64 x.Offset] 122)) := ⟨_, rfl⟩; haveI hxW : Later wx (wr.alloc (.cells #[.int .i64 x.Line, .int .i64 x.Offset] 122)) := (by rw [hwx]; exact Later.rfl_); haveI hbx : Later wb wx := (by rw [hwx]; infer_instance); rw [← hwx] at HBX; clear hwx
      by_cases c1 : inB x.Line 0 ((n.Lines.length : Int) - 1) = true
      · by_cases c2 : inB x.Offset 0 (period - 1) = true
        · have HF2 : Hid (l.all (okPat n.Lines.length period) = (l.drop (k + 1)).all (okPat n.Lines.length period)) := by rw [HF1.out, okPat_yes c1 c2]; rfl
          clear HF1
          go_wp2_with first
            | (go_at_call 136; refine (impl_isLine H.out inferInstance _).mono ?_; rintro e w4 ⟨rfl, L4⟩; have Z4 := Later.trans (w := wx) inferInstance L4; have X4 := Later.trans (w := wb) inferInstance L4)
            | (go_at_call 112; refine (impl_within _ _ _ _).mono ?_; rintro e w' ⟨rfl, rfl⟩)
          go_roundw
          case rel => exact ⟨k + 1, by omega, by go_num, HF2, inferInstance⟩
          case measure => simp [intOf]; omega
        · have c3 : inB x.Offset 0 (period - 1) = false := by simpa using c2
          have HF2 : Hid (okPatterns n period l = false) := B.out _ (by rw [HF1.out, okPat_no2 c3]; rfl)
          clear HF1 c2
          go_wp2_with first
            | (go_at_call 136; refine (impl_isLine H.out inferInstance _).mono ?_; rintro e w4 ⟨rfl, L4⟩; have Z4 := Later.trans (w := wx) inferInstance L4; have X4 := Later.trans (w := wb) inferInstance L4)
            | (go_at_call 112; refine (impl_within _ _ _ _).mono ?_; rintro e w' ⟨rfl, rfl⟩)
          go_ret
          exact ⟨ret_bool HF2.out.symm, hww.trans inferInstance⟩
      · have c3 : inB x.Line 0 ((n.Lines.length : Int) - 1) = false := by simpa using c1
        have HF2 : Hid (okPatterns n period l = false) := B.out _ (by rw [HF1.out, okPat_no1 c3]; rfl)
        clear HF1 c1
        go_wp2_with (go_at_call 136; refine (impl_isLine H.out inferInstance _).mono ?_; rintro e w4 ⟨rfl, L4⟩; have Z4 := Later.trans (w := wx) inferInstance L4; have X4 := Later.trans (w := wb) inferInstance L4)
        go_ret
        exact ⟨ret_bool HF2.out.symm, hww.trans inferInstance⟩
    · have HF2 : Hid (okPatterns n period l = true) := B.out _ (by rw [HF.out, List.drop_eq_nil_of_le (by have := Hl.out; omega)]; rfl)
      clear HF
      go_wp2
      go_ret
      exact ⟨ret_bool HF2.out.symm, hww.trans inferInstance⟩
set_option maxHeartbeats 800000 in
theorem spec_l10Good {w0 w w2 : World} {sA0 : Option Addr} {sn0 sc0 : Nat} {sA1 : Option Addr} {sn1 sc1 : Nat} {n : Network} (h : NetworkAt w0 sA0 sn0 sc0 sA1 sn1 sc1 n) (hl : Later w0 w) (period : Int) {qA : Option Addr} {qn qc : Nat} {l : List Pattern} (h2 : Patterns w2 qA qn qc l) (hl2 : Later w2 w) :
    Calls Try.prog 150 #[.agg #[.slice sA0 sn0 sc0, .slice sA1 sn1 sc1], .int .i64 period, .slice qA qn qc] w (Ret (.bool (okPatterns n period l)) w) := by
  replace h := h.later hl
  replace h2 := h2.later hl2
  have hP := h.l_Lines
  have hn1 := hP.le
  have hn2 := h2.le
  have Hl := Lib.hid h2.len
  have Hl1 := Lib.hid hP.len
  have HB0 : ∀ W [Later (w.alloc (.cells #[.slice sA0 sn0 sc0, .slice sA1 sn1 sc1] 38)) W] (j : Nat), W.cell? ⟨w.heap.size, j, none⟩ = #[.slice sA0 sn0 sc0, .slice sA1 sn1 sc1][j]? := Later.boxes (t := 38) (fr := (0, 0)) (heap_new (by simp; try omega)); obtain ⟨wb, hwb⟩ : ∃ wb : World, wb = (w.alloc (.cells #[.slice sA0 sn0 sc0, .slice sA1 sn1 sc1] 38)) := ⟨_, rfl⟩; haveI hbW : Later wb (w.alloc (.cells #[.slice sA0 sn0 sc0, .slice sA1 sn1 sc1] 38)) := (by rw [hwb]; exact Later.rfl_); haveI hww : Later w wb := (by rw [hwb]; infer_instance); rw [← hwb] at HB0; have hbE := Lib.hid (congrArg (fun x : World => x.heap.size) hwb); clear hwb
  replace h := h.later hww
  replace h2 := h2.later hww
  have H := Lib.hid h
  clear h
  by_cases b1 : okNetwork n = true
  rotate_left
  · have g1 : okNetwork n = false := by simpa using b1
    have HN := Lib.hid (okPs1 (period := period) (l := l) g1)
    clear b1
    go_enter Try.func150, Try.ntmps150
    go_wp2_with first
      | (go_at_call 106; refine (spec_l2Good H.out inferInstance).mono ?_; rintro e w1 ⟨rfl, L1⟩; have X1 := Later.trans (w := wb) inferInstance L1)
      | (go_at_call 55; refine (spec_l1In _ _ _ _).mono ?_; rintro e w' ⟨rfl, rfl⟩)
    go_ret
    exact ⟨ret_bool HN.out.symm, hww.trans inferInstance⟩
  by_cases b2 : inB period 1 60 = true
  rotate_left
  · have g1 : inB period 1 60 = false := by simpa using b2
    have HN := Lib.hid (okPs2 (n := n) (l := l) g1)
    clear b2
    go_enter Try.func150, Try.ntmps150
    go_wp2_with first
      | (go_at_call 106; refine (spec_l2Good H.out inferInstance).mono ?_; rintro e w1 ⟨rfl, L1⟩; have X1 := Later.trans (w := wb) inferInstance L1)
      | (go_at_call 55; refine (spec_l1In _ _ _ _).mono ?_; rintro e w' ⟨rfl, rfl⟩)
    go_ret
    exact ⟨ret_bool HN.out.symm, hww.trans inferInstance⟩
  by_cases b3 : inB qn 1 3 = true
  rotate_left
  · have g1 : inB qn 1 3 = false := by simpa using b3
    have HN : Hid (okPatterns n period l = false) := okPs3 (by rw [← Hl.out]; exact g1)
    clear b3
    go_enter Try.func150, Try.ntmps150
    go_wp2_with first
      | (go_at_call 106; refine (spec_l2Good H.out inferInstance).mono ?_; rintro e w1 ⟨rfl, L1⟩; have X1 := Later.trans (w := wb) inferInstance L1)
      | (go_at_call 55; refine (spec_l1In _ _ _ _).mono ?_; rintro e w' ⟨rfl, rfl⟩)
    go_ret
    exact ⟨ret_bool HN.out.symm, hww.trans inferInstance⟩
  have B : Hid (∀ v, l.all (okPat n.Lines.length period) = v → okPatterns n period l = v) := fun v hv => by unfold okPatterns; rw [b1, b2, ← Hl.out, b3, hv]; rfl
  have c2 := inB_t.1 b2
  have hp1 := c2.1
  have hp2 := c2.2
  clear c2
  go_enter Try.func150, Try.ntmps150
  go_wp2_with first
    | (go_at_call 106; refine (spec_l2Good H.out inferInstance).mono ?_; rintro e w1 ⟨rfl, L1⟩; have X1 := Later.trans (w := wb) inferInstance L1)
    | (go_at_call 55; refine (spec_l1In _ _ _ _).mono ?_; rintro e w' ⟨rfl, rfl⟩)
  clear b1 b2 b3
  go_loopw [7] (fun i wr => ∃ (k : Nat), k ≤ qn ∧ i = .int .i64 k ∧ Hid (l.all (okPat n.Lines.length period) = (l.drop k).all (okPat n.Lines.length period)) ∧ Later wb wr) (fun i _ => qn - (intOf i).toNat)
  case atStart => exact ⟨0, by omega, rfl, rfl, inferInstance⟩
  case round =>
    obtain ⟨k, hk, rfl, HF, hX⟩ := hrel
    by_cases hlt : k < qn
    · obtain ⟨b, o, x, rfl, hx, hc0, hc1, hi⟩ := Patterns.at_ h2 hlt
      have HF1 : Hid (l.all (okPat n.Lines.length period) = (okPat n.Lines.length period x && (l.drop (k + 1)).all (okPat n.Lines.length period))) := by rw [HF.out, drop_at hx.out]; rfl
      clear HF
      by_cases c1 : inB x.Line 0 ((sn1 : Int) - 1) = true
      · by_cases c2 : inB x.Offset 0 (period - 1) = true
        · have HF2 : Hid (l.all (okPat n.Lines.length period) = (l.drop (k + 1)).all (okPat n.Lines.length period)) := by rw [HF1.out, okPat_yes (by rw [← Hl1.out]; exact c1) c2]; rfl
          clear HF1
          go_wp2_with fail
          have hwr : IntKind.i64.wrap ((sn1 : Int) - 1) = (sn1 : Int) - 1 := by rw [IntKind.wrap_i64]; omega
          have hwp : IntKind.i64.wrap (period - 1) = period - 1 := by rw [IntKind.wrap_i64]; omega
          go_region_held3 (fun w' => Later wb w') (exact inferInstance) ((go_at_call 55; refine (spec_l1In _ _ _ _).mono ?_; rintro e w' ⟨rfl, rfl⟩))
          clear hwr hwp
          go_wp2
          go_roundw
          case rel => exact ⟨k + 1, by omega, by go_num, HF2, inferInstance⟩
          case measure => simp [intOf]; omega
        · have c3 : inB x.Offset 0 (period - 1) = false := by simpa using c2
          have HF2 : Hid (okPatterns n period l = false) := B.out _ (by rw [HF1.out, okPat_no2 c3]; rfl)
          clear HF1 c2
          go_wp2_with fail
          have hwr : IntKind.i64.wrap ((sn1 : Int) - 1) = (sn1 : Int) - 1 := by rw [IntKind.wrap_i64]; omega
          have hwp : IntKind.i64.wrap (period - 1) = period - 1 := by rw [IntKind.wrap_i64]; omega
          go_region_held3 (fun w' => Later wb w') (exact inferInstance) ((go_at_call 55; refine (spec_l1In _ _ _ _).mono ?_; rintro e w' ⟨rfl, rfl⟩))
          clear hwr hwp
          go_wp2
          go_ret
          exact ⟨ret_bool HF2.out.symm, hww.trans inferInstance⟩
      · have c3 : inB x.Line 0 ((sn1 : Int) - 1) = false := by simpa using c1
        have HF2 : Hid (okPatterns n period l = false) := B.out _ (by rw [HF1.out, okPat_no1 (by rw [← Hl1.out]; exact c3)]; rfl)
        clear HF1 c1
        go_wp2_with fail
        have hwr : IntKind.i64.wrap ((sn1 : Int) - 1) = (sn1 : Int) - 1 := by rw [IntKind.wrap_i64]; omega
        refine wp_region_held_drew (S := (fun w' => Later wb w')) (by kernel_rfl) (by exact inferInstance) (fun hHeld => ?_)
        refine wpAnyH_take (i := 0) (v := ?_) (by simp only [List.getElem?_toArray, List.getElem?_cons_zero] <;> rfl) (by kernel_rfl) (by kernel_rfl) (by kernel_rfl) (by exact fun _ _ _ h => h) (Or.inl ⟨by kernel_rfl, ?_⟩) (by assumption) ?_
        rotate_left
        · intro w' hSw; (try dsimp only at hSw); go_simp; try with_reducible rfl
        try simp only [Act.put, List.setIfInBounds_toArray, List.set_cons_zero, List.set_cons_succ]
        refine wpAnyH_take (i := 1) (v := ?_) (by simp only [List.getElem?_toArray, List.getElem?_cons_succ, List.getElem?_cons_zero] <;> rfl) (by kernel_rfl) (by kernel_rfl) (by kernel_rfl) (by exact fun _ _ _ h => h) (Or.inl ⟨by kernel_rfl, ?_⟩) (by assumption) ?_
        rotate_left
        · intro w' hSw; (try dsimp only at hSw); go_simp; try with_reducible rfl
        try simp only [Act.put, List.setIfInBounds_toArray, List.set_cons_zero, List.set_cons_succ]
        refine wpAnyH_take (i := 2) (v := ?_) (by simp only [List.getElem?_toArray, List.getElem?_cons_succ, List.getElem?_cons_zero] <;> rfl) (by kernel_rfl) (by kernel_rfl) (by kernel_rfl) (by exact fun _ _ _ h => h) (Or.inl ⟨by kernel_rfl, ?_⟩) (by assumption) ?_
        rotate_left
        · intro w' hSw; (try dsimp only at hSw); go_simp; try with_reducible rfl
        try simp only [Act.put, List.setIfInBounds_toArray, List.set_cons_zero, List.set_cons_succ]
        refine wpAnyH_take (i := 3) (v := ?_) (by simp only [List.getElem?_toArray, List.getElem?_cons_succ, List.getElem?_cons_zero] <;> rfl) (by kernel_rfl) (by kernel_rfl) (by kernel_rfl) (by exact fun _ _ _ h => h) (Or.inl ⟨by kernel_rfl, ?_⟩) (by assumption) ?_
        rotate_left
        · intro w' hSw; (try dsimp only at hSw); go_simp; try with_reducible rfl
        try simp only [Act.put, List.setIfInBounds_toArray, List.set_cons_zero, List.set_cons_succ]
        refine wpAnyH_take (i := 4) (v := ?_) (by simp only [List.getElem?_toArray, List.getElem?_cons_succ, List.getElem?_cons_zero] <;> rfl) (by kernel_rfl) (by kernel_rfl) (by kernel_rfl) (by exact fun _ _ _ h => h) (Or.inl ⟨by kernel_rfl, ?_⟩) (by assumption) ?_
        rotate_left
        · intro w' hSw; (try dsimp only at hSw); go_simp; try with_reducible rfl
        try simp only [Act.put, List.setIfInBounds_toArray, List.set_cons_zero, List.set_cons_succ]
        refine wpAnyH_take (i := 5) (v := ?_) (by simp only [List.getElem?_toArray, List.getElem?_cons_succ, List.getElem?_cons_zero] <;> rfl) (by kernel_rfl) (by kernel_rfl) (by kernel_rfl) (by exact fun _ _ _ h => h) (Or.inl ⟨by kernel_rfl, ?_⟩) (by assumption) ?_
        rotate_left
        · intro w' hSw; (try dsimp only at hSw); go_simp; try with_reducible rfl
        try simp only [Act.put, List.setIfInBounds_toArray, List.set_cons_zero, List.set_cons_succ]
        refine wpAnyH_take (i := 6) (v := ?_) (by simp only [List.getElem?_toArray, List.getElem?_cons_succ, List.getElem?_cons_zero] <;> rfl) (by kernel_rfl) (by kernel_rfl) (by kernel_rfl) (by exact fun _ _ _ h => h) (Or.inl ⟨by kernel_rfl, ?_⟩) (by assumption) ?_
        rotate_left
        · intro w' hSw; (try dsimp only at hSw); go_simp; try with_reducible rfl
        try simp only [Act.put, List.setIfInBounds_toArray, List.set_cons_zero, List.set_cons_succ]
        refine wpAnyH_take (i := 7) (v := ?_) (by simp only [List.getElem?_toArray, List.getElem?_cons_succ, List.getElem?_cons_zero] <;> rfl) (by kernel_rfl) (by kernel_rfl) (by kernel_rfl) (by exact fun _ _ _ h => h) (Or.inl ⟨by kernel_rfl, ?_⟩) (by assumption) ?_
        rotate_left
        · intro w' hSw; (try dsimp only at hSw); go_simp; try with_reducible rfl
        try simp only [Act.put, List.setIfInBounds_toArray, List.set_cons_zero, List.set_cons_succ]
        refine wpAnyH_take (i := 8) (v := ?_) (by simp only [List.getElem?_toArray, List.getElem?_cons_succ, List.getElem?_cons_zero] <;> rfl) (by kernel_rfl) (by kernel_rfl) (by kernel_rfl) (by exact fun _ _ _ h => h) (Or.inl ⟨by kernel_rfl, ?_⟩) (by assumption) ?_
        rotate_left
        · intro w' hSw; (try dsimp only at hSw); go_simp; try with_reducible rfl
        try simp only [Act.put, List.setIfInBounds_toArray, List.set_cons_zero, List.set_cons_succ]
        refine wpAnyH_ready (rs := [9]) (by kernel_rfl) (by simp) (AllReadyH.cons rfl (fun K hK => ?_) AllReadyH.nil)
        go_simp
        (go_at_call 55; refine (spec_l1In _ _ _ _).mono ?_; rintro e w' ⟨rfl, rfl⟩)
        refine hK.out _ _ (by exact inferInstance) (fun hHeld => ?_)
        try simp only [Act.put, List.setIfInBounds_toArray, List.set_cons_zero, List.set_cons_succ]
        refine wpAnyH_take (i := 10) (v := ?_) (by simp only [List.getElem?_toArray, List.getElem?_cons_succ, List.getElem?_cons_zero] <;> rfl) (by kernel_rfl) (by kernel_rfl) (by kernel_rfl) (by exact fun _ _ _ h => h) (Or.inl ⟨by kernel_rfl, ?_⟩) (by assumption) ?_
        rotate_left
        · intro w' hSw; (try dsimp only at hSw); go_simp; try with_reducible rfl
        try simp only [Act.put, List.setIfInBounds_toArray, List.set_cons_zero, List.set_cons_succ]
        refine wpAnyH_take (i := 11) (v := ?_) (by simp only [List.getElem?_toArray, List.getElem?_cons_succ, List.getElem?_cons_zero] <;> rfl) (by kernel_rfl) (by kernel_rfl) (by kernel_rfl) (by exact fun _ _ _ h => h) (Or.inl ⟨by kernel_rfl, ?_⟩) (by assumption) ?_
        rotate_left
        · intro w' hSw; (try dsimp only at hSw); go_simp; try with_reducible rfl
        try simp only [Act.put, List.setIfInBounds_toArray, List.set_cons_zero, List.set_cons_succ]
        refine wpAnyH_take (i := 12) (v := undef) (by simp only [List.getElem?_toArray, List.getElem?_cons_succ, List.getElem?_cons_zero] <;> rfl) (by kernel_rfl) (by kernel_rfl) (by kernel_rfl) (by exact fun _ _ _ h => h) (Or.inr ⟨by kernel_rfl, rfl⟩) (by assumption) ?_
        try simp only [Act.put, List.setIfInBounds_toArray, List.set_cons_zero, List.set_cons_succ]
        refine wpAnyH_take (i := 13) (v := undef) (by simp only [List.getElem?_toArray, List.getElem?_cons_succ, List.getElem?_cons_zero] <;> rfl) (by kernel_rfl) (by kernel_rfl) (by kernel_rfl) (by exact fun _ _ _ h => h) (Or.inr ⟨by kernel_rfl, rfl⟩) (by assumption) ?_
        try simp only [Act.put, List.setIfInBounds_toArray, List.set_cons_zero, List.set_cons_succ]
        refine wpAnyH_take (i := 14) (v := undef) (by simp only [List.getElem?_toArray, List.getElem?_cons_succ, List.getElem?_cons_zero] <;> rfl) (by kernel_rfl) (by kernel_rfl) (by kernel_rfl) (by exact fun _ _ _ h => h) (Or.inr ⟨by kernel_rfl, rfl⟩) (by assumption) ?_
        try simp only [Act.put, List.setIfInBounds_toArray, List.set_cons_zero, List.set_cons_succ]
        refine wpAnyH_take (i := 15) (v := undef) (by simp only [List.getElem?_toArray, List.getElem?_cons_succ, List.getElem?_cons_zero] <;> rfl) (by kernel_rfl) (by kernel_rfl) (by kernel_rfl) (by exact fun _ _ _ h => h) (Or.inr ⟨by kernel_rfl, rfl⟩) (by assumption) ?_
        try simp only [Act.put, List.setIfInBounds_toArray, List.set_cons_zero, List.set_cons_succ]
        refine wpAnyH_take (i := 16) (v := undef) (by simp only [List.getElem?_toArray, List.getElem?_cons_succ, List.getElem?_cons_zero] <;> rfl) (by kernel_rfl) (by kernel_rfl) (by kernel_rfl) (by exact fun _ _ _ h => h) (Or.inr ⟨by kernel_rfl, rfl⟩) (by assumption) ?_
        try simp only [Act.put, List.setIfInBounds_toArray, List.set_cons_zero, List.set_cons_succ]
        refine wpAnyH_take (i := 17) (v := undef) (by simp only [List.getElem?_toArray, List.getElem?_cons_succ, List.getElem?_cons_zero] <;> rfl) (by kernel_rfl) (by kernel_rfl) (by kernel_rfl) (by exact fun _ _ _ h => h) (Or.inr ⟨by kernel_rfl, rfl⟩) (by assumption) ?_
        try simp only [Act.put, List.setIfInBounds_toArray, List.set_cons_zero, List.set_cons_succ]
        refine wpAnyH_take (i := 18) (v := undef) (by simp only [List.getElem?_toArray, List.getElem?_cons_succ, List.getElem?_cons_zero] <;> rfl) (by kernel_rfl) (by kernel_rfl) (by kernel_rfl) (by exact fun _ _ _ h => h) (Or.inr ⟨by kernel_rfl, rfl⟩) (by assumption) ?_
        try simp only [Act.put, List.setIfInBounds_toArray, List.set_cons_zero, List.set_cons_succ]
        refine wpAnyH_take (i := 19) (v := undef) (by simp only [List.getElem?_toArray, List.getElem?_cons_succ, List.getElem?_cons_zero] <;> rfl) (by kernel_rfl) (by kernel_rfl) (by kernel_rfl) (by exact fun _ _ _ h => h) (Or.inr ⟨by kernel_rfl, rfl⟩) (by assumption) ?_
        try simp only [Act.put, List.setIfInBounds_toArray, List.set_cons_zero, List.set_cons_succ]
        refine wpAnyH_take (i := 20) (v := undef) (by simp only [List.getElem?_toArray, List.getElem?_cons_succ, List.getElem?_cons_zero] <;> rfl) (by kernel_rfl) (by kernel_rfl) (by kernel_rfl) (by exact fun _ _ _ h => h) (Or.inr ⟨by kernel_rfl, rfl⟩) (by assumption) ?_
        try simp only [Act.put, List.setIfInBounds_toArray, List.set_cons_zero, List.set_cons_succ]
        refine wpAnyH_take (i := 21) (v := ?_) (by simp only [List.getElem?_toArray, List.getElem?_cons_succ, List.getElem?_cons_zero] <;> rfl) (by kernel_rfl) (by kernel_rfl) (by kernel_rfl) (by exact fun _ _ _ h => h) (Or.inl ⟨by kernel_rfl, ?_⟩) (by assumption) ?_
        rotate_left
        · intro w' hSw; (try dsimp only at hSw); go_simp; try with_reducible rfl
        try simp only [Act.put, List.setIfInBounds_toArray, List.set_cons_zero, List.set_cons_succ]
        refine wpAnyH_done (by kernel_rfl) ?_ _
        clear hwr
        go_wp2
        go_ret
        exact ⟨ret_bool HF2.out.symm, hww.trans inferInstance⟩
    · have HF2 : Hid (okPatterns n period l = true) := B.out _ (by rw [HF.out, List.drop_eq_nil_of_le (by have := Hl.out; omega)]; rfl)
      clear HF
      go_wp2
      go_ret
      exact ⟨ret_bool HF2.out.symm, hww.trans inferInstance⟩
end Go.Proofs.Ytaopadffabbjiaa
