/-
  Headways: the rests at a stop, in order, on both sides.
-/
import Derived.Test.YtaopadffabbjiaaHeadB
import Derived.Test.YtaopadffabbjiaaRestP
import Derived.Test.YtaopadffabbjiaaAppS
import Derived.Test.YtaopadffabbjiaaSortNil
import Derived.Test.YtaopadffabbjiaaTimeE
namespace Go.Proofs.Ytaopadffabbjiaa
open Go Go.RowKit Go.Sort
set_option linter.unusedVariables false
set_option maxRecDepth 100000
set_option linter.unusedSimpArgs false
theorem okPassed_no1 {n : Network} {period : Int} {l : List Pattern} {stop : Int} (h : okPatterns n period l = false) : okPassed n period l stop = false := by unfold okPassed; rw [h]; rfl
theorem okPassed_yes {n : Network} {period : Int} {l : List Pattern} {stop : Int} (h : okPatterns n period l = true) : okPassed n period l stop = inB stop 0 ((n.Stops.length : Int) - 1) := by unfold okPassed; rw [h]; rfl
theorem restsOf_neg {n : Network} {period : Int} {p : Pattern} {l : List Pattern} {stop : Int} (h : restOf n period p stop < 0) : restsOf n period (p :: l) stop = restsOf n period l stop := by
  unfold restsOf
  rw [List.map_cons, List.filter_cons_of_neg (by simpa using h)]
theorem restsOf_pos {n : Network} {period : Int} {p : Pattern} {l : List Pattern} {stop : Int} (h : ¬ restOf n period p stop < 0) : restsOf n period (p :: l) stop = restOf n period p stop :: restsOf n period l stop := by
  unfold restsOf
  rw [List.map_cons, List.filter_cons_of_pos (by simpa using h)]
theorem impl_arePassed {w0 w w2 : World} {sA0 : Option Addr} {sn0 sc0 : Nat} {sA1 : Option Addr} {sn1 sc1 : Nat} {n : Network} (h : NetworkAt w0 sA0 sn0 sc0 sA1 sn1 sc1 n) (hl : Later w0 w) (period : Int) {qA : Option Addr} {qn qc : Nat} {l : List Pattern} (h2 : Patterns w2 qA qn qc l) (hl2 : Later w2 w) (stop : Int) : Calls Try.prog 82 #[.agg #[.slice sA0 sn0 sc0, .slice sA1 sn1 sc1], .int .i64 period, .slice qA qn qc, .int .i64 stop] w (Ret (.bool (okPassed n period l stop)) w) := by
  have hP := h2.later hl2
  have HSL := Lib.hid h.l_Stops.len
  have HB0 : ∀ W [Later (w.alloc (.cells #[.slice sA0 sn0 sc0, .slice sA1 sn1 sc1] 38)) W] (j : Nat), W.cell? ⟨w.heap.size, j, none⟩ = #[.slice sA0 sn0 sc0, .slice sA1 sn1 sc1][j]? := Later.boxes (t := 38) (fr := (0, 0)) (heap_new (by simp; try omega)); obtain ⟨wb, hwb⟩ : ∃ wb : World, wb = (w.alloc (.cells #[.slice sA0 sn0 sc0, .slice sA1 sn1 sc1] 38)) := ⟨_, rfl⟩; haveI hbW : Later wb (w.alloc (.cells #[.slice sA0 sn0 sc0, .slice sA1 sn1 sc1] 38)) := (by rw [hwb]; exact Later.rfl_); haveI hww : Later w wb := (by rw [hwb]; infer_instance); rw [← hwb] at HB0; have hbE := Lib.hid (congrArg (fun x : World => x.heap.size) hwb); clear hwb
  have hwb0 := hl.trans hww
  have hwb2 := hl2.trans hww
  have H := Lib.hid h
  have H2 := Lib.hid h2
  replace hP := hP.later hww
  have hq := hP.le
  have Hl := Lib.hid hP.len
  clear h h2
  by_cases c0 : okPatterns n period l = true
  · rw [okPassed_yes c0]
    go_enter Try.func82, Try.ntmps82
    go_wp2_with first
      | (go_at_call 120; refine (impl_IsValidPatterns H.out (hwb0.trans inferInstance) _ H2.out (hwb2.trans inferInstance)).mono ?_; rintro e w1 ⟨rfl, L1⟩; have X1 := Later.trans (w := wb) inferInstance L1)
      | (go_at_call 63; refine (impl_isStop H.out (hwb0.trans inferInstance) _).mono ?_; rintro e w2 ⟨rfl, L2⟩; have X2 := Later.trans (w := wb) inferInstance L2)
    go_ret
    exact ⟨rfl, hww.trans inferInstance⟩
  · have c1 : okPatterns n period l = false := by simpa using c0
    rw [okPassed_no1 c1]
    clear c0
    go_enter Try.func82, Try.ntmps82
    go_wp2_with first
      | (go_at_call 120; refine (impl_IsValidPatterns H.out (hwb0.trans inferInstance) _ H2.out (hwb2.trans inferInstance)).mono ?_; rintro e w1 ⟨rfl, L1⟩; have X1 := Later.trans (w := wb) inferInstance L1)
    go_ret
    exact ⟨rfl, hww.trans inferInstance⟩
theorem spec_l10Asked {w0 w w2 : World} {sA0 : Option Addr} {sn0 sc0 : Nat} {sA1 : Option Addr} {sn1 sc1 : Nat} {n : Network} (h : NetworkAt w0 sA0 sn0 sc0 sA1 sn1 sc1 n) (hl : Later w0 w) (period : Int) {qA : Option Addr} {qn qc : Nat} {l : List Pattern} (h2 : Patterns w2 qA qn qc l) (hl2 : Later w2 w) (stop : Int) : Calls Try.prog 140 #[.agg #[.slice sA0 sn0 sc0, .slice sA1 sn1 sc1], .int .i64 period, .slice qA qn qc, .int .i64 stop] w (Ret (.bool (okPassed n period l stop)) w) := by
  have hs0 := h.l_Stops.le
  have hP := h2.later hl2
  have HSL := Lib.hid h.l_Stops.len
  have HB0 : ∀ W [Later (w.alloc (.cells #[.slice sA0 sn0 sc0, .slice sA1 sn1 sc1] 38)) W] (j : Nat), W.cell? ⟨w.heap.size, j, none⟩ = #[.slice sA0 sn0 sc0, .slice sA1 sn1 sc1][j]? := Later.boxes (t := 38) (fr := (0, 0)) (heap_new (by simp; try omega)); obtain ⟨wb, hwb⟩ : ∃ wb : World, wb = (w.alloc (.cells #[.slice sA0 sn0 sc0, .slice sA1 sn1 sc1] 38)) := ⟨_, rfl⟩; haveI hbW : Later wb (w.alloc (.cells #[.slice sA0 sn0 sc0, .slice sA1 sn1 sc1] 38)) := (by rw [hwb]; exact Later.rfl_); haveI hww : Later w wb := (by rw [hwb]; infer_instance); rw [← hwb] at HB0; have hbE := Lib.hid (congrArg (fun x : World => x.heap.size) hwb); clear hwb
  have hwb0 := hl.trans hww
  have hwb2 := hl2.trans hww
  have H := Lib.hid h
  have H2 := Lib.hid h2
  replace hP := hP.later hww
  have hq := hP.le
  have Hl := Lib.hid hP.len
  clear h h2
  by_cases c0 : okPatterns n period l = true
  · rw [okPassed_yes c0, ← HSL.out]
    have hwk : IntKind.i64.wrap ((sn0 : Int) - 1) = (sn0 : Int) - 1 := by rw [IntKind.wrap_i64]; omega
    go_enter Try.func140, Try.ntmps140
    go_wp2_with first
      | (go_at_call 150; refine (spec_l10Good H.out (hwb0.trans inferInstance) _ H2.out (hwb2.trans inferInstance)).mono ?_; rintro e w1 ⟨rfl, L1⟩; have X1 := Later.trans (w := wb) inferInstance L1)
      | (go_at_call 55; refine (spec_l1In _ _ _ _).mono ?_; rintro e w' ⟨rfl, rfl⟩)
    go_ret
    exact ⟨rfl, hww.trans inferInstance⟩
  · have c1 : okPatterns n period l = false := by simpa using c0
    rw [okPassed_no1 c1]
    clear c0
    go_enter Try.func140, Try.ntmps140
    go_wp2_with first
      | (go_at_call 150; refine (spec_l10Good H.out (hwb0.trans inferInstance) _ H2.out (hwb2.trans inferInstance)).mono ?_; rintro e w1 ⟨rfl, L1⟩; have X1 := Later.trans (w := wb) inferInstance L1)
    go_ret
    exact ⟨rfl, hww.trans inferInstance⟩
set_option maxHeartbeats 2000000 in
theorem impl_passingRests {w0 w w2 : World} {sA0 : Option Addr} {sn0 sc0 : Nat} {sA1 : Option Addr} {sn1 sc1 : Nat} {n : Network} (h : NetworkAt w0 sA0 sn0 sc0 sA1 sn1 sc1 n) (hl : Later w0 w) (period : Int) {qA : Option Addr} {qn qc : Nat} {l : List Pattern} (h2 : Patterns w2 qA qn qc l) (hl2 : Later w2 w) (pf : PatFacts n period l) (stop : Int) : Calls Try.prog 83 #[.agg #[.slice sA0 sn0 sc0, .slice sA1 sn1 sc1], .int .i64 period, .slice qA qn qc, .int .i64 stop] w (RetO 1 oInt (rests n period l stop) w) := by
  have hP := h2.later hl2
  have HSL := Lib.hid h.l_Stops.len
  have HB0 : ∀ W [Later (w.alloc (.cells #[.slice sA0 sn0 sc0, .slice sA1 sn1 sc1] 38)) W] (j : Nat), W.cell? ⟨w.heap.size, j, none⟩ = #[.slice sA0 sn0 sc0, .slice sA1 sn1 sc1][j]? := Later.boxes (t := 38) (fr := (0, 0)) (heap_new (by simp; try omega)); obtain ⟨wb, hwb⟩ : ∃ wb : World, wb = (w.alloc (.cells #[.slice sA0 sn0 sc0, .slice sA1 sn1 sc1] 38)) := ⟨_, rfl⟩; haveI hbW : Later wb (w.alloc (.cells #[.slice sA0 sn0 sc0, .slice sA1 sn1 sc1] 38)) := (by rw [hwb]; exact Later.rfl_); haveI hww : Later w wb := (by rw [hwb]; infer_instance); rw [← hwb] at HB0; have hbE := Lib.hid (congrArg (fun x : World => x.heap.size) hwb); clear hwb
  have hwb0 := hl.trans hww
  have hwb2 := hl2.trans hww
  have H := Lib.hid h
  have H2 := Lib.hid h2
  replace hP := hP.later hww
  have hq := hP.le
  have Hl := Lib.hid hP.len
  clear h h2
  have hp1 := pf.per.1
  have hp2 := pf.per.2
  have hq3 : qn ≤ 3 := by have := pf.len.2; have := Hl.out; omega
  have NF := Lib.hid (netFacts pf.net)
  have PF := Lib.hid pf
  have hbs : wb.heap.size ≤ w.heap.size + 1 := by have := hbE.out; simp at this; omega
  have hbs2 : w.heap.size + 1 ≤ wb.heap.size := by have := hbE.out; simp at this; omega
  clear pf
  go_enter Try.func83, Try.ntmps83
  go_wp2_with fail
  go_loopw [9, 15] (fun ov i wr => ∃ (k : Nat) (acc : List Int), k ≤ qn ∧ i = .int .i64 k ∧ acc.length ≤ k ∧ Hid (acc ++ restsOf n period (l.drop k) stop = restsOf n period l stop) ∧ Hid (wr.ownsRow (w.heap.size + 1) 3 1 ov acc.length (acc.map (Value.int .i64))) ∧ Later wb wr) (fun _ i _ => qn - (intOf i).toNat)
  case atStart => exact ⟨0, [], by omega, rfl, by simp, by show _ = _; simp, Lib.hid (by simpa using World.ownsRow_nil _ (w.heap.size + 1) 3 1), inferInstance⟩
  case round =>
    obtain ⟨k, acc, hk, rfl, hal, HF, hown, hX⟩ := hrel
    by_cases hlt : k < qn
    · obtain ⟨b, o, x, rfl, hx, hc0, hc1, _⟩ := Patterns.at_ hP hlt
      have QF := Lib.hid (PF.out.pat k x hx.out)
      obtain ⟨r, hr⟩ : ∃ r, restOf n period x stop = r := ⟨_, rfl⟩
      have HR := Lib.hid hr
      have HF1 := HF.out
      rw [drop_at hx.out] at HF1
      clear HF hx
      have HBX : ∀ W [Later (wr.alloc (.cells #[.int .i64 x.Line, .int .i64 x.Offset] 122)) W] (j : Nat), W.cell? ⟨wr.heap.size, j, none⟩ = #[.int .i64 x.Line, .int .i64 x.Offset][j]? := Later.boxes (t := 122) (fr := (0, 0)) (heap_new (by simp; try omega)); obtain ⟨wx, hwx⟩ : ∃ wx : World, wx = (wr.alloc (.cells #[.int .i64 x.Line, .int .i64 x.Offset] 122)) := ⟨_, rfl⟩; haveI hxW : Later wx (wr.alloc (.cells #[.int .i64 x.Line, .int .i64 x.Offset] 122)) := (by rw [hwx]; exact Later.rfl_); haveI hbx : Later wb wx := (by rw [hwx]; infer_instance); rw [← hwx] at HBX; clear hwx
      by_cases c0 : r < 0
      · rw [restsOf_neg (by rw [hr]; exact c0)] at HF1
        have HF2 := Lib.hid HF1
        clear HF1 hr
        go_wp2_with (go_at_call 121; refine (impl_restAt H.out (hwb0.trans inferInstance) NF.out period hp1 hp2 x QF.out.1 QF.out.2.1 QF.out.2.2.1 QF.out.2.2.2 stop).mono ?_; rw [HR.out]; rintro e w4 ⟨rfl, L4⟩; have X4 := Later.trans (w := wb) inferInstance L4; have Y4 := Later.trans (w := wr) inferInstance L4)
        go_roundw
        case rel => exact ⟨k + 1, acc, by omega, by go_num, by omega, HF2, ownsRow_later hown.out (inferInstance : Later wr _), inferInstance⟩
        case measure => simp [intOf]; omega
      · rw [restsOf_pos (by rw [hr]; exact c0), hr] at HF1
        have HF2 : Hid (acc ++ [r] ++ restsOf n period (l.drop (k + 1)) stop = restsOf n period l stop) := by show _ = _; rw [← HF1]; simp
        clear HF1 hr
        go_wp2_with first
          | (go_at_call 121; refine (impl_restAt H.out (hwb0.trans inferInstance) NF.out period hp1 hp2 x QF.out.1 QF.out.2.1 QF.out.2.2.1 QF.out.2.2.2 stop).mono ?_; rw [HR.out]; rintro e w4 ⟨rfl, L4⟩; have X4 := Later.trans (w := wb) inferInstance L4; have Y4 := Later.trans (w := wr) inferInstance L4)
          | (at_builtin; refine wpList_app_B rfl _ _ 67 rfl Try.underlying67 infoInt rfl (by decide) (by decide) rfl (by exact ownsRow_later hown.out (inferInstance : Later wr w4)) (inferInstance : Later wb w4) hbs (Nat.le_trans hbs2 (Later.size (w := wb) inferInstance)) rfl rfl (one_cell _ _) (by omega) ?_; intro v' w9 hown' hX9)
        go_roundw
        case rel => exact ⟨k + 1, acc ++ [r], by omega, by go_num, by simp; omega, HF2, by show World.ownsRow _ _ _ _ _ _ _; rw [List.map_append, List.length_append]; exact hown', inferInstance⟩
        case measure => simp [intOf]; omega
    · have HE : Hid (acc = restsOf n period l stop) := by
        have h3 := HF.out
        rw [List.drop_eq_nil_of_le (by have := Hl.out; omega)] at h3
        exact (by simpa [restsOf] using h3 : acc = _)
      clear HF
      have hac : acc.length ≤ 3 := by omega
      have hS : rests n period l stop = acc.mergeSort (fun x y => decide (x ≤ y)) := by rw [HE.out]; rfl
      have hmem : ∀ y, y ∈ acc → I64 y := fun y hy => by
        have h1 := rests_mem (n := n) (l := l) (stop := stop) hp1 (r := y) (by rw [hS]; exact List.mem_mergeSort.2 hy)
        unfold I64; omega
      have HM := Lib.hid hmem
      have HS := Lib.hid hS
      clear hS hmem HE
      go_wp2_with (go_at_call 122; refine (impl_SortOwn (w0 := wb) (ownsRow_later hown.out (inferInstance : Later wr _)) inferInstance hbs (by omega)).mono ?_; rintro e w5 ⟨rfl, L5, hown5⟩; have HO5 := Lib.hid hown5; clear hown5)
      go_ret
      obtain ⟨A, c, fp, rfl, ho, hnd, hlo⟩ := OSl.ints_of_own HO5.out (fun y hy => HM.out y (List.mem_mergeSort.1 hy))
      exact ⟨A, _, c, fp, rfl, by rw [HS.out]; exact ho, hnd, fun g hg => by have := hlo g hg; omega, hww.trans inferInstance⟩
end Go.Proofs.Ytaopadffabbjiaa
