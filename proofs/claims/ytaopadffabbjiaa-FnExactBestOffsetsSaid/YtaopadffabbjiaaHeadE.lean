/-
  Headways: DoubleWait, LargestGap, Unevenness on both sides.
-/
import Derived.Test.YtaopadffabbjiaaHeadD
namespace Go.Proofs.Ytaopadffabbjiaa
open Go Go.RowKit
set_option linter.unusedVariables false
set_option maxRecDepth 100000
set_option linter.unusedSimpArgs false
set_option maxHeartbeats 800000 in
theorem spec_LargestGap {w0 w w2 : World} {sA0 : Option Addr} {sn0 sc0 : Nat} {sA1 : Option Addr} {sn1 sc1 : Nat} {n : Network} (h : NetworkAt w0 sA0 sn0 sc0 sA1 sn1 sc1 n) (hl : Later w0 w) (period : Int) {qA : Option Addr} {qn qc : Nat} {l : List Pattern} (h2 : Patterns w2 qA qn qc l) (hl2 : Later w2 w) (stop : Int) : Calls Try.prog 75 #[.agg #[.slice sA0 sn0 sc0, .slice sA1 sn1 sc1], .int .i64 period, .slice qA qn qc, .int .i64 stop] w (Ret (.tuple #[.int .i64 (largeRes n period l stop).1, .int .i64 (largeRes n period l stop).2.1, .bool (largeRes n period l stop).2.2]) w) := by
  have hP := h2.later hl2
  have HSL := Lib.hid h.l_Stops.len
  have HB0 : ∀ W [Later (w.alloc (.cells #[.slice sA0 sn0 sc0, .slice sA1 sn1 sc1] 38)) W] (j : Nat), W.cell? ⟨w.heap.size, j, none⟩ = #[.slice sA0 sn0 sc0, .slice sA1 sn1 sc1][j]? := Later.boxes (t := 38) (fr := (0, 0)) (heap_new (by simp; try omega)); obtain ⟨wb, hwb⟩ : ∃ wb : World, wb = (w.alloc (.cells #[.slice sA0 sn0 sc0, .slice sA1 sn1 sc1] 38)) := ⟨_, rfl⟩; haveI hbW : Later wb (w.alloc (.cells #[.slice sA0 sn0 sc0, .slice sA1 sn1 sc1] 38)) := (by rw [hwb]; exact Later.rfl_); haveI hww : Later w wb := (by rw [hwb]; infer_instance); rw [← hwb] at HB0; have hbE := Lib.hid (congrArg (fun x : World => x.heap.size) hwb); clear hwb
  have hwb0 := hl.trans hww
  have hwb2 := hl2.trans hww
  have H := Lib.hid h
  have H2 := Lib.hid h2
  replace hP := hP.later hww
  have hq := hP.le
  have Hl := Lib.hid hP.len
  clear h h2
  by_cases c0 : okPassed n period l stop = true
  rotate_left
  · have HGR : Hid (gapsRes n period l stop = ([], false)) := if_neg c0
    rw [show largeRes n period l stop = (0, 0, false) from if_neg (fun h => c0 h.1)]
    clear c0
    go_enter Try.func75, Try.ntmps75
    go_wp2_with ((go_at_call 117; refine (spec_GapsAt H.out (hwb0.trans inferInstance) _ H2.out (hwb2.trans inferInstance) stop).mono ?_; rw [HGR.out]; rintro e w3 ⟨A3, n3, c3, fp3, rfl, ho3, hnd3, hlo3, L3⟩; have X3 := Later.trans (w := wb) inferInstance L3; have h3 : Ints w3 A3 n3 c3 _ := ho3.reads; have H3 := Lib.hid h3; have hn3 := h3.len; clear h3); (simp only [List.length_nil] at hn3; subst hn3))
    go_ret3
    exact ⟨rfl, hww.trans inferInstance⟩
  have PF := Lib.hid (okPassed_pat c0)
  have hgl := gapsO_len (rests n period l stop) period
  by_cases c2 : rests n period l stop = []
  · have HGR : Hid (gapsRes n period l stop = ([], true)) := by show _ = _; unfold gapsRes; rw [if_pos c0, c2]; rfl
    rw [show largeRes n period l stop = (0, 0, false) from if_neg (fun h => h.2 c2)]
    clear c0 hgl c2
    go_enter Try.func75, Try.ntmps75
    go_wp2_with ((go_at_call 117; refine (spec_GapsAt H.out (hwb0.trans inferInstance) _ H2.out (hwb2.trans inferInstance) stop).mono ?_; rw [HGR.out]; rintro e w3 ⟨A3, n3, c3, fp3, rfl, ho3, hnd3, hlo3, L3⟩; have X3 := Later.trans (w := wb) inferInstance L3; have h3 : Ints w3 A3 n3 c3 _ := ho3.reads; have H3 := Lib.hid h3; have hn3 := h3.len; clear h3); (simp only [List.length_nil] at hn3; subst hn3))
    go_ret3
    exact ⟨rfl, hww.trans inferInstance⟩
  have HGR : Hid (gapsRes n period l stop = (gapsO (rests n period l stop) period, true)) := if_pos c0
  have hpos : 0 < (rests n period l stop).length := Nat.pos_of_ne_zero (fun e => c2 (List.length_eq_zero_iff.1 e))
  have hbl := big_lt (l := gapsO (rests n period l stop) period) (by omega)
  obtain ⟨m, hm⟩ : ∃ m, m = (big (gapsO (rests n period l stop) period)).2 := ⟨_, rfl⟩
  rw [← hm] at hbl
  rw [show largeRes n period l stop = ((big (gapsO (rests n period l stop) period)).1, (rests n period l stop).getD (big (gapsO (rests n period l stop) period)).2 0, true) from if_pos ⟨c0, c2⟩, ← hm]
  have HM := Lib.hid hm
  have HNE : Hid (¬ (gapsO (rests n period l stop) period).length = 0) := by show ¬ _; omega
  have HP0 : Hid (0 < (gapsO (rests n period l stop) period).length) := by show _ < _; omega
  have HL60 : Hid ((gapsO (rests n period l stop) period).length ≤ 60) := by show _ ≤ _; rw [hgl]; exact (restsIn PF.out).len
  have HGP := Lib.hid (gapsO_pos (restsIn (stop := stop) PF.out) (rests_sorted n period l stop))
  have HBL : Hid (m < (rests n period l stop).length) := by show _ < _; omega
  clear c0 c2 hgl hm hbl hpos
  go_enter Try.func75, Try.ntmps75
  go_wp2_with first
    | ((go_at_call 117; refine (spec_GapsAt H.out (hwb0.trans inferInstance) _ H2.out (hwb2.trans inferInstance) stop).mono ?_; rw [HGR.out]; rintro e w3 ⟨A3, n3, c3, fp3, rfl, ho3, hnd3, hlo3, L3⟩; have X3 := Later.trans (w := wb) inferInstance L3; have h3 : Ints w3 A3 n3 c3 _ := ho3.reads; have H3 := Lib.hid h3; have hn3 := h3.len; clear h3); (have hn30 : ¬ n3 = 0 := (by rw [hn3]; exact HNE.out); have hn31 : ¬ (n3 : Int) = 0 := (by omega); have ge1 := (beqi_f hn31).1; have ge2 := (beqi_f hn31).2; have hn60 : n3 ≤ 60 := (by rw [hn3]; exact HL60.out); have Hn3 := Lib.hid hn3; clear hn3 hn31))
    | (go_at_call 76; refine (spec_l10Largest H3.out inferInstance hn60 HP0.out HGP.out).mono ?_; rw [← HM.out]; rintro e w4 ⟨rfl, L4⟩; have X4 := Later.trans (w := wb) inferInstance L4)
  refine wp_region_held_drew (S := (fun w' => Later wb w')) (by kernel_rfl) (by exact inferInstance) (fun hHeld => ?_)
  refine wpAnyH_take (i := 0) (v := ?_) (by simp only [List.getElem?_toArray, List.getElem?_cons_zero] <;> rfl) (by kernel_rfl) (by kernel_rfl) (by kernel_rfl) (by exact fun _ _ _ h => h) (Or.inl ⟨by kernel_rfl, ?_⟩) (by assumption) ?_
  rotate_left
  · intro w' hSw; (try dsimp only at hSw); go_simp; try with_reducible rfl
  try simp only [Act.put, List.setIfInBounds_toArray, List.set_cons_zero, List.set_cons_succ]
  refine wpAnyH_take (i := 1) (v := ?_) (by simp only [List.getElem?_toArray, List.getElem?_cons_succ, List.getElem?_cons_zero] <;> rfl) (by kernel_rfl) (by kernel_rfl) (by kernel_rfl) (by exact fun _ _ _ h => h) (Or.inl ⟨by kernel_rfl, ?_⟩) (by assumption) ?_
  rotate_left
  · intro w' hSw; (try dsimp only at hSw); go_simp; try with_reducible rfl
  try simp only [Act.put, List.setIfInBounds_toArray, List.set_cons_zero, List.set_cons_succ]
  refine wpAnyH_take (i := 2) (v := ?_) (by simp only [List.getElem?_toArray, List.getElem?_cons_succ, List.getElem?_cons_zero] <;> rfl) (by kernel_rfl) (by kernel_rfl) (by kernel_rfl) (by exact fun _ _ _ h => h) (Or.inl ⟨by kernel_rfl, ?_⟩) (by assumption) ?_
  rotate_left
  · intro w' hSw; (try dsimp only at hSw); go_simp; try with_reducible rfl
  try simp only [Act.put, List.setIfInBounds_toArray, List.set_cons_zero, List.set_cons_succ]
  refine wpAnyH_take (i := 3) (v := ?_) (by simp only [List.getElem?_toArray, List.getElem?_cons_succ, List.getElem?_cons_zero] <;> rfl) (by kernel_rfl) (by kernel_rfl) (by kernel_rfl) (by exact fun _ _ _ h => h) (Or.inl ⟨by kernel_rfl, ?_⟩) (by assumption) ?_
  rotate_left
  · intro w' hSw; (try dsimp only at hSw); go_simp; try with_reducible rfl
  try simp only [Act.put, List.setIfInBounds_toArray, List.set_cons_zero, List.set_cons_succ]
  refine wpAnyH_take (i := 4) (v := ?_) (by simp only [List.getElem?_toArray, List.getElem?_cons_succ, List.getElem?_cons_zero] <;> rfl) (by kernel_rfl) (by kernel_rfl) (by kernel_rfl) (by exact fun _ _ _ h => h) (Or.inl ⟨by kernel_rfl, ?_⟩) (by assumption) ?_
  rotate_left
  · intro w' hSw; (try dsimp only at hSw); go_simp; try with_reducible rfl
  try simp only [Act.put, List.setIfInBounds_toArray, List.set_cons_zero, List.set_cons_succ]
  refine wpAnyH_take (i := 6) (v := ?_) (by simp only [List.getElem?_toArray, List.getElem?_cons_succ, List.getElem?_cons_zero] <;> rfl) (by kernel_rfl) (by kernel_rfl) (by kernel_rfl) (by exact fun _ _ _ h => h) (Or.inl ⟨by kernel_rfl, ?_⟩) (by assumption) ?_
  rotate_left
  · intro w' hSw; (try dsimp only at hSw); go_simp; try with_reducible rfl
  try simp only [Act.put, List.setIfInBounds_toArray, List.set_cons_zero, List.set_cons_succ]
  refine wpAnyH_ready (rs := [5]) (by kernel_rfl) (by simp) (AllReadyH.cons rfl (fun K hK => ?_) AllReadyH.nil)
  go_simp
  (go_at_call 78; refine (spec_l10Rests H.out (hwb0.trans inferInstance) _ H2.out (hwb2.trans inferInstance) PF.out stop).mono ?_; rintro e w5 ⟨A5, n5, c5, fp5, rfl, ho5, hnd5, hlo5, L5⟩; have X5 := Later.trans (w := wb) inferInstance L5; have h5 : Ints w5 A5 n5 c5 (rests n period l stop) := ho5.reads; have hm5 : m < n5 := (by rw [h5.len]; exact HBL.out); have hm6 : (m : Int) < n5 := (by omega); obtain ⟨b5, o5, y5, rfl, hy5, hc5, _⟩ := Ints.at_ h5 hm5; have HY5 := hy5; clear h5 ho5 hy5 hm5)
  refine hK.out _ _ (by exact inferInstance) (fun hHeld => ?_)
  try simp only [Act.put, List.setIfInBounds_toArray, List.set_cons_zero, List.set_cons_succ]
  refine wpAnyH_take (i := 7) (v := ?_) (by simp only [List.getElem?_toArray, List.getElem?_cons_succ, List.getElem?_cons_zero] <;> rfl) (by kernel_rfl) (by kernel_rfl) (by kernel_rfl) (by exact fun _ _ _ h => h) (Or.inl ⟨by kernel_rfl, ?_⟩) (by assumption) ?_
  rotate_left
  · intro w' hSw; (try dsimp only at hSw); go_simp; try with_reducible rfl
  try simp only [Act.put, List.setIfInBounds_toArray, List.set_cons_zero, List.set_cons_succ]
  refine wpAnyH_take (i := 9) (v := ?_) (by simp only [List.getElem?_toArray, List.getElem?_cons_succ, List.getElem?_cons_zero] <;> rfl) (by kernel_rfl) (by kernel_rfl) (by kernel_rfl) (by exact fun _ _ _ h => h) (Or.inl ⟨by kernel_rfl, ?_⟩) (by assumption) ?_
  rotate_left
  · intro w' hSw; (try dsimp only at hSw); go_simp; try with_reducible rfl
  try simp only [Act.put, List.setIfInBounds_toArray, List.set_cons_zero, List.set_cons_succ]
  refine wpAnyH_ready (rs := [8]) (by kernel_rfl) (by simp) (AllReadyH.cons rfl (fun K hK => ?_) AllReadyH.nil)
  go_simp
  skip
  refine hK.out _ _ (by exact inferInstance) (fun hHeld => ?_)
  try simp only [Act.put, List.setIfInBounds_toArray, List.set_cons_zero, List.set_cons_succ]
  refine wpAnyH_take (i := 10) (v := ?_) (by simp only [List.getElem?_toArray, List.getElem?_cons_succ, List.getElem?_cons_zero] <;> rfl) (by kernel_rfl) (by kernel_rfl) (by kernel_rfl) (by exact fun _ _ _ h => h) (Or.inl ⟨by kernel_rfl, ?_⟩) (by assumption) ?_
  rotate_left
  · intro w' hSw; (try dsimp only at hSw); go_simp; try with_reducible rfl
  try simp only [Act.put, List.setIfInBounds_toArray, List.set_cons_zero, List.set_cons_succ]
  refine wpAnyH_take (i := 11) (v := ?_) (by simp only [List.getElem?_toArray, List.getElem?_cons_succ, List.getElem?_cons_zero] <;> rfl) (by kernel_rfl) (by kernel_rfl) (by kernel_rfl) (by exact fun _ _ _ h => h) (Or.inl ⟨by kernel_rfl, ?_⟩) (by assumption) ?_
  rotate_left
  · intro w' hSw; (try dsimp only at hSw); go_simp; try with_reducible rfl
  try simp only [Act.put, List.setIfInBounds_toArray, List.set_cons_zero, List.set_cons_succ]
  refine wpAnyH_done (by kernel_rfl) ?_ _
  go_wp2
  go_ret3
  exact ⟨by rw [List.getD_eq_getElem?_getD, HY5.out]; first | done | rfl, hww.trans inferInstance⟩
end Go.Proofs.Ytaopadffabbjiaa
