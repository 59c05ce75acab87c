/-
  ChangeTime, in the reference.
-/
import Derived.Test.YteijofkkggifhaaChgP
import Derived.Test.YteijofkkggifhaaWalkS
import Derived.Test.YteijofkkggifhaaWalkV
import Derived.Test.YteijofkkggifhaaTimeD
import Derived.Test.YteijofkkggifhaaArrP
namespace Go.Proofs.Yteijofkkggifhaa
open Go Go.RowKit
set_option linter.unusedVariables false
set_option maxRecDepth 100000
set_option linter.unusedSimpArgs false
set_option maxHeartbeats 8000000 in
theorem spec_ChangeTime {w0 w : World} {sA0 : Option Addr} {sn0 sc0 : Nat} {sA1 : Option Addr} {sn1 sc1 : Nat} {sA2 : Option Addr} {sn2 sc2 : Nat} {t : Timetable} (h : TimetableAt w0 sA0 sn0 sc0 sA1 sn1 sc1 sA2 sn2 sc2 t) (hl : Later w0 w) {w2 : World} {lA : Option Addr} {ln lc : Nat} {l : List Walk} (h2 : Walks w2 lA ln lc l) (hl2 : Later w2 w) (f g : Int) : Calls Try.prog 12 #[.agg #[.slice sA0 sn0 sc0, .slice sA1 sn1 sc1, .slice sA2 sn2 sc2], .slice lA ln lc, .int .i64 f, .int .i64 g] w (Ret (.tuple #[.int .i64 (chgRes t l f g).1, .int .i64 (chgRes t l f g).2.1, .bool (chgRes t l f g).2.2]) w) := by
  replace h2 := h2.later hl2
  have hS0 := h.l_Network_Stops
  have Hl := Lib.hid hS0.len
  have hsn := hS0.le
  clear hS0
  have HB0 : ∀ W [Later (w.alloc (.cells #[.slice sA0 sn0 sc0, .slice sA1 sn1 sc1, .slice sA2 sn2 sc2] 39)) W] (j : Nat), W.cell? ⟨w.heap.size, j, none⟩ = #[.slice sA0 sn0 sc0, .slice sA1 sn1 sc1, .slice sA2 sn2 sc2][j]? := Later.boxes (t := 39) (fr := (0, 0)) (heap_new (by simp; try omega)); obtain ⟨wb, hwb⟩ : ∃ wb : World, wb = (w.alloc (.cells #[.slice sA0 sn0 sc0, .slice sA1 sn1 sc1, .slice sA2 sn2 sc2] 39)) := ⟨_, rfl⟩; haveI hbW : Later wb (w.alloc (.cells #[.slice sA0 sn0 sc0, .slice sA1 sn1 sc1, .slice sA2 sn2 sc2] 39)) := (by rw [hwb]; exact Later.rfl_); haveI hww : Later w wb := (by rw [hwb]; infer_instance); rw [← hwb] at HB0; have hbE := Lib.hid (congrArg (fun x : World => x.heap.size) hwb); clear hwb
  have hwb0 := hl.trans hww
  have H := Lib.hid h
  clear h
  have HL2 := Lib.hid (h2.later hww)
  clear h2
  by_cases b1 : okTimetable t = true
  rotate_left
  · have g1 : okTimetable t = false := by simpa using b1
    have HR := Lib.hid (chg_no (t := t) (l := l) (f := f) (g := g) (fun e => b1 e.1))
    rw [HR.out]
    go_enter Try.func12, Try.ntmps12
    go_wp2_with first
      | (go_at_call 60; refine (spec_l5Good H.out (hwb0.trans inferInstance)).mono ?_; rintro e w1 ⟨rfl, L1⟩; have X1 := Later.trans (w := wb) inferInstance L1)
      | (go_at_call 61; refine (spec_l7Good (r := t.Network) ⟨H.out.l_Network_Stops, H.out.l_Network_Lines⟩ (hwb0.trans inferInstance) HL2.out inferInstance).mono ?_; rintro e w2 ⟨rfl, L2⟩; have X2 := Later.trans (w := wb) inferInstance L2)
      | (go_at_call 62; (with_reducible refine (spec_l5Find H.out (hwb0.trans inferInstance) f).mono ?_); rintro e w3 ⟨rfl, L3⟩; have X3 := Later.trans (w := wb) inferInstance L3)
      | (go_at_call 62; (with_reducible refine (spec_l5Find H.out (hwb0.trans inferInstance) g).mono ?_); rintro e w4 ⟨rfl, L4⟩; have X4 := Later.trans (w := wb) inferInstance L4)
    go_ret3
    exact ⟨rfl, hww.trans inferInstance⟩
  have tf := timeFacts b1
  have HNK : Hid (okNetwork t.Network = true) := by
    have h9 := b1
    simp only [okTimetable, Bool.and_eq_true] at h9
    exact h9.1.1
  have HWN : Hid (okWalksN t.Network l = okWalks t.Network.Stops.length l) := by show _ = _; unfold okWalksN; rw [HNK.out]; rfl
  by_cases b2 : okWalks t.Network.Stops.length l = true
  rotate_left
  · have g2 : okWalksN t.Network l = false := by rw [HWN.out]; simpa using b2
    have HR := Lib.hid (chg_no (t := t) (l := l) (f := f) (g := g) (fun e => b2 e.2.1))
    rw [HR.out]
    go_enter Try.func12, Try.ntmps12
    go_wp2_with first
      | (go_at_call 60; refine (spec_l5Good H.out (hwb0.trans inferInstance)).mono ?_; rintro e w1 ⟨rfl, L1⟩; have X1 := Later.trans (w := wb) inferInstance L1)
      | (go_at_call 61; refine (spec_l7Good (r := t.Network) ⟨H.out.l_Network_Stops, H.out.l_Network_Lines⟩ (hwb0.trans inferInstance) HL2.out inferInstance).mono ?_; rintro e w2 ⟨rfl, L2⟩; have X2 := Later.trans (w := wb) inferInstance L2)
      | (go_at_call 62; (with_reducible refine (spec_l5Find H.out (hwb0.trans inferInstance) f).mono ?_); rintro e w3 ⟨rfl, L3⟩; have X3 := Later.trans (w := wb) inferInstance L3)
      | (go_at_call 62; (with_reducible refine (spec_l5Find H.out (hwb0.trans inferInstance) g).mono ?_); rintro e w4 ⟨rfl, L4⟩; have X4 := Later.trans (w := wb) inferInstance L4)
    go_ret3
    exact ⟨rfl, hww.trans inferInstance⟩
  have g2 : okWalksN t.Network l = true := by rw [HWN.out]; exact b2
  by_cases b3 : f = g
  · have e1 := (beqi_t b3).1
    have e2 := (beqi_t b3).2
    have HR := Lib.hid (chg_no (t := t) (l := l) (f := f) (g := g) (fun e => e.2.2.1 b3))
    rw [HR.out]
    clear b3
    go_enter Try.func12, Try.ntmps12
    go_wp2_with first
      | (go_at_call 60; refine (spec_l5Good H.out (hwb0.trans inferInstance)).mono ?_; rintro e w1 ⟨rfl, L1⟩; have X1 := Later.trans (w := wb) inferInstance L1)
      | (go_at_call 61; refine (spec_l7Good (r := t.Network) ⟨H.out.l_Network_Stops, H.out.l_Network_Lines⟩ (hwb0.trans inferInstance) HL2.out inferInstance).mono ?_; rintro e w2 ⟨rfl, L2⟩; have X2 := Later.trans (w := wb) inferInstance L2)
      | (go_at_call 62; (with_reducible refine (spec_l5Find H.out (hwb0.trans inferInstance) f).mono ?_); rintro e w3 ⟨rfl, L3⟩; have X3 := Later.trans (w := wb) inferInstance L3)
      | (go_at_call 62; (with_reducible refine (spec_l5Find H.out (hwb0.trans inferInstance) g).mono ?_); rintro e w4 ⟨rfl, L4⟩; have X4 := Later.trans (w := wb) inferInstance L4)
    go_ret3
    exact ⟨rfl, hww.trans inferInstance⟩
  have e1 := (beqi_f b3).1
  have e2 := (beqi_f b3).2
  obtain ⟨u, hu⟩ : ∃ u, findI t f = u := ⟨_, rfl⟩
  obtain ⟨v, hv⟩ : ∃ v, findI t g = v := ⟨_, rfl⟩
  have HU := Lib.hid hu
  have HV := Lib.hid hv
  by_cases b4 : u < 0
  · have HR := Lib.hid (chg_no (t := t) (l := l) (f := f) (g := g) (fun e => by have := e.2.2.2.1; omega))
    rw [HR.out]
    rw [← hu] at b4
    clear hu hv b3
    go_enter Try.func12, Try.ntmps12
    go_wp2_with first
      | (go_at_call 60; refine (spec_l5Good H.out (hwb0.trans inferInstance)).mono ?_; rintro e w1 ⟨rfl, L1⟩; have X1 := Later.trans (w := wb) inferInstance L1)
      | (go_at_call 61; refine (spec_l7Good (r := t.Network) ⟨H.out.l_Network_Stops, H.out.l_Network_Lines⟩ (hwb0.trans inferInstance) HL2.out inferInstance).mono ?_; rintro e w2 ⟨rfl, L2⟩; have X2 := Later.trans (w := wb) inferInstance L2)
      | (go_at_call 62; (with_reducible refine (spec_l5Find H.out (hwb0.trans inferInstance) f).mono ?_); rintro e w3 ⟨rfl, L3⟩; have X3 := Later.trans (w := wb) inferInstance L3)
      | (go_at_call 62; (with_reducible refine (spec_l5Find H.out (hwb0.trans inferInstance) g).mono ?_); rintro e w4 ⟨rfl, L4⟩; have X4 := Later.trans (w := wb) inferInstance L4)
    go_ret3
    exact ⟨rfl, hww.trans inferInstance⟩
  by_cases b5 : v < 0
  · have HR := Lib.hid (chg_no (t := t) (l := l) (f := f) (g := g) (fun e => by have := e.2.2.2.2; omega))
    rw [HR.out]
    rw [← hu] at b4
    rw [← hv] at b5
    clear hu hv b3
    go_enter Try.func12, Try.ntmps12
    go_wp2_with first
      | (go_at_call 60; refine (spec_l5Good H.out (hwb0.trans inferInstance)).mono ?_; rintro e w1 ⟨rfl, L1⟩; have X1 := Later.trans (w := wb) inferInstance L1)
      | (go_at_call 61; refine (spec_l7Good (r := t.Network) ⟨H.out.l_Network_Stops, H.out.l_Network_Lines⟩ (hwb0.trans inferInstance) HL2.out inferInstance).mono ?_; rintro e w2 ⟨rfl, L2⟩; have X2 := Later.trans (w := wb) inferInstance L2)
      | (go_at_call 62; (with_reducible refine (spec_l5Find H.out (hwb0.trans inferInstance) f).mono ?_); rintro e w3 ⟨rfl, L3⟩; have X3 := Later.trans (w := wb) inferInstance L3)
      | (go_at_call 62; (with_reducible refine (spec_l5Find H.out (hwb0.trans inferInstance) g).mono ?_); rintro e w4 ⟨rfl, L4⟩; have X4 := Later.trans (w := wb) inferInstance L4)
    go_ret3
    exact ⟨rfl, hww.trans inferInstance⟩
  have HR := Lib.hid (chg_yes (t := t) (l := l) (f := f) (g := g) ⟨b1, b2, b3, by omega, by omega⟩)
  have hfu := findI_bd t f
  have hfv := findI_bd t g
  rw [hu] at hfu HR
  rw [hv] at hfv HR
  obtain ⟨i, rfl⟩ := Int.eq_ofNat_of_zero_le (show 0 ≤ u by omega)
  obtain ⟨j, rfl⟩ := Int.eq_ofNat_of_zero_le (show 0 ≤ v by omega)
  obtain ⟨a, ha⟩ : ∃ a, t.Trips[i]? = some a := ⟨_, List.getElem?_eq_getElem (by omega)⟩
  obtain ⟨b, hb⟩ : ∃ b, t.Trips[j]? = some b := ⟨_, List.getElem?_eq_getElem (by omega)⟩
  have HTA : Hid (tripI t (i : Int) = a) := tripI_of ha
  have HTB : Hid (tripI t (j : Int) = b) := tripI_of hb
  rw [HTA.out, HTB.out] at HR
  have TF := Lib.hid tf
  have TIA := Lib.hid (tf.trip i a ha).in_
  have TIB := Lib.hid (tf.trip j b hb).in_
  have TIKA : Hid (TripIn t (tripI t (i : Int))) := by show TripIn t _; rw [HTA.out]; exact TIA.out
  have TIKB : Hid (TripIn t (tripI t (j : Int))) := by show TripIn t _; rw [HTB.out]; exact TIB.out
  have HKA : Hid (0 ≤ (i : Int) ∧ (i : Int) < t.Trips.length) := ⟨by omega, by omega⟩
  have HKB : Hid (0 ≤ (j : Int) ∧ (j : Int) < t.Trips.length) := ⟨by omega, by omega⟩
  have HLA : Hid (lineI t (i : Int) = lineAtT t a.Line) := by show _ = _; unfold lineI; rw [HTA.out]
  have HLB : Hid (lineI t (j : Int) = lineAtT t b.Line) := by show _ = _; unfold lineI; rw [HTB.out]
  have lfa := Lib.hid (lineAtT_facts tf.net TIA.out.line0 TIA.out.line1)
  have lfb := Lib.hid (lineAtT_facts tf.net TIB.out.line0 TIB.out.line1)
  have HXA := Lib.hid ha
  have HXB := Lib.hid hb
  have WF := Lib.hid (walkFacts b2)
  have hn8 : sn0 ≤ 8 := by have := tf.net.stops; have := Hl.out; omega
  rw [HR.out]
  clear ha hb hfu hfv b3 tf b2
  have b4n : ¬ (findI t f) < 0 := by rw [hu]; omega
  have b5n : ¬ (findI t g) < 0 := by rw [hv]; omega
  clear hu hv
  go_enter Try.func12, Try.ntmps12
  go_wp2_with first
    | (go_at_call 60; refine (spec_l5Good H.out (hwb0.trans inferInstance)).mono ?_; rintro e w1 ⟨rfl, L1⟩; have X1 := Later.trans (w := wb) inferInstance L1)
    | (go_at_call 61; refine (spec_l7Good (r := t.Network) ⟨H.out.l_Network_Stops, H.out.l_Network_Lines⟩ (hwb0.trans inferInstance) HL2.out inferInstance).mono ?_; rintro e w2 ⟨rfl, L2⟩; have X2 := Later.trans (w := wb) inferInstance L2)
    | (go_at_call 62; (with_reducible refine (spec_l5Find H.out (hwb0.trans inferInstance) f).mono ?_); rintro e w3 ⟨rfl, L3⟩; have X3 := Later.trans (w := wb) inferInstance L3)
    | (go_at_call 62; (with_reducible refine (spec_l5Find H.out (hwb0.trans inferInstance) g).mono ?_); rintro e w4 ⟨rfl, L4⟩; have X4 := Later.trans (w := wb) inferInstance L4)
  clear b4n b5n b1 g2
  have HFA : Hid (findI t f = (i : Int)) := HU.out
  have HFB : Hid (findI t g = (j : Int)) := HV.out
  apply ways1 (wb := wb)
  · intro key
    refine wp_region_held_drew (S := (fun w' => Later wb w')) (by kernel_rfl) (by exact inferInstance) (fun hHeld => ?_)
    refine wpAnyH_take (i := 0) (v := ?_) (by simp only [List.getElem?_toArray, List.getElem?_cons_zero] <;> rfl) (by kernel_rfl) (by kernel_rfl) (by kernel_rfl) (by exact fun _ _ _ h => h) (Or.inl ⟨by kernel_rfl, ?_⟩) (by assumption) ?_
    rotate_left
    · intro w' hSw; (try dsimp only at hSw); go_simp; try with_reducible rfl
    try simp only [Act.put, List.setIfInBounds_toArray, List.set_cons_zero, List.set_cons_succ]
    refine wpAnyH_take (i := 1) (v := ?_) (by simp only [List.getElem?_toArray, List.getElem?_cons_succ, List.getElem?_cons_zero] <;> rfl) (by kernel_rfl) (by kernel_rfl) (by kernel_rfl) (by exact fun _ _ _ h => h) (Or.inl ⟨by kernel_rfl, ?_⟩) (by assumption) ?_
    rotate_left
    · intro w' hSw; (try dsimp only at hSw); go_simp; try with_reducible rfl
    try simp only [Act.put, List.setIfInBounds_toArray, List.set_cons_zero, List.set_cons_succ]
    refine wpAnyH_take (i := 3) (v := ?_) (by simp only [List.getElem?_toArray, List.getElem?_cons_succ, List.getElem?_cons_zero] <;> rfl) (by kernel_rfl) (by kernel_rfl) (by kernel_rfl) (by exact fun _ _ _ h => h) (Or.inl ⟨by kernel_rfl, ?_⟩) (by assumption) ?_
    rotate_left
    · intro w' hSw; (try dsimp only at hSw); go_simp; try with_reducible rfl
    try simp only [Act.put, List.setIfInBounds_toArray, List.set_cons_zero, List.set_cons_succ]
    refine wpAnyH_take (i := 4) (v := ?_) (by simp only [List.getElem?_toArray, List.getElem?_cons_succ, List.getElem?_cons_zero] <;> rfl) (by kernel_rfl) (by kernel_rfl) (by kernel_rfl) (by exact fun _ _ _ h => h) (Or.inl ⟨by kernel_rfl, ?_⟩) (by assumption) ?_
    rotate_left
    · intro w' hSw; (try dsimp only at hSw); go_simp; try with_reducible rfl
    try simp only [Act.put, List.setIfInBounds_toArray, List.set_cons_zero, List.set_cons_succ]
    refine wpAnyH_ready (rs := [2]) (by kernel_rfl) (by simp) (AllReadyH.cons rfl (fun K hK => ?_) AllReadyH.nil)
    go_simp
    (go_at_call 62; ((with_reducible refine (spec_l5Find H.out (hwb0.trans inferInstance) f).mono ?_); rw [HFA.out]; rintro e w5 ⟨rfl, L5⟩; have X5 := Later.trans (w := wb) inferInstance L5))
    refine hK.out _ _ (by exact inferInstance) (fun hHeld => ?_)
    try simp only [Act.put, List.setIfInBounds_toArray, List.set_cons_zero, List.set_cons_succ]
    refine wpAnyH_ready (rs := [5]) (by kernel_rfl) (by simp) (AllReadyH.cons rfl (fun K hK => ?_) AllReadyH.nil)
    go_simp
    (go_at_call 62; ((with_reducible refine (spec_l5Find H.out (hwb0.trans inferInstance) g).mono ?_); rw [HFB.out]; rintro e w6 ⟨rfl, L6⟩; have X6 := Later.trans (w := wb) inferInstance L6))
    refine hK.out _ _ (by exact inferInstance) (fun hHeld => ?_)
    try simp only [Act.put, List.setIfInBounds_toArray, List.set_cons_zero, List.set_cons_succ]
    refine wpAnyH_take (i := 6) (v := ?_) (by simp only [List.getElem?_toArray, List.getElem?_cons_succ, List.getElem?_cons_zero] <;> rfl) (by kernel_rfl) (by kernel_rfl) (by kernel_rfl) (by exact fun _ _ _ h => h) (Or.inl ⟨by kernel_rfl, ?_⟩) (by assumption) ?_
    rotate_left
    · intro w' hSw; (try dsimp only at hSw); go_simp; try with_reducible rfl
    try simp only [Act.put, List.setIfInBounds_toArray, List.set_cons_zero, List.set_cons_succ]
    refine wpAnyH_take (i := 7) (v := ?_) (by simp only [List.getElem?_toArray, List.getElem?_cons_succ, List.getElem?_cons_zero] <;> rfl) (by kernel_rfl) (by kernel_rfl) (by kernel_rfl) (by exact fun _ _ _ h => h) (Or.inl ⟨by kernel_rfl, ?_⟩) (by assumption) ?_
    rotate_left
    · intro w' hSw; (try dsimp only at hSw); go_simp; try with_reducible rfl
    try simp only [Act.put, List.setIfInBounds_toArray, List.set_cons_zero, List.set_cons_succ]
    refine wpAnyH_done (by kernel_rfl) ?_ _
    exact key w6 inferInstance
  intro w3 hb3
  haveI hb3' : Later wb w3 := hb3
  clear HFA HFB HU HV
  go_wp2_with fail
  apply ways2 (wb := wb) (fun W A n c B m d => Ints wb A n c (lineAtT t a.Line).Stops ∧ Ints wb B m d (lineAtT t b.Line).Stops)
  · intro key
    refine wp_region_held_drew (S := (fun w' => Later wb w')) (by kernel_rfl) (by exact inferInstance) (fun hHeld => ?_)
    refine wpAnyH_take (i := 0) (v := ?_) (by simp only [List.getElem?_toArray, List.getElem?_cons_zero] <;> rfl) (by kernel_rfl) (by kernel_rfl) (by kernel_rfl) (by exact fun _ _ _ h => h) (Or.inl ⟨by kernel_rfl, ?_⟩) (by assumption) ?_
    rotate_left
    · intro w' hSw; (try dsimp only at hSw); go_simp; try with_reducible rfl
    try simp only [Act.put, List.setIfInBounds_toArray, List.set_cons_zero, List.set_cons_succ]
    refine wpAnyH_take (i := 1) (v := ?_) (by simp only [List.getElem?_toArray, List.getElem?_cons_succ, List.getElem?_cons_zero] <;> rfl) (by kernel_rfl) (by kernel_rfl) (by kernel_rfl) (by exact fun _ _ _ h => h) (Or.inl ⟨by kernel_rfl, ?_⟩) (by assumption) ?_
    rotate_left
    · intro w' hSw; (try dsimp only at hSw); go_simp; try with_reducible rfl
    try simp only [Act.put, List.setIfInBounds_toArray, List.set_cons_zero, List.set_cons_succ]
    refine wpAnyH_take (i := 3) (v := ?_) (by simp only [List.getElem?_toArray, List.getElem?_cons_succ, List.getElem?_cons_zero] <;> rfl) (by kernel_rfl) (by kernel_rfl) (by kernel_rfl) (by exact fun _ _ _ h => h) (Or.inl ⟨by kernel_rfl, ?_⟩) (by assumption) ?_
    rotate_left
    · intro w' hSw; (try dsimp only at hSw); go_simp; try with_reducible rfl
    try simp only [Act.put, List.setIfInBounds_toArray, List.set_cons_zero, List.set_cons_succ]
    refine wpAnyH_take (i := 4) (v := ?_) (by simp only [List.getElem?_toArray, List.getElem?_cons_succ, List.getElem?_cons_zero] <;> rfl) (by kernel_rfl) (by kernel_rfl) (by kernel_rfl) (by exact fun _ _ _ h => h) (Or.inl ⟨by kernel_rfl, ?_⟩) (by assumption) ?_
    rotate_left
    · intro w' hSw; (try dsimp only at hSw); go_simp; try with_reducible rfl
    try simp only [Act.put, List.setIfInBounds_toArray, List.set_cons_zero, List.set_cons_succ]
    refine wpAnyH_ready (rs := [2]) (by kernel_rfl) (by simp) (AllReadyH.cons rfl (fun K hK => ?_) AllReadyH.nil)
    go_simp
    (go_at_call 63; ((with_reducible refine (spec_l5Stops H.out (hwb0.trans inferInstance) (i : Int) HKA.out.1 HKA.out.2 TIKA.out).mono ?_); rw [HLA.out]; rintro e w5 ⟨A5, n5, c5, rfl, h5, L5⟩; have X5 := Later.trans (w := wb) inferInstance L5; have H5 := Lib.hid (h5.later hwb0); clear h5))
    refine hK.out _ _ (by exact inferInstance) (fun hHeld => ?_)
    try simp only [Act.put, List.setIfInBounds_toArray, List.set_cons_zero, List.set_cons_succ]
    refine wpAnyH_ready (rs := [5]) (by kernel_rfl) (by simp) (AllReadyH.cons rfl (fun K hK => ?_) AllReadyH.nil)
    go_simp
    (go_at_call 63; ((with_reducible refine (spec_l5Stops H.out (hwb0.trans inferInstance) (j : Int) HKB.out.1 HKB.out.2 TIKB.out).mono ?_); rw [HLB.out]; rintro e w6 ⟨A6, n6, c6, rfl, h6, L6⟩; have X6 := Later.trans (w := wb) inferInstance L6; have H6 := Lib.hid (h6.later hwb0); clear h6))
    refine hK.out _ _ (by exact inferInstance) (fun hHeld => ?_)
    try simp only [Act.put, List.setIfInBounds_toArray, List.set_cons_zero, List.set_cons_succ]
    refine wpAnyH_take (i := 6) (v := ?_) (by simp only [List.getElem?_toArray, List.getElem?_cons_succ, List.getElem?_cons_zero] <;> rfl) (by kernel_rfl) (by kernel_rfl) (by kernel_rfl) (by exact fun _ _ _ h => h) (Or.inl ⟨by kernel_rfl, ?_⟩) (by assumption) ?_
    rotate_left
    · intro w' hSw; (try dsimp only at hSw); go_simp; try with_reducible rfl
    try simp only [Act.put, List.setIfInBounds_toArray, List.set_cons_zero, List.set_cons_succ]
    refine wpAnyH_take (i := 7) (v := ?_) (by simp only [List.getElem?_toArray, List.getElem?_cons_succ, List.getElem?_cons_zero] <;> rfl) (by kernel_rfl) (by kernel_rfl) (by kernel_rfl) (by exact fun _ _ _ h => h) (Or.inl ⟨by kernel_rfl, ?_⟩) (by assumption) ?_
    rotate_left
    · intro w' hSw; (try dsimp only at hSw); go_simp; try with_reducible rfl
    try simp only [Act.put, List.setIfInBounds_toArray, List.set_cons_zero, List.set_cons_succ]
    refine wpAnyH_done (by kernel_rfl) ?_ _
    exact key w6 A5 n5 c5 A6 n6 c6 inferInstance ⟨H5.out, H6.out⟩
  intro w4 A5 n5 c5 A6 n6 c6 hb4 hst
  haveI hb4' : Later wb w4 := hb4
  have H5 := Lib.hid hst.1
  have H6 := Lib.hid hst.2
  clear hst
  have hna : n5 = (lineAtT t a.Line).Stops.length := H5.out.len
  have hnb : n6 = (lineAtT t b.Line).Stops.length := H6.out.len
  have hna6 : 2 ≤ n5 ∧ n5 ≤ 6 := by have := lfa.out.stops; omega
  have hnb6 : 2 ≤ n6 ∧ n6 ≤ 6 := by have := lfb.out.stops; omega
  have hna2 := hna6.2
  have hnb2 := hnb6.2
  have HNA := Lib.hid hna
  have HNB := Lib.hid hnb
  clear hna hnb
  go_wp2_with fail
  go_loopw [15, 16, 17] (fun bv sv kv wr => ∃ (p : Nat) (st : Int × Int), 1 ≤ p ∧ p ≤ n5 ∧ kv = .int .i64 p ∧ bv = .int .i64 st.1 ∧ sv = .int .i64 st.2 ∧ Hid (chgO t l a b p = st) ∧ Later wb wr) (fun _ _ kv _ => n5 - (intOf kv).toNat)
  case atStart => exact ⟨1, (-1, 0), by omega, by omega, rfl, rfl, rfl, rfl, inferInstance⟩
  case round =>
    obtain ⟨p, st0, hp1, hp, rfl, rfl, rfl, HO, hX⟩ := hrel
    by_cases hpn : p < n5
    · obtain ⟨ba, oa, y, hA, hy, hcy, _⟩ := Ints.at_ H5.out hpn
      obtain ⟨s, hs1, hs2, hs3, hta0, hta1⟩ := stop_time TF.out HXA.out (p := p) (by rw [← HNA.out]; exact hpn)
      have hys : y = (s : Int) := Option.some.inj (hy.out.symm.trans hs1)
      subst hys
      have hssn : s < sn0 := by have := Hl.out; omega
      have HS3 := Lib.hid hs3
      have hpi : (p : Int) < n5 := by omega
      have HKP : Hid ((0 : Int) ≤ (p : Int) ∧ (p : Int) ≤ (lineI t (i : Int)).Runs.length) := ⟨by omega, by have := lfa.out.runs; rw [HLA.out]; have := HNA.out; omega⟩
      obtain ⟨ta, hta⟩ : ∃ v, timeAt t a p = v := ⟨_, rfl⟩
      rw [hta] at hta0 hta1
      have HTTA : Hid (timeI t (i : Int) (p : Int) = ta) := by show _ = _; rw [← hta]; unfold timeI; rw [HTA.out]; rfl
      have HTA2 := Lib.hid hta
      subst hA
      clear hy hs1 hs2 hs3 hta
      go_wp2_with fail
      refine wp_region_held_drew (S := (fun w' => Later wb w' ∧ Later wr w')) (by kernel_rfl) (by exact ⟨inferInstance, inferInstance⟩) (fun hHeld => ?_)
      refine wpAnyH_take (i := 0) (v := ?_) (by simp only [List.getElem?_toArray, List.getElem?_cons_zero] <;> rfl) (by kernel_rfl) (by kernel_rfl) (by kernel_rfl) (by exact fun _ _ _ h => h) (Or.inl ⟨by kernel_rfl, ?_⟩) (by assumption) ?_
      rotate_left
      · intro w' hSw; (try dsimp only at hSw); go_simp; try with_reducible rfl
      try simp only [Act.put, List.setIfInBounds_toArray, List.set_cons_zero, List.set_cons_succ]
      refine wpAnyH_take (i := 1) (v := ?_) (by simp only [List.getElem?_toArray, List.getElem?_cons_succ, List.getElem?_cons_zero] <;> rfl) (by kernel_rfl) (by kernel_rfl) (by kernel_rfl) (by exact fun _ _ _ h => h) (Or.inl ⟨by kernel_rfl, ?_⟩) (by assumption) ?_
      rotate_left
      · intro w' hSw; (try dsimp only at hSw); go_simp; try with_reducible rfl
      try simp only [Act.put, List.setIfInBounds_toArray, List.set_cons_zero, List.set_cons_succ]
      refine wpAnyH_take (i := 2) (v := ?_) (by simp only [List.getElem?_toArray, List.getElem?_cons_succ, List.getElem?_cons_zero] <;> rfl) (by kernel_rfl) (by kernel_rfl) (by kernel_rfl) (by exact fun _ _ _ h => h) (Or.inl ⟨by kernel_rfl, ?_⟩) (by assumption) ?_
      rotate_left
      · intro w' hSw; (try dsimp only at hSw); go_simp; try with_reducible rfl
      try simp only [Act.put, List.setIfInBounds_toArray, List.set_cons_zero, List.set_cons_succ]
      refine wpAnyH_take (i := 3) (v := ?_) (by simp only [List.getElem?_toArray, List.getElem?_cons_succ, List.getElem?_cons_zero] <;> rfl) (by kernel_rfl) (by kernel_rfl) (by kernel_rfl) (by exact fun _ _ _ h => h) (Or.inl ⟨by kernel_rfl, ?_⟩) (by assumption) ?_
      rotate_left
      · intro w' hSw; (try dsimp only at hSw); go_simp; try with_reducible rfl
      try simp only [Act.put, List.setIfInBounds_toArray, List.set_cons_zero, List.set_cons_succ]
      refine wpAnyH_take (i := 4) (v := ?_) (by simp only [List.getElem?_toArray, List.getElem?_cons_succ, List.getElem?_cons_zero] <;> rfl) (by kernel_rfl) (by kernel_rfl) (by kernel_rfl) (by exact fun _ _ _ h => h) (Or.inl ⟨by kernel_rfl, ?_⟩) (by assumption) ?_
      rotate_left
      · intro w' hSw; (try dsimp only at hSw); go_simp; try with_reducible rfl
      try simp only [Act.put, List.setIfInBounds_toArray, List.set_cons_zero, List.set_cons_succ]
      refine wpAnyH_take (i := 5) (v := ?_) (by simp only [List.getElem?_toArray, List.getElem?_cons_succ, List.getElem?_cons_zero] <;> rfl) (by kernel_rfl) (by kernel_rfl) (by kernel_rfl) (by exact fun _ _ _ h => h) (Or.inl ⟨by kernel_rfl, ?_⟩) (by assumption) ?_
      rotate_left
      · intro w' hSw; (try dsimp only at hSw); go_simp; try with_reducible rfl
      try simp only [Act.put, List.setIfInBounds_toArray, List.set_cons_zero, List.set_cons_succ]
      refine wpAnyH_take (i := 6) (v := ?_) (by simp only [List.getElem?_toArray, List.getElem?_cons_succ, List.getElem?_cons_zero] <;> rfl) (by kernel_rfl) (by kernel_rfl) (by kernel_rfl) (by exact fun _ _ _ h => h) (Or.inl ⟨by kernel_rfl, ?_⟩) (by assumption) ?_
      rotate_left
      · intro w' hSw; (try dsimp only at hSw); go_simp; try with_reducible rfl
      try simp only [Act.put, List.setIfInBounds_toArray, List.set_cons_zero, List.set_cons_succ]
      refine wpAnyH_take (i := 7) (v := ?_) (by simp only [List.getElem?_toArray, List.getElem?_cons_succ, List.getElem?_cons_zero] <;> rfl) (by kernel_rfl) (by kernel_rfl) (by kernel_rfl) (by exact fun _ _ _ h => h) (Or.inl ⟨by kernel_rfl, ?_⟩) (by assumption) ?_
      rotate_left
      · intro w' hSw; (try dsimp only at hSw); go_simp; try with_reducible rfl
      try simp only [Act.put, List.setIfInBounds_toArray, List.set_cons_zero, List.set_cons_succ]
      refine wpAnyH_take (i := 8) (v := ?_) (by simp only [List.getElem?_toArray, List.getElem?_cons_succ, List.getElem?_cons_zero] <;> rfl) (by kernel_rfl) (by kernel_rfl) (by kernel_rfl) (by exact fun _ _ _ h => h) (Or.inl ⟨by kernel_rfl, ?_⟩) (by assumption) ?_
      rotate_left
      · intro w' hSw; (try dsimp only at hSw); go_simp; try with_reducible rfl
      try simp only [Act.put, List.setIfInBounds_toArray, List.set_cons_zero, List.set_cons_succ]
      refine wpAnyH_ready (rs := [9]) (by kernel_rfl) (by simp) (AllReadyH.cons rfl (fun K hK => ?_) AllReadyH.nil)
      go_simp
      (go_at_call 64; (refine (spec_l7Times HL2.out inferInstance sn0 s (by rw [Hl.out]; exact WF.out) hn8 hssn).mono ?_; rintro e w9 ⟨g9, o9, c9, rfl, hL9, hR9, hg9, L9⟩; have X9 := Later.trans (w := wb) inferInstance L9; have Y9 := Later.trans (w := wr) inferInstance L9; have HR9 := Lib.hid hR9; clear hL9 hR9 hg9))
      refine hK.out _ _ (by exact ⟨inferInstance, inferInstance⟩) (fun hHeld => ?_)
      try simp only [Act.put, List.setIfInBounds_toArray, List.set_cons_zero, List.set_cons_succ]
      refine wpAnyH_take (i := 10) (v := ?_) (by simp only [List.getElem?_toArray, List.getElem?_cons_succ, List.getElem?_cons_zero] <;> rfl) (by kernel_rfl) (by kernel_rfl) (by kernel_rfl) (by exact fun _ _ _ h => h) (Or.inl ⟨by kernel_rfl, ?_⟩) (by assumption) ?_
      rotate_left
      · intro w' hSw; (try dsimp only at hSw); go_simp; try with_reducible rfl
      try simp only [Act.put, List.setIfInBounds_toArray, List.set_cons_zero, List.set_cons_succ]
      refine wpAnyH_done (by kernel_rfl) ?_ _
      go_wp2_with fail
      go_loopw [15, 16, 19] (fun bv sv mv wr => ∃ (q : Nat) (st : Int × Int), q + 1 ≤ n6 ∧ mv = .int .i64 q ∧ bv = .int .i64 st.1 ∧ sv = .int .i64 st.2 ∧ Hid (chgI t l a b p st0 q = st) ∧ Later wb wr ∧ Later w9 wr) (fun _ _ mv _ => n6 - (intOf mv).toNat)
      case atStart => exact ⟨0, st0, by omega, rfl, rfl, rfl, rfl, inferInstance, inferInstance⟩
      case round =>
        obtain ⟨q, ⟨sb, sc⟩, hq, rfl, rfl, rfl, HI, hX, hX9⟩ := hrel
        simp only
        have hwq : IntKind.i64.wrap ((q : Int) + 1) = (q : Int) + 1 := by rw [IntKind.wrap_i64]; omega
        by_cases hqn : q + 1 < n6
        · obtain ⟨bb, ob, y, hA, hy, hcr, _⟩ := Ints.at_ H6.out (k := q) (by omega)
          obtain ⟨r, hr1, hr2, hr3, htb0, htb1⟩ := stop_time TF.out HXB.out (p := q) (by rw [← HNB.out]; omega)
          have hyr : y = (r : Int) := Option.some.inj (hy.out.symm.trans hr1)
          subst hyr
          have hrsn : r < sn0 := by have := Hl.out; omega
          have hqi : (q : Int) + 1 < n6 := by omega
          have hqi2 : (q : Int) < n6 := by omega
          have hqn2 : q < n6 := by omega
          have HKQ : Hid ((0 : Int) ≤ (q : Int) ∧ (q : Int) ≤ (lineI t (j : Int)).Runs.length) := ⟨by omega, by have := lfb.out.runs; rw [HLB.out]; have := HNB.out; omega⟩
          obtain ⟨tb, htb⟩ : ∃ v, timeAt t b q = v := ⟨_, rfl⟩
          rw [htb] at htb0 htb1
          have HTTB : Hid (timeI t (j : Int) (q : Int) = tb) := by show _ = _; rw [← htb]; unfold timeI; rw [HTB.out]; rfl
          have HTB2 := Lib.hid htb
          have hwd : IntKind.i64.wrap (tb - ta) = tb - ta := by rw [IntKind.wrap_i64]; omega
          obtain ⟨v, hv⟩ : ∃ v, tg (fwT sn0 l) s r = v := ⟨_, rfl⟩
          have hsh := (tab_T (k := sn0) (l := l) (by rw [Hl.out]; exact WF.out) hn8).sh
          have hcv := HR9.out.cells (tg_atC hsh hssn hrsn)
          rw [hv] at hcv
          have HV3 : Hid (tg (fwT t.Network.Stops.length l) ((s : Nat) : Int).toNat ((lineAtT t b.Line).Stops.getD q 0).toNat = v) := by show _ = _; rw [hr3, Int.toNat_natCast, Int.toNat_natCast, ← Hl.out]; exact hv
          have HD : Hid (timeAt t b q - timeAt t a p = tb - ta) := by show _ = _; rw [HTA2.out, HTB2.out]
          obtain ⟨d, hd⟩ : ∃ d, tb - ta = d := ⟨_, rfl⟩
          rw [hd] at hwd HD
          have hwd2 : IntKind.i64.wrap (tb - ta) = d := by rw [hd]; exact hwd
          subst hA
          clear hy hr1 hr2 hr3 htb hv hsh hd
          go_wp2_with fail
          apply ways1 (wb := wr)
          · intro key
            refine wp_region_held_drew (S := (fun w' => Later wb w' ∧ Later wr w')) (by kernel_rfl) (by exact ⟨inferInstance, inferInstance⟩) (fun hHeld => ?_)
            refine wpAnyH_take (i := 0) (v := ?_) (by simp only [List.getElem?_toArray, List.getElem?_cons_zero] <;> rfl) (by kernel_rfl) (by kernel_rfl) (by kernel_rfl) (by exact fun _ _ _ h => h) (Or.inl ⟨by kernel_rfl, ?_⟩) (by assumption) ?_
            rotate_left
            · intro w' hSw; (try dsimp only at hSw); go_simp; try with_reducible rfl
            try simp only [Act.put, List.setIfInBounds_toArray, List.set_cons_zero, List.set_cons_succ]
            refine wpAnyH_take (i := 1) (v := ?_) (by simp only [List.getElem?_toArray, List.getElem?_cons_succ, List.getElem?_cons_zero] <;> rfl) (by kernel_rfl) (by kernel_rfl) (by kernel_rfl) (by exact fun _ _ _ h => h) (Or.inl ⟨by kernel_rfl, ?_⟩) (by assumption) ?_
            rotate_left
            · intro w' hSw; (try dsimp only at hSw); go_simp; try with_reducible rfl
            try simp only [Act.put, List.setIfInBounds_toArray, List.set_cons_zero, List.set_cons_succ]
            refine wpAnyH_take (i := 2) (v := ?_) (by simp only [List.getElem?_toArray, List.getElem?_cons_succ, List.getElem?_cons_zero] <;> rfl) (by kernel_rfl) (by kernel_rfl) (by kernel_rfl) (by exact fun _ _ _ h => h) (Or.inl ⟨by kernel_rfl, ?_⟩) (by assumption) ?_
            rotate_left
            · intro w' hSw; (try dsimp only at hSw); go_simp; try with_reducible rfl
            try simp only [Act.put, List.setIfInBounds_toArray, List.set_cons_zero, List.set_cons_succ]
            refine wpAnyH_take (i := 4) (v := ?_) (by simp only [List.getElem?_toArray, List.getElem?_cons_succ, List.getElem?_cons_zero] <;> rfl) (by kernel_rfl) (by kernel_rfl) (by kernel_rfl) (by exact fun _ _ _ h => h) (Or.inl ⟨by kernel_rfl, ?_⟩) (by assumption) ?_
            rotate_left
            · intro w' hSw; (try dsimp only at hSw); go_simp; try with_reducible rfl
            try simp only [Act.put, List.setIfInBounds_toArray, List.set_cons_zero, List.set_cons_succ]
            refine wpAnyH_take (i := 5) (v := ?_) (by simp only [List.getElem?_toArray, List.getElem?_cons_succ, List.getElem?_cons_zero] <;> rfl) (by kernel_rfl) (by kernel_rfl) (by kernel_rfl) (by exact fun _ _ _ h => h) (Or.inl ⟨by kernel_rfl, ?_⟩) (by assumption) ?_
            rotate_left
            · intro w' hSw; (try dsimp only at hSw); go_simp; try with_reducible rfl
            try simp only [Act.put, List.setIfInBounds_toArray, List.set_cons_zero, List.set_cons_succ]
            refine wpAnyH_take (i := 6) (v := ?_) (by simp only [List.getElem?_toArray, List.getElem?_cons_succ, List.getElem?_cons_zero] <;> rfl) (by kernel_rfl) (by kernel_rfl) (by kernel_rfl) (by exact fun _ _ _ h => h) (Or.inl ⟨by kernel_rfl, ?_⟩) (by assumption) ?_
            rotate_left
            · intro w' hSw; (try dsimp only at hSw); go_simp; try with_reducible rfl
            try simp only [Act.put, List.setIfInBounds_toArray, List.set_cons_zero, List.set_cons_succ]
            refine wpAnyH_ready (rs := [3]) (by kernel_rfl) (by simp) (AllReadyH.cons rfl (fun K hK => ?_) AllReadyH.nil)
            go_simp
            (go_at_call 65; ((with_reducible refine (spec_l5At H.out (hwb0.trans inferInstance) TF.out.net (j : Int) HKB.out.1 HKB.out.2 TIKB.out (q : Int) HKQ.out.1 HKQ.out.2).mono ?_); rw [HTTB.out]; rintro e w5 ⟨rfl, L5⟩; have X5 := Later.trans (w := wb) inferInstance L5; have Y5 := Later.trans (w := wr) inferInstance L5))
            refine hK.out _ _ (by exact ⟨inferInstance, inferInstance⟩) (fun hHeld => ?_)
            try simp only [Act.put, List.setIfInBounds_toArray, List.set_cons_zero, List.set_cons_succ]
            refine wpAnyH_ready (rs := [7]) (by kernel_rfl) (by simp) (AllReadyH.cons rfl (fun K hK => ?_) AllReadyH.nil)
            go_simp
            (go_at_call 65; ((with_reducible refine (spec_l5At H.out (hwb0.trans inferInstance) TF.out.net (i : Int) HKA.out.1 HKA.out.2 TIKA.out (p : Int) HKP.out.1 HKP.out.2).mono ?_); rw [HTTA.out]; rintro e w6 ⟨rfl, L6⟩; have X6 := Later.trans (w := wb) inferInstance L6; have Y6 := Later.trans (w := wr) inferInstance L6))
            refine hK.out _ _ (by exact ⟨inferInstance, inferInstance⟩) (fun hHeld => ?_)
            try simp only [Act.put, List.setIfInBounds_toArray, List.set_cons_zero, List.set_cons_succ]
            refine wpAnyH_take (i := 8) (v := ?_) (by simp only [List.getElem?_toArray, List.getElem?_cons_succ, List.getElem?_cons_zero] <;> rfl) (by kernel_rfl) (by kernel_rfl) (by kernel_rfl) (by exact fun _ _ _ h => h) (Or.inl ⟨by kernel_rfl, ?_⟩) (by assumption) ?_
            rotate_left
            · intro w' hSw; (try dsimp only at hSw); go_simp; try with_reducible rfl
            try simp only [Act.put, List.setIfInBounds_toArray, List.set_cons_zero, List.set_cons_succ]
            refine wpAnyH_take (i := 9) (v := ?_) (by simp only [List.getElem?_toArray, List.getElem?_cons_succ, List.getElem?_cons_zero] <;> rfl) (by kernel_rfl) (by kernel_rfl) (by kernel_rfl) (by exact fun _ _ _ h => h) (Or.inl ⟨by kernel_rfl, ?_⟩) (by assumption) ?_
            rotate_left
            · intro w' hSw; (try dsimp only at hSw); go_simp; try with_reducible rfl
            try simp only [Act.put, List.setIfInBounds_toArray, List.set_cons_zero, List.set_cons_succ]
            refine wpAnyH_done (by kernel_rfl) ?_ _
            exact key w6 inferInstance
          intro w13 hL13
          haveI X13 : Later wb w13 := Later.trans hX hL13
          haveI X139 : Later w9 w13 := Later.trans hX9 hL13
          clear HTTA HTTB hwd
          by_cases c1 : 0 ≤ v
          rotate_left
          · have c1d : decide (0 ≤ v) = false := decide_eq_false c1
            have HST : Hid (chgI t l a b p st0 (q + 1) = (sb, sc)) := by show _ = _; rw [chgI_step, HI.out]; exact chgG_no HS3.out HD.out HV3.out (fun e => c1 e.1)
            clear HI
            go_wp2
            go_roundw
            case rel => exact ⟨q + 1, (sb, sc), by omega, by go_num, rfl, rfl, HST, inferInstance, inferInstance⟩
            case measure => simp [intOf]; omega
          have c1d : decide (0 ≤ v) = true := decide_eq_true c1
          by_cases c2 : v ≤ d
          rotate_left
          · have c2d : decide (v ≤ d) = false := decide_eq_false c2
            have HST : Hid (chgI t l a b p st0 (q + 1) = (sb, sc)) := by show _ = _; rw [chgI_step, HI.out]; exact chgG_no HS3.out HD.out HV3.out (fun e => c2 e.2.1)
            clear HI
            go_wp2
            go_roundw
            case rel => exact ⟨q + 1, (sb, sc), by omega, by go_num, rfl, rfl, HST, inferInstance, inferInstance⟩
            case measure => simp [intOf]; omega
          have c2d : decide (v ≤ d) = true := decide_eq_true c2
          by_cases c3 : sb < 0
          · have c3d : decide (sb < 0) = true := decide_eq_true c3
            have HST : Hid (chgI t l a b p st0 (q + 1) = (d, (s : Int))) := by show _ = _; rw [chgI_step, HI.out]; exact chgG_yes HS3.out HD.out HV3.out ⟨c1, c2, .inl c3⟩
            clear HI
            go_wp2
            go_roundw
            case rel => exact ⟨q + 1, (d, (s : Int)), by omega, by go_num, rfl, rfl, HST, inferInstance, inferInstance⟩
            case measure => simp [intOf]; omega
          have c3d : decide (sb < 0) = false := decide_eq_false c3
          by_cases c4 : d < sb
          · have HST : Hid (chgI t l a b p st0 (q + 1) = (d, (s : Int))) := by show _ = _; rw [chgI_step, HI.out]; exact chgG_yes HS3.out HD.out HV3.out ⟨c1, c2, .inr c4⟩
            clear HI
            go_wp2
            go_roundw
            case rel => exact ⟨q + 1, (d, (s : Int)), by omega, by go_num, rfl, rfl, HST, inferInstance, inferInstance⟩
            case measure => simp [intOf]; omega
          · have HST : Hid (chgI t l a b p st0 (q + 1) = (sb, sc)) := by show _ = _; rw [chgI_step, HI.out]; exact chgG_no HS3.out HD.out HV3.out (fun e => e.2.2.elim c3 c4)
            clear HI
            go_wp2
            go_roundw
            case rel => exact ⟨q + 1, (sb, sc), by omega, by go_num, rfl, rfl, HST, inferInstance, inferInstance⟩
            case measure => simp [intOf]; omega
        · have hqi : ¬ (q : Int) + 1 < n6 := by omega
          have HO2 : Hid (chgO t l a b (p + 1) = (sb, sc)) := by
            show _ = _
            rw [chgO_step (by omega), HO.out, ← HNB.out, show n6 - 1 = q by omega]; exact HI.out
          clear HI HO
          go_wp2
          go_roundw
          case rel => exact ⟨p + 1, (sb, sc), by omega, by omega, by go_num, rfl, rfl, HO2, inferInstance⟩
          case measure => simp [intOf]; omega
    · obtain rfl : n5 = p := by omega
      have hpi : ¬ (n5 : Int) < n5 := by omega
      obtain ⟨sb, sc⟩ := st0
      simp only
      by_cases c3 : sb < 0
      · have HOUT : Hid (chgOut (chgO t l a b (lineAtT t a.Line).Stops.length) = (0, 0, false)) := by show _ = _; rw [← HNA.out, HO.out]; exact if_pos c3
        go_wp2
        go_ret3
        exact ⟨by rw [HOUT.out]; rfl, hww.trans inferInstance⟩
      · have HOUT : Hid (chgOut (chgO t l a b (lineAtT t a.Line).Stops.length) = (sb, sc, true)) := by show _ = _; rw [← HNA.out, HO.out]; exact if_neg c3
        go_wp2
        go_ret3
        exact ⟨by rw [HOUT.out]; rfl, hww.trans inferInstance⟩
end Go.Proofs.Yteijofkkggifhaa
