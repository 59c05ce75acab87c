/-
  ChangeTime, in the program.
-/
import Derived.Test.YteijofkkggifhaaChgP
import Derived.Test.YteijofkkggifhaaWalkI
import Derived.Test.YteijofkkggifhaaWalkU
import Derived.Test.YteijofkkggifhaaTimeE
import Derived.Test.YteijofkkggifhaaTimeC
namespace Go.Proofs.Yteijofkkggifhaa
open Go Go.RowKit
set_option linter.unusedVariables false
set_option maxRecDepth 100000
set_option linter.unusedSimpArgs false
set_option maxHeartbeats 8000000 in
theorem impl_ChangeTime {w0 w : World} {sA0 : Option Addr} {sn0 sc0 : Nat} {sA1 : Option Addr} {sn1 sc1 : Nat} {sA2 : Option Addr} {sn2 sc2 : Nat} {t : Timetable} (h : TimetableAt w0 sA0 sn0 sc0 sA1 sn1 sc1 sA2 sn2 sc2 t) (hl : Later w0 w) {w2 : World} {lA : Option Addr} {ln lc : Nat} {l : List Walk} (h2 : Walks w2 lA ln lc l) (hl2 : Later w2 w) (f g : Int) : Calls Try.prog 15 #[.agg #[.slice sA0 sn0 sc0, .slice sA1 sn1 sc1, .slice sA2 sn2 sc2], .slice lA ln lc, .int .i64 f, .int .i64 g] w (Ret (.tuple #[.int .i64 (chgRes t l f g).1, .int .i64 (chgRes t l f g).2.1, .bool (chgRes t l f g).2.2]) w) := by
  replace h2 := h2.later hl2
  have hS0 := h.l_Network_Stops
  have Hl := Lib.hid hS0.len
  have hsn := hS0.le
  have hT0 := h.l_Trips.later hl
  have hT2 := hT0.le
  have HT2 := Lib.hid hT0.len
  clear hS0
  have HB0 : ∀ W [Later (w.alloc (.cells #[.slice sA0 sn0 sc0, .slice sA1 sn1 sc1, .slice sA2 sn2 sc2] 39)) W] (j : Nat), W.cell? ⟨w.heap.size, j, none⟩ = #[.slice sA0 sn0 sc0, .slice sA1 sn1 sc1, .slice sA2 sn2 sc2][j]? := Later.boxes (t := 39) (fr := (0, 0)) (heap_new (by simp; try omega)); obtain ⟨wb, hwb⟩ : ∃ wb : World, wb = (w.alloc (.cells #[.slice sA0 sn0 sc0, .slice sA1 sn1 sc1, .slice sA2 sn2 sc2] 39)) := ⟨_, rfl⟩; haveI hbW : Later wb (w.alloc (.cells #[.slice sA0 sn0 sc0, .slice sA1 sn1 sc1, .slice sA2 sn2 sc2] 39)) := (by rw [hwb]; exact Later.rfl_); haveI hww : Later w wb := (by rw [hwb]; infer_instance); rw [← hwb] at HB0; have hbE := Lib.hid (congrArg (fun x : World => x.heap.size) hwb); clear hwb
  have hwb0 := hl.trans hww
  have H := Lib.hid h
  clear h
  have HTS := Lib.hid (hT0.later hww)
  have HL2 := Lib.hid (h2.later hww)
  clear h2 hT0
  by_cases b1 : okTimetable t = true
  rotate_left
  · have g1 : okTimetable t = false := by simpa using b1
    have HR := Lib.hid (chg_no (t := t) (l := l) (f := f) (g := g) (fun e => b1 e.1))
    rw [HR.out]
    go_enter Try.func15, Try.ntmps15
    go_wp2_with first
      | (go_at_call 68; refine (impl_IsValidTimetable H.out (hwb0.trans inferInstance)).mono ?_; rintro e w1 ⟨rfl, L1⟩; have X1 := Later.trans (w := wb) inferInstance L1)
      | (go_at_call 69; refine (impl_areWalks (r := t.Network) ⟨H.out.l_Network_Stops, H.out.l_Network_Lines⟩ (hwb0.trans inferInstance) HL2.out inferInstance).mono ?_; rintro e w2 ⟨rfl, L2⟩; have X2 := Later.trans (w := wb) inferInstance L2)
    go_ret3
    exact ⟨rfl, hww.trans inferInstance⟩
  have tf := timeFacts b1
  by_cases b2 : okWalks t.Network.Stops.length l = true
  rotate_left
  · have g2 : okWalks t.Network.Stops.length l = false := by simpa using b2
    have HR := Lib.hid (chg_no (t := t) (l := l) (f := f) (g := g) (fun e => b2 e.2.1))
    rw [HR.out]
    go_enter Try.func15, Try.ntmps15
    go_wp2_with first
      | (go_at_call 68; refine (impl_IsValidTimetable H.out (hwb0.trans inferInstance)).mono ?_; rintro e w1 ⟨rfl, L1⟩; have X1 := Later.trans (w := wb) inferInstance L1)
      | (go_at_call 69; refine (impl_areWalks (r := t.Network) ⟨H.out.l_Network_Stops, H.out.l_Network_Lines⟩ (hwb0.trans inferInstance) HL2.out inferInstance).mono ?_; rintro e w2 ⟨rfl, L2⟩; have X2 := Later.trans (w := wb) inferInstance L2)
    go_ret3
    exact ⟨rfl, hww.trans inferInstance⟩
  by_cases b3 : f = g
  · have e1 := (beqi_t b3).1
    have e2 := (beqi_t b3).2
    have HR := Lib.hid (chg_no (t := t) (l := l) (f := f) (g := g) (fun e => e.2.2.1 b3))
    rw [HR.out]
    clear b3
    go_enter Try.func15, Try.ntmps15
    go_wp2_with first
      | (go_at_call 68; refine (impl_IsValidTimetable H.out (hwb0.trans inferInstance)).mono ?_; rintro e w1 ⟨rfl, L1⟩; have X1 := Later.trans (w := wb) inferInstance L1)
      | (go_at_call 69; refine (impl_areWalks (r := t.Network) ⟨H.out.l_Network_Stops, H.out.l_Network_Lines⟩ (hwb0.trans inferInstance) HL2.out inferInstance).mono ?_; rintro e w2 ⟨rfl, L2⟩; have X2 := Later.trans (w := wb) inferInstance L2)
    go_ret3
    exact ⟨rfl, hww.trans inferInstance⟩
  have e1 := (beqi_f b3).1
  have e2 := (beqi_f b3).2
  obtain ⟨u, hu⟩ : ∃ u, findI t f = u := ⟨_, rfl⟩
  obtain ⟨v, hv⟩ : ∃ v, findI t g = v := ⟨_, rfl⟩
  have HU := Lib.hid hu
  have HV := Lib.hid hv
  by_cases b4 : u < 0
  · have HR := Lib.hid (chg_no (t := t) (l := l) (f := f) (g := g) (fun e => by have := e.2.2.2.1; omega))
    rw [HR.out]
    clear hu hv b3
    go_enter Try.func15, Try.ntmps15
    go_wp2_with first
      | (go_at_call 68; refine (impl_IsValidTimetable H.out (hwb0.trans inferInstance)).mono ?_; rintro e w1 ⟨rfl, L1⟩; have X1 := Later.trans (w := wb) inferInstance L1)
      | (go_at_call 69; refine (impl_areWalks (r := t.Network) ⟨H.out.l_Network_Stops, H.out.l_Network_Lines⟩ (hwb0.trans inferInstance) HL2.out inferInstance).mono ?_; rintro e w2 ⟨rfl, L2⟩; have X2 := Later.trans (w := wb) inferInstance L2)
    apply ways1 (wb := wb)
    · intro key
      refine wp_region_held_drew (S := (fun w' => Later wb w')) (by kernel_rfl) (by exact inferInstance) (fun hHeld => ?_)
      refine wpAnyH_take (i := 0) (v := ?_) (by simp only [List.getElem?_toArray, List.getElem?_cons_zero] <;> rfl) (by kernel_rfl) (by kernel_rfl) (by kernel_rfl) (by exact fun _ _ _ h => h) (Or.inl ⟨by kernel_rfl, ?_⟩) (by assumption) ?_
      rotate_left
      · intro w' hSw; (try dsimp only at hSw); go_simp; try with_reducible rfl
      try simp only [Act.put, List.setIfInBounds_toArray, List.set_cons_zero, List.set_cons_succ]
      refine wpAnyH_take (i := 1) (v := ?_) (by simp only [List.getElem?_toArray, List.getElem?_cons_succ, List.getElem?_cons_zero] <;> rfl) (by kernel_rfl) (by kernel_rfl) (by kernel_rfl) (by exact fun _ _ _ h => h) (Or.inl ⟨by kernel_rfl, ?_⟩) (by assumption) ?_
      rotate_left
      · intro w' hSw; (try dsimp only at hSw); go_simp; try with_reducible rfl
      try simp only [Act.put, List.setIfInBounds_toArray, List.set_cons_zero, List.set_cons_succ]
      refine wpAnyH_take (i := 3) (v := ?_) (by simp only [List.getElem?_toArray, List.getElem?_cons_succ, List.getElem?_cons_zero] <;> rfl) (by kernel_rfl) (by kernel_rfl) (by kernel_rfl) (by exact fun _ _ _ h => h) (Or.inl ⟨by kernel_rfl, ?_⟩) (by assumption) ?_
      rotate_left
      · intro w' hSw; (try dsimp only at hSw); go_simp; try with_reducible rfl
      try simp only [Act.put, List.setIfInBounds_toArray, List.set_cons_zero, List.set_cons_succ]
      refine wpAnyH_take (i := 4) (v := ?_) (by simp only [List.getElem?_toArray, List.getElem?_cons_succ, List.getElem?_cons_zero] <;> rfl) (by kernel_rfl) (by kernel_rfl) (by kernel_rfl) (by exact fun _ _ _ h => h) (Or.inl ⟨by kernel_rfl, ?_⟩) (by assumption) ?_
      rotate_left
      · intro w' hSw; (try dsimp only at hSw); go_simp; try with_reducible rfl
      try simp only [Act.put, List.setIfInBounds_toArray, List.set_cons_zero, List.set_cons_succ]
      refine wpAnyH_ready (rs := [2]) (by kernel_rfl) (by simp) (AllReadyH.cons rfl (fun K hK => ?_) AllReadyH.nil)
      go_simp
      (go_at_call 70; ((with_reducible refine (impl_tripIndex H.out (hwb0.trans inferInstance) f).mono ?_); rw [HU.out]; rintro e w5 ⟨rfl, L5⟩; have X5 := Later.trans (w := wb) inferInstance L5))
      refine hK.out _ _ (by exact inferInstance) (fun hHeld => ?_)
      try simp only [Act.put, List.setIfInBounds_toArray, List.set_cons_zero, List.set_cons_succ]
      refine wpAnyH_ready (rs := [5]) (by kernel_rfl) (by simp) (AllReadyH.cons rfl (fun K hK => ?_) AllReadyH.nil)
      go_simp
      (go_at_call 70; ((with_reducible refine (impl_tripIndex H.out (hwb0.trans inferInstance) g).mono ?_); rw [HV.out]; rintro e w6 ⟨rfl, L6⟩; have X6 := Later.trans (w := wb) inferInstance L6))
      refine hK.out _ _ (by exact inferInstance) (fun hHeld => ?_)
      try simp only [Act.put, List.setIfInBounds_toArray, List.set_cons_zero, List.set_cons_succ]
      refine wpAnyH_take (i := 6) (v := ?_) (by simp only [List.getElem?_toArray, List.getElem?_cons_succ, List.getElem?_cons_zero] <;> rfl) (by kernel_rfl) (by kernel_rfl) (by kernel_rfl) (by exact fun _ _ _ h => h) (Or.inl ⟨by kernel_rfl, ?_⟩) (by assumption) ?_
      rotate_left
      · intro w' hSw; (try dsimp only at hSw); go_simp; try with_reducible rfl
      try simp only [Act.put, List.setIfInBounds_toArray, List.set_cons_zero, List.set_cons_succ]
      refine wpAnyH_take (i := 7) (v := ?_) (by simp only [List.getElem?_toArray, List.getElem?_cons_succ, List.getElem?_cons_zero] <;> rfl) (by kernel_rfl) (by kernel_rfl) (by kernel_rfl) (by exact fun _ _ _ h => h) (Or.inl ⟨by kernel_rfl, ?_⟩) (by assumption) ?_
      rotate_left
      · intro w' hSw; (try dsimp only at hSw); go_simp; try with_reducible rfl
      try simp only [Act.put, List.setIfInBounds_toArray, List.set_cons_zero, List.set_cons_succ]
      refine wpAnyH_done (by kernel_rfl) ?_ _
      · exact key w6 inferInstance
    intro w3 hb3
    haveI hb3' : Later wb w3 := hb3
    go_wp2
    go_ret3
    exact ⟨rfl, hww.trans inferInstance⟩
  by_cases b5 : v < 0
  · have HR := Lib.hid (chg_no (t := t) (l := l) (f := f) (g := g) (fun e => by have := e.2.2.2.2; omega))
    rw [HR.out]
    clear hu hv b3
    go_enter Try.func15, Try.ntmps15
    go_wp2_with first
      | (go_at_call 68; refine (impl_IsValidTimetable H.out (hwb0.trans inferInstance)).mono ?_; rintro e w1 ⟨rfl, L1⟩; have X1 := Later.trans (w := wb) inferInstance L1)
      | (go_at_call 69; refine (impl_areWalks (r := t.Network) ⟨H.out.l_Network_Stops, H.out.l_Network_Lines⟩ (hwb0.trans inferInstance) HL2.out inferInstance).mono ?_; rintro e w2 ⟨rfl, L2⟩; have X2 := Later.trans (w := wb) inferInstance L2)
    apply ways1 (wb := wb)
    · intro key
      refine wp_region_held_drew (S := (fun w' => Later wb w')) (by kernel_rfl) (by exact inferInstance) (fun hHeld => ?_)
      refine wpAnyH_take (i := 0) (v := ?_) (by simp only [List.getElem?_toArray, List.getElem?_cons_zero] <;> rfl) (by kernel_rfl) (by kernel_rfl) (by kernel_rfl) (by exact fun _ _ _ h => h) (Or.inl ⟨by kernel_rfl, ?_⟩) (by assumption) ?_
      rotate_left
      · intro w' hSw; (try dsimp only at hSw); go_simp; try with_reducible rfl
      try simp only [Act.put, List.setIfInBounds_toArray, List.set_cons_zero, List.set_cons_succ]
      refine wpAnyH_take (i := 1) (v := ?_) (by simp only [List.getElem?_toArray, List.getElem?_cons_succ, List.getElem?_cons_zero] <;> rfl) (by kernel_rfl) (by kernel_rfl) (by kernel_rfl) (by exact fun _ _ _ h => h) (Or.inl ⟨by kernel_rfl, ?_⟩) (by assumption) ?_
      rotate_left
      · intro w' hSw; (try dsimp only at hSw); go_simp; try with_reducible rfl
      try simp only [Act.put, List.setIfInBounds_toArray, List.set_cons_zero, List.set_cons_succ]
      refine wpAnyH_take (i := 3) (v := ?_) (by simp only [List.getElem?_toArray, List.getElem?_cons_succ, List.getElem?_cons_zero] <;> rfl) (by kernel_rfl) (by kernel_rfl) (by kernel_rfl) (by exact fun _ _ _ h => h) (Or.inl ⟨by kernel_rfl, ?_⟩) (by assumption) ?_
      rotate_left
      · intro w' hSw; (try dsimp only at hSw); go_simp; try with_reducible rfl
      try simp only [Act.put, List.setIfInBounds_toArray, List.set_cons_zero, List.set_cons_succ]
      refine wpAnyH_take (i := 4) (v := ?_) (by simp only [List.getElem?_toArray, List.getElem?_cons_succ, List.getElem?_cons_zero] <;> rfl) (by kernel_rfl) (by kernel_rfl) (by kernel_rfl) (by exact fun _ _ _ h => h) (Or.inl ⟨by kernel_rfl, ?_⟩) (by assumption) ?_
      rotate_left
      · intro w' hSw; (try dsimp only at hSw); go_simp; try with_reducible rfl
      try simp only [Act.put, List.setIfInBounds_toArray, List.set_cons_zero, List.set_cons_succ]
      refine wpAnyH_ready (rs := [2]) (by kernel_rfl) (by simp) (AllReadyH.cons rfl (fun K hK => ?_) AllReadyH.nil)
      go_simp
      (go_at_call 70; ((with_reducible refine (impl_tripIndex H.out (hwb0.trans inferInstance) f).mono ?_); rw [HU.out]; rintro e w5 ⟨rfl, L5⟩; have X5 := Later.trans (w := wb) inferInstance L5))
      refine hK.out _ _ (by exact inferInstance) (fun hHeld => ?_)
      try simp only [Act.put, List.setIfInBounds_toArray, List.set_cons_zero, List.set_cons_succ]
      refine wpAnyH_ready (rs := [5]) (by kernel_rfl) (by simp) (AllReadyH.cons rfl (fun K hK => ?_) AllReadyH.nil)
      go_simp
      (go_at_call 70; ((with_reducible refine (impl_tripIndex H.out (hwb0.trans inferInstance) g).mono ?_); rw [HV.out]; rintro e w6 ⟨rfl, L6⟩; have X6 := Later.trans (w := wb) inferInstance L6))
      refine hK.out _ _ (by exact inferInstance) (fun hHeld => ?_)
      try simp only [Act.put, List.setIfInBounds_toArray, List.set_cons_zero, List.set_cons_succ]
      refine wpAnyH_take (i := 6) (v := ?_) (by simp only [List.getElem?_toArray, List.getElem?_cons_succ, List.getElem?_cons_zero] <;> rfl) (by kernel_rfl) (by kernel_rfl) (by kernel_rfl) (by exact fun _ _ _ h => h) (Or.inl ⟨by kernel_rfl, ?_⟩) (by assumption) ?_
      rotate_left
      · intro w' hSw; (try dsimp only at hSw); go_simp; try with_reducible rfl
      try simp only [Act.put, List.setIfInBounds_toArray, List.set_cons_zero, List.set_cons_succ]
      refine wpAnyH_take (i := 7) (v := ?_) (by simp only [List.getElem?_toArray, List.getElem?_cons_succ, List.getElem?_cons_zero] <;> rfl) (by kernel_rfl) (by kernel_rfl) (by kernel_rfl) (by exact fun _ _ _ h => h) (Or.inl ⟨by kernel_rfl, ?_⟩) (by assumption) ?_
      rotate_left
      · intro w' hSw; (try dsimp only at hSw); go_simp; try with_reducible rfl
      try simp only [Act.put, List.setIfInBounds_toArray, List.set_cons_zero, List.set_cons_succ]
      refine wpAnyH_done (by kernel_rfl) ?_ _
      · exact key w6 inferInstance
    intro w3 hb3
    haveI hb3' : Later wb w3 := hb3
    go_wp2
    go_ret3
    exact ⟨rfl, hww.trans inferInstance⟩
  have HR := Lib.hid (chg_yes (t := t) (l := l) (f := f) (g := g) ⟨b1, b2, b3, by omega, by omega⟩)
  have hfu := findI_bd t f
  have hfv := findI_bd t g
  rw [hu] at hfu HR
  rw [hv] at hfv HR
  obtain ⟨i, rfl⟩ := Int.eq_ofNat_of_zero_le (show 0 ≤ u by omega)
  obtain ⟨j, rfl⟩ := Int.eq_ofNat_of_zero_le (show 0 ≤ v by omega)
  have hi2 : i < sn2 := by have := HT2.out; omega
  have hj2 : j < sn2 := by have := HT2.out; omega
  obtain ⟨bt, ot, a, hA, ha', ta0, ta1, ta2, _⟩ := Trips.at_ HTS.out hi2
  obtain ⟨bt', ot', b, hB, hb', tb0, tb1, tb2, _⟩ := Trips.at_ HTS.out hj2
  have ha := ha'.out
  have hb := hb'.out
  rw [hA] at hB
  cases hB
  subst hA
  have HTA : Hid (tripI t (i : Int) = a) := tripI_of ha
  have HTB : Hid (tripI t (j : Int) = b) := tripI_of hb
  rw [HTA.out, HTB.out] at HR
  have TF := Lib.hid tf
  have TIA := Lib.hid (tf.trip i a ha).in_
  have TIB := Lib.hid (tf.trip j b hb).in_
  have lfa := Lib.hid (lineAtT_facts tf.net TIA.out.line0 TIA.out.line1)
  have lfb := Lib.hid (lineAtT_facts tf.net TIB.out.line0 TIB.out.line1)
  have HXA := Lib.hid ha
  have HXB := Lib.hid hb
  have WF := Lib.hid (walkFacts b2)
  have hn8 : sn0 ≤ 8 := by have := tf.net.stops; have := Hl.out; omega
  have hii : (i : Int) < sn2 := by omega
  have hjj : (j : Int) < sn2 := by omega
  rw [HR.out]
  clear ha hb ha' hb' hfu hfv b3 tf hu hv
  go_enter Try.func15, Try.ntmps15
  go_wp2_with first
    | (go_at_call 68; refine (impl_IsValidTimetable H.out (hwb0.trans inferInstance)).mono ?_; rintro e w1 ⟨rfl, L1⟩; have X1 := Later.trans (w := wb) inferInstance L1)
    | (go_at_call 69; refine (impl_areWalks (r := t.Network) ⟨H.out.l_Network_Stops, H.out.l_Network_Lines⟩ (hwb0.trans inferInstance) HL2.out inferInstance).mono ?_; rintro e w2 ⟨rfl, L2⟩; have X2 := Later.trans (w := wb) inferInstance L2)
  clear b1 b2
  apply ways1 (wb := wb)
  · intro key
    refine wp_region_held_drew (S := (fun w' => Later wb w')) (by kernel_rfl) (by exact inferInstance) (fun hHeld => ?_)
    refine wpAnyH_take (i := 0) (v := ?_) (by simp only [List.getElem?_toArray, List.getElem?_cons_zero] <;> rfl) (by kernel_rfl) (by kernel_rfl) (by kernel_rfl) (by exact fun _ _ _ h => h) (Or.inl ⟨by kernel_rfl, ?_⟩) (by assumption) ?_
    rotate_left
    · intro w' hSw; (try dsimp only at hSw); go_simp; try with_reducible rfl
    try simp only [Act.put, List.setIfInBounds_toArray, List.set_cons_zero, List.set_cons_succ]
    refine wpAnyH_take (i := 1) (v := ?_) (by simp only [List.getElem?_toArray, List.getElem?_cons_succ, List.getElem?_cons_zero] <;> rfl) (by kernel_rfl) (by kernel_rfl) (by kernel_rfl) (by exact fun _ _ _ h => h) (Or.inl ⟨by kernel_rfl, ?_⟩) (by assumption) ?_
    rotate_left
    · intro w' hSw; (try dsimp only at hSw); go_simp; try with_reducible rfl
    try simp only [Act.put, List.setIfInBounds_toArray, List.set_cons_zero, List.set_cons_succ]
    refine wpAnyH_take (i := 3) (v := ?_) (by simp only [List.getElem?_toArray, List.getElem?_cons_succ, List.getElem?_cons_zero] <;> rfl) (by kernel_rfl) (by kernel_rfl) (by kernel_rfl) (by exact fun _ _ _ h => h) (Or.inl ⟨by kernel_rfl, ?_⟩) (by assumption) ?_
    rotate_left
    · intro w' hSw; (try dsimp only at hSw); go_simp; try with_reducible rfl
    try simp only [Act.put, List.setIfInBounds_toArray, List.set_cons_zero, List.set_cons_succ]
    refine wpAnyH_take (i := 4) (v := ?_) (by simp only [List.getElem?_toArray, List.getElem?_cons_succ, List.getElem?_cons_zero] <;> rfl) (by kernel_rfl) (by kernel_rfl) (by kernel_rfl) (by exact fun _ _ _ h => h) (Or.inl ⟨by kernel_rfl, ?_⟩) (by assumption) ?_
    rotate_left
    · intro w' hSw; (try dsimp only at hSw); go_simp; try with_reducible rfl
    try simp only [Act.put, List.setIfInBounds_toArray, List.set_cons_zero, List.set_cons_succ]
    refine wpAnyH_ready (rs := [2]) (by kernel_rfl) (by simp) (AllReadyH.cons rfl (fun K hK => ?_) AllReadyH.nil)
    go_simp
    (go_at_call 70; ((with_reducible refine (impl_tripIndex H.out (hwb0.trans inferInstance) f).mono ?_); rw [HU.out]; rintro e w5 ⟨rfl, L5⟩; have X5 := Later.trans (w := wb) inferInstance L5))
    refine hK.out _ _ (by exact inferInstance) (fun hHeld => ?_)
    try simp only [Act.put, List.setIfInBounds_toArray, List.set_cons_zero, List.set_cons_succ]
    refine wpAnyH_ready (rs := [5]) (by kernel_rfl) (by simp) (AllReadyH.cons rfl (fun K hK => ?_) AllReadyH.nil)
    go_simp
    (go_at_call 70; ((with_reducible refine (impl_tripIndex H.out (hwb0.trans inferInstance) g).mono ?_); rw [HV.out]; rintro e w6 ⟨rfl, L6⟩; have X6 := Later.trans (w := wb) inferInstance L6))
    refine hK.out _ _ (by exact inferInstance) (fun hHeld => ?_)
    try simp only [Act.put, List.setIfInBounds_toArray, List.set_cons_zero, List.set_cons_succ]
    refine wpAnyH_take (i := 6) (v := ?_) (by simp only [List.getElem?_toArray, List.getElem?_cons_succ, List.getElem?_cons_zero] <;> rfl) (by kernel_rfl) (by kernel_rfl) (by kernel_rfl) (by exact fun _ _ _ h => h) (Or.inl ⟨by kernel_rfl, ?_⟩) (by assumption) ?_
    rotate_left
    · intro w' hSw; (try dsimp only at hSw); go_simp; try with_reducible rfl
    try simp only [Act.put, List.setIfInBounds_toArray, List.set_cons_zero, List.set_cons_succ]
    refine wpAnyH_take (i := 7) (v := ?_) (by simp only [List.getElem?_toArray, List.getElem?_cons_succ, List.getElem?_cons_zero] <;> rfl) (by kernel_rfl) (by kernel_rfl) (by kernel_rfl) (by exact fun _ _ _ h => h) (Or.inl ⟨by kernel_rfl, ?_⟩) (by assumption) ?_
    rotate_left
    · intro w' hSw; (try dsimp only at hSw); go_simp; try with_reducible rfl
    try simp only [Act.put, List.setIfInBounds_toArray, List.set_cons_zero, List.set_cons_succ]
    refine wpAnyH_done (by kernel_rfl) ?_ _
    · exact key w6 inferInstance
  intro w3 hb3
  haveI hb3' : Later wb w3 := hb3
  go_wp2_with fail
  clear b4 b5 HU HV
  apply ways3 (wb := wb) (fun W x y => Blk W x 107 #[.int .i64 a.Id, .int .i64 a.Line, .int .i64 a.Start] ∧ Blk W y 107 #[.int .i64 b.Id, .int .i64 b.Line, .int .i64 b.Start])
  · intro key
    refine wp_region_held_drew (S := (fun w' => Later wb w')) (by kernel_rfl) (by exact inferInstance) (fun hHeld => ?_)
    refine wpAnyH_take (i := 0) (v := ?_) (by simp only [List.getElem?_toArray, List.getElem?_cons_zero] <;> rfl) (by kernel_rfl) (by kernel_rfl) (by kernel_rfl) (by exact fun _ _ _ h => h) (Or.inl ⟨by kernel_rfl, ?_⟩) (by assumption) ?_
    rotate_left
    · intro w' hSw; (try dsimp only at hSw); go_simp; try with_reducible rfl
    try simp only [Act.put, List.setIfInBounds_toArray, List.set_cons_zero, List.set_cons_succ]
    refine wpAnyH_take (i := 1) (v := ?_) (by simp only [List.getElem?_toArray, List.getElem?_cons_succ, List.getElem?_cons_zero] <;> rfl) (by kernel_rfl) (by kernel_rfl) (by kernel_rfl) (by exact fun _ _ _ h => h) (Or.inl ⟨by kernel_rfl, ?_⟩) (by assumption) ?_
    rotate_left
    · intro w' hSw; (try dsimp only at hSw); go_simp; try with_reducible rfl
    try simp only [Act.put, List.setIfInBounds_toArray, List.set_cons_zero, List.set_cons_succ]
    refine wpAnyH_take (i := 2) (v := ?_) (by simp only [List.getElem?_toArray, List.getElem?_cons_succ, List.getElem?_cons_zero] <;> rfl) (by kernel_rfl) (by kernel_rfl) (by kernel_rfl) (by exact fun _ _ _ h => h) (Or.inl ⟨by kernel_rfl, ?_⟩) (by assumption) ?_
    rotate_left
    · intro w' hSw; (try dsimp only at hSw); go_simp; try with_reducible rfl
    try simp only [Act.put, List.setIfInBounds_toArray, List.set_cons_zero, List.set_cons_succ]
    refine wpAnyH_take (i := 3) (v := ?_) (by simp only [List.getElem?_toArray, List.getElem?_cons_succ, List.getElem?_cons_zero] <;> rfl) (by kernel_rfl) (by kernel_rfl) (by kernel_rfl) (by exact fun _ _ _ h => h) (Or.inl ⟨by kernel_rfl, ?_⟩) (by assumption) ?_
    rotate_left
    · intro w' hSw; (try dsimp only at hSw); go_simp; try with_reducible rfl
    try simp only [Act.put, List.setIfInBounds_toArray, List.set_cons_zero, List.set_cons_succ]
    refine wpAnyH_take (i := 4) (v := ?_) (by simp only [List.getElem?_toArray, List.getElem?_cons_succ, List.getElem?_cons_zero] <;> rfl) (by kernel_rfl) (by kernel_rfl) (by kernel_rfl) (by exact fun _ _ _ h => h) (Or.inl ⟨by kernel_rfl, ?_⟩) (by assumption) ?_
    rotate_left
    · intro w' hSw; (try dsimp only at hSw); go_simp; try with_reducible rfl
    try simp only [Act.put, List.setIfInBounds_toArray, List.set_cons_zero, List.set_cons_succ]
    refine wpAnyH_take (i := 5) (v := ?_) (by simp only [List.getElem?_toArray, List.getElem?_cons_succ, List.getElem?_cons_zero] <;> rfl) (by kernel_rfl) (by kernel_rfl) (by kernel_rfl) (by exact fun _ _ _ h => h) (Or.inl ⟨by kernel_rfl, ?_⟩) (by assumption) ?_
    rotate_left
    · intro w' hSw; (try dsimp only at hSw); go_simp; try with_reducible rfl
    try simp only [Act.put, List.setIfInBounds_toArray, List.set_cons_zero, List.set_cons_succ]
    refine wpAnyH_take (i := 6) (v := ?_) (by simp only [List.getElem?_toArray, List.getElem?_cons_succ, List.getElem?_cons_zero] <;> rfl) (by kernel_rfl) (by kernel_rfl) (by kernel_rfl) (by exact fun _ _ _ h => h) (Or.inl ⟨by kernel_rfl, ?_⟩) (by assumption) ?_
    rotate_left
    · intro w' hSw; (try dsimp only at hSw); go_simp; try with_reducible rfl
    try simp only [Act.put, List.setIfInBounds_toArray, List.set_cons_zero, List.set_cons_succ]
    refine wpAnyH_take (i := 7) (v := ?_) (by simp only [List.getElem?_toArray, List.getElem?_cons_succ, List.getElem?_cons_zero] <;> rfl) (by kernel_rfl) (by kernel_rfl) (by kernel_rfl) (by exact fun _ _ _ h => h) (Or.inl ⟨by kernel_rfl, ?_⟩) (by assumption) ?_
    rotate_left
    · intro w' hSw; (try dsimp only at hSw); go_simp; try with_reducible rfl
    try simp only [Act.put, List.setIfInBounds_toArray, List.set_cons_zero, List.set_cons_succ]
    refine wpAnyH_take (i := 8) (v := ?_) (by simp only [List.getElem?_toArray, List.getElem?_cons_succ, List.getElem?_cons_zero] <;> rfl) (by kernel_rfl) (by kernel_rfl) (by kernel_rfl) (by exact fun _ _ _ h => h) (Or.inl ⟨by kernel_rfl, ?_⟩) (by assumption) ?_
    rotate_left
    · intro w' hSw; (try dsimp only at hSw); go_simp; try with_reducible rfl
    try simp only [Act.put, List.setIfInBounds_toArray, List.set_cons_zero, List.set_cons_succ]
    refine wpAnyH_take (i := 9) (v := ?_) (by simp only [List.getElem?_toArray, List.getElem?_cons_succ, List.getElem?_cons_zero] <;> rfl) (by kernel_rfl) (by kernel_rfl) (by kernel_rfl) (by exact fun _ _ _ h => h) (Or.inl ⟨by kernel_rfl, ?_⟩) (by assumption) ?_
    rotate_left
    · intro w' hSw; (try dsimp only at hSw); go_simp; try with_reducible rfl
    try simp only [Act.put, List.setIfInBounds_toArray, List.set_cons_zero, List.set_cons_succ]
    refine wpAnyH_ready (rs := [10, 11]) (by kernel_rfl) (by simp) (AllReadyH.cons rfl (fun K hK => ?r4x0_1_2_3_4_5_6_7_8_9_10) (AllReadyH.cons rfl (fun K hK => ?r4x0_1_2_3_4_5_6_7_8_9_11) AllReadyH.nil))
    case' r4x0_1_2_3_4_5_6_7_8_9_10 =>
      go_simp
      (first | (obtain ⟨wp, hwwp⟩ : ∃ W : World, W = (w3.alloc (.cells #[.int .i64 0, .int .i64 0, .int .i64 0] 107)).drew := ⟨_, rfl⟩; rw [← hwwp]; have hbgx : Blk wp w3.heap.size 107 #[.int .i64 0, .int .i64 0, .int .i64 0] := (by rw [hwwp]; exact Blk.new _ _ _); haveI hLwp : Later w3 wp := (by rw [hwwp]; infer_instance); have hywp := Later.trans (w := wb) inferInstance hLwp; have hGgx := Later.size (w := wb) (W := w3) inferInstance; obtain ⟨gx, hgx⟩ : ∃ g : Nat, g = w3.heap.size := ⟨_, rfl⟩; rw [← hgx] at hbgx hGgx; rw [← hgx]; clear hwwp hgx; skip) | (obtain ⟨wq, hwwq⟩ : ∃ W : World, W = (wp.alloc (.cells #[.int .i64 0, .int .i64 0, .int .i64 0] 107)) := ⟨_, rfl⟩; rw [← hwwq]; have hbgx : Blk wq wp.heap.size 107 #[.int .i64 0, .int .i64 0, .int .i64 0] := (by rw [hwwq]; exact Blk.new _ _ _); haveI hLwq : Later wp wq := (by rw [hwwq]; infer_instance); have hywq := Later.trans (w := wb) inferInstance hLwq; have hGgx := Later.size (w := wb) (W := wp) inferInstance; have hlt := hbgy.lt; replace hbgy := hbgy.later hLwq; obtain ⟨gx, hgx⟩ : ∃ g : Nat, g = wp.heap.size := ⟨_, rfl⟩; rw [← hgx] at hbgx hGgx hlt; rw [← hgx]; clear hwwq hgx; have hxy : ¬ gx = gy := (by omega); have hyx : ¬ gy = gx := (by omega); haveI hNx : New wb gx := ⟨hGgx⟩; haveI hNy : New wb gy := ⟨hGgy⟩; have hcx := (fun i => hbgx.cell i); have hcy := (fun i => hbgy.cell i); have hfx := (fun i => hbgx.frozen i); have hfy := (fun i => hbgy.frozen i)))
      refine hK.out _ _ (by exact inferInstance) (fun hHeld => ?_)
      try simp only [Act.put, List.setIfInBounds_toArray, List.set_cons_zero, List.set_cons_succ]
      refine wpAnyH_ready (rs := [11]) (by kernel_rfl) (by simp) (AllReadyH.cons rfl (fun K hK => ?_) AllReadyH.nil)
      go_simp
      (first | (obtain ⟨wp, hwwp⟩ : ∃ W : World, W = (w3.alloc (.cells #[.int .i64 0, .int .i64 0, .int .i64 0] 107)).drew := ⟨_, rfl⟩; rw [← hwwp]; have hbgy : Blk wp w3.heap.size 107 #[.int .i64 0, .int .i64 0, .int .i64 0] := (by rw [hwwp]; exact Blk.new _ _ _); haveI hLwp : Later w3 wp := (by rw [hwwp]; infer_instance); have hywp := Later.trans (w := wb) inferInstance hLwp; have hGgy := Later.size (w := wb) (W := w3) inferInstance; obtain ⟨gy, hgy⟩ : ∃ g : Nat, g = w3.heap.size := ⟨_, rfl⟩; rw [← hgy] at hbgy hGgy; rw [← hgy]; clear hwwp hgy; skip) | (obtain ⟨wq, hwwq⟩ : ∃ W : World, W = (wp.alloc (.cells #[.int .i64 0, .int .i64 0, .int .i64 0] 107)) := ⟨_, rfl⟩; rw [← hwwq]; have hbgy : Blk wq wp.heap.size 107 #[.int .i64 0, .int .i64 0, .int .i64 0] := (by rw [hwwq]; exact Blk.new _ _ _); haveI hLwq : Later wp wq := (by rw [hwwq]; infer_instance); have hywq := Later.trans (w := wb) inferInstance hLwq; have hGgy := Later.size (w := wb) (W := wp) inferInstance; have hlt := hbgx.lt; replace hbgx := hbgx.later hLwq; obtain ⟨gy, hgy⟩ : ∃ g : Nat, g = wp.heap.size := ⟨_, rfl⟩; rw [← hgy] at hbgy hGgy hlt; rw [← hgy]; clear hwwq hgy; have hxy : ¬ gx = gy := (by omega); have hyx : ¬ gy = gx := (by omega); haveI hNx : New wb gx := ⟨hGgx⟩; haveI hNy : New wb gy := ⟨hGgy⟩; have hcx := (fun i => hbgx.cell i); have hcy := (fun i => hbgy.cell i); have hfx := (fun i => hbgx.frozen i); have hfy := (fun i => hbgy.frozen i)))
      refine hK.out _ _ (by exact inferInstance) (fun hHeld => ?_)
      try simp only [Act.put, List.setIfInBounds_toArray, List.set_cons_zero, List.set_cons_succ]
      refine wpAnyH_ready (rs := [12]) (by kernel_rfl) (by simp) (AllReadyH.cons rfl (fun K hK => ?_) AllReadyH.nil)
      go_simp
      skip
      refine hK.out _ _ (by exact inferInstance) (fun hHeld => ?_)
      try simp only [Act.put, List.setIfInBounds_toArray, List.set_cons_zero, List.set_cons_succ]
      refine wpAnyH_ready (rs := [13]) (by kernel_rfl) (by simp) (AllReadyH.cons rfl (fun K hK => ?_) AllReadyH.nil)
      go_simp
      (obtain ⟨wf, hwf⟩ : ∃ W : World, W = ((((((wq.setCell ⟨gx, 0, none⟩ (.int .i64 a.Id)).setCell ⟨gx, 1, none⟩ (.int .i64 a.Line)).setCell ⟨gx, 2, none⟩ (.int .i64 a.Start)).setCell ⟨gy, 0, none⟩ (.int .i64 b.Id)).setCell ⟨gy, 1, none⟩ (.int .i64 b.Line)).setCell ⟨gy, 2, none⟩ (.int .i64 b.Start)) := ⟨_, rfl⟩; rw [← hwf]; have hbX : Blk wf gx 107 #[.int .i64 a.Id, .int .i64 a.Line, .int .i64 a.Start] := (by rw [hwf]; exact hbgx.putC.byC hxy); have hbY : Blk wf gy 107 #[.int .i64 b.Id, .int .i64 b.Line, .int .i64 b.Start] := (by rw [hwf]; exact (hbgy.byC hyx).putC); haveI hyf : Later wb wf := (by rw [hwf]; infer_instance); clear hwf hcx hcy hfx hfy)
      refine hK.out _ _ (by exact inferInstance) (fun hHeld => ?_)
      try simp only [Act.put, List.setIfInBounds_toArray, List.set_cons_zero, List.set_cons_succ]
      refine wpAnyH_done (by kernel_rfl) ?_ _
    case' r4x0_1_2_3_4_5_6_7_8_9_11 =>
      go_simp
      (first | (obtain ⟨wp, hwwp⟩ : ∃ W : World, W = (w3.alloc (.cells #[.int .i64 0, .int .i64 0, .int .i64 0] 107)).drew := ⟨_, rfl⟩; rw [← hwwp]; have hbgy : Blk wp w3.heap.size 107 #[.int .i64 0, .int .i64 0, .int .i64 0] := (by rw [hwwp]; exact Blk.new _ _ _); haveI hLwp : Later w3 wp := (by rw [hwwp]; infer_instance); have hywp := Later.trans (w := wb) inferInstance hLwp; have hGgy := Later.size (w := wb) (W := w3) inferInstance; obtain ⟨gy, hgy⟩ : ∃ g : Nat, g = w3.heap.size := ⟨_, rfl⟩; rw [← hgy] at hbgy hGgy; rw [← hgy]; clear hwwp hgy; skip) | (obtain ⟨wq, hwwq⟩ : ∃ W : World, W = (wp.alloc (.cells #[.int .i64 0, .int .i64 0, .int .i64 0] 107)) := ⟨_, rfl⟩; rw [← hwwq]; have hbgy : Blk wq wp.heap.size 107 #[.int .i64 0, .int .i64 0, .int .i64 0] := (by rw [hwwq]; exact Blk.new _ _ _); haveI hLwq : Later wp wq := (by rw [hwwq]; infer_instance); have hywq := Later.trans (w := wb) inferInstance hLwq; have hGgy := Later.size (w := wb) (W := wp) inferInstance; have hlt := hbgx.lt; replace hbgx := hbgx.later hLwq; obtain ⟨gy, hgy⟩ : ∃ g : Nat, g = wp.heap.size := ⟨_, rfl⟩; rw [← hgy] at hbgy hGgy hlt; rw [← hgy]; clear hwwq hgy; have hxy : ¬ gx = gy := (by omega); have hyx : ¬ gy = gx := (by omega); haveI hNx : New wb gx := ⟨hGgx⟩; haveI hNy : New wb gy := ⟨hGgy⟩; have hcx := (fun i => hbgx.cell i); have hcy := (fun i => hbgy.cell i); have hfx := (fun i => hbgx.frozen i); have hfy := (fun i => hbgy.frozen i)))
      refine hK.out _ _ (by exact inferInstance) (fun hHeld => ?_)
      try simp only [Act.put, List.setIfInBounds_toArray, List.set_cons_zero, List.set_cons_succ]
      refine wpAnyH_ready (rs := [10]) (by kernel_rfl) (by simp) (AllReadyH.cons rfl (fun K hK => ?_) AllReadyH.nil)
      go_simp
      (first | (obtain ⟨wp, hwwp⟩ : ∃ W : World, W = (w3.alloc (.cells #[.int .i64 0, .int .i64 0, .int .i64 0] 107)).drew := ⟨_, rfl⟩; rw [← hwwp]; have hbgx : Blk wp w3.heap.size 107 #[.int .i64 0, .int .i64 0, .int .i64 0] := (by rw [hwwp]; exact Blk.new _ _ _); haveI hLwp : Later w3 wp := (by rw [hwwp]; infer_instance); have hywp := Later.trans (w := wb) inferInstance hLwp; have hGgx := Later.size (w := wb) (W := w3) inferInstance; obtain ⟨gx, hgx⟩ : ∃ g : Nat, g = w3.heap.size := ⟨_, rfl⟩; rw [← hgx] at hbgx hGgx; rw [← hgx]; clear hwwp hgx; skip) | (obtain ⟨wq, hwwq⟩ : ∃ W : World, W = (wp.alloc (.cells #[.int .i64 0, .int .i64 0, .int .i64 0] 107)) := ⟨_, rfl⟩; rw [← hwwq]; have hbgx : Blk wq wp.heap.size 107 #[.int .i64 0, .int .i64 0, .int .i64 0] := (by rw [hwwq]; exact Blk.new _ _ _); haveI hLwq : Later wp wq := (by rw [hwwq]; infer_instance); have hywq := Later.trans (w := wb) inferInstance hLwq; have hGgx := Later.size (w := wb) (W := wp) inferInstance; have hlt := hbgy.lt; replace hbgy := hbgy.later hLwq; obtain ⟨gx, hgx⟩ : ∃ g : Nat, g = wp.heap.size := ⟨_, rfl⟩; rw [← hgx] at hbgx hGgx hlt; rw [← hgx]; clear hwwq hgx; have hxy : ¬ gx = gy := (by omega); have hyx : ¬ gy = gx := (by omega); haveI hNx : New wb gx := ⟨hGgx⟩; haveI hNy : New wb gy := ⟨hGgy⟩; have hcx := (fun i => hbgx.cell i); have hcy := (fun i => hbgy.cell i); have hfx := (fun i => hbgx.frozen i); have hfy := (fun i => hbgy.frozen i)))
      refine hK.out _ _ (by exact inferInstance) (fun hHeld => ?_)
      try simp only [Act.put, List.setIfInBounds_toArray, List.set_cons_zero, List.set_cons_succ]
      refine wpAnyH_ready (rs := [12]) (by kernel_rfl) (by simp) (AllReadyH.cons rfl (fun K hK => ?_) AllReadyH.nil)
      go_simp
      skip
      refine hK.out _ _ (by exact inferInstance) (fun hHeld => ?_)
      try simp only [Act.put, List.setIfInBounds_toArray, List.set_cons_zero, List.set_cons_succ]
      refine wpAnyH_ready (rs := [13]) (by kernel_rfl) (by simp) (AllReadyH.cons rfl (fun K hK => ?_) AllReadyH.nil)
      go_simp
      (obtain ⟨wf, hwf⟩ : ∃ W : World, W = ((((((wq.setCell ⟨gx, 0, none⟩ (.int .i64 a.Id)).setCell ⟨gx, 1, none⟩ (.int .i64 a.Line)).setCell ⟨gx, 2, none⟩ (.int .i64 a.Start)).setCell ⟨gy, 0, none⟩ (.int .i64 b.Id)).setCell ⟨gy, 1, none⟩ (.int .i64 b.Line)).setCell ⟨gy, 2, none⟩ (.int .i64 b.Start)) := ⟨_, rfl⟩; rw [← hwf]; have hbX : Blk wf gx 107 #[.int .i64 a.Id, .int .i64 a.Line, .int .i64 a.Start] := (by rw [hwf]; exact hbgx.putC.byC hxy); have hbY : Blk wf gy 107 #[.int .i64 b.Id, .int .i64 b.Line, .int .i64 b.Start] := (by rw [hwf]; exact (hbgy.byC hyx).putC); haveI hyf : Later wb wf := (by rw [hwf]; infer_instance); clear hwf hcx hcy hfx hfy)
      refine hK.out _ _ (by exact inferInstance) (fun hHeld => ?_)
      try simp only [Act.put, List.setIfInBounds_toArray, List.set_cons_zero, List.set_cons_succ]
      refine wpAnyH_done (by kernel_rfl) ?_ _
    all_goals exact key wf gx gy inferInstance ⟨hbX, hbY⟩
  intro wk gx gy hbk hbxy
  haveI hbk' : Later wb wk := hbk
  obtain ⟨hX0, hX1, hX2⟩ := hbxy.1.threeC
  obtain ⟨hY0, hY1, hY2⟩ := hbxy.2.threeC
  clear hbxy ta0 ta1 ta2 tb0 tb1 tb2
  have hsn0 : t.Network.Stops.length ≤ 8 := by rw [← Hl.out]; exact hn8
  go_wp2_with (go_at_call 71; refine (impl_walkTable (r := t.Network) ⟨H.out.l_Network_Stops, H.out.l_Network_Lines⟩ (hwb0.trans inferInstance) HL2.out inferInstance WF.out hsn0).mono ?_; rintro e w7 ⟨A7, n7, c7, rfl, h7, L7⟩; have X7 := Later.trans (w := wb) inferInstance L7; have K7 := Later.trans (w := wk) inferInstance L7; have H7 := Lib.hid h7; clear h7)
  apply ways2 (wb := w7) (fun W A n c B m d => Ints W A n c (timesOf t a) ∧ Ints W B m d (timesOf t b))
  · intro key
    refine wp_region_held_drew (S := (fun w' => Later wb w' ∧ Later wk w' ∧ Later w7 w')) (by kernel_rfl) (by exact ⟨inferInstance, inferInstance, inferInstance⟩) (fun hHeld => ?_)
    refine wpAnyH_take (i := 0) (v := ?_) (by simp only [List.getElem?_toArray, List.getElem?_cons_zero] <;> rfl) (by kernel_rfl) (by kernel_rfl) (by kernel_rfl) (by exact fun _ _ _ h => h) (Or.inl ⟨by kernel_rfl, ?_⟩) (by assumption) ?_
    rotate_left
    · intro w' hSw; (try dsimp only at hSw); go_simp; try with_reducible rfl
    try simp only [Act.put, List.setIfInBounds_toArray, List.set_cons_zero, List.set_cons_succ]
    refine wpAnyH_take (i := 1) (v := ?_) (by simp only [List.getElem?_toArray, List.getElem?_cons_succ, List.getElem?_cons_zero] <;> rfl) (by kernel_rfl) (by kernel_rfl) (by kernel_rfl) (by exact fun _ _ _ h => h) (Or.inl ⟨by kernel_rfl, ?_⟩) (by assumption) ?_
    rotate_left
    · intro w' hSw; (try dsimp only at hSw); go_simp; try with_reducible rfl
    try simp only [Act.put, List.setIfInBounds_toArray, List.set_cons_zero, List.set_cons_succ]
    refine wpAnyH_take (i := 3) (v := ?_) (by simp only [List.getElem?_toArray, List.getElem?_cons_succ, List.getElem?_cons_zero] <;> rfl) (by kernel_rfl) (by kernel_rfl) (by kernel_rfl) (by exact fun _ _ _ h => h) (Or.inl ⟨by kernel_rfl, ?_⟩) (by assumption) ?_
    rotate_left
    · intro w' hSw; (try dsimp only at hSw); go_simp; try with_reducible rfl
    try simp only [Act.put, List.setIfInBounds_toArray, List.set_cons_zero, List.set_cons_succ]
    refine wpAnyH_take (i := 4) (v := ?_) (by simp only [List.getElem?_toArray, List.getElem?_cons_succ, List.getElem?_cons_zero] <;> rfl) (by kernel_rfl) (by kernel_rfl) (by kernel_rfl) (by exact fun _ _ _ h => h) (Or.inl ⟨by kernel_rfl, ?_⟩) (by assumption) ?_
    rotate_left
    · intro w' hSw; (try dsimp only at hSw); go_simp; try with_reducible rfl
    try simp only [Act.put, List.setIfInBounds_toArray, List.set_cons_zero, List.set_cons_succ]
    refine wpAnyH_ready (rs := [2]) (by kernel_rfl) (by simp) (AllReadyH.cons rfl (fun K hK => ?_) AllReadyH.nil)
    go_simp
    (go_at_call 72; (refine (impl_stopTimes H.out (hwb0.trans inferInstance) TF.out.net a TIA.out).mono ?_; rintro e w8 ⟨A8, n8, c8, f8, rfl, o8, nd8, lo8, L8⟩; have X8 := Later.trans (w := wb) inferInstance L8; have K8 := Later.trans (w := wk) inferInstance L8; have Y8 := Later.trans (w := w7) inferInstance L8; have H8 : Hid (Ints w8 A8 n8 c8 (timesOf t a)) := Lib.hid o8.reads; clear o8 nd8 lo8))
    refine hK.out _ _ (by exact ⟨inferInstance, inferInstance, inferInstance⟩) (fun hHeld => ?_)
    try simp only [Act.put, List.setIfInBounds_toArray, List.set_cons_zero, List.set_cons_succ]
    refine wpAnyH_ready (rs := [5]) (by kernel_rfl) (by simp) (AllReadyH.cons rfl (fun K hK => ?_) AllReadyH.nil)
    go_simp
    (go_at_call 72; (refine (impl_stopTimes H.out (hwb0.trans inferInstance) TF.out.net b TIB.out).mono ?_; rintro e w9 ⟨A9, n9, c9, f9, rfl, o9, nd9, lo9, L9⟩; have X9 := Later.trans (w := wb) inferInstance L9; have K9 := Later.trans (w := wk) inferInstance L9; have Y9 := Later.trans (w := w7) inferInstance L9; have H9 : Hid (Ints w9 A9 n9 c9 (timesOf t b)) := Lib.hid o9.reads; clear o9 nd9 lo9))
    refine hK.out _ _ (by exact ⟨inferInstance, inferInstance, inferInstance⟩) (fun hHeld => ?_)
    try simp only [Act.put, List.setIfInBounds_toArray, List.set_cons_zero, List.set_cons_succ]
    refine wpAnyH_take (i := 6) (v := ?_) (by simp only [List.getElem?_toArray, List.getElem?_cons_succ, List.getElem?_cons_zero] <;> rfl) (by kernel_rfl) (by kernel_rfl) (by kernel_rfl) (by exact fun _ _ _ h => h) (Or.inl ⟨by kernel_rfl, ?_⟩) (by assumption) ?_
    rotate_left
    · intro w' hSw; (try dsimp only at hSw); go_simp; try with_reducible rfl
    try simp only [Act.put, List.setIfInBounds_toArray, List.set_cons_zero, List.set_cons_succ]
    refine wpAnyH_take (i := 7) (v := ?_) (by simp only [List.getElem?_toArray, List.getElem?_cons_succ, List.getElem?_cons_zero] <;> rfl) (by kernel_rfl) (by kernel_rfl) (by kernel_rfl) (by exact fun _ _ _ h => h) (Or.inl ⟨by kernel_rfl, ?_⟩) (by assumption) ?_
    rotate_left
    · intro w' hSw; (try dsimp only at hSw); go_simp; try with_reducible rfl
    try simp only [Act.put, List.setIfInBounds_toArray, List.set_cons_zero, List.set_cons_succ]
    refine wpAnyH_done (by kernel_rfl) ?_ _
    exact key w9 A8 n8 c8 A9 n9 c9 inferInstance ⟨H8.out.later inferInstance, H9.out⟩
  intro w8 A8 n8 c8 A9 n9 c9 h78 hti
  haveI h78' : Later w7 w8 := h78
  haveI X8 : Later wb w8 := Later.trans X7 h78
  haveI K8 : Later wk w8 := Later.trans K7 h78
  have H8 := Lib.hid hti.1
  have H9 := Lib.hid hti.2
  clear hti
  have hna : n8 = (lineAtT t a.Line).Stops.length := by rw [H8.out.len, timesOf_len]; exact lfa.out.runs
  have hnb : n9 = (lineAtT t b.Line).Stops.length := by rw [H9.out.len, timesOf_len]; exact lfb.out.runs
  have hna6 : 2 ≤ n8 ∧ n8 ≤ 6 := by have := lfa.out.stops; omega
  have hnb6 : 2 ≤ n9 ∧ n9 ≤ 6 := by have := lfb.out.stops; omega
  have hna2 := hna6.2
  have hnb2 := hnb6.2
  have HNA := Lib.hid hna
  have HNB := Lib.hid hnb
  obtain ⟨nq, hnq⟩ : ∃ nq, n9 = nq + 1 := ⟨n9 - 1, by omega⟩
  have hwnq : IntKind.i64.wrap ((n9 : Int) - 1) = (nq : Int) := by rw [IntKind.wrap_i64]; omega
  have HNQ := Lib.hid hnq
  have hfl := field_Line1
  clear hna hnb hnq
  go_wp2_with (go_at_call 73; refine (impl_lineOf H.out (hwb0.trans inferInstance) a TIA.out.line0 TIA.out.line1).mono ?_; rintro e w10 ⟨B0, m0, d0, B1, m1, d1, rfl, hy, L10⟩; have X10 := Later.trans (w := wb) inferInstance L10; have K10 := Later.trans (w := wk) inferInstance L10; have Y10 := Later.trans (w := w7) inferInstance L10; have Z10 := Later.trans (w := w8) inferInstance L10; have HSA : Hid (Ints wb B0 m0 d0 (lineAtT t a.Line).Stops) := Lib.hid (hy.l_Stops.later hwb0); clear hy)
  have hm0 : m0 = n8 := by rw [HNA.out]; exact HSA.out.len
  have HM0 := Lib.hid hm0
  have hm06 : m0 ≤ 6 := by omega
  clear hm0
  go_loopw [18, 19, 77] (fun bv sv kv wr => ∃ (p : Nat) (st : Int × Int), p ≤ m0 ∧ kv = .int .i64 p ∧ bv = .int .i64 st.1 ∧ sv = .int .i64 st.2 ∧ Hid (chgO t l a b p = st) ∧ Later wb wr ∧ Later wk wr ∧ Later w7 wr ∧ Later w8 wr) (fun _ _ kv _ => m0 - (intOf kv).toNat)
  case atStart => exact ⟨0, (-1, 0), by omega, rfl, rfl, rfl, rfl, inferInstance, inferInstance, inferInstance, inferInstance⟩
  case round =>
    obtain ⟨p, st0, hp, rfl, rfl, rfl, HO, hX, hK, hY, hZ⟩ := hrel
    by_cases hpn : p < m0
    · obtain ⟨ba, oa, y, hA, hy, hcy, _⟩ := Ints.at_ HSA.out hpn
      obtain ⟨s, hs1, hs2, hs3, hta0, hta1⟩ := stop_time TF.out HXA.out (p := p) (by rw [← HNA.out, ← HM0.out]; exact hpn)
      have hys : y = (s : Int) := Option.some.inj (hy.out.symm.trans hs1)
      subst hys
      have hssn : s < sn0 := by have := Hl.out; omega
      have HS3 := Lib.hid hs3
      have hpi : (p : Int) < m0 := by omega
      obtain ⟨ta, hta⟩ : ∃ v, timeAt t a p = v := ⟨_, rfl⟩
      rw [hta] at hta0 hta1
      have HTA2 := Lib.hid hta
      have hpr : p ≤ (lineAtT t a.Line).Runs.length := by have := lfa.out.runs; have := HNA.out; have := HM0.out; omega
      have HTP : Hid ((timesOf t a)[p]? = some ta) := by show _ = _; rw [timesOf_at hpr, hta]
      subst hA
      clear hy hs1 hs2 hs3 hta hpr
      by_cases hp0 : p = 0
      · have e1 := (beqi_t (show (p : Int) = 0 by omega)).1
        have e1' := (beqi_t (show (p : Int) = 0 by omega)).2
        have HO2 : Hid (chgO t l a b (p + 1) = st0) := by show _ = _; rw [← HO.out, hp0]; rfl
        clear hp0 HO
        go_wp2
        go_roundw
        case rel => exact ⟨p + 1, st0, by omega, by go_num, rfl, rfl, HO2, inferInstance, inferInstance, inferInstance, inferInstance⟩
        case measure => simp [intOf]; omega
      have e1 := (beqi_f (show ¬ (p : Int) = 0 by omega)).1
      have e1' := (beqi_f (show ¬ (p : Int) = 0 by omega)).2
      have HP0 := Lib.hid hp0
      clear hp0
      have HCP := H8.out
      obtain ⟨bp, op, y, hA, hy, hcp, _⟩ := Ints.at_ HCP (k := p) (by have := HM0.out; omega)
      have hyta : y = ta := Option.some.inj (hy.out.symm.trans HTP.out)
      rw [hyta] at hcp
      have hpi8 : (p : Int) < n8 := by have := HM0.out; omega
      have hpn8 : p < n8 := by omega
      subst hA
      clear hy HCP
      go_wp2_with (go_at_call 73; refine (impl_lineOf H.out (hwb0.trans inferInstance) b TIB.out.line0 TIB.out.line1).mono ?_; rintro e w11 ⟨C0, k0, e0, C1, k1, e1', rfl, hy, L11⟩; have X11 := Later.trans (w := wb) inferInstance L11; have K11 := Later.trans (w := wk) inferInstance L11; have Y11 := Later.trans (w := w7) inferInstance L11; have Z11 := Later.trans (w := w8) inferInstance L11; have HSB : Hid (Ints wb C0 k0 e0 (lineAtT t b.Line).Stops) := Lib.hid (hy.l_Stops.later hwb0); have hk0 : k0 = n9 := (by rw [HNB.out]; exact HSB.out.len); have hke : k0 ≤ e0 := HSB.out.cap; have hqe : nq ≤ e0 := (by have := HNQ.out; omega); have hqe' : (nq : Int) ≤ e0 := (by omega); obtain ⟨bs, os, _, hCs, _⟩ := Ints.at_ HSB.out (k := 0) (by omega); subst hCs; have hnq0 : (0 : Int) ≤ nq := (by omega); clear hy)
      go_loopw [18, 19, 93] (fun bv sv mv wr => ∃ (q : Nat) (st : Int × Int), q ≤ nq ∧ mv = .int .i64 q ∧ bv = .int .i64 st.1 ∧ sv = .int .i64 st.2 ∧ Hid (chgI t l a b p st0 q = st) ∧ Later wb wr ∧ Later wk wr ∧ Later w7 wr ∧ Later w8 wr) (fun _ _ mv _ => nq - (intOf mv).toNat)
      case atStart => exact ⟨0, st0, by omega, rfl, rfl, rfl, rfl, inferInstance, inferInstance, inferInstance, inferInstance⟩
      case round =>
        obtain ⟨q, ⟨sb, sc⟩, hq, rfl, rfl, rfl, HI, hX, hK, hY, hZ⟩ := hrel
        simp only
        by_cases hqn : q < nq
        · obtain ⟨bb, ob, y, hA, hy, hcr, _⟩ := Ints.at_ HSB.out (k := q) (by have := HNQ.out; omega)
          cases hA
          obtain ⟨r, hr1, hr2, hr3, htb0, htb1⟩ := stop_time TF.out HXB.out (p := q) (by rw [← HNB.out]; have := HNQ.out; omega)
          have hyr : y = (r : Int) := Option.some.inj (hy.out.symm.trans hr1)
          subst hyr
          have hrsn : r < sn0 := by have := Hl.out; omega
          have hqi : (q : Int) < nq := by omega
          have hqi9 : (q : Int) < n9 := by have := HNQ.out; omega
          have hqn9 : q < n9 := by omega
          obtain ⟨tb, htb⟩ : ∃ v, timeAt t b q = v := ⟨_, rfl⟩
          rw [htb] at htb0 htb1
          have HTQ : Hid ((timesOf t b)[q]? = some tb) := by show _ = _; rw [timesOf_at (by have := lfb.out.runs; have := HNB.out; omega), htb]
          obtain ⟨bq, oq, y, hA9, hy9, hcq, _⟩ := Ints.at_ H9.out hqn9
          have hytb : y = tb := Option.some.inj (hy9.out.symm.trans HTQ.out)
          rw [hytb] at hcq
          subst hA9
          have HTB2 := Lib.hid htb
          have ht := tab_T (k := t.Network.Stops.length) (l := l) WF.out hsn0
          have hn7 : n7 = t.Network.Stops.length := by rw [H7.out.len]; exact ht.sh.len
          obtain ⟨b7, o7, A1, m1', c1', row, hA7, hrow, hc7, hI7⟩ := Sl.row_ H7.out (k := s) (by have := Hl.out; omega)
          have hgr : (fwT t.Network.Stops.length l).getD s [] = row := by rw [List.getD_eq_getElem?_getD, hrow.out]; rfl
          have hrl : row.length = t.Network.Stops.length := by rw [← hgr]; exact ht.sh.row s (by have := Hl.out; omega)
          obtain ⟨b8, o8, v, hA8, hv8, hcv, _⟩ := Ints.at_ hI7 (k := r) (by rw [hI7.len, hrl]; exact hr2)
          subst hA7
          subst hA8
          have HV3 : Hid (tg (fwT t.Network.Stops.length l) ((s : Nat) : Int).toNat ((lineAtT t b.Line).Stops.getD q 0).toNat = v) := by
            show _ = _
            rw [hr3, Int.toNat_natCast, Int.toNat_natCast]
            unfold tg
            rw [hgr, List.getD_eq_getElem?_getD, hv8.out]; rfl
          have hs7 : s < n7 := by have := Hl.out; omega
          have hs7i : (s : Int) < n7 := by omega
          have hrm : r < m1' := by rw [hI7.len, hrl]; exact hr2
          have hrmi : (r : Int) < m1' := by omega
          have HD : Hid (timeAt t b q - timeAt t a p = tb - ta) := by show _ = _; rw [HTA2.out, HTB2.out]
          have hwd : IntKind.i64.wrap (tb - ta) = tb - ta := by rw [IntKind.wrap_i64]; omega
          obtain ⟨d, hd⟩ : ∃ d, tb - ta = d := ⟨_, rfl⟩
          have hwd2 : IntKind.i64.wrap (tb - ta) = d := by rw [hwd, hd]
          rw [hd] at HD
          clear hy hr1 hr2 hr3 htb hy9 hrow hI7 hgr hrl hv8 hn7 hwd hd ht hytb
          go_wp2_with fail
          refine wp_region_held_drew (S := (fun w' => Later wb w' ∧ Later wk w' ∧ Later w7 w' ∧ Later w8 w' ∧ Later wr w')) (by kernel_rfl) (by exact ⟨inferInstance, inferInstance, inferInstance, inferInstance, inferInstance⟩) (fun hHeld => ?_)
          refine wpAnyH_take (i := 0) (v := ?_) (by simp only [List.getElem?_toArray, List.getElem?_cons_zero] <;> rfl) (by kernel_rfl) (by kernel_rfl) (by kernel_rfl) (by exact fun _ _ _ h => h) (Or.inl ⟨by kernel_rfl, ?_⟩) (by assumption) ?_
          rotate_left
          · intro w' hSw; (try dsimp only at hSw); go_simp; try with_reducible rfl
          try simp only [Act.put, List.setIfInBounds_toArray, List.set_cons_zero, List.set_cons_succ]
          refine wpAnyH_take (i := 1) (v := ?_) (by simp only [List.getElem?_toArray, List.getElem?_cons_succ, List.getElem?_cons_zero] <;> rfl) (by kernel_rfl) (by kernel_rfl) (by kernel_rfl) (by exact fun _ _ _ h => h) (Or.inl ⟨by kernel_rfl, ?_⟩) (by assumption) ?_
          rotate_left
          · intro w' hSw; (try dsimp only at hSw); go_simp; try with_reducible rfl
          try simp only [Act.put, List.setIfInBounds_toArray, List.set_cons_zero, List.set_cons_succ]
          refine wpAnyH_take (i := 2) (v := ?_) (by simp only [List.getElem?_toArray, List.getElem?_cons_succ, List.getElem?_cons_zero] <;> rfl) (by kernel_rfl) (by kernel_rfl) (by kernel_rfl) (by exact fun _ _ _ h => h) (Or.inl ⟨by kernel_rfl, ?_⟩) (by assumption) ?_
          rotate_left
          · intro w' hSw; (try dsimp only at hSw); go_simp; try with_reducible rfl
          try simp only [Act.put, List.setIfInBounds_toArray, List.set_cons_zero, List.set_cons_succ]
          refine wpAnyH_take (i := 3) (v := ?_) (by simp only [List.getElem?_toArray, List.getElem?_cons_succ, List.getElem?_cons_zero] <;> rfl) (by kernel_rfl) (by kernel_rfl) (by kernel_rfl) (by exact fun _ _ _ h => h) (Or.inl ⟨by kernel_rfl, ?_⟩) (by assumption) ?_
          rotate_left
          · intro w' hSw; (try dsimp only at hSw); go_simp; try with_reducible rfl
          try simp only [Act.put, List.setIfInBounds_toArray, List.set_cons_zero, List.set_cons_succ]
          refine wpAnyH_take (i := 4) (v := ?_) (by simp only [List.getElem?_toArray, List.getElem?_cons_succ, List.getElem?_cons_zero] <;> rfl) (by kernel_rfl) (by kernel_rfl) (by kernel_rfl) (by exact fun _ _ _ h => h) (Or.inl ⟨by kernel_rfl, ?_⟩) (by assumption) ?_
          rotate_left
          · intro w' hSw; (try dsimp only at hSw); go_simp; try with_reducible rfl
          try simp only [Act.put, List.setIfInBounds_toArray, List.set_cons_zero, List.set_cons_succ]
          refine wpAnyH_take (i := 5) (v := ?_) (by simp only [List.getElem?_toArray, List.getElem?_cons_succ, List.getElem?_cons_zero] <;> rfl) (by kernel_rfl) (by kernel_rfl) (by kernel_rfl) (by exact fun _ _ _ h => h) (Or.inl ⟨by kernel_rfl, ?_⟩) (by assumption) ?_
          rotate_left
          · intro w' hSw; (try dsimp only at hSw); go_simp; try with_reducible rfl
          try simp only [Act.put, List.setIfInBounds_toArray, List.set_cons_zero, List.set_cons_succ]
          refine wpAnyH_take (i := 6) (v := ?_) (by simp only [List.getElem?_toArray, List.getElem?_cons_succ, List.getElem?_cons_zero] <;> rfl) (by kernel_rfl) (by kernel_rfl) (by kernel_rfl) (by exact fun _ _ _ h => h) (Or.inl ⟨by kernel_rfl, ?_⟩) (by assumption) ?_
          rotate_left
          · intro w' hSw; (try dsimp only at hSw); go_simp; try with_reducible rfl
          try simp only [Act.put, List.setIfInBounds_toArray, List.set_cons_zero, List.set_cons_succ]
          refine wpAnyH_take (i := 7) (v := ?_) (by simp only [List.getElem?_toArray, List.getElem?_cons_succ, List.getElem?_cons_zero] <;> rfl) (by kernel_rfl) (by kernel_rfl) (by kernel_rfl) (by exact fun _ _ _ h => h) (Or.inl ⟨by kernel_rfl, ?_⟩) (by assumption) ?_
          rotate_left
          · intro w' hSw; (try dsimp only at hSw); go_simp; try with_reducible rfl
          try simp only [Act.put, List.setIfInBounds_toArray, List.set_cons_zero, List.set_cons_succ]
          refine wpAnyH_take (i := 8) (v := ?_) (by simp only [List.getElem?_toArray, List.getElem?_cons_succ, List.getElem?_cons_zero] <;> rfl) (by kernel_rfl) (by kernel_rfl) (by kernel_rfl) (by exact fun _ _ _ h => h) (Or.inl ⟨by kernel_rfl, ?_⟩) (by assumption) ?_
          rotate_left
          · intro w' hSw; (try dsimp only at hSw); go_simp; try with_reducible rfl
          try simp only [Act.put, List.setIfInBounds_toArray, List.set_cons_zero, List.set_cons_succ]
          refine wpAnyH_take (i := 9) (v := ?_) (by simp only [List.getElem?_toArray, List.getElem?_cons_succ, List.getElem?_cons_zero] <;> rfl) (by kernel_rfl) (by kernel_rfl) (by kernel_rfl) (by exact fun _ _ _ h => h) (Or.inl ⟨by kernel_rfl, ?_⟩) (by assumption) ?_
          rotate_left
          · intro w' hSw; (try dsimp only at hSw); go_simp; try with_reducible rfl
          try simp only [Act.put, List.setIfInBounds_toArray, List.set_cons_zero, List.set_cons_succ]
          refine wpAnyH_done (by kernel_rfl) ?_ _
          clear hwd2
          by_cases c1 : 0 ≤ v
          rotate_left
          · have HST : Hid (chgI t l a b p st0 (q + 1) = (sb, sc)) := by show _ = _; rw [chgI_step, HI.out]; exact chgG_no HS3.out HD.out HV3.out (fun e => c1 e.1)
            clear HI
            go_wp2
            go_roundw
            case rel => exact ⟨q + 1, (sb, sc), by omega, by go_num, rfl, rfl, HST, inferInstance, inferInstance, inferInstance, inferInstance⟩
            case measure => simp [intOf]; omega
          by_cases c2 : v ≤ d
          rotate_left
          · have HST : Hid (chgI t l a b p st0 (q + 1) = (sb, sc)) := by show _ = _; rw [chgI_step, HI.out]; exact chgG_no HS3.out HD.out HV3.out (fun e => c2 e.2.1)
            clear HI
            go_wp2
            go_roundw
            case rel => exact ⟨q + 1, (sb, sc), by omega, by go_num, rfl, rfl, HST, inferInstance, inferInstance, inferInstance, inferInstance⟩
            case measure => simp [intOf]; omega
          by_cases c3 : sb < 0
          · have HST : Hid (chgI t l a b p st0 (q + 1) = (d, (s : Int))) := by show _ = _; rw [chgI_step, HI.out]; exact chgG_yes HS3.out HD.out HV3.out ⟨c1, c2, .inl c3⟩
            clear HI
            go_wp2
            go_roundw
            case rel => exact ⟨q + 1, (d, (s : Int)), by omega, by go_num, rfl, rfl, HST, inferInstance, inferInstance, inferInstance, inferInstance⟩
            case measure => simp [intOf]; omega
          by_cases c4 : d < sb
          · have HST : Hid (chgI t l a b p st0 (q + 1) = (d, (s : Int))) := by show _ = _; rw [chgI_step, HI.out]; exact chgG_yes HS3.out HD.out HV3.out ⟨c1, c2, .inr c4⟩
            clear HI
            go_wp2
            go_roundw
            case rel => exact ⟨q + 1, (d, (s : Int)), by omega, by go_num, rfl, rfl, HST, inferInstance, inferInstance, inferInstance, inferInstance⟩
            case measure => simp [intOf]; omega
          · have HST : Hid (chgI t l a b p st0 (q + 1) = (sb, sc)) := by show _ = _; rw [chgI_step, HI.out]; exact chgG_no HS3.out HD.out HV3.out (fun e => e.2.2.elim c3 c4)
            clear HI
            go_wp2
            go_roundw
            case rel => exact ⟨q + 1, (sb, sc), by omega, by go_num, rfl, rfl, HST, inferInstance, inferInstance, inferInstance, inferInstance⟩
            case measure => simp [intOf]; omega
        · have hqi : ¬ (q : Int) < nq := by omega
          have HO2 : Hid (chgO t l a b (p + 1) = (sb, sc)) := by
            show _ = _
            rw [chgO_step HP0.out, HO.out, ← HNB.out, show n9 - 1 = q by have := HNQ.out; omega]; exact HI.out
          clear HI HO
          go_wp2
          go_roundw
          case rel => exact ⟨p + 1, (sb, sc), by omega, by go_num, rfl, rfl, HO2, inferInstance, inferInstance, inferInstance, inferInstance⟩
          case measure => simp [intOf]; omega
    · obtain rfl : m0 = p := by omega
      have hpi : ¬ (m0 : Int) < m0 := by omega
      obtain ⟨sb, sc⟩ := st0
      simp only
      by_cases c3 : sb < 0
      · have HOUT : Hid (chgOut (chgO t l a b (lineAtT t a.Line).Stops.length) = (0, 0, false)) := by show _ = _; rw [← HNA.out, ← HM0.out, HO.out]; exact if_pos c3
        go_wp2
        go_ret3
        exact ⟨by rw [HOUT.out]; rfl, hww.trans inferInstance⟩
      · have HOUT : Hid (chgOut (chgO t l a b (lineAtT t a.Line).Stops.length) = (sb, sc, true)) := by show _ = _; rw [← HNA.out, ← HM0.out, HO.out]; exact if_neg c3
        go_wp2
        go_ret3
        exact ⟨by rw [HOUT.out]; rfl, hww.trans inferInstance⟩
end Go.Proofs.Yteijofkkggifhaa
