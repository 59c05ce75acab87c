/-
  Journeys: SlackOf on both sides.
-/
import Derived.Test.YteeeihnkofoagaaIsJ
import Derived.Test.YteeeihnkofoagaaAppN
namespace Go.Proofs.Yteeeihnkofoagaa
open Go Go.RowKit
set_option linter.unusedVariables false
set_option maxRecDepth 100000
set_option linter.unusedSimpArgs false
theorem slackGo_at {change : Int} {ls : List Leg} {j : Nat} {x y : Leg} (hx : ls[j]? = some x) (hy : ls[j + 1]? = some y) : slackGo change (ls.drop j) = (y.Depart - change - x.Arrive) :: slackGo change (ls.drop (j + 1)) := by
  rw [drop_at hx, drop_at hy]; rfl
theorem slackGo_last {change : Int} {ls : List Leg} {j : Nat} (h : ls.length ≤ j + 1) : slackGo change (ls.drop j) = [] := by
  have : (ls.drop j).length ≤ 1 := by simp; omega
  match h2 : ls.drop j with
  | [] => rfl
  | [a] => rfl
  | a :: b :: l => rw [h2] at this; simp at this
theorem slackGo_len (change : Int) : ∀ ls : List Leg, (slackGo change ls).length ≤ ls.length
  | [] => by simp [slackGo]
  | [a] => by simp [slackGo]
  | a :: b :: l => by have := slackGo_len change (b :: l); simp only [slackGo, List.length_cons] at *; omega
theorem slackRes_len (t : Timetable) (change : Int) (ls : List Leg) : (slackRes t change ls).1.length ≤ 4 := by
  unfold slackRes
  split
  · rename_i h; have := (jourFacts h).len; have := slackGo_len change ls; simp; omega
  · simp
set_option maxHeartbeats 2000000 in
theorem impl_SlackOf {w0 w : World} {sA0 : Option Addr} {sn0 sc0 : Nat} {sA1 : Option Addr} {sn1 sc1 : Nat} {sA2 : Option Addr} {sn2 sc2 : Nat} {t : Timetable} (h : TimetableAt w0 sA0 sn0 sc0 sA1 sn1 sc1 sA2 sn2 sc2 t) (hl : Later w0 w) (change : Int) {w3 : World} {lA : Option Addr} {ln lc : Nat} {ls : List Leg} (h3 : Legs w3 lA ln lc ls) (hl3 : Later w3 w) : Calls Try.prog 32 #[.agg #[.slice sA0 sn0 sc0, .slice sA1 sn1 sc1, .slice sA2 sn2 sc2], .int .i64 change, .slice lA ln lc] w (RetO2 1 oInt (slackRes t change ls).1 (slackRes t change ls).2 w) := by
  have hLw := h3.later hl3
  have HB0 : ∀ W [Later (w.alloc (.cells #[.slice sA0 sn0 sc0, .slice sA1 sn1 sc1, .slice sA2 sn2 sc2] 50)) W] (j : Nat), W.cell? ⟨w.heap.size, j, none⟩ = #[.slice sA0 sn0 sc0, .slice sA1 sn1 sc1, .slice sA2 sn2 sc2][j]? := Later.boxes (t := 50) (fr := (0, 0)) (heap_new (by simp; try omega)); obtain ⟨wb, hwb⟩ : ∃ wb : World, wb = (w.alloc (.cells #[.slice sA0 sn0 sc0, .slice sA1 sn1 sc1, .slice sA2 sn2 sc2] 50)) := ⟨_, rfl⟩; haveI hbW : Later wb (w.alloc (.cells #[.slice sA0 sn0 sc0, .slice sA1 sn1 sc1, .slice sA2 sn2 sc2] 50)) := (by rw [hwb]; exact Later.rfl_); haveI hww : Later w wb := (by rw [hwb]; infer_instance); rw [← hwb] at HB0; have hbE := Lib.hid (congrArg (fun x : World => x.heap.size) hwb); clear hwb
  have hwb0 := hl.trans hww
  have H := Lib.hid h
  clear h
  have hwb3 := hl3.trans hww
  have H3 := Lib.hid h3
  replace hLw := hLw.later hww
  have hln := hLw.le
  have Hln := Lib.hid hLw.len
  clear h3
  by_cases c0 : okJourney t change ls = true
  rotate_left
  · have c1 : okJourney t change ls = false := by simpa using c0
    clear c0
    have HRES := Lib.hid (show slackRes t change ls = ([], false) from by simp [slackRes, c1])
    rw [HRES.out]
    go_enter Try.func32, Try.ntmps32
    go_wp2_with (go_at_call 81; refine (impl_IsValidJourney H.out (hwb0.trans inferInstance) change H3.out (hwb3.trans inferInstance)).mono ?_; rintro e w1 ⟨rfl, L1⟩; have X1 := Later.trans (w := wb) inferInstance L1)
    go_ret2; exact ⟨none, 0, 0, [], rfl, OSl.nil_ _, by simp, by simp, hww.trans inferInstance⟩
  have JF := Lib.hid (jourFacts c0)
  have hl4 : ln ≤ 4 := by have := JF.out.len; have := Hln.out; omega
  have hl1 : 0 < ln := by have := JF.out.len; have := Hln.out; omega
  have hch0 := JF.out.ch.1
  have hch1 := JF.out.ch.2
  have hbs : wb.heap.size ≤ w.heap.size + 1 := by have := hbE.out; simp at this; omega
  have hbs2 : w.heap.size + 1 ≤ wb.heap.size := by have := hbE.out; simp at this; omega
  rw [show slackRes t change ls = (slackGo change ls, true) from if_pos c0]
  go_enter Try.func32, Try.ntmps32
  go_wp2_with (go_at_call 81; refine (impl_IsValidJourney H.out (hwb0.trans inferInstance) change H3.out (hwb3.trans inferInstance)).mono ?_; rintro e w1 ⟨rfl, L1⟩; have X1 := Later.trans (w := wb) inferInstance L1)
  clear c0
  go_loopw [8, 9] (fun ov i wr => ∃ (k j : Nat) (acc : List Int), k = j + 1 ∧ j < ln ∧ i = .int .i64 k ∧ acc.length ≤ j ∧ Hid (∀ v, v ∈ acc → -5000 ≤ v ∧ v ≤ 5000) ∧ Hid (acc ++ slackGo change (ls.drop j) = slackGo change ls) ∧ Hid (wr.ownsRow (w.heap.size + 1) 3 1 ov acc.length (acc.map (Value.int .i64))) ∧ Later wb wr) (fun _ i _ => ln - (intOf i).toNat)
  case atStart => exact ⟨1, 0, [], rfl, hl1, rfl, by simp, fun v hv => by simp at hv, by show _ = _; simp, Lib.hid ⟨rfl, .inl ⟨rfl, rfl⟩⟩, inferInstance⟩
  case round =>
    obtain ⟨k, j, acc, hkj, hj, rfl, hal, HBD, HF, hown, hX⟩ := hrel
    have HKJ := Lib.hid hkj
    have HLW := Lib.hid hLw
    have hk4 : k ≤ 4 := by omega
    by_cases hlt : k < ln
    · obtain ⟨b, o, x, rfl, hx, hc0, hc1, hc2, hc3, hc4, _⟩ := Legs.at_ hLw hj
      obtain ⟨b8, o8, y, hA8, hy, hd0, hd1, hd2, hd3, hd4, _⟩ := Legs.at_ HLW.out hlt
      cases hA8
      have hxa := (JF.out.leg j x hx.out).arrive
      have hyd := (JF.out.leg k y hy.out).depart
      have hwk : IntKind.i64.wrap ((k : Int) - 1) = (j : Int) := by rw [IntKind.wrap_i64]; omega
      have hw1 : IntKind.i64.wrap (y.Depart - change) = y.Depart - change := by rw [IntKind.wrap_i64]; omega
      have hw2 : IntKind.i64.wrap (y.Depart - change - x.Arrive) = y.Depart - change - x.Arrive := by rw [IntKind.wrap_i64]; omega
      have hw3 : IntKind.i64.wrap (y.Depart - x.Arrive) = y.Depart - x.Arrive := by rw [IntKind.wrap_i64]; omega
      have hw4 : IntKind.i64.wrap (y.Depart - x.Arrive - change) = y.Depart - change - x.Arrive := by rw [IntKind.wrap_i64]; omega
      have HF2 : Hid (acc ++ [y.Depart - change - x.Arrive] ++ slackGo change (ls.drop k) = slackGo change ls) := by
        show _ = _
        have h1 := HF.out
        have h2 := HKJ.out
        subst h2
        rw [slackGo_at hx.out hy.out] at h1
        rw [← h1]; simp
      have HBD2 : Hid (∀ v, v ∈ acc ++ [y.Depart - change - x.Arrive] → -5000 ≤ v ∧ v ≤ 5000) := fun v hv => by
        rcases List.mem_append.1 hv with h | h
        · exact HBD.out v h
        · simp at h; omega
      have hjt' : (j : Int) < ln := by omega
      have hkt' : (k : Int) < ln := by omega
      clear HF hx hy hxa hyd hkj HBD
      go_wp2_with fail
      go_region_held3 (fun w' => Later wb w') (exact inferInstance) (first
        | (rw [if_pos (by rfl)]; change Oper.wp _ _ _ (World.alloc wr.drew _) _ _; refine wp_app_B _ _ 57 rfl Try.underlying57 infoInt rfl (by decide) (by decide) rfl (by exact ownsRow_later hown.out (inferInstance : Later wr _)) (inferInstance : Later wb _) hbs (Nat.le_trans hbs2 (Later.size (w := wb) inferInstance)) rfl rfl (one_cell _ _) (by omega) ?_; intro v' w9 hown' hX9))
      clear hwk
      go_wp2
      go_roundw
      case rel => exact ⟨k + 1, k, acc ++ [y.Depart - change - x.Arrive], rfl, hlt, by go_num, by have := HKJ.out; simp; omega, HBD2, HF2, by show World.ownsRow _ _ _ _ _ _ _; rw [List.map_append, List.length_append]; exact hown', inferInstance⟩
      case measure => simp [intOf]; omega
    · have HE : Hid (acc = slackGo change ls) := by
        have h3 := HF.out
        rw [slackGo_last (by have := Hln.out; omega)] at h3
        exact (by simpa using h3 : acc = _)
      clear HF
      go_wp2
      go_ret2
      obtain ⟨A, c, fp, rfl, ho, hnd, hlo⟩ := OSl.ints_of_own hown.out (fun y hy => by have := HBD.out y hy; unfold I64; omega)
      exact ⟨A, _, c, fp, rfl, by rw [← HE.out]; exact ho, hnd, fun g hg => by have := hlo g hg; omega, hww.trans inferInstance⟩
set_option maxHeartbeats 2000000 in
theorem spec_SlackOf {w0 w : World} {sA0 : Option Addr} {sn0 sc0 : Nat} {sA1 : Option Addr} {sn1 sc1 : Nat} {sA2 : Option Addr} {sn2 sc2 : Nat} {t : Timetable} (h : TimetableAt w0 sA0 sn0 sc0 sA1 sn1 sc1 sA2 sn2 sc2 t) (hl : Later w0 w) (change : Int) {w3 : World} {lA : Option Addr} {ln lc : Nat} {ls : List Leg} (h3 : Legs w3 lA ln lc ls) (hl3 : Later w3 w) : Calls Try.prog 31 #[.agg #[.slice sA0 sn0 sc0, .slice sA1 sn1 sc1, .slice sA2 sn2 sc2], .int .i64 change, .slice lA ln lc] w (RetO2 1 oInt (slackRes t change ls).1 (slackRes t change ls).2 w) := by
  have hLw := h3.later hl3
  have HB0 : ∀ W [Later (w.alloc (.cells #[.slice sA0 sn0 sc0, .slice sA1 sn1 sc1, .slice sA2 sn2 sc2] 50)) W] (j : Nat), W.cell? ⟨w.heap.size, j, none⟩ = #[.slice sA0 sn0 sc0, .slice sA1 sn1 sc1, .slice sA2 sn2 sc2][j]? := Later.boxes (t := 50) (fr := (0, 0)) (heap_new (by simp; try omega)); obtain ⟨wb, hwb⟩ : ∃ wb : World, wb = (w.alloc (.cells #[.slice sA0 sn0 sc0, .slice sA1 sn1 sc1, .slice sA2 sn2 sc2] 50)) := ⟨_, rfl⟩; haveI hbW : Later wb (w.alloc (.cells #[.slice sA0 sn0 sc0, .slice sA1 sn1 sc1, .slice sA2 sn2 sc2] 50)) := (by rw [hwb]; exact Later.rfl_); haveI hww : Later w wb := (by rw [hwb]; infer_instance); rw [← hwb] at HB0; have hbE := Lib.hid (congrArg (fun x : World => x.heap.size) hwb); clear hwb
  have hwb0 := hl.trans hww
  have H := Lib.hid h
  clear h
  have hwb3 := hl3.trans hww
  have H3 := Lib.hid h3
  replace hLw := hLw.later hww
  have hln := hLw.le
  have Hln := Lib.hid hLw.len
  clear h3
  by_cases cr : okAsked t change = true
  rotate_left
  · have c1 : okAsked t change = false := by simpa using cr
    clear cr
    have HRES := Lib.hid (show slackRes t change ls = ([], false) from by simp [slackRes, okJourney, c1])
    rw [HRES.out]
    go_enter Try.func31, Try.ntmps31
    go_wp2_with (go_at_call 76; refine (spec_l8Asked H.out (hwb0.trans inferInstance) _).mono ?_; rintro e w1 ⟨rfl, L1⟩; have X1 := Later.trans (w := wb) inferInstance L1)
    go_ret2; exact ⟨_, 0, 0, [], rfl, OSl.nil_ _, by simp, by simp, hww.trans inferInstance⟩
  have AF : Hid (TimeFacts t ∧ 0 ≤ change ∧ change ≤ 30) := by
    have := cr
    simp only [okAsked, Bool.and_eq_true, inB_t] at this
    exact ⟨timeFacts this.1, this.2⟩
  by_cases cb : okLegs t change ls = true
  rotate_left
  · have c1 : okLegs t change ls = false := by simpa using cb
    clear cb
    have HRES := Lib.hid (show slackRes t change ls = ([], false) from by simp [slackRes, okJourney, c1])
    rw [HRES.out]
    go_enter Try.func31, Try.ntmps31
    go_wp2_with first
      | (go_at_call 76; refine (spec_l8Asked H.out (hwb0.trans inferInstance) _).mono ?_; rintro e w1 ⟨rfl, L1⟩; have X1 := Later.trans (w := wb) inferInstance L1)
      | (go_at_call 77; refine (spec_l8Journey H.out (hwb0.trans inferInstance) H3.out (hwb3.trans inferInstance) AF.out.1 change AF.out.2.1 AF.out.2.2).mono ?_; rintro e w2 ⟨rfl, L2⟩; have X2 := Later.trans (w := wb) inferInstance L2)
    go_ret2; exact ⟨_, 0, 0, [], rfl, OSl.nil_ _, by simp, by simp, hww.trans inferInstance⟩
  have c0 : okJourney t change ls = true := by unfold okJourney; rw [cr, cb]; rfl
  have JF := Lib.hid (jourFacts c0)
  have hl4 : ln ≤ 4 := by have := JF.out.len; have := Hln.out; omega
  have hl1 : 0 < ln := by have := JF.out.len; have := Hln.out; omega
  have hch0 := JF.out.ch.1
  have hch1 := JF.out.ch.2
  have hbs : wb.heap.size ≤ w.heap.size + 1 := by have := hbE.out; simp at this; omega
  have hbs2 : w.heap.size + 1 ≤ wb.heap.size := by have := hbE.out; simp at this; omega
  rw [show slackRes t change ls = (slackGo change ls, true) from if_pos c0]
  go_enter Try.func31, Try.ntmps31
  go_wp2_with first
    | (go_at_call 76; refine (spec_l8Asked H.out (hwb0.trans inferInstance) _).mono ?_; rintro e w1 ⟨rfl, L1⟩; have X1 := Later.trans (w := wb) inferInstance L1; have V1 : Later ((w.alloc (.cells #[.slice sA0 sn0 sc0, .slice sA1 sn1 sc1, .slice sA2 sn2 sc2] 50)).alloc (.cells #[] 3)) w1 := Later.trans inferInstance L1)
    | (go_at_call 77; refine (spec_l8Journey H.out (hwb0.trans inferInstance) H3.out (hwb3.trans inferInstance) AF.out.1 change AF.out.2.1 AF.out.2.2).mono ?_; rintro e w2 ⟨rfl, L2⟩; have X2 := Later.trans (w := wb) inferInstance L2)
  clear cr cb
  clear c0
  go_loopw [8, 9] (fun ov i wr => ∃ (k j : Nat) (acc : List Int), k = j + 1 ∧ j < ln ∧ i = .int .i64 k ∧ acc.length ≤ j ∧ Hid (∀ v, v ∈ acc → -5000 ≤ v ∧ v ≤ 5000) ∧ Hid (acc ++ slackGo change (ls.drop j) = slackGo change ls) ∧ Hid (wr.ownsRow (w.heap.size + 1) 3 1 ov acc.length (acc.map (Value.int .i64))) ∧ Later wb wr) (fun _ i _ => ln - (intOf i).toNat)
  case atStart => exact ⟨1, 0, [], rfl, hl1, rfl, by simp, fun v hv => by simp at hv, by show _ = _; simp, Lib.hid (ownsRow_later (by simpa using World.ownsRow_lit (base := w.heap.size + 1) (e := 3) (size := 1) (w.alloc (.cells #[.slice sA0 sn0 sc0, .slice sA1 sn1 sc1, .slice sA2 sn2 sc2] 50)) #[] 0 (by simp) (by simp [maxLen]) rfl) (Later.trans (w := (w.alloc (.cells #[.slice sA0 sn0 sc0, .slice sA1 sn1 sc1, .slice sA2 sn2 sc2] 50)).alloc (.cells #[] 3)) inferInstance (Later.trans V1 L2))), inferInstance⟩
  case round =>
    obtain ⟨k, j, acc, hkj, hj, rfl, hal, HBD, HF, hown, hX⟩ := hrel
    have HKJ := Lib.hid hkj
    have HLW := Lib.hid hLw
    have hk4 : k ≤ 4 := by omega
    by_cases hlt : k < ln
    · obtain ⟨b, o, x, rfl, hx, hc0, hc1, hc2, hc3, hc4, _⟩ := Legs.at_ hLw hj
      obtain ⟨b8, o8, y, hA8, hy, hd0, hd1, hd2, hd3, hd4, _⟩ := Legs.at_ HLW.out hlt
      cases hA8
      have hxa := (JF.out.leg j x hx.out).arrive
      have hyd := (JF.out.leg k y hy.out).depart
      have hwk : IntKind.i64.wrap ((k : Int) - 1) = (j : Int) := by rw [IntKind.wrap_i64]; omega
      have hw1 : IntKind.i64.wrap (y.Depart - change) = y.Depart - change := by rw [IntKind.wrap_i64]; omega
      have hw2 : IntKind.i64.wrap (y.Depart - change - x.Arrive) = y.Depart - change - x.Arrive := by rw [IntKind.wrap_i64]; omega
      have hw3 : IntKind.i64.wrap (y.Depart - x.Arrive) = y.Depart - x.Arrive := by rw [IntKind.wrap_i64]; omega
      have hw4 : IntKind.i64.wrap (y.Depart - x.Arrive - change) = y.Depart - change - x.Arrive := by rw [IntKind.wrap_i64]; omega
      have HF2 : Hid (acc ++ [y.Depart - change - x.Arrive] ++ slackGo change (ls.drop k) = slackGo change ls) := by
        show _ = _
        have h1 := HF.out
        have h2 := HKJ.out
        subst h2
        rw [slackGo_at hx.out hy.out] at h1
        rw [← h1]; simp
      have HBD2 : Hid (∀ v, v ∈ acc ++ [y.Depart - change - x.Arrive] → -5000 ≤ v ∧ v ≤ 5000) := fun v hv => by
        rcases List.mem_append.1 hv with h | h
        · exact HBD.out v h
        · simp at h; omega
      have hjt' : (j : Int) < ln := by omega
      have hkt' : (k : Int) < ln := by omega
      clear HF hx hy hxa hyd hkj HBD
      go_wp2_with fail
      go_region_held3 (fun w' => Later wb w') (exact inferInstance) (first
        | (rw [if_pos (by rfl)]; change Oper.wp _ _ _ (World.alloc wr.drew _) _ _; refine wp_app_B _ _ 57 rfl Try.underlying57 infoInt rfl (by decide) (by decide) rfl (by exact ownsRow_later hown.out (inferInstance : Later wr _)) (inferInstance : Later wb _) hbs (Nat.le_trans hbs2 (Later.size (w := wb) inferInstance)) rfl rfl (one_cell _ _) (by omega) ?_; intro v' w9 hown' hX9))
      clear hwk
      go_wp2
      go_roundw
      case rel => exact ⟨k + 1, k, acc ++ [y.Depart - change - x.Arrive], rfl, hlt, by go_num, by have := HKJ.out; simp; omega, HBD2, HF2, by show World.ownsRow _ _ _ _ _ _ _; rw [List.map_append, List.length_append]; exact hown', inferInstance⟩
      case measure => simp [intOf]; omega
    · have HE : Hid (acc = slackGo change ls) := by
        have h3 := HF.out
        rw [slackGo_last (by have := Hln.out; omega)] at h3
        exact (by simpa using h3 : acc = _)
      clear HF
      go_wp2
      go_ret2
      obtain ⟨A, c, fp, rfl, ho, hnd, hlo⟩ := OSl.ints_of_own hown.out (fun y hy => by have := HBD.out y hy; unfold I64; omega)
      exact ⟨A, _, c, fp, rfl, by rw [← HE.out]; exact ho, hnd, fun g hg => by have := hlo g hg; omega, hww.trans inferInstance⟩
end Go.Proofs.Yteeeihnkofoagaa
