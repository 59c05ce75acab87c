/-
  Journeys: when legs are one, in the reference.
-/
import Derived.Test.YteeeihnkofoagaaLegC
import Derived.Test.YteeeihnkofoagaaArrS
import Derived.Test.YteeeihnkofoagaaHeadB
namespace Go.Proofs.Yteeeihnkofoagaa
open Go Go.RowKit
set_option linter.unusedVariables false
set_option maxRecDepth 100000
set_option linter.unusedSimpArgs false
theorem legAt_preS {t : Timetable} {change : Int} {ls : List Leg} {k : Nat} {x : Leg} (h : fillOk t x = false) : legAt t change ls k x = false := by
  cases k with
  | zero => exact h
  | succ j => simp [legAt, h]
theorem okLegs_noS {t : Timetable} {change : Int} {ls : List Leg} (h : allFrom (legAt t change ls) ls 0 = false) : okLegs t change ls = false := by unfold okLegs; rw [h]; simp
theorem legAt_any {t : Timetable} {change : Int} {ls : List Leg} {k q : Nat} {x z : Leg} (hq : q < k) (hz : ls[q]? = some z) (h : z.Trip = x.Trip) : legAt t change ls k x = false := by
  cases k with
  | zero => omega
  | succ j =>
    have : (ls.take (j + 1)).any (tripIs x.Trip) = true := List.any_eq_true.2 ⟨z, List.mem_of_getElem? (i := q) (by rw [List.getElem?_take_of_lt hq]; exact hz), by simp [tripIs, h]⟩
    simp [legAt, this]
set_option maxHeartbeats 8000000 in
theorem spec_l8Journey {w0 w : World} {sA0 : Option Addr} {sn0 sc0 : Nat} {sA1 : Option Addr} {sn1 sc1 : Nat} {sA2 : Option Addr} {sn2 sc2 : Nat} {t : Timetable} (h : TimetableAt w0 sA0 sn0 sc0 sA1 sn1 sc1 sA2 sn2 sc2 t) (hl : Later w0 w) {w3 : World} {lA : Option Addr} {ln lc : Nat} {ls : List Leg} (h3 : Legs w3 lA ln lc ls) (hl3 : Later w3 w) (tf : TimeFacts t) (change : Int) (ch0 : 0 ≤ change) (ch1 : change ≤ 30) :
    Calls Try.prog 77 #[.agg #[.slice sA0 sn0 sc0, .slice sA1 sn1 sc1, .slice sA2 sn2 sc2], .int .i64 change, .slice lA ln lc] w (Ret (.bool (okLegs t change ls)) w) := by
  have hLg := h3.later hl3
  have hln := hLg.le
  have Hln := Lib.hid hLg.len
  have TF := Lib.hid tf
  clear tf
  have HB0 : ∀ W [Later (w.alloc (.cells #[.slice sA0 sn0 sc0, .slice sA1 sn1 sc1, .slice sA2 sn2 sc2] 50)) W] (j : Nat), W.cell? ⟨w.heap.size, j, none⟩ = #[.slice sA0 sn0 sc0, .slice sA1 sn1 sc1, .slice sA2 sn2 sc2][j]? := Later.boxes (t := 50) (fr := (0, 0)) (heap_new (by simp; try omega)); obtain ⟨wb, hwb⟩ : ∃ wb : World, wb = (w.alloc (.cells #[.slice sA0 sn0 sc0, .slice sA1 sn1 sc1, .slice sA2 sn2 sc2] 50)) := ⟨_, rfl⟩; haveI hbW : Later wb (w.alloc (.cells #[.slice sA0 sn0 sc0, .slice sA1 sn1 sc1, .slice sA2 sn2 sc2] 50)) := (by rw [hwb]; exact Later.rfl_); haveI hww : Later w wb := (by rw [hwb]; infer_instance); rw [← hwb] at HB0; have hbE := Lib.hid (congrArg (fun x : World => x.heap.size) hwb); clear hwb
  have hwb0 := hl.trans hww
  have H := Lib.hid h
  clear h
  replace hLg := hLg.later hww
  by_cases b1 : inB ln 1 4 = true
  rotate_left
  · have g1 : inB ln 1 4 = false := by simpa using b1
    have HN : Hid (okLegs t change ls = false) := by show _ = _; unfold okLegs; rw [← Hln.out, g1]; rfl
    clear b1
    go_enter Try.func77, Try.ntmps77
    go_wp2_with (go_at_call 62; refine (spec_l1In _ _ _ _).mono ?_; rintro e w' ⟨rfl, rfl⟩)
    go_ret
    exact ⟨ret_bool HN.out.symm, hww.trans inferInstance⟩
  have HYES : Hid (∀ v, allFrom (legAt t change ls) ls 0 = v → okLegs t change ls = v) := fun v hv => by unfold okLegs; rw [← Hln.out, b1, hv]; rfl
  have hl4 := inB_t.1 b1
  have hl5 : ln ≤ 4 := by omega
  clear hl4
  go_enter Try.func77, Try.ntmps77
  go_wp2_with (go_at_call 62; refine (spec_l1In _ _ _ _).mono ?_; rintro e w' ⟨rfl, rfl⟩)
  clear b1
  go_loopw [7] (fun i wr => ∃ k : Nat, k ≤ ln ∧ i = .int .i64 k ∧ Hid (allFrom (legAt t change ls) (ls.drop k) k = allFrom (legAt t change ls) ls 0) ∧ Hid (∀ (j : Nat) (y : Leg), j < k → ls[j]? = some y → fillOk t y = true) ∧ Later wb wr) (fun i _ => ln - (intOf i).toNat)
  case atStart => exact ⟨0, by omega, rfl, rfl, fun j y hj => by omega, inferInstance⟩
  case round =>
    obtain ⟨k, hk, rfl, HF, HO, hX⟩ := hrel
    by_cases hlt : k < ln
    · have HLG := Lib.hid hLg
      obtain ⟨b, o, x, rfl, hx, hc0, hc1, hc2, hc3, hc4, hi⟩ := Legs.at_ hLg hlt
      have HF1 : Hid (allFrom (legAt t change ls) ls 0 = (legAt t change ls k x && allFrom (legAt t change ls) (ls.drop (k + 1)) (k + 1))) := by rw [← HF.out, drop_at hx.out]; rfl
      have HX := Lib.hid hx.out
      clear HF hi hx
      obtain ⟨⟨y, ok⟩, hy⟩ : ∃ y, fillI t x.Trip x.From x.To = y := ⟨_, rfl⟩
      have HY := Lib.hid hy
      have HFO : Hid (fillOk t x = (ok && decide (y = x))) := by show _ = _; unfold fillOk; rw [hy]
      clear hy
      go_wp2_with fail
      refine wp_region_held_drew (S := (fun w' => Later wb w' ∧ Later wr w')) (by kernel_rfl) (by exact ⟨inferInstance, inferInstance⟩) (fun hHeld => ?_)
      refine wpAnyH_take (i := 0) (v := ?_) (by simp only [List.getElem?_toArray, List.getElem?_cons_zero] <;> rfl) (by kernel_rfl) (by kernel_rfl) (by kernel_rfl) (by exact fun _ _ _ h => h) (Or.inl ⟨by kernel_rfl, ?_⟩) (by assumption) ?_
      rotate_left
      · intro w' hSw; (try dsimp only at hSw); go_simp; try with_reducible rfl
      try simp only [Act.put, List.setIfInBounds_toArray, List.set_cons_zero, List.set_cons_succ]
      refine wpAnyH_take (i := 1) (v := ?_) (by simp only [List.getElem?_toArray, List.getElem?_cons_succ, List.getElem?_cons_zero] <;> rfl) (by kernel_rfl) (by kernel_rfl) (by kernel_rfl) (by exact fun _ _ _ h => h) (Or.inl ⟨by kernel_rfl, ?_⟩) (by assumption) ?_
      rotate_left
      · intro w' hSw; (try dsimp only at hSw); go_simp; try with_reducible rfl
      try simp only [Act.put, List.setIfInBounds_toArray, List.set_cons_zero, List.set_cons_succ]
      refine wpAnyH_take (i := 2) (v := ?_) (by simp only [List.getElem?_toArray, List.getElem?_cons_succ, List.getElem?_cons_zero] <;> rfl) (by kernel_rfl) (by kernel_rfl) (by kernel_rfl) (by exact fun _ _ _ h => h) (Or.inl ⟨by kernel_rfl, ?_⟩) (by assumption) ?_
      rotate_left
      · intro w' hSw; (try dsimp only at hSw); go_simp; try with_reducible rfl
      try simp only [Act.put, List.setIfInBounds_toArray, List.set_cons_zero, List.set_cons_succ]
      refine wpAnyH_take (i := 3) (v := ?_) (by simp only [List.getElem?_toArray, List.getElem?_cons_succ, List.getElem?_cons_zero] <;> rfl) (by kernel_rfl) (by kernel_rfl) (by kernel_rfl) (by exact fun _ _ _ h => h) (Or.inl ⟨by kernel_rfl, ?_⟩) (by assumption) ?_
      rotate_left
      · intro w' hSw; (try dsimp only at hSw); go_simp; try with_reducible rfl
      try simp only [Act.put, List.setIfInBounds_toArray, List.set_cons_zero, List.set_cons_succ]
      refine wpAnyH_take (i := 4) (v := ?_) (by simp only [List.getElem?_toArray, List.getElem?_cons_succ, List.getElem?_cons_zero] <;> rfl) (by kernel_rfl) (by kernel_rfl) (by kernel_rfl) (by exact fun _ _ _ h => h) (Or.inl ⟨by kernel_rfl, ?_⟩) (by assumption) ?_
      rotate_left
      · intro w' hSw; (try dsimp only at hSw); go_simp; try with_reducible rfl
      try simp only [Act.put, List.setIfInBounds_toArray, List.set_cons_zero, List.set_cons_succ]
      refine wpAnyH_take (i := 5) (v := ?_) (by simp only [List.getElem?_toArray, List.getElem?_cons_succ, List.getElem?_cons_zero] <;> rfl) (by kernel_rfl) (by kernel_rfl) (by kernel_rfl) (by exact fun _ _ _ h => h) (Or.inl ⟨by kernel_rfl, ?_⟩) (by assumption) ?_
      rotate_left
      · intro w' hSw; (try dsimp only at hSw); go_simp; try with_reducible rfl
      try simp only [Act.put, List.setIfInBounds_toArray, List.set_cons_zero, List.set_cons_succ]
      refine wpAnyH_take (i := 6) (v := ?_) (by simp only [List.getElem?_toArray, List.getElem?_cons_succ, List.getElem?_cons_zero] <;> rfl) (by kernel_rfl) (by kernel_rfl) (by kernel_rfl) (by exact fun _ _ _ h => h) (Or.inl ⟨by kernel_rfl, ?_⟩) (by assumption) ?_
      rotate_left
      · intro w' hSw; (try dsimp only at hSw); go_simp; try with_reducible rfl
      try simp only [Act.put, List.setIfInBounds_toArray, List.set_cons_zero, List.set_cons_succ]
      refine wpAnyH_take (i := 7) (v := ?_) (by simp only [List.getElem?_toArray, List.getElem?_cons_succ, List.getElem?_cons_zero] <;> rfl) (by kernel_rfl) (by kernel_rfl) (by kernel_rfl) (by exact fun _ _ _ h => h) (Or.inl ⟨by kernel_rfl, ?_⟩) (by assumption) ?_
      rotate_left
      · intro w' hSw; (try dsimp only at hSw); go_simp; try with_reducible rfl
      try simp only [Act.put, List.setIfInBounds_toArray, List.set_cons_zero, List.set_cons_succ]
      refine wpAnyH_take (i := 8) (v := ?_) (by simp only [List.getElem?_toArray, List.getElem?_cons_succ, List.getElem?_cons_zero] <;> rfl) (by kernel_rfl) (by kernel_rfl) (by kernel_rfl) (by exact fun _ _ _ h => h) (Or.inl ⟨by kernel_rfl, ?_⟩) (by assumption) ?_
      rotate_left
      · intro w' hSw; (try dsimp only at hSw); go_simp; try with_reducible rfl
      try simp only [Act.put, List.setIfInBounds_toArray, List.set_cons_zero, List.set_cons_succ]
      refine wpAnyH_take (i := 9) (v := ?_) (by simp only [List.getElem?_toArray, List.getElem?_cons_succ, List.getElem?_cons_zero] <;> rfl) (by kernel_rfl) (by kernel_rfl) (by kernel_rfl) (by exact fun _ _ _ h => h) (Or.inl ⟨by kernel_rfl, ?_⟩) (by assumption) ?_
      rotate_left
      · intro w' hSw; (try dsimp only at hSw); go_simp; try with_reducible rfl
      try simp only [Act.put, List.setIfInBounds_toArray, List.set_cons_zero, List.set_cons_succ]
      refine wpAnyH_take (i := 10) (v := ?_) (by simp only [List.getElem?_toArray, List.getElem?_cons_succ, List.getElem?_cons_zero] <;> rfl) (by kernel_rfl) (by kernel_rfl) (by kernel_rfl) (by exact fun _ _ _ h => h) (Or.inl ⟨by kernel_rfl, ?_⟩) (by assumption) ?_
      rotate_left
      · intro w' hSw; (try dsimp only at hSw); go_simp; try with_reducible rfl
      try simp only [Act.put, List.setIfInBounds_toArray, List.set_cons_zero, List.set_cons_succ]
      refine wpAnyH_take (i := 11) (v := ?_) (by simp only [List.getElem?_toArray, List.getElem?_cons_succ, List.getElem?_cons_zero] <;> rfl) (by kernel_rfl) (by kernel_rfl) (by kernel_rfl) (by exact fun _ _ _ h => h) (Or.inl ⟨by kernel_rfl, ?_⟩) (by assumption) ?_
      rotate_left
      · intro w' hSw; (try dsimp only at hSw); go_simp; try with_reducible rfl
      try simp only [Act.put, List.setIfInBounds_toArray, List.set_cons_zero, List.set_cons_succ]
      refine wpAnyH_take (i := 12) (v := ?_) (by simp only [List.getElem?_toArray, List.getElem?_cons_succ, List.getElem?_cons_zero] <;> rfl) (by kernel_rfl) (by kernel_rfl) (by kernel_rfl) (by exact fun _ _ _ h => h) (Or.inl ⟨by kernel_rfl, ?_⟩) (by assumption) ?_
      rotate_left
      · intro w' hSw; (try dsimp only at hSw); go_simp; try with_reducible rfl
      try simp only [Act.put, List.setIfInBounds_toArray, List.set_cons_zero, List.set_cons_succ]
      refine wpAnyH_take (i := 13) (v := ?_) (by simp only [List.getElem?_toArray, List.getElem?_cons_succ, List.getElem?_cons_zero] <;> rfl) (by kernel_rfl) (by kernel_rfl) (by kernel_rfl) (by exact fun _ _ _ h => h) (Or.inl ⟨by kernel_rfl, ?_⟩) (by assumption) ?_
      rotate_left
      · intro w' hSw; (try dsimp only at hSw); go_simp; try with_reducible rfl
      try simp only [Act.put, List.setIfInBounds_toArray, List.set_cons_zero, List.set_cons_succ]
      refine wpAnyH_take (i := 14) (v := ?_) (by simp only [List.getElem?_toArray, List.getElem?_cons_succ, List.getElem?_cons_zero] <;> rfl) (by kernel_rfl) (by kernel_rfl) (by kernel_rfl) (by exact fun _ _ _ h => h) (Or.inl ⟨by kernel_rfl, ?_⟩) (by assumption) ?_
      rotate_left
      · intro w' hSw; (try dsimp only at hSw); go_simp; try with_reducible rfl
      try simp only [Act.put, List.setIfInBounds_toArray, List.set_cons_zero, List.set_cons_succ]
      refine wpAnyH_take (i := 15) (v := ?_) (by simp only [List.getElem?_toArray, List.getElem?_cons_succ, List.getElem?_cons_zero] <;> rfl) (by kernel_rfl) (by kernel_rfl) (by kernel_rfl) (by exact fun _ _ _ h => h) (Or.inl ⟨by kernel_rfl, ?_⟩) (by assumption) ?_
      rotate_left
      · intro w' hSw; (try dsimp only at hSw); go_simp; try with_reducible rfl
      try simp only [Act.put, List.setIfInBounds_toArray, List.set_cons_zero, List.set_cons_succ]
      refine wpAnyH_ready (rs := [16, 20]) (by kernel_rfl) (by simp) (AllReadyH.cons rfl (fun K hK => ?r0_1_2_3_4_5_6_7_8_9_10_11_12_13_14_15_16) (AllReadyH.cons rfl (fun K hK => ?r0_1_2_3_4_5_6_7_8_9_10_11_12_13_14_15_20) AllReadyH.nil))
      case' r0_1_2_3_4_5_6_7_8_9_10_11_12_13_14_15_16 =>
        go_simp
        (go_at_call 123; refine (spec_l8Fill H.out (hwb0.trans inferInstance) TF.out x.Trip x.From x.To).mono ?_; rw [HY.out]; rintro e w2 ⟨rfl, L2⟩; have X2 := Later.trans (w := wb) inferInstance L2; have Z2 := Later.trans (w := wr) inferInstance L2; (try (have hBq : Blk w2 wr.heap.size 100 #[.int .i64 0, .int .i64 0, .int .i64 0, .int .i64 0, .int .i64 0] := Blk.later (w := (wr.alloc (.cells #[.int .i64 0, .int .i64 0, .int .i64 0, .int .i64 0, .int .i64 0] 100)).drew) (heap_new rfl) L2; have hcq := fun i => hBq.cell i; have hfq := fun i => hBq.frozen i)))
        refine hK.out _ _ (by exact ⟨inferInstance, inferInstance⟩) (fun hHeld => ?_)
        try simp only [Act.put, List.setIfInBounds_toArray, List.set_cons_zero, List.set_cons_succ]
        refine wpAnyH_take (i := 17) (v := ?_) (by simp only [List.getElem?_toArray, List.getElem?_cons_succ, List.getElem?_cons_zero] <;> rfl) (by kernel_rfl) (by kernel_rfl) (by kernel_rfl) (by exact fun _ _ _ h => h) (Or.inl ⟨by kernel_rfl, ?_⟩) (by assumption) ?_
        rotate_left
        · intro w' hSw; (try dsimp only at hSw); go_simp; try with_reducible rfl
        try simp only [Act.put, List.setIfInBounds_toArray, List.set_cons_zero, List.set_cons_succ]
        refine wpAnyH_take (i := 18) (v := ?_) (by simp only [List.getElem?_toArray, List.getElem?_cons_succ, List.getElem?_cons_zero] <;> rfl) (by kernel_rfl) (by kernel_rfl) (by kernel_rfl) (by exact fun _ _ _ h => h) (Or.inl ⟨by kernel_rfl, ?_⟩) (by assumption) ?_
        rotate_left
        · intro w' hSw; (try dsimp only at hSw); go_simp; try with_reducible rfl
        try simp only [Act.put, List.setIfInBounds_toArray, List.set_cons_zero, List.set_cons_succ]
        refine wpAnyH_take (i := 19) (v := ?_) (by simp only [List.getElem?_toArray, List.getElem?_cons_succ, List.getElem?_cons_zero] <;> rfl) (by kernel_rfl) (by kernel_rfl) (by kernel_rfl) (by exact fun _ _ _ h => h) (Or.inl ⟨by kernel_rfl, ?_⟩) (by assumption) ?_
        rotate_left
        · intro w' hSw; (try dsimp only at hSw); go_simp; try with_reducible rfl
        try simp only [Act.put, List.setIfInBounds_toArray, List.set_cons_zero, List.set_cons_succ]
        refine wpAnyH_ready (rs := [20]) (by kernel_rfl) (by simp) (AllReadyH.cons rfl (fun K hK => ?_) AllReadyH.nil)
        go_simp
        skip
        refine hK.out _ _ (by exact ⟨inferInstance, inferInstance⟩) (fun hHeld => ?_)
        try simp only [Act.put, List.setIfInBounds_toArray, List.set_cons_zero, List.set_cons_succ]
        refine wpAnyH_ready (rs := [21]) (by kernel_rfl) (by simp) (AllReadyH.cons rfl (fun K hK => ?_) AllReadyH.nil)
        go_simp
        skip
        refine hK.out _ _ (by exact ⟨inferInstance, inferInstance⟩) (fun hHeld => ?_)
        try simp only [Act.put, List.setIfInBounds_toArray, List.set_cons_zero, List.set_cons_succ]
        refine wpAnyH_take (i := 22) (v := ?_) (by simp only [List.getElem?_toArray, List.getElem?_cons_succ, List.getElem?_cons_zero] <;> rfl) (by kernel_rfl) (by kernel_rfl) (by kernel_rfl) (by exact fun _ _ _ h => h) (Or.inl ⟨by kernel_rfl, ?_⟩) (by assumption) ?_
        rotate_left
        · intro w' hSw; (try dsimp only at hSw); go_simp; try with_reducible rfl
        try simp only [Act.put, List.setIfInBounds_toArray, List.set_cons_zero, List.set_cons_succ]
        refine wpAnyH_done (by kernel_rfl) ?_ _
      case' r0_1_2_3_4_5_6_7_8_9_10_11_12_13_14_15_20 =>
        go_simp
        skip
        refine hK.out _ _ (by exact ⟨inferInstance, inferInstance⟩) (fun hHeld => ?_)
        try simp only [Act.put, List.setIfInBounds_toArray, List.set_cons_zero, List.set_cons_succ]
        refine wpAnyH_ready (rs := [16]) (by kernel_rfl) (by simp) (AllReadyH.cons rfl (fun K hK => ?_) AllReadyH.nil)
        go_simp
        (go_at_call 123; refine (spec_l8Fill H.out (hwb0.trans inferInstance) TF.out x.Trip x.From x.To).mono ?_; rw [HY.out]; rintro e w2 ⟨rfl, L2⟩; have X2 := Later.trans (w := wb) inferInstance L2; have Z2 := Later.trans (w := wr) inferInstance L2; (try (have hBq : Blk w2 wr.heap.size 100 #[.int .i64 0, .int .i64 0, .int .i64 0, .int .i64 0, .int .i64 0] := Blk.later (w := (wr.alloc (.cells #[.int .i64 0, .int .i64 0, .int .i64 0, .int .i64 0, .int .i64 0] 100)).drew) (heap_new rfl) L2; have hcq := fun i => hBq.cell i; have hfq := fun i => hBq.frozen i)))
        refine hK.out _ _ (by exact ⟨inferInstance, inferInstance⟩) (fun hHeld => ?_)
        try simp only [Act.put, List.setIfInBounds_toArray, List.set_cons_zero, List.set_cons_succ]
        refine wpAnyH_take (i := 17) (v := ?_) (by simp only [List.getElem?_toArray, List.getElem?_cons_succ, List.getElem?_cons_zero] <;> rfl) (by kernel_rfl) (by kernel_rfl) (by kernel_rfl) (by exact fun _ _ _ h => h) (Or.inl ⟨by kernel_rfl, ?_⟩) (by assumption) ?_
        rotate_left
        · intro w' hSw; (try dsimp only at hSw); go_simp; try with_reducible rfl
        try simp only [Act.put, List.setIfInBounds_toArray, List.set_cons_zero, List.set_cons_succ]
        refine wpAnyH_take (i := 18) (v := ?_) (by simp only [List.getElem?_toArray, List.getElem?_cons_succ, List.getElem?_cons_zero] <;> rfl) (by kernel_rfl) (by kernel_rfl) (by kernel_rfl) (by exact fun _ _ _ h => h) (Or.inl ⟨by kernel_rfl, ?_⟩) (by assumption) ?_
        rotate_left
        · intro w' hSw; (try dsimp only at hSw); go_simp; try with_reducible rfl
        try simp only [Act.put, List.setIfInBounds_toArray, List.set_cons_zero, List.set_cons_succ]
        refine wpAnyH_take (i := 19) (v := ?_) (by simp only [List.getElem?_toArray, List.getElem?_cons_succ, List.getElem?_cons_zero] <;> rfl) (by kernel_rfl) (by kernel_rfl) (by kernel_rfl) (by exact fun _ _ _ h => h) (Or.inl ⟨by kernel_rfl, ?_⟩) (by assumption) ?_
        rotate_left
        · intro w' hSw; (try dsimp only at hSw); go_simp; try with_reducible rfl
        try simp only [Act.put, List.setIfInBounds_toArray, List.set_cons_zero, List.set_cons_succ]
        refine wpAnyH_ready (rs := [21]) (by kernel_rfl) (by simp) (AllReadyH.cons rfl (fun K hK => ?_) AllReadyH.nil)
        go_simp
        skip
        refine hK.out _ _ (by exact ⟨inferInstance, inferInstance⟩) (fun hHeld => ?_)
        try simp only [Act.put, List.setIfInBounds_toArray, List.set_cons_zero, List.set_cons_succ]
        refine wpAnyH_take (i := 22) (v := ?_) (by simp only [List.getElem?_toArray, List.getElem?_cons_succ, List.getElem?_cons_zero] <;> rfl) (by kernel_rfl) (by kernel_rfl) (by kernel_rfl) (by exact fun _ _ _ h => h) (Or.inl ⟨by kernel_rfl, ?_⟩) (by assumption) ?_
        rotate_left
        · intro w' hSw; (try dsimp only at hSw); go_simp; try with_reducible rfl
        try simp only [Act.put, List.setIfInBounds_toArray, List.set_cons_zero, List.set_cons_succ]
        refine wpAnyH_done (by kernel_rfl) ?_ _
      all_goals
        cases ok with
        | false =>
          have HN : Hid (okLegs t change ls = false) := okLegs_noS (by rw [HF1.out, legAt_preS (by rw [HFO.out]; rfl)]; rfl)
          go_wp2_with fail
          go_quiet (fail)
          go_wp2
          go_ret
          exact ⟨ret_bool HN.out.symm, hww.trans inferInstance⟩
        | true =>
          by_cases hyx : y = x
          · have HFY : Hid (fillOk t x = true) := by show _ = _; rw [HFO.out, hyx]; simp
            subst hyx
            have HO2 : Hid (∀ (j : Nat) (z : Leg), j < k + 1 → ls[j]? = some z → fillOk t z = true) := fun j z hj hz => by
              by_cases e : j = k
              · subst e; rw [HX.out] at hz; cases hz; exact HFY.out
              · exact HO.out j z (by omega) hz
            go_wp2_with fail
            go_quiet (fail)
            go_wp2_with fail
            refine wp_gen fun wq hq => ?_
            have LQ : Later wb wq := by rw [hq]; infer_instance
            first
              | (have HQB : Blk wq wr.heap.size 100 #[.int .i64 y.Trip, .int .i64 y.From, .int .i64 y.To, .int .i64 y.Depart, .int .i64 y.Arrive] := by rw [hq]; exact Blk.drewN (((((hBq.set_ 0 (.int .i64 y.Trip)).set_ 1 (.int .i64 y.From)).set_ 2 (.int .i64 y.To)).set_ 3 (.int .i64 y.Depart)).set_ 4 (.int .i64 y.Arrive)) _)
              | (have HQB : Blk wq w2.heap.size 100 #[.int .i64 y.Trip, .int .i64 y.From, .int .i64 y.To, .int .i64 y.Depart, .int .i64 y.Arrive] := by rw [hq]; exact Blk.drewN (heap_new rfl) _)
            have HQ := Later.boxes (t := 100) (fr := (0, 0)) HQB
            clear hq HQB
            try clear hBq hcq hfq
            clear hHeld
            go_loopw [10] (fun i wr' => ∃ q : Nat, q ≤ k ∧ i = .int .i64 q ∧ Hid ((ls.take q).any (tripIs y.Trip) = false) ∧ Later wb wr' ∧ Later wq wr') (fun i _ => k - (intOf i).toNat)
            case atStart => exact ⟨0, by omega, rfl, rfl, LQ, inferInstance⟩
            case round =>
              obtain ⟨q, hqk, rfl, HA, hX2, hY2⟩ := hrel
              by_cases hq2 : q < k
              · have hql : q < ln := by omega
                obtain ⟨b8, o8, z, hA8, hz, hz0, hz1, hz2, hz3, hz4, _⟩ := Legs.at_ HLG.out hql
                cases hA8
                by_cases hzt : z.Trip = y.Trip
                · have HN : Hid (okLegs t change ls = false) := okLegs_noS (by rw [HF1.out, legAt_any hq2 hz.out hzt]; rfl)
                  have e1 := (beqi_t hzt).1
                  clear hzt hz HF1 HX HO HO2 HFY HA
                  go_wp2_with fail
                  go_quiet (fail)
                  go_wp2
                  go_ret
                  exact ⟨ret_bool HN.out.symm, hww.trans inferInstance⟩
                · have HA2 : Hid ((ls.take (q + 1)).any (tripIs y.Trip) = false) := by
                    show _ = _
                    rw [List.take_add_one, hz.out, List.any_append, HA.out]
                    simp [tripIs, hzt]
                  have e1 := (beqi_f hzt).1
                  clear hzt hz HA
                  go_wp2_with fail
                  go_quiet (fail)
                  go_wp2
                  go_roundw
                  case rel => exact ⟨q + 1, by omega, by go_num, HA2, inferInstance, inferInstance⟩
                  case measure => simp [intOf]; omega
              · have HA2 : Hid ((ls.take k).any (tripIs y.Trip) = false) := by
                  have : q = k := by omega
                  rw [← this]; exact HA
                clear HA
                by_cases hk0 : k = 0
                · have HF2 : Hid (allFrom (legAt t change ls) (ls.drop (k + 1)) (k + 1) = allFrom (legAt t change ls) ls 0) := by
                    show _ = _
                    rw [HF1.out, show legAt t change ls k y = true from by rw [hk0]; exact HFY.out]; rfl
                  have e0 : ¬ ((0 : Int) < (k : Int)) := by omega
                  have e1 : ¬ (0 < k) := by omega
                  clear hk0 HF1
                  go_wp2_with fail
                  go_quiet (fail)
                  go_wp2
                  go_roundw
                  case rel => exact ⟨k + 1, by omega, by go_num, HF2, HO2, inferInstance⟩
                  case measure => simp [intOf]; omega
                · obtain ⟨j, hj⟩ : ∃ j, k = j + 1 := ⟨k - 1, by omega⟩
                  have e0 : (0 : Int) < (k : Int) := by omega
                  have e1 : 0 < k := by omega
                  have HJ := Lib.hid hj
                  have hjl : j < ln := by omega
                  obtain ⟨b8, o8, z, hA8, hz, hz0, hz1, hz2, hz3, hz4, _⟩ := Legs.at_ HLG.out hjl
                  cases hA8
                  have hzb := (legFacts TF.out (HO.out j z (by omega) hz.out)).arrive
                  have hza := hzb.1
                  have hzc := hzb.2
                  have hwk : IntKind.i64.wrap ((k : Int) - 1) = (j : Int) := by rw [IntKind.wrap_i64]; omega
                  have hwc : IntKind.i64.wrap (z.Arrive + change) = z.Arrive + change := by rw [IntKind.wrap_i64]; omega
                  have HLA : Hid (legAt t change ls k y = linkOk change z y) := by
                    show _ = _
                    rw [HJ.out]
                    simp only [legAt, HFY.out, Bool.true_and]
                    rw [show ls.getD j default = z from by simp [List.getD, hz.out], ← HJ.out, HA2.out]; simp
                  clear hk0 hj hz hzb
                  by_cases c1 : z.To = y.From
                  rotate_left
                  · have HN : Hid (okLegs t change ls = false) := okLegs_noS (by rw [HF1.out, HLA.out]; unfold linkOk; rw [decide_eq_false (fun h => c1 h.symm)]; rfl)
                    have e2 := (beqi_f c1).1
                    go_wp2_with fail
                    go_quiet (fail)
                    go_wp2
                    go_ret
                    exact ⟨ret_bool HN.out.symm, hww.trans inferInstance⟩
                  have e2 := (beqi_t c1).1
                  by_cases c2 : z.Arrive + change ≤ y.Depart
                  rotate_left
                  · have HN : Hid (okLegs t change ls = false) := okLegs_noS (by rw [HF1.out, HLA.out]; unfold linkOk; rw [decide_eq_false c2]; simp)
                    have c3 : y.Depart < z.Arrive + change := by omega
                    go_wp2_with fail
                    go_quiet (fail)
                    go_wp2
                    go_ret
                    exact ⟨ret_bool HN.out.symm, hww.trans inferInstance⟩
                  have c3 : ¬ (y.Depart < z.Arrive + change) := by omega
                  have HF2 : Hid (allFrom (legAt t change ls) (ls.drop (k + 1)) (k + 1) = allFrom (legAt t change ls) ls 0) := by
                    show _ = _; rw [HF1.out, HLA.out]; unfold linkOk; rw [decide_eq_true c1.symm, decide_eq_true c2]; rfl
                  go_wp2_with fail
                  go_quiet (fail)
                  go_wp2
                  go_roundw
                  case rel => exact ⟨k + 1, by omega, by go_num, HF2, HO2, inferInstance⟩
                  case measure => simp [intOf]; omega
          · have HN : Hid (okLegs t change ls = false) := okLegs_noS (by rw [HF1.out, legAt_preS (by rw [HFO.out, decide_eq_false hyx]; rfl)]; rfl)
            have HV : (¬ y.Trip = x.Trip) ∨ (y.Trip = x.Trip ∧ ¬ y.From = x.From) ∨ (y.Trip = x.Trip ∧ y.From = x.From ∧ ¬ y.To = x.To) ∨ (y.Trip = x.Trip ∧ y.From = x.From ∧ y.To = x.To ∧ ¬ y.Depart = x.Depart) ∨ (y.Trip = x.Trip ∧ y.From = x.From ∧ y.To = x.To ∧ y.Depart = x.Depart ∧ ¬ y.Arrive = x.Arrive) := by
              by_cases a1 : y.Trip = x.Trip <;> by_cases a2 : y.From = x.From <;> by_cases a3 : y.To = x.To <;> by_cases a4 : y.Depart = x.Depart <;> by_cases a5 : y.Arrive = x.Arrive <;> simp_all
              apply hyx; cases y; cases x; simp_all
            clear hyx
            rcases HV with a1 | ⟨a1, a2⟩ | ⟨a1, a2, a3⟩ | ⟨a1, a2, a3, a4⟩ | ⟨a1, a2, a3, a4, a5⟩
            · have e1 := (beqi_f a1).1
              clear a1
              clear HF1 HX HO
              go_wp2_with fail
              go_quiet (fail)
              go_wp2
              go_ret
              exact ⟨ret_bool HN.out.symm, hww.trans inferInstance⟩
            · have e1 := (beqi_t a1).1; have e2 := (beqi_f a2).1
              clear a1 a2
              clear HF1 HX HO
              go_wp2_with fail
              go_quiet (fail)
              go_wp2
              go_ret
              exact ⟨ret_bool HN.out.symm, hww.trans inferInstance⟩
            · have e1 := (beqi_t a1).1; have e2 := (beqi_t a2).1; have e3 := (beqi_f a3).1
              clear a1 a2 a3
              clear HF1 HX HO
              go_wp2_with fail
              go_quiet (fail)
              go_wp2
              go_ret
              exact ⟨ret_bool HN.out.symm, hww.trans inferInstance⟩
            · have e1 := (beqi_t a1).1; have e2 := (beqi_t a2).1; have e3 := (beqi_t a3).1; have e4 := (beqi_f a4).1
              clear a1 a2 a3 a4
              clear HF1 HX HO
              go_wp2_with fail
              go_quiet (fail)
              go_wp2
              go_ret
              exact ⟨ret_bool HN.out.symm, hww.trans inferInstance⟩
            · have e1 := (beqi_t a1).1; have e2 := (beqi_t a2).1; have e3 := (beqi_t a3).1; have e4 := (beqi_t a4).1; have e5 := (beqi_f a5).1
              clear a1 a2 a3 a4 a5
              clear HF1 HX HO
              go_wp2_with fail
              go_quiet (fail)
              go_wp2
              go_ret
              exact ⟨ret_bool HN.out.symm, hww.trans inferInstance⟩
    · have HE : Hid (okLegs t change ls = true) := HYES.out _ (by rw [← HF.out, List.drop_eq_nil_of_le (by have := Hln.out; omega)]; rfl)
      clear HF
      go_wp2
      go_ret
      exact ⟨ret_bool HE.out.symm, hww.trans inferInstance⟩
end Go.Proofs.Yteeeihnkofoagaa
