/-
  Journeys: when legs are one, in the program.
-/
import Derived.Test.YteeeihnkofoagaaLegC
import Derived.Test.YteeeihnkofoagaaEar
import Derived.Test.YteeeihnkofoagaaHeadB
namespace Go.Proofs.Yteeeihnkofoagaa
open Go Go.RowKit
set_option linter.unusedVariables false
set_option maxRecDepth 100000
set_option linter.unusedSimpArgs false
theorem legAt_pre {t : Timetable} {change : Int} {ls : List Leg} {k : Nat} {x : Leg} (h : fillOk t x = false) : legAt t change ls k x = false := by
  cases k with
  | zero => exact h
  | succ j => simp [legAt, h]
theorem impl_isJourney1 {w0 w : World} (x : Leg) (b : Nat) (v : Int) (hc : ∀ W [Later w0 W], W.cell? ⟨b, 0, none⟩ = some (.int .i64 v)) (hl : Later w0 w) :
    Calls Try.prog 156 #[.agg #[.int .i64 x.Trip, .int .i64 x.From, .int .i64 x.To, .int .i64 x.Depart, .int .i64 x.Arrive], .pointer (some ⟨b, 0, none⟩)] w (Ret (.bool (tripIs v x)) w) := by
  have HB0 : ∀ W [Later (w.alloc (.cells #[.int .i64 x.Trip, .int .i64 x.From, .int .i64 x.To, .int .i64 x.Depart, .int .i64 x.Arrive] 100)) W] (j : Nat), W.cell? ⟨w.heap.size, j, none⟩ = #[.int .i64 x.Trip, .int .i64 x.From, .int .i64 x.To, .int .i64 x.Depart, .int .i64 x.Arrive][j]? := Later.boxes (t := 100) (fr := (0, 0)) (heap_new (by simp; try omega)); obtain ⟨wb, hwb⟩ : ∃ wb : World, wb = (w.alloc (.cells #[.int .i64 x.Trip, .int .i64 x.From, .int .i64 x.To, .int .i64 x.Depart, .int .i64 x.Arrive] 100)) := ⟨_, rfl⟩; haveI hbW : Later wb (w.alloc (.cells #[.int .i64 x.Trip, .int .i64 x.From, .int .i64 x.To, .int .i64 x.Depart, .int .i64 x.Arrive] 100)) := (by rw [hwb]; exact Later.rfl_); haveI hww : Later w wb := (by rw [hwb]; infer_instance); rw [← hwb] at HB0; have hbE := Lib.hid (congrArg (fun x : World => x.heap.size) hwb); clear hwb
  replace hc := shift (hl.trans hww) hc
  by_cases hv : x.Trip = v
  · have e1 := (beqi_t hv).1
    have HN : Hid (tripIs v x = true) := by show _ = _; simp [tripIs, hv]
    clear hv
    go_enter Try.func156, Try.ntmps156
    go_wp2
    go_ret
    exact ⟨ret_bool HN.out.symm, hww.trans inferInstance⟩
  · have e1 := (beqi_f hv).1
    have HN : Hid (tripIs v x = false) := by show _ = _; simp [tripIs, hv]
    clear hv
    go_enter Try.func156, Try.ntmps156
    go_wp2
    go_ret
    exact ⟨ret_bool HN.out.symm, hww.trans inferInstance⟩
theorem slices_IndexLeg {w0 w : World} {A : Option Addr} {n c : Nat} {l : List Leg} (h : Legs w0 A n c l) (hl : Later w0 w) (b : Nat) (v : Int) (hp : ∀ W [Later w0 W], W.cell? ⟨b, 0, none⟩ = some (.int .i64 v)) :
    Calls Try.prog 168 #[.slice A n c, .func (.func 156) #[] #[.pointer (some ⟨b, 0, none⟩)]] w (Ret (.int .i64 (idx (tripIs v) l)) w) := by
  have hn := h.le
  have Hl := Lib.hid h.len
  have HP : Hid (∀ W [Later w0 W], W.cell? ⟨b, 0, none⟩ = some (.int .i64 v)) := hp
  clear hp
  go_enter Try.func168, Try.ntmps168
  go_wp2
  go_loopw [8] (fun i wr => ∃ k : Nat, k ≤ n ∧ i = .int .i64 k ∧ Hid (idxGo (tripIs v) (l.drop k) k = idx (tripIs v) l) ∧ Later w wr) (fun i _ => n - (intOf i).toNat)
  case atStart => exact ⟨0, by omega, rfl, rfl, inferInstance⟩
  case round =>
    obtain ⟨k, hk, rfl, HF, hX⟩ := hrel
    have hX0 := hl.trans hX
    by_cases hlt : k < n
    · obtain ⟨b1, o, x, rfl, hx, hc0, hc1, hc2, hc3, hc4, hi⟩ := Legs.at_ h hlt
      have HF1 := HF.out
      rw [drop_at hx.out] at HF1
      simp only [idxGo] at HF1
      clear HF
      by_cases hxy : tripIs v x = true
      · rw [if_pos hxy] at HF1
        have HF2 := Lib.hid HF1
        clear HF1
        go_wp2_with ((refine (impl_isJourney1 x b v HP.out hX0).mono ?_); rintro e w1 ⟨rfl, L1⟩; have X1 := hX.trans L1)
        go_ret
        exact ⟨ret_int HF2.out, inferInstance⟩
      · rw [if_neg hxy] at HF1
        have HF2 := Lib.hid HF1
        have hxz : tripIs v x = false := by simpa using hxy
        clear HF1 hxy
        go_wp2_with ((refine (impl_isJourney1 x b v HP.out hX0).mono ?_); rintro e w1 ⟨rfl, L1⟩; have X1 := hX.trans L1)
        go_roundw
        case rel => exact ⟨k + 1, by omega, by go_num, HF2, inferInstance⟩
        case measure => simp [intOf]; omega
    · have HF2 : Hid (-1 = idx (tripIs v) l) := by
        have h3 := HF.out
        rw [List.drop_eq_nil_of_le (by have := Hl.out; omega)] at h3
        exact h3
      clear HF
      go_wp2
      go_ret
      exact ⟨ret_int HF2.out, inferInstance⟩
theorem slices_ContainsLeg {w0 w : World} {A : Option Addr} {n c : Nat} {l : List Leg} (h : Legs w0 A n c l) (hl : Later w0 w) (b : Nat) (v : Int) (hp : ∀ W [Later w0 W], W.cell? ⟨b, 0, none⟩ = some (.int .i64 v)) :
    Calls Try.prog 155 #[.slice A n c, .func (.func 156) #[] #[.pointer (some ⟨b, 0, none⟩)]] w (Ret (.bool (l.any (tripIs v))) w) := by
  have hbd := idx_bd (tripIs v) l
  have hiff := @idx_neg_iff _ (tripIs v) l
  obtain ⟨p, hp2⟩ : ∃ p, p = idx (tripIs v) l := ⟨_, rfl⟩
  rw [← hp2] at hbd hiff
  have HP := Lib.hid hp2
  have HI := Lib.hid hiff
  have HC : Hid (∀ W [Later w0 W], W.cell? ⟨b, 0, none⟩ = some (.int .i64 v)) := hp
  clear hp2 hiff hp
  by_cases c1 : 0 ≤ p
  · have HN : Hid (true = l.any (tripIs v)) := by
      show _ = _
      cases e : l.any (tripIs v) with
      | true => rfl
      | false => have := HI.out.2 e; omega
    go_enter Try.func155, Try.ntmps155
    go_wp2_with (go_at_call 168; refine (slices_IndexLeg h (hl.trans inferInstance) b v HC.out).mono ?_; rw [← HP.out]; rintro e w1 ⟨rfl, L1⟩)
    go_ret
    exact ⟨ret_bool HN.out, inferInstance⟩
  · have HN : Hid (false = l.any (tripIs v)) := by show _ = _; exact (HI.out.1 (by omega)).symm
    go_enter Try.func155, Try.ntmps155
    go_wp2_with (go_at_call 168; refine (slices_IndexLeg h (hl.trans inferInstance) b v HC.out).mono ?_; rw [← HP.out]; rintro e w1 ⟨rfl, L1⟩)
    go_ret
    exact ⟨ret_bool (by rw [show decide (0 ≤ p) = false from decide_eq_false (by omega)]; exact HN.out), inferInstance⟩
theorem okLegs_no {t : Timetable} {change : Int} {ls : List Leg} (h : allFrom (legAt t change ls) ls 0 = false) : okLegs t change ls = false := by unfold okLegs; rw [h]; simp
set_option maxHeartbeats 4000000 in
theorem impl_isJourney {w0 w : World} {sA0 : Option Addr} {sn0 sc0 : Nat} {sA1 : Option Addr} {sn1 sc1 : Nat} {sA2 : Option Addr} {sn2 sc2 : Nat} {t : Timetable} (h : TimetableAt w0 sA0 sn0 sc0 sA1 sn1 sc1 sA2 sn2 sc2 t) (hl : Later w0 w) {w3 : World} {lA : Option Addr} {ln lc : Nat} {ls : List Leg} (h3 : Legs w3 lA ln lc ls) (hl3 : Later w3 w) (tf : TimeFacts t) (change : Int) (ch0 : 0 ≤ change) (ch1 : change ≤ 30) :
    Calls Try.prog 127 #[.agg #[.slice sA0 sn0 sc0, .slice sA1 sn1 sc1, .slice sA2 sn2 sc2], .int .i64 change, .slice lA ln lc] w (Ret (.bool (okLegs t change ls)) w) := by
  have hLg := h3.later hl3
  have hT := h.l_Trips.later hl
  have hn2 := hT.le
  have Hl2 := Lib.hid hT.len
  have hln := hLg.le
  have Hln := Lib.hid hLg.len
  have TF := Lib.hid tf
  have NF := Lib.hid tf.net
  clear tf
  have HB0 : ∀ W [Later (w.alloc (.cells #[.slice sA0 sn0 sc0, .slice sA1 sn1 sc1, .slice sA2 sn2 sc2] 50)) W] (j : Nat), W.cell? ⟨w.heap.size, j, none⟩ = #[.slice sA0 sn0 sc0, .slice sA1 sn1 sc1, .slice sA2 sn2 sc2][j]? := Later.boxes (t := 50) (fr := (0, 0)) (heap_new (by simp; try omega)); obtain ⟨wb, hwb⟩ : ∃ wb : World, wb = (w.alloc (.cells #[.slice sA0 sn0 sc0, .slice sA1 sn1 sc1, .slice sA2 sn2 sc2] 50)) := ⟨_, rfl⟩; haveI hbW : Later wb (w.alloc (.cells #[.slice sA0 sn0 sc0, .slice sA1 sn1 sc1, .slice sA2 sn2 sc2] 50)) := (by rw [hwb]; exact Later.rfl_); haveI hww : Later w wb := (by rw [hwb]; infer_instance); rw [← hwb] at HB0; have hbE := Lib.hid (congrArg (fun x : World => x.heap.size) hwb); clear hwb
  have hwb0 := hl.trans hww
  have H := Lib.hid h
  clear h
  replace hLg := hLg.later hww
  replace hT := hT.later hww
  by_cases b1 : inB ln 1 4 = true
  rotate_left
  · have g1 : inB ln 1 4 = false := by simpa using b1
    have HN : Hid (okLegs t change ls = false) := by show _ = _; unfold okLegs; rw [← Hln.out, g1]; rfl
    clear b1
    go_enter Try.func127, Try.ntmps127
    go_wp2_with (go_at_call 70; refine (impl_within _ _ _ _).mono ?_; rintro e w' ⟨rfl, rfl⟩)
    go_ret
    exact ⟨ret_bool HN.out.symm, hww.trans inferInstance⟩
  have HYES : Hid (∀ v, allFrom (legAt t change ls) ls 0 = v → okLegs t change ls = v) := fun v hv => by unfold okLegs; rw [← Hln.out, b1, hv]; rfl
  have hl4 := inB_t.1 b1
  have hl5 : ln ≤ 4 := by omega
  clear hl4
  go_enter Try.func127, Try.ntmps127
  go_wp2_with (go_at_call 70; refine (impl_within _ _ _ _).mono ?_; rintro e w' ⟨rfl, rfl⟩)
  clear b1
  go_loopw [18] (fun i wr => ∃ k : Nat, k ≤ ln ∧ i = .int .i64 k ∧ Hid (allFrom (legAt t change ls) (ls.drop k) k = allFrom (legAt t change ls) ls 0) ∧ Hid (∀ (j : Nat) (y : Leg), j < k → ls[j]? = some y → fillOk t y = true) ∧ Later wb wr) (fun i _ => ln - (intOf i).toNat)
  case atStart => exact ⟨0, by omega, rfl, rfl, fun j y hj => by omega, inferInstance⟩
  case round =>
    obtain ⟨k, hk, rfl, HF, HO, hX⟩ := hrel
    by_cases hlt : k < ln
    · have HLG := Lib.hid hLg
      obtain ⟨b, o, x, rfl, hx, hc0, hc1, hc2, hc3, hc4, hi⟩ := Legs.at_ hLg hlt
      have HF1 : Hid (allFrom (legAt t change ls) ls 0 = (legAt t change ls k x && allFrom (legAt t change ls) (ls.drop (k + 1)) (k + 1))) := by rw [← HF.out, drop_at hx.out]; rfl
      have HX := Lib.hid hx.out
      clear HF hi hx
      obtain ⟨p, hp⟩ : ∃ p, findI t x.Trip = p := ⟨_, rfl⟩
      have hfb := findI_bd t x.Trip
      rw [hp] at hfb
      have HF0 := Lib.hid hp
      clear hp
      have HBX : ∀ W [Later (wr.alloc (.cells #[.int .i64 x.Trip, .int .i64 x.From, .int .i64 x.To, .int .i64 x.Depart, .int .i64 x.Arrive] 100)) W] (j : Nat), W.cell? ⟨wr.heap.size, j, none⟩ = #[.int .i64 x.Trip, .int .i64 x.From, .int .i64 x.To, .int .i64 x.Depart, .int .i64 x.Arrive][j]? := Later.boxes (t := 100) (fr := (0, 0)) (heap_new (by simp; try omega)); obtain ⟨wx, hwx⟩ : ∃ wx : World, wx = (wr.alloc (.cells #[.int .i64 x.Trip, .int .i64 x.From, .int .i64 x.To, .int .i64 x.Depart, .int .i64 x.Arrive] 100)) := ⟨_, rfl⟩; haveI hxW : Later wx (wr.alloc (.cells #[.int .i64 x.Trip, .int .i64 x.From, .int .i64 x.To, .int .i64 x.Depart, .int .i64 x.Arrive] 100)) := (by rw [hwx]; exact Later.rfl_); haveI hbx : Later wb wx := (by rw [hwx]; infer_instance); rw [← hwx] at HBX; clear hwx
      by_cases c0 : p < 0
      · have HN : Hid (okLegs t change ls = false) := okLegs_no (by rw [HF1.out, legAt_pre (by unfold fillOk fillI; rw [HF0.out, if_pos c0]; rfl)]; rfl)
        clear HF1
        go_wp2_with (go_at_call 82; refine (impl_tripIndex H.out (hwb0.trans inferInstance) x.Trip).mono ?_; rw [HF0.out]; rintro e w1 ⟨rfl, L1⟩; have X1 := Later.trans (w := wb) inferInstance L1; have Z1 := Later.trans (w := wx) inferInstance L1)
        go_ret
        exact ⟨ret_bool HN.out.symm, hww.trans inferInstance⟩
      obtain ⟨m, rfl⟩ := Int.eq_ofNat_of_zero_le (show 0 ≤ p by omega)
      have hm : m < sn2 := by have := Hl2.out; omega
      obtain ⟨b6, o6, x', rfl, hx', hd0, hd1, hd2, _⟩ := Trips.at_ hT hm
      have TI := Lib.hid (TF.out.trip m x' hx'.out).in_
      obtain ⟨⟨y, ok⟩, hy⟩ : ∃ y, fillT t x' x.From x.To = y := ⟨_, rfl⟩
      have HY := Lib.hid hy
      have HFO : Hid (fillOk t x = (ok && decide (y = x))) := by show _ = _; unfold fillOk fillI; rw [HF0.out, if_neg c0, tripI_of hx'.out, hy]
      clear hy hx' c0
      go_wp2_with (go_at_call 82; refine (impl_tripIndex H.out (hwb0.trans inferInstance) x.Trip).mono ?_; rw [HF0.out]; rintro e w1 ⟨rfl, L1⟩; have X1 := Later.trans (w := wb) inferInstance L1; have Z1 := Later.trans (w := wx) inferInstance L1)
      refine wp_region_held_drew (S := (fun w' => Later wb w' ∧ Later wx w')) (by kernel_rfl) (by exact ⟨inferInstance, inferInstance⟩) (fun hHeld => ?_)
      refine wpAnyH_take (i := 0) (v := ?_) (by simp only [List.getElem?_toArray, List.getElem?_cons_zero] <;> rfl) (by kernel_rfl) (by kernel_rfl) (by kernel_rfl) (by exact fun _ _ _ h => h) (Or.inl ⟨by kernel_rfl, ?_⟩) (by assumption) ?_
      rotate_left
      · intro w' hSw; (try dsimp only at hSw); go_simp; try with_reducible rfl
      try simp only [Act.put, List.setIfInBounds_toArray, List.set_cons_zero, List.set_cons_succ]
      refine wpAnyH_take (i := 1) (v := ?_) (by simp only [List.getElem?_toArray, List.getElem?_cons_succ, List.getElem?_cons_zero] <;> rfl) (by kernel_rfl) (by kernel_rfl) (by kernel_rfl) (by exact fun _ _ _ h => h) (Or.inl ⟨by kernel_rfl, ?_⟩) (by assumption) ?_
      rotate_left
      · intro w' hSw; (try dsimp only at hSw); go_simp; try with_reducible rfl
      try simp only [Act.put, List.setIfInBounds_toArray, List.set_cons_zero, List.set_cons_succ]
      refine wpAnyH_take (i := 2) (v := ?_) (by simp only [List.getElem?_toArray, List.getElem?_cons_succ, List.getElem?_cons_zero] <;> rfl) (by kernel_rfl) (by kernel_rfl) (by kernel_rfl) (by exact fun _ _ _ h => h) (Or.inl ⟨by kernel_rfl, ?_⟩) (by assumption) ?_
      rotate_left
      · intro w' hSw; (try dsimp only at hSw); go_simp; try with_reducible rfl
      try simp only [Act.put, List.setIfInBounds_toArray, List.set_cons_zero, List.set_cons_succ]
      refine wpAnyH_take (i := 3) (v := ?_) (by simp only [List.getElem?_toArray, List.getElem?_cons_succ, List.getElem?_cons_zero] <;> rfl) (by kernel_rfl) (by kernel_rfl) (by kernel_rfl) (by exact fun _ _ _ h => h) (Or.inl ⟨by kernel_rfl, ?_⟩) (by assumption) ?_
      rotate_left
      · intro w' hSw; (try dsimp only at hSw); go_simp; try with_reducible rfl
      try simp only [Act.put, List.setIfInBounds_toArray, List.set_cons_zero, List.set_cons_succ]
      refine wpAnyH_take (i := 4) (v := ?_) (by simp only [List.getElem?_toArray, List.getElem?_cons_succ, List.getElem?_cons_zero] <;> rfl) (by kernel_rfl) (by kernel_rfl) (by kernel_rfl) (by exact fun _ _ _ h => h) (Or.inl ⟨by kernel_rfl, ?_⟩) (by assumption) ?_
      rotate_left
      · intro w' hSw; (try dsimp only at hSw); go_simp; try with_reducible rfl
      try simp only [Act.put, List.setIfInBounds_toArray, List.set_cons_zero, List.set_cons_succ]
      refine wpAnyH_take (i := 5) (v := ?_) (by simp only [List.getElem?_toArray, List.getElem?_cons_succ, List.getElem?_cons_zero] <;> rfl) (by kernel_rfl) (by kernel_rfl) (by kernel_rfl) (by exact fun _ _ _ h => h) (Or.inl ⟨by kernel_rfl, ?_⟩) (by assumption) ?_
      rotate_left
      · intro w' hSw; (try dsimp only at hSw); go_simp; try with_reducible rfl
      try simp only [Act.put, List.setIfInBounds_toArray, List.set_cons_zero, List.set_cons_succ]
      refine wpAnyH_take (i := 6) (v := ?_) (by simp only [List.getElem?_toArray, List.getElem?_cons_succ, List.getElem?_cons_zero] <;> rfl) (by kernel_rfl) (by kernel_rfl) (by kernel_rfl) (by exact fun _ _ _ h => h) (Or.inl ⟨by kernel_rfl, ?_⟩) (by assumption) ?_
      rotate_left
      · intro w' hSw; (try dsimp only at hSw); go_simp; try with_reducible rfl
      try simp only [Act.put, List.setIfInBounds_toArray, List.set_cons_zero, List.set_cons_succ]
      refine wpAnyH_take (i := 7) (v := ?_) (by simp only [List.getElem?_toArray, List.getElem?_cons_succ, List.getElem?_cons_zero] <;> rfl) (by kernel_rfl) (by kernel_rfl) (by kernel_rfl) (by exact fun _ _ _ h => h) (Or.inl ⟨by kernel_rfl, ?_⟩) (by assumption) ?_
      rotate_left
      · intro w' hSw; (try dsimp only at hSw); go_simp; try with_reducible rfl
      try simp only [Act.put, List.setIfInBounds_toArray, List.set_cons_zero, List.set_cons_succ]
      refine wpAnyH_take (i := 8) (v := ?_) (by simp only [List.getElem?_toArray, List.getElem?_cons_succ, List.getElem?_cons_zero] <;> rfl) (by kernel_rfl) (by kernel_rfl) (by kernel_rfl) (by exact fun _ _ _ h => h) (Or.inl ⟨by kernel_rfl, ?_⟩) (by assumption) ?_
      rotate_left
      · intro w' hSw; (try dsimp only at hSw); go_simp; try with_reducible rfl
      try simp only [Act.put, List.setIfInBounds_toArray, List.set_cons_zero, List.set_cons_succ]
      refine wpAnyH_take (i := 9) (v := ?_) (by simp only [List.getElem?_toArray, List.getElem?_cons_succ, List.getElem?_cons_zero] <;> rfl) (by kernel_rfl) (by kernel_rfl) (by kernel_rfl) (by exact fun _ _ _ h => h) (Or.inl ⟨by kernel_rfl, ?_⟩) (by assumption) ?_
      rotate_left
      · intro w' hSw; (try dsimp only at hSw); go_simp; try with_reducible rfl
      try simp only [Act.put, List.setIfInBounds_toArray, List.set_cons_zero, List.set_cons_succ]
      refine wpAnyH_ready (rs := [10, 14]) (by kernel_rfl) (by simp) (AllReadyH.cons rfl (fun K hK => ?r0_1_2_3_4_5_6_7_8_9_10) (AllReadyH.cons rfl (fun K hK => ?r0_1_2_3_4_5_6_7_8_9_14) AllReadyH.nil))
      case' r0_1_2_3_4_5_6_7_8_9_10 =>
        go_simp
        (go_at_call 154; refine (impl_fillLeg H.out (hwb0.trans inferInstance) NF.out x' TI.out x.From x.To).mono ?_; rw [HY.out]; rintro e w2 ⟨rfl, L2⟩; have X2 := Later.trans (w := wb) inferInstance L2; have Z2 := Later.trans (w := wx) inferInstance L2; (try (have hBq : Blk w2 w1.heap.size 100 #[.int .i64 0, .int .i64 0, .int .i64 0, .int .i64 0, .int .i64 0] := Blk.later (w := (w1.alloc (.cells #[.int .i64 0, .int .i64 0, .int .i64 0, .int .i64 0, .int .i64 0] 100)).drew) (heap_new rfl) L2; have hcq := fun i => hBq.cell i; have hfq := fun i => hBq.frozen i)))
        refine hK.out _ _ (by exact ⟨inferInstance, inferInstance⟩) (fun hHeld => ?_)
        try simp only [Act.put, List.setIfInBounds_toArray, List.set_cons_zero, List.set_cons_succ]
        refine wpAnyH_take (i := 11) (v := ?_) (by simp only [List.getElem?_toArray, List.getElem?_cons_succ, List.getElem?_cons_zero] <;> rfl) (by kernel_rfl) (by kernel_rfl) (by kernel_rfl) (by exact fun _ _ _ h => h) (Or.inl ⟨by kernel_rfl, ?_⟩) (by assumption) ?_
        rotate_left
        · intro w' hSw; (try dsimp only at hSw); go_simp; try with_reducible rfl
        try simp only [Act.put, List.setIfInBounds_toArray, List.set_cons_zero, List.set_cons_succ]
        refine wpAnyH_take (i := 12) (v := ?_) (by simp only [List.getElem?_toArray, List.getElem?_cons_succ, List.getElem?_cons_zero] <;> rfl) (by kernel_rfl) (by kernel_rfl) (by kernel_rfl) (by exact fun _ _ _ h => h) (Or.inl ⟨by kernel_rfl, ?_⟩) (by assumption) ?_
        rotate_left
        · intro w' hSw; (try dsimp only at hSw); go_simp; try with_reducible rfl
        try simp only [Act.put, List.setIfInBounds_toArray, List.set_cons_zero, List.set_cons_succ]
        refine wpAnyH_take (i := 13) (v := ?_) (by simp only [List.getElem?_toArray, List.getElem?_cons_succ, List.getElem?_cons_zero] <;> rfl) (by kernel_rfl) (by kernel_rfl) (by kernel_rfl) (by exact fun _ _ _ h => h) (Or.inl ⟨by kernel_rfl, ?_⟩) (by assumption) ?_
        rotate_left
        · intro w' hSw; (try dsimp only at hSw); go_simp; try with_reducible rfl
        try simp only [Act.put, List.setIfInBounds_toArray, List.set_cons_zero, List.set_cons_succ]
        refine wpAnyH_ready (rs := [14]) (by kernel_rfl) (by simp) (AllReadyH.cons rfl (fun K hK => ?_) AllReadyH.nil)
        go_simp
        skip
        refine hK.out _ _ (by exact ⟨inferInstance, inferInstance⟩) (fun hHeld => ?_)
        try simp only [Act.put, List.setIfInBounds_toArray, List.set_cons_zero, List.set_cons_succ]
        refine wpAnyH_ready (rs := [15]) (by kernel_rfl) (by simp) (AllReadyH.cons rfl (fun K hK => ?_) AllReadyH.nil)
        go_simp
        skip
        refine hK.out _ _ (by exact ⟨inferInstance, inferInstance⟩) (fun hHeld => ?_)
        try simp only [Act.put, List.setIfInBounds_toArray, List.set_cons_zero, List.set_cons_succ]
        refine wpAnyH_take (i := 16) (v := ?_) (by simp only [List.getElem?_toArray, List.getElem?_cons_succ, List.getElem?_cons_zero] <;> rfl) (by kernel_rfl) (by kernel_rfl) (by kernel_rfl) (by exact fun _ _ _ h => h) (Or.inl ⟨by kernel_rfl, ?_⟩) (by assumption) ?_
        rotate_left
        · intro w' hSw; (try dsimp only at hSw); go_simp; try with_reducible rfl
        try simp only [Act.put, List.setIfInBounds_toArray, List.set_cons_zero, List.set_cons_succ]
        refine wpAnyH_done (by kernel_rfl) ?_ _
      case' r0_1_2_3_4_5_6_7_8_9_14 =>
        go_simp
        skip
        refine hK.out _ _ (by exact ⟨inferInstance, inferInstance⟩) (fun hHeld => ?_)
        try simp only [Act.put, List.setIfInBounds_toArray, List.set_cons_zero, List.set_cons_succ]
        refine wpAnyH_ready (rs := [10]) (by kernel_rfl) (by simp) (AllReadyH.cons rfl (fun K hK => ?_) AllReadyH.nil)
        go_simp
        (go_at_call 154; refine (impl_fillLeg H.out (hwb0.trans inferInstance) NF.out x' TI.out x.From x.To).mono ?_; rw [HY.out]; rintro e w2 ⟨rfl, L2⟩; have X2 := Later.trans (w := wb) inferInstance L2; have Z2 := Later.trans (w := wx) inferInstance L2; (try (have hBq : Blk w2 w1.heap.size 100 #[.int .i64 0, .int .i64 0, .int .i64 0, .int .i64 0, .int .i64 0] := Blk.later (w := (w1.alloc (.cells #[.int .i64 0, .int .i64 0, .int .i64 0, .int .i64 0, .int .i64 0] 100)).drew) (heap_new rfl) L2; have hcq := fun i => hBq.cell i; have hfq := fun i => hBq.frozen i)))
        refine hK.out _ _ (by exact ⟨inferInstance, inferInstance⟩) (fun hHeld => ?_)
        try simp only [Act.put, List.setIfInBounds_toArray, List.set_cons_zero, List.set_cons_succ]
        refine wpAnyH_take (i := 11) (v := ?_) (by simp only [List.getElem?_toArray, List.getElem?_cons_succ, List.getElem?_cons_zero] <;> rfl) (by kernel_rfl) (by kernel_rfl) (by kernel_rfl) (by exact fun _ _ _ h => h) (Or.inl ⟨by kernel_rfl, ?_⟩) (by assumption) ?_
        rotate_left
        · intro w' hSw; (try dsimp only at hSw); go_simp; try with_reducible rfl
        try simp only [Act.put, List.setIfInBounds_toArray, List.set_cons_zero, List.set_cons_succ]
        refine wpAnyH_take (i := 12) (v := ?_) (by simp only [List.getElem?_toArray, List.getElem?_cons_succ, List.getElem?_cons_zero] <;> rfl) (by kernel_rfl) (by kernel_rfl) (by kernel_rfl) (by exact fun _ _ _ h => h) (Or.inl ⟨by kernel_rfl, ?_⟩) (by assumption) ?_
        rotate_left
        · intro w' hSw; (try dsimp only at hSw); go_simp; try with_reducible rfl
        try simp only [Act.put, List.setIfInBounds_toArray, List.set_cons_zero, List.set_cons_succ]
        refine wpAnyH_take (i := 13) (v := ?_) (by simp only [List.getElem?_toArray, List.getElem?_cons_succ, List.getElem?_cons_zero] <;> rfl) (by kernel_rfl) (by kernel_rfl) (by kernel_rfl) (by exact fun _ _ _ h => h) (Or.inl ⟨by kernel_rfl, ?_⟩) (by assumption) ?_
        rotate_left
        · intro w' hSw; (try dsimp only at hSw); go_simp; try with_reducible rfl
        try simp only [Act.put, List.setIfInBounds_toArray, List.set_cons_zero, List.set_cons_succ]
        refine wpAnyH_ready (rs := [15]) (by kernel_rfl) (by simp) (AllReadyH.cons rfl (fun K hK => ?_) AllReadyH.nil)
        go_simp
        skip
        refine hK.out _ _ (by exact ⟨inferInstance, inferInstance⟩) (fun hHeld => ?_)
        try simp only [Act.put, List.setIfInBounds_toArray, List.set_cons_zero, List.set_cons_succ]
        refine wpAnyH_take (i := 16) (v := ?_) (by simp only [List.getElem?_toArray, List.getElem?_cons_succ, List.getElem?_cons_zero] <;> rfl) (by kernel_rfl) (by kernel_rfl) (by kernel_rfl) (by exact fun _ _ _ h => h) (Or.inl ⟨by kernel_rfl, ?_⟩) (by assumption) ?_
        rotate_left
        · intro w' hSw; (try dsimp only at hSw); go_simp; try with_reducible rfl
        try simp only [Act.put, List.setIfInBounds_toArray, List.set_cons_zero, List.set_cons_succ]
        refine wpAnyH_done (by kernel_rfl) ?_ _
      all_goals
        cases ok with
        | false =>
          have HN : Hid (okLegs t change ls = false) := okLegs_no (by rw [HF1.out, legAt_pre (by rw [HFO.out]; rfl)]; rfl)
          go_wp2
          go_ret
          exact ⟨ret_bool HN.out.symm, hww.trans inferInstance⟩
        | true =>
          by_cases hyx : y = x
          · have HFY : Hid (fillOk t x = true) := by show _ = _; rw [HFO.out, hyx]; simp
            subst hyx
            have HO2 : Hid (∀ (j : Nat) (z : Leg), j < k + 1 → ls[j]? = some z → fillOk t z = true) := fun j z hj hz => by
              by_cases e : j = k
              · subst e; rw [HX.out] at hz; cases hz; exact HFY.out
              · exact HO.out j z (by omega) hz
            by_cases hk0 : k = 0
            · have HF2 : Hid (allFrom (legAt t change ls) (ls.drop (k + 1)) (k + 1) = allFrom (legAt t change ls) ls 0) := by
                show _ = _
                rw [HF1.out, show legAt t change ls k y = true from by rw [hk0]; exact HFY.out]; rfl
              have e0 : ((k : Int) = 0) := by omega
              have e1 := (beqi_t e0).1
              clear hk0 HF1
              go_wp2
              go_roundw
              case rel => exact ⟨k + 1, by omega, by go_num, HF2, HO2, inferInstance⟩
              case measure => simp [intOf]; omega
            · obtain ⟨j, hj⟩ : ∃ j, k = j + 1 := ⟨k - 1, by omega⟩
              have e0 : ¬ ((k : Int) = 0) := by omega
              have e1 := (beqi_f e0).1
              have HJ := Lib.hid hj
              have hjl : j < ln := by omega
              obtain ⟨b8, o8, z, hA8, hz, hz0, hz1, hz2, hz3, hz4, _⟩ := Legs.at_ HLG.out hjl
              cases hA8
              have hzb := (legFacts TF.out (HO.out j z (by omega) hz.out)).arrive
              have hza := hzb.1
              have hzc := hzb.2
              have hwk : IntKind.i64.wrap ((k : Int) - 1) = (j : Int) := by rw [IntKind.wrap_i64]; omega
              have hwc : IntKind.i64.wrap (z.Arrive + change) = z.Arrive + change := by rw [IntKind.wrap_i64]; omega
              have HLA : Hid (legAt t change ls k y = (linkOk change z y && !((ls.take k).any (tripIs y.Trip)))) := by
                show _ = _
                rw [HJ.out]
                simp only [legAt, HFY.out, Bool.true_and]
                rw [show ls.getD j default = z from by simp [List.getD, hz.out]]
              have hk1 : k ≤ ln := by omega
              have hk2 : (0 : Int) ≤ (k : Int) := by omega
              have hk3 : (k : Int) ≤ (lc : Int) := by have := HLG.out.cap; omega
              have HTK := Lib.hid ((HLG.out.later hbx).take_ hk1)
              have HXC : Hid (∀ W [Later wx W], W.cell? ⟨wr.heap.size, 0, none⟩ = some (.int .i64 y.Trip)) := fun W hW => (HBX W 0)
              clear hk0 hj hz hzb
              by_cases c1 : y.From = z.To
              rotate_left
              · have HN : Hid (okLegs t change ls = false) := okLegs_no (by rw [HF1.out, HLA.out]; unfold linkOk; rw [decide_eq_false c1]; rfl)
                have e2 := (beqi_f c1).1
                go_wp2_with fail
                go_quiet (fail)
                go_wp2
                go_ret
                exact ⟨ret_bool HN.out.symm, hww.trans inferInstance⟩
              by_cases c2 : z.Arrive + change ≤ y.Depart
              rotate_left
              · have HN : Hid (okLegs t change ls = false) := okLegs_no (by rw [HF1.out, HLA.out]; unfold linkOk; rw [decide_eq_false c2]; simp)
                have e2 := (beqi_t c1).1
                have c3 : y.Depart < z.Arrive + change := by omega
                go_wp2_with fail
                go_quiet (fail)
                go_wp2
                go_ret
                exact ⟨ret_bool HN.out.symm, hww.trans inferInstance⟩
              have c3 : ¬ (y.Depart < z.Arrive + change) := by omega
              have e2 := (beqi_t c1).1
              obtain ⟨an, han⟩ : ∃ v, (ls.take k).any (tripIs y.Trip) = v := ⟨_, rfl⟩
              have HAN := Lib.hid han
              have HLA2 : Hid (legAt t change ls k y = !an) := by show _ = _; rw [HLA.out, han]; unfold linkOk; rw [decide_eq_true c1, decide_eq_true c2]; simp
              clear han HLA
              cases an with
              | true =>
                have HN : Hid (okLegs t change ls = false) := okLegs_no (by rw [HF1.out, HLA2.out]; rfl)
                go_wp2_with fail
                go_quiet (fail)
                go_wp2_with (go_at_call 155; refine (slices_ContainsLeg HTK.out inferInstance _ y.Trip HXC.out).mono ?_; rw [HAN.out]; rintro e w5 ⟨rfl, L5⟩; have X5 := Later.trans (w := wb) inferInstance L5)
                go_ret
                exact ⟨ret_bool HN.out.symm, hww.trans inferInstance⟩
              | false =>
                have HF2 : Hid (allFrom (legAt t change ls) (ls.drop (k + 1)) (k + 1) = allFrom (legAt t change ls) ls 0) := by show _ = _; rw [HF1.out, HLA2.out]; rfl
                go_wp2_with fail
                go_quiet (fail)
                go_wp2_with (go_at_call 155; refine (slices_ContainsLeg HTK.out inferInstance _ y.Trip HXC.out).mono ?_; rw [HAN.out]; rintro e w5 ⟨rfl, L5⟩; have X5 := Later.trans (w := wb) inferInstance L5)
                go_roundw
                case rel => exact ⟨k + 1, by omega, by go_num, HF2, HO2, inferInstance⟩
                case measure => simp [intOf]; omega
          · have HN : Hid (okLegs t change ls = false) := okLegs_no (by rw [HF1.out, legAt_pre (by rw [HFO.out, decide_eq_false hyx]; rfl)]; rfl)
            go_wp2
            all_goals first
              | (go_ret; exact ⟨ret_bool HN.out.symm, hww.trans inferInstance⟩)
              | (exfalso; apply hyx; cases y; cases x; simp_all)
    · have HE : Hid (okLegs t change ls = true) := HYES.out _ (by rw [← HF.out, List.drop_eq_nil_of_le (by have := Hln.out; omega)]; rfl)
      clear HF
      go_wp2
      go_ret
      exact ⟨ret_bool HE.out.symm, hww.trans inferInstance⟩
end Go.Proofs.Yteeeihnkofoagaa
