/-
  CatchTrips, in the program.
-/
import Derived.Test.YtaopadffabbjiaaCatP
import Derived.Test.YtaopadffabbjiaaStabI
import Derived.Test.YtaopadffabbjiaaWalkI
import Derived.Test.YtaopadffabbjiaaWalkU
import Derived.Test.YtaopadffabbjiaaTimeE
import Derived.Test.YtaopadffabbjiaaTimeC
namespace Go.Proofs.Ytaopadffabbjiaa
open Go Go.RowKit
set_option linter.unusedVariables false
set_option maxRecDepth 100000
set_option linter.unusedSimpArgs false
theorem own_shapeC {w : World} {base : Nat} {e : TypeId} {sz n : Nat} {v : Value} {xs : List Value} (h : w.ownsRow base e sz v n xs) : ∃ A c, v = .slice A n c ∧ c ≤ 9223372036854775807 := by
  rcases h.2 with ⟨rfl, rfl⟩ | ⟨g, cap, cur, rfl, hb, hg, hnc, hcm, _⟩
  · exact ⟨none, 0, rfl, by omega⟩
  · exact ⟨_, cap, rfl, by simpa [maxLen] using hcm⟩
theorem RowC.of_own {w : World} {base : Nat} {e : TypeId} {v : Value} {n : Nat} {l : List Connection} (h : w.ownsRow base e 4 v n (l.flatMap encCn)) (hl : n = l.length) (hn : 0 < n) : ∃ g c, v = .slice (some ⟨g, 0, none⟩) n c ∧ RowC w g l ∧ base ≤ g ∧ n ≤ c ∧ c ≤ 9223372036854775807 := by
  rcases h.2 with ⟨_, h0⟩ | ⟨g, cap, cur, h1, hb, hg, hnc, hcm, hcs, htk⟩
  · omega
  · refine ⟨g, cap, h1, ⟨e, cur, hg, fun k x hx => ?_⟩, hb, hnc, by simpa [maxLen] using hcm⟩
    have key : ∀ (j : Nat) (u : Value), (encCn x)[j]? = some u → cur[k * 4 + j]? = some u := fun j u hu => by
      have h2 := flat_at (encCnE).len l hx hu
      rw [← htk, List.getElem?_take] at h2
      split at h2
      · simpa using h2
      · cases h2
    exact ⟨key 0 _ rfl, key 1 _ rfl, key 2 _ rfl, key 3 _ rfl⟩
theorem RowC.osl {w : World} {g n c : Nat} {l : List Connection} (h : RowC w g l) (hn : n = l.length) (hc : n ≤ c) (hm : c ≤ 9223372036854775807) (hok : ∀ x, x ∈ l → ConnectionOk x) : OSl 4 oConnection w (some ⟨g, 0, none⟩) n c l [g] := by
  obtain ⟨t, cs, hb, hcs⟩ := h
  refine ⟨hn, hc, hm, .inr ⟨g, 0, t, cs, List.replicate l.length [], rfl, hb, by simp, by simp, fun k x hx => ?_⟩⟩
  refine ⟨encCn x, [], by rw [List.getElem?_replicate, if_pos (List.getElem?_eq_some_iff.1 hx).1], rfl, fun j v hv => ?_, fun W => ⟨rfl, hok x (List.mem_of_getElem? hx)⟩, rfl⟩
  obtain ⟨h0, h1, h2, h3⟩ := hcs k x hx
  match j, hv with
  | 0, hv => simp [encCn] at hv; subst hv; simpa using h0
  | 1, hv => simp [encCn] at hv; subst hv; simpa using h1
  | 2, hv => simp [encCn] at hv; subst hv; simpa using h2
  | 3, hv => simp [encCn] at hv; subst hv; simpa using h3
set_option maxHeartbeats 2000000 in
theorem slices_insC0 {w : World} {A : Option Addr} {c : Nat} :
    Calls Try.prog 138 #[.slice A 0 c, .int .i64 0, .int .i64 0, .func (.func 69) #[] #[]] w (fun e w' => (∃ v, e = .returned v) ∧ Later w w') := by
  go_enter Try.func138, Try.ntmps138
  go_wp2_with fail
  go_loopw [8] (fun iv wr => iv = .int .i64 1 ∧ Later w wr) (fun _ _ => 0)
  case atStart => exact ⟨rfl, inferInstance⟩
  case round =>
    obtain ⟨rfl, hX⟩ := hrel
    go_wp2
    go_end0
    exact ⟨⟨_, rfl⟩, inferInstance⟩
set_option maxHeartbeats 2000000 in
theorem slices_stableC0 {w : World} {A : Option Addr} {c : Nat} :
    Calls Try.prog 114 #[.slice A 0 c, .int .i64 0, .func (.func 69) #[] #[]] w (fun e w' => (∃ v, e = .returned v) ∧ Later w w') := by
  go_enter Try.func114, Try.ntmps114
  go_wp2_with fail
  go_loopw [7, 8] (fun av bv wr => av = .int .i64 0 ∧ bv = .int .i64 20 ∧ wr = w) (fun _ _ _ => 0)
  case atStart => exact ⟨rfl, rfl, rfl⟩
  case round =>
    obtain ⟨rfl, rfl, rfl⟩ := hrel
    go_wp2_with (go_at_call 138; refine slices_insC0.mono ?_; rintro e w4 ⟨⟨v, rfl⟩, L4⟩)
    go_loopw [6] (fun bv wr => bv = .int .i64 20 ∧ wr = w4) (fun _ _ => 0)
    case atStart => exact ⟨rfl, rfl⟩
    case round =>
      obtain ⟨rfl, rfl⟩ := hrel
      go_wp2
      go_end0
      exact ⟨⟨_, rfl⟩, L4⟩
set_option maxHeartbeats 2000000 in
theorem slices_SortStable0 {w : World} {A : Option Addr} {c : Nat} :
    Calls Try.prog 68 #[.slice A 0 c, .func (.func 69) #[] #[]] w (fun e w' => (∃ v, e = .returned v) ∧ Later w w') := by
  go_enter Try.func68, Try.ntmps68
  go_wp2_with (go_at_call 114; refine slices_stableC0.mono ?_; rintro e w4 ⟨⟨v, rfl⟩, L4⟩)
  go_end0
  exact ⟨⟨_, rfl⟩, L4⟩
set_option maxHeartbeats 8000000 in
theorem impl_CatchTrips {w0 w : World} {sA0 : Option Addr} {sn0 sc0 : Nat} {sA1 : Option Addr} {sn1 sc1 : Nat} {sA2 : Option Addr} {sn2 sc2 : Nat} {t : Timetable} (h : TimetableAt w0 sA0 sn0 sc0 sA1 sn1 sc1 sA2 sn2 sc2 t) (hl : Later w0 w) {w2 : World} {lA : Option Addr} {ln lc : Nat} {l : List Walk} (h2 : Walks w2 lA ln lc l) (hl2 : Later w2 w) (stop time : Int) : Calls Try.prog 22 #[.agg #[.slice sA0 sn0 sc0, .slice sA1 sn1 sc1, .slice sA2 sn2 sc2], .slice lA ln lc, .int .i64 stop, .int .i64 time] w (RetO2 4 oConnection (catRes t l stop time).1 (catRes t l stop time).2 w) := by
  replace h2 := h2.later hl2
  have hS0 := h.l_Network_Stops
  have Hl := Lib.hid hS0.len
  have hT0 := h.l_Trips.later hl
  have hT2 := hT0.le
  have HT2 := Lib.hid hT0.len
  clear hS0
  have HB0 : ∀ W [Later (w.alloc (.cells #[.slice sA0 sn0 sc0, .slice sA1 sn1 sc1, .slice sA2 sn2 sc2] 41)) W] (j : Nat), W.cell? ⟨w.heap.size, j, none⟩ = #[.slice sA0 sn0 sc0, .slice sA1 sn1 sc1, .slice sA2 sn2 sc2][j]? := Later.boxes (t := 41) (fr := (0, 0)) (heap_new (by simp; try omega)); obtain ⟨wb, hwb⟩ : ∃ wb : World, wb = (w.alloc (.cells #[.slice sA0 sn0 sc0, .slice sA1 sn1 sc1, .slice sA2 sn2 sc2] 41)) := ⟨_, rfl⟩; haveI hbW : Later wb (w.alloc (.cells #[.slice sA0 sn0 sc0, .slice sA1 sn1 sc1, .slice sA2 sn2 sc2] 41)) := (by rw [hwb]; exact Later.rfl_); haveI hww : Later w wb := (by rw [hwb]; infer_instance); rw [← hwb] at HB0; have hbE := Lib.hid (congrArg (fun x : World => x.heap.size) hwb); clear hwb
  have hwb0 := hl.trans hww
  have H := Lib.hid h
  clear h
  have hsz : w.heap.size ≤ wb.heap.size := hww.size
  have HTS := Lib.hid (hT0.later hww)
  have HL2 := Lib.hid (h2.later hww)
  clear h2 hT0
  by_cases b1 : okTimetable t = true
  rotate_left
  · have g1 : okTimetable t = false := by simpa using b1
    have HR := Lib.hid (show catRes t l stop time = ([], false) from if_neg (fun e => b1 e.1))
    rw [HR.out]
    go_enter Try.func22, Try.ntmps22
    go_wp2_with first
      | (go_at_call 61; refine (impl_IsValidTimetable H.out (hwb0.trans inferInstance)).mono ?_; rintro e w1 ⟨rfl, L1⟩; have X1 := Later.trans (w := wb) inferInstance L1)
      | (go_at_call 62; refine (impl_areWalks (r := t.Network) ⟨H.out.l_Network_Stops, H.out.l_Network_Lines⟩ (hwb0.trans inferInstance) HL2.out inferInstance).mono ?_; rintro e w2 ⟨rfl, L2⟩; have X2 := Later.trans (w := wb) inferInstance L2)
      | (go_at_call 63; refine (impl_isStop (r := t.Network) ⟨H.out.l_Network_Stops, H.out.l_Network_Lines⟩ (hwb0.trans inferInstance) _).mono ?_; rintro e w3 ⟨rfl, L3⟩; have X3 := Later.trans (w := wb) inferInstance L3)
      | (go_at_call 64; refine (impl_IsValidTime _ _).mono ?_; rintro e w' ⟨rfl, rfl⟩)
    go_ret2
    exact ⟨_, _, _, [], rfl, OSl.nil_ _, by simp, by simp, hww.trans inferInstance⟩
  by_cases b2 : okWalks t.Network.Stops.length l = true
  rotate_left
  · have g2 : okWalks t.Network.Stops.length l = false := by simpa using b2
    have HR := Lib.hid (show catRes t l stop time = ([], false) from if_neg (fun e => b2 e.2.1))
    rw [HR.out]
    go_enter Try.func22, Try.ntmps22
    go_wp2_with first
      | (go_at_call 61; refine (impl_IsValidTimetable H.out (hwb0.trans inferInstance)).mono ?_; rintro e w1 ⟨rfl, L1⟩; have X1 := Later.trans (w := wb) inferInstance L1)
      | (go_at_call 62; refine (impl_areWalks (r := t.Network) ⟨H.out.l_Network_Stops, H.out.l_Network_Lines⟩ (hwb0.trans inferInstance) HL2.out inferInstance).mono ?_; rintro e w2 ⟨rfl, L2⟩; have X2 := Later.trans (w := wb) inferInstance L2)
      | (go_at_call 63; refine (impl_isStop (r := t.Network) ⟨H.out.l_Network_Stops, H.out.l_Network_Lines⟩ (hwb0.trans inferInstance) _).mono ?_; rintro e w3 ⟨rfl, L3⟩; have X3 := Later.trans (w := wb) inferInstance L3)
      | (go_at_call 64; refine (impl_IsValidTime _ _).mono ?_; rintro e w' ⟨rfl, rfl⟩)
    go_ret2
    exact ⟨_, _, _, [], rfl, OSl.nil_ _, by simp, by simp, hww.trans inferInstance⟩
  by_cases b3 : inB stop 0 ((t.Network.Stops.length : Int) - 1) = true
  rotate_left
  · have g3 : inB stop 0 ((t.Network.Stops.length : Int) - 1) = false := by simpa using b3
    have HR := Lib.hid (show catRes t l stop time = ([], false) from if_neg (fun e => b3 e.2.2.1))
    rw [HR.out]
    go_enter Try.func22, Try.ntmps22
    go_wp2_with first
      | (go_at_call 61; refine (impl_IsValidTimetable H.out (hwb0.trans inferInstance)).mono ?_; rintro e w1 ⟨rfl, L1⟩; have X1 := Later.trans (w := wb) inferInstance L1)
      | (go_at_call 62; refine (impl_areWalks (r := t.Network) ⟨H.out.l_Network_Stops, H.out.l_Network_Lines⟩ (hwb0.trans inferInstance) HL2.out inferInstance).mono ?_; rintro e w2 ⟨rfl, L2⟩; have X2 := Later.trans (w := wb) inferInstance L2)
      | (go_at_call 63; refine (impl_isStop (r := t.Network) ⟨H.out.l_Network_Stops, H.out.l_Network_Lines⟩ (hwb0.trans inferInstance) _).mono ?_; rintro e w3 ⟨rfl, L3⟩; have X3 := Later.trans (w := wb) inferInstance L3)
      | (go_at_call 64; refine (impl_IsValidTime _ _).mono ?_; rintro e w' ⟨rfl, rfl⟩)
    go_ret2
    exact ⟨_, _, _, [], rfl, OSl.nil_ _, by simp, by simp, hww.trans inferInstance⟩
  by_cases b4 : okTime time = true
  rotate_left
  · have g4 : okTime time = false := by simpa using b4
    have HR := Lib.hid (show catRes t l stop time = ([], false) from if_neg (fun e => b4 e.2.2.2))
    rw [HR.out]
    go_enter Try.func22, Try.ntmps22
    go_wp2_with first
      | (go_at_call 61; refine (impl_IsValidTimetable H.out (hwb0.trans inferInstance)).mono ?_; rintro e w1 ⟨rfl, L1⟩; have X1 := Later.trans (w := wb) inferInstance L1)
      | (go_at_call 62; refine (impl_areWalks (r := t.Network) ⟨H.out.l_Network_Stops, H.out.l_Network_Lines⟩ (hwb0.trans inferInstance) HL2.out inferInstance).mono ?_; rintro e w2 ⟨rfl, L2⟩; have X2 := Later.trans (w := wb) inferInstance L2)
      | (go_at_call 63; refine (impl_isStop (r := t.Network) ⟨H.out.l_Network_Stops, H.out.l_Network_Lines⟩ (hwb0.trans inferInstance) _).mono ?_; rintro e w3 ⟨rfl, L3⟩; have X3 := Later.trans (w := wb) inferInstance L3)
      | (go_at_call 64; refine (impl_IsValidTime _ _).mono ?_; rintro e w' ⟨rfl, rfl⟩)
    go_ret2
    exact ⟨_, _, _, [], rfl, OSl.nil_ _, by simp, by simp, hww.trans inferInstance⟩
  have tf := timeFacts b1
  have TF := Lib.hid tf
  have WF := Lib.hid (walkFacts b2)
  have d3 := inB_t.1 b3
  have d4 := inB_t.1 (show inB time 0 1799 = true from b4)
  have hti0 := d4.1
  have hti1 := d4.2
  obtain ⟨q, rfl⟩ := Int.eq_ofNat_of_zero_le d3.1
  have hqs : q < t.Network.Stops.length := by omega
  have hsn0 : t.Network.Stops.length ≤ 8 := by have := tf.net.stops; omega
  obtain ⟨row, hrow⟩ : ∃ row, (fwT t.Network.Stops.length l).getD q [] = row := ⟨_, rfl⟩
  have HR := Lib.hid (show catRes t l q time = (sortC (catL t row time), true) from by unfold catRes; rw [if_pos ⟨b1, b2, b3, b4⟩, Int.toNat_natCast, hrow])
  have HRW := Lib.hid hrow
  rw [HR.out]
  have h12 : sn2 ≤ 12 := by have := tf.len; have := HT2.out; omega
  clear d3 d4 tf hrow
  go_enter Try.func22, Try.ntmps22
  go_wp2_with first
    | (go_at_call 61; refine (impl_IsValidTimetable H.out (hwb0.trans inferInstance)).mono ?_; rintro e w1 ⟨rfl, L1⟩; have X1 := Later.trans (w := wb) inferInstance L1)
    | (go_at_call 62; refine (impl_areWalks (r := t.Network) ⟨H.out.l_Network_Stops, H.out.l_Network_Lines⟩ (hwb0.trans inferInstance) HL2.out inferInstance).mono ?_; rintro e w2 ⟨rfl, L2⟩; have X2 := Later.trans (w := wb) inferInstance L2)
    | (go_at_call 63; refine (impl_isStop (r := t.Network) ⟨H.out.l_Network_Stops, H.out.l_Network_Lines⟩ (hwb0.trans inferInstance) _).mono ?_; rintro e w3 ⟨rfl, L3⟩; have X3 := Later.trans (w := wb) inferInstance L3)
    | (go_at_call 64; refine (impl_IsValidTime _ _).mono ?_; rintro e w' ⟨rfl, rfl⟩)
    | (go_at_call 65; refine (impl_walkTable (r := t.Network) ⟨H.out.l_Network_Stops, H.out.l_Network_Lines⟩ (hwb0.trans inferInstance) HL2.out inferInstance WF.out hsn0).mono ?_; rintro e w7 ⟨A7, n7, c7, rfl, h7, L7⟩; have X7 := Later.trans (w := wb) inferInstance L7; have hsh := (tab_T WF.out hsn0).sh; have hn7 : n7 = t.Network.Stops.length := (by rw [h7.len]; exact hsh.len); have hq7 : q < n7 := (by omega); have hq7i : (q : Int) < n7 := (by omega); obtain ⟨b7, o7, A6, m6, c6, rowx, hA7, hrx, hc7, hI7⟩ := Sl.row_ h7 (k := q) hq7; subst hA7; have hrr : rowx = row := (by rw [← HRW.out, List.getD_eq_getElem?_getD, hrx.out]; rfl); subst hrr; have HI7 := Lib.hid hI7; have hm6 : m6 = t.Network.Stops.length := (by rw [hI7.len, ← HRW.out]; exact hsh.row q hqs); have HM6 := Lib.hid hm6; clear h7 hsh hrx hI7 hm6 hn7)
  clear b1 b2 b3 b4
  go_loopw [11, 50] (fun ov iv wr => ∃ (k : Nat) (v0 : Value), k ≤ sn2 ∧ iv = .int .i64 k ∧ v0 = ov ∧ Hid (wr.ownsRow w7.heap.size 101 4 v0 ((t.Trips.take k).filterMap (catOf t rowx time)).length (((t.Trips.take k).filterMap (catOf t rowx time)).flatMap encCn)) ∧ Later wb wr ∧ Later w7 wr) (fun _ iv _ => sn2 - (intOf iv).toNat)
  case atStart => exact ⟨0, _, by omega, rfl, rfl, Lib.hid (World.ownsRow_nil _ _ _ _), inferInstance, inferInstance⟩
  case round =>
    obtain ⟨k, v0, hk, rfl, rfl, hown, hX, hY⟩ := hrel
    by_cases hkn : k < sn2
    · obtain ⟨bt, ot, x, hA, hx', hc0, hc1, hc2, _⟩ := Trips.at_ HTS.out hkn
      have hx := hx'.out
      have HX := Lib.hid hx
      have TI := Lib.hid (TF.out.trip k x hx).in_
      have lf := Lib.hid (lineAtT_facts TF.out.net TI.out.line0 TI.out.line1)
      have HCS := Lib.hid (cat_step (row := rowx) (time := time) hx)
      have hln := cat_len (t := t) (row := rowx) (time := time) k
      have hki : (k : Int) < sn2 := by omega
      obtain ⟨D, hD⟩ : ∃ D, (t.Trips.take k).filterMap (catOf t rowx time) = D := ⟨_, rfl⟩
      rw [hD] at hown hln
      have HCS2 : Hid ((t.Trips.take (k + 1)).filterMap (catOf t rowx time) = D ++ (catOf t rowx time x).toList) := by show _ = _; rw [HCS.out, hD]
      subst hA
      clear hx hx' hD HCS
      go_wp2_with fail
      obtain ⟨wy, hwy⟩ : ∃ W : World, W = wr.alloc (.cells #[.int .i64 x.Id, .int .i64 x.Line, .int .i64 x.Start] 99) := ⟨_, rfl⟩
      rw [← hwy]
      have hbox : Blk wy wr.heap.size 99 #[.int .i64 x.Id, .int .i64 x.Line, .int .i64 x.Start] := by rw [hwy]; exact Blk.new _ _ _
      haveI hry : Later wr wy := by rw [hwy]; infer_instance
      haveI hby : Later wb wy := Later.trans hX hry
      haveI h7y : Later w7 wy := Later.trans hY hry
      obtain ⟨gx, hgx⟩ : ∃ g : Nat, g = wr.heap.size := ⟨_, rfl⟩
      rw [← hgx] at hbox ⊢
      obtain ⟨hX0, hX1, hX2⟩ := hbox.threeC
      clear hwy hgx hbox
      have hfl := field_Line1
      refine wp_region_held_drew (S := (fun w' => Later wb w' ∧ Later w7 w' ∧ Later wy w')) (by kernel_rfl) (by exact ⟨inferInstance, inferInstance, inferInstance⟩) (fun hHeld => ?_)
      refine wpAnyH_take (i := 0) (v := ?_) (by simp only [List.getElem?_toArray, List.getElem?_cons_zero] <;> rfl) (by kernel_rfl) (by kernel_rfl) (by kernel_rfl) (by exact fun _ _ _ h => h) (Or.inl ⟨by kernel_rfl, ?_⟩) (by assumption) ?_
      rotate_left
      · intro w' hSw; (try dsimp only at hSw); go_simp; try with_reducible rfl
      try simp only [Act.put, List.setIfInBounds_toArray, List.set_cons_zero, List.set_cons_succ]
      refine wpAnyH_take (i := 1) (v := ?_) (by simp only [List.getElem?_toArray, List.getElem?_cons_succ, List.getElem?_cons_zero] <;> rfl) (by kernel_rfl) (by kernel_rfl) (by kernel_rfl) (by exact fun _ _ _ h => h) (Or.inl ⟨by kernel_rfl, ?_⟩) (by assumption) ?_
      rotate_left
      · intro w' hSw; (try dsimp only at hSw); go_simp; try with_reducible rfl
      try simp only [Act.put, List.setIfInBounds_toArray, List.set_cons_zero, List.set_cons_succ]
      refine wpAnyH_take (i := 4) (v := ?_) (by simp only [List.getElem?_toArray, List.getElem?_cons_succ, List.getElem?_cons_zero] <;> rfl) (by kernel_rfl) (by kernel_rfl) (by kernel_rfl) (by exact fun _ _ _ h => h) (Or.inl ⟨by kernel_rfl, ?_⟩) (by assumption) ?_
      rotate_left
      · intro w' hSw; (try dsimp only at hSw); go_simp; try with_reducible rfl
      try simp only [Act.put, List.setIfInBounds_toArray, List.set_cons_zero, List.set_cons_succ]
      refine wpAnyH_take (i := 5) (v := ?_) (by simp only [List.getElem?_toArray, List.getElem?_cons_succ, List.getElem?_cons_zero] <;> rfl) (by kernel_rfl) (by kernel_rfl) (by kernel_rfl) (by exact fun _ _ _ h => h) (Or.inl ⟨by kernel_rfl, ?_⟩) (by assumption) ?_
      rotate_left
      · intro w' hSw; (try dsimp only at hSw); go_simp; try with_reducible rfl
      try simp only [Act.put, List.setIfInBounds_toArray, List.set_cons_zero, List.set_cons_succ]
      refine wpAnyH_ready (rs := [2]) (by kernel_rfl) (by simp) (AllReadyH.cons rfl (fun K hK => ?_) AllReadyH.nil)
      go_simp
      (go_at_call 66; (refine (impl_lineOf H.out (hwb0.trans inferInstance) x TI.out.line0 TI.out.line1).mono ?_; rintro e w8 ⟨B0, m0, d0, B1, m1, d1, rfl, hy, L8⟩; have X8 := Later.trans (w := wb) inferInstance L8; have K8 := Later.trans (w := w7) inferInstance L8; have Y8 := Later.trans (w := wy) inferInstance L8; have HSB : Hid (Ints wb B0 m0 d0 (lineAtT t x.Line).Stops) := Lib.hid (hy.l_Stops.later hwb0); clear hy))
      refine hK.out _ _ (by exact ⟨inferInstance, inferInstance, inferInstance⟩) (fun hHeld => ?_)
      try simp only [Act.put, List.setIfInBounds_toArray, List.set_cons_zero, List.set_cons_succ]
      refine wpAnyH_take (i := 3) (v := ?_) (by simp only [List.getElem?_toArray, List.getElem?_cons_succ, List.getElem?_cons_zero] <;> rfl) (by kernel_rfl) (by kernel_rfl) (by kernel_rfl) (by exact fun _ _ _ h => h) (Or.inl ⟨by kernel_rfl, ?_⟩) (by assumption) ?_
      rotate_left
      · intro w' hSw; (try dsimp only at hSw); go_simp; try with_reducible rfl
      try simp only [Act.put, List.setIfInBounds_toArray, List.set_cons_zero, List.set_cons_succ]
      refine wpAnyH_ready (rs := [6]) (by kernel_rfl) (by simp) (AllReadyH.cons rfl (fun K hK => ?_) AllReadyH.nil)
      go_simp
      (go_at_call 67; (refine (impl_stopTimes H.out (hwb0.trans inferInstance) TF.out.net x TI.out).mono ?_; rintro e w9 ⟨A9, n9, c9, f9, rfl, o9, nd9, lo9, L9⟩; have X9 := Later.trans (w := wb) inferInstance L9; have K9 := Later.trans (w := w7) inferInstance L9; have Y9 := Later.trans (w := wy) inferInstance L9; have H9 : Hid (Ints w9 A9 n9 c9 (timesOf t x)) := Lib.hid o9.reads; clear o9 nd9 lo9))
      refine hK.out _ _ (by exact ⟨inferInstance, inferInstance, inferInstance⟩) (fun hHeld => ?_)
      try simp only [Act.put, List.setIfInBounds_toArray, List.set_cons_zero, List.set_cons_succ]
      refine wpAnyH_take (i := 7) (v := ?_) (by simp only [List.getElem?_toArray, List.getElem?_cons_succ, List.getElem?_cons_zero] <;> rfl) (by kernel_rfl) (by kernel_rfl) (by kernel_rfl) (by exact fun _ _ _ h => h) (Or.inl ⟨by kernel_rfl, ?_⟩) (by assumption) ?_
      rotate_left
      · intro w' hSw; (try dsimp only at hSw); go_simp; try with_reducible rfl
      try simp only [Act.put, List.setIfInBounds_toArray, List.set_cons_zero, List.set_cons_succ]
      refine wpAnyH_take (i := 8) (v := ?_) (by simp only [List.getElem?_toArray, List.getElem?_cons_succ, List.getElem?_cons_zero] <;> rfl) (by kernel_rfl) (by kernel_rfl) (by kernel_rfl) (by exact fun _ _ _ h => h) (Or.inl ⟨by kernel_rfl, ?_⟩) (by assumption) ?_
      rotate_left
      · intro w' hSw; (try dsimp only at hSw); go_simp; try with_reducible rfl
      try simp only [Act.put, List.setIfInBounds_toArray, List.set_cons_zero, List.set_cons_succ]
      refine wpAnyH_done (by kernel_rfl) ?_ _
      have hmb : m0 = (lineAtT t x.Line).Stops.length := HSB.out.len
      have hmb6 : 2 ≤ m0 ∧ m0 ≤ 6 := by have := lf.out.stops; omega
      obtain ⟨nq, hnq⟩ : ∃ nq, m0 = nq + 1 := ⟨m0 - 1, by omega⟩
      have hwnq : IntKind.i64.wrap ((m0 : Int) - 1) = (nq : Int) := by rw [IntKind.wrap_i64]; omega
      have h9l : n9 = m0 := by rw [H9.out.len, timesOf_len, hmb]; exact lf.out.runs
      have HMB := Lib.hid hmb
      have HNQ := Lib.hid hnq
      have H9L := Lib.hid h9l
      have HCF : Hid ((List.range nq).findSome? (catAt t rowx time x) = catOf t rowx time x) := by show _ = _; unfold catOf; rw [← HMB.out, hnq]; rfl
      clear hmb hnq h9l
      haveI hr9 : Later wr w9 := Later.trans hry Y9
      go_wp2_with fail
      go_loopw [11, 64] (fun ov pv wr => ∃ p : Nat, p ≤ nq ∧ pv = .int .i64 p ∧ v0 = ov ∧ Hid (((List.range nq).drop p).findSome? (catAt t rowx time x) = catOf t rowx time x) ∧ Hid (wr.ownsRow w7.heap.size 101 4 v0 D.length (D.flatMap encCn)) ∧ Later wb wr ∧ Later w7 wr ∧ Later w9 wr) (fun _ pv _ => nq - (intOf pv).toNat)
      case atStart => exact ⟨0, by omega, rfl, rfl, by show _ = _; rw [List.drop_zero]; exact HCF.out, Lib.hid (ownsRow_later hown.out (inferInstance : Later wr _)), inferInstance, inferInstance, inferInstance⟩
      case round =>
        obtain ⟨p, hp, rfl, rfl, HF, hown, hX, hY, hZ⟩ := hrel
        haveI hWy : Later wy wr := Later.trans Y9 hZ
        by_cases hpq : p < nq
        · obtain ⟨bb, ob, y, hA, hy, hcr, _⟩ := Ints.at_ HSB.out (k := p) (by have := HNQ.out; omega)
          obtain ⟨s, hs1, hs2, hs3, ht0, ht1⟩ := stop_time TF.out HX.out (p := p) (by rw [← HMB.out]; have := HNQ.out; omega)
          have hys : y = (s : Int) := Option.some.inj (hy.out.symm.trans hs1)
          rw [hys] at hcr
          have hpi : (p : Int) < nq := by omega
          have hpm : p < m0 := by have := HNQ.out; omega
          have hpmi : (p : Int) < m0 := by omega
          obtain ⟨τ, hτ⟩ : ∃ v, timeAt t x p = v := ⟨_, rfl⟩
          rw [hτ] at ht0 ht1
          have HTP : Hid ((timesOf t x)[p]? = some τ) := by show _ = _; rw [timesOf_at (by have := lf.out.runs; have := HMB.out; omega), hτ]
          have hpn9 : p < n9 := by have := H9L.out; omega
          have hpn9i : (p : Int) < n9 := by omega
          obtain ⟨bq, oq, z, hA9, hz9, hcq, _⟩ := Ints.at_ H9.out hpn9
          have hzτ : z = τ := Option.some.inj (hz9.out.symm.trans HTP.out)
          rw [hzτ] at hcq
          have hsm : s < m6 := by have := HM6.out; omega
          have hsmi : (s : Int) < m6 := by omega
          obtain ⟨b8, o8, v, hA8, hv8, hcv, _⟩ := Ints.at_ HI7.out (k := s) hsm
          have HT3 := Lib.hid hτ
          have HS3 := Lib.hid hs3
          have hvr : rowx.getD s 0 = v := by rw [List.getD_eq_getElem?_getD, hv8.out]; rfl
          have HV3 := Lib.hid hvr
          have htb := tab_T (k := t.Network.Stops.length) (l := l) WF.out hsn0
          have hpw := pow_le (M := t.Network.Stops.length) hsn0
          have hvlo := htb.lo q s hqs hs2
          have hvhi := htb.hi q s hqs hs2
          have htg : tg (fwT t.Network.Stops.length l) q s = v := by unfold tg; rw [HRW.out]; exact hvr
          rw [htg] at hvlo hvhi
          have hv30 : v ≤ 30720 := by omega
          have hwv : IntKind.i64.wrap (time + v) = time + v := by rw [IntKind.wrap_i64]; omega
          subst hA
          subst hA9
          subst hA8
          clear hy hs1 hs3 hτ hz9 hv8 hvr htb hpw hvhi htg hys hzτ
          by_cases c1 : 0 ≤ v
          rotate_left
          · have c1d : decide (0 ≤ v) = false := decide_eq_false c1
            have HF2 : Hid (((List.range nq).drop (p + 1)).findSome? (catAt t rowx time x) = catOf t rowx time x) := by
              have h9 := HF.out
              rw [find_step hpq, (catAt_no HS3.out HV3.out HT3.out (fun e => c1 e.1))] at h9
              exact h9
            clear HF
            go_wp2_with fail
            refine wp_region_held_drew (S := (fun w' => Later wb w' ∧ Later w7 w' ∧ Later w9 w' ∧ Later wr w' ∧ Later wy w')) (by kernel_rfl) (by exact ⟨inferInstance, inferInstance, inferInstance, inferInstance, inferInstance⟩) (fun hHeld => ?_)
            refine wpAnyH_take (i := 0) (v := ?_) (by simp only [List.getElem?_toArray, List.getElem?_cons_zero] <;> rfl) (by kernel_rfl) (by kernel_rfl) (by kernel_rfl) (by exact fun _ _ _ h => h) (Or.inl ⟨by kernel_rfl, ?_⟩) (by assumption) ?_
            rotate_left
            · intro w' hSw; (try dsimp only at hSw); go_simp; try with_reducible rfl
            try simp only [Act.put, List.setIfInBounds_toArray, List.set_cons_zero, List.set_cons_succ]
            refine wpAnyH_take (i := 1) (v := ?_) (by simp only [List.getElem?_toArray, List.getElem?_cons_succ, List.getElem?_cons_zero] <;> rfl) (by kernel_rfl) (by kernel_rfl) (by kernel_rfl) (by exact fun _ _ _ h => h) (Or.inl ⟨by kernel_rfl, ?_⟩) (by assumption) ?_
            rotate_left
            · intro w' hSw; (try dsimp only at hSw); go_simp; try with_reducible rfl
            try simp only [Act.put, List.setIfInBounds_toArray, List.set_cons_zero, List.set_cons_succ]
            refine wpAnyH_take (i := 2) (v := ?_) (by simp only [List.getElem?_toArray, List.getElem?_cons_succ, List.getElem?_cons_zero] <;> rfl) (by kernel_rfl) (by kernel_rfl) (by kernel_rfl) (by exact fun _ _ _ h => h) (Or.inl ⟨by kernel_rfl, ?_⟩) (by assumption) ?_
            rotate_left
            · intro w' hSw; (try dsimp only at hSw); go_simp; try with_reducible rfl
            try simp only [Act.put, List.setIfInBounds_toArray, List.set_cons_zero, List.set_cons_succ]
            refine wpAnyH_take (i := 3) (v := ?_) (by simp only [List.getElem?_toArray, List.getElem?_cons_succ, List.getElem?_cons_zero] <;> rfl) (by kernel_rfl) (by kernel_rfl) (by kernel_rfl) (by exact fun _ _ _ h => h) (Or.inl ⟨by kernel_rfl, ?_⟩) (by assumption) ?_
            rotate_left
            · intro w' hSw; (try dsimp only at hSw); go_simp; try with_reducible rfl
            try simp only [Act.put, List.setIfInBounds_toArray, List.set_cons_zero, List.set_cons_succ]
            refine wpAnyH_take (i := 4) (v := ?_) (by simp only [List.getElem?_toArray, List.getElem?_cons_succ, List.getElem?_cons_zero] <;> rfl) (by kernel_rfl) (by kernel_rfl) (by kernel_rfl) (by exact fun _ _ _ h => h) (Or.inl ⟨by kernel_rfl, ?_⟩) (by assumption) ?_
            rotate_left
            · intro w' hSw; (try dsimp only at hSw); go_simp; try with_reducible rfl
            try simp only [Act.put, List.setIfInBounds_toArray, List.set_cons_zero, List.set_cons_succ]
            refine wpAnyH_take (i := 5) (v := ?_) (by simp only [List.getElem?_toArray, List.getElem?_cons_succ, List.getElem?_cons_zero] <;> rfl) (by kernel_rfl) (by kernel_rfl) (by kernel_rfl) (by exact fun _ _ _ h => h) (Or.inl ⟨by kernel_rfl, ?_⟩) (by assumption) ?_
            rotate_left
            · intro w' hSw; (try dsimp only at hSw); go_simp; try with_reducible rfl
            try simp only [Act.put, List.setIfInBounds_toArray, List.set_cons_zero, List.set_cons_succ]
            refine wpAnyH_take (i := 6) (v := undef) (by simp only [List.getElem?_toArray, List.getElem?_cons_succ, List.getElem?_cons_zero] <;> rfl) (by kernel_rfl) (by kernel_rfl) (by kernel_rfl) (by exact fun _ _ _ h => h) (Or.inr ⟨by kernel_rfl, rfl⟩) (by assumption) ?_
            try simp only [Act.put, List.setIfInBounds_toArray, List.set_cons_zero, List.set_cons_succ]
            refine wpAnyH_take (i := 7) (v := undef) (by simp only [List.getElem?_toArray, List.getElem?_cons_succ, List.getElem?_cons_zero] <;> rfl) (by kernel_rfl) (by kernel_rfl) (by kernel_rfl) (by exact fun _ _ _ h => h) (Or.inr ⟨by kernel_rfl, rfl⟩) (by assumption) ?_
            try simp only [Act.put, List.setIfInBounds_toArray, List.set_cons_zero, List.set_cons_succ]
            refine wpAnyH_take (i := 8) (v := undef) (by simp only [List.getElem?_toArray, List.getElem?_cons_succ, List.getElem?_cons_zero] <;> rfl) (by kernel_rfl) (by kernel_rfl) (by kernel_rfl) (by exact fun _ _ _ h => h) (Or.inr ⟨by kernel_rfl, rfl⟩) (by assumption) ?_
            try simp only [Act.put, List.setIfInBounds_toArray, List.set_cons_zero, List.set_cons_succ]
            refine wpAnyH_take (i := 9) (v := undef) (by simp only [List.getElem?_toArray, List.getElem?_cons_succ, List.getElem?_cons_zero] <;> rfl) (by kernel_rfl) (by kernel_rfl) (by kernel_rfl) (by exact fun _ _ _ h => h) (Or.inr ⟨by kernel_rfl, rfl⟩) (by assumption) ?_
            try simp only [Act.put, List.setIfInBounds_toArray, List.set_cons_zero, List.set_cons_succ]
            refine wpAnyH_take (i := 10) (v := undef) (by simp only [List.getElem?_toArray, List.getElem?_cons_succ, List.getElem?_cons_zero] <;> rfl) (by kernel_rfl) (by kernel_rfl) (by kernel_rfl) (by exact fun _ _ _ h => h) (Or.inr ⟨by kernel_rfl, rfl⟩) (by assumption) ?_
            try simp only [Act.put, List.setIfInBounds_toArray, List.set_cons_zero, List.set_cons_succ]
            refine wpAnyH_take (i := 11) (v := undef) (by simp only [List.getElem?_toArray, List.getElem?_cons_succ, List.getElem?_cons_zero] <;> rfl) (by kernel_rfl) (by kernel_rfl) (by kernel_rfl) (by exact fun _ _ _ h => h) (Or.inr ⟨by kernel_rfl, rfl⟩) (by assumption) ?_
            try simp only [Act.put, List.setIfInBounds_toArray, List.set_cons_zero, List.set_cons_succ]
            refine wpAnyH_take (i := 12) (v := undef) (by simp only [List.getElem?_toArray, List.getElem?_cons_succ, List.getElem?_cons_zero] <;> rfl) (by kernel_rfl) (by kernel_rfl) (by kernel_rfl) (by exact fun _ _ _ h => h) (Or.inr ⟨by kernel_rfl, rfl⟩) (by assumption) ?_
            try simp only [Act.put, List.setIfInBounds_toArray, List.set_cons_zero, List.set_cons_succ]
            refine wpAnyH_take (i := 13) (v := undef) (by simp only [List.getElem?_toArray, List.getElem?_cons_succ, List.getElem?_cons_zero] <;> rfl) (by kernel_rfl) (by kernel_rfl) (by kernel_rfl) (by exact fun _ _ _ h => h) (Or.inr ⟨by kernel_rfl, rfl⟩) (by assumption) ?_
            try simp only [Act.put, List.setIfInBounds_toArray, List.set_cons_zero, List.set_cons_succ]
            refine wpAnyH_take (i := 14) (v := undef) (by simp only [List.getElem?_toArray, List.getElem?_cons_succ, List.getElem?_cons_zero] <;> rfl) (by kernel_rfl) (by kernel_rfl) (by kernel_rfl) (by exact fun _ _ _ h => h) (Or.inr ⟨by kernel_rfl, rfl⟩) (by assumption) ?_
            try simp only [Act.put, List.setIfInBounds_toArray, List.set_cons_zero, List.set_cons_succ]
            refine wpAnyH_take (i := 15) (v := undef) (by simp only [List.getElem?_toArray, List.getElem?_cons_succ, List.getElem?_cons_zero] <;> rfl) (by kernel_rfl) (by kernel_rfl) (by kernel_rfl) (by exact fun _ _ _ h => h) (Or.inr ⟨by kernel_rfl, rfl⟩) (by assumption) ?_
            try simp only [Act.put, List.setIfInBounds_toArray, List.set_cons_zero, List.set_cons_succ]
            refine wpAnyH_take (i := 16) (v := undef) (by simp only [List.getElem?_toArray, List.getElem?_cons_succ, List.getElem?_cons_zero] <;> rfl) (by kernel_rfl) (by kernel_rfl) (by kernel_rfl) (by exact fun _ _ _ h => h) (Or.inr ⟨by kernel_rfl, rfl⟩) (by assumption) ?_
            try simp only [Act.put, List.setIfInBounds_toArray, List.set_cons_zero, List.set_cons_succ]
            refine wpAnyH_take (i := 17) (v := ?_) (by simp only [List.getElem?_toArray, List.getElem?_cons_succ, List.getElem?_cons_zero] <;> rfl) (by kernel_rfl) (by kernel_rfl) (by kernel_rfl) (by exact fun _ _ _ h => h) (Or.inl ⟨by kernel_rfl, ?_⟩) (by assumption) ?_
            rotate_left
            · intro w' hSw; (try dsimp only at hSw); go_simp; try with_reducible rfl
            try simp only [Act.put, List.setIfInBounds_toArray, List.set_cons_zero, List.set_cons_succ]
            refine wpAnyH_done (by kernel_rfl) ?_ _
            go_wp2
            go_roundw
            case rel => exact ⟨p + 1, by omega, by go_num, rfl, HF2, Lib.hid (ownsRow_later hown.out (inferInstance : Later wr _)), inferInstance, inferInstance, inferInstance⟩
            case measure => simp [intOf]; omega
          have c1d : decide (0 ≤ v) = true := decide_eq_true c1
          by_cases c2 : time + v ≤ τ
          rotate_left
          · have c2d : decide (time + v ≤ τ) = false := decide_eq_false c2
            have HF2 : Hid (((List.range nq).drop (p + 1)).findSome? (catAt t rowx time x) = catOf t rowx time x) := by
              have h9 := HF.out
              rw [find_step hpq, (catAt_no HS3.out HV3.out HT3.out (fun e => c2 e.2))] at h9
              exact h9
            clear HF
            go_wp2_with fail
            refine wp_region_held_drew (S := (fun w' => Later wb w' ∧ Later w7 w' ∧ Later w9 w' ∧ Later wr w' ∧ Later wy w')) (by kernel_rfl) (by exact ⟨inferInstance, inferInstance, inferInstance, inferInstance, inferInstance⟩) (fun hHeld => ?_)
            refine wpAnyH_take (i := 0) (v := ?_) (by simp only [List.getElem?_toArray, List.getElem?_cons_zero] <;> rfl) (by kernel_rfl) (by kernel_rfl) (by kernel_rfl) (by exact fun _ _ _ h => h) (Or.inl ⟨by kernel_rfl, ?_⟩) (by assumption) ?_
            rotate_left
            · intro w' hSw; (try dsimp only at hSw); go_simp; try with_reducible rfl
            try simp only [Act.put, List.setIfInBounds_toArray, List.set_cons_zero, List.set_cons_succ]
            refine wpAnyH_take (i := 1) (v := ?_) (by simp only [List.getElem?_toArray, List.getElem?_cons_succ, List.getElem?_cons_zero] <;> rfl) (by kernel_rfl) (by kernel_rfl) (by kernel_rfl) (by exact fun _ _ _ h => h) (Or.inl ⟨by kernel_rfl, ?_⟩) (by assumption) ?_
            rotate_left
            · intro w' hSw; (try dsimp only at hSw); go_simp; try with_reducible rfl
            try simp only [Act.put, List.setIfInBounds_toArray, List.set_cons_zero, List.set_cons_succ]
            refine wpAnyH_take (i := 2) (v := ?_) (by simp only [List.getElem?_toArray, List.getElem?_cons_succ, List.getElem?_cons_zero] <;> rfl) (by kernel_rfl) (by kernel_rfl) (by kernel_rfl) (by exact fun _ _ _ h => h) (Or.inl ⟨by kernel_rfl, ?_⟩) (by assumption) ?_
            rotate_left
            · intro w' hSw; (try dsimp only at hSw); go_simp; try with_reducible rfl
            try simp only [Act.put, List.setIfInBounds_toArray, List.set_cons_zero, List.set_cons_succ]
            refine wpAnyH_take (i := 3) (v := ?_) (by simp only [List.getElem?_toArray, List.getElem?_cons_succ, List.getElem?_cons_zero] <;> rfl) (by kernel_rfl) (by kernel_rfl) (by kernel_rfl) (by exact fun _ _ _ h => h) (Or.inl ⟨by kernel_rfl, ?_⟩) (by assumption) ?_
            rotate_left
            · intro w' hSw; (try dsimp only at hSw); go_simp; try with_reducible rfl
            try simp only [Act.put, List.setIfInBounds_toArray, List.set_cons_zero, List.set_cons_succ]
            refine wpAnyH_take (i := 4) (v := ?_) (by simp only [List.getElem?_toArray, List.getElem?_cons_succ, List.getElem?_cons_zero] <;> rfl) (by kernel_rfl) (by kernel_rfl) (by kernel_rfl) (by exact fun _ _ _ h => h) (Or.inl ⟨by kernel_rfl, ?_⟩) (by assumption) ?_
            rotate_left
            · intro w' hSw; (try dsimp only at hSw); go_simp; try with_reducible rfl
            try simp only [Act.put, List.setIfInBounds_toArray, List.set_cons_zero, List.set_cons_succ]
            refine wpAnyH_take (i := 5) (v := ?_) (by simp only [List.getElem?_toArray, List.getElem?_cons_succ, List.getElem?_cons_zero] <;> rfl) (by kernel_rfl) (by kernel_rfl) (by kernel_rfl) (by exact fun _ _ _ h => h) (Or.inl ⟨by kernel_rfl, ?_⟩) (by assumption) ?_
            rotate_left
            · intro w' hSw; (try dsimp only at hSw); go_simp; try with_reducible rfl
            try simp only [Act.put, List.setIfInBounds_toArray, List.set_cons_zero, List.set_cons_succ]
            refine wpAnyH_take (i := 6) (v := ?_) (by simp only [List.getElem?_toArray, List.getElem?_cons_succ, List.getElem?_cons_zero] <;> rfl) (by kernel_rfl) (by kernel_rfl) (by kernel_rfl) (by exact fun _ _ _ h => h) (Or.inl ⟨by kernel_rfl, ?_⟩) (by assumption) ?_
            rotate_left
            · intro w' hSw; (try dsimp only at hSw); go_simp; try with_reducible rfl
            try simp only [Act.put, List.setIfInBounds_toArray, List.set_cons_zero, List.set_cons_succ]
            refine wpAnyH_take (i := 7) (v := ?_) (by simp only [List.getElem?_toArray, List.getElem?_cons_succ, List.getElem?_cons_zero] <;> rfl) (by kernel_rfl) (by kernel_rfl) (by kernel_rfl) (by exact fun _ _ _ h => h) (Or.inl ⟨by kernel_rfl, ?_⟩) (by assumption) ?_
            rotate_left
            · intro w' hSw; (try dsimp only at hSw); go_simp; try with_reducible rfl
            try simp only [Act.put, List.setIfInBounds_toArray, List.set_cons_zero, List.set_cons_succ]
            refine wpAnyH_take (i := 8) (v := ?_) (by simp only [List.getElem?_toArray, List.getElem?_cons_succ, List.getElem?_cons_zero] <;> rfl) (by kernel_rfl) (by kernel_rfl) (by kernel_rfl) (by exact fun _ _ _ h => h) (Or.inl ⟨by kernel_rfl, ?_⟩) (by assumption) ?_
            rotate_left
            · intro w' hSw; (try dsimp only at hSw); go_simp; try with_reducible rfl
            try simp only [Act.put, List.setIfInBounds_toArray, List.set_cons_zero, List.set_cons_succ]
            refine wpAnyH_take (i := 9) (v := ?_) (by simp only [List.getElem?_toArray, List.getElem?_cons_succ, List.getElem?_cons_zero] <;> rfl) (by kernel_rfl) (by kernel_rfl) (by kernel_rfl) (by exact fun _ _ _ h => h) (Or.inl ⟨by kernel_rfl, ?_⟩) (by assumption) ?_
            rotate_left
            · intro w' hSw; (try dsimp only at hSw); go_simp; try with_reducible rfl
            try simp only [Act.put, List.setIfInBounds_toArray, List.set_cons_zero, List.set_cons_succ]
            refine wpAnyH_take (i := 10) (v := ?_) (by simp only [List.getElem?_toArray, List.getElem?_cons_succ, List.getElem?_cons_zero] <;> rfl) (by kernel_rfl) (by kernel_rfl) (by kernel_rfl) (by exact fun _ _ _ h => h) (Or.inl ⟨by kernel_rfl, ?_⟩) (by assumption) ?_
            rotate_left
            · intro w' hSw; (try dsimp only at hSw); go_simp; try with_reducible rfl
            try simp only [Act.put, List.setIfInBounds_toArray, List.set_cons_zero, List.set_cons_succ]
            refine wpAnyH_take (i := 11) (v := ?_) (by simp only [List.getElem?_toArray, List.getElem?_cons_succ, List.getElem?_cons_zero] <;> rfl) (by kernel_rfl) (by kernel_rfl) (by kernel_rfl) (by exact fun _ _ _ h => h) (Or.inl ⟨by kernel_rfl, ?_⟩) (by assumption) ?_
            rotate_left
            · intro w' hSw; (try dsimp only at hSw); go_simp; try with_reducible rfl
            try simp only [Act.put, List.setIfInBounds_toArray, List.set_cons_zero, List.set_cons_succ]
            refine wpAnyH_take (i := 12) (v := ?_) (by simp only [List.getElem?_toArray, List.getElem?_cons_succ, List.getElem?_cons_zero] <;> rfl) (by kernel_rfl) (by kernel_rfl) (by kernel_rfl) (by exact fun _ _ _ h => h) (Or.inl ⟨by kernel_rfl, ?_⟩) (by assumption) ?_
            rotate_left
            · intro w' hSw; (try dsimp only at hSw); go_simp; try with_reducible rfl
            try simp only [Act.put, List.setIfInBounds_toArray, List.set_cons_zero, List.set_cons_succ]
            refine wpAnyH_take (i := 13) (v := ?_) (by simp only [List.getElem?_toArray, List.getElem?_cons_succ, List.getElem?_cons_zero] <;> rfl) (by kernel_rfl) (by kernel_rfl) (by kernel_rfl) (by exact fun _ _ _ h => h) (Or.inl ⟨by kernel_rfl, ?_⟩) (by assumption) ?_
            rotate_left
            · intro w' hSw; (try dsimp only at hSw); go_simp; try with_reducible rfl
            try simp only [Act.put, List.setIfInBounds_toArray, List.set_cons_zero, List.set_cons_succ]
            refine wpAnyH_take (i := 14) (v := ?_) (by simp only [List.getElem?_toArray, List.getElem?_cons_succ, List.getElem?_cons_zero] <;> rfl) (by kernel_rfl) (by kernel_rfl) (by kernel_rfl) (by exact fun _ _ _ h => h) (Or.inl ⟨by kernel_rfl, ?_⟩) (by assumption) ?_
            rotate_left
            · intro w' hSw; (try dsimp only at hSw); go_simp; try with_reducible rfl
            try simp only [Act.put, List.setIfInBounds_toArray, List.set_cons_zero, List.set_cons_succ]
            refine wpAnyH_take (i := 15) (v := ?_) (by simp only [List.getElem?_toArray, List.getElem?_cons_succ, List.getElem?_cons_zero] <;> rfl) (by kernel_rfl) (by kernel_rfl) (by kernel_rfl) (by exact fun _ _ _ h => h) (Or.inl ⟨by kernel_rfl, ?_⟩) (by assumption) ?_
            rotate_left
            · intro w' hSw; (try dsimp only at hSw); go_simp; try with_reducible rfl
            try simp only [Act.put, List.setIfInBounds_toArray, List.set_cons_zero, List.set_cons_succ]
            refine wpAnyH_take (i := 16) (v := ?_) (by simp only [List.getElem?_toArray, List.getElem?_cons_succ, List.getElem?_cons_zero] <;> rfl) (by kernel_rfl) (by kernel_rfl) (by kernel_rfl) (by exact fun _ _ _ h => h) (Or.inl ⟨by kernel_rfl, ?_⟩) (by assumption) ?_
            rotate_left
            · intro w' hSw; (try dsimp only at hSw); go_simp; try with_reducible rfl
            try simp only [Act.put, List.setIfInBounds_toArray, List.set_cons_zero, List.set_cons_succ]
            refine wpAnyH_take (i := 17) (v := ?_) (by simp only [List.getElem?_toArray, List.getElem?_cons_succ, List.getElem?_cons_zero] <;> rfl) (by kernel_rfl) (by kernel_rfl) (by kernel_rfl) (by exact fun _ _ _ h => h) (Or.inl ⟨by kernel_rfl, ?_⟩) (by assumption) ?_
            rotate_left
            · intro w' hSw; (try dsimp only at hSw); go_simp; try with_reducible rfl
            try simp only [Act.put, List.setIfInBounds_toArray, List.set_cons_zero, List.set_cons_succ]
            refine wpAnyH_done (by kernel_rfl) ?_ _
            go_wp2
            go_roundw
            case rel => exact ⟨p + 1, by omega, by go_num, rfl, HF2, Lib.hid (ownsRow_later hown.out (inferInstance : Later wr _)), inferInstance, inferInstance, inferInstance⟩
            case measure => simp [intOf]; omega
          have c2d : decide (time + v ≤ τ) = true := decide_eq_true c2
          have HNEW : Hid ((t.Trips.take (k + 1)).filterMap (catOf t rowx time) = D ++ [⟨x.Id, s, p, τ⟩]) := by
            show _ = _
            rw [HCS2.out, ← HF.out, find_step hpq, catAt_yes HS3.out HV3.out HT3.out ⟨c1, c2⟩]; rfl
          clear HF HCS2
          go_wp2_with fail
          refine wp_region_held_drew (S := (fun w' => Later wb w' ∧ Later w7 w' ∧ Later w9 w' ∧ Later wr w' ∧ Later wy w')) (by kernel_rfl) (by exact ⟨inferInstance, inferInstance, inferInstance, inferInstance, inferInstance⟩) (fun hHeld => ?_)
          refine wpAnyH_take (i := 0) (v := ?_) (by simp only [List.getElem?_toArray, List.getElem?_cons_zero] <;> rfl) (by kernel_rfl) (by kernel_rfl) (by kernel_rfl) (by exact fun _ _ _ h => h) (Or.inl ⟨by kernel_rfl, ?_⟩) (by assumption) ?_
          rotate_left
          · intro w' hSw; (try dsimp only at hSw); go_simp; try with_reducible rfl
          try simp only [Act.put, List.setIfInBounds_toArray, List.set_cons_zero, List.set_cons_succ]
          refine wpAnyH_take (i := 1) (v := ?_) (by simp only [List.getElem?_toArray, List.getElem?_cons_succ, List.getElem?_cons_zero] <;> rfl) (by kernel_rfl) (by kernel_rfl) (by kernel_rfl) (by exact fun _ _ _ h => h) (Or.inl ⟨by kernel_rfl, ?_⟩) (by assumption) ?_
          rotate_left
          · intro w' hSw; (try dsimp only at hSw); go_simp; try with_reducible rfl
          try simp only [Act.put, List.setIfInBounds_toArray, List.set_cons_zero, List.set_cons_succ]
          refine wpAnyH_take (i := 2) (v := ?_) (by simp only [List.getElem?_toArray, List.getElem?_cons_succ, List.getElem?_cons_zero] <;> rfl) (by kernel_rfl) (by kernel_rfl) (by kernel_rfl) (by exact fun _ _ _ h => h) (Or.inl ⟨by kernel_rfl, ?_⟩) (by assumption) ?_
          rotate_left
          · intro w' hSw; (try dsimp only at hSw); go_simp; try with_reducible rfl
          try simp only [Act.put, List.setIfInBounds_toArray, List.set_cons_zero, List.set_cons_succ]
          refine wpAnyH_take (i := 3) (v := ?_) (by simp only [List.getElem?_toArray, List.getElem?_cons_succ, List.getElem?_cons_zero] <;> rfl) (by kernel_rfl) (by kernel_rfl) (by kernel_rfl) (by exact fun _ _ _ h => h) (Or.inl ⟨by kernel_rfl, ?_⟩) (by assumption) ?_
          rotate_left
          · intro w' hSw; (try dsimp only at hSw); go_simp; try with_reducible rfl
          try simp only [Act.put, List.setIfInBounds_toArray, List.set_cons_zero, List.set_cons_succ]
          refine wpAnyH_take (i := 4) (v := ?_) (by simp only [List.getElem?_toArray, List.getElem?_cons_succ, List.getElem?_cons_zero] <;> rfl) (by kernel_rfl) (by kernel_rfl) (by kernel_rfl) (by exact fun _ _ _ h => h) (Or.inl ⟨by kernel_rfl, ?_⟩) (by assumption) ?_
          rotate_left
          · intro w' hSw; (try dsimp only at hSw); go_simp; try with_reducible rfl
          try simp only [Act.put, List.setIfInBounds_toArray, List.set_cons_zero, List.set_cons_succ]
          refine wpAnyH_take (i := 5) (v := ?_) (by simp only [List.getElem?_toArray, List.getElem?_cons_succ, List.getElem?_cons_zero] <;> rfl) (by kernel_rfl) (by kernel_rfl) (by kernel_rfl) (by exact fun _ _ _ h => h) (Or.inl ⟨by kernel_rfl, ?_⟩) (by assumption) ?_
          rotate_left
          · intro w' hSw; (try dsimp only at hSw); go_simp; try with_reducible rfl
          try simp only [Act.put, List.setIfInBounds_toArray, List.set_cons_zero, List.set_cons_succ]
          refine wpAnyH_take (i := 6) (v := ?_) (by simp only [List.getElem?_toArray, List.getElem?_cons_succ, List.getElem?_cons_zero] <;> rfl) (by kernel_rfl) (by kernel_rfl) (by kernel_rfl) (by exact fun _ _ _ h => h) (Or.inl ⟨by kernel_rfl, ?_⟩) (by assumption) ?_
          rotate_left
          · intro w' hSw; (try dsimp only at hSw); go_simp; try with_reducible rfl
          try simp only [Act.put, List.setIfInBounds_toArray, List.set_cons_zero, List.set_cons_succ]
          refine wpAnyH_take (i := 7) (v := ?_) (by simp only [List.getElem?_toArray, List.getElem?_cons_succ, List.getElem?_cons_zero] <;> rfl) (by kernel_rfl) (by kernel_rfl) (by kernel_rfl) (by exact fun _ _ _ h => h) (Or.inl ⟨by kernel_rfl, ?_⟩) (by assumption) ?_
          rotate_left
          · intro w' hSw; (try dsimp only at hSw); go_simp; try with_reducible rfl
          try simp only [Act.put, List.setIfInBounds_toArray, List.set_cons_zero, List.set_cons_succ]
          refine wpAnyH_take (i := 8) (v := ?_) (by simp only [List.getElem?_toArray, List.getElem?_cons_succ, List.getElem?_cons_zero] <;> rfl) (by kernel_rfl) (by kernel_rfl) (by kernel_rfl) (by exact fun _ _ _ h => h) (Or.inl ⟨by kernel_rfl, ?_⟩) (by assumption) ?_
          rotate_left
          · intro w' hSw; (try dsimp only at hSw); go_simp; try with_reducible rfl
          try simp only [Act.put, List.setIfInBounds_toArray, List.set_cons_zero, List.set_cons_succ]
          refine wpAnyH_take (i := 9) (v := ?_) (by simp only [List.getElem?_toArray, List.getElem?_cons_succ, List.getElem?_cons_zero] <;> rfl) (by kernel_rfl) (by kernel_rfl) (by kernel_rfl) (by exact fun _ _ _ h => h) (Or.inl ⟨by kernel_rfl, ?_⟩) (by assumption) ?_
          rotate_left
          · intro w' hSw; (try dsimp only at hSw); go_simp; try with_reducible rfl
          try simp only [Act.put, List.setIfInBounds_toArray, List.set_cons_zero, List.set_cons_succ]
          refine wpAnyH_take (i := 10) (v := ?_) (by simp only [List.getElem?_toArray, List.getElem?_cons_succ, List.getElem?_cons_zero] <;> rfl) (by kernel_rfl) (by kernel_rfl) (by kernel_rfl) (by exact fun _ _ _ h => h) (Or.inl ⟨by kernel_rfl, ?_⟩) (by assumption) ?_
          rotate_left
          · intro w' hSw; (try dsimp only at hSw); go_simp; try with_reducible rfl
          try simp only [Act.put, List.setIfInBounds_toArray, List.set_cons_zero, List.set_cons_succ]
          refine wpAnyH_take (i := 11) (v := ?_) (by simp only [List.getElem?_toArray, List.getElem?_cons_succ, List.getElem?_cons_zero] <;> rfl) (by kernel_rfl) (by kernel_rfl) (by kernel_rfl) (by exact fun _ _ _ h => h) (Or.inl ⟨by kernel_rfl, ?_⟩) (by assumption) ?_
          rotate_left
          · intro w' hSw; (try dsimp only at hSw); go_simp; try with_reducible rfl
          try simp only [Act.put, List.setIfInBounds_toArray, List.set_cons_zero, List.set_cons_succ]
          refine wpAnyH_take (i := 12) (v := ?_) (by simp only [List.getElem?_toArray, List.getElem?_cons_succ, List.getElem?_cons_zero] <;> rfl) (by kernel_rfl) (by kernel_rfl) (by kernel_rfl) (by exact fun _ _ _ h => h) (Or.inl ⟨by kernel_rfl, ?_⟩) (by assumption) ?_
          rotate_left
          · intro w' hSw; (try dsimp only at hSw); go_simp; try with_reducible rfl
          try simp only [Act.put, List.setIfInBounds_toArray, List.set_cons_zero, List.set_cons_succ]
          refine wpAnyH_take (i := 13) (v := ?_) (by simp only [List.getElem?_toArray, List.getElem?_cons_succ, List.getElem?_cons_zero] <;> rfl) (by kernel_rfl) (by kernel_rfl) (by kernel_rfl) (by exact fun _ _ _ h => h) (Or.inl ⟨by kernel_rfl, ?_⟩) (by assumption) ?_
          rotate_left
          · intro w' hSw; (try dsimp only at hSw); go_simp; try with_reducible rfl
          try simp only [Act.put, List.setIfInBounds_toArray, List.set_cons_zero, List.set_cons_succ]
          refine wpAnyH_take (i := 14) (v := ?_) (by simp only [List.getElem?_toArray, List.getElem?_cons_succ, List.getElem?_cons_zero] <;> rfl) (by kernel_rfl) (by kernel_rfl) (by kernel_rfl) (by exact fun _ _ _ h => h) (Or.inl ⟨by kernel_rfl, ?_⟩) (by assumption) ?_
          rotate_left
          · intro w' hSw; (try dsimp only at hSw); go_simp; try with_reducible rfl
          try simp only [Act.put, List.setIfInBounds_toArray, List.set_cons_zero, List.set_cons_succ]
          refine wpAnyH_take (i := 15) (v := ?_) (by simp only [List.getElem?_toArray, List.getElem?_cons_succ, List.getElem?_cons_zero] <;> rfl) (by kernel_rfl) (by kernel_rfl) (by kernel_rfl) (by exact fun _ _ _ h => h) (Or.inl ⟨by kernel_rfl, ?_⟩) (by assumption) ?_
          rotate_left
          · intro w' hSw; (try dsimp only at hSw); go_simp; try with_reducible rfl
          try simp only [Act.put, List.setIfInBounds_toArray, List.set_cons_zero, List.set_cons_succ]
          refine wpAnyH_take (i := 16) (v := ?_) (by simp only [List.getElem?_toArray, List.getElem?_cons_succ, List.getElem?_cons_zero] <;> rfl) (by kernel_rfl) (by kernel_rfl) (by kernel_rfl) (by exact fun _ _ _ h => h) (Or.inl ⟨by kernel_rfl, ?_⟩) (by assumption) ?_
          rotate_left
          · intro w' hSw; (try dsimp only at hSw); go_simp; try with_reducible rfl
          try simp only [Act.put, List.setIfInBounds_toArray, List.set_cons_zero, List.set_cons_succ]
          refine wpAnyH_take (i := 17) (v := ?_) (by simp only [List.getElem?_toArray, List.getElem?_cons_succ, List.getElem?_cons_zero] <;> rfl) (by kernel_rfl) (by kernel_rfl) (by kernel_rfl) (by exact fun _ _ _ h => h) (Or.inl ⟨by kernel_rfl, ?_⟩) (by assumption) ?_
          rotate_left
          · intro w' hSw; (try dsimp only at hSw); go_simp; try with_reducible rfl
          try simp only [Act.put, List.setIfInBounds_toArray, List.set_cons_zero, List.set_cons_succ]
          refine wpAnyH_done (by kernel_rfl) ?_ _
          go_wp2_with fail
          refine wp_region_held_drew (S := (fun w' => Later wb w' ∧ Later w7 w')) (by kernel_rfl) (by exact ⟨inferInstance, inferInstance⟩) (fun hHeld => ?_)
          refine wpAnyH_take (i := 0) (v := ?_) (by simp only [List.getElem?_toArray, List.getElem?_cons_zero] <;> rfl) (by kernel_rfl) (by kernel_rfl) (by kernel_rfl) (by exact fun _ _ _ h => h) (Or.inl ⟨by kernel_rfl, ?_⟩) (by assumption) ?_
          rotate_left
          · intro w' hSw; (try dsimp only at hSw); go_simp; try with_reducible rfl
          try simp only [Act.put, List.setIfInBounds_toArray, List.set_cons_zero, List.set_cons_succ]
          refine wpAnyH_take (i := 1) (v := ?_) (by simp only [List.getElem?_toArray, List.getElem?_cons_succ, List.getElem?_cons_zero] <;> rfl) (by kernel_rfl) (by kernel_rfl) (by kernel_rfl) (by exact fun _ _ _ h => h) (Or.inl ⟨by kernel_rfl, ?_⟩) (by assumption) ?_
          rotate_left
          · intro w' hSw; (try dsimp only at hSw); go_simp; try with_reducible rfl
          try simp only [Act.put, List.setIfInBounds_toArray, List.set_cons_zero, List.set_cons_succ]
          refine wpAnyH_take (i := 3) (v := ?_) (by simp only [List.getElem?_toArray, List.getElem?_cons_succ, List.getElem?_cons_zero] <;> rfl) (by kernel_rfl) (by kernel_rfl) (by kernel_rfl) (by exact fun _ _ _ h => h) (Or.inl ⟨by kernel_rfl, ?_⟩) (by assumption) ?_
          rotate_left
          · intro w' hSw; (try dsimp only at hSw); go_simp; try with_reducible rfl
          try simp only [Act.put, List.setIfInBounds_toArray, List.set_cons_zero, List.set_cons_succ]
          refine wpAnyH_take (i := 4) (v := ?_) (by simp only [List.getElem?_toArray, List.getElem?_cons_succ, List.getElem?_cons_zero] <;> rfl) (by kernel_rfl) (by kernel_rfl) (by kernel_rfl) (by exact fun _ _ _ h => h) (Or.inl ⟨by kernel_rfl, ?_⟩) (by assumption) ?_
          rotate_left
          · intro w' hSw; (try dsimp only at hSw); go_simp; try with_reducible rfl
          try simp only [Act.put, List.setIfInBounds_toArray, List.set_cons_zero, List.set_cons_succ]
          refine wpAnyH_take (i := 5) (v := ?_) (by simp only [List.getElem?_toArray, List.getElem?_cons_succ, List.getElem?_cons_zero] <;> rfl) (by kernel_rfl) (by kernel_rfl) (by kernel_rfl) (by exact fun _ _ _ h => h) (Or.inl ⟨by kernel_rfl, ?_⟩) (by assumption) ?_
          rotate_left
          · intro w' hSw; (try dsimp only at hSw); go_simp; try with_reducible rfl
          try simp only [Act.put, List.setIfInBounds_toArray, List.set_cons_zero, List.set_cons_succ]
          refine wpAnyH_take (i := 6) (v := ?_) (by simp only [List.getElem?_toArray, List.getElem?_cons_succ, List.getElem?_cons_zero] <;> rfl) (by kernel_rfl) (by kernel_rfl) (by kernel_rfl) (by exact fun _ _ _ h => h) (Or.inl ⟨by kernel_rfl, ?_⟩) (by assumption) ?_
          rotate_left
          · intro w' hSw; (try dsimp only at hSw); go_simp; try with_reducible rfl
          try simp only [Act.put, List.setIfInBounds_toArray, List.set_cons_zero, List.set_cons_succ]
          refine wpAnyH_take (i := 7) (v := ?_) (by simp only [List.getElem?_toArray, List.getElem?_cons_succ, List.getElem?_cons_zero] <;> rfl) (by kernel_rfl) (by kernel_rfl) (by kernel_rfl) (by exact fun _ _ _ h => h) (Or.inl ⟨by kernel_rfl, ?_⟩) (by assumption) ?_
          rotate_left
          · intro w' hSw; (try dsimp only at hSw); go_simp; try with_reducible rfl
          try simp only [Act.put, List.setIfInBounds_toArray, List.set_cons_zero, List.set_cons_succ]
          refine wpAnyH_ready (rs := [2, 8]) (by kernel_rfl) (by simp) (AllReadyH.cons rfl (fun K hK => ?r19x0_1_3_4_5_6_7_2) (AllReadyH.cons rfl (fun K hK => ?r19x0_1_3_4_5_6_7_8) AllReadyH.nil))
          case' r19x0_1_3_4_5_6_7_2 =>
            go_simp
            skip
            refine hK.out _ _ (by exact ⟨inferInstance, inferInstance⟩) (fun hHeld => ?_)
            try simp only [Act.put, List.setIfInBounds_toArray, List.set_cons_zero, List.set_cons_succ]
            refine wpAnyH_ready (rs := [8]) (by kernel_rfl) (by simp) (AllReadyH.cons rfl (fun K hK => ?_) AllReadyH.nil)
            go_simp
            skip
            refine hK.out _ _ (by exact ⟨inferInstance, inferInstance⟩) (fun hHeld => ?_)
            try simp only [Act.put, List.setIfInBounds_toArray, List.set_cons_zero, List.set_cons_succ]
            refine wpAnyH_take (i := 9) (v := ?_) (by simp only [List.getElem?_toArray, List.getElem?_cons_succ, List.getElem?_cons_zero] <;> rfl) (by kernel_rfl) (by kernel_rfl) (by kernel_rfl) (by exact fun _ _ _ h => h) (Or.inl ⟨by kernel_rfl, ?_⟩) (by assumption) ?_
            rotate_left
            · intro w' hSw; (try dsimp only at hSw); go_simp; try with_reducible rfl
            try simp only [Act.put, List.setIfInBounds_toArray, List.set_cons_zero, List.set_cons_succ]
            refine wpAnyH_ready (rs := [10]) (by kernel_rfl) (by simp) (AllReadyH.cons rfl (fun K hK => ?_) AllReadyH.nil)
            go_simp
            skip
            refine hK.out _ _ (by exact ⟨inferInstance, inferInstance⟩) (fun hHeld => ?_)
            try simp only [Act.put, List.setIfInBounds_toArray, List.set_cons_zero, List.set_cons_succ]
            refine wpAnyH_ready (rs := [11]) (by kernel_rfl) (by simp) (AllReadyH.cons rfl (fun K hK => ?_) AllReadyH.nil)
            (rw [if_pos (by rfl)]; change Oper.wp _ _ _ (World.alloc (World.drew (World.drew wr)) _) _ _; refine wp_app_B (w0 := w7) (base := w7.heap.size) _ _ 54 rfl Try.underlying54 infoCn rfl (by decide) (by decide) rfl (by exact ownsRow_later hown.out (inferInstance : Later wr _)) (inferInstance : Later w7 _) (Nat.le_refl _) (Later.size (w := w7) inferInstance) rfl rfl (cells_4 _ _ _ _) (by omega) ?_; intro v' w14 hown' hX14; haveI hX14' := hX14; haveI hX14b : Later wb w14 := Later.trans X7 hX14)
            refine hK.out _ _ (by exact ⟨inferInstance, inferInstance⟩) (fun hHeld => ?_)
            try simp only [Act.put, List.setIfInBounds_toArray, List.set_cons_zero, List.set_cons_succ]
            refine wpAnyH_take (i := 12) (v := ?_) (by simp only [List.getElem?_toArray, List.getElem?_cons_succ, List.getElem?_cons_zero] <;> rfl) (by kernel_rfl) (by kernel_rfl) (by kernel_rfl) (by exact fun _ _ _ h => h) (Or.inl ⟨by kernel_rfl, ?_⟩) (by assumption) ?_
            rotate_left
            · intro w' hSw; (try dsimp only at hSw); go_simp; try with_reducible rfl
            try simp only [Act.put, List.setIfInBounds_toArray, List.set_cons_zero, List.set_cons_succ]
            refine wpAnyH_done (by kernel_rfl) ?_ _
          case' r19x0_1_3_4_5_6_7_8 =>
            go_simp
            skip
            refine hK.out _ _ (by exact ⟨inferInstance, inferInstance⟩) (fun hHeld => ?_)
            try simp only [Act.put, List.setIfInBounds_toArray, List.set_cons_zero, List.set_cons_succ]
            refine wpAnyH_ready (rs := [2]) (by kernel_rfl) (by simp) (AllReadyH.cons rfl (fun K hK => ?_) AllReadyH.nil)
            go_simp
            skip
            refine hK.out _ _ (by exact ⟨inferInstance, inferInstance⟩) (fun hHeld => ?_)
            try simp only [Act.put, List.setIfInBounds_toArray, List.set_cons_zero, List.set_cons_succ]
            refine wpAnyH_take (i := 9) (v := ?_) (by simp only [List.getElem?_toArray, List.getElem?_cons_succ, List.getElem?_cons_zero] <;> rfl) (by kernel_rfl) (by kernel_rfl) (by kernel_rfl) (by exact fun _ _ _ h => h) (Or.inl ⟨by kernel_rfl, ?_⟩) (by assumption) ?_
            rotate_left
            · intro w' hSw; (try dsimp only at hSw); go_simp; try with_reducible rfl
            try simp only [Act.put, List.setIfInBounds_toArray, List.set_cons_zero, List.set_cons_succ]
            refine wpAnyH_ready (rs := [10]) (by kernel_rfl) (by simp) (AllReadyH.cons rfl (fun K hK => ?_) AllReadyH.nil)
            go_simp
            skip
            refine hK.out _ _ (by exact ⟨inferInstance, inferInstance⟩) (fun hHeld => ?_)
            try simp only [Act.put, List.setIfInBounds_toArray, List.set_cons_zero, List.set_cons_succ]
            refine wpAnyH_ready (rs := [11]) (by kernel_rfl) (by simp) (AllReadyH.cons rfl (fun K hK => ?_) AllReadyH.nil)
            (rw [if_pos (by rfl)]; change Oper.wp _ _ _ (World.alloc (World.drew (World.drew wr)) _) _ _; refine wp_app_B (w0 := w7) (base := w7.heap.size) _ _ 54 rfl Try.underlying54 infoCn rfl (by decide) (by decide) rfl (by exact ownsRow_later hown.out (inferInstance : Later wr _)) (inferInstance : Later w7 _) (Nat.le_refl _) (Later.size (w := w7) inferInstance) rfl rfl (cells_4 _ _ _ _) (by omega) ?_; intro v' w14 hown' hX14; haveI hX14' := hX14; haveI hX14b : Later wb w14 := Later.trans X7 hX14)
            refine hK.out _ _ (by exact ⟨inferInstance, inferInstance⟩) (fun hHeld => ?_)
            try simp only [Act.put, List.setIfInBounds_toArray, List.set_cons_zero, List.set_cons_succ]
            refine wpAnyH_take (i := 12) (v := ?_) (by simp only [List.getElem?_toArray, List.getElem?_cons_succ, List.getElem?_cons_zero] <;> rfl) (by kernel_rfl) (by kernel_rfl) (by kernel_rfl) (by exact fun _ _ _ h => h) (Or.inl ⟨by kernel_rfl, ?_⟩) (by assumption) ?_
            rotate_left
            · intro w' hSw; (try dsimp only at hSw); go_simp; try with_reducible rfl
            try simp only [Act.put, List.setIfInBounds_toArray, List.set_cons_zero, List.set_cons_succ]
            refine wpAnyH_done (by kernel_rfl) ?_ _
          all_goals
            have HOW : Hid (w14.ownsRow w7.heap.size 101 4 v' ((t.Trips.take (k + 1)).filterMap (catOf t rowx time)).length (((t.Trips.take (k + 1)).filterMap (catOf t rowx time)).flatMap encCn)) := by
              show World.ownsRow _ _ _ _ _ _ _
              rw [HNEW.out, List.length_append, List.flatMap_append]; exact hown'
            clear hown'
            go_wp2
            go_roundw
            case rel => exact ⟨k + 1, v', by omega, by go_num, rfl, HOW, inferInstance, inferInstance⟩
            case measure => simp [intOf]; omega
        · obtain rfl : nq = p := by omega
          have hpi : ¬ (nq : Int) < nq := by omega
          have HNEW : Hid ((t.Trips.take (k + 1)).filterMap (catOf t rowx time) = D) := by
            have h9 := HF.out
            rw [List.drop_eq_nil_of_le (by simp)] at h9
            show _ = _
            rw [HCS2.out, ← h9]; simp
          clear HF HCS2
          go_wp2
          go_roundw
          case rel => exact ⟨k + 1, v0, by omega, by go_num, rfl, (by rw [HNEW.out]; exact hown), inferInstance, inferInstance⟩
          case measure => simp [intOf]; omega
    · have hki : ¬ (k : Int) < sn2 := by omega
      have HL : Hid ((t.Trips.take k).filterMap (catOf t rowx time) = catL t rowx time) := by
        show _ = _
        rw [List.take_of_length_le (by have := HT2.out; omega)]; rfl
      rw [HL.out] at hown
      have hln : (catL t rowx time).length ≤ 12 := by have := List.length_filterMap_le (catOf t rowx time) t.Trips; have := HT2.out; unfold catL; omega
      have HOK : Hid (∀ c, c ∈ sortC (catL t rowx time) → ConnectionOk c) := fun c hc => catL_ok TF.out (sortC_mem hc)
      obtain ⟨D, hD⟩ : ∃ D, catL t rowx time = D := ⟨_, rfl⟩
      have HD := Lib.hid hD
      rw [hD] at hown hln HOK
      obtain ⟨nD, hnD⟩ : ∃ n, D.length = n := ⟨_, rfl⟩
      rw [hnD] at hown hln
      have HND := Lib.hid hnD.symm
      clear hD hnD HL
      by_cases hz : nD = 0
      · subst hz
        obtain rfl := List.length_eq_zero_iff.1 HND.out.symm
        obtain ⟨A, cA, rfl, hcA⟩ := own_shapeC hown.out
        go_wp2_with (go_at_call 68; refine slices_SortStable0.mono ?_; rintro e w20 ⟨⟨vv, rfl⟩, L20⟩; have X20 := Later.trans (w := wb) inferInstance L20)
        go_ret2
        exact ⟨A, 0, cA, [], rfl, by rw [HD.out, show sortC [] = [] from rfl]; exact ⟨rfl, Nat.zero_le _, hcA, .inl ⟨rfl, rfl⟩⟩, by simp, by simp, hww.trans inferInstance⟩
      · obtain ⟨gD, cD, rfl, hRC, hgD, hnc, hcm⟩ := RowC.of_own hown.out HND.out (by omega)
        have HRC := Lib.hid hRC
        have h7b : w7.heap.size ≤ gD := hgD
        have hwb7 : wb.heap.size ≤ w7.heap.size := X7.size
        have hwbg : wb.heap.size ≤ gD := by omega
        have h19 : nD ≤ 19 := by omega
        clear hown hRC hz
        go_wp2_with (go_at_call 68; refine (slices_SortStable HRC.out HND.out h19 hX hwbg).mono ?_; rintro e w20 ⟨⟨vv, rfl⟩, hR20, X20⟩; have HR20 := Lib.hid hR20; clear hR20)
        go_ret2
        exact ⟨some ⟨gD, 0, none⟩, nD, cD, [gD], rfl, by rw [HD.out]; exact HR20.out.osl (by rw [sortC_len]; exact HND.out) hnc hcm HOK.out, by simp, fun g hg => by simp at hg; omega, hww.trans X20⟩
end Go.Proofs.Ytaopadffabbjiaa
