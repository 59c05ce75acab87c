/-
  LatestDeparture, in the reference.
-/
import Derived.Test.YteijofkkggifhaaPair
import Derived.Test.YteijofkkggifhaaDepsS
namespace Go.Proofs.Yteijofkkggifhaa
open Go Go.RowKit
set_option linter.unusedVariables false
set_option maxRecDepth 100000
set_option linter.unusedSimpArgs false
theorem lat_no {t : Timetable} {change from_ to by_ : Int} (h : okPairAt t change from_ to by_ = false) : latRes t change from_ to by_ = (0, false) := by
  rw [okPairAt_eq] at h
  unfold latRes
  rw [if_neg]
  rintro ⟨h1, h2⟩
  rw [h1, h2] at h; cases h
def latOut (o : Option Int) : Int × Bool := match o with | some d => (d, true) | none => (0, false)
theorem lat_yes {t : Timetable} {change from_ to by_ : Int} (h : okPairAt t change from_ to by_ = true) : PairFacts t change from_ to ∧ 0 ≤ by_ ∧ by_ ≤ 1799 ∧ latRes t change from_ to by_ = latOut (latI t change from_ to by_) := by
  rw [okPairAt_eq, Bool.and_eq_true] at h
  have := inB_t.1 (show inB by_ 0 1799 = true from h.2)
  exact ⟨pairFacts h.1, by omega, by omega, by unfold latRes; rw [if_pos h]; rfl⟩
theorem depsS_len (t : Timetable) (from_ : Int) : (depsS t from_).length ≤ t.Trips.length := by
  have key : ∀ (l : List Trip) (out : List Int), (putGo t from_ l out).length ≤ out.length + l.length := by
    intro l
    induction l with
    | nil => intro out; simp [putGo]
    | cons x l ih =>
      intro out
      simp only [putGo, List.length_cons]
      by_cases c9 : 0 ≤ placeT t x from_
      · rw [if_pos c9]
        have := ih (putI out (timeAt t x (placeT t x from_).toNat))
        have h2 := putI_len out (timeAt t x (placeT t x from_).toNat)
        omega
      · rw [if_neg c9]
        have := ih out
        omega
  have := key t.Trips []
  unfold depsS
  simp at *
  omega
set_option maxHeartbeats 4000000 in
theorem spec_LatestDeparture {w0 w : World} {sA0 : Option Addr} {sn0 sc0 : Nat} {sA1 : Option Addr} {sn1 sc1 : Nat} {sA2 : Option Addr} {sn2 sc2 : Nat} {t : Timetable} (h : TimetableAt w0 sA0 sn0 sc0 sA1 sn1 sc1 sA2 sn2 sc2 t) (hl : Later w0 w) (change from_ to by_ : Int) : Calls Try.prog 57 #[.agg #[.slice sA0 sn0 sc0, .slice sA1 sn1 sc1, .slice sA2 sn2 sc2], .int .i64 change, .int .i64 from_, .int .i64 to, .int .i64 by_] w (Ret (.tuple #[.int .i64 (latRes t change from_ to by_).1, .bool (latRes t change from_ to by_).2]) w) := by
  have Hl : Hid (sn0 = t.Network.Stops.length) := h.l_Network_Stops.len
  have HB0 : ∀ W [Later (w.alloc (.cells #[.slice sA0 sn0 sc0, .slice sA1 sn1 sc1, .slice sA2 sn2 sc2] 39)) W] (j : Nat), W.cell? ⟨w.heap.size, j, none⟩ = #[.slice sA0 sn0 sc0, .slice sA1 sn1 sc1, .slice sA2 sn2 sc2][j]? := Later.boxes (t := 39) (fr := (0, 0)) (heap_new (by simp; try omega)); obtain ⟨wb, hwb⟩ : ∃ wb : World, wb = (w.alloc (.cells #[.slice sA0 sn0 sc0, .slice sA1 sn1 sc1, .slice sA2 sn2 sc2] 39)) := ⟨_, rfl⟩; haveI hbW : Later wb (w.alloc (.cells #[.slice sA0 sn0 sc0, .slice sA1 sn1 sc1, .slice sA2 sn2 sc2] 39)) := (by rw [hwb]; exact Later.rfl_); haveI hww : Later w wb := (by rw [hwb]; infer_instance); rw [← hwb] at HB0; have hbE := Lib.hid (congrArg (fun x : World => x.heap.size) hwb); clear hwb
  have hwb0 := hl.trans hww
  have H := Lib.hid h
  clear h
  by_cases c0 : okPairAt t change from_ to by_ = true
  rotate_left
  · have c1 : okPairAt t change from_ to by_ = false := by simpa using c0
    have HR := Lib.hid (lat_no c1)
    rw [HR.out]
    clear c0
    go_enter Try.func57, Try.ntmps57
    go_wp2_with (go_at_call 76; refine (spec_l8Pair H.out (hwb0.trans inferInstance) _ _ _ _).mono ?_; rintro e w1 ⟨rfl, L1⟩; have X1 := Later.trans (w := wb) inferInstance L1)
    go_ret2
    exact ⟨rfl, hww.trans inferInstance⟩
  obtain ⟨pf, b0, b1, hr⟩ := lat_yes c0
  have PF := Lib.hid pf
  have hn8 : sn0 ≤ 8 := by have := pf.time.net.stops; rw [Hl.out]; omega
  obtain ⟨q, rfl⟩ := Int.eq_ofNat_of_zero_le pf.to_.1
  have hq : q < sn0 := by have := pf.to_.2; rw [Hl.out]; omega
  have hqi : (q : Int) < sn0 := by omega
  have HR := Lib.hid (hr.trans (congrArg latOut (lat_same pf b1)))
  rw [HR.out]
  obtain ⟨L, hL⟩ : ∃ L, (depsS t from_).reverse = L := ⟨_, rfl⟩
  have HL := Lib.hid hL
  have HD12 : Hid (L.length ≤ 12) := by
    show _ ≤ _
    rw [← hL, List.length_reverse]
    have := depsS_len t from_
    have := pf.time.len
    omega
  have HDB : Hid (∀ v, v ∈ L → 0 ≤ v ∧ v ≤ 2099) := fun v hv => deps_bd pf.time (from_ := from_) (by rw [← hL] at hv; exact List.mem_reverse.1 hv)
  have HLS : Hid (latS t change from_ q by_ = L.find? fun d => decide (0 ≤ gi (arrS t change from_ d 4) q) && decide (gi (arrS t change from_ d 4) q ≤ by_)) := by show _ = _; unfold latS; rw [hL]
  rw [HLS.out]
  clear pf hL hr
  go_enter Try.func57, Try.ntmps57
  go_wp2_with first
    | (go_at_call 76; refine (spec_l8Pair H.out (hwb0.trans inferInstance) _ _ _ _).mono ?_; rintro e w1 ⟨rfl, L1⟩; have X1 := Later.trans (w := wb) inferInstance L1)
    | (go_at_call 120; refine (spec_l8Departures H.out (hwb0.trans inferInstance) PF.out.time from_).mono ?_; rw [HL.out]; rintro e w3 ⟨A3, n3, c3, f3, rfl, ho3, hnd3, hlo3, L3⟩; have X3 := Later.trans (w := wb) inferInstance L3; have h3 : Ints w3 A3 n3 c3 L := ho3.reads; have H3 := Lib.hid h3; have hn3 : n3 ≤ 12 := (by rw [h3.len]; exact HD12.out); clear h3 ho3 hnd3 hlo3)
  have HL3 := Lib.hid H3.out.len
  go_loopw [13] (fun i wr => ∃ k : Nat, k ≤ n3 ∧ i = .int .i64 k ∧ Hid ((L.drop k).find? (fun d => decide (0 ≤ gi (arrS t change from_ d 4) q) && decide (gi (arrS t change from_ d 4) q ≤ by_)) = L.find? fun d => decide (0 ≤ gi (arrS t change from_ d 4) q) && decide (gi (arrS t change from_ d 4) q ≤ by_)) ∧ Later wb wr ∧ Later w3 wr) (fun i _ => n3 - (intOf i).toNat)
  case atStart => exact ⟨0, by omega, rfl, by show _ = _; rw [List.drop_zero], inferInstance, inferInstance⟩
  case round =>
    obtain ⟨k, hk, rfl, HF, hX, hX3⟩ := hrel
    by_cases hlt : k < n3
    · obtain ⟨b, o, d, hA, hd, hcd, _⟩ := Ints.at_ H3.out hlt
      have HF1 := HF.out
      rw [drop_at hd.out, List.find?_cons] at HF1
      have hdb := HDB.out d (List.mem_of_getElem? hd.out)
      have hd0 := hdb.1
      have hd1 := hdb.2
      have hkt : (k : Int) < n3 := by omega
      obtain ⟨v, hv⟩ : ∃ v, gi (arrS t change from_ d 4) q = v := ⟨_, rfl⟩
      have HV := Lib.hid hv
      have HAT : Hid ((arrS t change from_ d 4)[q]? = some v) := by
        have hs := arrS_inv PF.out.time PF.out.ch.1 PF.out.fr.1 PF.out.fr.2 hd0 hd1 4 (change := change)
        have hq2 : q < (arrS t change from_ d 4).length := by rw [hs.len, ← Hl.out]; exact hq
        show _ = _
        rw [← hv]
        show _ = some ((arrS t change from_ d 4).getD ((q : Int)).toNat 0)
        rw [List.getD_eq_getElem?_getD, Int.toNat_natCast, List.getElem?_eq_getElem hq2]; rfl
      subst hA
      clear HF hd hdb hv
      by_cases v0 : 0 ≤ v
      rotate_left
      · rw [show ((decide (0 ≤ gi (arrS t change from_ d 4) q) && decide (gi (arrS t change from_ d 4) q ≤ by_)) = false) from by rw [HV.out]; simp; exact (fun e => absurd e v0)] at HF1
        have HF2 := Lib.hid HF1
        clear HF1
        go_wp2_with fail
        refine wp_region_held_drew (S := (fun w' => Later wb w' ∧ Later w3 w' ∧ Later wr w')) (by kernel_rfl) (by exact ⟨inferInstance, inferInstance, inferInstance⟩) (fun hHeld => ?_)
        refine wpAnyH_take (i := 0) (v := ?_) (by simp only [List.getElem?_toArray, List.getElem?_cons_zero] <;> rfl) (by kernel_rfl) (by kernel_rfl) (by kernel_rfl) (by exact fun _ _ _ h => h) (Or.inl ⟨by kernel_rfl, ?_⟩) (by assumption) ?_
        rotate_left
        · intro w' hSw; (try dsimp only at hSw); go_simp; try with_reducible rfl
        try simp only [Act.put, List.setIfInBounds_toArray, List.set_cons_zero, List.set_cons_succ]
        refine wpAnyH_take (i := 1) (v := ?_) (by simp only [List.getElem?_toArray, List.getElem?_cons_succ, List.getElem?_cons_zero] <;> rfl) (by kernel_rfl) (by kernel_rfl) (by kernel_rfl) (by exact fun _ _ _ h => h) (Or.inl ⟨by kernel_rfl, ?_⟩) (by assumption) ?_
        rotate_left
        · intro w' hSw; (try dsimp only at hSw); go_simp; try with_reducible rfl
        try simp only [Act.put, List.setIfInBounds_toArray, List.set_cons_zero, List.set_cons_succ]
        refine wpAnyH_take (i := 2) (v := ?_) (by simp only [List.getElem?_toArray, List.getElem?_cons_succ, List.getElem?_cons_zero] <;> rfl) (by kernel_rfl) (by kernel_rfl) (by kernel_rfl) (by exact fun _ _ _ h => h) (Or.inl ⟨by kernel_rfl, ?_⟩) (by assumption) ?_
        rotate_left
        · intro w' hSw; (try dsimp only at hSw); go_simp; try with_reducible rfl
        try simp only [Act.put, List.setIfInBounds_toArray, List.set_cons_zero, List.set_cons_succ]
        refine wpAnyH_take (i := 3) (v := ?_) (by simp only [List.getElem?_toArray, List.getElem?_cons_succ, List.getElem?_cons_zero] <;> rfl) (by kernel_rfl) (by kernel_rfl) (by kernel_rfl) (by exact fun _ _ _ h => h) (Or.inl ⟨by kernel_rfl, ?_⟩) (by assumption) ?_
        rotate_left
        · intro w' hSw; (try dsimp only at hSw); go_simp; try with_reducible rfl
        try simp only [Act.put, List.setIfInBounds_toArray, List.set_cons_zero, List.set_cons_succ]
        refine wpAnyH_take (i := 4) (v := ?_) (by simp only [List.getElem?_toArray, List.getElem?_cons_succ, List.getElem?_cons_zero] <;> rfl) (by kernel_rfl) (by kernel_rfl) (by kernel_rfl) (by exact fun _ _ _ h => h) (Or.inl ⟨by kernel_rfl, ?_⟩) (by assumption) ?_
        rotate_left
        · intro w' hSw; (try dsimp only at hSw); go_simp; try with_reducible rfl
        try simp only [Act.put, List.setIfInBounds_toArray, List.set_cons_zero, List.set_cons_succ]
        refine wpAnyH_take (i := 5) (v := ?_) (by simp only [List.getElem?_toArray, List.getElem?_cons_succ, List.getElem?_cons_zero] <;> rfl) (by kernel_rfl) (by kernel_rfl) (by kernel_rfl) (by exact fun _ _ _ h => h) (Or.inl ⟨by kernel_rfl, ?_⟩) (by assumption) ?_
        rotate_left
        · intro w' hSw; (try dsimp only at hSw); go_simp; try with_reducible rfl
        try simp only [Act.put, List.setIfInBounds_toArray, List.set_cons_zero, List.set_cons_succ]
        refine wpAnyH_take (i := 6) (v := ?_) (by simp only [List.getElem?_toArray, List.getElem?_cons_succ, List.getElem?_cons_zero] <;> rfl) (by kernel_rfl) (by kernel_rfl) (by kernel_rfl) (by exact fun _ _ _ h => h) (Or.inl ⟨by kernel_rfl, ?_⟩) (by assumption) ?_
        rotate_left
        · intro w' hSw; (try dsimp only at hSw); go_simp; try with_reducible rfl
        try simp only [Act.put, List.setIfInBounds_toArray, List.set_cons_zero, List.set_cons_succ]
        refine wpAnyH_take (i := 8) (v := ?_) (by simp only [List.getElem?_toArray, List.getElem?_cons_succ, List.getElem?_cons_zero] <;> rfl) (by kernel_rfl) (by kernel_rfl) (by kernel_rfl) (by exact fun _ _ _ h => h) (Or.inl ⟨by kernel_rfl, ?_⟩) (by assumption) ?_
        rotate_left
        · intro w' hSw; (try dsimp only at hSw); go_simp; try with_reducible rfl
        try simp only [Act.put, List.setIfInBounds_toArray, List.set_cons_zero, List.set_cons_succ]
        refine wpAnyH_ready (rs := [7]) (by kernel_rfl) (by simp) (AllReadyH.cons rfl (fun K hK => ?_) AllReadyH.nil)
        go_simp
        (go_at_call 83; refine (spec_l8Arrivals H.out (hwb0.trans inferInstance) PF.out.time _ _ _ PF.out.ch.1 PF.out.ch.2 PF.out.fr.1 PF.out.fr.2 hd0 hd1 4 (by omega) _ rfl).mono ?_; rintro e w2 ⟨g2, o2, c2, rfl, hL2, hR2, hg2, L2⟩; have X2 := Later.trans (w := wb) inferInstance L2; have Y2 := Later.trans (w := wr) inferInstance L2; have U2 := Later.trans (w := w3) inferInstance L2; have hcc := hR2.cells HAT.out; clear hL2 hR2 hg2)
        refine hK.out _ _ (by exact ⟨inferInstance, inferInstance, inferInstance⟩) (fun hHeld => ?_)
        try simp only [Act.put, List.setIfInBounds_toArray, List.set_cons_zero, List.set_cons_succ]
        refine wpAnyH_take (i := 9) (v := ?_) (by simp only [List.getElem?_toArray, List.getElem?_cons_succ, List.getElem?_cons_zero] <;> rfl) (by kernel_rfl) (by kernel_rfl) (by kernel_rfl) (by exact fun _ _ _ h => h) (Or.inl ⟨by kernel_rfl, ?_⟩) (by assumption) ?_
        rotate_left
        · intro w' hSw; (try dsimp only at hSw); go_simp; try with_reducible rfl
        try simp only [Act.put, List.setIfInBounds_toArray, List.set_cons_zero, List.set_cons_succ]
        refine wpAnyH_ready (rs := [10]) (by kernel_rfl) (by simp) (AllReadyH.cons rfl (fun K hK => ?_) AllReadyH.nil)
        go_simp
        skip
        refine hK.out _ _ (by exact ⟨inferInstance, inferInstance, inferInstance⟩) (fun hHeld => ?_)
        try simp only [Act.put, List.setIfInBounds_toArray, List.set_cons_zero, List.set_cons_succ]
        refine wpAnyH_take (i := 11) (v := ?_) (by simp only [List.getElem?_toArray, List.getElem?_cons_succ, List.getElem?_cons_zero] <;> rfl) (by kernel_rfl) (by kernel_rfl) (by kernel_rfl) (by exact fun _ _ _ h => h) (Or.inl ⟨by kernel_rfl, ?_⟩) (by assumption) ?_
        rotate_left
        · intro w' hSw; (try dsimp only at hSw); go_simp; try with_reducible rfl
        try simp only [Act.put, List.setIfInBounds_toArray, List.set_cons_zero, List.set_cons_succ]
        refine wpAnyH_done (by kernel_rfl) ?_ _
        go_wp2
        go_roundw
        case rel => exact ⟨k + 1, by omega, by go_num, HF2, inferInstance, inferInstance⟩
        case measure => simp [intOf]; omega
      by_cases v1 : v ≤ by_
      rotate_left
      · rw [show ((decide (0 ≤ gi (arrS t change from_ d 4) q) && decide (gi (arrS t change from_ d 4) q ≤ by_)) = false) from by rw [HV.out]; simp; exact (fun _ => by omega)] at HF1
        have HF2 := Lib.hid HF1
        clear HF1
        go_wp2_with fail
        refine wp_region_held_drew (S := (fun w' => Later wb w' ∧ Later w3 w' ∧ Later wr w')) (by kernel_rfl) (by exact ⟨inferInstance, inferInstance, inferInstance⟩) (fun hHeld => ?_)
        refine wpAnyH_take (i := 0) (v := ?_) (by simp only [List.getElem?_toArray, List.getElem?_cons_zero] <;> rfl) (by kernel_rfl) (by kernel_rfl) (by kernel_rfl) (by exact fun _ _ _ h => h) (Or.inl ⟨by kernel_rfl, ?_⟩) (by assumption) ?_
        rotate_left
        · intro w' hSw; (try dsimp only at hSw); go_simp; try with_reducible rfl
        try simp only [Act.put, List.setIfInBounds_toArray, List.set_cons_zero, List.set_cons_succ]
        refine wpAnyH_take (i := 1) (v := ?_) (by simp only [List.getElem?_toArray, List.getElem?_cons_succ, List.getElem?_cons_zero] <;> rfl) (by kernel_rfl) (by kernel_rfl) (by kernel_rfl) (by exact fun _ _ _ h => h) (Or.inl ⟨by kernel_rfl, ?_⟩) (by assumption) ?_
        rotate_left
        · intro w' hSw; (try dsimp only at hSw); go_simp; try with_reducible rfl
        try simp only [Act.put, List.setIfInBounds_toArray, List.set_cons_zero, List.set_cons_succ]
        refine wpAnyH_take (i := 2) (v := ?_) (by simp only [List.getElem?_toArray, List.getElem?_cons_succ, List.getElem?_cons_zero] <;> rfl) (by kernel_rfl) (by kernel_rfl) (by kernel_rfl) (by exact fun _ _ _ h => h) (Or.inl ⟨by kernel_rfl, ?_⟩) (by assumption) ?_
        rotate_left
        · intro w' hSw; (try dsimp only at hSw); go_simp; try with_reducible rfl
        try simp only [Act.put, List.setIfInBounds_toArray, List.set_cons_zero, List.set_cons_succ]
        refine wpAnyH_take (i := 3) (v := ?_) (by simp only [List.getElem?_toArray, List.getElem?_cons_succ, List.getElem?_cons_zero] <;> rfl) (by kernel_rfl) (by kernel_rfl) (by kernel_rfl) (by exact fun _ _ _ h => h) (Or.inl ⟨by kernel_rfl, ?_⟩) (by assumption) ?_
        rotate_left
        · intro w' hSw; (try dsimp only at hSw); go_simp; try with_reducible rfl
        try simp only [Act.put, List.setIfInBounds_toArray, List.set_cons_zero, List.set_cons_succ]
        refine wpAnyH_take (i := 4) (v := ?_) (by simp only [List.getElem?_toArray, List.getElem?_cons_succ, List.getElem?_cons_zero] <;> rfl) (by kernel_rfl) (by kernel_rfl) (by kernel_rfl) (by exact fun _ _ _ h => h) (Or.inl ⟨by kernel_rfl, ?_⟩) (by assumption) ?_
        rotate_left
        · intro w' hSw; (try dsimp only at hSw); go_simp; try with_reducible rfl
        try simp only [Act.put, List.setIfInBounds_toArray, List.set_cons_zero, List.set_cons_succ]
        refine wpAnyH_take (i := 5) (v := ?_) (by simp only [List.getElem?_toArray, List.getElem?_cons_succ, List.getElem?_cons_zero] <;> rfl) (by kernel_rfl) (by kernel_rfl) (by kernel_rfl) (by exact fun _ _ _ h => h) (Or.inl ⟨by kernel_rfl, ?_⟩) (by assumption) ?_
        rotate_left
        · intro w' hSw; (try dsimp only at hSw); go_simp; try with_reducible rfl
        try simp only [Act.put, List.setIfInBounds_toArray, List.set_cons_zero, List.set_cons_succ]
        refine wpAnyH_take (i := 6) (v := ?_) (by simp only [List.getElem?_toArray, List.getElem?_cons_succ, List.getElem?_cons_zero] <;> rfl) (by kernel_rfl) (by kernel_rfl) (by kernel_rfl) (by exact fun _ _ _ h => h) (Or.inl ⟨by kernel_rfl, ?_⟩) (by assumption) ?_
        rotate_left
        · intro w' hSw; (try dsimp only at hSw); go_simp; try with_reducible rfl
        try simp only [Act.put, List.setIfInBounds_toArray, List.set_cons_zero, List.set_cons_succ]
        refine wpAnyH_take (i := 8) (v := ?_) (by simp only [List.getElem?_toArray, List.getElem?_cons_succ, List.getElem?_cons_zero] <;> rfl) (by kernel_rfl) (by kernel_rfl) (by kernel_rfl) (by exact fun _ _ _ h => h) (Or.inl ⟨by kernel_rfl, ?_⟩) (by assumption) ?_
        rotate_left
        · intro w' hSw; (try dsimp only at hSw); go_simp; try with_reducible rfl
        try simp only [Act.put, List.setIfInBounds_toArray, List.set_cons_zero, List.set_cons_succ]
        refine wpAnyH_ready (rs := [7]) (by kernel_rfl) (by simp) (AllReadyH.cons rfl (fun K hK => ?_) AllReadyH.nil)
        go_simp
        (go_at_call 83; refine (spec_l8Arrivals H.out (hwb0.trans inferInstance) PF.out.time _ _ _ PF.out.ch.1 PF.out.ch.2 PF.out.fr.1 PF.out.fr.2 hd0 hd1 4 (by omega) _ rfl).mono ?_; rintro e w2 ⟨g2, o2, c2, rfl, hL2, hR2, hg2, L2⟩; have X2 := Later.trans (w := wb) inferInstance L2; have Y2 := Later.trans (w := wr) inferInstance L2; have U2 := Later.trans (w := w3) inferInstance L2; have hcc := hR2.cells HAT.out; clear hL2 hR2 hg2)
        refine hK.out _ _ (by exact ⟨inferInstance, inferInstance, inferInstance⟩) (fun hHeld => ?_)
        try simp only [Act.put, List.setIfInBounds_toArray, List.set_cons_zero, List.set_cons_succ]
        refine wpAnyH_take (i := 9) (v := ?_) (by simp only [List.getElem?_toArray, List.getElem?_cons_succ, List.getElem?_cons_zero] <;> rfl) (by kernel_rfl) (by kernel_rfl) (by kernel_rfl) (by exact fun _ _ _ h => h) (Or.inl ⟨by kernel_rfl, ?_⟩) (by assumption) ?_
        rotate_left
        · intro w' hSw; (try dsimp only at hSw); go_simp; try with_reducible rfl
        try simp only [Act.put, List.setIfInBounds_toArray, List.set_cons_zero, List.set_cons_succ]
        refine wpAnyH_ready (rs := [10]) (by kernel_rfl) (by simp) (AllReadyH.cons rfl (fun K hK => ?_) AllReadyH.nil)
        go_simp
        skip
        refine hK.out _ _ (by exact ⟨inferInstance, inferInstance, inferInstance⟩) (fun hHeld => ?_)
        try simp only [Act.put, List.setIfInBounds_toArray, List.set_cons_zero, List.set_cons_succ]
        refine wpAnyH_take (i := 11) (v := ?_) (by simp only [List.getElem?_toArray, List.getElem?_cons_succ, List.getElem?_cons_zero] <;> rfl) (by kernel_rfl) (by kernel_rfl) (by kernel_rfl) (by exact fun _ _ _ h => h) (Or.inl ⟨by kernel_rfl, ?_⟩) (by assumption) ?_
        rotate_left
        · intro w' hSw; (try dsimp only at hSw); go_simp; try with_reducible rfl
        try simp only [Act.put, List.setIfInBounds_toArray, List.set_cons_zero, List.set_cons_succ]
        refine wpAnyH_done (by kernel_rfl) ?_ _
        go_wp2
        go_roundw
        case rel => exact ⟨k + 1, by omega, by go_num, HF2, inferInstance, inferInstance⟩
        case measure => simp [intOf]; omega
      rw [show ((decide (0 ≤ gi (arrS t change from_ d 4) q) && decide (gi (arrS t change from_ d 4) q ≤ by_)) = true) from by rw [HV.out]; simp; exact ⟨v0, v1⟩] at HF1
      have HF2 : Hid (latOut (L.find? fun d => decide (0 ≤ gi (arrS t change from_ d 4) q) && decide (gi (arrS t change from_ d 4) q ≤ by_)) = (d, true)) := by show _ = _; rw [← HF1]; rfl
      clear HF1
      go_wp2_with fail
      refine wp_region_held_drew (S := (fun w' => Later wb w' ∧ Later w3 w' ∧ Later wr w')) (by kernel_rfl) (by exact ⟨inferInstance, inferInstance, inferInstance⟩) (fun hHeld => ?_)
      refine wpAnyH_take (i := 0) (v := ?_) (by simp only [List.getElem?_toArray, List.getElem?_cons_zero] <;> rfl) (by kernel_rfl) (by kernel_rfl) (by kernel_rfl) (by exact fun _ _ _ h => h) (Or.inl ⟨by kernel_rfl, ?_⟩) (by assumption) ?_
      rotate_left
      · intro w' hSw; (try dsimp only at hSw); go_simp; try with_reducible rfl
      try simp only [Act.put, List.setIfInBounds_toArray, List.set_cons_zero, List.set_cons_succ]
      refine wpAnyH_take (i := 1) (v := ?_) (by simp only [List.getElem?_toArray, List.getElem?_cons_succ, List.getElem?_cons_zero] <;> rfl) (by kernel_rfl) (by kernel_rfl) (by kernel_rfl) (by exact fun _ _ _ h => h) (Or.inl ⟨by kernel_rfl, ?_⟩) (by assumption) ?_
      rotate_left
      · intro w' hSw; (try dsimp only at hSw); go_simp; try with_reducible rfl
      try simp only [Act.put, List.setIfInBounds_toArray, List.set_cons_zero, List.set_cons_succ]
      refine wpAnyH_take (i := 2) (v := ?_) (by simp only [List.getElem?_toArray, List.getElem?_cons_succ, List.getElem?_cons_zero] <;> rfl) (by kernel_rfl) (by kernel_rfl) (by kernel_rfl) (by exact fun _ _ _ h => h) (Or.inl ⟨by kernel_rfl, ?_⟩) (by assumption) ?_
      rotate_left
      · intro w' hSw; (try dsimp only at hSw); go_simp; try with_reducible rfl
      try simp only [Act.put, List.setIfInBounds_toArray, List.set_cons_zero, List.set_cons_succ]
      refine wpAnyH_take (i := 3) (v := ?_) (by simp only [List.getElem?_toArray, List.getElem?_cons_succ, List.getElem?_cons_zero] <;> rfl) (by kernel_rfl) (by kernel_rfl) (by kernel_rfl) (by exact fun _ _ _ h => h) (Or.inl ⟨by kernel_rfl, ?_⟩) (by assumption) ?_
      rotate_left
      · intro w' hSw; (try dsimp only at hSw); go_simp; try with_reducible rfl
      try simp only [Act.put, List.setIfInBounds_toArray, List.set_cons_zero, List.set_cons_succ]
      refine wpAnyH_take (i := 4) (v := ?_) (by simp only [List.getElem?_toArray, List.getElem?_cons_succ, List.getElem?_cons_zero] <;> rfl) (by kernel_rfl) (by kernel_rfl) (by kernel_rfl) (by exact fun _ _ _ h => h) (Or.inl ⟨by kernel_rfl, ?_⟩) (by assumption) ?_
      rotate_left
      · intro w' hSw; (try dsimp only at hSw); go_simp; try with_reducible rfl
      try simp only [Act.put, List.setIfInBounds_toArray, List.set_cons_zero, List.set_cons_succ]
      refine wpAnyH_take (i := 5) (v := ?_) (by simp only [List.getElem?_toArray, List.getElem?_cons_succ, List.getElem?_cons_zero] <;> rfl) (by kernel_rfl) (by kernel_rfl) (by kernel_rfl) (by exact fun _ _ _ h => h) (Or.inl ⟨by kernel_rfl, ?_⟩) (by assumption) ?_
      rotate_left
      · intro w' hSw; (try dsimp only at hSw); go_simp; try with_reducible rfl
      try simp only [Act.put, List.setIfInBounds_toArray, List.set_cons_zero, List.set_cons_succ]
      refine wpAnyH_take (i := 6) (v := ?_) (by simp only [List.getElem?_toArray, List.getElem?_cons_succ, List.getElem?_cons_zero] <;> rfl) (by kernel_rfl) (by kernel_rfl) (by kernel_rfl) (by exact fun _ _ _ h => h) (Or.inl ⟨by kernel_rfl, ?_⟩) (by assumption) ?_
      rotate_left
      · intro w' hSw; (try dsimp only at hSw); go_simp; try with_reducible rfl
      try simp only [Act.put, List.setIfInBounds_toArray, List.set_cons_zero, List.set_cons_succ]
      refine wpAnyH_take (i := 8) (v := ?_) (by simp only [List.getElem?_toArray, List.getElem?_cons_succ, List.getElem?_cons_zero] <;> rfl) (by kernel_rfl) (by kernel_rfl) (by kernel_rfl) (by exact fun _ _ _ h => h) (Or.inl ⟨by kernel_rfl, ?_⟩) (by assumption) ?_
      rotate_left
      · intro w' hSw; (try dsimp only at hSw); go_simp; try with_reducible rfl
      try simp only [Act.put, List.setIfInBounds_toArray, List.set_cons_zero, List.set_cons_succ]
      refine wpAnyH_ready (rs := [7]) (by kernel_rfl) (by simp) (AllReadyH.cons rfl (fun K hK => ?_) AllReadyH.nil)
      go_simp
      (go_at_call 83; refine (spec_l8Arrivals H.out (hwb0.trans inferInstance) PF.out.time _ _ _ PF.out.ch.1 PF.out.ch.2 PF.out.fr.1 PF.out.fr.2 hd0 hd1 4 (by omega) _ rfl).mono ?_; rintro e w2 ⟨g2, o2, c2, rfl, hL2, hR2, hg2, L2⟩; have X2 := Later.trans (w := wb) inferInstance L2; have Y2 := Later.trans (w := wr) inferInstance L2; have U2 := Later.trans (w := w3) inferInstance L2; have hcc := hR2.cells HAT.out; clear hL2 hR2 hg2)
      refine hK.out _ _ (by exact ⟨inferInstance, inferInstance, inferInstance⟩) (fun hHeld => ?_)
      try simp only [Act.put, List.setIfInBounds_toArray, List.set_cons_zero, List.set_cons_succ]
      refine wpAnyH_take (i := 9) (v := ?_) (by simp only [List.getElem?_toArray, List.getElem?_cons_succ, List.getElem?_cons_zero] <;> rfl) (by kernel_rfl) (by kernel_rfl) (by kernel_rfl) (by exact fun _ _ _ h => h) (Or.inl ⟨by kernel_rfl, ?_⟩) (by assumption) ?_
      rotate_left
      · intro w' hSw; (try dsimp only at hSw); go_simp; try with_reducible rfl
      try simp only [Act.put, List.setIfInBounds_toArray, List.set_cons_zero, List.set_cons_succ]
      refine wpAnyH_ready (rs := [10]) (by kernel_rfl) (by simp) (AllReadyH.cons rfl (fun K hK => ?_) AllReadyH.nil)
      go_simp
      skip
      refine hK.out _ _ (by exact ⟨inferInstance, inferInstance, inferInstance⟩) (fun hHeld => ?_)
      try simp only [Act.put, List.setIfInBounds_toArray, List.set_cons_zero, List.set_cons_succ]
      refine wpAnyH_take (i := 11) (v := ?_) (by simp only [List.getElem?_toArray, List.getElem?_cons_succ, List.getElem?_cons_zero] <;> rfl) (by kernel_rfl) (by kernel_rfl) (by kernel_rfl) (by exact fun _ _ _ h => h) (Or.inl ⟨by kernel_rfl, ?_⟩) (by assumption) ?_
      rotate_left
      · intro w' hSw; (try dsimp only at hSw); go_simp; try with_reducible rfl
      try simp only [Act.put, List.setIfInBounds_toArray, List.set_cons_zero, List.set_cons_succ]
      refine wpAnyH_done (by kernel_rfl) ?_ _
      go_wp2
      go_ret2
      exact ⟨by rw [HF2.out]; rfl, hww.trans inferInstance⟩
    · have HE : Hid (L.find? (fun d => decide (0 ≤ gi (arrS t change from_ d 4) q) && decide (gi (arrS t change from_ d 4) q ≤ by_)) = none) := by
        have h9 := HF.out
        rw [List.drop_eq_nil_of_le (by have := HL3.out; omega)] at h9
        exact h9.symm
      have hkt : ¬ (k : Int) < n3 := by omega
      clear HF
      go_wp2
      go_ret2
      exact ⟨by rw [HE.out]; rfl, hww.trans inferInstance⟩
end Go.Proofs.Yteijofkkggifhaa
