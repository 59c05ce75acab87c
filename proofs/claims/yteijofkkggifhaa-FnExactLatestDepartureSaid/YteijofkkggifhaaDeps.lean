/-
  The departures from a stop, in the program (departuresFrom).
-/
import Derived.Test.YteijofkkggifhaaProfP
import Derived.Test.YteijofkkggifhaaTimeE
import Derived.Test.YteijofkkggifhaaTimeC
import Derived.Test.YteijofkkggifhaaSortNil
import Derived.Test.YteijofkkggifhaaAppK
import Derived.Deep.RegionHeld3
namespace Go.Proofs.Yteijofkkggifhaa
open Go Go.RowKit Go.Sort
set_option linter.unusedVariables false
set_option maxRecDepth 100000
set_option linter.unusedSimpArgs false
theorem grow_none (W : World) : grow W #[] = W := by cases W; simp [grow]
theorem compact_nil : Lib.compact ([] : List Int) = [] := rfl
theorem impl_CompactOwn {w0 w : World} {base : Nat} {v : Value} {n : Nat} {l : List Int} (hown : w.ownsRow base 3 1 v n (l.map (Value.int .i64))) (hl : Later w0 w) (hb0 : w0.heap.size ≤ base) (hn : n ≤ 1073741824) :
    Calls Try.prog 168 #[v] w fun e w' => ∃ v', e = .returned v' ∧ Later w0 w' ∧ w'.ownsRow base 3 1 v' (Lib.compact l).length ((Lib.compact l).map (Value.int .i64)) := by
  have hlen : l.length = n := by have := hown.1; simpa using this
  by_cases h0 : n = 0
  · subst h0
    have h9 : l = [] := List.length_eq_zero_iff.1 hlen
    subst h9
    have hv : ∃ p c, v = .slice p 0 c := by
      rcases hown.2 with ⟨h1, _⟩ | ⟨g, cap, cur, h1, _⟩
      · exact ⟨none, 0, h1⟩
      · exact ⟨_, cap, h1⟩
    obtain ⟨p, c, rfl⟩ := hv
    refine (Any.slices_Compact_int_empty Try.compI p c w).mono ?_
    rintro e w' ⟨rfl, rfl⟩
    exact ⟨_, rfl, hl, by simpa [compact_nil] using hown⟩
  · have hne : v ≠ .slice none 0 0 := by
      rintro rfl
      rcases hown.2 with ⟨_, h1⟩ | ⟨g, cap, cur, h1, _⟩
      · exact h0 h1
      · cases h1
    obtain ⟨g, cap, hov, hbg, hgl, hncap, hcm, _, hH⟩ := Lib.holds_of_ownsRow hown hne
    rcases hown.2 with ⟨h1, _⟩ | ⟨g', cap', cur, h1, h2, h3, h4, h5, h6, h7⟩
    · exact absurd h1 hne
    · subst hov
      cases h1
      subst hlen
      refine (Any.slices_Compact_int Try.compI g 0 cap l w hH (by omega) hncap).mono ?_
      rintro e w' ⟨rfl, q, rfl⟩
      refine ⟨_, rfl, hl.of_grown (grownBy_put _) (fun g' hg' => by cases hg'; exact Nat.le_trans hb0 h2), ?_⟩
      have hle := Lib.compact_length_le l
      have hg := ownsRow_sortedI (w := w) (base := base) (g := g) (cap := cap) (n := q) (os := #[]) (cur := cur) (ss := l) (ts := Lib.compact l ++ List.replicate (l.length - (Lib.compact l).length) 0) (by simp; omega) h2 h3 h4 h5 h6
      have hg2 : (putRow (Value.int .i64) (Sort.ahead w q) g 0 (Lib.compact l ++ List.replicate (l.length - (Lib.compact l).length) 0).toArray).ownsRow base 3 1 (.slice (some ⟨g, 0, none⟩) l.length cap) l.length ((Lib.compact l ++ List.replicate (l.length - (Lib.compact l).length) 0).map (Value.int .i64)) := by
        rw [grow_none] at hg; exact hg
      obtain ⟨k1, k2⟩ := hg2
      rcases k2 with ⟨k2, _⟩ | ⟨g1, cap1, cur1, k3, k4, k5, k6, k7, k8, k9⟩
      · cases k2
      · cases k3
        refine ⟨by simp, .inr ⟨g, cap, cur1, rfl, k4, k5, by omega, k7, k8, ?_⟩⟩
        have : (cur1.toList.take (l.length * 1)).take ((Lib.compact l).length * 1) = ((Lib.compact l ++ List.replicate (l.length - (Lib.compact l).length) 0).map (Value.int .i64)).take ((Lib.compact l).length * 1) := by rw [k9]
        rw [List.take_take, Nat.min_eq_left (by omega)] at this
        rw [this, List.map_append, Nat.mul_one, List.take_left' (by simp)]
theorem dep0_go {t : Timetable} {from_ : Int} {l : List Trip} {x : Trip} {k : Nat} (h : l[k]? = some x) : (l.drop k).filterMap (dep1 t from_) = (match dep1 t from_ x with | some d => [d] | none => []) ++ (l.drop (k + 1)).filterMap (dep1 t from_) := by
  rw [drop_at h, List.filterMap_cons]
  cases dep1 t from_ x <;> rfl
set_option maxHeartbeats 4000000 in
theorem impl_departuresFrom {w0 w : World} {sA0 : Option Addr} {sn0 sc0 : Nat} {sA1 : Option Addr} {sn1 sc1 : Nat} {sA2 : Option Addr} {sn2 sc2 : Nat} {t : Timetable} (h : TimetableAt w0 sA0 sn0 sc0 sA1 sn1 sc1 sA2 sn2 sc2 t) (hl : Later w0 w) (tf : TimeFacts t) (from_ : Int) :
    Calls Try.prog 122 #[.agg #[.slice sA0 sn0 sc0, .slice sA1 sn1 sc1, .slice sA2 sn2 sc2], .int .i64 from_] w (RetO 1 oInt (depsI t from_) w) := by
  have hT := h.l_Trips.later hl
  have hn2 := hT.le
  have Hl := Lib.hid hT.len
  have NF := Lib.hid tf.net
  have TF := Lib.hid tf
  have h12 : sn2 ≤ 12 := by have := tf.len; rw [hT.len]; omega
  clear tf
  have HB0 : ∀ W [Later (w.alloc (.cells #[.slice sA0 sn0 sc0, .slice sA1 sn1 sc1, .slice sA2 sn2 sc2] 39)) W] (j : Nat), W.cell? ⟨w.heap.size, j, none⟩ = #[.slice sA0 sn0 sc0, .slice sA1 sn1 sc1, .slice sA2 sn2 sc2][j]? := Later.boxes (t := 39) (fr := (0, 0)) (heap_new (by simp; try omega)); obtain ⟨wb, hwb⟩ : ∃ wb : World, wb = (w.alloc (.cells #[.slice sA0 sn0 sc0, .slice sA1 sn1 sc1, .slice sA2 sn2 sc2] 39)) := ⟨_, rfl⟩; haveI hbW : Later wb (w.alloc (.cells #[.slice sA0 sn0 sc0, .slice sA1 sn1 sc1, .slice sA2 sn2 sc2] 39)) := (by rw [hwb]; exact Later.rfl_); haveI hww : Later w wb := (by rw [hwb]; infer_instance); rw [← hwb] at HB0; have hbE := Lib.hid (congrArg (fun x : World => x.heap.size) hwb); clear hwb
  have hwb0 := hl.trans hww
  have H := Lib.hid h
  clear h
  replace hT := hT.later hww
  have hbs : wb.heap.size ≤ w.heap.size + 1 := by have := hbE.out; simp at this; omega
  have hbs2 : w.heap.size + 1 ≤ wb.heap.size := by have := hbE.out; simp at this; omega
  have hfl := field_Line1
  go_enter Try.func122, Try.ntmps122
  go_wp2_with fail
  go_loopw [5, 14] (fun ov i wr => ∃ (k : Nat) (acc : List Int), k ≤ sn2 ∧ i = .int .i64 k ∧ acc.length ≤ k ∧ Hid (acc ++ (t.Trips.drop k).filterMap (dep1 t from_) = dep0 t from_) ∧ Hid (∀ y, y ∈ acc → 0 ≤ y ∧ y ≤ 2099) ∧ Hid (wr.ownsRow (w.heap.size + 1) 3 1 ov acc.length (acc.map (Value.int .i64))) ∧ Later wb wr) (fun _ i _ => sn2 - (intOf i).toNat)
  case atStart => exact ⟨0, [], by omega, rfl, by simp, by show _ = _; simp [dep0], fun y hy => by simp at hy, Lib.hid (by simpa using World.ownsRow_nil _ (w.heap.size + 1) 3 1), inferInstance⟩
  case round =>
    obtain ⟨k, acc, hk, rfl, hal, HF, HBD, hown, hX⟩ := hrel
    by_cases hlt : k < sn2
    · obtain ⟨b, o, x, rfl, hx, hc0, hc1, hc2, hi⟩ := Trips.at_ hT hlt
      have TI := Lib.hid (TF.out.trip k x hx.out).in_
      have TM := Lib.hid (List.mem_of_getElem? hx.out)
      have lf := Lib.hid (lineAtT_facts NF.out TI.out.line0 TI.out.line1)
      have HF1 := HF.out
      rw [dep0_go hx.out] at HF1
      obtain ⟨p, hp⟩ : ∃ p, idx (intIs from_) (lineAtT t x.Line).Stops = p := ⟨_, rfl⟩
      have HP0 := Lib.hid hp
      have HD1 : Hid (dep1 t from_ x = if 0 ≤ p ∧ p < ((lineAtT t x.Line).Stops.length : Int) - 1 then some (timeAt t x p.toNat) else none) := by show _ = _; unfold dep1 placeT; rw [hp]
      clear HF hx hi hp
      have HBX : ∀ W [Later (wr.alloc (.cells #[.int .i64 x.Id, .int .i64 x.Line, .int .i64 x.Start] 107)) W] (j : Nat), W.cell? ⟨wr.heap.size, j, none⟩ = #[.int .i64 x.Id, .int .i64 x.Line, .int .i64 x.Start][j]? := Later.boxes (t := 107) (fr := (0, 0)) (heap_new (by simp; try omega)); obtain ⟨wx, hwx⟩ : ∃ wx : World, wx = (wr.alloc (.cells #[.int .i64 x.Id, .int .i64 x.Line, .int .i64 x.Start] 107)) := ⟨_, rfl⟩; haveI hxW : Later wx (wr.alloc (.cells #[.int .i64 x.Id, .int .i64 x.Line, .int .i64 x.Start] 107)) := (by rw [hwx]; exact Later.rfl_); haveI hbx : Later wb wx := (by rw [hwx]; infer_instance); rw [← hwx] at HBX; clear hwx
      by_cases c0 : 0 ≤ p
      · obtain ⟨m, rfl⟩ := Int.eq_ofNat_of_zero_le c0
        by_cases c1 : m + 1 < (lineAtT t x.Line).Stops.length
        · obtain ⟨d, hd⟩ : ∃ d, timeAt t x m = d := ⟨_, rfl⟩
          have hD2 : dep1 t from_ x = some d := by rw [HD1.out, if_pos (by omega), ← hd]; rfl
          rw [hD2] at HF1
          have HF2 : Hid ((acc ++ [d]) ++ (t.Trips.drop (k + 1)).filterMap (dep1 t from_) = dep0 t from_) := by show _ = _; rw [← HF1]; simp
          have hdb : 0 ≤ d ∧ d ≤ 2099 := by
            have hs := stopsIn TF.out x TM.out _ (List.mem_of_getElem? (passT_at (t := t) (x := x) (List.getElem?_eq_getElem (show m < (lineAtT t x.Line).Stops.length by omega))))
            simp only at hs
            rw [hd] at hs
            exact hs.2.2
          have HBD2 : Hid (∀ y, y ∈ acc ++ [d] → 0 ≤ y ∧ y ≤ 2099) := fun y hy => by
            rcases List.mem_append.1 hy with hy | hy
            · exact HBD.out y hy
            · simp at hy; subst hy; exact hdb
          have HDD := Lib.hid hd
          have HC1 := Lib.hid c1
          clear HF1 hD2 hdb hd c1
          go_wp2_with fail
          go_region_held3 (fun w' => Later wb w' ∧ Later wx w' ∧ Later wr w') (exact ⟨inferInstance, inferInstance, inferInstance⟩) (first
            | (go_at_call 73; refine (impl_lineOf H.out (hwb0.trans inferInstance) x TI.out.line0 TI.out.line1).mono ?_; rintro e w5 ⟨A0, n0, c0, A1, n1, c1', rfl, hy, L5⟩; have X5 := Later.trans (w := wb) inferInstance L5; have Y5 := Later.trans (w := wr) inferInstance L5; have Z5 := Later.trans (w := wx) inferInstance L5; have HY := Lib.hid hy; clear hy)
            | (go_at_call 72; refine (impl_stopTimes H.out (hwb0.trans inferInstance) NF.out x TI.out).mono ?_; rintro e w4 ⟨A4, n4, c4, f4, rfl, o4, nd4, lo4, L4⟩; have X4 := Later.trans (w := wb) inferInstance L4; have Z4 := Later.trans (w := wx) inferInstance L4; have Y4 := Later.trans (w := wr) inferInstance L4; have HO4 := Lib.hid o4; clear o4 nd4 lo4))
          have hS := HY.out.l_Stops.later hwb0
          have HS := Lib.hid hS
          have HN0 := Lib.hid hS.len
          have hn0 : n0 ≤ 6 := by rw [hS.len]; have := lf.out.stops; omega
          have hmn : (m : Int) < (n0 : Int) - 1 := by have := HC1.out; have := HN0.out; omega
          have hI4 : Ints w4 A4 n4 c4 (timesOf t x) := HO4.out.reads
          have hn4 : n4 ≤ 6 := by rw [hI4.len, timesOf_len]; have := lf.out.stops; have := lf.out.runs; omega
          have hm4 : m < n4 := by rw [hI4.len, timesOf_len]; have := HC1.out; have := lf.out.runs; omega
          obtain ⟨b4, o4, τ, rfl, ht, hct, _⟩ := Ints.at_ hI4 hm4
          have HT : τ = d := by rw [← HDD.out]; exact Option.some.inj (ht.out.symm.trans (timesOf_at (by have := lf.out.runs; have := HC1.out; omega)))
          subst HT
          clear hS hI4 ht
          go_wp2_with first
            | (go_at_call 151; refine (slices_IndexInt HS.out inferInstance _).mono ?_; rw [HP0.out]; rintro e w6 ⟨rfl, L6⟩; have X6 := Later.trans (w := wb) inferInstance L6; have Y6 := Later.trans (w := wr) inferInstance L6; have Z6 := Later.trans (w := w4) inferInstance L6)
            | (at_builtin; refine wpList_app_B rfl _ _ 80 rfl Try.underlying80 infoInt rfl (by decide) (by decide) rfl (by exact ownsRow_later hown.out (inferInstance : Later wr w6)) (inferInstance : Later wb w6) hbs (Nat.le_trans hbs2 (Later.size (w := wb) inferInstance)) rfl rfl (one_cell _ _) (by omega) ?_; intro v' w9 hown' hX9)
          go_roundw
          case rel => exact ⟨k + 1, acc ++ [τ], by omega, by go_num, by simp; omega, HF2, HBD2, by show World.ownsRow _ _ _ _ _ _ _; rw [List.map_append, List.length_append]; exact hown', inferInstance⟩
          case measure => simp [intOf]; omega
        · have hD2 : dep1 t from_ x = none := by rw [HD1.out, if_neg (by omega)]
          rw [hD2] at HF1
          have HF2 := Lib.hid HF1
          have HC1 := Lib.hid c1
          clear HF1 hD2 c1
          go_wp2_with fail
          go_region_held3 (fun w' => Later wb w' ∧ Later wx w' ∧ Later wr w') (exact ⟨inferInstance, inferInstance, inferInstance⟩) (first
            | (go_at_call 73; refine (impl_lineOf H.out (hwb0.trans inferInstance) x TI.out.line0 TI.out.line1).mono ?_; rintro e w5 ⟨A0, n0, c0, A1, n1, c1', rfl, hy, L5⟩; have X5 := Later.trans (w := wb) inferInstance L5; have Y5 := Later.trans (w := wr) inferInstance L5; have Z5 := Later.trans (w := wx) inferInstance L5; have HY := Lib.hid hy; clear hy)
            | (go_at_call 72; refine (impl_stopTimes H.out (hwb0.trans inferInstance) NF.out x TI.out).mono ?_; rintro e w4 ⟨A4, n4, c4, f4, rfl, o4, nd4, lo4, L4⟩; have X4 := Later.trans (w := wb) inferInstance L4; have Z4 := Later.trans (w := wx) inferInstance L4; have Y4 := Later.trans (w := wr) inferInstance L4; have HO4 := Lib.hid o4; clear o4 nd4 lo4))
          have hS := HY.out.l_Stops.later hwb0
          have HS := Lib.hid hS
          have HN0 := Lib.hid hS.len
          have hn0 : n0 ≤ 6 := by rw [hS.len]; have := lf.out.stops; omega
          have hmn : ¬ (m : Int) < (n0 : Int) - 1 := by have := HC1.out; have := HN0.out; omega
          clear hS
          go_wp2_with (go_at_call 151; refine (slices_IndexInt HS.out inferInstance _).mono ?_; rw [HP0.out]; rintro e w6 ⟨rfl, L6⟩; have X6 := Later.trans (w := wb) inferInstance L6; have Y6 := Later.trans (w := wr) inferInstance L6)
          go_roundw
          case rel => exact ⟨k + 1, acc, by omega, by go_num, by omega, by simpa using HF2, HBD, ownsRow_later hown.out (inferInstance : Later wr _), inferInstance⟩
          case measure => simp [intOf]; omega
      · have hD2 : dep1 t from_ x = none := by rw [HD1.out, if_neg (fun e => c0 e.1)]
        rw [hD2] at HF1
        have HF2 : Hid (acc ++ (t.Trips.drop (k + 1)).filterMap (dep1 t from_) = dep0 t from_) := by show _ = _; simpa using HF1
        clear HF1 hD2
        go_wp2_with fail
        go_region_held3 (fun w' => Later wb w' ∧ Later wx w' ∧ Later wr w') (exact ⟨inferInstance, inferInstance, inferInstance⟩) (first
          | (go_at_call 73; refine (impl_lineOf H.out (hwb0.trans inferInstance) x TI.out.line0 TI.out.line1).mono ?_; rintro e w5 ⟨A0, n0, c0, A1, n1, c1', rfl, hy, L5⟩; have X5 := Later.trans (w := wb) inferInstance L5; have Y5 := Later.trans (w := wr) inferInstance L5; have Z5 := Later.trans (w := wx) inferInstance L5; have HY := Lib.hid hy; clear hy)
          | (go_at_call 72; refine (impl_stopTimes H.out (hwb0.trans inferInstance) NF.out x TI.out).mono ?_; rintro e w4 ⟨A4, n4, c4, f4, rfl, o4, nd4, lo4, L4⟩; have X4 := Later.trans (w := wb) inferInstance L4; have Z4 := Later.trans (w := wx) inferInstance L4; have Y4 := Later.trans (w := wr) inferInstance L4; have HO4 := Lib.hid o4; clear o4 nd4 lo4))
        have hS := HY.out.l_Stops.later hwb0
        have HS := Lib.hid hS
        have HN0 := Lib.hid hS.len
        have hn0 : n0 ≤ 6 := by rw [hS.len]; have := lf.out.stops; omega
        clear hS
        go_wp2_with (go_at_call 151; refine (slices_IndexInt HS.out inferInstance _).mono ?_; rw [HP0.out]; rintro e w6 ⟨rfl, L6⟩; have X6 := Later.trans (w := wb) inferInstance L6; have Y6 := Later.trans (w := wr) inferInstance L6)
        go_roundw
        case rel => exact ⟨k + 1, acc, by omega, by go_num, by omega, HF2, HBD, ownsRow_later hown.out (inferInstance : Later wr _), inferInstance⟩
        case measure => simp [intOf]; omega
    · have HE : Hid (acc = dep0 t from_) := by
        have h3 := HF.out
        rw [List.drop_eq_nil_of_le (by have := Hl.out; omega)] at h3
        exact (by simpa using h3 : acc = _)
      have hac : acc.length ≤ 12 := by omega
      clear HF
      go_wp2_with first
        | (go_at_call 160; refine (impl_SortOwn (w0 := wb) (ownsRow_later hown.out (inferInstance : Later wr _)) inferInstance hbs (by omega)).mono ?_; rintro e w5 ⟨rfl, L5, hown5⟩; have HO5 := Lib.hid hown5; clear hown5)
        | (go_at_call 168; refine (impl_CompactOwn (w0 := wb) HO5.out inferInstance hbs (by omega)).mono ?_; rintro e w6 ⟨v6, rfl, L6, hown6⟩; have HO6 := Lib.hid hown6; clear hown6; (obtain ⟨A6, c6, fp6, rfl, ho6, hnd6, hlo6⟩ := OSl.ints_of_own HO6.out (fun y hy => by have := HBD.out y (((compact_asc acc).2 y).1 hy); unfold I64; omega)))
      go_ret
      exact ⟨A6, _, c6, fp6, rfl, by unfold depsI; rw [← HE.out]; exact ho6, hnd6, fun g hg => by have := hlo6 g hg; omega, hww.trans inferInstance⟩
end Go.Proofs.Yteijofkkggifhaa
