/-
  The departures from a stop, in the program (departuresFrom).
  The profile, in the program (travelProfile).
  The departures from a stop, in the reference (l1Put, l2Back, l8Departures).
  The profile, in the reference (l9Profile).
  Choices: TravelProfile, FastestChoice on both sides.
  Choices: FastestChoice on both sides.
  Choices: BestByCost on both sides.
  Helpers of the statements on Choice and slices of it. Printed by a program of ours (gen_flat.py).
-/
import Derived.Test.YtbkeccpjcmhhjaaGreatProfP
import Derived.Test.YtbkeccpjcmhhjaaGreatTimeE
import Derived.Test.YtbkeccpjcmhhjaaGreatTimeC
import Derived.Test.YtbkeccpjcmhhjaaGreatSortNil
import Derived.Test.YtbkeccpjcmhhjaaGreatAppK
import Derived.Deep.RegionHeld3
import Derived.Test.YtbkeccpjcmhhjaaGreatPair
import Derived.Test.YtbkeccpjcmhhjaaGreatAppS
import Derived.Test.YtbkeccpjcmhhjaaGreatOwnK
import Derived.Test.YtbkeccpjcmhhjaaGreatInts
import Derived.StillTailTactics
namespace Go.Proofs.YtbkeccpjcmhhjaaGreat
open Go Go.RowKit Go.Sort
set_option linter.unusedVariables false
set_option maxRecDepth 100000
set_option linter.unusedSimpArgs false
theorem grow_none (W : World) : grow W #[] = W := by cases W; simp [grow]
theorem compact_nil : Lib.compact ([] : List Int) = [] := rfl
theorem impl_CompactOwn {w0 w : World} {base : Nat} {v : Value} {n : Nat} {l : List Int} (hown : w.ownsRow base 3 1 v n (l.map (Value.int .i64))) (hl : Later w0 w) (hb0 : w0.heap.size ≤ base) (hn : n ≤ 1073741824) :
    Calls Tryz.prog 68 #[v] w fun e w' => ∃ v', e = .returned v' ∧ Later w0 w' ∧ w'.ownsRow base 3 1 v' (Lib.compact l).length ((Lib.compact l).map (Value.int .i64)) := by
  have hlen : l.length = n := by have := hown.1; simpa using this
  by_cases h0 : n = 0
  · subst h0
    have h9 : l = [] := List.length_eq_zero_iff.1 hlen
    subst h9
    have hv : ∃ p c, v = .slice p 0 c := by
      rcases hown.2 with ⟨h1, _⟩ | ⟨g, cap, cur, h1, _⟩
      · exact ⟨none, 0, h1⟩
      · exact ⟨_, cap, h1⟩
    obtain ⟨p, c, rfl⟩ := hv
    refine (Any.slices_Compact_int_empty Tryz.compI p c w).mono ?_
    rintro e w' ⟨rfl, rfl⟩
    exact ⟨_, rfl, hl, by simpa [compact_nil] using hown⟩
  · have hne : v ≠ .slice none 0 0 := by
      rintro rfl
      rcases hown.2 with ⟨_, h1⟩ | ⟨g, cap, cur, h1, _⟩
      · exact h0 h1
      · cases h1
    obtain ⟨g, cap, hov, hbg, hgl, hncap, hcm, _, hH⟩ := Lib.holds_of_ownsRow hown hne
    rcases hown.2 with ⟨h1, _⟩ | ⟨g', cap', cur, h1, h2, h3, h4, h5, h6, h7⟩
    · exact absurd h1 hne
    · subst hov
      cases h1
      subst hlen
      refine (Any.slices_Compact_int Tryz.compI g 0 cap l w hH (by omega) hncap).mono ?_
      rintro e w' ⟨rfl, q, rfl⟩
      refine ⟨_, rfl, hl.of_grown (grownBy_put _) (fun g' hg' => by cases hg'; exact Nat.le_trans hb0 h2), ?_⟩
      have hle := Lib.compact_length_le l
      have hg := ownsRow_sortedI (w := w) (base := base) (g := g) (cap := cap) (n := q) (os := #[]) (cur := cur) (ss := l) (ts := Lib.compact l ++ List.replicate (l.length - (Lib.compact l).length) 0) (by simp; omega) h2 h3 h4 h5 h6
      have hg2 : (putRow (Value.int .i64) (Sort.ahead w q) g 0 (Lib.compact l ++ List.replicate (l.length - (Lib.compact l).length) 0).toArray).ownsRow base 3 1 (.slice (some ⟨g, 0, none⟩) l.length cap) l.length ((Lib.compact l ++ List.replicate (l.length - (Lib.compact l).length) 0).map (Value.int .i64)) := by
        rw [grow_none] at hg; exact hg
      obtain ⟨k1, k2⟩ := hg2
      rcases k2 with ⟨k2, _⟩ | ⟨g1, cap1, cur1, k3, k4, k5, k6, k7, k8, k9⟩
      · cases k2
      · cases k3
        refine ⟨by simp, .inr ⟨g, cap, cur1, rfl, k4, k5, by omega, k7, k8, ?_⟩⟩
        have : (cur1.toList.take (l.length * 1)).take ((Lib.compact l).length * 1) = ((Lib.compact l ++ List.replicate (l.length - (Lib.compact l).length) 0).map (Value.int .i64)).take ((Lib.compact l).length * 1) := by rw [k9]
        rw [List.take_take, Nat.min_eq_left (by omega)] at this
        rw [this, List.map_append, Nat.mul_one, List.take_left' (by simp)]
theorem dep0_go {t : Timetable} {from_ : Int} {l : List Trip} {x : Trip} {k : Nat} (h : l[k]? = some x) : (l.drop k).filterMap (dep1 t from_) = (match dep1 t from_ x with | some d => [d] | none => []) ++ (l.drop (k + 1)).filterMap (dep1 t from_) := by
  rw [drop_at h, List.filterMap_cons]
  cases dep1 t from_ x <;> rfl
set_option maxHeartbeats 4000000 in
theorem impl_departuresFrom {w0 w : World} {sA0 : Option Addr} {sn0 sc0 : Nat} {sA1 : Option Addr} {sn1 sc1 : Nat} {sA2 : Option Addr} {sn2 sc2 : Nat} {t : Timetable} (h : TimetableAt w0 sA0 sn0 sc0 sA1 sn1 sc1 sA2 sn2 sc2 t) (hl : Later w0 w) (tf : TimeFacts t) (from_ : Int) :
    Calls Tryz.prog 44 #[.agg #[.slice sA0 sn0 sc0, .slice sA1 sn1 sc1, .slice sA2 sn2 sc2], .int .i64 from_] w (RetO 1 oInt (depsI t from_) w) := by
  have hT := h.l_Trips.later hl
  have hn2 := hT.le
  have Hl := Lib.hid hT.len
  have NF := Lib.hid tf.net
  have TF := Lib.hid tf
  have h12 : sn2 ≤ 12 := by have := tf.len; rw [hT.len]; omega
  clear tf
  have HB0 : ∀ W [Later (w.alloc (.cells #[.slice sA0 sn0 sc0, .slice sA1 sn1 sc1, .slice sA2 sn2 sc2] 39)) W] (j : Nat), W.cell? ⟨w.heap.size, j, none⟩ = #[.slice sA0 sn0 sc0, .slice sA1 sn1 sc1, .slice sA2 sn2 sc2][j]? := Later.boxes (t := 39) (fr := (0, 0)) (heap_new (by simp; try omega)); obtain ⟨wb, hwb⟩ : ∃ wb : World, wb = (w.alloc (.cells #[.slice sA0 sn0 sc0, .slice sA1 sn1 sc1, .slice sA2 sn2 sc2] 39)) := ⟨_, rfl⟩; haveI hbW : Later wb (w.alloc (.cells #[.slice sA0 sn0 sc0, .slice sA1 sn1 sc1, .slice sA2 sn2 sc2] 39)) := (by rw [hwb]; exact Later.rfl_); haveI hww : Later w wb := (by rw [hwb]; infer_instance); rw [← hwb] at HB0; have hbE := Lib.hid (congrArg (fun x : World => x.heap.size) hwb); clear hwb
  have hwb0 := hl.trans hww
  have H := Lib.hid h
  clear h
  replace hT := hT.later hww
  have hbs : wb.heap.size ≤ w.heap.size + 1 := by have := hbE.out; simp at this; omega
  have hbs2 : w.heap.size + 1 ≤ wb.heap.size := by have := hbE.out; simp at this; omega
  have hfl := field_Line1
  go_enter Tryz.func44, Tryz.ntmps44
  go_wp2_with fail
  go_loopw [5, 14] (fun ov i wr => ∃ (k : Nat) (acc : List Int), k ≤ sn2 ∧ i = .int .i64 k ∧ acc.length ≤ k ∧ Hid (acc ++ (t.Trips.drop k).filterMap (dep1 t from_) = dep0 t from_) ∧ Hid (∀ y, y ∈ acc → 0 ≤ y ∧ y ≤ 2099) ∧ Hid (wr.ownsRow (w.heap.size + 1) 3 1 ov acc.length (acc.map (Value.int .i64))) ∧ Later wb wr) (fun _ i _ => sn2 - (intOf i).toNat)
  case atStart => exact ⟨0, [], by omega, rfl, by simp, by show _ = _; simp [dep0], fun y hy => by simp at hy, Lib.hid (by simpa using World.ownsRow_nil _ (w.heap.size + 1) 3 1), inferInstance⟩
  case round =>
    obtain ⟨k, acc, hk, rfl, hal, HF, HBD, hown, hX⟩ := hrel
    by_cases hlt : k < sn2
    · obtain ⟨b, o, x, rfl, hx, hc0, hc1, hc2, hi⟩ := Trips.at_ hT hlt
      have TI := Lib.hid (TF.out.trip k x hx.out).in_
      have TM := Lib.hid (List.mem_of_getElem? hx.out)
      have lf := Lib.hid (lineAtT_facts NF.out TI.out.line0 TI.out.line1)
      have HF1 := HF.out
      rw [dep0_go hx.out] at HF1
      obtain ⟨p, hp⟩ : ∃ p, idx (intIs from_) (lineAtT t x.Line).Stops = p := ⟨_, rfl⟩
      have HP0 := Lib.hid hp
      have HD1 : Hid (dep1 t from_ x = if 0 ≤ p ∧ p < ((lineAtT t x.Line).Stops.length : Int) - 1 then some (timeAt t x p.toNat) else none) := by show _ = _; unfold dep1 placeT; rw [hp]
      clear HF hx hi hp
      have HBX : ∀ W [Later (wr.alloc (.cells #[.int .i64 x.Id, .int .i64 x.Line, .int .i64 x.Start] 74)) W] (j : Nat), W.cell? ⟨wr.heap.size, j, none⟩ = #[.int .i64 x.Id, .int .i64 x.Line, .int .i64 x.Start][j]? := Later.boxes (t := 74) (fr := (0, 0)) (heap_new (by simp; try omega)); obtain ⟨wx, hwx⟩ : ∃ wx : World, wx = (wr.alloc (.cells #[.int .i64 x.Id, .int .i64 x.Line, .int .i64 x.Start] 74)) := ⟨_, rfl⟩; haveI hxW : Later wx (wr.alloc (.cells #[.int .i64 x.Id, .int .i64 x.Line, .int .i64 x.Start] 74)) := (by rw [hwx]; exact Later.rfl_); haveI hbx : Later wb wx := (by rw [hwx]; infer_instance); rw [← hwx] at HBX; clear hwx
      by_cases c0 : 0 ≤ p
      · obtain ⟨m, rfl⟩ := Int.eq_ofNat_of_zero_le c0
        by_cases c1 : m + 1 < (lineAtT t x.Line).Stops.length
        · obtain ⟨d, hd⟩ : ∃ d, timeAt t x m = d := ⟨_, rfl⟩
          have hD2 : dep1 t from_ x = some d := by rw [HD1.out, if_pos (by omega), ← hd]; rfl
          rw [hD2] at HF1
          have HF2 : Hid ((acc ++ [d]) ++ (t.Trips.drop (k + 1)).filterMap (dep1 t from_) = dep0 t from_) := by show _ = _; rw [← HF1]; simp
          have hdb : 0 ≤ d ∧ d ≤ 2099 := by
            have hs := stopsIn TF.out x TM.out _ (List.mem_of_getElem? (passT_at (t := t) (x := x) (List.getElem?_eq_getElem (show m < (lineAtT t x.Line).Stops.length by omega))))
            simp only at hs
            rw [hd] at hs
            exact hs.2.2
          have HBD2 : Hid (∀ y, y ∈ acc ++ [d] → 0 ≤ y ∧ y ≤ 2099) := fun y hy => by
            rcases List.mem_append.1 hy with hy | hy
            · exact HBD.out y hy
            · simp at hy; subst hy; exact hdb
          have HDD := Lib.hid hd
          have HC1 := Lib.hid c1
          clear HF1 hD2 hdb hd c1
          go_wp2_with fail
          go_region_held3 (fun w' => Later wb w' ∧ Later wx w' ∧ Later wr w') (exact ⟨inferInstance, inferInstance, inferInstance⟩) (first
            | (go_at_call 64; refine (impl_lineOf H.out (hwb0.trans inferInstance) x TI.out.line0 TI.out.line1).mono ?_; rintro e w5 ⟨A0, n0, c0, A1, n1, c1', rfl, hy, L5⟩; have X5 := Later.trans (w := wb) inferInstance L5; have Y5 := Later.trans (w := wr) inferInstance L5; have Z5 := Later.trans (w := wx) inferInstance L5; have HY := Lib.hid hy; clear hy)
            | (go_at_call 65; refine (impl_stopTimes H.out (hwb0.trans inferInstance) NF.out x TI.out).mono ?_; rintro e w4 ⟨A4, n4, c4, f4, rfl, o4, nd4, lo4, L4⟩; have X4 := Later.trans (w := wb) inferInstance L4; have Z4 := Later.trans (w := wx) inferInstance L4; have Y4 := Later.trans (w := wr) inferInstance L4; have HO4 := Lib.hid o4; clear o4 nd4 lo4))
          have hS := HY.out.l_Stops.later hwb0
          have HS := Lib.hid hS
          have HN0 := Lib.hid hS.len
          have hn0 : n0 ≤ 6 := by rw [hS.len]; have := lf.out.stops; omega
          have hmn : (m : Int) < (n0 : Int) - 1 := by have := HC1.out; have := HN0.out; omega
          have hI4 : Ints w4 A4 n4 c4 (timesOf t x) := HO4.out.reads
          have hn4 : n4 ≤ 6 := by rw [hI4.len, timesOf_len]; have := lf.out.stops; have := lf.out.runs; omega
          have hm4 : m < n4 := by rw [hI4.len, timesOf_len]; have := HC1.out; have := lf.out.runs; omega
          obtain ⟨b4, o4, τ, rfl, ht, hct, _⟩ := Ints.at_ hI4 hm4
          have HT : τ = d := by rw [← HDD.out]; exact Option.some.inj (ht.out.symm.trans (timesOf_at (by have := lf.out.runs; have := HC1.out; omega)))
          subst HT
          clear hS hI4 ht
          go_wp2_with first
            | (go_at_call 66; refine (slices_IndexInt HS.out inferInstance _).mono ?_; rw [HP0.out]; rintro e w6 ⟨rfl, L6⟩; have X6 := Later.trans (w := wb) inferInstance L6; have Y6 := Later.trans (w := wr) inferInstance L6; have Z6 := Later.trans (w := w4) inferInstance L6)
            | (at_builtin; refine wpList_app_B rfl _ _ 79 rfl Tryz.underlying79 infoInt rfl (by decide) (by decide) rfl (by exact ownsRow_later hown.out (inferInstance : Later wr w6)) (inferInstance : Later wb w6) hbs (Nat.le_trans hbs2 (Later.size (w := wb) inferInstance)) rfl rfl (one_cell _ _) (by omega) ?_; intro v' w9 hown' hX9)
          go_roundw
          case rel => exact ⟨k + 1, acc ++ [τ], by omega, by go_num, by simp; omega, HF2, HBD2, by show World.ownsRow _ _ _ _ _ _ _; rw [List.map_append, List.length_append]; exact hown', inferInstance⟩
          case measure => simp [intOf]; omega
        · have hD2 : dep1 t from_ x = none := by rw [HD1.out, if_neg (by omega)]
          rw [hD2] at HF1
          have HF2 := Lib.hid HF1
          have HC1 := Lib.hid c1
          clear HF1 hD2 c1
          go_wp2_with fail
          go_region_held3 (fun w' => Later wb w' ∧ Later wx w' ∧ Later wr w') (exact ⟨inferInstance, inferInstance, inferInstance⟩) (first
            | (go_at_call 64; refine (impl_lineOf H.out (hwb0.trans inferInstance) x TI.out.line0 TI.out.line1).mono ?_; rintro e w5 ⟨A0, n0, c0, A1, n1, c1', rfl, hy, L5⟩; have X5 := Later.trans (w := wb) inferInstance L5; have Y5 := Later.trans (w := wr) inferInstance L5; have Z5 := Later.trans (w := wx) inferInstance L5; have HY := Lib.hid hy; clear hy)
            | (go_at_call 65; refine (impl_stopTimes H.out (hwb0.trans inferInstance) NF.out x TI.out).mono ?_; rintro e w4 ⟨A4, n4, c4, f4, rfl, o4, nd4, lo4, L4⟩; have X4 := Later.trans (w := wb) inferInstance L4; have Z4 := Later.trans (w := wx) inferInstance L4; have Y4 := Later.trans (w := wr) inferInstance L4; have HO4 := Lib.hid o4; clear o4 nd4 lo4))
          have hS := HY.out.l_Stops.later hwb0
          have HS := Lib.hid hS
          have HN0 := Lib.hid hS.len
          have hn0 : n0 ≤ 6 := by rw [hS.len]; have := lf.out.stops; omega
          have hmn : ¬ (m : Int) < (n0 : Int) - 1 := by have := HC1.out; have := HN0.out; omega
          clear hS
          go_wp2_with (go_at_call 66; refine (slices_IndexInt HS.out inferInstance _).mono ?_; rw [HP0.out]; rintro e w6 ⟨rfl, L6⟩; have X6 := Later.trans (w := wb) inferInstance L6; have Y6 := Later.trans (w := wr) inferInstance L6)
          go_roundw
          case rel => exact ⟨k + 1, acc, by omega, by go_num, by omega, by simpa using HF2, HBD, ownsRow_later hown.out (inferInstance : Later wr _), inferInstance⟩
          case measure => simp [intOf]; omega
      · have hD2 : dep1 t from_ x = none := by rw [HD1.out, if_neg (fun e => c0 e.1)]
        rw [hD2] at HF1
        have HF2 : Hid (acc ++ (t.Trips.drop (k + 1)).filterMap (dep1 t from_) = dep0 t from_) := by show _ = _; simpa using HF1
        clear HF1 hD2
        go_wp2_with fail
        go_region_held3 (fun w' => Later wb w' ∧ Later wx w' ∧ Later wr w') (exact ⟨inferInstance, inferInstance, inferInstance⟩) (first
          | (go_at_call 64; refine (impl_lineOf H.out (hwb0.trans inferInstance) x TI.out.line0 TI.out.line1).mono ?_; rintro e w5 ⟨A0, n0, c0, A1, n1, c1', rfl, hy, L5⟩; have X5 := Later.trans (w := wb) inferInstance L5; have Y5 := Later.trans (w := wr) inferInstance L5; have Z5 := Later.trans (w := wx) inferInstance L5; have HY := Lib.hid hy; clear hy)
          | (go_at_call 65; refine (impl_stopTimes H.out (hwb0.trans inferInstance) NF.out x TI.out).mono ?_; rintro e w4 ⟨A4, n4, c4, f4, rfl, o4, nd4, lo4, L4⟩; have X4 := Later.trans (w := wb) inferInstance L4; have Z4 := Later.trans (w := wx) inferInstance L4; have Y4 := Later.trans (w := wr) inferInstance L4; have HO4 := Lib.hid o4; clear o4 nd4 lo4))
        have hS := HY.out.l_Stops.later hwb0
        have HS := Lib.hid hS
        have HN0 := Lib.hid hS.len
        have hn0 : n0 ≤ 6 := by rw [hS.len]; have := lf.out.stops; omega
        clear hS
        go_wp2_with (go_at_call 66; refine (slices_IndexInt HS.out inferInstance _).mono ?_; rw [HP0.out]; rintro e w6 ⟨rfl, L6⟩; have X6 := Later.trans (w := wb) inferInstance L6; have Y6 := Later.trans (w := wr) inferInstance L6)
        go_roundw
        case rel => exact ⟨k + 1, acc, by omega, by go_num, by omega, HF2, HBD, ownsRow_later hown.out (inferInstance : Later wr _), inferInstance⟩
        case measure => simp [intOf]; omega
    · have HE : Hid (acc = dep0 t from_) := by
        have h3 := HF.out
        rw [List.drop_eq_nil_of_le (by have := Hl.out; omega)] at h3
        exact (by simpa using h3 : acc = _)
      have hac : acc.length ≤ 12 := by omega
      clear HF
      go_wp2_with first
        | (go_at_call 67; refine (impl_SortOwn (w0 := wb) (ownsRow_later hown.out (inferInstance : Later wr _)) inferInstance hbs (by omega)).mono ?_; rintro e w5 ⟨rfl, L5, hown5⟩; have HO5 := Lib.hid hown5; clear hown5)
        | (go_at_call 68; refine (impl_CompactOwn (w0 := wb) HO5.out inferInstance hbs (by omega)).mono ?_; rintro e w6 ⟨v6, rfl, L6, hown6⟩; have HO6 := Lib.hid hown6; clear hown6; (obtain ⟨A6, c6, fp6, rfl, ho6, hnd6, hlo6⟩ := OSl.ints_of_own HO6.out (fun y hy => by have := HBD.out y (((compact_asc acc).2 y).1 hy); unfold I64; omega)))
      go_ret
      exact ⟨A6, _, c6, fp6, rfl, by unfold depsI; rw [← HE.out]; exact ho6, hnd6, fun g hg => by have := hlo6 g hg; omega, hww.trans inferInstance⟩
end Go.Proofs.YtbkeccpjcmhhjaaGreat
namespace Go.Proofs.YtbkeccpjcmhhjaaGreat
open Go Go.RowKit
set_option linter.unusedVariables false
set_option maxRecDepth 100000
set_option linter.unusedSimpArgs false
theorem impl_profile1 {w0 w : World} (b c : Choice) {g : Nat} (hc : ∀ W [Later w0 W] (j : Nat), W.cell? ⟨g, j, none⟩ = #[Value.int .i64 c.Depart, .int .i64 c.Arrive, .int .i64 c.Legs][j]?) (hl : Later w0 w) :
    Calls Tryz.prog 48 #[.agg #[.int .i64 b.Depart, .int .i64 b.Arrive, .int .i64 b.Legs], .pointer (some ⟨g, 0, none⟩)] w (Ret (.bool (better b c)) w) := by
  have hc0 : ∀ W [Later w0 W], W.cell? ⟨g, 0, none⟩ = some (.int .i64 c.Depart) := fun W hW => @hc W hW 0
  have hc1 : ∀ W [Later w0 W], W.cell? ⟨g, 1, none⟩ = some (.int .i64 c.Arrive) := fun W hW => @hc W hW 1
  have hc2 : ∀ W [Later w0 W], W.cell? ⟨g, 2, none⟩ = some (.int .i64 c.Legs) := fun W hW => @hc W hW 2
  clear hc
  have HB0 : ∀ W [Later (w.alloc (.cells #[.int .i64 b.Depart, .int .i64 b.Arrive, .int .i64 b.Legs] 56)) W] (j : Nat), W.cell? ⟨w.heap.size, j, none⟩ = #[.int .i64 b.Depart, .int .i64 b.Arrive, .int .i64 b.Legs][j]? := Later.boxes (t := 56) (fr := (0, 0)) (heap_new (by simp; try omega)); obtain ⟨wb, hwb⟩ : ∃ wb : World, wb = (w.alloc (.cells #[.int .i64 b.Depart, .int .i64 b.Arrive, .int .i64 b.Legs] 56)) := ⟨_, rfl⟩; haveI hbW : Later wb (w.alloc (.cells #[.int .i64 b.Depart, .int .i64 b.Arrive, .int .i64 b.Legs] 56)) := (by rw [hwb]; exact Later.rfl_); haveI hww : Later w wb := (by rw [hwb]; infer_instance); rw [← hwb] at HB0; have hbE := Lib.hid (congrArg (fun x : World => x.heap.size) hwb); clear hwb
  haveI hw0 : Later w0 wb := hl.trans hww
  replace hc0 := fun W (hW : Later wb W) => @hc0 W (hw0.trans hW)
  replace hc1 := fun W (hW : Later wb W) => @hc1 W (hw0.trans hW)
  replace hc2 := fun W (hW : Later wb W) => @hc2 W (hw0.trans hW)
  have hd0 : ∀ W [Later wb W], W.cell? ⟨g, 0, none⟩ = some (.int .i64 c.Depart) := fun W hW => hc0 W hW
  have hd1 : ∀ W [Later wb W], W.cell? ⟨g, 1, none⟩ = some (.int .i64 c.Arrive) := fun W hW => hc1 W hW
  have hd2 : ∀ W [Later wb W], W.cell? ⟨g, 2, none⟩ = some (.int .i64 c.Legs) := fun W hW => hc2 W hW
  clear hc0 hc1 hc2
  go_enter Tryz.func48, Tryz.ntmps48
  go_wp2_with (go_at_call 49; refine (impl_isBetter b c _).mono ?_; rintro e w1 ⟨rfl, L1⟩; have X1 := Later.trans (w := wb) inferInstance L1)
  go_ret
  exact ⟨rfl, hww.trans inferInstance⟩
theorem slices_IndexCh {w0 w : World} {A : Option Addr} {n c : Nat} {l : List Choice} (h : Choices w0 A n c l) (hl : Later w0 w) (x : Choice) {g : Nat} (hc : ∀ W [Later w0 W] (j : Nat), W.cell? ⟨g, j, none⟩ = #[Value.int .i64 x.Depart, .int .i64 x.Arrive, .int .i64 x.Legs][j]?) :
    Calls Tryz.prog 25 #[.slice A n c, .func (.func 48) #[] #[.pointer (some ⟨g, 0, none⟩)]] w (Ret (.int .i64 (idx (fun b => better b x) l)) w) := by
  have hn := h.le
  have Hl := Lib.hid h.len
  have HC : Hid (∀ W [Later w0 W] (j : Nat), W.cell? ⟨g, j, none⟩ = #[Value.int .i64 x.Depart, .int .i64 x.Arrive, .int .i64 x.Legs][j]?) := hc
  clear hc
  go_enter Tryz.func25, Tryz.ntmps25
  go_wp2
  go_loopw [8] (fun i wr => ∃ k : Nat, k ≤ n ∧ i = .int .i64 k ∧ Hid (idxGo (fun b => better b x) (l.drop k) k = idx (fun b => better b x) l) ∧ Later w wr) (fun i _ => n - (intOf i).toNat)
  case atStart => exact ⟨0, by omega, rfl, rfl, inferInstance⟩
  case round =>
    obtain ⟨k, hk, rfl, HF, hX⟩ := hrel
    have hX0 := hl.trans hX
    by_cases hlt : k < n
    · obtain ⟨b, o, y, rfl, hy, hc0, hc1, hc2, hi⟩ := Choices.at_ h hlt
      have HF1 := HF.out
      rw [drop_at hy.out] at HF1
      simp only [idxGo] at HF1
      clear HF hi
      by_cases hxy : better y x = true
      · rw [if_pos hxy] at HF1
        have HF2 := Lib.hid HF1
        clear HF1
        go_wp2_with ((refine (impl_profile1 y x HC.out hX0).mono ?_); rintro e w1 ⟨rfl, L1⟩; have X1 := hX.trans L1)
        go_ret
        exact ⟨ret_int HF2.out, inferInstance⟩
      · rw [if_neg hxy] at HF1
        have HF2 := Lib.hid HF1
        have hxz : better y x = false := by simpa using hxy
        clear HF1 hxy
        go_wp2_with ((refine (impl_profile1 y x HC.out hX0).mono ?_); rintro e w1 ⟨rfl, L1⟩; have X1 := hX.trans L1)
        go_roundw
        case rel => exact ⟨k + 1, by omega, by go_num, HF2, inferInstance⟩
        case measure => simp [intOf]; omega
    · have HF2 : Hid (-1 = idx (fun b => better b x) l) := by
        have h3 := HF.out
        rw [List.drop_eq_nil_of_le (by have := Hl.out; omega)] at h3
        exact h3
      clear HF
      go_wp2
      go_ret
      exact ⟨ret_int HF2.out, inferInstance⟩
theorem slices_ContainsCh {w0 w : World} {A : Option Addr} {n c : Nat} {l : List Choice} (h : Choices w0 A n c l) (hl : Later w0 w) (x : Choice) {g : Nat} (hc : ∀ W [Later w0 W] (j : Nat), W.cell? ⟨g, j, none⟩ = #[Value.int .i64 x.Depart, .int .i64 x.Arrive, .int .i64 x.Legs][j]?) :
    Calls Tryz.prog 47 #[.slice A n c, .func (.func 48) #[] #[.pointer (some ⟨g, 0, none⟩)]] w (Ret (.bool (l.any fun b => better b x)) w) := by
  have HE : Hid (0 ≤ idx (fun b => better b x) l ↔ l.any (fun b => better b x) = true) := by
    show _ ↔ _
    have := idx_neg_iff (p := fun b => better b x) (l := l)
    cases hh : l.any (fun b => better b x) <;> simp [hh] at this ⊢ <;> omega
  go_enter Tryz.func47, Tryz.ntmps47
  go_wp2_with (go_at_call 25; refine (slices_IndexCh h (Later.trans hl inferInstance) x hc).mono ?_; rintro e w1 ⟨rfl, L1⟩)
  go_ret
  exact ⟨ret_bool (by rw [Bool.eq_iff_iff]; simpa using HE.out), inferInstance⟩
theorem chGo_lt {A : Nat → Int} {d best : Int} {f m : Nat} (h : A m < best) : chGo A d (f + 1) m best = ⟨d, A m, m⟩ :: chGo A d f (m + 1) (A m) := by simp only [chGo]; rw [if_pos h]
theorem chGo_ge {A : Nat → Int} {d best : Int} {f m : Nat} (h : ¬ A m < best) : chGo A d (f + 1) m best = chGo A d f (m + 1) best := by simp only [chGo]; rw [if_neg h]
theorem keepCh_at {all : List Choice} {k : Nat} {c : Choice} (h : all[k]? = some c) : (all.drop k).filter (fun c => !(all.any fun b => better b c)) = (if all.any (fun b => better b c) = true then [] else [c]) ++ (all.drop (k + 1)).filter (fun c => !(all.any fun b => better b c)) := by
  rw [drop_at h, List.filter_cons]
  cases all.any (fun b => better b c) <;> simp
theorem small_dep {n : Nat} {from_ d : Int} (h0 : 0 ≤ d) (h1 : d ≤ 2099) : Small (readyL n from_ d) := by
  intro v hv
  unfold readyL at hv
  rcases List.mem_or_eq_of_mem_set hv with h1' | h1'
  · rw [List.eq_of_mem_replicate h1']; unfold never; omega
  · subst h1'; omega
set_option maxHeartbeats 8000000 in
theorem impl_travelProfile {w0 w : World} {sA0 : Option Addr} {sn0 sc0 : Nat} {sA1 : Option Addr} {sn1 sc1 : Nat} {sA2 : Option Addr} {sn2 sc2 : Nat} {t : Timetable} (h : TimetableAt w0 sA0 sn0 sc0 sA1 sn1 sc1 sA2 sn2 sc2 t) (hl : Later w0 w) (change from_ to : Int) (pf : PairFacts t change from_ to) :
    Calls Tryz.prog 24 #[.agg #[.slice sA0 sn0 sc0, .slice sA1 sn1 sc1, .slice sA2 sn2 sc2], .int .i64 change, .int .i64 from_, .int .i64 to] w (RetO 3 oChoice (profI t change from_ to) w) := by
  have Hl : Hid (sn0 = t.Network.Stops.length) := h.l_Network_Stops.len
  have hn8 : sn0 ≤ 8 := by have := pf.time.net.stops; rw [Hl.out]; omega
  have PF := Lib.hid pf
  have c0 := pf.ch.1
  have c1 := pf.ch.2
  obtain ⟨q, rfl⟩ := Int.eq_ofNat_of_zero_le pf.to_.1
  have hq : q < sn0 := by have := pf.to_.2; rw [Hl.out]; omega
  have hqi : (q : Int) < sn0 := by omega
  have HD12 : Hid ((depsI t from_).length ≤ 12) := by have := depsI_len t from_; have := pf.time.len; show _ ≤ _; omega
  clear pf
  have HB0 : ∀ W [Later (w.alloc (.cells #[.slice sA0 sn0 sc0, .slice sA1 sn1 sc1, .slice sA2 sn2 sc2] 39)) W] (j : Nat), W.cell? ⟨w.heap.size, j, none⟩ = #[.slice sA0 sn0 sc0, .slice sA1 sn1 sc1, .slice sA2 sn2 sc2][j]? := Later.boxes (t := 39) (fr := (0, 0)) (heap_new (by simp; try omega)); obtain ⟨wb, hwb⟩ : ∃ wb : World, wb = (w.alloc (.cells #[.slice sA0 sn0 sc0, .slice sA1 sn1 sc1, .slice sA2 sn2 sc2] 39)) := ⟨_, rfl⟩; haveI hbW : Later wb (w.alloc (.cells #[.slice sA0 sn0 sc0, .slice sA1 sn1 sc1, .slice sA2 sn2 sc2] 39)) := (by rw [hwb]; exact Later.rfl_); haveI hww : Later w wb := (by rw [hwb]; infer_instance); rw [← hwb] at HB0; have hbE := Lib.hid (congrArg (fun x : World => x.heap.size) hwb); clear hwb
  have hwb0 := hl.trans hww
  have H := Lib.hid h
  clear h
  have hbs : wb.heap.size ≤ w.heap.size + 1 := by have := hbE.out; simp at this; omega
  have hbs2 : w.heap.size + 1 ≤ wb.heap.size := by have := hbE.out; simp at this; omega
  go_enter Tryz.func24, Tryz.ntmps24
  go_wp2_with (go_at_call 44; refine (impl_departuresFrom H.out (hwb0.trans inferInstance) PF.out.time from_).mono ?_; rintro e w3 ⟨A3, n3, c3, f3, rfl, ho3, hnd3, hlo3, L3⟩; have X3 := Later.trans (w := wb) inferInstance L3; have h3 : Ints w3 A3 n3 c3 (depsI t from_) := ho3.reads; have H3 := Lib.hid h3; have hn3 : n3 ≤ 12 := (by rw [h3.len]; exact HD12.out); clear h3 ho3 hnd3 hlo3)
  have HL3 := Lib.hid H3.out.len
  go_loopw [9, 22] (fun ov i wr => ∃ (k : Nat) (acc : List Choice), k ≤ n3 ∧ i = .int .i64 k ∧ acc.length ≤ 4 * k ∧ Hid (acc ++ ((depsI t from_).drop k).flatMap (fun d => chGo (fun m => arrV t change from_ d m q) d 4 1 never) = allCh (fun d m => arrV t change from_ d m q) (depsI t from_)) ∧ Hid (∀ y, y ∈ acc → ChoiceOk y) ∧ Hid (wr.ownsRow w3.heap.size 56 3 ov acc.length (acc.flatMap encCh)) ∧ Later wb wr ∧ Later w3 wr) (fun _ i _ => n3 - (intOf i).toNat)
  case atStart => exact ⟨0, [], by omega, rfl, by simp, by show _ = _; simp [allCh], fun y hy => by simp at hy, Lib.hid (by simpa using World.ownsRow_nil _ w3.heap.size 56 3), inferInstance, inferInstance⟩
  case round =>
    obtain ⟨k, acc, hk, rfl, hal, HF, HOK, hown, hX, hX3⟩ := hrel
    by_cases hlt : k < n3
    · obtain ⟨b, o, d, hA, hd, hcd, _⟩ := Ints.at_ H3.out hlt
      have HF1 := HF.out
      rw [drop_at hd.out, List.flatMap_cons] at HF1
      have hdb := deps_bd PF.out.time (deps_sub (List.mem_of_getElem? hd.out))
      have hd0 := hdb.1
      have hd1 := hdb.2
      have HSM := Lib.hid (small_dep (n := t.Network.Stops.length) (from_ := from_) hd0 hd1)
      have HRL : Hid ((readyL t.Network.Stops.length from_ d).length = t.Network.Stops.length) := by show _ = _; simp [readyL]
      obtain ⟨rest, hrest⟩ : ∃ r, ((depsI t from_).drop (k + 1)).flatMap (fun d => chGo (fun m => arrV t change from_ d m q) d 4 1 never) = r := ⟨_, rfl⟩
      rw [hrest] at HF1
      have HRS := Lib.hid hrest
      have HF2 := Lib.hid HF1
      subst hA
      clear HF HF1 hd hdb hrest
      go_wp2_with fail
      go_loopw [9, 12, 13] (fun ov bv i wr => ∃ (m : Nat) (best : Int) (acc : List Choice), 1 ≤ m ∧ m ≤ 5 ∧ i = .int .i64 m ∧ bv = .int .i64 best ∧ acc.length ≤ 4 * k + (m - 1) ∧ Hid (acc ++ (chGo (fun m => arrV t change from_ d m q) d (5 - m) m best ++ rest) = allCh (fun d m => arrV t change from_ d m q) (depsI t from_)) ∧ Hid (∀ y, y ∈ acc → ChoiceOk y) ∧ Hid (wr.ownsRow w3.heap.size 56 3 ov acc.length (acc.flatMap encCh)) ∧ Later wb wr ∧ Later w3 wr) (fun _ _ i _ => 5 - (intOf i).toNat)
      case atStart => exact ⟨1, 1073741824, acc, by omega, by omega, rfl, rfl, by omega, HF2, HOK, hown, inferInstance, inferInstance⟩
      case round =>
        obtain ⟨m, best, acc, hm1, hm5, rfl, rfl, hal, HF, HOK, hown, hX, hX3⟩ := hrel
        by_cases hlm : m < 5
        · obtain ⟨v, hv⟩ : ∃ v, arrV t change from_ d m q = v := ⟨_, rfl⟩
          have hvr := arrV_rng PF.out.time PF.out.ch.1 PF.out.fr.1 PF.out.fr.2 PF.out.to_.1 PF.out.to_.2 (at_ := d) m
          rw [hv] at hvr
          have hv64 : 0 ≤ v ∧ v ≤ 1073741824 := by unfold never at hvr; omega
          have hm100 : m ≤ 100 := by omega
          have hm4 : (m : Int) ≤ 4 := by omega
          have HAT : Hid ((arrL t change (readyL t.Network.Stops.length from_ d) m)[q]? = some v) := by
            have hlen := (arrL_min (stopsIn PF.out.time) PF.out.ch.1 (at_ := d) PF.out.fr.1 PF.out.fr.2 m).1
            have hq2 : q < (arrL t change (readyL t.Network.Stops.length from_ d) m).length := by rw [hlen, ← Hl.out]; exact hq
            show _ = _
            rw [← hv]
            unfold arrV gi
            rw [List.getD_eq_getElem?_getD, Int.toNat_natCast, List.getElem?_eq_getElem hq2]; rfl
          have HF1 := HF.out
          rw [show 5 - m = (5 - (m + 1)) + 1 by omega] at HF1
          clear HF
          by_cases cv : v < best
          · rw [chGo_lt (by first | (rw [hv]; exact cv) | (simp only; rw [hv]; exact cv))] at HF1
            (try simp only [hv] at HF1)
            have HF3 : Hid ((acc ++ [⟨d, v, m⟩]) ++ (chGo (fun m => arrV t change from_ d m q) d (5 - (m + 1)) (m + 1) v ++ rest) = allCh (fun d m => arrV t change from_ d m q) (depsI t from_)) := by show _ = _; rw [← HF1]; simp
            have HOK2 : Hid (∀ y, y ∈ acc ++ [⟨d, v, (m : Int)⟩] → ChoiceOk y) := fun y hy => by
              rcases List.mem_append.1 hy with hy | hy
              · exact HOK.out y hy
              · simp at hy; subst hy; exact ⟨by unfold I64; simp only; omega, by unfold I64; simp only; omega, by unfold I64; simp only; omega⟩
            clear HF1 hv hvr hv64
            go_wp2_with fail
            refine wp_region_held_drew (S := (fun w' => Later wb w' ∧ Later wr w' ∧ Later w3 w')) (by kernel_rfl) (by exact ⟨inferInstance, inferInstance, inferInstance⟩) (fun hHeld => ?_)
            refine wpAnyH_take (i := 0) (v := ?_) (by simp only [List.getElem?_toArray, List.getElem?_cons_zero] <;> rfl) (by kernel_rfl) (by kernel_rfl) (by kernel_rfl) (by exact fun _ _ _ h => h) (Or.inl ⟨by kernel_rfl, ?_⟩) (by assumption) ?_
            rotate_left
            · intro w' hSw; (try dsimp only at hSw); go_simp; try with_reducible rfl
            try simp only [Act.put, List.setIfInBounds_toArray, List.set_cons_zero, List.set_cons_succ]
            refine wpAnyH_take (i := 1) (v := ?_) (by simp only [List.getElem?_toArray, List.getElem?_cons_succ, List.getElem?_cons_zero] <;> rfl) (by kernel_rfl) (by kernel_rfl) (by kernel_rfl) (by exact fun _ _ _ h => h) (Or.inl ⟨by kernel_rfl, ?_⟩) (by assumption) ?_
            rotate_left
            · intro w' hSw; (try dsimp only at hSw); go_simp; try with_reducible rfl
            try simp only [Act.put, List.setIfInBounds_toArray, List.set_cons_zero, List.set_cons_succ]
            refine wpAnyH_take (i := 2) (v := ?_) (by simp only [List.getElem?_toArray, List.getElem?_cons_succ, List.getElem?_cons_zero] <;> rfl) (by kernel_rfl) (by kernel_rfl) (by kernel_rfl) (by exact fun _ _ _ h => h) (Or.inl ⟨by kernel_rfl, ?_⟩) (by assumption) ?_
            rotate_left
            · intro w' hSw; (try dsimp only at hSw); go_simp; try with_reducible rfl
            try simp only [Act.put, List.setIfInBounds_toArray, List.set_cons_zero, List.set_cons_succ]
            refine wpAnyH_take (i := 3) (v := ?_) (by simp only [List.getElem?_toArray, List.getElem?_cons_succ, List.getElem?_cons_zero] <;> rfl) (by kernel_rfl) (by kernel_rfl) (by kernel_rfl) (by exact fun _ _ _ h => h) (Or.inl ⟨by kernel_rfl, ?_⟩) (by assumption) ?_
            rotate_left
            · intro w' hSw; (try dsimp only at hSw); go_simp; try with_reducible rfl
            try simp only [Act.put, List.setIfInBounds_toArray, List.set_cons_zero, List.set_cons_succ]
            refine wpAnyH_take (i := 4) (v := ?_) (by simp only [List.getElem?_toArray, List.getElem?_cons_succ, List.getElem?_cons_zero] <;> rfl) (by kernel_rfl) (by kernel_rfl) (by kernel_rfl) (by exact fun _ _ _ h => h) (Or.inl ⟨by kernel_rfl, ?_⟩) (by assumption) ?_
            rotate_left
            · intro w' hSw; (try dsimp only at hSw); go_simp; try with_reducible rfl
            try simp only [Act.put, List.setIfInBounds_toArray, List.set_cons_zero, List.set_cons_succ]
            refine wpAnyH_take (i := 6) (v := ?_) (by simp only [List.getElem?_toArray, List.getElem?_cons_succ, List.getElem?_cons_zero] <;> rfl) (by kernel_rfl) (by kernel_rfl) (by kernel_rfl) (by exact fun _ _ _ h => h) (Or.inl ⟨by kernel_rfl, ?_⟩) (by assumption) ?_
            rotate_left
            · intro w' hSw; (try dsimp only at hSw); go_simp; try with_reducible rfl
            try simp only [Act.put, List.setIfInBounds_toArray, List.set_cons_zero, List.set_cons_succ]
            refine wpAnyH_take (i := 8) (v := ?_) (by simp only [List.getElem?_toArray, List.getElem?_cons_succ, List.getElem?_cons_zero] <;> rfl) (by kernel_rfl) (by kernel_rfl) (by kernel_rfl) (by exact fun _ _ _ h => h) (Or.inl ⟨by kernel_rfl, ?_⟩) (by assumption) ?_
            rotate_left
            · intro w' hSw; (try dsimp only at hSw); go_simp; try with_reducible rfl
            try simp only [Act.put, List.setIfInBounds_toArray, List.set_cons_zero, List.set_cons_succ]
            refine wpAnyH_ready (rs := [5]) (by kernel_rfl) (by simp) (AllReadyH.cons rfl (fun K hK => ?_) AllReadyH.nil)
            go_simp
            (go_at_call 46; refine (impl_readyAt H.out (hwb0.trans inferInstance) PF.out.time.net _ _ PF.out.fr.1 PF.out.fr.2).mono ?_; rintro e w1 ⟨g1, rfl, hl1, hB1, hg1, L1⟩; have X1 := Later.trans (w := wb) inferInstance L1; have Y1 := Later.trans (w := wr) inferInstance L1; have U1 := Later.trans (w := w3) inferInstance L1; have HL1 := Lib.hid hl1; clear hl1)
            refine hK.out _ _ (by exact ⟨inferInstance, inferInstance, inferInstance⟩) (fun hHeld => ?_)
            try simp only [Act.put, List.setIfInBounds_toArray, List.set_cons_zero, List.set_cons_succ]
            refine wpAnyH_ready (rs := [7]) (by kernel_rfl) (by simp) (AllReadyH.cons rfl (fun K hK => ?_) AllReadyH.nil)
            go_simp
            (go_at_call 45; refine (impl_arrivalsI H.out (hwb0.trans inferInstance) PF.out.time _ c0 c1 (hB1.ints HL1.out (by omega) HSM.out.i64) inferInstance HRL.out HSM.out m hm100 _ rfl).mono ?_; rintro e w2 ⟨g2, rfl, hl2, hB2, hg2, L2⟩; have X2 := Later.trans (w := wb) inferInstance L2; have Y2 := Later.trans (w := wr) inferInstance L2; have U2 := Later.trans (w := w3) inferInstance L2; have hcc := hB2.rowAts HAT.out; clear hl2)
            refine hK.out _ _ (by exact ⟨inferInstance, inferInstance, inferInstance⟩) (fun hHeld => ?_)
            try simp only [Act.put, List.setIfInBounds_toArray, List.set_cons_zero, List.set_cons_succ]
            refine wpAnyH_take (i := 9) (v := ?_) (by simp only [List.getElem?_toArray, List.getElem?_cons_succ, List.getElem?_cons_zero] <;> rfl) (by kernel_rfl) (by kernel_rfl) (by kernel_rfl) (by exact fun _ _ _ h => h) (Or.inl ⟨by kernel_rfl, ?_⟩) (by assumption) ?_
            rotate_left
            · intro w' hSw; (try dsimp only at hSw); go_simp; try with_reducible rfl
            try simp only [Act.put, List.setIfInBounds_toArray, List.set_cons_zero, List.set_cons_succ]
            refine wpAnyH_ready (rs := [10]) (by kernel_rfl) (by simp) (AllReadyH.cons rfl (fun K hK => ?_) AllReadyH.nil)
            go_simp
            skip
            refine hK.out _ _ (by exact ⟨inferInstance, inferInstance, inferInstance⟩) (fun hHeld => ?_)
            try simp only [Act.put, List.setIfInBounds_toArray, List.set_cons_zero, List.set_cons_succ]
            refine wpAnyH_take (i := 11) (v := ?_) (by simp only [List.getElem?_toArray, List.getElem?_cons_succ, List.getElem?_cons_zero] <;> rfl) (by kernel_rfl) (by kernel_rfl) (by kernel_rfl) (by exact fun _ _ _ h => h) (Or.inl ⟨by kernel_rfl, ?_⟩) (by assumption) ?_
            rotate_left
            · intro w' hSw; (try dsimp only at hSw); go_simp; try with_reducible rfl
            try simp only [Act.put, List.setIfInBounds_toArray, List.set_cons_zero, List.set_cons_succ]
            refine wpAnyH_done (by kernel_rfl) ?_ _
            clear hB1 hg1 hB2 hg2
            go_wp2_with (at_builtin; refine wpList_app_B rfl _ _ 45 rfl Tryz.underlying45 infoCh rfl (by decide) (by decide) rfl (by exact ownsRow_later hown.out (inferInstance : Later wr _)) (inferInstance : Later w3 w2) (Nat.le_refl _) (Later.size (w := w3) inferInstance) rfl rfl (cells_3 _ _ _) (by omega) ?_; intro v' w9 hown' hX9; have U9 := Later.trans (w := wb) inferInstance hX9)
            go_roundw
            case rel => exact ⟨m + 1, v, acc ++ [⟨d, v, m⟩], by omega, by omega, by go_num, rfl, by simp; omega, HF3, HOK2, by show World.ownsRow _ _ _ _ _ _ _; rw [List.flatMap_append, List.length_append]; exact hown', inferInstance, inferInstance⟩
            case measure => simp [intOf]; omega
          · rw [chGo_ge (by first | (rw [hv]; exact cv) | (simp only; rw [hv]; exact cv))] at HF1
            have HF3 := Lib.hid HF1
            clear HF1 hv hvr hv64
            go_wp2_with fail
            refine wp_region_held_drew (S := (fun w' => Later wb w' ∧ Later wr w' ∧ Later w3 w')) (by kernel_rfl) (by exact ⟨inferInstance, inferInstance, inferInstance⟩) (fun hHeld => ?_)
            refine wpAnyH_take (i := 0) (v := ?_) (by simp only [List.getElem?_toArray, List.getElem?_cons_zero] <;> rfl) (by kernel_rfl) (by kernel_rfl) (by kernel_rfl) (by exact fun _ _ _ h => h) (Or.inl ⟨by kernel_rfl, ?_⟩) (by assumption) ?_
            rotate_left
            · intro w' hSw; (try dsimp only at hSw); go_simp; try with_reducible rfl
            try simp only [Act.put, List.setIfInBounds_toArray, List.set_cons_zero, List.set_cons_succ]
            refine wpAnyH_take (i := 1) (v := ?_) (by simp only [List.getElem?_toArray, List.getElem?_cons_succ, List.getElem?_cons_zero] <;> rfl) (by kernel_rfl) (by kernel_rfl) (by kernel_rfl) (by exact fun _ _ _ h => h) (Or.inl ⟨by kernel_rfl, ?_⟩) (by assumption) ?_
            rotate_left
            · intro w' hSw; (try dsimp only at hSw); go_simp; try with_reducible rfl
            try simp only [Act.put, List.setIfInBounds_toArray, List.set_cons_zero, List.set_cons_succ]
            refine wpAnyH_take (i := 2) (v := ?_) (by simp only [List.getElem?_toArray, List.getElem?_cons_succ, List.getElem?_cons_zero] <;> rfl) (by kernel_rfl) (by kernel_rfl) (by kernel_rfl) (by exact fun _ _ _ h => h) (Or.inl ⟨by kernel_rfl, ?_⟩) (by assumption) ?_
            rotate_left
            · intro w' hSw; (try dsimp only at hSw); go_simp; try with_reducible rfl
            try simp only [Act.put, List.setIfInBounds_toArray, List.set_cons_zero, List.set_cons_succ]
            refine wpAnyH_take (i := 3) (v := ?_) (by simp only [List.getElem?_toArray, List.getElem?_cons_succ, List.getElem?_cons_zero] <;> rfl) (by kernel_rfl) (by kernel_rfl) (by kernel_rfl) (by exact fun _ _ _ h => h) (Or.inl ⟨by kernel_rfl, ?_⟩) (by assumption) ?_
            rotate_left
            · intro w' hSw; (try dsimp only at hSw); go_simp; try with_reducible rfl
            try simp only [Act.put, List.setIfInBounds_toArray, List.set_cons_zero, List.set_cons_succ]
            refine wpAnyH_take (i := 4) (v := ?_) (by simp only [List.getElem?_toArray, List.getElem?_cons_succ, List.getElem?_cons_zero] <;> rfl) (by kernel_rfl) (by kernel_rfl) (by kernel_rfl) (by exact fun _ _ _ h => h) (Or.inl ⟨by kernel_rfl, ?_⟩) (by assumption) ?_
            rotate_left
            · intro w' hSw; (try dsimp only at hSw); go_simp; try with_reducible rfl
            try simp only [Act.put, List.setIfInBounds_toArray, List.set_cons_zero, List.set_cons_succ]
            refine wpAnyH_take (i := 6) (v := ?_) (by simp only [List.getElem?_toArray, List.getElem?_cons_succ, List.getElem?_cons_zero] <;> rfl) (by kernel_rfl) (by kernel_rfl) (by kernel_rfl) (by exact fun _ _ _ h => h) (Or.inl ⟨by kernel_rfl, ?_⟩) (by assumption) ?_
            rotate_left
            · intro w' hSw; (try dsimp only at hSw); go_simp; try with_reducible rfl
            try simp only [Act.put, List.setIfInBounds_toArray, List.set_cons_zero, List.set_cons_succ]
            refine wpAnyH_take (i := 8) (v := ?_) (by simp only [List.getElem?_toArray, List.getElem?_cons_succ, List.getElem?_cons_zero] <;> rfl) (by kernel_rfl) (by kernel_rfl) (by kernel_rfl) (by exact fun _ _ _ h => h) (Or.inl ⟨by kernel_rfl, ?_⟩) (by assumption) ?_
            rotate_left
            · intro w' hSw; (try dsimp only at hSw); go_simp; try with_reducible rfl
            try simp only [Act.put, List.setIfInBounds_toArray, List.set_cons_zero, List.set_cons_succ]
            refine wpAnyH_ready (rs := [5]) (by kernel_rfl) (by simp) (AllReadyH.cons rfl (fun K hK => ?_) AllReadyH.nil)
            go_simp
            (go_at_call 46; refine (impl_readyAt H.out (hwb0.trans inferInstance) PF.out.time.net _ _ PF.out.fr.1 PF.out.fr.2).mono ?_; rintro e w1 ⟨g1, rfl, hl1, hB1, hg1, L1⟩; have X1 := Later.trans (w := wb) inferInstance L1; have Y1 := Later.trans (w := wr) inferInstance L1; have U1 := Later.trans (w := w3) inferInstance L1; have HL1 := Lib.hid hl1; clear hl1)
            refine hK.out _ _ (by exact ⟨inferInstance, inferInstance, inferInstance⟩) (fun hHeld => ?_)
            try simp only [Act.put, List.setIfInBounds_toArray, List.set_cons_zero, List.set_cons_succ]
            refine wpAnyH_ready (rs := [7]) (by kernel_rfl) (by simp) (AllReadyH.cons rfl (fun K hK => ?_) AllReadyH.nil)
            go_simp
            (go_at_call 45; refine (impl_arrivalsI H.out (hwb0.trans inferInstance) PF.out.time _ c0 c1 (hB1.ints HL1.out (by omega) HSM.out.i64) inferInstance HRL.out HSM.out m hm100 _ rfl).mono ?_; rintro e w2 ⟨g2, rfl, hl2, hB2, hg2, L2⟩; have X2 := Later.trans (w := wb) inferInstance L2; have Y2 := Later.trans (w := wr) inferInstance L2; have U2 := Later.trans (w := w3) inferInstance L2; have hcc := hB2.rowAts HAT.out; clear hl2)
            refine hK.out _ _ (by exact ⟨inferInstance, inferInstance, inferInstance⟩) (fun hHeld => ?_)
            try simp only [Act.put, List.setIfInBounds_toArray, List.set_cons_zero, List.set_cons_succ]
            refine wpAnyH_take (i := 9) (v := ?_) (by simp only [List.getElem?_toArray, List.getElem?_cons_succ, List.getElem?_cons_zero] <;> rfl) (by kernel_rfl) (by kernel_rfl) (by kernel_rfl) (by exact fun _ _ _ h => h) (Or.inl ⟨by kernel_rfl, ?_⟩) (by assumption) ?_
            rotate_left
            · intro w' hSw; (try dsimp only at hSw); go_simp; try with_reducible rfl
            try simp only [Act.put, List.setIfInBounds_toArray, List.set_cons_zero, List.set_cons_succ]
            refine wpAnyH_ready (rs := [10]) (by kernel_rfl) (by simp) (AllReadyH.cons rfl (fun K hK => ?_) AllReadyH.nil)
            go_simp
            skip
            refine hK.out _ _ (by exact ⟨inferInstance, inferInstance, inferInstance⟩) (fun hHeld => ?_)
            try simp only [Act.put, List.setIfInBounds_toArray, List.set_cons_zero, List.set_cons_succ]
            refine wpAnyH_take (i := 11) (v := ?_) (by simp only [List.getElem?_toArray, List.getElem?_cons_succ, List.getElem?_cons_zero] <;> rfl) (by kernel_rfl) (by kernel_rfl) (by kernel_rfl) (by exact fun _ _ _ h => h) (Or.inl ⟨by kernel_rfl, ?_⟩) (by assumption) ?_
            rotate_left
            · intro w' hSw; (try dsimp only at hSw); go_simp; try with_reducible rfl
            try simp only [Act.put, List.setIfInBounds_toArray, List.set_cons_zero, List.set_cons_succ]
            refine wpAnyH_done (by kernel_rfl) ?_ _
            clear hB1 hg1 hB2 hg2
            go_wp2_with fail
            go_roundw
            case rel => exact ⟨m + 1, best, acc, by omega, by omega, by go_num, rfl, by omega, HF3, HOK, ownsRow_later hown.out (inferInstance : Later wr _), inferInstance, inferInstance⟩
            case measure => simp [intOf]; omega
        · obtain rfl : m = 5 := by omega
          have HF3 : Hid (acc ++ ((depsI t from_).drop (k + 1)).flatMap (fun d => chGo (fun m => arrV t change from_ d m q) d 4 1 never) = allCh (fun d m => arrV t change from_ d m q) (depsI t from_)) := by
            have h9 := HF.out
            simp only [Nat.sub_self, chGo, List.nil_append] at h9
            rw [HRS.out]; exact h9
          clear HF
          go_wp2
          go_roundw
          case rel => exact ⟨k + 1, acc, by omega, by go_num, by omega, HF3, HOK, hown, inferInstance, inferInstance⟩
          case measure => simp [intOf]; omega
    · have HE : Hid (acc = allCh (fun d m => arrV t change from_ d m q) (depsI t from_)) := by
        have h9 := HF.out
        rw [List.drop_eq_nil_of_le (by have := HL3.out; omega)] at h9
        exact (by simpa using h9 : acc = _)
      have ha48 : acc.length ≤ 48 := by omega
      clear HF
      obtain ⟨A5, c5, f5, hv5, ho5, _, _⟩ := OSl.of_flat (r := rChoice) hown.out rfl (fun x hx W => ⟨rfl, HOK.out x hx⟩)
      have hC5 : Choices wr A5 acc.length c5 acc := ho5.reads
      have hsz5 := hX.size
      subst hv5
      clear ho5 hown
      obtain ⟨w5, rfl⟩ : ∃ w5 : World, w5 = wr := ⟨_, rfl⟩
      go_wp2_with fail
      go_loopw [15, 55] (fun ov i wr => ∃ (k : Nat) (out : List Choice), k ≤ acc.length ∧ i = .int .i64 k ∧ out.length ≤ k ∧ Hid (out ++ (acc.drop k).filter (fun c => !(acc.any fun b => better b c)) = keepCh acc) ∧ Hid (∀ y, y ∈ out → ChoiceOk y) ∧ Hid (wr.ownsRow w5.heap.size 56 3 ov out.length (out.flatMap encCh)) ∧ Later wb wr ∧ Later w5 wr) (fun _ i _ => acc.length - (intOf i).toNat)
      case atStart => exact ⟨0, [], by omega, rfl, by simp, by show _ = _; simp [keepCh], fun y hy => by simp at hy, Lib.hid (by simpa using World.ownsRow_nil _ w5.heap.size 56 3), inferInstance, inferInstance⟩
      case round =>
        obtain ⟨k, out, hk, rfl, hol, HF, HOK2, hown, hX, hXr⟩ := hrel
        have HCX := Lib.hid (hC5.later hXr)
        by_cases hlt : k < acc.length
        · obtain ⟨b5, o5, x, hA5, hx, hcx0, hcx1, hcx2, hix⟩ := Choices.at_ hC5 hlt
          have HF1 := HF.out
          rw [keepCh_at hx.out] at HF1
          have HIX := Lib.hid hix
          subst hA5
          clear HF hx hix
          have HBX : ∀ W [Later (wr.alloc (.cells #[.int .i64 x.Depart, .int .i64 x.Arrive, .int .i64 x.Legs] 56)) W] (j : Nat), W.cell? ⟨wr.heap.size, j, none⟩ = #[.int .i64 x.Depart, .int .i64 x.Arrive, .int .i64 x.Legs][j]? := Later.boxes (t := 56) (fr := (0, 0)) (heap_new (by simp; try omega)); obtain ⟨wx, hwx⟩ : ∃ wx : World, wx = (wr.alloc (.cells #[.int .i64 x.Depart, .int .i64 x.Arrive, .int .i64 x.Legs] 56)) := ⟨_, rfl⟩; haveI hxW : Later wx (wr.alloc (.cells #[.int .i64 x.Depart, .int .i64 x.Arrive, .int .i64 x.Legs] 56)) := (by rw [hwx]; exact Later.rfl_); haveI hbx : Later wb wx := (by rw [hwx]; infer_instance); haveI hrx : Later wr wx := (by rw [hwx]; infer_instance); rw [← hwx] at HBX; clear hwx
          have HBC : Hid (∀ W [Later wx W] (j : Nat), W.cell? ⟨wr.heap.size, j, none⟩ = #[Value.int .i64 x.Depart, .int .i64 x.Arrive, .int .i64 x.Legs][j]?) := fun W hW j => @HBX W hW j
          have HCX2 := Lib.hid (HCX.out.later (inferInstance : Later wr wx))
          by_cases cb : acc.any (fun b => better b x) = true
          · rw [if_pos cb] at HF1
            have HF2 : Hid (out ++ (acc.drop (k + 1)).filter (fun c => !(acc.any fun b => better b c)) = keepCh acc) := by show _ = _; simpa using HF1
            clear HF1
            go_wp2_with (go_at_call 47; refine (slices_ContainsCh HCX2.out inferInstance x HBC.out).mono ?_; rintro e w1 ⟨rfl, L1⟩; have X1 := Later.trans (w := wx) inferInstance L1; have Y1 := Later.trans (w := wb) inferInstance L1; have Z1 := Later.trans (w := wr) inferInstance L1; have U1 := Later.trans (w := w5) inferInstance L1)
            go_roundw
            case rel => exact ⟨k + 1, out, by omega, by go_num, by omega, HF2, HOK2, ownsRow_later hown.out (inferInstance : Later wr _), inferInstance, inferInstance⟩
            case measure => simp [intOf]; omega
          · rw [if_neg cb] at HF1
            have cb2 : acc.any (fun b => better b x) = false := by simpa using cb
            have HF2 : Hid ((out ++ [x]) ++ (acc.drop (k + 1)).filter (fun c => !(acc.any fun b => better b c)) = keepCh acc) := by show _ = _; rw [← HF1]; simp
            have HOK3 : Hid (∀ y, y ∈ out ++ [x] → ChoiceOk y) := fun y hy => by
              rcases List.mem_append.1 hy with hy | hy
              · exact HOK2.out y hy
              · simp at hy; subst hy; exact HIX.out
            clear HF1 cb
            go_wp2_with first
              | (go_at_call 47; refine (slices_ContainsCh HCX2.out inferInstance x HBC.out).mono ?_; rintro e w1 ⟨rfl, L1⟩; have X1 := Later.trans (w := wx) inferInstance L1; have Y1 := Later.trans (w := wb) inferInstance L1; have Z1 := Later.trans (w := wr) inferInstance L1; have U1 := Later.trans (w := w5) inferInstance L1)
              | (at_builtin; refine wpList_app_B rfl _ _ 45 rfl Tryz.underlying45 infoCh rfl (by decide) (by decide) rfl (by exact ownsRow_later hown.out (inferInstance : Later wr _)) (inferInstance : Later w5 w1) (Nat.le_refl _) (Later.size (w := w5) inferInstance) rfl rfl (cells_3 _ _ _) (by omega) ?_; intro v' w9 hown' hX9; have U9 := Later.trans (w := wb) inferInstance hX9)
            go_roundw
            case rel => exact ⟨k + 1, out ++ [x], by omega, by go_num, by simp; omega, HF2, HOK3, by show World.ownsRow _ _ _ _ _ _ _; rw [List.flatMap_append, List.length_append]; exact hown', inferInstance, inferInstance⟩
            case measure => simp [intOf]; omega
        · have HE2 : Hid (out = keepCh acc) := by
            have h9 := HF.out
            rw [List.drop_eq_nil_of_le (by omega)] at h9
            exact (by simpa using h9 : out = _)
          clear HF
          obtain ⟨A7, c7, f7, hv7, ho7, hnd7, hlo7⟩ := OSl.of_flat (r := rChoice) hown.out rfl (fun x hx W => ⟨rfl, HOK2.out x hx⟩)
          have HO7 := Lib.hid ho7
          have HN7 := Lib.hid hnd7
          have HLO7 := Lib.hid hlo7
          subst hv7
          clear ho7 hnd7 hlo7 hown
          go_wp2
          go_ret
          exact ⟨A7, _, c7, f7, rfl, by unfold profI; rw [← HE.out, ← HE2.out]; exact HO7.out, HN7.out, fun g hg => by have := HLO7.out g hg; have := Later.size (w := w) (hww.trans (inferInstance : Later wb w5)); omega, hww.trans inferInstance⟩
end Go.Proofs.YtbkeccpjcmhhjaaGreat
namespace Go.Proofs.YtbkeccpjcmhhjaaGreat
open Go Go.RowKit
set_option linter.unusedVariables false
set_option maxRecDepth 100000
set_option linter.unusedSimpArgs false
/-- A slice of numbers that lies somewhere. -/
def RetIntsAt (l : List Int) (w : World) (e : Ending) (w' : World) : Prop :=
  ∃ g o n c, e = .returned (.slice (some ⟨g, o, none⟩) n c) ∧ Ints w' (some ⟨g, o, none⟩) n c l ∧ Later w w'
theorem own_someS {W : World} {base : Nat} {e : TypeId} {v : Value} {n : Nat} {xs : List Value} (h : W.ownsRow base e 1 v n xs) (hn : 0 < n) : ∃ g c, v = .slice (some ⟨g, 0, none⟩) n c := by
  rcases h.2 with ⟨_, h0⟩ | ⟨g, cap, cur, h1, _⟩
  · omega
  · exact ⟨g, cap, h1⟩
theorem own_eqS {W : World} {base : Nat} {e : TypeId} {v : Value} {n m : Nat} {xs ys : List Value} (h : W.ownsRow base e 1 v n xs) (hm : n = m) (hx : xs = ys) : W.ownsRow base e 1 v m ys := by subst hm; subst hx; exact h
set_option maxHeartbeats 4000000 in
theorem spec_l1Put {w0 w : World} {g o n c : Nat} {l : List Int} (h : Ints w0 (some ⟨g, o, none⟩) n c l) (hl : Later w0 w) (hn : n ≤ 100) (hbd : ∀ y, y ∈ l → I64 y) (v : Int) (hv : I64 v) :
    Calls Tryz.prog 74 #[.slice (some ⟨g, o, none⟩) n c, .int .i64 v] w (RetIntsAt (putI l v) w) := by
  have hI := h.later hl
  have HI := Lib.hid hI
  have HLN := Lib.hid hI.len
  have hac := hI.cap
  have hacm := hI.max
  have HBD := Lib.hid hbd
  have hr64 := hv
  clear h hbd hI hv
  go_enter Tryz.func74, Tryz.ntmps74
  go_wp2_with fail
  go_loopw [5] (fun i wr => ∃ m : Nat, m ≤ n ∧ i = .int .i64 m ∧ Hid (∀ (j : Nat) (y : Int), j < m → l[j]? = some y → y < v) ∧ Later w wr) (fun i _ => n - (intOf i).toNat)
  case atStart => exact ⟨0, by omega, rfl, fun j y hj => by omega, inferInstance⟩
  case round =>
    obtain ⟨m, hm, rfl, HM, hX⟩ := hrel
    by_cases hlt : m < n
    · obtain ⟨b1, o1, y, hA1, hy, hcy, _⟩ := Ints.at_ HI.out hlt
      cases hA1
      have hmt : (m : Int) < n := by omega
      by_cases cy : y < v
      · have HM2 : Hid (∀ (j : Nat) (z : Int), j < m + 1 → l[j]? = some z → z < v) := fun j z hj hz => by
          by_cases e : j = m
          · subst e; rw [hy.out] at hz; obtain rfl := Option.some.inj hz; exact cy
          · exact HM.out j z (by omega) hz
        clear HM hy
        go_wp2
        go_roundw
        case rel => exact ⟨m + 1, by omega, by go_num, HM2, inferInstance⟩
        case measure => simp [intOf]; omega
      · by_cases ce : y = v
        · have HIN : Hid (putI l v = l) := (putI_at (by have := HLN.out; omega) HM.out).1 y hy.out cy ce
          have e1 := (beqi_t ce).1
          have e2 := (beqi_t ce).2
          clear HM hy ce
          go_wp2
          go_ret
          exact ⟨g, o, n, c, rfl, by rw [HIN.out]; exact HI.out.later inferInstance, inferInstance⟩
        · have HIN : Hid (putI l v = l.take m ++ [v] ++ l.drop m) := (putI_at (by have := HLN.out; omega) HM.out).2 fun z hz => by rw [hy.out] at hz; obtain rfl := Option.some.inj hz; exact ⟨cy, ce⟩
          have e1 := (beqi_f ce).1
          have e2 := (beqi_f ce).2
          clear hy ce
          have HIF := Lib.hid (HI.out.front_ hm)
          have HIB := Lib.hid (HI.out.back_ hm)
          have h49 := Later.size (w := w) (W := wr) inferInstance
          have hmi : (m : Int) ≤ n := by omega
          have hmc : (m : Int) ≤ c := by omega
          clear HM
          have hcm : ¬ c = m := by omega
          have HIB2 : Hid (Ints w (some ⟨g, o + m, none⟩) (n - m) (c - m) (l.drop m)) := HIB.out
          clear HIB
          go_wp2_with fail
          refine wp_region_held_drew (S := (fun w' => Later w w')) (by kernel_rfl) (by exact inferInstance) (fun hHeld => ?_)
          refine wpAnyH_take (i := 1) (v := ?_) (by simp only [List.getElem?_toArray, List.getElem?_cons_succ, List.getElem?_cons_zero] <;> rfl) (by kernel_rfl) (by kernel_rfl) (by kernel_rfl) (by exact fun _ _ _ h => h) (Or.inl ⟨by kernel_rfl, ?_⟩) (by assumption) ?_
          rotate_left
          · intro w' hSw; (try dsimp only at hSw); go_simp; try with_reducible rfl
          try simp only [Act.put, List.setIfInBounds_toArray, List.set_cons_zero, List.set_cons_succ]
          refine wpAnyH_take (i := 2) (v := ?_) (by simp only [List.getElem?_toArray, List.getElem?_cons_succ, List.getElem?_cons_zero] <;> rfl) (by kernel_rfl) (by kernel_rfl) (by kernel_rfl) (by exact fun _ _ _ h => h) (Or.inl ⟨by kernel_rfl, ?_⟩) (by assumption) ?_
          rotate_left
          · intro w' hSw; (try dsimp only at hSw); go_simp; try with_reducible rfl
          try simp only [Act.put, List.setIfInBounds_toArray, List.set_cons_zero, List.set_cons_succ]
          refine wpAnyH_take (i := 3) (v := ?_) (by simp only [List.getElem?_toArray, List.getElem?_cons_succ, List.getElem?_cons_zero] <;> rfl) (by kernel_rfl) (by kernel_rfl) (by kernel_rfl) (by exact fun _ _ _ h => h) (Or.inl ⟨by kernel_rfl, ?_⟩) (by assumption) ?_
          rotate_left
          · intro w' hSw; (try dsimp only at hSw); go_simp; try with_reducible rfl
          try simp only [Act.put, List.setIfInBounds_toArray, List.set_cons_zero, List.set_cons_succ]
          refine wpAnyH_take (i := 5) (v := ?_) (by simp only [List.getElem?_toArray, List.getElem?_cons_succ, List.getElem?_cons_zero] <;> rfl) (by kernel_rfl) (by kernel_rfl) (by kernel_rfl) (by exact fun _ _ _ h => h) (Or.inl ⟨by kernel_rfl, ?_⟩) (by assumption) ?_
          rotate_left
          · intro w' hSw; (try dsimp only at hSw); go_simp; try with_reducible rfl
          try simp only [Act.put, List.setIfInBounds_toArray, List.set_cons_zero, List.set_cons_succ]
          refine wpAnyH_take (i := 8) (v := ?_) (by simp only [List.getElem?_toArray, List.getElem?_cons_succ, List.getElem?_cons_zero] <;> rfl) (by kernel_rfl) (by kernel_rfl) (by kernel_rfl) (by exact fun _ _ _ h => h) (Or.inl ⟨by kernel_rfl, ?_⟩) (by assumption) ?_
          rotate_left
          · intro w' hSw; (try dsimp only at hSw); go_simp; try with_reducible rfl
          try simp only [Act.put, List.setIfInBounds_toArray, List.set_cons_zero, List.set_cons_succ]
          refine wpAnyH_take (i := 9) (v := ?_) (by simp only [List.getElem?_toArray, List.getElem?_cons_succ, List.getElem?_cons_zero] <;> rfl) (by kernel_rfl) (by kernel_rfl) (by kernel_rfl) (by exact fun _ _ _ h => h) (Or.inl ⟨by kernel_rfl, ?_⟩) (by assumption) ?_
          rotate_left
          · intro w' hSw; (try dsimp only at hSw); go_simp; try with_reducible rfl
          try simp only [Act.put, List.setIfInBounds_toArray, List.set_cons_zero, List.set_cons_succ]
          refine wpAnyH_take (i := 10) (v := ?_) (by simp only [List.getElem?_toArray, List.getElem?_cons_succ, List.getElem?_cons_zero] <;> rfl) (by kernel_rfl) (by kernel_rfl) (by kernel_rfl) (by exact fun _ _ _ h => h) (Or.inl ⟨by kernel_rfl, ?_⟩) (by assumption) ?_
          rotate_left
          · intro w' hSw; (try dsimp only at hSw); go_simp; try with_reducible rfl
          try simp only [Act.put, List.setIfInBounds_toArray, List.set_cons_zero, List.set_cons_succ]
          refine wpAnyH_ready (rs := [0, 6]) (by kernel_rfl) (by simp) (AllReadyH.cons rfl (fun K hK => ?r3x1_2_3_5_8_9_10_0) (AllReadyH.cons rfl (fun K hK => ?r3x1_2_3_5_8_9_10_6) AllReadyH.nil))
          case' r3x1_2_3_5_8_9_10_0 =>
            go_simp
            skip
            refine hK.out _ _ (by exact inferInstance) (fun hHeld => ?_)
            try simp only [Act.put, List.setIfInBounds_toArray, List.set_cons_zero, List.set_cons_succ]
            refine wpAnyH_ready (rs := [4, 6]) (by kernel_rfl) (by simp) (AllReadyH.cons rfl (fun K hK => ?r3x0_1_2_3_5_8_9_10_4) (AllReadyH.cons rfl (fun K hK => ?r3x0_1_2_3_5_8_9_10_6) AllReadyH.nil))
            case' r3x0_1_2_3_5_8_9_10_4 =>
              refine wp_app_NG (w0 := w) (base := w.heap.size) _ _ 79 rfl Tryz.underlying79 infoInt rfl (v := .slice (some ⟨_, 0, none⟩) 0 0) (own_lit0 (by first | exact heap_new (by simp) | exact (heap_old (by simp)).trans (heap_new (by simp))) (by first | exact h49 | (simp; omega) | omega)) inferInstance (Nat.le_refl _) (Later.size (w := w) inferInstance) rfl (HIF.out.later inferInstance) (by omega) ?_; intro v1 w11 hown1 hX1 hG1; (first | (have h6 : Blk w11 (wr.heap.size + 1) 3 #[.int .i64 v] := grown_blk hG1 (by exact heap_new (by simp)) (fun k hk => by simp [Value.ownBlock] at hk; omega)) | (have h6 : Blk w11 wr.heap.size 3 #[.int .i64 v] := grown_blk hG1 (by exact (heap_old (by simp)).trans (heap_new (by simp))) (fun k hk => by simp [Value.ownBlock] at hk; omega)) | skip)
              refine hK.out _ _ (by exact inferInstance) (fun hHeld => ?_)
              try simp only [Act.put, List.setIfInBounds_toArray, List.set_cons_zero, List.set_cons_succ]
              refine wpAnyH_ready (rs := [6]) (by kernel_rfl) (by simp) (AllReadyH.cons rfl (fun K hK => ?_) AllReadyH.nil)
              go_simp
              skip
              refine hK.out _ _ (by exact inferInstance) (fun hHeld => ?_)
              try simp only [Act.put, List.setIfInBounds_toArray, List.set_cons_zero, List.set_cons_succ]
              refine wpAnyH_ready (rs := [7]) (by kernel_rfl) (by simp) (AllReadyH.cons rfl (fun K hK => ?_) AllReadyH.nil)
              refine wp_app_NG (w0 := w) (base := w.heap.size) _ _ 79 rfl Tryz.underlying79 infoInt rfl (by exact ownsRow_later hown1 (inferInstance : Later w11 _)) inferInstance (Nat.le_refl _) (Later.size (w := w) inferInstance) rfl (ints_lit1 (t := 3) (by first | exact h6 | exact heap_new (by simp)) hr64) (by omega) ?_; intro v2 w12 hown2 hX2' hG2
              refine hK.out _ _ (by exact inferInstance) (fun hHeld => ?_)
              try simp only [Act.put, List.setIfInBounds_toArray, List.set_cons_zero, List.set_cons_succ]
              refine wpAnyH_ready (rs := [11]) (by kernel_rfl) (by simp) (AllReadyH.cons rfl (fun K hK => ?_) AllReadyH.nil)
              refine wp_app_NG (w0 := w) (base := w.heap.size) _ _ 79 rfl Tryz.underlying79 infoInt rfl (by exact ownsRow_later hown2 (inferInstance : Later w12 _)) inferInstance (Nat.le_refl _) (Later.size (w := w) inferInstance) rfl (by first | exact HIB2.out.later inferInstance | exact HIB3.out.later inferInstance | exact HIB4.out.later inferInstance) (by omega) ?_; intro v3 w13 hown3 hX3 hG3
              refine hK.out _ _ (by exact inferInstance) (fun hHeld => ?_)
              try simp only [Act.put, List.setIfInBounds_toArray, List.set_cons_zero, List.set_cons_succ]
              refine wpAnyH_take (i := 12) (v := ?_) (by simp only [List.getElem?_toArray, List.getElem?_cons_succ, List.getElem?_cons_zero] <;> rfl) (by kernel_rfl) (by kernel_rfl) (by kernel_rfl) (by exact fun _ _ _ h => h) (Or.inl ⟨by kernel_rfl, ?_⟩) (by assumption) ?_
              rotate_left
              · intro w' hSw; (try dsimp only at hSw); go_simp; try with_reducible rfl
              try simp only [Act.put, List.setIfInBounds_toArray, List.set_cons_zero, List.set_cons_succ]
              refine wpAnyH_done (by kernel_rfl) ?_ _
            case' r3x0_1_2_3_5_8_9_10_6 =>
              go_simp
              skip
              refine hK.out _ _ (by exact inferInstance) (fun hHeld => ?_)
              try simp only [Act.put, List.setIfInBounds_toArray, List.set_cons_zero, List.set_cons_succ]
              refine wpAnyH_ready (rs := [4]) (by kernel_rfl) (by simp) (AllReadyH.cons rfl (fun K hK => ?_) AllReadyH.nil)
              refine wp_app_NG (w0 := w) (base := w.heap.size) _ _ 79 rfl Tryz.underlying79 infoInt rfl (v := .slice (some ⟨_, 0, none⟩) 0 0) (own_lit0 (by first | exact heap_new (by simp) | exact (heap_old (by simp)).trans (heap_new (by simp))) (by first | exact h49 | (simp; omega) | omega)) inferInstance (Nat.le_refl _) (Later.size (w := w) inferInstance) rfl (HIF.out.later inferInstance) (by omega) ?_; intro v1 w11 hown1 hX1 hG1; (first | (have h6 : Blk w11 (wr.heap.size + 1) 3 #[.int .i64 v] := grown_blk hG1 (by exact heap_new (by simp)) (fun k hk => by simp [Value.ownBlock] at hk; omega)) | (have h6 : Blk w11 wr.heap.size 3 #[.int .i64 v] := grown_blk hG1 (by exact (heap_old (by simp)).trans (heap_new (by simp))) (fun k hk => by simp [Value.ownBlock] at hk; omega)) | skip)
              refine hK.out _ _ (by exact inferInstance) (fun hHeld => ?_)
              try simp only [Act.put, List.setIfInBounds_toArray, List.set_cons_zero, List.set_cons_succ]
              refine wpAnyH_ready (rs := [7]) (by kernel_rfl) (by simp) (AllReadyH.cons rfl (fun K hK => ?_) AllReadyH.nil)
              refine wp_app_NG (w0 := w) (base := w.heap.size) _ _ 79 rfl Tryz.underlying79 infoInt rfl (by exact ownsRow_later hown1 (inferInstance : Later w11 _)) inferInstance (Nat.le_refl _) (Later.size (w := w) inferInstance) rfl (ints_lit1 (t := 3) (by first | exact h6 | exact heap_new (by simp)) hr64) (by omega) ?_; intro v2 w12 hown2 hX2' hG2
              refine hK.out _ _ (by exact inferInstance) (fun hHeld => ?_)
              try simp only [Act.put, List.setIfInBounds_toArray, List.set_cons_zero, List.set_cons_succ]
              refine wpAnyH_ready (rs := [11]) (by kernel_rfl) (by simp) (AllReadyH.cons rfl (fun K hK => ?_) AllReadyH.nil)
              refine wp_app_NG (w0 := w) (base := w.heap.size) _ _ 79 rfl Tryz.underlying79 infoInt rfl (by exact ownsRow_later hown2 (inferInstance : Later w12 _)) inferInstance (Nat.le_refl _) (Later.size (w := w) inferInstance) rfl (by first | exact HIB2.out.later inferInstance | exact HIB3.out.later inferInstance | exact HIB4.out.later inferInstance) (by omega) ?_; intro v3 w13 hown3 hX3 hG3
              refine hK.out _ _ (by exact inferInstance) (fun hHeld => ?_)
              try simp only [Act.put, List.setIfInBounds_toArray, List.set_cons_zero, List.set_cons_succ]
              refine wpAnyH_take (i := 12) (v := ?_) (by simp only [List.getElem?_toArray, List.getElem?_cons_succ, List.getElem?_cons_zero] <;> rfl) (by kernel_rfl) (by kernel_rfl) (by kernel_rfl) (by exact fun _ _ _ h => h) (Or.inl ⟨by kernel_rfl, ?_⟩) (by assumption) ?_
              rotate_left
              · intro w' hSw; (try dsimp only at hSw); go_simp; try with_reducible rfl
              try simp only [Act.put, List.setIfInBounds_toArray, List.set_cons_zero, List.set_cons_succ]
              refine wpAnyH_done (by kernel_rfl) ?_ _
          case' r3x1_2_3_5_8_9_10_6 =>
            go_simp
            skip
            refine hK.out _ _ (by exact inferInstance) (fun hHeld => ?_)
            try simp only [Act.put, List.setIfInBounds_toArray, List.set_cons_zero, List.set_cons_succ]
            refine wpAnyH_ready (rs := [0]) (by kernel_rfl) (by simp) (AllReadyH.cons rfl (fun K hK => ?_) AllReadyH.nil)
            go_simp
            skip
            refine hK.out _ _ (by exact inferInstance) (fun hHeld => ?_)
            try simp only [Act.put, List.setIfInBounds_toArray, List.set_cons_zero, List.set_cons_succ]
            refine wpAnyH_ready (rs := [4]) (by kernel_rfl) (by simp) (AllReadyH.cons rfl (fun K hK => ?_) AllReadyH.nil)
            refine wp_app_NG (w0 := w) (base := w.heap.size) _ _ 79 rfl Tryz.underlying79 infoInt rfl (v := .slice (some ⟨_, 0, none⟩) 0 0) (own_lit0 (by first | exact heap_new (by simp) | exact (heap_old (by simp)).trans (heap_new (by simp))) (by first | exact h49 | (simp; omega) | omega)) inferInstance (Nat.le_refl _) (Later.size (w := w) inferInstance) rfl (HIF.out.later inferInstance) (by omega) ?_; intro v1 w11 hown1 hX1 hG1; (first | (have h6 : Blk w11 (wr.heap.size + 1) 3 #[.int .i64 v] := grown_blk hG1 (by exact heap_new (by simp)) (fun k hk => by simp [Value.ownBlock] at hk; omega)) | (have h6 : Blk w11 wr.heap.size 3 #[.int .i64 v] := grown_blk hG1 (by exact (heap_old (by simp)).trans (heap_new (by simp))) (fun k hk => by simp [Value.ownBlock] at hk; omega)) | skip)
            refine hK.out _ _ (by exact inferInstance) (fun hHeld => ?_)
            try simp only [Act.put, List.setIfInBounds_toArray, List.set_cons_zero, List.set_cons_succ]
            refine wpAnyH_ready (rs := [7]) (by kernel_rfl) (by simp) (AllReadyH.cons rfl (fun K hK => ?_) AllReadyH.nil)
            refine wp_app_NG (w0 := w) (base := w.heap.size) _ _ 79 rfl Tryz.underlying79 infoInt rfl (by exact ownsRow_later hown1 (inferInstance : Later w11 _)) inferInstance (Nat.le_refl _) (Later.size (w := w) inferInstance) rfl (ints_lit1 (t := 3) (by first | exact h6 | exact heap_new (by simp)) hr64) (by omega) ?_; intro v2 w12 hown2 hX2' hG2
            refine hK.out _ _ (by exact inferInstance) (fun hHeld => ?_)
            try simp only [Act.put, List.setIfInBounds_toArray, List.set_cons_zero, List.set_cons_succ]
            refine wpAnyH_ready (rs := [11]) (by kernel_rfl) (by simp) (AllReadyH.cons rfl (fun K hK => ?_) AllReadyH.nil)
            refine wp_app_NG (w0 := w) (base := w.heap.size) _ _ 79 rfl Tryz.underlying79 infoInt rfl (by exact ownsRow_later hown2 (inferInstance : Later w12 _)) inferInstance (Nat.le_refl _) (Later.size (w := w) inferInstance) rfl (by first | exact HIB2.out.later inferInstance | exact HIB3.out.later inferInstance | exact HIB4.out.later inferInstance) (by omega) ?_; intro v3 w13 hown3 hX3 hG3
            refine hK.out _ _ (by exact inferInstance) (fun hHeld => ?_)
            try simp only [Act.put, List.setIfInBounds_toArray, List.set_cons_zero, List.set_cons_succ]
            refine wpAnyH_take (i := 12) (v := ?_) (by simp only [List.getElem?_toArray, List.getElem?_cons_succ, List.getElem?_cons_zero] <;> rfl) (by kernel_rfl) (by kernel_rfl) (by kernel_rfl) (by exact fun _ _ _ h => h) (Or.inl ⟨by kernel_rfl, ?_⟩) (by assumption) ?_
            rotate_left
            · intro w' hSw; (try dsimp only at hSw); go_simp; try with_reducible rfl
            try simp only [Act.put, List.setIfInBounds_toArray, List.set_cons_zero, List.set_cons_succ]
            refine wpAnyH_done (by kernel_rfl) ?_ _
          all_goals
            obtain ⟨g3, c3, rfl⟩ := own_someS hown3 (by omega)
            obtain ⟨A9, c9, fp9, hov9, ho9, _, _⟩ := OSl.ints_of_own (l := putI l v) (n := (putI l v).length) (own_eqS hown3 (by have := HLN.out; rw [HIN.out]; simp; omega) (by rw [HIN.out]; simp)) (fun y hy => by
              rcases (putI_mem l v y).1 hy with rfl | h
              · exact hr64
              · exact HBD.out y h)
            have h9 : Ints w13 A9 (putI l v).length c9 (putI l v) := ho9.reads
            have HH9 := Lib.hid h9
            have HOV := Lib.hid hov9
            clear hown1 hown2 hown3 hG1 hG2 hG3 ho9 h9 hov9
            go_wp2_with fail
            go_ret
            refine ⟨g3, 0, m + 1 + (n - m), c3, by simp <;> omega, ?_, inferInstance⟩
            have h1 := HOV.out
            simp only [Value.slice.injEq] at h1
            obtain ⟨e1, e2, e3⟩ := h1
            subst e1 e3
            exact ⟨by have := HH9.out.len; omega, by have := HH9.out.cap; omega, HH9.out.max, HH9.out.el⟩
    · have HIN : Hid (putI l v = l.take m ++ [v] ++ l.drop m) := (putI_at (by have := HLN.out; omega) HM.out).2 fun z hz => by rw [List.getElem?_eq_none (by have := HLN.out; omega)] at hz; cases hz
      have hmt : ¬ (m : Int) < n := by omega
      have HIF := Lib.hid (HI.out.front_ hm)
      have HIB := Lib.hid (HI.out.back_ hm)
      have h49 := Later.size (w := w) (W := wr) inferInstance
      have hmi : (m : Int) ≤ n := by omega
      have hmc : (m : Int) ≤ c := by omega
      clear HM
      by_cases hcm : c = m
      · have HIB2 : Hid (Ints w (some ⟨g, o, none⟩) (n - m) (c - m) (l.drop m)) := ⟨by rw [List.length_drop]; have := HLN.out; omega, by omega, by omega, fun j x hx => by rw [List.drop_eq_nil_of_le (by have := HLN.out; omega)] at hx; simp at hx⟩
        have HIB3 : Hid (Ints w (some ⟨g, o, none⟩) (n - m) 0 (l.drop m)) := ⟨by rw [List.length_drop]; have := HLN.out; omega, by omega, by omega, fun j x hx => by rw [List.drop_eq_nil_of_le (by have := HLN.out; omega)] at hx; simp at hx⟩
        have HIB4 : Hid (Ints w (some ⟨g, o, none⟩) 0 0 (l.drop m)) := ⟨by rw [List.length_drop]; have := HLN.out; omega, by omega, by omega, fun j x hx => by rw [List.drop_eq_nil_of_le (by have := HLN.out; omega)] at hx; simp at hx⟩
        clear HIB
        subst hcm
        go_wp2_with fail
        refine wp_region_held_drew (S := (fun w' => Later w w')) (by kernel_rfl) (by exact inferInstance) (fun hHeld => ?_)
        refine wpAnyH_take (i := 1) (v := ?_) (by simp only [List.getElem?_toArray, List.getElem?_cons_succ, List.getElem?_cons_zero] <;> rfl) (by kernel_rfl) (by kernel_rfl) (by kernel_rfl) (by exact fun _ _ _ h => h) (Or.inl ⟨by kernel_rfl, ?_⟩) (by assumption) ?_
        rotate_left
        · intro w' hSw; (try dsimp only at hSw); go_simp; try with_reducible rfl
        try simp only [Act.put, List.setIfInBounds_toArray, List.set_cons_zero, List.set_cons_succ]
        refine wpAnyH_take (i := 2) (v := ?_) (by simp only [List.getElem?_toArray, List.getElem?_cons_succ, List.getElem?_cons_zero] <;> rfl) (by kernel_rfl) (by kernel_rfl) (by kernel_rfl) (by exact fun _ _ _ h => h) (Or.inl ⟨by kernel_rfl, ?_⟩) (by assumption) ?_
        rotate_left
        · intro w' hSw; (try dsimp only at hSw); go_simp; try with_reducible rfl
        try simp only [Act.put, List.setIfInBounds_toArray, List.set_cons_zero, List.set_cons_succ]
        refine wpAnyH_take (i := 3) (v := ?_) (by simp only [List.getElem?_toArray, List.getElem?_cons_succ, List.getElem?_cons_zero] <;> rfl) (by kernel_rfl) (by kernel_rfl) (by kernel_rfl) (by exact fun _ _ _ h => h) (Or.inl ⟨by kernel_rfl, ?_⟩) (by assumption) ?_
        rotate_left
        · intro w' hSw; (try dsimp only at hSw); go_simp; try with_reducible rfl
        try simp only [Act.put, List.setIfInBounds_toArray, List.set_cons_zero, List.set_cons_succ]
        refine wpAnyH_take (i := 5) (v := ?_) (by simp only [List.getElem?_toArray, List.getElem?_cons_succ, List.getElem?_cons_zero] <;> rfl) (by kernel_rfl) (by kernel_rfl) (by kernel_rfl) (by exact fun _ _ _ h => h) (Or.inl ⟨by kernel_rfl, ?_⟩) (by assumption) ?_
        rotate_left
        · intro w' hSw; (try dsimp only at hSw); go_simp; try with_reducible rfl
        try simp only [Act.put, List.setIfInBounds_toArray, List.set_cons_zero, List.set_cons_succ]
        refine wpAnyH_take (i := 8) (v := ?_) (by simp only [List.getElem?_toArray, List.getElem?_cons_succ, List.getElem?_cons_zero] <;> rfl) (by kernel_rfl) (by kernel_rfl) (by kernel_rfl) (by exact fun _ _ _ h => h) (Or.inl ⟨by kernel_rfl, ?_⟩) (by assumption) ?_
        rotate_left
        · intro w' hSw; (try dsimp only at hSw); go_simp; try with_reducible rfl
        try simp only [Act.put, List.setIfInBounds_toArray, List.set_cons_zero, List.set_cons_succ]
        refine wpAnyH_take (i := 9) (v := ?_) (by simp only [List.getElem?_toArray, List.getElem?_cons_succ, List.getElem?_cons_zero] <;> rfl) (by kernel_rfl) (by kernel_rfl) (by kernel_rfl) (by exact fun _ _ _ h => h) (Or.inl ⟨by kernel_rfl, ?_⟩) (by assumption) ?_
        rotate_left
        · intro w' hSw; (try dsimp only at hSw); go_simp; try with_reducible rfl
        try simp only [Act.put, List.setIfInBounds_toArray, List.set_cons_zero, List.set_cons_succ]
        refine wpAnyH_take (i := 10) (v := ?_) (by simp only [List.getElem?_toArray, List.getElem?_cons_succ, List.getElem?_cons_zero] <;> rfl) (by kernel_rfl) (by kernel_rfl) (by kernel_rfl) (by exact fun _ _ _ h => h) (Or.inl ⟨by kernel_rfl, ?_⟩) (by assumption) ?_
        rotate_left
        · intro w' hSw; (try dsimp only at hSw); go_simp; try with_reducible rfl
        try simp only [Act.put, List.setIfInBounds_toArray, List.set_cons_zero, List.set_cons_succ]
        refine wpAnyH_ready (rs := [0, 6]) (by kernel_rfl) (by simp) (AllReadyH.cons rfl (fun K hK => ?r4x1_2_3_5_8_9_10_0) (AllReadyH.cons rfl (fun K hK => ?r4x1_2_3_5_8_9_10_6) AllReadyH.nil))
        case' r4x1_2_3_5_8_9_10_0 =>
          go_simp
          skip
          refine hK.out _ _ (by exact inferInstance) (fun hHeld => ?_)
          try simp only [Act.put, List.setIfInBounds_toArray, List.set_cons_zero, List.set_cons_succ]
          refine wpAnyH_ready (rs := [4, 6]) (by kernel_rfl) (by simp) (AllReadyH.cons rfl (fun K hK => ?r4x0_1_2_3_5_8_9_10_4) (AllReadyH.cons rfl (fun K hK => ?r4x0_1_2_3_5_8_9_10_6) AllReadyH.nil))
          case' r4x0_1_2_3_5_8_9_10_4 =>
            refine wp_app_NG (w0 := w) (base := w.heap.size) _ _ 79 rfl Tryz.underlying79 infoInt rfl (v := .slice (some ⟨_, 0, none⟩) 0 0) (own_lit0 (by first | exact heap_new (by simp) | exact (heap_old (by simp)).trans (heap_new (by simp))) (by first | exact h49 | (simp; omega) | omega)) inferInstance (Nat.le_refl _) (Later.size (w := w) inferInstance) rfl (HIF.out.later inferInstance) (by omega) ?_; intro v1 w11 hown1 hX1 hG1; (first | (have h6 : Blk w11 (wr.heap.size + 1) 3 #[.int .i64 v] := grown_blk hG1 (by exact heap_new (by simp)) (fun k hk => by simp [Value.ownBlock] at hk; omega)) | (have h6 : Blk w11 wr.heap.size 3 #[.int .i64 v] := grown_blk hG1 (by exact (heap_old (by simp)).trans (heap_new (by simp))) (fun k hk => by simp [Value.ownBlock] at hk; omega)) | skip)
            refine hK.out _ _ (by exact inferInstance) (fun hHeld => ?_)
            try simp only [Act.put, List.setIfInBounds_toArray, List.set_cons_zero, List.set_cons_succ]
            refine wpAnyH_ready (rs := [6]) (by kernel_rfl) (by simp) (AllReadyH.cons rfl (fun K hK => ?_) AllReadyH.nil)
            go_simp
            skip
            refine hK.out _ _ (by exact inferInstance) (fun hHeld => ?_)
            try simp only [Act.put, List.setIfInBounds_toArray, List.set_cons_zero, List.set_cons_succ]
            refine wpAnyH_ready (rs := [7]) (by kernel_rfl) (by simp) (AllReadyH.cons rfl (fun K hK => ?_) AllReadyH.nil)
            refine wp_app_NG (w0 := w) (base := w.heap.size) _ _ 79 rfl Tryz.underlying79 infoInt rfl (by exact ownsRow_later hown1 (inferInstance : Later w11 _)) inferInstance (Nat.le_refl _) (Later.size (w := w) inferInstance) rfl (ints_lit1 (t := 3) (by first | exact h6 | exact heap_new (by simp)) hr64) (by omega) ?_; intro v2 w12 hown2 hX2' hG2
            refine hK.out _ _ (by exact inferInstance) (fun hHeld => ?_)
            try simp only [Act.put, List.setIfInBounds_toArray, List.set_cons_zero, List.set_cons_succ]
            refine wpAnyH_ready (rs := [11]) (by kernel_rfl) (by simp) (AllReadyH.cons rfl (fun K hK => ?_) AllReadyH.nil)
            refine wp_app_NG (w0 := w) (base := w.heap.size) _ _ 79 rfl Tryz.underlying79 infoInt rfl (by exact ownsRow_later hown2 (inferInstance : Later w12 _)) inferInstance (Nat.le_refl _) (Later.size (w := w) inferInstance) rfl (by first | exact HIB2.out.later inferInstance | exact HIB3.out.later inferInstance | exact HIB4.out.later inferInstance) (by omega) ?_; intro v3 w13 hown3 hX3 hG3
            refine hK.out _ _ (by exact inferInstance) (fun hHeld => ?_)
            try simp only [Act.put, List.setIfInBounds_toArray, List.set_cons_zero, List.set_cons_succ]
            refine wpAnyH_take (i := 12) (v := ?_) (by simp only [List.getElem?_toArray, List.getElem?_cons_succ, List.getElem?_cons_zero] <;> rfl) (by kernel_rfl) (by kernel_rfl) (by kernel_rfl) (by exact fun _ _ _ h => h) (Or.inl ⟨by kernel_rfl, ?_⟩) (by assumption) ?_
            rotate_left
            · intro w' hSw; (try dsimp only at hSw); go_simp; try with_reducible rfl
            try simp only [Act.put, List.setIfInBounds_toArray, List.set_cons_zero, List.set_cons_succ]
            refine wpAnyH_done (by kernel_rfl) ?_ _
          case' r4x0_1_2_3_5_8_9_10_6 =>
            go_simp
            skip
            refine hK.out _ _ (by exact inferInstance) (fun hHeld => ?_)
            try simp only [Act.put, List.setIfInBounds_toArray, List.set_cons_zero, List.set_cons_succ]
            refine wpAnyH_ready (rs := [4]) (by kernel_rfl) (by simp) (AllReadyH.cons rfl (fun K hK => ?_) AllReadyH.nil)
            refine wp_app_NG (w0 := w) (base := w.heap.size) _ _ 79 rfl Tryz.underlying79 infoInt rfl (v := .slice (some ⟨_, 0, none⟩) 0 0) (own_lit0 (by first | exact heap_new (by simp) | exact (heap_old (by simp)).trans (heap_new (by simp))) (by first | exact h49 | (simp; omega) | omega)) inferInstance (Nat.le_refl _) (Later.size (w := w) inferInstance) rfl (HIF.out.later inferInstance) (by omega) ?_; intro v1 w11 hown1 hX1 hG1; (first | (have h6 : Blk w11 (wr.heap.size + 1) 3 #[.int .i64 v] := grown_blk hG1 (by exact heap_new (by simp)) (fun k hk => by simp [Value.ownBlock] at hk; omega)) | (have h6 : Blk w11 wr.heap.size 3 #[.int .i64 v] := grown_blk hG1 (by exact (heap_old (by simp)).trans (heap_new (by simp))) (fun k hk => by simp [Value.ownBlock] at hk; omega)) | skip)
            refine hK.out _ _ (by exact inferInstance) (fun hHeld => ?_)
            try simp only [Act.put, List.setIfInBounds_toArray, List.set_cons_zero, List.set_cons_succ]
            refine wpAnyH_ready (rs := [7]) (by kernel_rfl) (by simp) (AllReadyH.cons rfl (fun K hK => ?_) AllReadyH.nil)
            refine wp_app_NG (w0 := w) (base := w.heap.size) _ _ 79 rfl Tryz.underlying79 infoInt rfl (by exact ownsRow_later hown1 (inferInstance : Later w11 _)) inferInstance (Nat.le_refl _) (Later.size (w := w) inferInstance) rfl (ints_lit1 (t := 3) (by first | exact h6 | exact heap_new (by simp)) hr64) (by omega) ?_; intro v2 w12 hown2 hX2' hG2
            refine hK.out _ _ (by exact inferInstance) (fun hHeld => ?_)
            try simp only [Act.put, List.setIfInBounds_toArray, List.set_cons_zero, List.set_cons_succ]
            refine wpAnyH_ready (rs := [11]) (by kernel_rfl) (by simp) (AllReadyH.cons rfl (fun K hK => ?_) AllReadyH.nil)
            refine wp_app_NG (w0 := w) (base := w.heap.size) _ _ 79 rfl Tryz.underlying79 infoInt rfl (by exact ownsRow_later hown2 (inferInstance : Later w12 _)) inferInstance (Nat.le_refl _) (Later.size (w := w) inferInstance) rfl (by first | exact HIB2.out.later inferInstance | exact HIB3.out.later inferInstance | exact HIB4.out.later inferInstance) (by omega) ?_; intro v3 w13 hown3 hX3 hG3
            refine hK.out _ _ (by exact inferInstance) (fun hHeld => ?_)
            try simp only [Act.put, List.setIfInBounds_toArray, List.set_cons_zero, List.set_cons_succ]
            refine wpAnyH_take (i := 12) (v := ?_) (by simp only [List.getElem?_toArray, List.getElem?_cons_succ, List.getElem?_cons_zero] <;> rfl) (by kernel_rfl) (by kernel_rfl) (by kernel_rfl) (by exact fun _ _ _ h => h) (Or.inl ⟨by kernel_rfl, ?_⟩) (by assumption) ?_
            rotate_left
            · intro w' hSw; (try dsimp only at hSw); go_simp; try with_reducible rfl
            try simp only [Act.put, List.setIfInBounds_toArray, List.set_cons_zero, List.set_cons_succ]
            refine wpAnyH_done (by kernel_rfl) ?_ _
        case' r4x1_2_3_5_8_9_10_6 =>
          go_simp
          skip
          refine hK.out _ _ (by exact inferInstance) (fun hHeld => ?_)
          try simp only [Act.put, List.setIfInBounds_toArray, List.set_cons_zero, List.set_cons_succ]
          refine wpAnyH_ready (rs := [0]) (by kernel_rfl) (by simp) (AllReadyH.cons rfl (fun K hK => ?_) AllReadyH.nil)
          go_simp
          skip
          refine hK.out _ _ (by exact inferInstance) (fun hHeld => ?_)
          try simp only [Act.put, List.setIfInBounds_toArray, List.set_cons_zero, List.set_cons_succ]
          refine wpAnyH_ready (rs := [4]) (by kernel_rfl) (by simp) (AllReadyH.cons rfl (fun K hK => ?_) AllReadyH.nil)
          refine wp_app_NG (w0 := w) (base := w.heap.size) _ _ 79 rfl Tryz.underlying79 infoInt rfl (v := .slice (some ⟨_, 0, none⟩) 0 0) (own_lit0 (by first | exact heap_new (by simp) | exact (heap_old (by simp)).trans (heap_new (by simp))) (by first | exact h49 | (simp; omega) | omega)) inferInstance (Nat.le_refl _) (Later.size (w := w) inferInstance) rfl (HIF.out.later inferInstance) (by omega) ?_; intro v1 w11 hown1 hX1 hG1; (first | (have h6 : Blk w11 (wr.heap.size + 1) 3 #[.int .i64 v] := grown_blk hG1 (by exact heap_new (by simp)) (fun k hk => by simp [Value.ownBlock] at hk; omega)) | (have h6 : Blk w11 wr.heap.size 3 #[.int .i64 v] := grown_blk hG1 (by exact (heap_old (by simp)).trans (heap_new (by simp))) (fun k hk => by simp [Value.ownBlock] at hk; omega)) | skip)
          refine hK.out _ _ (by exact inferInstance) (fun hHeld => ?_)
          try simp only [Act.put, List.setIfInBounds_toArray, List.set_cons_zero, List.set_cons_succ]
          refine wpAnyH_ready (rs := [7]) (by kernel_rfl) (by simp) (AllReadyH.cons rfl (fun K hK => ?_) AllReadyH.nil)
          refine wp_app_NG (w0 := w) (base := w.heap.size) _ _ 79 rfl Tryz.underlying79 infoInt rfl (by exact ownsRow_later hown1 (inferInstance : Later w11 _)) inferInstance (Nat.le_refl _) (Later.size (w := w) inferInstance) rfl (ints_lit1 (t := 3) (by first | exact h6 | exact heap_new (by simp)) hr64) (by omega) ?_; intro v2 w12 hown2 hX2' hG2
          refine hK.out _ _ (by exact inferInstance) (fun hHeld => ?_)
          try simp only [Act.put, List.setIfInBounds_toArray, List.set_cons_zero, List.set_cons_succ]
          refine wpAnyH_ready (rs := [11]) (by kernel_rfl) (by simp) (AllReadyH.cons rfl (fun K hK => ?_) AllReadyH.nil)
          refine wp_app_NG (w0 := w) (base := w.heap.size) _ _ 79 rfl Tryz.underlying79 infoInt rfl (by exact ownsRow_later hown2 (inferInstance : Later w12 _)) inferInstance (Nat.le_refl _) (Later.size (w := w) inferInstance) rfl (by first | exact HIB2.out.later inferInstance | exact HIB3.out.later inferInstance | exact HIB4.out.later inferInstance) (by omega) ?_; intro v3 w13 hown3 hX3 hG3
          refine hK.out _ _ (by exact inferInstance) (fun hHeld => ?_)
          try simp only [Act.put, List.setIfInBounds_toArray, List.set_cons_zero, List.set_cons_succ]
          refine wpAnyH_take (i := 12) (v := ?_) (by simp only [List.getElem?_toArray, List.getElem?_cons_succ, List.getElem?_cons_zero] <;> rfl) (by kernel_rfl) (by kernel_rfl) (by kernel_rfl) (by exact fun _ _ _ h => h) (Or.inl ⟨by kernel_rfl, ?_⟩) (by assumption) ?_
          rotate_left
          · intro w' hSw; (try dsimp only at hSw); go_simp; try with_reducible rfl
          try simp only [Act.put, List.setIfInBounds_toArray, List.set_cons_zero, List.set_cons_succ]
          refine wpAnyH_done (by kernel_rfl) ?_ _
        all_goals
          obtain ⟨g3, c3, rfl⟩ := own_someS hown3 (by omega)
          obtain ⟨A9, c9, fp9, hov9, ho9, _, _⟩ := OSl.ints_of_own (l := putI l v) (n := (putI l v).length) (own_eqS hown3 (by have := HLN.out; rw [HIN.out]; simp; omega) (by rw [HIN.out]; simp)) (fun y hy => by
            rcases (putI_mem l v y).1 hy with rfl | h
            · exact hr64
            · exact HBD.out y h)
          have h9 : Ints w13 A9 (putI l v).length c9 (putI l v) := ho9.reads
          have HH9 := Lib.hid h9
          have HOV := Lib.hid hov9
          clear hown1 hown2 hown3 hG1 hG2 hG3 ho9 h9 hov9
          go_wp2_with fail
          go_ret
          refine ⟨g3, 0, c + 1 + (n - c), c3, by simp <;> omega, ?_, inferInstance⟩
          have h1 := HOV.out
          simp only [Value.slice.injEq] at h1
          obtain ⟨e1, e2, e3⟩ := h1
          subst e1 e3
          exact ⟨by have := HH9.out.len; omega, by have := HH9.out.cap; omega, HH9.out.max, HH9.out.el⟩
      · have HIB2 : Hid (Ints w (some ⟨g, o + m, none⟩) (n - m) (c - m) (l.drop m)) := HIB.out
        clear HIB
        go_wp2_with fail
        refine wp_region_held_drew (S := (fun w' => Later w w')) (by kernel_rfl) (by exact inferInstance) (fun hHeld => ?_)
        refine wpAnyH_take (i := 1) (v := ?_) (by simp only [List.getElem?_toArray, List.getElem?_cons_succ, List.getElem?_cons_zero] <;> rfl) (by kernel_rfl) (by kernel_rfl) (by kernel_rfl) (by exact fun _ _ _ h => h) (Or.inl ⟨by kernel_rfl, ?_⟩) (by assumption) ?_
        rotate_left
        · intro w' hSw; (try dsimp only at hSw); go_simp; try with_reducible rfl
        try simp only [Act.put, List.setIfInBounds_toArray, List.set_cons_zero, List.set_cons_succ]
        refine wpAnyH_take (i := 2) (v := ?_) (by simp only [List.getElem?_toArray, List.getElem?_cons_succ, List.getElem?_cons_zero] <;> rfl) (by kernel_rfl) (by kernel_rfl) (by kernel_rfl) (by exact fun _ _ _ h => h) (Or.inl ⟨by kernel_rfl, ?_⟩) (by assumption) ?_
        rotate_left
        · intro w' hSw; (try dsimp only at hSw); go_simp; try with_reducible rfl
        try simp only [Act.put, List.setIfInBounds_toArray, List.set_cons_zero, List.set_cons_succ]
        refine wpAnyH_take (i := 3) (v := ?_) (by simp only [List.getElem?_toArray, List.getElem?_cons_succ, List.getElem?_cons_zero] <;> rfl) (by kernel_rfl) (by kernel_rfl) (by kernel_rfl) (by exact fun _ _ _ h => h) (Or.inl ⟨by kernel_rfl, ?_⟩) (by assumption) ?_
        rotate_left
        · intro w' hSw; (try dsimp only at hSw); go_simp; try with_reducible rfl
        try simp only [Act.put, List.setIfInBounds_toArray, List.set_cons_zero, List.set_cons_succ]
        refine wpAnyH_take (i := 5) (v := ?_) (by simp only [List.getElem?_toArray, List.getElem?_cons_succ, List.getElem?_cons_zero] <;> rfl) (by kernel_rfl) (by kernel_rfl) (by kernel_rfl) (by exact fun _ _ _ h => h) (Or.inl ⟨by kernel_rfl, ?_⟩) (by assumption) ?_
        rotate_left
        · intro w' hSw; (try dsimp only at hSw); go_simp; try with_reducible rfl
        try simp only [Act.put, List.setIfInBounds_toArray, List.set_cons_zero, List.set_cons_succ]
        refine wpAnyH_take (i := 8) (v := ?_) (by simp only [List.getElem?_toArray, List.getElem?_cons_succ, List.getElem?_cons_zero] <;> rfl) (by kernel_rfl) (by kernel_rfl) (by kernel_rfl) (by exact fun _ _ _ h => h) (Or.inl ⟨by kernel_rfl, ?_⟩) (by assumption) ?_
        rotate_left
        · intro w' hSw; (try dsimp only at hSw); go_simp; try with_reducible rfl
        try simp only [Act.put, List.setIfInBounds_toArray, List.set_cons_zero, List.set_cons_succ]
        refine wpAnyH_take (i := 9) (v := ?_) (by simp only [List.getElem?_toArray, List.getElem?_cons_succ, List.getElem?_cons_zero] <;> rfl) (by kernel_rfl) (by kernel_rfl) (by kernel_rfl) (by exact fun _ _ _ h => h) (Or.inl ⟨by kernel_rfl, ?_⟩) (by assumption) ?_
        rotate_left
        · intro w' hSw; (try dsimp only at hSw); go_simp; try with_reducible rfl
        try simp only [Act.put, List.setIfInBounds_toArray, List.set_cons_zero, List.set_cons_succ]
        refine wpAnyH_take (i := 10) (v := ?_) (by simp only [List.getElem?_toArray, List.getElem?_cons_succ, List.getElem?_cons_zero] <;> rfl) (by kernel_rfl) (by kernel_rfl) (by kernel_rfl) (by exact fun _ _ _ h => h) (Or.inl ⟨by kernel_rfl, ?_⟩) (by assumption) ?_
        rotate_left
        · intro w' hSw; (try dsimp only at hSw); go_simp; try with_reducible rfl
        try simp only [Act.put, List.setIfInBounds_toArray, List.set_cons_zero, List.set_cons_succ]
        refine wpAnyH_ready (rs := [0, 6]) (by kernel_rfl) (by simp) (AllReadyH.cons rfl (fun K hK => ?r5x1_2_3_5_8_9_10_0) (AllReadyH.cons rfl (fun K hK => ?r5x1_2_3_5_8_9_10_6) AllReadyH.nil))
        case' r5x1_2_3_5_8_9_10_0 =>
          go_simp
          skip
          refine hK.out _ _ (by exact inferInstance) (fun hHeld => ?_)
          try simp only [Act.put, List.setIfInBounds_toArray, List.set_cons_zero, List.set_cons_succ]
          refine wpAnyH_ready (rs := [4, 6]) (by kernel_rfl) (by simp) (AllReadyH.cons rfl (fun K hK => ?r5x0_1_2_3_5_8_9_10_4) (AllReadyH.cons rfl (fun K hK => ?r5x0_1_2_3_5_8_9_10_6) AllReadyH.nil))
          case' r5x0_1_2_3_5_8_9_10_4 =>
            refine wp_app_NG (w0 := w) (base := w.heap.size) _ _ 79 rfl Tryz.underlying79 infoInt rfl (v := .slice (some ⟨_, 0, none⟩) 0 0) (own_lit0 (by first | exact heap_new (by simp) | exact (heap_old (by simp)).trans (heap_new (by simp))) (by first | exact h49 | (simp; omega) | omega)) inferInstance (Nat.le_refl _) (Later.size (w := w) inferInstance) rfl (HIF.out.later inferInstance) (by omega) ?_; intro v1 w11 hown1 hX1 hG1; (first | (have h6 : Blk w11 (wr.heap.size + 1) 3 #[.int .i64 v] := grown_blk hG1 (by exact heap_new (by simp)) (fun k hk => by simp [Value.ownBlock] at hk; omega)) | (have h6 : Blk w11 wr.heap.size 3 #[.int .i64 v] := grown_blk hG1 (by exact (heap_old (by simp)).trans (heap_new (by simp))) (fun k hk => by simp [Value.ownBlock] at hk; omega)) | skip)
            refine hK.out _ _ (by exact inferInstance) (fun hHeld => ?_)
            try simp only [Act.put, List.setIfInBounds_toArray, List.set_cons_zero, List.set_cons_succ]
            refine wpAnyH_ready (rs := [6]) (by kernel_rfl) (by simp) (AllReadyH.cons rfl (fun K hK => ?_) AllReadyH.nil)
            go_simp
            skip
            refine hK.out _ _ (by exact inferInstance) (fun hHeld => ?_)
            try simp only [Act.put, List.setIfInBounds_toArray, List.set_cons_zero, List.set_cons_succ]
            refine wpAnyH_ready (rs := [7]) (by kernel_rfl) (by simp) (AllReadyH.cons rfl (fun K hK => ?_) AllReadyH.nil)
            refine wp_app_NG (w0 := w) (base := w.heap.size) _ _ 79 rfl Tryz.underlying79 infoInt rfl (by exact ownsRow_later hown1 (inferInstance : Later w11 _)) inferInstance (Nat.le_refl _) (Later.size (w := w) inferInstance) rfl (ints_lit1 (t := 3) (by first | exact h6 | exact heap_new (by simp)) hr64) (by omega) ?_; intro v2 w12 hown2 hX2' hG2
            refine hK.out _ _ (by exact inferInstance) (fun hHeld => ?_)
            try simp only [Act.put, List.setIfInBounds_toArray, List.set_cons_zero, List.set_cons_succ]
            refine wpAnyH_ready (rs := [11]) (by kernel_rfl) (by simp) (AllReadyH.cons rfl (fun K hK => ?_) AllReadyH.nil)
            refine wp_app_NG (w0 := w) (base := w.heap.size) _ _ 79 rfl Tryz.underlying79 infoInt rfl (by exact ownsRow_later hown2 (inferInstance : Later w12 _)) inferInstance (Nat.le_refl _) (Later.size (w := w) inferInstance) rfl (by first | exact HIB2.out.later inferInstance | exact HIB3.out.later inferInstance | exact HIB4.out.later inferInstance) (by omega) ?_; intro v3 w13 hown3 hX3 hG3
            refine hK.out _ _ (by exact inferInstance) (fun hHeld => ?_)
            try simp only [Act.put, List.setIfInBounds_toArray, List.set_cons_zero, List.set_cons_succ]
            refine wpAnyH_take (i := 12) (v := ?_) (by simp only [List.getElem?_toArray, List.getElem?_cons_succ, List.getElem?_cons_zero] <;> rfl) (by kernel_rfl) (by kernel_rfl) (by kernel_rfl) (by exact fun _ _ _ h => h) (Or.inl ⟨by kernel_rfl, ?_⟩) (by assumption) ?_
            rotate_left
            · intro w' hSw; (try dsimp only at hSw); go_simp; try with_reducible rfl
            try simp only [Act.put, List.setIfInBounds_toArray, List.set_cons_zero, List.set_cons_succ]
            refine wpAnyH_done (by kernel_rfl) ?_ _
          case' r5x0_1_2_3_5_8_9_10_6 =>
            go_simp
            skip
            refine hK.out _ _ (by exact inferInstance) (fun hHeld => ?_)
            try simp only [Act.put, List.setIfInBounds_toArray, List.set_cons_zero, List.set_cons_succ]
            refine wpAnyH_ready (rs := [4]) (by kernel_rfl) (by simp) (AllReadyH.cons rfl (fun K hK => ?_) AllReadyH.nil)
            refine wp_app_NG (w0 := w) (base := w.heap.size) _ _ 79 rfl Tryz.underlying79 infoInt rfl (v := .slice (some ⟨_, 0, none⟩) 0 0) (own_lit0 (by first | exact heap_new (by simp) | exact (heap_old (by simp)).trans (heap_new (by simp))) (by first | exact h49 | (simp; omega) | omega)) inferInstance (Nat.le_refl _) (Later.size (w := w) inferInstance) rfl (HIF.out.later inferInstance) (by omega) ?_; intro v1 w11 hown1 hX1 hG1; (first | (have h6 : Blk w11 (wr.heap.size + 1) 3 #[.int .i64 v] := grown_blk hG1 (by exact heap_new (by simp)) (fun k hk => by simp [Value.ownBlock] at hk; omega)) | (have h6 : Blk w11 wr.heap.size 3 #[.int .i64 v] := grown_blk hG1 (by exact (heap_old (by simp)).trans (heap_new (by simp))) (fun k hk => by simp [Value.ownBlock] at hk; omega)) | skip)
            refine hK.out _ _ (by exact inferInstance) (fun hHeld => ?_)
            try simp only [Act.put, List.setIfInBounds_toArray, List.set_cons_zero, List.set_cons_succ]
            refine wpAnyH_ready (rs := [7]) (by kernel_rfl) (by simp) (AllReadyH.cons rfl (fun K hK => ?_) AllReadyH.nil)
            refine wp_app_NG (w0 := w) (base := w.heap.size) _ _ 79 rfl Tryz.underlying79 infoInt rfl (by exact ownsRow_later hown1 (inferInstance : Later w11 _)) inferInstance (Nat.le_refl _) (Later.size (w := w) inferInstance) rfl (ints_lit1 (t := 3) (by first | exact h6 | exact heap_new (by simp)) hr64) (by omega) ?_; intro v2 w12 hown2 hX2' hG2
            refine hK.out _ _ (by exact inferInstance) (fun hHeld => ?_)
            try simp only [Act.put, List.setIfInBounds_toArray, List.set_cons_zero, List.set_cons_succ]
            refine wpAnyH_ready (rs := [11]) (by kernel_rfl) (by simp) (AllReadyH.cons rfl (fun K hK => ?_) AllReadyH.nil)
            refine wp_app_NG (w0 := w) (base := w.heap.size) _ _ 79 rfl Tryz.underlying79 infoInt rfl (by exact ownsRow_later hown2 (inferInstance : Later w12 _)) inferInstance (Nat.le_refl _) (Later.size (w := w) inferInstance) rfl (by first | exact HIB2.out.later inferInstance | exact HIB3.out.later inferInstance | exact HIB4.out.later inferInstance) (by omega) ?_; intro v3 w13 hown3 hX3 hG3
            refine hK.out _ _ (by exact inferInstance) (fun hHeld => ?_)
            try simp only [Act.put, List.setIfInBounds_toArray, List.set_cons_zero, List.set_cons_succ]
            refine wpAnyH_take (i := 12) (v := ?_) (by simp only [List.getElem?_toArray, List.getElem?_cons_succ, List.getElem?_cons_zero] <;> rfl) (by kernel_rfl) (by kernel_rfl) (by kernel_rfl) (by exact fun _ _ _ h => h) (Or.inl ⟨by kernel_rfl, ?_⟩) (by assumption) ?_
            rotate_left
            · intro w' hSw; (try dsimp only at hSw); go_simp; try with_reducible rfl
            try simp only [Act.put, List.setIfInBounds_toArray, List.set_cons_zero, List.set_cons_succ]
            refine wpAnyH_done (by kernel_rfl) ?_ _
        case' r5x1_2_3_5_8_9_10_6 =>
          go_simp
          skip
          refine hK.out _ _ (by exact inferInstance) (fun hHeld => ?_)
          try simp only [Act.put, List.setIfInBounds_toArray, List.set_cons_zero, List.set_cons_succ]
          refine wpAnyH_ready (rs := [0]) (by kernel_rfl) (by simp) (AllReadyH.cons rfl (fun K hK => ?_) AllReadyH.nil)
          go_simp
          skip
          refine hK.out _ _ (by exact inferInstance) (fun hHeld => ?_)
          try simp only [Act.put, List.setIfInBounds_toArray, List.set_cons_zero, List.set_cons_succ]
          refine wpAnyH_ready (rs := [4]) (by kernel_rfl) (by simp) (AllReadyH.cons rfl (fun K hK => ?_) AllReadyH.nil)
          refine wp_app_NG (w0 := w) (base := w.heap.size) _ _ 79 rfl Tryz.underlying79 infoInt rfl (v := .slice (some ⟨_, 0, none⟩) 0 0) (own_lit0 (by first | exact heap_new (by simp) | exact (heap_old (by simp)).trans (heap_new (by simp))) (by first | exact h49 | (simp; omega) | omega)) inferInstance (Nat.le_refl _) (Later.size (w := w) inferInstance) rfl (HIF.out.later inferInstance) (by omega) ?_; intro v1 w11 hown1 hX1 hG1; (first | (have h6 : Blk w11 (wr.heap.size + 1) 3 #[.int .i64 v] := grown_blk hG1 (by exact heap_new (by simp)) (fun k hk => by simp [Value.ownBlock] at hk; omega)) | (have h6 : Blk w11 wr.heap.size 3 #[.int .i64 v] := grown_blk hG1 (by exact (heap_old (by simp)).trans (heap_new (by simp))) (fun k hk => by simp [Value.ownBlock] at hk; omega)) | skip)
          refine hK.out _ _ (by exact inferInstance) (fun hHeld => ?_)
          try simp only [Act.put, List.setIfInBounds_toArray, List.set_cons_zero, List.set_cons_succ]
          refine wpAnyH_ready (rs := [7]) (by kernel_rfl) (by simp) (AllReadyH.cons rfl (fun K hK => ?_) AllReadyH.nil)
          refine wp_app_NG (w0 := w) (base := w.heap.size) _ _ 79 rfl Tryz.underlying79 infoInt rfl (by exact ownsRow_later hown1 (inferInstance : Later w11 _)) inferInstance (Nat.le_refl _) (Later.size (w := w) inferInstance) rfl (ints_lit1 (t := 3) (by first | exact h6 | exact heap_new (by simp)) hr64) (by omega) ?_; intro v2 w12 hown2 hX2' hG2
          refine hK.out _ _ (by exact inferInstance) (fun hHeld => ?_)
          try simp only [Act.put, List.setIfInBounds_toArray, List.set_cons_zero, List.set_cons_succ]
          refine wpAnyH_ready (rs := [11]) (by kernel_rfl) (by simp) (AllReadyH.cons rfl (fun K hK => ?_) AllReadyH.nil)
          refine wp_app_NG (w0 := w) (base := w.heap.size) _ _ 79 rfl Tryz.underlying79 infoInt rfl (by exact ownsRow_later hown2 (inferInstance : Later w12 _)) inferInstance (Nat.le_refl _) (Later.size (w := w) inferInstance) rfl (by first | exact HIB2.out.later inferInstance | exact HIB3.out.later inferInstance | exact HIB4.out.later inferInstance) (by omega) ?_; intro v3 w13 hown3 hX3 hG3
          refine hK.out _ _ (by exact inferInstance) (fun hHeld => ?_)
          try simp only [Act.put, List.setIfInBounds_toArray, List.set_cons_zero, List.set_cons_succ]
          refine wpAnyH_take (i := 12) (v := ?_) (by simp only [List.getElem?_toArray, List.getElem?_cons_succ, List.getElem?_cons_zero] <;> rfl) (by kernel_rfl) (by kernel_rfl) (by kernel_rfl) (by exact fun _ _ _ h => h) (Or.inl ⟨by kernel_rfl, ?_⟩) (by assumption) ?_
          rotate_left
          · intro w' hSw; (try dsimp only at hSw); go_simp; try with_reducible rfl
          try simp only [Act.put, List.setIfInBounds_toArray, List.set_cons_zero, List.set_cons_succ]
          refine wpAnyH_done (by kernel_rfl) ?_ _
        all_goals
          obtain ⟨g3, c3, rfl⟩ := own_someS hown3 (by omega)
          obtain ⟨A9, c9, fp9, hov9, ho9, _, _⟩ := OSl.ints_of_own (l := putI l v) (n := (putI l v).length) (own_eqS hown3 (by have := HLN.out; rw [HIN.out]; simp; omega) (by rw [HIN.out]; simp)) (fun y hy => by
            rcases (putI_mem l v y).1 hy with rfl | h
            · exact hr64
            · exact HBD.out y h)
          have h9 : Ints w13 A9 (putI l v).length c9 (putI l v) := ho9.reads
          have HH9 := Lib.hid h9
          have HOV := Lib.hid hov9
          clear hown1 hown2 hown3 hG1 hG2 hG3 ho9 h9 hov9
          go_wp2_with fail
          go_ret
          refine ⟨g3, 0, m + 1 + (n - m), c3, by simp <;> omega, ?_, inferInstance⟩
          have h1 := HOV.out
          simp only [Value.slice.injEq] at h1
          obtain ⟨e1, e2, e3⟩ := h1
          subst e1 e3
          exact ⟨by have := HH9.out.len; omega, by have := HH9.out.cap; omega, HH9.out.max, HH9.out.el⟩
set_option maxHeartbeats 2000000 in
theorem spec_l2Back {w0 w : World} {A : Option Addr} {n c : Nat} {l : List Int} (h : Ints w0 A n c l) (hl : Later w0 w) (hn : n ≤ 100) :
    Calls Tryz.prog 76 #[.slice A n c] w (RetO 1 oInt l.reverse w) := by
  have hI := h.later hl
  have HI := Lib.hid hI
  have HLN := Lib.hid hI.len
  have hwn : IntKind.i64.wrap ((n : Int) - 1) = (n : Int) - 1 := by rw [IntKind.wrap_i64]; omega
  clear h hI
  go_enter Tryz.func76, Tryz.ntmps76
  go_wp2_with fail
  clear hwn
  go_loopw [3, 4] (fun ov i wr => ∃ m : Nat, m ≤ n ∧ i = .int .i64 ((m : Int) - 1) ∧ Hid (wr.ownsRow w.heap.size 3 1 ov (n - m) ((l.drop m).reverse.map (Value.int .i64))) ∧ Later w wr) (fun _ i _ => (intOf i + 1).toNat)
  case atStart => exact ⟨n, by omega, by first | rfl | simp, Lib.hid (by rw [List.drop_eq_nil_of_le (by have := HLN.out; omega), Nat.sub_self]; simpa using World.ownsRow_lit (base := w.heap.size) (e := 3) (size := 1) w #[] 0 (by simp) (by simp [maxLen]) rfl), inferInstance⟩
  case round =>
    obtain ⟨m, hm, rfl, hown, hX⟩ := hrel
    have hsz := hX.size
    by_cases hm0 : m = 0
    · subst hm0
      have hc1 : ¬ (0 : Int) ≤ ((0 : Nat) : Int) - 1 := by omega
      go_wp2
      go_ret
      have h1 := hown.out
      rw [List.drop_zero, Nat.sub_zero] at h1
      obtain ⟨A9, c9, fp9, rfl, ho9, hnd9, hlo9⟩ := OSl.ints_of_own (l := l.reverse) h1 (fun y hy => by
        obtain ⟨j, hj⟩ := List.getElem?_of_mem (List.mem_reverse.1 hy)
        obtain ⟨_, _, es, _, _, _, hr⟩ := HI.out.el j y hj
        exact hr.2)
      exact ⟨A9, _, c9, fp9, rfl, ho9, hnd9, hlo9, inferInstance⟩
    · obtain ⟨j, rfl⟩ : ∃ j, m = j + 1 := ⟨m - 1, by omega⟩
      have hj : j < n := by omega
      obtain ⟨b1, o1, y, rfl, hy, hcy, _⟩ := Ints.at_ HI.out hj
      have hwk : ((j + 1 : Nat) : Int) - 1 = (j : Int) := by omega
      have HD : Hid ((l.drop j).reverse.map (Value.int .i64) = (l.drop (j + 1)).reverse.map (Value.int .i64) ++ [.int .i64 y]) := by show _ = _; rw [drop_at hy.out]; simp
      have hjt : (j : Int) < n := by omega
      have hj0 : (0 : Int) ≤ j := by omega
      have hwj : IntKind.i64.wrap ((j : Int) - 1) = (j : Int) - 1 := by rw [IntKind.wrap_i64]; omega
      rw [hwk]
      clear hy hm0 hwk
      go_wp2_with (at_builtin; refine wpList_app_B rfl _ _ 79 rfl Tryz.underlying79 infoInt rfl (by decide) (by decide) rfl (by exact hown.out) (inferInstance : Later w wr) (Nat.le_refl _) hsz rfl rfl (one_cell _ _) (by omega) ?_; intro v' w4 hown' hX')
      go_roundw
      case rel => exact ⟨j, by omega, by go_num, by show World.ownsRow _ _ _ _ _ _ _; rw [HD.out, show n - j = n - (j + 1) + 1 by omega]; exact hown', inferInstance⟩
      case measure => simp [intOf] <;> omega
theorem putGo_at {t : Timetable} {from_ : Int} {k : Nat} {x : Trip} {acc : List Int} (h : t.Trips[k]? = some x) : putGo t from_ (t.Trips.drop k) acc = putGo t from_ (t.Trips.drop (k + 1)) (if 0 ≤ placeT t x from_ then putI acc (timeAt t x (placeT t x from_).toNat) else acc) := by
  rw [drop_at h]; rfl
theorem putI_len (l : List Int) (v : Int) : (putI l v).length ≤ l.length + 1 := by
  induction l with
  | nil => simp [putI]
  | cons x l ih =>
    simp only [putI]
    split
    · simp; omega
    · split <;> simp
set_option maxHeartbeats 4000000 in
theorem spec_l8Departures {w0 w : World} {sA0 : Option Addr} {sn0 sc0 : Nat} {sA1 : Option Addr} {sn1 sc1 : Nat} {sA2 : Option Addr} {sn2 sc2 : Nat} {t : Timetable} (h : TimetableAt w0 sA0 sn0 sc0 sA1 sn1 sc1 sA2 sn2 sc2 t) (hl : Later w0 w) (tf : TimeFacts t) (from_ : Int) :
    Calls Tryz.prog 54 #[.agg #[.slice sA0 sn0 sc0, .slice sA1 sn1 sc1, .slice sA2 sn2 sc2], .int .i64 from_] w (RetO 1 oInt (depsS t from_).reverse w) := by
  have hT := h.l_Trips.later hl
  have hn2 := hT.le
  have Hl := Lib.hid hT.len
  have NF := Lib.hid tf.net
  have TF := Lib.hid tf
  have h12 : sn2 ≤ 12 := by have := tf.len; rw [hT.len]; omega
  clear tf
  have HB0 : ∀ W [Later (w.alloc (.cells #[.slice sA0 sn0 sc0, .slice sA1 sn1 sc1, .slice sA2 sn2 sc2] 39)) W] (j : Nat), W.cell? ⟨w.heap.size, j, none⟩ = #[.slice sA0 sn0 sc0, .slice sA1 sn1 sc1, .slice sA2 sn2 sc2][j]? := Later.boxes (t := 39) (fr := (0, 0)) (heap_new (by simp; try omega)); obtain ⟨wb, hwb⟩ : ∃ wb : World, wb = (w.alloc (.cells #[.slice sA0 sn0 sc0, .slice sA1 sn1 sc1, .slice sA2 sn2 sc2] 39)) := ⟨_, rfl⟩; haveI hbW : Later wb (w.alloc (.cells #[.slice sA0 sn0 sc0, .slice sA1 sn1 sc1, .slice sA2 sn2 sc2] 39)) := (by rw [hwb]; exact Later.rfl_); haveI hww : Later w wb := (by rw [hwb]; infer_instance); rw [← hwb] at HB0; have hbE := Lib.hid (congrArg (fun x : World => x.heap.size) hwb); clear hwb
  have hwb0 := hl.trans hww
  have H := Lib.hid h
  clear h
  replace hT := hT.later hww
  go_enter Tryz.func54, Tryz.ntmps54
  go_wp2_with fail
  go_loopw [5, 6] (fun ov i wr => ∃ (k g o c : Nat) (acc : List Int), k ≤ sn2 ∧ i = .int .i64 k ∧ acc.length ≤ k ∧ ov = .slice (some ⟨g, o, none⟩) acc.length c ∧ Hid (putGo t from_ (t.Trips.drop k) acc = depsS t from_) ∧ Hid (∀ y, y ∈ acc → I64 y) ∧ Hid (Ints wr (some ⟨g, o, none⟩) acc.length c acc) ∧ Later wb wr) (fun _ i _ => sn2 - (intOf i).toNat)
  case atStart => exact ⟨0, _, 0, 0, [], by omega, rfl, by simp, rfl, rfl, fun y hy => by simp at hy, ⟨rfl, Nat.le_refl _, by omega, fun j x hx => by simp at hx⟩, inferInstance⟩
  case round =>
    obtain ⟨k, g, o, c, acc, hk, rfl, hal, rfl, HF, HBD, HI, hX⟩ := hrel
    by_cases hlt : k < sn2
    · obtain ⟨b, o', x, hA, hx, _, _, _, _⟩ := Trips.at_ hT hlt
      have HF1 := HF.out
      rw [putGo_at hx.out] at HF1
      have TI := Lib.hid (TF.out.trip k x hx.out).in_
      have HXI : Hid (tripI t (k : Int) = x) := tripI_of hx.out
      have TIK : Hid (TripIn t (tripI t (k : Int))) := by show TripIn t _; rw [HXI.out]; exact TI.out
      have HK : Hid (0 ≤ (k : Int) ∧ (k : Int) < t.Trips.length) := ⟨by omega, by have := Hl.out; omega⟩
      have lf := Lib.hid (lineAtT_facts NF.out TI.out.line0 TI.out.line1)
      have HLI : Hid (lineI t (k : Int) = lineAtT t x.Line) := by show _ = _; unfold lineI; rw [HXI.out]
      obtain ⟨p, hp⟩ : ∃ p, idx (intIs from_) (lineI t (k : Int)).Stops = p := ⟨_, rfl⟩
      have HP0 := Lib.hid hp
      have hpp : placeT t x from_ = p := by unfold placeT; rw [← HLI.out]; exact hp
      rw [hpp] at HF1
      have hpb := idx_bd (intIs from_) (lineI t (k : Int)).Stops
      rw [hp] at hpb
      have hx9 := stopsIn TF.out x (List.mem_of_getElem? hx.out)
      have HX9 := Lib.hid hx9
      have HPP := Lib.hid hpp
      clear HF hx hp hpp hx9
      subst hA
      by_cases c0 : 0 ≤ p
      · rw [if_pos c0] at HF1
        obtain ⟨m, rfl⟩ := Int.eq_ofNat_of_zero_le c0
        obtain ⟨d, hd⟩ : ∃ d, timeAt t x m = d := ⟨_, rfl⟩
        have HTI : Hid (timeI t (k : Int) (m : Int) = d) := by show _ = _; rw [← hd]; unfold timeI; rw [HXI.out]; rfl
        rw [show (((m : Nat) : Int)).toNat = m from rfl, hd] at HF1
        have HF2 := Lib.hid HF1
        have hd64 : I64 d := by
          have := HX9.out _ (List.mem_of_getElem? (place_at (t := t) (x := x) (s := from_) (by rw [HPP.out]; omega)))
          simp only at this
          rw [HPP.out] at this
          simp only [Int.toNat_natCast] at this
          rw [hd] at this
          unfold I64; omega
        have HBD2 : Hid (∀ y, y ∈ putI acc d → I64 y) := fun y hy => by
          rcases (putI_mem acc d y).1 hy with rfl | h1
          · exact hd64
          · exact HBD.out y h1
        have HMR : Hid (0 ≤ (m : Int) ∧ (m : Int) ≤ (lineI t (k : Int)).Runs.length) := ⟨by omega, by have := lf.out.runs; rw [HLI.out] at *; omega⟩
        have HPL := Lib.hid (putI_len acc d)
        clear HF1 hd hpb
        go_wp2_with first
          | (go_at_call 73; refine (spec_l5Line H.out (hwb0.trans inferInstance) _ HK.out.1 HK.out.2 TIK.out).mono ?_; rintro e w2 ⟨A0, n0, c0', A1, n1, c1, rfl, hy, L2⟩; have X2 := Later.trans (w := wb) inferInstance L2; have Y2 := Later.trans (w := wr) inferInstance L2; have HY := Lib.hid hy; clear hy)
          | (go_at_call 72; refine (spec_l2Place (r := lineI t (k : Int)) HY.out (hwb0.trans inferInstance) from_).mono ?_; rw [HP0.out]; rintro e w3 ⟨rfl, L3⟩; have X3 := Later.trans (w := wb) inferInstance L3; have Y3 := Later.trans (w := wr) inferInstance L3)
          | (go_at_call 75; refine (spec_l5At H.out (hwb0.trans inferInstance) NF.out _ HK.out.1 HK.out.2 TIK.out _ HMR.out.1 HMR.out.2).mono ?_; rw [HTI.out]; rintro e w5 ⟨rfl, L5⟩; have X5 := Later.trans (w := wb) inferInstance L5; have Y5 := Later.trans (w := wr) inferInstance L5)
          | (go_at_call 74; refine (spec_l1Put HI.out inferInstance (by omega) HBD.out d hd64).mono ?_; rintro e w6 ⟨g6, o6, n6, c6, rfl, hI6, L6⟩; have X6 := Later.trans (w := wb) inferInstance L6; have HI6 := Lib.hid hI6; obtain rfl : n6 = (putI acc d).length := hI6.len; clear hI6)
        go_roundw
        case rel => exact ⟨k + 1, g6, o6, c6, putI acc d, by omega, by go_num, by have := HPL.out; omega, rfl, HF2, HBD2, HI6, inferInstance⟩
        case measure => simp [intOf]; omega
      · rw [if_neg c0] at HF1
        have HF2 := Lib.hid HF1
        clear HF1
        go_wp2_with first
          | (go_at_call 73; refine (spec_l5Line H.out (hwb0.trans inferInstance) _ HK.out.1 HK.out.2 TIK.out).mono ?_; rintro e w2 ⟨A0, n0, c0', A1, n1, c1, rfl, hy, L2⟩; have X2 := Later.trans (w := wb) inferInstance L2; have Y2 := Later.trans (w := wr) inferInstance L2; have HY := Lib.hid hy; clear hy)
          | (go_at_call 72; refine (spec_l2Place (r := lineI t (k : Int)) HY.out (hwb0.trans inferInstance) from_).mono ?_; rw [HP0.out]; rintro e w3 ⟨rfl, L3⟩; have X3 := Later.trans (w := wb) inferInstance L3; have Y3 := Later.trans (w := wr) inferInstance L3)
        go_roundw
        case rel => exact ⟨k + 1, g, o, c, acc, by omega, by go_num, by omega, rfl, HF2, HBD, HI.out.later inferInstance, inferInstance⟩
        case measure => simp [intOf]; omega
    · have HE : Hid (acc = depsS t from_) := by
        have h3 := HF.out
        rw [List.drop_eq_nil_of_le (by have := Hl.out; omega)] at h3
        exact h3
      have hac : acc.length ≤ 12 := by omega
      clear HF
      go_wp2_with (go_at_call 76; refine (spec_l2Back HI.out inferInstance (by omega)).mono ?_; rintro e w7 ⟨A7, n7, c7, fp7, rfl, ho7, hnd7, hlo7, L7⟩; have X7 := Later.trans (w := wb) inferInstance L7)
      go_ret
      exact ⟨A7, n7, c7, fp7, rfl, by rw [← HE.out]; exact ho7, hnd7, fun g hg => by have := hlo7 g hg; have := Later.size (w := w) (hww.trans hX); omega, hww.trans inferInstance⟩
end Go.Proofs.YtbkeccpjcmhhjaaGreat
namespace Go.Proofs.YtbkeccpjcmhhjaaGreat
open Go Go.RowKit
set_option linter.unusedVariables false
set_option maxRecDepth 100000
set_option linter.unusedSimpArgs false
theorem nowGo_no {S : Nat → Int} {d : Int} {f m : Nat} {best : List Int} {now : List Choice} (h : ¬ (0 ≤ S m ∧ (best.getD m 0 < 0 ∨ S m < best.getD m 0))) : nowGo S d (f + 1) m best now = nowGo S d f (m + 1) best now := by
  simp only [nowGo]; rw [if_neg h]
theorem nowGo_yes {S : Nat → Int} {d : Int} {f m : Nat} {best : List Int} {now : List Choice} (h : 0 ≤ S m ∧ (best.getD m 0 < 0 ∨ S m < best.getD m 0)) : nowGo S d (f + 1) m best now = nowGo S d f (m + 1) (best.set m (S m)) (if now.length = 0 ∨ S m < lastArr now then now ++ [⟨d, S m, m⟩] else now) := by
  simp only [nowGo]; rw [if_pos h]
theorem lastArr_at {now : List Choice} {j : Nat} {x : Choice} (hl : now.length = j + 1) (hx : now[j]? = some x) : lastArr now = x.Arrive := by
  unfold lastArr
  have : now.getLast? = some x := by rw [List.getLast?_eq_getElem?, hl]; exact hx
  rw [List.getLastD_eq_getLast?, this]; rfl
set_option maxHeartbeats 16000000 in
theorem spec_l9Profile {w0 w : World} {sA0 : Option Addr} {sn0 sc0 : Nat} {sA1 : Option Addr} {sn1 sc1 : Nat} {sA2 : Option Addr} {sn2 sc2 : Nat} {t : Timetable} (h : TimetableAt w0 sA0 sn0 sc0 sA1 sn1 sc1 sA2 sn2 sc2 t) (hl : Later w0 w) (change from_ to : Int) (pf : PairFacts t change from_ to) :
    Calls Tryz.prog 30 #[.agg #[.slice sA0 sn0 sc0, .slice sA1 sn1 sc1, .slice sA2 sn2 sc2], .int .i64 change, .int .i64 from_, .int .i64 to] w (RetO 3 oChoice (profS t change from_ to) w) := by
  have Hl : Hid (sn0 = t.Network.Stops.length) := h.l_Network_Stops.len
  have hn8 : sn0 ≤ 8 := by have := pf.time.net.stops; rw [Hl.out]; omega
  have PF := Lib.hid pf
  obtain ⟨q, rfl⟩ := Int.eq_ofNat_of_zero_le pf.to_.1
  have hq : q < sn0 := by have := pf.to_.2; rw [Hl.out]; omega
  have hqi : (q : Int) < sn0 := by omega
  obtain ⟨L, hL⟩ : ∃ L, (depsS t from_).reverse = L := ⟨_, rfl⟩
  have HL := Lib.hid hL
  have HD12 : Hid (L.length ≤ 12) := by
    show _ ≤ _
    rw [← hL, List.length_reverse]
    have key : ∀ (l : List Trip) (out : List Int), (putGo t from_ l out).length ≤ out.length + l.length := by
      intro l
      induction l with
      | nil => intro out; simp [putGo]
      | cons x l ih =>
        intro out
        simp only [putGo, List.length_cons]
        by_cases c9 : 0 ≤ placeT t x from_
        · rw [if_pos c9]
          have := ih (putI out (timeAt t x (placeT t x from_).toNat))
          have h2 := putI_len out (timeAt t x (placeT t x from_).toNat)
          omega
        · rw [if_neg c9]
          have := ih out
          omega
    have := key t.Trips []
    have := pf.time.len
    unfold depsS
    simp at *
    omega
  have HDB : Hid (∀ v, v ∈ L → 0 ≤ v ∧ v ≤ 2099) := fun v hv => deps_bd pf.time (from_ := from_) (by rw [← hL] at hv; exact List.mem_reverse.1 hv)
  have HPS : Hid (profS t change from_ q = profGo (fun d m => gi (arrS t change from_ d m) q) L best0 []) := by show _ = _; unfold profS; rw [hL]
  rw [HPS.out]
  clear pf hL
  have HB0 : ∀ W [Later (w.alloc (.cells #[.slice sA0 sn0 sc0, .slice sA1 sn1 sc1, .slice sA2 sn2 sc2] 39)) W] (j : Nat), W.cell? ⟨w.heap.size, j, none⟩ = #[.slice sA0 sn0 sc0, .slice sA1 sn1 sc1, .slice sA2 sn2 sc2][j]? := Later.boxes (t := 39) (fr := (0, 0)) (heap_new (by simp; try omega)); obtain ⟨wb, hwb⟩ : ∃ wb : World, wb = (w.alloc (.cells #[.slice sA0 sn0 sc0, .slice sA1 sn1 sc1, .slice sA2 sn2 sc2] 39)) := ⟨_, rfl⟩; haveI hbW : Later wb (w.alloc (.cells #[.slice sA0 sn0 sc0, .slice sA1 sn1 sc1, .slice sA2 sn2 sc2] 39)) := (by rw [hwb]; exact Later.rfl_); haveI hww : Later w wb := (by rw [hwb]; infer_instance); rw [← hwb] at HB0; have hbE := Lib.hid (congrArg (fun x : World => x.heap.size) hwb); clear hwb
  have hwb0 := hl.trans hww
  have H := Lib.hid h
  clear h
  have hbs : wb.heap.size ≤ w.heap.size + 1 := by have := hbE.out; simp at this; omega
  have hbs2 : w.heap.size + 1 ≤ wb.heap.size := by have := hbE.out; simp at this; omega
  go_enter Tryz.func30, Tryz.ntmps30
  go_wp2_with (go_at_call 54; refine (spec_l8Departures H.out (hwb0.trans inferInstance) PF.out.time from_).mono ?_; rw [HL.out]; rintro e w3 ⟨A3, n3, c3, f3, rfl, ho3, hnd3, hlo3, L3⟩; have X3 := Later.trans (w := wb) inferInstance L3; have h3 : Ints w3 A3 n3 c3 L := ho3.reads; have H3 := Lib.hid h3; have hn3 : n3 ≤ 12 := (by rw [h3.len]; exact HD12.out); have hs3 := L3.size; clear h3 ho3 hnd3 hlo3)
  have HL3 := Lib.hid H3.out.len
  have hs3' : w.heap.size + 2 ≤ w3.heap.size := by simp at hs3; omega
  haveI hN3 : New w3 w3.heap.size := ⟨Nat.le_refl _⟩
  haveI hNb : New wb w3.heap.size := ⟨Later.size (w := wb) inferInstance⟩
  go_loopw [9, 12] (fun ov i wr => ∃ (k : Nat) (best : List Int) (out : List Choice) (A : Option Addr) (c : Nat), k ≤ n3 ∧ i = .int .i64 k ∧ ov = .slice A out.length c ∧ out.length ≤ 4 * k ∧ Hid (best.length = 5) ∧ Hid (profGo (fun d m => gi (arrS t change from_ d m) q) (L.drop k) best out = profGo (fun d m => gi (arrS t change from_ d m) q) L best0 []) ∧ Hid (∀ y, y ∈ out → ChoiceOk y) ∧ Hid (wr.ownsRow (w.heap.size + 1) 56 3 (.slice A out.length c) out.length (out.flatMap encCh)) ∧ Hid (∀ k, (Value.slice A out.length c).ownBlock = some k → k ≠ w3.heap.size) ∧ Blk wr w3.heap.size 3 (rowA best) ∧ Later wb wr ∧ Later w3 wr) (fun _ i _ => n3 - (intOf i).toNat)
  case atStart => exact ⟨0, best0, [], _, _, by omega, rfl, rfl, by simp, rfl, by show _ = _; rw [List.drop_zero], fun y hy => by simp at hy, Lib.hid (ownsRow_later (by simpa using World.ownsRow_lit (base := w.heap.size + 1) (e := 56) (size := 3) (w.alloc (.cells #[.slice sA0 sn0 sc0, .slice sA1 sn1 sc1, .slice sA2 sn2 sc2] 39)) #[] 0 (by simp; try omega) (by simp [maxLen]) rfl) (inferInstance : Later ((w.alloc (.cells #[.slice sA0 sn0 sc0, .slice sA1 sn1 sc1, .slice sA2 sn2 sc2] 39)).alloc (.cells #[] 56)) _)), fun k hk => by simp [Value.ownBlock] at hk; omega, by exact heap_new rfl, inferInstance, inferInstance⟩
  case round =>
    obtain ⟨k, best, out, A, c, hk, rfl, rfl, hol, HB5, HF, HOK, hout, HOB, hB, hX, hX3⟩ := hrel
    obtain ⟨w6, rfl⟩ : ∃ w6 : World, w6 = wr := ⟨_, rfl⟩
    have h36 := hX3.size
    have HB6 := Lib.hid hB.lt
    have HO6 : Hid (∀ k, (Value.slice A out.length c).ownBlock = some k → k < w6.heap.size) := fun k hk => (hout.out.lt k hk).2
    by_cases hlt : k < n3
    · obtain ⟨b, o, d, hA, hd, hcd, _⟩ := Ints.at_ H3.out hlt
      have HF1 := HF.out
      rw [drop_at hd.out] at HF1
      simp only [profGo] at HF1
      have hdb := HDB.out d (List.mem_of_getElem? hd.out)
      have hd0 := hdb.1
      have hd1 := hdb.2
      have hkt : (k : Int) < n3 := by omega
      have HF2 := Lib.hid HF1
      subst hA
      clear HF HF1 hd hdb
      obtain ⟨Sd, hSd⟩ : ∃ S : Nat → Int, S = fun m => gi (arrS t change from_ d m) q := ⟨_, rfl⟩
      rw [show (fun m => gi (arrS t change from_ d m) (q : Int)) = Sd from hSd.symm] at HF2
      have HSD := Lib.hid hSd
      clear hSd
      go_wp2_with fail
      go_loopw [13, 14] (fun nv i wr => ∃ (m : Nat) (bl : List Int) (now : List Choice) (A' : Option Addr) (c' : Nat), 1 ≤ m ∧ m ≤ 5 ∧ i = .int .i64 m ∧ nv = .slice A' now.length c' ∧ now.length ≤ m - 1 ∧ Hid (bl.length = 5) ∧ Hid (nowGo Sd d (5 - m) m bl now = nowGo Sd d 4 1 best []) ∧ Hid (∀ y, y ∈ now → ChoiceOk y) ∧ Hid (wr.ownsRow w6.heap.size 56 3 (.slice A' now.length c') now.length (now.flatMap encCh)) ∧ Hid (wr.ownsRow (w.heap.size + 1) 56 3 (.slice A out.length c) out.length (out.flatMap encCh)) ∧ Blk wr w3.heap.size 3 (rowA bl) ∧ w6.heap.size ≤ wr.heap.size ∧ Later wb wr ∧ Later w3 wr) (fun _ i _ => 5 - (intOf i).toNat)
      case atStart => exact ⟨1, best, [], _, _, by omega, by omega, rfl, rfl, by simp, HB5, by show _ = _; rfl, fun y hy => by simp at hy, Lib.hid (by simpa using World.ownsRow_lit (base := w6.heap.size) (e := 56) (size := 3) w6 #[] 0 (by simp) (by simp [maxLen]) rfl), hout.out.alloc _, hB.alloc _, by simp, inferInstance, inferInstance⟩
      case round =>
        obtain ⟨m, bl, now, A', c', hm1, hm5, rfl, rfl, hnl, HBL, HG, HOKN, hown, hout, hB, h6s, hX, hX3⟩ := hrel
        have h6r := Lib.hid h6s
        by_cases hlm : m < 5
        · obtain ⟨v, hv⟩ : ∃ v, Sd m = v := ⟨_, rfl⟩
          have hvb : -1 ≤ v ∧ v ≤ 2099 := by
            have hs := arrS_inv PF.out.time PF.out.ch.1 PF.out.fr.1 PF.out.fr.2 hd0 hd1 m (change := change)
            have := hs.rng (q : Int) (by omega) (by have := Hl.out; omega)
            rw [← hv, HSD.out]; exact this
          have hv1 := hvb.1
          have hv2 := hvb.2
          have hm100 : m ≤ 100 := by omega
          have hm4 : (m : Int) ≤ 4 := by omega
          have HAT : Hid ((arrS t change from_ d m)[q]? = some v) := by
            have hs := arrS_inv PF.out.time PF.out.ch.1 PF.out.fr.1 PF.out.fr.2 hd0 hd1 m (change := change)
            have hq2 : q < (arrS t change from_ d m).length := by rw [hs.len, ← Hl.out]; exact hq
            show _ = _
            rw [← hv, HSD.out]
            show _ = some ((arrS t change from_ d m).getD ((q : Int)).toNat 0)
            rw [List.getD_eq_getElem?_getD, Int.toNat_natCast, List.getElem?_eq_getElem hq2]; rfl
          obtain ⟨bm, hbm⟩ : ∃ x, bl[m]? = some x := ⟨_, List.getElem?_eq_getElem (by have := HBL.out; omega)⟩
          have hgb : bl.getD m 0 = bm := by rw [List.getD_eq_getElem?_getD, hbm]; rfl
          have HBM := Lib.hid hbm
          have hcm := hB.rowAts hbm
          have hfm : ∀ W [Later wr W], W.frozen? ⟨w3.heap.size, m, none⟩ = false := fun W hW => (hB.later hW).frozen m
          have HF1 := HG.out
          rw [show 5 - m = (5 - (m + 1)) + 1 by omega] at HF1
          have hm5i : (m : Int) < 5 := by omega
          clear HG hvb hbm
          by_cases cv : 0 ≤ v
          rotate_left
          · rw [nowGo_no (S := Sd) (d := d) (f := 5 - (m + 1)) (m := m) (best := bl) (now := now) (by rw [hgb, hv]; exact (fun e => cv e.1))] at HF1
            have HF3 := Lib.hid HF1
            clear HF1 hgb
            go_wp2_with fail
            refine wp_region_held_drew (S := (fun w' => Later wb w' ∧ Later w3 w' ∧ Later wr w')) (by kernel_rfl) (by exact ⟨inferInstance, inferInstance, inferInstance⟩) (fun hHeld => ?_)
            refine wpAnyH_take (i := 0) (v := ?_) (by simp only [List.getElem?_toArray, List.getElem?_cons_zero] <;> rfl) (by kernel_rfl) (by kernel_rfl) (by kernel_rfl) (by exact fun _ _ _ h => h) (Or.inl ⟨by kernel_rfl, ?_⟩) (by assumption) ?_
            rotate_left
            · intro w' hSw; (try dsimp only at hSw); go_simp; try with_reducible rfl
            try simp only [Act.put, List.setIfInBounds_toArray, List.set_cons_zero, List.set_cons_succ]
            refine wpAnyH_take (i := 1) (v := ?_) (by simp only [List.getElem?_toArray, List.getElem?_cons_succ, List.getElem?_cons_zero] <;> rfl) (by kernel_rfl) (by kernel_rfl) (by kernel_rfl) (by exact fun _ _ _ h => h) (Or.inl ⟨by kernel_rfl, ?_⟩) (by assumption) ?_
            rotate_left
            · intro w' hSw; (try dsimp only at hSw); go_simp; try with_reducible rfl
            try simp only [Act.put, List.setIfInBounds_toArray, List.set_cons_zero, List.set_cons_succ]
            refine wpAnyH_take (i := 2) (v := ?_) (by simp only [List.getElem?_toArray, List.getElem?_cons_succ, List.getElem?_cons_zero] <;> rfl) (by kernel_rfl) (by kernel_rfl) (by kernel_rfl) (by exact fun _ _ _ h => h) (Or.inl ⟨by kernel_rfl, ?_⟩) (by assumption) ?_
            rotate_left
            · intro w' hSw; (try dsimp only at hSw); go_simp; try with_reducible rfl
            try simp only [Act.put, List.setIfInBounds_toArray, List.set_cons_zero, List.set_cons_succ]
            refine wpAnyH_take (i := 3) (v := ?_) (by simp only [List.getElem?_toArray, List.getElem?_cons_succ, List.getElem?_cons_zero] <;> rfl) (by kernel_rfl) (by kernel_rfl) (by kernel_rfl) (by exact fun _ _ _ h => h) (Or.inl ⟨by kernel_rfl, ?_⟩) (by assumption) ?_
            rotate_left
            · intro w' hSw; (try dsimp only at hSw); go_simp; try with_reducible rfl
            try simp only [Act.put, List.setIfInBounds_toArray, List.set_cons_zero, List.set_cons_succ]
            refine wpAnyH_take (i := 4) (v := ?_) (by simp only [List.getElem?_toArray, List.getElem?_cons_succ, List.getElem?_cons_zero] <;> rfl) (by kernel_rfl) (by kernel_rfl) (by kernel_rfl) (by exact fun _ _ _ h => h) (Or.inl ⟨by kernel_rfl, ?_⟩) (by assumption) ?_
            rotate_left
            · intro w' hSw; (try dsimp only at hSw); go_simp; try with_reducible rfl
            try simp only [Act.put, List.setIfInBounds_toArray, List.set_cons_zero, List.set_cons_succ]
            refine wpAnyH_take (i := 5) (v := ?_) (by simp only [List.getElem?_toArray, List.getElem?_cons_succ, List.getElem?_cons_zero] <;> rfl) (by kernel_rfl) (by kernel_rfl) (by kernel_rfl) (by exact fun _ _ _ h => h) (Or.inl ⟨by kernel_rfl, ?_⟩) (by assumption) ?_
            rotate_left
            · intro w' hSw; (try dsimp only at hSw); go_simp; try with_reducible rfl
            try simp only [Act.put, List.setIfInBounds_toArray, List.set_cons_zero, List.set_cons_succ]
            refine wpAnyH_take (i := 6) (v := ?_) (by simp only [List.getElem?_toArray, List.getElem?_cons_succ, List.getElem?_cons_zero] <;> rfl) (by kernel_rfl) (by kernel_rfl) (by kernel_rfl) (by exact fun _ _ _ h => h) (Or.inl ⟨by kernel_rfl, ?_⟩) (by assumption) ?_
            rotate_left
            · intro w' hSw; (try dsimp only at hSw); go_simp; try with_reducible rfl
            try simp only [Act.put, List.setIfInBounds_toArray, List.set_cons_zero, List.set_cons_succ]
            refine wpAnyH_take (i := 7) (v := ?_) (by simp only [List.getElem?_toArray, List.getElem?_cons_succ, List.getElem?_cons_zero] <;> rfl) (by kernel_rfl) (by kernel_rfl) (by kernel_rfl) (by exact fun _ _ _ h => h) (Or.inl ⟨by kernel_rfl, ?_⟩) (by assumption) ?_
            rotate_left
            · intro w' hSw; (try dsimp only at hSw); go_simp; try with_reducible rfl
            try simp only [Act.put, List.setIfInBounds_toArray, List.set_cons_zero, List.set_cons_succ]
            refine wpAnyH_take (i := 9) (v := ?_) (by simp only [List.getElem?_toArray, List.getElem?_cons_succ, List.getElem?_cons_zero] <;> rfl) (by kernel_rfl) (by kernel_rfl) (by kernel_rfl) (by exact fun _ _ _ h => h) (Or.inl ⟨by kernel_rfl, ?_⟩) (by assumption) ?_
            rotate_left
            · intro w' hSw; (try dsimp only at hSw); go_simp; try with_reducible rfl
            try simp only [Act.put, List.setIfInBounds_toArray, List.set_cons_zero, List.set_cons_succ]
            refine wpAnyH_ready (rs := [8]) (by kernel_rfl) (by simp) (AllReadyH.cons rfl (fun K hK => ?_) AllReadyH.nil)
            go_simp
            (go_at_call 55; refine (spec_l8Arrivals H.out (hwb0.trans inferInstance) PF.out.time _ _ _ PF.out.ch.1 PF.out.ch.2 PF.out.fr.1 PF.out.fr.2 hd0 hd1 m hm100 _ rfl).mono ?_; rintro e w2 ⟨g2, o2, c2, rfl, hL2, hR2, hg2, L2⟩; have X2 := Later.trans (w := wb) inferInstance L2; have Y2 := Later.trans (w := wr) inferInstance L2; have U2 := Later.trans (w := w3) inferInstance L2; have hcc := hR2.cells HAT.out; clear hL2 hR2 hg2)
            refine hK.out _ _ (by exact ⟨inferInstance, inferInstance, inferInstance⟩) (fun hHeld => ?_)
            try simp only [Act.put, List.setIfInBounds_toArray, List.set_cons_zero, List.set_cons_succ]
            refine wpAnyH_take (i := 10) (v := ?_) (by simp only [List.getElem?_toArray, List.getElem?_cons_succ, List.getElem?_cons_zero] <;> rfl) (by kernel_rfl) (by kernel_rfl) (by kernel_rfl) (by exact fun _ _ _ h => h) (Or.inl ⟨by kernel_rfl, ?_⟩) (by assumption) ?_
            rotate_left
            · intro w' hSw; (try dsimp only at hSw); go_simp; try with_reducible rfl
            try simp only [Act.put, List.setIfInBounds_toArray, List.set_cons_zero, List.set_cons_succ]
            refine wpAnyH_ready (rs := [11]) (by kernel_rfl) (by simp) (AllReadyH.cons rfl (fun K hK => ?_) AllReadyH.nil)
            go_simp
            skip
            refine hK.out _ _ (by exact ⟨inferInstance, inferInstance, inferInstance⟩) (fun hHeld => ?_)
            try simp only [Act.put, List.setIfInBounds_toArray, List.set_cons_zero, List.set_cons_succ]
            refine wpAnyH_take (i := 12) (v := ?_) (by simp only [List.getElem?_toArray, List.getElem?_cons_succ, List.getElem?_cons_zero] <;> rfl) (by kernel_rfl) (by kernel_rfl) (by kernel_rfl) (by exact fun _ _ _ h => h) (Or.inl ⟨by kernel_rfl, ?_⟩) (by assumption) ?_
            rotate_left
            · intro w' hSw; (try dsimp only at hSw); go_simp; try with_reducible rfl
            try simp only [Act.put, List.setIfInBounds_toArray, List.set_cons_zero, List.set_cons_succ]
            refine wpAnyH_done (by kernel_rfl) ?_ _
            go_wp2_with fail
            go_roundw
            case rel => exact ⟨m + 1, bl, now, A', c', by omega, by omega, by go_num, rfl, by omega, HBL, HF3, HOKN, ownsRow_later hown.out (inferInstance : Later wr _), ownsRow_later hout.out (inferInstance : Later wr _), hB.later (inferInstance : Later wr _), Nat.le_trans h6r.out (Later.size (w := wr) inferInstance), inferInstance, inferInstance⟩
            case measure => simp [intOf]; omega
          by_cases cb : bm < 0
          · rw [nowGo_yes (S := Sd) (d := d) (f := 5 - (m + 1)) (m := m) (best := bl) (now := now) (by rw [hgb, hv]; exact (⟨cv, .inl cb⟩)), hv] at HF1
            by_cases hn0 : now.length = 0
            · rw [if_pos (Or.inl hn0)] at HF1
              have HF3 := Lib.hid HF1
              obtain rfl := List.length_eq_zero_iff.1 hn0
              clear HF1 hgb hn0
              have HOK2 : Hid (∀ y, y ∈ ([] : List Choice) ++ [(⟨d, v, (m : Int)⟩ : Choice)] → ChoiceOk y) := fun y hy => by
                rcases List.mem_append.1 hy with hy | hy
                · exact HOKN.out y hy
                · simp at hy; subst hy; exact ⟨by unfold I64; simp only; omega, by unfold I64; simp only; omega, by unfold I64; simp only; omega⟩
              have HLN : Hid ((([] : List Choice) ++ [(⟨d, v, (m : Int)⟩ : Choice)]).length ≤ m) := by show _ ≤ _; simp; omega
              go_wp2_with fail
              refine wp_region_held_drew (S := (fun w' => Later wb w' ∧ Later w3 w' ∧ Later wr w')) (by kernel_rfl) (by exact ⟨inferInstance, inferInstance, inferInstance⟩) (fun hHeld => ?_)
              refine wpAnyH_take (i := 0) (v := ?_) (by simp only [List.getElem?_toArray, List.getElem?_cons_zero] <;> rfl) (by kernel_rfl) (by kernel_rfl) (by kernel_rfl) (by exact fun _ _ _ h => h) (Or.inl ⟨by kernel_rfl, ?_⟩) (by assumption) ?_
              rotate_left
              · intro w' hSw; (try dsimp only at hSw); go_simp; try with_reducible rfl
              try simp only [Act.put, List.setIfInBounds_toArray, List.set_cons_zero, List.set_cons_succ]
              refine wpAnyH_take (i := 1) (v := ?_) (by simp only [List.getElem?_toArray, List.getElem?_cons_succ, List.getElem?_cons_zero] <;> rfl) (by kernel_rfl) (by kernel_rfl) (by kernel_rfl) (by exact fun _ _ _ h => h) (Or.inl ⟨by kernel_rfl, ?_⟩) (by assumption) ?_
              rotate_left
              · intro w' hSw; (try dsimp only at hSw); go_simp; try with_reducible rfl
              try simp only [Act.put, List.setIfInBounds_toArray, List.set_cons_zero, List.set_cons_succ]
              refine wpAnyH_take (i := 2) (v := ?_) (by simp only [List.getElem?_toArray, List.getElem?_cons_succ, List.getElem?_cons_zero] <;> rfl) (by kernel_rfl) (by kernel_rfl) (by kernel_rfl) (by exact fun _ _ _ h => h) (Or.inl ⟨by kernel_rfl, ?_⟩) (by assumption) ?_
              rotate_left
              · intro w' hSw; (try dsimp only at hSw); go_simp; try with_reducible rfl
              try simp only [Act.put, List.setIfInBounds_toArray, List.set_cons_zero, List.set_cons_succ]
              refine wpAnyH_take (i := 3) (v := ?_) (by simp only [List.getElem?_toArray, List.getElem?_cons_succ, List.getElem?_cons_zero] <;> rfl) (by kernel_rfl) (by kernel_rfl) (by kernel_rfl) (by exact fun _ _ _ h => h) (Or.inl ⟨by kernel_rfl, ?_⟩) (by assumption) ?_
              rotate_left
              · intro w' hSw; (try dsimp only at hSw); go_simp; try with_reducible rfl
              try simp only [Act.put, List.setIfInBounds_toArray, List.set_cons_zero, List.set_cons_succ]
              refine wpAnyH_take (i := 4) (v := ?_) (by simp only [List.getElem?_toArray, List.getElem?_cons_succ, List.getElem?_cons_zero] <;> rfl) (by kernel_rfl) (by kernel_rfl) (by kernel_rfl) (by exact fun _ _ _ h => h) (Or.inl ⟨by kernel_rfl, ?_⟩) (by assumption) ?_
              rotate_left
              · intro w' hSw; (try dsimp only at hSw); go_simp; try with_reducible rfl
              try simp only [Act.put, List.setIfInBounds_toArray, List.set_cons_zero, List.set_cons_succ]
              refine wpAnyH_take (i := 5) (v := ?_) (by simp only [List.getElem?_toArray, List.getElem?_cons_succ, List.getElem?_cons_zero] <;> rfl) (by kernel_rfl) (by kernel_rfl) (by kernel_rfl) (by exact fun _ _ _ h => h) (Or.inl ⟨by kernel_rfl, ?_⟩) (by assumption) ?_
              rotate_left
              · intro w' hSw; (try dsimp only at hSw); go_simp; try with_reducible rfl
              try simp only [Act.put, List.setIfInBounds_toArray, List.set_cons_zero, List.set_cons_succ]
              refine wpAnyH_take (i := 6) (v := ?_) (by simp only [List.getElem?_toArray, List.getElem?_cons_succ, List.getElem?_cons_zero] <;> rfl) (by kernel_rfl) (by kernel_rfl) (by kernel_rfl) (by exact fun _ _ _ h => h) (Or.inl ⟨by kernel_rfl, ?_⟩) (by assumption) ?_
              rotate_left
              · intro w' hSw; (try dsimp only at hSw); go_simp; try with_reducible rfl
              try simp only [Act.put, List.setIfInBounds_toArray, List.set_cons_zero, List.set_cons_succ]
              refine wpAnyH_take (i := 7) (v := ?_) (by simp only [List.getElem?_toArray, List.getElem?_cons_succ, List.getElem?_cons_zero] <;> rfl) (by kernel_rfl) (by kernel_rfl) (by kernel_rfl) (by exact fun _ _ _ h => h) (Or.inl ⟨by kernel_rfl, ?_⟩) (by assumption) ?_
              rotate_left
              · intro w' hSw; (try dsimp only at hSw); go_simp; try with_reducible rfl
              try simp only [Act.put, List.setIfInBounds_toArray, List.set_cons_zero, List.set_cons_succ]
              refine wpAnyH_take (i := 9) (v := ?_) (by simp only [List.getElem?_toArray, List.getElem?_cons_succ, List.getElem?_cons_zero] <;> rfl) (by kernel_rfl) (by kernel_rfl) (by kernel_rfl) (by exact fun _ _ _ h => h) (Or.inl ⟨by kernel_rfl, ?_⟩) (by assumption) ?_
              rotate_left
              · intro w' hSw; (try dsimp only at hSw); go_simp; try with_reducible rfl
              try simp only [Act.put, List.setIfInBounds_toArray, List.set_cons_zero, List.set_cons_succ]
              refine wpAnyH_ready (rs := [8]) (by kernel_rfl) (by simp) (AllReadyH.cons rfl (fun K hK => ?_) AllReadyH.nil)
              go_simp
              (go_at_call 55; refine (spec_l8Arrivals H.out (hwb0.trans inferInstance) PF.out.time _ _ _ PF.out.ch.1 PF.out.ch.2 PF.out.fr.1 PF.out.fr.2 hd0 hd1 m hm100 _ rfl).mono ?_; rintro e w2 ⟨g2, o2, c2, rfl, hL2, hR2, hg2, L2⟩; have X2 := Later.trans (w := wb) inferInstance L2; have Y2 := Later.trans (w := wr) inferInstance L2; have U2 := Later.trans (w := w3) inferInstance L2; have hcc := hR2.cells HAT.out; clear hL2 hR2 hg2)
              refine hK.out _ _ (by exact ⟨inferInstance, inferInstance, inferInstance⟩) (fun hHeld => ?_)
              try simp only [Act.put, List.setIfInBounds_toArray, List.set_cons_zero, List.set_cons_succ]
              refine wpAnyH_take (i := 10) (v := ?_) (by simp only [List.getElem?_toArray, List.getElem?_cons_succ, List.getElem?_cons_zero] <;> rfl) (by kernel_rfl) (by kernel_rfl) (by kernel_rfl) (by exact fun _ _ _ h => h) (Or.inl ⟨by kernel_rfl, ?_⟩) (by assumption) ?_
              rotate_left
              · intro w' hSw; (try dsimp only at hSw); go_simp; try with_reducible rfl
              try simp only [Act.put, List.setIfInBounds_toArray, List.set_cons_zero, List.set_cons_succ]
              refine wpAnyH_ready (rs := [11]) (by kernel_rfl) (by simp) (AllReadyH.cons rfl (fun K hK => ?_) AllReadyH.nil)
              go_simp
              skip
              refine hK.out _ _ (by exact ⟨inferInstance, inferInstance, inferInstance⟩) (fun hHeld => ?_)
              try simp only [Act.put, List.setIfInBounds_toArray, List.set_cons_zero, List.set_cons_succ]
              refine wpAnyH_take (i := 12) (v := ?_) (by simp only [List.getElem?_toArray, List.getElem?_cons_succ, List.getElem?_cons_zero] <;> rfl) (by kernel_rfl) (by kernel_rfl) (by kernel_rfl) (by exact fun _ _ _ h => h) (Or.inl ⟨by kernel_rfl, ?_⟩) (by assumption) ?_
              rotate_left
              · intro w' hSw; (try dsimp only at hSw); go_simp; try with_reducible rfl
              try simp only [Act.put, List.setIfInBounds_toArray, List.set_cons_zero, List.set_cons_succ]
              refine wpAnyH_done (by kernel_rfl) ?_ _
              go_wp2_with (at_builtin; refine wpList_app_G rfl _ _ 45 rfl Tryz.underlying45 infoCh rfl (by decide) (by decide) rfl (by exact ownsRow_later hown.out (inferInstance : Later wr _)) (inferInstance : Later w3 w2) h36 (Nat.le_trans h6r.out (Later.size (w := wr) inferInstance)) rfl rfl (cells_3 _ _ _) (by omega) ?_; intro v' w9 hown' hX9 hG9; have U9 := Later.trans (w := wb) inferInstance hX9; have hB9 := blk_grown ((hB.later (inferInstance : Later wr w2)).alloc _) hG9 (fun j hj => (by have := (hown.out.lt j hj).1; have := HB6.out; omega)); have hc9 := hB9.rowAt HBM.out; have hf9 := hB9.frozen m; have HG9 := Lib.hid hG9)
              obtain ⟨A9, c9, rfl⟩ := own_shape hown'
              have HO9 := Lib.hid (own_grown ((ownsRow_later hout.out (inferInstance : Later wr w2)).alloc _) HG9.out (fun k hk j hj => by have := (hown.out.lt j hj).1; have := HO6.out k hk; omega))
              have HN9 : Hid (w9.ownsRow w6.heap.size 56 3 (.slice A9 (([] : List Choice) ++ [(⟨d, v, (m : Int)⟩ : Choice)]).length c9) (([] : List Choice) ++ [(⟨d, v, (m : Int)⟩ : Choice)]).length ((([] : List Choice) ++ [(⟨d, v, (m : Int)⟩ : Choice)]).flatMap encCh)) := by
                show World.ownsRow _ _ _ _ _ _ _
                rw [List.flatMap_append, List.length_append]; exact hown'
              clear hown'
              go_roundw
              case rel => exact ⟨m + 1, bl.set m v, ([] : List Choice) ++ [(⟨d, v, (m : Int)⟩ : Choice)], A9, c9, by omega, by omega, by go_num, congrArg (fun z => Value.slice A9 z c9) (by simp), HLN.out, by show _ = _; rw [List.length_set]; exact HBL.out, HF3, HOK2, own_set HN9.out (fun k hk => by have := (HN9.out.lt k hk).1; have := HB6.out; omega) _ _, own_set HO9.out (fun k hk => HOB.out k hk) _ _, hB9.rowSet v, by have h1 := HG9.out.size; have h2 := Later.size (w := wr) Y2; have h3 := h6r.out; simp at h1 ⊢; omega, inferInstance, inferInstance⟩
              case measure => simp [intOf]; omega
            · obtain ⟨j, hj⟩ : ∃ j, now.length = j + 1 := ⟨now.length - 1, by omega⟩
              obtain ⟨A7, c7, f7, hv7, ho7, _, _⟩ := OSl.of_flat (r := rChoice) hown.out rfl (fun x hx W => ⟨rfl, HOKN.out x hx⟩)
              have hC7 : Choices wr A7 now.length c7 now := ho7.reads
              cases hv7
              obtain ⟨b7, o7, x, hA7, hx, hx0, hx1, hx2, _⟩ := Choices.at_ hC7 (show j < now.length by omega)
              have hla := lastArr_at hj hx.out
              have hne0 := (beqi_f (show ¬ (now.length : Int) = 0 by omega)).1
              have hne1 : ¬ (now.length : Int) = 0 := by omega
              have hwj : IntKind.i64.wrap ((now.length : Int) - 1) = (j : Int) := by rw [IntKind.wrap_i64]; omega
              have hjt : (j : Int) < now.length := by omega
              have hjn : j < now.length := by omega
              have hj0 : (0 : Int) ≤ j := by omega
              subst hA7
              clear ho7 hC7 hx hx0 hx2
              by_cases cl : v < x.Arrive
              · rw [if_pos (Or.inr (by rw [hla]; exact cl))] at HF1
                have HF3 := Lib.hid HF1
                clear HF1 hgb hla hj hn0
                have HOK2 : Hid (∀ y, y ∈ now ++ [(⟨d, v, (m : Int)⟩ : Choice)] → ChoiceOk y) := fun y hy => by
                  rcases List.mem_append.1 hy with hy | hy
                  · exact HOKN.out y hy
                  · simp at hy; subst hy; exact ⟨by unfold I64; simp only; omega, by unfold I64; simp only; omega, by unfold I64; simp only; omega⟩
                have HLN : Hid ((now ++ [(⟨d, v, (m : Int)⟩ : Choice)]).length ≤ m) := by show _ ≤ _; simp; omega
                go_wp2_with fail
                refine wp_region_held_drew (S := (fun w' => Later wb w' ∧ Later w3 w' ∧ Later wr w')) (by kernel_rfl) (by exact ⟨inferInstance, inferInstance, inferInstance⟩) (fun hHeld => ?_)
                refine wpAnyH_take (i := 0) (v := ?_) (by simp only [List.getElem?_toArray, List.getElem?_cons_zero] <;> rfl) (by kernel_rfl) (by kernel_rfl) (by kernel_rfl) (by exact fun _ _ _ h => h) (Or.inl ⟨by kernel_rfl, ?_⟩) (by assumption) ?_
                rotate_left
                · intro w' hSw; (try dsimp only at hSw); go_simp; try with_reducible rfl
                try simp only [Act.put, List.setIfInBounds_toArray, List.set_cons_zero, List.set_cons_succ]
                refine wpAnyH_take (i := 1) (v := ?_) (by simp only [List.getElem?_toArray, List.getElem?_cons_succ, List.getElem?_cons_zero] <;> rfl) (by kernel_rfl) (by kernel_rfl) (by kernel_rfl) (by exact fun _ _ _ h => h) (Or.inl ⟨by kernel_rfl, ?_⟩) (by assumption) ?_
                rotate_left
                · intro w' hSw; (try dsimp only at hSw); go_simp; try with_reducible rfl
                try simp only [Act.put, List.setIfInBounds_toArray, List.set_cons_zero, List.set_cons_succ]
                refine wpAnyH_take (i := 2) (v := ?_) (by simp only [List.getElem?_toArray, List.getElem?_cons_succ, List.getElem?_cons_zero] <;> rfl) (by kernel_rfl) (by kernel_rfl) (by kernel_rfl) (by exact fun _ _ _ h => h) (Or.inl ⟨by kernel_rfl, ?_⟩) (by assumption) ?_
                rotate_left
                · intro w' hSw; (try dsimp only at hSw); go_simp; try with_reducible rfl
                try simp only [Act.put, List.setIfInBounds_toArray, List.set_cons_zero, List.set_cons_succ]
                refine wpAnyH_take (i := 3) (v := ?_) (by simp only [List.getElem?_toArray, List.getElem?_cons_succ, List.getElem?_cons_zero] <;> rfl) (by kernel_rfl) (by kernel_rfl) (by kernel_rfl) (by exact fun _ _ _ h => h) (Or.inl ⟨by kernel_rfl, ?_⟩) (by assumption) ?_
                rotate_left
                · intro w' hSw; (try dsimp only at hSw); go_simp; try with_reducible rfl
                try simp only [Act.put, List.setIfInBounds_toArray, List.set_cons_zero, List.set_cons_succ]
                refine wpAnyH_take (i := 4) (v := ?_) (by simp only [List.getElem?_toArray, List.getElem?_cons_succ, List.getElem?_cons_zero] <;> rfl) (by kernel_rfl) (by kernel_rfl) (by kernel_rfl) (by exact fun _ _ _ h => h) (Or.inl ⟨by kernel_rfl, ?_⟩) (by assumption) ?_
                rotate_left
                · intro w' hSw; (try dsimp only at hSw); go_simp; try with_reducible rfl
                try simp only [Act.put, List.setIfInBounds_toArray, List.set_cons_zero, List.set_cons_succ]
                refine wpAnyH_take (i := 5) (v := ?_) (by simp only [List.getElem?_toArray, List.getElem?_cons_succ, List.getElem?_cons_zero] <;> rfl) (by kernel_rfl) (by kernel_rfl) (by kernel_rfl) (by exact fun _ _ _ h => h) (Or.inl ⟨by kernel_rfl, ?_⟩) (by assumption) ?_
                rotate_left
                · intro w' hSw; (try dsimp only at hSw); go_simp; try with_reducible rfl
                try simp only [Act.put, List.setIfInBounds_toArray, List.set_cons_zero, List.set_cons_succ]
                refine wpAnyH_take (i := 6) (v := ?_) (by simp only [List.getElem?_toArray, List.getElem?_cons_succ, List.getElem?_cons_zero] <;> rfl) (by kernel_rfl) (by kernel_rfl) (by kernel_rfl) (by exact fun _ _ _ h => h) (Or.inl ⟨by kernel_rfl, ?_⟩) (by assumption) ?_
                rotate_left
                · intro w' hSw; (try dsimp only at hSw); go_simp; try with_reducible rfl
                try simp only [Act.put, List.setIfInBounds_toArray, List.set_cons_zero, List.set_cons_succ]
                refine wpAnyH_take (i := 7) (v := ?_) (by simp only [List.getElem?_toArray, List.getElem?_cons_succ, List.getElem?_cons_zero] <;> rfl) (by kernel_rfl) (by kernel_rfl) (by kernel_rfl) (by exact fun _ _ _ h => h) (Or.inl ⟨by kernel_rfl, ?_⟩) (by assumption) ?_
                rotate_left
                · intro w' hSw; (try dsimp only at hSw); go_simp; try with_reducible rfl
                try simp only [Act.put, List.setIfInBounds_toArray, List.set_cons_zero, List.set_cons_succ]
                refine wpAnyH_take (i := 9) (v := ?_) (by simp only [List.getElem?_toArray, List.getElem?_cons_succ, List.getElem?_cons_zero] <;> rfl) (by kernel_rfl) (by kernel_rfl) (by kernel_rfl) (by exact fun _ _ _ h => h) (Or.inl ⟨by kernel_rfl, ?_⟩) (by assumption) ?_
                rotate_left
                · intro w' hSw; (try dsimp only at hSw); go_simp; try with_reducible rfl
                try simp only [Act.put, List.setIfInBounds_toArray, List.set_cons_zero, List.set_cons_succ]
                refine wpAnyH_ready (rs := [8]) (by kernel_rfl) (by simp) (AllReadyH.cons rfl (fun K hK => ?_) AllReadyH.nil)
                go_simp
                (go_at_call 55; refine (spec_l8Arrivals H.out (hwb0.trans inferInstance) PF.out.time _ _ _ PF.out.ch.1 PF.out.ch.2 PF.out.fr.1 PF.out.fr.2 hd0 hd1 m hm100 _ rfl).mono ?_; rintro e w2 ⟨g2, o2, c2, rfl, hL2, hR2, hg2, L2⟩; have X2 := Later.trans (w := wb) inferInstance L2; have Y2 := Later.trans (w := wr) inferInstance L2; have U2 := Later.trans (w := w3) inferInstance L2; have hcc := hR2.cells HAT.out; clear hL2 hR2 hg2)
                refine hK.out _ _ (by exact ⟨inferInstance, inferInstance, inferInstance⟩) (fun hHeld => ?_)
                try simp only [Act.put, List.setIfInBounds_toArray, List.set_cons_zero, List.set_cons_succ]
                refine wpAnyH_take (i := 10) (v := ?_) (by simp only [List.getElem?_toArray, List.getElem?_cons_succ, List.getElem?_cons_zero] <;> rfl) (by kernel_rfl) (by kernel_rfl) (by kernel_rfl) (by exact fun _ _ _ h => h) (Or.inl ⟨by kernel_rfl, ?_⟩) (by assumption) ?_
                rotate_left
                · intro w' hSw; (try dsimp only at hSw); go_simp; try with_reducible rfl
                try simp only [Act.put, List.setIfInBounds_toArray, List.set_cons_zero, List.set_cons_succ]
                refine wpAnyH_ready (rs := [11]) (by kernel_rfl) (by simp) (AllReadyH.cons rfl (fun K hK => ?_) AllReadyH.nil)
                go_simp
                skip
                refine hK.out _ _ (by exact ⟨inferInstance, inferInstance, inferInstance⟩) (fun hHeld => ?_)
                try simp only [Act.put, List.setIfInBounds_toArray, List.set_cons_zero, List.set_cons_succ]
                refine wpAnyH_take (i := 12) (v := ?_) (by simp only [List.getElem?_toArray, List.getElem?_cons_succ, List.getElem?_cons_zero] <;> rfl) (by kernel_rfl) (by kernel_rfl) (by kernel_rfl) (by exact fun _ _ _ h => h) (Or.inl ⟨by kernel_rfl, ?_⟩) (by assumption) ?_
                rotate_left
                · intro w' hSw; (try dsimp only at hSw); go_simp; try with_reducible rfl
                try simp only [Act.put, List.setIfInBounds_toArray, List.set_cons_zero, List.set_cons_succ]
                refine wpAnyH_done (by kernel_rfl) ?_ _
                go_wp2_with (at_builtin; refine wpList_app_G rfl _ _ 45 rfl Tryz.underlying45 infoCh rfl (by decide) (by decide) rfl (by exact ownsRow_later hown.out (inferInstance : Later wr _)) (inferInstance : Later w3 w2) h36 (Nat.le_trans h6r.out (Later.size (w := wr) inferInstance)) rfl rfl (cells_3 _ _ _) (by omega) ?_; intro v' w9 hown' hX9 hG9; have U9 := Later.trans (w := wb) inferInstance hX9; have hB9 := blk_grown ((hB.later (inferInstance : Later wr w2)).alloc _) hG9 (fun j hj => (by have := (hown.out.lt j hj).1; have := HB6.out; omega)); have hc9 := hB9.rowAt HBM.out; have hf9 := hB9.frozen m; have HG9 := Lib.hid hG9)
                obtain ⟨A9, c9, rfl⟩ := own_shape hown'
                have HO9 := Lib.hid (own_grown ((ownsRow_later hout.out (inferInstance : Later wr w2)).alloc _) HG9.out (fun k hk j hj => by have := (hown.out.lt j hj).1; have := HO6.out k hk; omega))
                have HN9 : Hid (w9.ownsRow w6.heap.size 56 3 (.slice A9 (now ++ [(⟨d, v, (m : Int)⟩ : Choice)]).length c9) (now ++ [(⟨d, v, (m : Int)⟩ : Choice)]).length ((now ++ [(⟨d, v, (m : Int)⟩ : Choice)]).flatMap encCh)) := by
                  show World.ownsRow _ _ _ _ _ _ _
                  rw [List.flatMap_append, List.length_append]; exact hown'
                clear hown'
                go_roundw
                case rel => exact ⟨m + 1, bl.set m v, now ++ [(⟨d, v, (m : Int)⟩ : Choice)], A9, c9, by omega, by omega, by go_num, congrArg (fun z => Value.slice A9 z c9) (by simp), HLN.out, by show _ = _; rw [List.length_set]; exact HBL.out, HF3, HOK2, own_set HN9.out (fun k hk => by have := (HN9.out.lt k hk).1; have := HB6.out; omega) _ _, own_set HO9.out (fun k hk => HOB.out k hk) _ _, hB9.rowSet v, by have h1 := HG9.out.size; have h2 := Later.size (w := wr) Y2; have h3 := h6r.out; simp at h1 ⊢; omega, inferInstance, inferInstance⟩
                case measure => simp [intOf]; omega
              · rw [if_neg (by rw [hla]; exact fun e => e.elim hn0 cl)] at HF1
                have HF3 := Lib.hid HF1
                clear HF1 hgb hla hj hn0
                go_wp2_with fail
                refine wp_region_held_drew (S := (fun w' => Later wb w' ∧ Later w3 w' ∧ Later wr w')) (by kernel_rfl) (by exact ⟨inferInstance, inferInstance, inferInstance⟩) (fun hHeld => ?_)
                refine wpAnyH_take (i := 0) (v := ?_) (by simp only [List.getElem?_toArray, List.getElem?_cons_zero] <;> rfl) (by kernel_rfl) (by kernel_rfl) (by kernel_rfl) (by exact fun _ _ _ h => h) (Or.inl ⟨by kernel_rfl, ?_⟩) (by assumption) ?_
                rotate_left
                · intro w' hSw; (try dsimp only at hSw); go_simp; try with_reducible rfl
                try simp only [Act.put, List.setIfInBounds_toArray, List.set_cons_zero, List.set_cons_succ]
                refine wpAnyH_take (i := 1) (v := ?_) (by simp only [List.getElem?_toArray, List.getElem?_cons_succ, List.getElem?_cons_zero] <;> rfl) (by kernel_rfl) (by kernel_rfl) (by kernel_rfl) (by exact fun _ _ _ h => h) (Or.inl ⟨by kernel_rfl, ?_⟩) (by assumption) ?_
                rotate_left
                · intro w' hSw; (try dsimp only at hSw); go_simp; try with_reducible rfl
                try simp only [Act.put, List.setIfInBounds_toArray, List.set_cons_zero, List.set_cons_succ]
                refine wpAnyH_take (i := 2) (v := ?_) (by simp only [List.getElem?_toArray, List.getElem?_cons_succ, List.getElem?_cons_zero] <;> rfl) (by kernel_rfl) (by kernel_rfl) (by kernel_rfl) (by exact fun _ _ _ h => h) (Or.inl ⟨by kernel_rfl, ?_⟩) (by assumption) ?_
                rotate_left
                · intro w' hSw; (try dsimp only at hSw); go_simp; try with_reducible rfl
                try simp only [Act.put, List.setIfInBounds_toArray, List.set_cons_zero, List.set_cons_succ]
                refine wpAnyH_take (i := 3) (v := ?_) (by simp only [List.getElem?_toArray, List.getElem?_cons_succ, List.getElem?_cons_zero] <;> rfl) (by kernel_rfl) (by kernel_rfl) (by kernel_rfl) (by exact fun _ _ _ h => h) (Or.inl ⟨by kernel_rfl, ?_⟩) (by assumption) ?_
                rotate_left
                · intro w' hSw; (try dsimp only at hSw); go_simp; try with_reducible rfl
                try simp only [Act.put, List.setIfInBounds_toArray, List.set_cons_zero, List.set_cons_succ]
                refine wpAnyH_take (i := 4) (v := ?_) (by simp only [List.getElem?_toArray, List.getElem?_cons_succ, List.getElem?_cons_zero] <;> rfl) (by kernel_rfl) (by kernel_rfl) (by kernel_rfl) (by exact fun _ _ _ h => h) (Or.inl ⟨by kernel_rfl, ?_⟩) (by assumption) ?_
                rotate_left
                · intro w' hSw; (try dsimp only at hSw); go_simp; try with_reducible rfl
                try simp only [Act.put, List.setIfInBounds_toArray, List.set_cons_zero, List.set_cons_succ]
                refine wpAnyH_take (i := 5) (v := ?_) (by simp only [List.getElem?_toArray, List.getElem?_cons_succ, List.getElem?_cons_zero] <;> rfl) (by kernel_rfl) (by kernel_rfl) (by kernel_rfl) (by exact fun _ _ _ h => h) (Or.inl ⟨by kernel_rfl, ?_⟩) (by assumption) ?_
                rotate_left
                · intro w' hSw; (try dsimp only at hSw); go_simp; try with_reducible rfl
                try simp only [Act.put, List.setIfInBounds_toArray, List.set_cons_zero, List.set_cons_succ]
                refine wpAnyH_take (i := 6) (v := ?_) (by simp only [List.getElem?_toArray, List.getElem?_cons_succ, List.getElem?_cons_zero] <;> rfl) (by kernel_rfl) (by kernel_rfl) (by kernel_rfl) (by exact fun _ _ _ h => h) (Or.inl ⟨by kernel_rfl, ?_⟩) (by assumption) ?_
                rotate_left
                · intro w' hSw; (try dsimp only at hSw); go_simp; try with_reducible rfl
                try simp only [Act.put, List.setIfInBounds_toArray, List.set_cons_zero, List.set_cons_succ]
                refine wpAnyH_take (i := 7) (v := ?_) (by simp only [List.getElem?_toArray, List.getElem?_cons_succ, List.getElem?_cons_zero] <;> rfl) (by kernel_rfl) (by kernel_rfl) (by kernel_rfl) (by exact fun _ _ _ h => h) (Or.inl ⟨by kernel_rfl, ?_⟩) (by assumption) ?_
                rotate_left
                · intro w' hSw; (try dsimp only at hSw); go_simp; try with_reducible rfl
                try simp only [Act.put, List.setIfInBounds_toArray, List.set_cons_zero, List.set_cons_succ]
                refine wpAnyH_take (i := 9) (v := ?_) (by simp only [List.getElem?_toArray, List.getElem?_cons_succ, List.getElem?_cons_zero] <;> rfl) (by kernel_rfl) (by kernel_rfl) (by kernel_rfl) (by exact fun _ _ _ h => h) (Or.inl ⟨by kernel_rfl, ?_⟩) (by assumption) ?_
                rotate_left
                · intro w' hSw; (try dsimp only at hSw); go_simp; try with_reducible rfl
                try simp only [Act.put, List.setIfInBounds_toArray, List.set_cons_zero, List.set_cons_succ]
                refine wpAnyH_ready (rs := [8]) (by kernel_rfl) (by simp) (AllReadyH.cons rfl (fun K hK => ?_) AllReadyH.nil)
                go_simp
                (go_at_call 55; refine (spec_l8Arrivals H.out (hwb0.trans inferInstance) PF.out.time _ _ _ PF.out.ch.1 PF.out.ch.2 PF.out.fr.1 PF.out.fr.2 hd0 hd1 m hm100 _ rfl).mono ?_; rintro e w2 ⟨g2, o2, c2, rfl, hL2, hR2, hg2, L2⟩; have X2 := Later.trans (w := wb) inferInstance L2; have Y2 := Later.trans (w := wr) inferInstance L2; have U2 := Later.trans (w := w3) inferInstance L2; have hcc := hR2.cells HAT.out; clear hL2 hR2 hg2)
                refine hK.out _ _ (by exact ⟨inferInstance, inferInstance, inferInstance⟩) (fun hHeld => ?_)
                try simp only [Act.put, List.setIfInBounds_toArray, List.set_cons_zero, List.set_cons_succ]
                refine wpAnyH_take (i := 10) (v := ?_) (by simp only [List.getElem?_toArray, List.getElem?_cons_succ, List.getElem?_cons_zero] <;> rfl) (by kernel_rfl) (by kernel_rfl) (by kernel_rfl) (by exact fun _ _ _ h => h) (Or.inl ⟨by kernel_rfl, ?_⟩) (by assumption) ?_
                rotate_left
                · intro w' hSw; (try dsimp only at hSw); go_simp; try with_reducible rfl
                try simp only [Act.put, List.setIfInBounds_toArray, List.set_cons_zero, List.set_cons_succ]
                refine wpAnyH_ready (rs := [11]) (by kernel_rfl) (by simp) (AllReadyH.cons rfl (fun K hK => ?_) AllReadyH.nil)
                go_simp
                skip
                refine hK.out _ _ (by exact ⟨inferInstance, inferInstance, inferInstance⟩) (fun hHeld => ?_)
                try simp only [Act.put, List.setIfInBounds_toArray, List.set_cons_zero, List.set_cons_succ]
                refine wpAnyH_take (i := 12) (v := ?_) (by simp only [List.getElem?_toArray, List.getElem?_cons_succ, List.getElem?_cons_zero] <;> rfl) (by kernel_rfl) (by kernel_rfl) (by kernel_rfl) (by exact fun _ _ _ h => h) (Or.inl ⟨by kernel_rfl, ?_⟩) (by assumption) ?_
                rotate_left
                · intro w' hSw; (try dsimp only at hSw); go_simp; try with_reducible rfl
                try simp only [Act.put, List.setIfInBounds_toArray, List.set_cons_zero, List.set_cons_succ]
                refine wpAnyH_done (by kernel_rfl) ?_ _
                go_wp2_with fail
                go_roundw
                case rel => exact ⟨m + 1, bl.set m v, now, _, _, by omega, by omega, by go_num, rfl, by omega, by show _ = _; rw [List.length_set]; exact HBL.out, HF3, HOKN, own_set (ownsRow_later hown.out (inferInstance : Later wr w2)) (fun k hk => by have := (hown.out.lt k hk).1; have := HB6.out; omega) _ _, own_set (ownsRow_later hout.out (inferInstance : Later wr w2)) (fun k hk => HOB.out k hk) _ _, (hB.later (inferInstance : Later wr w2)).rowSet v, by have h2 := Later.size (w := wr) Y2; have h3 := h6r.out; simp; omega, inferInstance, inferInstance⟩
                case measure => simp [intOf]; omega
          by_cases cl : v < bm
          · rw [nowGo_yes (S := Sd) (d := d) (f := 5 - (m + 1)) (m := m) (best := bl) (now := now) (by rw [hgb, hv]; exact (⟨cv, .inr cl⟩)), hv] at HF1
            by_cases hn0 : now.length = 0
            · rw [if_pos (Or.inl hn0)] at HF1
              have HF3 := Lib.hid HF1
              obtain rfl := List.length_eq_zero_iff.1 hn0
              clear HF1 hgb hn0
              have HOK2 : Hid (∀ y, y ∈ ([] : List Choice) ++ [(⟨d, v, (m : Int)⟩ : Choice)] → ChoiceOk y) := fun y hy => by
                rcases List.mem_append.1 hy with hy | hy
                · exact HOKN.out y hy
                · simp at hy; subst hy; exact ⟨by unfold I64; simp only; omega, by unfold I64; simp only; omega, by unfold I64; simp only; omega⟩
              have HLN : Hid ((([] : List Choice) ++ [(⟨d, v, (m : Int)⟩ : Choice)]).length ≤ m) := by show _ ≤ _; simp; omega
              go_wp2_with fail
              refine wp_region_held_drew (S := (fun w' => Later wb w' ∧ Later w3 w' ∧ Later wr w')) (by kernel_rfl) (by exact ⟨inferInstance, inferInstance, inferInstance⟩) (fun hHeld => ?_)
              refine wpAnyH_take (i := 0) (v := ?_) (by simp only [List.getElem?_toArray, List.getElem?_cons_zero] <;> rfl) (by kernel_rfl) (by kernel_rfl) (by kernel_rfl) (by exact fun _ _ _ h => h) (Or.inl ⟨by kernel_rfl, ?_⟩) (by assumption) ?_
              rotate_left
              · intro w' hSw; (try dsimp only at hSw); go_simp; try with_reducible rfl
              try simp only [Act.put, List.setIfInBounds_toArray, List.set_cons_zero, List.set_cons_succ]
              refine wpAnyH_take (i := 1) (v := ?_) (by simp only [List.getElem?_toArray, List.getElem?_cons_succ, List.getElem?_cons_zero] <;> rfl) (by kernel_rfl) (by kernel_rfl) (by kernel_rfl) (by exact fun _ _ _ h => h) (Or.inl ⟨by kernel_rfl, ?_⟩) (by assumption) ?_
              rotate_left
              · intro w' hSw; (try dsimp only at hSw); go_simp; try with_reducible rfl
              try simp only [Act.put, List.setIfInBounds_toArray, List.set_cons_zero, List.set_cons_succ]
              refine wpAnyH_take (i := 2) (v := ?_) (by simp only [List.getElem?_toArray, List.getElem?_cons_succ, List.getElem?_cons_zero] <;> rfl) (by kernel_rfl) (by kernel_rfl) (by kernel_rfl) (by exact fun _ _ _ h => h) (Or.inl ⟨by kernel_rfl, ?_⟩) (by assumption) ?_
              rotate_left
              · intro w' hSw; (try dsimp only at hSw); go_simp; try with_reducible rfl
              try simp only [Act.put, List.setIfInBounds_toArray, List.set_cons_zero, List.set_cons_succ]
              refine wpAnyH_take (i := 3) (v := ?_) (by simp only [List.getElem?_toArray, List.getElem?_cons_succ, List.getElem?_cons_zero] <;> rfl) (by kernel_rfl) (by kernel_rfl) (by kernel_rfl) (by exact fun _ _ _ h => h) (Or.inl ⟨by kernel_rfl, ?_⟩) (by assumption) ?_
              rotate_left
              · intro w' hSw; (try dsimp only at hSw); go_simp; try with_reducible rfl
              try simp only [Act.put, List.setIfInBounds_toArray, List.set_cons_zero, List.set_cons_succ]
              refine wpAnyH_take (i := 4) (v := ?_) (by simp only [List.getElem?_toArray, List.getElem?_cons_succ, List.getElem?_cons_zero] <;> rfl) (by kernel_rfl) (by kernel_rfl) (by kernel_rfl) (by exact fun _ _ _ h => h) (Or.inl ⟨by kernel_rfl, ?_⟩) (by assumption) ?_
              rotate_left
              · intro w' hSw; (try dsimp only at hSw); go_simp; try with_reducible rfl
              try simp only [Act.put, List.setIfInBounds_toArray, List.set_cons_zero, List.set_cons_succ]
              refine wpAnyH_take (i := 5) (v := ?_) (by simp only [List.getElem?_toArray, List.getElem?_cons_succ, List.getElem?_cons_zero] <;> rfl) (by kernel_rfl) (by kernel_rfl) (by kernel_rfl) (by exact fun _ _ _ h => h) (Or.inl ⟨by kernel_rfl, ?_⟩) (by assumption) ?_
              rotate_left
              · intro w' hSw; (try dsimp only at hSw); go_simp; try with_reducible rfl
              try simp only [Act.put, List.setIfInBounds_toArray, List.set_cons_zero, List.set_cons_succ]
              refine wpAnyH_take (i := 6) (v := ?_) (by simp only [List.getElem?_toArray, List.getElem?_cons_succ, List.getElem?_cons_zero] <;> rfl) (by kernel_rfl) (by kernel_rfl) (by kernel_rfl) (by exact fun _ _ _ h => h) (Or.inl ⟨by kernel_rfl, ?_⟩) (by assumption) ?_
              rotate_left
              · intro w' hSw; (try dsimp only at hSw); go_simp; try with_reducible rfl
              try simp only [Act.put, List.setIfInBounds_toArray, List.set_cons_zero, List.set_cons_succ]
              refine wpAnyH_take (i := 7) (v := ?_) (by simp only [List.getElem?_toArray, List.getElem?_cons_succ, List.getElem?_cons_zero] <;> rfl) (by kernel_rfl) (by kernel_rfl) (by kernel_rfl) (by exact fun _ _ _ h => h) (Or.inl ⟨by kernel_rfl, ?_⟩) (by assumption) ?_
              rotate_left
              · intro w' hSw; (try dsimp only at hSw); go_simp; try with_reducible rfl
              try simp only [Act.put, List.setIfInBounds_toArray, List.set_cons_zero, List.set_cons_succ]
              refine wpAnyH_take (i := 9) (v := ?_) (by simp only [List.getElem?_toArray, List.getElem?_cons_succ, List.getElem?_cons_zero] <;> rfl) (by kernel_rfl) (by kernel_rfl) (by kernel_rfl) (by exact fun _ _ _ h => h) (Or.inl ⟨by kernel_rfl, ?_⟩) (by assumption) ?_
              rotate_left
              · intro w' hSw; (try dsimp only at hSw); go_simp; try with_reducible rfl
              try simp only [Act.put, List.setIfInBounds_toArray, List.set_cons_zero, List.set_cons_succ]
              refine wpAnyH_ready (rs := [8]) (by kernel_rfl) (by simp) (AllReadyH.cons rfl (fun K hK => ?_) AllReadyH.nil)
              go_simp
              (go_at_call 55; refine (spec_l8Arrivals H.out (hwb0.trans inferInstance) PF.out.time _ _ _ PF.out.ch.1 PF.out.ch.2 PF.out.fr.1 PF.out.fr.2 hd0 hd1 m hm100 _ rfl).mono ?_; rintro e w2 ⟨g2, o2, c2, rfl, hL2, hR2, hg2, L2⟩; have X2 := Later.trans (w := wb) inferInstance L2; have Y2 := Later.trans (w := wr) inferInstance L2; have U2 := Later.trans (w := w3) inferInstance L2; have hcc := hR2.cells HAT.out; clear hL2 hR2 hg2)
              refine hK.out _ _ (by exact ⟨inferInstance, inferInstance, inferInstance⟩) (fun hHeld => ?_)
              try simp only [Act.put, List.setIfInBounds_toArray, List.set_cons_zero, List.set_cons_succ]
              refine wpAnyH_take (i := 10) (v := ?_) (by simp only [List.getElem?_toArray, List.getElem?_cons_succ, List.getElem?_cons_zero] <;> rfl) (by kernel_rfl) (by kernel_rfl) (by kernel_rfl) (by exact fun _ _ _ h => h) (Or.inl ⟨by kernel_rfl, ?_⟩) (by assumption) ?_
              rotate_left
              · intro w' hSw; (try dsimp only at hSw); go_simp; try with_reducible rfl
              try simp only [Act.put, List.setIfInBounds_toArray, List.set_cons_zero, List.set_cons_succ]
              refine wpAnyH_ready (rs := [11]) (by kernel_rfl) (by simp) (AllReadyH.cons rfl (fun K hK => ?_) AllReadyH.nil)
              go_simp
              skip
              refine hK.out _ _ (by exact ⟨inferInstance, inferInstance, inferInstance⟩) (fun hHeld => ?_)
              try simp only [Act.put, List.setIfInBounds_toArray, List.set_cons_zero, List.set_cons_succ]
              refine wpAnyH_take (i := 12) (v := ?_) (by simp only [List.getElem?_toArray, List.getElem?_cons_succ, List.getElem?_cons_zero] <;> rfl) (by kernel_rfl) (by kernel_rfl) (by kernel_rfl) (by exact fun _ _ _ h => h) (Or.inl ⟨by kernel_rfl, ?_⟩) (by assumption) ?_
              rotate_left
              · intro w' hSw; (try dsimp only at hSw); go_simp; try with_reducible rfl
              try simp only [Act.put, List.setIfInBounds_toArray, List.set_cons_zero, List.set_cons_succ]
              refine wpAnyH_done (by kernel_rfl) ?_ _
              go_wp2_with (at_builtin; refine wpList_app_G rfl _ _ 45 rfl Tryz.underlying45 infoCh rfl (by decide) (by decide) rfl (by exact ownsRow_later hown.out (inferInstance : Later wr _)) (inferInstance : Later w3 w2) h36 (Nat.le_trans h6r.out (Later.size (w := wr) inferInstance)) rfl rfl (cells_3 _ _ _) (by omega) ?_; intro v' w9 hown' hX9 hG9; have U9 := Later.trans (w := wb) inferInstance hX9; have hB9 := blk_grown ((hB.later (inferInstance : Later wr w2)).alloc _) hG9 (fun j hj => (by have := (hown.out.lt j hj).1; have := HB6.out; omega)); have hc9 := hB9.rowAt HBM.out; have hf9 := hB9.frozen m; have HG9 := Lib.hid hG9)
              obtain ⟨A9, c9, rfl⟩ := own_shape hown'
              have HO9 := Lib.hid (own_grown ((ownsRow_later hout.out (inferInstance : Later wr w2)).alloc _) HG9.out (fun k hk j hj => by have := (hown.out.lt j hj).1; have := HO6.out k hk; omega))
              have HN9 : Hid (w9.ownsRow w6.heap.size 56 3 (.slice A9 (([] : List Choice) ++ [(⟨d, v, (m : Int)⟩ : Choice)]).length c9) (([] : List Choice) ++ [(⟨d, v, (m : Int)⟩ : Choice)]).length ((([] : List Choice) ++ [(⟨d, v, (m : Int)⟩ : Choice)]).flatMap encCh)) := by
                show World.ownsRow _ _ _ _ _ _ _
                rw [List.flatMap_append, List.length_append]; exact hown'
              clear hown'
              go_roundw
              case rel => exact ⟨m + 1, bl.set m v, ([] : List Choice) ++ [(⟨d, v, (m : Int)⟩ : Choice)], A9, c9, by omega, by omega, by go_num, congrArg (fun z => Value.slice A9 z c9) (by simp), HLN.out, by show _ = _; rw [List.length_set]; exact HBL.out, HF3, HOK2, own_set HN9.out (fun k hk => by have := (HN9.out.lt k hk).1; have := HB6.out; omega) _ _, own_set HO9.out (fun k hk => HOB.out k hk) _ _, hB9.rowSet v, by have h1 := HG9.out.size; have h2 := Later.size (w := wr) Y2; have h3 := h6r.out; simp at h1 ⊢; omega, inferInstance, inferInstance⟩
              case measure => simp [intOf]; omega
            · obtain ⟨j, hj⟩ : ∃ j, now.length = j + 1 := ⟨now.length - 1, by omega⟩
              obtain ⟨A7, c7, f7, hv7, ho7, _, _⟩ := OSl.of_flat (r := rChoice) hown.out rfl (fun x hx W => ⟨rfl, HOKN.out x hx⟩)
              have hC7 : Choices wr A7 now.length c7 now := ho7.reads
              cases hv7
              obtain ⟨b7, o7, x, hA7, hx, hx0, hx1, hx2, _⟩ := Choices.at_ hC7 (show j < now.length by omega)
              have hla := lastArr_at hj hx.out
              have hne0 := (beqi_f (show ¬ (now.length : Int) = 0 by omega)).1
              have hne1 : ¬ (now.length : Int) = 0 := by omega
              have hwj : IntKind.i64.wrap ((now.length : Int) - 1) = (j : Int) := by rw [IntKind.wrap_i64]; omega
              have hjt : (j : Int) < now.length := by omega
              have hjn : j < now.length := by omega
              have hj0 : (0 : Int) ≤ j := by omega
              subst hA7
              clear ho7 hC7 hx hx0 hx2
              by_cases cl : v < x.Arrive
              · rw [if_pos (Or.inr (by rw [hla]; exact cl))] at HF1
                have HF3 := Lib.hid HF1
                clear HF1 hgb hla hj hn0
                have HOK2 : Hid (∀ y, y ∈ now ++ [(⟨d, v, (m : Int)⟩ : Choice)] → ChoiceOk y) := fun y hy => by
                  rcases List.mem_append.1 hy with hy | hy
                  · exact HOKN.out y hy
                  · simp at hy; subst hy; exact ⟨by unfold I64; simp only; omega, by unfold I64; simp only; omega, by unfold I64; simp only; omega⟩
                have HLN : Hid ((now ++ [(⟨d, v, (m : Int)⟩ : Choice)]).length ≤ m) := by show _ ≤ _; simp; omega
                go_wp2_with fail
                refine wp_region_held_drew (S := (fun w' => Later wb w' ∧ Later w3 w' ∧ Later wr w')) (by kernel_rfl) (by exact ⟨inferInstance, inferInstance, inferInstance⟩) (fun hHeld => ?_)
                refine wpAnyH_take (i := 0) (v := ?_) (by simp only [List.getElem?_toArray, List.getElem?_cons_zero] <;> rfl) (by kernel_rfl) (by kernel_rfl) (by kernel_rfl) (by exact fun _ _ _ h => h) (Or.inl ⟨by kernel_rfl, ?_⟩) (by assumption) ?_
                rotate_left
                · intro w' hSw; (try dsimp only at hSw); go_simp; try with_reducible rfl
                try simp only [Act.put, List.setIfInBounds_toArray, List.set_cons_zero, List.set_cons_succ]
                refine wpAnyH_take (i := 1) (v := ?_) (by simp only [List.getElem?_toArray, List.getElem?_cons_succ, List.getElem?_cons_zero] <;> rfl) (by kernel_rfl) (by kernel_rfl) (by kernel_rfl) (by exact fun _ _ _ h => h) (Or.inl ⟨by kernel_rfl, ?_⟩) (by assumption) ?_
                rotate_left
                · intro w' hSw; (try dsimp only at hSw); go_simp; try with_reducible rfl
                try simp only [Act.put, List.setIfInBounds_toArray, List.set_cons_zero, List.set_cons_succ]
                refine wpAnyH_take (i := 2) (v := ?_) (by simp only [List.getElem?_toArray, List.getElem?_cons_succ, List.getElem?_cons_zero] <;> rfl) (by kernel_rfl) (by kernel_rfl) (by kernel_rfl) (by exact fun _ _ _ h => h) (Or.inl ⟨by kernel_rfl, ?_⟩) (by assumption) ?_
                rotate_left
                · intro w' hSw; (try dsimp only at hSw); go_simp; try with_reducible rfl
                try simp only [Act.put, List.setIfInBounds_toArray, List.set_cons_zero, List.set_cons_succ]
                refine wpAnyH_take (i := 3) (v := ?_) (by simp only [List.getElem?_toArray, List.getElem?_cons_succ, List.getElem?_cons_zero] <;> rfl) (by kernel_rfl) (by kernel_rfl) (by kernel_rfl) (by exact fun _ _ _ h => h) (Or.inl ⟨by kernel_rfl, ?_⟩) (by assumption) ?_
                rotate_left
                · intro w' hSw; (try dsimp only at hSw); go_simp; try with_reducible rfl
                try simp only [Act.put, List.setIfInBounds_toArray, List.set_cons_zero, List.set_cons_succ]
                refine wpAnyH_take (i := 4) (v := ?_) (by simp only [List.getElem?_toArray, List.getElem?_cons_succ, List.getElem?_cons_zero] <;> rfl) (by kernel_rfl) (by kernel_rfl) (by kernel_rfl) (by exact fun _ _ _ h => h) (Or.inl ⟨by kernel_rfl, ?_⟩) (by assumption) ?_
                rotate_left
                · intro w' hSw; (try dsimp only at hSw); go_simp; try with_reducible rfl
                try simp only [Act.put, List.setIfInBounds_toArray, List.set_cons_zero, List.set_cons_succ]
                refine wpAnyH_take (i := 5) (v := ?_) (by simp only [List.getElem?_toArray, List.getElem?_cons_succ, List.getElem?_cons_zero] <;> rfl) (by kernel_rfl) (by kernel_rfl) (by kernel_rfl) (by exact fun _ _ _ h => h) (Or.inl ⟨by kernel_rfl, ?_⟩) (by assumption) ?_
                rotate_left
                · intro w' hSw; (try dsimp only at hSw); go_simp; try with_reducible rfl
                try simp only [Act.put, List.setIfInBounds_toArray, List.set_cons_zero, List.set_cons_succ]
                refine wpAnyH_take (i := 6) (v := ?_) (by simp only [List.getElem?_toArray, List.getElem?_cons_succ, List.getElem?_cons_zero] <;> rfl) (by kernel_rfl) (by kernel_rfl) (by kernel_rfl) (by exact fun _ _ _ h => h) (Or.inl ⟨by kernel_rfl, ?_⟩) (by assumption) ?_
                rotate_left
                · intro w' hSw; (try dsimp only at hSw); go_simp; try with_reducible rfl
                try simp only [Act.put, List.setIfInBounds_toArray, List.set_cons_zero, List.set_cons_succ]
                refine wpAnyH_take (i := 7) (v := ?_) (by simp only [List.getElem?_toArray, List.getElem?_cons_succ, List.getElem?_cons_zero] <;> rfl) (by kernel_rfl) (by kernel_rfl) (by kernel_rfl) (by exact fun _ _ _ h => h) (Or.inl ⟨by kernel_rfl, ?_⟩) (by assumption) ?_
                rotate_left
                · intro w' hSw; (try dsimp only at hSw); go_simp; try with_reducible rfl
                try simp only [Act.put, List.setIfInBounds_toArray, List.set_cons_zero, List.set_cons_succ]
                refine wpAnyH_take (i := 9) (v := ?_) (by simp only [List.getElem?_toArray, List.getElem?_cons_succ, List.getElem?_cons_zero] <;> rfl) (by kernel_rfl) (by kernel_rfl) (by kernel_rfl) (by exact fun _ _ _ h => h) (Or.inl ⟨by kernel_rfl, ?_⟩) (by assumption) ?_
                rotate_left
                · intro w' hSw; (try dsimp only at hSw); go_simp; try with_reducible rfl
                try simp only [Act.put, List.setIfInBounds_toArray, List.set_cons_zero, List.set_cons_succ]
                refine wpAnyH_ready (rs := [8]) (by kernel_rfl) (by simp) (AllReadyH.cons rfl (fun K hK => ?_) AllReadyH.nil)
                go_simp
                (go_at_call 55; refine (spec_l8Arrivals H.out (hwb0.trans inferInstance) PF.out.time _ _ _ PF.out.ch.1 PF.out.ch.2 PF.out.fr.1 PF.out.fr.2 hd0 hd1 m hm100 _ rfl).mono ?_; rintro e w2 ⟨g2, o2, c2, rfl, hL2, hR2, hg2, L2⟩; have X2 := Later.trans (w := wb) inferInstance L2; have Y2 := Later.trans (w := wr) inferInstance L2; have U2 := Later.trans (w := w3) inferInstance L2; have hcc := hR2.cells HAT.out; clear hL2 hR2 hg2)
                refine hK.out _ _ (by exact ⟨inferInstance, inferInstance, inferInstance⟩) (fun hHeld => ?_)
                try simp only [Act.put, List.setIfInBounds_toArray, List.set_cons_zero, List.set_cons_succ]
                refine wpAnyH_take (i := 10) (v := ?_) (by simp only [List.getElem?_toArray, List.getElem?_cons_succ, List.getElem?_cons_zero] <;> rfl) (by kernel_rfl) (by kernel_rfl) (by kernel_rfl) (by exact fun _ _ _ h => h) (Or.inl ⟨by kernel_rfl, ?_⟩) (by assumption) ?_
                rotate_left
                · intro w' hSw; (try dsimp only at hSw); go_simp; try with_reducible rfl
                try simp only [Act.put, List.setIfInBounds_toArray, List.set_cons_zero, List.set_cons_succ]
                refine wpAnyH_ready (rs := [11]) (by kernel_rfl) (by simp) (AllReadyH.cons rfl (fun K hK => ?_) AllReadyH.nil)
                go_simp
                skip
                refine hK.out _ _ (by exact ⟨inferInstance, inferInstance, inferInstance⟩) (fun hHeld => ?_)
                try simp only [Act.put, List.setIfInBounds_toArray, List.set_cons_zero, List.set_cons_succ]
                refine wpAnyH_take (i := 12) (v := ?_) (by simp only [List.getElem?_toArray, List.getElem?_cons_succ, List.getElem?_cons_zero] <;> rfl) (by kernel_rfl) (by kernel_rfl) (by kernel_rfl) (by exact fun _ _ _ h => h) (Or.inl ⟨by kernel_rfl, ?_⟩) (by assumption) ?_
                rotate_left
                · intro w' hSw; (try dsimp only at hSw); go_simp; try with_reducible rfl
                try simp only [Act.put, List.setIfInBounds_toArray, List.set_cons_zero, List.set_cons_succ]
                refine wpAnyH_done (by kernel_rfl) ?_ _
                go_wp2_with (at_builtin; refine wpList_app_G rfl _ _ 45 rfl Tryz.underlying45 infoCh rfl (by decide) (by decide) rfl (by exact ownsRow_later hown.out (inferInstance : Later wr _)) (inferInstance : Later w3 w2) h36 (Nat.le_trans h6r.out (Later.size (w := wr) inferInstance)) rfl rfl (cells_3 _ _ _) (by omega) ?_; intro v' w9 hown' hX9 hG9; have U9 := Later.trans (w := wb) inferInstance hX9; have hB9 := blk_grown ((hB.later (inferInstance : Later wr w2)).alloc _) hG9 (fun j hj => (by have := (hown.out.lt j hj).1; have := HB6.out; omega)); have hc9 := hB9.rowAt HBM.out; have hf9 := hB9.frozen m; have HG9 := Lib.hid hG9)
                obtain ⟨A9, c9, rfl⟩ := own_shape hown'
                have HO9 := Lib.hid (own_grown ((ownsRow_later hout.out (inferInstance : Later wr w2)).alloc _) HG9.out (fun k hk j hj => by have := (hown.out.lt j hj).1; have := HO6.out k hk; omega))
                have HN9 : Hid (w9.ownsRow w6.heap.size 56 3 (.slice A9 (now ++ [(⟨d, v, (m : Int)⟩ : Choice)]).length c9) (now ++ [(⟨d, v, (m : Int)⟩ : Choice)]).length ((now ++ [(⟨d, v, (m : Int)⟩ : Choice)]).flatMap encCh)) := by
                  show World.ownsRow _ _ _ _ _ _ _
                  rw [List.flatMap_append, List.length_append]; exact hown'
                clear hown'
                go_roundw
                case rel => exact ⟨m + 1, bl.set m v, now ++ [(⟨d, v, (m : Int)⟩ : Choice)], A9, c9, by omega, by omega, by go_num, congrArg (fun z => Value.slice A9 z c9) (by simp), HLN.out, by show _ = _; rw [List.length_set]; exact HBL.out, HF3, HOK2, own_set HN9.out (fun k hk => by have := (HN9.out.lt k hk).1; have := HB6.out; omega) _ _, own_set HO9.out (fun k hk => HOB.out k hk) _ _, hB9.rowSet v, by have h1 := HG9.out.size; have h2 := Later.size (w := wr) Y2; have h3 := h6r.out; simp at h1 ⊢; omega, inferInstance, inferInstance⟩
                case measure => simp [intOf]; omega
              · rw [if_neg (by rw [hla]; exact fun e => e.elim hn0 cl)] at HF1
                have HF3 := Lib.hid HF1
                clear HF1 hgb hla hj hn0
                go_wp2_with fail
                refine wp_region_held_drew (S := (fun w' => Later wb w' ∧ Later w3 w' ∧ Later wr w')) (by kernel_rfl) (by exact ⟨inferInstance, inferInstance, inferInstance⟩) (fun hHeld => ?_)
                refine wpAnyH_take (i := 0) (v := ?_) (by simp only [List.getElem?_toArray, List.getElem?_cons_zero] <;> rfl) (by kernel_rfl) (by kernel_rfl) (by kernel_rfl) (by exact fun _ _ _ h => h) (Or.inl ⟨by kernel_rfl, ?_⟩) (by assumption) ?_
                rotate_left
                · intro w' hSw; (try dsimp only at hSw); go_simp; try with_reducible rfl
                try simp only [Act.put, List.setIfInBounds_toArray, List.set_cons_zero, List.set_cons_succ]
                refine wpAnyH_take (i := 1) (v := ?_) (by simp only [List.getElem?_toArray, List.getElem?_cons_succ, List.getElem?_cons_zero] <;> rfl) (by kernel_rfl) (by kernel_rfl) (by kernel_rfl) (by exact fun _ _ _ h => h) (Or.inl ⟨by kernel_rfl, ?_⟩) (by assumption) ?_
                rotate_left
                · intro w' hSw; (try dsimp only at hSw); go_simp; try with_reducible rfl
                try simp only [Act.put, List.setIfInBounds_toArray, List.set_cons_zero, List.set_cons_succ]
                refine wpAnyH_take (i := 2) (v := ?_) (by simp only [List.getElem?_toArray, List.getElem?_cons_succ, List.getElem?_cons_zero] <;> rfl) (by kernel_rfl) (by kernel_rfl) (by kernel_rfl) (by exact fun _ _ _ h => h) (Or.inl ⟨by kernel_rfl, ?_⟩) (by assumption) ?_
                rotate_left
                · intro w' hSw; (try dsimp only at hSw); go_simp; try with_reducible rfl
                try simp only [Act.put, List.setIfInBounds_toArray, List.set_cons_zero, List.set_cons_succ]
                refine wpAnyH_take (i := 3) (v := ?_) (by simp only [List.getElem?_toArray, List.getElem?_cons_succ, List.getElem?_cons_zero] <;> rfl) (by kernel_rfl) (by kernel_rfl) (by kernel_rfl) (by exact fun _ _ _ h => h) (Or.inl ⟨by kernel_rfl, ?_⟩) (by assumption) ?_
                rotate_left
                · intro w' hSw; (try dsimp only at hSw); go_simp; try with_reducible rfl
                try simp only [Act.put, List.setIfInBounds_toArray, List.set_cons_zero, List.set_cons_succ]
                refine wpAnyH_take (i := 4) (v := ?_) (by simp only [List.getElem?_toArray, List.getElem?_cons_succ, List.getElem?_cons_zero] <;> rfl) (by kernel_rfl) (by kernel_rfl) (by kernel_rfl) (by exact fun _ _ _ h => h) (Or.inl ⟨by kernel_rfl, ?_⟩) (by assumption) ?_
                rotate_left
                · intro w' hSw; (try dsimp only at hSw); go_simp; try with_reducible rfl
                try simp only [Act.put, List.setIfInBounds_toArray, List.set_cons_zero, List.set_cons_succ]
                refine wpAnyH_take (i := 5) (v := ?_) (by simp only [List.getElem?_toArray, List.getElem?_cons_succ, List.getElem?_cons_zero] <;> rfl) (by kernel_rfl) (by kernel_rfl) (by kernel_rfl) (by exact fun _ _ _ h => h) (Or.inl ⟨by kernel_rfl, ?_⟩) (by assumption) ?_
                rotate_left
                · intro w' hSw; (try dsimp only at hSw); go_simp; try with_reducible rfl
                try simp only [Act.put, List.setIfInBounds_toArray, List.set_cons_zero, List.set_cons_succ]
                refine wpAnyH_take (i := 6) (v := ?_) (by simp only [List.getElem?_toArray, List.getElem?_cons_succ, List.getElem?_cons_zero] <;> rfl) (by kernel_rfl) (by kernel_rfl) (by kernel_rfl) (by exact fun _ _ _ h => h) (Or.inl ⟨by kernel_rfl, ?_⟩) (by assumption) ?_
                rotate_left
                · intro w' hSw; (try dsimp only at hSw); go_simp; try with_reducible rfl
                try simp only [Act.put, List.setIfInBounds_toArray, List.set_cons_zero, List.set_cons_succ]
                refine wpAnyH_take (i := 7) (v := ?_) (by simp only [List.getElem?_toArray, List.getElem?_cons_succ, List.getElem?_cons_zero] <;> rfl) (by kernel_rfl) (by kernel_rfl) (by kernel_rfl) (by exact fun _ _ _ h => h) (Or.inl ⟨by kernel_rfl, ?_⟩) (by assumption) ?_
                rotate_left
                · intro w' hSw; (try dsimp only at hSw); go_simp; try with_reducible rfl
                try simp only [Act.put, List.setIfInBounds_toArray, List.set_cons_zero, List.set_cons_succ]
                refine wpAnyH_take (i := 9) (v := ?_) (by simp only [List.getElem?_toArray, List.getElem?_cons_succ, List.getElem?_cons_zero] <;> rfl) (by kernel_rfl) (by kernel_rfl) (by kernel_rfl) (by exact fun _ _ _ h => h) (Or.inl ⟨by kernel_rfl, ?_⟩) (by assumption) ?_
                rotate_left
                · intro w' hSw; (try dsimp only at hSw); go_simp; try with_reducible rfl
                try simp only [Act.put, List.setIfInBounds_toArray, List.set_cons_zero, List.set_cons_succ]
                refine wpAnyH_ready (rs := [8]) (by kernel_rfl) (by simp) (AllReadyH.cons rfl (fun K hK => ?_) AllReadyH.nil)
                go_simp
                (go_at_call 55; refine (spec_l8Arrivals H.out (hwb0.trans inferInstance) PF.out.time _ _ _ PF.out.ch.1 PF.out.ch.2 PF.out.fr.1 PF.out.fr.2 hd0 hd1 m hm100 _ rfl).mono ?_; rintro e w2 ⟨g2, o2, c2, rfl, hL2, hR2, hg2, L2⟩; have X2 := Later.trans (w := wb) inferInstance L2; have Y2 := Later.trans (w := wr) inferInstance L2; have U2 := Later.trans (w := w3) inferInstance L2; have hcc := hR2.cells HAT.out; clear hL2 hR2 hg2)
                refine hK.out _ _ (by exact ⟨inferInstance, inferInstance, inferInstance⟩) (fun hHeld => ?_)
                try simp only [Act.put, List.setIfInBounds_toArray, List.set_cons_zero, List.set_cons_succ]
                refine wpAnyH_take (i := 10) (v := ?_) (by simp only [List.getElem?_toArray, List.getElem?_cons_succ, List.getElem?_cons_zero] <;> rfl) (by kernel_rfl) (by kernel_rfl) (by kernel_rfl) (by exact fun _ _ _ h => h) (Or.inl ⟨by kernel_rfl, ?_⟩) (by assumption) ?_
                rotate_left
                · intro w' hSw; (try dsimp only at hSw); go_simp; try with_reducible rfl
                try simp only [Act.put, List.setIfInBounds_toArray, List.set_cons_zero, List.set_cons_succ]
                refine wpAnyH_ready (rs := [11]) (by kernel_rfl) (by simp) (AllReadyH.cons rfl (fun K hK => ?_) AllReadyH.nil)
                go_simp
                skip
                refine hK.out _ _ (by exact ⟨inferInstance, inferInstance, inferInstance⟩) (fun hHeld => ?_)
                try simp only [Act.put, List.setIfInBounds_toArray, List.set_cons_zero, List.set_cons_succ]
                refine wpAnyH_take (i := 12) (v := ?_) (by simp only [List.getElem?_toArray, List.getElem?_cons_succ, List.getElem?_cons_zero] <;> rfl) (by kernel_rfl) (by kernel_rfl) (by kernel_rfl) (by exact fun _ _ _ h => h) (Or.inl ⟨by kernel_rfl, ?_⟩) (by assumption) ?_
                rotate_left
                · intro w' hSw; (try dsimp only at hSw); go_simp; try with_reducible rfl
                try simp only [Act.put, List.setIfInBounds_toArray, List.set_cons_zero, List.set_cons_succ]
                refine wpAnyH_done (by kernel_rfl) ?_ _
                go_wp2_with fail
                go_roundw
                case rel => exact ⟨m + 1, bl.set m v, now, _, _, by omega, by omega, by go_num, rfl, by omega, by show _ = _; rw [List.length_set]; exact HBL.out, HF3, HOKN, own_set (ownsRow_later hown.out (inferInstance : Later wr w2)) (fun k hk => by have := (hown.out.lt k hk).1; have := HB6.out; omega) _ _, own_set (ownsRow_later hout.out (inferInstance : Later wr w2)) (fun k hk => HOB.out k hk) _ _, (hB.later (inferInstance : Later wr w2)).rowSet v, by have h2 := Later.size (w := wr) Y2; have h3 := h6r.out; simp; omega, inferInstance, inferInstance⟩
                case measure => simp [intOf]; omega
          · rw [nowGo_no (S := Sd) (d := d) (f := 5 - (m + 1)) (m := m) (best := bl) (now := now) (by rw [hgb, hv]; exact (fun e => e.2.elim cb cl))] at HF1
            have HF3 := Lib.hid HF1
            clear HF1 hgb
            go_wp2_with fail
            refine wp_region_held_drew (S := (fun w' => Later wb w' ∧ Later w3 w' ∧ Later wr w')) (by kernel_rfl) (by exact ⟨inferInstance, inferInstance, inferInstance⟩) (fun hHeld => ?_)
            refine wpAnyH_take (i := 0) (v := ?_) (by simp only [List.getElem?_toArray, List.getElem?_cons_zero] <;> rfl) (by kernel_rfl) (by kernel_rfl) (by kernel_rfl) (by exact fun _ _ _ h => h) (Or.inl ⟨by kernel_rfl, ?_⟩) (by assumption) ?_
            rotate_left
            · intro w' hSw; (try dsimp only at hSw); go_simp; try with_reducible rfl
            try simp only [Act.put, List.setIfInBounds_toArray, List.set_cons_zero, List.set_cons_succ]
            refine wpAnyH_take (i := 1) (v := ?_) (by simp only [List.getElem?_toArray, List.getElem?_cons_succ, List.getElem?_cons_zero] <;> rfl) (by kernel_rfl) (by kernel_rfl) (by kernel_rfl) (by exact fun _ _ _ h => h) (Or.inl ⟨by kernel_rfl, ?_⟩) (by assumption) ?_
            rotate_left
            · intro w' hSw; (try dsimp only at hSw); go_simp; try with_reducible rfl
            try simp only [Act.put, List.setIfInBounds_toArray, List.set_cons_zero, List.set_cons_succ]
            refine wpAnyH_take (i := 2) (v := ?_) (by simp only [List.getElem?_toArray, List.getElem?_cons_succ, List.getElem?_cons_zero] <;> rfl) (by kernel_rfl) (by kernel_rfl) (by kernel_rfl) (by exact fun _ _ _ h => h) (Or.inl ⟨by kernel_rfl, ?_⟩) (by assumption) ?_
            rotate_left
            · intro w' hSw; (try dsimp only at hSw); go_simp; try with_reducible rfl
            try simp only [Act.put, List.setIfInBounds_toArray, List.set_cons_zero, List.set_cons_succ]
            refine wpAnyH_take (i := 3) (v := ?_) (by simp only [List.getElem?_toArray, List.getElem?_cons_succ, List.getElem?_cons_zero] <;> rfl) (by kernel_rfl) (by kernel_rfl) (by kernel_rfl) (by exact fun _ _ _ h => h) (Or.inl ⟨by kernel_rfl, ?_⟩) (by assumption) ?_
            rotate_left
            · intro w' hSw; (try dsimp only at hSw); go_simp; try with_reducible rfl
            try simp only [Act.put, List.setIfInBounds_toArray, List.set_cons_zero, List.set_cons_succ]
            refine wpAnyH_take (i := 4) (v := ?_) (by simp only [List.getElem?_toArray, List.getElem?_cons_succ, List.getElem?_cons_zero] <;> rfl) (by kernel_rfl) (by kernel_rfl) (by kernel_rfl) (by exact fun _ _ _ h => h) (Or.inl ⟨by kernel_rfl, ?_⟩) (by assumption) ?_
            rotate_left
            · intro w' hSw; (try dsimp only at hSw); go_simp; try with_reducible rfl
            try simp only [Act.put, List.setIfInBounds_toArray, List.set_cons_zero, List.set_cons_succ]
            refine wpAnyH_take (i := 5) (v := ?_) (by simp only [List.getElem?_toArray, List.getElem?_cons_succ, List.getElem?_cons_zero] <;> rfl) (by kernel_rfl) (by kernel_rfl) (by kernel_rfl) (by exact fun _ _ _ h => h) (Or.inl ⟨by kernel_rfl, ?_⟩) (by assumption) ?_
            rotate_left
            · intro w' hSw; (try dsimp only at hSw); go_simp; try with_reducible rfl
            try simp only [Act.put, List.setIfInBounds_toArray, List.set_cons_zero, List.set_cons_succ]
            refine wpAnyH_take (i := 6) (v := ?_) (by simp only [List.getElem?_toArray, List.getElem?_cons_succ, List.getElem?_cons_zero] <;> rfl) (by kernel_rfl) (by kernel_rfl) (by kernel_rfl) (by exact fun _ _ _ h => h) (Or.inl ⟨by kernel_rfl, ?_⟩) (by assumption) ?_
            rotate_left
            · intro w' hSw; (try dsimp only at hSw); go_simp; try with_reducible rfl
            try simp only [Act.put, List.setIfInBounds_toArray, List.set_cons_zero, List.set_cons_succ]
            refine wpAnyH_take (i := 7) (v := ?_) (by simp only [List.getElem?_toArray, List.getElem?_cons_succ, List.getElem?_cons_zero] <;> rfl) (by kernel_rfl) (by kernel_rfl) (by kernel_rfl) (by exact fun _ _ _ h => h) (Or.inl ⟨by kernel_rfl, ?_⟩) (by assumption) ?_
            rotate_left
            · intro w' hSw; (try dsimp only at hSw); go_simp; try with_reducible rfl
            try simp only [Act.put, List.setIfInBounds_toArray, List.set_cons_zero, List.set_cons_succ]
            refine wpAnyH_take (i := 9) (v := ?_) (by simp only [List.getElem?_toArray, List.getElem?_cons_succ, List.getElem?_cons_zero] <;> rfl) (by kernel_rfl) (by kernel_rfl) (by kernel_rfl) (by exact fun _ _ _ h => h) (Or.inl ⟨by kernel_rfl, ?_⟩) (by assumption) ?_
            rotate_left
            · intro w' hSw; (try dsimp only at hSw); go_simp; try with_reducible rfl
            try simp only [Act.put, List.setIfInBounds_toArray, List.set_cons_zero, List.set_cons_succ]
            refine wpAnyH_ready (rs := [8]) (by kernel_rfl) (by simp) (AllReadyH.cons rfl (fun K hK => ?_) AllReadyH.nil)
            go_simp
            (go_at_call 55; refine (spec_l8Arrivals H.out (hwb0.trans inferInstance) PF.out.time _ _ _ PF.out.ch.1 PF.out.ch.2 PF.out.fr.1 PF.out.fr.2 hd0 hd1 m hm100 _ rfl).mono ?_; rintro e w2 ⟨g2, o2, c2, rfl, hL2, hR2, hg2, L2⟩; have X2 := Later.trans (w := wb) inferInstance L2; have Y2 := Later.trans (w := wr) inferInstance L2; have U2 := Later.trans (w := w3) inferInstance L2; have hcc := hR2.cells HAT.out; clear hL2 hR2 hg2)
            refine hK.out _ _ (by exact ⟨inferInstance, inferInstance, inferInstance⟩) (fun hHeld => ?_)
            try simp only [Act.put, List.setIfInBounds_toArray, List.set_cons_zero, List.set_cons_succ]
            refine wpAnyH_take (i := 10) (v := ?_) (by simp only [List.getElem?_toArray, List.getElem?_cons_succ, List.getElem?_cons_zero] <;> rfl) (by kernel_rfl) (by kernel_rfl) (by kernel_rfl) (by exact fun _ _ _ h => h) (Or.inl ⟨by kernel_rfl, ?_⟩) (by assumption) ?_
            rotate_left
            · intro w' hSw; (try dsimp only at hSw); go_simp; try with_reducible rfl
            try simp only [Act.put, List.setIfInBounds_toArray, List.set_cons_zero, List.set_cons_succ]
            refine wpAnyH_ready (rs := [11]) (by kernel_rfl) (by simp) (AllReadyH.cons rfl (fun K hK => ?_) AllReadyH.nil)
            go_simp
            skip
            refine hK.out _ _ (by exact ⟨inferInstance, inferInstance, inferInstance⟩) (fun hHeld => ?_)
            try simp only [Act.put, List.setIfInBounds_toArray, List.set_cons_zero, List.set_cons_succ]
            refine wpAnyH_take (i := 12) (v := ?_) (by simp only [List.getElem?_toArray, List.getElem?_cons_succ, List.getElem?_cons_zero] <;> rfl) (by kernel_rfl) (by kernel_rfl) (by kernel_rfl) (by exact fun _ _ _ h => h) (Or.inl ⟨by kernel_rfl, ?_⟩) (by assumption) ?_
            rotate_left
            · intro w' hSw; (try dsimp only at hSw); go_simp; try with_reducible rfl
            try simp only [Act.put, List.setIfInBounds_toArray, List.set_cons_zero, List.set_cons_succ]
            refine wpAnyH_done (by kernel_rfl) ?_ _
            go_wp2_with fail
            go_roundw
            case rel => exact ⟨m + 1, bl, now, A', c', by omega, by omega, by go_num, rfl, by omega, HBL, HF3, HOKN, ownsRow_later hown.out (inferInstance : Later wr _), ownsRow_later hout.out (inferInstance : Later wr _), hB.later (inferInstance : Later wr _), Nat.le_trans h6r.out (Later.size (w := wr) inferInstance), inferInstance, inferInstance⟩
            case measure => simp [intOf]; omega
        · obtain rfl : m = 5 := by omega
          have HE : Hid (nowGo Sd d 4 1 best [] = (bl, now)) := by
            have h9 := HG.out
            simp only [Nat.sub_self, nowGo] at h9
            exact h9.symm
          have HF3 := Lib.hid HF2.out
          obtain ⟨A7, c7, f7, hv7, ho7, _, _⟩ := OSl.of_flat (r := rChoice) hout.out rfl (fun x hx W => ⟨rfl, HOK.out x hx⟩)
          have hC7 : Choices wr A7 out.length c7 out := ho7.reads
          cases hv7
          have HC7 := Lib.hid hC7
          clear ho7 hC7 HG
          go_wp2_with (at_builtin; refine wpList_app_FA (r := rChoice) rfl _ _ 45 rfl Tryz.underlying45 infoCh rfl (by decide) (by decide) rfl hown.out (inferInstance : Later w3 wr) h36 h6r.out rfl HC7.out (by omega) ?_; intro v' w9 hown' hX9 hG9; have U9 := Later.trans (w := wb) inferInstance hX9; have HG9 := Lib.hid hG9)
          obtain ⟨A9, c9, rfl⟩ := own_shape hown'
          have HN9 : Hid (w9.ownsRow w6.heap.size 56 3 (.slice A9 (now ++ out).length c9) (now ++ out).length ((now ++ out).flatMap encCh)) := by
            show World.ownsRow _ _ _ _ _ _ _
            rw [List.flatMap_append, List.length_append]; exact hown'
          have HB9 := Lib.hid (blk_grown hB HG9.out (fun j hj => by have := (hown.out.lt j hj).1; have := HB6.out; omega))
          have HP9 : Hid (profGo (fun d m => gi (arrS t change from_ d m) q) (L.drop (k + 1)) bl (now ++ out) = profGo (fun d m => gi (arrS t change from_ d m) q) L best0 []) := by
            show _ = _
            rw [← HF2.out, HE.out]
          clear hown'
          go_roundw
          case rel => exact ⟨k + 1, bl, now ++ out, A9, c9, by omega, by go_num, congrArg (fun z => Value.slice A9 z c9) (by simp), by simp; omega, HBL, HP9, fun y hy => by
            rcases List.mem_append.1 hy with hy | hy
            · exact HOKN.out y hy
            · exact HOK.out y hy, own_base HN9.out (by have := h36; omega), fun k' hk' => by have := (HN9.out.lt k' hk').1; have := HB6.out; omega, HB9.out, inferInstance, inferInstance⟩
          case measure => simp [intOf]; omega
    · have HE : Hid (out = profGo (fun d m => gi (arrS t change from_ d m) q) L best0 []) := by
        have h9 := HF.out
        rw [List.drop_eq_nil_of_le (by have := HL3.out; omega)] at h9
        exact h9
      have hkt : ¬ (k : Int) < n3 := by omega
      clear HF
      go_wp2
      go_ret
      obtain ⟨A7, c7, f7, hv7, ho7, hnd7, hlo7⟩ := OSl.of_flat (r := rChoice) hout.out rfl (fun x hx W => ⟨rfl, HOK.out x hx⟩)
      cases hv7
      exact ⟨_, _, _, f7, rfl, by rw [← HE.out]; exact ho7, hnd7, fun g hg => by have := hlo7 g hg; omega, hww.trans inferInstance⟩
end Go.Proofs.YtbkeccpjcmhhjaaGreat
namespace Go.Proofs.YtbkeccpjcmhhjaaGreat
open Go Go.RowKit
set_option linter.unusedVariables false
set_option maxRecDepth 100000
set_option linter.unusedSimpArgs false
theorem profI_len (t : Timetable) (change from_ to : Int) : (profI t change from_ to).length ≤ 4 * t.Trips.length := by
  have h1 : ∀ (A : Nat → Int) (d : Int) (f m : Nat) (b : Int), (chGo A d f m b).length ≤ f := by
    intro A d f
    induction f with
    | zero => intro m b; simp [chGo]
    | succ f ih =>
      intro m b
      simp only [chGo]
      split
      · have := ih (m + 1) (A m); simp; omega
      · have := ih (m + 1) b; omega
  have h2 : ∀ (A : Int → Nat → Int) (D : List Int), (allCh A D).length ≤ 4 * D.length := by
    intro A D
    unfold allCh
    induction D with
    | nil => simp
    | cons d D ih => rw [List.flatMap_cons, List.length_append, List.length_cons]; have := h1 (A d) d 4 1 never; omega
  unfold profI keepCh
  have h3 := List.length_filter_le (fun c => !((allCh (fun d m => arrV t change from_ d m to) (depsI t from_)).any fun b => better b c)) (allCh (fun d m => arrV t change from_ d m to) (depsI t from_))
  have h4 := h2 (fun d m => arrV t change from_ d m to) (depsI t from_)
  have h5 := depsI_len t from_
  omega
theorem profRes_len (t : Timetable) (change from_ to : Int) : (profRes t change from_ to).1.length ≤ 48 := by
  unfold profRes
  split
  · rename_i h
    have := profI_len t change from_ to
    have := (pairFacts h).time.len
    simp only; omega
  · simp
/-- What a profile's choices are like. -/
structure ChIn (c : Choice) : Prop where
  d : 0 ≤ c.Depart ∧ c.Depart ≤ 2099
  a : 0 ≤ c.Arrive ∧ c.Arrive ≤ 2099
  l : 1 ≤ c.Legs ∧ c.Legs ≤ 4
theorem profI_in {t : Timetable} {change from_ to : Int} (pf : PairFacts t change from_ to) : ∀ c, c ∈ profI t change from_ to → ChIn c := by
  intro c hc
  have hc2 : c ∈ allCh (fun d m => arrV t change from_ d m to) (depsI t from_) := by unfold profI keepCh at hc; exact (List.mem_filter.1 hc).1
  unfold allCh at hc2
  obtain ⟨d, hd, hc3⟩ := List.mem_flatMap.1 hc2
  have hdb := deps_bd pf.time (deps_sub hd)
  have key : ∀ (f m : Nat) (b : Int), 1 ≤ m → m + f ≤ 5 → b ≤ never → c ∈ chGo (fun m => arrV t change from_ d m to) d f m b → ChIn c := by
    intro f
    induction f with
    | zero => intro m b _ _ _ h; simp [chGo] at h
    | succ f ih =>
      intro m b h1 h2 h3 h4
      have hr := arrV_rng pf.time pf.ch.1 pf.fr.1 pf.fr.2 pf.to_.1 pf.to_.2 (at_ := d) m
      simp only [chGo] at h4
      split at h4
      · rename_i hlt
        rcases List.mem_cons.1 h4 with rfl | h4
        · exact ⟨hdb, by simp only; omega, by simp only; omega⟩
        · exact ih (m + 1) _ (by omega) (by omega) (by omega) h4
      · exact ih (m + 1) b (by omega) (by omega) h3 h4
  exact key 4 1 never (by omega) (by omega) (Int.le_refl _) hc3
theorem impl_TravelProfile {w0 w : World} {sA0 : Option Addr} {sn0 sc0 : Nat} {sA1 : Option Addr} {sn1 sc1 : Nat} {sA2 : Option Addr} {sn2 sc2 : Nat} {t : Timetable} (h : TimetableAt w0 sA0 sn0 sc0 sA1 sn1 sc1 sA2 sn2 sc2 t) (hl : Later w0 w) (change from_ to : Int) : Calls Tryz.prog 12 #[.agg #[.slice sA0 sn0 sc0, .slice sA1 sn1 sc1, .slice sA2 sn2 sc2], .int .i64 change, .int .i64 from_, .int .i64 to] w (RetO2 3 oChoice (profRes t change from_ to).1 (profRes t change from_ to).2 w) := by
  have HB0 : ∀ W [Later (w.alloc (.cells #[.slice sA0 sn0 sc0, .slice sA1 sn1 sc1, .slice sA2 sn2 sc2] 39)) W] (j : Nat), W.cell? ⟨w.heap.size, j, none⟩ = #[.slice sA0 sn0 sc0, .slice sA1 sn1 sc1, .slice sA2 sn2 sc2][j]? := Later.boxes (t := 39) (fr := (0, 0)) (heap_new (by simp; try omega)); obtain ⟨wb, hwb⟩ : ∃ wb : World, wb = (w.alloc (.cells #[.slice sA0 sn0 sc0, .slice sA1 sn1 sc1, .slice sA2 sn2 sc2] 39)) := ⟨_, rfl⟩; haveI hbW : Later wb (w.alloc (.cells #[.slice sA0 sn0 sc0, .slice sA1 sn1 sc1, .slice sA2 sn2 sc2] 39)) := (by rw [hwb]; exact Later.rfl_); haveI hww : Later w wb := (by rw [hwb]; infer_instance); rw [← hwb] at HB0; have hbE := Lib.hid (congrArg (fun x : World => x.heap.size) hwb); clear hwb
  have hwb0 := hl.trans hww
  have H := Lib.hid h
  clear h
  by_cases c0 : okPair t change from_ to = true
  · have PF := Lib.hid (pairFacts c0)
    rw [show profRes t change from_ to = (profI t change from_ to, true) from if_pos c0]
    go_enter Tryz.func12, Tryz.ntmps12
    go_wp2_with first
      | (go_at_call 22; refine (impl_isPair H.out (hwb0.trans inferInstance) _ _ _).mono ?_; rintro e w1 ⟨rfl, L1⟩; have X1 := Later.trans (w := wb) inferInstance L1)
      | (go_at_call 24; refine (impl_travelProfile H.out (hwb0.trans inferInstance) _ _ _ PF.out).mono ?_; rintro e w3 ⟨A3, n3, c3, fp3, rfl, ho3, hnd3, hlo3, L3⟩; have X3 := Later.trans (w := wb) inferInstance L3)
    go_ret2
    exact ⟨A3, n3, c3, fp3, rfl, ho3, hnd3, fun g hg => by have := hlo3 g hg; have := (hww.trans X1).size; omega, hww.trans inferInstance⟩
  · have c1 : okPair t change from_ to = false := by simpa using c0
    rw [show profRes t change from_ to = ([], false) from if_neg c0]
    clear c0
    go_enter Tryz.func12, Tryz.ntmps12
    go_wp2_with (go_at_call 22; refine (impl_isPair H.out (hwb0.trans inferInstance) _ _ _).mono ?_; rintro e w1 ⟨rfl, L1⟩; have X1 := Later.trans (w := wb) inferInstance L1)
    go_ret2
    exact ⟨_, _, _, [], rfl, OSl.nil_ _, by simp, by simp, hww.trans inferInstance⟩
theorem spec_TravelProfile {w0 w : World} {sA0 : Option Addr} {sn0 sc0 : Nat} {sA1 : Option Addr} {sn1 sc1 : Nat} {sA2 : Option Addr} {sn2 sc2 : Nat} {t : Timetable} (h : TimetableAt w0 sA0 sn0 sc0 sA1 sn1 sc1 sA2 sn2 sc2 t) (hl : Later w0 w) (change from_ to : Int) : Calls Tryz.prog 11 #[.agg #[.slice sA0 sn0 sc0, .slice sA1 sn1 sc1, .slice sA2 sn2 sc2], .int .i64 change, .int .i64 from_, .int .i64 to] w (RetO2 3 oChoice (profRes t change from_ to).1 (profRes t change from_ to).2 w) := by
  have HB0 : ∀ W [Later (w.alloc (.cells #[.slice sA0 sn0 sc0, .slice sA1 sn1 sc1, .slice sA2 sn2 sc2] 39)) W] (j : Nat), W.cell? ⟨w.heap.size, j, none⟩ = #[.slice sA0 sn0 sc0, .slice sA1 sn1 sc1, .slice sA2 sn2 sc2][j]? := Later.boxes (t := 39) (fr := (0, 0)) (heap_new (by simp; try omega)); obtain ⟨wb, hwb⟩ : ∃ wb : World, wb = (w.alloc (.cells #[.slice sA0 sn0 sc0, .slice sA1 sn1 sc1, .slice sA2 sn2 sc2] 39)) := ⟨_, rfl⟩; haveI hbW : Later wb (w.alloc (.cells #[.slice sA0 sn0 sc0, .slice sA1 sn1 sc1, .slice sA2 sn2 sc2] 39)) := (by rw [hwb]; exact Later.rfl_); haveI hww : Later w wb := (by rw [hwb]; infer_instance); rw [← hwb] at HB0; have hbE := Lib.hid (congrArg (fun x : World => x.heap.size) hwb); clear hwb
  have hwb0 := hl.trans hww
  have H := Lib.hid h
  clear h
  by_cases c0 : okPair t change from_ to = true
  · have PF := Lib.hid (pairFacts c0)
    have HS := Lib.hid (prof_same PF.out)
    rw [show profRes t change from_ to = (profI t change from_ to, true) from if_pos c0]
    go_enter Tryz.func11, Tryz.ntmps11
    go_wp2_with first
      | (go_at_call 29; refine (spec_l9Asked H.out (hwb0.trans inferInstance) _ _ _).mono ?_; rintro e w1 ⟨rfl, L1⟩; have X1 := Later.trans (w := wb) inferInstance L1)
      | (go_at_call 30; refine (spec_l9Profile H.out (hwb0.trans inferInstance) _ _ _ PF.out).mono ?_; rw [HS.out]; rintro e w3 ⟨A3, n3, c3, fp3, rfl, ho3, hnd3, hlo3, L3⟩; have X3 := Later.trans (w := wb) inferInstance L3)
    go_ret2
    exact ⟨A3, n3, c3, fp3, rfl, ho3, hnd3, fun g hg => by have := hlo3 g hg; have := (hww.trans X1).size; omega, hww.trans inferInstance⟩
  · have c1 : okPair t change from_ to = false := by simpa using c0
    rw [show profRes t change from_ to = ([], false) from if_neg c0]
    clear c0
    go_enter Tryz.func11, Tryz.ntmps11
    go_wp2_with (go_at_call 29; refine (spec_l9Asked H.out (hwb0.trans inferInstance) _ _ _).mono ?_; rintro e w1 ⟨rfl, L1⟩; have X1 := Later.trans (w := wb) inferInstance L1)
    go_ret2
    exact ⟨_, _, _, [], rfl, OSl.nil_ _, by simp, by simp, hww.trans inferInstance⟩
end Go.Proofs.YtbkeccpjcmhhjaaGreat
namespace Go.Proofs.YtbkeccpjcmhhjaaGreat
open Go Go.RowKit
set_option linter.unusedVariables false
set_option maxRecDepth 100000
set_option linter.unusedSimpArgs false
/-- A choice and whether there is one. -/
def RetChB (r : Choice × Bool) (w : World) (e : Ending) (w' : World) : Prop :=
  e = .returned (.tuple #[.agg #[.int .i64 r.1.Depart, .int .i64 r.1.Arrive, .int .i64 r.1.Legs], .bool r.2]) ∧ Later w w'
def chA (c : Choice) : Array Value := #[.int .i64 c.Depart, .int .i64 c.Arrive, .int .i64 c.Legs]
theorem Blk.ch {w : World} {g : Nat} {t : TypeId} {c : Choice} (h : Blk w g t (chA c)) : w.cell? ⟨g, 0, none⟩ = some (.int .i64 c.Depart) ∧ w.cell? ⟨g, 1, none⟩ = some (.int .i64 c.Arrive) ∧ w.cell? ⟨g, 2, none⟩ = some (.int .i64 c.Legs) :=
  ⟨(h.cell 0).trans rfl, (h.cell 1).trans rfl, (h.cell 2).trans rfl⟩
theorem Blk.chs {w : World} {g : Nat} {t : TypeId} {c : Choice} (h : Blk w g t (chA c)) : (∀ W [Later w W], W.cell? ⟨g, 0, none⟩ = some (.int .i64 c.Depart)) ∧ (∀ W [Later w W], W.cell? ⟨g, 1, none⟩ = some (.int .i64 c.Arrive)) ∧ (∀ W [Later w W], W.cell? ⟨g, 2, none⟩ = some (.int .i64 c.Legs)) :=
  ⟨fun W hW => (h.later hW).ch.1, fun W hW => (h.later hW).ch.2.1, fun W hW => (h.later hW).ch.2.2⟩
theorem Blk.frs {w : World} {g : Nat} {t : TypeId} {cs : Array Value} (h : Blk w g t cs) : ∀ (i : Nat) (W : World) [Later w W], W.frozen? ⟨g, i, none⟩ = false := fun i W hW => (h.later hW).frozen i
theorem Blk.put3 {w : World} {g : Nat} {t : TypeId} {c : Choice} (h : Blk w g t (chA c)) (x : Choice) : Blk (((w.setCell ⟨g, 0, none⟩ (.int .i64 x.Depart)).setCell ⟨g, 1, none⟩ (.int .i64 x.Arrive)).setCell ⟨g, 2, none⟩ (.int .i64 x.Legs)) g t (chA x) :=
  ((h.set_ 0 _).set_ 1 _).set_ 2 _
/-- The program's way: the best so far, and whether there is one. -/
def fastI : List Choice → Choice × Bool → Choice × Bool
  | [], s => s
  | c :: l, s => fastI l (if s.2 = false ∨ c.Arrive - c.Depart < s.1.Arrive - s.1.Depart then (c, true) else s)
theorem fastI_true (l : List Choice) (b : Choice) : fastI l (b, true) = (fastGo l b, true) := by
  induction l generalizing b with
  | nil => rfl
  | cons c l ih =>
    simp only [fastI, fastGo]
    by_cases h : c.Arrive - c.Depart < b.Arrive - b.Depart
    · rw [if_pos (.inr h), if_pos h, ih]
    · rw [if_neg (by simpa using h), if_neg h, ih]
theorem fastI_eq (l : List Choice) : fastI l (noChoice, false) = fastOf l := by
  cases l with
  | nil => rfl
  | cons c l => simp only [fastI, fastOf]; rw [if_pos (by simp), fastI_true]
end Go.Proofs.YtbkeccpjcmhhjaaGreat
namespace Go.Proofs.YtbkeccpjcmhhjaaGreat
open Go Go.RowKit
set_option linter.unusedVariables false
set_option maxRecDepth 100000
set_option linter.unusedSimpArgs false
/-- A choice, its cost, and whether there is one. -/
def RetChC (r : Choice × Int × Bool) (w : World) (e : Ending) (w' : World) : Prop :=
  e = .returned (.tuple #[.agg #[.int .i64 r.1.Depart, .int .i64 r.1.Arrive, .int .i64 r.1.Legs], .int .i64 r.2.1, .bool r.2.2]) ∧ Later w w'
def costEnd : Option (Choice × Int) → Choice × Int × Bool
  | none => (noChoice, 0, false)
  | some x => (x.1, x.2, true)
def costRes (t : Timetable) (change from_ to at_ per : Int) : Choice × Int × Bool :=
  if okPair t change from_ to = true ∧ okTime at_ = true ∧ inB per 0 100 = true then costEnd (costGo at_ per (profI t change from_ to) none) else (noChoice, 0, false)
theorem costRes_no {t : Timetable} {change from_ to at_ per : Int} (h : ¬ (okPair t change from_ to = true ∧ okTime at_ = true ∧ inB per 0 100 = true)) : costRes t change from_ to at_ per = (noChoice, 0, false) := if_neg h
theorem costRes_yes {t : Timetable} {change from_ to at_ per : Int} (h1 : okPair t change from_ to = true) (h2 : okTime at_ = true) (h3 : inB per 0 100 = true) : costRes t change from_ to at_ per = costEnd (costGo at_ per (profI t change from_ to) none) := if_pos ⟨h1, h2, h3⟩
theorem costGo_at {at_ per : Int} {l : List Choice} {k : Nat} {c : Choice} {b : Option (Choice × Int)} (h : l[k]? = some c) : costGo at_ per (l.drop k) b = costGo at_ per (l.drop (k + 1)) (if at_ ≤ c.Depart ∧ beats b (costOf at_ per c) = true then some (c, costOf at_ per c) else b) := by
  rw [drop_at h]; rfl
theorem cost_bd {c : Choice} (h : ChIn c) {at_ per : Int} (a0 : 0 ≤ at_) (a1 : at_ ≤ 1799) (p0 : 0 ≤ per) (p1 : per ≤ 100) : 0 ≤ per * c.Legs ∧ per * c.Legs ≤ 400 := by
  have h1 := h.l
  have : c.Legs = 1 ∨ c.Legs = 2 ∨ c.Legs = 3 ∨ c.Legs = 4 := by omega
  rcases this with e | e | e | e <;> rw [e] <;> omega
/-- The state of the program: the best and its cost; without one the zero values. -/
def stI : Option (Choice × Int) → Choice × Int × Bool := costEnd
end Go.Proofs.YtbkeccpjcmhhjaaGreat
namespace Go.Proofs.YtbkeccpjcmhhjaaGreat
open Go Go.RowKit
set_option linter.unusedVariables false
set_option maxRecDepth 100000
theorem laws_eqChoice (a b : Choice) (w : World) : Calls Tryz.prog 31 #[.agg #[.int .i64 a.Depart, .int .i64 a.Arrive, .int .i64 a.Legs], .agg #[.int .i64 b.Depart, .int .i64 b.Arrive, .int .i64 b.Legs]] w (Ret (.bool (decide (a = b))) w) := by
  go_enter Tryz.func31, Tryz.ntmps31
  go_wp2
  all_goals
    go_ret
    exact ⟨ret_bool (by cases a; cases b; simp_all), inferInstance⟩
theorem laws_eqChoiceS {w0 w1 w : World} {A B : Option Addr} {n c m d : Nat} {l r : List Choice} (h : Choices w0 A n c l) (hl : Later w0 w) (h1 : Choices w1 B m d r) (hl1 : Later w1 w) :
    Calls Tryz.prog 13 #[.slice A n c, .slice B m d] w (Ret (.bool (decide (l = r))) w) := by
  replace h := h.later hl
  replace h1 := h1.later hl1
  have hn := h.le
  have hm := h1.le
  by_cases hnm : n = m
  · subst hnm
    have hcont : ((n : Int) != n) = false := by simp
    go_enter Tryz.func13, Tryz.ntmps13
    go_wp2
    go_loopw [5] (fun i wr => ∃ k : Nat, k ≤ n ∧ i = .int .i64 k ∧ Hid (l.drop k = r.drop k ↔ l = r) ∧ Later w wr) (fun i _ => n - (intOf i).toNat)
    case atStart => exact ⟨0, by omega, rfl, Iff.rfl, inferInstance⟩
    case round =>
      obtain ⟨k, hk, rfl, HF, hX⟩ := hrel
      by_cases hlt : k < n
      · obtain ⟨b, o, x, rfl, hx, hc0, hc1, hc2, hi⟩ := Choices.at_ h hlt
        obtain ⟨b', o', y, rfl, hy, hc0', hc1', hc2', hi'⟩ := Choices.at_ h1 hlt
        have hd := drop_at hx.out
        have hd' := drop_at hy.out
        clear hi hi'
        by_cases hxy : x = y
        · have HF2 : Hid (l.drop (k + 1) = r.drop (k + 1) ↔ l = r) := by rw [← HF.out, hd, hd', hxy]; show _ ↔ _; simp
          have hb : decide (x = y) = true := by simpa using hxy
          clear hxy hd hd'
          go_wp2_with fail
          go_still_tail 8, (by kernel_rfl)
          change wpList _ _ _ _ _ wr.drew
          go_wp2_with fail
          refine (laws_eqChoice _ _ _).mono ?_
          rintro e w2 ⟨rfl, hL⟩
          have hY := Later.trans (w := w) inferInstance hL
          go_wp2
          go_roundw
          case rel => exact ⟨k + 1, by omega, by go_num, HF2, inferInstance⟩
          case measure => simp [intOf]; omega
        · have HF2 : Hid (l ≠ r) := by rw [hd, hd'] at HF; intro e; have := HF.out.2 e; simp at this; exact hxy this.1
          have hb : decide (x = y) = false := by simpa using hxy
          clear hxy hd hd'
          go_wp2_with fail
          go_still_tail 8, (by kernel_rfl)
          change wpList _ _ _ _ _ wr.drew
          go_wp2_with fail
          refine (laws_eqChoice _ _ _).mono ?_
          rintro e w2 ⟨rfl, hL⟩
          have hY := Later.trans (w := w) inferInstance hL
          go_wp2
          go_ret
          exact ⟨ret_bool (by rw [decide_eq_false HF2.out]), inferInstance⟩
      · have H2 : Hid (l = r) := by
          rw [List.drop_eq_nil_of_le (by have := h.len; omega), List.drop_eq_nil_of_le (by have := h1.len; omega)] at HF
          exact HF.out.1 rfl
        go_wp2
        go_ret
        exact ⟨ret_bool (by rw [decide_eq_true H2.out]), inferInstance⟩
  · have H2 : Hid (l ≠ r) := by intro e; apply hnm; rw [h.len, h1.len, e]
    have hb : ((n : Int) != m) = true := by rw [bne_iff_ne]; omega
    clear hnm
    go_enter Tryz.func13, Tryz.ntmps13
    go_wp2
    go_ret
    exact ⟨ret_bool (by rw [decide_eq_false H2.out]), inferInstance⟩
def mkChoices (k : Int) (n : Nat) : List Choice := (List.range n).map fun (i : Nat) => ⟨k + 3 * (i : Int), k + 3 * (i : Int) + 1, k + 3 * (i : Int) + 2⟩
theorem mkChoices_len (k : Int) (n : Nat) : (mkChoices k n).length = n := by simp [mkChoices]
theorem mkChoices_at {k : Int} {n j : Nat} {x : Choice} (h : (mkChoices k n)[j]? = some x) : j < n ∧ x = ⟨k + 3 * (j : Int), k + 3 * (j : Int) + 1, k + 3 * (j : Int) + 2⟩ := by
  unfold mkChoices at h
  rw [List.getElem?_map] at h
  by_cases hj : j < n
  · rw [List.getElem?_range hj] at h; simp only [Option.map_some, Option.some.injEq] at h; exact ⟨hj, h.symm⟩
  · rw [List.getElem?_eq_none (by simpa using hj)] at h; simp at h
theorem laws_markChoiceS {w : World} {A : Option Addr} {n c : Nat} {l : List Choice} {fp : List Nat} {k0 : Int} (h : OSl 3 (oFlat rChoice) w A n c l fp) (h0 : 0 ≤ k0) (h1 : k0 + 3 * n ≤ 4611686018427387904) :
    Calls Tryz.prog 15 #[.slice A n c, .int .i64 k0] w (RetMk (k0 + 3 * n) fp (fun w' => OSl 3 (oFlat rChoice) w' A n c (mkChoices k0 n) fp) w) := by
  have hn : n ≤ 9223372036854775807 := Nat.le_trans h.cap h.max
  have Hh := Lib.hid h
  rcases h.own with ⟨rfl, rfl⟩ | ⟨g, o, t, cs0, fps, rfl, hB0, rfl, hfl, hel⟩
  · obtain rfl : n = 0 := Hh.out.len
    clear h
    go_enter Tryz.func15, Tryz.ntmps15
    go_wp2
    go_loop [1, 5] (fun q i => i = .int .i64 0 ∧ q = .int .i64 k0) (fun q i => 0)
    case atStart => exact ⟨rfl, rfl⟩
    case round =>
      obtain ⟨rfl, rfl⟩ := hrel
      go_wp2
      go_ret
      exact ⟨ret_int (by simp), Touch.refl_, by simpa [mkChoices] using Hh.out⟩
  · have hlen := Lib.hid h.len
    have HC : Hid (∀ j t, j < n → t < 3 → ∃ v, cs0[o + j * 3 + t]? = some v) := fun j t hj ht => by
      obtain ⟨es, f, _, he, hc, _⟩ := hel j l[j]?.get! (by rw [List.getElem?_eq_getElem (by have := hlen.out; omega)]; rfl)
      exact ⟨es[t], hc t _ (List.getElem?_eq_getElem (by omega))⟩
    have HE : Hid (∀ (k : Nat) (x : Choice), l[k]? = some x → fps[k]? = some []) := fun k x hx => by
      obtain ⟨es, f, hf, _, _, hr⟩ := hel k x hx
      rw [hf, hr.2]
    have HB0 := Lib.hid hB0
    have Hfl := Lib.hid hfl
    clear h hel hB0 hfl
    go_enter Tryz.func15, Tryz.ntmps15
    go_wp2
    go_loopw [1, 5] (fun q i wr => ∃ (k : Nat) (cs : Array Value), k ≤ n ∧ i = .int .i64 k ∧ q = .int .i64 (k0 + 3 * k) ∧ Blk wr g t cs ∧ cs.size = cs0.size ∧ (∀ j : Nat, j < k → cs[o + j * 3]? = some (.int .i64 (k0 + 3 * (j : Int))) ∧ cs[o + j * 3 + 1]? = some (.int .i64 (k0 + 3 * (j : Int) + 1)) ∧ cs[o + j * 3 + 2]? = some (.int .i64 (k0 + 3 * (j : Int) + 2))) ∧ Touch (g :: fps.flatten) w wr) (fun _ i _ => n - (intOf i).toNat)
    case atStart => exact ⟨0, cs0, by omega, rfl, by simp, HB0.out, rfl, fun j hj => by omega, Touch.refl_⟩
    case round =>
      obtain ⟨k, cs, hk, rfl, rfl, hB, hsz, hcs, hX⟩ := hrel
      have HB := Lib.hid hB
      have HS := Lib.hid hcs
      have Hsz := Lib.hid hsz
      by_cases hlt : k < n
      · have hok : o + k * 3 + 2 < cs.size := by
          obtain ⟨v, hv⟩ := HC.out k 2 hlt (by omega)
          have := (Array.getElem?_eq_some_iff.1 hv).1
          have := Hsz.out
          omega
        obtain ⟨v0, hv0⟩ := hB.get (i := o + k * 3) (by omega)
        obtain ⟨v1, hv1⟩ := hB.get (i := o + k * 3 + 1) (by omega)
        obtain ⟨v2, hv2⟩ := hB.get (i := o + k * 3 + 2) (by omega)
        have hf0 := hB.frozen (o + k * 3)
        have hf1 := hB.frozen (o + k * 3 + 1)
        have hf2 := hB.frozen (o + k * 3 + 2)
        clear hB hcs hsz
        go_wp2
        go_roundw
        case rel =>
          refine ⟨k + 1, (((cs.setIfInBounds (o + k * 3) (.int .i64 (k0 + 3 * k))).setIfInBounds (o + k * 3 + 1) (.int .i64 (k0 + 3 * k + 1))).setIfInBounds (o + k * 3 + 2) (.int .i64 (k0 + 3 * k + 2))), by omega, by go_num, by go_num, ?_, by have := Hsz.out; simpa using this, fun j hj => ?_, ?_⟩
          · first | (rw [show (k0 + 3 * (k : Int) + 2) = k0 + 3 * (k : Int) + 1 + 1 from by omega]; exact (((HB.out.set_ _ _).set_ _ _).set_ _ _)) | exact (((HB.out.set_ _ _).set_ _ _).set_ _ _)
          · by_cases e : j = k
            · subst e
              exact ⟨by rw [set_ne _ (by omega), set_ne _ (by omega), set_eq _ (by (try simp only [Array.size_setIfInBounds]); omega)], by rw [set_ne _ (by omega), set_eq _ (by (try simp only [Array.size_setIfInBounds]); omega)], by rw [set_eq _ (by (try simp only [Array.size_setIfInBounds]); omega)]⟩
            · have h3 := HS.out j (by omega)
              exact ⟨by rw [set_ne _ (by omega), set_ne _ (by omega), set_ne _ (by omega)]; exact h3.1, by rw [set_ne _ (by omega), set_ne _ (by omega), set_ne _ (by omega)]; exact h3.2.1, by rw [set_ne _ (by omega), set_ne _ (by omega), set_ne _ (by omega)]; exact h3.2.2⟩
          · exact (((hX.set_ (by simp) _ _).set_ (by simp) _ _).set_ (by simp) _ _)
        case measure => simp [intOf]; omega
      · have hkn : k = n := by omega
        clear hB hcs hsz
        go_wp2
        go_ret
        subst hkn
        refine ⟨rfl, hX, ⟨by rw [mkChoices_len], Hh.out.cap, Hh.out.max, .inr ⟨g, o, t, cs, fps, rfl, HB.out, rfl, by rw [mkChoices_len, Hfl.out, hlen.out], fun j x hx => ?_⟩⟩⟩
        obtain ⟨hj, rfl⟩ := mkChoices_at hx
        have h3 := HS.out j hj
        refine ⟨[.int .i64 (k0 + 3 * (j : Int)), .int .i64 (k0 + 3 * (j : Int) + 1), .int .i64 (k0 + 3 * (j : Int) + 2)], [], HE.out j l[j]?.get! (by rw [List.getElem?_eq_getElem (by have := hlen.out; omega)]; rfl), rfl, fun j' v hv => ?_, fun _ => ⟨rfl, ⟨by unfold I64; simp only; omega, by unfold I64; simp only; omega, by unfold I64; simp only; omega⟩⟩, rfl⟩
        match j', hv with
        | 0, hv => simp at hv; subst hv; simpa [Nat.add_assoc] using h3.1
        | 1, hv => simp at hv; subst hv; simpa [Nat.add_assoc] using h3.2.1
        | 2, hv => simp at hv; subst hv; simpa [Nat.add_assoc] using h3.2.2
theorem laws_heldChoiceS {w0 w : World} {A : Option Addr} {n c : Nat} {m : Nat} {k0 : Int} (h : Choices w0 A n c (mkChoices k0 m)) (hl : Later w0 w) (h0 : 0 ≤ k0) (h1 : k0 + 3 * m ≤ 4611686018427387904) :
    Calls Tryz.prog 16 #[.slice A n c, .int .i64 k0] w (Ret (.int .i64 (k0 + 3 * m)) w) := by
  replace h := h.later hl
  have hn := h.le
  obtain rfl : n = m := by rw [h.len, mkChoices_len]
  go_enter Tryz.func16, Tryz.ntmps16
  go_wp2
  go_loopw [1, 5] (fun q i wr => ∃ (k : Nat), k ≤ n ∧ i = .int .i64 k ∧ q = .int .i64 (k0 + 3 * k) ∧ Later w wr) (fun _ i _ => n - (intOf i).toNat)
  case atStart => exact ⟨0, by omega, rfl, by simp, inferInstance⟩
  case round =>
    obtain ⟨k, hk, rfl, rfl, hX⟩ := hrel
    by_cases hlt : k < n
    · obtain ⟨b, o, x, rfl, hx, hc0, hc1, hc2, hi⟩ := Choices.at_ h hlt
      obtain ⟨_, rfl⟩ := mkChoices_at hx.out
      clear hx hi
      have hb0 : ∀ a : Int, (a != a) = false := by simp
      go_wp2
      go_roundw
      case rel => exact ⟨k + 1, by omega, by go_num, by go_num, inferInstance⟩
      case measure => simp [intOf]; omega
    · have hkn : k = n := by omega
      go_wp2
      go_ret
      subst hkn
      exact ⟨rfl, inferInstance⟩
end Go.Proofs.YtbkeccpjcmhhjaaGreat
