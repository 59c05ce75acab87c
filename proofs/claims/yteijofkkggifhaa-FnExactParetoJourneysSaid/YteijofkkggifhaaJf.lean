/-
  The first journey, in the program (firstLeg, firstJourney).
  The first journey, in the program (firstJourney, EarliestJourney).
-/
import Derived.Test.YteijofkkggifhaaFirstQ
import Derived.Test.YteijofkkggifhaaPair
import Derived.Test.YteijofkkggifhaaLegB
import Derived.Test.YteijofkkggifhaaOwnK
namespace Go.Proofs.Yteijofkkggifhaa
open Go Go.RowKit
set_option linter.unusedVariables false
set_option maxRecDepth 100000
set_option linter.unusedSimpArgs false
def RetLeg (r : Leg) (w : World) (e : Ending) (w' : World) : Prop := e = .returned (.agg #[.int .i64 r.Trip, .int .i64 r.From, .int .i64 r.To, .int .i64 r.Depart, .int .i64 r.Arrive]) ∧ Later w w'
theorem fill_bd {t : Timetable} (ht : TimeFacts t) {x : Trip} (hx : x ∈ t.Trips) (a b : Int) : 0 ≤ (fillT t x a b).1.Depart ∧ (fillT t x a b).1.Depart ≤ 2099 ∧ 0 ≤ (fillT t x a b).1.Arrive ∧ (fillT t x a b).1.Arrive ≤ 2099 := by
  cases c : (fillT t x a b).2 with
  | false =>
    have : fillT t x a b = (noLeg, false) := by
      unfold fillT at c ⊢
      split at c
      · rename_i h; rw [if_pos h]
      · cases c
    rw [this]; exact ⟨by decide, by decide, by decide, by decide⟩
  | true =>
    obtain ⟨e, h0, h1⟩ := fill_of c
    rw [e]
    have g1 := stopsIn ht x hx _ (List.mem_of_getElem? (place_at h0))
    have g2 := stopsIn ht x hx _ (List.mem_of_getElem? (place_at (t := t) (x := x) (s := b) (by omega)))
    exact ⟨g1.2.2.1, g1.2.2.2, g2.2.2.1, g2.2.2.2⟩
theorem range_at {n k : Nat} (h : k < n) : (List.range n)[k]? = some k := List.getElem?_range h
theorem findS_at {α β : Type} {f : α → Option β} {l : List α} {k : Nat} {x : α} (h : l[k]? = some x) : (l.drop k).findSome? f = (match f x with | some y => some y | none => (l.drop (k + 1)).findSome? f) := by
  rw [drop_at h, List.findSome?_cons]
  cases f x <;> rfl
theorem tryStop_no1 {t : Timetable} {change stop to ready by_ : Int} {k : Nat} {x : Trip} {s : Nat} (h : (fillT t x stop s).2 = false) : tryStop t change stop to ready by_ k x s = none := by unfold tryStop; rw [if_neg (by rw [h]; simp)]
theorem tryStop_no2 {t : Timetable} {change stop to ready by_ : Int} {k : Nat} {x : Trip} {s : Nat} (h : ¬ ready ≤ (fillT t x stop s).1.Depart) : tryStop t change stop to ready by_ k x s = none := by unfold tryStop; rw [if_neg fun e => h e.2.1]
theorem tryStop_no3 {t : Timetable} {change stop to ready by_ : Int} {k : Nat} {x : Trip} {s : Nat} (h : lastOk t change to by_ k s (fillT t x stop s).1.Arrive = false) : tryStop t change stop to ready by_ k x s = none := by unfold tryStop; rw [if_neg (by rw [h]; simp)]
theorem tryStop_ok {t : Timetable} {change stop to ready by_ : Int} {k : Nat} {x : Trip} {s : Nat} (h1 : (fillT t x stop s).2 = true) (h2 : ready ≤ (fillT t x stop s).1.Depart) (h3 : lastOk t change to by_ k s (fillT t x stop s).1.Arrive = true) : tryStop t change stop to ready by_ k x s = some (fillT t x stop s).1 := by unfold tryStop; rw [if_pos ⟨h1, h2, h3⟩]
set_option maxHeartbeats 8000000 in
theorem impl_firstLeg {w0 w : World} {sA0 : Option Addr} {sn0 sc0 : Nat} {sA1 : Option Addr} {sn1 sc1 : Nat} {sA2 : Option Addr} {sn2 sc2 : Nat} {t : Timetable} (h : TimetableAt w0 sA0 sn0 sc0 sA1 sn1 sc1 sA2 sn2 sc2 t) (hl : Later w0 w) (tf : TimeFacts t) (change stop to ready by_ : Int) (ch0 : 0 ≤ change) (ch1 : change ≤ 30) (t0 : 0 ≤ to) (t1 : to < t.Network.Stops.length) (L : Nat) (hL1 : 1 ≤ L) (hL4 : L ≤ 4) (n : Int) (hn : n = L) :
    Calls Try.prog 139 #[.agg #[.slice sA0 sn0 sc0, .slice sA1 sn1 sc1, .slice sA2 sn2 sc2], .int .i64 change, .int .i64 stop, .int .i64 to, .int .i64 ready, .int .i64 by_, .int .i64 n] w (RetLeg (firstL t change stop to ready by_ L) w) := by
  subst hn
  have Hl : Hid (sn0 = t.Network.Stops.length) := h.l_Network_Stops.len
  have hn8 : sn0 ≤ 8 := by have := tf.net.stops; rw [Hl.out]; omega
  have hT := h.l_Trips.later hl
  have hn2 := hT.le
  have HT2 := Lib.hid hT.len
  have TF := Lib.hid tf
  have NF := Lib.hid tf.net
  obtain ⟨q, rfl⟩ := Int.eq_ofNat_of_zero_le t0
  have hq : q < sn0 := by rw [Hl.out]; omega
  have hqi : (q : Int) < sn0 := by omega
  clear tf t0 t1
  obtain ⟨wx, hwx⟩ : ∃ wx : World, wx = ((w.alloc (.cells #[.slice sA0 sn0 sc0, .slice sA1 sn1 sc1, .slice sA2 sn2 sc2] 39)).alloc (.cells #[.int .i64 0, .int .i64 0, .int .i64 0, .int .i64 0, .int .i64 0] 122)) := ⟨_, rfl⟩
  have HBX : Blk wx (w.heap.size + 1) 122 #[.int .i64 0, .int .i64 0, .int .i64 0, .int .i64 0, .int .i64 0] := by rw [hwx]; exact heap_new (by simp)
  have HB0 : ∀ W [Later (w.alloc (.cells #[.slice sA0 sn0 sc0, .slice sA1 sn1 sc1, .slice sA2 sn2 sc2] 39)) W] (j : Nat), W.cell? ⟨w.heap.size, j, none⟩ = #[.slice sA0 sn0 sc0, .slice sA1 sn1 sc1, .slice sA2 sn2 sc2][j]? := Later.boxes (t := 39) (fr := (0, 0)) (heap_new (by simp; try omega)); obtain ⟨wb, hwb⟩ : ∃ wb : World, wb = (w.alloc (.cells #[.slice sA0 sn0 sc0, .slice sA1 sn1 sc1, .slice sA2 sn2 sc2] 39)) := ⟨_, rfl⟩; haveI hbW : Later wb (w.alloc (.cells #[.slice sA0 sn0 sc0, .slice sA1 sn1 sc1, .slice sA2 sn2 sc2] 39)) := (by rw [hwb]; exact Later.rfl_); haveI hww : Later w wb := (by rw [hwb]; infer_instance); rw [← hwb] at HB0; have hbE := Lib.hid (congrArg (fun x : World => x.heap.size) hwb); clear hwb
  have hwb0 := hl.trans hww
  have H := Lib.hid h
  clear h
  haveI hxW : Later wx ((w.alloc (.cells #[.slice sA0 sn0 sc0, .slice sA1 sn1 sc1, .slice sA2 sn2 sc2] 39)).alloc (.cells #[.int .i64 0, .int .i64 0, .int .i64 0, .int .i64 0, .int .i64 0] 122)) := by rw [hwx]; exact Later.rfl_
  haveI hbx : Later wb wx := by rw [hwx]; infer_instance
  have hzb : wb.heap.size ≤ w.heap.size + 1 := by have := hbE.out; simp at this; omega
  haveI hN : New wb (w.heap.size + 1) := ⟨hzb⟩
  clear hwx
  replace hT := hT.later hww
  go_enter Try.func139, Try.ntmps139
  go_wp2_with fail
  go_loopw [23] (fun i wr => ∃ k : Nat, k ≤ sn2 ∧ i = .int .i64 k ∧ Hid ((t.Trips.drop k).findSome? (tryTrip t change stop q ready by_ L) = t.Trips.findSome? (tryTrip t change stop q ready by_ L)) ∧ Later wb wr ∧ Later wx wr) (fun i _ => sn2 - (intOf i).toNat)
  case atStart => exact ⟨0, by omega, rfl, rfl, inferInstance, inferInstance⟩
  case round =>
    obtain ⟨k, hk, rfl, HF, hX, hZ⟩ := hrel
    by_cases hlt : k < sn2
    · obtain ⟨b, o, x, rfl, hx, hc0, hc1, hc2, hi⟩ := Trips.at_ hT hlt
      have TI := Lib.hid (TF.out.trip k x hx.out).in_
      have TM := Lib.hid (List.mem_of_getElem? hx.out)
      have HF1 := HF.out
      rw [findS_at hx.out] at HF1
      have HF2 := Lib.hid HF1
      have HTT : Hid (tryTrip t change stop q ready by_ L x = (List.range sn0).findSome? (tryStop t change stop q ready by_ L x)) := by show _ = _; unfold tryTrip; rw [← Hl.out]
      clear HF HF1 hi hx
      have HBY : ∀ W [Later (wr.alloc (.cells #[.int .i64 x.Id, .int .i64 x.Line, .int .i64 x.Start] 107)) W] (j : Nat), W.cell? ⟨wr.heap.size, j, none⟩ = #[.int .i64 x.Id, .int .i64 x.Line, .int .i64 x.Start][j]? := Later.boxes (t := 107) (fr := (0, 0)) (heap_new (by simp; try omega)); obtain ⟨wy, hwy⟩ : ∃ wy : World, wy = (wr.alloc (.cells #[.int .i64 x.Id, .int .i64 x.Line, .int .i64 x.Start] 107)) := ⟨_, rfl⟩; haveI hyW : Later wy (wr.alloc (.cells #[.int .i64 x.Id, .int .i64 x.Line, .int .i64 x.Start] 107)) := (by rw [hwy]; exact Later.rfl_); haveI hby : Later wb wy := (by rw [hwy]; infer_instance); haveI hxy : Later wx wy := (by rw [hwy]; infer_instance); haveI hry : Later wr wy := (by rw [hwy]; infer_instance); rw [← hwy] at HBY; clear hwy
      go_wp2_with fail
      go_loopw [31] (fun i wr => ∃ s : Nat, s ≤ sn0 ∧ i = .int .i64 s ∧ Hid (((List.range sn0).drop s).findSome? (tryStop t change stop q ready by_ L x) = tryTrip t change stop q ready by_ L x) ∧ Later wb wr ∧ Later wx wr ∧ Later wy wr) (fun i _ => sn0 - (intOf i).toNat)
      case atStart => exact ⟨0, by omega, rfl, by show _ = _; rw [List.drop_zero, HTT.out], inferInstance, inferInstance, inferInstance⟩
      case round =>
        obtain ⟨s, hs, rfl, HG, hX, hZ, hY⟩ := hrel
        by_cases hls : s < sn0
        · obtain ⟨f, ok, hft⟩ : ∃ f ok, fillT t x stop s = (f, ok) := ⟨_, _, rfl⟩
          have HFT := Lib.hid hft
          have hfb := fill_bd TF.out TM.out stop s
          rw [hft] at hfb
          simp only at hfb
          have hd0 := hfb.1
          have hd1 := hfb.2.1
          have ha0 := hfb.2.2.1
          have ha1 := hfb.2.2.2
          clear hft hfb
          cases ok with
          | false =>
            have HNO : Hid (tryStop t change stop q ready by_ L x s = none) := tryStop_no1 (by rw [HFT.out])
            have HF3 : Hid (((List.range sn0).drop (s + 1)).findSome? (tryStop t change stop q ready by_ L x) = tryTrip t change stop q ready by_ L x) := by
              show _ = _
              rw [← HG.out, findS_at (range_at hls), HNO.out]
            clear HG
            go_wp2_with (go_at_call 180; refine (impl_fillLeg H.out (hwb0.trans inferInstance) NF.out x TI.out stop s).mono ?_; rw [HFT.out]; rintro e w4 ⟨rfl, L4⟩; have X4 := Later.trans (w := wb) inferInstance L4; have Z4 := Later.trans (w := wx) inferInstance L4; have Y4 := Later.trans (w := wy) inferInstance L4; have hB := HBX.later Z4; have hcr := fun i => (hB.alloc (.cells #[.int .i64 f.Trip, .int .i64 f.From, .int .i64 f.To, .int .i64 f.Depart, .int .i64 f.Arrive] 122)).cell i; have hfr := fun i => (hB.alloc (.cells #[.int .i64 f.Trip, .int .i64 f.From, .int .i64 f.To, .int .i64 f.Depart, .int .i64 f.Arrive] 122)).frozen i)
            go_roundw
            case rel => exact ⟨s + 1, by omega, by go_num, HF3, inferInstance, inferInstance, inferInstance⟩
            case measure => simp [intOf]; omega
          | true =>
          by_cases cd : ready ≤ f.Depart
          rotate_left
          · have HNO : Hid (tryStop t change stop q ready by_ L x s = none) := tryStop_no2 (by rw [HFT.out]; exact cd)
            have cd2 : f.Depart < ready := by omega
            have HF3 : Hid (((List.range sn0).drop (s + 1)).findSome? (tryStop t change stop q ready by_ L x) = tryTrip t change stop q ready by_ L x) := by
              show _ = _
              rw [← HG.out, findS_at (range_at hls), HNO.out]
            clear HG
            go_wp2_with (go_at_call 180; refine (impl_fillLeg H.out (hwb0.trans inferInstance) NF.out x TI.out stop s).mono ?_; rw [HFT.out]; rintro e w4 ⟨rfl, L4⟩; have X4 := Later.trans (w := wb) inferInstance L4; have Z4 := Later.trans (w := wx) inferInstance L4; have Y4 := Later.trans (w := wy) inferInstance L4; have hB := HBX.later Z4; have hcr := fun i => (hB.alloc (.cells #[.int .i64 f.Trip, .int .i64 f.From, .int .i64 f.To, .int .i64 f.Depart, .int .i64 f.Arrive] 122)).cell i; have hfr := fun i => (hB.alloc (.cells #[.int .i64 f.Trip, .int .i64 f.From, .int .i64 f.To, .int .i64 f.Depart, .int .i64 f.Arrive] 122)).frozen i)
            go_roundw
            case rel => exact ⟨s + 1, by omega, by go_num, HF3, inferInstance, inferInstance, inferInstance⟩
            case measure => simp [intOf]; omega
          have cd2 : ¬ f.Depart < ready := by omega
          have HTF : Hid ((fillT t x stop s).1.Arrive = f.Arrive) := by show _ = _; rw [HFT.out]
          by_cases hL : L = 1
          · have HLE := Lib.hid hL
            have e1 := (beqi_t (show (L : Int) = 1 by omega)).1
            have e2 : ¬ (1 : Int) < L := by omega
            have e5 : decide ((1 : Int) < L) = false := decide_eq_false e2
            clear hL
            by_cases hsq : s = q
            · have e3 := (beqi_t (show (s : Int) = (q : Int) by omega)).1
              by_cases ca : f.Arrive ≤ by_
              · have HR : Hid (firstL t change stop q ready by_ L = f) := by
                  have h1 : tryTrip t change stop q ready by_ L x = some f := by
                    rw [← HG.out, findS_at (range_at hls), tryStop_ok (by rw [HFT.out]) (by rw [HFT.out]; exact cd) (by unfold lastOk; rw [if_pos HLE.out, HTF.out]; simp [hsq, ca]), HFT.out]
                  have h2 := HF2.out
                  rw [h1] at h2
                  show _ = _
                  unfold firstL
                  rw [← h2]; rfl
                clear HG hsq
                go_wp2_with (go_at_call 180; refine (impl_fillLeg H.out (hwb0.trans inferInstance) NF.out x TI.out stop s).mono ?_; rw [HFT.out]; rintro e w4 ⟨rfl, L4⟩; have X4 := Later.trans (w := wb) inferInstance L4; have Z4 := Later.trans (w := wx) inferInstance L4; have Y4 := Later.trans (w := wy) inferInstance L4; have hB := HBX.later Z4; have hcr := fun i => (hB.alloc (.cells #[.int .i64 f.Trip, .int .i64 f.From, .int .i64 f.To, .int .i64 f.Depart, .int .i64 f.Arrive] 122)).cell i; have hfr := fun i => (hB.alloc (.cells #[.int .i64 f.Trip, .int .i64 f.From, .int .i64 f.To, .int .i64 f.Depart, .int .i64 f.Arrive] 122)).frozen i)
                replace hB := hB.alloc (.cells #[.int .i64 f.Trip, .int .i64 f.From, .int .i64 f.To, .int .i64 f.Depart, .int .i64 f.Arrive] 122)
                have HF := ((((hB.set_ 0 (.int .i64 (f.Trip))).set_ 1 (.int .i64 (f.From))).set_ 2 (.int .i64 (f.To))).set_ 3 (.int .i64 (f.Depart))).set_ 4 (.int .i64 (f.Arrive))
                have hr0 := (HF.cell 0).trans (show _ = some (.int .i64 (f.Trip) : Value) from rfl)
                have hr1 := (HF.cell 1).trans (show _ = some (.int .i64 (f.From) : Value) from rfl)
                have hr2 := (HF.cell 2).trans (show _ = some (.int .i64 (f.To) : Value) from rfl)
                have hr3 := (HF.cell 3).trans (show _ = some (.int .i64 (f.Depart) : Value) from rfl)
                have hr4 := (HF.cell 4).trans (show _ = some (.int .i64 (f.Arrive) : Value) from rfl)
                refine bodyPost_ret (v := .agg #[.int .i64 (f.Trip), .int .i64 (f.From), .int .i64 (f.To), .int .i64 (f.Depart), .int .i64 (f.Arrive)]) (by simp [results, Try.results139, go_sem, hr0, hr1, hr2, hr3, hr4]) rfl ?_
                exact ⟨by rw [HR.out], hww.trans inferInstance⟩
              · have HNO : Hid (tryStop t change stop q ready by_ L x s = none) := tryStop_no3 (by unfold lastOk; rw [if_pos HLE.out, HTF.out]; simp [ca])
                clear hsq
                have HF3 : Hid (((List.range sn0).drop (s + 1)).findSome? (tryStop t change stop q ready by_ L x) = tryTrip t change stop q ready by_ L x) := by
                  show _ = _
                  rw [← HG.out, findS_at (range_at hls), HNO.out]
                clear HG
                go_wp2_with (go_at_call 180; refine (impl_fillLeg H.out (hwb0.trans inferInstance) NF.out x TI.out stop s).mono ?_; rw [HFT.out]; rintro e w4 ⟨rfl, L4⟩; have X4 := Later.trans (w := wb) inferInstance L4; have Z4 := Later.trans (w := wx) inferInstance L4; have Y4 := Later.trans (w := wy) inferInstance L4; have hB := HBX.later Z4; have hcr := fun i => (hB.alloc (.cells #[.int .i64 f.Trip, .int .i64 f.From, .int .i64 f.To, .int .i64 f.Depart, .int .i64 f.Arrive] 122)).cell i; have hfr := fun i => (hB.alloc (.cells #[.int .i64 f.Trip, .int .i64 f.From, .int .i64 f.To, .int .i64 f.Depart, .int .i64 f.Arrive] 122)).frozen i)
                refine wp_region_held_drew (S := (fun w' => Later wb w' ∧ Later wx w' ∧ Later wy w')) (by kernel_rfl) (by exact ⟨inferInstance, inferInstance, inferInstance⟩) (fun hHeld => ?_)
                refine wpAnyH_take (i := 0) (v := ?_) (by simp only [List.getElem?_toArray, List.getElem?_cons_zero] <;> rfl) (by kernel_rfl) (by kernel_rfl) (by kernel_rfl) (by exact fun _ _ _ h => h) (Or.inl ⟨by kernel_rfl, ?_⟩) (by assumption) ?_
                rotate_left
                · intro w' hSw; (try dsimp only at hSw); go_simp; try with_reducible rfl
                try simp only [Act.put, List.setIfInBounds_toArray, List.set_cons_zero, List.set_cons_succ]
                refine wpAnyH_take (i := 1) (v := ?_) (by simp only [List.getElem?_toArray, List.getElem?_cons_succ, List.getElem?_cons_zero] <;> rfl) (by kernel_rfl) (by kernel_rfl) (by kernel_rfl) (by exact fun _ _ _ h => h) (Or.inl ⟨by kernel_rfl, ?_⟩) (by assumption) ?_
                rotate_left
                · intro w' hSw; (try dsimp only at hSw); go_simp; try with_reducible rfl
                try simp only [Act.put, List.setIfInBounds_toArray, List.set_cons_zero, List.set_cons_succ]
                refine wpAnyH_take (i := 2) (v := ?_) (by simp only [List.getElem?_toArray, List.getElem?_cons_succ, List.getElem?_cons_zero] <;> rfl) (by kernel_rfl) (by kernel_rfl) (by kernel_rfl) (by exact fun _ _ _ h => h) (Or.inl ⟨by kernel_rfl, ?_⟩) (by assumption) ?_
                rotate_left
                · intro w' hSw; (try dsimp only at hSw); go_simp; try with_reducible rfl
                try simp only [Act.put, List.setIfInBounds_toArray, List.set_cons_zero, List.set_cons_succ]
                refine wpAnyH_take (i := 3) (v := undef) (by simp only [List.getElem?_toArray, List.getElem?_cons_succ, List.getElem?_cons_zero] <;> rfl) (by kernel_rfl) (by kernel_rfl) (by kernel_rfl) (by exact fun _ _ _ h => h) (Or.inr ⟨by kernel_rfl, rfl⟩) (by assumption) ?_
                try simp only [Act.put, List.setIfInBounds_toArray, List.set_cons_zero, List.set_cons_succ]
                refine wpAnyH_take (i := 4) (v := undef) (by simp only [List.getElem?_toArray, List.getElem?_cons_succ, List.getElem?_cons_zero] <;> rfl) (by kernel_rfl) (by kernel_rfl) (by kernel_rfl) (by exact fun _ _ _ h => h) (Or.inr ⟨by kernel_rfl, rfl⟩) (by assumption) ?_
                try simp only [Act.put, List.setIfInBounds_toArray, List.set_cons_zero, List.set_cons_succ]
                refine wpAnyH_take (i := 5) (v := undef) (by simp only [List.getElem?_toArray, List.getElem?_cons_succ, List.getElem?_cons_zero] <;> rfl) (by kernel_rfl) (by kernel_rfl) (by kernel_rfl) (by exact fun _ _ _ h => h) (Or.inr ⟨by kernel_rfl, rfl⟩) (by assumption) ?_
                try simp only [Act.put, List.setIfInBounds_toArray, List.set_cons_zero, List.set_cons_succ]
                refine wpAnyH_take (i := 6) (v := undef) (by simp only [List.getElem?_toArray, List.getElem?_cons_succ, List.getElem?_cons_zero] <;> rfl) (by kernel_rfl) (by kernel_rfl) (by kernel_rfl) (by exact fun _ _ _ h => h) (Or.inr ⟨by kernel_rfl, rfl⟩) (by assumption) ?_
                try simp only [Act.put, List.setIfInBounds_toArray, List.set_cons_zero, List.set_cons_succ]
                refine wpAnyH_take (i := 7) (v := undef) (by simp only [List.getElem?_toArray, List.getElem?_cons_succ, List.getElem?_cons_zero] <;> rfl) (by kernel_rfl) (by kernel_rfl) (by kernel_rfl) (by exact fun _ _ _ h => h) (Or.inr ⟨by kernel_rfl, rfl⟩) (by assumption) ?_
                try simp only [Act.put, List.setIfInBounds_toArray, List.set_cons_zero, List.set_cons_succ]
                refine wpAnyH_take (i := 8) (v := undef) (by simp only [List.getElem?_toArray, List.getElem?_cons_succ, List.getElem?_cons_zero] <;> rfl) (by kernel_rfl) (by kernel_rfl) (by kernel_rfl) (by exact fun _ _ _ h => h) (Or.inr ⟨by kernel_rfl, rfl⟩) (by assumption) ?_
                try simp only [Act.put, List.setIfInBounds_toArray, List.set_cons_zero, List.set_cons_succ]
                refine wpAnyH_take (i := 9) (v := undef) (by simp only [List.getElem?_toArray, List.getElem?_cons_succ, List.getElem?_cons_zero] <;> rfl) (by kernel_rfl) (by kernel_rfl) (by kernel_rfl) (by exact fun _ _ _ h => h) (Or.inr ⟨by kernel_rfl, rfl⟩) (by assumption) ?_
                try simp only [Act.put, List.setIfInBounds_toArray, List.set_cons_zero, List.set_cons_succ]
                refine wpAnyH_take (i := 10) (v := undef) (by simp only [List.getElem?_toArray, List.getElem?_cons_succ, List.getElem?_cons_zero] <;> rfl) (by kernel_rfl) (by kernel_rfl) (by kernel_rfl) (by exact fun _ _ _ h => h) (Or.inr ⟨by kernel_rfl, rfl⟩) (by assumption) ?_
                try simp only [Act.put, List.setIfInBounds_toArray, List.set_cons_zero, List.set_cons_succ]
                refine wpAnyH_take (i := 11) (v := undef) (by simp only [List.getElem?_toArray, List.getElem?_cons_succ, List.getElem?_cons_zero] <;> rfl) (by kernel_rfl) (by kernel_rfl) (by kernel_rfl) (by exact fun _ _ _ h => h) (Or.inr ⟨by kernel_rfl, rfl⟩) (by assumption) ?_
                try simp only [Act.put, List.setIfInBounds_toArray, List.set_cons_zero, List.set_cons_succ]
                refine wpAnyH_take (i := 12) (v := undef) (by simp only [List.getElem?_toArray, List.getElem?_cons_succ, List.getElem?_cons_zero] <;> rfl) (by kernel_rfl) (by kernel_rfl) (by kernel_rfl) (by exact fun _ _ _ h => h) (Or.inr ⟨by kernel_rfl, rfl⟩) (by assumption) ?_
                try simp only [Act.put, List.setIfInBounds_toArray, List.set_cons_zero, List.set_cons_succ]
                refine wpAnyH_take (i := 13) (v := undef) (by simp only [List.getElem?_toArray, List.getElem?_cons_succ, List.getElem?_cons_zero] <;> rfl) (by kernel_rfl) (by kernel_rfl) (by kernel_rfl) (by exact fun _ _ _ h => h) (Or.inr ⟨by kernel_rfl, rfl⟩) (by assumption) ?_
                try simp only [Act.put, List.setIfInBounds_toArray, List.set_cons_zero, List.set_cons_succ]
                refine wpAnyH_take (i := 14) (v := undef) (by simp only [List.getElem?_toArray, List.getElem?_cons_succ, List.getElem?_cons_zero] <;> rfl) (by kernel_rfl) (by kernel_rfl) (by kernel_rfl) (by exact fun _ _ _ h => h) (Or.inr ⟨by kernel_rfl, rfl⟩) (by assumption) ?_
                try simp only [Act.put, List.setIfInBounds_toArray, List.set_cons_zero, List.set_cons_succ]
                refine wpAnyH_take (i := 15) (v := undef) (by simp only [List.getElem?_toArray, List.getElem?_cons_succ, List.getElem?_cons_zero] <;> rfl) (by kernel_rfl) (by kernel_rfl) (by kernel_rfl) (by exact fun _ _ _ h => h) (Or.inr ⟨by kernel_rfl, rfl⟩) (by assumption) ?_
                try simp only [Act.put, List.setIfInBounds_toArray, List.set_cons_zero, List.set_cons_succ]
                refine wpAnyH_take (i := 16) (v := undef) (by simp only [List.getElem?_toArray, List.getElem?_cons_succ, List.getElem?_cons_zero] <;> rfl) (by kernel_rfl) (by kernel_rfl) (by kernel_rfl) (by exact fun _ _ _ h => h) (Or.inr ⟨by kernel_rfl, rfl⟩) (by assumption) ?_
                try simp only [Act.put, List.setIfInBounds_toArray, List.set_cons_zero, List.set_cons_succ]
                refine wpAnyH_take (i := 17) (v := undef) (by simp only [List.getElem?_toArray, List.getElem?_cons_succ, List.getElem?_cons_zero] <;> rfl) (by kernel_rfl) (by kernel_rfl) (by kernel_rfl) (by exact fun _ _ _ h => h) (Or.inr ⟨by kernel_rfl, rfl⟩) (by assumption) ?_
                try simp only [Act.put, List.setIfInBounds_toArray, List.set_cons_zero, List.set_cons_succ]
                refine wpAnyH_take (i := 18) (v := undef) (by simp only [List.getElem?_toArray, List.getElem?_cons_succ, List.getElem?_cons_zero] <;> rfl) (by kernel_rfl) (by kernel_rfl) (by kernel_rfl) (by exact fun _ _ _ h => h) (Or.inr ⟨by kernel_rfl, rfl⟩) (by assumption) ?_
                try simp only [Act.put, List.setIfInBounds_toArray, List.set_cons_zero, List.set_cons_succ]
                refine wpAnyH_take (i := 19) (v := undef) (by simp only [List.getElem?_toArray, List.getElem?_cons_succ, List.getElem?_cons_zero] <;> rfl) (by kernel_rfl) (by kernel_rfl) (by kernel_rfl) (by exact fun _ _ _ h => h) (Or.inr ⟨by kernel_rfl, rfl⟩) (by assumption) ?_
                try simp only [Act.put, List.setIfInBounds_toArray, List.set_cons_zero, List.set_cons_succ]
                refine wpAnyH_take (i := 20) (v := ?_) (by simp only [List.getElem?_toArray, List.getElem?_cons_succ, List.getElem?_cons_zero] <;> rfl) (by kernel_rfl) (by kernel_rfl) (by kernel_rfl) (by exact fun _ _ _ h => h) (Or.inl ⟨by kernel_rfl, ?_⟩) (by assumption) ?_
                rotate_left
                · intro w' hSw; (try dsimp only at hSw); go_simp; try with_reducible rfl
                try simp only [Act.put, List.setIfInBounds_toArray, List.set_cons_zero, List.set_cons_succ]
                refine wpAnyH_take (i := 21) (v := ?_) (by simp only [List.getElem?_toArray, List.getElem?_cons_succ, List.getElem?_cons_zero] <;> rfl) (by kernel_rfl) (by kernel_rfl) (by kernel_rfl) (by exact fun _ _ _ h => h) (Or.inl ⟨by kernel_rfl, ?_⟩) (by assumption) ?_
                rotate_left
                · intro w' hSw; (try dsimp only at hSw); go_simp; try with_reducible rfl
                try simp only [Act.put, List.setIfInBounds_toArray, List.set_cons_zero, List.set_cons_succ]
                refine wpAnyH_done (by kernel_rfl) ?_ _
                go_wp2_with fail
                go_roundw
                case rel => exact ⟨s + 1, by omega, by go_num, HF3, inferInstance, inferInstance, inferInstance⟩
                case measure => simp [intOf]; omega
            · have e3 := (beqi_f (show ¬ (s : Int) = (q : Int) by omega)).1
              have HNO : Hid (tryStop t change stop q ready by_ L x s = none) := tryStop_no3 (by unfold lastOk; rw [if_pos HLE.out]; simp [show ¬ (s : Int) = (q : Int) by omega])
              clear hsq
              have HF3 : Hid (((List.range sn0).drop (s + 1)).findSome? (tryStop t change stop q ready by_ L x) = tryTrip t change stop q ready by_ L x) := by
                show _ = _
                rw [← HG.out, findS_at (range_at hls), HNO.out]
              clear HG
              go_wp2_with (go_at_call 180; refine (impl_fillLeg H.out (hwb0.trans inferInstance) NF.out x TI.out stop s).mono ?_; rw [HFT.out]; rintro e w4 ⟨rfl, L4⟩; have X4 := Later.trans (w := wb) inferInstance L4; have Z4 := Later.trans (w := wx) inferInstance L4; have Y4 := Later.trans (w := wy) inferInstance L4; have hB := HBX.later Z4; have hcr := fun i => (hB.alloc (.cells #[.int .i64 f.Trip, .int .i64 f.From, .int .i64 f.To, .int .i64 f.Depart, .int .i64 f.Arrive] 122)).cell i; have hfr := fun i => (hB.alloc (.cells #[.int .i64 f.Trip, .int .i64 f.From, .int .i64 f.To, .int .i64 f.Depart, .int .i64 f.Arrive] 122)).frozen i)
              refine wp_region_held_drew (S := (fun w' => Later wb w' ∧ Later wx w' ∧ Later wy w')) (by kernel_rfl) (by exact ⟨inferInstance, inferInstance, inferInstance⟩) (fun hHeld => ?_)
              refine wpAnyH_take (i := 0) (v := ?_) (by simp only [List.getElem?_toArray, List.getElem?_cons_zero] <;> rfl) (by kernel_rfl) (by kernel_rfl) (by kernel_rfl) (by exact fun _ _ _ h => h) (Or.inl ⟨by kernel_rfl, ?_⟩) (by assumption) ?_
              rotate_left
              · intro w' hSw; (try dsimp only at hSw); go_simp; try with_reducible rfl
              try simp only [Act.put, List.setIfInBounds_toArray, List.set_cons_zero, List.set_cons_succ]
              refine wpAnyH_take (i := 1) (v := ?_) (by simp only [List.getElem?_toArray, List.getElem?_cons_succ, List.getElem?_cons_zero] <;> rfl) (by kernel_rfl) (by kernel_rfl) (by kernel_rfl) (by exact fun _ _ _ h => h) (Or.inl ⟨by kernel_rfl, ?_⟩) (by assumption) ?_
              rotate_left
              · intro w' hSw; (try dsimp only at hSw); go_simp; try with_reducible rfl
              try simp only [Act.put, List.setIfInBounds_toArray, List.set_cons_zero, List.set_cons_succ]
              refine wpAnyH_take (i := 2) (v := ?_) (by simp only [List.getElem?_toArray, List.getElem?_cons_succ, List.getElem?_cons_zero] <;> rfl) (by kernel_rfl) (by kernel_rfl) (by kernel_rfl) (by exact fun _ _ _ h => h) (Or.inl ⟨by kernel_rfl, ?_⟩) (by assumption) ?_
              rotate_left
              · intro w' hSw; (try dsimp only at hSw); go_simp; try with_reducible rfl
              try simp only [Act.put, List.setIfInBounds_toArray, List.set_cons_zero, List.set_cons_succ]
              refine wpAnyH_take (i := 3) (v := undef) (by simp only [List.getElem?_toArray, List.getElem?_cons_succ, List.getElem?_cons_zero] <;> rfl) (by kernel_rfl) (by kernel_rfl) (by kernel_rfl) (by exact fun _ _ _ h => h) (Or.inr ⟨by kernel_rfl, rfl⟩) (by assumption) ?_
              try simp only [Act.put, List.setIfInBounds_toArray, List.set_cons_zero, List.set_cons_succ]
              refine wpAnyH_take (i := 4) (v := undef) (by simp only [List.getElem?_toArray, List.getElem?_cons_succ, List.getElem?_cons_zero] <;> rfl) (by kernel_rfl) (by kernel_rfl) (by kernel_rfl) (by exact fun _ _ _ h => h) (Or.inr ⟨by kernel_rfl, rfl⟩) (by assumption) ?_
              try simp only [Act.put, List.setIfInBounds_toArray, List.set_cons_zero, List.set_cons_succ]
              refine wpAnyH_take (i := 5) (v := undef) (by simp only [List.getElem?_toArray, List.getElem?_cons_succ, List.getElem?_cons_zero] <;> rfl) (by kernel_rfl) (by kernel_rfl) (by kernel_rfl) (by exact fun _ _ _ h => h) (Or.inr ⟨by kernel_rfl, rfl⟩) (by assumption) ?_
              try simp only [Act.put, List.setIfInBounds_toArray, List.set_cons_zero, List.set_cons_succ]
              refine wpAnyH_take (i := 6) (v := undef) (by simp only [List.getElem?_toArray, List.getElem?_cons_succ, List.getElem?_cons_zero] <;> rfl) (by kernel_rfl) (by kernel_rfl) (by kernel_rfl) (by exact fun _ _ _ h => h) (Or.inr ⟨by kernel_rfl, rfl⟩) (by assumption) ?_
              try simp only [Act.put, List.setIfInBounds_toArray, List.set_cons_zero, List.set_cons_succ]
              refine wpAnyH_take (i := 7) (v := undef) (by simp only [List.getElem?_toArray, List.getElem?_cons_succ, List.getElem?_cons_zero] <;> rfl) (by kernel_rfl) (by kernel_rfl) (by kernel_rfl) (by exact fun _ _ _ h => h) (Or.inr ⟨by kernel_rfl, rfl⟩) (by assumption) ?_
              try simp only [Act.put, List.setIfInBounds_toArray, List.set_cons_zero, List.set_cons_succ]
              refine wpAnyH_take (i := 8) (v := undef) (by simp only [List.getElem?_toArray, List.getElem?_cons_succ, List.getElem?_cons_zero] <;> rfl) (by kernel_rfl) (by kernel_rfl) (by kernel_rfl) (by exact fun _ _ _ h => h) (Or.inr ⟨by kernel_rfl, rfl⟩) (by assumption) ?_
              try simp only [Act.put, List.setIfInBounds_toArray, List.set_cons_zero, List.set_cons_succ]
              refine wpAnyH_take (i := 9) (v := undef) (by simp only [List.getElem?_toArray, List.getElem?_cons_succ, List.getElem?_cons_zero] <;> rfl) (by kernel_rfl) (by kernel_rfl) (by kernel_rfl) (by exact fun _ _ _ h => h) (Or.inr ⟨by kernel_rfl, rfl⟩) (by assumption) ?_
              try simp only [Act.put, List.setIfInBounds_toArray, List.set_cons_zero, List.set_cons_succ]
              refine wpAnyH_take (i := 10) (v := undef) (by simp only [List.getElem?_toArray, List.getElem?_cons_succ, List.getElem?_cons_zero] <;> rfl) (by kernel_rfl) (by kernel_rfl) (by kernel_rfl) (by exact fun _ _ _ h => h) (Or.inr ⟨by kernel_rfl, rfl⟩) (by assumption) ?_
              try simp only [Act.put, List.setIfInBounds_toArray, List.set_cons_zero, List.set_cons_succ]
              refine wpAnyH_take (i := 11) (v := undef) (by simp only [List.getElem?_toArray, List.getElem?_cons_succ, List.getElem?_cons_zero] <;> rfl) (by kernel_rfl) (by kernel_rfl) (by kernel_rfl) (by exact fun _ _ _ h => h) (Or.inr ⟨by kernel_rfl, rfl⟩) (by assumption) ?_
              try simp only [Act.put, List.setIfInBounds_toArray, List.set_cons_zero, List.set_cons_succ]
              refine wpAnyH_take (i := 12) (v := undef) (by simp only [List.getElem?_toArray, List.getElem?_cons_succ, List.getElem?_cons_zero] <;> rfl) (by kernel_rfl) (by kernel_rfl) (by kernel_rfl) (by exact fun _ _ _ h => h) (Or.inr ⟨by kernel_rfl, rfl⟩) (by assumption) ?_
              try simp only [Act.put, List.setIfInBounds_toArray, List.set_cons_zero, List.set_cons_succ]
              refine wpAnyH_take (i := 13) (v := undef) (by simp only [List.getElem?_toArray, List.getElem?_cons_succ, List.getElem?_cons_zero] <;> rfl) (by kernel_rfl) (by kernel_rfl) (by kernel_rfl) (by exact fun _ _ _ h => h) (Or.inr ⟨by kernel_rfl, rfl⟩) (by assumption) ?_
              try simp only [Act.put, List.setIfInBounds_toArray, List.set_cons_zero, List.set_cons_succ]
              refine wpAnyH_take (i := 14) (v := undef) (by simp only [List.getElem?_toArray, List.getElem?_cons_succ, List.getElem?_cons_zero] <;> rfl) (by kernel_rfl) (by kernel_rfl) (by kernel_rfl) (by exact fun _ _ _ h => h) (Or.inr ⟨by kernel_rfl, rfl⟩) (by assumption) ?_
              try simp only [Act.put, List.setIfInBounds_toArray, List.set_cons_zero, List.set_cons_succ]
              refine wpAnyH_take (i := 15) (v := undef) (by simp only [List.getElem?_toArray, List.getElem?_cons_succ, List.getElem?_cons_zero] <;> rfl) (by kernel_rfl) (by kernel_rfl) (by kernel_rfl) (by exact fun _ _ _ h => h) (Or.inr ⟨by kernel_rfl, rfl⟩) (by assumption) ?_
              try simp only [Act.put, List.setIfInBounds_toArray, List.set_cons_zero, List.set_cons_succ]
              refine wpAnyH_take (i := 16) (v := undef) (by simp only [List.getElem?_toArray, List.getElem?_cons_succ, List.getElem?_cons_zero] <;> rfl) (by kernel_rfl) (by kernel_rfl) (by kernel_rfl) (by exact fun _ _ _ h => h) (Or.inr ⟨by kernel_rfl, rfl⟩) (by assumption) ?_
              try simp only [Act.put, List.setIfInBounds_toArray, List.set_cons_zero, List.set_cons_succ]
              refine wpAnyH_take (i := 17) (v := undef) (by simp only [List.getElem?_toArray, List.getElem?_cons_succ, List.getElem?_cons_zero] <;> rfl) (by kernel_rfl) (by kernel_rfl) (by kernel_rfl) (by exact fun _ _ _ h => h) (Or.inr ⟨by kernel_rfl, rfl⟩) (by assumption) ?_
              try simp only [Act.put, List.setIfInBounds_toArray, List.set_cons_zero, List.set_cons_succ]
              refine wpAnyH_take (i := 18) (v := undef) (by simp only [List.getElem?_toArray, List.getElem?_cons_succ, List.getElem?_cons_zero] <;> rfl) (by kernel_rfl) (by kernel_rfl) (by kernel_rfl) (by exact fun _ _ _ h => h) (Or.inr ⟨by kernel_rfl, rfl⟩) (by assumption) ?_
              try simp only [Act.put, List.setIfInBounds_toArray, List.set_cons_zero, List.set_cons_succ]
              refine wpAnyH_take (i := 19) (v := undef) (by simp only [List.getElem?_toArray, List.getElem?_cons_succ, List.getElem?_cons_zero] <;> rfl) (by kernel_rfl) (by kernel_rfl) (by kernel_rfl) (by exact fun _ _ _ h => h) (Or.inr ⟨by kernel_rfl, rfl⟩) (by assumption) ?_
              try simp only [Act.put, List.setIfInBounds_toArray, List.set_cons_zero, List.set_cons_succ]
              refine wpAnyH_take (i := 20) (v := ?_) (by simp only [List.getElem?_toArray, List.getElem?_cons_succ, List.getElem?_cons_zero] <;> rfl) (by kernel_rfl) (by kernel_rfl) (by kernel_rfl) (by exact fun _ _ _ h => h) (Or.inl ⟨by kernel_rfl, ?_⟩) (by assumption) ?_
              rotate_left
              · intro w' hSw; (try dsimp only at hSw); go_simp; try with_reducible rfl
              try simp only [Act.put, List.setIfInBounds_toArray, List.set_cons_zero, List.set_cons_succ]
              refine wpAnyH_take (i := 21) (v := ?_) (by simp only [List.getElem?_toArray, List.getElem?_cons_succ, List.getElem?_cons_zero] <;> rfl) (by kernel_rfl) (by kernel_rfl) (by kernel_rfl) (by exact fun _ _ _ h => h) (Or.inl ⟨by kernel_rfl, ?_⟩) (by assumption) ?_
              rotate_left
              · intro w' hSw; (try dsimp only at hSw); go_simp; try with_reducible rfl
              try simp only [Act.put, List.setIfInBounds_toArray, List.set_cons_zero, List.set_cons_succ]
              refine wpAnyH_done (by kernel_rfl) ?_ _
              go_wp2_with fail
              go_roundw
              case rel => exact ⟨s + 1, by omega, by go_num, HF3, inferInstance, inferInstance, inferInstance⟩
              case measure => simp [intOf]; omega
          · obtain ⟨m, hm⟩ : ∃ m, L = m + 1 := ⟨L - 1, by omega⟩
            have HLE := Lib.hid hL
            have e1 := (beqi_f (show ¬ (L : Int) = 1 by omega)).1
            have e2 : (1 : Int) < L := by omega
            have e5 : decide ((1 : Int) < L) = true := decide_eq_true e2
            have hwk : IntKind.i64.wrap ((L : Int) - 1) = (m : Int) := by rw [IntKind.wrap_i64]; omega
            have hwa : IntKind.i64.wrap (f.Arrive + change) = f.Arrive + change := by rw [IntKind.wrap_i64]; omega
            have hm100 : m ≤ 100 := by omega
            have HM1 : Hid (L - 1 = m) := by show _ = _; omega
            obtain ⟨v, hv⟩ : ∃ v, gi (arrL t change (readyL t.Network.Stops.length s (f.Arrive + change)) m) q = v := ⟨_, rfl⟩
            have HSM : Hid (Small (readyL t.Network.Stops.length s (f.Arrive + change))) := by
              intro y hy
              unfold readyL at hy
              rcases List.mem_or_eq_of_mem_set hy with h1 | h1
              · rw [List.eq_of_mem_replicate h1]; unfold never; omega
              · subst h1; omega
            have HRL : Hid ((readyL t.Network.Stops.length s (f.Arrive + change)).length = t.Network.Stops.length) := by show _ = _; simp [readyL]
            have HAT : Hid ((arrL t change (readyL t.Network.Stops.length s (f.Arrive + change)) m)[q]? = some v) := by
              have hlen := (arrL_min (stopsIn TF.out) ch0 (at_ := f.Arrive + change) (from_ := (s : Int)) (by omega) (by have := Hl.out; omega : (s : Int) < t.Network.Stops.length) m).1
              have hq2 : q < (arrL t change (readyL t.Network.Stops.length s (f.Arrive + change)) m).length := by rw [hlen, ← Hl.out]; exact hq
              show _ = _
              rw [← hv]
              unfold gi
              rw [List.getD_eq_getElem?_getD, Int.toNat_natCast, List.getElem?_eq_getElem hq2]; rfl
            have hs0 : (0 : Int) ≤ s := by omega
            have HS1 : Hid ((s : Int) < t.Network.Stops.length) := by show _ < _; have := Hl.out; omega
            have HV := Lib.hid hv
            clear hL hm hv
            by_cases cv : v ≤ by_
            · have HR : Hid (firstL t change stop q ready by_ L = f) := by
                have h1 : tryTrip t change stop q ready by_ L x = some f := by
                  rw [← HG.out, findS_at (range_at hls), tryStop_ok (by rw [HFT.out]) (by rw [HFT.out]; exact cd) (by unfold lastOk; rw [if_neg HLE.out, HTF.out, HM1.out, HV.out]; simp [cv]), HFT.out]
                have h2 := HF2.out
                rw [h1] at h2
                show _ = _
                unfold firstL
                rw [← h2]; rfl
              clear HG
              go_wp2_with (go_at_call 180; refine (impl_fillLeg H.out (hwb0.trans inferInstance) NF.out x TI.out stop s).mono ?_; rw [HFT.out]; rintro e w4 ⟨rfl, L4⟩; have X4 := Later.trans (w := wb) inferInstance L4; have Z4 := Later.trans (w := wx) inferInstance L4; have Y4 := Later.trans (w := wy) inferInstance L4; have hB := HBX.later Z4; have hcr := fun i => (hB.alloc (.cells #[.int .i64 f.Trip, .int .i64 f.From, .int .i64 f.To, .int .i64 f.Depart, .int .i64 f.Arrive] 122)).cell i; have hfr := fun i => (hB.alloc (.cells #[.int .i64 f.Trip, .int .i64 f.From, .int .i64 f.To, .int .i64 f.Depart, .int .i64 f.Arrive] 122)).frozen i)
              obtain ⟨w5, hw5⟩ : ∃ w5 : World, w5 = w4.alloc (.cells #[.int .i64 f.Trip, .int .i64 f.From, .int .i64 f.To, .int .i64 f.Depart, .int .i64 f.Arrive] 122) := ⟨_, rfl⟩
              rw [← hw5]
              have hB5 : Blk w5 (w.heap.size + 1) 122 #[.int .i64 0, .int .i64 0, .int .i64 0, .int .i64 0, .int .i64 0] := by rw [hw5]; exact hB.alloc _
              have HBQ : ∀ W [Later w5 W] (j : Nat), W.cell? ⟨w4.heap.size, j, none⟩ = #[.int .i64 f.Trip, .int .i64 f.From, .int .i64 f.To, .int .i64 f.Depart, .int .i64 f.Arrive][j]? := by rw [hw5]; exact Later.boxes (t := 122) (fr := (0, 0)) (heap_new rfl)
              haveI hb5 : Later wb w5 := by rw [hw5]; infer_instance
              haveI hx5 : Later wx w5 := by rw [hw5]; infer_instance
              haveI hy5 : Later wy w5 := by rw [hw5]; infer_instance
              clear hcr hfr hB hw5
              refine wp_region_held_drew (S := (fun w' => Later wb w' ∧ Later wx w' ∧ Later wy w' ∧ Later w5 w')) (by kernel_rfl) (by exact ⟨inferInstance, inferInstance, inferInstance, inferInstance⟩) (fun hHeld => ?_)
              refine wpAnyH_take (i := 0) (v := ?_) (by simp only [List.getElem?_toArray, List.getElem?_cons_zero] <;> rfl) (by kernel_rfl) (by kernel_rfl) (by kernel_rfl) (by exact fun _ _ _ h => h) (Or.inl ⟨by kernel_rfl, ?_⟩) (by assumption) ?_
              rotate_left
              · intro w' hSw; (try dsimp only at hSw); go_simp; try with_reducible rfl
              try simp only [Act.put, List.setIfInBounds_toArray, List.set_cons_zero, List.set_cons_succ]
              refine wpAnyH_take (i := 1) (v := ?_) (by simp only [List.getElem?_toArray, List.getElem?_cons_succ, List.getElem?_cons_zero] <;> rfl) (by kernel_rfl) (by kernel_rfl) (by kernel_rfl) (by exact fun _ _ _ h => h) (Or.inl ⟨by kernel_rfl, ?_⟩) (by assumption) ?_
              rotate_left
              · intro w' hSw; (try dsimp only at hSw); go_simp; try with_reducible rfl
              try simp only [Act.put, List.setIfInBounds_toArray, List.set_cons_zero, List.set_cons_succ]
              refine wpAnyH_take (i := 2) (v := ?_) (by simp only [List.getElem?_toArray, List.getElem?_cons_succ, List.getElem?_cons_zero] <;> rfl) (by kernel_rfl) (by kernel_rfl) (by kernel_rfl) (by exact fun _ _ _ h => h) (Or.inl ⟨by kernel_rfl, ?_⟩) (by assumption) ?_
              rotate_left
              · intro w' hSw; (try dsimp only at hSw); go_simp; try with_reducible rfl
              try simp only [Act.put, List.setIfInBounds_toArray, List.set_cons_zero, List.set_cons_succ]
              refine wpAnyH_take (i := 3) (v := ?_) (by simp only [List.getElem?_toArray, List.getElem?_cons_succ, List.getElem?_cons_zero] <;> rfl) (by kernel_rfl) (by kernel_rfl) (by kernel_rfl) (by exact fun _ _ _ h => h) (Or.inl ⟨by kernel_rfl, ?_⟩) (by assumption) ?_
              rotate_left
              · intro w' hSw; (try dsimp only at hSw); go_simp; try with_reducible rfl
              try simp only [Act.put, List.setIfInBounds_toArray, List.set_cons_zero, List.set_cons_succ]
              refine wpAnyH_take (i := 4) (v := ?_) (by simp only [List.getElem?_toArray, List.getElem?_cons_succ, List.getElem?_cons_zero] <;> rfl) (by kernel_rfl) (by kernel_rfl) (by kernel_rfl) (by exact fun _ _ _ h => h) (Or.inl ⟨by kernel_rfl, ?_⟩) (by assumption) ?_
              rotate_left
              · intro w' hSw; (try dsimp only at hSw); go_simp; try with_reducible rfl
              try simp only [Act.put, List.setIfInBounds_toArray, List.set_cons_zero, List.set_cons_succ]
              refine wpAnyH_take (i := 5) (v := ?_) (by simp only [List.getElem?_toArray, List.getElem?_cons_succ, List.getElem?_cons_zero] <;> rfl) (by kernel_rfl) (by kernel_rfl) (by kernel_rfl) (by exact fun _ _ _ h => h) (Or.inl ⟨by kernel_rfl, ?_⟩) (by assumption) ?_
              rotate_left
              · intro w' hSw; (try dsimp only at hSw); go_simp; try with_reducible rfl
              try simp only [Act.put, List.setIfInBounds_toArray, List.set_cons_zero, List.set_cons_succ]
              refine wpAnyH_take (i := 6) (v := ?_) (by simp only [List.getElem?_toArray, List.getElem?_cons_succ, List.getElem?_cons_zero] <;> rfl) (by kernel_rfl) (by kernel_rfl) (by kernel_rfl) (by exact fun _ _ _ h => h) (Or.inl ⟨by kernel_rfl, ?_⟩) (by assumption) ?_
              rotate_left
              · intro w' hSw; (try dsimp only at hSw); go_simp; try with_reducible rfl
              try simp only [Act.put, List.setIfInBounds_toArray, List.set_cons_zero, List.set_cons_succ]
              refine wpAnyH_take (i := 7) (v := ?_) (by simp only [List.getElem?_toArray, List.getElem?_cons_succ, List.getElem?_cons_zero] <;> rfl) (by kernel_rfl) (by kernel_rfl) (by kernel_rfl) (by exact fun _ _ _ h => h) (Or.inl ⟨by kernel_rfl, ?_⟩) (by assumption) ?_
              rotate_left
              · intro w' hSw; (try dsimp only at hSw); go_simp; try with_reducible rfl
              try simp only [Act.put, List.setIfInBounds_toArray, List.set_cons_zero, List.set_cons_succ]
              refine wpAnyH_take (i := 8) (v := ?_) (by simp only [List.getElem?_toArray, List.getElem?_cons_succ, List.getElem?_cons_zero] <;> rfl) (by kernel_rfl) (by kernel_rfl) (by kernel_rfl) (by exact fun _ _ _ h => h) (Or.inl ⟨by kernel_rfl, ?_⟩) (by assumption) ?_
              rotate_left
              · intro w' hSw; (try dsimp only at hSw); go_simp; try with_reducible rfl
              try simp only [Act.put, List.setIfInBounds_toArray, List.set_cons_zero, List.set_cons_succ]
              refine wpAnyH_take (i := 9) (v := ?_) (by simp only [List.getElem?_toArray, List.getElem?_cons_succ, List.getElem?_cons_zero] <;> rfl) (by kernel_rfl) (by kernel_rfl) (by kernel_rfl) (by exact fun _ _ _ h => h) (Or.inl ⟨by kernel_rfl, ?_⟩) (by assumption) ?_
              rotate_left
              · intro w' hSw; (try dsimp only at hSw); go_simp; try with_reducible rfl
              try simp only [Act.put, List.setIfInBounds_toArray, List.set_cons_zero, List.set_cons_succ]
              refine wpAnyH_take (i := 10) (v := ?_) (by simp only [List.getElem?_toArray, List.getElem?_cons_succ, List.getElem?_cons_zero] <;> rfl) (by kernel_rfl) (by kernel_rfl) (by kernel_rfl) (by exact fun _ _ _ h => h) (Or.inl ⟨by kernel_rfl, ?_⟩) (by assumption) ?_
              rotate_left
              · intro w' hSw; (try dsimp only at hSw); go_simp; try with_reducible rfl
              try simp only [Act.put, List.setIfInBounds_toArray, List.set_cons_zero, List.set_cons_succ]
              refine wpAnyH_take (i := 12) (v := ?_) (by simp only [List.getElem?_toArray, List.getElem?_cons_succ, List.getElem?_cons_zero] <;> rfl) (by kernel_rfl) (by kernel_rfl) (by kernel_rfl) (by exact fun _ _ _ h => h) (Or.inl ⟨by kernel_rfl, ?_⟩) (by assumption) ?_
              rotate_left
              · intro w' hSw; (try dsimp only at hSw); go_simp; try with_reducible rfl
              try simp only [Act.put, List.setIfInBounds_toArray, List.set_cons_zero, List.set_cons_succ]
              refine wpAnyH_take (i := 13) (v := ?_) (by simp only [List.getElem?_toArray, List.getElem?_cons_succ, List.getElem?_cons_zero] <;> rfl) (by kernel_rfl) (by kernel_rfl) (by kernel_rfl) (by exact fun _ _ _ h => h) (Or.inl ⟨by kernel_rfl, ?_⟩) (by assumption) ?_
              rotate_left
              · intro w' hSw; (try dsimp only at hSw); go_simp; try with_reducible rfl
              try simp only [Act.put, List.setIfInBounds_toArray, List.set_cons_zero, List.set_cons_succ]
              refine wpAnyH_take (i := 15) (v := ?_) (by simp only [List.getElem?_toArray, List.getElem?_cons_succ, List.getElem?_cons_zero] <;> rfl) (by kernel_rfl) (by kernel_rfl) (by kernel_rfl) (by exact fun _ _ _ h => h) (Or.inl ⟨by kernel_rfl, ?_⟩) (by assumption) ?_
              rotate_left
              · intro w' hSw; (try dsimp only at hSw); go_simp; try with_reducible rfl
              try simp only [Act.put, List.setIfInBounds_toArray, List.set_cons_zero, List.set_cons_succ]
              refine wpAnyH_take (i := 18) (v := ?_) (by simp only [List.getElem?_toArray, List.getElem?_cons_succ, List.getElem?_cons_zero] <;> rfl) (by kernel_rfl) (by kernel_rfl) (by kernel_rfl) (by exact fun _ _ _ h => h) (Or.inl ⟨by kernel_rfl, ?_⟩) (by assumption) ?_
              rotate_left
              · intro w' hSw; (try dsimp only at hSw); go_simp; try with_reducible rfl
              try simp only [Act.put, List.setIfInBounds_toArray, List.set_cons_zero, List.set_cons_succ]
              refine wpAnyH_ready (rs := [11]) (by kernel_rfl) (by simp) (AllReadyH.cons rfl (fun K hK => ?_) AllReadyH.nil)
              go_simp
              (go_at_call 124; refine (impl_readyAt H.out (hwb0.trans inferInstance) NF.out _ _ hs0 HS1.out).mono ?_; rintro e w1 ⟨g1, rfl, hl1, hB1, hg1, L1⟩; have X1 := Later.trans (w := wb) inferInstance L1; have Y1 := Later.trans (w := wx) inferInstance L1; have U1 := Later.trans (w := wy) inferInstance L1; have V1 := Later.trans (w := w5) inferInstance L1; have HL1 := Lib.hid hl1; clear hl1)
              refine hK.out _ _ (by exact ⟨inferInstance, inferInstance, inferInstance, inferInstance⟩) (fun hHeld => ?_)
              try simp only [Act.put, List.setIfInBounds_toArray, List.set_cons_zero, List.set_cons_succ]
              refine wpAnyH_ready (rs := [14]) (by kernel_rfl) (by simp) (AllReadyH.cons rfl (fun K hK => ?_) AllReadyH.nil)
              go_simp
              (go_at_call 123; refine (impl_arrivalsI H.out (hwb0.trans inferInstance) TF.out _ ch0 ch1 (hB1.ints HL1.out (by omega) HSM.out.i64) inferInstance HRL.out HSM.out m hm100 _ rfl).mono ?_; rintro e w2 ⟨g2, rfl, hl2, hB2, hg2, L2⟩; have X2 := Later.trans (w := wb) inferInstance L2; have Y2 := Later.trans (w := wx) inferInstance L2; have U2 := Later.trans (w := wy) inferInstance L2; have V2 := Later.trans (w := w5) inferInstance L2; have hcc := hB2.rowAts HAT.out; have hB7 := hB5.later V2; have hcr := fun i => hB7.cell i; have hfr := fun i => hB7.frozen i; clear hl2)
              refine hK.out _ _ (by exact ⟨inferInstance, inferInstance, inferInstance, inferInstance⟩) (fun hHeld => ?_)
              try simp only [Act.put, List.setIfInBounds_toArray, List.set_cons_zero, List.set_cons_succ]
              refine wpAnyH_take (i := 16) (v := ?_) (by simp only [List.getElem?_toArray, List.getElem?_cons_succ, List.getElem?_cons_zero] <;> rfl) (by kernel_rfl) (by kernel_rfl) (by kernel_rfl) (by exact fun _ _ _ h => h) (Or.inl ⟨by kernel_rfl, ?_⟩) (by assumption) ?_
              rotate_left
              · intro w' hSw; (try dsimp only at hSw); go_simp; try with_reducible rfl
              try simp only [Act.put, List.setIfInBounds_toArray, List.set_cons_zero, List.set_cons_succ]
              refine wpAnyH_ready (rs := [17]) (by kernel_rfl) (by simp) (AllReadyH.cons rfl (fun K hK => ?_) AllReadyH.nil)
              go_simp
              skip
              refine hK.out _ _ (by exact ⟨inferInstance, inferInstance, inferInstance, inferInstance⟩) (fun hHeld => ?_)
              try simp only [Act.put, List.setIfInBounds_toArray, List.set_cons_zero, List.set_cons_succ]
              refine wpAnyH_take (i := 19) (v := ?_) (by simp only [List.getElem?_toArray, List.getElem?_cons_succ, List.getElem?_cons_zero] <;> rfl) (by kernel_rfl) (by kernel_rfl) (by kernel_rfl) (by exact fun _ _ _ h => h) (Or.inl ⟨by kernel_rfl, ?_⟩) (by assumption) ?_
              rotate_left
              · intro w' hSw; (try dsimp only at hSw); go_simp; try with_reducible rfl
              try simp only [Act.put, List.setIfInBounds_toArray, List.set_cons_zero, List.set_cons_succ]
              refine wpAnyH_take (i := 20) (v := ?_) (by simp only [List.getElem?_toArray, List.getElem?_cons_succ, List.getElem?_cons_zero] <;> rfl) (by kernel_rfl) (by kernel_rfl) (by kernel_rfl) (by exact fun _ _ _ h => h) (Or.inl ⟨by kernel_rfl, ?_⟩) (by assumption) ?_
              rotate_left
              · intro w' hSw; (try dsimp only at hSw); go_simp; try with_reducible rfl
              try simp only [Act.put, List.setIfInBounds_toArray, List.set_cons_zero, List.set_cons_succ]
              refine wpAnyH_take (i := 21) (v := ?_) (by simp only [List.getElem?_toArray, List.getElem?_cons_succ, List.getElem?_cons_zero] <;> rfl) (by kernel_rfl) (by kernel_rfl) (by kernel_rfl) (by exact fun _ _ _ h => h) (Or.inl ⟨by kernel_rfl, ?_⟩) (by assumption) ?_
              rotate_left
              · intro w' hSw; (try dsimp only at hSw); go_simp; try with_reducible rfl
              try simp only [Act.put, List.setIfInBounds_toArray, List.set_cons_zero, List.set_cons_succ]
              refine wpAnyH_done (by kernel_rfl) ?_ _
              have hB := hB7
              go_wp2_with fail
              have HF := ((((hB.set_ 0 (.int .i64 (f.Trip))).set_ 1 (.int .i64 (f.From))).set_ 2 (.int .i64 (f.To))).set_ 3 (.int .i64 (f.Depart))).set_ 4 (.int .i64 (f.Arrive))
              have hr0 := (HF.cell 0).trans (show _ = some (.int .i64 (f.Trip) : Value) from rfl)
              have hr1 := (HF.cell 1).trans (show _ = some (.int .i64 (f.From) : Value) from rfl)
              have hr2 := (HF.cell 2).trans (show _ = some (.int .i64 (f.To) : Value) from rfl)
              have hr3 := (HF.cell 3).trans (show _ = some (.int .i64 (f.Depart) : Value) from rfl)
              have hr4 := (HF.cell 4).trans (show _ = some (.int .i64 (f.Arrive) : Value) from rfl)
              refine bodyPost_ret (v := .agg #[.int .i64 (f.Trip), .int .i64 (f.From), .int .i64 (f.To), .int .i64 (f.Depart), .int .i64 (f.Arrive)]) (by simp [results, Try.results139, go_sem, hr0, hr1, hr2, hr3, hr4]) rfl ?_
              exact ⟨by rw [HR.out], hww.trans inferInstance⟩
            · have HNO : Hid (tryStop t change stop q ready by_ L x s = none) := tryStop_no3 (by unfold lastOk; rw [if_neg HLE.out, HTF.out, HM1.out, HV.out]; simp [cv])
              have HF3 : Hid (((List.range sn0).drop (s + 1)).findSome? (tryStop t change stop q ready by_ L x) = tryTrip t change stop q ready by_ L x) := by
                show _ = _
                rw [← HG.out, findS_at (range_at hls), HNO.out]
              clear HG
              go_wp2_with (go_at_call 180; refine (impl_fillLeg H.out (hwb0.trans inferInstance) NF.out x TI.out stop s).mono ?_; rw [HFT.out]; rintro e w4 ⟨rfl, L4⟩; have X4 := Later.trans (w := wb) inferInstance L4; have Z4 := Later.trans (w := wx) inferInstance L4; have Y4 := Later.trans (w := wy) inferInstance L4; have hB := HBX.later Z4; have hcr := fun i => (hB.alloc (.cells #[.int .i64 f.Trip, .int .i64 f.From, .int .i64 f.To, .int .i64 f.Depart, .int .i64 f.Arrive] 122)).cell i; have hfr := fun i => (hB.alloc (.cells #[.int .i64 f.Trip, .int .i64 f.From, .int .i64 f.To, .int .i64 f.Depart, .int .i64 f.Arrive] 122)).frozen i)
              obtain ⟨w5, hw5⟩ : ∃ w5 : World, w5 = w4.alloc (.cells #[.int .i64 f.Trip, .int .i64 f.From, .int .i64 f.To, .int .i64 f.Depart, .int .i64 f.Arrive] 122) := ⟨_, rfl⟩
              rw [← hw5]
              have hB5 : Blk w5 (w.heap.size + 1) 122 #[.int .i64 0, .int .i64 0, .int .i64 0, .int .i64 0, .int .i64 0] := by rw [hw5]; exact hB.alloc _
              have HBQ : ∀ W [Later w5 W] (j : Nat), W.cell? ⟨w4.heap.size, j, none⟩ = #[.int .i64 f.Trip, .int .i64 f.From, .int .i64 f.To, .int .i64 f.Depart, .int .i64 f.Arrive][j]? := by rw [hw5]; exact Later.boxes (t := 122) (fr := (0, 0)) (heap_new rfl)
              haveI hb5 : Later wb w5 := by rw [hw5]; infer_instance
              haveI hx5 : Later wx w5 := by rw [hw5]; infer_instance
              haveI hy5 : Later wy w5 := by rw [hw5]; infer_instance
              clear hcr hfr hB hw5
              refine wp_region_held_drew (S := (fun w' => Later wb w' ∧ Later wx w' ∧ Later wy w' ∧ Later w5 w')) (by kernel_rfl) (by exact ⟨inferInstance, inferInstance, inferInstance, inferInstance⟩) (fun hHeld => ?_)
              refine wpAnyH_take (i := 0) (v := ?_) (by simp only [List.getElem?_toArray, List.getElem?_cons_zero] <;> rfl) (by kernel_rfl) (by kernel_rfl) (by kernel_rfl) (by exact fun _ _ _ h => h) (Or.inl ⟨by kernel_rfl, ?_⟩) (by assumption) ?_
              rotate_left
              · intro w' hSw; (try dsimp only at hSw); go_simp; try with_reducible rfl
              try simp only [Act.put, List.setIfInBounds_toArray, List.set_cons_zero, List.set_cons_succ]
              refine wpAnyH_take (i := 1) (v := ?_) (by simp only [List.getElem?_toArray, List.getElem?_cons_succ, List.getElem?_cons_zero] <;> rfl) (by kernel_rfl) (by kernel_rfl) (by kernel_rfl) (by exact fun _ _ _ h => h) (Or.inl ⟨by kernel_rfl, ?_⟩) (by assumption) ?_
              rotate_left
              · intro w' hSw; (try dsimp only at hSw); go_simp; try with_reducible rfl
              try simp only [Act.put, List.setIfInBounds_toArray, List.set_cons_zero, List.set_cons_succ]
              refine wpAnyH_take (i := 2) (v := ?_) (by simp only [List.getElem?_toArray, List.getElem?_cons_succ, List.getElem?_cons_zero] <;> rfl) (by kernel_rfl) (by kernel_rfl) (by kernel_rfl) (by exact fun _ _ _ h => h) (Or.inl ⟨by kernel_rfl, ?_⟩) (by assumption) ?_
              rotate_left
              · intro w' hSw; (try dsimp only at hSw); go_simp; try with_reducible rfl
              try simp only [Act.put, List.setIfInBounds_toArray, List.set_cons_zero, List.set_cons_succ]
              refine wpAnyH_take (i := 3) (v := ?_) (by simp only [List.getElem?_toArray, List.getElem?_cons_succ, List.getElem?_cons_zero] <;> rfl) (by kernel_rfl) (by kernel_rfl) (by kernel_rfl) (by exact fun _ _ _ h => h) (Or.inl ⟨by kernel_rfl, ?_⟩) (by assumption) ?_
              rotate_left
              · intro w' hSw; (try dsimp only at hSw); go_simp; try with_reducible rfl
              try simp only [Act.put, List.setIfInBounds_toArray, List.set_cons_zero, List.set_cons_succ]
              refine wpAnyH_take (i := 4) (v := ?_) (by simp only [List.getElem?_toArray, List.getElem?_cons_succ, List.getElem?_cons_zero] <;> rfl) (by kernel_rfl) (by kernel_rfl) (by kernel_rfl) (by exact fun _ _ _ h => h) (Or.inl ⟨by kernel_rfl, ?_⟩) (by assumption) ?_
              rotate_left
              · intro w' hSw; (try dsimp only at hSw); go_simp; try with_reducible rfl
              try simp only [Act.put, List.setIfInBounds_toArray, List.set_cons_zero, List.set_cons_succ]
              refine wpAnyH_take (i := 5) (v := ?_) (by simp only [List.getElem?_toArray, List.getElem?_cons_succ, List.getElem?_cons_zero] <;> rfl) (by kernel_rfl) (by kernel_rfl) (by kernel_rfl) (by exact fun _ _ _ h => h) (Or.inl ⟨by kernel_rfl, ?_⟩) (by assumption) ?_
              rotate_left
              · intro w' hSw; (try dsimp only at hSw); go_simp; try with_reducible rfl
              try simp only [Act.put, List.setIfInBounds_toArray, List.set_cons_zero, List.set_cons_succ]
              refine wpAnyH_take (i := 6) (v := ?_) (by simp only [List.getElem?_toArray, List.getElem?_cons_succ, List.getElem?_cons_zero] <;> rfl) (by kernel_rfl) (by kernel_rfl) (by kernel_rfl) (by exact fun _ _ _ h => h) (Or.inl ⟨by kernel_rfl, ?_⟩) (by assumption) ?_
              rotate_left
              · intro w' hSw; (try dsimp only at hSw); go_simp; try with_reducible rfl
              try simp only [Act.put, List.setIfInBounds_toArray, List.set_cons_zero, List.set_cons_succ]
              refine wpAnyH_take (i := 7) (v := ?_) (by simp only [List.getElem?_toArray, List.getElem?_cons_succ, List.getElem?_cons_zero] <;> rfl) (by kernel_rfl) (by kernel_rfl) (by kernel_rfl) (by exact fun _ _ _ h => h) (Or.inl ⟨by kernel_rfl, ?_⟩) (by assumption) ?_
              rotate_left
              · intro w' hSw; (try dsimp only at hSw); go_simp; try with_reducible rfl
              try simp only [Act.put, List.setIfInBounds_toArray, List.set_cons_zero, List.set_cons_succ]
              refine wpAnyH_take (i := 8) (v := ?_) (by simp only [List.getElem?_toArray, List.getElem?_cons_succ, List.getElem?_cons_zero] <;> rfl) (by kernel_rfl) (by kernel_rfl) (by kernel_rfl) (by exact fun _ _ _ h => h) (Or.inl ⟨by kernel_rfl, ?_⟩) (by assumption) ?_
              rotate_left
              · intro w' hSw; (try dsimp only at hSw); go_simp; try with_reducible rfl
              try simp only [Act.put, List.setIfInBounds_toArray, List.set_cons_zero, List.set_cons_succ]
              refine wpAnyH_take (i := 9) (v := ?_) (by simp only [List.getElem?_toArray, List.getElem?_cons_succ, List.getElem?_cons_zero] <;> rfl) (by kernel_rfl) (by kernel_rfl) (by kernel_rfl) (by exact fun _ _ _ h => h) (Or.inl ⟨by kernel_rfl, ?_⟩) (by assumption) ?_
              rotate_left
              · intro w' hSw; (try dsimp only at hSw); go_simp; try with_reducible rfl
              try simp only [Act.put, List.setIfInBounds_toArray, List.set_cons_zero, List.set_cons_succ]
              refine wpAnyH_take (i := 10) (v := ?_) (by simp only [List.getElem?_toArray, List.getElem?_cons_succ, List.getElem?_cons_zero] <;> rfl) (by kernel_rfl) (by kernel_rfl) (by kernel_rfl) (by exact fun _ _ _ h => h) (Or.inl ⟨by kernel_rfl, ?_⟩) (by assumption) ?_
              rotate_left
              · intro w' hSw; (try dsimp only at hSw); go_simp; try with_reducible rfl
              try simp only [Act.put, List.setIfInBounds_toArray, List.set_cons_zero, List.set_cons_succ]
              refine wpAnyH_take (i := 12) (v := ?_) (by simp only [List.getElem?_toArray, List.getElem?_cons_succ, List.getElem?_cons_zero] <;> rfl) (by kernel_rfl) (by kernel_rfl) (by kernel_rfl) (by exact fun _ _ _ h => h) (Or.inl ⟨by kernel_rfl, ?_⟩) (by assumption) ?_
              rotate_left
              · intro w' hSw; (try dsimp only at hSw); go_simp; try with_reducible rfl
              try simp only [Act.put, List.setIfInBounds_toArray, List.set_cons_zero, List.set_cons_succ]
              refine wpAnyH_take (i := 13) (v := ?_) (by simp only [List.getElem?_toArray, List.getElem?_cons_succ, List.getElem?_cons_zero] <;> rfl) (by kernel_rfl) (by kernel_rfl) (by kernel_rfl) (by exact fun _ _ _ h => h) (Or.inl ⟨by kernel_rfl, ?_⟩) (by assumption) ?_
              rotate_left
              · intro w' hSw; (try dsimp only at hSw); go_simp; try with_reducible rfl
              try simp only [Act.put, List.setIfInBounds_toArray, List.set_cons_zero, List.set_cons_succ]
              refine wpAnyH_take (i := 15) (v := ?_) (by simp only [List.getElem?_toArray, List.getElem?_cons_succ, List.getElem?_cons_zero] <;> rfl) (by kernel_rfl) (by kernel_rfl) (by kernel_rfl) (by exact fun _ _ _ h => h) (Or.inl ⟨by kernel_rfl, ?_⟩) (by assumption) ?_
              rotate_left
              · intro w' hSw; (try dsimp only at hSw); go_simp; try with_reducible rfl
              try simp only [Act.put, List.setIfInBounds_toArray, List.set_cons_zero, List.set_cons_succ]
              refine wpAnyH_take (i := 18) (v := ?_) (by simp only [List.getElem?_toArray, List.getElem?_cons_succ, List.getElem?_cons_zero] <;> rfl) (by kernel_rfl) (by kernel_rfl) (by kernel_rfl) (by exact fun _ _ _ h => h) (Or.inl ⟨by kernel_rfl, ?_⟩) (by assumption) ?_
              rotate_left
              · intro w' hSw; (try dsimp only at hSw); go_simp; try with_reducible rfl
              try simp only [Act.put, List.setIfInBounds_toArray, List.set_cons_zero, List.set_cons_succ]
              refine wpAnyH_ready (rs := [11]) (by kernel_rfl) (by simp) (AllReadyH.cons rfl (fun K hK => ?_) AllReadyH.nil)
              go_simp
              (go_at_call 124; refine (impl_readyAt H.out (hwb0.trans inferInstance) NF.out _ _ hs0 HS1.out).mono ?_; rintro e w1 ⟨g1, rfl, hl1, hB1, hg1, L1⟩; have X1 := Later.trans (w := wb) inferInstance L1; have Y1 := Later.trans (w := wx) inferInstance L1; have U1 := Later.trans (w := wy) inferInstance L1; have V1 := Later.trans (w := w5) inferInstance L1; have HL1 := Lib.hid hl1; clear hl1)
              refine hK.out _ _ (by exact ⟨inferInstance, inferInstance, inferInstance, inferInstance⟩) (fun hHeld => ?_)
              try simp only [Act.put, List.setIfInBounds_toArray, List.set_cons_zero, List.set_cons_succ]
              refine wpAnyH_ready (rs := [14]) (by kernel_rfl) (by simp) (AllReadyH.cons rfl (fun K hK => ?_) AllReadyH.nil)
              go_simp
              (go_at_call 123; refine (impl_arrivalsI H.out (hwb0.trans inferInstance) TF.out _ ch0 ch1 (hB1.ints HL1.out (by omega) HSM.out.i64) inferInstance HRL.out HSM.out m hm100 _ rfl).mono ?_; rintro e w2 ⟨g2, rfl, hl2, hB2, hg2, L2⟩; have X2 := Later.trans (w := wb) inferInstance L2; have Y2 := Later.trans (w := wx) inferInstance L2; have U2 := Later.trans (w := wy) inferInstance L2; have V2 := Later.trans (w := w5) inferInstance L2; have hcc := hB2.rowAts HAT.out; have hB7 := hB5.later V2; have hcr := fun i => hB7.cell i; have hfr := fun i => hB7.frozen i; clear hl2)
              refine hK.out _ _ (by exact ⟨inferInstance, inferInstance, inferInstance, inferInstance⟩) (fun hHeld => ?_)
              try simp only [Act.put, List.setIfInBounds_toArray, List.set_cons_zero, List.set_cons_succ]
              refine wpAnyH_take (i := 16) (v := ?_) (by simp only [List.getElem?_toArray, List.getElem?_cons_succ, List.getElem?_cons_zero] <;> rfl) (by kernel_rfl) (by kernel_rfl) (by kernel_rfl) (by exact fun _ _ _ h => h) (Or.inl ⟨by kernel_rfl, ?_⟩) (by assumption) ?_
              rotate_left
              · intro w' hSw; (try dsimp only at hSw); go_simp; try with_reducible rfl
              try simp only [Act.put, List.setIfInBounds_toArray, List.set_cons_zero, List.set_cons_succ]
              refine wpAnyH_ready (rs := [17]) (by kernel_rfl) (by simp) (AllReadyH.cons rfl (fun K hK => ?_) AllReadyH.nil)
              go_simp
              skip
              refine hK.out _ _ (by exact ⟨inferInstance, inferInstance, inferInstance, inferInstance⟩) (fun hHeld => ?_)
              try simp only [Act.put, List.setIfInBounds_toArray, List.set_cons_zero, List.set_cons_succ]
              refine wpAnyH_take (i := 19) (v := ?_) (by simp only [List.getElem?_toArray, List.getElem?_cons_succ, List.getElem?_cons_zero] <;> rfl) (by kernel_rfl) (by kernel_rfl) (by kernel_rfl) (by exact fun _ _ _ h => h) (Or.inl ⟨by kernel_rfl, ?_⟩) (by assumption) ?_
              rotate_left
              · intro w' hSw; (try dsimp only at hSw); go_simp; try with_reducible rfl
              try simp only [Act.put, List.setIfInBounds_toArray, List.set_cons_zero, List.set_cons_succ]
              refine wpAnyH_take (i := 20) (v := ?_) (by simp only [List.getElem?_toArray, List.getElem?_cons_succ, List.getElem?_cons_zero] <;> rfl) (by kernel_rfl) (by kernel_rfl) (by kernel_rfl) (by exact fun _ _ _ h => h) (Or.inl ⟨by kernel_rfl, ?_⟩) (by assumption) ?_
              rotate_left
              · intro w' hSw; (try dsimp only at hSw); go_simp; try with_reducible rfl
              try simp only [Act.put, List.setIfInBounds_toArray, List.set_cons_zero, List.set_cons_succ]
              refine wpAnyH_take (i := 21) (v := ?_) (by simp only [List.getElem?_toArray, List.getElem?_cons_succ, List.getElem?_cons_zero] <;> rfl) (by kernel_rfl) (by kernel_rfl) (by kernel_rfl) (by exact fun _ _ _ h => h) (Or.inl ⟨by kernel_rfl, ?_⟩) (by assumption) ?_
              rotate_left
              · intro w' hSw; (try dsimp only at hSw); go_simp; try with_reducible rfl
              try simp only [Act.put, List.setIfInBounds_toArray, List.set_cons_zero, List.set_cons_succ]
              refine wpAnyH_done (by kernel_rfl) ?_ _
              go_wp2_with fail
              go_roundw
              case rel => exact ⟨s + 1, by omega, by go_num, HF3, inferInstance, inferInstance, inferInstance⟩
              case measure => simp [intOf]; omega
        · have HF3 : Hid ((t.Trips.drop (k + 1)).findSome? (tryTrip t change stop q ready by_ L) = t.Trips.findSome? (tryTrip t change stop q ready by_ L)) := by
            have h9 := HG.out
            rw [List.drop_eq_nil_of_le (by simp; omega)] at h9
            have h2 := HF2.out
            rw [← h9] at h2
            exact h2
          go_wp2
          go_roundw
          case rel => exact ⟨k + 1, by omega, by go_num, HF3, inferInstance, inferInstance⟩
          case measure => simp [intOf]; omega
    · have HR : Hid (firstL t change stop q ready by_ L = noLeg) := by
        have h9 := HF.out
        rw [List.drop_eq_nil_of_le (by have := HT2.out; omega)] at h9
        show _ = _
        unfold firstL
        rw [← h9]; rfl
      have hB := HBX.later hZ
      have hcr := fun i => hB.cell i
      have hfr := fun i => hB.frozen i
      go_wp2
      have HF := ((((hB.set_ 0 (.int .i64 (0))).set_ 1 (.int .i64 (0))).set_ 2 (.int .i64 (0))).set_ 3 (.int .i64 (0))).set_ 4 (.int .i64 (0))
      have hr0 := (HF.cell 0).trans (show _ = some (.int .i64 (0) : Value) from rfl)
      have hr1 := (HF.cell 1).trans (show _ = some (.int .i64 (0) : Value) from rfl)
      have hr2 := (HF.cell 2).trans (show _ = some (.int .i64 (0) : Value) from rfl)
      have hr3 := (HF.cell 3).trans (show _ = some (.int .i64 (0) : Value) from rfl)
      have hr4 := (HF.cell 4).trans (show _ = some (.int .i64 (0) : Value) from rfl)
      refine bodyPost_ret (v := .agg #[.int .i64 (0), .int .i64 (0), .int .i64 (0), .int .i64 (0), .int .i64 (0)]) (by simp [results, Try.results139, go_sem, hr0, hr1, hr2, hr3, hr4]) rfl ?_
      exact ⟨by rw [HR.out]; rfl, hww.trans inferInstance⟩
end Go.Proofs.Yteijofkkggifhaa
namespace Go.Proofs.Yteijofkkggifhaa
open Go Go.RowKit
set_option linter.unusedVariables false
set_option maxRecDepth 100000
set_option linter.unusedSimpArgs false
theorem small_at {n : Nat} {from_ d : Int} (h0 : 0 ≤ d) (h1 : d ≤ 2099) : Small (readyL n from_ d) := by
  intro v hv
  unfold readyL at hv
  rcases List.mem_or_eq_of_mem_set hv with h1' | h1'
  · rw [List.eq_of_mem_replicate h1']; unfold never; omega
  · subst h1'; omega
theorem firstL_ok {t : Timetable} (ht : TimeFacts t) {change stop to ready by_ : Int} {k : Nat} (hs : I64 stop) : LegOk (firstL t change stop to ready by_ k) ∧ 0 ≤ (firstL t change stop to ready by_ k).Arrive ∧ (firstL t change stop to ready by_ k).Arrive ≤ 2099 := by
  unfold firstL
  cases e : t.Trips.findSome? (tryTrip t change stop to ready by_ k) with
  | none =>
    have z : I64 0 := by unfold I64; omega
    exact ⟨⟨z, z, z, z, z⟩, by decide, by decide⟩
  | some l =>
    obtain ⟨x, hx, h1⟩ := findSome_mem e
    unfold tryTrip at h1
    obtain ⟨s, hs1, h2⟩ := findSome_mem h1
    have hsr := List.mem_range.1 hs1
    have h8 := ht.net.stops
    obtain ⟨e3, h0, hlt, _, _⟩ := tryStop_some h2
    have fb := fill_bd ht hx stop s
    rw [fill_yes h0 hlt] at fb
    simp only at fb
    rw [← e3] at fb
    obtain ⟨i, hi⟩ := List.getElem?_of_mem hx
    have tfx := ht.trip i x hi
    have hid : 0 ≤ x.Id ∧ x.Id ≤ 999 := by have := tfx.id; omega
    have g1 : l.Trip = x.Id := by rw [e3]; rfl
    have g2 : l.From = stop := by rw [e3]; rfl
    have g3 : l.To = (s : Int) := by rw [e3]; rfl
    simp only [Option.getD_some]
    refine ⟨⟨?_, ?_, ?_, ?_, ?_⟩, fb.2.2.1, fb.2.2.2⟩
    · rw [g1]; unfold I64; omega
    · rw [g2]; exact hs
    · rw [g3]; unfold I64; omega
    · unfold I64; omega
    · unfold I64; omega
def RetOn {α : Type} (sz : Nat) (ro : ORep α) (l : List α) (w : World) (e : Ending) (w' : World) : Prop :=
  ∃ A n c fp, e = .returned (.slice A n c) ∧ OSl sz ro w' A n c l fp ∧ fp.Nodup ∧ (∀ g, g ∈ fp → w.heap.size ≤ g) ∧ Later w w' ∧ (A = none ↔ n = 0)
set_option maxHeartbeats 8000000 in
theorem impl_firstJourney {w0 w : World} {sA0 : Option Addr} {sn0 sc0 : Nat} {sA1 : Option Addr} {sn1 sc1 : Nat} {sA2 : Option Addr} {sn2 sc2 : Nat} {t : Timetable} (h : TimetableAt w0 sA0 sn0 sc0 sA1 sn1 sc1 sA2 sn2 sc2 t) (hl : Later w0 w) (change from_ to at_ : Int) (pf : PairFacts t change from_ to) (a0 : 0 ≤ at_) (a1 : at_ ≤ 2099) (m : Nat) (hm1 : 1 ≤ m) (hm4 : m ≤ 4) (n : Int) (hn : n = m) :
    Calls Try.prog 80 #[.agg #[.slice sA0 sn0 sc0, .slice sA1 sn1 sc1, .slice sA2 sn2 sc2], .int .i64 change, .int .i64 from_, .int .i64 to, .int .i64 at_, .int .i64 n] w (RetOn 5 oLeg (firstJ t change from_ to at_ m) w) := by
  subst hn
  have Hl : Hid (sn0 = t.Network.Stops.length) := h.l_Network_Stops.len
  have hn8 : sn0 ≤ 8 := by have := pf.time.net.stops; rw [Hl.out]; omega
  have PF := Lib.hid pf
  have c0 := pf.ch.1
  have c1 := pf.ch.2
  obtain ⟨q, rfl⟩ := Int.eq_ofNat_of_zero_le pf.to_.1
  have hq : q < sn0 := by have := pf.to_.2; rw [Hl.out]; omega
  have hqi : (q : Int) < sn0 := by omega
  have HSM := Lib.hid (small_at (n := t.Network.Stops.length) (from_ := from_) a0 a1)
  have HRL : Hid ((readyL t.Network.Stops.length from_ at_).length = t.Network.Stops.length) := by show _ = _; simp [readyL]
  have HAT : Hid (∀ k, (arrL t change (readyL t.Network.Stops.length from_ at_) k)[q]? = some (arrV t change from_ at_ k q)) := fun k => by
    have hlen := (arrL_min (stopsIn PF.out.time) c0 (at_ := at_) PF.out.fr.1 PF.out.fr.2 k).1
    have hq2 : q < (arrL t change (readyL t.Network.Stops.length from_ at_) k).length := by rw [hlen, ← Hl.out]; exact hq
    unfold arrV gi
    rw [List.getD_eq_getElem?_getD, Int.toNat_natCast, List.getElem?_eq_getElem hq2]; rfl
  have HRG : Hid (∀ k, arrV t change from_ at_ k q = never ∨ 0 ≤ arrV t change from_ at_ k q ∧ arrV t change from_ at_ k q ≤ 2099) := fun k => arrV_rng PF.out.time PF.out.ch.1 PF.out.fr.1 PF.out.fr.2 PF.out.to_.1 PF.out.to_.2 (at_ := at_) k
  obtain ⟨V, hV⟩ : ∃ V : Nat → Int, V = fun k => arrV t change from_ at_ k q := ⟨_, rfl⟩
  have HV := Lib.hid hV
  replace HAT : Hid (∀ k, (arrL t change (readyL t.Network.Stops.length from_ at_) k)[q]? = some (V k)) := by rw [hV]; exact HAT
  replace HRG : Hid (∀ k, V k = never ∨ 0 ≤ V k ∧ V k ≤ 2099) := by rw [hV]; exact HRG
  have HFN : Hid (V m = never → firstJ t change from_ q at_ m = []) := fun e => firstJ_no (by rw [hV] at e; exact e)
  have HFY : Hid (V m ≠ never → firstJ t change from_ q at_ m = journeyGo t change q (V m) (leastL V m) from_ at_) := fun e => by
    rw [hV] at e ⊢
    exact firstJ_yes e
  have HI64 : Hid (I64 from_) := by have := PF.out.fr; have := PF.out.time.net.stops; show I64 _; unfold I64; omega
  clear pf hV
  obtain ⟨by_, hby⟩ : ∃ v, V m = v := ⟨_, rfl⟩
  have hbr := HRG.out m
  rw [hby] at hbr
  have HBY := Lib.hid hby
  clear hby
  have HB0 : ∀ W [Later (w.alloc (.cells #[.slice sA0 sn0 sc0, .slice sA1 sn1 sc1, .slice sA2 sn2 sc2] 39)) W] (j : Nat), W.cell? ⟨w.heap.size, j, none⟩ = #[.slice sA0 sn0 sc0, .slice sA1 sn1 sc1, .slice sA2 sn2 sc2][j]? := Later.boxes (t := 39) (fr := (0, 0)) (heap_new (by simp; try omega)); obtain ⟨wb, hwb⟩ : ∃ wb : World, wb = (w.alloc (.cells #[.slice sA0 sn0 sc0, .slice sA1 sn1 sc1, .slice sA2 sn2 sc2] 39)) := ⟨_, rfl⟩; haveI hbW : Later wb (w.alloc (.cells #[.slice sA0 sn0 sc0, .slice sA1 sn1 sc1, .slice sA2 sn2 sc2] 39)) := (by rw [hwb]; exact Later.rfl_); haveI hww : Later w wb := (by rw [hwb]; infer_instance); rw [← hwb] at HB0; have hbE := Lib.hid (congrArg (fun x : World => x.heap.size) hwb); clear hwb
  have hwb0 := hl.trans hww
  have H := Lib.hid h
  clear h
  have hbs : wb.heap.size ≤ w.heap.size + 1 := by have := hbE.out; simp at this; omega
  have hbs2 : w.heap.size + 1 ≤ wb.heap.size := by have := hbE.out; simp at this; omega
  by_cases cn : by_ = 1073741824
  · have e1 := (beqi_t cn).1
    have HN := Lib.hid (HFN.out (by rw [HBY.out, cn]; rfl))
    rw [HN.out]
    clear cn
    go_enter Try.func80, Try.ntmps80
    go_wp2_with fail
    refine wp_region_held_drew (S := (fun w' => Later wb w' ∧ Later wb w')) (by kernel_rfl) (by exact ⟨inferInstance, inferInstance⟩) (fun hHeld => ?_)
    refine wpAnyH_take (i := 0) (v := ?_) (by simp only [List.getElem?_toArray, List.getElem?_cons_zero] <;> rfl) (by kernel_rfl) (by kernel_rfl) (by kernel_rfl) (by exact fun _ _ _ h => h) (Or.inl ⟨by kernel_rfl, ?_⟩) (by assumption) ?_
    rotate_left
    · intro w' hSw; (try dsimp only at hSw); go_simp; try with_reducible rfl
    try simp only [Act.put, List.setIfInBounds_toArray, List.set_cons_zero, List.set_cons_succ]
    refine wpAnyH_take (i := 1) (v := ?_) (by simp only [List.getElem?_toArray, List.getElem?_cons_succ, List.getElem?_cons_zero] <;> rfl) (by kernel_rfl) (by kernel_rfl) (by kernel_rfl) (by exact fun _ _ _ h => h) (Or.inl ⟨by kernel_rfl, ?_⟩) (by assumption) ?_
    rotate_left
    · intro w' hSw; (try dsimp only at hSw); go_simp; try with_reducible rfl
    try simp only [Act.put, List.setIfInBounds_toArray, List.set_cons_zero, List.set_cons_succ]
    refine wpAnyH_take (i := 2) (v := ?_) (by simp only [List.getElem?_toArray, List.getElem?_cons_succ, List.getElem?_cons_zero] <;> rfl) (by kernel_rfl) (by kernel_rfl) (by kernel_rfl) (by exact fun _ _ _ h => h) (Or.inl ⟨by kernel_rfl, ?_⟩) (by assumption) ?_
    rotate_left
    · intro w' hSw; (try dsimp only at hSw); go_simp; try with_reducible rfl
    try simp only [Act.put, List.setIfInBounds_toArray, List.set_cons_zero, List.set_cons_succ]
    refine wpAnyH_take (i := 3) (v := ?_) (by simp only [List.getElem?_toArray, List.getElem?_cons_succ, List.getElem?_cons_zero] <;> rfl) (by kernel_rfl) (by kernel_rfl) (by kernel_rfl) (by exact fun _ _ _ h => h) (Or.inl ⟨by kernel_rfl, ?_⟩) (by assumption) ?_
    rotate_left
    · intro w' hSw; (try dsimp only at hSw); go_simp; try with_reducible rfl
    try simp only [Act.put, List.setIfInBounds_toArray, List.set_cons_zero, List.set_cons_succ]
    refine wpAnyH_take (i := 4) (v := ?_) (by simp only [List.getElem?_toArray, List.getElem?_cons_succ, List.getElem?_cons_zero] <;> rfl) (by kernel_rfl) (by kernel_rfl) (by kernel_rfl) (by exact fun _ _ _ h => h) (Or.inl ⟨by kernel_rfl, ?_⟩) (by assumption) ?_
    rotate_left
    · intro w' hSw; (try dsimp only at hSw); go_simp; try with_reducible rfl
    try simp only [Act.put, List.setIfInBounds_toArray, List.set_cons_zero, List.set_cons_succ]
    refine wpAnyH_take (i := 6) (v := ?_) (by simp only [List.getElem?_toArray, List.getElem?_cons_succ, List.getElem?_cons_zero] <;> rfl) (by kernel_rfl) (by kernel_rfl) (by kernel_rfl) (by exact fun _ _ _ h => h) (Or.inl ⟨by kernel_rfl, ?_⟩) (by assumption) ?_
    rotate_left
    · intro w' hSw; (try dsimp only at hSw); go_simp; try with_reducible rfl
    try simp only [Act.put, List.setIfInBounds_toArray, List.set_cons_zero, List.set_cons_succ]
    refine wpAnyH_take (i := 8) (v := ?_) (by simp only [List.getElem?_toArray, List.getElem?_cons_succ, List.getElem?_cons_zero] <;> rfl) (by kernel_rfl) (by kernel_rfl) (by kernel_rfl) (by exact fun _ _ _ h => h) (Or.inl ⟨by kernel_rfl, ?_⟩) (by assumption) ?_
    rotate_left
    · intro w' hSw; (try dsimp only at hSw); go_simp; try with_reducible rfl
    try simp only [Act.put, List.setIfInBounds_toArray, List.set_cons_zero, List.set_cons_succ]
    refine wpAnyH_ready (rs := [5]) (by kernel_rfl) (by simp) (AllReadyH.cons rfl (fun K hK => ?_) AllReadyH.nil)
    go_simp
    (go_at_call 124; refine (impl_readyAt H.out (hwb0.trans inferInstance) PF.out.time.net _ _ PF.out.fr.1 PF.out.fr.2).mono ?_; rintro e w1 ⟨g1, rfl, hl1, hB1, hg1, L1⟩; have X1 := Later.trans (w := wb) inferInstance L1; have Y1 := Later.trans (w := wb) inferInstance L1; have HL1 := Lib.hid hl1; clear hl1)
    refine hK.out _ _ (by exact ⟨inferInstance, inferInstance⟩) (fun hHeld => ?_)
    try simp only [Act.put, List.setIfInBounds_toArray, List.set_cons_zero, List.set_cons_succ]
    refine wpAnyH_ready (rs := [7]) (by kernel_rfl) (by simp) (AllReadyH.cons rfl (fun K hK => ?_) AllReadyH.nil)
    go_simp
    (go_at_call 123; refine (impl_arrivalsI H.out (hwb0.trans inferInstance) PF.out.time _ c0 c1 (hB1.ints HL1.out (by omega) HSM.out.i64) inferInstance HRL.out HSM.out m (by omega) _ rfl).mono ?_; rintro e w2 ⟨g2, rfl, hl2, hB2, hg2, L2⟩; have X2 := Later.trans (w := wb) inferInstance L2; have Y2 := Later.trans (w := wb) inferInstance L2; have hcc := hB2.rowAts (by have := HAT.out m; rw [HBY.out] at this; exact this); clear hl2)
    refine hK.out _ _ (by exact ⟨inferInstance, inferInstance⟩) (fun hHeld => ?_)
    try simp only [Act.put, List.setIfInBounds_toArray, List.set_cons_zero, List.set_cons_succ]
    refine wpAnyH_take (i := 9) (v := ?_) (by simp only [List.getElem?_toArray, List.getElem?_cons_succ, List.getElem?_cons_zero] <;> rfl) (by kernel_rfl) (by kernel_rfl) (by kernel_rfl) (by exact fun _ _ _ h => h) (Or.inl ⟨by kernel_rfl, ?_⟩) (by assumption) ?_
    rotate_left
    · intro w' hSw; (try dsimp only at hSw); go_simp; try with_reducible rfl
    try simp only [Act.put, List.setIfInBounds_toArray, List.set_cons_zero, List.set_cons_succ]
    refine wpAnyH_ready (rs := [10]) (by kernel_rfl) (by simp) (AllReadyH.cons rfl (fun K hK => ?_) AllReadyH.nil)
    go_simp
    skip
    refine hK.out _ _ (by exact ⟨inferInstance, inferInstance⟩) (fun hHeld => ?_)
    try simp only [Act.put, List.setIfInBounds_toArray, List.set_cons_zero, List.set_cons_succ]
    refine wpAnyH_take (i := 11) (v := ?_) (by simp only [List.getElem?_toArray, List.getElem?_cons_succ, List.getElem?_cons_zero] <;> rfl) (by kernel_rfl) (by kernel_rfl) (by kernel_rfl) (by exact fun _ _ _ h => h) (Or.inl ⟨by kernel_rfl, ?_⟩) (by assumption) ?_
    rotate_left
    · intro w' hSw; (try dsimp only at hSw); go_simp; try with_reducible rfl
    try simp only [Act.put, List.setIfInBounds_toArray, List.set_cons_zero, List.set_cons_succ]
    refine wpAnyH_done (by kernel_rfl) ?_ _
    clear hB1 hg1 hB2 hg2
    go_wp2
    go_ret
    exact ⟨none, 0, 0, [], rfl, OSl.nil_ _, by simp, by simp, hww.trans inferInstance, by simp⟩
  have hb0 : 0 ≤ by_ := by unfold never at hbr; omega
  have hb1 : by_ ≤ 2099 := by unfold never at hbr; omega
  have e1 := (beqi_f cn).1
  have HN := Lib.hid (HFY.out (by rw [HBY.out]; exact cn))
  obtain ⟨l1, l2, l3, l4⟩ := leastL_spec (A := V) hm1
  obtain ⟨L, hL⟩ : ∃ L, leastL V m = L := ⟨_, rfl⟩
  rw [hL] at l1 l2 l3 l4 HN
  rw [HBY.out] at l3 l4 HN
  have HL3 := Lib.hid l3
  have HL4 := Lib.hid l4
  rw [HN.out]
  clear cn hbr l3 l4 hL
  go_enter Try.func80, Try.ntmps80
  go_wp2_with fail
  refine wp_region_held_drew (S := (fun w' => Later wb w' ∧ Later wb w')) (by kernel_rfl) (by exact ⟨inferInstance, inferInstance⟩) (fun hHeld => ?_)
  refine wpAnyH_take (i := 0) (v := ?_) (by simp only [List.getElem?_toArray, List.getElem?_cons_zero] <;> rfl) (by kernel_rfl) (by kernel_rfl) (by kernel_rfl) (by exact fun _ _ _ h => h) (Or.inl ⟨by kernel_rfl, ?_⟩) (by assumption) ?_
  rotate_left
  · intro w' hSw; (try dsimp only at hSw); go_simp; try with_reducible rfl
  try simp only [Act.put, List.setIfInBounds_toArray, List.set_cons_zero, List.set_cons_succ]
  refine wpAnyH_take (i := 1) (v := ?_) (by simp only [List.getElem?_toArray, List.getElem?_cons_succ, List.getElem?_cons_zero] <;> rfl) (by kernel_rfl) (by kernel_rfl) (by kernel_rfl) (by exact fun _ _ _ h => h) (Or.inl ⟨by kernel_rfl, ?_⟩) (by assumption) ?_
  rotate_left
  · intro w' hSw; (try dsimp only at hSw); go_simp; try with_reducible rfl
  try simp only [Act.put, List.setIfInBounds_toArray, List.set_cons_zero, List.set_cons_succ]
  refine wpAnyH_take (i := 2) (v := ?_) (by simp only [List.getElem?_toArray, List.getElem?_cons_succ, List.getElem?_cons_zero] <;> rfl) (by kernel_rfl) (by kernel_rfl) (by kernel_rfl) (by exact fun _ _ _ h => h) (Or.inl ⟨by kernel_rfl, ?_⟩) (by assumption) ?_
  rotate_left
  · intro w' hSw; (try dsimp only at hSw); go_simp; try with_reducible rfl
  try simp only [Act.put, List.setIfInBounds_toArray, List.set_cons_zero, List.set_cons_succ]
  refine wpAnyH_take (i := 3) (v := ?_) (by simp only [List.getElem?_toArray, List.getElem?_cons_succ, List.getElem?_cons_zero] <;> rfl) (by kernel_rfl) (by kernel_rfl) (by kernel_rfl) (by exact fun _ _ _ h => h) (Or.inl ⟨by kernel_rfl, ?_⟩) (by assumption) ?_
  rotate_left
  · intro w' hSw; (try dsimp only at hSw); go_simp; try with_reducible rfl
  try simp only [Act.put, List.setIfInBounds_toArray, List.set_cons_zero, List.set_cons_succ]
  refine wpAnyH_take (i := 4) (v := ?_) (by simp only [List.getElem?_toArray, List.getElem?_cons_succ, List.getElem?_cons_zero] <;> rfl) (by kernel_rfl) (by kernel_rfl) (by kernel_rfl) (by exact fun _ _ _ h => h) (Or.inl ⟨by kernel_rfl, ?_⟩) (by assumption) ?_
  rotate_left
  · intro w' hSw; (try dsimp only at hSw); go_simp; try with_reducible rfl
  try simp only [Act.put, List.setIfInBounds_toArray, List.set_cons_zero, List.set_cons_succ]
  refine wpAnyH_take (i := 6) (v := ?_) (by simp only [List.getElem?_toArray, List.getElem?_cons_succ, List.getElem?_cons_zero] <;> rfl) (by kernel_rfl) (by kernel_rfl) (by kernel_rfl) (by exact fun _ _ _ h => h) (Or.inl ⟨by kernel_rfl, ?_⟩) (by assumption) ?_
  rotate_left
  · intro w' hSw; (try dsimp only at hSw); go_simp; try with_reducible rfl
  try simp only [Act.put, List.setIfInBounds_toArray, List.set_cons_zero, List.set_cons_succ]
  refine wpAnyH_take (i := 8) (v := ?_) (by simp only [List.getElem?_toArray, List.getElem?_cons_succ, List.getElem?_cons_zero] <;> rfl) (by kernel_rfl) (by kernel_rfl) (by kernel_rfl) (by exact fun _ _ _ h => h) (Or.inl ⟨by kernel_rfl, ?_⟩) (by assumption) ?_
  rotate_left
  · intro w' hSw; (try dsimp only at hSw); go_simp; try with_reducible rfl
  try simp only [Act.put, List.setIfInBounds_toArray, List.set_cons_zero, List.set_cons_succ]
  refine wpAnyH_ready (rs := [5]) (by kernel_rfl) (by simp) (AllReadyH.cons rfl (fun K hK => ?_) AllReadyH.nil)
  go_simp
  (go_at_call 124; refine (impl_readyAt H.out (hwb0.trans inferInstance) PF.out.time.net _ _ PF.out.fr.1 PF.out.fr.2).mono ?_; rintro e w1 ⟨g1, rfl, hl1, hB1, hg1, L1⟩; have X1 := Later.trans (w := wb) inferInstance L1; have Y1 := Later.trans (w := wb) inferInstance L1; have HL1 := Lib.hid hl1; clear hl1)
  refine hK.out _ _ (by exact ⟨inferInstance, inferInstance⟩) (fun hHeld => ?_)
  try simp only [Act.put, List.setIfInBounds_toArray, List.set_cons_zero, List.set_cons_succ]
  refine wpAnyH_ready (rs := [7]) (by kernel_rfl) (by simp) (AllReadyH.cons rfl (fun K hK => ?_) AllReadyH.nil)
  go_simp
  (go_at_call 123; refine (impl_arrivalsI H.out (hwb0.trans inferInstance) PF.out.time _ c0 c1 (hB1.ints HL1.out (by omega) HSM.out.i64) inferInstance HRL.out HSM.out m (by omega) _ rfl).mono ?_; rintro e w2 ⟨g2, rfl, hl2, hB2, hg2, L2⟩; have X2 := Later.trans (w := wb) inferInstance L2; have Y2 := Later.trans (w := wb) inferInstance L2; have hcc := hB2.rowAts (by have := HAT.out m; rw [HBY.out] at this; exact this); clear hl2)
  refine hK.out _ _ (by exact ⟨inferInstance, inferInstance⟩) (fun hHeld => ?_)
  try simp only [Act.put, List.setIfInBounds_toArray, List.set_cons_zero, List.set_cons_succ]
  refine wpAnyH_take (i := 9) (v := ?_) (by simp only [List.getElem?_toArray, List.getElem?_cons_succ, List.getElem?_cons_zero] <;> rfl) (by kernel_rfl) (by kernel_rfl) (by kernel_rfl) (by exact fun _ _ _ h => h) (Or.inl ⟨by kernel_rfl, ?_⟩) (by assumption) ?_
  rotate_left
  · intro w' hSw; (try dsimp only at hSw); go_simp; try with_reducible rfl
  try simp only [Act.put, List.setIfInBounds_toArray, List.set_cons_zero, List.set_cons_succ]
  refine wpAnyH_ready (rs := [10]) (by kernel_rfl) (by simp) (AllReadyH.cons rfl (fun K hK => ?_) AllReadyH.nil)
  go_simp
  skip
  refine hK.out _ _ (by exact ⟨inferInstance, inferInstance⟩) (fun hHeld => ?_)
  try simp only [Act.put, List.setIfInBounds_toArray, List.set_cons_zero, List.set_cons_succ]
  refine wpAnyH_take (i := 11) (v := ?_) (by simp only [List.getElem?_toArray, List.getElem?_cons_succ, List.getElem?_cons_zero] <;> rfl) (by kernel_rfl) (by kernel_rfl) (by kernel_rfl) (by exact fun _ _ _ h => h) (Or.inl ⟨by kernel_rfl, ?_⟩) (by assumption) ?_
  rotate_left
  · intro w' hSw; (try dsimp only at hSw); go_simp; try with_reducible rfl
  try simp only [Act.put, List.setIfInBounds_toArray, List.set_cons_zero, List.set_cons_succ]
  refine wpAnyH_done (by kernel_rfl) ?_ _
  clear hB1 hg1 hB2 hg2
  clear hcc
  go_wp2_with fail
  go_loopw [14] (fun i wr => ∃ j : Nat, 1 ≤ j ∧ j ≤ L ∧ i = .int .i64 j ∧ Later wb wr) (fun i _ => L - (intOf i).toNat)
  case atStart => exact ⟨1, by omega, l1, rfl, inferInstance⟩
  case round =>
    obtain ⟨j, hj1, hjL, rfl, hX⟩ := hrel
    by_cases hlt : j < L
    · have hgt : by_ < V j := HL4.out j hj1 hlt
      obtain ⟨v, hv⟩ : ∃ v, V j = v := ⟨_, rfl⟩
      have HVJ := Lib.hid hv
      rw [hv] at hgt
      clear hv
      go_wp2_with fail
      refine wp_region_held_drew (S := (fun w' => Later wb w' ∧ Later wr w')) (by kernel_rfl) (by exact ⟨inferInstance, inferInstance⟩) (fun hHeld => ?_)
      refine wpAnyH_take (i := 0) (v := ?_) (by simp only [List.getElem?_toArray, List.getElem?_cons_zero] <;> rfl) (by kernel_rfl) (by kernel_rfl) (by kernel_rfl) (by exact fun _ _ _ h => h) (Or.inl ⟨by kernel_rfl, ?_⟩) (by assumption) ?_
      rotate_left
      · intro w' hSw; (try dsimp only at hSw); go_simp; try with_reducible rfl
      try simp only [Act.put, List.setIfInBounds_toArray, List.set_cons_zero, List.set_cons_succ]
      refine wpAnyH_take (i := 1) (v := ?_) (by simp only [List.getElem?_toArray, List.getElem?_cons_succ, List.getElem?_cons_zero] <;> rfl) (by kernel_rfl) (by kernel_rfl) (by kernel_rfl) (by exact fun _ _ _ h => h) (Or.inl ⟨by kernel_rfl, ?_⟩) (by assumption) ?_
      rotate_left
      · intro w' hSw; (try dsimp only at hSw); go_simp; try with_reducible rfl
      try simp only [Act.put, List.setIfInBounds_toArray, List.set_cons_zero, List.set_cons_succ]
      refine wpAnyH_take (i := 2) (v := ?_) (by simp only [List.getElem?_toArray, List.getElem?_cons_succ, List.getElem?_cons_zero] <;> rfl) (by kernel_rfl) (by kernel_rfl) (by kernel_rfl) (by exact fun _ _ _ h => h) (Or.inl ⟨by kernel_rfl, ?_⟩) (by assumption) ?_
      rotate_left
      · intro w' hSw; (try dsimp only at hSw); go_simp; try with_reducible rfl
      try simp only [Act.put, List.setIfInBounds_toArray, List.set_cons_zero, List.set_cons_succ]
      refine wpAnyH_take (i := 3) (v := ?_) (by simp only [List.getElem?_toArray, List.getElem?_cons_succ, List.getElem?_cons_zero] <;> rfl) (by kernel_rfl) (by kernel_rfl) (by kernel_rfl) (by exact fun _ _ _ h => h) (Or.inl ⟨by kernel_rfl, ?_⟩) (by assumption) ?_
      rotate_left
      · intro w' hSw; (try dsimp only at hSw); go_simp; try with_reducible rfl
      try simp only [Act.put, List.setIfInBounds_toArray, List.set_cons_zero, List.set_cons_succ]
      refine wpAnyH_take (i := 4) (v := ?_) (by simp only [List.getElem?_toArray, List.getElem?_cons_succ, List.getElem?_cons_zero] <;> rfl) (by kernel_rfl) (by kernel_rfl) (by kernel_rfl) (by exact fun _ _ _ h => h) (Or.inl ⟨by kernel_rfl, ?_⟩) (by assumption) ?_
      rotate_left
      · intro w' hSw; (try dsimp only at hSw); go_simp; try with_reducible rfl
      try simp only [Act.put, List.setIfInBounds_toArray, List.set_cons_zero, List.set_cons_succ]
      refine wpAnyH_take (i := 6) (v := ?_) (by simp only [List.getElem?_toArray, List.getElem?_cons_succ, List.getElem?_cons_zero] <;> rfl) (by kernel_rfl) (by kernel_rfl) (by kernel_rfl) (by exact fun _ _ _ h => h) (Or.inl ⟨by kernel_rfl, ?_⟩) (by assumption) ?_
      rotate_left
      · intro w' hSw; (try dsimp only at hSw); go_simp; try with_reducible rfl
      try simp only [Act.put, List.setIfInBounds_toArray, List.set_cons_zero, List.set_cons_succ]
      refine wpAnyH_take (i := 8) (v := ?_) (by simp only [List.getElem?_toArray, List.getElem?_cons_succ, List.getElem?_cons_zero] <;> rfl) (by kernel_rfl) (by kernel_rfl) (by kernel_rfl) (by exact fun _ _ _ h => h) (Or.inl ⟨by kernel_rfl, ?_⟩) (by assumption) ?_
      rotate_left
      · intro w' hSw; (try dsimp only at hSw); go_simp; try with_reducible rfl
      try simp only [Act.put, List.setIfInBounds_toArray, List.set_cons_zero, List.set_cons_succ]
      refine wpAnyH_take (i := 11) (v := ?_) (by simp only [List.getElem?_toArray, List.getElem?_cons_succ, List.getElem?_cons_zero] <;> rfl) (by kernel_rfl) (by kernel_rfl) (by kernel_rfl) (by exact fun _ _ _ h => h) (Or.inl ⟨by kernel_rfl, ?_⟩) (by assumption) ?_
      rotate_left
      · intro w' hSw; (try dsimp only at hSw); go_simp; try with_reducible rfl
      try simp only [Act.put, List.setIfInBounds_toArray, List.set_cons_zero, List.set_cons_succ]
      refine wpAnyH_ready (rs := [5]) (by kernel_rfl) (by simp) (AllReadyH.cons rfl (fun K hK => ?_) AllReadyH.nil)
      go_simp
      (go_at_call 124; refine (impl_readyAt H.out (hwb0.trans inferInstance) PF.out.time.net _ _ PF.out.fr.1 PF.out.fr.2).mono ?_; rintro e w1 ⟨g1, rfl, hl1, hB1, hg1, L1⟩; have X1 := Later.trans (w := wb) inferInstance L1; have Y1 := Later.trans (w := wr) inferInstance L1; have HL1 := Lib.hid hl1; clear hl1)
      refine hK.out _ _ (by exact ⟨inferInstance, inferInstance⟩) (fun hHeld => ?_)
      try simp only [Act.put, List.setIfInBounds_toArray, List.set_cons_zero, List.set_cons_succ]
      refine wpAnyH_ready (rs := [7]) (by kernel_rfl) (by simp) (AllReadyH.cons rfl (fun K hK => ?_) AllReadyH.nil)
      go_simp
      (go_at_call 123; refine (impl_arrivalsI H.out (hwb0.trans inferInstance) PF.out.time _ c0 c1 (hB1.ints HL1.out (by omega) HSM.out.i64) inferInstance HRL.out HSM.out j (by omega) _ rfl).mono ?_; rintro e w2 ⟨g2, rfl, hl2, hB2, hg2, L2⟩; have X2 := Later.trans (w := wb) inferInstance L2; have Y2 := Later.trans (w := wr) inferInstance L2; have hcc := hB2.rowAts (by have := HAT.out j; rw [HVJ.out] at this; exact this); clear hl2)
      refine hK.out _ _ (by exact ⟨inferInstance, inferInstance⟩) (fun hHeld => ?_)
      try simp only [Act.put, List.setIfInBounds_toArray, List.set_cons_zero, List.set_cons_succ]
      refine wpAnyH_take (i := 9) (v := ?_) (by simp only [List.getElem?_toArray, List.getElem?_cons_succ, List.getElem?_cons_zero] <;> rfl) (by kernel_rfl) (by kernel_rfl) (by kernel_rfl) (by exact fun _ _ _ h => h) (Or.inl ⟨by kernel_rfl, ?_⟩) (by assumption) ?_
      rotate_left
      · intro w' hSw; (try dsimp only at hSw); go_simp; try with_reducible rfl
      try simp only [Act.put, List.setIfInBounds_toArray, List.set_cons_zero, List.set_cons_succ]
      refine wpAnyH_ready (rs := [10]) (by kernel_rfl) (by simp) (AllReadyH.cons rfl (fun K hK => ?_) AllReadyH.nil)
      go_simp
      skip
      refine hK.out _ _ (by exact ⟨inferInstance, inferInstance⟩) (fun hHeld => ?_)
      try simp only [Act.put, List.setIfInBounds_toArray, List.set_cons_zero, List.set_cons_succ]
      refine wpAnyH_take (i := 12) (v := ?_) (by simp only [List.getElem?_toArray, List.getElem?_cons_succ, List.getElem?_cons_zero] <;> rfl) (by kernel_rfl) (by kernel_rfl) (by kernel_rfl) (by exact fun _ _ _ h => h) (Or.inl ⟨by kernel_rfl, ?_⟩) (by assumption) ?_
      rotate_left
      · intro w' hSw; (try dsimp only at hSw); go_simp; try with_reducible rfl
      try simp only [Act.put, List.setIfInBounds_toArray, List.set_cons_zero, List.set_cons_succ]
      refine wpAnyH_done (by kernel_rfl) ?_ _
      clear hB1 hg1 hB2 hg2
      go_wp2
      go_roundw
      case rel => exact ⟨j + 1, by omega, by omega, by go_num, inferInstance⟩
      case measure => simp [intOf]; omega
    · obtain rfl : j = L := by omega
      obtain ⟨v, hv⟩ : ∃ v, V j = v := ⟨_, rfl⟩
      have hle : ¬ by_ < v := by have := HL3.out; rw [hv] at this; omega
      have HVJ := Lib.hid hv
      clear hv hlt hjL
      go_wp2_with fail
      refine wp_region_held_drew (S := (fun w' => Later wb w' ∧ Later wr w')) (by kernel_rfl) (by exact ⟨inferInstance, inferInstance⟩) (fun hHeld => ?_)
      refine wpAnyH_take (i := 0) (v := ?_) (by simp only [List.getElem?_toArray, List.getElem?_cons_zero] <;> rfl) (by kernel_rfl) (by kernel_rfl) (by kernel_rfl) (by exact fun _ _ _ h => h) (Or.inl ⟨by kernel_rfl, ?_⟩) (by assumption) ?_
      rotate_left
      · intro w' hSw; (try dsimp only at hSw); go_simp; try with_reducible rfl
      try simp only [Act.put, List.setIfInBounds_toArray, List.set_cons_zero, List.set_cons_succ]
      refine wpAnyH_take (i := 1) (v := ?_) (by simp only [List.getElem?_toArray, List.getElem?_cons_succ, List.getElem?_cons_zero] <;> rfl) (by kernel_rfl) (by kernel_rfl) (by kernel_rfl) (by exact fun _ _ _ h => h) (Or.inl ⟨by kernel_rfl, ?_⟩) (by assumption) ?_
      rotate_left
      · intro w' hSw; (try dsimp only at hSw); go_simp; try with_reducible rfl
      try simp only [Act.put, List.setIfInBounds_toArray, List.set_cons_zero, List.set_cons_succ]
      refine wpAnyH_take (i := 2) (v := ?_) (by simp only [List.getElem?_toArray, List.getElem?_cons_succ, List.getElem?_cons_zero] <;> rfl) (by kernel_rfl) (by kernel_rfl) (by kernel_rfl) (by exact fun _ _ _ h => h) (Or.inl ⟨by kernel_rfl, ?_⟩) (by assumption) ?_
      rotate_left
      · intro w' hSw; (try dsimp only at hSw); go_simp; try with_reducible rfl
      try simp only [Act.put, List.setIfInBounds_toArray, List.set_cons_zero, List.set_cons_succ]
      refine wpAnyH_take (i := 3) (v := ?_) (by simp only [List.getElem?_toArray, List.getElem?_cons_succ, List.getElem?_cons_zero] <;> rfl) (by kernel_rfl) (by kernel_rfl) (by kernel_rfl) (by exact fun _ _ _ h => h) (Or.inl ⟨by kernel_rfl, ?_⟩) (by assumption) ?_
      rotate_left
      · intro w' hSw; (try dsimp only at hSw); go_simp; try with_reducible rfl
      try simp only [Act.put, List.setIfInBounds_toArray, List.set_cons_zero, List.set_cons_succ]
      refine wpAnyH_take (i := 4) (v := ?_) (by simp only [List.getElem?_toArray, List.getElem?_cons_succ, List.getElem?_cons_zero] <;> rfl) (by kernel_rfl) (by kernel_rfl) (by kernel_rfl) (by exact fun _ _ _ h => h) (Or.inl ⟨by kernel_rfl, ?_⟩) (by assumption) ?_
      rotate_left
      · intro w' hSw; (try dsimp only at hSw); go_simp; try with_reducible rfl
      try simp only [Act.put, List.setIfInBounds_toArray, List.set_cons_zero, List.set_cons_succ]
      refine wpAnyH_take (i := 6) (v := ?_) (by simp only [List.getElem?_toArray, List.getElem?_cons_succ, List.getElem?_cons_zero] <;> rfl) (by kernel_rfl) (by kernel_rfl) (by kernel_rfl) (by exact fun _ _ _ h => h) (Or.inl ⟨by kernel_rfl, ?_⟩) (by assumption) ?_
      rotate_left
      · intro w' hSw; (try dsimp only at hSw); go_simp; try with_reducible rfl
      try simp only [Act.put, List.setIfInBounds_toArray, List.set_cons_zero, List.set_cons_succ]
      refine wpAnyH_take (i := 8) (v := ?_) (by simp only [List.getElem?_toArray, List.getElem?_cons_succ, List.getElem?_cons_zero] <;> rfl) (by kernel_rfl) (by kernel_rfl) (by kernel_rfl) (by exact fun _ _ _ h => h) (Or.inl ⟨by kernel_rfl, ?_⟩) (by assumption) ?_
      rotate_left
      · intro w' hSw; (try dsimp only at hSw); go_simp; try with_reducible rfl
      try simp only [Act.put, List.setIfInBounds_toArray, List.set_cons_zero, List.set_cons_succ]
      refine wpAnyH_take (i := 11) (v := ?_) (by simp only [List.getElem?_toArray, List.getElem?_cons_succ, List.getElem?_cons_zero] <;> rfl) (by kernel_rfl) (by kernel_rfl) (by kernel_rfl) (by exact fun _ _ _ h => h) (Or.inl ⟨by kernel_rfl, ?_⟩) (by assumption) ?_
      rotate_left
      · intro w' hSw; (try dsimp only at hSw); go_simp; try with_reducible rfl
      try simp only [Act.put, List.setIfInBounds_toArray, List.set_cons_zero, List.set_cons_succ]
      refine wpAnyH_ready (rs := [5]) (by kernel_rfl) (by simp) (AllReadyH.cons rfl (fun K hK => ?_) AllReadyH.nil)
      go_simp
      (go_at_call 124; refine (impl_readyAt H.out (hwb0.trans inferInstance) PF.out.time.net _ _ PF.out.fr.1 PF.out.fr.2).mono ?_; rintro e w1 ⟨g1, rfl, hl1, hB1, hg1, L1⟩; have X1 := Later.trans (w := wb) inferInstance L1; have Y1 := Later.trans (w := wr) inferInstance L1; have HL1 := Lib.hid hl1; clear hl1)
      refine hK.out _ _ (by exact ⟨inferInstance, inferInstance⟩) (fun hHeld => ?_)
      try simp only [Act.put, List.setIfInBounds_toArray, List.set_cons_zero, List.set_cons_succ]
      refine wpAnyH_ready (rs := [7]) (by kernel_rfl) (by simp) (AllReadyH.cons rfl (fun K hK => ?_) AllReadyH.nil)
      go_simp
      (go_at_call 123; refine (impl_arrivalsI H.out (hwb0.trans inferInstance) PF.out.time _ c0 c1 (hB1.ints HL1.out (by omega) HSM.out.i64) inferInstance HRL.out HSM.out j (by omega) _ rfl).mono ?_; rintro e w2 ⟨g2, rfl, hl2, hB2, hg2, L2⟩; have X2 := Later.trans (w := wb) inferInstance L2; have Y2 := Later.trans (w := wr) inferInstance L2; have hcc := hB2.rowAts (by have := HAT.out j; rw [HVJ.out] at this; exact this); clear hl2)
      refine hK.out _ _ (by exact ⟨inferInstance, inferInstance⟩) (fun hHeld => ?_)
      try simp only [Act.put, List.setIfInBounds_toArray, List.set_cons_zero, List.set_cons_succ]
      refine wpAnyH_take (i := 9) (v := ?_) (by simp only [List.getElem?_toArray, List.getElem?_cons_succ, List.getElem?_cons_zero] <;> rfl) (by kernel_rfl) (by kernel_rfl) (by kernel_rfl) (by exact fun _ _ _ h => h) (Or.inl ⟨by kernel_rfl, ?_⟩) (by assumption) ?_
      rotate_left
      · intro w' hSw; (try dsimp only at hSw); go_simp; try with_reducible rfl
      try simp only [Act.put, List.setIfInBounds_toArray, List.set_cons_zero, List.set_cons_succ]
      refine wpAnyH_ready (rs := [10]) (by kernel_rfl) (by simp) (AllReadyH.cons rfl (fun K hK => ?_) AllReadyH.nil)
      go_simp
      skip
      refine hK.out _ _ (by exact ⟨inferInstance, inferInstance⟩) (fun hHeld => ?_)
      try simp only [Act.put, List.setIfInBounds_toArray, List.set_cons_zero, List.set_cons_succ]
      refine wpAnyH_take (i := 12) (v := ?_) (by simp only [List.getElem?_toArray, List.getElem?_cons_succ, List.getElem?_cons_zero] <;> rfl) (by kernel_rfl) (by kernel_rfl) (by kernel_rfl) (by exact fun _ _ _ h => h) (Or.inl ⟨by kernel_rfl, ?_⟩) (by assumption) ?_
      rotate_left
      · intro w' hSw; (try dsimp only at hSw); go_simp; try with_reducible rfl
      try simp only [Act.put, List.setIfInBounds_toArray, List.set_cons_zero, List.set_cons_succ]
      refine wpAnyH_done (by kernel_rfl) ?_ _
      clear hB1 hg1 hB2 hg2
      clear hcc
      go_wp2_with fail
      go_loopw [14, 15, 16, 17] (fun i ov sv rv wr => ∃ (k : Nat) (acc : List Leg) (s r : Int), k ≤ j ∧ i = .int .i64 k ∧ sv = .int .i64 s ∧ rv = .int .i64 r ∧ acc.length + k = j ∧ Hid (acc ++ journeyGo t change q by_ k s r = journeyGo t change q by_ j from_ at_) ∧ Hid (I64 s) ∧ Hid (∀ y, y ∈ acc → LegOk y) ∧ Hid (wr.ownsRow (w.heap.size + 1) 122 5 ov acc.length (acc.flatMap encLg)) ∧ Later wb wr) (fun i _ _ _ _ => (intOf i).toNat)
      case atStart => exact ⟨j, [], from_, at_, Nat.le_refl _, rfl, rfl, rfl, by simp, by show _ = _; simp, HI64, fun y hy => by simp at hy, Lib.hid (by simpa using World.ownsRow_nil _ (w.heap.size + 1) 122 5), inferInstance⟩
      case round =>
        obtain ⟨k, acc, s, r, hk, rfl, rfl, rfl, hal, HG, HS, HOK, hown, hX⟩ := hrel
        by_cases hk0 : k = 0
        · subst hk0
          have HE : Hid (acc = journeyGo t change q by_ j from_ at_) := by
            have h9 := HG.out
            simp only [journeyGo, List.append_nil] at h9
            exact h9
          obtain ⟨A7, c7, f7, hv7, ho7, hnd7, hlo7⟩ := OSl.of_flat (r := rLeg) hown.out rfl (fun x hx W => ⟨rfl, HOK.out x hx⟩)
          have HO7 := Lib.hid ho7
          have HN7 := Lib.hid hnd7
          have HLO7 := Lib.hid hlo7
          have HA7 : Hid (A7 = none ↔ acc.length = 0) := by
            constructor
            · rintro rfl
              rcases ho7.own with ⟨e, _⟩ | ⟨g, o, _, _, _, e, _⟩
              · rw [e]; rfl
              · cases e
            · intro e; omega
          subst hv7
          clear ho7 hnd7 hlo7 hown
          have hc0 : ¬ (0 : Int) < ((0 : Nat) : Int) := by omega
          go_wp2
          go_ret
          exact ⟨A7, _, c7, f7, rfl, by rw [← HE.out]; exact HO7.out, HN7.out, fun g hg => by have := HLO7.out g hg; omega, hww.trans inferInstance, HA7.out⟩
        · obtain ⟨k, rfl⟩ : ∃ k', k = k' + 1 := ⟨k - 1, by omega⟩
          have HFO := Lib.hid (firstL_ok (change := change) (stop := s) (to := (q : Int)) (ready := r) (by_ := by_) (k := k + 1) PF.out.time HS.out)
          have HG1 := HG.out
          simp only [journeyGo] at HG1
          obtain ⟨f, hf⟩ : ∃ f, firstL t change s q r by_ (k + 1) = f := ⟨_, rfl⟩
          rw [hf] at HG1 HFO
          have HFF := Lib.hid hf
          have HG2 : Hid ((acc ++ [f]) ++ journeyGo t change q by_ k f.To (f.Arrive + change) = journeyGo t change q by_ j from_ at_) := by show _ = _; rw [← HG1]; simp
          have ha0 := HFO.out.2.1
          have ha1 := HFO.out.2.2
          have HT64 : Hid (I64 f.To) := HFO.out.1.i_To
          have HOK2 : Hid (∀ y, y ∈ acc ++ [f] → LegOk y) := fun y hy => by
            rcases List.mem_append.1 hy with hy | hy
            · exact HOK.out y hy
            · simp at hy; subst hy; exact HFO.out.1
          have hkp : (0 : Int) < ((k + 1 : Nat) : Int) := by omega
          have hkp2 : (0 : Int) < (k : Int) + 1 := by omega
          have hwa : IntKind.i64.wrap (f.Arrive + change) = f.Arrive + change := by rw [IntKind.wrap_i64]; omega
          have hwk : IntKind.i64.wrap (((k + 1 : Nat) : Int) - 1) = (k : Int) := by rw [IntKind.wrap_i64]; omega
          have hwk2 : IntKind.i64.wrap ((k : Int) + 1 - 1) = (k : Int) := by rw [IntKind.wrap_i64]; omega
          have hwk3 : IntKind.i64.wrap (k : Int) = (k : Int) := by rw [IntKind.wrap_i64]; omega
          clear HG HG1 hf hk0
          go_wp2_with first
            | (go_at_call 139; refine (impl_firstLeg H.out (hwb0.trans inferInstance) PF.out.time change s q r by_ c0 c1 PF.out.to_.1 PF.out.to_.2 (k + 1) (by omega) (by omega) _ (by first | rfl | omega)).mono ?_; rw [HFF.out]; rintro e w3 ⟨rfl, L3⟩; have X3 := Later.trans (w := wb) inferInstance L3; have Y3 := Later.trans (w := wr) inferInstance L3)
            | (at_builtin; go_loud (refine wpList_app_G rfl _ _ 46 rfl Try.underlying46 infoLg rfl (by decide) (by decide) rfl (by exact ownsRow_later hown.out (inferInstance : Later wr _)) (inferInstance : Later wb _) hbs (Nat.le_trans hbs2 (Later.size (w := wb) inferInstance)) (by show Value.slice (some ⟨w3.heap.size + 1, 0, none⟩) 1 1 = _; simp) rfl (cells_5 _ _ _ _ _) (by omega) ?_); intro v' w9 hown' hX9 hG9; have hBq := blk_grown (g := w3.heap.size) ((Blk.new w3 _ _).alloc _) hG9 (fun j' hj' => by have h1 := (hown.out.lt j' hj').2; have h2 := Y3.size; omega); have hq2 : ∀ W [Later w9 W], W.cell? ⟨w3.heap.size, 2, none⟩ = some (.int .i64 f.To) := (fun W hW => ((hBq.later hW).cell 2).trans rfl); have hq4 : ∀ W [Later w9 W], W.cell? ⟨w3.heap.size, 4, none⟩ = some (.int .i64 f.Arrive) := (fun W hW => ((hBq.later hW).cell 4).trans rfl))
          have HO9 : Hid (w9.ownsRow (w.heap.size + 1) 122 5 v' (acc ++ [f]).length ((acc ++ [f]).flatMap encLg)) := by
            show World.ownsRow _ _ _ _ _ _ _
            rw [List.flatMap_append, List.length_append]; exact hown'
          clear hown' hBq hG9
          go_quiet (fail)
          go_wp2_with fail
          go_roundw
          case rel => exact ⟨k, acc ++ [f], f.To, f.Arrive + change, by omega, by go_num, rfl, rfl, by simp; omega, HG2, HT64, HOK2, ownsRow_later HO9.out (inferInstance : Later w9 _), inferInstance⟩
          case measure => simp [intOf] <;> omega
end Go.Proofs.Yteijofkkggifhaa
