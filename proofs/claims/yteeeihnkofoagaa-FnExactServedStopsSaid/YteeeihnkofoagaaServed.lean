/-
  Journeys: ServedStops on both sides.
-/
import Derived.Test.YteeeihnkofoagaaIsJ
import Derived.Test.YteeeihnkofoagaaAppS
namespace Go.Proofs.Yteeeihnkofoagaa
open Go Go.RowKit
set_option linter.unusedVariables false
set_option maxRecDepth 100000
set_option linter.unusedSimpArgs false
theorem legLine {t : Timetable} {l : Leg} (h : TimeFacts t) (f : LegFacts t l) : LineFacts t.Network.Stops.length (lineI t (findI t l.Trip)) :=
  lineAtT_facts h.net (tripI_facts h f.found.1 f.found.2).line0 (tripI_facts h f.found.1 f.found.2).line1
theorem ride_mem {t : Timetable} {l : Leg} (h : TimeFacts t) (f : LegFacts t l) : ∀ y, y ∈ rideStops t l → 0 ≤ y ∧ y < t.Network.Stops.length := by
  intro y hy
  unfold rideStops at hy
  obtain ⟨i, hi⟩ := List.getElem?_of_mem (List.mem_of_mem_take (List.mem_of_mem_drop hy))
  exact (legLine h f).mem i y hi
theorem from_at {t : Timetable} {l : Leg} (f : LegFacts t l) : ∃ p : Nat, idx (intIs l.From) (lineI t (findI t l.Trip)).Stops = p ∧ (lineI t (findI t l.Trip)).Stops[p]? = some l.From := by
  obtain ⟨p, x, hx, hp, he⟩ := idx_at f.place.1
  simp only [intIs, decide_eq_true_eq] at hp
  subst hp
  exact ⟨p, he, hx⟩
theorem served_mem {t : Timetable} {change : Int} {ls : List Leg} (h : JourFacts t change ls) : ∀ y, y ∈ servedOf t ls → 0 ≤ y ∧ y < t.Network.Stops.length := by
  intro y hy
  unfold servedOf at hy
  rcases List.mem_cons.1 hy with rfl | hy
  · cases hls : ls with
    | nil => have := h.len.1; rw [hls] at this; simp at this
    | cons a l =>
      have f := h.leg 0 a (by rw [hls]; rfl)
      obtain ⟨p, _, hp⟩ := from_at f
      exact (legLine h.time f).mem p _ hp
  · obtain ⟨r, hr, hyr⟩ := List.mem_flatten.1 hy
    obtain ⟨x, hx, rfl⟩ := List.mem_map.1 hr
    obtain ⟨i, hi⟩ := List.getElem?_of_mem hx
    exact ride_mem h.time (h.leg i x hi) y hyr
theorem ride_len {t : Timetable} {l : Leg} (h : TimeFacts t) (f : LegFacts t l) : (rideStops t l).length ≤ 6 := by
  have := (legLine h f).stops
  unfold rideStops
  simp only [List.length_drop, List.length_take]
  omega
theorem flat_len6 {t : Timetable} (h : TimeFacts t) : ∀ ls : List Leg, (∀ l, l ∈ ls → LegFacts t l) → ((ls.map (rideStops t)).flatten).length ≤ 6 * ls.length
  | [], _ => by simp
  | a :: l, H => by
    have h1 := ride_len h (H a (by simp))
    have h2 := flat_len6 h l fun y hy => H y (by simp [hy])
    simp only [List.map_cons, List.flatten_cons, List.length_append, List.length_cons]
    omega
theorem servedRes_len (t : Timetable) (change : Int) (ls : List Leg) : (servedRes t change ls).1.length ≤ 25 := by
  unfold servedRes
  split
  · rename_i h
    have f := jourFacts h
    have h2 := flat_len6 f.time ls (fun l hl => by obtain ⟨i, hi⟩ := List.getElem?_of_mem hl; exact f.leg i l hi)
    have := f.len
    simp only [servedOf, List.length_cons]
    omega
  · simp
theorem ride_at {t : Timetable} {ls : List Leg} {k : Nat} {x : Leg} (hx : ls[k]? = some x) : ((ls.drop k).map (rideStops t)).flatten = rideStops t x ++ ((ls.drop (k + 1)).map (rideStops t)).flatten := by
  rw [drop_at hx]; rfl
set_option maxHeartbeats 2000000 in
theorem impl_ServedStops {w0 w : World} {sA0 : Option Addr} {sn0 sc0 : Nat} {sA1 : Option Addr} {sn1 sc1 : Nat} {sA2 : Option Addr} {sn2 sc2 : Nat} {t : Timetable} (h : TimetableAt w0 sA0 sn0 sc0 sA1 sn1 sc1 sA2 sn2 sc2 t) (hl : Later w0 w) (change : Int) {w3 : World} {lA : Option Addr} {ln lc : Nat} {ls : List Leg} (h3 : Legs w3 lA ln lc ls) (hl3 : Later w3 w) : Calls Try.prog 39 #[.agg #[.slice sA0 sn0 sc0, .slice sA1 sn1 sc1, .slice sA2 sn2 sc2], .int .i64 change, .slice lA ln lc] w (RetO2 1 oInt (servedRes t change ls).1 (servedRes t change ls).2 w) := by
  have hT := h.l_Trips.later hl
  have Hl2 := Lib.hid hT.len
  have hn2 := hT.le
  have HNS : Hid (t.Network.Stops.length ≤ 9223372036854775807) := by show _ ≤ _; rw [← h.l_Network_Stops.len]; exact h.l_Network_Stops.le
  have hLw := h3.later hl3
  have HB0 : ∀ W [Later (w.alloc (.cells #[.slice sA0 sn0 sc0, .slice sA1 sn1 sc1, .slice sA2 sn2 sc2] 50)) W] (j : Nat), W.cell? ⟨w.heap.size, j, none⟩ = #[.slice sA0 sn0 sc0, .slice sA1 sn1 sc1, .slice sA2 sn2 sc2][j]? := Later.boxes (t := 50) (fr := (0, 0)) (heap_new (by simp; try omega)); obtain ⟨wb, hwb⟩ : ∃ wb : World, wb = (w.alloc (.cells #[.slice sA0 sn0 sc0, .slice sA1 sn1 sc1, .slice sA2 sn2 sc2] 50)) := ⟨_, rfl⟩; haveI hbW : Later wb (w.alloc (.cells #[.slice sA0 sn0 sc0, .slice sA1 sn1 sc1, .slice sA2 sn2 sc2] 50)) := (by rw [hwb]; exact Later.rfl_); haveI hww : Later w wb := (by rw [hwb]; infer_instance); rw [← hwb] at HB0; have hbE := Lib.hid (congrArg (fun x : World => x.heap.size) hwb); clear hwb
  have hwb0 := hl.trans hww
  have H := Lib.hid h
  clear h
  have hwb3 := hl3.trans hww
  have H3 := Lib.hid h3
  replace hLw := hLw.later hww
  have hln := hLw.le
  have Hln := Lib.hid hLw.len
  clear h3
  replace hT := hT.later hww
  by_cases c0 : okJourney t change ls = true
  rotate_left
  · have c1 : okJourney t change ls = false := by simpa using c0
    clear c0
    have HRES := Lib.hid (show servedRes t change ls = ([], false) from by simp [servedRes, c1])
    rw [HRES.out]
    go_enter Try.func39, Try.ntmps39
    go_wp2_with (go_at_call 81; refine (impl_IsValidJourney H.out (hwb0.trans inferInstance) change H3.out (hwb3.trans inferInstance)).mono ?_; rintro e w1 ⟨rfl, L1⟩; have X1 := Later.trans (w := wb) inferInstance L1)
    go_ret2; exact ⟨none, 0, 0, [], rfl, OSl.nil_ _, by simp, by simp, hww.trans inferInstance⟩
  have JF := Lib.hid (jourFacts c0)
  have hl4 : ln ≤ 4 := by have := JF.out.len; have := Hln.out; omega
  have hl1 : 0 < ln := by have := JF.out.len; have := Hln.out; omega
  have hbs : wb.heap.size ≤ w.heap.size + 1 := by have := hbE.out; simp at this; omega
  have hbs2 : w.heap.size + 1 ≤ wb.heap.size := by have := hbE.out; simp at this; omega
  have TF := Lib.hid JF.out.time
  have hfl := field_Line1
  rw [show servedRes t change ls = (servedOf t ls, true) from if_pos c0]
  have HLW := Lib.hid hLw
  obtain ⟨b, o, x0, rfl, hx0, hc0, hc1, hc2, hc3, hc4, _⟩ := Legs.at_ hLw hl1
  have HH0 : Hid ((ls.headD default).From = x0.From) := by
    show _ = _
    cases ls with
    | nil => have := hx0.out; simp at this
    | cons a l => have := hx0.out; simp at this; subst this; rfl
  simp only [Nat.zero_mul, Nat.add_zero] at hc0 hc1 hc2 hc3 hc4
  go_enter Try.func39, Try.ntmps39
  go_wp2_with (go_at_call 81; refine (impl_IsValidJourney H.out (hwb0.trans inferInstance) change H3.out (hwb3.trans inferInstance)).mono ?_; rintro e w1 ⟨rfl, L1⟩; have X1 := Later.trans (w := wb) inferInstance L1)
  clear hc0 hc1 hc2 hc3 hc4 c0
  go_loopw [8, 26] (fun ov i wr => ∃ (k : Nat) (acc : List Int), k ≤ ln ∧ i = .int .i64 k ∧ acc.length ≤ 1 + 6 * k ∧ Hid (acc ++ ((ls.drop k).map (rideStops t)).flatten = servedOf t ls) ∧ Hid (wr.ownsRow (w.heap.size + 1) 3 1 ov acc.length (acc.map (Value.int .i64))) ∧ Later wb wr) (fun _ i _ => ln - (intOf i).toNat)
  case atStart => exact ⟨0, [x0.From], by omega, rfl, by simp, by show _ = _; unfold servedOf; rw [HH0.out]; simp, Lib.hid (World.ownsRow_lit (base := w.heap.size + 1) (e := 3) (size := 1) w1 #[.int .i64 x0.From] 1 (by have := Later.size (w := wb) (W := w1) inferInstance; omega) (by simp [maxLen]) rfl), inferInstance⟩
  case round =>
    obtain ⟨k, acc, hk, rfl, hal, HF, hown, hX⟩ := hrel
    by_cases hlt : k < ln
    · obtain ⟨b1, o1, x, hA1, hx, hc0, hc1, hc2, hc3, hc4, _⟩ := Legs.at_ HLW.out hlt
      cases hA1
      have JL := JF.out.leg k x hx.out
      have LF := legLine TF.out JL
      have TI := Lib.hid (tripI_facts TF.out JL.found.1 JL.found.2).in_
      obtain ⟨m, hm⟩ := Int.eq_ofNat_of_zero_le JL.found.1
      obtain ⟨p, hp, hpa⟩ := from_at JL
      obtain ⟨q, hq⟩ := Int.eq_ofNat_of_zero_le (show 0 ≤ idx (intIs x.To) (lineI t (findI t x.Trip)).Stops from by have := JL.place; omega)
      have hpq : p < q := by have := JL.place.2; omega
      have hqn : q < (lineI t (findI t x.Trip)).Stops.length := by have := idx_bd (intIs x.To) (lineI t (findI t x.Trip)).Stops; omega
      have h6 := LF.stops.2
      have HRS : Hid (rideStops t x = ((lineI t m).Stops.take (q + 1)).drop (p + 1)) := by show _ = _; unfold rideStops; rw [hp, hq, hm]; rfl
      have HRA := Lib.hid (ride_at (t := t) hx.out)
      have hmt := JL.found.2
      rw [hm] at hp hpa hq hqn h6 hmt
      rw [hm] at TI
      have HF0 := Lib.hid hm
      have HP := Lib.hid hp
      have HQ := Lib.hid hq
      have HPA := Lib.hid hpa
      clear JL LF hm hp hq hpa
      have HF2 : Hid (acc ++ rideStops t x ++ ((ls.drop (k + 1)).map (rideStops t)).flatten = servedOf t ls) := by show _ = _; rw [← HF.out, HRA.out, List.append_assoc]
      have hms : m < sn2 := by have := Hl2.out; omega
      clear HF HRA hx
      obtain ⟨b6, o6, x', rfl, hx', hd0, hd1, hd2, _⟩ := Trips.at_ hT hms
      have HTX : Hid (tripI t m = x') := tripI_of hx'.out
      rw [HTX.out] at TI
      have HLI : Hid (lineI t m = lineAtT t x'.Line) := by show _ = _; unfold lineI; rw [HTX.out]
      rw [HLI.out] at HRS HP HQ HPA hqn h6
      clear hx'
      have HBX : ∀ W [Later (wr.alloc (.cells #[.int .i64 x.Trip, .int .i64 x.From, .int .i64 x.To, .int .i64 x.Depart, .int .i64 x.Arrive] 100)) W] (j : Nat), W.cell? ⟨wr.heap.size, j, none⟩ = #[.int .i64 x.Trip, .int .i64 x.From, .int .i64 x.To, .int .i64 x.Depart, .int .i64 x.Arrive][j]? := Later.boxes (t := 100) (fr := (0, 0)) (heap_new (by simp; try omega)); obtain ⟨wx, hwx⟩ : ∃ wx : World, wx = (wr.alloc (.cells #[.int .i64 x.Trip, .int .i64 x.From, .int .i64 x.To, .int .i64 x.Depart, .int .i64 x.Arrive] 100)) := ⟨_, rfl⟩; haveI hxW : Later wx (wr.alloc (.cells #[.int .i64 x.Trip, .int .i64 x.From, .int .i64 x.To, .int .i64 x.Depart, .int .i64 x.Arrive] 100)) := (by rw [hwx]; exact Later.rfl_); haveI hbx : Later wb wx := (by rw [hwx]; infer_instance); rw [← hwx] at HBX; clear hwx
      go_wp2_with fail
      go_region_held3 (fun w' => Later wb w' ∧ Later wx w' ∧ Later wr w') (exact ⟨inferInstance, inferInstance, inferInstance⟩) (first
        | (go_at_call 82; refine (impl_tripIndex H.out (hwb0.trans inferInstance) x.Trip).mono ?_; rw [HF0.out]; rintro e w3 ⟨rfl, L3⟩; have X3 := Later.trans (w := wb) inferInstance L3; have Z3 := Later.trans (w := wx) inferInstance L3; have Y3 := Later.trans (w := wr) inferInstance L3)
        | (go_at_call 88; refine (impl_lineOf H.out (hwb0.trans inferInstance) x' TI.out.line0 TI.out.line1).mono ?_; rintro e w4 ⟨A0, n0, c0, A1, n1, c1', rfl, hy, L4⟩; have X4 := Later.trans (w := wb) inferInstance L4; have Z4 := Later.trans (w := wx) inferInstance L4; have Y4 := Later.trans (w := wr) inferInstance L4; have HY := Lib.hid hy; clear hy))
      go_wp2_with fail
      go_region_held3 (fun w' => Later wb w' ∧ Later wx w' ∧ Later wr w') (exact ⟨inferInstance, inferInstance, inferInstance⟩) (first
        | (go_at_call 89; ((with_reducible refine (slices_IndexInt HY.out.l_Stops (hwb0.trans inferInstance) x.From).mono ?_); rw [HP.out]; rintro e w5 ⟨rfl, L5⟩); have X5 := Later.trans (w := wb) inferInstance L5; have Z5 := Later.trans (w := wx) inferInstance L5; have Y5 := Later.trans (w := wr) inferInstance L5)
        | (go_at_call 89; ((with_reducible refine (slices_IndexInt HY.out.l_Stops (hwb0.trans inferInstance) x.To).mono ?_); rw [HQ.out]; rintro e w6 ⟨rfl, L6⟩); have X6 := Later.trans (w := wb) inferInstance L6; have Z6 := Later.trans (w := wx) inferInstance L6; have Y6 := Later.trans (w := wr) inferInstance L6))
      have hS := (HY.out.l_Stops).later hwb0
      have hsn : n0 = (lineAtT t x'.Line).Stops.length := hS.len
      have hqn0 : q + 1 ≤ n0 := by omega
      have hsc := hS.cap
      obtain ⟨b7, o7, _, rfl, _, _, _⟩ := Ints.at_ hS (k := 0) (by omega)
      have HSG := Lib.hid (hS.seg_ (j := p + 1) (k := q + 1) (by omega) hqn0)
      rw [← HRS.out, show q + 1 - (p + 1) = q - p from by omega] at HSG
      have hlen6 : q - p ≤ 6 := by omega
      clear hS hsn
      have hpos : 0 < q - p := by omega
      go_wp2_with (at_builtin; refine wpList_app_N rfl _ _ 57 rfl Try.underlying57 infoInt rfl (by exact ownsRow_later hown.out (inferInstance : Later wr _)) (inferInstance : Later wb _) hbs (Nat.le_trans hbs2 (Later.size (w := wb) inferInstance)) rfl (HSG.out.later inferInstance) hpos (by omega) ?_; intro v' w8 hown' hX8)
      go_roundw
      case rel => exact ⟨k + 1, acc ++ rideStops t x, by omega, by go_num, by have := HSG.out.len; rw [List.length_append, ← this]; omega, HF2, by show World.ownsRow _ _ _ _ _ _ _; have := HSG.out.len; rw [List.map_append, List.length_append, ← this]; exact hown', inferInstance⟩
      case measure => simp [intOf]; omega
    · have HE : Hid (acc = servedOf t ls) := by
        have h3 := HF.out
        rw [List.drop_eq_nil_of_le (by have := Hln.out; omega)] at h3
        exact (by simpa using h3 : acc = _)
      clear HF
      go_wp2
      go_ret2
      obtain ⟨A, c, fp, rfl, ho, hnd, hlo⟩ := OSl.ints_of_own hown.out (fun y hy => by have := served_mem JF.out y (by rw [← HE.out]; exact hy); have := HNS.out; unfold I64; omega)
      exact ⟨A, _, c, fp, rfl, by rw [← HE.out]; exact ho, hnd, fun g hg => by have := hlo g hg; omega, hww.trans inferInstance⟩
def headK (x0 : Int) : Nat → List Int
  | 0 => [x0]
  | _ + 1 => []
set_option maxHeartbeats 2000000 in
theorem spec_ServedStops {w0 w : World} {sA0 : Option Addr} {sn0 sc0 : Nat} {sA1 : Option Addr} {sn1 sc1 : Nat} {sA2 : Option Addr} {sn2 sc2 : Nat} {t : Timetable} (h : TimetableAt w0 sA0 sn0 sc0 sA1 sn1 sc1 sA2 sn2 sc2 t) (hl : Later w0 w) (change : Int) {w3 : World} {lA : Option Addr} {ln lc : Nat} {ls : List Leg} (h3 : Legs w3 lA ln lc ls) (hl3 : Later w3 w) : Calls Try.prog 38 #[.agg #[.slice sA0 sn0 sc0, .slice sA1 sn1 sc1, .slice sA2 sn2 sc2], .int .i64 change, .slice lA ln lc] w (RetO2 1 oInt (servedRes t change ls).1 (servedRes t change ls).2 w) := by
  have hT := h.l_Trips.later hl
  have Hl2 := Lib.hid hT.len
  have hn2 := hT.le
  have HNS : Hid (t.Network.Stops.length ≤ 9223372036854775807) := by show _ ≤ _; rw [← h.l_Network_Stops.len]; exact h.l_Network_Stops.le
  have hLw := h3.later hl3
  have HB0 : ∀ W [Later (w.alloc (.cells #[.slice sA0 sn0 sc0, .slice sA1 sn1 sc1, .slice sA2 sn2 sc2] 50)) W] (j : Nat), W.cell? ⟨w.heap.size, j, none⟩ = #[.slice sA0 sn0 sc0, .slice sA1 sn1 sc1, .slice sA2 sn2 sc2][j]? := Later.boxes (t := 50) (fr := (0, 0)) (heap_new (by simp; try omega)); obtain ⟨wb, hwb⟩ : ∃ wb : World, wb = (w.alloc (.cells #[.slice sA0 sn0 sc0, .slice sA1 sn1 sc1, .slice sA2 sn2 sc2] 50)) := ⟨_, rfl⟩; haveI hbW : Later wb (w.alloc (.cells #[.slice sA0 sn0 sc0, .slice sA1 sn1 sc1, .slice sA2 sn2 sc2] 50)) := (by rw [hwb]; exact Later.rfl_); haveI hww : Later w wb := (by rw [hwb]; infer_instance); rw [← hwb] at HB0; have hbE := Lib.hid (congrArg (fun x : World => x.heap.size) hwb); clear hwb
  have hwb0 := hl.trans hww
  have H := Lib.hid h
  clear h
  have hwb3 := hl3.trans hww
  have H3 := Lib.hid h3
  replace hLw := hLw.later hww
  have hln := hLw.le
  have Hln := Lib.hid hLw.len
  clear h3
  replace hT := hT.later hww
  by_cases cr : okAsked t change = true
  rotate_left
  · have c1 : okAsked t change = false := by simpa using cr
    clear cr
    have HRES := Lib.hid (show servedRes t change ls = ([], false) from by simp [servedRes, okJourney, c1])
    rw [HRES.out]
    go_enter Try.func38, Try.ntmps38
    go_wp2_with (go_at_call 76; refine (spec_l8Asked H.out (hwb0.trans inferInstance) _).mono ?_; rintro e w1 ⟨rfl, L1⟩; have X1 := Later.trans (w := wb) inferInstance L1)
    go_ret2; exact ⟨_, 0, 0, [], rfl, OSl.nil_ _, by simp, by simp, hww.trans inferInstance⟩
  have AF : Hid (TimeFacts t ∧ 0 ≤ change ∧ change ≤ 30) := by
    have := cr
    simp only [okAsked, Bool.and_eq_true, inB_t] at this
    exact ⟨timeFacts this.1, this.2⟩
  by_cases cb : okLegs t change ls = true
  rotate_left
  · have c1 : okLegs t change ls = false := by simpa using cb
    clear cb
    have HRES := Lib.hid (show servedRes t change ls = ([], false) from by simp [servedRes, okJourney, c1])
    rw [HRES.out]
    go_enter Try.func38, Try.ntmps38
    go_wp2_with first
      | (go_at_call 76; refine (spec_l8Asked H.out (hwb0.trans inferInstance) _).mono ?_; rintro e w1 ⟨rfl, L1⟩; have X1 := Later.trans (w := wb) inferInstance L1)
      | (go_at_call 77; refine (spec_l8Journey H.out (hwb0.trans inferInstance) H3.out (hwb3.trans inferInstance) AF.out.1 change AF.out.2.1 AF.out.2.2).mono ?_; rintro e w2 ⟨rfl, L2⟩; have X2 := Later.trans (w := wb) inferInstance L2)
    go_ret2; exact ⟨_, 0, 0, [], rfl, OSl.nil_ _, by simp, by simp, hww.trans inferInstance⟩
  have c0 : okJourney t change ls = true := by unfold okJourney; rw [cr, cb]; rfl
  have JF := Lib.hid (jourFacts c0)
  have hl4 : ln ≤ 4 := by have := JF.out.len; have := Hln.out; omega
  have hl1 : 0 < ln := by have := JF.out.len; have := Hln.out; omega
  have hbs : wb.heap.size ≤ w.heap.size + 1 := by have := hbE.out; simp at this; omega
  have hbs2 : w.heap.size + 1 ≤ wb.heap.size := by have := hbE.out; simp at this; omega
  have TF := Lib.hid JF.out.time
  have hfl := field_Line1
  rw [show servedRes t change ls = (servedOf t ls, true) from if_pos c0]
  have HLW := Lib.hid hLw
  obtain ⟨b, o, x0, rfl, hx0, hc0, hc1, hc2, hc3, hc4, _⟩ := Legs.at_ hLw hl1
  have HH0 : Hid ((ls.headD default).From = x0.From) := by
    show _ = _
    cases ls with
    | nil => have := hx0.out; simp at this
    | cons a l => have := hx0.out; simp at this; subst this; rfl
  go_enter Try.func38, Try.ntmps38
  go_wp2_with first
    | (go_at_call 76; refine (spec_l8Asked H.out (hwb0.trans inferInstance) _).mono ?_; rintro e w1 ⟨rfl, L1⟩; have X1 := Later.trans (w := wb) inferInstance L1; have V1 : Later ((w.alloc (.cells #[.slice sA0 sn0 sc0, .slice sA1 sn1 sc1, .slice sA2 sn2 sc2] 50)).alloc (.cells #[] 3)) w1 := Later.trans inferInstance L1)
    | (go_at_call 77; refine (spec_l8Journey H.out (hwb0.trans inferInstance) H3.out (hwb3.trans inferInstance) AF.out.1 change AF.out.2.1 AF.out.2.2).mono ?_; rintro e w2 ⟨rfl, L2⟩; have X2 := Later.trans (w := wb) inferInstance L2)
  clear cr cb c0 hc0 hc1 hc2 hc3 hc4
  go_loopw [8, 9] (fun ov i wr => ∃ (k : Nat) (acc : List Int), k ≤ ln ∧ i = .int .i64 k ∧ acc.length ≤ 2 + 7 * k ∧ Hid (acc ++ headK x0.From k ++ ((ls.drop k).map (rideStops t)).flatten = servedOf t ls) ∧ Hid (wr.ownsRow (w.heap.size + 1) 3 1 ov acc.length (acc.map (Value.int .i64))) ∧ Later wb wr) (fun _ i _ => ln - (intOf i).toNat)
  case atStart => exact ⟨0, [], by omega, rfl, by simp, by show _ = _; unfold servedOf; rw [HH0.out]; simp [headK], Lib.hid (ownsRow_later (by simpa using World.ownsRow_lit (base := w.heap.size + 1) (e := 3) (size := 1) (w.alloc (.cells #[.slice sA0 sn0 sc0, .slice sA1 sn1 sc1, .slice sA2 sn2 sc2] 50)) #[] 0 (by simp) (by simp [maxLen]) rfl) (Later.trans (w := (w.alloc (.cells #[.slice sA0 sn0 sc0, .slice sA1 sn1 sc1, .slice sA2 sn2 sc2] 50)).alloc (.cells #[] 3)) inferInstance (Later.trans V1 L2))), inferInstance⟩
  case round =>
    obtain ⟨k, acc, hk, rfl, hal, HF, hown, hX⟩ := hrel
    by_cases hlt : k < ln
    · obtain ⟨b1, o1, x, hA1, hx, hc0, hc1, hc2, hc3, hc4, _⟩ := Legs.at_ HLW.out hlt
      cases hA1
      have JL := JF.out.leg k x hx.out
      have LF := legLine TF.out JL
      have TI := Lib.hid (tripI_facts TF.out JL.found.1 JL.found.2).in_
      obtain ⟨m, hm⟩ := Int.eq_ofNat_of_zero_le JL.found.1
      obtain ⟨p, hp, hpa⟩ := from_at JL
      obtain ⟨q, hq⟩ := Int.eq_ofNat_of_zero_le (show 0 ≤ idx (intIs x.To) (lineI t (findI t x.Trip)).Stops from by have := JL.place; omega)
      have hpq : p < q := by have := JL.place.2; omega
      have hqn : q < (lineI t (findI t x.Trip)).Stops.length := by have := idx_bd (intIs x.To) (lineI t (findI t x.Trip)).Stops; omega
      have h6 := LF.stops.2
      have HRS : Hid (rideStops t x = ((lineI t m).Stops.take (q + 1)).drop (p + 1)) := by show _ = _; unfold rideStops; rw [hp, hq, hm]; rfl
      have HRA := Lib.hid (ride_at (t := t) hx.out)
      have hmt := JL.found.2
      rw [hm] at hp hpa hq hqn h6 hmt
      rw [hm] at TI
      have HF0 := Lib.hid hm
      have HP := Lib.hid hp
      have HQ := Lib.hid hq
      have HPA := Lib.hid hpa
      clear JL LF hm hp hq hpa
      have HXX := Lib.hid hx.out
      have hms : m < sn2 := by have := Hl2.out; omega
      have HQ2 := HQ
      clear HRA hx HQ
      have hjt' : (k : Int) < ln := by omega
      go_wp2_with fail
      refine wp_region_held_drew (S := (fun w' => Later wb w' ∧ Later wr w')) (by kernel_rfl) (by exact ⟨inferInstance, inferInstance⟩) (fun hHeld => ?_)
      refine wpAnyH_take (i := 0) (v := ?_) (by simp only [List.getElem?_toArray, List.getElem?_cons_zero] <;> rfl) (by kernel_rfl) (by kernel_rfl) (by kernel_rfl) (by exact fun _ _ _ h => h) (Or.inl ⟨by kernel_rfl, ?_⟩) (by assumption) ?_
      rotate_left
      · intro w' hSw; (try dsimp only at hSw); go_simp; try with_reducible rfl
      try simp only [Act.put, List.setIfInBounds_toArray, List.set_cons_zero, List.set_cons_succ]
      refine wpAnyH_take (i := 1) (v := ?_) (by simp only [List.getElem?_toArray, List.getElem?_cons_succ, List.getElem?_cons_zero] <;> rfl) (by kernel_rfl) (by kernel_rfl) (by kernel_rfl) (by exact fun _ _ _ h => h) (Or.inl ⟨by kernel_rfl, ?_⟩) (by assumption) ?_
      rotate_left
      · intro w' hSw; (try dsimp only at hSw); go_simp; try with_reducible rfl
      try simp only [Act.put, List.setIfInBounds_toArray, List.set_cons_zero, List.set_cons_succ]
      refine wpAnyH_take (i := 2) (v := ?_) (by simp only [List.getElem?_toArray, List.getElem?_cons_succ, List.getElem?_cons_zero] <;> rfl) (by kernel_rfl) (by kernel_rfl) (by kernel_rfl) (by exact fun _ _ _ h => h) (Or.inl ⟨by kernel_rfl, ?_⟩) (by assumption) ?_
      rotate_left
      · intro w' hSw; (try dsimp only at hSw); go_simp; try with_reducible rfl
      try simp only [Act.put, List.setIfInBounds_toArray, List.set_cons_zero, List.set_cons_succ]
      refine wpAnyH_take (i := 3) (v := ?_) (by simp only [List.getElem?_toArray, List.getElem?_cons_succ, List.getElem?_cons_zero] <;> rfl) (by kernel_rfl) (by kernel_rfl) (by kernel_rfl) (by exact fun _ _ _ h => h) (Or.inl ⟨by kernel_rfl, ?_⟩) (by assumption) ?_
      rotate_left
      · intro w' hSw; (try dsimp only at hSw); go_simp; try with_reducible rfl
      try simp only [Act.put, List.setIfInBounds_toArray, List.set_cons_zero, List.set_cons_succ]
      refine wpAnyH_take (i := 4) (v := ?_) (by simp only [List.getElem?_toArray, List.getElem?_cons_succ, List.getElem?_cons_zero] <;> rfl) (by kernel_rfl) (by kernel_rfl) (by kernel_rfl) (by exact fun _ _ _ h => h) (Or.inl ⟨by kernel_rfl, ?_⟩) (by assumption) ?_
      rotate_left
      · intro w' hSw; (try dsimp only at hSw); go_simp; try with_reducible rfl
      try simp only [Act.put, List.setIfInBounds_toArray, List.set_cons_zero, List.set_cons_succ]
      refine wpAnyH_take (i := 5) (v := ?_) (by simp only [List.getElem?_toArray, List.getElem?_cons_succ, List.getElem?_cons_zero] <;> rfl) (by kernel_rfl) (by kernel_rfl) (by kernel_rfl) (by exact fun _ _ _ h => h) (Or.inl ⟨by kernel_rfl, ?_⟩) (by assumption) ?_
      rotate_left
      · intro w' hSw; (try dsimp only at hSw); go_simp; try with_reducible rfl
      try simp only [Act.put, List.setIfInBounds_toArray, List.set_cons_zero, List.set_cons_succ]
      refine wpAnyH_take (i := 6) (v := ?_) (by simp only [List.getElem?_toArray, List.getElem?_cons_succ, List.getElem?_cons_zero] <;> rfl) (by kernel_rfl) (by kernel_rfl) (by kernel_rfl) (by exact fun _ _ _ h => h) (Or.inl ⟨by kernel_rfl, ?_⟩) (by assumption) ?_
      rotate_left
      · intro w' hSw; (try dsimp only at hSw); go_simp; try with_reducible rfl
      try simp only [Act.put, List.setIfInBounds_toArray, List.set_cons_zero, List.set_cons_succ]
      refine wpAnyH_ready (rs := [7, 9]) (by kernel_rfl) (by simp) (AllReadyH.cons rfl (fun K hK => ?r0_1_2_3_4_5_6_7) (AllReadyH.cons rfl (fun K hK => ?r0_1_2_3_4_5_6_9) AllReadyH.nil))
      case' r0_1_2_3_4_5_6_7 =>
        go_simp
        (go_at_call 78; refine (spec_l5Find H.out (hwb0.trans inferInstance) x.Trip).mono ?_; rw [HF0.out]; rintro e w3 ⟨rfl, L3⟩; have X3 := Later.trans (w := wb) inferInstance L3; have Y3 := Later.trans (w := wr) inferInstance L3; (try (have hBq : Blk w3 wr.heap.size 83 #[.string ByteArray.empty, .slice none 0 0, .slice none 0 0] := Blk.later (w := (wr.alloc (.cells #[.string ByteArray.empty, .slice none 0 0, .slice none 0 0] 83)).drew) (heap_new rfl) L3)))
        refine hK.out _ _ (by exact ⟨inferInstance, inferInstance⟩) (fun hHeld => ?_)
        try simp only [Act.put, List.setIfInBounds_toArray, List.set_cons_zero, List.set_cons_succ]
        refine wpAnyH_ready (rs := [8, 9]) (by kernel_rfl) (by simp) (AllReadyH.cons rfl (fun K hK => ?r0_1_2_3_4_5_6_7_8) (AllReadyH.cons rfl (fun K hK => ?r0_1_2_3_4_5_6_7_9) AllReadyH.nil))
        case' r0_1_2_3_4_5_6_7_8 =>
          go_simp
          (go_at_call 87; refine (spec_l5Line H.out (hwb0.trans inferInstance) m (by omega) (by have := Hl2.out; omega) TI.out).mono ?_; rintro e w4 ⟨A0, n0, c0, A1, n1, c1', rfl, hy, L4⟩; have X4 := Later.trans (w := wb) inferInstance L4; have Y4 := Later.trans (w := wr) inferInstance L4; have HY := Lib.hid hy; clear hy; (try (replace hBq := Blk.later hBq L4; have hcq := fun i => hBq.cell i; have hfq := fun i => hBq.frozen i)); (try (have hBp : Blk w4 w3.heap.size 83 #[.string ByteArray.empty, .slice none 0 0, .slice none 0 0] := Blk.later (w := (w3.alloc (.cells #[.string ByteArray.empty, .slice none 0 0, .slice none 0 0] 83))) (heap_new rfl) L4; have hcq := fun i => hBp.cell i; have hfq := fun i => hBp.frozen i)))
          refine hK.out _ _ (by exact ⟨inferInstance, inferInstance⟩) (fun hHeld => ?_)
          try simp only [Act.put, List.setIfInBounds_toArray, List.set_cons_zero, List.set_cons_succ]
          refine wpAnyH_ready (rs := [9]) (by kernel_rfl) (by simp) (AllReadyH.cons rfl (fun K hK => ?_) AllReadyH.nil)
          go_simp
          skip
          refine hK.out _ _ (by exact ⟨inferInstance, inferInstance⟩) (fun hHeld => ?_)
          try simp only [Act.put, List.setIfInBounds_toArray, List.set_cons_zero, List.set_cons_succ]
          refine wpAnyH_ready (rs := [10]) (by kernel_rfl) (by simp) (AllReadyH.cons rfl (fun K hK => ?_) AllReadyH.nil)
          go_simp
          skip
          refine hK.out _ _ (by exact ⟨inferInstance, inferInstance⟩) (fun hHeld => ?_)
          try simp only [Act.put, List.setIfInBounds_toArray, List.set_cons_zero, List.set_cons_succ]
          refine wpAnyH_done (by kernel_rfl) ?_ _
        case' r0_1_2_3_4_5_6_7_9 =>
          go_simp
          skip
          refine hK.out _ _ (by exact ⟨inferInstance, inferInstance⟩) (fun hHeld => ?_)
          try simp only [Act.put, List.setIfInBounds_toArray, List.set_cons_zero, List.set_cons_succ]
          refine wpAnyH_ready (rs := [8]) (by kernel_rfl) (by simp) (AllReadyH.cons rfl (fun K hK => ?_) AllReadyH.nil)
          go_simp
          (go_at_call 87; refine (spec_l5Line H.out (hwb0.trans inferInstance) m (by omega) (by have := Hl2.out; omega) TI.out).mono ?_; rintro e w4 ⟨A0, n0, c0, A1, n1, c1', rfl, hy, L4⟩; have X4 := Later.trans (w := wb) inferInstance L4; have Y4 := Later.trans (w := wr) inferInstance L4; have HY := Lib.hid hy; clear hy; (try (replace hBq := Blk.later hBq L4; have hcq := fun i => hBq.cell i; have hfq := fun i => hBq.frozen i)); (try (have hBp : Blk w4 w3.heap.size 83 #[.string ByteArray.empty, .slice none 0 0, .slice none 0 0] := Blk.later (w := (w3.alloc (.cells #[.string ByteArray.empty, .slice none 0 0, .slice none 0 0] 83))) (heap_new rfl) L4; have hcq := fun i => hBp.cell i; have hfq := fun i => hBp.frozen i)))
          refine hK.out _ _ (by exact ⟨inferInstance, inferInstance⟩) (fun hHeld => ?_)
          try simp only [Act.put, List.setIfInBounds_toArray, List.set_cons_zero, List.set_cons_succ]
          refine wpAnyH_ready (rs := [10]) (by kernel_rfl) (by simp) (AllReadyH.cons rfl (fun K hK => ?_) AllReadyH.nil)
          go_simp
          skip
          refine hK.out _ _ (by exact ⟨inferInstance, inferInstance⟩) (fun hHeld => ?_)
          try simp only [Act.put, List.setIfInBounds_toArray, List.set_cons_zero, List.set_cons_succ]
          refine wpAnyH_done (by kernel_rfl) ?_ _
      case' r0_1_2_3_4_5_6_9 =>
        go_simp
        skip
        refine hK.out _ _ (by exact ⟨inferInstance, inferInstance⟩) (fun hHeld => ?_)
        try simp only [Act.put, List.setIfInBounds_toArray, List.set_cons_zero, List.set_cons_succ]
        refine wpAnyH_ready (rs := [7]) (by kernel_rfl) (by simp) (AllReadyH.cons rfl (fun K hK => ?_) AllReadyH.nil)
        go_simp
        (go_at_call 78; refine (spec_l5Find H.out (hwb0.trans inferInstance) x.Trip).mono ?_; rw [HF0.out]; rintro e w3 ⟨rfl, L3⟩; have X3 := Later.trans (w := wb) inferInstance L3; have Y3 := Later.trans (w := wr) inferInstance L3; (try (have hBq : Blk w3 wr.heap.size 83 #[.string ByteArray.empty, .slice none 0 0, .slice none 0 0] := Blk.later (w := (wr.alloc (.cells #[.string ByteArray.empty, .slice none 0 0, .slice none 0 0] 83)).drew) (heap_new rfl) L3)))
        refine hK.out _ _ (by exact ⟨inferInstance, inferInstance⟩) (fun hHeld => ?_)
        try simp only [Act.put, List.setIfInBounds_toArray, List.set_cons_zero, List.set_cons_succ]
        refine wpAnyH_ready (rs := [8]) (by kernel_rfl) (by simp) (AllReadyH.cons rfl (fun K hK => ?_) AllReadyH.nil)
        go_simp
        (go_at_call 87; refine (spec_l5Line H.out (hwb0.trans inferInstance) m (by omega) (by have := Hl2.out; omega) TI.out).mono ?_; rintro e w4 ⟨A0, n0, c0, A1, n1, c1', rfl, hy, L4⟩; have X4 := Later.trans (w := wb) inferInstance L4; have Y4 := Later.trans (w := wr) inferInstance L4; have HY := Lib.hid hy; clear hy; (try (replace hBq := Blk.later hBq L4; have hcq := fun i => hBq.cell i; have hfq := fun i => hBq.frozen i)); (try (have hBp : Blk w4 w3.heap.size 83 #[.string ByteArray.empty, .slice none 0 0, .slice none 0 0] := Blk.later (w := (w3.alloc (.cells #[.string ByteArray.empty, .slice none 0 0, .slice none 0 0] 83))) (heap_new rfl) L4; have hcq := fun i => hBp.cell i; have hfq := fun i => hBp.frozen i)))
        refine hK.out _ _ (by exact ⟨inferInstance, inferInstance⟩) (fun hHeld => ?_)
        try simp only [Act.put, List.setIfInBounds_toArray, List.set_cons_zero, List.set_cons_succ]
        refine wpAnyH_ready (rs := [10]) (by kernel_rfl) (by simp) (AllReadyH.cons rfl (fun K hK => ?_) AllReadyH.nil)
        go_simp
        skip
        refine hK.out _ _ (by exact ⟨inferInstance, inferInstance⟩) (fun hHeld => ?_)
        try simp only [Act.put, List.setIfInBounds_toArray, List.set_cons_zero, List.set_cons_succ]
        refine wpAnyH_done (by kernel_rfl) ?_ _
      all_goals
        go_wp2_with fail
        refine wp_gen fun wq hq => ?_
        have LQ : Later wb wq := by rw [hq]; infer_instance
        have LR : Later wr wq := by rw [hq]; infer_instance
        first
          | (have HGE : wr.heap.size ≤ wr.heap.size := Nat.le_refl _; have HQB : Blk wq wr.heap.size 83 #[.string (lineI t m).Name, .slice A0 n0 c0, .slice A1 n1 c1'] := by rw [hq]; exact (((hBq.set_ 0 (.string (lineI t m).Name)).set_ 1 (.slice A0 n0 c0)).set_ 2 (.slice A1 n1 c1')))
          | (have HGE : wr.heap.size ≤ w3.heap.size := Later.size (w := wr) (W := w3) inferInstance; have HQB : Blk wq w3.heap.size 83 #[.string (lineI t m).Name, .slice A0 n0 c0, .slice A1 n1 c1'] := by rw [hq]; exact (((hBp.set_ 0 (.string (lineI t m).Name)).set_ 1 (.slice A0 n0 c0)).set_ 2 (.slice A1 n1 c1')))
          | (have HGE : wr.heap.size ≤ w4.heap.size := Later.size (w := wr) (W := w4) inferInstance; have HQB : Blk wq w4.heap.size 83 #[.string (lineI t m).Name, .slice A0 n0 c0, .slice A1 n1 c1'] := by rw [hq]; exact (heap_new rfl))
        have HQ := Later.boxes (t := 83) (fr := (0, 0)) HQB
        have HQK := Lib.hid HQB
        clear hq HQB
        try clear hBq
        try clear hBp
        try clear hcq hfq
        clear hHeld
        go_region_held3 (fun w' => Later wb w' ∧ Later wr w' ∧ Later wq w') (exact ⟨inferInstance, inferInstance, inferInstance⟩) (first
          | (go_at_call 63; ((with_reducible refine (spec_l2Place HY.out (hwb0.trans inferInstance) x.From).mono ?_); rw [HP.out]; rintro e w5 ⟨rfl, L5⟩); have X5 := Later.trans (w := wb) inferInstance L5; have Y5 := Later.trans (w := wr) inferInstance L5; have Q5 := Later.trans (w := wq) inferInstance L5)
          | (go_at_call 63; ((with_reducible refine (spec_l2Place HY.out (hwb0.trans inferInstance) x.To).mono ?_); rw [HQ2.out]; rintro e w6 ⟨rfl, L6⟩); have X6 := Later.trans (w := wb) inferInstance L6; have Y6 := Later.trans (w := wr) inferInstance L6; have Q6 := Later.trans (w := wq) inferInstance L6))
        have hS := (HY.out.l_Stops).later hwb0
        have hsn : n0 = (lineI t m).Stops.length := hS.len
        have hqn0 : q + 1 ≤ n0 := by omega
        have hsc := hS.cap
        obtain ⟨b7, o7, y7, rfl, hy7, hs7, _⟩ := Ints.at_ hS (k := p) (by omega)
        have h7 : y7 = x.From := Option.some.inj (hy7.out.symm.trans HPA.out)
        subst h7
        have HSG := Lib.hid (hS.seg_ (j := p + 1) (k := q + 1) (by omega) hqn0)
        rw [← HRS.out, show q + 1 - (p + 1) = q - p from by omega] at HSG
        have hlen6 : q - p ≤ 6 := by omega
        clear hS hsn hy7
        have hpos : 0 < q - p := by omega
        by_cases hk0 : k = 0
        · have e0 : ((k : Int) = 0) := by omega
          have e1 := (beqi_t e0).1
          clear e0
          have HF2 : Hid (acc ++ [x.From] ++ rideStops t x ++ headK x0.From (k + 1) ++ ((ls.drop (k + 1)).map (rideStops t)).flatten = servedOf t ls) := by
            show _ = _
            have h1 := HF.out
            have h2 := HXX.out
            subst hk0
            rw [hx0.out] at h2
            cases h2
            rw [ride_at hx0.out] at h1
            rw [← h1]
            simp [headK]
          clear HF hk0
          have hpn : (p : Int) < n0 := by omega
          go_wp2_with first
            | (at_builtin; refine wpList_app_BG rfl _ _ 57 rfl Try.underlying57 infoInt rfl (by decide) (by decide) rfl (by exact ownsRow_later hown.out (inferInstance : Later wr _)) (inferInstance : Later wb _) hbs (Nat.le_trans hbs2 (Later.size (w := wb) inferInstance)) rfl rfl (one_cell _ _) (by omega) ?_; intro v9 w9 hown9 hX9 hG9; have HQ9 := Later.boxes (t := 83) (fr := (0, 0)) (hG9 _ _ _ (HQK.out.later (inferInstance : Later wq _)) (fun k9 hk9 e9 => by have := (hown.out.lt k9 hk9).2; omega)); clear hG9)
            | (at_builtin; refine wpList_app_N rfl _ _ 57 rfl Try.underlying57 infoInt rfl hown9 (inferInstance : Later wb _) hbs (Nat.le_trans hbs2 (Later.size (w := wb) inferInstance)) rfl (HSG.out.later inferInstance) hpos (by omega) ?_; intro v' w8 hown' hX8)
          go_roundw
          case rel => exact ⟨k + 1, acc ++ [x.From] ++ rideStops t x, by omega, by go_num, by have := HSG.out.len; rw [List.length_append, List.length_append, ← this]; simp; omega, HF2, by show World.ownsRow _ _ _ _ _ _ _; have := HSG.out.len; rw [List.map_append, List.map_append, List.length_append, List.length_append, ← this]; exact hown', inferInstance⟩
          case measure => simp [intOf]; omega
        · have e0 : ¬ ((k : Int) = 0) := by omega
          have e1 := (beqi_f e0).1
          have HF2 : Hid (acc ++ rideStops t x ++ headK x0.From (k + 1) ++ ((ls.drop (k + 1)).map (rideStops t)).flatten = servedOf t ls) := by
            show _ = _
            have h1 := HF.out
            rw [ride_at HXX.out] at h1
            rw [← h1]
            obtain ⟨j, rfl⟩ : ∃ j, k = j + 1 := ⟨k - 1, by omega⟩
            simp [headK]
          clear HF hk0
          go_wp2_with first
            | (at_builtin; refine wpList_app_N rfl _ _ 57 rfl Try.underlying57 infoInt rfl (by exact ownsRow_later hown.out (inferInstance : Later wr _)) (inferInstance : Later wb _) hbs (Nat.le_trans hbs2 (Later.size (w := wb) inferInstance)) rfl (HSG.out.later inferInstance) hpos (by omega) ?_; intro v' w8 hown' hX8)
          go_roundw
          case rel => exact ⟨k + 1, acc ++ rideStops t x, by omega, by go_num, by have := HSG.out.len; rw [List.length_append, ← this]; omega, HF2, by show World.ownsRow _ _ _ _ _ _ _; have := HSG.out.len; rw [List.map_append, List.length_append, ← this]; exact hown', inferInstance⟩
          case measure => simp [intOf]; omega
    · have HE : Hid (acc = servedOf t ls) := by
        have h3 := HF.out
        rw [List.drop_eq_nil_of_le (by have := Hln.out; omega)] at h3
        cases k with
        | zero => omega
        | succ k => exact (by simpa [headK] using h3 : acc = _)
      clear HF
      go_wp2
      go_ret2
      obtain ⟨A, c, fp, rfl, ho, hnd, hlo⟩ := OSl.ints_of_own hown.out (fun y hy => by have := served_mem JF.out y (by rw [← HE.out]; exact hy); have := HNS.out; unfold I64; omega)
      exact ⟨A, _, c, fp, rfl, by rw [← HE.out]; exact ho, hnd, fun g hg => by have := hlo g hg; omega, hww.trans inferInstance⟩
end Go.Proofs.Yteeeihnkofoagaa
