/-
  Earliest arrivals: the reference's functions.
-/
import Derived.Test.YteijofkkggifhaaRowA
import Derived.Test.YteijofkkggifhaaEarP
import Derived.Test.YteijofkkggifhaaTimeD
import Derived.Test.YteijofkkggifhaaCopy
import Derived.Deep.RegionHeld3
namespace Go.Proofs.Yteijofkkggifhaa
open Go Go.RowKit
set_option linter.unusedVariables false
set_option maxRecDepth 100000
set_option maxHeartbeats 800000 in
theorem spec_l8Asked {w0 w : World} {sA0 : Option Addr} {sn0 sc0 : Nat} {sA1 : Option Addr} {sn1 sc1 : Nat} {sA2 : Option Addr} {sn2 sc2 : Nat} {t : Timetable} (h : TimetableAt w0 sA0 sn0 sc0 sA1 sn1 sc1 sA2 sn2 sc2 t) (hl : Later w0 w) (change : Int) : Calls Try.prog 179 #[.agg #[.slice sA0 sn0 sc0, .slice sA1 sn1 sc1, .slice sA2 sn2 sc2], .int .i64 change] w (Ret (.bool (okAsked t change)) w) := by
  have HB0 : ∀ W [Later (w.alloc (.cells #[.slice sA0 sn0 sc0, .slice sA1 sn1 sc1, .slice sA2 sn2 sc2] 39)) W] (j : Nat), W.cell? ⟨w.heap.size, j, none⟩ = #[.slice sA0 sn0 sc0, .slice sA1 sn1 sc1, .slice sA2 sn2 sc2][j]? := Later.boxes (t := 39) (fr := (0, 0)) (heap_new (by simp; try omega)); obtain ⟨wb, hwb⟩ : ∃ wb : World, wb = (w.alloc (.cells #[.slice sA0 sn0 sc0, .slice sA1 sn1 sc1, .slice sA2 sn2 sc2] 39)) := ⟨_, rfl⟩; haveI hbW : Later wb (w.alloc (.cells #[.slice sA0 sn0 sc0, .slice sA1 sn1 sc1, .slice sA2 sn2 sc2] 39)) := (by rw [hwb]; exact Later.rfl_); haveI hww : Later w wb := (by rw [hwb]; infer_instance); rw [← hwb] at HB0; have hbE := Lib.hid (congrArg (fun x : World => x.heap.size) hwb); clear hwb
  have hwb0 := hl.trans hww
  have H := Lib.hid h
  clear h
  by_cases b1 : okTimetable t = true
  rotate_left
  · have g1 : okTimetable t = false := by simpa using b1
    clear b1
    go_enter Try.func179, Try.ntmps179
    go_wp2_with first
      | (go_at_call 60; refine (spec_l5Good H.out (hwb0.trans inferInstance)).mono ?_; rintro e w1 ⟨rfl, L1⟩; have X1 := Later.trans (w := wb) inferInstance L1)
      | (go_at_call 95; refine (spec_l1In _ _ _ _).mono ?_; rintro e w' ⟨rfl, rfl⟩)
    go_ret
    exact ⟨ret_bool (by simp [okAsked, *]), hww.trans inferInstance⟩
  go_enter Try.func179, Try.ntmps179
  go_wp2_with first
    | (go_at_call 60; refine (spec_l5Good H.out (hwb0.trans inferInstance)).mono ?_; rintro e w1 ⟨rfl, L1⟩; have X1 := Later.trans (w := wb) inferInstance L1)
    | (go_at_call 95; refine (spec_l1In _ _ _ _).mono ?_; rintro e w' ⟨rfl, rfl⟩)
  go_ret
  exact ⟨ret_bool (by simp [okAsked, *]), hww.trans inferInstance⟩
set_option maxHeartbeats 800000 in
theorem spec_l8From {w0 w : World} {sA0 : Option Addr} {sn0 sc0 : Nat} {sA1 : Option Addr} {sn1 sc1 : Nat} {sA2 : Option Addr} {sn2 sc2 : Nat} {t : Timetable} (h : TimetableAt w0 sA0 sn0 sc0 sA1 sn1 sc1 sA2 sn2 sc2 t) (hl : Later w0 w) (change from_ at_ : Int) : Calls Try.prog 137 #[.agg #[.slice sA0 sn0 sc0, .slice sA1 sn1 sc1, .slice sA2 sn2 sc2], .int .i64 change, .int .i64 from_, .int .i64 at_] w (Ret (.bool (okFrom t change from_ at_)) w) := by
  have hS := h.l_Network_Stops
  have Hl := Lib.hid hS.len
  have hsn := hS.le
  clear hS
  have HB0 : ∀ W [Later (w.alloc (.cells #[.slice sA0 sn0 sc0, .slice sA1 sn1 sc1, .slice sA2 sn2 sc2] 39)) W] (j : Nat), W.cell? ⟨w.heap.size, j, none⟩ = #[.slice sA0 sn0 sc0, .slice sA1 sn1 sc1, .slice sA2 sn2 sc2][j]? := Later.boxes (t := 39) (fr := (0, 0)) (heap_new (by simp; try omega)); obtain ⟨wb, hwb⟩ : ∃ wb : World, wb = (w.alloc (.cells #[.slice sA0 sn0 sc0, .slice sA1 sn1 sc1, .slice sA2 sn2 sc2] 39)) := ⟨_, rfl⟩; haveI hbW : Later wb (w.alloc (.cells #[.slice sA0 sn0 sc0, .slice sA1 sn1 sc1, .slice sA2 sn2 sc2] 39)) := (by rw [hwb]; exact Later.rfl_); haveI hww : Later w wb := (by rw [hwb]; infer_instance); rw [← hwb] at HB0; have hbE := Lib.hid (congrArg (fun x : World => x.heap.size) hwb); clear hwb
  have hwb0 := hl.trans hww
  have H := Lib.hid h
  clear h
  by_cases b1 : okAsked t change = true
  rotate_left
  · have g1 : okAsked t change = false := by simpa using b1
    clear b1
    go_enter Try.func137, Try.ntmps137
    go_wp2_with first
      | (go_at_call 179; refine (spec_l8Asked H.out (hwb0.trans inferInstance) _).mono ?_; rintro e w1 ⟨rfl, L1⟩; have X1 := Later.trans (w := wb) inferInstance L1)
      | (go_at_call 95; refine (spec_l1In _ _ _ _).mono ?_; rintro e w' ⟨rfl, rfl⟩)
      | (go_at_call 96; refine (spec_l4Time _ _).mono ?_; rintro e w' ⟨rfl, rfl⟩)
    go_ret
    exact ⟨ret_bool (by (try rw [Hl.out] at *); simp [okFrom, *]), hww.trans inferInstance⟩
  by_cases b3 : inB from_ 0 ((sn0 : Int) - 1) = true
  rotate_left
  · have g1 : inB from_ 0 ((sn0 : Int) - 1) = false := by simpa using b3
    clear b3
    go_enter Try.func137, Try.ntmps137
    go_wp2_with first
      | (go_at_call 179; refine (spec_l8Asked H.out (hwb0.trans inferInstance) _).mono ?_; rintro e w1 ⟨rfl, L1⟩; have X1 := Later.trans (w := wb) inferInstance L1)
      | (go_at_call 95; refine (spec_l1In _ _ _ _).mono ?_; rintro e w' ⟨rfl, rfl⟩)
      | (go_at_call 96; refine (spec_l4Time _ _).mono ?_; rintro e w' ⟨rfl, rfl⟩)
    go_ret
    exact ⟨ret_bool (by (try rw [Hl.out] at *); simp [okFrom, *]), hww.trans inferInstance⟩
  go_enter Try.func137, Try.ntmps137
  go_wp2_with first
    | (go_at_call 179; refine (spec_l8Asked H.out (hwb0.trans inferInstance) _).mono ?_; rintro e w1 ⟨rfl, L1⟩; have X1 := Later.trans (w := wb) inferInstance L1)
    | (go_at_call 95; refine (spec_l1In _ _ _ _).mono ?_; rintro e w' ⟨rfl, rfl⟩)
    | (go_at_call 96; refine (spec_l4Time _ _).mono ?_; rintro e w' ⟨rfl, rfl⟩)
  go_ret
  exact ⟨ret_bool (by (try rw [Hl.out] at *); simp [okFrom, *]), hww.trans inferInstance⟩
/-- One place of a trip, for the loop. -/
theorem specGo_at {best : List Int} {wait from_ at_ s τ : Int} {l : List (Int × Int)} {on : Bool} {next : List Int} {bv nv : Int} (hb : gi best s = bv) (hn : gi next s = nv) :
    specGo best wait from_ at_ ((s, τ) :: l) on next = specGo best wait from_ at_ l (on || (decide (0 ≤ bv) && decide ((if s = from_ then at_ else bv + wait) ≤ τ))) (if on = true ∧ (nv < 0 ∨ τ < nv) then next.set s.toNat τ else next) := by
  simp only [specGo, readyS, hb, hn]
theorem SpecInv.bd {t : Timetable} {change from_ at_ : Int} {n m : Nat} {best : List Int} (h : SpecInv t change from_ at_ n m best) : ∀ v, v ∈ best → -1 ≤ v ∧ v ≤ 2099 := by
  intro v hv
  obtain ⟨k, hk⟩ := List.getElem?_of_mem hv
  have hl := (List.getElem?_eq_some_iff.1 hk).1
  rw [h.len] at hl
  have := h.rng k (by omega) (by omega)
  rwa [gi_at hk] at this
set_option maxHeartbeats 8000000 in
theorem spec_l8Arrivals {w0 w : World} {sA0 : Option Addr} {sn0 sc0 : Nat} {sA1 : Option Addr} {sn1 sc1 : Nat} {sA2 : Option Addr} {sn2 sc2 : Nat} {t : Timetable} (h : TimetableAt w0 sA0 sn0 sc0 sA1 sn1 sc1 sA2 sn2 sc2 t) (hl : Later w0 w) (tf : TimeFacts t) (change from_ at_ : Int) (ch0 : 0 ≤ change) (ch1 : change ≤ 30) (f0 : 0 ≤ from_) (f1 : from_ < t.Network.Stops.length) (a0 : 0 ≤ at_) (a1 : at_ ≤ 2099) (legs : Nat) (hlg : legs ≤ 100) (n : Int) (hnl : n = legs) :
    Calls Try.prog 83 #[.agg #[.slice sA0 sn0 sc0, .slice sA1 sn1 sc1, .slice sA2 sn2 sc2], .int .i64 change, .int .i64 from_, .int .i64 at_, .int .i64 n] w (RetRow sn0 (arrS t change from_ at_ legs) w) := by
  subst hnl
  have Hl : Hid (sn0 = t.Network.Stops.length) := h.l_Network_Stops.len
  have hT := h.l_Trips.later hl
  have hn2 := hT.le
  have Hl2 := Lib.hid hT.len
  have TF := Lib.hid tf
  have NF := Lib.hid tf.net
  have hn8 : sn0 ≤ 8 := by have := tf.net.stops; rw [Hl.out]; omega
  have hmk := make_ints sn0 (by omega)
  obtain ⟨f, rfl⟩ := Int.eq_ofNat_of_zero_le f0
  have hf : f < sn0 := by rw [Hl.out]; omega
  have F01 : Hid (0 ≤ (f : Int) ∧ (f : Int) < t.Network.Stops.length) := ⟨f0, f1⟩
  clear tf f0 f1
  have HB0 : ∀ W [Later (w.alloc (.cells #[.slice sA0 sn0 sc0, .slice sA1 sn1 sc1, .slice sA2 sn2 sc2] 39)) W] (j : Nat), W.cell? ⟨w.heap.size, j, none⟩ = #[.slice sA0 sn0 sc0, .slice sA1 sn1 sc1, .slice sA2 sn2 sc2][j]? := Later.boxes (t := 39) (fr := (0, 0)) (heap_new (by simp; try omega)); obtain ⟨wb, hwb⟩ : ∃ wb : World, wb = (w.alloc (.cells #[.slice sA0 sn0 sc0, .slice sA1 sn1 sc1, .slice sA2 sn2 sc2] 39)) := ⟨_, rfl⟩; haveI hbW : Later wb (w.alloc (.cells #[.slice sA0 sn0 sc0, .slice sA1 sn1 sc1, .slice sA2 sn2 sc2] 39)) := (by rw [hwb]; exact Later.rfl_); haveI hww : Later w wb := (by rw [hwb]; infer_instance); rw [← hwb] at HB0; have hbE := Lib.hid (congrArg (fun x : World => x.heap.size) hwb); clear hwb
  have hwb0 := hl.trans hww
  have H := Lib.hid h
  clear h
  replace hT := hT.later hww
  have hbs : wb.heap.size ≤ w.heap.size + 1 := by have := hbE.out; simp at this; omega
  haveI hN : New wb (w.heap.size + 1) := ⟨hbs⟩
  go_enter Try.func83, Try.ntmps83
  go_wp2_with fail
  go_loopw [12] (fun i wr => ∃ (k : Nat) (cs : List Int), k ≤ sn0 ∧ i = .int .i64 k ∧ Hid (cs.length = sn0 ∧ ∀ j, j < k → cs[j]? = some (-1)) ∧ Blk wr (w.heap.size + 1) 3 (rowA cs) ∧ Later wb wr) (fun i _ => sn0 - (intOf i).toNat)
  case atStart => exact ⟨0, _, by omega, rfl, ⟨by simp, fun j hj => by omega⟩, heap_new (by simp), inferInstance⟩
  case round =>
    obtain ⟨k, cs, hk, rfl, HC, hB, hX⟩ := hrel
    by_cases hlt : k < sn0
    · obtain ⟨v0, hv0⟩ : ∃ v, cs[k]? = some v := ⟨_, List.getElem?_eq_getElem (by have := HC.out.1; omega)⟩
      have hc0 := hB.rowAt hv0
      have hf0 := hB.frozen k
      clear hv0
      go_wp2
      go_roundw
      case rel => exact ⟨k + 1, cs.set k (-1), by omega, by go_num, fill_step HC.out hlt, hB.rowSet _, inferInstance⟩
      case measure => simp [intOf]; omega
    obtain rfl := all_rep HC.out (by omega)
    have hc0 := hB.rowAt (k := f) (v := -1) (by rw [List.getElem?_replicate, if_pos hf])
    have hf0 := hB.frozen f
    clear HC hk
    go_wp2_with fail
    clear hlt
    go_loopw [11, 13] (fun bv i wr => ∃ (r : Nat) (g o c : Nat) (best : List Int), r ≤ legs ∧ i = .int .i64 r ∧ bv = .slice (some ⟨g, o, none⟩) sn0 c ∧ wb.heap.size ≤ g ∧ sn0 ≤ c ∧ c ≤ 9223372036854775807 ∧ Hid (SpecInv t change f at_ t.Network.Stops.length r best ∧ specR t change f at_ (legs - r) r best = arrS t change f at_ legs) ∧ RowAt wr g o best ∧ Later wb wr) (fun _ i _ => legs - (intOf i).toNat)
    case atStart => exact ⟨0, w.heap.size + 1, 0, sn0, _, by omega, rfl, rfl, hbs, by omega, by omega, ⟨by rw [Hl.out]; exact SpecInv.start t change F01.out.1 F01.out.2 a0 a1, by rw [Nat.sub_zero, Hl.out]; rfl⟩, RowAt.of_row (hB.rowSet at_), inferInstance⟩
    case round =>
      obtain ⟨r, g, o, c, best, hr, rfl, rfl, hgb, hcc, hcm, HF, hR, hX⟩ := hrel
      by_cases hlr : r < legs
      · have HI := Lib.hid HF.out.1
        have HBD := Lib.hid HF.out.1.bd
        have hI : Ints wr (some ⟨g, o, none⟩) sn0 c best := hR.ints (by rw [HI.out.len]; exact Hl.out) hcc hcm (fun v hv => by have := HBD.out v hv; unfold I64; omega)
        have HI2 := Lib.hid hI
        have HN : Hid (SpecInv t change f at_ t.Network.Stops.length (r + 1) (specStep t change f at_ r best) ∧ specR t change f at_ (legs - (r + 1)) (r + 1) (specStep t change f at_ r best) = arrS t change f at_ legs) := by
          refine ⟨HI.out.step TF.out ch0 F01.out.1 F01.out.2 a0, ?_⟩
          rw [← HF.out.2, show legs - r = legs - (r + 1) + 1 by omega]; rfl
        clear HF hI
        have hgl := hR.lt
        by_cases hr0 : r = 0
        · have e0 : ((r : Int) = 0) := by omega
          have e00 := (beqi_t e0).1
          have HS0 : Hid (best.length = sn0 ∧ specAll t best (0) f at_ (t.Trips.drop 0) best = specStep t change f at_ r best) := ⟨by rw [HI.out.len, Hl.out], by rw [List.drop_zero]; unfold specStep; rw [if_pos hr0]⟩
          clear hr0
          go_wp2_with (at_builtin; refine wpList_copy (w0 := wr) (base := wr.heap.size) rfl _ _ 80 rfl Try.underlying80 infoInt rfl (by decide) (by decide) rfl (World.ownsRow_lit wr #[] 0 (Nat.le_refl _) (by simp [maxLen]) rfl) inferInstance (Nat.le_refl _) (by simp) rfl (HI2.out.later inferInstance) (by omega) ?_; intro A4 c4 fp4 w4 ho hnd hlo hX4; have X4 := Later.trans (w := wb) inferInstance hX4; obtain ⟨g2, o2, rfl, hg2, hR2⟩ := RowAt.of_osl ho (by omega); have hc4 := ho.cap; have hm4 := ho.max; have hlo2 := hlo _ hg2; clear ho hnd hlo hg2)
          have hne : Hid (g ≠ g2) := by show _ ≠ _; omega
          haveI hN2 : New wb g2 := ⟨by have := hX.size; omega⟩
          have hR1 := hR.later hX4
          have hng : ¬ g = g2 := hne.out
          have hng2 : ¬ g2 = g := fun e => hne.out e.symm
          go_loopw [16] (fun i wr => ∃ (k : Nat) (next : List Int), k ≤ sn2 ∧ i = .int .i64 k ∧ Hid (next.length = sn0 ∧ specAll t best (0) f at_ (t.Trips.drop k) next = specStep t change f at_ r best) ∧ RowAt wr g o best ∧ RowAt wr g2 o2 next ∧ Later wb wr) (fun i _ => sn2 - (intOf i).toNat)
          case atStart => exact ⟨0, best, by omega, rfl, HS0, hR1, hR2, inferInstance⟩
          case round =>
            obtain ⟨k, next, hk, rfl, HF, hRb, hRn, hX⟩ := hrel
            by_cases hlt : k < sn2
            · obtain ⟨b, o', x, hA, hx, _, _, _, _⟩ := Trips.at_ hT hlt
              have HF1 : Hid (specAll t best (0) f at_ (t.Trips.drop (k + 1)) (specGo best (0) f at_ (passT t x) false next) = specStep t change f at_ r best) := by rw [← HF.out.2, drop_at hx.out]; rfl
              have TI := Lib.hid (TF.out.trip k x hx.out).in_
              have HXI : Hid (tripI t (k : Int) = x) := tripI_of hx.out
              have TIK : Hid (TripIn t (tripI t (k : Int))) := by show TripIn t _; rw [HXI.out]; exact TI.out
              have HK : Hid (0 ≤ (k : Int) ∧ (k : Int) < t.Trips.length) := ⟨by omega, by have := Hl2.out; omega⟩
              have HNL : Hid (next.length = sn0) := HF.out.1
              have lf := Lib.hid (lineAtT_facts NF.out TI.out.line0 TI.out.line1)
              have HLI : Hid (lineI t (k : Int) = lineAtT t x.Line) := by show _ = _; unfold lineI; rw [HXI.out]
              clear HF hx
              subst hA
              go_wp2_with (go_at_call 63; refine (spec_l5Stops H.out (hwb0.trans inferInstance) _ HK.out.1 HK.out.2 TIK.out).mono ?_; rintro e w6 ⟨A0, n0, c0, rfl, hy, L6⟩; have X6 := Later.trans (w := wb) inferInstance L6; have Y6 := Later.trans (w := wr) inferInstance L6; have HY := Lib.hid hy; clear hy)
              have hS := HY.out.later hwb0
              rw [HLI.out] at hS
              have HS1 := Lib.hid hS.len
              have hn0 : n0 ≤ 6 := by rw [hS.len]; have := lf.out.stops; omega
              have hRb6 := hRb.later Y6
              have hRn6 := hRn.later Y6
              clear hRb hRn
              go_loopw [17, 19] (fun on i wr => ∃ (m : Nat) (b : Bool) (next' : List Int), m ≤ n0 ∧ i = .int .i64 m ∧ on = .bool b ∧ Hid (next'.length = sn0 ∧ specGo best (0) f at_ ((passT t x).drop m) b next' = specGo best (0) f at_ (passT t x) false next) ∧ RowAt wr g o best ∧ RowAt wr g2 o2 next' ∧ Later wb wr) (fun _ i _ => n0 - (intOf i).toNat)
              case atStart => exact ⟨0, false, next, by omega, rfl, rfl, ⟨HNL.out, by rw [List.drop_zero]⟩, hRb6, hRn6, inferInstance⟩
              case round =>
                obtain ⟨m, on, next', hm, rfl, rfl, HG, hRb, hRn, hX⟩ := hrel
                by_cases hlm : m < n0
                · obtain ⟨b1, o1, s, rfl, hs, hcs, _⟩ := Ints.at_ hS hlm
                  have hsb := lf.out.mem m s hs.out
                  obtain ⟨q, rfl⟩ := Int.eq_ofNat_of_zero_le hsb.1
                  have hqr : q < sn0 := by have := Hl.out; omega
                  obtain ⟨τ, hτ⟩ : ∃ τ, τ = timeAt t x m := ⟨_, rfl⟩
                  have HTI : Hid (timeI t (k : Int) (m : Int) = τ) := by show _ = _; rw [hτ]; unfold timeI; rw [HXI.out]; rfl
                  have HMR : Hid (0 ≤ (m : Int) ∧ (m : Int) ≤ (lineI t (k : Int)).Runs.length) := ⟨by omega, by rw [HLI.out]; have := lf.out.runs; have := HS1.out; omega⟩
                  obtain ⟨bv, hbv⟩ : ∃ v, best[q]? = some v := ⟨_, List.getElem?_eq_getElem (by have := HI.out.len; have := Hl.out; omega)⟩
                  obtain ⟨nv, hnv⟩ : ∃ v, next'[q]? = some v := ⟨_, List.getElem?_eq_getElem (by have := HG.out.1; omega)⟩
                  have hbb := HBD.out bv (List.mem_of_getElem? hbv)
                  have hb0 := hbb.1
                  have hb1 := hbb.2
                  have hcb := hRb.cells hbv
                  have hcb2 := hRb.cellFar (b := g2) (i := o2 + q) hne.out hbv
                  have hcn := hRn.cells hnv
                  have hfn := hRn.frozens q
                  have hql : q < next'.length := by have := HG.out.1; omega
                  have HQL := Lib.hid hql
                  have HG1 : Hid (next'.length = sn0 ∧ specGo best (0) f at_ ((passT t x).drop (m + 1)) (on || (decide (0 ≤ bv) && decide ((if (q : Int) = f then at_ else bv + (0)) ≤ τ))) (if on = true ∧ (nv < 0 ∨ τ < nv) then next'.set q τ else next') = specGo best (0) f at_ (passT t x) false next) := by
                    refine ⟨HG.out.1, ?_⟩
                    have h9 := HG.out.2
                    rw [drop_at (passT_at hs.out), ← hτ, specGo_at (gi_at hbv) (gi_at hnv)] at h9
                    exact h9
                  clear HG hs hsb hbv hnv hbb hql hτ
                  cases on with
                  | true =>
                    by_cases hqf : q = f
                    · subst hqf
                      by_cases hn1 : nv < 0
                      · have HZ : Hid (specGo best (0) q at_ ((passT t x).drop (m + 1)) (true) (next'.set q τ) = specGo best (0) q at_ (passT t x) false next) := by show _ = _; have h9 := HG1.out.2; rw [if_pos (show true = true ∧ (nv < 0 ∨ τ < nv) from ⟨rfl, .inl hn1⟩)] at h9; simpa using h9
                        have HZL : Hid ((next'.set q τ).length = sn0) := by show _ = _; (try rw [List.length_set]); exact HG1.out.1
                        clear HG1
                        go_wp2_with fail
                        go_region_held3 (fun w' => Later wb w' ∧ Later wr w') (exact ⟨inferInstance, inferInstance⟩) ((go_at_call 65; refine (spec_l5At H.out (hwb0.trans inferInstance) NF.out _ HK.out.1 HK.out.2 TIK.out _ HMR.out.1 HMR.out.2).mono ?_; rw [HTI.out]; rintro e w5 ⟨rfl, L5⟩; have X5 := Later.trans (w := wb) inferInstance L5; have Y5 := Later.trans (w := wr) inferInstance L5))
                        go_wp2_with fail
                        go_roundw
                        case rel => exact ⟨m + 1, true, next'.set q τ, by omega, by go_num, rfl, Lib.hid ⟨HZL.out, HZ.out⟩, by exact (hRb.later inferInstance).far hne.out _, by exact (hRn.later inferInstance).set_ HQL.out τ, inferInstance⟩
                        case measure => simp [intOf]; omega
                      · by_cases hn2 : τ < nv
                        · have HZ : Hid (specGo best (0) q at_ ((passT t x).drop (m + 1)) (true) (next'.set q τ) = specGo best (0) q at_ (passT t x) false next) := by show _ = _; have h9 := HG1.out.2; rw [if_pos (show true = true ∧ (nv < 0 ∨ τ < nv) from ⟨rfl, .inr hn2⟩)] at h9; simpa using h9
                          have HZL : Hid ((next'.set q τ).length = sn0) := by show _ = _; (try rw [List.length_set]); exact HG1.out.1
                          clear HG1
                          go_wp2_with fail
                          go_region_held3 (fun w' => Later wb w' ∧ Later wr w') (exact ⟨inferInstance, inferInstance⟩) ((go_at_call 65; refine (spec_l5At H.out (hwb0.trans inferInstance) NF.out _ HK.out.1 HK.out.2 TIK.out _ HMR.out.1 HMR.out.2).mono ?_; rw [HTI.out]; rintro e w5 ⟨rfl, L5⟩; have X5 := Later.trans (w := wb) inferInstance L5; have Y5 := Later.trans (w := wr) inferInstance L5))
                          go_wp2_with fail
                          go_roundw
                          case rel => exact ⟨m + 1, true, next'.set q τ, by omega, by go_num, rfl, Lib.hid ⟨HZL.out, HZ.out⟩, by exact (hRb.later inferInstance).far hne.out _, by exact (hRn.later inferInstance).set_ HQL.out τ, inferInstance⟩
                          case measure => simp [intOf]; omega
                        · have HZ : Hid (specGo best (0) q at_ ((passT t x).drop (m + 1)) (true) (next') = specGo best (0) q at_ (passT t x) false next) := by show _ = _; have h9 := HG1.out.2; rw [if_neg (show ¬ (true = true ∧ (nv < 0 ∨ τ < nv)) from fun e => e.2.elim hn1 hn2)] at h9; simpa using h9
                          have HZL : Hid ((next').length = sn0) := by show _ = _; (try rw [List.length_set]); exact HG1.out.1
                          clear HG1
                          go_wp2_with fail
                          go_region_held3 (fun w' => Later wb w' ∧ Later wr w') (exact ⟨inferInstance, inferInstance⟩) ((go_at_call 65; refine (spec_l5At H.out (hwb0.trans inferInstance) NF.out _ HK.out.1 HK.out.2 TIK.out _ HMR.out.1 HMR.out.2).mono ?_; rw [HTI.out]; rintro e w5 ⟨rfl, L5⟩; have X5 := Later.trans (w := wb) inferInstance L5; have Y5 := Later.trans (w := wr) inferInstance L5))
                          go_wp2_with fail
                          go_roundw
                          case rel => exact ⟨m + 1, true, next', by omega, by go_num, rfl, Lib.hid ⟨HZL.out, HZ.out⟩, by exact hRb.later inferInstance, by exact hRn.later inferInstance, inferInstance⟩
                          case measure => simp [intOf]; omega
                    · have e1 : ¬ ((q : Int) = f) := by omega
                      have e2 := (beqi_f e1).1
                      by_cases hn1 : nv < 0
                      · have HZ : Hid (specGo best (0) f at_ ((passT t x).drop (m + 1)) (true) (next'.set q τ) = specGo best (0) f at_ (passT t x) false next) := by show _ = _; have h9 := HG1.out.2; rw [if_pos (show true = true ∧ (nv < 0 ∨ τ < nv) from ⟨rfl, .inl hn1⟩)] at h9; simpa using h9
                        have HZL : Hid ((next'.set q τ).length = sn0) := by show _ = _; (try rw [List.length_set]); exact HG1.out.1
                        clear HG1
                        go_wp2_with fail
                        go_region_held3 (fun w' => Later wb w' ∧ Later wr w') (exact ⟨inferInstance, inferInstance⟩) ((go_at_call 65; refine (spec_l5At H.out (hwb0.trans inferInstance) NF.out _ HK.out.1 HK.out.2 TIK.out _ HMR.out.1 HMR.out.2).mono ?_; rw [HTI.out]; rintro e w5 ⟨rfl, L5⟩; have X5 := Later.trans (w := wb) inferInstance L5; have Y5 := Later.trans (w := wr) inferInstance L5))
                        go_wp2_with fail
                        go_roundw
                        case rel => exact ⟨m + 1, true, next'.set q τ, by omega, by go_num, rfl, Lib.hid ⟨HZL.out, HZ.out⟩, by exact (hRb.later inferInstance).far hne.out _, by exact (hRn.later inferInstance).set_ HQL.out τ, inferInstance⟩
                        case measure => simp [intOf]; omega
                      · by_cases hn2 : τ < nv
                        · have HZ : Hid (specGo best (0) f at_ ((passT t x).drop (m + 1)) (true) (next'.set q τ) = specGo best (0) f at_ (passT t x) false next) := by show _ = _; have h9 := HG1.out.2; rw [if_pos (show true = true ∧ (nv < 0 ∨ τ < nv) from ⟨rfl, .inr hn2⟩)] at h9; simpa using h9
                          have HZL : Hid ((next'.set q τ).length = sn0) := by show _ = _; (try rw [List.length_set]); exact HG1.out.1
                          clear HG1
                          go_wp2_with fail
                          go_region_held3 (fun w' => Later wb w' ∧ Later wr w') (exact ⟨inferInstance, inferInstance⟩) ((go_at_call 65; refine (spec_l5At H.out (hwb0.trans inferInstance) NF.out _ HK.out.1 HK.out.2 TIK.out _ HMR.out.1 HMR.out.2).mono ?_; rw [HTI.out]; rintro e w5 ⟨rfl, L5⟩; have X5 := Later.trans (w := wb) inferInstance L5; have Y5 := Later.trans (w := wr) inferInstance L5))
                          go_wp2_with fail
                          go_roundw
                          case rel => exact ⟨m + 1, true, next'.set q τ, by omega, by go_num, rfl, Lib.hid ⟨HZL.out, HZ.out⟩, by exact (hRb.later inferInstance).far hne.out _, by exact (hRn.later inferInstance).set_ HQL.out τ, inferInstance⟩
                          case measure => simp [intOf]; omega
                        · have HZ : Hid (specGo best (0) f at_ ((passT t x).drop (m + 1)) (true) (next') = specGo best (0) f at_ (passT t x) false next) := by show _ = _; have h9 := HG1.out.2; rw [if_neg (show ¬ (true = true ∧ (nv < 0 ∨ τ < nv)) from fun e => e.2.elim hn1 hn2)] at h9; simpa using h9
                          have HZL : Hid ((next').length = sn0) := by show _ = _; (try rw [List.length_set]); exact HG1.out.1
                          clear HG1
                          go_wp2_with fail
                          go_region_held3 (fun w' => Later wb w' ∧ Later wr w') (exact ⟨inferInstance, inferInstance⟩) ((go_at_call 65; refine (spec_l5At H.out (hwb0.trans inferInstance) NF.out _ HK.out.1 HK.out.2 TIK.out _ HMR.out.1 HMR.out.2).mono ?_; rw [HTI.out]; rintro e w5 ⟨rfl, L5⟩; have X5 := Later.trans (w := wb) inferInstance L5; have Y5 := Later.trans (w := wr) inferInstance L5))
                          go_wp2_with fail
                          go_roundw
                          case rel => exact ⟨m + 1, true, next', by omega, by go_num, rfl, Lib.hid ⟨HZL.out, HZ.out⟩, by exact hRb.later inferInstance, by exact hRn.later inferInstance, inferInstance⟩
                          case measure => simp [intOf]; omega
                  | false =>
                    by_cases hqf : q = f
                    · subst hqf
                      by_cases hp : 0 ≤ bv
                      · have HZ : Hid (specGo best (0) q at_ ((passT t x).drop (m + 1)) (decide (at_ ≤ τ)) (next') = specGo best (0) q at_ (passT t x) false next) := by show _ = _; have h9 := HG1.out.2; rw [if_neg (show ¬ (false = true ∧ (nv < 0 ∨ τ < nv)) from fun e => Bool.false_ne_true e.1), decide_eq_true hp, if_pos (show (q : Int) = (q : Int) from rfl)] at h9; simpa using h9
                        have HZL : Hid ((next').length = sn0) := by show _ = _; (try rw [List.length_set]); exact HG1.out.1
                        clear HG1
                        go_wp2_with fail
                        go_region_held3 (fun w' => Later wb w' ∧ Later wr w') (exact ⟨inferInstance, inferInstance⟩) ((go_at_call 65; refine (spec_l5At H.out (hwb0.trans inferInstance) NF.out _ HK.out.1 HK.out.2 TIK.out _ HMR.out.1 HMR.out.2).mono ?_; rw [HTI.out]; rintro e w5 ⟨rfl, L5⟩; have X5 := Later.trans (w := wb) inferInstance L5; have Y5 := Later.trans (w := wr) inferInstance L5))
                        go_wp2_with fail
                        go_roundw
                        case rel => exact ⟨m + 1, decide (at_ ≤ τ), next', by omega, by go_num, rfl, Lib.hid ⟨HZL.out, HZ.out⟩, by exact hRb.later inferInstance, by exact hRn.later inferInstance, inferInstance⟩
                        case measure => simp [intOf]; omega
                      · have HZ : Hid (specGo best (0) q at_ ((passT t x).drop (m + 1)) (false) (next') = specGo best (0) q at_ (passT t x) false next) := by show _ = _; have h9 := HG1.out.2; rw [if_neg (show ¬ (false = true ∧ (nv < 0 ∨ τ < nv)) from fun e => Bool.false_ne_true e.1), decide_eq_false hp] at h9; simpa using h9
                        have HZL : Hid ((next').length = sn0) := by show _ = _; (try rw [List.length_set]); exact HG1.out.1
                        clear HG1
                        go_wp2_with fail
                        go_region_held3 (fun w' => Later wb w' ∧ Later wr w') (exact ⟨inferInstance, inferInstance⟩) ((go_at_call 65; refine (spec_l5At H.out (hwb0.trans inferInstance) NF.out _ HK.out.1 HK.out.2 TIK.out _ HMR.out.1 HMR.out.2).mono ?_; rw [HTI.out]; rintro e w5 ⟨rfl, L5⟩; have X5 := Later.trans (w := wb) inferInstance L5; have Y5 := Later.trans (w := wr) inferInstance L5))
                        go_wp2_with fail
                        go_roundw
                        case rel => exact ⟨m + 1, false, next', by omega, by go_num, rfl, Lib.hid ⟨HZL.out, HZ.out⟩, by exact hRb.later inferInstance, by exact hRn.later inferInstance, inferInstance⟩
                        case measure => simp [intOf]; omega
                    · have e1 : ¬ ((q : Int) = f) := by omega
                      have e2 := (beqi_f e1).1
                      by_cases hp : 0 ≤ bv
                      · have HZ : Hid (specGo best (0) f at_ ((passT t x).drop (m + 1)) (decide (bv ≤ τ)) (next') = specGo best (0) f at_ (passT t x) false next) := by show _ = _; have h9 := HG1.out.2; rw [if_neg (show ¬ (false = true ∧ (nv < 0 ∨ τ < nv)) from fun e => Bool.false_ne_true e.1), decide_eq_true hp, if_neg e1] at h9; simpa using h9
                        have HZL : Hid ((next').length = sn0) := by show _ = _; (try rw [List.length_set]); exact HG1.out.1
                        clear HG1
                        go_wp2_with fail
                        go_region_held3 (fun w' => Later wb w' ∧ Later wr w') (exact ⟨inferInstance, inferInstance⟩) ((go_at_call 65; refine (spec_l5At H.out (hwb0.trans inferInstance) NF.out _ HK.out.1 HK.out.2 TIK.out _ HMR.out.1 HMR.out.2).mono ?_; rw [HTI.out]; rintro e w5 ⟨rfl, L5⟩; have X5 := Later.trans (w := wb) inferInstance L5; have Y5 := Later.trans (w := wr) inferInstance L5))
                        go_wp2_with fail
                        go_roundw
                        case rel => exact ⟨m + 1, decide (bv ≤ τ), next', by omega, by go_num, rfl, Lib.hid ⟨HZL.out, HZ.out⟩, by exact hRb.later inferInstance, by exact hRn.later inferInstance, inferInstance⟩
                        case measure => simp [intOf]; omega
                      · have HZ : Hid (specGo best (0) f at_ ((passT t x).drop (m + 1)) (false) (next') = specGo best (0) f at_ (passT t x) false next) := by show _ = _; have h9 := HG1.out.2; rw [if_neg (show ¬ (false = true ∧ (nv < 0 ∨ τ < nv)) from fun e => Bool.false_ne_true e.1), decide_eq_false hp] at h9; simpa using h9
                        have HZL : Hid ((next').length = sn0) := by show _ = _; (try rw [List.length_set]); exact HG1.out.1
                        clear HG1
                        go_wp2_with fail
                        go_region_held3 (fun w' => Later wb w' ∧ Later wr w') (exact ⟨inferInstance, inferInstance⟩) ((go_at_call 65; refine (spec_l5At H.out (hwb0.trans inferInstance) NF.out _ HK.out.1 HK.out.2 TIK.out _ HMR.out.1 HMR.out.2).mono ?_; rw [HTI.out]; rintro e w5 ⟨rfl, L5⟩; have X5 := Later.trans (w := wb) inferInstance L5; have Y5 := Later.trans (w := wr) inferInstance L5))
                        go_wp2_with fail
                        go_roundw
                        case rel => exact ⟨m + 1, false, next', by omega, by go_num, rfl, Lib.hid ⟨HZL.out, HZ.out⟩, by exact hRb.later inferInstance, by exact hRn.later inferInstance, inferInstance⟩
                        case measure => simp [intOf]; omega
                · have HG1 : Hid (next' = specGo best (0) f at_ (passT t x) false next) := by
                    have h9 := HG.out.2
                    rw [List.drop_eq_nil_of_le (by rw [passT_len]; have := HS1.out; omega)] at h9
                    exact h9
                  have HL := Lib.hid HG.out.1
                  clear HG
                  go_wp2
                  go_roundw
                  case rel => exact ⟨k + 1, next', by omega, by go_num, ⟨HL.out, by rw [HG1.out]; exact HF1.out⟩, hRb, hRn, inferInstance⟩
                  case measure => simp [intOf]; omega
            · have HE : Hid (next = specStep t change f at_ r best) := by
                have h9 := HF.out.2
                rw [List.drop_eq_nil_of_le (by have := Hl2.out; omega)] at h9
                exact h9
              clear HF
              go_wp2
              go_roundw
              case rel => exact ⟨r + 1, g2, o2, c4, next, by omega, by go_num, rfl, by omega, hc4, hm4, by rw [HE.out]; exact HN.out, hRn, inferInstance⟩
              case measure => simp [intOf]; omega
        · have e0 : ¬ ((r : Int) = 0) := by omega
          have e00 := (beqi_f e0).1
          have HS0 : Hid (best.length = sn0 ∧ specAll t best (change) f at_ (t.Trips.drop 0) best = specStep t change f at_ r best) := ⟨by rw [HI.out.len, Hl.out], by rw [List.drop_zero]; unfold specStep; rw [if_neg hr0]⟩
          clear hr0
          go_wp2_with (at_builtin; refine wpList_copy (w0 := wr) (base := wr.heap.size) rfl _ _ 80 rfl Try.underlying80 infoInt rfl (by decide) (by decide) rfl (World.ownsRow_lit wr #[] 0 (Nat.le_refl _) (by simp [maxLen]) rfl) inferInstance (Nat.le_refl _) (by simp) rfl (HI2.out.later inferInstance) (by omega) ?_; intro A4 c4 fp4 w4 ho hnd hlo hX4; have X4 := Later.trans (w := wb) inferInstance hX4; obtain ⟨g2, o2, rfl, hg2, hR2⟩ := RowAt.of_osl ho (by omega); have hc4 := ho.cap; have hm4 := ho.max; have hlo2 := hlo _ hg2; clear ho hnd hlo hg2)
          have hne : Hid (g ≠ g2) := by show _ ≠ _; omega
          haveI hN2 : New wb g2 := ⟨by have := hX.size; omega⟩
          have hR1 := hR.later hX4
          have hng : ¬ g = g2 := hne.out
          have hng2 : ¬ g2 = g := fun e => hne.out e.symm
          go_loopw [16] (fun i wr => ∃ (k : Nat) (next : List Int), k ≤ sn2 ∧ i = .int .i64 k ∧ Hid (next.length = sn0 ∧ specAll t best (change) f at_ (t.Trips.drop k) next = specStep t change f at_ r best) ∧ RowAt wr g o best ∧ RowAt wr g2 o2 next ∧ Later wb wr) (fun i _ => sn2 - (intOf i).toNat)
          case atStart => exact ⟨0, best, by omega, rfl, HS0, hR1, hR2, inferInstance⟩
          case round =>
            obtain ⟨k, next, hk, rfl, HF, hRb, hRn, hX⟩ := hrel
            by_cases hlt : k < sn2
            · obtain ⟨b, o', x, hA, hx, _, _, _, _⟩ := Trips.at_ hT hlt
              have HF1 : Hid (specAll t best (change) f at_ (t.Trips.drop (k + 1)) (specGo best (change) f at_ (passT t x) false next) = specStep t change f at_ r best) := by rw [← HF.out.2, drop_at hx.out]; rfl
              have TI := Lib.hid (TF.out.trip k x hx.out).in_
              have HXI : Hid (tripI t (k : Int) = x) := tripI_of hx.out
              have TIK : Hid (TripIn t (tripI t (k : Int))) := by show TripIn t _; rw [HXI.out]; exact TI.out
              have HK : Hid (0 ≤ (k : Int) ∧ (k : Int) < t.Trips.length) := ⟨by omega, by have := Hl2.out; omega⟩
              have HNL : Hid (next.length = sn0) := HF.out.1
              have lf := Lib.hid (lineAtT_facts NF.out TI.out.line0 TI.out.line1)
              have HLI : Hid (lineI t (k : Int) = lineAtT t x.Line) := by show _ = _; unfold lineI; rw [HXI.out]
              clear HF hx
              subst hA
              go_wp2_with (go_at_call 63; refine (spec_l5Stops H.out (hwb0.trans inferInstance) _ HK.out.1 HK.out.2 TIK.out).mono ?_; rintro e w6 ⟨A0, n0, c0, rfl, hy, L6⟩; have X6 := Later.trans (w := wb) inferInstance L6; have Y6 := Later.trans (w := wr) inferInstance L6; have HY := Lib.hid hy; clear hy)
              have hS := HY.out.later hwb0
              rw [HLI.out] at hS
              have HS1 := Lib.hid hS.len
              have hn0 : n0 ≤ 6 := by rw [hS.len]; have := lf.out.stops; omega
              have hRb6 := hRb.later Y6
              have hRn6 := hRn.later Y6
              clear hRb hRn
              go_loopw [17, 19] (fun on i wr => ∃ (m : Nat) (b : Bool) (next' : List Int), m ≤ n0 ∧ i = .int .i64 m ∧ on = .bool b ∧ Hid (next'.length = sn0 ∧ specGo best (change) f at_ ((passT t x).drop m) b next' = specGo best (change) f at_ (passT t x) false next) ∧ RowAt wr g o best ∧ RowAt wr g2 o2 next' ∧ Later wb wr) (fun _ i _ => n0 - (intOf i).toNat)
              case atStart => exact ⟨0, false, next, by omega, rfl, rfl, ⟨HNL.out, by rw [List.drop_zero]⟩, hRb6, hRn6, inferInstance⟩
              case round =>
                obtain ⟨m, on, next', hm, rfl, rfl, HG, hRb, hRn, hX⟩ := hrel
                by_cases hlm : m < n0
                · obtain ⟨b1, o1, s, rfl, hs, hcs, _⟩ := Ints.at_ hS hlm
                  have hsb := lf.out.mem m s hs.out
                  obtain ⟨q, rfl⟩ := Int.eq_ofNat_of_zero_le hsb.1
                  have hqr : q < sn0 := by have := Hl.out; omega
                  obtain ⟨τ, hτ⟩ : ∃ τ, τ = timeAt t x m := ⟨_, rfl⟩
                  have HTI : Hid (timeI t (k : Int) (m : Int) = τ) := by show _ = _; rw [hτ]; unfold timeI; rw [HXI.out]; rfl
                  have HMR : Hid (0 ≤ (m : Int) ∧ (m : Int) ≤ (lineI t (k : Int)).Runs.length) := ⟨by omega, by rw [HLI.out]; have := lf.out.runs; have := HS1.out; omega⟩
                  obtain ⟨bv, hbv⟩ : ∃ v, best[q]? = some v := ⟨_, List.getElem?_eq_getElem (by have := HI.out.len; have := Hl.out; omega)⟩
                  obtain ⟨nv, hnv⟩ : ∃ v, next'[q]? = some v := ⟨_, List.getElem?_eq_getElem (by have := HG.out.1; omega)⟩
                  have hbb := HBD.out bv (List.mem_of_getElem? hbv)
                  have hb0 := hbb.1
                  have hb1 := hbb.2
                  have hcb := hRb.cells hbv
                  have hcb2 := hRb.cellFar (b := g2) (i := o2 + q) hne.out hbv
                  have hcn := hRn.cells hnv
                  have hfn := hRn.frozens q
                  have hql : q < next'.length := by have := HG.out.1; omega
                  have HQL := Lib.hid hql
                  have HG1 : Hid (next'.length = sn0 ∧ specGo best (change) f at_ ((passT t x).drop (m + 1)) (on || (decide (0 ≤ bv) && decide ((if (q : Int) = f then at_ else bv + (change)) ≤ τ))) (if on = true ∧ (nv < 0 ∨ τ < nv) then next'.set q τ else next') = specGo best (change) f at_ (passT t x) false next) := by
                    refine ⟨HG.out.1, ?_⟩
                    have h9 := HG.out.2
                    rw [drop_at (passT_at hs.out), ← hτ, specGo_at (gi_at hbv) (gi_at hnv)] at h9
                    exact h9
                  clear HG hs hsb hbv hnv hbb hql hτ
                  cases on with
                  | true =>
                    by_cases hqf : q = f
                    · subst hqf
                      by_cases hn1 : nv < 0
                      · have HZ : Hid (specGo best (change) q at_ ((passT t x).drop (m + 1)) (true) (next'.set q τ) = specGo best (change) q at_ (passT t x) false next) := by show _ = _; have h9 := HG1.out.2; rw [if_pos (show true = true ∧ (nv < 0 ∨ τ < nv) from ⟨rfl, .inl hn1⟩)] at h9; simpa using h9
                        have HZL : Hid ((next'.set q τ).length = sn0) := by show _ = _; (try rw [List.length_set]); exact HG1.out.1
                        clear HG1
                        go_wp2_with fail
                        go_region_held3 (fun w' => Later wb w' ∧ Later wr w') (exact ⟨inferInstance, inferInstance⟩) ((go_at_call 65; refine (spec_l5At H.out (hwb0.trans inferInstance) NF.out _ HK.out.1 HK.out.2 TIK.out _ HMR.out.1 HMR.out.2).mono ?_; rw [HTI.out]; rintro e w5 ⟨rfl, L5⟩; have X5 := Later.trans (w := wb) inferInstance L5; have Y5 := Later.trans (w := wr) inferInstance L5))
                        go_wp2_with fail
                        go_roundw
                        case rel => exact ⟨m + 1, true, next'.set q τ, by omega, by go_num, rfl, Lib.hid ⟨HZL.out, HZ.out⟩, by exact (hRb.later inferInstance).far hne.out _, by exact (hRn.later inferInstance).set_ HQL.out τ, inferInstance⟩
                        case measure => simp [intOf]; omega
                      · by_cases hn2 : τ < nv
                        · have HZ : Hid (specGo best (change) q at_ ((passT t x).drop (m + 1)) (true) (next'.set q τ) = specGo best (change) q at_ (passT t x) false next) := by show _ = _; have h9 := HG1.out.2; rw [if_pos (show true = true ∧ (nv < 0 ∨ τ < nv) from ⟨rfl, .inr hn2⟩)] at h9; simpa using h9
                          have HZL : Hid ((next'.set q τ).length = sn0) := by show _ = _; (try rw [List.length_set]); exact HG1.out.1
                          clear HG1
                          go_wp2_with fail
                          go_region_held3 (fun w' => Later wb w' ∧ Later wr w') (exact ⟨inferInstance, inferInstance⟩) ((go_at_call 65; refine (spec_l5At H.out (hwb0.trans inferInstance) NF.out _ HK.out.1 HK.out.2 TIK.out _ HMR.out.1 HMR.out.2).mono ?_; rw [HTI.out]; rintro e w5 ⟨rfl, L5⟩; have X5 := Later.trans (w := wb) inferInstance L5; have Y5 := Later.trans (w := wr) inferInstance L5))
                          go_wp2_with fail
                          go_roundw
                          case rel => exact ⟨m + 1, true, next'.set q τ, by omega, by go_num, rfl, Lib.hid ⟨HZL.out, HZ.out⟩, by exact (hRb.later inferInstance).far hne.out _, by exact (hRn.later inferInstance).set_ HQL.out τ, inferInstance⟩
                          case measure => simp [intOf]; omega
                        · have HZ : Hid (specGo best (change) q at_ ((passT t x).drop (m + 1)) (true) (next') = specGo best (change) q at_ (passT t x) false next) := by show _ = _; have h9 := HG1.out.2; rw [if_neg (show ¬ (true = true ∧ (nv < 0 ∨ τ < nv)) from fun e => e.2.elim hn1 hn2)] at h9; simpa using h9
                          have HZL : Hid ((next').length = sn0) := by show _ = _; (try rw [List.length_set]); exact HG1.out.1
                          clear HG1
                          go_wp2_with fail
                          go_region_held3 (fun w' => Later wb w' ∧ Later wr w') (exact ⟨inferInstance, inferInstance⟩) ((go_at_call 65; refine (spec_l5At H.out (hwb0.trans inferInstance) NF.out _ HK.out.1 HK.out.2 TIK.out _ HMR.out.1 HMR.out.2).mono ?_; rw [HTI.out]; rintro e w5 ⟨rfl, L5⟩; have X5 := Later.trans (w := wb) inferInstance L5; have Y5 := Later.trans (w := wr) inferInstance L5))
                          go_wp2_with fail
                          go_roundw
                          case rel => exact ⟨m + 1, true, next', by omega, by go_num, rfl, Lib.hid ⟨HZL.out, HZ.out⟩, by exact hRb.later inferInstance, by exact hRn.later inferInstance, inferInstance⟩
                          case measure => simp [intOf]; omega
                    · have e1 : ¬ ((q : Int) = f) := by omega
                      have e2 := (beqi_f e1).1
                      by_cases hn1 : nv < 0
                      · have HZ : Hid (specGo best (change) f at_ ((passT t x).drop (m + 1)) (true) (next'.set q τ) = specGo best (change) f at_ (passT t x) false next) := by show _ = _; have h9 := HG1.out.2; rw [if_pos (show true = true ∧ (nv < 0 ∨ τ < nv) from ⟨rfl, .inl hn1⟩)] at h9; simpa using h9
                        have HZL : Hid ((next'.set q τ).length = sn0) := by show _ = _; (try rw [List.length_set]); exact HG1.out.1
                        clear HG1
                        go_wp2_with fail
                        go_region_held3 (fun w' => Later wb w' ∧ Later wr w') (exact ⟨inferInstance, inferInstance⟩) ((go_at_call 65; refine (spec_l5At H.out (hwb0.trans inferInstance) NF.out _ HK.out.1 HK.out.2 TIK.out _ HMR.out.1 HMR.out.2).mono ?_; rw [HTI.out]; rintro e w5 ⟨rfl, L5⟩; have X5 := Later.trans (w := wb) inferInstance L5; have Y5 := Later.trans (w := wr) inferInstance L5))
                        go_wp2_with fail
                        go_roundw
                        case rel => exact ⟨m + 1, true, next'.set q τ, by omega, by go_num, rfl, Lib.hid ⟨HZL.out, HZ.out⟩, by exact (hRb.later inferInstance).far hne.out _, by exact (hRn.later inferInstance).set_ HQL.out τ, inferInstance⟩
                        case measure => simp [intOf]; omega
                      · by_cases hn2 : τ < nv
                        · have HZ : Hid (specGo best (change) f at_ ((passT t x).drop (m + 1)) (true) (next'.set q τ) = specGo best (change) f at_ (passT t x) false next) := by show _ = _; have h9 := HG1.out.2; rw [if_pos (show true = true ∧ (nv < 0 ∨ τ < nv) from ⟨rfl, .inr hn2⟩)] at h9; simpa using h9
                          have HZL : Hid ((next'.set q τ).length = sn0) := by show _ = _; (try rw [List.length_set]); exact HG1.out.1
                          clear HG1
                          go_wp2_with fail
                          go_region_held3 (fun w' => Later wb w' ∧ Later wr w') (exact ⟨inferInstance, inferInstance⟩) ((go_at_call 65; refine (spec_l5At H.out (hwb0.trans inferInstance) NF.out _ HK.out.1 HK.out.2 TIK.out _ HMR.out.1 HMR.out.2).mono ?_; rw [HTI.out]; rintro e w5 ⟨rfl, L5⟩; have X5 := Later.trans (w := wb) inferInstance L5; have Y5 := Later.trans (w := wr) inferInstance L5))
                          go_wp2_with fail
                          go_roundw
                          case rel => exact ⟨m + 1, true, next'.set q τ, by omega, by go_num, rfl, Lib.hid ⟨HZL.out, HZ.out⟩, by exact (hRb.later inferInstance).far hne.out _, by exact (hRn.later inferInstance).set_ HQL.out τ, inferInstance⟩
                          case measure => simp [intOf]; omega
                        · have HZ : Hid (specGo best (change) f at_ ((passT t x).drop (m + 1)) (true) (next') = specGo best (change) f at_ (passT t x) false next) := by show _ = _; have h9 := HG1.out.2; rw [if_neg (show ¬ (true = true ∧ (nv < 0 ∨ τ < nv)) from fun e => e.2.elim hn1 hn2)] at h9; simpa using h9
                          have HZL : Hid ((next').length = sn0) := by show _ = _; (try rw [List.length_set]); exact HG1.out.1
                          clear HG1
                          go_wp2_with fail
                          go_region_held3 (fun w' => Later wb w' ∧ Later wr w') (exact ⟨inferInstance, inferInstance⟩) ((go_at_call 65; refine (spec_l5At H.out (hwb0.trans inferInstance) NF.out _ HK.out.1 HK.out.2 TIK.out _ HMR.out.1 HMR.out.2).mono ?_; rw [HTI.out]; rintro e w5 ⟨rfl, L5⟩; have X5 := Later.trans (w := wb) inferInstance L5; have Y5 := Later.trans (w := wr) inferInstance L5))
                          go_wp2_with fail
                          go_roundw
                          case rel => exact ⟨m + 1, true, next', by omega, by go_num, rfl, Lib.hid ⟨HZL.out, HZ.out⟩, by exact hRb.later inferInstance, by exact hRn.later inferInstance, inferInstance⟩
                          case measure => simp [intOf]; omega
                  | false =>
                    by_cases hqf : q = f
                    · subst hqf
                      by_cases hp : 0 ≤ bv
                      · have HZ : Hid (specGo best (change) q at_ ((passT t x).drop (m + 1)) (decide (at_ ≤ τ)) (next') = specGo best (change) q at_ (passT t x) false next) := by show _ = _; have h9 := HG1.out.2; rw [if_neg (show ¬ (false = true ∧ (nv < 0 ∨ τ < nv)) from fun e => Bool.false_ne_true e.1), decide_eq_true hp, if_pos (show (q : Int) = (q : Int) from rfl)] at h9; simpa using h9
                        have HZL : Hid ((next').length = sn0) := by show _ = _; (try rw [List.length_set]); exact HG1.out.1
                        clear HG1
                        go_wp2_with fail
                        go_region_held3 (fun w' => Later wb w' ∧ Later wr w') (exact ⟨inferInstance, inferInstance⟩) ((go_at_call 65; refine (spec_l5At H.out (hwb0.trans inferInstance) NF.out _ HK.out.1 HK.out.2 TIK.out _ HMR.out.1 HMR.out.2).mono ?_; rw [HTI.out]; rintro e w5 ⟨rfl, L5⟩; have X5 := Later.trans (w := wb) inferInstance L5; have Y5 := Later.trans (w := wr) inferInstance L5))
                        go_wp2_with fail
                        go_roundw
                        case rel => exact ⟨m + 1, decide (at_ ≤ τ), next', by omega, by go_num, rfl, Lib.hid ⟨HZL.out, HZ.out⟩, by exact hRb.later inferInstance, by exact hRn.later inferInstance, inferInstance⟩
                        case measure => simp [intOf]; omega
                      · have HZ : Hid (specGo best (change) q at_ ((passT t x).drop (m + 1)) (false) (next') = specGo best (change) q at_ (passT t x) false next) := by show _ = _; have h9 := HG1.out.2; rw [if_neg (show ¬ (false = true ∧ (nv < 0 ∨ τ < nv)) from fun e => Bool.false_ne_true e.1), decide_eq_false hp] at h9; simpa using h9
                        have HZL : Hid ((next').length = sn0) := by show _ = _; (try rw [List.length_set]); exact HG1.out.1
                        clear HG1
                        go_wp2_with fail
                        go_region_held3 (fun w' => Later wb w' ∧ Later wr w') (exact ⟨inferInstance, inferInstance⟩) ((go_at_call 65; refine (spec_l5At H.out (hwb0.trans inferInstance) NF.out _ HK.out.1 HK.out.2 TIK.out _ HMR.out.1 HMR.out.2).mono ?_; rw [HTI.out]; rintro e w5 ⟨rfl, L5⟩; have X5 := Later.trans (w := wb) inferInstance L5; have Y5 := Later.trans (w := wr) inferInstance L5))
                        go_wp2_with fail
                        go_roundw
                        case rel => exact ⟨m + 1, false, next', by omega, by go_num, rfl, Lib.hid ⟨HZL.out, HZ.out⟩, by exact hRb.later inferInstance, by exact hRn.later inferInstance, inferInstance⟩
                        case measure => simp [intOf]; omega
                    · have e1 : ¬ ((q : Int) = f) := by omega
                      have e2 := (beqi_f e1).1
                      by_cases hp : 0 ≤ bv
                      · have HZ : Hid (specGo best (change) f at_ ((passT t x).drop (m + 1)) (decide (bv + change ≤ τ)) (next') = specGo best (change) f at_ (passT t x) false next) := by show _ = _; have h9 := HG1.out.2; rw [if_neg (show ¬ (false = true ∧ (nv < 0 ∨ τ < nv)) from fun e => Bool.false_ne_true e.1), decide_eq_true hp, if_neg e1] at h9; simpa using h9
                        have HZL : Hid ((next').length = sn0) := by show _ = _; (try rw [List.length_set]); exact HG1.out.1
                        clear HG1
                        go_wp2_with fail
                        go_region_held3 (fun w' => Later wb w' ∧ Later wr w') (exact ⟨inferInstance, inferInstance⟩) ((go_at_call 65; refine (spec_l5At H.out (hwb0.trans inferInstance) NF.out _ HK.out.1 HK.out.2 TIK.out _ HMR.out.1 HMR.out.2).mono ?_; rw [HTI.out]; rintro e w5 ⟨rfl, L5⟩; have X5 := Later.trans (w := wb) inferInstance L5; have Y5 := Later.trans (w := wr) inferInstance L5))
                        go_wp2_with fail
                        go_roundw
                        case rel => exact ⟨m + 1, decide (bv + change ≤ τ), next', by omega, by go_num, rfl, Lib.hid ⟨HZL.out, HZ.out⟩, by exact hRb.later inferInstance, by exact hRn.later inferInstance, inferInstance⟩
                        case measure => simp [intOf]; omega
                      · have HZ : Hid (specGo best (change) f at_ ((passT t x).drop (m + 1)) (false) (next') = specGo best (change) f at_ (passT t x) false next) := by show _ = _; have h9 := HG1.out.2; rw [if_neg (show ¬ (false = true ∧ (nv < 0 ∨ τ < nv)) from fun e => Bool.false_ne_true e.1), decide_eq_false hp] at h9; simpa using h9
                        have HZL : Hid ((next').length = sn0) := by show _ = _; (try rw [List.length_set]); exact HG1.out.1
                        clear HG1
                        go_wp2_with fail
                        go_region_held3 (fun w' => Later wb w' ∧ Later wr w') (exact ⟨inferInstance, inferInstance⟩) ((go_at_call 65; refine (spec_l5At H.out (hwb0.trans inferInstance) NF.out _ HK.out.1 HK.out.2 TIK.out _ HMR.out.1 HMR.out.2).mono ?_; rw [HTI.out]; rintro e w5 ⟨rfl, L5⟩; have X5 := Later.trans (w := wb) inferInstance L5; have Y5 := Later.trans (w := wr) inferInstance L5))
                        go_wp2_with fail
                        go_roundw
                        case rel => exact ⟨m + 1, false, next', by omega, by go_num, rfl, Lib.hid ⟨HZL.out, HZ.out⟩, by exact hRb.later inferInstance, by exact hRn.later inferInstance, inferInstance⟩
                        case measure => simp [intOf]; omega
                · have HG1 : Hid (next' = specGo best (change) f at_ (passT t x) false next) := by
                    have h9 := HG.out.2
                    rw [List.drop_eq_nil_of_le (by rw [passT_len]; have := HS1.out; omega)] at h9
                    exact h9
                  have HL := Lib.hid HG.out.1
                  clear HG
                  go_wp2
                  go_roundw
                  case rel => exact ⟨k + 1, next', by omega, by go_num, ⟨HL.out, by rw [HG1.out]; exact HF1.out⟩, hRb, hRn, inferInstance⟩
                  case measure => simp [intOf]; omega
            · have HE : Hid (next = specStep t change f at_ r best) := by
                have h9 := HF.out.2
                rw [List.drop_eq_nil_of_le (by have := Hl2.out; omega)] at h9
                exact h9
              clear HF
              go_wp2
              go_roundw
              case rel => exact ⟨r + 1, g2, o2, c4, next, by omega, by go_num, rfl, by omega, hc4, hm4, by rw [HE.out]; exact HN.out, hRn, inferInstance⟩
              case measure => simp [intOf]; omega
      · have HE : Hid (best = arrS t change f at_ legs) := by
          have h9 := HF.out.2
          rw [show legs - r = 0 by omega] at h9
          exact h9
        have HLN : Hid (best.length = t.Network.Stops.length) := HF.out.1.len
        clear HF
        go_wp2
        go_ret
        rw [← HE.out]
        exact ⟨g, o, c, rfl, Lib.hid ⟨by rw [HLN.out]; exact Hl.out, hcc, hcm⟩, hR, by have := hww.size; omega, hww.trans inferInstance⟩
end Go.Proofs.Yteijofkkggifhaa
