/-
  CatchTrips, in the reference.
-/
import Derived.Test.YtaopadffabbjiaaCatI
import Derived.Test.YtaopadffabbjiaaWalkS
import Derived.Test.YtaopadffabbjiaaWalkV
import Derived.Test.YtaopadffabbjiaaTimeD
import Derived.Test.YtaopadffabbjiaaOwnK
namespace Go.Proofs.Ytaopadffabbjiaa
open Go Go.RowKit
set_option linter.unusedVariables false
set_option maxRecDepth 100000
set_option linter.unusedSimpArgs false
theorem Sl.backZ {α : Type} {sz : Nat} {r : Rep α} {w : World} {b o : Nat} {n c : Nat} {l : List α} (h : Sl sz r w (some ⟨b, o, none⟩) n c l) {k : Nat} (hk : k ≤ n) : Sl sz r w (some ⟨b, o + k * sz, none⟩) (n - k) (c - k) (l.drop k) := by
  refine ⟨by rw [List.length_drop, ← h.len], Nat.sub_le_sub_right h.cap k, Nat.le_trans (Nat.sub_le _ _) h.max, fun j x hx => ?_⟩
  rw [List.getElem?_drop] at hx
  obtain ⟨b', o', es, hA, hl, hc, hr⟩ := h.el (k + j) x hx
  cases hA
  refine ⟨b, o + k * sz, es, rfl, hl, fun i v hv => ?_, hr⟩
  have := hc i v hv
  rw [show o + k * sz + j * sz + i = o + (k + j) * sz + i by rw [Nat.add_mul]; omega]
  exact this
theorem Sl.backNil {α : Type} {sz : Nat} {r : Rep α} {w : World} {A : Option Addr} {n c : Nat} {l : List α} (h : n = 0) (hl : l = []) (hc : n ≤ c) (hm : c ≤ 9223372036854775807) : Sl sz r w A n c l := by
  subst hl; subst h
  exact ⟨rfl, hc, hm, fun j x hx => by simp at hx⟩
theorem RowC.sl {w : World} {g n c : Nat} {l : List Connection} (h : RowC w g l) (hn : n = l.length) (hc : n ≤ c) (hm : c ≤ 9223372036854775807) (hok : ∀ x, x ∈ l → ConnectionOk x) : Sl 4 rConnection w (some ⟨g, 0, none⟩) n c l :=
  (h.osl hn hc hm hok).reads
theorem own_litC {W : World} {base g sz : Nat} {t : TypeId} (h : W.heap[g]? = some (.cells #[] t (0, 0))) (hb : base ≤ g) : W.ownsRow base t sz (.slice (some ⟨g, 0, none⟩) 0 0) 0 [] :=
  ⟨by simp, .inr ⟨g, 0, #[], rfl, hb, h, Nat.le_refl _, by unfold maxLen; omega, by simp, by simp⟩⟩
theorem conn_lit {W : World} {g : Nat} {t : TypeId} {x : Connection} (h : Blk W g t #[.int .i64 x.Id, .int .i64 x.Stop, .int .i64 x.Place, .int .i64 x.Time]) (hok : ConnectionOk x) : Sl 4 rConnection W (some ⟨g, 0, none⟩) 1 1 [x] :=
  RowC.sl ⟨t, _, h, fun k y hy => by
    match k, hy with
    | 0, hy => simp at hy; subst hy; exact ⟨rfl, rfl, rfl, rfl⟩⟩ rfl (Nat.le_refl _) (by omega) (fun y hy => by simp at hy; subst hy; exact hok)
theorem insC_flat {L : List Connection} {x : Connection} {j : Nat} (h : posC L x L.length = j) : (insC L x).flatMap encCn = [] ++ (L.take j).flatMap encCn ++ [x].flatMap encCn ++ (L.drop j).flatMap encCn := by
  unfold insC; rw [h]; simp [List.append_assoc]
theorem sortC_add {D : List Connection} {x : Connection} : sortC (D ++ [x]) = insC (sortC D) x := by
  unfold sortC; rw [List.foldl_append]; rfl
theorem Blk.fourC {w : World} {g : Nat} {t : TypeId} {a b c d : Value} (h : Blk w g t #[a, b, c, d]) : (∀ W [Later w W], W.cell? ⟨g, 0, none⟩ = some a) ∧ (∀ W [Later w W], W.cell? ⟨g, 1, none⟩ = some b) ∧ (∀ W [Later w W], W.cell? ⟨g, 2, none⟩ = some c) ∧ (∀ W [Later w W], W.cell? ⟨g, 3, none⟩ = some d) :=
  ⟨fun W hW => (h.later hW).cell 0, fun W hW => (h.later hW).cell 1, fun W hW => (h.later hW).cell 2, fun W hW => (h.later hW).cell 3⟩
theorem Blk.putC4 {w : World} {g : Nat} {t : TypeId} {a b c d a' b' c' d' : Value} (h : Blk w g t #[a, b, c, d]) : Blk ((((w.setCell ⟨g, 0, none⟩ a').setCell ⟨g, 1, none⟩ b').setCell ⟨g, 2, none⟩ c').setCell ⟨g, 3, none⟩ d') g t #[a', b', c', d'] :=
  (((h.set_ 0 a').set_ 1 b').set_ 2 c').set_ 3 d'
theorem ways4 {G : Prop} {wb : World} (P : World → Nat → Prop) (R : World → Nat → Prop) (main : (∀ W g, Later wb W → P W g → R W g) → G) (key : ∀ W g, Later wb W → P W g → R W g) : G := main key
set_option maxHeartbeats 8000000 in
theorem spec_CatchTrips {w0 w : World} {sA0 : Option Addr} {sn0 sc0 : Nat} {sA1 : Option Addr} {sn1 sc1 : Nat} {sA2 : Option Addr} {sn2 sc2 : Nat} {t : Timetable} (h : TimetableAt w0 sA0 sn0 sc0 sA1 sn1 sc1 sA2 sn2 sc2 t) (hl : Later w0 w) {w2 : World} {lA : Option Addr} {ln lc : Nat} {l : List Walk} (h2 : Walks w2 lA ln lc l) (hl2 : Later w2 w) (stop time : Int) : Calls Try.prog 20 #[.agg #[.slice sA0 sn0 sc0, .slice sA1 sn1 sc1, .slice sA2 sn2 sc2], .slice lA ln lc, .int .i64 stop, .int .i64 time] w (RetO2 4 oConnection (catRes t l stop time).1 (catRes t l stop time).2 w) := by
  replace h2 := h2.later hl2
  have hS0 := h.l_Network_Stops
  have Hl := Lib.hid hS0.len
  have hsn := hS0.le
  have hT0 := h.l_Trips.later hl
  have HT2 := Lib.hid hT0.len
  have hT2 := hT0.le
  clear hS0
  have HB0 : ∀ W [Later (w.alloc (.cells #[.slice sA0 sn0 sc0, .slice sA1 sn1 sc1, .slice sA2 sn2 sc2] 41)) W] (j : Nat), W.cell? ⟨w.heap.size, j, none⟩ = #[.slice sA0 sn0 sc0, .slice sA1 sn1 sc1, .slice sA2 sn2 sc2][j]? := Later.boxes (t := 41) (fr := (0, 0)) (heap_new (by simp; try omega)); obtain ⟨wb, hwb⟩ : ∃ wb : World, wb = (w.alloc (.cells #[.slice sA0 sn0 sc0, .slice sA1 sn1 sc1, .slice sA2 sn2 sc2] 41)) := ⟨_, rfl⟩; haveI hbW : Later wb (w.alloc (.cells #[.slice sA0 sn0 sc0, .slice sA1 sn1 sc1, .slice sA2 sn2 sc2] 41)) := (by rw [hwb]; exact Later.rfl_); haveI hww : Later w wb := (by rw [hwb]; infer_instance); rw [← hwb] at HB0; have hbE := Lib.hid (congrArg (fun x : World => x.heap.size) hwb); clear hwb
  have hwb0 := hl.trans hww
  have H := Lib.hid h
  clear h
  have hsz : w.heap.size ≤ wb.heap.size := hww.size
  have HTS := Lib.hid (hT0.later hww)
  have HL2 := Lib.hid (h2.later hww)
  clear h2 hT0
  have hws : IntKind.i64.wrap ((sn0 : Int) - 1) = (sn0 : Int) - 1 := by rw [IntKind.wrap_i64]; omega
  go_enter Try.func20, Try.ntmps20
  go_wp2_with fail
  have hbW0 := Later.size (w := wb) (W := (w.alloc (.cells #[.slice sA0 sn0 sc0, .slice sA1 sn1 sc1, .slice sA2 sn2 sc2] 41))) inferInstance
  have hsW0 : ((w.alloc (.cells #[.slice sA0 sn0 sc0, .slice sA1 sn1 sc1, .slice sA2 sn2 sc2] 41))).heap.size = w.heap.size + 1 := by simp
  rw [hsW0] at hbW0
  obtain ⟨w1, hw1⟩ : ∃ W : World, W = ((w.alloc (.cells #[.slice sA0 sn0 sc0, .slice sA1 sn1 sc1, .slice sA2 sn2 sc2] 41))).alloc (.cells #[] 101) := ⟨_, rfl⟩
  rw [← hw1]
  have hbe : Blk w1 (w.heap.size + 1) 101 #[] := by
    have h9 := Blk.new ((w.alloc (.cells #[.slice sA0 sn0 sc0, .slice sA1 sn1 sc1, .slice sA2 sn2 sc2] 41))) 101 #[]
    rw [hsW0] at h9
    rw [hw1]; exact h9
  haveI hb1 : Later wb w1 := by rw [hw1]; infer_instance
  obtain ⟨ge, hg1⟩ : ∃ g : Nat, g = w.heap.size + 1 := ⟨_, rfl⟩
  rw [← hg1] at hbe hbW0 ⊢
  have HE1 : Hid (RowC w1 ge []) := ⟨_, _, hbe, fun k x hx => by simp at hx⟩
  clear hw1 hg1 hbe hsW0
  by_cases b1 : okTimetable t = true
  rotate_left
  · have g1 : okTimetable t = false := by simpa using b1
    have HR := Lib.hid (show catRes t l stop time = ([], false) from if_neg (fun e => b1 e.1))
    go_wp2_with first
      | (go_at_call 53; refine (spec_l5Good H.out (hwb0.trans inferInstance)).mono ?_; rintro e w3 ⟨rfl, L3⟩; have X3 := Later.trans (w := wb) inferInstance L3; have K3 := Later.trans (w := w1) inferInstance L3)
      | (go_at_call 54; refine (spec_l7Good (r := t.Network) ⟨H.out.l_Network_Stops, H.out.l_Network_Lines⟩ (hwb0.trans inferInstance) HL2.out inferInstance).mono ?_; rintro e w2 ⟨rfl, L2⟩; have X2 := Later.trans (w := wb) inferInstance L2; have K2 := Later.trans (w := w1) inferInstance L2)
      | (go_at_call 55; refine (spec_l1In _ _ _ _).mono ?_; rintro e w4 ⟨rfl, rfl⟩)
      | (go_at_call 56; refine (spec_l4Time _ _).mono ?_; rintro e w5 ⟨rfl, rfl⟩)
    go_ret2
    exact ⟨some ⟨ge, 0, none⟩, 0, 0, [ge], by rw [HR.out]; rfl, by rw [HR.out]; exact (HE1.out.later inferInstance).osl rfl (Nat.le_refl _) (by omega) (by simp), by simp, fun g hg => by simp at hg; omega, hww.trans inferInstance⟩
  have HNK : Hid (okNetwork t.Network = true) := by
    have h9 := b1
    simp only [okTimetable, Bool.and_eq_true] at h9
    exact h9.1.1
  have HWN : Hid (okWalksN t.Network l = okWalks t.Network.Stops.length l) := by show _ = _; unfold okWalksN; rw [HNK.out]; rfl
  by_cases b2 : okWalks t.Network.Stops.length l = true
  rotate_left
  · have g2 : okWalksN t.Network l = false := by rw [HWN.out]; simpa using b2
    have b2h := Lib.hid b2
    clear b2
    have HR := Lib.hid (show catRes t l stop time = ([], false) from if_neg (fun e => b2h.out e.2.1))
    go_wp2_with first
      | (go_at_call 53; refine (spec_l5Good H.out (hwb0.trans inferInstance)).mono ?_; rintro e w3 ⟨rfl, L3⟩; have X3 := Later.trans (w := wb) inferInstance L3; have K3 := Later.trans (w := w1) inferInstance L3)
      | (go_at_call 54; refine (spec_l7Good (r := t.Network) ⟨H.out.l_Network_Stops, H.out.l_Network_Lines⟩ (hwb0.trans inferInstance) HL2.out inferInstance).mono ?_; rintro e w2 ⟨rfl, L2⟩; have X2 := Later.trans (w := wb) inferInstance L2; have K2 := Later.trans (w := w1) inferInstance L2)
      | (go_at_call 55; refine (spec_l1In _ _ _ _).mono ?_; rintro e w4 ⟨rfl, rfl⟩)
      | (go_at_call 56; refine (spec_l4Time _ _).mono ?_; rintro e w5 ⟨rfl, rfl⟩)
    go_ret2
    exact ⟨some ⟨ge, 0, none⟩, 0, 0, [ge], by rw [HR.out]; rfl, by rw [HR.out]; exact (HE1.out.later inferInstance).osl rfl (Nat.le_refl _) (by omega) (by simp), by simp, fun g hg => by simp at hg; omega, hww.trans inferInstance⟩
  have g2 : okWalksN t.Network l = true := by rw [HWN.out]; exact b2
  by_cases b3 : inB stop 0 ((sn0 : Int) - 1) = true
  rotate_left
  · have g3 : inB stop 0 ((sn0 : Int) - 1) = false := by simpa using b3
    have b3h := Lib.hid b3
    clear b3
    have HR := Lib.hid (show catRes t l stop time = ([], false) from if_neg (fun e => b3h.out (by rw [Hl.out]; exact e.2.2.1)))
    go_wp2_with first
      | (go_at_call 53; refine (spec_l5Good H.out (hwb0.trans inferInstance)).mono ?_; rintro e w3 ⟨rfl, L3⟩; have X3 := Later.trans (w := wb) inferInstance L3; have K3 := Later.trans (w := w1) inferInstance L3)
      | (go_at_call 54; refine (spec_l7Good (r := t.Network) ⟨H.out.l_Network_Stops, H.out.l_Network_Lines⟩ (hwb0.trans inferInstance) HL2.out inferInstance).mono ?_; rintro e w2 ⟨rfl, L2⟩; have X2 := Later.trans (w := wb) inferInstance L2; have K2 := Later.trans (w := w1) inferInstance L2)
      | (go_at_call 55; refine (spec_l1In _ _ _ _).mono ?_; rintro e w4 ⟨rfl, rfl⟩)
      | (go_at_call 56; refine (spec_l4Time _ _).mono ?_; rintro e w5 ⟨rfl, rfl⟩)
    go_ret2
    exact ⟨some ⟨ge, 0, none⟩, 0, 0, [ge], by rw [HR.out]; rfl, by rw [HR.out]; exact (HE1.out.later inferInstance).osl rfl (Nat.le_refl _) (by omega) (by simp), by simp, fun g hg => by simp at hg; omega, hww.trans inferInstance⟩
  by_cases b4 : okTime time = true
  rotate_left
  · have g4 : okTime time = false := by simpa using b4
    have b4h := Lib.hid b4
    clear b4
    have HR := Lib.hid (show catRes t l stop time = ([], false) from if_neg (fun e => b4h.out e.2.2.2))
    go_wp2_with first
      | (go_at_call 53; refine (spec_l5Good H.out (hwb0.trans inferInstance)).mono ?_; rintro e w3 ⟨rfl, L3⟩; have X3 := Later.trans (w := wb) inferInstance L3; have K3 := Later.trans (w := w1) inferInstance L3)
      | (go_at_call 54; refine (spec_l7Good (r := t.Network) ⟨H.out.l_Network_Stops, H.out.l_Network_Lines⟩ (hwb0.trans inferInstance) HL2.out inferInstance).mono ?_; rintro e w2 ⟨rfl, L2⟩; have X2 := Later.trans (w := wb) inferInstance L2; have K2 := Later.trans (w := w1) inferInstance L2)
      | (go_at_call 55; refine (spec_l1In _ _ _ _).mono ?_; rintro e w4 ⟨rfl, rfl⟩)
      | (go_at_call 56; refine (spec_l4Time _ _).mono ?_; rintro e w5 ⟨rfl, rfl⟩)
    go_ret2
    exact ⟨some ⟨ge, 0, none⟩, 0, 0, [ge], by rw [HR.out]; rfl, by rw [HR.out]; exact (HE1.out.later inferInstance).osl rfl (Nat.le_refl _) (by omega) (by simp), by simp, fun g hg => by simp at hg; omega, hww.trans inferInstance⟩
  have tf := timeFacts b1
  have TF := Lib.hid tf
  have WF := Lib.hid (walkFacts b2)
  have d3 := inB_t.1 b3
  have d4 := inB_t.1 (show inB time 0 1799 = true from b4)
  have hti0 := d4.1
  have hti1 := d4.2
  obtain ⟨q, rfl⟩ := Int.eq_ofNat_of_zero_le d3.1
  have hqs : q < sn0 := by omega
  have hn8 : sn0 ≤ 8 := by have := tf.net.stops; have := Hl.out; omega
  obtain ⟨row, hrow⟩ : ∃ row, (fwT sn0 l).getD q [] = row := ⟨_, rfl⟩
  have HR := Lib.hid (show catRes t l q time = (sortC (catL t row time), true) from by unfold catRes; rw [if_pos ⟨b1, b2, by rw [← Hl.out]; exact b3, b4⟩, Int.toNat_natCast, ← Hl.out, hrow])
  have HRW := Lib.hid hrow
  have h12 : sn2 ≤ 12 := by have := tf.len; have := HT2.out; omega
  clear d3 d4 tf hrow
  go_wp2_with first
    | (go_at_call 53; refine (spec_l5Good H.out (hwb0.trans inferInstance)).mono ?_; rintro e w3 ⟨rfl, L3⟩; have X3 := Later.trans (w := wb) inferInstance L3; have K3 := Later.trans (w := w1) inferInstance L3)
    | (go_at_call 54; refine (spec_l7Good (r := t.Network) ⟨H.out.l_Network_Stops, H.out.l_Network_Lines⟩ (hwb0.trans inferInstance) HL2.out inferInstance).mono ?_; rintro e w2 ⟨rfl, L2⟩; have X2 := Later.trans (w := wb) inferInstance L2; have K2 := Later.trans (w := w1) inferInstance L2)
    | (go_at_call 55; refine (spec_l1In _ _ _ _).mono ?_; rintro e w4 ⟨rfl, rfl⟩)
    | (go_at_call 56; refine (spec_l4Time _ _).mono ?_; rintro e w5 ⟨rfl, rfl⟩)
  clear b1 b2 g2 b3 b4 hws
  have HROW : Hid (row = (fwT t.Network.Stops.length l).getD q []) := by show _ = _; rw [← Hl.out]; exact HRW.out.symm
  go_wp2_with (go_at_call 57; refine (spec_l7Times HL2.out inferInstance sn0 q (by rw [Hl.out]; exact WF.out) hn8 hqs).mono ?_; rw [HRW.out]; rintro e w7 ⟨g7, o7, c7, rfl, hL7, hR7, hg7, L7⟩; have X7 := Later.trans (w := wb) inferInstance L7; have K7 := Later.trans (w := w1) inferInstance L7; have HR7 := Lib.hid hR7; clear hL7 hR7 hg7)
  go_loopw [10, 12] (fun ov iv wr => ∃ (k g nL c : Nat) (L : List Connection), k ≤ sn2 ∧ iv = .int .i64 k ∧ ov = .slice (some ⟨g, 0, none⟩) nL c ∧ nL ≤ k ∧ nL ≤ c ∧ c ≤ 9223372036854775807 ∧ Hid (sortC ((t.Trips.take k).filterMap (catOf t row time)) = L) ∧ Hid (nL = L.length) ∧ Hid (RowC wr g L) ∧ w.heap.size ≤ g ∧ Later wb wr ∧ Later w7 wr) (fun _ iv _ => sn2 - (intOf iv).toNat)
  case atStart => exact ⟨0, ge, 0, 0, [], by omega, rfl, rfl, by omega, by omega, by omega, rfl, rfl, Lib.hid (HE1.out.later inferInstance), by omega, inferInstance, inferInstance⟩
  case round =>
    obtain ⟨k, g, nL, c, L, hk, rfl, rfl, hnk, hnc, hcm, HSO, HNL, HRC, hgw, hX, hY⟩ := hrel
    by_cases hkn : k < sn2
    · obtain ⟨bt, ot, x, hA, hx', hc0, hc1, hc2, _⟩ := Trips.at_ HTS.out hkn
      have hx := hx'.out
      have HX := Lib.hid hx
      have HXI : Hid (tripI t (k : Int) = x) := tripI_of hx
      have TI := Lib.hid (TF.out.trip k x hx).in_
      have TIK : Hid (TripIn t (tripI t (k : Int))) := by show TripIn t _; rw [HXI.out]; exact TI.out
      have HKK : Hid (0 ≤ (k : Int) ∧ (k : Int) < t.Trips.length) := ⟨by omega, by have := HT2.out; omega⟩
      have HLI : Hid (lineI t (k : Int) = lineAtT t x.Line) := by show _ = _; unfold lineI; rw [HXI.out]
      have lf := Lib.hid (lineAtT_facts TF.out.net TI.out.line0 TI.out.line1)
      have HCS := Lib.hid (cat_step (row := row) (time := time) hx)
      have hki : (k : Int) < sn2 := by omega
      have HLOK : Hid (∀ y, y ∈ L → ConnectionOk y) := fun y hy => by
        rw [← HSO.out] at hy
        obtain ⟨z, hz, h9⟩ := List.mem_filterMap.1 (sortC_mem hy)
        obtain ⟨i, hi⟩ := List.getElem?_of_mem (List.mem_of_mem_take hz)
        exact catOf_ok TF.out hi h9
      subst hA
      clear hx hx'
      go_wp2_with (go_at_call 58; (with_reducible refine (spec_l5Stops H.out (hwb0.trans inferInstance) (k : Int) HKK.out.1 HKK.out.2 TIK.out).mono ?_); rw [HLI.out]; rintro e w8 ⟨A8, m0, c8, rfl, h8, L8⟩; have X8 := Later.trans (w := wb) inferInstance L8; have K8 := Later.trans (w := w7) inferInstance L8; have Y8 := Later.trans (w := wr) inferInstance L8; have HSB : Hid (Ints wb A8 m0 c8 (lineAtT t x.Line).Stops) := Lib.hid (h8.later hwb0); clear h8)
      obtain ⟨w5, rfl⟩ : ∃ w5 : World, w5 = wr := ⟨_, rfl⟩
      have hmb : m0 = (lineAtT t x.Line).Stops.length := HSB.out.len
      have hmb6 : 2 ≤ m0 ∧ m0 ≤ 6 := by have := lf.out.stops; omega
      obtain ⟨nq, hnq⟩ : ∃ nq, m0 = nq + 1 := ⟨m0 - 1, by omega⟩
      have HMB := Lib.hid hmb
      have HNQ := Lib.hid hnq
      have HCF : Hid ((List.range nq).findSome? (catAt t row time x) = catOf t row time x) := by show _ = _; unfold catOf; rw [← HMB.out, hnq]; rfl
      clear hmb hnq
      go_loopw [10, 14] (fun ov pv wr => ∃ p : Nat, p ≤ nq ∧ pv = .int .i64 p ∧ ov = .slice (some ⟨g, 0, none⟩) nL c ∧ Hid (((List.range nq).drop p).findSome? (catAt t row time x) = catOf t row time x) ∧ Later wb wr ∧ Later w7 wr ∧ Later w5 wr) (fun _ pv _ => nq - (intOf pv).toNat)
      case atStart => exact ⟨0, by omega, rfl, rfl, by show _ = _; rw [List.drop_zero]; exact HCF.out, inferInstance, inferInstance, inferInstance⟩
      case round =>
        obtain ⟨p, hp, rfl, rfl, HF, hX, hY, hZ⟩ := hrel
        have hwp1 : IntKind.i64.wrap ((p : Int) + 1) = (p : Int) + 1 := by rw [IntKind.wrap_i64]; have := HNQ.out; omega
        by_cases hpq : p < nq
        · obtain ⟨bb, ob, y, hA, hy, hcr, _⟩ := Ints.at_ HSB.out (k := p) (by have := HNQ.out; omega)
          obtain ⟨s, hs1, hs2, hs3, ht0, ht1⟩ := stop_time TF.out HX.out (p := p) (by rw [← HMB.out]; have := HNQ.out; omega)
          have hys : y = (s : Int) := Option.some.inj (hy.out.symm.trans hs1)
          rw [hys] at hcr
          have hpi : (p : Int) + 1 < m0 := by have := HNQ.out; omega
          have hpi2 : (p : Int) < m0 := by omega
          have hpm : p < m0 := by omega
          have HKP : Hid ((0 : Int) ≤ (p : Int) ∧ (p : Int) ≤ (lineI t (k : Int)).Runs.length) := ⟨by omega, by have := lf.out.runs; rw [HLI.out]; have := HMB.out; omega⟩
          obtain ⟨τ, hτ⟩ : ∃ v, timeAt t x p = v := ⟨_, rfl⟩
          rw [hτ] at ht0 ht1
          have HTT : Hid (timeI t (k : Int) (p : Int) = τ) := by show _ = _; rw [← hτ]; unfold timeI; rw [HXI.out]; rfl
          have HT3 := Lib.hid hτ
          have HS3 := Lib.hid hs3
          have hssn : s < sn0 := by have := Hl.out; omega
          have hssi : (s : Int) < sn0 := by omega
          have htb := tab_T (k := t.Network.Stops.length) (l := l) WF.out (by rw [← Hl.out]; exact hn8)
          have hpw := pow_le (M := t.Network.Stops.length) (by rw [← Hl.out]; exact hn8)
          have hqs2 : q < t.Network.Stops.length := by rw [← Hl.out]; exact hqs
          obtain ⟨v, hv⟩ : ∃ v, tg (fwT t.Network.Stops.length l) q s = v := ⟨_, rfl⟩
          have hcv := HR7.out.cells (k := s) (v := v) (by rw [HROW.out, ← hv]; exact tg_atC htb.sh hqs2 hs2)
          have HV3 : Hid (row.getD s 0 = v) := by show _ = _; rw [HROW.out]; exact hv
          have hvlo := htb.lo q s hqs2 hs2
          have hvhi := htb.hi q s hqs2 hs2
          rw [hv] at hvlo hvhi
          have hv30 : v ≤ 30720 := by omega
          have hwv : IntKind.i64.wrap (time + v) = time + v := by rw [IntKind.wrap_i64]; omega
          subst hA
          clear hy hs1 hs2 hs3 hτ hv htb hpw hvhi hys hqs2
          by_cases c1 : v < 0
          · have c1d : decide (v < 0) = true := decide_eq_true c1
            have HF2 : Hid (((List.range nq).drop (p + 1)).findSome? (catAt t row time x) = catOf t row time x) := by
              have h9 := HF.out
              rw [find_step hpq, (catAt_no HS3.out HV3.out HT3.out (fun e => by omega))] at h9
              exact h9
            clear HF
            go_wp2_with fail
            refine wp_region_held_drew (S := (fun w' => Later wb w' ∧ Later w7 w' ∧ Later wr w')) (by kernel_rfl) (by exact ⟨inferInstance, inferInstance, inferInstance⟩) (fun hHeld => ?_)
            refine wpAnyH_take (i := 0) (v := ?_) (by simp only [List.getElem?_toArray, List.getElem?_cons_zero] <;> rfl) (by kernel_rfl) (by kernel_rfl) (by kernel_rfl) (by exact fun _ _ _ h => h) (Or.inl ⟨by kernel_rfl, ?_⟩) (by assumption) ?_
            rotate_left
            · intro w' hSw; (try dsimp only at hSw); go_simp; try with_reducible rfl
            try simp only [Act.put, List.setIfInBounds_toArray, List.set_cons_zero, List.set_cons_succ]
            refine wpAnyH_take (i := 1) (v := ?_) (by simp only [List.getElem?_toArray, List.getElem?_cons_succ, List.getElem?_cons_zero] <;> rfl) (by kernel_rfl) (by kernel_rfl) (by kernel_rfl) (by exact fun _ _ _ h => h) (Or.inl ⟨by kernel_rfl, ?_⟩) (by assumption) ?_
            rotate_left
            · intro w' hSw; (try dsimp only at hSw); go_simp; try with_reducible rfl
            try simp only [Act.put, List.setIfInBounds_toArray, List.set_cons_zero, List.set_cons_succ]
            refine wpAnyH_take (i := 2) (v := ?_) (by simp only [List.getElem?_toArray, List.getElem?_cons_succ, List.getElem?_cons_zero] <;> rfl) (by kernel_rfl) (by kernel_rfl) (by kernel_rfl) (by exact fun _ _ _ h => h) (Or.inl ⟨by kernel_rfl, ?_⟩) (by assumption) ?_
            rotate_left
            · intro w' hSw; (try dsimp only at hSw); go_simp; try with_reducible rfl
            try simp only [Act.put, List.setIfInBounds_toArray, List.set_cons_zero, List.set_cons_succ]
            refine wpAnyH_take (i := 3) (v := ?_) (by simp only [List.getElem?_toArray, List.getElem?_cons_succ, List.getElem?_cons_zero] <;> rfl) (by kernel_rfl) (by kernel_rfl) (by kernel_rfl) (by exact fun _ _ _ h => h) (Or.inl ⟨by kernel_rfl, ?_⟩) (by assumption) ?_
            rotate_left
            · intro w' hSw; (try dsimp only at hSw); go_simp; try with_reducible rfl
            try simp only [Act.put, List.setIfInBounds_toArray, List.set_cons_zero, List.set_cons_succ]
            refine wpAnyH_take (i := 4) (v := ?_) (by simp only [List.getElem?_toArray, List.getElem?_cons_succ, List.getElem?_cons_zero] <;> rfl) (by kernel_rfl) (by kernel_rfl) (by kernel_rfl) (by exact fun _ _ _ h => h) (Or.inl ⟨by kernel_rfl, ?_⟩) (by assumption) ?_
            rotate_left
            · intro w' hSw; (try dsimp only at hSw); go_simp; try with_reducible rfl
            try simp only [Act.put, List.setIfInBounds_toArray, List.set_cons_zero, List.set_cons_succ]
            refine wpAnyH_take (i := 5) (v := ?_) (by simp only [List.getElem?_toArray, List.getElem?_cons_succ, List.getElem?_cons_zero] <;> rfl) (by kernel_rfl) (by kernel_rfl) (by kernel_rfl) (by exact fun _ _ _ h => h) (Or.inl ⟨by kernel_rfl, ?_⟩) (by assumption) ?_
            rotate_left
            · intro w' hSw; (try dsimp only at hSw); go_simp; try with_reducible rfl
            try simp only [Act.put, List.setIfInBounds_toArray, List.set_cons_zero, List.set_cons_succ]
            refine wpAnyH_take (i := 6) (v := ?_) (by simp only [List.getElem?_toArray, List.getElem?_cons_succ, List.getElem?_cons_zero] <;> rfl) (by kernel_rfl) (by kernel_rfl) (by kernel_rfl) (by exact fun _ _ _ h => h) (Or.inl ⟨by kernel_rfl, ?_⟩) (by assumption) ?_
            rotate_left
            · intro w' hSw; (try dsimp only at hSw); go_simp; try with_reducible rfl
            try simp only [Act.put, List.setIfInBounds_toArray, List.set_cons_zero, List.set_cons_succ]
            refine wpAnyH_take (i := 7) (v := ?_) (by simp only [List.getElem?_toArray, List.getElem?_cons_succ, List.getElem?_cons_zero] <;> rfl) (by kernel_rfl) (by kernel_rfl) (by kernel_rfl) (by exact fun _ _ _ h => h) (Or.inl ⟨by kernel_rfl, ?_⟩) (by assumption) ?_
            rotate_left
            · intro w' hSw; (try dsimp only at hSw); go_simp; try with_reducible rfl
            try simp only [Act.put, List.setIfInBounds_toArray, List.set_cons_zero, List.set_cons_succ]
            refine wpAnyH_take (i := 8) (v := ?_) (by simp only [List.getElem?_toArray, List.getElem?_cons_succ, List.getElem?_cons_zero] <;> rfl) (by kernel_rfl) (by kernel_rfl) (by kernel_rfl) (by exact fun _ _ _ h => h) (Or.inl ⟨by kernel_rfl, ?_⟩) (by assumption) ?_
            rotate_left
            · intro w' hSw; (try dsimp only at hSw); go_simp; try with_reducible rfl
            try simp only [Act.put, List.setIfInBounds_toArray, List.set_cons_zero, List.set_cons_succ]
            refine wpAnyH_take (i := 9) (v := undef) (by simp only [List.getElem?_toArray, List.getElem?_cons_succ, List.getElem?_cons_zero] <;> rfl) (by kernel_rfl) (by kernel_rfl) (by kernel_rfl) (by exact fun _ _ _ h => h) (Or.inr ⟨by kernel_rfl, rfl⟩) (by assumption) ?_
            try simp only [Act.put, List.setIfInBounds_toArray, List.set_cons_zero, List.set_cons_succ]
            refine wpAnyH_take (i := 10) (v := undef) (by simp only [List.getElem?_toArray, List.getElem?_cons_succ, List.getElem?_cons_zero] <;> rfl) (by kernel_rfl) (by kernel_rfl) (by kernel_rfl) (by exact fun _ _ _ h => h) (Or.inr ⟨by kernel_rfl, rfl⟩) (by assumption) ?_
            try simp only [Act.put, List.setIfInBounds_toArray, List.set_cons_zero, List.set_cons_succ]
            refine wpAnyH_take (i := 11) (v := undef) (by simp only [List.getElem?_toArray, List.getElem?_cons_succ, List.getElem?_cons_zero] <;> rfl) (by kernel_rfl) (by kernel_rfl) (by kernel_rfl) (by exact fun _ _ _ h => h) (Or.inr ⟨by kernel_rfl, rfl⟩) (by assumption) ?_
            try simp only [Act.put, List.setIfInBounds_toArray, List.set_cons_zero, List.set_cons_succ]
            refine wpAnyH_take (i := 12) (v := undef) (by simp only [List.getElem?_toArray, List.getElem?_cons_succ, List.getElem?_cons_zero] <;> rfl) (by kernel_rfl) (by kernel_rfl) (by kernel_rfl) (by exact fun _ _ _ h => h) (Or.inr ⟨by kernel_rfl, rfl⟩) (by assumption) ?_
            try simp only [Act.put, List.setIfInBounds_toArray, List.set_cons_zero, List.set_cons_succ]
            refine wpAnyH_take (i := 13) (v := undef) (by simp only [List.getElem?_toArray, List.getElem?_cons_succ, List.getElem?_cons_zero] <;> rfl) (by kernel_rfl) (by kernel_rfl) (by kernel_rfl) (by exact fun _ _ _ h => h) (Or.inr ⟨by kernel_rfl, rfl⟩) (by assumption) ?_
            try simp only [Act.put, List.setIfInBounds_toArray, List.set_cons_zero, List.set_cons_succ]
            refine wpAnyH_take (i := 14) (v := undef) (by simp only [List.getElem?_toArray, List.getElem?_cons_succ, List.getElem?_cons_zero] <;> rfl) (by kernel_rfl) (by kernel_rfl) (by kernel_rfl) (by exact fun _ _ _ h => h) (Or.inr ⟨by kernel_rfl, rfl⟩) (by assumption) ?_
            try simp only [Act.put, List.setIfInBounds_toArray, List.set_cons_zero, List.set_cons_succ]
            refine wpAnyH_take (i := 15) (v := undef) (by simp only [List.getElem?_toArray, List.getElem?_cons_succ, List.getElem?_cons_zero] <;> rfl) (by kernel_rfl) (by kernel_rfl) (by kernel_rfl) (by exact fun _ _ _ h => h) (Or.inr ⟨by kernel_rfl, rfl⟩) (by assumption) ?_
            try simp only [Act.put, List.setIfInBounds_toArray, List.set_cons_zero, List.set_cons_succ]
            refine wpAnyH_take (i := 16) (v := undef) (by simp only [List.getElem?_toArray, List.getElem?_cons_succ, List.getElem?_cons_zero] <;> rfl) (by kernel_rfl) (by kernel_rfl) (by kernel_rfl) (by exact fun _ _ _ h => h) (Or.inr ⟨by kernel_rfl, rfl⟩) (by assumption) ?_
            try simp only [Act.put, List.setIfInBounds_toArray, List.set_cons_zero, List.set_cons_succ]
            refine wpAnyH_take (i := 17) (v := undef) (by simp only [List.getElem?_toArray, List.getElem?_cons_succ, List.getElem?_cons_zero] <;> rfl) (by kernel_rfl) (by kernel_rfl) (by kernel_rfl) (by exact fun _ _ _ h => h) (Or.inr ⟨by kernel_rfl, rfl⟩) (by assumption) ?_
            try simp only [Act.put, List.setIfInBounds_toArray, List.set_cons_zero, List.set_cons_succ]
            refine wpAnyH_take (i := 18) (v := undef) (by simp only [List.getElem?_toArray, List.getElem?_cons_succ, List.getElem?_cons_zero] <;> rfl) (by kernel_rfl) (by kernel_rfl) (by kernel_rfl) (by exact fun _ _ _ h => h) (Or.inr ⟨by kernel_rfl, rfl⟩) (by assumption) ?_
            try simp only [Act.put, List.setIfInBounds_toArray, List.set_cons_zero, List.set_cons_succ]
            refine wpAnyH_take (i := 19) (v := undef) (by simp only [List.getElem?_toArray, List.getElem?_cons_succ, List.getElem?_cons_zero] <;> rfl) (by kernel_rfl) (by kernel_rfl) (by kernel_rfl) (by exact fun _ _ _ h => h) (Or.inr ⟨by kernel_rfl, rfl⟩) (by assumption) ?_
            try simp only [Act.put, List.setIfInBounds_toArray, List.set_cons_zero, List.set_cons_succ]
            refine wpAnyH_take (i := 20) (v := undef) (by simp only [List.getElem?_toArray, List.getElem?_cons_succ, List.getElem?_cons_zero] <;> rfl) (by kernel_rfl) (by kernel_rfl) (by kernel_rfl) (by exact fun _ _ _ h => h) (Or.inr ⟨by kernel_rfl, rfl⟩) (by assumption) ?_
            try simp only [Act.put, List.setIfInBounds_toArray, List.set_cons_zero, List.set_cons_succ]
            refine wpAnyH_take (i := 21) (v := undef) (by simp only [List.getElem?_toArray, List.getElem?_cons_succ, List.getElem?_cons_zero] <;> rfl) (by kernel_rfl) (by kernel_rfl) (by kernel_rfl) (by exact fun _ _ _ h => h) (Or.inr ⟨by kernel_rfl, rfl⟩) (by assumption) ?_
            try simp only [Act.put, List.setIfInBounds_toArray, List.set_cons_zero, List.set_cons_succ]
            refine wpAnyH_take (i := 22) (v := undef) (by simp only [List.getElem?_toArray, List.getElem?_cons_succ, List.getElem?_cons_zero] <;> rfl) (by kernel_rfl) (by kernel_rfl) (by kernel_rfl) (by exact fun _ _ _ h => h) (Or.inr ⟨by kernel_rfl, rfl⟩) (by assumption) ?_
            try simp only [Act.put, List.setIfInBounds_toArray, List.set_cons_zero, List.set_cons_succ]
            refine wpAnyH_take (i := 23) (v := ?_) (by simp only [List.getElem?_toArray, List.getElem?_cons_succ, List.getElem?_cons_zero] <;> rfl) (by kernel_rfl) (by kernel_rfl) (by kernel_rfl) (by exact fun _ _ _ h => h) (Or.inl ⟨by kernel_rfl, ?_⟩) (by assumption) ?_
            rotate_left
            · intro w' hSw; (try dsimp only at hSw); go_simp; try with_reducible rfl
            try simp only [Act.put, List.setIfInBounds_toArray, List.set_cons_zero, List.set_cons_succ]
            refine wpAnyH_done (by kernel_rfl) ?_ _
            go_wp2
            go_roundw
            case rel => exact ⟨p + 1, by omega, by go_num, rfl, HF2, inferInstance, inferInstance, inferInstance⟩
            case measure => simp [intOf]; omega
          have c1d : decide (v < 0) = false := decide_eq_false c1
          by_cases c2 : τ < time + v
          · have c2d : decide (τ < time + v) = true := decide_eq_true c2
            have HF2 : Hid (((List.range nq).drop (p + 1)).findSome? (catAt t row time x) = catOf t row time x) := by
              have h9 := HF.out
              rw [find_step hpq, (catAt_no HS3.out HV3.out HT3.out (fun e => by omega))] at h9
              exact h9
            clear HF
            go_wp2_with fail
            refine wp_region_held_drew (S := (fun w' => Later wb w' ∧ Later w7 w' ∧ Later wr w')) (by kernel_rfl) (by exact ⟨inferInstance, inferInstance, inferInstance⟩) (fun hHeld => ?_)
            refine wpAnyH_take (i := 0) (v := ?_) (by simp only [List.getElem?_toArray, List.getElem?_cons_zero] <;> rfl) (by kernel_rfl) (by kernel_rfl) (by kernel_rfl) (by exact fun _ _ _ h => h) (Or.inl ⟨by kernel_rfl, ?_⟩) (by assumption) ?_
            rotate_left
            · intro w' hSw; (try dsimp only at hSw); go_simp; try with_reducible rfl
            try simp only [Act.put, List.setIfInBounds_toArray, List.set_cons_zero, List.set_cons_succ]
            refine wpAnyH_take (i := 1) (v := ?_) (by simp only [List.getElem?_toArray, List.getElem?_cons_succ, List.getElem?_cons_zero] <;> rfl) (by kernel_rfl) (by kernel_rfl) (by kernel_rfl) (by exact fun _ _ _ h => h) (Or.inl ⟨by kernel_rfl, ?_⟩) (by assumption) ?_
            rotate_left
            · intro w' hSw; (try dsimp only at hSw); go_simp; try with_reducible rfl
            try simp only [Act.put, List.setIfInBounds_toArray, List.set_cons_zero, List.set_cons_succ]
            refine wpAnyH_take (i := 2) (v := ?_) (by simp only [List.getElem?_toArray, List.getElem?_cons_succ, List.getElem?_cons_zero] <;> rfl) (by kernel_rfl) (by kernel_rfl) (by kernel_rfl) (by exact fun _ _ _ h => h) (Or.inl ⟨by kernel_rfl, ?_⟩) (by assumption) ?_
            rotate_left
            · intro w' hSw; (try dsimp only at hSw); go_simp; try with_reducible rfl
            try simp only [Act.put, List.setIfInBounds_toArray, List.set_cons_zero, List.set_cons_succ]
            refine wpAnyH_take (i := 3) (v := ?_) (by simp only [List.getElem?_toArray, List.getElem?_cons_succ, List.getElem?_cons_zero] <;> rfl) (by kernel_rfl) (by kernel_rfl) (by kernel_rfl) (by exact fun _ _ _ h => h) (Or.inl ⟨by kernel_rfl, ?_⟩) (by assumption) ?_
            rotate_left
            · intro w' hSw; (try dsimp only at hSw); go_simp; try with_reducible rfl
            try simp only [Act.put, List.setIfInBounds_toArray, List.set_cons_zero, List.set_cons_succ]
            refine wpAnyH_take (i := 4) (v := ?_) (by simp only [List.getElem?_toArray, List.getElem?_cons_succ, List.getElem?_cons_zero] <;> rfl) (by kernel_rfl) (by kernel_rfl) (by kernel_rfl) (by exact fun _ _ _ h => h) (Or.inl ⟨by kernel_rfl, ?_⟩) (by assumption) ?_
            rotate_left
            · intro w' hSw; (try dsimp only at hSw); go_simp; try with_reducible rfl
            try simp only [Act.put, List.setIfInBounds_toArray, List.set_cons_zero, List.set_cons_succ]
            refine wpAnyH_take (i := 5) (v := ?_) (by simp only [List.getElem?_toArray, List.getElem?_cons_succ, List.getElem?_cons_zero] <;> rfl) (by kernel_rfl) (by kernel_rfl) (by kernel_rfl) (by exact fun _ _ _ h => h) (Or.inl ⟨by kernel_rfl, ?_⟩) (by assumption) ?_
            rotate_left
            · intro w' hSw; (try dsimp only at hSw); go_simp; try with_reducible rfl
            try simp only [Act.put, List.setIfInBounds_toArray, List.set_cons_zero, List.set_cons_succ]
            refine wpAnyH_take (i := 6) (v := ?_) (by simp only [List.getElem?_toArray, List.getElem?_cons_succ, List.getElem?_cons_zero] <;> rfl) (by kernel_rfl) (by kernel_rfl) (by kernel_rfl) (by exact fun _ _ _ h => h) (Or.inl ⟨by kernel_rfl, ?_⟩) (by assumption) ?_
            rotate_left
            · intro w' hSw; (try dsimp only at hSw); go_simp; try with_reducible rfl
            try simp only [Act.put, List.setIfInBounds_toArray, List.set_cons_zero, List.set_cons_succ]
            refine wpAnyH_take (i := 7) (v := ?_) (by simp only [List.getElem?_toArray, List.getElem?_cons_succ, List.getElem?_cons_zero] <;> rfl) (by kernel_rfl) (by kernel_rfl) (by kernel_rfl) (by exact fun _ _ _ h => h) (Or.inl ⟨by kernel_rfl, ?_⟩) (by assumption) ?_
            rotate_left
            · intro w' hSw; (try dsimp only at hSw); go_simp; try with_reducible rfl
            try simp only [Act.put, List.setIfInBounds_toArray, List.set_cons_zero, List.set_cons_succ]
            refine wpAnyH_take (i := 8) (v := ?_) (by simp only [List.getElem?_toArray, List.getElem?_cons_succ, List.getElem?_cons_zero] <;> rfl) (by kernel_rfl) (by kernel_rfl) (by kernel_rfl) (by exact fun _ _ _ h => h) (Or.inl ⟨by kernel_rfl, ?_⟩) (by assumption) ?_
            rotate_left
            · intro w' hSw; (try dsimp only at hSw); go_simp; try with_reducible rfl
            try simp only [Act.put, List.setIfInBounds_toArray, List.set_cons_zero, List.set_cons_succ]
            refine wpAnyH_take (i := 9) (v := ?_) (by simp only [List.getElem?_toArray, List.getElem?_cons_succ, List.getElem?_cons_zero] <;> rfl) (by kernel_rfl) (by kernel_rfl) (by kernel_rfl) (by exact fun _ _ _ h => h) (Or.inl ⟨by kernel_rfl, ?_⟩) (by assumption) ?_
            rotate_left
            · intro w' hSw; (try dsimp only at hSw); go_simp; try with_reducible rfl
            try simp only [Act.put, List.setIfInBounds_toArray, List.set_cons_zero, List.set_cons_succ]
            refine wpAnyH_take (i := 10) (v := ?_) (by simp only [List.getElem?_toArray, List.getElem?_cons_succ, List.getElem?_cons_zero] <;> rfl) (by kernel_rfl) (by kernel_rfl) (by kernel_rfl) (by exact fun _ _ _ h => h) (Or.inl ⟨by kernel_rfl, ?_⟩) (by assumption) ?_
            rotate_left
            · intro w' hSw; (try dsimp only at hSw); go_simp; try with_reducible rfl
            try simp only [Act.put, List.setIfInBounds_toArray, List.set_cons_zero, List.set_cons_succ]
            refine wpAnyH_take (i := 11) (v := ?_) (by simp only [List.getElem?_toArray, List.getElem?_cons_succ, List.getElem?_cons_zero] <;> rfl) (by kernel_rfl) (by kernel_rfl) (by kernel_rfl) (by exact fun _ _ _ h => h) (Or.inl ⟨by kernel_rfl, ?_⟩) (by assumption) ?_
            rotate_left
            · intro w' hSw; (try dsimp only at hSw); go_simp; try with_reducible rfl
            try simp only [Act.put, List.setIfInBounds_toArray, List.set_cons_zero, List.set_cons_succ]
            refine wpAnyH_take (i := 13) (v := ?_) (by simp only [List.getElem?_toArray, List.getElem?_cons_succ, List.getElem?_cons_zero] <;> rfl) (by kernel_rfl) (by kernel_rfl) (by kernel_rfl) (by exact fun _ _ _ h => h) (Or.inl ⟨by kernel_rfl, ?_⟩) (by assumption) ?_
            rotate_left
            · intro w' hSw; (try dsimp only at hSw); go_simp; try with_reducible rfl
            try simp only [Act.put, List.setIfInBounds_toArray, List.set_cons_zero, List.set_cons_succ]
            refine wpAnyH_take (i := 14) (v := ?_) (by simp only [List.getElem?_toArray, List.getElem?_cons_succ, List.getElem?_cons_zero] <;> rfl) (by kernel_rfl) (by kernel_rfl) (by kernel_rfl) (by exact fun _ _ _ h => h) (Or.inl ⟨by kernel_rfl, ?_⟩) (by assumption) ?_
            rotate_left
            · intro w' hSw; (try dsimp only at hSw); go_simp; try with_reducible rfl
            try simp only [Act.put, List.setIfInBounds_toArray, List.set_cons_zero, List.set_cons_succ]
            refine wpAnyH_take (i := 15) (v := ?_) (by simp only [List.getElem?_toArray, List.getElem?_cons_succ, List.getElem?_cons_zero] <;> rfl) (by kernel_rfl) (by kernel_rfl) (by kernel_rfl) (by exact fun _ _ _ h => h) (Or.inl ⟨by kernel_rfl, ?_⟩) (by assumption) ?_
            rotate_left
            · intro w' hSw; (try dsimp only at hSw); go_simp; try with_reducible rfl
            try simp only [Act.put, List.setIfInBounds_toArray, List.set_cons_zero, List.set_cons_succ]
            refine wpAnyH_take (i := 16) (v := ?_) (by simp only [List.getElem?_toArray, List.getElem?_cons_succ, List.getElem?_cons_zero] <;> rfl) (by kernel_rfl) (by kernel_rfl) (by kernel_rfl) (by exact fun _ _ _ h => h) (Or.inl ⟨by kernel_rfl, ?_⟩) (by assumption) ?_
            rotate_left
            · intro w' hSw; (try dsimp only at hSw); go_simp; try with_reducible rfl
            try simp only [Act.put, List.setIfInBounds_toArray, List.set_cons_zero, List.set_cons_succ]
            refine wpAnyH_take (i := 17) (v := ?_) (by simp only [List.getElem?_toArray, List.getElem?_cons_succ, List.getElem?_cons_zero] <;> rfl) (by kernel_rfl) (by kernel_rfl) (by kernel_rfl) (by exact fun _ _ _ h => h) (Or.inl ⟨by kernel_rfl, ?_⟩) (by assumption) ?_
            rotate_left
            · intro w' hSw; (try dsimp only at hSw); go_simp; try with_reducible rfl
            try simp only [Act.put, List.setIfInBounds_toArray, List.set_cons_zero, List.set_cons_succ]
            refine wpAnyH_take (i := 18) (v := ?_) (by simp only [List.getElem?_toArray, List.getElem?_cons_succ, List.getElem?_cons_zero] <;> rfl) (by kernel_rfl) (by kernel_rfl) (by kernel_rfl) (by exact fun _ _ _ h => h) (Or.inl ⟨by kernel_rfl, ?_⟩) (by assumption) ?_
            rotate_left
            · intro w' hSw; (try dsimp only at hSw); go_simp; try with_reducible rfl
            try simp only [Act.put, List.setIfInBounds_toArray, List.set_cons_zero, List.set_cons_succ]
            refine wpAnyH_take (i := 19) (v := ?_) (by simp only [List.getElem?_toArray, List.getElem?_cons_succ, List.getElem?_cons_zero] <;> rfl) (by kernel_rfl) (by kernel_rfl) (by kernel_rfl) (by exact fun _ _ _ h => h) (Or.inl ⟨by kernel_rfl, ?_⟩) (by assumption) ?_
            rotate_left
            · intro w' hSw; (try dsimp only at hSw); go_simp; try with_reducible rfl
            try simp only [Act.put, List.setIfInBounds_toArray, List.set_cons_zero, List.set_cons_succ]
            refine wpAnyH_take (i := 20) (v := ?_) (by simp only [List.getElem?_toArray, List.getElem?_cons_succ, List.getElem?_cons_zero] <;> rfl) (by kernel_rfl) (by kernel_rfl) (by kernel_rfl) (by exact fun _ _ _ h => h) (Or.inl ⟨by kernel_rfl, ?_⟩) (by assumption) ?_
            rotate_left
            · intro w' hSw; (try dsimp only at hSw); go_simp; try with_reducible rfl
            try simp only [Act.put, List.setIfInBounds_toArray, List.set_cons_zero, List.set_cons_succ]
            refine wpAnyH_take (i := 21) (v := ?_) (by simp only [List.getElem?_toArray, List.getElem?_cons_succ, List.getElem?_cons_zero] <;> rfl) (by kernel_rfl) (by kernel_rfl) (by kernel_rfl) (by exact fun _ _ _ h => h) (Or.inl ⟨by kernel_rfl, ?_⟩) (by assumption) ?_
            rotate_left
            · intro w' hSw; (try dsimp only at hSw); go_simp; try with_reducible rfl
            try simp only [Act.put, List.setIfInBounds_toArray, List.set_cons_zero, List.set_cons_succ]
            refine wpAnyH_ready (rs := [12]) (by kernel_rfl) (by simp) (AllReadyH.cons rfl (fun K hK => ?_) AllReadyH.nil)
            go_simp
            (go_at_call 59; ((with_reducible refine (spec_l5At H.out (hwb0.trans inferInstance) TF.out.net (k : Int) HKK.out.1 HKK.out.2 TIK.out (p : Int) HKP.out.1 HKP.out.2).mono ?_); rw [HTT.out]; rintro e w12 ⟨rfl, L12⟩; have X12 := Later.trans (w := wb) inferInstance L12; have K12 := Later.trans (w := w7) inferInstance L12; have Y12 := Later.trans (w := wr) inferInstance L12; have Z12 := Later.trans (w := w5) inferInstance L12))
            refine hK.out _ _ (by exact ⟨inferInstance, inferInstance, inferInstance⟩) (fun hHeld => ?_)
            try simp only [Act.put, List.setIfInBounds_toArray, List.set_cons_zero, List.set_cons_succ]
            refine wpAnyH_take (i := 22) (v := ?_) (by simp only [List.getElem?_toArray, List.getElem?_cons_succ, List.getElem?_cons_zero] <;> rfl) (by kernel_rfl) (by kernel_rfl) (by kernel_rfl) (by exact fun _ _ _ h => h) (Or.inl ⟨by kernel_rfl, ?_⟩) (by assumption) ?_
            rotate_left
            · intro w' hSw; (try dsimp only at hSw); go_simp; try with_reducible rfl
            try simp only [Act.put, List.setIfInBounds_toArray, List.set_cons_zero, List.set_cons_succ]
            refine wpAnyH_take (i := 23) (v := ?_) (by simp only [List.getElem?_toArray, List.getElem?_cons_succ, List.getElem?_cons_zero] <;> rfl) (by kernel_rfl) (by kernel_rfl) (by kernel_rfl) (by exact fun _ _ _ h => h) (Or.inl ⟨by kernel_rfl, ?_⟩) (by assumption) ?_
            rotate_left
            · intro w' hSw; (try dsimp only at hSw); go_simp; try with_reducible rfl
            try simp only [Act.put, List.setIfInBounds_toArray, List.set_cons_zero, List.set_cons_succ]
            refine wpAnyH_done (by kernel_rfl) ?_ _
            go_wp2
            go_roundw
            case rel => exact ⟨p + 1, by omega, by go_num, rfl, HF2, inferInstance, inferInstance, inferInstance⟩
            case measure => simp [intOf]; omega
          have c2d : decide (τ < time + v) = false := decide_eq_false c2
          obtain ⟨X, hXe⟩ : ∃ X : Connection, X = ⟨x.Id, s, p, τ⟩ := ⟨_, rfl⟩
          have HNEW : Hid (sortC ((t.Trips.take (k + 1)).filterMap (catOf t row time)) = insC L X) := by
            show _ = _
            rw [HCS.out, ← HF.out, find_step hpq, catAt_yes HS3.out HV3.out HT3.out ⟨by omega, by omega⟩, ← hXe]
            show sortC (_ ++ [X]) = _
            rw [sortC_add, HSO.out]
          have HXOK : Hid (ConnectionOk X) := by
            show ConnectionOk X
            have hid := (TF.out.trip k x HX.out).id
            rw [hXe]
            refine ⟨?_, ?_, ?_, ?_⟩ <;> (simp only; unfold I64; omega)
          clear HF HCS
          go_wp2_with fail
          refine wp_region_held_drew (S := (fun w' => Later wb w' ∧ Later w7 w' ∧ Later wr w')) (by kernel_rfl) (by exact ⟨inferInstance, inferInstance, inferInstance⟩) (fun hHeld => ?_)
          refine wpAnyH_take (i := 0) (v := ?_) (by simp only [List.getElem?_toArray, List.getElem?_cons_zero] <;> rfl) (by kernel_rfl) (by kernel_rfl) (by kernel_rfl) (by exact fun _ _ _ h => h) (Or.inl ⟨by kernel_rfl, ?_⟩) (by assumption) ?_
          rotate_left
          · intro w' hSw; (try dsimp only at hSw); go_simp; try with_reducible rfl
          try simp only [Act.put, List.setIfInBounds_toArray, List.set_cons_zero, List.set_cons_succ]
          refine wpAnyH_take (i := 1) (v := ?_) (by simp only [List.getElem?_toArray, List.getElem?_cons_succ, List.getElem?_cons_zero] <;> rfl) (by kernel_rfl) (by kernel_rfl) (by kernel_rfl) (by exact fun _ _ _ h => h) (Or.inl ⟨by kernel_rfl, ?_⟩) (by assumption) ?_
          rotate_left
          · intro w' hSw; (try dsimp only at hSw); go_simp; try with_reducible rfl
          try simp only [Act.put, List.setIfInBounds_toArray, List.set_cons_zero, List.set_cons_succ]
          refine wpAnyH_take (i := 2) (v := ?_) (by simp only [List.getElem?_toArray, List.getElem?_cons_succ, List.getElem?_cons_zero] <;> rfl) (by kernel_rfl) (by kernel_rfl) (by kernel_rfl) (by exact fun _ _ _ h => h) (Or.inl ⟨by kernel_rfl, ?_⟩) (by assumption) ?_
          rotate_left
          · intro w' hSw; (try dsimp only at hSw); go_simp; try with_reducible rfl
          try simp only [Act.put, List.setIfInBounds_toArray, List.set_cons_zero, List.set_cons_succ]
          refine wpAnyH_take (i := 3) (v := ?_) (by simp only [List.getElem?_toArray, List.getElem?_cons_succ, List.getElem?_cons_zero] <;> rfl) (by kernel_rfl) (by kernel_rfl) (by kernel_rfl) (by exact fun _ _ _ h => h) (Or.inl ⟨by kernel_rfl, ?_⟩) (by assumption) ?_
          rotate_left
          · intro w' hSw; (try dsimp only at hSw); go_simp; try with_reducible rfl
          try simp only [Act.put, List.setIfInBounds_toArray, List.set_cons_zero, List.set_cons_succ]
          refine wpAnyH_take (i := 4) (v := ?_) (by simp only [List.getElem?_toArray, List.getElem?_cons_succ, List.getElem?_cons_zero] <;> rfl) (by kernel_rfl) (by kernel_rfl) (by kernel_rfl) (by exact fun _ _ _ h => h) (Or.inl ⟨by kernel_rfl, ?_⟩) (by assumption) ?_
          rotate_left
          · intro w' hSw; (try dsimp only at hSw); go_simp; try with_reducible rfl
          try simp only [Act.put, List.setIfInBounds_toArray, List.set_cons_zero, List.set_cons_succ]
          refine wpAnyH_take (i := 5) (v := ?_) (by simp only [List.getElem?_toArray, List.getElem?_cons_succ, List.getElem?_cons_zero] <;> rfl) (by kernel_rfl) (by kernel_rfl) (by kernel_rfl) (by exact fun _ _ _ h => h) (Or.inl ⟨by kernel_rfl, ?_⟩) (by assumption) ?_
          rotate_left
          · intro w' hSw; (try dsimp only at hSw); go_simp; try with_reducible rfl
          try simp only [Act.put, List.setIfInBounds_toArray, List.set_cons_zero, List.set_cons_succ]
          refine wpAnyH_take (i := 6) (v := ?_) (by simp only [List.getElem?_toArray, List.getElem?_cons_succ, List.getElem?_cons_zero] <;> rfl) (by kernel_rfl) (by kernel_rfl) (by kernel_rfl) (by exact fun _ _ _ h => h) (Or.inl ⟨by kernel_rfl, ?_⟩) (by assumption) ?_
          rotate_left
          · intro w' hSw; (try dsimp only at hSw); go_simp; try with_reducible rfl
          try simp only [Act.put, List.setIfInBounds_toArray, List.set_cons_zero, List.set_cons_succ]
          refine wpAnyH_take (i := 7) (v := ?_) (by simp only [List.getElem?_toArray, List.getElem?_cons_succ, List.getElem?_cons_zero] <;> rfl) (by kernel_rfl) (by kernel_rfl) (by kernel_rfl) (by exact fun _ _ _ h => h) (Or.inl ⟨by kernel_rfl, ?_⟩) (by assumption) ?_
          rotate_left
          · intro w' hSw; (try dsimp only at hSw); go_simp; try with_reducible rfl
          try simp only [Act.put, List.setIfInBounds_toArray, List.set_cons_zero, List.set_cons_succ]
          refine wpAnyH_take (i := 8) (v := ?_) (by simp only [List.getElem?_toArray, List.getElem?_cons_succ, List.getElem?_cons_zero] <;> rfl) (by kernel_rfl) (by kernel_rfl) (by kernel_rfl) (by exact fun _ _ _ h => h) (Or.inl ⟨by kernel_rfl, ?_⟩) (by assumption) ?_
          rotate_left
          · intro w' hSw; (try dsimp only at hSw); go_simp; try with_reducible rfl
          try simp only [Act.put, List.setIfInBounds_toArray, List.set_cons_zero, List.set_cons_succ]
          refine wpAnyH_take (i := 9) (v := ?_) (by simp only [List.getElem?_toArray, List.getElem?_cons_succ, List.getElem?_cons_zero] <;> rfl) (by kernel_rfl) (by kernel_rfl) (by kernel_rfl) (by exact fun _ _ _ h => h) (Or.inl ⟨by kernel_rfl, ?_⟩) (by assumption) ?_
          rotate_left
          · intro w' hSw; (try dsimp only at hSw); go_simp; try with_reducible rfl
          try simp only [Act.put, List.setIfInBounds_toArray, List.set_cons_zero, List.set_cons_succ]
          refine wpAnyH_take (i := 10) (v := ?_) (by simp only [List.getElem?_toArray, List.getElem?_cons_succ, List.getElem?_cons_zero] <;> rfl) (by kernel_rfl) (by kernel_rfl) (by kernel_rfl) (by exact fun _ _ _ h => h) (Or.inl ⟨by kernel_rfl, ?_⟩) (by assumption) ?_
          rotate_left
          · intro w' hSw; (try dsimp only at hSw); go_simp; try with_reducible rfl
          try simp only [Act.put, List.setIfInBounds_toArray, List.set_cons_zero, List.set_cons_succ]
          refine wpAnyH_take (i := 11) (v := ?_) (by simp only [List.getElem?_toArray, List.getElem?_cons_succ, List.getElem?_cons_zero] <;> rfl) (by kernel_rfl) (by kernel_rfl) (by kernel_rfl) (by exact fun _ _ _ h => h) (Or.inl ⟨by kernel_rfl, ?_⟩) (by assumption) ?_
          rotate_left
          · intro w' hSw; (try dsimp only at hSw); go_simp; try with_reducible rfl
          try simp only [Act.put, List.setIfInBounds_toArray, List.set_cons_zero, List.set_cons_succ]
          refine wpAnyH_take (i := 13) (v := ?_) (by simp only [List.getElem?_toArray, List.getElem?_cons_succ, List.getElem?_cons_zero] <;> rfl) (by kernel_rfl) (by kernel_rfl) (by kernel_rfl) (by exact fun _ _ _ h => h) (Or.inl ⟨by kernel_rfl, ?_⟩) (by assumption) ?_
          rotate_left
          · intro w' hSw; (try dsimp only at hSw); go_simp; try with_reducible rfl
          try simp only [Act.put, List.setIfInBounds_toArray, List.set_cons_zero, List.set_cons_succ]
          refine wpAnyH_take (i := 14) (v := ?_) (by simp only [List.getElem?_toArray, List.getElem?_cons_succ, List.getElem?_cons_zero] <;> rfl) (by kernel_rfl) (by kernel_rfl) (by kernel_rfl) (by exact fun _ _ _ h => h) (Or.inl ⟨by kernel_rfl, ?_⟩) (by assumption) ?_
          rotate_left
          · intro w' hSw; (try dsimp only at hSw); go_simp; try with_reducible rfl
          try simp only [Act.put, List.setIfInBounds_toArray, List.set_cons_zero, List.set_cons_succ]
          refine wpAnyH_take (i := 15) (v := ?_) (by simp only [List.getElem?_toArray, List.getElem?_cons_succ, List.getElem?_cons_zero] <;> rfl) (by kernel_rfl) (by kernel_rfl) (by kernel_rfl) (by exact fun _ _ _ h => h) (Or.inl ⟨by kernel_rfl, ?_⟩) (by assumption) ?_
          rotate_left
          · intro w' hSw; (try dsimp only at hSw); go_simp; try with_reducible rfl
          try simp only [Act.put, List.setIfInBounds_toArray, List.set_cons_zero, List.set_cons_succ]
          refine wpAnyH_take (i := 16) (v := ?_) (by simp only [List.getElem?_toArray, List.getElem?_cons_succ, List.getElem?_cons_zero] <;> rfl) (by kernel_rfl) (by kernel_rfl) (by kernel_rfl) (by exact fun _ _ _ h => h) (Or.inl ⟨by kernel_rfl, ?_⟩) (by assumption) ?_
          rotate_left
          · intro w' hSw; (try dsimp only at hSw); go_simp; try with_reducible rfl
          try simp only [Act.put, List.setIfInBounds_toArray, List.set_cons_zero, List.set_cons_succ]
          refine wpAnyH_take (i := 17) (v := ?_) (by simp only [List.getElem?_toArray, List.getElem?_cons_succ, List.getElem?_cons_zero] <;> rfl) (by kernel_rfl) (by kernel_rfl) (by kernel_rfl) (by exact fun _ _ _ h => h) (Or.inl ⟨by kernel_rfl, ?_⟩) (by assumption) ?_
          rotate_left
          · intro w' hSw; (try dsimp only at hSw); go_simp; try with_reducible rfl
          try simp only [Act.put, List.setIfInBounds_toArray, List.set_cons_zero, List.set_cons_succ]
          refine wpAnyH_take (i := 18) (v := ?_) (by simp only [List.getElem?_toArray, List.getElem?_cons_succ, List.getElem?_cons_zero] <;> rfl) (by kernel_rfl) (by kernel_rfl) (by kernel_rfl) (by exact fun _ _ _ h => h) (Or.inl ⟨by kernel_rfl, ?_⟩) (by assumption) ?_
          rotate_left
          · intro w' hSw; (try dsimp only at hSw); go_simp; try with_reducible rfl
          try simp only [Act.put, List.setIfInBounds_toArray, List.set_cons_zero, List.set_cons_succ]
          refine wpAnyH_take (i := 19) (v := ?_) (by simp only [List.getElem?_toArray, List.getElem?_cons_succ, List.getElem?_cons_zero] <;> rfl) (by kernel_rfl) (by kernel_rfl) (by kernel_rfl) (by exact fun _ _ _ h => h) (Or.inl ⟨by kernel_rfl, ?_⟩) (by assumption) ?_
          rotate_left
          · intro w' hSw; (try dsimp only at hSw); go_simp; try with_reducible rfl
          try simp only [Act.put, List.setIfInBounds_toArray, List.set_cons_zero, List.set_cons_succ]
          refine wpAnyH_take (i := 20) (v := ?_) (by simp only [List.getElem?_toArray, List.getElem?_cons_succ, List.getElem?_cons_zero] <;> rfl) (by kernel_rfl) (by kernel_rfl) (by kernel_rfl) (by exact fun _ _ _ h => h) (Or.inl ⟨by kernel_rfl, ?_⟩) (by assumption) ?_
          rotate_left
          · intro w' hSw; (try dsimp only at hSw); go_simp; try with_reducible rfl
          try simp only [Act.put, List.setIfInBounds_toArray, List.set_cons_zero, List.set_cons_succ]
          refine wpAnyH_take (i := 21) (v := ?_) (by simp only [List.getElem?_toArray, List.getElem?_cons_succ, List.getElem?_cons_zero] <;> rfl) (by kernel_rfl) (by kernel_rfl) (by kernel_rfl) (by exact fun _ _ _ h => h) (Or.inl ⟨by kernel_rfl, ?_⟩) (by assumption) ?_
          rotate_left
          · intro w' hSw; (try dsimp only at hSw); go_simp; try with_reducible rfl
          try simp only [Act.put, List.setIfInBounds_toArray, List.set_cons_zero, List.set_cons_succ]
          refine wpAnyH_ready (rs := [12]) (by kernel_rfl) (by simp) (AllReadyH.cons rfl (fun K hK => ?_) AllReadyH.nil)
          go_simp
          (go_at_call 59; ((with_reducible refine (spec_l5At H.out (hwb0.trans inferInstance) TF.out.net (k : Int) HKK.out.1 HKK.out.2 TIK.out (p : Int) HKP.out.1 HKP.out.2).mono ?_); rw [HTT.out]; rintro e w12 ⟨rfl, L12⟩; have X12 := Later.trans (w := wb) inferInstance L12; have K12 := Later.trans (w := w7) inferInstance L12; have Y12 := Later.trans (w := wr) inferInstance L12; have Z12 := Later.trans (w := w5) inferInstance L12))
          refine hK.out _ _ (by exact ⟨inferInstance, inferInstance, inferInstance⟩) (fun hHeld => ?_)
          try simp only [Act.put, List.setIfInBounds_toArray, List.set_cons_zero, List.set_cons_succ]
          refine wpAnyH_take (i := 22) (v := ?_) (by simp only [List.getElem?_toArray, List.getElem?_cons_succ, List.getElem?_cons_zero] <;> rfl) (by kernel_rfl) (by kernel_rfl) (by kernel_rfl) (by exact fun _ _ _ h => h) (Or.inl ⟨by kernel_rfl, ?_⟩) (by assumption) ?_
          rotate_left
          · intro w' hSw; (try dsimp only at hSw); go_simp; try with_reducible rfl
          try simp only [Act.put, List.setIfInBounds_toArray, List.set_cons_zero, List.set_cons_succ]
          refine wpAnyH_take (i := 23) (v := ?_) (by simp only [List.getElem?_toArray, List.getElem?_cons_succ, List.getElem?_cons_zero] <;> rfl) (by kernel_rfl) (by kernel_rfl) (by kernel_rfl) (by exact fun _ _ _ h => h) (Or.inl ⟨by kernel_rfl, ?_⟩) (by assumption) ?_
          rotate_left
          · intro w' hSw; (try dsimp only at hSw); go_simp; try with_reducible rfl
          try simp only [Act.put, List.setIfInBounds_toArray, List.set_cons_zero, List.set_cons_succ]
          refine wpAnyH_done (by kernel_rfl) ?_ _
          go_wp2_with fail
          clear hwv c1d c2d hcv
          apply ways4 (wb := w12) (fun W gx => Blk W gx 101 #[.int .i64 X.Id, .int .i64 X.Stop, .int .i64 X.Place, .int .i64 X.Time])
          · intro key
            refine wp_region_held_drew (S := (fun w' => Later wb w' ∧ Later w12 w')) (by kernel_rfl) (by exact ⟨inferInstance, inferInstance⟩) (fun hHeld => ?_)
            refine wpAnyH_take (i := 0) (v := ?_) (by simp only [List.getElem?_toArray, List.getElem?_cons_zero] <;> rfl) (by kernel_rfl) (by kernel_rfl) (by kernel_rfl) (by exact fun _ _ _ h => h) (Or.inl ⟨by kernel_rfl, ?_⟩) (by assumption) ?_
            rotate_left
            · intro w' hSw; (try dsimp only at hSw); go_simp; try with_reducible rfl
            try simp only [Act.put, List.setIfInBounds_toArray, List.set_cons_zero, List.set_cons_succ]
            refine wpAnyH_take (i := 1) (v := ?_) (by simp only [List.getElem?_toArray, List.getElem?_cons_succ, List.getElem?_cons_zero] <;> rfl) (by kernel_rfl) (by kernel_rfl) (by kernel_rfl) (by exact fun _ _ _ h => h) (Or.inl ⟨by kernel_rfl, ?_⟩) (by assumption) ?_
            rotate_left
            · intro w' hSw; (try dsimp only at hSw); go_simp; try with_reducible rfl
            try simp only [Act.put, List.setIfInBounds_toArray, List.set_cons_zero, List.set_cons_succ]
            refine wpAnyH_take (i := 2) (v := ?_) (by simp only [List.getElem?_toArray, List.getElem?_cons_succ, List.getElem?_cons_zero] <;> rfl) (by kernel_rfl) (by kernel_rfl) (by kernel_rfl) (by exact fun _ _ _ h => h) (Or.inl ⟨by kernel_rfl, ?_⟩) (by assumption) ?_
            rotate_left
            · intro w' hSw; (try dsimp only at hSw); go_simp; try with_reducible rfl
            try simp only [Act.put, List.setIfInBounds_toArray, List.set_cons_zero, List.set_cons_succ]
            refine wpAnyH_take (i := 3) (v := ?_) (by simp only [List.getElem?_toArray, List.getElem?_cons_succ, List.getElem?_cons_zero] <;> rfl) (by kernel_rfl) (by kernel_rfl) (by kernel_rfl) (by exact fun _ _ _ h => h) (Or.inl ⟨by kernel_rfl, ?_⟩) (by assumption) ?_
            rotate_left
            · intro w' hSw; (try dsimp only at hSw); go_simp; try with_reducible rfl
            try simp only [Act.put, List.setIfInBounds_toArray, List.set_cons_zero, List.set_cons_succ]
            refine wpAnyH_take (i := 4) (v := ?_) (by simp only [List.getElem?_toArray, List.getElem?_cons_succ, List.getElem?_cons_zero] <;> rfl) (by kernel_rfl) (by kernel_rfl) (by kernel_rfl) (by exact fun _ _ _ h => h) (Or.inl ⟨by kernel_rfl, ?_⟩) (by assumption) ?_
            rotate_left
            · intro w' hSw; (try dsimp only at hSw); go_simp; try with_reducible rfl
            try simp only [Act.put, List.setIfInBounds_toArray, List.set_cons_zero, List.set_cons_succ]
            refine wpAnyH_take (i := 5) (v := ?_) (by simp only [List.getElem?_toArray, List.getElem?_cons_succ, List.getElem?_cons_zero] <;> rfl) (by kernel_rfl) (by kernel_rfl) (by kernel_rfl) (by exact fun _ _ _ h => h) (Or.inl ⟨by kernel_rfl, ?_⟩) (by assumption) ?_
            rotate_left
            · intro w' hSw; (try dsimp only at hSw); go_simp; try with_reducible rfl
            try simp only [Act.put, List.setIfInBounds_toArray, List.set_cons_zero, List.set_cons_succ]
            refine wpAnyH_take (i := 6) (v := ?_) (by simp only [List.getElem?_toArray, List.getElem?_cons_succ, List.getElem?_cons_zero] <;> rfl) (by kernel_rfl) (by kernel_rfl) (by kernel_rfl) (by exact fun _ _ _ h => h) (Or.inl ⟨by kernel_rfl, ?_⟩) (by assumption) ?_
            rotate_left
            · intro w' hSw; (try dsimp only at hSw); go_simp; try with_reducible rfl
            try simp only [Act.put, List.setIfInBounds_toArray, List.set_cons_zero, List.set_cons_succ]
            refine wpAnyH_take (i := 7) (v := ?_) (by simp only [List.getElem?_toArray, List.getElem?_cons_succ, List.getElem?_cons_zero] <;> rfl) (by kernel_rfl) (by kernel_rfl) (by kernel_rfl) (by exact fun _ _ _ h => h) (Or.inl ⟨by kernel_rfl, ?_⟩) (by assumption) ?_
            rotate_left
            · intro w' hSw; (try dsimp only at hSw); go_simp; try with_reducible rfl
            try simp only [Act.put, List.setIfInBounds_toArray, List.set_cons_zero, List.set_cons_succ]
            refine wpAnyH_take (i := 8) (v := ?_) (by simp only [List.getElem?_toArray, List.getElem?_cons_succ, List.getElem?_cons_zero] <;> rfl) (by kernel_rfl) (by kernel_rfl) (by kernel_rfl) (by exact fun _ _ _ h => h) (Or.inl ⟨by kernel_rfl, ?_⟩) (by assumption) ?_
            rotate_left
            · intro w' hSw; (try dsimp only at hSw); go_simp; try with_reducible rfl
            try simp only [Act.put, List.setIfInBounds_toArray, List.set_cons_zero, List.set_cons_succ]
            refine wpAnyH_take (i := 9) (v := ?_) (by simp only [List.getElem?_toArray, List.getElem?_cons_succ, List.getElem?_cons_zero] <;> rfl) (by kernel_rfl) (by kernel_rfl) (by kernel_rfl) (by exact fun _ _ _ h => h) (Or.inl ⟨by kernel_rfl, ?_⟩) (by assumption) ?_
            rotate_left
            · intro w' hSw; (try dsimp only at hSw); go_simp; try with_reducible rfl
            try simp only [Act.put, List.setIfInBounds_toArray, List.set_cons_zero, List.set_cons_succ]
            refine wpAnyH_take (i := 10) (v := ?_) (by simp only [List.getElem?_toArray, List.getElem?_cons_succ, List.getElem?_cons_zero] <;> rfl) (by kernel_rfl) (by kernel_rfl) (by kernel_rfl) (by exact fun _ _ _ h => h) (Or.inl ⟨by kernel_rfl, ?_⟩) (by assumption) ?_
            rotate_left
            · intro w' hSw; (try dsimp only at hSw); go_simp; try with_reducible rfl
            try simp only [Act.put, List.setIfInBounds_toArray, List.set_cons_zero, List.set_cons_succ]
            refine wpAnyH_take (i := 11) (v := ?_) (by simp only [List.getElem?_toArray, List.getElem?_cons_succ, List.getElem?_cons_zero] <;> rfl) (by kernel_rfl) (by kernel_rfl) (by kernel_rfl) (by exact fun _ _ _ h => h) (Or.inl ⟨by kernel_rfl, ?_⟩) (by assumption) ?_
            rotate_left
            · intro w' hSw; (try dsimp only at hSw); go_simp; try with_reducible rfl
            try simp only [Act.put, List.setIfInBounds_toArray, List.set_cons_zero, List.set_cons_succ]
            refine wpAnyH_take (i := 12) (v := ?_) (by simp only [List.getElem?_toArray, List.getElem?_cons_succ, List.getElem?_cons_zero] <;> rfl) (by kernel_rfl) (by kernel_rfl) (by kernel_rfl) (by exact fun _ _ _ h => h) (Or.inl ⟨by kernel_rfl, ?_⟩) (by assumption) ?_
            rotate_left
            · intro w' hSw; (try dsimp only at hSw); go_simp; try with_reducible rfl
            try simp only [Act.put, List.setIfInBounds_toArray, List.set_cons_zero, List.set_cons_succ]
            refine wpAnyH_take (i := 13) (v := ?_) (by simp only [List.getElem?_toArray, List.getElem?_cons_succ, List.getElem?_cons_zero] <;> rfl) (by kernel_rfl) (by kernel_rfl) (by kernel_rfl) (by exact fun _ _ _ h => h) (Or.inl ⟨by kernel_rfl, ?_⟩) (by assumption) ?_
            rotate_left
            · intro w' hSw; (try dsimp only at hSw); go_simp; try with_reducible rfl
            try simp only [Act.put, List.setIfInBounds_toArray, List.set_cons_zero, List.set_cons_succ]
            refine wpAnyH_ready (rs := [14, 16]) (by kernel_rfl) (by simp) (AllReadyH.cons rfl (fun K hK => ?r46x0_1_2_3_4_5_6_7_8_9_10_11_12_13_14) (AllReadyH.cons rfl (fun K hK => ?r46x0_1_2_3_4_5_6_7_8_9_10_11_12_13_16) AllReadyH.nil))
            case' r46x0_1_2_3_4_5_6_7_8_9_10_11_12_13_14 =>
              go_simp
              (go_at_call 59; ((with_reducible refine (spec_l5At H.out (hwb0.trans inferInstance) TF.out.net (k : Int) HKK.out.1 HKK.out.2 TIK.out (p : Int) HKP.out.1 HKP.out.2).mono ?_); rw [HTT.out]; rintro e w14 ⟨rfl, L14⟩; have X14 := Later.trans (w := wb) inferInstance L14; have Y14 := Later.trans (w := w12) inferInstance L14; (first | (replace hbgx := hbgx.later L14; have hcx := (fun i => hbgx.cell i); have hfx := (fun i => hbgx.frozen i)) | skip)))
              refine hK.out _ _ (by exact ⟨inferInstance, inferInstance⟩) (fun hHeld => ?_)
              try simp only [Act.put, List.setIfInBounds_toArray, List.set_cons_zero, List.set_cons_succ]
              refine wpAnyH_take (i := 15) (v := ?_) (by simp only [List.getElem?_toArray, List.getElem?_cons_succ, List.getElem?_cons_zero] <;> rfl) (by kernel_rfl) (by kernel_rfl) (by kernel_rfl) (by exact fun _ _ _ h => h) (Or.inl ⟨by kernel_rfl, ?_⟩) (by assumption) ?_
              rotate_left
              · intro w' hSw; (try dsimp only at hSw); go_simp; try with_reducible rfl
              try simp only [Act.put, List.setIfInBounds_toArray, List.set_cons_zero, List.set_cons_succ]
              refine wpAnyH_ready (rs := [16]) (by kernel_rfl) (by simp) (AllReadyH.cons rfl (fun K hK => ?_) AllReadyH.nil)
              go_simp
              (first | (obtain ⟨wp, hwwp⟩ : ∃ W : World, W = (w12.alloc (.cells #[.int .i64 0, .int .i64 0, .int .i64 0, .int .i64 0] 101)).drew := ⟨_, rfl⟩; rw [← hwwp]; have hbgx : Blk wp w12.heap.size 101 #[.int .i64 0, .int .i64 0, .int .i64 0, .int .i64 0] := (by rw [hwwp]; exact Blk.new _ _ _); haveI hLwp : Later w12 wp := (by rw [hwwp]; infer_instance); have hywp := Later.trans (w := wb) inferInstance hLwp; have hGgx : w12.heap.size ≤ w12.heap.size := Nat.le_refl _; obtain ⟨gx, hgx⟩ : ∃ g : Nat, g = w12.heap.size := ⟨_, rfl⟩; rw [← hgx] at hbgx; rw [← hgx]; have hGgx : w12.heap.size ≤ gx := (by omega); haveI hNx : New w12 gx := ⟨hGgx⟩; clear hwwp hgx) | (obtain ⟨wp, hwwp⟩ : ∃ W : World, W = (w14.alloc (.cells #[.int .i64 0, .int .i64 0, .int .i64 0, .int .i64 0] 101)) := ⟨_, rfl⟩; rw [← hwwp]; have hbgx : Blk wp w14.heap.size 101 #[.int .i64 0, .int .i64 0, .int .i64 0, .int .i64 0] := (by rw [hwwp]; exact Blk.new _ _ _); haveI hLwp : Later w14 wp := (by rw [hwwp]; infer_instance); have hywp := Later.trans (w := wb) inferInstance hLwp; have hzwp := Later.trans (w := w12) inferInstance hLwp; have hGgx := Later.size (w := w12) (W := w14) inferInstance; obtain ⟨gx, hgx⟩ : ∃ g : Nat, g = w14.heap.size := ⟨_, rfl⟩; rw [← hgx] at hbgx hGgx; rw [← hgx]; haveI hNx : New w12 gx := ⟨hGgx⟩; have hcx := (fun i => hbgx.cell i); have hfx := (fun i => hbgx.frozen i); clear hwwp hgx))
              refine hK.out _ _ (by exact ⟨inferInstance, inferInstance⟩) (fun hHeld => ?_)
              try simp only [Act.put, List.setIfInBounds_toArray, List.set_cons_zero, List.set_cons_succ]
              refine wpAnyH_ready (rs := [17]) (by kernel_rfl) (by simp) (AllReadyH.cons rfl (fun K hK => ?_) AllReadyH.nil)
              go_simp
              (first | (obtain ⟨wf, hwf⟩ : ∃ W : World, W = ((((wp.setCell ⟨gx, 0, none⟩ (.int .i64 x.Id)).setCell ⟨gx, 1, none⟩ (.int .i64 s)).setCell ⟨gx, 2, none⟩ (.int .i64 p)).setCell ⟨gx, 3, none⟩ (.int .i64 τ)) := ⟨_, rfl⟩; rw [← hwf]; have hbX : Blk wf gx 101 #[.int .i64 X.Id, .int .i64 X.Stop, .int .i64 X.Place, .int .i64 X.Time] := (by rw [hwf, hXe]; exact hbgx.putC4); haveI hyf : Later w12 wf := (by rw [hwf]; infer_instance); haveI hzf := Later.trans (w := wb) inferInstance hyf; clear hwf hcx hfx) | (obtain ⟨wf, hwf⟩ : ∃ W : World, W = ((((w14.setCell ⟨gx, 0, none⟩ (.int .i64 x.Id)).setCell ⟨gx, 1, none⟩ (.int .i64 s)).setCell ⟨gx, 2, none⟩ (.int .i64 p)).setCell ⟨gx, 3, none⟩ (.int .i64 τ)) := ⟨_, rfl⟩; rw [← hwf]; have hbX : Blk wf gx 101 #[.int .i64 X.Id, .int .i64 X.Stop, .int .i64 X.Place, .int .i64 X.Time] := (by rw [hwf, hXe]; exact hbgx.putC4); haveI hyf : Later w12 wf := (by rw [hwf]; infer_instance); haveI hzf := Later.trans (w := wb) inferInstance hyf; clear hwf hcx hfx))
              refine hK.out _ _ (by exact ⟨inferInstance, inferInstance⟩) (fun hHeld => ?_)
              try simp only [Act.put, List.setIfInBounds_toArray, List.set_cons_zero, List.set_cons_succ]
              refine wpAnyH_done (by kernel_rfl) ?_ _
            case' r46x0_1_2_3_4_5_6_7_8_9_10_11_12_13_16 =>
              go_simp
              (first | (obtain ⟨wp, hwwp⟩ : ∃ W : World, W = (w12.alloc (.cells #[.int .i64 0, .int .i64 0, .int .i64 0, .int .i64 0] 101)).drew := ⟨_, rfl⟩; rw [← hwwp]; have hbgx : Blk wp w12.heap.size 101 #[.int .i64 0, .int .i64 0, .int .i64 0, .int .i64 0] := (by rw [hwwp]; exact Blk.new _ _ _); haveI hLwp : Later w12 wp := (by rw [hwwp]; infer_instance); have hywp := Later.trans (w := wb) inferInstance hLwp; have hGgx : w12.heap.size ≤ w12.heap.size := Nat.le_refl _; obtain ⟨gx, hgx⟩ : ∃ g : Nat, g = w12.heap.size := ⟨_, rfl⟩; rw [← hgx] at hbgx; rw [← hgx]; have hGgx : w12.heap.size ≤ gx := (by omega); haveI hNx : New w12 gx := ⟨hGgx⟩; clear hwwp hgx) | (obtain ⟨wp, hwwp⟩ : ∃ W : World, W = (w14.alloc (.cells #[.int .i64 0, .int .i64 0, .int .i64 0, .int .i64 0] 101)) := ⟨_, rfl⟩; rw [← hwwp]; have hbgx : Blk wp w14.heap.size 101 #[.int .i64 0, .int .i64 0, .int .i64 0, .int .i64 0] := (by rw [hwwp]; exact Blk.new _ _ _); haveI hLwp : Later w14 wp := (by rw [hwwp]; infer_instance); have hywp := Later.trans (w := wb) inferInstance hLwp; have hzwp := Later.trans (w := w12) inferInstance hLwp; have hGgx := Later.size (w := w12) (W := w14) inferInstance; obtain ⟨gx, hgx⟩ : ∃ g : Nat, g = w14.heap.size := ⟨_, rfl⟩; rw [← hgx] at hbgx hGgx; rw [← hgx]; haveI hNx : New w12 gx := ⟨hGgx⟩; have hcx := (fun i => hbgx.cell i); have hfx := (fun i => hbgx.frozen i); clear hwwp hgx))
              refine hK.out _ _ (by exact ⟨inferInstance, inferInstance⟩) (fun hHeld => ?_)
              try simp only [Act.put, List.setIfInBounds_toArray, List.set_cons_zero, List.set_cons_succ]
              refine wpAnyH_ready (rs := [14]) (by kernel_rfl) (by simp) (AllReadyH.cons rfl (fun K hK => ?_) AllReadyH.nil)
              go_simp
              (go_at_call 59; ((with_reducible refine (spec_l5At H.out (hwb0.trans inferInstance) TF.out.net (k : Int) HKK.out.1 HKK.out.2 TIK.out (p : Int) HKP.out.1 HKP.out.2).mono ?_); rw [HTT.out]; rintro e w14 ⟨rfl, L14⟩; have X14 := Later.trans (w := wb) inferInstance L14; have Y14 := Later.trans (w := w12) inferInstance L14; (first | (replace hbgx := hbgx.later L14; have hcx := (fun i => hbgx.cell i); have hfx := (fun i => hbgx.frozen i)) | skip)))
              refine hK.out _ _ (by exact ⟨inferInstance, inferInstance⟩) (fun hHeld => ?_)
              try simp only [Act.put, List.setIfInBounds_toArray, List.set_cons_zero, List.set_cons_succ]
              refine wpAnyH_take (i := 15) (v := ?_) (by simp only [List.getElem?_toArray, List.getElem?_cons_succ, List.getElem?_cons_zero] <;> rfl) (by kernel_rfl) (by kernel_rfl) (by kernel_rfl) (by exact fun _ _ _ h => h) (Or.inl ⟨by kernel_rfl, ?_⟩) (by assumption) ?_
              rotate_left
              · intro w' hSw; (try dsimp only at hSw); go_simp; try with_reducible rfl
              try simp only [Act.put, List.setIfInBounds_toArray, List.set_cons_zero, List.set_cons_succ]
              refine wpAnyH_ready (rs := [17]) (by kernel_rfl) (by simp) (AllReadyH.cons rfl (fun K hK => ?_) AllReadyH.nil)
              go_simp
              (first | (obtain ⟨wf, hwf⟩ : ∃ W : World, W = ((((wp.setCell ⟨gx, 0, none⟩ (.int .i64 x.Id)).setCell ⟨gx, 1, none⟩ (.int .i64 s)).setCell ⟨gx, 2, none⟩ (.int .i64 p)).setCell ⟨gx, 3, none⟩ (.int .i64 τ)) := ⟨_, rfl⟩; rw [← hwf]; have hbX : Blk wf gx 101 #[.int .i64 X.Id, .int .i64 X.Stop, .int .i64 X.Place, .int .i64 X.Time] := (by rw [hwf, hXe]; exact hbgx.putC4); haveI hyf : Later w12 wf := (by rw [hwf]; infer_instance); haveI hzf := Later.trans (w := wb) inferInstance hyf; clear hwf hcx hfx) | (obtain ⟨wf, hwf⟩ : ∃ W : World, W = ((((w14.setCell ⟨gx, 0, none⟩ (.int .i64 x.Id)).setCell ⟨gx, 1, none⟩ (.int .i64 s)).setCell ⟨gx, 2, none⟩ (.int .i64 p)).setCell ⟨gx, 3, none⟩ (.int .i64 τ)) := ⟨_, rfl⟩; rw [← hwf]; have hbX : Blk wf gx 101 #[.int .i64 X.Id, .int .i64 X.Stop, .int .i64 X.Place, .int .i64 X.Time] := (by rw [hwf, hXe]; exact hbgx.putC4); haveI hyf : Later w12 wf := (by rw [hwf]; infer_instance); haveI hzf := Later.trans (w := wb) inferInstance hyf; clear hwf hcx hfx))
              refine hK.out _ _ (by exact ⟨inferInstance, inferInstance⟩) (fun hHeld => ?_)
              try simp only [Act.put, List.setIfInBounds_toArray, List.set_cons_zero, List.set_cons_succ]
              refine wpAnyH_done (by kernel_rfl) ?_ _
            all_goals exact key wf gx inferInstance hbX
          intro w15 gx h1215 hbX
          haveI h1215i : Later w12 w15 := h1215
          haveI hb15 : Later wb w15 := Later.trans X12 h1215
          haveI h715 : Later w7 w15 := Later.trans K12 h1215
          haveI h515 : Later w5 w15 := Later.trans Z12 h1215
          obtain ⟨hq0, hq1, hq2, hq3⟩ := hbX.fourC
          replace HRC := Lib.hid (HRC.out.later h515)
          have HXE := Lib.hid hXe
          clear hbX HTT HKP HKK TIK hXe ht0 ht1 hc0 hc1 hc2 hcr hwp1
          go_wp2_with fail
          go_loopw [16] (fun av wr => ∃ j : Nat, j ≤ nL ∧ av = .int .i64 j ∧ Hid (posC L X nL = posC L X j) ∧ Later w15 wr) (fun av _ => (intOf av).toNat)
          case atStart => exact ⟨nL, Nat.le_refl _, rfl, rfl, inferInstance⟩
          case round =>
            obtain ⟨j, hj, rfl, HPO, h15r⟩ := hrel
            by_cases hj0 : j = 0
            · have hjn0 : ¬ (0 : Int) < j := by omega
              have hjd : decide ((0 : Int) < (j : Int)) = false := decide_eq_false hjn0
              have hjd2 : decide (0 < j) = false := decide_eq_false (by omega)
              have HAT : Hid (posC L X nL = j) := by show _ = _; rw [HPO.out, hj0]; rfl
              have HJ0 := Lib.hid hj0
              clear hj0 HPO
              go_wp2_with fail
              refine wp_region_held_drew (S := (fun w' => Later w15 w' ∧ Later wr w')) (by kernel_rfl) (by exact ⟨inferInstance, inferInstance⟩) (fun hHeld => ?_)
              refine wpAnyH_take (i := 0) (v := ?_) (by simp only [List.getElem?_toArray, List.getElem?_cons_zero] <;> rfl) (by kernel_rfl) (by kernel_rfl) (by kernel_rfl) (by exact fun _ _ _ h => h) (Or.inl ⟨by kernel_rfl, ?_⟩) (by assumption) ?_
              rotate_left
              · intro w' hSw; (try dsimp only at hSw); go_simp; try with_reducible rfl
              try simp only [Act.put, List.setIfInBounds_toArray, List.set_cons_zero, List.set_cons_succ]
              refine wpAnyH_take (i := 1) (v := ?_) (by simp only [List.getElem?_toArray, List.getElem?_cons_succ, List.getElem?_cons_zero] <;> rfl) (by kernel_rfl) (by kernel_rfl) (by kernel_rfl) (by exact fun _ _ _ h => h) (Or.inl ⟨by kernel_rfl, ?_⟩) (by assumption) ?_
              rotate_left
              · intro w' hSw; (try dsimp only at hSw); go_simp; try with_reducible rfl
              try simp only [Act.put, List.setIfInBounds_toArray, List.set_cons_zero, List.set_cons_succ]
              refine wpAnyH_take (i := 2) (v := ?_) (by simp only [List.getElem?_toArray, List.getElem?_cons_succ, List.getElem?_cons_zero] <;> rfl) (by kernel_rfl) (by kernel_rfl) (by kernel_rfl) (by exact fun _ _ _ h => h) (Or.inl ⟨by kernel_rfl, ?_⟩) (by assumption) ?_
              rotate_left
              · intro w' hSw; (try dsimp only at hSw); go_simp; try with_reducible rfl
              try simp only [Act.put, List.setIfInBounds_toArray, List.set_cons_zero, List.set_cons_succ]
              refine wpAnyH_take (i := 3) (v := undef) (by simp only [List.getElem?_toArray, List.getElem?_cons_succ, List.getElem?_cons_zero] <;> rfl) (by kernel_rfl) (by kernel_rfl) (by kernel_rfl) (by exact fun _ _ _ h => h) (Or.inr ⟨by kernel_rfl, rfl⟩) (by assumption) ?_
              try simp only [Act.put, List.setIfInBounds_toArray, List.set_cons_zero, List.set_cons_succ]
              refine wpAnyH_take (i := 4) (v := undef) (by simp only [List.getElem?_toArray, List.getElem?_cons_succ, List.getElem?_cons_zero] <;> rfl) (by kernel_rfl) (by kernel_rfl) (by kernel_rfl) (by exact fun _ _ _ h => h) (Or.inr ⟨by kernel_rfl, rfl⟩) (by assumption) ?_
              try simp only [Act.put, List.setIfInBounds_toArray, List.set_cons_zero, List.set_cons_succ]
              refine wpAnyH_take (i := 5) (v := undef) (by simp only [List.getElem?_toArray, List.getElem?_cons_succ, List.getElem?_cons_zero] <;> rfl) (by kernel_rfl) (by kernel_rfl) (by kernel_rfl) (by exact fun _ _ _ h => h) (Or.inr ⟨by kernel_rfl, rfl⟩) (by assumption) ?_
              try simp only [Act.put, List.setIfInBounds_toArray, List.set_cons_zero, List.set_cons_succ]
              refine wpAnyH_take (i := 6) (v := undef) (by simp only [List.getElem?_toArray, List.getElem?_cons_succ, List.getElem?_cons_zero] <;> rfl) (by kernel_rfl) (by kernel_rfl) (by kernel_rfl) (by exact fun _ _ _ h => h) (Or.inr ⟨by kernel_rfl, rfl⟩) (by assumption) ?_
              try simp only [Act.put, List.setIfInBounds_toArray, List.set_cons_zero, List.set_cons_succ]
              refine wpAnyH_take (i := 7) (v := undef) (by simp only [List.getElem?_toArray, List.getElem?_cons_succ, List.getElem?_cons_zero] <;> rfl) (by kernel_rfl) (by kernel_rfl) (by kernel_rfl) (by exact fun _ _ _ h => h) (Or.inr ⟨by kernel_rfl, rfl⟩) (by assumption) ?_
              try simp only [Act.put, List.setIfInBounds_toArray, List.set_cons_zero, List.set_cons_succ]
              refine wpAnyH_take (i := 8) (v := undef) (by simp only [List.getElem?_toArray, List.getElem?_cons_succ, List.getElem?_cons_zero] <;> rfl) (by kernel_rfl) (by kernel_rfl) (by kernel_rfl) (by exact fun _ _ _ h => h) (Or.inr ⟨by kernel_rfl, rfl⟩) (by assumption) ?_
              try simp only [Act.put, List.setIfInBounds_toArray, List.set_cons_zero, List.set_cons_succ]
              refine wpAnyH_take (i := 9) (v := undef) (by simp only [List.getElem?_toArray, List.getElem?_cons_succ, List.getElem?_cons_zero] <;> rfl) (by kernel_rfl) (by kernel_rfl) (by kernel_rfl) (by exact fun _ _ _ h => h) (Or.inr ⟨by kernel_rfl, rfl⟩) (by assumption) ?_
              try simp only [Act.put, List.setIfInBounds_toArray, List.set_cons_zero, List.set_cons_succ]
              refine wpAnyH_take (i := 10) (v := undef) (by simp only [List.getElem?_toArray, List.getElem?_cons_succ, List.getElem?_cons_zero] <;> rfl) (by kernel_rfl) (by kernel_rfl) (by kernel_rfl) (by exact fun _ _ _ h => h) (Or.inr ⟨by kernel_rfl, rfl⟩) (by assumption) ?_
              try simp only [Act.put, List.setIfInBounds_toArray, List.set_cons_zero, List.set_cons_succ]
              refine wpAnyH_take (i := 11) (v := undef) (by simp only [List.getElem?_toArray, List.getElem?_cons_succ, List.getElem?_cons_zero] <;> rfl) (by kernel_rfl) (by kernel_rfl) (by kernel_rfl) (by exact fun _ _ _ h => h) (Or.inr ⟨by kernel_rfl, rfl⟩) (by assumption) ?_
              try simp only [Act.put, List.setIfInBounds_toArray, List.set_cons_zero, List.set_cons_succ]
              refine wpAnyH_take (i := 12) (v := ?_) (by simp only [List.getElem?_toArray, List.getElem?_cons_succ, List.getElem?_cons_zero] <;> rfl) (by kernel_rfl) (by kernel_rfl) (by kernel_rfl) (by exact fun _ _ _ h => h) (Or.inl ⟨by kernel_rfl, ?_⟩) (by assumption) ?_
              rotate_left
              · intro w' hSw; (try dsimp only at hSw); go_simp; try with_reducible rfl
              try simp only [Act.put, List.setIfInBounds_toArray, List.set_cons_zero, List.set_cons_succ]
              refine wpAnyH_done (by kernel_rfl) ?_ _
              go_wp2_with fail
              clear hjd hjd2 hjn0
              obtain ⟨w16, hw16⟩ : ∃ W : World, W = wr.drew := ⟨_, rfl⟩
              rw [← hw16]
              haveI h1516 : Later w15 w16 := by rw [hw16]; infer_instance
              haveI hb16 : Later wb w16 := Later.trans (w := wb) inferInstance h1516
              haveI h716 : Later w7 w16 := Later.trans (w := w7) inferInstance h1516
              clear hw16
              have HSL := Lib.hid (RowC.sl HRC.out HNL.out hnc hcm HLOK.out)
              have HFr := Lib.hid (Sl.front_ HSL.out (k := j) (by omega))
              have HBk := Lib.hid (Sl.backZ HSL.out (k := j) (by omega))
              have hji : (j : Int) ≤ nL := by omega
              have hjc : (j : Int) ≤ c := by omega
              have hjn : j ≤ nL := by omega
              have HFL := Lib.hid (insC_flat (L := L) (x := X) (j := j) (by rw [← HNL.out]; exact HAT.out))
              by_cases hcj : c = j
              · have hnj : nL = j := by omega
                have HB2 : Hid (Sl 4 rConnection w15 (some ⟨g, 0, none⟩) (nL - j) (c - j) (L.drop j)) := Sl.backNil (by omega) (List.drop_eq_nil_of_le (by have := HNL.out; omega)) (by omega) (by omega)
                have HB3 : Hid (Sl 4 rConnection w15 (some ⟨g, 0, none⟩) (nL - j) 0 (L.drop j)) := Sl.backNil (by omega) (List.drop_eq_nil_of_le (by have := HNL.out; omega)) (by omega) (by omega)
                have HB4 : Hid (Sl 4 rConnection w15 (some ⟨g, 0, none⟩) 0 0 (L.drop j)) := Sl.backNil (by omega) (List.drop_eq_nil_of_le (by have := HNL.out; omega)) (by omega) (by omega)
                clear HBk
                subst hcj
                subst hnj
                go_wp2_with fail
                refine wp_region_held_drew (S := (fun w' => Later w15 w' ∧ Later w16 w')) (by kernel_rfl) (by exact ⟨inferInstance, inferInstance⟩) (fun hHeld => ?_)
                refine wpAnyH_take (i := 1) (v := ?_) (by simp only [List.getElem?_toArray, List.getElem?_cons_succ, List.getElem?_cons_zero] <;> rfl) (by kernel_rfl) (by kernel_rfl) (by kernel_rfl) (by exact fun _ _ _ h => h) (Or.inl ⟨by kernel_rfl, ?_⟩) (by assumption) ?_
                rotate_left
                · intro w' hSw; (try dsimp only at hSw); go_simp; try with_reducible rfl
                try simp only [Act.put, List.setIfInBounds_toArray, List.set_cons_zero, List.set_cons_succ]
                refine wpAnyH_take (i := 2) (v := ?_) (by simp only [List.getElem?_toArray, List.getElem?_cons_succ, List.getElem?_cons_zero] <;> rfl) (by kernel_rfl) (by kernel_rfl) (by kernel_rfl) (by exact fun _ _ _ h => h) (Or.inl ⟨by kernel_rfl, ?_⟩) (by assumption) ?_
                rotate_left
                · intro w' hSw; (try dsimp only at hSw); go_simp; try with_reducible rfl
                try simp only [Act.put, List.setIfInBounds_toArray, List.set_cons_zero, List.set_cons_succ]
                refine wpAnyH_take (i := 3) (v := ?_) (by simp only [List.getElem?_toArray, List.getElem?_cons_succ, List.getElem?_cons_zero] <;> rfl) (by kernel_rfl) (by kernel_rfl) (by kernel_rfl) (by exact fun _ _ _ h => h) (Or.inl ⟨by kernel_rfl, ?_⟩) (by assumption) ?_
                rotate_left
                · intro w' hSw; (try dsimp only at hSw); go_simp; try with_reducible rfl
                try simp only [Act.put, List.setIfInBounds_toArray, List.set_cons_zero, List.set_cons_succ]
                refine wpAnyH_take (i := 5) (v := ?_) (by simp only [List.getElem?_toArray, List.getElem?_cons_succ, List.getElem?_cons_zero] <;> rfl) (by kernel_rfl) (by kernel_rfl) (by kernel_rfl) (by exact fun _ _ _ h => h) (Or.inl ⟨by kernel_rfl, ?_⟩) (by assumption) ?_
                rotate_left
                · intro w' hSw; (try dsimp only at hSw); go_simp; try with_reducible rfl
                try simp only [Act.put, List.setIfInBounds_toArray, List.set_cons_zero, List.set_cons_succ]
                refine wpAnyH_take (i := 8) (v := ?_) (by simp only [List.getElem?_toArray, List.getElem?_cons_succ, List.getElem?_cons_zero] <;> rfl) (by kernel_rfl) (by kernel_rfl) (by kernel_rfl) (by exact fun _ _ _ h => h) (Or.inl ⟨by kernel_rfl, ?_⟩) (by assumption) ?_
                rotate_left
                · intro w' hSw; (try dsimp only at hSw); go_simp; try with_reducible rfl
                try simp only [Act.put, List.setIfInBounds_toArray, List.set_cons_zero, List.set_cons_succ]
                refine wpAnyH_take (i := 9) (v := ?_) (by simp only [List.getElem?_toArray, List.getElem?_cons_succ, List.getElem?_cons_zero] <;> rfl) (by kernel_rfl) (by kernel_rfl) (by kernel_rfl) (by exact fun _ _ _ h => h) (Or.inl ⟨by kernel_rfl, ?_⟩) (by assumption) ?_
                rotate_left
                · intro w' hSw; (try dsimp only at hSw); go_simp; try with_reducible rfl
                try simp only [Act.put, List.setIfInBounds_toArray, List.set_cons_zero, List.set_cons_succ]
                refine wpAnyH_take (i := 10) (v := ?_) (by simp only [List.getElem?_toArray, List.getElem?_cons_succ, List.getElem?_cons_zero] <;> rfl) (by kernel_rfl) (by kernel_rfl) (by kernel_rfl) (by exact fun _ _ _ h => h) (Or.inl ⟨by kernel_rfl, ?_⟩) (by assumption) ?_
                rotate_left
                · intro w' hSw; (try dsimp only at hSw); go_simp; try with_reducible rfl
                try simp only [Act.put, List.setIfInBounds_toArray, List.set_cons_zero, List.set_cons_succ]
                refine wpAnyH_ready (rs := [0, 6]) (by kernel_rfl) (by simp) (AllReadyH.cons rfl (fun K hK => ?r48x1_2_3_5_8_9_10_0) (AllReadyH.cons rfl (fun K hK => ?r48x1_2_3_5_8_9_10_6) AllReadyH.nil))
                case' r48x1_2_3_5_8_9_10_0 =>
                  go_simp
                  skip
                  refine hK.out _ _ (by exact ⟨inferInstance, inferInstance⟩) (fun hHeld => ?_)
                  try simp only [Act.put, List.setIfInBounds_toArray, List.set_cons_zero, List.set_cons_succ]
                  refine wpAnyH_ready (rs := [4, 6]) (by kernel_rfl) (by simp) (AllReadyH.cons rfl (fun K hK => ?r48x0_1_2_3_5_8_9_10_4) (AllReadyH.cons rfl (fun K hK => ?r48x0_1_2_3_5_8_9_10_6) AllReadyH.nil))
                  case' r48x0_1_2_3_5_8_9_10_4 =>
                    refine wp_app_F (r := rConnection) (w0 := w16) (base := w16.heap.size) _ _ 54 rfl Try.underlying54 infoCn rfl (by decide) (by decide) (v := .slice (some ⟨_, 0, none⟩) 0 0) (n := 0) (xs := []) rfl (own_litC (by first | exact heap_new (by simp) | exact (heap_old (by simp)).trans (heap_new (by simp))) (by first | (simp; omega) | omega)) inferInstance (Nat.le_refl _) (Later.size (w := w16) inferInstance) rfl (HFr.out.later inferInstance) (by omega) ?_; intro v1 w11 hown1 hX1 hG1; (first | (have h6 : Blk w11 (w16.heap.size + 1) 101 #[.int .i64 X.Id, .int .i64 X.Stop, .int .i64 X.Place, .int .i64 X.Time] := blk_grown (by exact heap_new (by simp)) hG1 (fun k hk => by simp [Value.ownBlock] at hk; omega)) | (have h6 : Blk w11 w16.heap.size 101 #[.int .i64 X.Id, .int .i64 X.Stop, .int .i64 X.Place, .int .i64 X.Time] := blk_grown (by exact (heap_old (by simp)).trans (heap_new (by simp))) hG1 (fun k hk => by simp [Value.ownBlock] at hk; omega)) | skip); haveI hX1i := hX1; haveI hX115 := Later.trans (w := w15) inferInstance hX1
                    refine hK.out _ _ (by exact ⟨inferInstance, inferInstance⟩) (fun hHeld => ?_)
                    try simp only [Act.put, List.setIfInBounds_toArray, List.set_cons_zero, List.set_cons_succ]
                    refine wpAnyH_ready (rs := [6]) (by kernel_rfl) (by simp) (AllReadyH.cons rfl (fun K hK => ?_) AllReadyH.nil)
                    go_simp
                    skip
                    refine hK.out _ _ (by exact ⟨inferInstance, inferInstance⟩) (fun hHeld => ?_)
                    try simp only [Act.put, List.setIfInBounds_toArray, List.set_cons_zero, List.set_cons_succ]
                    refine wpAnyH_ready (rs := [7]) (by kernel_rfl) (by simp) (AllReadyH.cons rfl (fun K hK => ?_) AllReadyH.nil)
                    refine wp_app_F (r := rConnection) (w0 := w16) (base := w16.heap.size) _ _ 54 rfl Try.underlying54 infoCn rfl (by decide) (by decide) (l := [X]) rfl (by exact ownsRow_later hown1 (inferInstance : Later w11 _)) inferInstance (Nat.le_refl _) (Later.size (w := w16) inferInstance) rfl (conn_lit (t := 101) (by first | exact h6 | exact heap_new (by simp)) HXOK.out) (by omega) ?_; intro v2 w12 hown2 hX2 hG2; haveI hX2i := hX2; haveI hX215 := Later.trans (w := w15) inferInstance hX2
                    refine hK.out _ _ (by exact ⟨inferInstance, inferInstance⟩) (fun hHeld => ?_)
                    try simp only [Act.put, List.setIfInBounds_toArray, List.set_cons_zero, List.set_cons_succ]
                    refine wpAnyH_ready (rs := [11]) (by kernel_rfl) (by simp) (AllReadyH.cons rfl (fun K hK => ?_) AllReadyH.nil)
                    refine wp_app_F (r := rConnection) (w0 := w16) (base := w16.heap.size) _ _ 54 rfl Try.underlying54 infoCn rfl (by decide) (by decide) rfl (by exact ownsRow_later hown2 (inferInstance : Later w12 _)) inferInstance (Nat.le_refl _) (Later.size (w := w16) inferInstance) rfl (by first | exact HB2.out.later inferInstance | exact HB3.out.later inferInstance | exact HB4.out.later inferInstance) (by omega) ?_; intro v3 w13 hown3 hX3 hG3; haveI hX3i := hX3; haveI hX315 := Later.trans (w := w15) inferInstance hX3
                    refine hK.out _ _ (by exact ⟨inferInstance, inferInstance⟩) (fun hHeld => ?_)
                    try simp only [Act.put, List.setIfInBounds_toArray, List.set_cons_zero, List.set_cons_succ]
                    refine wpAnyH_take (i := 12) (v := ?_) (by simp only [List.getElem?_toArray, List.getElem?_cons_succ, List.getElem?_cons_zero] <;> rfl) (by kernel_rfl) (by kernel_rfl) (by kernel_rfl) (by exact fun _ _ _ h => h) (Or.inl ⟨by kernel_rfl, ?_⟩) (by assumption) ?_
                    rotate_left
                    · intro w' hSw; (try dsimp only at hSw); go_simp; try with_reducible rfl
                    try simp only [Act.put, List.setIfInBounds_toArray, List.set_cons_zero, List.set_cons_succ]
                    refine wpAnyH_done (by kernel_rfl) ?_ _
                  case' r48x0_1_2_3_5_8_9_10_6 =>
                    go_simp
                    skip
                    refine hK.out _ _ (by exact ⟨inferInstance, inferInstance⟩) (fun hHeld => ?_)
                    try simp only [Act.put, List.setIfInBounds_toArray, List.set_cons_zero, List.set_cons_succ]
                    refine wpAnyH_ready (rs := [4]) (by kernel_rfl) (by simp) (AllReadyH.cons rfl (fun K hK => ?_) AllReadyH.nil)
                    refine wp_app_F (r := rConnection) (w0 := w16) (base := w16.heap.size) _ _ 54 rfl Try.underlying54 infoCn rfl (by decide) (by decide) (v := .slice (some ⟨_, 0, none⟩) 0 0) (n := 0) (xs := []) rfl (own_litC (by first | exact heap_new (by simp) | exact (heap_old (by simp)).trans (heap_new (by simp))) (by first | (simp; omega) | omega)) inferInstance (Nat.le_refl _) (Later.size (w := w16) inferInstance) rfl (HFr.out.later inferInstance) (by omega) ?_; intro v1 w11 hown1 hX1 hG1; (first | (have h6 : Blk w11 (w16.heap.size + 1) 101 #[.int .i64 X.Id, .int .i64 X.Stop, .int .i64 X.Place, .int .i64 X.Time] := blk_grown (by exact heap_new (by simp)) hG1 (fun k hk => by simp [Value.ownBlock] at hk; omega)) | (have h6 : Blk w11 w16.heap.size 101 #[.int .i64 X.Id, .int .i64 X.Stop, .int .i64 X.Place, .int .i64 X.Time] := blk_grown (by exact (heap_old (by simp)).trans (heap_new (by simp))) hG1 (fun k hk => by simp [Value.ownBlock] at hk; omega)) | skip); haveI hX1i := hX1; haveI hX115 := Later.trans (w := w15) inferInstance hX1
                    refine hK.out _ _ (by exact ⟨inferInstance, inferInstance⟩) (fun hHeld => ?_)
                    try simp only [Act.put, List.setIfInBounds_toArray, List.set_cons_zero, List.set_cons_succ]
                    refine wpAnyH_ready (rs := [7]) (by kernel_rfl) (by simp) (AllReadyH.cons rfl (fun K hK => ?_) AllReadyH.nil)
                    refine wp_app_F (r := rConnection) (w0 := w16) (base := w16.heap.size) _ _ 54 rfl Try.underlying54 infoCn rfl (by decide) (by decide) (l := [X]) rfl (by exact ownsRow_later hown1 (inferInstance : Later w11 _)) inferInstance (Nat.le_refl _) (Later.size (w := w16) inferInstance) rfl (conn_lit (t := 101) (by first | exact h6 | exact heap_new (by simp)) HXOK.out) (by omega) ?_; intro v2 w12 hown2 hX2 hG2; haveI hX2i := hX2; haveI hX215 := Later.trans (w := w15) inferInstance hX2
                    refine hK.out _ _ (by exact ⟨inferInstance, inferInstance⟩) (fun hHeld => ?_)
                    try simp only [Act.put, List.setIfInBounds_toArray, List.set_cons_zero, List.set_cons_succ]
                    refine wpAnyH_ready (rs := [11]) (by kernel_rfl) (by simp) (AllReadyH.cons rfl (fun K hK => ?_) AllReadyH.nil)
                    refine wp_app_F (r := rConnection) (w0 := w16) (base := w16.heap.size) _ _ 54 rfl Try.underlying54 infoCn rfl (by decide) (by decide) rfl (by exact ownsRow_later hown2 (inferInstance : Later w12 _)) inferInstance (Nat.le_refl _) (Later.size (w := w16) inferInstance) rfl (by first | exact HB2.out.later inferInstance | exact HB3.out.later inferInstance | exact HB4.out.later inferInstance) (by omega) ?_; intro v3 w13 hown3 hX3 hG3; haveI hX3i := hX3; haveI hX315 := Later.trans (w := w15) inferInstance hX3
                    refine hK.out _ _ (by exact ⟨inferInstance, inferInstance⟩) (fun hHeld => ?_)
                    try simp only [Act.put, List.setIfInBounds_toArray, List.set_cons_zero, List.set_cons_succ]
                    refine wpAnyH_take (i := 12) (v := ?_) (by simp only [List.getElem?_toArray, List.getElem?_cons_succ, List.getElem?_cons_zero] <;> rfl) (by kernel_rfl) (by kernel_rfl) (by kernel_rfl) (by exact fun _ _ _ h => h) (Or.inl ⟨by kernel_rfl, ?_⟩) (by assumption) ?_
                    rotate_left
                    · intro w' hSw; (try dsimp only at hSw); go_simp; try with_reducible rfl
                    try simp only [Act.put, List.setIfInBounds_toArray, List.set_cons_zero, List.set_cons_succ]
                    refine wpAnyH_done (by kernel_rfl) ?_ _
                case' r48x1_2_3_5_8_9_10_6 =>
                  go_simp
                  skip
                  refine hK.out _ _ (by exact ⟨inferInstance, inferInstance⟩) (fun hHeld => ?_)
                  try simp only [Act.put, List.setIfInBounds_toArray, List.set_cons_zero, List.set_cons_succ]
                  refine wpAnyH_ready (rs := [0]) (by kernel_rfl) (by simp) (AllReadyH.cons rfl (fun K hK => ?_) AllReadyH.nil)
                  go_simp
                  skip
                  refine hK.out _ _ (by exact ⟨inferInstance, inferInstance⟩) (fun hHeld => ?_)
                  try simp only [Act.put, List.setIfInBounds_toArray, List.set_cons_zero, List.set_cons_succ]
                  refine wpAnyH_ready (rs := [4]) (by kernel_rfl) (by simp) (AllReadyH.cons rfl (fun K hK => ?_) AllReadyH.nil)
                  refine wp_app_F (r := rConnection) (w0 := w16) (base := w16.heap.size) _ _ 54 rfl Try.underlying54 infoCn rfl (by decide) (by decide) (v := .slice (some ⟨_, 0, none⟩) 0 0) (n := 0) (xs := []) rfl (own_litC (by first | exact heap_new (by simp) | exact (heap_old (by simp)).trans (heap_new (by simp))) (by first | (simp; omega) | omega)) inferInstance (Nat.le_refl _) (Later.size (w := w16) inferInstance) rfl (HFr.out.later inferInstance) (by omega) ?_; intro v1 w11 hown1 hX1 hG1; (first | (have h6 : Blk w11 (w16.heap.size + 1) 101 #[.int .i64 X.Id, .int .i64 X.Stop, .int .i64 X.Place, .int .i64 X.Time] := blk_grown (by exact heap_new (by simp)) hG1 (fun k hk => by simp [Value.ownBlock] at hk; omega)) | (have h6 : Blk w11 w16.heap.size 101 #[.int .i64 X.Id, .int .i64 X.Stop, .int .i64 X.Place, .int .i64 X.Time] := blk_grown (by exact (heap_old (by simp)).trans (heap_new (by simp))) hG1 (fun k hk => by simp [Value.ownBlock] at hk; omega)) | skip); haveI hX1i := hX1; haveI hX115 := Later.trans (w := w15) inferInstance hX1
                  refine hK.out _ _ (by exact ⟨inferInstance, inferInstance⟩) (fun hHeld => ?_)
                  try simp only [Act.put, List.setIfInBounds_toArray, List.set_cons_zero, List.set_cons_succ]
                  refine wpAnyH_ready (rs := [7]) (by kernel_rfl) (by simp) (AllReadyH.cons rfl (fun K hK => ?_) AllReadyH.nil)
                  refine wp_app_F (r := rConnection) (w0 := w16) (base := w16.heap.size) _ _ 54 rfl Try.underlying54 infoCn rfl (by decide) (by decide) (l := [X]) rfl (by exact ownsRow_later hown1 (inferInstance : Later w11 _)) inferInstance (Nat.le_refl _) (Later.size (w := w16) inferInstance) rfl (conn_lit (t := 101) (by first | exact h6 | exact heap_new (by simp)) HXOK.out) (by omega) ?_; intro v2 w12 hown2 hX2 hG2; haveI hX2i := hX2; haveI hX215 := Later.trans (w := w15) inferInstance hX2
                  refine hK.out _ _ (by exact ⟨inferInstance, inferInstance⟩) (fun hHeld => ?_)
                  try simp only [Act.put, List.setIfInBounds_toArray, List.set_cons_zero, List.set_cons_succ]
                  refine wpAnyH_ready (rs := [11]) (by kernel_rfl) (by simp) (AllReadyH.cons rfl (fun K hK => ?_) AllReadyH.nil)
                  refine wp_app_F (r := rConnection) (w0 := w16) (base := w16.heap.size) _ _ 54 rfl Try.underlying54 infoCn rfl (by decide) (by decide) rfl (by exact ownsRow_later hown2 (inferInstance : Later w12 _)) inferInstance (Nat.le_refl _) (Later.size (w := w16) inferInstance) rfl (by first | exact HB2.out.later inferInstance | exact HB3.out.later inferInstance | exact HB4.out.later inferInstance) (by omega) ?_; intro v3 w13 hown3 hX3 hG3; haveI hX3i := hX3; haveI hX315 := Later.trans (w := w15) inferInstance hX3
                  refine hK.out _ _ (by exact ⟨inferInstance, inferInstance⟩) (fun hHeld => ?_)
                  try simp only [Act.put, List.setIfInBounds_toArray, List.set_cons_zero, List.set_cons_succ]
                  refine wpAnyH_take (i := 12) (v := ?_) (by simp only [List.getElem?_toArray, List.getElem?_cons_succ, List.getElem?_cons_zero] <;> rfl) (by kernel_rfl) (by kernel_rfl) (by kernel_rfl) (by exact fun _ _ _ h => h) (Or.inl ⟨by kernel_rfl, ?_⟩) (by assumption) ?_
                  rotate_left
                  · intro w' hSw; (try dsimp only at hSw); go_simp; try with_reducible rfl
                  try simp only [Act.put, List.setIfInBounds_toArray, List.set_cons_zero, List.set_cons_succ]
                  refine wpAnyH_done (by kernel_rfl) ?_ _
                all_goals
                  have HOW := Lib.hid (own_eqF (m := nL + 1) hown3 (by omega) HFL.out.symm)
                  clear hown1 hown2 hown3 hG1 hG2 hG3
                  obtain ⟨g3, c3, rfl, hRC3, hgD, hnc3, hcm3⟩ := RowC.of_own HOW.out (by rw [insC_len]; have := HNL.out; omega) (by omega)
                  have HRC3 := Lib.hid hRC3
                  clear hRC3 HOW
                  haveI hb13 : Later wb w13 := Later.trans (w := wb) inferInstance hX315
                  haveI h713 : Later w7 w13 := Later.trans (w := w7) inferInstance hX315
                  go_wp2
                  go_roundw
                  case rel => exact ⟨k + 1, g3, nL + 1, c3, insC L X, by omega, by go_num, rfl, by omega, hnc3, hcm3, HNEW, by show _ = _; rw [insC_len, HNL.out], HRC3, by have := Later.size (w := wb) (W := w16) inferInstance; omega, inferInstance, inferInstance⟩
                  case measure => simp [intOf]; omega
              · have HB2 : Hid (Sl 4 rConnection w15 (some ⟨g, 0 + j * 4, none⟩) (nL - j) (c - j) (L.drop j)) := HBk.out
                have HB3 : Hid (Sl 4 rConnection w15 (some ⟨g, j * 4, none⟩) (nL - j) (c - j) (L.drop j)) := by have h9 := HBk.out; rw [Nat.zero_add] at h9; exact h9
                clear HBk
                go_wp2_with fail
                refine wp_region_held_drew (S := (fun w' => Later w15 w' ∧ Later w16 w')) (by kernel_rfl) (by exact ⟨inferInstance, inferInstance⟩) (fun hHeld => ?_)
                refine wpAnyH_take (i := 1) (v := ?_) (by simp only [List.getElem?_toArray, List.getElem?_cons_succ, List.getElem?_cons_zero] <;> rfl) (by kernel_rfl) (by kernel_rfl) (by kernel_rfl) (by exact fun _ _ _ h => h) (Or.inl ⟨by kernel_rfl, ?_⟩) (by assumption) ?_
                rotate_left
                · intro w' hSw; (try dsimp only at hSw); go_simp; try with_reducible rfl
                try simp only [Act.put, List.setIfInBounds_toArray, List.set_cons_zero, List.set_cons_succ]
                refine wpAnyH_take (i := 2) (v := ?_) (by simp only [List.getElem?_toArray, List.getElem?_cons_succ, List.getElem?_cons_zero] <;> rfl) (by kernel_rfl) (by kernel_rfl) (by kernel_rfl) (by exact fun _ _ _ h => h) (Or.inl ⟨by kernel_rfl, ?_⟩) (by assumption) ?_
                rotate_left
                · intro w' hSw; (try dsimp only at hSw); go_simp; try with_reducible rfl
                try simp only [Act.put, List.setIfInBounds_toArray, List.set_cons_zero, List.set_cons_succ]
                refine wpAnyH_take (i := 3) (v := ?_) (by simp only [List.getElem?_toArray, List.getElem?_cons_succ, List.getElem?_cons_zero] <;> rfl) (by kernel_rfl) (by kernel_rfl) (by kernel_rfl) (by exact fun _ _ _ h => h) (Or.inl ⟨by kernel_rfl, ?_⟩) (by assumption) ?_
                rotate_left
                · intro w' hSw; (try dsimp only at hSw); go_simp; try with_reducible rfl
                try simp only [Act.put, List.setIfInBounds_toArray, List.set_cons_zero, List.set_cons_succ]
                refine wpAnyH_take (i := 5) (v := ?_) (by simp only [List.getElem?_toArray, List.getElem?_cons_succ, List.getElem?_cons_zero] <;> rfl) (by kernel_rfl) (by kernel_rfl) (by kernel_rfl) (by exact fun _ _ _ h => h) (Or.inl ⟨by kernel_rfl, ?_⟩) (by assumption) ?_
                rotate_left
                · intro w' hSw; (try dsimp only at hSw); go_simp; try with_reducible rfl
                try simp only [Act.put, List.setIfInBounds_toArray, List.set_cons_zero, List.set_cons_succ]
                refine wpAnyH_take (i := 8) (v := ?_) (by simp only [List.getElem?_toArray, List.getElem?_cons_succ, List.getElem?_cons_zero] <;> rfl) (by kernel_rfl) (by kernel_rfl) (by kernel_rfl) (by exact fun _ _ _ h => h) (Or.inl ⟨by kernel_rfl, ?_⟩) (by assumption) ?_
                rotate_left
                · intro w' hSw; (try dsimp only at hSw); go_simp; try with_reducible rfl
                try simp only [Act.put, List.setIfInBounds_toArray, List.set_cons_zero, List.set_cons_succ]
                refine wpAnyH_take (i := 9) (v := ?_) (by simp only [List.getElem?_toArray, List.getElem?_cons_succ, List.getElem?_cons_zero] <;> rfl) (by kernel_rfl) (by kernel_rfl) (by kernel_rfl) (by exact fun _ _ _ h => h) (Or.inl ⟨by kernel_rfl, ?_⟩) (by assumption) ?_
                rotate_left
                · intro w' hSw; (try dsimp only at hSw); go_simp; try with_reducible rfl
                try simp only [Act.put, List.setIfInBounds_toArray, List.set_cons_zero, List.set_cons_succ]
                refine wpAnyH_take (i := 10) (v := ?_) (by simp only [List.getElem?_toArray, List.getElem?_cons_succ, List.getElem?_cons_zero] <;> rfl) (by kernel_rfl) (by kernel_rfl) (by kernel_rfl) (by exact fun _ _ _ h => h) (Or.inl ⟨by kernel_rfl, ?_⟩) (by assumption) ?_
                rotate_left
                · intro w' hSw; (try dsimp only at hSw); go_simp; try with_reducible rfl
                try simp only [Act.put, List.setIfInBounds_toArray, List.set_cons_zero, List.set_cons_succ]
                refine wpAnyH_ready (rs := [0, 6]) (by kernel_rfl) (by simp) (AllReadyH.cons rfl (fun K hK => ?r49x1_2_3_5_8_9_10_0) (AllReadyH.cons rfl (fun K hK => ?r49x1_2_3_5_8_9_10_6) AllReadyH.nil))
                case' r49x1_2_3_5_8_9_10_0 =>
                  go_simp
                  skip
                  refine hK.out _ _ (by exact ⟨inferInstance, inferInstance⟩) (fun hHeld => ?_)
                  try simp only [Act.put, List.setIfInBounds_toArray, List.set_cons_zero, List.set_cons_succ]
                  refine wpAnyH_ready (rs := [4, 6]) (by kernel_rfl) (by simp) (AllReadyH.cons rfl (fun K hK => ?r49x0_1_2_3_5_8_9_10_4) (AllReadyH.cons rfl (fun K hK => ?r49x0_1_2_3_5_8_9_10_6) AllReadyH.nil))
                  case' r49x0_1_2_3_5_8_9_10_4 =>
                    refine wp_app_F (r := rConnection) (w0 := w16) (base := w16.heap.size) _ _ 54 rfl Try.underlying54 infoCn rfl (by decide) (by decide) (v := .slice (some ⟨_, 0, none⟩) 0 0) (n := 0) (xs := []) rfl (own_litC (by first | exact heap_new (by simp) | exact (heap_old (by simp)).trans (heap_new (by simp))) (by first | (simp; omega) | omega)) inferInstance (Nat.le_refl _) (Later.size (w := w16) inferInstance) rfl (HFr.out.later inferInstance) (by omega) ?_; intro v1 w11 hown1 hX1 hG1; (first | (have h6 : Blk w11 (w16.heap.size + 1) 101 #[.int .i64 X.Id, .int .i64 X.Stop, .int .i64 X.Place, .int .i64 X.Time] := blk_grown (by exact heap_new (by simp)) hG1 (fun k hk => by simp [Value.ownBlock] at hk; omega)) | (have h6 : Blk w11 w16.heap.size 101 #[.int .i64 X.Id, .int .i64 X.Stop, .int .i64 X.Place, .int .i64 X.Time] := blk_grown (by exact (heap_old (by simp)).trans (heap_new (by simp))) hG1 (fun k hk => by simp [Value.ownBlock] at hk; omega)) | skip); haveI hX1i := hX1; haveI hX115 := Later.trans (w := w15) inferInstance hX1
                    refine hK.out _ _ (by exact ⟨inferInstance, inferInstance⟩) (fun hHeld => ?_)
                    try simp only [Act.put, List.setIfInBounds_toArray, List.set_cons_zero, List.set_cons_succ]
                    refine wpAnyH_ready (rs := [6]) (by kernel_rfl) (by simp) (AllReadyH.cons rfl (fun K hK => ?_) AllReadyH.nil)
                    go_simp
                    skip
                    refine hK.out _ _ (by exact ⟨inferInstance, inferInstance⟩) (fun hHeld => ?_)
                    try simp only [Act.put, List.setIfInBounds_toArray, List.set_cons_zero, List.set_cons_succ]
                    refine wpAnyH_ready (rs := [7]) (by kernel_rfl) (by simp) (AllReadyH.cons rfl (fun K hK => ?_) AllReadyH.nil)
                    refine wp_app_F (r := rConnection) (w0 := w16) (base := w16.heap.size) _ _ 54 rfl Try.underlying54 infoCn rfl (by decide) (by decide) (l := [X]) rfl (by exact ownsRow_later hown1 (inferInstance : Later w11 _)) inferInstance (Nat.le_refl _) (Later.size (w := w16) inferInstance) rfl (conn_lit (t := 101) (by first | exact h6 | exact heap_new (by simp)) HXOK.out) (by omega) ?_; intro v2 w12 hown2 hX2 hG2; haveI hX2i := hX2; haveI hX215 := Later.trans (w := w15) inferInstance hX2
                    refine hK.out _ _ (by exact ⟨inferInstance, inferInstance⟩) (fun hHeld => ?_)
                    try simp only [Act.put, List.setIfInBounds_toArray, List.set_cons_zero, List.set_cons_succ]
                    refine wpAnyH_ready (rs := [11]) (by kernel_rfl) (by simp) (AllReadyH.cons rfl (fun K hK => ?_) AllReadyH.nil)
                    refine wp_app_F (r := rConnection) (w0 := w16) (base := w16.heap.size) _ _ 54 rfl Try.underlying54 infoCn rfl (by decide) (by decide) rfl (by exact ownsRow_later hown2 (inferInstance : Later w12 _)) inferInstance (Nat.le_refl _) (Later.size (w := w16) inferInstance) rfl (by first | exact HB2.out.later inferInstance | exact HB3.out.later inferInstance | exact HB4.out.later inferInstance) (by omega) ?_; intro v3 w13 hown3 hX3 hG3; haveI hX3i := hX3; haveI hX315 := Later.trans (w := w15) inferInstance hX3
                    refine hK.out _ _ (by exact ⟨inferInstance, inferInstance⟩) (fun hHeld => ?_)
                    try simp only [Act.put, List.setIfInBounds_toArray, List.set_cons_zero, List.set_cons_succ]
                    refine wpAnyH_take (i := 12) (v := ?_) (by simp only [List.getElem?_toArray, List.getElem?_cons_succ, List.getElem?_cons_zero] <;> rfl) (by kernel_rfl) (by kernel_rfl) (by kernel_rfl) (by exact fun _ _ _ h => h) (Or.inl ⟨by kernel_rfl, ?_⟩) (by assumption) ?_
                    rotate_left
                    · intro w' hSw; (try dsimp only at hSw); go_simp; try with_reducible rfl
                    try simp only [Act.put, List.setIfInBounds_toArray, List.set_cons_zero, List.set_cons_succ]
                    refine wpAnyH_done (by kernel_rfl) ?_ _
                  case' r49x0_1_2_3_5_8_9_10_6 =>
                    go_simp
                    skip
                    refine hK.out _ _ (by exact ⟨inferInstance, inferInstance⟩) (fun hHeld => ?_)
                    try simp only [Act.put, List.setIfInBounds_toArray, List.set_cons_zero, List.set_cons_succ]
                    refine wpAnyH_ready (rs := [4]) (by kernel_rfl) (by simp) (AllReadyH.cons rfl (fun K hK => ?_) AllReadyH.nil)
                    refine wp_app_F (r := rConnection) (w0 := w16) (base := w16.heap.size) _ _ 54 rfl Try.underlying54 infoCn rfl (by decide) (by decide) (v := .slice (some ⟨_, 0, none⟩) 0 0) (n := 0) (xs := []) rfl (own_litC (by first | exact heap_new (by simp) | exact (heap_old (by simp)).trans (heap_new (by simp))) (by first | (simp; omega) | omega)) inferInstance (Nat.le_refl _) (Later.size (w := w16) inferInstance) rfl (HFr.out.later inferInstance) (by omega) ?_; intro v1 w11 hown1 hX1 hG1; (first | (have h6 : Blk w11 (w16.heap.size + 1) 101 #[.int .i64 X.Id, .int .i64 X.Stop, .int .i64 X.Place, .int .i64 X.Time] := blk_grown (by exact heap_new (by simp)) hG1 (fun k hk => by simp [Value.ownBlock] at hk; omega)) | (have h6 : Blk w11 w16.heap.size 101 #[.int .i64 X.Id, .int .i64 X.Stop, .int .i64 X.Place, .int .i64 X.Time] := blk_grown (by exact (heap_old (by simp)).trans (heap_new (by simp))) hG1 (fun k hk => by simp [Value.ownBlock] at hk; omega)) | skip); haveI hX1i := hX1; haveI hX115 := Later.trans (w := w15) inferInstance hX1
                    refine hK.out _ _ (by exact ⟨inferInstance, inferInstance⟩) (fun hHeld => ?_)
                    try simp only [Act.put, List.setIfInBounds_toArray, List.set_cons_zero, List.set_cons_succ]
                    refine wpAnyH_ready (rs := [7]) (by kernel_rfl) (by simp) (AllReadyH.cons rfl (fun K hK => ?_) AllReadyH.nil)
                    refine wp_app_F (r := rConnection) (w0 := w16) (base := w16.heap.size) _ _ 54 rfl Try.underlying54 infoCn rfl (by decide) (by decide) (l := [X]) rfl (by exact ownsRow_later hown1 (inferInstance : Later w11 _)) inferInstance (Nat.le_refl _) (Later.size (w := w16) inferInstance) rfl (conn_lit (t := 101) (by first | exact h6 | exact heap_new (by simp)) HXOK.out) (by omega) ?_; intro v2 w12 hown2 hX2 hG2; haveI hX2i := hX2; haveI hX215 := Later.trans (w := w15) inferInstance hX2
                    refine hK.out _ _ (by exact ⟨inferInstance, inferInstance⟩) (fun hHeld => ?_)
                    try simp only [Act.put, List.setIfInBounds_toArray, List.set_cons_zero, List.set_cons_succ]
                    refine wpAnyH_ready (rs := [11]) (by kernel_rfl) (by simp) (AllReadyH.cons rfl (fun K hK => ?_) AllReadyH.nil)
                    refine wp_app_F (r := rConnection) (w0 := w16) (base := w16.heap.size) _ _ 54 rfl Try.underlying54 infoCn rfl (by decide) (by decide) rfl (by exact ownsRow_later hown2 (inferInstance : Later w12 _)) inferInstance (Nat.le_refl _) (Later.size (w := w16) inferInstance) rfl (by first | exact HB2.out.later inferInstance | exact HB3.out.later inferInstance | exact HB4.out.later inferInstance) (by omega) ?_; intro v3 w13 hown3 hX3 hG3; haveI hX3i := hX3; haveI hX315 := Later.trans (w := w15) inferInstance hX3
                    refine hK.out _ _ (by exact ⟨inferInstance, inferInstance⟩) (fun hHeld => ?_)
                    try simp only [Act.put, List.setIfInBounds_toArray, List.set_cons_zero, List.set_cons_succ]
                    refine wpAnyH_take (i := 12) (v := ?_) (by simp only [List.getElem?_toArray, List.getElem?_cons_succ, List.getElem?_cons_zero] <;> rfl) (by kernel_rfl) (by kernel_rfl) (by kernel_rfl) (by exact fun _ _ _ h => h) (Or.inl ⟨by kernel_rfl, ?_⟩) (by assumption) ?_
                    rotate_left
                    · intro w' hSw; (try dsimp only at hSw); go_simp; try with_reducible rfl
                    try simp only [Act.put, List.setIfInBounds_toArray, List.set_cons_zero, List.set_cons_succ]
                    refine wpAnyH_done (by kernel_rfl) ?_ _
                case' r49x1_2_3_5_8_9_10_6 =>
                  go_simp
                  skip
                  refine hK.out _ _ (by exact ⟨inferInstance, inferInstance⟩) (fun hHeld => ?_)
                  try simp only [Act.put, List.setIfInBounds_toArray, List.set_cons_zero, List.set_cons_succ]
                  refine wpAnyH_ready (rs := [0]) (by kernel_rfl) (by simp) (AllReadyH.cons rfl (fun K hK => ?_) AllReadyH.nil)
                  go_simp
                  skip
                  refine hK.out _ _ (by exact ⟨inferInstance, inferInstance⟩) (fun hHeld => ?_)
                  try simp only [Act.put, List.setIfInBounds_toArray, List.set_cons_zero, List.set_cons_succ]
                  refine wpAnyH_ready (rs := [4]) (by kernel_rfl) (by simp) (AllReadyH.cons rfl (fun K hK => ?_) AllReadyH.nil)
                  refine wp_app_F (r := rConnection) (w0 := w16) (base := w16.heap.size) _ _ 54 rfl Try.underlying54 infoCn rfl (by decide) (by decide) (v := .slice (some ⟨_, 0, none⟩) 0 0) (n := 0) (xs := []) rfl (own_litC (by first | exact heap_new (by simp) | exact (heap_old (by simp)).trans (heap_new (by simp))) (by first | (simp; omega) | omega)) inferInstance (Nat.le_refl _) (Later.size (w := w16) inferInstance) rfl (HFr.out.later inferInstance) (by omega) ?_; intro v1 w11 hown1 hX1 hG1; (first | (have h6 : Blk w11 (w16.heap.size + 1) 101 #[.int .i64 X.Id, .int .i64 X.Stop, .int .i64 X.Place, .int .i64 X.Time] := blk_grown (by exact heap_new (by simp)) hG1 (fun k hk => by simp [Value.ownBlock] at hk; omega)) | (have h6 : Blk w11 w16.heap.size 101 #[.int .i64 X.Id, .int .i64 X.Stop, .int .i64 X.Place, .int .i64 X.Time] := blk_grown (by exact (heap_old (by simp)).trans (heap_new (by simp))) hG1 (fun k hk => by simp [Value.ownBlock] at hk; omega)) | skip); haveI hX1i := hX1; haveI hX115 := Later.trans (w := w15) inferInstance hX1
                  refine hK.out _ _ (by exact ⟨inferInstance, inferInstance⟩) (fun hHeld => ?_)
                  try simp only [Act.put, List.setIfInBounds_toArray, List.set_cons_zero, List.set_cons_succ]
                  refine wpAnyH_ready (rs := [7]) (by kernel_rfl) (by simp) (AllReadyH.cons rfl (fun K hK => ?_) AllReadyH.nil)
                  refine wp_app_F (r := rConnection) (w0 := w16) (base := w16.heap.size) _ _ 54 rfl Try.underlying54 infoCn rfl (by decide) (by decide) (l := [X]) rfl (by exact ownsRow_later hown1 (inferInstance : Later w11 _)) inferInstance (Nat.le_refl _) (Later.size (w := w16) inferInstance) rfl (conn_lit (t := 101) (by first | exact h6 | exact heap_new (by simp)) HXOK.out) (by omega) ?_; intro v2 w12 hown2 hX2 hG2; haveI hX2i := hX2; haveI hX215 := Later.trans (w := w15) inferInstance hX2
                  refine hK.out _ _ (by exact ⟨inferInstance, inferInstance⟩) (fun hHeld => ?_)
                  try simp only [Act.put, List.setIfInBounds_toArray, List.set_cons_zero, List.set_cons_succ]
                  refine wpAnyH_ready (rs := [11]) (by kernel_rfl) (by simp) (AllReadyH.cons rfl (fun K hK => ?_) AllReadyH.nil)
                  refine wp_app_F (r := rConnection) (w0 := w16) (base := w16.heap.size) _ _ 54 rfl Try.underlying54 infoCn rfl (by decide) (by decide) rfl (by exact ownsRow_later hown2 (inferInstance : Later w12 _)) inferInstance (Nat.le_refl _) (Later.size (w := w16) inferInstance) rfl (by first | exact HB2.out.later inferInstance | exact HB3.out.later inferInstance | exact HB4.out.later inferInstance) (by omega) ?_; intro v3 w13 hown3 hX3 hG3; haveI hX3i := hX3; haveI hX315 := Later.trans (w := w15) inferInstance hX3
                  refine hK.out _ _ (by exact ⟨inferInstance, inferInstance⟩) (fun hHeld => ?_)
                  try simp only [Act.put, List.setIfInBounds_toArray, List.set_cons_zero, List.set_cons_succ]
                  refine wpAnyH_take (i := 12) (v := ?_) (by simp only [List.getElem?_toArray, List.getElem?_cons_succ, List.getElem?_cons_zero] <;> rfl) (by kernel_rfl) (by kernel_rfl) (by kernel_rfl) (by exact fun _ _ _ h => h) (Or.inl ⟨by kernel_rfl, ?_⟩) (by assumption) ?_
                  rotate_left
                  · intro w' hSw; (try dsimp only at hSw); go_simp; try with_reducible rfl
                  try simp only [Act.put, List.setIfInBounds_toArray, List.set_cons_zero, List.set_cons_succ]
                  refine wpAnyH_done (by kernel_rfl) ?_ _
                all_goals
                  have HOW := Lib.hid (own_eqF (m := nL + 1) hown3 (by omega) HFL.out.symm)
                  clear hown1 hown2 hown3 hG1 hG2 hG3
                  obtain ⟨g3, c3, rfl, hRC3, hgD, hnc3, hcm3⟩ := RowC.of_own HOW.out (by rw [insC_len]; have := HNL.out; omega) (by omega)
                  have HRC3 := Lib.hid hRC3
                  clear hRC3 HOW
                  haveI hb13 : Later wb w13 := Later.trans (w := wb) inferInstance hX315
                  haveI h713 : Later w7 w13 := Later.trans (w := w7) inferInstance hX315
                  go_wp2
                  go_roundw
                  case rel => exact ⟨k + 1, g3, nL + 1, c3, insC L X, by omega, by go_num, rfl, by omega, hnc3, hcm3, HNEW, by show _ = _; rw [insC_len, HNL.out], HRC3, by have := Later.size (w := wb) (W := w16) inferInstance; omega, inferInstance, inferInstance⟩
                  case measure => simp [intOf]; omega
            obtain ⟨m, hm⟩ : ∃ m, j = m + 1 := ⟨j - 1, by omega⟩
            have hjn0 : (0 : Int) < j := by omega
            have hjn2 : 0 < j := by omega
            have hjd : decide ((0 : Int) < (j : Int)) = true := decide_eq_true hjn0
            have hwj : IntKind.i64.wrap ((j : Int) - 1) = (m : Int) := by rw [IntKind.wrap_i64]; omega
            obtain ⟨y, hy⟩ : ∃ y, L[m]? = some y := ⟨_, List.getElem?_eq_getElem (by have := HNL.out; omega)⟩
            obtain ⟨hy0, hy1, hy2, hy3⟩ := HRC.out.cells hy
            have hml : m < nL := by omega
            have hmli : (m : Int) < nL := by omega
            have HPM : Hid (posC L X j = if X.Time < y.Time then posC L X m else j) := by
              show _ = _
              rw [hm]; simp only [posC]
              rw [show L.getD m default = y by simp [List.getD, hy]]
            have HMJ := Lib.hid hm
            clear hj0 hm hy
            by_cases hlt : X.Time < y.Time
            · have HPO2 : Hid (posC L X nL = posC L X m) := by show _ = _; rw [HPO.out, HPM.out, if_pos hlt]
              clear HPM HPO
              go_wp2_with fail
              refine wp_region_held_drew (S := (fun w' => Later w15 w' ∧ Later wr w')) (by kernel_rfl) (by exact ⟨inferInstance, inferInstance⟩) (fun hHeld => ?_)
              refine wpAnyH_take (i := 0) (v := ?_) (by simp only [List.getElem?_toArray, List.getElem?_cons_zero] <;> rfl) (by kernel_rfl) (by kernel_rfl) (by kernel_rfl) (by exact fun _ _ _ h => h) (Or.inl ⟨by kernel_rfl, ?_⟩) (by assumption) ?_
              rotate_left
              · intro w' hSw; (try dsimp only at hSw); go_simp; try with_reducible rfl
              try simp only [Act.put, List.setIfInBounds_toArray, List.set_cons_zero, List.set_cons_succ]
              refine wpAnyH_take (i := 1) (v := ?_) (by simp only [List.getElem?_toArray, List.getElem?_cons_succ, List.getElem?_cons_zero] <;> rfl) (by kernel_rfl) (by kernel_rfl) (by kernel_rfl) (by exact fun _ _ _ h => h) (Or.inl ⟨by kernel_rfl, ?_⟩) (by assumption) ?_
              rotate_left
              · intro w' hSw; (try dsimp only at hSw); go_simp; try with_reducible rfl
              try simp only [Act.put, List.setIfInBounds_toArray, List.set_cons_zero, List.set_cons_succ]
              refine wpAnyH_take (i := 2) (v := ?_) (by simp only [List.getElem?_toArray, List.getElem?_cons_succ, List.getElem?_cons_zero] <;> rfl) (by kernel_rfl) (by kernel_rfl) (by kernel_rfl) (by exact fun _ _ _ h => h) (Or.inl ⟨by kernel_rfl, ?_⟩) (by assumption) ?_
              rotate_left
              · intro w' hSw; (try dsimp only at hSw); go_simp; try with_reducible rfl
              try simp only [Act.put, List.setIfInBounds_toArray, List.set_cons_zero, List.set_cons_succ]
              refine wpAnyH_take (i := 3) (v := ?_) (by simp only [List.getElem?_toArray, List.getElem?_cons_succ, List.getElem?_cons_zero] <;> rfl) (by kernel_rfl) (by kernel_rfl) (by kernel_rfl) (by exact fun _ _ _ h => h) (Or.inl ⟨by kernel_rfl, ?_⟩) (by assumption) ?_
              rotate_left
              · intro w' hSw; (try dsimp only at hSw); go_simp; try with_reducible rfl
              try simp only [Act.put, List.setIfInBounds_toArray, List.set_cons_zero, List.set_cons_succ]
              refine wpAnyH_take (i := 4) (v := ?_) (by simp only [List.getElem?_toArray, List.getElem?_cons_succ, List.getElem?_cons_zero] <;> rfl) (by kernel_rfl) (by kernel_rfl) (by kernel_rfl) (by exact fun _ _ _ h => h) (Or.inl ⟨by kernel_rfl, ?_⟩) (by assumption) ?_
              rotate_left
              · intro w' hSw; (try dsimp only at hSw); go_simp; try with_reducible rfl
              try simp only [Act.put, List.setIfInBounds_toArray, List.set_cons_zero, List.set_cons_succ]
              refine wpAnyH_take (i := 5) (v := ?_) (by simp only [List.getElem?_toArray, List.getElem?_cons_succ, List.getElem?_cons_zero] <;> rfl) (by kernel_rfl) (by kernel_rfl) (by kernel_rfl) (by exact fun _ _ _ h => h) (Or.inl ⟨by kernel_rfl, ?_⟩) (by assumption) ?_
              rotate_left
              · intro w' hSw; (try dsimp only at hSw); go_simp; try with_reducible rfl
              try simp only [Act.put, List.setIfInBounds_toArray, List.set_cons_zero, List.set_cons_succ]
              refine wpAnyH_take (i := 6) (v := ?_) (by simp only [List.getElem?_toArray, List.getElem?_cons_succ, List.getElem?_cons_zero] <;> rfl) (by kernel_rfl) (by kernel_rfl) (by kernel_rfl) (by exact fun _ _ _ h => h) (Or.inl ⟨by kernel_rfl, ?_⟩) (by assumption) ?_
              rotate_left
              · intro w' hSw; (try dsimp only at hSw); go_simp; try with_reducible rfl
              try simp only [Act.put, List.setIfInBounds_toArray, List.set_cons_zero, List.set_cons_succ]
              refine wpAnyH_take (i := 7) (v := ?_) (by simp only [List.getElem?_toArray, List.getElem?_cons_succ, List.getElem?_cons_zero] <;> rfl) (by kernel_rfl) (by kernel_rfl) (by kernel_rfl) (by exact fun _ _ _ h => h) (Or.inl ⟨by kernel_rfl, ?_⟩) (by assumption) ?_
              rotate_left
              · intro w' hSw; (try dsimp only at hSw); go_simp; try with_reducible rfl
              try simp only [Act.put, List.setIfInBounds_toArray, List.set_cons_zero, List.set_cons_succ]
              refine wpAnyH_take (i := 8) (v := ?_) (by simp only [List.getElem?_toArray, List.getElem?_cons_succ, List.getElem?_cons_zero] <;> rfl) (by kernel_rfl) (by kernel_rfl) (by kernel_rfl) (by exact fun _ _ _ h => h) (Or.inl ⟨by kernel_rfl, ?_⟩) (by assumption) ?_
              rotate_left
              · intro w' hSw; (try dsimp only at hSw); go_simp; try with_reducible rfl
              try simp only [Act.put, List.setIfInBounds_toArray, List.set_cons_zero, List.set_cons_succ]
              refine wpAnyH_take (i := 9) (v := ?_) (by simp only [List.getElem?_toArray, List.getElem?_cons_succ, List.getElem?_cons_zero] <;> rfl) (by kernel_rfl) (by kernel_rfl) (by kernel_rfl) (by exact fun _ _ _ h => h) (Or.inl ⟨by kernel_rfl, ?_⟩) (by assumption) ?_
              rotate_left
              · intro w' hSw; (try dsimp only at hSw); go_simp; try with_reducible rfl
              try simp only [Act.put, List.setIfInBounds_toArray, List.set_cons_zero, List.set_cons_succ]
              refine wpAnyH_take (i := 10) (v := ?_) (by simp only [List.getElem?_toArray, List.getElem?_cons_succ, List.getElem?_cons_zero] <;> rfl) (by kernel_rfl) (by kernel_rfl) (by kernel_rfl) (by exact fun _ _ _ h => h) (Or.inl ⟨by kernel_rfl, ?_⟩) (by assumption) ?_
              rotate_left
              · intro w' hSw; (try dsimp only at hSw); go_simp; try with_reducible rfl
              try simp only [Act.put, List.setIfInBounds_toArray, List.set_cons_zero, List.set_cons_succ]
              refine wpAnyH_take (i := 11) (v := ?_) (by simp only [List.getElem?_toArray, List.getElem?_cons_succ, List.getElem?_cons_zero] <;> rfl) (by kernel_rfl) (by kernel_rfl) (by kernel_rfl) (by exact fun _ _ _ h => h) (Or.inl ⟨by kernel_rfl, ?_⟩) (by assumption) ?_
              rotate_left
              · intro w' hSw; (try dsimp only at hSw); go_simp; try with_reducible rfl
              try simp only [Act.put, List.setIfInBounds_toArray, List.set_cons_zero, List.set_cons_succ]
              refine wpAnyH_take (i := 12) (v := ?_) (by simp only [List.getElem?_toArray, List.getElem?_cons_succ, List.getElem?_cons_zero] <;> rfl) (by kernel_rfl) (by kernel_rfl) (by kernel_rfl) (by exact fun _ _ _ h => h) (Or.inl ⟨by kernel_rfl, ?_⟩) (by assumption) ?_
              rotate_left
              · intro w' hSw; (try dsimp only at hSw); go_simp; try with_reducible rfl
              try simp only [Act.put, List.setIfInBounds_toArray, List.set_cons_zero, List.set_cons_succ]
              refine wpAnyH_done (by kernel_rfl) ?_ _
              go_wp2
              go_roundw
              case rel => exact ⟨m, by omega, by go_num, HPO2, inferInstance⟩
              case measure => have := HMJ.out; simp [intOf]; omega
            · have HAT : Hid (posC L X nL = j) := by show _ = _; rw [HPO.out, HPM.out, if_neg hlt]
              clear HPM HPO
              go_wp2_with fail
              refine wp_region_held_drew (S := (fun w' => Later w15 w' ∧ Later wr w')) (by kernel_rfl) (by exact ⟨inferInstance, inferInstance⟩) (fun hHeld => ?_)
              refine wpAnyH_take (i := 0) (v := ?_) (by simp only [List.getElem?_toArray, List.getElem?_cons_zero] <;> rfl) (by kernel_rfl) (by kernel_rfl) (by kernel_rfl) (by exact fun _ _ _ h => h) (Or.inl ⟨by kernel_rfl, ?_⟩) (by assumption) ?_
              rotate_left
              · intro w' hSw; (try dsimp only at hSw); go_simp; try with_reducible rfl
              try simp only [Act.put, List.setIfInBounds_toArray, List.set_cons_zero, List.set_cons_succ]
              refine wpAnyH_take (i := 1) (v := ?_) (by simp only [List.getElem?_toArray, List.getElem?_cons_succ, List.getElem?_cons_zero] <;> rfl) (by kernel_rfl) (by kernel_rfl) (by kernel_rfl) (by exact fun _ _ _ h => h) (Or.inl ⟨by kernel_rfl, ?_⟩) (by assumption) ?_
              rotate_left
              · intro w' hSw; (try dsimp only at hSw); go_simp; try with_reducible rfl
              try simp only [Act.put, List.setIfInBounds_toArray, List.set_cons_zero, List.set_cons_succ]
              refine wpAnyH_take (i := 2) (v := ?_) (by simp only [List.getElem?_toArray, List.getElem?_cons_succ, List.getElem?_cons_zero] <;> rfl) (by kernel_rfl) (by kernel_rfl) (by kernel_rfl) (by exact fun _ _ _ h => h) (Or.inl ⟨by kernel_rfl, ?_⟩) (by assumption) ?_
              rotate_left
              · intro w' hSw; (try dsimp only at hSw); go_simp; try with_reducible rfl
              try simp only [Act.put, List.setIfInBounds_toArray, List.set_cons_zero, List.set_cons_succ]
              refine wpAnyH_take (i := 3) (v := ?_) (by simp only [List.getElem?_toArray, List.getElem?_cons_succ, List.getElem?_cons_zero] <;> rfl) (by kernel_rfl) (by kernel_rfl) (by kernel_rfl) (by exact fun _ _ _ h => h) (Or.inl ⟨by kernel_rfl, ?_⟩) (by assumption) ?_
              rotate_left
              · intro w' hSw; (try dsimp only at hSw); go_simp; try with_reducible rfl
              try simp only [Act.put, List.setIfInBounds_toArray, List.set_cons_zero, List.set_cons_succ]
              refine wpAnyH_take (i := 4) (v := ?_) (by simp only [List.getElem?_toArray, List.getElem?_cons_succ, List.getElem?_cons_zero] <;> rfl) (by kernel_rfl) (by kernel_rfl) (by kernel_rfl) (by exact fun _ _ _ h => h) (Or.inl ⟨by kernel_rfl, ?_⟩) (by assumption) ?_
              rotate_left
              · intro w' hSw; (try dsimp only at hSw); go_simp; try with_reducible rfl
              try simp only [Act.put, List.setIfInBounds_toArray, List.set_cons_zero, List.set_cons_succ]
              refine wpAnyH_take (i := 5) (v := ?_) (by simp only [List.getElem?_toArray, List.getElem?_cons_succ, List.getElem?_cons_zero] <;> rfl) (by kernel_rfl) (by kernel_rfl) (by kernel_rfl) (by exact fun _ _ _ h => h) (Or.inl ⟨by kernel_rfl, ?_⟩) (by assumption) ?_
              rotate_left
              · intro w' hSw; (try dsimp only at hSw); go_simp; try with_reducible rfl
              try simp only [Act.put, List.setIfInBounds_toArray, List.set_cons_zero, List.set_cons_succ]
              refine wpAnyH_take (i := 6) (v := ?_) (by simp only [List.getElem?_toArray, List.getElem?_cons_succ, List.getElem?_cons_zero] <;> rfl) (by kernel_rfl) (by kernel_rfl) (by kernel_rfl) (by exact fun _ _ _ h => h) (Or.inl ⟨by kernel_rfl, ?_⟩) (by assumption) ?_
              rotate_left
              · intro w' hSw; (try dsimp only at hSw); go_simp; try with_reducible rfl
              try simp only [Act.put, List.setIfInBounds_toArray, List.set_cons_zero, List.set_cons_succ]
              refine wpAnyH_take (i := 7) (v := ?_) (by simp only [List.getElem?_toArray, List.getElem?_cons_succ, List.getElem?_cons_zero] <;> rfl) (by kernel_rfl) (by kernel_rfl) (by kernel_rfl) (by exact fun _ _ _ h => h) (Or.inl ⟨by kernel_rfl, ?_⟩) (by assumption) ?_
              rotate_left
              · intro w' hSw; (try dsimp only at hSw); go_simp; try with_reducible rfl
              try simp only [Act.put, List.setIfInBounds_toArray, List.set_cons_zero, List.set_cons_succ]
              refine wpAnyH_take (i := 8) (v := ?_) (by simp only [List.getElem?_toArray, List.getElem?_cons_succ, List.getElem?_cons_zero] <;> rfl) (by kernel_rfl) (by kernel_rfl) (by kernel_rfl) (by exact fun _ _ _ h => h) (Or.inl ⟨by kernel_rfl, ?_⟩) (by assumption) ?_
              rotate_left
              · intro w' hSw; (try dsimp only at hSw); go_simp; try with_reducible rfl
              try simp only [Act.put, List.setIfInBounds_toArray, List.set_cons_zero, List.set_cons_succ]
              refine wpAnyH_take (i := 9) (v := ?_) (by simp only [List.getElem?_toArray, List.getElem?_cons_succ, List.getElem?_cons_zero] <;> rfl) (by kernel_rfl) (by kernel_rfl) (by kernel_rfl) (by exact fun _ _ _ h => h) (Or.inl ⟨by kernel_rfl, ?_⟩) (by assumption) ?_
              rotate_left
              · intro w' hSw; (try dsimp only at hSw); go_simp; try with_reducible rfl
              try simp only [Act.put, List.setIfInBounds_toArray, List.set_cons_zero, List.set_cons_succ]
              refine wpAnyH_take (i := 10) (v := ?_) (by simp only [List.getElem?_toArray, List.getElem?_cons_succ, List.getElem?_cons_zero] <;> rfl) (by kernel_rfl) (by kernel_rfl) (by kernel_rfl) (by exact fun _ _ _ h => h) (Or.inl ⟨by kernel_rfl, ?_⟩) (by assumption) ?_
              rotate_left
              · intro w' hSw; (try dsimp only at hSw); go_simp; try with_reducible rfl
              try simp only [Act.put, List.setIfInBounds_toArray, List.set_cons_zero, List.set_cons_succ]
              refine wpAnyH_take (i := 11) (v := ?_) (by simp only [List.getElem?_toArray, List.getElem?_cons_succ, List.getElem?_cons_zero] <;> rfl) (by kernel_rfl) (by kernel_rfl) (by kernel_rfl) (by exact fun _ _ _ h => h) (Or.inl ⟨by kernel_rfl, ?_⟩) (by assumption) ?_
              rotate_left
              · intro w' hSw; (try dsimp only at hSw); go_simp; try with_reducible rfl
              try simp only [Act.put, List.setIfInBounds_toArray, List.set_cons_zero, List.set_cons_succ]
              refine wpAnyH_take (i := 12) (v := ?_) (by simp only [List.getElem?_toArray, List.getElem?_cons_succ, List.getElem?_cons_zero] <;> rfl) (by kernel_rfl) (by kernel_rfl) (by kernel_rfl) (by exact fun _ _ _ h => h) (Or.inl ⟨by kernel_rfl, ?_⟩) (by assumption) ?_
              rotate_left
              · intro w' hSw; (try dsimp only at hSw); go_simp; try with_reducible rfl
              try simp only [Act.put, List.setIfInBounds_toArray, List.set_cons_zero, List.set_cons_succ]
              refine wpAnyH_done (by kernel_rfl) ?_ _
              go_wp2_with fail
              clear hjd hjn0 hjn2 hwj hy0 hy1 hy2 hy3 hml hmli hlt
              obtain ⟨w16, hw16⟩ : ∃ W : World, W = wr.drew := ⟨_, rfl⟩
              rw [← hw16]
              haveI h1516 : Later w15 w16 := by rw [hw16]; infer_instance
              haveI hb16 : Later wb w16 := Later.trans (w := wb) inferInstance h1516
              haveI h716 : Later w7 w16 := Later.trans (w := w7) inferInstance h1516
              clear hw16
              have HSL := Lib.hid (RowC.sl HRC.out HNL.out hnc hcm HLOK.out)
              have HFr := Lib.hid (Sl.front_ HSL.out (k := j) (by omega))
              have HBk := Lib.hid (Sl.backZ HSL.out (k := j) (by omega))
              have hji : (j : Int) ≤ nL := by omega
              have hjc : (j : Int) ≤ c := by omega
              have hjn : j ≤ nL := by omega
              have HFL := Lib.hid (insC_flat (L := L) (x := X) (j := j) (by rw [← HNL.out]; exact HAT.out))
              by_cases hcj : c = j
              · have hnj : nL = j := by omega
                have HB2 : Hid (Sl 4 rConnection w15 (some ⟨g, 0, none⟩) (nL - j) (c - j) (L.drop j)) := Sl.backNil (by omega) (List.drop_eq_nil_of_le (by have := HNL.out; omega)) (by omega) (by omega)
                have HB3 : Hid (Sl 4 rConnection w15 (some ⟨g, 0, none⟩) (nL - j) 0 (L.drop j)) := Sl.backNil (by omega) (List.drop_eq_nil_of_le (by have := HNL.out; omega)) (by omega) (by omega)
                have HB4 : Hid (Sl 4 rConnection w15 (some ⟨g, 0, none⟩) 0 0 (L.drop j)) := Sl.backNil (by omega) (List.drop_eq_nil_of_le (by have := HNL.out; omega)) (by omega) (by omega)
                clear HBk
                subst hcj
                subst hnj
                go_wp2_with fail
                refine wp_region_held_drew (S := (fun w' => Later w15 w' ∧ Later w16 w')) (by kernel_rfl) (by exact ⟨inferInstance, inferInstance⟩) (fun hHeld => ?_)
                refine wpAnyH_take (i := 1) (v := ?_) (by simp only [List.getElem?_toArray, List.getElem?_cons_succ, List.getElem?_cons_zero] <;> rfl) (by kernel_rfl) (by kernel_rfl) (by kernel_rfl) (by exact fun _ _ _ h => h) (Or.inl ⟨by kernel_rfl, ?_⟩) (by assumption) ?_
                rotate_left
                · intro w' hSw; (try dsimp only at hSw); go_simp; try with_reducible rfl
                try simp only [Act.put, List.setIfInBounds_toArray, List.set_cons_zero, List.set_cons_succ]
                refine wpAnyH_take (i := 2) (v := ?_) (by simp only [List.getElem?_toArray, List.getElem?_cons_succ, List.getElem?_cons_zero] <;> rfl) (by kernel_rfl) (by kernel_rfl) (by kernel_rfl) (by exact fun _ _ _ h => h) (Or.inl ⟨by kernel_rfl, ?_⟩) (by assumption) ?_
                rotate_left
                · intro w' hSw; (try dsimp only at hSw); go_simp; try with_reducible rfl
                try simp only [Act.put, List.setIfInBounds_toArray, List.set_cons_zero, List.set_cons_succ]
                refine wpAnyH_take (i := 3) (v := ?_) (by simp only [List.getElem?_toArray, List.getElem?_cons_succ, List.getElem?_cons_zero] <;> rfl) (by kernel_rfl) (by kernel_rfl) (by kernel_rfl) (by exact fun _ _ _ h => h) (Or.inl ⟨by kernel_rfl, ?_⟩) (by assumption) ?_
                rotate_left
                · intro w' hSw; (try dsimp only at hSw); go_simp; try with_reducible rfl
                try simp only [Act.put, List.setIfInBounds_toArray, List.set_cons_zero, List.set_cons_succ]
                refine wpAnyH_take (i := 5) (v := ?_) (by simp only [List.getElem?_toArray, List.getElem?_cons_succ, List.getElem?_cons_zero] <;> rfl) (by kernel_rfl) (by kernel_rfl) (by kernel_rfl) (by exact fun _ _ _ h => h) (Or.inl ⟨by kernel_rfl, ?_⟩) (by assumption) ?_
                rotate_left
                · intro w' hSw; (try dsimp only at hSw); go_simp; try with_reducible rfl
                try simp only [Act.put, List.setIfInBounds_toArray, List.set_cons_zero, List.set_cons_succ]
                refine wpAnyH_take (i := 8) (v := ?_) (by simp only [List.getElem?_toArray, List.getElem?_cons_succ, List.getElem?_cons_zero] <;> rfl) (by kernel_rfl) (by kernel_rfl) (by kernel_rfl) (by exact fun _ _ _ h => h) (Or.inl ⟨by kernel_rfl, ?_⟩) (by assumption) ?_
                rotate_left
                · intro w' hSw; (try dsimp only at hSw); go_simp; try with_reducible rfl
                try simp only [Act.put, List.setIfInBounds_toArray, List.set_cons_zero, List.set_cons_succ]
                refine wpAnyH_take (i := 9) (v := ?_) (by simp only [List.getElem?_toArray, List.getElem?_cons_succ, List.getElem?_cons_zero] <;> rfl) (by kernel_rfl) (by kernel_rfl) (by kernel_rfl) (by exact fun _ _ _ h => h) (Or.inl ⟨by kernel_rfl, ?_⟩) (by assumption) ?_
                rotate_left
                · intro w' hSw; (try dsimp only at hSw); go_simp; try with_reducible rfl
                try simp only [Act.put, List.setIfInBounds_toArray, List.set_cons_zero, List.set_cons_succ]
                refine wpAnyH_take (i := 10) (v := ?_) (by simp only [List.getElem?_toArray, List.getElem?_cons_succ, List.getElem?_cons_zero] <;> rfl) (by kernel_rfl) (by kernel_rfl) (by kernel_rfl) (by exact fun _ _ _ h => h) (Or.inl ⟨by kernel_rfl, ?_⟩) (by assumption) ?_
                rotate_left
                · intro w' hSw; (try dsimp only at hSw); go_simp; try with_reducible rfl
                try simp only [Act.put, List.setIfInBounds_toArray, List.set_cons_zero, List.set_cons_succ]
                refine wpAnyH_ready (rs := [0, 6]) (by kernel_rfl) (by simp) (AllReadyH.cons rfl (fun K hK => ?r52x1_2_3_5_8_9_10_0) (AllReadyH.cons rfl (fun K hK => ?r52x1_2_3_5_8_9_10_6) AllReadyH.nil))
                case' r52x1_2_3_5_8_9_10_0 =>
                  go_simp
                  skip
                  refine hK.out _ _ (by exact ⟨inferInstance, inferInstance⟩) (fun hHeld => ?_)
                  try simp only [Act.put, List.setIfInBounds_toArray, List.set_cons_zero, List.set_cons_succ]
                  refine wpAnyH_ready (rs := [4, 6]) (by kernel_rfl) (by simp) (AllReadyH.cons rfl (fun K hK => ?r52x0_1_2_3_5_8_9_10_4) (AllReadyH.cons rfl (fun K hK => ?r52x0_1_2_3_5_8_9_10_6) AllReadyH.nil))
                  case' r52x0_1_2_3_5_8_9_10_4 =>
                    refine wp_app_F (r := rConnection) (w0 := w16) (base := w16.heap.size) _ _ 54 rfl Try.underlying54 infoCn rfl (by decide) (by decide) (v := .slice (some ⟨_, 0, none⟩) 0 0) (n := 0) (xs := []) rfl (own_litC (by first | exact heap_new (by simp) | exact (heap_old (by simp)).trans (heap_new (by simp))) (by first | (simp; omega) | omega)) inferInstance (Nat.le_refl _) (Later.size (w := w16) inferInstance) rfl (HFr.out.later inferInstance) (by omega) ?_; intro v1 w11 hown1 hX1 hG1; (first | (have h6 : Blk w11 (w16.heap.size + 1) 101 #[.int .i64 X.Id, .int .i64 X.Stop, .int .i64 X.Place, .int .i64 X.Time] := blk_grown (by exact heap_new (by simp)) hG1 (fun k hk => by simp [Value.ownBlock] at hk; omega)) | (have h6 : Blk w11 w16.heap.size 101 #[.int .i64 X.Id, .int .i64 X.Stop, .int .i64 X.Place, .int .i64 X.Time] := blk_grown (by exact (heap_old (by simp)).trans (heap_new (by simp))) hG1 (fun k hk => by simp [Value.ownBlock] at hk; omega)) | skip); haveI hX1i := hX1; haveI hX115 := Later.trans (w := w15) inferInstance hX1
                    refine hK.out _ _ (by exact ⟨inferInstance, inferInstance⟩) (fun hHeld => ?_)
                    try simp only [Act.put, List.setIfInBounds_toArray, List.set_cons_zero, List.set_cons_succ]
                    refine wpAnyH_ready (rs := [6]) (by kernel_rfl) (by simp) (AllReadyH.cons rfl (fun K hK => ?_) AllReadyH.nil)
                    go_simp
                    skip
                    refine hK.out _ _ (by exact ⟨inferInstance, inferInstance⟩) (fun hHeld => ?_)
                    try simp only [Act.put, List.setIfInBounds_toArray, List.set_cons_zero, List.set_cons_succ]
                    refine wpAnyH_ready (rs := [7]) (by kernel_rfl) (by simp) (AllReadyH.cons rfl (fun K hK => ?_) AllReadyH.nil)
                    refine wp_app_F (r := rConnection) (w0 := w16) (base := w16.heap.size) _ _ 54 rfl Try.underlying54 infoCn rfl (by decide) (by decide) (l := [X]) rfl (by exact ownsRow_later hown1 (inferInstance : Later w11 _)) inferInstance (Nat.le_refl _) (Later.size (w := w16) inferInstance) rfl (conn_lit (t := 101) (by first | exact h6 | exact heap_new (by simp)) HXOK.out) (by omega) ?_; intro v2 w12 hown2 hX2 hG2; haveI hX2i := hX2; haveI hX215 := Later.trans (w := w15) inferInstance hX2
                    refine hK.out _ _ (by exact ⟨inferInstance, inferInstance⟩) (fun hHeld => ?_)
                    try simp only [Act.put, List.setIfInBounds_toArray, List.set_cons_zero, List.set_cons_succ]
                    refine wpAnyH_ready (rs := [11]) (by kernel_rfl) (by simp) (AllReadyH.cons rfl (fun K hK => ?_) AllReadyH.nil)
                    refine wp_app_F (r := rConnection) (w0 := w16) (base := w16.heap.size) _ _ 54 rfl Try.underlying54 infoCn rfl (by decide) (by decide) rfl (by exact ownsRow_later hown2 (inferInstance : Later w12 _)) inferInstance (Nat.le_refl _) (Later.size (w := w16) inferInstance) rfl (by first | exact HB2.out.later inferInstance | exact HB3.out.later inferInstance | exact HB4.out.later inferInstance) (by omega) ?_; intro v3 w13 hown3 hX3 hG3; haveI hX3i := hX3; haveI hX315 := Later.trans (w := w15) inferInstance hX3
                    refine hK.out _ _ (by exact ⟨inferInstance, inferInstance⟩) (fun hHeld => ?_)
                    try simp only [Act.put, List.setIfInBounds_toArray, List.set_cons_zero, List.set_cons_succ]
                    refine wpAnyH_take (i := 12) (v := ?_) (by simp only [List.getElem?_toArray, List.getElem?_cons_succ, List.getElem?_cons_zero] <;> rfl) (by kernel_rfl) (by kernel_rfl) (by kernel_rfl) (by exact fun _ _ _ h => h) (Or.inl ⟨by kernel_rfl, ?_⟩) (by assumption) ?_
                    rotate_left
                    · intro w' hSw; (try dsimp only at hSw); go_simp; try with_reducible rfl
                    try simp only [Act.put, List.setIfInBounds_toArray, List.set_cons_zero, List.set_cons_succ]
                    refine wpAnyH_done (by kernel_rfl) ?_ _
                  case' r52x0_1_2_3_5_8_9_10_6 =>
                    go_simp
                    skip
                    refine hK.out _ _ (by exact ⟨inferInstance, inferInstance⟩) (fun hHeld => ?_)
                    try simp only [Act.put, List.setIfInBounds_toArray, List.set_cons_zero, List.set_cons_succ]
                    refine wpAnyH_ready (rs := [4]) (by kernel_rfl) (by simp) (AllReadyH.cons rfl (fun K hK => ?_) AllReadyH.nil)
                    refine wp_app_F (r := rConnection) (w0 := w16) (base := w16.heap.size) _ _ 54 rfl Try.underlying54 infoCn rfl (by decide) (by decide) (v := .slice (some ⟨_, 0, none⟩) 0 0) (n := 0) (xs := []) rfl (own_litC (by first | exact heap_new (by simp) | exact (heap_old (by simp)).trans (heap_new (by simp))) (by first | (simp; omega) | omega)) inferInstance (Nat.le_refl _) (Later.size (w := w16) inferInstance) rfl (HFr.out.later inferInstance) (by omega) ?_; intro v1 w11 hown1 hX1 hG1; (first | (have h6 : Blk w11 (w16.heap.size + 1) 101 #[.int .i64 X.Id, .int .i64 X.Stop, .int .i64 X.Place, .int .i64 X.Time] := blk_grown (by exact heap_new (by simp)) hG1 (fun k hk => by simp [Value.ownBlock] at hk; omega)) | (have h6 : Blk w11 w16.heap.size 101 #[.int .i64 X.Id, .int .i64 X.Stop, .int .i64 X.Place, .int .i64 X.Time] := blk_grown (by exact (heap_old (by simp)).trans (heap_new (by simp))) hG1 (fun k hk => by simp [Value.ownBlock] at hk; omega)) | skip); haveI hX1i := hX1; haveI hX115 := Later.trans (w := w15) inferInstance hX1
                    refine hK.out _ _ (by exact ⟨inferInstance, inferInstance⟩) (fun hHeld => ?_)
                    try simp only [Act.put, List.setIfInBounds_toArray, List.set_cons_zero, List.set_cons_succ]
                    refine wpAnyH_ready (rs := [7]) (by kernel_rfl) (by simp) (AllReadyH.cons rfl (fun K hK => ?_) AllReadyH.nil)
                    refine wp_app_F (r := rConnection) (w0 := w16) (base := w16.heap.size) _ _ 54 rfl Try.underlying54 infoCn rfl (by decide) (by decide) (l := [X]) rfl (by exact ownsRow_later hown1 (inferInstance : Later w11 _)) inferInstance (Nat.le_refl _) (Later.size (w := w16) inferInstance) rfl (conn_lit (t := 101) (by first | exact h6 | exact heap_new (by simp)) HXOK.out) (by omega) ?_; intro v2 w12 hown2 hX2 hG2; haveI hX2i := hX2; haveI hX215 := Later.trans (w := w15) inferInstance hX2
                    refine hK.out _ _ (by exact ⟨inferInstance, inferInstance⟩) (fun hHeld => ?_)
                    try simp only [Act.put, List.setIfInBounds_toArray, List.set_cons_zero, List.set_cons_succ]
                    refine wpAnyH_ready (rs := [11]) (by kernel_rfl) (by simp) (AllReadyH.cons rfl (fun K hK => ?_) AllReadyH.nil)
                    refine wp_app_F (r := rConnection) (w0 := w16) (base := w16.heap.size) _ _ 54 rfl Try.underlying54 infoCn rfl (by decide) (by decide) rfl (by exact ownsRow_later hown2 (inferInstance : Later w12 _)) inferInstance (Nat.le_refl _) (Later.size (w := w16) inferInstance) rfl (by first | exact HB2.out.later inferInstance | exact HB3.out.later inferInstance | exact HB4.out.later inferInstance) (by omega) ?_; intro v3 w13 hown3 hX3 hG3; haveI hX3i := hX3; haveI hX315 := Later.trans (w := w15) inferInstance hX3
                    refine hK.out _ _ (by exact ⟨inferInstance, inferInstance⟩) (fun hHeld => ?_)
                    try simp only [Act.put, List.setIfInBounds_toArray, List.set_cons_zero, List.set_cons_succ]
                    refine wpAnyH_take (i := 12) (v := ?_) (by simp only [List.getElem?_toArray, List.getElem?_cons_succ, List.getElem?_cons_zero] <;> rfl) (by kernel_rfl) (by kernel_rfl) (by kernel_rfl) (by exact fun _ _ _ h => h) (Or.inl ⟨by kernel_rfl, ?_⟩) (by assumption) ?_
                    rotate_left
                    · intro w' hSw; (try dsimp only at hSw); go_simp; try with_reducible rfl
                    try simp only [Act.put, List.setIfInBounds_toArray, List.set_cons_zero, List.set_cons_succ]
                    refine wpAnyH_done (by kernel_rfl) ?_ _
                case' r52x1_2_3_5_8_9_10_6 =>
                  go_simp
                  skip
                  refine hK.out _ _ (by exact ⟨inferInstance, inferInstance⟩) (fun hHeld => ?_)
                  try simp only [Act.put, List.setIfInBounds_toArray, List.set_cons_zero, List.set_cons_succ]
                  refine wpAnyH_ready (rs := [0]) (by kernel_rfl) (by simp) (AllReadyH.cons rfl (fun K hK => ?_) AllReadyH.nil)
                  go_simp
                  skip
                  refine hK.out _ _ (by exact ⟨inferInstance, inferInstance⟩) (fun hHeld => ?_)
                  try simp only [Act.put, List.setIfInBounds_toArray, List.set_cons_zero, List.set_cons_succ]
                  refine wpAnyH_ready (rs := [4]) (by kernel_rfl) (by simp) (AllReadyH.cons rfl (fun K hK => ?_) AllReadyH.nil)
                  refine wp_app_F (r := rConnection) (w0 := w16) (base := w16.heap.size) _ _ 54 rfl Try.underlying54 infoCn rfl (by decide) (by decide) (v := .slice (some ⟨_, 0, none⟩) 0 0) (n := 0) (xs := []) rfl (own_litC (by first | exact heap_new (by simp) | exact (heap_old (by simp)).trans (heap_new (by simp))) (by first | (simp; omega) | omega)) inferInstance (Nat.le_refl _) (Later.size (w := w16) inferInstance) rfl (HFr.out.later inferInstance) (by omega) ?_; intro v1 w11 hown1 hX1 hG1; (first | (have h6 : Blk w11 (w16.heap.size + 1) 101 #[.int .i64 X.Id, .int .i64 X.Stop, .int .i64 X.Place, .int .i64 X.Time] := blk_grown (by exact heap_new (by simp)) hG1 (fun k hk => by simp [Value.ownBlock] at hk; omega)) | (have h6 : Blk w11 w16.heap.size 101 #[.int .i64 X.Id, .int .i64 X.Stop, .int .i64 X.Place, .int .i64 X.Time] := blk_grown (by exact (heap_old (by simp)).trans (heap_new (by simp))) hG1 (fun k hk => by simp [Value.ownBlock] at hk; omega)) | skip); haveI hX1i := hX1; haveI hX115 := Later.trans (w := w15) inferInstance hX1
                  refine hK.out _ _ (by exact ⟨inferInstance, inferInstance⟩) (fun hHeld => ?_)
                  try simp only [Act.put, List.setIfInBounds_toArray, List.set_cons_zero, List.set_cons_succ]
                  refine wpAnyH_ready (rs := [7]) (by kernel_rfl) (by simp) (AllReadyH.cons rfl (fun K hK => ?_) AllReadyH.nil)
                  refine wp_app_F (r := rConnection) (w0 := w16) (base := w16.heap.size) _ _ 54 rfl Try.underlying54 infoCn rfl (by decide) (by decide) (l := [X]) rfl (by exact ownsRow_later hown1 (inferInstance : Later w11 _)) inferInstance (Nat.le_refl _) (Later.size (w := w16) inferInstance) rfl (conn_lit (t := 101) (by first | exact h6 | exact heap_new (by simp)) HXOK.out) (by omega) ?_; intro v2 w12 hown2 hX2 hG2; haveI hX2i := hX2; haveI hX215 := Later.trans (w := w15) inferInstance hX2
                  refine hK.out _ _ (by exact ⟨inferInstance, inferInstance⟩) (fun hHeld => ?_)
                  try simp only [Act.put, List.setIfInBounds_toArray, List.set_cons_zero, List.set_cons_succ]
                  refine wpAnyH_ready (rs := [11]) (by kernel_rfl) (by simp) (AllReadyH.cons rfl (fun K hK => ?_) AllReadyH.nil)
                  refine wp_app_F (r := rConnection) (w0 := w16) (base := w16.heap.size) _ _ 54 rfl Try.underlying54 infoCn rfl (by decide) (by decide) rfl (by exact ownsRow_later hown2 (inferInstance : Later w12 _)) inferInstance (Nat.le_refl _) (Later.size (w := w16) inferInstance) rfl (by first | exact HB2.out.later inferInstance | exact HB3.out.later inferInstance | exact HB4.out.later inferInstance) (by omega) ?_; intro v3 w13 hown3 hX3 hG3; haveI hX3i := hX3; haveI hX315 := Later.trans (w := w15) inferInstance hX3
                  refine hK.out _ _ (by exact ⟨inferInstance, inferInstance⟩) (fun hHeld => ?_)
                  try simp only [Act.put, List.setIfInBounds_toArray, List.set_cons_zero, List.set_cons_succ]
                  refine wpAnyH_take (i := 12) (v := ?_) (by simp only [List.getElem?_toArray, List.getElem?_cons_succ, List.getElem?_cons_zero] <;> rfl) (by kernel_rfl) (by kernel_rfl) (by kernel_rfl) (by exact fun _ _ _ h => h) (Or.inl ⟨by kernel_rfl, ?_⟩) (by assumption) ?_
                  rotate_left
                  · intro w' hSw; (try dsimp only at hSw); go_simp; try with_reducible rfl
                  try simp only [Act.put, List.setIfInBounds_toArray, List.set_cons_zero, List.set_cons_succ]
                  refine wpAnyH_done (by kernel_rfl) ?_ _
                all_goals
                  have HOW := Lib.hid (own_eqF (m := nL + 1) hown3 (by omega) HFL.out.symm)
                  clear hown1 hown2 hown3 hG1 hG2 hG3
                  obtain ⟨g3, c3, rfl, hRC3, hgD, hnc3, hcm3⟩ := RowC.of_own HOW.out (by rw [insC_len]; have := HNL.out; omega) (by omega)
                  have HRC3 := Lib.hid hRC3
                  clear hRC3 HOW
                  haveI hb13 : Later wb w13 := Later.trans (w := wb) inferInstance hX315
                  haveI h713 : Later w7 w13 := Later.trans (w := w7) inferInstance hX315
                  go_wp2
                  go_roundw
                  case rel => exact ⟨k + 1, g3, nL + 1, c3, insC L X, by omega, by go_num, rfl, by omega, hnc3, hcm3, HNEW, by show _ = _; rw [insC_len, HNL.out], HRC3, by have := Later.size (w := wb) (W := w16) inferInstance; omega, inferInstance, inferInstance⟩
                  case measure => simp [intOf]; omega
              · have HB2 : Hid (Sl 4 rConnection w15 (some ⟨g, 0 + j * 4, none⟩) (nL - j) (c - j) (L.drop j)) := HBk.out
                have HB3 : Hid (Sl 4 rConnection w15 (some ⟨g, j * 4, none⟩) (nL - j) (c - j) (L.drop j)) := by have h9 := HBk.out; rw [Nat.zero_add] at h9; exact h9
                clear HBk
                go_wp2_with fail
                refine wp_region_held_drew (S := (fun w' => Later w15 w' ∧ Later w16 w')) (by kernel_rfl) (by exact ⟨inferInstance, inferInstance⟩) (fun hHeld => ?_)
                refine wpAnyH_take (i := 1) (v := ?_) (by simp only [List.getElem?_toArray, List.getElem?_cons_succ, List.getElem?_cons_zero] <;> rfl) (by kernel_rfl) (by kernel_rfl) (by kernel_rfl) (by exact fun _ _ _ h => h) (Or.inl ⟨by kernel_rfl, ?_⟩) (by assumption) ?_
                rotate_left
                · intro w' hSw; (try dsimp only at hSw); go_simp; try with_reducible rfl
                try simp only [Act.put, List.setIfInBounds_toArray, List.set_cons_zero, List.set_cons_succ]
                refine wpAnyH_take (i := 2) (v := ?_) (by simp only [List.getElem?_toArray, List.getElem?_cons_succ, List.getElem?_cons_zero] <;> rfl) (by kernel_rfl) (by kernel_rfl) (by kernel_rfl) (by exact fun _ _ _ h => h) (Or.inl ⟨by kernel_rfl, ?_⟩) (by assumption) ?_
                rotate_left
                · intro w' hSw; (try dsimp only at hSw); go_simp; try with_reducible rfl
                try simp only [Act.put, List.setIfInBounds_toArray, List.set_cons_zero, List.set_cons_succ]
                refine wpAnyH_take (i := 3) (v := ?_) (by simp only [List.getElem?_toArray, List.getElem?_cons_succ, List.getElem?_cons_zero] <;> rfl) (by kernel_rfl) (by kernel_rfl) (by kernel_rfl) (by exact fun _ _ _ h => h) (Or.inl ⟨by kernel_rfl, ?_⟩) (by assumption) ?_
                rotate_left
                · intro w' hSw; (try dsimp only at hSw); go_simp; try with_reducible rfl
                try simp only [Act.put, List.setIfInBounds_toArray, List.set_cons_zero, List.set_cons_succ]
                refine wpAnyH_take (i := 5) (v := ?_) (by simp only [List.getElem?_toArray, List.getElem?_cons_succ, List.getElem?_cons_zero] <;> rfl) (by kernel_rfl) (by kernel_rfl) (by kernel_rfl) (by exact fun _ _ _ h => h) (Or.inl ⟨by kernel_rfl, ?_⟩) (by assumption) ?_
                rotate_left
                · intro w' hSw; (try dsimp only at hSw); go_simp; try with_reducible rfl
                try simp only [Act.put, List.setIfInBounds_toArray, List.set_cons_zero, List.set_cons_succ]
                refine wpAnyH_take (i := 8) (v := ?_) (by simp only [List.getElem?_toArray, List.getElem?_cons_succ, List.getElem?_cons_zero] <;> rfl) (by kernel_rfl) (by kernel_rfl) (by kernel_rfl) (by exact fun _ _ _ h => h) (Or.inl ⟨by kernel_rfl, ?_⟩) (by assumption) ?_
                rotate_left
                · intro w' hSw; (try dsimp only at hSw); go_simp; try with_reducible rfl
                try simp only [Act.put, List.setIfInBounds_toArray, List.set_cons_zero, List.set_cons_succ]
                refine wpAnyH_take (i := 9) (v := ?_) (by simp only [List.getElem?_toArray, List.getElem?_cons_succ, List.getElem?_cons_zero] <;> rfl) (by kernel_rfl) (by kernel_rfl) (by kernel_rfl) (by exact fun _ _ _ h => h) (Or.inl ⟨by kernel_rfl, ?_⟩) (by assumption) ?_
                rotate_left
                · intro w' hSw; (try dsimp only at hSw); go_simp; try with_reducible rfl
                try simp only [Act.put, List.setIfInBounds_toArray, List.set_cons_zero, List.set_cons_succ]
                refine wpAnyH_take (i := 10) (v := ?_) (by simp only [List.getElem?_toArray, List.getElem?_cons_succ, List.getElem?_cons_zero] <;> rfl) (by kernel_rfl) (by kernel_rfl) (by kernel_rfl) (by exact fun _ _ _ h => h) (Or.inl ⟨by kernel_rfl, ?_⟩) (by assumption) ?_
                rotate_left
                · intro w' hSw; (try dsimp only at hSw); go_simp; try with_reducible rfl
                try simp only [Act.put, List.setIfInBounds_toArray, List.set_cons_zero, List.set_cons_succ]
                refine wpAnyH_ready (rs := [0, 6]) (by kernel_rfl) (by simp) (AllReadyH.cons rfl (fun K hK => ?r53x1_2_3_5_8_9_10_0) (AllReadyH.cons rfl (fun K hK => ?r53x1_2_3_5_8_9_10_6) AllReadyH.nil))
                case' r53x1_2_3_5_8_9_10_0 =>
                  go_simp
                  skip
                  refine hK.out _ _ (by exact ⟨inferInstance, inferInstance⟩) (fun hHeld => ?_)
                  try simp only [Act.put, List.setIfInBounds_toArray, List.set_cons_zero, List.set_cons_succ]
                  refine wpAnyH_ready (rs := [4, 6]) (by kernel_rfl) (by simp) (AllReadyH.cons rfl (fun K hK => ?r53x0_1_2_3_5_8_9_10_4) (AllReadyH.cons rfl (fun K hK => ?r53x0_1_2_3_5_8_9_10_6) AllReadyH.nil))
                  case' r53x0_1_2_3_5_8_9_10_4 =>
                    refine wp_app_F (r := rConnection) (w0 := w16) (base := w16.heap.size) _ _ 54 rfl Try.underlying54 infoCn rfl (by decide) (by decide) (v := .slice (some ⟨_, 0, none⟩) 0 0) (n := 0) (xs := []) rfl (own_litC (by first | exact heap_new (by simp) | exact (heap_old (by simp)).trans (heap_new (by simp))) (by first | (simp; omega) | omega)) inferInstance (Nat.le_refl _) (Later.size (w := w16) inferInstance) rfl (HFr.out.later inferInstance) (by omega) ?_; intro v1 w11 hown1 hX1 hG1; (first | (have h6 : Blk w11 (w16.heap.size + 1) 101 #[.int .i64 X.Id, .int .i64 X.Stop, .int .i64 X.Place, .int .i64 X.Time] := blk_grown (by exact heap_new (by simp)) hG1 (fun k hk => by simp [Value.ownBlock] at hk; omega)) | (have h6 : Blk w11 w16.heap.size 101 #[.int .i64 X.Id, .int .i64 X.Stop, .int .i64 X.Place, .int .i64 X.Time] := blk_grown (by exact (heap_old (by simp)).trans (heap_new (by simp))) hG1 (fun k hk => by simp [Value.ownBlock] at hk; omega)) | skip); haveI hX1i := hX1; haveI hX115 := Later.trans (w := w15) inferInstance hX1
                    refine hK.out _ _ (by exact ⟨inferInstance, inferInstance⟩) (fun hHeld => ?_)
                    try simp only [Act.put, List.setIfInBounds_toArray, List.set_cons_zero, List.set_cons_succ]
                    refine wpAnyH_ready (rs := [6]) (by kernel_rfl) (by simp) (AllReadyH.cons rfl (fun K hK => ?_) AllReadyH.nil)
                    go_simp
                    skip
                    refine hK.out _ _ (by exact ⟨inferInstance, inferInstance⟩) (fun hHeld => ?_)
                    try simp only [Act.put, List.setIfInBounds_toArray, List.set_cons_zero, List.set_cons_succ]
                    refine wpAnyH_ready (rs := [7]) (by kernel_rfl) (by simp) (AllReadyH.cons rfl (fun K hK => ?_) AllReadyH.nil)
                    refine wp_app_F (r := rConnection) (w0 := w16) (base := w16.heap.size) _ _ 54 rfl Try.underlying54 infoCn rfl (by decide) (by decide) (l := [X]) rfl (by exact ownsRow_later hown1 (inferInstance : Later w11 _)) inferInstance (Nat.le_refl _) (Later.size (w := w16) inferInstance) rfl (conn_lit (t := 101) (by first | exact h6 | exact heap_new (by simp)) HXOK.out) (by omega) ?_; intro v2 w12 hown2 hX2 hG2; haveI hX2i := hX2; haveI hX215 := Later.trans (w := w15) inferInstance hX2
                    refine hK.out _ _ (by exact ⟨inferInstance, inferInstance⟩) (fun hHeld => ?_)
                    try simp only [Act.put, List.setIfInBounds_toArray, List.set_cons_zero, List.set_cons_succ]
                    refine wpAnyH_ready (rs := [11]) (by kernel_rfl) (by simp) (AllReadyH.cons rfl (fun K hK => ?_) AllReadyH.nil)
                    refine wp_app_F (r := rConnection) (w0 := w16) (base := w16.heap.size) _ _ 54 rfl Try.underlying54 infoCn rfl (by decide) (by decide) rfl (by exact ownsRow_later hown2 (inferInstance : Later w12 _)) inferInstance (Nat.le_refl _) (Later.size (w := w16) inferInstance) rfl (by first | exact HB2.out.later inferInstance | exact HB3.out.later inferInstance | exact HB4.out.later inferInstance) (by omega) ?_; intro v3 w13 hown3 hX3 hG3; haveI hX3i := hX3; haveI hX315 := Later.trans (w := w15) inferInstance hX3
                    refine hK.out _ _ (by exact ⟨inferInstance, inferInstance⟩) (fun hHeld => ?_)
                    try simp only [Act.put, List.setIfInBounds_toArray, List.set_cons_zero, List.set_cons_succ]
                    refine wpAnyH_take (i := 12) (v := ?_) (by simp only [List.getElem?_toArray, List.getElem?_cons_succ, List.getElem?_cons_zero] <;> rfl) (by kernel_rfl) (by kernel_rfl) (by kernel_rfl) (by exact fun _ _ _ h => h) (Or.inl ⟨by kernel_rfl, ?_⟩) (by assumption) ?_
                    rotate_left
                    · intro w' hSw; (try dsimp only at hSw); go_simp; try with_reducible rfl
                    try simp only [Act.put, List.setIfInBounds_toArray, List.set_cons_zero, List.set_cons_succ]
                    refine wpAnyH_done (by kernel_rfl) ?_ _
                  case' r53x0_1_2_3_5_8_9_10_6 =>
                    go_simp
                    skip
                    refine hK.out _ _ (by exact ⟨inferInstance, inferInstance⟩) (fun hHeld => ?_)
                    try simp only [Act.put, List.setIfInBounds_toArray, List.set_cons_zero, List.set_cons_succ]
                    refine wpAnyH_ready (rs := [4]) (by kernel_rfl) (by simp) (AllReadyH.cons rfl (fun K hK => ?_) AllReadyH.nil)
                    refine wp_app_F (r := rConnection) (w0 := w16) (base := w16.heap.size) _ _ 54 rfl Try.underlying54 infoCn rfl (by decide) (by decide) (v := .slice (some ⟨_, 0, none⟩) 0 0) (n := 0) (xs := []) rfl (own_litC (by first | exact heap_new (by simp) | exact (heap_old (by simp)).trans (heap_new (by simp))) (by first | (simp; omega) | omega)) inferInstance (Nat.le_refl _) (Later.size (w := w16) inferInstance) rfl (HFr.out.later inferInstance) (by omega) ?_; intro v1 w11 hown1 hX1 hG1; (first | (have h6 : Blk w11 (w16.heap.size + 1) 101 #[.int .i64 X.Id, .int .i64 X.Stop, .int .i64 X.Place, .int .i64 X.Time] := blk_grown (by exact heap_new (by simp)) hG1 (fun k hk => by simp [Value.ownBlock] at hk; omega)) | (have h6 : Blk w11 w16.heap.size 101 #[.int .i64 X.Id, .int .i64 X.Stop, .int .i64 X.Place, .int .i64 X.Time] := blk_grown (by exact (heap_old (by simp)).trans (heap_new (by simp))) hG1 (fun k hk => by simp [Value.ownBlock] at hk; omega)) | skip); haveI hX1i := hX1; haveI hX115 := Later.trans (w := w15) inferInstance hX1
                    refine hK.out _ _ (by exact ⟨inferInstance, inferInstance⟩) (fun hHeld => ?_)
                    try simp only [Act.put, List.setIfInBounds_toArray, List.set_cons_zero, List.set_cons_succ]
                    refine wpAnyH_ready (rs := [7]) (by kernel_rfl) (by simp) (AllReadyH.cons rfl (fun K hK => ?_) AllReadyH.nil)
                    refine wp_app_F (r := rConnection) (w0 := w16) (base := w16.heap.size) _ _ 54 rfl Try.underlying54 infoCn rfl (by decide) (by decide) (l := [X]) rfl (by exact ownsRow_later hown1 (inferInstance : Later w11 _)) inferInstance (Nat.le_refl _) (Later.size (w := w16) inferInstance) rfl (conn_lit (t := 101) (by first | exact h6 | exact heap_new (by simp)) HXOK.out) (by omega) ?_; intro v2 w12 hown2 hX2 hG2; haveI hX2i := hX2; haveI hX215 := Later.trans (w := w15) inferInstance hX2
                    refine hK.out _ _ (by exact ⟨inferInstance, inferInstance⟩) (fun hHeld => ?_)
                    try simp only [Act.put, List.setIfInBounds_toArray, List.set_cons_zero, List.set_cons_succ]
                    refine wpAnyH_ready (rs := [11]) (by kernel_rfl) (by simp) (AllReadyH.cons rfl (fun K hK => ?_) AllReadyH.nil)
                    refine wp_app_F (r := rConnection) (w0 := w16) (base := w16.heap.size) _ _ 54 rfl Try.underlying54 infoCn rfl (by decide) (by decide) rfl (by exact ownsRow_later hown2 (inferInstance : Later w12 _)) inferInstance (Nat.le_refl _) (Later.size (w := w16) inferInstance) rfl (by first | exact HB2.out.later inferInstance | exact HB3.out.later inferInstance | exact HB4.out.later inferInstance) (by omega) ?_; intro v3 w13 hown3 hX3 hG3; haveI hX3i := hX3; haveI hX315 := Later.trans (w := w15) inferInstance hX3
                    refine hK.out _ _ (by exact ⟨inferInstance, inferInstance⟩) (fun hHeld => ?_)
                    try simp only [Act.put, List.setIfInBounds_toArray, List.set_cons_zero, List.set_cons_succ]
                    refine wpAnyH_take (i := 12) (v := ?_) (by simp only [List.getElem?_toArray, List.getElem?_cons_succ, List.getElem?_cons_zero] <;> rfl) (by kernel_rfl) (by kernel_rfl) (by kernel_rfl) (by exact fun _ _ _ h => h) (Or.inl ⟨by kernel_rfl, ?_⟩) (by assumption) ?_
                    rotate_left
                    · intro w' hSw; (try dsimp only at hSw); go_simp; try with_reducible rfl
                    try simp only [Act.put, List.setIfInBounds_toArray, List.set_cons_zero, List.set_cons_succ]
                    refine wpAnyH_done (by kernel_rfl) ?_ _
                case' r53x1_2_3_5_8_9_10_6 =>
                  go_simp
                  skip
                  refine hK.out _ _ (by exact ⟨inferInstance, inferInstance⟩) (fun hHeld => ?_)
                  try simp only [Act.put, List.setIfInBounds_toArray, List.set_cons_zero, List.set_cons_succ]
                  refine wpAnyH_ready (rs := [0]) (by kernel_rfl) (by simp) (AllReadyH.cons rfl (fun K hK => ?_) AllReadyH.nil)
                  go_simp
                  skip
                  refine hK.out _ _ (by exact ⟨inferInstance, inferInstance⟩) (fun hHeld => ?_)
                  try simp only [Act.put, List.setIfInBounds_toArray, List.set_cons_zero, List.set_cons_succ]
                  refine wpAnyH_ready (rs := [4]) (by kernel_rfl) (by simp) (AllReadyH.cons rfl (fun K hK => ?_) AllReadyH.nil)
                  refine wp_app_F (r := rConnection) (w0 := w16) (base := w16.heap.size) _ _ 54 rfl Try.underlying54 infoCn rfl (by decide) (by decide) (v := .slice (some ⟨_, 0, none⟩) 0 0) (n := 0) (xs := []) rfl (own_litC (by first | exact heap_new (by simp) | exact (heap_old (by simp)).trans (heap_new (by simp))) (by first | (simp; omega) | omega)) inferInstance (Nat.le_refl _) (Later.size (w := w16) inferInstance) rfl (HFr.out.later inferInstance) (by omega) ?_; intro v1 w11 hown1 hX1 hG1; (first | (have h6 : Blk w11 (w16.heap.size + 1) 101 #[.int .i64 X.Id, .int .i64 X.Stop, .int .i64 X.Place, .int .i64 X.Time] := blk_grown (by exact heap_new (by simp)) hG1 (fun k hk => by simp [Value.ownBlock] at hk; omega)) | (have h6 : Blk w11 w16.heap.size 101 #[.int .i64 X.Id, .int .i64 X.Stop, .int .i64 X.Place, .int .i64 X.Time] := blk_grown (by exact (heap_old (by simp)).trans (heap_new (by simp))) hG1 (fun k hk => by simp [Value.ownBlock] at hk; omega)) | skip); haveI hX1i := hX1; haveI hX115 := Later.trans (w := w15) inferInstance hX1
                  refine hK.out _ _ (by exact ⟨inferInstance, inferInstance⟩) (fun hHeld => ?_)
                  try simp only [Act.put, List.setIfInBounds_toArray, List.set_cons_zero, List.set_cons_succ]
                  refine wpAnyH_ready (rs := [7]) (by kernel_rfl) (by simp) (AllReadyH.cons rfl (fun K hK => ?_) AllReadyH.nil)
                  refine wp_app_F (r := rConnection) (w0 := w16) (base := w16.heap.size) _ _ 54 rfl Try.underlying54 infoCn rfl (by decide) (by decide) (l := [X]) rfl (by exact ownsRow_later hown1 (inferInstance : Later w11 _)) inferInstance (Nat.le_refl _) (Later.size (w := w16) inferInstance) rfl (conn_lit (t := 101) (by first | exact h6 | exact heap_new (by simp)) HXOK.out) (by omega) ?_; intro v2 w12 hown2 hX2 hG2; haveI hX2i := hX2; haveI hX215 := Later.trans (w := w15) inferInstance hX2
                  refine hK.out _ _ (by exact ⟨inferInstance, inferInstance⟩) (fun hHeld => ?_)
                  try simp only [Act.put, List.setIfInBounds_toArray, List.set_cons_zero, List.set_cons_succ]
                  refine wpAnyH_ready (rs := [11]) (by kernel_rfl) (by simp) (AllReadyH.cons rfl (fun K hK => ?_) AllReadyH.nil)
                  refine wp_app_F (r := rConnection) (w0 := w16) (base := w16.heap.size) _ _ 54 rfl Try.underlying54 infoCn rfl (by decide) (by decide) rfl (by exact ownsRow_later hown2 (inferInstance : Later w12 _)) inferInstance (Nat.le_refl _) (Later.size (w := w16) inferInstance) rfl (by first | exact HB2.out.later inferInstance | exact HB3.out.later inferInstance | exact HB4.out.later inferInstance) (by omega) ?_; intro v3 w13 hown3 hX3 hG3; haveI hX3i := hX3; haveI hX315 := Later.trans (w := w15) inferInstance hX3
                  refine hK.out _ _ (by exact ⟨inferInstance, inferInstance⟩) (fun hHeld => ?_)
                  try simp only [Act.put, List.setIfInBounds_toArray, List.set_cons_zero, List.set_cons_succ]
                  refine wpAnyH_take (i := 12) (v := ?_) (by simp only [List.getElem?_toArray, List.getElem?_cons_succ, List.getElem?_cons_zero] <;> rfl) (by kernel_rfl) (by kernel_rfl) (by kernel_rfl) (by exact fun _ _ _ h => h) (Or.inl ⟨by kernel_rfl, ?_⟩) (by assumption) ?_
                  rotate_left
                  · intro w' hSw; (try dsimp only at hSw); go_simp; try with_reducible rfl
                  try simp only [Act.put, List.setIfInBounds_toArray, List.set_cons_zero, List.set_cons_succ]
                  refine wpAnyH_done (by kernel_rfl) ?_ _
                all_goals
                  have HOW := Lib.hid (own_eqF (m := nL + 1) hown3 (by omega) HFL.out.symm)
                  clear hown1 hown2 hown3 hG1 hG2 hG3
                  obtain ⟨g3, c3, rfl, hRC3, hgD, hnc3, hcm3⟩ := RowC.of_own HOW.out (by rw [insC_len]; have := HNL.out; omega) (by omega)
                  have HRC3 := Lib.hid hRC3
                  clear hRC3 HOW
                  haveI hb13 : Later wb w13 := Later.trans (w := wb) inferInstance hX315
                  haveI h713 : Later w7 w13 := Later.trans (w := w7) inferInstance hX315
                  go_wp2
                  go_roundw
                  case rel => exact ⟨k + 1, g3, nL + 1, c3, insC L X, by omega, by go_num, rfl, by omega, hnc3, hcm3, HNEW, by show _ = _; rw [insC_len, HNL.out], HRC3, by have := Later.size (w := wb) (W := w16) inferInstance; omega, inferInstance, inferInstance⟩
                  case measure => simp [intOf]; omega
        · obtain rfl : nq = p := by omega
          have hpi : ¬ (nq : Int) + 1 < m0 := by have := HNQ.out; omega
          have HNEW : Hid (sortC ((t.Trips.take (k + 1)).filterMap (catOf t row time)) = L) := by
            have h9 := HF.out
            rw [List.drop_eq_nil_of_le (by simp)] at h9
            show _ = _
            rw [HCS.out, ← h9, ← HSO.out]; simp
          clear HF HCS
          go_wp2
          go_roundw
          case rel => exact ⟨k + 1, g, nL, c, L, by omega, by go_num, rfl, by omega, hnc, hcm, HNEW, HNL, Lib.hid (HRC.out.later inferInstance), hgw, inferInstance, inferInstance⟩
          case measure => simp [intOf]; omega
    · have hki : ¬ (k : Int) < sn2 := by omega
      have HL : Hid (sortC (catL t row time) = L) := by
        show _ = _
        have h9 := HSO.out
        rw [List.take_of_length_le (by have := HT2.out; omega)] at h9; exact h9
      have HOK : Hid (∀ y, y ∈ L → ConnectionOk y) := fun y hy => catL_ok TF.out (sortC_mem (by rw [HL.out]; exact hy))
      go_wp2
      go_ret2
      exact ⟨some ⟨g, 0, none⟩, nL, c, [g], by rw [HR.out]; rfl, by rw [HR.out, HL.out]; exact (HRC.out.later inferInstance).osl HNL.out hnc hcm HOK.out, by simp, fun b hb => by simp at hb; omega, hww.trans inferInstance⟩
end Go.Proofs.Ytaopadffabbjiaa
