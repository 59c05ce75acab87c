/-
  Earliest arrivals: the reference's answers.
-/
import Derived.Test.YtiifdmichmkmeaaArrS
import Derived.Test.YtiifdmichmkmeaaAppK
namespace Go.Proofs.Ytiifdmichmkmeaa
open Go Go.RowKit
set_option linter.unusedVariables false
set_option maxRecDepth 100000
set_option maxHeartbeats 800000 in
theorem spec_EarliestArrivals {w0 w : World} {sA0 : Option Addr} {sn0 sc0 : Nat} {sA1 : Option Addr} {sn1 sc1 : Nat} {sA2 : Option Addr} {sn2 sc2 : Nat} {t : Timetable} (h : TimetableAt w0 sA0 sn0 sc0 sA1 sn1 sc1 sA2 sn2 sc2 t) (hl : Later w0 w) (change from_ at_ : Int) :
    Calls Try.prog 56 #[.agg #[.slice sA0 sn0 sc0, .slice sA1 sn1 sc1, .slice sA2 sn2 sc2], .int .i64 change, .int .i64 from_, .int .i64 at_] w (RetO2 1 oInt (earRes t change from_ at_).1 (earRes t change from_ at_).2 w) := by
  have Hl : Hid (sn0 = t.Network.Stops.length) := h.l_Network_Stops.len
  have HB0 : ∀ W [Later (w.alloc (.cells #[.slice sA0 sn0 sc0, .slice sA1 sn1 sc1, .slice sA2 sn2 sc2] 67)) W] (j : Nat), W.cell? ⟨w.heap.size, j, none⟩ = #[.slice sA0 sn0 sc0, .slice sA1 sn1 sc1, .slice sA2 sn2 sc2][j]? := Later.boxes (t := 67) (fr := (0, 0)) (heap_new (by simp; try omega)); obtain ⟨wb, hwb⟩ : ∃ wb : World, wb = (w.alloc (.cells #[.slice sA0 sn0 sc0, .slice sA1 sn1 sc1, .slice sA2 sn2 sc2] 67)) := ⟨_, rfl⟩; haveI hbW : Later wb (w.alloc (.cells #[.slice sA0 sn0 sc0, .slice sA1 sn1 sc1, .slice sA2 sn2 sc2] 67)) := (by rw [hwb]; exact Later.rfl_); haveI hww : Later w wb := (by rw [hwb]; infer_instance); rw [← hwb] at HB0; have hbE := Lib.hid (congrArg (fun x : World => x.heap.size) hwb); clear hwb
  have hwb0 := hl.trans hww
  have H := Lib.hid h
  clear h
  by_cases c : okFrom t change from_ at_ = true
  · have FF := Lib.hid (fromFacts c)
    have hn8 : sn0 ≤ 8 := by have := FF.out.time.net.stops; rw [Hl.out]; omega
    have HB := Lib.hid (earL_bd FF.out)
    have HE := Lib.hid (earL_eq FF.out)
    rw [show earRes t change from_ at_ = (earL t change from_ at_, true) from if_pos c]
    go_enter Try.func56, Try.ntmps56
    go_wp2_with first
      | (go_at_call 166; refine (spec_l8From H.out (hwb0.trans inferInstance) _ _ _).mono ?_; rintro e w1 ⟨rfl, L1⟩; have X1 := Later.trans (w := wb) inferInstance L1)
      | (go_at_call 167; refine (spec_l8Arrivals H.out (hwb0.trans inferInstance) FF.out.time _ _ _ FF.out.ch0 FF.out.ch1 FF.out.f0 FF.out.f1 FF.out.a0 (Int.le_trans FF.out.a1 (by decide)) 4 (by omega) _ (by omega)).mono ?_; rw [HE.out]; rintro e w2 ⟨g2, o2, c2, rfl, hL2, hR2, hg2, L2⟩; have X2 := Later.trans (w := wb) inferInstance L2)
    go_ret2
    exact ⟨some ⟨g2, o2, none⟩, sn0, c2, [g2], rfl, hR2.osl hL2.out.1 hL2.out.2.1 hL2.out.2.2 (fun v hv => by have := HB.out v hv; unfold I64; omega), by simp, by intro g hg; simp at hg; subst hg; have := Later.size (w := w) (hww.trans X1); omega, hww.trans inferInstance⟩
  · have c1 : okFrom t change from_ at_ = false := by simpa using c
    rw [show earRes t change from_ at_ = ([], false) from if_neg c]
    clear c
    go_enter Try.func56, Try.ntmps56
    go_wp2_with (go_at_call 166; refine (spec_l8From H.out (hwb0.trans inferInstance) _ _ _).mono ?_; rintro e w1 ⟨rfl, L1⟩; have X1 := Later.trans (w := wb) inferInstance L1)
    go_ret2
    exact ⟨_, 0, 0, [], rfl, OSl.nil_ _, by simp, by simp, hww.trans inferInstance⟩
set_option maxHeartbeats 2000000 in
theorem spec_ReachedBy {w0 w : World} {sA0 : Option Addr} {sn0 sc0 : Nat} {sA1 : Option Addr} {sn1 sc1 : Nat} {sA2 : Option Addr} {sn2 sc2 : Nat} {t : Timetable} (h : TimetableAt w0 sA0 sn0 sc0 sA1 sn1 sc1 sA2 sn2 sc2 t) (hl : Later w0 w) (change from_ at_ by_ : Int) :
    Calls Try.prog 62 #[.agg #[.slice sA0 sn0 sc0, .slice sA1 sn1 sc1, .slice sA2 sn2 sc2], .int .i64 change, .int .i64 from_, .int .i64 at_, .int .i64 by_] w (RetO2 1 oInt (reachRes t change from_ at_ by_).1 (reachRes t change from_ at_ by_).2 w) := by
  have Hl : Hid (sn0 = t.Network.Stops.length) := h.l_Network_Stops.len
  have HB0 : ∀ W [Later (w.alloc (.cells #[.slice sA0 sn0 sc0, .slice sA1 sn1 sc1, .slice sA2 sn2 sc2] 67)) W] (j : Nat), W.cell? ⟨w.heap.size, j, none⟩ = #[.slice sA0 sn0 sc0, .slice sA1 sn1 sc1, .slice sA2 sn2 sc2][j]? := Later.boxes (t := 67) (fr := (0, 0)) (heap_new (by simp; try omega)); obtain ⟨wb, hwb⟩ : ∃ wb : World, wb = (w.alloc (.cells #[.slice sA0 sn0 sc0, .slice sA1 sn1 sc1, .slice sA2 sn2 sc2] 67)) := ⟨_, rfl⟩; haveI hbW : Later wb (w.alloc (.cells #[.slice sA0 sn0 sc0, .slice sA1 sn1 sc1, .slice sA2 sn2 sc2] 67)) := (by rw [hwb]; exact Later.rfl_); haveI hww : Later w wb := (by rw [hwb]; infer_instance); rw [← hwb] at HB0; have hbE := Lib.hid (congrArg (fun x : World => x.heap.size) hwb); clear hwb
  have hwb0 := hl.trans hww
  have H := Lib.hid h
  clear h
  have hbs : wb.heap.size ≤ w.heap.size + 1 := by have := hbE.out; simp at this; omega
  have hbs2 : w.heap.size + 1 ≤ wb.heap.size := by have := hbE.out; simp at this; omega
  by_cases c : okFrom t change from_ at_ = true
  rotate_left
  · have c1 : okFrom t change from_ at_ = false := by simpa using c
    rw [show reachRes t change from_ at_ by_ = ([], false) from if_neg fun k => c k.1]
    clear c
    go_enter Try.func62, Try.ntmps62
    go_wp2_with (go_at_call 166; refine (spec_l8From H.out (hwb0.trans inferInstance) _ _ _).mono ?_; rintro e w1 ⟨rfl, L1⟩; have X1 := Later.trans (w := wb) inferInstance L1)
    go_ret2
    exact ⟨_, 0, 0, [], rfl, OSl.nil_ _, by simp, by simp, hww.trans inferInstance⟩
  have FF := Lib.hid (fromFacts c)
  by_cases c2 : okTime by_ = true
  rotate_left
  · have c1 : okTime by_ = false := by simpa using c2
    rw [show reachRes t change from_ at_ by_ = ([], false) from if_neg fun k => c2 k.2]
    clear c2
    go_enter Try.func62, Try.ntmps62
    go_wp2_with first
      | (go_at_call 166; refine (spec_l8From H.out (hwb0.trans inferInstance) _ _ _).mono ?_; rintro e w1 ⟨rfl, L1⟩; have X1 := Later.trans (w := wb) inferInstance L1)
      | (go_at_call 171; refine (spec_l4Time _ _).mono ?_; rintro e w' ⟨rfl, rfl⟩)
    go_ret2
    exact ⟨_, 0, 0, [], rfl, OSl.nil_ _, by simp, by simp, hww.trans inferInstance⟩
  have hn8 : sn0 ≤ 8 := by have := FF.out.time.net.stops; rw [Hl.out]; omega
  have HL := Lib.hid (earL_len FF.out)
  have HB := Lib.hid (earL_bd FF.out)
  have HEQ := Lib.hid (earL_eq FF.out)
  rw [show reachRes t change from_ at_ by_ = (inGo by_ (earL t change from_ at_) 0, true) from if_pos ⟨c, c2⟩]
  go_enter Try.func62, Try.ntmps62
  go_wp2_with first
    | (go_at_call 166; refine (spec_l8From H.out (hwb0.trans inferInstance) _ _ _).mono ?_; rintro e w1 ⟨rfl, L1⟩; have X1 := Later.trans (w := wb) inferInstance L1)
    | (go_at_call 171; refine (spec_l4Time _ _).mono ?_; rintro e w' ⟨rfl, rfl⟩)
    | (go_at_call 167; refine (spec_l8Arrivals H.out (hwb0.trans inferInstance) FF.out.time _ _ _ FF.out.ch0 FF.out.ch1 FF.out.f0 FF.out.f1 FF.out.a0 (Int.le_trans FF.out.a1 (by decide)) 4 (by omega) _ (by omega)).mono ?_; rw [HEQ.out]; rintro e w2 ⟨g2, o2, c2', rfl, hL2, hR2, hg2, L2⟩; have X2 := Later.trans (w := wb) inferInstance L2)
  clear c c2
  have hcap := hL2.out.2.1
  have hmx := hL2.out.2.2
  have HO1 : Hid (w2.ownsRow (w.heap.size + 1) 3 1 (.slice (some ⟨w.heap.size + 1, 0, none⟩) 0 0) 0 []) := by
    have h0 := World.ownsRow_lit (base := w.heap.size + 1) (e := 3) (size := 1) (w.alloc (.cells #[.slice sA0 sn0 sc0, .slice sA1 sn1 sc1, .slice sA2 sn2 sc2] 67)) #[] 0 (by simp) (by simp [maxLen]) rfl
    exact ownsRow_later (by simpa using h0) (Later.trans (w := (w.alloc (.cells #[.slice sA0 sn0 sc0, .slice sA1 sn1 sc1, .slice sA2 sn2 sc2] 67)).alloc (.cells #[] 3)) inferInstance L2)
  have hne0 : Hid ((Value.slice (some ⟨w.heap.size + 1, 0, none⟩) 0 0).ownBlock ≠ some g2) := by
    have hz : w.heap.size + 1 < w1.heap.size := by
      have h1 := Later.size (w := (w.alloc (.cells #[.slice sA0 sn0 sc0, .slice sA1 sn1 sc1, .slice sA2 sn2 sc2] 67)).alloc (.cells #[] 3)) (W := w1) (Later.trans inferInstance L1)
      simp at h1
      omega
    intro e
    simp only [Value.ownBlock, Option.some.injEq] at e
    omega
  clear hL2 hg2
  go_loopw [12, 14] (fun ov i wr => ∃ (k : Nat) (acc : List Int), k ≤ sn0 ∧ i = .int .i64 k ∧ acc.length ≤ k ∧ Hid (acc ++ inGo by_ ((earL t change from_ at_).drop k) k = inGo by_ (earL t change from_ at_) 0) ∧ Hid (wr.ownsRow (w.heap.size + 1) 3 1 ov acc.length (acc.map (Value.int .i64))) ∧ Hid (ov.ownBlock ≠ some g2) ∧ RowAt wr g2 o2 (earL t change from_ at_) ∧ Later wb wr) (fun _ i _ => sn0 - (intOf i).toNat)
  case atStart => exact ⟨0, [], by omega, rfl, by simp, by show _ = _; simp, HO1, hne0, hR2, inferInstance⟩
  case round =>
    obtain ⟨k, acc, hk, rfl, hal, HF, hown, hne, hR, hX⟩ := hrel
    by_cases hlt : k < sn0
    · obtain ⟨a, ha0⟩ : ∃ a, (earL t change from_ at_)[k]? = some a := ⟨_, List.getElem?_eq_getElem (by rw [HL.out, ← Hl.out]; exact hlt)⟩
      have hcs := hR.cells ha0
      have hgl := hR.lt
      have HF1 := HF.out
      rw [drop_at ha0] at HF1
      simp only [inGo] at HF1
      clear HF ha0
      by_cases ha : inB a 0 by_ = true
      · rw [if_pos ha] at HF1
        have HF2 : Hid ((acc ++ [(k : Int)]) ++ inGo by_ ((earL t change from_ at_).drop (k + 1)) (k + 1) = inGo by_ (earL t change from_ at_) 0) := by show _ = _; rw [← HF1]; simp
        clear HF1
        go_wp2_with first
          | (go_at_call 126; refine (spec_l1In _ _ _ _).mono ?_; rintro e w' ⟨rfl, rfl⟩)
          | (at_builtin; refine wpList_app_K rfl _ _ 81 rfl Try.underlying81 infoInt rfl (by decide) (by decide) rfl (by exact hown.out) (inferInstance : Later wb wr) hbs (by have := hX.size; omega) g2 hgl (by exact hne.out) rfl rfl (one_cell _ _) (by omega) ?_; intro v' w4 hown' hX' hk4 hne'; have hR4 := hR.keep hk4)
        go_roundw
        case rel => exact ⟨k + 1, acc ++ [(k : Int)], by omega, by go_num, by simp; omega, HF2, by show World.ownsRow _ _ _ _ _ _ _; rw [List.map_append, List.length_append]; exact hown', hne', hR4, inferInstance⟩
        case measure => simp [intOf]; omega
      · have hb : inB a 0 by_ = false := by simpa using ha
        rw [if_neg ha] at HF1
        have HF2 := Lib.hid HF1
        clear HF1 ha
        go_wp2_with (go_at_call 126; refine (spec_l1In _ _ _ _).mono ?_; rintro e w' ⟨rfl, rfl⟩)
        go_roundw
        case rel => exact ⟨k + 1, acc, by omega, by go_num, by omega, HF2, hown, hne, hR, inferInstance⟩
        case measure => simp [intOf]; omega
    · have HE : Hid (acc = inGo by_ (earL t change from_ at_) 0) := by
        have h3 := HF.out
        rw [List.drop_eq_nil_of_le (by rw [HL.out]; have := Hl.out; omega)] at h3
        exact (by simpa [inGo] using h3 : acc = _)
      clear HF
      go_wp2
      go_ret2
      obtain ⟨A, c, fp, rfl, ho, hnd, hlo⟩ := OSl.ints_of_own hown.out (fun y' hy' => by
        have := inGo_bd by_ (earL t change from_ at_) 0 y' (by rw [← HE.out]; exact hy')
        have := HL.out
        have := Hl.out
        unfold I64; omega)
      exact ⟨A, acc.length, c, fp, rfl, by rw [← HE.out]; exact ho, hnd, fun g hg => by have := hlo g hg; omega, hww.trans inferInstance⟩
end Go.Proofs.Ytiifdmichmkmeaa
