/-
  The first journey, in the reference's order of search. Plain functions.
  The first journey, in the reference (l8First, l8Best).
  EarliestJourney on both sides.
  A slice of rows of anything that grows by append, each row in blocks of its own. Lemmas only.
  ParetoJourneys on both sides.
-/
import Derived.Test.YteijofkkggifhaaFirstQ
import Derived.Test.YteijofkkggifhaaExtZ
import Derived.Test.YteijofkkggifhaaExtS
import Derived.Test.YteijofkkggifhaaJf
import Derived.Test.YteijofkkggifhaaORow
namespace Go.Proofs.Yteijofkkggifhaa
open Go Go.RowKit
set_option linter.unusedVariables false
set_option maxRecDepth 100000
theorem least_is {A : Nat → Int} {m k : Nat} (hm : 1 ≤ m) (h1 : 1 ≤ k) (hA : A k ≤ A m) (hj : ∀ j, 1 ≤ j → j < k → A m < A j) : leastL A m = k := by
  obtain ⟨l1, l2, l3, l4⟩ := leastL_spec (A := A) hm
  apply Decidable.byContradiction
  intro c
  rcases Nat.lt_or_gt_of_ne c with h | h
  · have := hj _ l1 h; omega
  · have := l4 k h1 h; omega
/-- The arrival as the reference has it. -/
def arrE (t : Timetable) (change from_ at_ to : Int) (m : Nat) : Int := gi (arrS t change from_ at_ m) to
section
variable {t : Timetable} {change from_ to at_ : Int}
theorem arrE_eq (h : PairFacts t change from_ to) (a0 : 0 ≤ at_) (a1 : at_ ≤ 2099) (m : Nat) : arrE t change from_ at_ to m = encN (arrV t change from_ at_ m to) :=
  arr_same h.time h.ch.1 h.fr.1 h.fr.2 a0 a1 m h.to_.1 h.to_.2 (Ne.symm h.ne)
theorem arrE_rng (h : PairFacts t change from_ to) (a0 : 0 ≤ at_) (a1 : at_ ≤ 2099) (m : Nat) : (arrE t change from_ at_ to m = -1 ∧ arrV t change from_ at_ m to = never) ∨ (0 ≤ arrE t change from_ at_ to m ∧ arrE t change from_ at_ to m ≤ 2099 ∧ arrV t change from_ at_ m to = arrE t change from_ at_ to m ∧ arrV t change from_ at_ m to ≠ never) := by
  have e := arrE_eq h a0 a1 m
  have r := arrV_rng h.time h.ch.1 h.fr.1 h.fr.2 h.to_.1 h.to_.2 (at_ := at_) m
  rw [e]
  unfold encN
  rcases r with r | r
  · exact .inl ⟨if_pos r, r⟩
  · have hn : ¬ arrV t change from_ at_ m to = never := by unfold never; omega
    rw [if_neg hn]
    exact .inr ⟨r.1, r.2, rfl, hn⟩
theorem best_no (h : PairFacts t change from_ to) (a0 : 0 ≤ at_) (a1 : at_ ≤ 2099) {m : Nat} (hv : arrE t change from_ at_ to m < 0) : firstJ t change from_ to at_ m = [] := by
  rcases arrE_rng h a0 a1 m with r | r
  · exact firstJ_no r.2
  · omega
theorem best_at (h : PairFacts t change from_ to) (a0 : 0 ≤ at_) (a1 : at_ ≤ 2099) {v : Int} {m k : Nat} (hm : 1 ≤ m) (hv : arrE t change from_ at_ to m = v) (v0 : 0 ≤ v) (hk : 1 ≤ k) (hkv : arrE t change from_ at_ to k = v)
    (hj : ∀ j, 1 ≤ j → j < k → j ≤ m → arrE t change from_ at_ to j ≠ v) (hkm : k ≤ m) : ext t change to v k [] from_ at_ = firstJ t change from_ to at_ m := by
  have r : arrV t change from_ at_ m to = v ∧ arrV t change from_ at_ m to ≠ never := by
    rcases arrE_rng h a0 a1 m with r | r
    · omega
    · exact ⟨by omega, r.2.2.2⟩
  have hL : leastL (fun k => arrV t change from_ at_ k to) m = k := by
    refine least_is hm hk ?_ fun j j1 j2 => ?_
    · skip
      rcases arrE_rng h a0 a1 k with q | q <;> omega
    · skip
      have hmo := arrV_mono h.time h.ch.1 h.fr.1 h.fr.2 h.to_.1 h.to_.2 (at_ := at_) (show j ≤ m by omega)
      have hne := hj j j1 j2 (by omega)
      have hle := arrV_le h.time h.ch.1 h.fr.1 h.fr.2 h.to_.1 h.to_.2 (at_ := at_) m
      rcases arrE_rng h a0 a1 j with q | q <;> omega
  have := (first_same h hm r.2).1
  rw [hL, r.1] at this
  exact this
theorem par_at (h : PairFacts t change from_ to) (a0 : 0 ≤ at_) (a1 : at_ ≤ 2099) {v : Int} {m : Nat} (hm : 1 ≤ m) (hv : arrE t change from_ at_ to m = v) (v0 : 0 ≤ v) (hlt : v < pre (fun k => arrV t change from_ at_ k to) m) : ext t change to v m [] from_ at_ = firstJ t change from_ to at_ m := by
  have r : arrV t change from_ at_ m to = v ∧ arrV t change from_ at_ m to ≠ never := by
    rcases arrE_rng h a0 a1 m with r | r
    · omega
    · exact ⟨by omega, r.2.2.2⟩
  have hL := least_self (arrF (at_ := at_) h) hm (by show arrV t change from_ at_ m to < _; rw [r.1]; exact hlt)
  have := (first_same h hm r.2).1
  rw [hL, r.1] at this
  exact this
/-- The last leg of a first journey arrives when the journey does. -/
theorem first_last (h : PairFacts t change from_ to) {m : Nat} (hm : 1 ≤ m) (hv : arrV t change from_ at_ m to ≠ never) {j : Nat} {l : Leg} (hj : (firstJ t change from_ to at_ m).length = j + 1) (hl : (firstJ t change from_ to at_ m)[j]? = some l) : l.Arrive = arrV t change from_ at_ m to := by
  obtain ⟨l', h1, h2⟩ := (first_same h hm hv).2
  rw [List.getLast?_eq_getElem?, hj] at h1
  rw [show j + 1 - 1 = j from rfl, hl] at h1
  rw [Option.some.inj h1]; exact h2
/-- One round of the choice by legs. -/
theorem par_step (h : PairFacts t change from_ to) (a0 : 0 ≤ at_) (a1 : at_ ≤ 2099) {m f : Nat} (hm : 1 ≤ m) {b : Int} (hb : b = pre (fun k => arrV t change from_ at_ k to) m) :
    (arrV t change from_ at_ m to < b ∧ parGo t change from_ to at_ (f + 1) m b = firstJ t change from_ to at_ m :: parGo t change from_ to at_ f (m + 1) (arrV t change from_ at_ m to) ∧ arrV t change from_ at_ m to = pre (fun k => arrV t change from_ at_ k to) (m + 1)) ∨
    (¬ arrV t change from_ at_ m to < b ∧ parGo t change from_ to at_ (f + 1) m b = parGo t change from_ to at_ f (m + 1) b ∧ b = pre (fun k => arrV t change from_ at_ k to) (m + 1)) := by
  have hp : pre (fun k => arrV t change from_ at_ k to) (m + 1) = arrV t change from_ at_ m to := by unfold pre; rw [if_neg (by omega)]; rfl
  have hle : arrV t change from_ at_ m to ≤ b := by
    rw [hb]; unfold pre
    split
    · exact arrV_le h.time h.ch.1 h.fr.1 h.fr.2 h.to_.1 h.to_.2 m
    · exact arrV_mono h.time h.ch.1 h.fr.1 h.fr.2 h.to_.1 h.to_.2 (Nat.sub_le m 1)
  by_cases c : arrV t change from_ at_ m to < b
  · exact .inl ⟨c, by simp only [parGo]; rw [if_pos c], hp.symm⟩
  · exact .inr ⟨c, by simp only [parGo]; rw [if_neg c], by rw [hp]; omega⟩
end
end Go.Proofs.Yteijofkkggifhaa
namespace Go.Proofs.Yteijofkkggifhaa
open Go Go.RowKit
set_option linter.unusedVariables false
set_option maxRecDepth 100000
set_option linter.unusedSimpArgs false
theorem ext_all : ∀ k, ExtC k := by
  intro k
  induction k with
  | zero => exact spec_ext_zero 0 rfl
  | succ k ih => exact spec_ext_succ k (k + 1) rfl ih
theorem legs_none (W : World) (b o c : Nat) (hc : c ≤ 9223372036854775807) : Legs W (some ⟨b, o, none⟩) 0 c [] := ⟨rfl, Nat.zero_le _, hc, fun k x hx => by simp at hx⟩
set_option maxHeartbeats 4000000 in
theorem spec_l8First {w0 w : World} {sA0 : Option Addr} {sn0 sc0 : Nat} {sA1 : Option Addr} {sn1 sc1 : Nat} {sA2 : Option Addr} {sn2 sc2 : Nat} {t : Timetable} (h : TimetableAt w0 sA0 sn0 sc0 sA1 sn1 sc1 sA2 sn2 sc2 t) (hl : Later w0 w) (tf : TimeFacts t) (change from_ to at_ arrive : Int) (ch0 : 0 ≤ change) (ch1 : change ≤ 30) (f0 : 0 ≤ from_) (f1 : from_ < t.Network.Stops.length) (k : Nat) (hk : k ≤ 3) (m : Int) (hm : m = (k : Int) + 1) :
    Calls Try.prog 84 #[.agg #[.slice sA0 sn0 sc0, .slice sA1 sn1 sc1, .slice sA2 sn2 sc2], .int .i64 change, .int .i64 from_, .int .i64 to, .int .i64 at_, .int .i64 arrive, .int .i64 m] w (RetO 5 oLeg (ext t change to arrive (k + 1) [] from_ at_) w) := by
  have TF := Lib.hid tf
  have HM := Lib.hid hm
  have HSF : Hid (I64 from_) := by show I64 _; have := tf.net.stops; unfold I64; omega
  clear tf hm f0 f1
  have HB0 : ∀ W [Later (w.alloc (.cells #[.slice sA0 sn0 sc0, .slice sA1 sn1 sc1, .slice sA2 sn2 sc2] 39)) W] (j : Nat), W.cell? ⟨w.heap.size, j, none⟩ = #[.slice sA0 sn0 sc0, .slice sA1 sn1 sc1, .slice sA2 sn2 sc2][j]? := Later.boxes (t := 39) (fr := (0, 0)) (heap_new (by simp; try omega)); obtain ⟨wb, hwb⟩ : ∃ wb : World, wb = (w.alloc (.cells #[.slice sA0 sn0 sc0, .slice sA1 sn1 sc1, .slice sA2 sn2 sc2] 39)) := ⟨_, rfl⟩; haveI hbW : Later wb (w.alloc (.cells #[.slice sA0 sn0 sc0, .slice sA1 sn1 sc1, .slice sA2 sn2 sc2] 39)) := (by rw [hwb]; exact Later.rfl_); haveI hww : Later w wb := (by rw [hwb]; infer_instance); rw [← hwb] at HB0; have hbE := Lib.hid (congrArg (fun x : World => x.heap.size) hwb); clear hwb
  have hwb0 := hl.trans hww
  have H := Lib.hid h
  clear h
  have hsz : w.heap.size ≤ wb.heap.size := hww.size
  go_enter Try.func84, Try.ntmps84
  go_wp2_with (go_at_call 140; refine (ext_all k (w0 := (w.alloc (.cells #[.slice sA0 sn0 sc0, .slice sA1 sn1 sc1, .slice sA2 sn2 sc2] 39)).alloc (.cells #[.slice sA0 sn0 sc0, .slice sA1 sn1 sc1, .slice sA2 sn2 sc2, .int .i64 change, .int .i64 to, .int .i64 arrive] 179)) (w1 := (w.alloc (.cells #[.slice sA0 sn0 sc0, .slice sA1 sn1 sc1, .slice sA2 sn2 sc2] 39))) (H.out.later (hwb0.trans inferInstance)) inferInstance TF.out (g := w.heap.size + 1) (show SearchAt _ _ _ _ _ _ _ _ _ _ _ _ _ _ from Later.boxes (t := 179) (fr := (0, 0)) (by first | exact heap_new rfl | exact heap_new (by simp))) ch0 ch1 (legs_none _ _ _ _ (by omega)) inferInstance (by omega) from_ at_ HSF.out _ HM.out).mono ?_; rintro e w2 ⟨A2, n2, c2, f2, rfl, ho2, hnd2, hlo2, L2⟩; have X2 := Later.trans (w := wb) inferInstance L2)
  go_ret
  exact ⟨_, _, _, f2, rfl, ho2, hnd2, fun g hg => by have := hlo2 g hg; simp at this; omega, hww.trans inferInstance⟩
theorem arrE_at {t : Timetable} {change from_ at_ : Int} {q m : Nat} (pf : PairFacts t change from_ q) (a0 : 0 ≤ at_) (a1 : at_ ≤ 2099) : (arrS t change from_ at_ m)[q]? = some (arrE t change from_ at_ q m) := by
  have hs := arrS_inv pf.time pf.ch.1 pf.fr.1 pf.fr.2 a0 a1 m (change := change)
  have hq : q < (arrS t change from_ at_ m).length := by rw [hs.len]; have := pf.to_.2; omega
  unfold arrE gi
  rw [List.getD_eq_getElem?_getD, Int.toNat_natCast, List.getElem?_eq_getElem hq]; rfl
set_option maxHeartbeats 4000000 in
theorem spec_l8Best {w0 w : World} {sA0 : Option Addr} {sn0 sc0 : Nat} {sA1 : Option Addr} {sn1 sc1 : Nat} {sA2 : Option Addr} {sn2 sc2 : Nat} {t : Timetable} (h : TimetableAt w0 sA0 sn0 sc0 sA1 sn1 sc1 sA2 sn2 sc2 t) (hl : Later w0 w) (change from_ to at_ : Int) (pf : PairFacts t change from_ to) (a0 : 0 ≤ at_) (a1 : at_ ≤ 2099) :
    Calls Try.prog 77 #[.agg #[.slice sA0 sn0 sc0, .slice sA1 sn1 sc1, .slice sA2 sn2 sc2], .int .i64 change, .int .i64 from_, .int .i64 to, .int .i64 at_] w (RetO 5 oLeg (firstJ t change from_ to at_ 4) w) := by
  have Hl : Hid (sn0 = t.Network.Stops.length) := h.l_Network_Stops.len
  have hn8 : sn0 ≤ 8 := by have := pf.time.net.stops; rw [Hl.out]; omega
  have PF := Lib.hid pf
  obtain ⟨q, rfl⟩ := Int.eq_ofNat_of_zero_le pf.to_.1
  have hq : q < sn0 := by have := pf.to_.2; rw [Hl.out]; omega
  have hqi : (q : Int) < sn0 := by omega
  obtain ⟨v, hv⟩ : ∃ v, arrE t change from_ at_ q 4 = v := ⟨_, rfl⟩
  have HV := Lib.hid hv
  have HAT : Hid ((arrS t change from_ at_ 4)[q]? = some v) := by show _ = _; rw [arrE_at pf a0 a1, hv]
  have hvr := arrE_rng pf a0 a1 4
  rw [hv] at hvr
  have hv1 : -1 ≤ v := by omega
  have hv2 : v ≤ 2099 := by omega
  clear pf hv hvr
  have HB0 : ∀ W [Later (w.alloc (.cells #[.slice sA0 sn0 sc0, .slice sA1 sn1 sc1, .slice sA2 sn2 sc2] 39)) W] (j : Nat), W.cell? ⟨w.heap.size, j, none⟩ = #[.slice sA0 sn0 sc0, .slice sA1 sn1 sc1, .slice sA2 sn2 sc2][j]? := Later.boxes (t := 39) (fr := (0, 0)) (heap_new (by simp; try omega)); obtain ⟨wb, hwb⟩ : ∃ wb : World, wb = (w.alloc (.cells #[.slice sA0 sn0 sc0, .slice sA1 sn1 sc1, .slice sA2 sn2 sc2] 39)) := ⟨_, rfl⟩; haveI hbW : Later wb (w.alloc (.cells #[.slice sA0 sn0 sc0, .slice sA1 sn1 sc1, .slice sA2 sn2 sc2] 39)) := (by rw [hwb]; exact Later.rfl_); haveI hww : Later w wb := (by rw [hwb]; infer_instance); rw [← hwb] at HB0; have hbE := Lib.hid (congrArg (fun x : World => x.heap.size) hwb); clear hwb
  have hwb0 := hl.trans hww
  have H := Lib.hid h
  clear h
  have hsz : w.heap.size ≤ wb.heap.size := hww.size
  by_cases cv : v < 0
  · have HN := Lib.hid (best_no PF.out a0 a1 (m := 4) (by rw [HV.out]; exact cv))
    rw [HN.out]
    go_enter Try.func77, Try.ntmps77
    go_wp2_with (go_at_call 83; refine (spec_l8Arrivals H.out (hwb0.trans inferInstance) PF.out.time _ _ _ PF.out.ch.1 PF.out.ch.2 PF.out.fr.1 PF.out.fr.2 a0 a1 4 (by omega) _ rfl).mono ?_; rintro e w2 ⟨g2, o2, c2, rfl, hL2, hR2, hg2, L2⟩; have X2 := Later.trans (w := wb) inferInstance L2; have hcc := hR2.cells HAT.out; clear hL2 hR2 hg2)
    go_ret
    exact ⟨_, 0, 0, [], rfl, OSl.nil_ _, by simp, by simp, hww.trans inferInstance⟩
  go_enter Try.func77, Try.ntmps77
  go_wp2_with (go_at_call 83; refine (spec_l8Arrivals H.out (hwb0.trans inferInstance) PF.out.time _ _ _ PF.out.ch.1 PF.out.ch.2 PF.out.fr.1 PF.out.fr.2 a0 a1 4 (by omega) _ rfl).mono ?_; rintro e w2 ⟨g2, o2, c2, rfl, hL2, hR2, hg2, L2⟩; have X2 := Later.trans (w := wb) inferInstance L2; have hcc := hR2.cells HAT.out; clear hL2 hR2 hg2)
  go_loopw [12] (fun iv wr => ∃ m : Nat, 1 ≤ m ∧ m ≤ 5 ∧ iv = .int .i64 m ∧ Hid (∀ j, 1 ≤ j → j < m → arrE t change from_ at_ q j ≠ v) ∧ Later wb wr) (fun iv _ => 5 - (intOf iv).toNat)
  case atStart => exact ⟨1, by omega, by omega, rfl, fun j h1 h2 => by omega, inferInstance⟩
  case round =>
    obtain ⟨m, hm1, hm5, rfl, HF, hX⟩ := hrel
    by_cases hlt : m ≤ 4
    · have hmi : (m : Int) ≤ 4 := by omega
      obtain ⟨u, hu⟩ : ∃ u, arrE t change from_ at_ q m = u := ⟨_, rfl⟩
      have HU : Hid ((arrS t change from_ at_ m)[q]? = some u) := by show _ = _; rw [arrE_at PF.out a0 a1, hu]
      have hur := arrE_rng PF.out a0 a1 m
      rw [hu] at hur
      have hu1 : -1 ≤ u := by omega
      have hu2 : u ≤ 2099 := by omega
      clear hur
      by_cases ce : u = v
      · have HR := Lib.hid (best_at PF.out a0 a1 (by omega) HV.out (by omega) hm1 (hu.trans ce) (fun j h1 h2 _ => HF.out j h1 h2) (by omega : m ≤ 4))
        have e1 := (beqi_t ce).1
        have e2 := (beqi_t ce).2
        rw [← HR.out]
        clear hu ce
        go_wp2_with first
          | (go_at_call 83; refine (spec_l8Arrivals H.out (hwb0.trans inferInstance) PF.out.time _ _ _ PF.out.ch.1 PF.out.ch.2 PF.out.fr.1 PF.out.fr.2 a0 a1 m (by omega) _ rfl).mono ?_; rintro e w2 ⟨g2, o2, c2, rfl, hL2, hR2, hg2, L2⟩; have X2 := Later.trans (w := wb) inferInstance L2; have hcc := hR2.cells HU.out; clear hL2 hR2 hg2)
          | (go_at_call 84; refine (spec_l8First H.out (hwb0.trans inferInstance) PF.out.time _ _ _ _ _ PF.out.ch.1 PF.out.ch.2 PF.out.fr.1 PF.out.fr.2 (m - 1) (by omega) _ (by omega)).mono ?_; rw [show m - 1 + 1 = m by omega]; rintro e w3 ⟨A3, n3, c3, f3, rfl, ho3, hnd3, hlo3, L3⟩; have X3 := Later.trans (w := wb) inferInstance L3)
        go_ret
        exact ⟨_, _, _, f3, rfl, ho3, hnd3, fun g hg => by have := hlo3 g hg; have := Later.size (w := wb) (W := w2) inferInstance; omega, hww.trans inferInstance⟩
      · have HF2 : Hid (∀ j, 1 ≤ j → j < m + 1 → arrE t change from_ at_ q j ≠ v) := fun j h1 h2 => by
          by_cases c : j = m
          · subst c; rw [hu]; exact ce
          · exact HF.out j h1 (by omega)
        have e1 := (beqi_f ce).1
        have e2 := (beqi_f ce).2
        clear hu HF
        go_wp2_with (go_at_call 83; refine (spec_l8Arrivals H.out (hwb0.trans inferInstance) PF.out.time _ _ _ PF.out.ch.1 PF.out.ch.2 PF.out.fr.1 PF.out.fr.2 a0 a1 m (by omega) _ rfl).mono ?_; rintro e w2 ⟨g2, o2, c2, rfl, hL2, hR2, hg2, L2⟩; have X2 := Later.trans (w := wb) inferInstance L2; have hcc := hR2.cells HU.out; clear hL2 hR2 hg2)
        go_roundw
        case rel => exact ⟨m + 1, by omega, by omega, by go_num, HF2, inferInstance⟩
        case measure => simp [intOf]; omega
    · exact absurd HV.out (HF.out 4 (by omega) (by omega))
end Go.Proofs.Yteijofkkggifhaa
namespace Go.Proofs.Yteijofkkggifhaa
open Go Go.RowKit
set_option linter.unusedVariables false
set_option maxRecDepth 100000
set_option linter.unusedSimpArgs false
theorem earj_no1 {t : Timetable} {change from_ to at_ : Int} (h : okPairAt t change from_ to at_ = false) : earjRes t change from_ to at_ = ([], false) := by
  rw [okPairAt_eq] at h
  unfold earjRes
  rw [if_neg]
  rintro ⟨h1, h2⟩
  rw [h1, h2] at h; cases h
theorem earj_yes {t : Timetable} {change from_ to at_ : Int} (h : okPairAt t change from_ to at_ = true) : PairFacts t change from_ to ∧ 0 ≤ at_ ∧ at_ ≤ 2099 ∧ earjRes t change from_ to at_ = (firstJ t change from_ to at_ 4, decide (¬ (firstJ t change from_ to at_ 4).length = 0)) := by
  rw [okPairAt_eq, Bool.and_eq_true] at h
  have := inB_t.1 (show inB at_ 0 1799 = true from h.2)
  exact ⟨pairFacts h.1, by omega, by omega, if_pos h⟩
set_option maxHeartbeats 2000000 in
theorem spec_EarliestJourney {w0 w : World} {sA0 : Option Addr} {sn0 sc0 : Nat} {sA1 : Option Addr} {sn1 sc1 : Nat} {sA2 : Option Addr} {sn2 sc2 : Nat} {t : Timetable} (h : TimetableAt w0 sA0 sn0 sc0 sA1 sn1 sc1 sA2 sn2 sc2 t) (hl : Later w0 w) (change from_ to at_ : Int) : Calls Try.prog 18 #[.agg #[.slice sA0 sn0 sc0, .slice sA1 sn1 sc1, .slice sA2 sn2 sc2], .int .i64 change, .int .i64 from_, .int .i64 to, .int .i64 at_] w (RetO2 5 oLeg (earjRes t change from_ to at_).1 (earjRes t change from_ to at_).2 w) := by
  have HB0 : ∀ W [Later (w.alloc (.cells #[.slice sA0 sn0 sc0, .slice sA1 sn1 sc1, .slice sA2 sn2 sc2] 39)) W] (j : Nat), W.cell? ⟨w.heap.size, j, none⟩ = #[.slice sA0 sn0 sc0, .slice sA1 sn1 sc1, .slice sA2 sn2 sc2][j]? := Later.boxes (t := 39) (fr := (0, 0)) (heap_new (by simp; try omega)); obtain ⟨wb, hwb⟩ : ∃ wb : World, wb = (w.alloc (.cells #[.slice sA0 sn0 sc0, .slice sA1 sn1 sc1, .slice sA2 sn2 sc2] 39)) := ⟨_, rfl⟩; haveI hbW : Later wb (w.alloc (.cells #[.slice sA0 sn0 sc0, .slice sA1 sn1 sc1, .slice sA2 sn2 sc2] 39)) := (by rw [hwb]; exact Later.rfl_); haveI hww : Later w wb := (by rw [hwb]; infer_instance); rw [← hwb] at HB0; have hbE := Lib.hid (congrArg (fun x : World => x.heap.size) hwb); clear hwb
  have hwb0 := hl.trans hww
  have H := Lib.hid h
  clear h
  have hsz : w.heap.size ≤ wb.heap.size := hww.size
  by_cases c0 : okPairAt t change from_ to at_ = true
  · obtain ⟨pf, a0, a1, hr⟩ := earj_yes c0
    have PF := Lib.hid pf
    have HR := Lib.hid hr
    rw [HR.out]
    clear pf hr
    obtain ⟨J, hJ⟩ : ∃ J, firstJ t change from_ to at_ 4 = J := ⟨_, rfl⟩
    have HJ := Lib.hid hJ
    rw [hJ]
    clear hJ
    cases J with
    | nil =>
      go_enter Try.func18, Try.ntmps18
      go_wp2_with first
        | (go_at_call 76; refine (spec_l8Pair H.out (hwb0.trans inferInstance) _ _ _ _).mono ?_; rintro e w1 ⟨rfl, L1⟩; have X1 := Later.trans (w := wb) inferInstance L1)
        | (go_at_call 77; refine (spec_l8Best H.out (hwb0.trans inferInstance) _ _ _ _ PF.out a0 a1).mono ?_; rw [HJ.out]; rintro e w3 ⟨A3, n3, c3, f3, rfl, ho3, hnd3, hlo3, L3⟩; have X3 := Later.trans (w := wb) inferInstance L3; obtain rfl : n3 = 0 := ho3.len)
      go_ret2
      exact ⟨A3, 0, c3, f3, rfl, ho3, hnd3, fun g hg => by have := hlo3 g hg; have := (hww.trans X1).size; omega, hww.trans inferInstance⟩
    | cons y J =>
      go_enter Try.func18, Try.ntmps18
      go_wp2_with first
        | (go_at_call 76; refine (spec_l8Pair H.out (hwb0.trans inferInstance) _ _ _ _).mono ?_; rintro e w1 ⟨rfl, L1⟩; have X1 := Later.trans (w := wb) inferInstance L1)
        | (go_at_call 77; refine (spec_l8Best H.out (hwb0.trans inferInstance) _ _ _ _ PF.out a0 a1).mono ?_; rw [HJ.out]; rintro e w3 ⟨A3, n3, c3, f3, rfl, ho3, hnd3, hlo3, L3⟩; have X3 := Later.trans (w := wb) inferInstance L3; have hn3 : 0 < n3 := (by rw [ho3.len]; simp); have hn3i : (0 : Int) < n3 := (by omega); have HN3 := Lib.hid ho3.len)
      go_ret2
      exact ⟨A3, n3, c3, f3, by simp, ho3, hnd3, fun g hg => by have := hlo3 g hg; have := (hww.trans X1).size; omega, hww.trans inferInstance⟩
  · have c1 : okPairAt t change from_ to at_ = false := by simpa using c0
    have HR := Lib.hid (earj_no1 c1)
    rw [HR.out]
    clear c0
    go_enter Try.func18, Try.ntmps18
    go_wp2_with (go_at_call 76; refine (spec_l8Pair H.out (hwb0.trans inferInstance) _ _ _ _).mono ?_; rintro e w1 ⟨rfl, L1⟩; have X1 := Later.trans (w := wb) inferInstance L1)
    go_ret2
    exact ⟨_, _, _, [], rfl, OSl.nil_ _, by simp, by simp, hww.trans inferInstance⟩
set_option maxHeartbeats 2000000 in
theorem impl_EarliestJourney {w0 w : World} {sA0 : Option Addr} {sn0 sc0 : Nat} {sA1 : Option Addr} {sn1 sc1 : Nat} {sA2 : Option Addr} {sn2 sc2 : Nat} {t : Timetable} (h : TimetableAt w0 sA0 sn0 sc0 sA1 sn1 sc1 sA2 sn2 sc2 t) (hl : Later w0 w) (change from_ to at_ : Int) : Calls Try.prog 19 #[.agg #[.slice sA0 sn0 sc0, .slice sA1 sn1 sc1, .slice sA2 sn2 sc2], .int .i64 change, .int .i64 from_, .int .i64 to, .int .i64 at_] w (RetO2 5 oLeg (earjRes t change from_ to at_).1 (earjRes t change from_ to at_).2 w) := by
  have Hl : Hid (sn0 = t.Network.Stops.length) := h.l_Network_Stops.len
  have HB0 : ∀ W [Later (w.alloc (.cells #[.slice sA0 sn0 sc0, .slice sA1 sn1 sc1, .slice sA2 sn2 sc2] 39)) W] (j : Nat), W.cell? ⟨w.heap.size, j, none⟩ = #[.slice sA0 sn0 sc0, .slice sA1 sn1 sc1, .slice sA2 sn2 sc2][j]? := Later.boxes (t := 39) (fr := (0, 0)) (heap_new (by simp; try omega)); obtain ⟨wb, hwb⟩ : ∃ wb : World, wb = (w.alloc (.cells #[.slice sA0 sn0 sc0, .slice sA1 sn1 sc1, .slice sA2 sn2 sc2] 39)) := ⟨_, rfl⟩; haveI hbW : Later wb (w.alloc (.cells #[.slice sA0 sn0 sc0, .slice sA1 sn1 sc1, .slice sA2 sn2 sc2] 39)) := (by rw [hwb]; exact Later.rfl_); haveI hww : Later w wb := (by rw [hwb]; infer_instance); rw [← hwb] at HB0; have hbE := Lib.hid (congrArg (fun x : World => x.heap.size) hwb); clear hwb
  have hwb0 := hl.trans hww
  have H := Lib.hid h
  clear h
  have hsz : w.heap.size ≤ wb.heap.size := hww.size
  by_cases b1 : okFrom t change from_ at_ = true
  rotate_left
  · have g1 : okFrom t change from_ at_ = false := by simpa using b1
    have HR := Lib.hid (earj_no1 (t := t) (change := change) (from_ := from_) (to := to) (at_ := at_) (by unfold okPairAt; rw [g1]; rfl))
    rw [HR.out]
    clear b1
    go_enter Try.func19, Try.ntmps19
    go_wp2_with first
      | (go_at_call 78; refine (impl_isFrom H.out (hwb0.trans inferInstance) _ _ _).mono ?_; rintro e w1 ⟨rfl, L1⟩; have X1 := Later.trans (w := wb) inferInstance L1)
      | (go_at_call 79; refine (impl_isStop (r := t.Network) ⟨H.out.l_Network_Stops, H.out.l_Network_Lines⟩ (hwb0.trans inferInstance) _).mono ?_; rintro e w2 ⟨rfl, L2⟩; have X2 := Later.trans (w := wb) inferInstance L2)
    go_ret2
    exact ⟨_, _, _, [], rfl, OSl.nil_ _, by simp, by simp, hww.trans inferInstance⟩
  by_cases b3 : inB to 0 ((t.Network.Stops.length : Int) - 1) = true
  rotate_left
  · have g3 : inB to 0 ((t.Network.Stops.length : Int) - 1) = false := by simpa using b3
    have HR := Lib.hid (earj_no1 (t := t) (change := change) (from_ := from_) (to := to) (at_ := at_) (by unfold okPairAt; rw [g3]; simp))
    rw [HR.out]
    clear b3
    go_enter Try.func19, Try.ntmps19
    go_wp2_with first
      | (go_at_call 78; refine (impl_isFrom H.out (hwb0.trans inferInstance) _ _ _).mono ?_; rintro e w1 ⟨rfl, L1⟩; have X1 := Later.trans (w := wb) inferInstance L1)
      | (go_at_call 79; refine (impl_isStop (r := t.Network) ⟨H.out.l_Network_Stops, H.out.l_Network_Lines⟩ (hwb0.trans inferInstance) _).mono ?_; rintro e w2 ⟨rfl, L2⟩; have X2 := Later.trans (w := wb) inferInstance L2)
    go_ret2
    exact ⟨_, _, _, [], rfl, OSl.nil_ _, by simp, by simp, hww.trans inferInstance⟩
  by_cases b5 : from_ = to
  · have e1 := (beqi_t b5).1
    have e2 := (beqi_t b5).2
    have HR := Lib.hid (earj_no1 (t := t) (change := change) (from_ := from_) (to := to) (at_ := at_) (by unfold okPairAt; rw [decide_eq_false (by simpa using b5)]; simp))
    rw [HR.out]
    clear b5
    go_enter Try.func19, Try.ntmps19
    go_wp2_with first
      | (go_at_call 78; refine (impl_isFrom H.out (hwb0.trans inferInstance) _ _ _).mono ?_; rintro e w1 ⟨rfl, L1⟩; have X1 := Later.trans (w := wb) inferInstance L1)
      | (go_at_call 79; refine (impl_isStop (r := t.Network) ⟨H.out.l_Network_Stops, H.out.l_Network_Lines⟩ (hwb0.trans inferInstance) _).mono ?_; rintro e w2 ⟨rfl, L2⟩; have X2 := Later.trans (w := wb) inferInstance L2)
    go_ret2
    exact ⟨_, _, _, [], rfl, OSl.nil_ _, by simp, by simp, hww.trans inferInstance⟩
  have e1 := (beqi_f b5).1
  have e2 := (beqi_f b5).2
  obtain ⟨pf, a0, a1, hr⟩ := earj_yes (t := t) (change := change) (from_ := from_) (to := to) (at_ := at_) (by unfold okPairAt; rw [b1, b3, decide_eq_true b5]; rfl)
  have PF := Lib.hid pf
  have HR := Lib.hid hr
  rw [HR.out]
  clear pf hr b5
  obtain ⟨J, hJ⟩ : ∃ J, firstJ t change from_ to at_ 4 = J := ⟨_, rfl⟩
  have HJ := Lib.hid hJ
  rw [hJ]
  clear hJ
  cases J with
  | nil =>
    go_enter Try.func19, Try.ntmps19
    go_wp2_with first
      | (go_at_call 78; refine (impl_isFrom H.out (hwb0.trans inferInstance) _ _ _).mono ?_; rintro e w1 ⟨rfl, L1⟩; have X1 := Later.trans (w := wb) inferInstance L1)
      | (go_at_call 79; refine (impl_isStop (r := t.Network) ⟨H.out.l_Network_Stops, H.out.l_Network_Lines⟩ (hwb0.trans inferInstance) _).mono ?_; rintro e w2 ⟨rfl, L2⟩; have X2 := Later.trans (w := wb) inferInstance L2)
      | (go_at_call 80; refine (impl_firstJourney H.out (hwb0.trans inferInstance) _ _ _ _ PF.out a0 a1 4 (by omega) (by omega) _ rfl).mono ?_; rw [HJ.out]; rintro e w3 ⟨A3, n3, c3, f3, rfl, ho3, hnd3, hlo3, L3, hnil⟩; have X3 := Later.trans (w := wb) inferInstance L3; obtain rfl : n3 = 0 := ho3.len; obtain rfl : A3 = none := hnil.2 rfl)
    go_ret2
    exact ⟨none, 0, c3, f3, by simp, ho3, hnd3, fun g hg => by have := hlo3 g hg; have := Later.size (w := wb) (W := w2) inferInstance; omega, hww.trans inferInstance⟩
  | cons y J =>
    go_enter Try.func19, Try.ntmps19
    go_wp2_with first
      | (go_at_call 78; refine (impl_isFrom H.out (hwb0.trans inferInstance) _ _ _).mono ?_; rintro e w1 ⟨rfl, L1⟩; have X1 := Later.trans (w := wb) inferInstance L1)
      | (go_at_call 79; refine (impl_isStop (r := t.Network) ⟨H.out.l_Network_Stops, H.out.l_Network_Lines⟩ (hwb0.trans inferInstance) _).mono ?_; rintro e w2 ⟨rfl, L2⟩; have X2 := Later.trans (w := wb) inferInstance L2)
      | (go_at_call 80; refine (impl_firstJourney H.out (hwb0.trans inferInstance) _ _ _ _ PF.out a0 a1 4 (by omega) (by omega) _ rfl).mono ?_; rw [HJ.out]; rintro e w3 ⟨A3, n3, c3, f3, rfl, ho3, hnd3, hlo3, L3, hnil⟩; have X3 := Later.trans (w := wb) inferInstance L3; have hn3 : 0 < n3 := (by rw [ho3.len]; simp); have HN3 := Lib.hid ho3.len; obtain ⟨ad, rfl⟩ : ∃ ad, A3 = some ad := (by cases A3 with | none => exact absurd (hnil.1 rfl) (by omega) | some ad => exact ⟨ad, rfl⟩))
    go_ret2
    exact ⟨some ad, n3, c3, f3, by simp, ho3, hnd3, fun g hg => by have := hlo3 g hg; have := Later.size (w := wb) (W := w2) inferInstance; omega, hww.trans inferInstance⟩
end Go.Proofs.Yteijofkkggifhaa
namespace Go.Proofs.Yteijofkkggifhaa
open Go Go.RowKit
set_option linter.unusedVariables false
set_option maxRecDepth 100000
set_option linter.unusedSectionVars false
/-- The slice v holds just these rows, each in blocks of its own. -/
def ORowG {α : Type} (sz : Nat) (ro : ORep α) (w : World) (base : Nat) (e : TypeId) (v : Value) (ls : List (List α)) : Prop :=
  ∃ (vs : List Value) (fps : List (List Nat)), w.ownsRow base e 1 v ls.length vs ∧ fps.length = ls.length ∧
    (∀ (k : Nat) (x : List α), ls[k]? = some x → ∃ A n c f, vs[k]? = some (.slice A n c) ∧ fps[k]? = some f ∧ OSl sz ro w A n c x f) ∧
    fps.flatten.Nodup ∧ (∀ g, g ∈ fps.flatten → base ≤ g) ∧ (∀ g, v.ownBlock = some g → g ∉ fps.flatten)
section
variable {α : Type} {sz : Nat} {ro : ORep α} [OStays ro]
theorem ORowG.later {w W : World} {base : Nat} {e : TypeId} {v : Value} {ls : List (List α)} (h : ORowG sz ro w base e v ls) (hl : Later w W) : ORowG sz ro W base e v ls := by
  obtain ⟨vs, fps, h1, h2, h3, h4, h5, h6⟩ := h
  exact ⟨vs, fps, ownsRow_later h1 hl, h2, fun k x hx => by obtain ⟨A, n, c, f, a, b, d⟩ := h3 k x hx; exact ⟨A, n, c, f, a, b, d.later hl⟩, h4, h5, h6⟩
theorem ORowG.of0 {w : World} {base : Nat} {e : TypeId} {v : Value} (h : w.ownsRow base e 1 v 0 []) : ORowG sz ro w base e v [] :=
  ⟨[], [], h, rfl, fun k x hx => by simp at hx, by simp, by simp, by simp⟩
theorem ORowG.nil_ (w : World) (base : Nat) (e : TypeId) : ORowG sz ro w base e (.slice none 0 0) [] := .of0 (World.ownsRow_nil w base e 1)
theorem rowsG_lt {w : World} {vs : List Value} {fps : List (List Nat)} {ls : List (List α)} (h2 : fps.length = ls.length)
    (h3 : ∀ (k : Nat) (x : List α), ls[k]? = some x → ∃ A n c f, vs[k]? = some (.slice A n c) ∧ fps[k]? = some f ∧ OSl sz ro w A n c x f) : ∀ g, g ∈ fps.flatten → g < w.heap.size := by
  intro g hg
  obtain ⟨f, hf, hgf⟩ := List.mem_flatten.1 hg
  obtain ⟨k, hk, rfl⟩ := List.getElem_of_mem hf
  obtain ⟨A, n, c, f', _, hf', ho⟩ := h3 k ls[k] (List.getElem?_eq_getElem (by omega))
  rw [List.getElem?_eq_getElem hk] at hf'
  cases hf'
  exact ho.lt _ hgf
/-- append(own, row) as one operation. -/
theorem wp_app_RG {P : Program} {o : Oper} {a : Act} {K : Act → World → Prop} {Q : Exit → Act → World → Prop} (s x : Operand) (t : TypeId)
    (ho : o.op = .call { callee := .builtin .append, args := #[s, x], argTypes := #[t, t] }) {e : TypeId} {bytes : Nat} (ht : P.underlying t = some (.slice e))
    (hi : (P.info? e).map (fun i => (i.zero, i.size, i.bytes)) = some (some (.slice none 0 0), 1, bytes)) (hby : bytes ≤ 4096)
    {w0 w1 W : World} {base : Nat} {v : Value} {ls : List (List α)} (hs : a.eval s = v) (hO : ORowG sz ro w1 base e v ls) (h1W : Later w1 W) (hL : Later w0 W) (hb0 : w0.heap.size ≤ base) (hb1 : base ≤ w1.heap.size)
    {A : Option Addr} {n c : Nat} {y : List α} {f : List Nat} (hrow : OSl sz ro W A n c y f) (hnd : f.Nodup) (hlo : ∀ g, g ∈ f → w1.heap.size ≤ g) {te : TypeId}
    (hx : a.eval x = .slice (some ⟨W.heap.size, 0, none⟩) 1 1) (hn : ls.length ≤ 1073741824)
    (h : ∀ v' w', ORowG sz ro w' base e v' (ls ++ [y]) → Later w0 w' → K (a.put o.dst v') w') : o.wp P a (W.alloc (.cells #[.slice A n c] te)) K Q := by
  obtain ⟨i, i1, i2, i3, i4⟩ := info_parts hi
  obtain ⟨vs, fps, q1, q2, q3, q4, q5, q6⟩ := hO
  have hlt := rowsG_lt q2 q3
  have hsz := h1W.size
  have hown := (ownsRow_later q1 h1W).alloc (.cells #[.slice A n c] te)
  have hb : (ls.length + 1) * bytes ≤ 140737488355328 := by
    have : (ls.length + 1) * bytes ≤ 1073741825 * 4096 := Nat.mul_le_mul (by omega) hby
    omega
  have hnews : ∀ j u, [Value.slice A n c][j]? = some u → (W.alloc (.cells #[.slice A n c] te)).cell? ((⟨W.heap.size, 0, none⟩ : Addr).add j) = some u := fun j u hu => by
    have hadd : (⟨W.heap.size, 0, none⟩ : Addr).add j = ⟨W.heap.size, j, none⟩ := by unfold Addr.add; split <;> simp_all
    rw [hadd, World.cell?_alloc_new]
    simpa using hu
  have h1 : ∀ u ∈ [Value.slice A n c], u.oneCell' = true := by
    intro u hu
    simp at hu
    subst hu
    rfl
  obtain ⟨v', w', hr, r2, r3, r4⟩ := run_append_own (P := P) (W.alloc (.cells #[.slice A n c] te)) base t o.type e i (.slice none 0 0) 1 bytes ht i1 i2 i3 i4 rfl (by decide) v ls.length vs hown ⟨W.heap.size, 0, none⟩ 1 1 [.slice A n c] (by simp) hnews h1 (by unfold maxLen; omega) hb (by simp; omega)
  have hbl := append_block (P := P) ht i1 i2 (by rw [i3]; exact hown) (news := [.slice A n c]) (by rw [i3]; rfl) hnews h1 (by decide) (by unfold maxLen; omega) (by rw [i4]; exact hb) hr
  have hol : ∀ g, v.ownBlock = some g → g < w1.heap.size := fun g hg => (q1.lt g hg).2
  have keepOld : ∀ g, g < W.heap.size → v.ownBlock ≠ some g → w'.heap[g]? = W.heap[g]? := fun g hg hne =>
    (r3.block g (by simp; omega) (fun e => hne e.symm)).trans (heap_alloc_old W _ hg)
  unfold Oper.wp execOp
  simp only [ho, resolve, invoke, builtin, Sem.run_bind, Sem.run_pure, Result.andThen_ok, List.map_toArray, List.map_cons, List.map_nil, hs, hx, hr]
  refine h v' w' ⟨vs ++ [.slice A n c], fps ++ [f], by simpa using r2, by simp [q2], fun k z hz => ?_, ?_, ?_, ?_⟩ ?_
  · by_cases hk : k < ls.length
    · rw [List.getElem?_append_left hk] at hz
      obtain ⟨A2, n2, c2, f2, a1, a2, a3⟩ := q3 k z hz
      have hvl := (List.getElem?_eq_some_iff.1 a1).1
      have hfl := (List.getElem?_eq_some_iff.1 a2).1
      refine ⟨A2, n2, c2, f2, by rw [List.getElem?_append_left hvl]; exact a1, by rw [List.getElem?_append_left hfl]; exact a2, ?_⟩
      refine (a3.later h1W).keep fun g hg => keepOld g (by have := a3.lt g hg; omega) fun hv => q6 g hv ?_
      exact mem_flatten_at a2 hg
    · have hk2 : k = ls.length := by
        have := (List.getElem?_eq_some_iff.1 hz).1
        simp at this; omega
      subst hk2
      have hvl : vs.length = ls.length := by have := q1.1; simpa using this
      rw [List.getElem?_append_right (Nat.le_refl _)] at hz
      simp at hz
      subst hz
      refine ⟨A, n, c, f, by rw [List.getElem?_append_right (by omega)]; simp [hvl], by rw [List.getElem?_append_right (by omega)]; simp [q2], ?_⟩
      exact hrow.keep fun g hg => keepOld g (hrow.lt g hg) fun hv => by have := hol g hv; have := hlo g hg; omega
  · rw [List.flatten_append]
    simp only [List.flatten_cons, List.flatten_nil, List.append_nil]
    exact nodup_app q4 hnd hlt hlo
  · intro g hg
    rw [List.flatten_append] at hg
    simp only [List.flatten_cons, List.flatten_nil, List.append_nil, List.mem_append] at hg
    rcases hg with hg | hg
    · exact q5 g hg
    · have := hlo g hg; omega
  · intro g hg hm
    rw [List.flatten_append] at hm
    simp only [List.flatten_cons, List.flatten_nil, List.append_nil, List.mem_append] at hm
    rcases hbl g hg with hv | rfl
    · rcases hm with hm | hm
      · exact q6 g hv hm
      · have := hol g hv; have := hlo g hm; omega
    · have hsa : (W.alloc (.cells #[.slice A n c] te)).heap.size = W.heap.size + 1 := by simp
      rcases hm with hm | hm
      · have := hlt _ hm; omega
      · have := hrow.lt _ hm; omega
  · have hL' : Later w0 (W.alloc (.cells #[.slice A n c] te)) := inferInstance
    exact hL'.of_grown r3 fun g hg => Nat.le_trans hb0 (q1.lt g hg).1
theorem wpList_app_RG {P : Program} {ops : Array Oper} {rest : List Oper} {o : Oper} {a : Act} {Q : Exit → Act → World → Prop} (hgd : o.guard = none) (s x : Operand) (t : TypeId)
    (ho : o.op = .call { callee := .builtin .append, args := #[s, x], argTypes := #[t, t] }) {e : TypeId} {bytes : Nat} (ht : P.underlying t = some (.slice e))
    (hi : (P.info? e).map (fun i => (i.zero, i.size, i.bytes)) = some (some (.slice none 0 0), 1, bytes)) (hby : bytes ≤ 4096)
    {w0 w1 W : World} {base : Nat} {v : Value} {ls : List (List α)} (hs : a.eval s = v) (hO : ORowG sz ro w1 base e v ls) (h1W : Later w1 W) (hL : Later w0 W) (hb0 : w0.heap.size ≤ base) (hb1 : base ≤ w1.heap.size)
    {A : Option Addr} {n c : Nat} {y : List α} {f : List Nat} (hrow : OSl sz ro W A n c y f) (hnd : f.Nodup) (hlo : ∀ g, g ∈ f → w1.heap.size ≤ g) {te : TypeId}
    (hx : a.eval x = .slice (some ⟨W.heap.size, 0, none⟩) 1 1) (hn : ls.length ≤ 1073741824)
    (h : ∀ v' w', ORowG sz ro w' base e v' (ls ++ [y]) → Later w0 w' → wpList P ops Q rest (a.put o.dst v') w') : wpList P ops Q (o :: rest) a (W.alloc (.cells #[.slice A n c] te)) :=
  wpList_plain hgd fun _ hK => wp_app_RG s x t ho ht hi hby hs hO h1W hL hb0 hb1 hrow hnd hlo hx hn fun v' w' h2 h3 => hK _ _ (h v' w' h2 h3)
/-- What is handed back. -/
theorem ORowG.shut {w : World} {base : Nat} {e : TypeId} {v : Value} {ls : List (List α)} (h : ORowG sz ro w base e v ls) :
    ∃ A c fp, v = .slice A ls.length c ∧ OSl 1 (oSl sz ro) w A ls.length c ls fp ∧ fp.Nodup ∧ ∀ g, g ∈ fp → base ≤ g := by
  obtain ⟨vs, fps, q1, q2, q3, q4, q5, q6⟩ := h
  rcases q1.2 with ⟨rfl, hn⟩ | ⟨g, cap, cur, rfl, hb, hg, hnc, hcm, hsz, htk⟩
  · have : ls = [] := List.length_eq_zero_iff.1 hn
    subst this
    exact ⟨none, 0, [], rfl, OSl.nil_ _, by simp, by simp⟩
  · refine ⟨some ⟨g, 0, none⟩, cap, g :: fps.flatten, rfl, ⟨rfl, hnc, by simpa [maxLen] using hcm, .inr ⟨g, 0, e, cur, fps, rfl, hg, rfl, q2, fun k x hx => ?_⟩⟩, ?_, ?_⟩
    · obtain ⟨A, n, c, f, a1, a2, a3⟩ := q3 k x hx
      refine ⟨[.slice A n c], f, a2, rfl, fun j u hu => ?_, ⟨A, n, c, rfl, a3⟩⟩
      match j, hu with
      | 0, hu =>
        simp at hu
        subst hu
        rw [← htk, List.getElem?_take] at a1
        split at a1
        · simpa using a1
        · cases a1
    · exact List.nodup_cons.2 ⟨q6 g rfl, q4⟩
    · intro g' hg'
      rcases List.mem_cons.1 hg' with rfl | hg'
      · exact hb
      · exact q5 _ hg'
end
end Go.Proofs.Yteijofkkggifhaa
namespace Go.Proofs.Yteijofkkggifhaa
open Go Go.RowKit
set_option linter.unusedVariables false
set_option maxRecDepth 100000
set_option linter.unusedSimpArgs false
theorem parj_no {t : Timetable} {change from_ to at_ : Int} (h : ¬ (okPair t change from_ to = true ∧ okTime at_ = true)) : parRes t change from_ to at_ = ([], false) := if_neg h
theorem parj_yes {t : Timetable} {change from_ to at_ : Int} (h : okPair t change from_ to = true ∧ okTime at_ = true) : PairFacts t change from_ to ∧ 0 ≤ at_ ∧ at_ ≤ 2099 ∧ parRes t change from_ to at_ = (parJ t change from_ to at_, true) := by
  have := inB_t.1 (show inB at_ 0 1799 = true from h.2)
  exact ⟨pairFacts h.1, by omega, by omega, if_pos h⟩
theorem infoLegs : (Try.prog.info? 46).map (fun i => (i.zero, i.size, i.bytes)) = some (some (.slice none 0 0), 1, 24) := by kernel_rfl
set_option maxHeartbeats 4000000 in
theorem impl_ParetoJourneys {w0 w : World} {sA0 : Option Addr} {sn0 sc0 : Nat} {sA1 : Option Addr} {sn1 sc1 : Nat} {sA2 : Option Addr} {sn2 sc2 : Nat} {t : Timetable} (h : TimetableAt w0 sA0 sn0 sc0 sA1 sn1 sc1 sA2 sn2 sc2 t) (hl : Later w0 w) (change from_ to at_ : Int) : Calls Try.prog 25 #[.agg #[.slice sA0 sn0 sc0, .slice sA1 sn1 sc1, .slice sA2 sn2 sc2], .int .i64 change, .int .i64 from_, .int .i64 to, .int .i64 at_] w (RetO2 1 (oSl 5 oLeg) (parRes t change from_ to at_).1 (parRes t change from_ to at_).2 w) := by
  have HB0 : ∀ W [Later (w.alloc (.cells #[.slice sA0 sn0 sc0, .slice sA1 sn1 sc1, .slice sA2 sn2 sc2] 39)) W] (j : Nat), W.cell? ⟨w.heap.size, j, none⟩ = #[.slice sA0 sn0 sc0, .slice sA1 sn1 sc1, .slice sA2 sn2 sc2][j]? := Later.boxes (t := 39) (fr := (0, 0)) (heap_new (by simp; try omega)); obtain ⟨wb, hwb⟩ : ∃ wb : World, wb = (w.alloc (.cells #[.slice sA0 sn0 sc0, .slice sA1 sn1 sc1, .slice sA2 sn2 sc2] 39)) := ⟨_, rfl⟩; haveI hbW : Later wb (w.alloc (.cells #[.slice sA0 sn0 sc0, .slice sA1 sn1 sc1, .slice sA2 sn2 sc2] 39)) := (by rw [hwb]; exact Later.rfl_); haveI hww : Later w wb := (by rw [hwb]; infer_instance); rw [← hwb] at HB0; have hbE := Lib.hid (congrArg (fun x : World => x.heap.size) hwb); clear hwb
  have hwb0 := hl.trans hww
  have H := Lib.hid h
  clear h
  have hsz : w.heap.size ≤ wb.heap.size := hww.size
  by_cases b1 : okPair t change from_ to = true
  rotate_left
  · have g1 : okPair t change from_ to = false := by simpa using b1
    have HR := Lib.hid (parj_no (at_ := at_) (fun e => b1 e.1))
    rw [HR.out]
    clear b1
    go_enter Try.func25, Try.ntmps25
    go_wp2_with first
      | (go_at_call 85; refine (impl_isPair H.out (hwb0.trans inferInstance) _ _ _).mono ?_; rintro e w1 ⟨rfl, L1⟩; have X1 := Later.trans (w := wb) inferInstance L1)
      | (go_at_call 86; refine (impl_IsValidTime _ _).mono ?_; rintro e w' ⟨rfl, rfl⟩)
    go_ret2
    exact ⟨_, _, _, [], rfl, OSl.nil_ _, by simp, by simp, hww.trans inferInstance⟩
  by_cases b2 : okTime at_ = true
  rotate_left
  · have g2 : okTime at_ = false := by simpa using b2
    have HR := Lib.hid (parj_no (t := t) (change := change) (from_ := from_) (to := to) (fun e => b2 e.2))
    rw [HR.out]
    clear b2
    go_enter Try.func25, Try.ntmps25
    go_wp2_with first
      | (go_at_call 85; refine (impl_isPair H.out (hwb0.trans inferInstance) _ _ _).mono ?_; rintro e w1 ⟨rfl, L1⟩; have X1 := Later.trans (w := wb) inferInstance L1)
      | (go_at_call 86; refine (impl_IsValidTime _ _).mono ?_; rintro e w' ⟨rfl, rfl⟩)
    go_ret2
    exact ⟨_, _, _, [], rfl, OSl.nil_ _, by simp, by simp, hww.trans inferInstance⟩
  obtain ⟨pf, a0, a1, hr⟩ := parj_yes ⟨b1, b2⟩
  have PF := Lib.hid pf
  have HR := Lib.hid hr
  rw [HR.out]
  clear pf hr
  go_enter Try.func25, Try.ntmps25
  go_wp2_with first
    | (go_at_call 85; refine (impl_isPair H.out (hwb0.trans inferInstance) _ _ _).mono ?_; rintro e w1 ⟨rfl, L1⟩; have X1 := Later.trans (w := wb) inferInstance L1)
    | (go_at_call 86; refine (impl_IsValidTime _ _).mono ?_; rintro e w' ⟨rfl, rfl⟩)
  go_loopw [12, 13, 14] (fun ov bv iv wr => ∃ (m : Nat) (b : Int) (dn : List (List Leg)), 1 ≤ m ∧ m ≤ 5 ∧ iv = .int .i64 m ∧ bv = .int .i64 (b) ∧ dn.length ≤ m - 1 ∧ Hid (ORowG 5 oLeg wr wb.heap.size 46 ov dn) ∧ Hid (b = pre (fun k => arrV t change from_ at_ k to) m) ∧ Hid (dn ++ parGo t change from_ to at_ (5 - m) m b = parJ t change from_ to at_) ∧ b ≤ never ∧ Later wb wr) (fun _ _ iv _ => 5 - (intOf iv).toNat)
  case atStart => exact ⟨1, never, [], by omega, by omega, rfl, rfl, by simp, ORowG.nil_ _ _ _, by show _ = _; unfold pre; simp, by show _ = _; rfl, Int.le_refl _, inferInstance⟩
  case round =>
    obtain ⟨m, b, dn, hm1, hm5, rfl, rfl, hdn, HO, HB, HG, hbn, hX⟩ := hrel
    by_cases hlt : m ≤ 4
    · have hm4 := hlt
      have hmi : (m : Int) ≤ 4 := by omega
      obtain ⟨u, hu⟩ : ∃ u, arrV t change from_ at_ m to = u := ⟨_, rfl⟩
      obtain ⟨J, hJ⟩ : ∃ J, firstJ t change from_ to at_ m = J := ⟨_, rfl⟩
      have HJ := Lib.hid hJ
      have hur := arrV_rng PF.out.time PF.out.ch.1 PF.out.fr.1 PF.out.fr.2 PF.out.to_.1 PF.out.to_.2 (at_ := at_) m
      have HG1 := HG.out
      rw [show 5 - m = (5 - (m + 1)) + 1 by omega] at HG1
      rw [hu] at hur
      have hst := par_step PF.out a0 a1 (f := 5 - (m + 1)) hm1 HB.out
      rw [hu, hJ] at hst
      clear HG HB
      by_cases cn : u = never
      · have HJN : Hid (J = []) := by show _ = _; rw [← hJ]; exact firstJ_no (hu.trans cn)
        have hst2 := hst.resolve_left (fun e => by omega)
        rw [hst2.2.1] at HG1
        have HG2 := Lib.hid HG1
        have HB2 := Lib.hid hst2.2.2
        rw [HJN.out] at HJ
        clear HG1 hst hst2 cn hu hJ
        go_wp2_with (go_at_call 80; go_loud (refine (impl_firstJourney H.out (hwb0.trans inferInstance) _ _ _ _ PF.out a0 a1 m hm1 hm4 _ rfl).mono ?_; rw [HJ.out]; rintro e w3 ⟨A3, n3, c3, f3, rfl, ho3, hnd3, hlo3, L3, hnil⟩; have X3 := Later.trans (w := wb) inferInstance L3; have Z3 := Later.trans (w := wr) inferInstance L3); obtain rfl : n3 = 0 := ho3.len; obtain rfl : A3 = none := hnil.2 rfl; clear ho3 hnd3 hlo3 hnil)
        go_roundw
        case rel => exact ⟨m + 1, b, dn, by omega, by omega, by go_num, rfl, by omega, HO.out.later inferInstance, HB2, HG2, hbn, inferInstance⟩
        case measure => simp [intOf]; omega
      · have hvn : arrV t change from_ at_ m to ≠ never := by rw [hu]; exact cn
        have hjp := firstJ_pos (m := m) hm1 hvn
        have HJ4 : Hid (J.length ≤ 4) := by show _ ≤ _; rw [← hJ]; have := firstJ_len (t := t) (change := change) (from_ := from_) (to := to) (at_ := at_) m hm1; omega
        rw [hJ] at hjp
        obtain ⟨jn, hjn⟩ : ∃ jn, J.length = jn + 1 := ⟨J.length - 1, by omega⟩
        have HJL := Lib.hid hjn
        have HLA : Hid (∀ l, J[jn]? = some l → l.Arrive = u) := fun l hl => by
          rw [← hJ] at hl hjn
          rw [first_last PF.out hm1 hvn hjn hl]; exact hu
        have hu0 : 0 ≤ u := by omega
        have hu1 : u ≤ 2099 := by omega
        clear hjp hjn hvn hur cn hJ hu
        rcases hst with ⟨hlt', hp, hb2⟩ | ⟨hlt', hp, hb2⟩
        · rw [hp] at HG1
          have HG2 : Hid ((dn ++ [J]) ++ parGo t change from_ to at_ (5 - (m + 1)) (m + 1) u = parJ t change from_ to at_) := by show _ = _; rw [List.append_assoc]; exact HG1
          have HB2 := Lib.hid hb2
          clear HG1 hp hb2
          go_wp2_with first
            | (go_at_call 80; go_loud (refine (impl_firstJourney H.out (hwb0.trans inferInstance) _ _ _ _ PF.out a0 a1 m hm1 hm4 _ rfl).mono ?_; rw [HJ.out]; rintro e w3 ⟨A3, n3, c3, f3, rfl, ho3, hnd3, hlo3, L3, hnil⟩; have X3 := Later.trans (w := wb) inferInstance L3; have Z3 := Later.trans (w := wr) inferInstance L3; have h3l := (ho3.len.trans HJL.out); have h3 : Legs w3 A3 n3 c3 J := ho3.reads; have HO3 := Lib.hid ho3; have HND3 := Lib.hid hnd3; have HLO3 := Lib.hid hlo3; clear ho3 hnd3 hlo3; have HN3 := Lib.hid h3l; have hjn : jn < n3 := (by omega); have hjt : (jn : Int) < n3 := (by omega); have hj0 : (0 : Int) ≤ jn := (by omega); have hn100 : n3 ≤ 4 := (by have := HJ4.out; have := HJL.out; omega); have hwj : IntKind.i64.wrap ((n3 : Int) - 1) = (jn : Int) := (by rw [IntKind.wrap_i64]; omega); obtain ⟨b3, o3, l, rfl, hx, hl0, hl1, hl2, hl3, hl4, _⟩ := Legs.at_ h3 hjn; have hla : l.Arrive = u := (HLA.out l hx.out); rw [hla] at hl4; clear hl0 hl1 hl2 hl3 hx h3 h3l hnil hla))
            | (at_builtin; refine wpList_app_RG (sz := 5) (ro := oLeg) (w0 := wb) (w1 := wr) rfl _ _ 53 rfl Try.underlying53 infoLegs (by decide) rfl HO.out (inferInstance : Later wr w3) (inferInstance : Later wb w3) (Nat.le_refl _) (Later.size (w := wb) inferInstance) (HO3.out.later inferInstance) HND3.out (fun g hg => Nat.le_trans (Later.size (w := wr) inferInstance) (HLO3.out g hg)) rfl (by omega) ?_; intro v' w9 hown' hX9)
          go_roundw
          case rel => exact ⟨m + 1, u, dn ++ [J], by omega, by omega, by go_num, rfl, by simp; omega, hown', HB2, HG2, by unfold never; omega, inferInstance⟩
          case measure => simp [intOf]; omega
        · rw [hp] at HG1
          have HG2 := Lib.hid HG1
          have HB2 := Lib.hid hb2
          clear HG1 hp hb2
          go_wp2_with (go_at_call 80; go_loud (refine (impl_firstJourney H.out (hwb0.trans inferInstance) _ _ _ _ PF.out a0 a1 m hm1 hm4 _ rfl).mono ?_; rw [HJ.out]; rintro e w3 ⟨A3, n3, c3, f3, rfl, ho3, hnd3, hlo3, L3, hnil⟩; have X3 := Later.trans (w := wb) inferInstance L3; have Z3 := Later.trans (w := wr) inferInstance L3; have h3l := (ho3.len.trans HJL.out); have h3 : Legs w3 A3 n3 c3 J := ho3.reads; have HO3 := Lib.hid ho3; have HND3 := Lib.hid hnd3; have HLO3 := Lib.hid hlo3; clear ho3 hnd3 hlo3; have HN3 := Lib.hid h3l; have hjn : jn < n3 := (by omega); have hjt : (jn : Int) < n3 := (by omega); have hj0 : (0 : Int) ≤ jn := (by omega); have hn100 : n3 ≤ 4 := (by have := HJ4.out; have := HJL.out; omega); have hwj : IntKind.i64.wrap ((n3 : Int) - 1) = (jn : Int) := (by rw [IntKind.wrap_i64]; omega); obtain ⟨b3, o3, l, rfl, hx, hl0, hl1, hl2, hl3, hl4, _⟩ := Legs.at_ h3 hjn; have hla : l.Arrive = u := (HLA.out l hx.out); rw [hla] at hl4; clear hl0 hl1 hl2 hl3 hx h3 h3l hnil hla))
          go_roundw
          case rel => exact ⟨m + 1, b, dn, by omega, by omega, by go_num, rfl, by omega, HO.out.later inferInstance, HB2, HG2, hbn, inferInstance⟩
          case measure => simp [intOf]; omega
    · obtain rfl : m = 5 := by omega
      have HE : Hid (dn = parJ t change from_ to at_) := by
        have h9 := HG.out
        simp only [Nat.sub_self, parGo, List.append_nil] at h9
        exact h9
      rw [HE.out] at HO
      obtain ⟨A7, c7, f7, rfl, ho7, hnd7, hlo7⟩ := HO.out.shut
      go_wp2
      go_ret2
      exact ⟨_, _, _, f7, rfl, ho7, hnd7, fun g hg => by have := hlo7 g hg; omega, hww.trans inferInstance⟩
set_option maxHeartbeats 4000000 in
theorem spec_ParetoJourneys {w0 w : World} {sA0 : Option Addr} {sn0 sc0 : Nat} {sA1 : Option Addr} {sn1 sc1 : Nat} {sA2 : Option Addr} {sn2 sc2 : Nat} {t : Timetable} (h : TimetableAt w0 sA0 sn0 sc0 sA1 sn1 sc1 sA2 sn2 sc2 t) (hl : Later w0 w) (change from_ to at_ : Int) : Calls Try.prog 24 #[.agg #[.slice sA0 sn0 sc0, .slice sA1 sn1 sc1, .slice sA2 sn2 sc2], .int .i64 change, .int .i64 from_, .int .i64 to, .int .i64 at_] w (RetO2 1 (oSl 5 oLeg) (parRes t change from_ to at_).1 (parRes t change from_ to at_).2 w) := by
  have Hl : Hid (sn0 = t.Network.Stops.length) := h.l_Network_Stops.len
  have HB0 : ∀ W [Later (w.alloc (.cells #[.slice sA0 sn0 sc0, .slice sA1 sn1 sc1, .slice sA2 sn2 sc2] 39)) W] (j : Nat), W.cell? ⟨w.heap.size, j, none⟩ = #[.slice sA0 sn0 sc0, .slice sA1 sn1 sc1, .slice sA2 sn2 sc2][j]? := Later.boxes (t := 39) (fr := (0, 0)) (heap_new (by simp; try omega)); obtain ⟨wb, hwb⟩ : ∃ wb : World, wb = (w.alloc (.cells #[.slice sA0 sn0 sc0, .slice sA1 sn1 sc1, .slice sA2 sn2 sc2] 39)) := ⟨_, rfl⟩; haveI hbW : Later wb (w.alloc (.cells #[.slice sA0 sn0 sc0, .slice sA1 sn1 sc1, .slice sA2 sn2 sc2] 39)) := (by rw [hwb]; exact Later.rfl_); haveI hww : Later w wb := (by rw [hwb]; infer_instance); rw [← hwb] at HB0; have hbE := Lib.hid (congrArg (fun x : World => x.heap.size) hwb); clear hwb
  have hwb0 := hl.trans hww
  have H := Lib.hid h
  clear h
  have hsz : w.heap.size ≤ wb.heap.size := hww.size
  by_cases c0 : okPairAt t change from_ to at_ = true
  rotate_left
  · have c1 : okPairAt t change from_ to at_ = false := by simpa using c0
    have HR := Lib.hid (parj_no (t := t) (change := change) (from_ := from_) (to := to) (at_ := at_) (fun e => c0 (by rw [okPairAt_eq, e.1, e.2]; rfl)))
    rw [HR.out]
    clear c0
    go_enter Try.func24, Try.ntmps24
    go_wp2_with (go_at_call 76; refine (spec_l8Pair H.out (hwb0.trans inferInstance) _ _ _ _).mono ?_; rintro e w1 ⟨rfl, L1⟩; have X1 := Later.trans (w := wb) inferInstance L1)
    go_ret2
    exact ⟨_, _, _, [], rfl, OSl.nil_ _, by simp, by simp, hww.trans inferInstance⟩
  obtain ⟨pf, a0, a1, hr⟩ := parj_yes (t := t) (change := change) (from_ := from_) (to := to) (at_ := at_) (by have h9 := c0; rw [okPairAt_eq, Bool.and_eq_true] at h9; exact h9)
  have PF := Lib.hid pf
  have HR := Lib.hid hr
  rw [HR.out]
  have hn8 : sn0 ≤ 8 := by have := pf.time.net.stops; rw [Hl.out]; omega
  obtain ⟨q, rfl⟩ := Int.eq_ofNat_of_zero_le pf.to_.1
  have hq : q < sn0 := by have := pf.to_.2; rw [Hl.out]; omega
  have hqi : (q : Int) < sn0 := by omega
  clear pf hr
  go_enter Try.func24, Try.ntmps24
  go_wp2_with (go_at_call 76; refine (spec_l8Pair H.out (hwb0.trans inferInstance) _ _ _ _).mono ?_; rintro e w1 ⟨rfl, L1⟩; have X1 := Later.trans (w := wb) inferInstance L1)
  go_loopw [12, 13, 14] (fun ov bv iv wr => ∃ (m : Nat) (b : Int) (dn : List (List Leg)), 1 ≤ m ∧ m ≤ 5 ∧ iv = .int .i64 m ∧ bv = .int .i64 (encN b) ∧ dn.length ≤ m - 1 ∧ Hid (ORowG 5 oLeg wr wb.heap.size 46 ov dn) ∧ Hid (b = pre (fun k => arrV t change from_ at_ k q) m) ∧ Hid (dn ++ parGo t change from_ q at_ (5 - m) m b = parJ t change from_ q at_) ∧ (b = never ∨ (0 ≤ b ∧ b ≤ 2099)) ∧ Later wb wr) (fun _ _ iv _ => 5 - (intOf iv).toNat)
  case atStart => exact ⟨1, never, [], by omega, by omega, rfl, rfl, by simp, .of0 (ownsRow_later (by simpa using World.ownsRow_lit (base := wb.heap.size) (e := 46) (size := 1) (w.alloc (.cells #[.slice sA0 sn0 sc0, .slice sA1 sn1 sc1, .slice sA2 sn2 sc2] 39)) #[] 0 (by have := hbE.out; simp at this ⊢; omega) (by simp [maxLen]) rfl) (inferInstance : Later ((w.alloc (.cells #[.slice sA0 sn0 sc0, .slice sA1 sn1 sc1, .slice sA2 sn2 sc2] 39)).alloc (.cells #[] 46)) _)), by show _ = _; unfold pre; simp, by show _ = _; rfl, .inl rfl, inferInstance⟩
  case round =>
    obtain ⟨m, b, dn, hm1, hm5, rfl, rfl, hdn, HO, HB, HG, hbn, hX⟩ := hrel
    by_cases hlt : m ≤ 4
    · have hm4 := hlt
      have hmi : (m : Int) ≤ 4 := by omega
      obtain ⟨u, hu⟩ : ∃ u, arrE t change from_ at_ q m = u := ⟨_, rfl⟩
      have HU : Hid ((arrS t change from_ at_ m)[q]? = some u) := by show _ = _; rw [arrE_at PF.out a0 a1, hu]
      obtain ⟨lb, hlb⟩ : ∃ lb, encN b = lb := ⟨_, rfl⟩
      have hlr : (lb = -1 ∧ b = never) ∨ (0 ≤ lb ∧ lb ≤ 2099 ∧ b = lb) := by
        rw [← hlb]; unfold encN
        rcases hbn with e | e
        · rw [if_pos e]; exact .inl ⟨rfl, e⟩
        · rw [if_neg (by unfold never; omega)]; exact .inr ⟨e.1, e.2, rfl⟩
      have hur := arrE_rng PF.out a0 a1 m
      rw [hu] at hur
      have HG1 := HG.out
      rw [show 5 - m = (5 - (m + 1)) + 1 by omega] at HG1
      have hst := par_step PF.out a0 a1 (f := 5 - (m + 1)) hm1 HB.out
      have HBP := Lib.hid HB.out
      rw [hlb]
      have HLB := Lib.hid hlb
      have hu1 : -1 ≤ u := by omega
      have hu2 : u ≤ 2099 := by omega
      have hl1 : -1 ≤ lb := by omega
      have hl2 : lb ≤ 2099 := by omega
      clear HG HB
      by_cases cu : 0 ≤ u ∧ (lb < 0 ∨ u < lb)
      · have hv : arrV t change from_ at_ m q = u := by omega
        have hub : u < b := by
          rcases hlr with e | e
          · rw [e.2]; unfold never; omega
          · omega
        have hst2 := hst.resolve_right (fun e => e.1 (by rw [hv]; exact hub))
        have HJ := Lib.hid (par_at PF.out a0 a1 hm1 hu cu.1 (by rw [← HBP.out]; exact hub))
        rw [hst2.2.1, hv] at HG1
        have HG2 : Hid ((dn ++ [firstJ t change from_ q at_ m]) ++ parGo t change from_ q at_ (5 - (m + 1)) (m + 1) u = parJ t change from_ q at_) := by show _ = _; rw [List.append_assoc]; exact HG1
        have HB2 : Hid (u = pre (fun k => arrV t change from_ at_ k q) (m + 1)) := by show _ = _; rw [← hv]; exact hst2.2.2
        have HEU : Hid (encN u = u) := if_neg (by unfold never; omega)
        have cu0 := cu.1
        have cu1 := cu.2
        clear HG1 hst hst2 hur hlr hu hlb cu hv hub
        by_cases cl : lb < 0
        · go_wp2_with first
            | (go_at_call 83; refine (spec_l8Arrivals H.out (hwb0.trans inferInstance) PF.out.time _ _ _ PF.out.ch.1 PF.out.ch.2 PF.out.fr.1 PF.out.fr.2 a0 a1 m (by omega) _ rfl).mono ?_; rintro e w2 ⟨g2, o2, c2, rfl, hL2, hR2, hg2, L2⟩; have X2 := Later.trans (w := wb) inferInstance L2; have hcc := hR2.cells HU.out; clear hL2 hR2 hg2)
            | (go_at_call 84; refine (spec_l8First H.out (hwb0.trans inferInstance) PF.out.time _ _ _ _ _ PF.out.ch.1 PF.out.ch.2 PF.out.fr.1 PF.out.fr.2 (m - 1) (by omega) _ (by omega)).mono ?_; rw [show m - 1 + 1 = m by omega, HJ.out]; rintro e w3 ⟨A3, n3, c3, f3, rfl, ho3, hnd3, hlo3, L3⟩; have Z2 := Later.trans (w := wr) inferInstance L2; have X3 := Later.trans (w := wb) inferInstance L3; have Z3 := Later.trans (w := wr) inferInstance L3; have HO3 := Lib.hid ho3; have HND3 := Lib.hid hnd3; have HLO3 := Lib.hid hlo3; clear ho3 hnd3 hlo3)
            | (at_builtin; refine wpList_app_RG (sz := 5) (ro := oLeg) (w0 := wb) (w1 := wr) rfl _ _ 53 rfl Try.underlying53 infoLegs (by decide) rfl HO.out (inferInstance : Later wr w3) (inferInstance : Later wb w3) (Nat.le_refl _) (Later.size (w := wb) inferInstance) (HO3.out.later inferInstance) HND3.out (fun g hg => Nat.le_trans (Later.size (w := wr) inferInstance) (HLO3.out g hg)) rfl (by omega) ?_; intro v' w9 hown' hX9)
          go_roundw
          case rel => exact ⟨m + 1, u, dn ++ [firstJ t change from_ q at_ m], by omega, by omega, by go_num, by rw [HEU.out], by simp; omega, hown', HB2, HG2, .inr ⟨cu0, hu2⟩, inferInstance⟩
          case measure => simp [intOf]; omega
        · have cl2 := cu1.resolve_left cl
          go_wp2_with first
            | (go_at_call 83; refine (spec_l8Arrivals H.out (hwb0.trans inferInstance) PF.out.time _ _ _ PF.out.ch.1 PF.out.ch.2 PF.out.fr.1 PF.out.fr.2 a0 a1 m (by omega) _ rfl).mono ?_; rintro e w2 ⟨g2, o2, c2, rfl, hL2, hR2, hg2, L2⟩; have X2 := Later.trans (w := wb) inferInstance L2; have hcc := hR2.cells HU.out; clear hL2 hR2 hg2)
            | (go_at_call 84; refine (spec_l8First H.out (hwb0.trans inferInstance) PF.out.time _ _ _ _ _ PF.out.ch.1 PF.out.ch.2 PF.out.fr.1 PF.out.fr.2 (m - 1) (by omega) _ (by omega)).mono ?_; rw [show m - 1 + 1 = m by omega, HJ.out]; rintro e w3 ⟨A3, n3, c3, f3, rfl, ho3, hnd3, hlo3, L3⟩; have Z2 := Later.trans (w := wr) inferInstance L2; have X3 := Later.trans (w := wb) inferInstance L3; have Z3 := Later.trans (w := wr) inferInstance L3; have HO3 := Lib.hid ho3; have HND3 := Lib.hid hnd3; have HLO3 := Lib.hid hlo3; clear ho3 hnd3 hlo3)
            | (at_builtin; refine wpList_app_RG (sz := 5) (ro := oLeg) (w0 := wb) (w1 := wr) rfl _ _ 53 rfl Try.underlying53 infoLegs (by decide) rfl HO.out (inferInstance : Later wr w3) (inferInstance : Later wb w3) (Nat.le_refl _) (Later.size (w := wb) inferInstance) (HO3.out.later inferInstance) HND3.out (fun g hg => Nat.le_trans (Later.size (w := wr) inferInstance) (HLO3.out g hg)) rfl (by omega) ?_; intro v' w9 hown' hX9)
          go_roundw
          case rel => exact ⟨m + 1, u, dn ++ [firstJ t change from_ q at_ m], by omega, by omega, by go_num, by rw [HEU.out], by simp; omega, hown', HB2, HG2, .inr ⟨cu0, hu2⟩, inferInstance⟩
          case measure => simp [intOf]; omega
      · have hnl : ¬ arrV t change from_ at_ m q < b := by
          rcases hlr with e | e <;> rcases hur with d | d <;> (try unfold never at *) <;> omega
        have hst2 := hst.resolve_left (fun e => hnl e.1)
        rw [hst2.2.1] at HG1
        have HG2 := Lib.hid HG1
        have HB2 := Lib.hid hst2.2.2
        clear HG1 hst hst2 hur hlr hu hlb hnl
        by_cases cu0 : 0 ≤ u
        rotate_left
        · go_wp2_with (go_at_call 83; refine (spec_l8Arrivals H.out (hwb0.trans inferInstance) PF.out.time _ _ _ PF.out.ch.1 PF.out.ch.2 PF.out.fr.1 PF.out.fr.2 a0 a1 m (by omega) _ rfl).mono ?_; rintro e w2 ⟨g2, o2, c2, rfl, hL2, hR2, hg2, L2⟩; have X2 := Later.trans (w := wb) inferInstance L2; have hcc := hR2.cells HU.out; clear hL2 hR2 hg2)
          have Z2 := Later.trans (w := wr) inferInstance L2
          go_roundw
          case rel => exact ⟨m + 1, b, dn, by omega, by omega, by go_num, by rw [HLB.out], by omega, HO.out.later inferInstance, HB2, HG2, hbn, inferInstance⟩
          case measure => simp [intOf]; omega
        have cl : ¬ lb < 0 := fun e => cu ⟨cu0, .inl e⟩
        have cl2 : ¬ u < lb := fun e => cu ⟨cu0, .inr e⟩
        clear cu
        go_wp2_with (go_at_call 83; refine (spec_l8Arrivals H.out (hwb0.trans inferInstance) PF.out.time _ _ _ PF.out.ch.1 PF.out.ch.2 PF.out.fr.1 PF.out.fr.2 a0 a1 m (by omega) _ rfl).mono ?_; rintro e w2 ⟨g2, o2, c2, rfl, hL2, hR2, hg2, L2⟩; have X2 := Later.trans (w := wb) inferInstance L2; have hcc := hR2.cells HU.out; clear hL2 hR2 hg2)
        have Z2 := Later.trans (w := wr) inferInstance L2
        go_roundw
        case rel => exact ⟨m + 1, b, dn, by omega, by omega, by go_num, by rw [HLB.out], by omega, HO.out.later inferInstance, HB2, HG2, hbn, inferInstance⟩
        case measure => simp [intOf]; omega
    · obtain rfl : m = 5 := by omega
      have HE : Hid (dn = parJ t change from_ q at_) := by
        have h9 := HG.out
        simp only [Nat.sub_self, parGo, List.append_nil] at h9
        exact h9
      rw [HE.out] at HO
      obtain ⟨A7, c7, f7, rfl, ho7, hnd7, hlo7⟩ := HO.out.shut
      go_wp2
      go_ret2
      exact ⟨_, _, _, f7, rfl, ho7, hnd7, fun g hg => by have := hlo7 g hg; omega, hww.trans inferInstance⟩
end Go.Proofs.Yteijofkkggifhaa
