/-
  Duties: the duty in which a trip occurs (DutyOf).
-/
import Derived.Test.YthibhehnakikpaaGreatTotal
namespace Go.Proofs.YthibhehnakikpaaGreat
open Go Go.RowKit
set_option linter.unusedVariables false
set_option maxRecDepth 100000
theorem placeGo_has (d v : Int) (ps : List (List Int)) (k : Nat) : 0 ≤ (placeGo d v ps k).1 ↔ ps.any (fun p => decide (v ∈ p)) = true := by
  induction ps generalizing k with
  | nil => simp [placeGo]
  | cons x l ih =>
    simp only [placeGo, List.any_cons, Bool.or_eq_true]
    have hx := idx_neg_iff (p := intIs v) (l := x)
    have hm : x.any (intIs v) = true ↔ v ∈ x := by
      rw [List.any_eq_true]
      constructor
      · rintro ⟨y, hy, he⟩
        have : y = v := by simpa [intIs] using he
        exact this ▸ hy
      · exact fun h => ⟨v, h, by simp [intIs]⟩
    by_cases c : 0 ≤ idx (intIs v) x
    · rw [if_pos c]
      have : x.any (intIs v) = true := by
        cases hh : x.any (intIs v) with
        | true => rfl
        | false => rw [hh] at hx; have := hx.2 rfl; omega
      simp [hm.1 this]
    · rw [if_neg c, ih]
      have : ¬ v ∈ x := fun h => by
        have h2 := hm.2 h
        have := hx.1 (by omega)
        rw [h2] at this
        cases this
      simp [this]
theorem hasId_place (v : Int) (d : Duty) : hasId v d = decide (0 ≤ (placeOf 0 v d.Pieces).1) := by
  rw [Bool.eq_iff_iff, decide_eq_true_eq]
  unfold placeOf
  rw [placeGo_has]
  rfl
def dutyRes (t : Timetable) (f : Fleet) (bs : List (List Int)) (r : Rules) (ls : List Duty) (v : Int) : Int × Bool := if (totalOk t f bs r ls && decide (0 ≤ dutyI ls v)) = true then (dutyI ls v, true) else (0, false)
theorem impl_dutyOf1 {w0 w w1 : World} {eA0 : Option Addr} {en0 ec0 : Nat} {d : Duty} (h4 : DutyAt w1 eA0 en0 ec0 d) (hl4 : Later w1 w) (p : Addr) (v : Int) (hp : ∀ W [Later w0 W], W.cell? p = some (.int .i64 v)) (hl : Later w0 w) :
    Calls Tryz.prog 118 #[.agg #[.slice eA0 en0 ec0], .pointer (some p)] w (Ret (.bool (hasId v d)) w) := by
  have HB0 : ∀ W [Later (w.alloc (.cells #[.slice eA0 en0 ec0] 75)) W] (j : Nat), W.cell? ⟨w.heap.size, j, none⟩ = #[.slice eA0 en0 ec0][j]? := Later.boxes (t := 75) (fr := (0, 0)) (heap_new (by simp; try omega)); obtain ⟨wb, hwb⟩ : ∃ wb : World, wb = (w.alloc (.cells #[.slice eA0 en0 ec0] 75)) := ⟨_, rfl⟩; haveI hbW : Later wb (w.alloc (.cells #[.slice eA0 en0 ec0] 75)) := (by rw [hwb]; exact Later.rfl_); haveI hww : Later w wb := (by rw [hwb]; infer_instance); rw [← hwb] at HB0; have hbE := Lib.hid (congrArg (fun x : World => x.heap.size) hwb); clear hwb
  have hwb4 := hl4.trans hww
  have H4 := Lib.hid h4
  haveI hw0 : Later w0 wb := hl.trans hww
  have hpb : ∀ W [Later wb W], W.cell? p = some (.int .i64 v) := fun W hW => @hp W (hw0.trans hW)
  have HR := Lib.hid (hasId_place v d)
  clear hp h4
  go_enter Tryz.func118, Tryz.ntmps118
  go_wp2_with (go_at_call 72; refine (impl_placeIn H4.out.l_Pieces (hwb4.trans inferInstance) v).mono ?_; rintro e w2 ⟨rfl, L2⟩; have X2 := Later.trans (w := wb) inferInstance L2)
  go_ret
  exact ⟨ret_bool HR.out.symm, hww.trans inferInstance⟩
theorem slices_IndexDuty {w0 w : World} {A : Option Addr} {n c : Nat} {l : List Duty} (h : Dutys w0 A n c l) (hl : Later w0 w) (p : Addr) (v : Int) (hp : ∀ W [Later w0 W], W.cell? p = some (.int .i64 v)) :
    Calls Tryz.prog 117 #[.slice A n c, .func (.func 118) #[] #[.pointer (some p)]] w (Ret (.int .i64 (idx (hasId v) l)) w) := by
  have hn := h.le
  have Hl := Lib.hid h.len
  have HP : Hid (∀ W [Later w0 W], W.cell? p = some (.int .i64 v)) := hp
  clear hp
  go_enter Tryz.func117, Tryz.ntmps117
  go_wp2
  go_loopw [8] (fun i wr => ∃ k : Nat, k ≤ n ∧ i = .int .i64 k ∧ Hid (idxGo (hasId v) (l.drop k) k = idx (hasId v) l) ∧ Later w wr) (fun i _ => n - (intOf i).toNat)
  case atStart => exact ⟨0, by omega, rfl, rfl, inferInstance⟩
  case round =>
    obtain ⟨k, hk, rfl, HF, hX⟩ := hrel
    have hX0 := hl.trans hX
    by_cases hlt : k < n
    · obtain ⟨b, o, eA0, en0, ec0, x, rfl, hx, hc0, hi⟩ := Dutys.at_ h hlt
      have HI := Lib.hid hi
      have HF1 := HF.out
      rw [drop_at hx.out] at HF1
      simp only [idxGo] at HF1
      clear HF hi
      by_cases hxy : hasId v x = true
      · rw [if_pos hxy] at HF1
        have HF2 := Lib.hid HF1
        clear HF1
        go_wp2_with ((refine (impl_dutyOf1 HI.out hX0 p v HP.out hX0).mono ?_); rintro e w1 ⟨rfl, L1⟩; have X1 := hX.trans L1)
        go_ret
        exact ⟨ret_int HF2.out, inferInstance⟩
      · rw [if_neg hxy] at HF1
        have HF2 := Lib.hid HF1
        have hxz : hasId v x = false := by simpa using hxy
        clear HF1 hxy
        go_wp2_with ((refine (impl_dutyOf1 HI.out hX0 p v HP.out hX0).mono ?_); rintro e w1 ⟨rfl, L1⟩; have X1 := hX.trans L1)
        go_roundw
        case rel => exact ⟨k + 1, by omega, by go_num, HF2, inferInstance⟩
        case measure => simp [intOf]; omega
    · have HF2 : Hid (-1 = idx (hasId v) l) := by
        have h3 := HF.out
        rw [List.drop_eq_nil_of_le (by have := Hl.out; omega)] at h3
        exact h3
      clear HF
      go_wp2
      go_ret
      exact ⟨ret_int HF2.out, inferInstance⟩
theorem impl_dutyOf {w0 w : World} {A : Option Addr} {n c : Nat} {l : List Duty} (h : Dutys w0 A n c l) (hl : Later w0 w) (v : Int) :
    Calls Tryz.prog 87 #[.slice A n c, .int .i64 v] w (Ret (.int .i64 (dutyI l v)) w) := by
  obtain ⟨wb, hwb⟩ : ∃ wb : World, wb = w.alloc (.cells #[.int .i64 v] 3) := ⟨_, rfl⟩
  have HB1 : ∀ W [Later wb W], W.cell? ⟨w.heap.size, 0, none⟩ = some (.int .i64 v) := by rw [hwb]; exact fun W hW => @Later.boxes _ _ _ 3 (fr := (0, 0)) (heap_new (by simp)) W hW 0
  have hww : Later w wb := by rw [hwb]; infer_instance
  have hT' := Lib.hid ((h.later hl).later hww)
  have HB1' := Lib.hid HB1
  go_enter Tryz.func87, Tryz.ntmps87
  go_wp2_with (rw [← hwb]; go_at_call 117; refine (slices_IndexDuty hT'.out inferInstance _ v HB1'.out).mono ?_; rintro e w1 ⟨rfl, L1⟩)
  go_ret
  exact ⟨rfl, hww.trans inferInstance⟩
theorem impl_found (n : Int) (w : World) : Calls Tryz.prog 86 #[.int .i64 n] w (Ret (.tuple #[.int .i64 (if n < 0 then 0 else n), .bool (decide (0 ≤ n))]) w) := by
  by_cases c : n < 0
  · rw [if_pos c, decide_eq_false (show ¬ 0 ≤ n by omega)]
    go_enter Tryz.func86, Tryz.ntmps86
    go_wp2
    go_ret2
    exact ⟨rfl, inferInstance⟩
  · rw [if_neg c, decide_eq_true (show 0 ≤ n by omega)]
    go_enter Tryz.func86, Tryz.ntmps86
    go_wp2
    go_ret2
    exact ⟨rfl, inferInstance⟩
set_option maxHeartbeats 1000000 in
theorem spec_l13Duty {w0 w : World} {A : Option Addr} {n c : Nat} {l : List Duty} (h : Dutys w0 A n c l) (hl : Later w0 w) (v : Int) :
    Calls Tryz.prog 85 #[.slice A n c, .int .i64 v] w (Ret (.int .i64 (dutyI l v)) w) := by
  replace h := h.later hl
  have hn := h.le
  have Hl := Lib.hid h.len
  go_enter Tryz.func85, Tryz.ntmps85
  go_wp2_with fail
  go_loopw [5] (fun i wr => ∃ k : Nat, k ≤ n ∧ i = .int .i64 k ∧ Hid (idxGo (hasId v) (l.drop k) k = idx (hasId v) l) ∧ Later w wr) (fun i _ => n - (intOf i).toNat)
  case atStart => exact ⟨0, by omega, rfl, rfl, inferInstance⟩
  case round =>
    obtain ⟨k, hk, rfl, HF, hX⟩ := hrel
    by_cases hlt : k < n
    · obtain ⟨b, o, eA0, en0, ec0, x, rfl, hx, hc0, hDu⟩ := Dutys.at_ h hlt
      have hP := hDu.l_Pieces
      have hpl := hP.le
      have Hpl := Lib.hid hP.len
      have HF1 : Hid ((if hasId v x = true then (k : Int) else idxGo (hasId v) (l.drop (k + 1)) (k + 1)) = idx (hasId v) l) := by
        have h3 := HF.out
        rw [drop_at hx.out] at h3
        exact h3
      clear HF hx hDu
      go_wp2_with fail
      go_loopw [6] (fun i wr' => ∃ m : Nat, m ≤ en0 ∧ i = .int .i64 m ∧ Hid ((x.Pieces.take m).any (fun p => decide (v ∈ p)) = false) ∧ Later w wr') (fun i _ => en0 - (intOf i).toNat)
      case atStart => exact ⟨0, by omega, rfl, rfl, inferInstance⟩
      case round =>
        obtain ⟨m, hm, rfl, HV, hY⟩ := hrel
        by_cases hmt : m < en0
        · obtain ⟨b3, o3, A3, n3, c3, y, rfl, hy, hc3, hi⟩ := Sl.row_ hP hmt
          have HI := Lib.hid hi
          clear hi
          by_cases cB : v ∈ y
          · have HB9 : Hid (decide (v ∈ y) = true) := decide_eq_true cB
            have HR : Hid ((k : Int) = idx (hasId v) l) := by
              have h3 := HF1.out
              have hh : hasId v x = true := any_at (p := fun p => decide (v ∈ p)) hy.out (decide_eq_true cB)
              rw [if_pos hh] at h3
              exact h3
            clear cB hy HV HF1
            go_wp2_with (go_at_call 92; refine (spec_l1Has HI.out inferInstance _).mono ?_; rw [HB9.out]; rintro e w8 ⟨rfl, L8⟩; have X8 := Later.trans (w := w) inferInstance L8)
            go_ret
            exact ⟨ret_int HR.out, inferInstance⟩
          · have HB9 : Hid (decide (v ∈ y) = false) := decide_eq_false cB
            have HV2 := Lib.hid (any_snoc (p := fun p => decide (v ∈ p)) hy.out HV.out (decide_eq_false cB))
            clear cB hy HV
            go_wp2_with (go_at_call 92; refine (spec_l1Has HI.out inferInstance _).mono ?_; rw [HB9.out]; rintro e w8 ⟨rfl, L8⟩; have X8 := Later.trans (w := w) inferInstance L8)
            go_roundw
            case rel => exact ⟨m + 1, by omega, by go_num, HV2, inferInstance⟩
            case measure => simp [intOf]; omega
        · have HF2 : Hid (idxGo (hasId v) (l.drop (k + 1)) (k + 1) = idx (hasId v) l) := by
            have h3 := HF1.out
            have h4 : hasId v x = false := by
              have := HV.out
              rw [List.take_of_length_le (by have := Hpl.out; omega)] at this
              exact this
            rw [if_neg (by rw [h4]; simp)] at h3
            exact h3
          clear HV HF1
          go_wp2_with fail
          go_roundw
          case rel => exact ⟨k + 1, by omega, by go_num, HF2, inferInstance⟩
          case measure => simp [intOf]; omega
    · have HF2 : Hid (-1 = idx (hasId v) l) := by
        have h3 := HF.out
        rw [List.drop_eq_nil_of_le (by have := Hl.out; omega)] at h3
        exact h3
      clear HF
      go_wp2
      go_ret
      exact ⟨ret_int HF2.out, inferInstance⟩
set_option maxHeartbeats 2000000 in
theorem impl_DutyOf {w0 w w2 w3 : World} {sA0 : Option Addr} {sn0 sc0 : Nat} {sA1 : Option Addr} {sn1 sc1 : Nat} {sA2 : Option Addr} {sn2 sc2 : Nat} {t : Timetable} (h : TimetableAt w0 sA0 sn0 sc0 sA1 sn1 sc1 sA2 sn2 sc2 t) (hl : Later w0 w) {qA0 : Option Addr} {qn0 qc0 : Nat} {f : Fleet} (h2 : FleetAt w2 qA0 qn0 qc0 f) (hl2 : Later w2 w) {bA : Option Addr} {bn bc : Nat} {bs : List (List Int)} (h3 : Sl 1 (rSl 1 rInt) w3 bA bn bc bs) (hl3 : Later w3 w) (r : Rules) {w5 : World} {lA : Option Addr} {ln lc : Nat} {ls : List Duty} (h5 : Sl 1 rDuty w5 lA ln lc ls) (hl5 : Later w5 w) (v : Int) (hfit : ∀ d, d ∈ ls → Fits d.Pieces) :
    Calls Tryz.prog 54 #[.agg #[.slice sA0 sn0 sc0, .slice sA1 sn1 sc1, .slice sA2 sn2 sc2], .agg #[.slice qA0 qn0 qc0, .int .i64 f.Turn], .slice bA bn bc, .agg #[.int .i64 r.SignOn, .int .i64 r.SignOff, .int .i64 r.MaxDrive, .int .i64 r.MinBreak, .int .i64 r.PaidBreak, .int .i64 r.MaxLength], .slice lA ln lc, .int .i64 v] w (Ret (.tuple #[.int .i64 (dutyRes t f bs r ls v).1, .bool (dutyRes t f bs r ls v).2]) w) := by
  have hL := h5.later hl5
  have HB0 : ∀ W [Later (((w.alloc (.cells #[.slice sA0 sn0 sc0, .slice sA1 sn1 sc1, .slice sA2 sn2 sc2] 46)).alloc (.cells #[.slice qA0 qn0 qc0, .int .i64 f.Turn] 48)).alloc (.cells #[.int .i64 r.SignOn, .int .i64 r.SignOff, .int .i64 r.MaxDrive, .int .i64 r.MinBreak, .int .i64 r.PaidBreak, .int .i64 r.MaxLength] 51)) W] (j : Nat), W.cell? ⟨w.heap.size, j, none⟩ = #[.slice sA0 sn0 sc0, .slice sA1 sn1 sc1, .slice sA2 sn2 sc2][j]? := Later.boxes (t := 46) (fr := (0, 0)) ((heap_old (by simp; try omega)).trans ((heap_old (by simp; try omega)).trans (heap_new (by simp; try omega)))); have HB1 : ∀ W [Later (((w.alloc (.cells #[.slice sA0 sn0 sc0, .slice sA1 sn1 sc1, .slice sA2 sn2 sc2] 46)).alloc (.cells #[.slice qA0 qn0 qc0, .int .i64 f.Turn] 48)).alloc (.cells #[.int .i64 r.SignOn, .int .i64 r.SignOff, .int .i64 r.MaxDrive, .int .i64 r.MinBreak, .int .i64 r.PaidBreak, .int .i64 r.MaxLength] 51)) W] (j : Nat), W.cell? ⟨w.heap.size + 1, j, none⟩ = #[.slice qA0 qn0 qc0, .int .i64 f.Turn][j]? := Later.boxes (t := 48) (fr := (0, 0)) ((heap_old (by simp; try omega)).trans (heap_new (by simp; try omega))); have HB2 : ∀ W [Later (((w.alloc (.cells #[.slice sA0 sn0 sc0, .slice sA1 sn1 sc1, .slice sA2 sn2 sc2] 46)).alloc (.cells #[.slice qA0 qn0 qc0, .int .i64 f.Turn] 48)).alloc (.cells #[.int .i64 r.SignOn, .int .i64 r.SignOff, .int .i64 r.MaxDrive, .int .i64 r.MinBreak, .int .i64 r.PaidBreak, .int .i64 r.MaxLength] 51)) W] (j : Nat), W.cell? ⟨w.heap.size + 1 + 1, j, none⟩ = #[.int .i64 r.SignOn, .int .i64 r.SignOff, .int .i64 r.MaxDrive, .int .i64 r.MinBreak, .int .i64 r.PaidBreak, .int .i64 r.MaxLength][j]? := Later.boxes (t := 51) (fr := (0, 0)) (heap_new (by simp; try omega)); obtain ⟨wb, hwb⟩ : ∃ wb : World, wb = (((w.alloc (.cells #[.slice sA0 sn0 sc0, .slice sA1 sn1 sc1, .slice sA2 sn2 sc2] 46)).alloc (.cells #[.slice qA0 qn0 qc0, .int .i64 f.Turn] 48)).alloc (.cells #[.int .i64 r.SignOn, .int .i64 r.SignOff, .int .i64 r.MaxDrive, .int .i64 r.MinBreak, .int .i64 r.PaidBreak, .int .i64 r.MaxLength] 51)) := ⟨_, rfl⟩; haveI hbW : Later wb (((w.alloc (.cells #[.slice sA0 sn0 sc0, .slice sA1 sn1 sc1, .slice sA2 sn2 sc2] 46)).alloc (.cells #[.slice qA0 qn0 qc0, .int .i64 f.Turn] 48)).alloc (.cells #[.int .i64 r.SignOn, .int .i64 r.SignOff, .int .i64 r.MaxDrive, .int .i64 r.MinBreak, .int .i64 r.PaidBreak, .int .i64 r.MaxLength] 51)) := (by rw [hwb]; exact Later.rfl_); haveI hww : Later w wb := (by rw [hwb]; infer_instance); rw [← hwb] at HB0; rw [← hwb] at HB1; rw [← hwb] at HB2; have hbE := Lib.hid (congrArg (fun x : World => x.heap.size) hwb); clear hwb
  have hwb0 := hl.trans hww
  have hwb2 := hl2.trans hww
  have hwb3 := hl3.trans hww
  have H := Lib.hid h
  have H2 := Lib.hid h2
  have H3 := Lib.hid h3
  clear h h2 h3
  have hwb5 := hl5.trans hww
  have H5 := Lib.hid h5
  have HFIT := Lib.hid hfit
  replace hL := hL.later hww
  have hll := hL.le
  have Hll := Lib.hid hL.len
  clear h5 hfit
  by_cases c0 : okRuled t f bs r = true
  rotate_left
  · have c1 : okRuled t f bs r = false := by simpa using c0
    rw [show dutyRes t f bs r ls v = (0, false) from if_neg (by unfold totalOk; rw [c1]; simp)]
    clear c0
    go_enter Tryz.func54, Tryz.ntmps54
    go_wp2_with (go_at_call 63; refine (impl_areRuled H.out (hwb0.trans inferInstance) H2.out (hwb2.trans inferInstance) H3.out (hwb3.trans inferInstance) r).mono ?_; rintro e w1 ⟨rfl, L1⟩; have X1 := Later.trans (w := wb) inferInstance L1)
    go_ret2
    exact ⟨rfl, hww.trans inferInstance⟩
  have HK := Lib.hid (okRuled_blocks c0)
  have RR := Lib.hid (okRuled_rules c0)
  by_cases cc : okCover t f bs r ls = true
  rotate_left
  · have c1 : okCover t f bs r ls = false := by simpa using cc
    rw [show dutyRes t f bs r ls v = (0, false) from if_neg (by unfold totalOk; rw [c1]; simp)]
    clear cc
    go_enter Tryz.func54, Tryz.ntmps54
    go_wp2_with first
      | (go_at_call 63; refine (impl_areRuled H.out (hwb0.trans inferInstance) H2.out (hwb2.trans inferInstance) H3.out (hwb3.trans inferInstance) r).mono ?_; rintro e w1 ⟨rfl, L1⟩; have X1 := Later.trans (w := wb) inferInstance L1)
      | (go_at_call 64; refine (impl_isCover H.out (hwb0.trans inferInstance) H2.out (hwb2.trans inferInstance) H3.out (hwb3.trans inferInstance) r H5.out (hwb5.trans inferInstance) HFIT.out HK.out RR.out).mono ?_; rintro e w2 ⟨rfl, L2⟩; have X2 := Later.trans (w := wb) inferInstance L2)
    go_ret2
    exact ⟨rfl, hww.trans inferInstance⟩
  by_cases ci : dutyI ls v < 0
  · have CI := Lib.hid ci
    have CJ : Hid (decide (0 ≤ dutyI ls v) = false) := decide_eq_false (by omega)
    rw [show dutyRes t f bs r ls v = (0, false) from if_neg (by rw [decide_eq_false (show ¬ 0 ≤ dutyI ls v by omega), Bool.and_false]; simp)]
    clear ci
    go_enter Tryz.func54, Tryz.ntmps54
    go_wp2_with first
      | (go_at_call 63; refine (impl_areRuled H.out (hwb0.trans inferInstance) H2.out (hwb2.trans inferInstance) H3.out (hwb3.trans inferInstance) r).mono ?_; rintro e w1 ⟨rfl, L1⟩; have X1 := Later.trans (w := wb) inferInstance L1)
      | (go_at_call 64; refine (impl_isCover H.out (hwb0.trans inferInstance) H2.out (hwb2.trans inferInstance) H3.out (hwb3.trans inferInstance) r H5.out (hwb5.trans inferInstance) HFIT.out HK.out RR.out).mono ?_; rintro e w2 ⟨rfl, L2⟩; have X2 := Later.trans (w := wb) inferInstance L2)
      | (go_at_call 87; refine (impl_dutyOf H5.out (hwb5.trans inferInstance) v).mono ?_; rintro e w3 ⟨rfl, L3⟩; have X3 := Later.trans (w := wb) inferInstance L3)
      | (go_at_call 86; refine (impl_found _ _).mono ?_; rw [if_pos CI.out, CJ.out]; rintro e w4 ⟨rfl, L4⟩; have X4 := Later.trans (w := wb) inferInstance L4)
    go_ret2
    exact ⟨rfl, hww.trans inferInstance⟩
  · have CI := Lib.hid ci
    have CJ : Hid (decide (0 ≤ dutyI ls v) = true) := decide_eq_true (by omega)
    rw [show dutyRes t f bs r ls v = (dutyI ls v, true) from if_pos (by unfold totalOk; rw [c0, cc]; simp; omega)]
    clear ci
    go_enter Tryz.func54, Tryz.ntmps54
    go_wp2_with first
      | (go_at_call 63; refine (impl_areRuled H.out (hwb0.trans inferInstance) H2.out (hwb2.trans inferInstance) H3.out (hwb3.trans inferInstance) r).mono ?_; rintro e w1 ⟨rfl, L1⟩; have X1 := Later.trans (w := wb) inferInstance L1)
      | (go_at_call 64; refine (impl_isCover H.out (hwb0.trans inferInstance) H2.out (hwb2.trans inferInstance) H3.out (hwb3.trans inferInstance) r H5.out (hwb5.trans inferInstance) HFIT.out HK.out RR.out).mono ?_; rintro e w2 ⟨rfl, L2⟩; have X2 := Later.trans (w := wb) inferInstance L2)
      | (go_at_call 87; refine (impl_dutyOf H5.out (hwb5.trans inferInstance) v).mono ?_; rintro e w3 ⟨rfl, L3⟩; have X3 := Later.trans (w := wb) inferInstance L3)
      | (go_at_call 86; refine (impl_found _ _).mono ?_; rw [if_neg (Int.not_lt.2 CI.out), CJ.out]; rintro e w4 ⟨rfl, L4⟩; have X4 := Later.trans (w := wb) inferInstance L4)
    go_ret2
    exact ⟨rfl, hww.trans inferInstance⟩
set_option maxHeartbeats 2000000 in
theorem spec_DutyOf {w0 w w2 w3 : World} {sA0 : Option Addr} {sn0 sc0 : Nat} {sA1 : Option Addr} {sn1 sc1 : Nat} {sA2 : Option Addr} {sn2 sc2 : Nat} {t : Timetable} (h : TimetableAt w0 sA0 sn0 sc0 sA1 sn1 sc1 sA2 sn2 sc2 t) (hl : Later w0 w) {qA0 : Option Addr} {qn0 qc0 : Nat} {f : Fleet} (h2 : FleetAt w2 qA0 qn0 qc0 f) (hl2 : Later w2 w) {bA : Option Addr} {bn bc : Nat} {bs : List (List Int)} (h3 : Sl 1 (rSl 1 rInt) w3 bA bn bc bs) (hl3 : Later w3 w) (r : Rules) {w5 : World} {lA : Option Addr} {ln lc : Nat} {ls : List Duty} (h5 : Sl 1 rDuty w5 lA ln lc ls) (hl5 : Later w5 w) (v : Int) (hfit : ∀ d, d ∈ ls → Fits d.Pieces) :
    Calls Tryz.prog 53 #[.agg #[.slice sA0 sn0 sc0, .slice sA1 sn1 sc1, .slice sA2 sn2 sc2], .agg #[.slice qA0 qn0 qc0, .int .i64 f.Turn], .slice bA bn bc, .agg #[.int .i64 r.SignOn, .int .i64 r.SignOff, .int .i64 r.MaxDrive, .int .i64 r.MinBreak, .int .i64 r.PaidBreak, .int .i64 r.MaxLength], .slice lA ln lc, .int .i64 v] w (Ret (.tuple #[.int .i64 (dutyRes t f bs r ls v).1, .bool (dutyRes t f bs r ls v).2]) w) := by
  have hL := h5.later hl5
  have HB0 : ∀ W [Later (((w.alloc (.cells #[.slice sA0 sn0 sc0, .slice sA1 sn1 sc1, .slice sA2 sn2 sc2] 46)).alloc (.cells #[.slice qA0 qn0 qc0, .int .i64 f.Turn] 48)).alloc (.cells #[.int .i64 r.SignOn, .int .i64 r.SignOff, .int .i64 r.MaxDrive, .int .i64 r.MinBreak, .int .i64 r.PaidBreak, .int .i64 r.MaxLength] 51)) W] (j : Nat), W.cell? ⟨w.heap.size, j, none⟩ = #[.slice sA0 sn0 sc0, .slice sA1 sn1 sc1, .slice sA2 sn2 sc2][j]? := Later.boxes (t := 46) (fr := (0, 0)) ((heap_old (by simp; try omega)).trans ((heap_old (by simp; try omega)).trans (heap_new (by simp; try omega)))); have HB1 : ∀ W [Later (((w.alloc (.cells #[.slice sA0 sn0 sc0, .slice sA1 sn1 sc1, .slice sA2 sn2 sc2] 46)).alloc (.cells #[.slice qA0 qn0 qc0, .int .i64 f.Turn] 48)).alloc (.cells #[.int .i64 r.SignOn, .int .i64 r.SignOff, .int .i64 r.MaxDrive, .int .i64 r.MinBreak, .int .i64 r.PaidBreak, .int .i64 r.MaxLength] 51)) W] (j : Nat), W.cell? ⟨w.heap.size + 1, j, none⟩ = #[.slice qA0 qn0 qc0, .int .i64 f.Turn][j]? := Later.boxes (t := 48) (fr := (0, 0)) ((heap_old (by simp; try omega)).trans (heap_new (by simp; try omega))); have HB2 : ∀ W [Later (((w.alloc (.cells #[.slice sA0 sn0 sc0, .slice sA1 sn1 sc1, .slice sA2 sn2 sc2] 46)).alloc (.cells #[.slice qA0 qn0 qc0, .int .i64 f.Turn] 48)).alloc (.cells #[.int .i64 r.SignOn, .int .i64 r.SignOff, .int .i64 r.MaxDrive, .int .i64 r.MinBreak, .int .i64 r.PaidBreak, .int .i64 r.MaxLength] 51)) W] (j : Nat), W.cell? ⟨w.heap.size + 1 + 1, j, none⟩ = #[.int .i64 r.SignOn, .int .i64 r.SignOff, .int .i64 r.MaxDrive, .int .i64 r.MinBreak, .int .i64 r.PaidBreak, .int .i64 r.MaxLength][j]? := Later.boxes (t := 51) (fr := (0, 0)) (heap_new (by simp; try omega)); obtain ⟨wb, hwb⟩ : ∃ wb : World, wb = (((w.alloc (.cells #[.slice sA0 sn0 sc0, .slice sA1 sn1 sc1, .slice sA2 sn2 sc2] 46)).alloc (.cells #[.slice qA0 qn0 qc0, .int .i64 f.Turn] 48)).alloc (.cells #[.int .i64 r.SignOn, .int .i64 r.SignOff, .int .i64 r.MaxDrive, .int .i64 r.MinBreak, .int .i64 r.PaidBreak, .int .i64 r.MaxLength] 51)) := ⟨_, rfl⟩; haveI hbW : Later wb (((w.alloc (.cells #[.slice sA0 sn0 sc0, .slice sA1 sn1 sc1, .slice sA2 sn2 sc2] 46)).alloc (.cells #[.slice qA0 qn0 qc0, .int .i64 f.Turn] 48)).alloc (.cells #[.int .i64 r.SignOn, .int .i64 r.SignOff, .int .i64 r.MaxDrive, .int .i64 r.MinBreak, .int .i64 r.PaidBreak, .int .i64 r.MaxLength] 51)) := (by rw [hwb]; exact Later.rfl_); haveI hww : Later w wb := (by rw [hwb]; infer_instance); rw [← hwb] at HB0; rw [← hwb] at HB1; rw [← hwb] at HB2; have hbE := Lib.hid (congrArg (fun x : World => x.heap.size) hwb); clear hwb
  have hwb0 := hl.trans hww
  have hwb2 := hl2.trans hww
  have hwb3 := hl3.trans hww
  have H := Lib.hid h
  have H2 := Lib.hid h2
  have H3 := Lib.hid h3
  clear h h2 h3
  have hwb5 := hl5.trans hww
  have H5 := Lib.hid h5
  have HFIT := Lib.hid hfit
  replace hL := hL.later hww
  have hll := hL.le
  have Hll := Lib.hid hL.len
  clear h5 hfit
  by_cases c0 : okRuled t f bs r = true
  rotate_left
  · have c1 : okRuled t f bs r = false := by simpa using c0
    rw [show dutyRes t f bs r ls v = (0, false) from if_neg (by unfold totalOk; rw [c1]; simp)]
    clear c0
    go_enter Tryz.func53, Tryz.ntmps53
    go_wp2_with (go_at_call 58; refine (spec_l12Asked H.out (hwb0.trans inferInstance) H2.out (hwb2.trans inferInstance) H3.out (hwb3.trans inferInstance) r).mono ?_; rintro e w1 ⟨rfl, L1⟩; have X1 := Later.trans (w := wb) inferInstance L1)
    go_ret2
    exact ⟨rfl, hww.trans inferInstance⟩
  have HK := Lib.hid (okRuled_blocks c0)
  have RR := Lib.hid (okRuled_rules c0)
  by_cases cc : okCover t f bs r ls = true
  rotate_left
  · have c1 : okCover t f bs r ls = false := by simpa using cc
    rw [show dutyRes t f bs r ls v = (0, false) from if_neg (by unfold totalOk; rw [c1]; simp)]
    clear cc
    go_enter Tryz.func53, Tryz.ntmps53
    go_wp2_with first
      | (go_at_call 58; refine (spec_l12Asked H.out (hwb0.trans inferInstance) H2.out (hwb2.trans inferInstance) H3.out (hwb3.trans inferInstance) r).mono ?_; rintro e w1 ⟨rfl, L1⟩; have X1 := Later.trans (w := wb) inferInstance L1)
      | (go_at_call 59; refine (spec_l13Covers H.out (hwb0.trans inferInstance) H2.out (hwb2.trans inferInstance) H3.out (hwb3.trans inferInstance) r H5.out (hwb5.trans inferInstance) HFIT.out HK.out RR.out).mono ?_; rintro e w2 ⟨rfl, L2⟩; have X2 := Later.trans (w := wb) inferInstance L2)
    go_ret2
    exact ⟨rfl, hww.trans inferInstance⟩
  by_cases ci : dutyI ls v < 0
  · have cid : decide (dutyI ls v < 0) = true := decide_eq_true ci
    rw [show dutyRes t f bs r ls v = (0, false) from if_neg (by rw [decide_eq_false (show ¬ 0 ≤ dutyI ls v by omega), Bool.and_false]; simp)]
    go_enter Tryz.func53, Tryz.ntmps53
    go_wp2_with first
      | (go_at_call 58; refine (spec_l12Asked H.out (hwb0.trans inferInstance) H2.out (hwb2.trans inferInstance) H3.out (hwb3.trans inferInstance) r).mono ?_; rintro e w1 ⟨rfl, L1⟩; have X1 := Later.trans (w := wb) inferInstance L1)
      | (go_at_call 59; refine (spec_l13Covers H.out (hwb0.trans inferInstance) H2.out (hwb2.trans inferInstance) H3.out (hwb3.trans inferInstance) r H5.out (hwb5.trans inferInstance) HFIT.out HK.out RR.out).mono ?_; rintro e w2 ⟨rfl, L2⟩; have X2 := Later.trans (w := wb) inferInstance L2)
      | (go_at_call 85; refine (spec_l13Duty H5.out (hwb5.trans inferInstance) v).mono ?_; rintro e w3 ⟨rfl, L3⟩; have X3 := Later.trans (w := wb) inferInstance L3)
    go_ret2
    exact ⟨rfl, hww.trans inferInstance⟩
  · have cid : decide (dutyI ls v < 0) = false := decide_eq_false ci
    rw [show dutyRes t f bs r ls v = (dutyI ls v, true) from if_pos (by unfold totalOk; rw [c0, cc]; simp; omega)]
    go_enter Tryz.func53, Tryz.ntmps53
    go_wp2_with first
      | (go_at_call 58; refine (spec_l12Asked H.out (hwb0.trans inferInstance) H2.out (hwb2.trans inferInstance) H3.out (hwb3.trans inferInstance) r).mono ?_; rintro e w1 ⟨rfl, L1⟩; have X1 := Later.trans (w := wb) inferInstance L1)
      | (go_at_call 59; refine (spec_l13Covers H.out (hwb0.trans inferInstance) H2.out (hwb2.trans inferInstance) H3.out (hwb3.trans inferInstance) r H5.out (hwb5.trans inferInstance) HFIT.out HK.out RR.out).mono ?_; rintro e w2 ⟨rfl, L2⟩; have X2 := Later.trans (w := wb) inferInstance L2)
      | (go_at_call 85; refine (spec_l13Duty H5.out (hwb5.trans inferInstance) v).mono ?_; rintro e w3 ⟨rfl, L3⟩; have X3 := Later.trans (w := wb) inferInstance L3)
    go_ret2
    exact ⟨rfl, hww.trans inferInstance⟩
end Go.Proofs.YthibhehnakikpaaGreat
