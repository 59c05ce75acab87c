/-
  Duties: the sum of the paid minutes (TotalPaid).
-/
import Derived.Test.YthibhehnakikpaaGreatCover
import Derived.Test.YthibhehnakikpaaGreatPaid
namespace Go.Proofs.YthibhehnakikpaaGreat
open Go Go.RowKit
set_option linter.unusedVariables false
set_option maxRecDepth 100000
theorem idsGo_len {ids seen s : List Int} (h : idsGo ids seen = some s) : s.length = seen.length + ids.length := by
  induction ids generalizing seen with
  | nil => simp only [idsGo, Option.some.injEq] at h; subst h; simp
  | cons v l ih =>
    simp only [idsGo] at h
    split at h
    · cases h
    · have := ih h
      simp at this ⊢
      omega
theorem coverGo_facts {t : Timetable} {f : Fleet} {bs : List (List Int)} {r : Rules} {l : List Duty} {last : Int} {seen s : List Int} (h : coverGo t f bs r l last seen = some s) :
    (∀ d, d ∈ l → brokenD t f bs r d.Pieces = 0) ∧ seen.length + l.length ≤ s.length := by
  induction l generalizing last seen with
  | nil => simp only [coverGo, Option.some.injEq] at h; subst h; simp
  | cons d l ih =>
    simp only [coverGo] at h
    split at h
    · cases h
    rename_i hb
    have hb0 : brokenD t f bs r d.Pieces = 0 := by simpa using hb
    split at h
    · cases h
    split at h
    · cases h
    rename_i s1 hs1
    have h1 := idsGo_len hs1
    obtain ⟨h2, h3⟩ := ih h
    have hop := brokenD_ok hb0
    have hfl : 1 ≤ d.Pieces.flatten.length := by
      simp only [okPieces, Bool.and_eq_true, inB_t, List.all_eq_true] at hop
      obtain ⟨x0, hx0⟩ : ∃ x0, d.Pieces[0]? = some x0 := ⟨_, List.getElem?_eq_getElem (by omega)⟩
      have h5 := len_flat (List.mem_of_getElem? hx0)
      have h6 := pieceOk_pos (hop.1.2 x0 (List.mem_of_getElem? hx0))
      omega
    refine ⟨fun e he => ?_, by simp only [List.length_cons]; omega⟩
    rcases List.mem_cons.1 he with rfl | he
    · exact hb0
    · exact h2 e he
theorem okCover_facts {t : Timetable} {f : Fleet} {bs : List (List Int)} {r : Rules} {l : List Duty} (tf : TimeFacts t) (h : okCover t f bs r l = true) : (∀ d, d ∈ l → brokenD t f bs r d.Pieces = 0) ∧ l.length ≤ 12 := by
  unfold okCover at h
  split at h
  · cases h
  rename_i s hs
  obtain ⟨h1, h2⟩ := coverGo_facts hs
  have h3 := tf.len
  have h4 : s.length = t.Trips.length := by simpa using h
  simp at h2
  exact ⟨h1, by omega⟩
theorem paidD_bd {t : Timetable} {f : Fleet} {r : Rules} {ps : List (List Int)} (df : DutyFacts t f r ps) : -12000 ≤ paidD t f r ps ∧ paidD t f r ps ≤ 12000 := by
  have r1 := df.rules.on
  have r2 := df.rules.off
  have r3 := df.rules.paid
  have hm := df.brk.max
  have h1 := sumI_bd (l := ps.map (durP t)) (lo := -1799) (hi := 1799) (fun x hx => by
    obtain ⟨p, hp, rfl⟩ := List.mem_map.1 hx
    have q1 := begP_bd df.run.time (df.brk.piece p hp) (df.brk.found p hp)
    have q2 := finP_bd df.run.time (df.brk.piece p hp) (df.brk.found p hp)
    unfold durP
    omega)
  have h2 := sumI_bd (l := (gapsP t f ps).map fun g => min g r.PaidBreak) (lo := -1919) (hi := 900) (fun x hx => by
    obtain ⟨g, hg, rfl⟩ := List.mem_map.1 hx
    have q1 := gapsP_mem df.run df.brk g hg
    omega)
  simp only [List.length_map, gapsP_len] at h1 h2
  unfold paidD durs minsG
  omega
def totalOk (t : Timetable) (f : Fleet) (bs : List (List Int)) (r : Rules) (ls : List Duty) : Bool := okRuled t f bs r && okCover t f bs r ls
def totalRes (t : Timetable) (f : Fleet) (bs : List (List Int)) (r : Rules) (ls : List Duty) : Int × Bool := if totalOk t f bs r ls = true then (paidAll t f r ls, true) else (0, false)
set_option maxHeartbeats 2000000 in
theorem impl_TotalPaid {w0 w w2 w3 : World} {sA0 : Option Addr} {sn0 sc0 : Nat} {sA1 : Option Addr} {sn1 sc1 : Nat} {sA2 : Option Addr} {sn2 sc2 : Nat} {t : Timetable} (h : TimetableAt w0 sA0 sn0 sc0 sA1 sn1 sc1 sA2 sn2 sc2 t) (hl : Later w0 w) {qA0 : Option Addr} {qn0 qc0 : Nat} {f : Fleet} (h2 : FleetAt w2 qA0 qn0 qc0 f) (hl2 : Later w2 w) {bA : Option Addr} {bn bc : Nat} {bs : List (List Int)} (h3 : Sl 1 (rSl 1 rInt) w3 bA bn bc bs) (hl3 : Later w3 w) (r : Rules) {w5 : World} {lA : Option Addr} {ln lc : Nat} {ls : List Duty} (h5 : Sl 1 rDuty w5 lA ln lc ls) (hl5 : Later w5 w) (hfit : ∀ d, d ∈ ls → Fits d.Pieces) :
    Calls Tryz.prog 22 #[.agg #[.slice sA0 sn0 sc0, .slice sA1 sn1 sc1, .slice sA2 sn2 sc2], .agg #[.slice qA0 qn0 qc0, .int .i64 f.Turn], .slice bA bn bc, .agg #[.int .i64 r.SignOn, .int .i64 r.SignOff, .int .i64 r.MaxDrive, .int .i64 r.MinBreak, .int .i64 r.PaidBreak, .int .i64 r.MaxLength], .slice lA ln lc] w (Ret (.tuple #[.int .i64 (totalRes t f bs r ls).1, .bool (totalRes t f bs r ls).2]) w) := by
  have hL := h5.later hl5
  have HB0 : ∀ W [Later (((w.alloc (.cells #[.slice sA0 sn0 sc0, .slice sA1 sn1 sc1, .slice sA2 sn2 sc2] 46)).alloc (.cells #[.slice qA0 qn0 qc0, .int .i64 f.Turn] 48)).alloc (.cells #[.int .i64 r.SignOn, .int .i64 r.SignOff, .int .i64 r.MaxDrive, .int .i64 r.MinBreak, .int .i64 r.PaidBreak, .int .i64 r.MaxLength] 51)) W] (j : Nat), W.cell? ⟨w.heap.size, j, none⟩ = #[.slice sA0 sn0 sc0, .slice sA1 sn1 sc1, .slice sA2 sn2 sc2][j]? := Later.boxes (t := 46) (fr := (0, 0)) ((heap_old (by simp; try omega)).trans ((heap_old (by simp; try omega)).trans (heap_new (by simp; try omega)))); have HB1 : ∀ W [Later (((w.alloc (.cells #[.slice sA0 sn0 sc0, .slice sA1 sn1 sc1, .slice sA2 sn2 sc2] 46)).alloc (.cells #[.slice qA0 qn0 qc0, .int .i64 f.Turn] 48)).alloc (.cells #[.int .i64 r.SignOn, .int .i64 r.SignOff, .int .i64 r.MaxDrive, .int .i64 r.MinBreak, .int .i64 r.PaidBreak, .int .i64 r.MaxLength] 51)) W] (j : Nat), W.cell? ⟨w.heap.size + 1, j, none⟩ = #[.slice qA0 qn0 qc0, .int .i64 f.Turn][j]? := Later.boxes (t := 48) (fr := (0, 0)) ((heap_old (by simp; try omega)).trans (heap_new (by simp; try omega))); have HB2 : ∀ W [Later (((w.alloc (.cells #[.slice sA0 sn0 sc0, .slice sA1 sn1 sc1, .slice sA2 sn2 sc2] 46)).alloc (.cells #[.slice qA0 qn0 qc0, .int .i64 f.Turn] 48)).alloc (.cells #[.int .i64 r.SignOn, .int .i64 r.SignOff, .int .i64 r.MaxDrive, .int .i64 r.MinBreak, .int .i64 r.PaidBreak, .int .i64 r.MaxLength] 51)) W] (j : Nat), W.cell? ⟨w.heap.size + 1 + 1, j, none⟩ = #[.int .i64 r.SignOn, .int .i64 r.SignOff, .int .i64 r.MaxDrive, .int .i64 r.MinBreak, .int .i64 r.PaidBreak, .int .i64 r.MaxLength][j]? := Later.boxes (t := 51) (fr := (0, 0)) (heap_new (by simp; try omega)); obtain ⟨wb, hwb⟩ : ∃ wb : World, wb = (((w.alloc (.cells #[.slice sA0 sn0 sc0, .slice sA1 sn1 sc1, .slice sA2 sn2 sc2] 46)).alloc (.cells #[.slice qA0 qn0 qc0, .int .i64 f.Turn] 48)).alloc (.cells #[.int .i64 r.SignOn, .int .i64 r.SignOff, .int .i64 r.MaxDrive, .int .i64 r.MinBreak, .int .i64 r.PaidBreak, .int .i64 r.MaxLength] 51)) := ⟨_, rfl⟩; haveI hbW : Later wb (((w.alloc (.cells #[.slice sA0 sn0 sc0, .slice sA1 sn1 sc1, .slice sA2 sn2 sc2] 46)).alloc (.cells #[.slice qA0 qn0 qc0, .int .i64 f.Turn] 48)).alloc (.cells #[.int .i64 r.SignOn, .int .i64 r.SignOff, .int .i64 r.MaxDrive, .int .i64 r.MinBreak, .int .i64 r.PaidBreak, .int .i64 r.MaxLength] 51)) := (by rw [hwb]; exact Later.rfl_); haveI hww : Later w wb := (by rw [hwb]; infer_instance); rw [← hwb] at HB0; rw [← hwb] at HB1; rw [← hwb] at HB2; have hbE := Lib.hid (congrArg (fun x : World => x.heap.size) hwb); clear hwb
  have hwb0 := hl.trans hww
  have hwb2 := hl2.trans hww
  have hwb3 := hl3.trans hww
  have H := Lib.hid h
  have H2 := Lib.hid h2
  have H3 := Lib.hid h3
  clear h h2 h3
  have hwb5 := hl5.trans hww
  have H5 := Lib.hid h5
  have HFIT := Lib.hid hfit
  replace hL := hL.later hww
  have hll := hL.le
  have Hll := Lib.hid hL.len
  clear h5 hfit
  by_cases c0 : okRuled t f bs r = true
  rotate_left
  · have c1 : okRuled t f bs r = false := by simpa using c0
    rw [show totalRes t f bs r ls = (0, false) from if_neg (by unfold totalOk; rw [c1]; simp)]
    clear c0
    go_enter Tryz.func22, Tryz.ntmps22
    go_wp2_with (go_at_call 63; refine (impl_areRuled H.out (hwb0.trans inferInstance) H2.out (hwb2.trans inferInstance) H3.out (hwb3.trans inferInstance) r).mono ?_; rintro e w1 ⟨rfl, L1⟩; have X1 := Later.trans (w := wb) inferInstance L1)
    go_ret2
    exact ⟨rfl, hww.trans inferInstance⟩
  have HK := Lib.hid (okRuled_blocks c0)
  have RR := Lib.hid (okRuled_rules c0)
  have RF := Lib.hid (deadFacts HK.out).run
  by_cases cc : okCover t f bs r ls = true
  rotate_left
  · have c1 : okCover t f bs r ls = false := by simpa using cc
    rw [show totalRes t f bs r ls = (0, false) from if_neg (by unfold totalOk; rw [c1]; simp)]
    clear cc
    go_enter Tryz.func22, Tryz.ntmps22
    go_wp2_with first
      | (go_at_call 63; refine (impl_areRuled H.out (hwb0.trans inferInstance) H2.out (hwb2.trans inferInstance) H3.out (hwb3.trans inferInstance) r).mono ?_; rintro e w1 ⟨rfl, L1⟩; have X1 := Later.trans (w := wb) inferInstance L1)
      | (go_at_call 64; refine (impl_isCover H.out (hwb0.trans inferInstance) H2.out (hwb2.trans inferInstance) H3.out (hwb3.trans inferInstance) r H5.out (hwb5.trans inferInstance) HFIT.out HK.out RR.out).mono ?_; rintro e w2 ⟨rfl, L2⟩; have X2 := Later.trans (w := wb) inferInstance L2)
    go_ret2
    exact ⟨rfl, hww.trans inferInstance⟩
  rw [show totalRes t f bs r ls = (paidAll t f r ls, true) from if_pos (by unfold totalOk; rw [c0, cc]; rfl)]
  have HC := Lib.hid (okCover_facts RF.out.time cc)
  have hl12 : ln ≤ 12 := by rw [Hll.out]; exact HC.out.2
  go_enter Tryz.func22, Tryz.ntmps22
  go_wp2_with first
    | (go_at_call 63; refine (impl_areRuled H.out (hwb0.trans inferInstance) H2.out (hwb2.trans inferInstance) H3.out (hwb3.trans inferInstance) r).mono ?_; rintro e w1 ⟨rfl, L1⟩; have X1 := Later.trans (w := wb) inferInstance L1)
    | (go_at_call 64; refine (impl_isCover H.out (hwb0.trans inferInstance) H2.out (hwb2.trans inferInstance) H3.out (hwb3.trans inferInstance) r H5.out (hwb5.trans inferInstance) HFIT.out HK.out RR.out).mono ?_; rintro e w2 ⟨rfl, L2⟩; have X2 := Later.trans (w := wb) inferInstance L2)
  clear c0 cc
  go_loopw [12, 32] (fun so i wr => ∃ (k : Nat) (sm : Int), k ≤ ln ∧ i = .int .i64 k ∧ so = .int .i64 sm ∧ -12000 * (k : Int) ≤ sm ∧ sm ≤ 12000 * (k : Int) ∧ Hid (sm = sumI ((ls.take k).map fun d => paidD t f r d.Pieces)) ∧ Later wb wr) (fun _ i _ => ln - (intOf i).toNat)
  case atStart => exact ⟨0, 0, by omega, rfl, rfl, by omega, by omega, by show _ = _; simp [sumI], inferInstance⟩
  case round =>
    obtain ⟨k, sm, hk, rfl, rfl, s0, s1, HV, hX⟩ := hrel
    by_cases hlt : k < ln
    · obtain ⟨b, o, zA0, zn0, zc0, d, rfl, hd, hcd, hDu⟩ := Dutys.at_ hL hlt
      have HDU := Lib.hid hDu
      have hb0 := HC.out.1 d (List.mem_of_getElem? hd.out)
      have hdf : DutyFacts t f r d.Pieces := ⟨RF.out, RR.out, brkFacts HK.out (brokenD_ok hb0)⟩
      have HDF := Lib.hid hdf
      have q1 := paidD_bd hdf
      have hw1 : IntKind.i64.wrap (sm + paidD t f r d.Pieces) = sm + paidD t f r d.Pieces := by rw [IntKind.wrap_i64]; omega
      have u0 : -12000 * ((k + 1 : Nat) : Int) ≤ sm + paidD t f r d.Pieces := by omega
      have u1 : sm + paidD t f r d.Pieces ≤ 12000 * ((k + 1 : Nat) : Int) := by omega
      have HV2 : Hid (sm + paidD t f r d.Pieces = sumI ((ls.take (k + 1)).map fun d => paidD t f r d.Pieces)) := by show _ = _; rw [take_succ_at hd.out, List.map_append, sumI_append, ← HV.out]; simp [sumI]
      clear hd hDu hb0 hdf q1 HV
      have HBX : ∀ W [Later (wr.alloc (.cells #[.slice zA0 zn0 zc0] 75)) W] (j : Nat), W.cell? ⟨wr.heap.size, j, none⟩ = #[.slice zA0 zn0 zc0][j]? := Later.boxes (t := 75) (fr := (0, 0)) (heap_new (by simp; try omega)); obtain ⟨wx, hwx⟩ : ∃ wx : World, wx = (wr.alloc (.cells #[.slice zA0 zn0 zc0] 75)) := ⟨_, rfl⟩; haveI hxW : Later wx (wr.alloc (.cells #[.slice zA0 zn0 zc0] 75)) := (by rw [hwx]; exact Later.rfl_); haveI hbx : Later wb wx := (by rw [hwx]; infer_instance); rw [← hwx] at HBX; clear hwx
      go_wp2_with (go_at_call 65; refine (impl_paidMinutes H.out (hwb0.trans inferInstance) H2.out (hwb2.trans inferInstance) r HDU.out inferInstance HDF.out).mono ?_; rintro e w9 ⟨rfl, L9⟩; have X9 := Later.trans (w := wb) inferInstance L9; have Z9 := Later.trans (w := wr) inferInstance L9)
      clear hw1
      go_roundw
      case rel => exact ⟨k + 1, _, by omega, by go_num, rfl, u0, u1, HV2, inferInstance⟩
      case measure => simp [intOf]; omega
    · have HE : sm = paidAll t f r ls := by rw [HV.out, List.take_of_length_le (by have := Hll.out; omega)]; rfl
      clear HV
      subst HE
      go_wp2
      go_ret2
      exact ⟨rfl, hww.trans inferInstance⟩
set_option maxHeartbeats 2000000 in
theorem spec_TotalPaid {w0 w w2 w3 : World} {sA0 : Option Addr} {sn0 sc0 : Nat} {sA1 : Option Addr} {sn1 sc1 : Nat} {sA2 : Option Addr} {sn2 sc2 : Nat} {t : Timetable} (h : TimetableAt w0 sA0 sn0 sc0 sA1 sn1 sc1 sA2 sn2 sc2 t) (hl : Later w0 w) {qA0 : Option Addr} {qn0 qc0 : Nat} {f : Fleet} (h2 : FleetAt w2 qA0 qn0 qc0 f) (hl2 : Later w2 w) {bA : Option Addr} {bn bc : Nat} {bs : List (List Int)} (h3 : Sl 1 (rSl 1 rInt) w3 bA bn bc bs) (hl3 : Later w3 w) (r : Rules) {w5 : World} {lA : Option Addr} {ln lc : Nat} {ls : List Duty} (h5 : Sl 1 rDuty w5 lA ln lc ls) (hl5 : Later w5 w) (hfit : ∀ d, d ∈ ls → Fits d.Pieces) :
    Calls Tryz.prog 16 #[.agg #[.slice sA0 sn0 sc0, .slice sA1 sn1 sc1, .slice sA2 sn2 sc2], .agg #[.slice qA0 qn0 qc0, .int .i64 f.Turn], .slice bA bn bc, .agg #[.int .i64 r.SignOn, .int .i64 r.SignOff, .int .i64 r.MaxDrive, .int .i64 r.MinBreak, .int .i64 r.PaidBreak, .int .i64 r.MaxLength], .slice lA ln lc] w (Ret (.tuple #[.int .i64 (totalRes t f bs r ls).1, .bool (totalRes t f bs r ls).2]) w) := by
  have hL := h5.later hl5
  have HB0 : ∀ W [Later (((w.alloc (.cells #[.slice sA0 sn0 sc0, .slice sA1 sn1 sc1, .slice sA2 sn2 sc2] 46)).alloc (.cells #[.slice qA0 qn0 qc0, .int .i64 f.Turn] 48)).alloc (.cells #[.int .i64 r.SignOn, .int .i64 r.SignOff, .int .i64 r.MaxDrive, .int .i64 r.MinBreak, .int .i64 r.PaidBreak, .int .i64 r.MaxLength] 51)) W] (j : Nat), W.cell? ⟨w.heap.size, j, none⟩ = #[.slice sA0 sn0 sc0, .slice sA1 sn1 sc1, .slice sA2 sn2 sc2][j]? := Later.boxes (t := 46) (fr := (0, 0)) ((heap_old (by simp; try omega)).trans ((heap_old (by simp; try omega)).trans (heap_new (by simp; try omega)))); have HB1 : ∀ W [Later (((w.alloc (.cells #[.slice sA0 sn0 sc0, .slice sA1 sn1 sc1, .slice sA2 sn2 sc2] 46)).alloc (.cells #[.slice qA0 qn0 qc0, .int .i64 f.Turn] 48)).alloc (.cells #[.int .i64 r.SignOn, .int .i64 r.SignOff, .int .i64 r.MaxDrive, .int .i64 r.MinBreak, .int .i64 r.PaidBreak, .int .i64 r.MaxLength] 51)) W] (j : Nat), W.cell? ⟨w.heap.size + 1, j, none⟩ = #[.slice qA0 qn0 qc0, .int .i64 f.Turn][j]? := Later.boxes (t := 48) (fr := (0, 0)) ((heap_old (by simp; try omega)).trans (heap_new (by simp; try omega))); have HB2 : ∀ W [Later (((w.alloc (.cells #[.slice sA0 sn0 sc0, .slice sA1 sn1 sc1, .slice sA2 sn2 sc2] 46)).alloc (.cells #[.slice qA0 qn0 qc0, .int .i64 f.Turn] 48)).alloc (.cells #[.int .i64 r.SignOn, .int .i64 r.SignOff, .int .i64 r.MaxDrive, .int .i64 r.MinBreak, .int .i64 r.PaidBreak, .int .i64 r.MaxLength] 51)) W] (j : Nat), W.cell? ⟨w.heap.size + 1 + 1, j, none⟩ = #[.int .i64 r.SignOn, .int .i64 r.SignOff, .int .i64 r.MaxDrive, .int .i64 r.MinBreak, .int .i64 r.PaidBreak, .int .i64 r.MaxLength][j]? := Later.boxes (t := 51) (fr := (0, 0)) (heap_new (by simp; try omega)); obtain ⟨wb, hwb⟩ : ∃ wb : World, wb = (((w.alloc (.cells #[.slice sA0 sn0 sc0, .slice sA1 sn1 sc1, .slice sA2 sn2 sc2] 46)).alloc (.cells #[.slice qA0 qn0 qc0, .int .i64 f.Turn] 48)).alloc (.cells #[.int .i64 r.SignOn, .int .i64 r.SignOff, .int .i64 r.MaxDrive, .int .i64 r.MinBreak, .int .i64 r.PaidBreak, .int .i64 r.MaxLength] 51)) := ⟨_, rfl⟩; haveI hbW : Later wb (((w.alloc (.cells #[.slice sA0 sn0 sc0, .slice sA1 sn1 sc1, .slice sA2 sn2 sc2] 46)).alloc (.cells #[.slice qA0 qn0 qc0, .int .i64 f.Turn] 48)).alloc (.cells #[.int .i64 r.SignOn, .int .i64 r.SignOff, .int .i64 r.MaxDrive, .int .i64 r.MinBreak, .int .i64 r.PaidBreak, .int .i64 r.MaxLength] 51)) := (by rw [hwb]; exact Later.rfl_); haveI hww : Later w wb := (by rw [hwb]; infer_instance); rw [← hwb] at HB0; rw [← hwb] at HB1; rw [← hwb] at HB2; have hbE := Lib.hid (congrArg (fun x : World => x.heap.size) hwb); clear hwb
  have hwb0 := hl.trans hww
  have hwb2 := hl2.trans hww
  have hwb3 := hl3.trans hww
  have H := Lib.hid h
  have H2 := Lib.hid h2
  have H3 := Lib.hid h3
  clear h h2 h3
  have hwb5 := hl5.trans hww
  have H5 := Lib.hid h5
  have HFIT := Lib.hid hfit
  replace hL := hL.later hww
  have hll := hL.le
  have Hll := Lib.hid hL.len
  clear h5 hfit
  by_cases c0 : okRuled t f bs r = true
  rotate_left
  · have c1 : okRuled t f bs r = false := by simpa using c0
    rw [show totalRes t f bs r ls = (0, false) from if_neg (by unfold totalOk; rw [c1]; simp)]
    clear c0
    go_enter Tryz.func16, Tryz.ntmps16
    go_wp2_with (go_at_call 58; refine (spec_l12Asked H.out (hwb0.trans inferInstance) H2.out (hwb2.trans inferInstance) H3.out (hwb3.trans inferInstance) r).mono ?_; rintro e w1 ⟨rfl, L1⟩; have X1 := Later.trans (w := wb) inferInstance L1)
    go_ret2
    exact ⟨rfl, hww.trans inferInstance⟩
  have HK := Lib.hid (okRuled_blocks c0)
  have RR := Lib.hid (okRuled_rules c0)
  have RF := Lib.hid (deadFacts HK.out).run
  by_cases cc : okCover t f bs r ls = true
  rotate_left
  · have c1 : okCover t f bs r ls = false := by simpa using cc
    rw [show totalRes t f bs r ls = (0, false) from if_neg (by unfold totalOk; rw [c1]; simp)]
    clear cc
    go_enter Tryz.func16, Tryz.ntmps16
    go_wp2_with first
      | (go_at_call 58; refine (spec_l12Asked H.out (hwb0.trans inferInstance) H2.out (hwb2.trans inferInstance) H3.out (hwb3.trans inferInstance) r).mono ?_; rintro e w1 ⟨rfl, L1⟩; have X1 := Later.trans (w := wb) inferInstance L1)
      | (go_at_call 59; refine (spec_l13Covers H.out (hwb0.trans inferInstance) H2.out (hwb2.trans inferInstance) H3.out (hwb3.trans inferInstance) r H5.out (hwb5.trans inferInstance) HFIT.out HK.out RR.out).mono ?_; rintro e w2 ⟨rfl, L2⟩; have X2 := Later.trans (w := wb) inferInstance L2)
    go_ret2
    exact ⟨rfl, hww.trans inferInstance⟩
  rw [show totalRes t f bs r ls = (paidAll t f r ls, true) from if_pos (by unfold totalOk; rw [c0, cc]; rfl)]
  have HC := Lib.hid (okCover_facts RF.out.time cc)
  have hl12 : ln ≤ 12 := by rw [Hll.out]; exact HC.out.2
  go_enter Tryz.func16, Tryz.ntmps16
  go_wp2_with first
    | (go_at_call 58; refine (spec_l12Asked H.out (hwb0.trans inferInstance) H2.out (hwb2.trans inferInstance) H3.out (hwb3.trans inferInstance) r).mono ?_; rintro e w1 ⟨rfl, L1⟩; have X1 := Later.trans (w := wb) inferInstance L1)
    | (go_at_call 59; refine (spec_l13Covers H.out (hwb0.trans inferInstance) H2.out (hwb2.trans inferInstance) H3.out (hwb3.trans inferInstance) r H5.out (hwb5.trans inferInstance) HFIT.out HK.out RR.out).mono ?_; rintro e w2 ⟨rfl, L2⟩; have X2 := Later.trans (w := wb) inferInstance L2)
  clear c0 cc
  go_loopw [12, 13] (fun so i wr => ∃ (k : Nat) (sm : Int), k ≤ ln ∧ i = .int .i64 k ∧ so = .int .i64 sm ∧ -12000 * (k : Int) ≤ sm ∧ sm ≤ 12000 * (k : Int) ∧ Hid (sm = sumI ((ls.take k).map fun d => paidD t f r d.Pieces)) ∧ Later wb wr) (fun _ i _ => ln - (intOf i).toNat)
  case atStart => exact ⟨0, 0, by omega, rfl, rfl, by omega, by omega, by show _ = _; simp [sumI], inferInstance⟩
  case round =>
    obtain ⟨k, sm, hk, rfl, rfl, s0, s1, HV, hX⟩ := hrel
    by_cases hlt : k < ln
    · obtain ⟨b, o, zA0, zn0, zc0, d, rfl, hd, hcd, hDu⟩ := Dutys.at_ hL hlt
      have HDU := Lib.hid hDu
      have hb0 := HC.out.1 d (List.mem_of_getElem? hd.out)
      have hdf : DutyFacts t f r d.Pieces := ⟨RF.out, RR.out, brkFacts HK.out (brokenD_ok hb0)⟩
      have HDF := Lib.hid hdf
      have q1 := paidD_bd hdf
      have hw1 : IntKind.i64.wrap (sm + paidD t f r d.Pieces) = sm + paidD t f r d.Pieces := by rw [IntKind.wrap_i64]; omega
      have u0 : -12000 * ((k + 1 : Nat) : Int) ≤ sm + paidD t f r d.Pieces := by omega
      have u1 : sm + paidD t f r d.Pieces ≤ 12000 * ((k + 1 : Nat) : Int) := by omega
      have HV2 : Hid (sm + paidD t f r d.Pieces = sumI ((ls.take (k + 1)).map fun d => paidD t f r d.Pieces)) := by show _ = _; rw [take_succ_at hd.out, List.map_append, sumI_append, ← HV.out]; simp [sumI]
      clear hd hDu hb0 hdf q1 HV
      go_wp2_with fail
      go_region_held3 (fun w' => Later wb w' ∧ Later wr w') (exact ⟨inferInstance, inferInstance⟩) (first | (go_at_call 60; refine (spec_l12Paid H.out (hwb0.trans inferInstance) H2.out (hwb2.trans inferInstance) r HDU.out inferInstance HDF.out).mono ?_; rintro e w9 ⟨rfl, L9⟩; have X9 := Later.trans (w := wb) inferInstance L9; have Z9 := Later.trans (w := wr) inferInstance L9))
      clear hw1
      go_wp2
      go_roundw
      case rel => exact ⟨k + 1, _, by omega, by go_num, rfl, u0, u1, HV2, inferInstance⟩
      case measure => simp [intOf]; omega
    · have HE : sm = paidAll t f r ls := by rw [HV.out, List.take_of_length_le (by have := Hll.out; omega)]; rfl
      clear HV
      subst HE
      go_wp2
      go_ret2
      exact ⟨rfl, hww.trans inferInstance⟩
end Go.Proofs.YthibhehnakikpaaGreat
