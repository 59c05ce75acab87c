/-
  Duties: the pieces that begin with a trip (PiecesFrom).
-/
import Derived.Test.YthibhehnakikpaaGreatGaps
import Derived.Test.YthibhehnakikpaaGreatIsPiece
import Derived.Test.YthibhehnakikpaaGreatRuled
import Derived.Test.YthibhehnakikpaaGreatORow
import Derived.Test.YthibhehnakikpaaGreatHIntSS
namespace Go.Proofs.YthibhehnakikpaaGreat
open Go Go.RowKit
set_option linter.unusedVariables false
set_option maxRecDepth 100000
def cutsFrom (x : List Int) (j e : Nat) : List (List Int) := (List.range e).map fun i => (x.drop j).take (i + 1)
def fromGo (t : Timetable) (r : Rules) (x : List Int) (j e : Nat) : List (List Int) := (cutsFrom x j e).filter fun p => decide (finP t p - begP t p ≤ r.MaxDrive)
theorem fromGo_yes {t : Timetable} {r : Rules} {x : List Int} {j e : Nat} (h : finP t ((x.drop j).take (e + 1)) - begP t ((x.drop j).take (e + 1)) ≤ r.MaxDrive) : fromGo t r x j (e + 1) = fromGo t r x j e ++ [(x.drop j).take (e + 1)] := by
  unfold fromGo cutsFrom
  rw [List.range_succ, List.map_append, List.filter_append]
  simp [h]
theorem fromGo_no {t : Timetable} {r : Rules} {x : List Int} {j e : Nat} (h : ¬ finP t ((x.drop j).take (e + 1)) - begP t ((x.drop j).take (e + 1)) ≤ r.MaxDrive) : fromGo t r x j (e + 1) = fromGo t r x j e := by
  unfold fromGo cutsFrom
  rw [List.range_succ, List.map_append, List.filter_append]
  simp [h]
theorem fromGo_len (t : Timetable) (r : Rules) (x : List Int) (j e : Nat) : (fromGo t r x j e).length ≤ e := by
  unfold fromGo cutsFrom
  refine Nat.le_trans (List.length_filter_le _ _) ?_
  simp
def fromOk (t : Timetable) (f : Fleet) (bs : List (List Int)) (r : Rules) (v : Int) : Bool := okRuled t f bs r && decide (0 ≤ (placeOf 0 v bs).1)
def fromAll (t : Timetable) (bs : List (List Int)) (r : Rules) (v : Int) : List (List Int) := fromGo t r (blkI bs (placeOf 0 v bs).1) (placeOf 0 v bs).2.toNat ((blkI bs (placeOf 0 v bs).1).length - (placeOf 0 v bs).2.toNat)
def fromRes (t : Timetable) (f : Fleet) (bs : List (List Int)) (r : Rules) (v : Int) : List (List Int) × Bool := if fromOk t f bs r v = true then (fromAll t bs r v, true) else ([], false)
theorem sumLen_le {l : List (List Int)} {m : Nat} (h : ∀ x, x ∈ l → x.length ≤ m) : sumLen l ≤ l.length * m := by
  induction l with
  | nil => simp [sumLen]
  | cons x l ih =>
    have h1 := h x (by simp)
    have h2 := ih fun y hy => h y (List.mem_cons_of_mem _ hy)
    simp only [sumLen, List.length_cons, Nat.succ_mul]
    omega
theorem fromRes_len (t : Timetable) (f : Fleet) (bs : List (List Int)) (r : Rules) (v : Int) : (fromRes t f bs r v).1.length ≤ 1048576 ∧ sumLen (fromRes t f bs r v).1 ≤ 1099511627776 := by
  unfold fromRes
  split
  · rename_i h
    simp only [fromOk, Bool.and_eq_true, decide_eq_true_eq] at h
    obtain ⟨m, j, x, hpo, hx, hj⟩ := placeOf_at h.2
    have hxl := rows12 (okRuled_blocks h.1) x (List.mem_of_getElem? hx)
    have he : fromAll t bs r v = fromGo t r x j (x.length - j) := by
      unfold fromAll
      rw [hpo]
      simp only [blkI_of hx, Int.toNat_natCast]
    simp only [he]
    have h1 := fromGo_len t r x j (x.length - j)
    have h2 : ∀ p, p ∈ fromGo t r x j (x.length - j) → p.length ≤ 1048576 := by
      intro p hp
      have := (List.mem_filter.1 hp).1
      obtain ⟨i, _, rfl⟩ := List.mem_map.1 this
      simp only [List.length_take, List.length_drop]
      omega
    have h3 := sumLen_le h2
    have h4 : (fromGo t r x j (x.length - j)).length * 1048576 ≤ 1048576 * 1048576 := Nat.mul_le_mul_right _ (by omega)
    omega
  · simp [sumLen]
set_option maxHeartbeats 2000000 in
theorem impl_PiecesFrom {w0 w w2 w3 : World} {sA0 : Option Addr} {sn0 sc0 : Nat} {sA1 : Option Addr} {sn1 sc1 : Nat} {sA2 : Option Addr} {sn2 sc2 : Nat} {t : Timetable} (h : TimetableAt w0 sA0 sn0 sc0 sA1 sn1 sc1 sA2 sn2 sc2 t) (hl : Later w0 w) {qA0 : Option Addr} {qn0 qc0 : Nat} {f : Fleet} (h2 : FleetAt w2 qA0 qn0 qc0 f) (hl2 : Later w2 w) {bA : Option Addr} {bn bc : Nat} {bs : List (List Int)} (h3 : Sl 1 (rSl 1 rInt) w3 bA bn bc bs) (hl3 : Later w3 w) (r : Rules) (v : Int) :
    Calls Tryz.prog 28 #[.agg #[.slice sA0 sn0 sc0, .slice sA1 sn1 sc1, .slice sA2 sn2 sc2], .agg #[.slice qA0 qn0 qc0, .int .i64 f.Turn], .slice bA bn bc, .agg #[.int .i64 r.SignOn, .int .i64 r.SignOff, .int .i64 r.MaxDrive, .int .i64 r.MinBreak, .int .i64 r.PaidBreak, .int .i64 r.MaxLength], .int .i64 v] w (RetO2 1 (oSl 1 oInt) (fromRes t f bs r v).1 (fromRes t f bs r v).2 w) := by
  have hB := h3.later hl3
  have HB0 : ∀ W [Later (((w.alloc (.cells #[.slice sA0 sn0 sc0, .slice sA1 sn1 sc1, .slice sA2 sn2 sc2] 46)).alloc (.cells #[.slice qA0 qn0 qc0, .int .i64 f.Turn] 48)).alloc (.cells #[.int .i64 r.SignOn, .int .i64 r.SignOff, .int .i64 r.MaxDrive, .int .i64 r.MinBreak, .int .i64 r.PaidBreak, .int .i64 r.MaxLength] 51)) W] (j : Nat), W.cell? ⟨w.heap.size, j, none⟩ = #[.slice sA0 sn0 sc0, .slice sA1 sn1 sc1, .slice sA2 sn2 sc2][j]? := Later.boxes (t := 46) (fr := (0, 0)) ((heap_old (by simp; try omega)).trans ((heap_old (by simp; try omega)).trans (heap_new (by simp; try omega)))); have HB1 : ∀ W [Later (((w.alloc (.cells #[.slice sA0 sn0 sc0, .slice sA1 sn1 sc1, .slice sA2 sn2 sc2] 46)).alloc (.cells #[.slice qA0 qn0 qc0, .int .i64 f.Turn] 48)).alloc (.cells #[.int .i64 r.SignOn, .int .i64 r.SignOff, .int .i64 r.MaxDrive, .int .i64 r.MinBreak, .int .i64 r.PaidBreak, .int .i64 r.MaxLength] 51)) W] (j : Nat), W.cell? ⟨w.heap.size + 1, j, none⟩ = #[.slice qA0 qn0 qc0, .int .i64 f.Turn][j]? := Later.boxes (t := 48) (fr := (0, 0)) ((heap_old (by simp; try omega)).trans (heap_new (by simp; try omega))); have HB2 : ∀ W [Later (((w.alloc (.cells #[.slice sA0 sn0 sc0, .slice sA1 sn1 sc1, .slice sA2 sn2 sc2] 46)).alloc (.cells #[.slice qA0 qn0 qc0, .int .i64 f.Turn] 48)).alloc (.cells #[.int .i64 r.SignOn, .int .i64 r.SignOff, .int .i64 r.MaxDrive, .int .i64 r.MinBreak, .int .i64 r.PaidBreak, .int .i64 r.MaxLength] 51)) W] (j : Nat), W.cell? ⟨w.heap.size + 1 + 1, j, none⟩ = #[.int .i64 r.SignOn, .int .i64 r.SignOff, .int .i64 r.MaxDrive, .int .i64 r.MinBreak, .int .i64 r.PaidBreak, .int .i64 r.MaxLength][j]? := Later.boxes (t := 51) (fr := (0, 0)) (heap_new (by simp; try omega)); obtain ⟨wb, hwb⟩ : ∃ wb : World, wb = (((w.alloc (.cells #[.slice sA0 sn0 sc0, .slice sA1 sn1 sc1, .slice sA2 sn2 sc2] 46)).alloc (.cells #[.slice qA0 qn0 qc0, .int .i64 f.Turn] 48)).alloc (.cells #[.int .i64 r.SignOn, .int .i64 r.SignOff, .int .i64 r.MaxDrive, .int .i64 r.MinBreak, .int .i64 r.PaidBreak, .int .i64 r.MaxLength] 51)) := ⟨_, rfl⟩; haveI hbW : Later wb (((w.alloc (.cells #[.slice sA0 sn0 sc0, .slice sA1 sn1 sc1, .slice sA2 sn2 sc2] 46)).alloc (.cells #[.slice qA0 qn0 qc0, .int .i64 f.Turn] 48)).alloc (.cells #[.int .i64 r.SignOn, .int .i64 r.SignOff, .int .i64 r.MaxDrive, .int .i64 r.MinBreak, .int .i64 r.PaidBreak, .int .i64 r.MaxLength] 51)) := (by rw [hwb]; exact Later.rfl_); haveI hww : Later w wb := (by rw [hwb]; infer_instance); rw [← hwb] at HB0; rw [← hwb] at HB1; rw [← hwb] at HB2; have hbE := Lib.hid (congrArg (fun x : World => x.heap.size) hwb); clear hwb
  have hwb0 := hl.trans hww
  have hwb2 := hl2.trans hww
  have hwb3 := hl3.trans hww
  have H := Lib.hid h
  have H2 := Lib.hid h2
  have H3 := Lib.hid h3
  clear h h2 h3
  replace hB := hB.later hww
  have hbl := hB.le
  have hbs : wb.heap.size ≤ w.heap.size + 3 := by have := hbE.out; simp at this; omega
  have hbs2 : w.heap.size + 3 ≤ wb.heap.size := by have := hbE.out; simp at this; omega
  by_cases c0 : okRuled t f bs r = true
  rotate_left
  · have c1 : okRuled t f bs r = false := by simpa using c0
    rw [show fromRes t f bs r v = ([], false) from if_neg (by unfold fromOk; rw [c1]; simp)]
    clear c0
    go_enter Tryz.func28, Tryz.ntmps28
    go_wp2_with (go_at_call 63; refine (impl_areRuled H.out (hwb0.trans inferInstance) H2.out (hwb2.trans inferInstance) H3.out (hwb3.trans inferInstance) r).mono ?_; rintro e w1 ⟨rfl, L1⟩; have X1 := Later.trans (w := wb) inferInstance L1)
    go_ret2
    exact ⟨none, 0, 0, [], rfl, OSl.nil_ _, by simp, by simp, hww.trans inferInstance⟩
  by_cases cp : 0 ≤ (placeOf 0 v bs).1
  rotate_left
  · rw [show fromRes t f bs r v = ([], false) from if_neg (by unfold fromOk; simp only [Bool.and_eq_true, decide_eq_true_eq]; exact fun h => cp h.2)]
    have c2 : (placeOf 0 v bs).1 < 0 := by omega
    have c3 : decide ((placeOf 0 v bs).1 < 0) = true := decide_eq_true c2
    clear cp
    go_enter Tryz.func28, Tryz.ntmps28
    go_wp2_with first
      | (go_at_call 63; refine (impl_areRuled H.out (hwb0.trans inferInstance) H2.out (hwb2.trans inferInstance) H3.out (hwb3.trans inferInstance) r).mono ?_; rintro e w1 ⟨rfl, L1⟩; have X1 := Later.trans (w := wb) inferInstance L1)
      | (go_at_call 72; refine (impl_placeIn H3.out (hwb3.trans inferInstance) v).mono ?_; rintro e w2 ⟨rfl, L2⟩; have X2 := Later.trans (w := wb) inferInstance L2)
    go_ret2
    exact ⟨none, 0, 0, [], rfl, OSl.nil_ _, by simp, by simp, hww.trans inferInstance⟩
  have c9 := c0
  have HK := Lib.hid (okRuled_blocks c0)
  have DF := Lib.hid (deadFacts HK.out)
  obtain ⟨m, j, x, hpo, hx, hj⟩ := placeOf_at cp
  have hpd : placeOf 0 v bs = ((m : Int), (j : Int)) := by rcases placeOf_any v bs with ⟨h1, _⟩ | ⟨_, h2⟩ <;> first | exact hpo | (rw [h2]; exact hpo) | omega
  have HPD := Lib.hid hpd
  have hres : fromRes t f bs r v = (fromGo t r x j (x.length - j), true) := by
    unfold fromRes fromOk
    rw [c0, decide_eq_true cp]
    simp only [Bool.and_self, if_true, fromAll]
    rw [hpo]
    simp only [blkI_of hx, Int.toNat_natCast]
  rw [hres]
  have hmn : m < bn := by rw [hB.len]; exact (List.getElem?_eq_some_iff.1 hx).1
  obtain ⟨b, o, A1, n1, cc1, x', rfl, hx', hc0, hi⟩ := Sl.row_ hB hmn
  obtain rfl : x' = x := Option.some.inj (hx'.out.symm.trans hx)
  have hxl := rows12 HK.out x' (List.mem_of_getElem? hx)
  have hjx := (List.getElem?_eq_some_iff.1 hj).1
  have Hxl := Lib.hid hi.len
  have hn1 : n1 ≤ 1048576 := by rw [hi.len]; exact hxl
  have hjn : j < n1 := by rw [hi.len]; exact hjx
  have hcap := hi.cap
  obtain ⟨bb, oo, yy, rfl, _, _, _⟩ := Ints.at_ hi hjn
  have HI := Lib.hid hi
  have HXF := Lib.hid (DF.out.found x' (List.mem_of_getElem? hx))
  have hw0 : IntKind.i64.wrap ((j : Int) + 1) = ((j + (0 + 1) : Nat) : Int) := by rw [IntKind.wrap_i64]; omega
  have hmn' : (m : Int) < bn := by omega
  clear hx hx' hj hpo hpd cp hres hi hxl hjx c0
  go_enter Tryz.func28, Tryz.ntmps28
  go_wp2_with first
    | (go_at_call 63; refine (impl_areRuled H.out (hwb0.trans inferInstance) H2.out (hwb2.trans inferInstance) H3.out (hwb3.trans inferInstance) r).mono ?_; rintro e w1 ⟨rfl, L1⟩; have X1 := Later.trans (w := wb) inferInstance L1)
    | (go_at_call 72; refine (impl_placeIn H3.out (hwb3.trans inferInstance) v).mono ?_; rw [HPD.out]; rintro e w2 ⟨rfl, L2⟩; have X2 := Later.trans (w := wb) inferInstance L2)
  clear c9
  go_loopw [14, 15] (fun ov i wr => ∃ e : Nat, j + e ≤ n1 ∧ i = .int .i64 ((j + (e + 1) : Nat) : Int) ∧ Hid (ORows wr (w.heap.size + 3) 65 ov (fromGo t r x' j e)) ∧ Later wb wr) (fun _ i _ => n1 + 1 - (intOf i).toNat)
  case atStart => exact ⟨0, by omega, by first | rfl | go_num, Lib.hid (ORows.nil_ _ _ _), inferInstance⟩
  case round =>
    obtain ⟨e, he, rfl, hown, hX⟩ := hrel
    by_cases hlt : j + (e + 1) ≤ n1
    · have HS := Lib.hid (Sl.sub_ HI.out (show j + (e + 1) ≤ n1 by omega))
      obtain ⟨p, hp⟩ : ∃ p, p = (x'.drop j).take (e + 1) := ⟨_, rfl⟩
      rw [← hp] at HS
      have hpl0 : e + 1 = p.length := HS.out.len
      have HPP : Hid (0 < p.length) := by show _ < _; omega
      have HPF : Hid (FoundAll t p) := fun u hu => HXF.out u (by rw [hp] at hu; exact List.mem_of_mem_drop (List.mem_of_mem_take hu))
      have q1 := begP_bd DF.out.run.time HPP.out HPF.out
      have q2 := finP_bd DF.out.run.time HPP.out HPF.out
      have hw1 : IntKind.i64.wrap (finP t p - begP t p) = finP t p - begP t p := by rw [IntKind.wrap_i64]; omega
      have c1i : ((j + (e + 1) : Nat) : Int) ≤ (n1 : Int) := by omega
      have c2i : ((j + (e + 1) : Nat) : Int) ≤ (cc1 : Int) := by omega
      have c3i : (j : Int) ≤ ((j + (e + 1) : Nat) : Int) := by omega
      have hwe : IntKind.i64.wrap (((j + (e + 1) : Nat) : Int) + 1) = ((j + (e + 1 + 1) : Nat) : Int) := by rw [IntKind.wrap_i64]; omega
      have hle : (fromGo t r x' j e).length ≤ 1073741824 := by have := fromGo_len t r x' j e; omega
      have Hpl0 := Lib.hid hpl0
      clear q1 q2 hpl0
      by_cases cO : finP t p - begP t p ≤ r.MaxDrive
      · have HT : Hid (fromGo t r x' j (e + 1) = fromGo t r x' j e ++ [p]) := by show _ = _; subst hp; exact fromGo_yes cO
        clear hp
        go_wp2_with first
          | (go_at_call 73; refine (slices_CloneInts HS.out inferInstance (by omega)).mono ?_; rintro e6 w6 ⟨A6, n6, c6, fp6, rfl, ho6, nd6, lo6, L6⟩; have X6 := Later.trans (w := wb) inferInstance L6; have Z6 := Later.trans (w := wr) inferInstance L6)
          | (go_at_call 74; refine (impl_spanOf H.out (hwb0.trans inferInstance) DF.out.run.time ho6.reads inferInstance HPP.out HPF.out).mono ?_; rintro e w7 ⟨rfl, L7⟩; have X7 := Later.trans (w := wb) inferInstance L7; have Z7 := Later.trans (w := wr) inferInstance L7; have V7 := Later.trans (w := w6) inferInstance L7)
          | (at_builtin; refine wpList_app_R rfl _ _ 29 rfl Tryz.underlying29 infoRow (by decide) (w0 := wb) (w1 := wr) rfl hown.out inferInstance inferInstance hbs (Nat.le_trans hbs2 hX.size) (ho6.later inferInstance) nd6 lo6 (by first | rfl | (refine Eq.trans (b := .slice (some ⟨w7.heap.size + 1, 0, none⟩) 1 1) rfl ?_; simp)) hle ?_; intro v' w9 hown' hX9)
        clear hw1
        go_roundw
        case rel => exact ⟨e + 1, by omega, by first | rfl | go_num, by show ORows _ _ _ _ _; rw [HT.out]; exact hown', inferInstance⟩
        case measure => simp [intOf]; omega
      · have HT : Hid (fromGo t r x' j (e + 1) = fromGo t r x' j e) := by show _ = _; subst hp; exact fromGo_no cO
        clear hp
        go_wp2_with first
          | (go_at_call 73; refine (slices_CloneInts HS.out inferInstance (by omega)).mono ?_; rintro e6 w6 ⟨A6, n6, c6, fp6, rfl, ho6, nd6, lo6, L6⟩; have X6 := Later.trans (w := wb) inferInstance L6; have Z6 := Later.trans (w := wr) inferInstance L6)
          | (go_at_call 74; refine (impl_spanOf H.out (hwb0.trans inferInstance) DF.out.run.time ho6.reads inferInstance HPP.out HPF.out).mono ?_; rintro e w7 ⟨rfl, L7⟩; have X7 := Later.trans (w := wb) inferInstance L7; have Z7 := Later.trans (w := wr) inferInstance L7; have V7 := Later.trans (w := w6) inferInstance L7)
        clear hw1
        go_roundw
        case rel => exact ⟨e + 1, by omega, by first | rfl | go_num, by show ORows _ _ _ _ _; rw [HT.out]; exact hown.out.later inferInstance, inferInstance⟩
        case measure => simp [intOf]; omega
    · have he : e = x'.length - j := by have := Hxl.out; omega
      have hno : ¬ (((j + (e + 1) : Nat) : Int) ≤ (n1 : Int)) := by omega
      rw [he] at hown
      clear he
      go_wp2
      go_ret2
      obtain ⟨A, c, fp, rfl, ho, hnd, hlo⟩ := hown.out.shut
      exact ⟨A, _, c, fp, rfl, ho, hnd, fun g hg => by have := hlo g hg; omega, hww.trans inferInstance⟩
set_option maxHeartbeats 2000000 in
theorem spec_PiecesFrom {w0 w w2 w3 : World} {sA0 : Option Addr} {sn0 sc0 : Nat} {sA1 : Option Addr} {sn1 sc1 : Nat} {sA2 : Option Addr} {sn2 sc2 : Nat} {t : Timetable} (h : TimetableAt w0 sA0 sn0 sc0 sA1 sn1 sc1 sA2 sn2 sc2 t) (hl : Later w0 w) {qA0 : Option Addr} {qn0 qc0 : Nat} {f : Fleet} (h2 : FleetAt w2 qA0 qn0 qc0 f) (hl2 : Later w2 w) {bA : Option Addr} {bn bc : Nat} {bs : List (List Int)} (h3 : Sl 1 (rSl 1 rInt) w3 bA bn bc bs) (hl3 : Later w3 w) (r : Rules) (v : Int) :
    Calls Tryz.prog 27 #[.agg #[.slice sA0 sn0 sc0, .slice sA1 sn1 sc1, .slice sA2 sn2 sc2], .agg #[.slice qA0 qn0 qc0, .int .i64 f.Turn], .slice bA bn bc, .agg #[.int .i64 r.SignOn, .int .i64 r.SignOff, .int .i64 r.MaxDrive, .int .i64 r.MinBreak, .int .i64 r.PaidBreak, .int .i64 r.MaxLength], .int .i64 v] w (RetO2 1 (oSl 1 oInt) (fromRes t f bs r v).1 (fromRes t f bs r v).2 w) := by
  have hB := h3.later hl3
  have HB0 : ∀ W [Later (((w.alloc (.cells #[.slice sA0 sn0 sc0, .slice sA1 sn1 sc1, .slice sA2 sn2 sc2] 46)).alloc (.cells #[.slice qA0 qn0 qc0, .int .i64 f.Turn] 48)).alloc (.cells #[.int .i64 r.SignOn, .int .i64 r.SignOff, .int .i64 r.MaxDrive, .int .i64 r.MinBreak, .int .i64 r.PaidBreak, .int .i64 r.MaxLength] 51)) W] (j : Nat), W.cell? ⟨w.heap.size, j, none⟩ = #[.slice sA0 sn0 sc0, .slice sA1 sn1 sc1, .slice sA2 sn2 sc2][j]? := Later.boxes (t := 46) (fr := (0, 0)) ((heap_old (by simp; try omega)).trans ((heap_old (by simp; try omega)).trans (heap_new (by simp; try omega)))); have HB1 : ∀ W [Later (((w.alloc (.cells #[.slice sA0 sn0 sc0, .slice sA1 sn1 sc1, .slice sA2 sn2 sc2] 46)).alloc (.cells #[.slice qA0 qn0 qc0, .int .i64 f.Turn] 48)).alloc (.cells #[.int .i64 r.SignOn, .int .i64 r.SignOff, .int .i64 r.MaxDrive, .int .i64 r.MinBreak, .int .i64 r.PaidBreak, .int .i64 r.MaxLength] 51)) W] (j : Nat), W.cell? ⟨w.heap.size + 1, j, none⟩ = #[.slice qA0 qn0 qc0, .int .i64 f.Turn][j]? := Later.boxes (t := 48) (fr := (0, 0)) ((heap_old (by simp; try omega)).trans (heap_new (by simp; try omega))); have HB2 : ∀ W [Later (((w.alloc (.cells #[.slice sA0 sn0 sc0, .slice sA1 sn1 sc1, .slice sA2 sn2 sc2] 46)).alloc (.cells #[.slice qA0 qn0 qc0, .int .i64 f.Turn] 48)).alloc (.cells #[.int .i64 r.SignOn, .int .i64 r.SignOff, .int .i64 r.MaxDrive, .int .i64 r.MinBreak, .int .i64 r.PaidBreak, .int .i64 r.MaxLength] 51)) W] (j : Nat), W.cell? ⟨w.heap.size + 1 + 1, j, none⟩ = #[.int .i64 r.SignOn, .int .i64 r.SignOff, .int .i64 r.MaxDrive, .int .i64 r.MinBreak, .int .i64 r.PaidBreak, .int .i64 r.MaxLength][j]? := Later.boxes (t := 51) (fr := (0, 0)) (heap_new (by simp; try omega)); obtain ⟨wb, hwb⟩ : ∃ wb : World, wb = (((w.alloc (.cells #[.slice sA0 sn0 sc0, .slice sA1 sn1 sc1, .slice sA2 sn2 sc2] 46)).alloc (.cells #[.slice qA0 qn0 qc0, .int .i64 f.Turn] 48)).alloc (.cells #[.int .i64 r.SignOn, .int .i64 r.SignOff, .int .i64 r.MaxDrive, .int .i64 r.MinBreak, .int .i64 r.PaidBreak, .int .i64 r.MaxLength] 51)) := ⟨_, rfl⟩; haveI hbW : Later wb (((w.alloc (.cells #[.slice sA0 sn0 sc0, .slice sA1 sn1 sc1, .slice sA2 sn2 sc2] 46)).alloc (.cells #[.slice qA0 qn0 qc0, .int .i64 f.Turn] 48)).alloc (.cells #[.int .i64 r.SignOn, .int .i64 r.SignOff, .int .i64 r.MaxDrive, .int .i64 r.MinBreak, .int .i64 r.PaidBreak, .int .i64 r.MaxLength] 51)) := (by rw [hwb]; exact Later.rfl_); haveI hww : Later w wb := (by rw [hwb]; infer_instance); rw [← hwb] at HB0; rw [← hwb] at HB1; rw [← hwb] at HB2; have hbE := Lib.hid (congrArg (fun x : World => x.heap.size) hwb); clear hwb
  have hwb0 := hl.trans hww
  have hwb2 := hl2.trans hww
  have hwb3 := hl3.trans hww
  have H := Lib.hid h
  have H2 := Lib.hid h2
  have H3 := Lib.hid h3
  clear h h2 h3
  replace hB := hB.later hww
  have hbl := hB.le
  have hbs : wb.heap.size ≤ w.heap.size + 3 := by have := hbE.out; simp at this; omega
  have hbs2 : w.heap.size + 3 ≤ wb.heap.size := by have := hbE.out; simp at this; omega
  by_cases c0 : okRuled t f bs r = true
  rotate_left
  · have c1 : okRuled t f bs r = false := by simpa using c0
    rw [show fromRes t f bs r v = ([], false) from if_neg (by unfold fromOk; rw [c1]; simp)]
    clear c0
    go_enter Tryz.func27, Tryz.ntmps27
    go_wp2_with first
      | (go_at_call 68; refine (spec_l11Place H3.out (hwb3.trans inferInstance) v).mono ?_; rintro e w2 ⟨rfl, L2⟩; have X2 := Later.trans (w := wb) inferInstance L2)
      | (go_at_call 58; refine (spec_l12Asked H.out (hwb0.trans inferInstance) H2.out (hwb2.trans inferInstance) H3.out (hwb3.trans inferInstance) r).mono ?_; rintro e w1 ⟨rfl, L1⟩; have X1 := Later.trans (w := wb) inferInstance L1)
    go_ret2
    exact ⟨_, _, _, [], rfl, OSl.nil_ _, by simp, by simp, hww.trans inferInstance⟩
  by_cases cp : 0 ≤ (placeOf 0 v bs).1
  rotate_left
  · rw [show fromRes t f bs r v = ([], false) from if_neg (by unfold fromOk; simp only [Bool.and_eq_true, decide_eq_true_eq]; exact fun h => cp h.2)]
    have c2 : (placeOf (-1) v bs).1 < 0 := by have := placeOf_any v bs; omega
    have c3 : decide ((placeOf (-1) v bs).1 < 0) = true := decide_eq_true c2
    clear cp
    go_enter Tryz.func27, Tryz.ntmps27
    go_wp2_with first
      | (go_at_call 68; refine (spec_l11Place H3.out (hwb3.trans inferInstance) v).mono ?_; rintro e w2 ⟨rfl, L2⟩; have X2 := Later.trans (w := wb) inferInstance L2)
      | (go_at_call 58; refine (spec_l12Asked H.out (hwb0.trans inferInstance) H2.out (hwb2.trans inferInstance) H3.out (hwb3.trans inferInstance) r).mono ?_; rintro e w1 ⟨rfl, L1⟩; have X1 := Later.trans (w := wb) inferInstance L1)
    go_ret2
    exact ⟨_, _, _, [], rfl, OSl.nil_ _, by simp, by simp, hww.trans inferInstance⟩
  have c9 := c0
  have HK := Lib.hid (okRuled_blocks c0)
  have DF := Lib.hid (deadFacts HK.out)
  obtain ⟨m, j, x, hpo, hx, hj⟩ := placeOf_at cp
  have hpd : placeOf (-1) v bs = ((m : Int), (j : Int)) := by rcases placeOf_any v bs with ⟨h1, _⟩ | ⟨_, h2⟩ <;> first | exact hpo | (rw [h2]; exact hpo) | omega
  have HPD := Lib.hid hpd
  have hres : fromRes t f bs r v = (fromGo t r x j (x.length - j), true) := by
    unfold fromRes fromOk
    rw [c0, decide_eq_true cp]
    simp only [Bool.and_self, if_true, fromAll]
    rw [hpo]
    simp only [blkI_of hx, Int.toNat_natCast]
  rw [hres]
  have hmn : m < bn := by rw [hB.len]; exact (List.getElem?_eq_some_iff.1 hx).1
  obtain ⟨b, o, A1, n1, cc1, x', rfl, hx', hc0, hi⟩ := Sl.row_ hB hmn
  obtain rfl : x' = x := Option.some.inj (hx'.out.symm.trans hx)
  have hxl := rows12 HK.out x' (List.mem_of_getElem? hx)
  have hjx := (List.getElem?_eq_some_iff.1 hj).1
  have Hxl := Lib.hid hi.len
  have hn1 : n1 ≤ 1048576 := by rw [hi.len]; exact hxl
  have hjn : j < n1 := by rw [hi.len]; exact hjx
  have hcap := hi.cap
  obtain ⟨bb, oo, yy, rfl, _, _, _⟩ := Ints.at_ hi hjn
  have HI := Lib.hid hi
  have HXF := Lib.hid (DF.out.found x' (List.mem_of_getElem? hx))
  have hw0 : IntKind.i64.wrap ((j : Int) + 1) = ((j + (0 + 1) : Nat) : Int) := by rw [IntKind.wrap_i64]; omega
  have hmn' : (m : Int) < bn := by omega
  clear hx hx' hj hpo hpd cp hres hi hxl hjx c0
  go_enter Tryz.func27, Tryz.ntmps27
  go_wp2_with first
    | (go_at_call 68; refine (spec_l11Place H3.out (hwb3.trans inferInstance) v).mono ?_; rw [HPD.out]; rintro e w2 ⟨rfl, L2⟩; have X2 := Later.trans (w := wb) inferInstance L2; have V2 : Later ((((w.alloc (.cells #[.slice sA0 sn0 sc0, .slice sA1 sn1 sc1, .slice sA2 sn2 sc2] 46)).alloc (.cells #[.slice qA0 qn0 qc0, .int .i64 f.Turn] 48)).alloc (.cells #[.int .i64 r.SignOn, .int .i64 r.SignOff, .int .i64 r.MaxDrive, .int .i64 r.MinBreak, .int .i64 r.PaidBreak, .int .i64 r.MaxLength] 51)).alloc (.cells #[] 65)) w2 := Later.trans inferInstance L2)
    | ((go_at_call 58; refine (spec_l12Asked H.out (hwb0.trans inferInstance) H2.out (hwb2.trans inferInstance) H3.out (hwb3.trans inferInstance) r).mono ?_; rintro e w1 ⟨rfl, L1⟩; have X1 := Later.trans (w := wb) inferInstance L1); have V1 : Later ((((w.alloc (.cells #[.slice sA0 sn0 sc0, .slice sA1 sn1 sc1, .slice sA2 sn2 sc2] 46)).alloc (.cells #[.slice qA0 qn0 qc0, .int .i64 f.Turn] 48)).alloc (.cells #[.int .i64 r.SignOn, .int .i64 r.SignOff, .int .i64 r.MaxDrive, .int .i64 r.MinBreak, .int .i64 r.PaidBreak, .int .i64 r.MaxLength] 51)).alloc (.cells #[] 65)) w1 := Later.trans inferInstance L1)
  clear c9
  go_loopw [12, 15] (fun ov i wr => ∃ e : Nat, j + e ≤ n1 ∧ i = .int .i64 ((j + (e + 1) : Nat) : Int) ∧ Hid (ORows wr (w.heap.size + 3) 65 ov (fromGo t r x' j e)) ∧ Later wb wr) (fun _ i _ => n1 + 1 - (intOf i).toNat)
  case atStart => exact ⟨0, by omega, by first | rfl | go_num, Lib.hid (ORows.of0 (ownsRow_later (by simpa using World.ownsRow_lit (base := w.heap.size + 3) (e := 65) (size := 1) (((w.alloc (.cells #[.slice sA0 sn0 sc0, .slice sA1 sn1 sc1, .slice sA2 sn2 sc2] 46)).alloc (.cells #[.slice qA0 qn0 qc0, .int .i64 f.Turn] 48)).alloc (.cells #[.int .i64 r.SignOn, .int .i64 r.SignOff, .int .i64 r.MaxDrive, .int .i64 r.MinBreak, .int .i64 r.PaidBreak, .int .i64 r.MaxLength] 51)) #[] 0 (by simp; try omega) (by simp [maxLen]) rfl) (inferInstance : Later ((((w.alloc (.cells #[.slice sA0 sn0 sc0, .slice sA1 sn1 sc1, .slice sA2 sn2 sc2] 46)).alloc (.cells #[.slice qA0 qn0 qc0, .int .i64 f.Turn] 48)).alloc (.cells #[.int .i64 r.SignOn, .int .i64 r.SignOff, .int .i64 r.MaxDrive, .int .i64 r.MinBreak, .int .i64 r.PaidBreak, .int .i64 r.MaxLength] 51)).alloc (.cells #[] 65)) _))), inferInstance⟩
  case round =>
    obtain ⟨e, he, rfl, hown, hX⟩ := hrel
    by_cases hlt : j + (e + 1) ≤ n1
    · have HS := Lib.hid (Sl.sub_ HI.out (show j + (e + 1) ≤ n1 by omega))
      obtain ⟨p, hp⟩ : ∃ p, p = (x'.drop j).take (e + 1) := ⟨_, rfl⟩
      rw [← hp] at HS
      have hpl0 : e + 1 = p.length := HS.out.len
      have HPP : Hid (0 < p.length) := by show _ < _; omega
      have HPF : Hid (FoundAll t p) := fun u hu => HXF.out u (by rw [hp] at hu; exact List.mem_of_mem_drop (List.mem_of_mem_take hu))
      have q1 := begP_bd DF.out.run.time HPP.out HPF.out
      have q2 := finP_bd DF.out.run.time HPP.out HPF.out
      have hw1 : IntKind.i64.wrap (finP t p - begP t p) = finP t p - begP t p := by rw [IntKind.wrap_i64]; omega
      have c1i : ((j + (e + 1) : Nat) : Int) ≤ (n1 : Int) := by omega
      have c2i : ((j + (e + 1) : Nat) : Int) ≤ (cc1 : Int) := by omega
      have c3i : (j : Int) ≤ ((j + (e + 1) : Nat) : Int) := by omega
      have hwe : IntKind.i64.wrap (((j + (e + 1) : Nat) : Int) + 1) = ((j + (e + 1 + 1) : Nat) : Int) := by rw [IntKind.wrap_i64]; omega
      have hle : (fromGo t r x' j e).length ≤ 1073741824 := by have := fromGo_len t r x' j e; omega
      have Hpl0 := Lib.hid hpl0
      clear q1 q2 hpl0
      by_cases cO : finP t p - begP t p ≤ r.MaxDrive
      · have HT : Hid (fromGo t r x' j (e + 1) = fromGo t r x' j e ++ [p]) := by show _ = _; subst hp; exact fromGo_yes cO
        clear hp
        go_wp2_with (go_at_call 69; refine (spec_l1Own HS.out inferInstance (by omega)).mono ?_; rintro e6 w6 ⟨A6, n6, c6, fp6, rfl, ho6, nd6, lo6, L6⟩; have X6 := Later.trans (w := wb) inferInstance L6; have Z6 := Later.trans (w := wr) inferInstance L6)
        go_region_held3 (fun w' => Later wb w' ∧ Later wr w' ∧ Later w6 w') (exact ⟨inferInstance, inferInstance, inferInstance⟩) (first
          | (go_at_call 71; refine (spec_l12Start H.out (hwb0.trans inferInstance) DF.out.run.time ho6.reads inferInstance HPP.out HPF.out).mono ?_; rintro e w7 ⟨rfl, L7⟩; have X7 := Later.trans (w := wb) inferInstance L7; have Z7 := Later.trans (w := wr) inferInstance L7; have V7 := Later.trans (w := w6) inferInstance L7)
          | (go_at_call 70; refine (spec_l12End H.out (hwb0.trans inferInstance) DF.out.run.time ho6.reads inferInstance HPP.out HPF.out).mono ?_; rintro e w8 ⟨rfl, L8⟩; have X8 := Later.trans (w := wb) inferInstance L8; have Z8 := Later.trans (w := wr) inferInstance L8; have V8 := Later.trans (w := w6) inferInstance L8))
        clear hw1
        go_wp2_with (at_builtin; refine wpList_app_R rfl _ _ 29 rfl Tryz.underlying29 infoRow (by decide) (w0 := wb) (w1 := wr) rfl hown.out inferInstance inferInstance hbs (Nat.le_trans hbs2 hX.size) (ho6.later inferInstance) nd6 lo6 rfl hle ?_; intro v' w9 hown' hX9)
        go_roundw
        case rel => exact ⟨e + 1, by omega, by first | rfl | go_num, by show ORows _ _ _ _ _; rw [HT.out]; exact hown', inferInstance⟩
        case measure => simp [intOf]; omega
      · have HT : Hid (fromGo t r x' j (e + 1) = fromGo t r x' j e) := by show _ = _; subst hp; exact fromGo_no cO
        clear hp
        go_wp2_with (go_at_call 69; refine (spec_l1Own HS.out inferInstance (by omega)).mono ?_; rintro e6 w6 ⟨A6, n6, c6, fp6, rfl, ho6, nd6, lo6, L6⟩; have X6 := Later.trans (w := wb) inferInstance L6; have Z6 := Later.trans (w := wr) inferInstance L6)
        go_region_held3 (fun w' => Later wb w' ∧ Later wr w' ∧ Later w6 w') (exact ⟨inferInstance, inferInstance, inferInstance⟩) (first
          | (go_at_call 71; refine (spec_l12Start H.out (hwb0.trans inferInstance) DF.out.run.time ho6.reads inferInstance HPP.out HPF.out).mono ?_; rintro e w7 ⟨rfl, L7⟩; have X7 := Later.trans (w := wb) inferInstance L7; have Z7 := Later.trans (w := wr) inferInstance L7; have V7 := Later.trans (w := w6) inferInstance L7)
          | (go_at_call 70; refine (spec_l12End H.out (hwb0.trans inferInstance) DF.out.run.time ho6.reads inferInstance HPP.out HPF.out).mono ?_; rintro e w8 ⟨rfl, L8⟩; have X8 := Later.trans (w := wb) inferInstance L8; have Z8 := Later.trans (w := wr) inferInstance L8; have V8 := Later.trans (w := w6) inferInstance L8))
        clear hw1
        go_wp2_with fail
        go_roundw
        case rel => exact ⟨e + 1, by omega, by first | rfl | go_num, by show ORows _ _ _ _ _; rw [HT.out]; exact hown.out.later inferInstance, inferInstance⟩
        case measure => simp [intOf]; omega
    · have he : e = x'.length - j := by have := Hxl.out; omega
      have hno : ¬ (((j + (e + 1) : Nat) : Int) ≤ (n1 : Int)) := by omega
      rw [he] at hown
      clear he
      go_wp2
      go_ret2
      obtain ⟨A, c, fp, rfl, ho, hnd, hlo⟩ := hown.out.shut
      exact ⟨A, _, c, fp, rfl, ho, hnd, fun g hg => by have := hlo g hg; omega, hww.trans inferInstance⟩
end Go.Proofs.YthibhehnakikpaaGreat
