/-
 Cutting: the pieces of a cut (CutPieces).
-/
import Derived.Test.YtknhebakebmlcaaGreatDa
import Derived.Test.YtknhebakebmlcaaGreatORow
import Derived.Test.YtknhebakebmlcaaGreatDb
import Derived.Test.YtknhebakebmlcaaGreatPcsSum
namespace Go.Proofs.YtknhebakebmlcaaGreat
open Go Go.RowKit
set_option linter.unusedVariables false
set_option maxRecDepth 100000
def cutBit (t : Timetable) (cut v : Int) : Bool := decide (bits .and .i64 (cut / 2 ^ (findI t v).toNat) 1 = 1)
def okCut (t : Timetable) (bs : List (List Int)) (cut : Int) : Bool := inB cut 0 (2 ^ t.Trips.length - 1) && bs.all fun b => !cutBit t cut (lastI b)
def cutGo (t : Timetable) (cut : Int) : List Int → List Int → List (List Int)
 | _, [] => []
 | acc, v :: l => if l = [] ∨ cutBit t cut v = true then (acc ++ [v]) :: cutGo t cut [] l else cutGo t cut (acc ++ [v]) l
def cutRow (t : Timetable) (cut : Int) (x : List Int) : List (List Int) := cutGo t cut [] x
def cutAll (t : Timetable) (cut : Int) (bs : List (List Int)) : List (List Int) := bs.flatMap (cutRow t cut)
theorem pow_bd {n : Nat} (h : n ≤ 8) : 1 ≤ (2 : Int) ^ n ∧ (2 : Int) ^ n ≤ 256 := by
 have : ∀ m : Fin 9, 1 ≤ (2 : Int) ^ m.val ∧ (2 : Int) ^ m.val ≤ 256 := by decide
 exact this ⟨n, by omega⟩
theorem cutGo_sum (t : Timetable) (cut : Int) (l : List Int) : ∀ acc, (cutGo t cut acc l).length ≤ l.length ∧ sumLen (cutGo t cut acc l) ≤ acc.length + l.length := by
 induction l with
 | nil => intro acc; simp [cutGo, sumLen]
 | cons v l ih =>
  intro acc
  simp only [cutGo]
  split
  ·have := ih []
   simp only [List.length_cons, sumLen, List.length_append, List.length_nil] at this ⊢
   omega
  ·have := ih (acc ++ [v])
   simp only [List.length_append, List.length_cons, List.length_nil] at this ⊢
   omega
theorem cutAll_sum (t : Timetable) (cut : Int) (bs : List (List Int)) : (cutAll t cut bs).length ≤ bs.flatten.length ∧ sumLen (cutAll t cut bs) ≤ bs.flatten.length := by
 induction bs with
 | nil => simp [cutAll, sumLen]
 | cons x l ih =>
  have := cutGo_sum t cut x []
  simp only [cutAll, List.flatMap_cons, List.length_append, sumLen_append, List.flatten_cons, cutRow] at *
  simp only [List.length_nil] at this
  omega
theorem flat12 {t : Timetable} {f : Fleet} {bs : List (List Int)} (h : okBlocks t f bs = true) : bs.flatten.length ≤ 12 := by
 have h1 := h
 simp only [okBlocks, Bool.and_eq_true] at h1
 have h2 := h1.2
 unfold okBlk at h2
 split at h2
 ·cases h2
 ·rename_i s hs
  have h3 : s.length = bs.flatten.length := by have := blkGo_len hs; simpa using this
  have h4 := (runFacts h1.1).time.len
  have h5 : s.length = t.Trips.length := by simpa using h2
  omega
theorem cutAll_snoc {t : Timetable} {cut : Int} {bs : List (List Int)} {k : Nat} {x : List Int} (hx : bs[k]? = some x) : cutAll t cut (bs.take (k + 1)) = cutAll t cut (bs.take k) ++ cutRow t cut x := by
 unfold cutAll
 rw [take_succ_at hx]
 simp
theorem cutGo_cut {t : Timetable} {cut v : Int} {acc l : List Int} (h : l = [] ∨ cutBit t cut v = true) : cutGo t cut acc (v :: l) = (acc ++ [v]) :: cutGo t cut [] l := by simp only [cutGo]; rw [if_pos h]
theorem cutGo_on {t : Timetable} {cut v : Int} {acc l : List Int} (h1 : l ≠ []) (h2 : cutBit t cut v = false) : cutGo t cut acc (v :: l) = cutGo t cut (acc ++ [v]) l := by
 simp only [cutGo]
 rw [if_neg]
 rintro (h | h)
 ·exact h1 h
 ·rw [h2] at h; cases h
theorem cutBit_at {t : Timetable} {cut v : Int} {i : Nat} (h : findI t v = i) : cutBit t cut v = (bits .and .i64 (cut / 2 ^ i) 1 == 1) := by
 unfold cutBit
 rw [h, Int.toNat_natCast, Bool.eq_iff_iff]
 simp
set_option maxHeartbeats 1000000 in
theorem impl_isCut {w0 w : World} {sA0 : Option Addr} {sn0 sc0 : Nat} {sA1 : Option Addr} {sn1 sc1 : Nat} {sA2 : Option Addr} {sn2 sc2 : Nat} {t : Timetable} (h : TimetableAt w0 sA0 sn0 sc0 sA1 sn1 sc1 sA2 sn2 sc2 t) (hl : Later w0 w) {f : Fleet} {w3 : World} {bA : Option Addr} {bn bc : Nat} {bs : List (List Int)} (h3 : Sl 1 (rSl 1 rInt) w3 bA bn bc bs) (hl3 : Later w3 w) (df : DeadFacts t f bs) (h8 : t.Trips.length ≤ 8) (cut : Int) :
  Calls Tryz.prog 71 #[.agg #[.slice sA0 sn0 sc0, .slice sA1 sn1 sc1, .slice sA2 sn2 sc2], .slice bA bn bc, .int .i64 cut] w (Ret (.bool (okCut t bs cut)) w) := by
 have hB := h3.later hl3
 have hT := h.l_Trips.later hl
 have HB0 : ∀ W [Later (w.alloc (.cells #[.slice sA0 sn0 sc0, .slice sA1 sn1 sc1, .slice sA2 sn2 sc2] 44)) W] (j : Nat), W.cell? ⟨w.heap.size, j, none⟩ = #[.slice sA0 sn0 sc0, .slice sA1 sn1 sc1, .slice sA2 sn2 sc2][j]? := Later.boxes (t := 44) (fr := (0, 0)) (heap_new (by simp; try omega)); obtain ⟨wb, hwb⟩ : ∃ wb : World, wb = (w.alloc (.cells #[.slice sA0 sn0 sc0, .slice sA1 sn1 sc1, .slice sA2 sn2 sc2] 44)) := ⟨_, rfl⟩; haveI hbW : Later wb (w.alloc (.cells #[.slice sA0 sn0 sc0, .slice sA1 sn1 sc1, .slice sA2 sn2 sc2] 44)) := (by rw [hwb]; exact Later.rfl_); haveI hww : Later w wb := (by rw [hwb]; infer_instance); rw [← hwb] at HB0; have hbE := Lib.hid (congrArg (fun x : World => x.heap.size) hwb); clear hwb
 have hwb0 := hl.trans hww
 have H := Lib.hid h
 clear h
 replace hB := hB.later hww
 replace hT := hT.later hww
 have hbl := hB.le
 have Hbl := Lib.hid hB.len
 have hsl := hT.le
 have Htl := Lib.hid hT.len
 have DF := Lib.hid df
 have H8 := Lib.hid h8
 clear h3 df h8 hT
 have hp := pow_bd H8.out
 rw [← Htl.out] at hp
 have hsh : IntKind.i64.wrap ((2 : Int) ^ sn2) = 2 ^ sn2 := by rw [IntKind.wrap_i64]; omega
 have hs0 : (0 : Int) ≤ (sn2 : Int) := by omega
 have hs64 : (sn2 : Int) ≤ 64 := by have := H8.out; have := Htl.out; omega
 have HOC : Hid (okCut t bs cut = (inB cut 0 (2 ^ sn2 - 1) && bs.all fun b => !cutBit t cut (lastI b))) := by show _ = _; unfold okCut; rw [Htl.out]
 by_cases c1 : cut < 0
 ·have HR : Hid (okCut t bs cut = false) := by show _ = _; rw [HOC.out, show inB cut 0 (2 ^ sn2 - 1) = false from by simp [inB]; omega]; rfl
  go_enter Tryz.func71, Tryz.ntmps71
  go_wp2
  go_ret
  exact ⟨ret_bool HR.out.symm, hww.trans inferInstance⟩
 by_cases c2 : (2 : Int) ^ sn2 ≤ cut
 ·have HR : Hid (okCut t bs cut = false) := by show _ = _; rw [HOC.out, show inB cut 0 (2 ^ sn2 - 1) = false from by simp [inB]; omega]; rfl
  go_enter Tryz.func71, Tryz.ntmps71
  go_wp2
  go_ret
  exact ⟨ret_bool HR.out.symm, hww.trans inferInstance⟩
 have HO2 : Hid (okCut t bs cut = bs.all fun b => !cutBit t cut (lastI b)) := by show _ = _; rw [HOC.out, show inB cut 0 (2 ^ sn2 - 1) = true from by simp [inB]; omega]; rfl
 clear HOC
 go_enter Tryz.func71, Tryz.ntmps71
 go_wp2_with fail
 go_loopw [21] (fun i wr => ∃ k : Nat, k ≤ bn ∧ i = .int .i64 k ∧ Hid ((bs.take k).all (fun b => !cutBit t cut (lastI b)) = true) ∧ Later wb wr) (fun i _ => bn - (intOf i).toNat)
 case atStart => exact ⟨0, by omega, rfl, rfl, inferInstance⟩
 case round =>
  obtain ⟨k, hk, rfl, HV, hX⟩ := hrel
  by_cases hlt : k < bn
  ·obtain ⟨b, o, A1, n1, c1', x, rfl, hx, hc0, hi⟩ := Sl.row_ hB hlt
   have hn1 := hi.le
   have hxl := hi.len
   have hxp := DF.out.pos k x hx.out
   have hxf := DF.out.found x (List.mem_of_getElem? hx.out)
   obtain ⟨m, rfl⟩ : ∃ m : Nat, n1 = m + 1 := ⟨n1 - 1, by omega⟩
   obtain ⟨b1, o1, v, rfl, hv, hcv, _⟩ := Ints.at_ hi (show m < m + 1 by omega)
   have e2 : lastI x = v := lastI_of hxl hv.out
   have fv := hxf v (List.mem_of_getElem? hv.out)
   have hwm : IntKind.i64.wrap (((m + 1 : Nat) : Int) - 1) = (m : Int) := by rw [IntKind.wrap_i64]; omega
   have hwm2 : IntKind.i64.wrap ((m : Int) + 1 - 1) = (m : Int) := by rw [IntKind.wrap_i64]; omega
   have hwm3 : IntKind.i64.wrap (m : Int) = (m : Int) := by rw [IntKind.wrap_i64]; omega
   have hm1 : (m : Int) < (m : Int) + 1 := by omega
   have hvi := findI_bd t v
   obtain ⟨i, hfi⟩ := Int.eq_ofNat_of_zero_le fv
   have hi64 : (i : Int) ≤ 64 := by have := H8.out; omega
   have hi0 : (0 : Int) ≤ (i : Int) := by omega
   have hbit := cutBit_at (cut := cut) hfi
   have HI := Lib.hid hfi
   have hui : IntKind.u64.wrap (i : Int) = (i : Int) := by rw [IntKind.wrap_u64]; omega
   clear hvi hfi fv
   clear hi hxl hxp hxf hv
   by_cases cB : cutBit t cut v = true
   ·rw [cB] at hbit
    have hbit2 := hbit.symm
    have hbit3 : bits .and .i64 (cut / 2 ^ i) 1 = 1 := by simpa using hbit2
    have HR : Hid (okCut t bs cut = false) := by show _ = _; rw [HO2.out]; exact all_not' hx.out (by rw [e2, cB]; rfl)
    clear cB hbit hx HV e2
    go_wp2_with fail
    go_region_held3 (fun w' => Later wb w' ∧ Later wr w') (exact ⟨inferInstance, inferInstance⟩) (first | (go_at_call 33; refine (impl_tripIndex H.out (hwb0.trans inferInstance) v).mono ?_; rw [HI.out]; rintro e w6 ⟨rfl, L6⟩; have X6 := Later.trans (w := wb) inferInstance L6; have Z6 := Later.trans (w := wr) inferInstance L6))
    clear hwm hwm2 hwm3
    go_wp2
    go_ret
    exact ⟨ret_bool HR.out.symm, hww.trans inferInstance⟩
   ·have cB' : cutBit t cut v = false := by simpa using cB
    rw [cB'] at hbit
    have hbit2 := hbit.symm
    have hbit3 : ¬ bits .and .i64 (cut / 2 ^ i) 1 = 1 := by simpa using hbit2
    have HV2 := Lib.hid (all_snoc' (p := fun b => !cutBit t cut (lastI b)) hx.out HV.out (by show (!cutBit t cut (lastI x)) = true; rw [e2, cB']; rfl))
    clear cB cB' hbit hx HV e2
    go_wp2_with fail
    go_region_held3 (fun w' => Later wb w' ∧ Later wr w') (exact ⟨inferInstance, inferInstance⟩) (first | (go_at_call 33; refine (impl_tripIndex H.out (hwb0.trans inferInstance) v).mono ?_; rw [HI.out]; rintro e w6 ⟨rfl, L6⟩; have X6 := Later.trans (w := wb) inferInstance L6; have Z6 := Later.trans (w := wr) inferInstance L6))
    clear hwm hwm2 hwm3
    go_wp2
    go_roundw
    case rel => exact ⟨k + 1, by omega, by go_num, HV2, inferInstance⟩
    case measure => simp [intOf]; omega
  ·have HR : Hid (okCut t bs cut = true) := by show _ = _; rw [HO2.out, ← HV.out, List.take_of_length_le (by have := Hbl.out; omega)]
   clear HV
   go_wp2
   go_ret
   exact ⟨ret_bool HR.out.symm, hww.trans inferInstance⟩
set_option maxHeartbeats 1000000 in
theorem spec_l13Cut {w0 w : World} {sA0 : Option Addr} {sn0 sc0 : Nat} {sA1 : Option Addr} {sn1 sc1 : Nat} {sA2 : Option Addr} {sn2 sc2 : Nat} {t : Timetable} (h : TimetableAt w0 sA0 sn0 sc0 sA1 sn1 sc1 sA2 sn2 sc2 t) (hl : Later w0 w) {f : Fleet} {w3 : World} {bA : Option Addr} {bn bc : Nat} {bs : List (List Int)} (h3 : Sl 1 (rSl 1 rInt) w3 bA bn bc bs) (hl3 : Later w3 w) (df : DeadFacts t f bs) (h8 : t.Trips.length ≤ 8) (cut : Int) :
  Calls Tryz.prog 63 #[.agg #[.slice sA0 sn0 sc0, .slice sA1 sn1 sc1, .slice sA2 sn2 sc2], .slice bA bn bc, .int .i64 cut] w (Ret (.bool (okCut t bs cut)) w) := by
 have hB := h3.later hl3
 have hT := h.l_Trips.later hl
 have HB0 : ∀ W [Later (w.alloc (.cells #[.slice sA0 sn0 sc0, .slice sA1 sn1 sc1, .slice sA2 sn2 sc2] 44)) W] (j : Nat), W.cell? ⟨w.heap.size, j, none⟩ = #[.slice sA0 sn0 sc0, .slice sA1 sn1 sc1, .slice sA2 sn2 sc2][j]? := Later.boxes (t := 44) (fr := (0, 0)) (heap_new (by simp; try omega)); obtain ⟨wb, hwb⟩ : ∃ wb : World, wb = (w.alloc (.cells #[.slice sA0 sn0 sc0, .slice sA1 sn1 sc1, .slice sA2 sn2 sc2] 44)) := ⟨_, rfl⟩; haveI hbW : Later wb (w.alloc (.cells #[.slice sA0 sn0 sc0, .slice sA1 sn1 sc1, .slice sA2 sn2 sc2] 44)) := (by rw [hwb]; exact Later.rfl_); haveI hww : Later w wb := (by rw [hwb]; infer_instance); rw [← hwb] at HB0; have hbE := Lib.hid (congrArg (fun x : World => x.heap.size) hwb); clear hwb
 have hwb0 := hl.trans hww
 have H := Lib.hid h
 clear h
 replace hB := hB.later hww
 replace hT := hT.later hww
 have hbl := hB.le
 have Hbl := Lib.hid hB.len
 have hsl := hT.le
 have Htl := Lib.hid hT.len
 have DF := Lib.hid df
 have H8 := Lib.hid h8
 clear h3 df h8 hT
 have hp := pow_bd H8.out
 rw [← Htl.out] at hp
 have hsh : IntKind.i64.wrap ((2 : Int) ^ sn2) = 2 ^ sn2 := by rw [IntKind.wrap_i64]; omega
 have hsh2 : IntKind.i64.wrap ((2 : Int) ^ sn2 - 1) = 2 ^ sn2 - 1 := by rw [IntKind.wrap_i64]; omega
 have hs0 : (0 : Int) ≤ (sn2 : Int) := by omega
 have hs64 : (sn2 : Int) ≤ 64 := by have := H8.out; have := Htl.out; omega
 have hus : IntKind.u64.wrap (sn2 : Int) = (sn2 : Int) := by rw [IntKind.wrap_u64]; omega
 have HOC : Hid (okCut t bs cut = (inB cut 0 (2 ^ sn2 - 1) && bs.all fun b => !cutBit t cut (lastI b))) := by show _ = _; unfold okCut; rw [Htl.out]
 by_cases c1 : inB cut 0 (2 ^ sn2 - 1) = true
 rotate_left
 ·have c2 : inB cut 0 (2 ^ sn2 - 1) = false := by simpa using c1
  have HR : Hid (okCut t bs cut = false) := by show _ = _; rw [HOC.out, c2]; rfl
  clear c1 HOC
  go_enter Tryz.func63, Tryz.ntmps63
  go_wp2_with (go_at_call 87; refine (spec_l1In _ _ _ _).mono ?_; rintro e w' ⟨rfl, rfl⟩)
  go_ret
  exact ⟨ret_bool HR.out.symm, hww.trans inferInstance⟩
 have HO2 : Hid (okCut t bs cut = bs.all fun b => !cutBit t cut (lastI b)) := by show _ = _; rw [HOC.out, c1]; rfl
 clear HOC
 go_enter Tryz.func63, Tryz.ntmps63
 go_wp2_with (go_at_call 87; refine (spec_l1In _ _ _ _).mono ?_; rintro e w' ⟨rfl, rfl⟩)
 clear c1
 go_loopw [7] (fun i wr => ∃ k : Nat, k ≤ bn ∧ i = .int .i64 k ∧ Hid ((bs.take k).all (fun b => !cutBit t cut (lastI b)) = true) ∧ Later wb wr) (fun i _ => bn - (intOf i).toNat)
 case atStart => exact ⟨0, by omega, rfl, rfl, inferInstance⟩
 case round =>
  obtain ⟨k, hk, rfl, HV, hX⟩ := hrel
  by_cases hlt : k < bn
  ·obtain ⟨b, o, A1, n1, c1', x, rfl, hx, hc0, hi⟩ := Sl.row_ hB hlt
   have hn1 := hi.le
   have hxl := hi.len
   have hxp := DF.out.pos k x hx.out
   have hxf := DF.out.found x (List.mem_of_getElem? hx.out)
   obtain ⟨m, rfl⟩ : ∃ m : Nat, n1 = m + 1 := ⟨n1 - 1, by omega⟩
   obtain ⟨b1, o1, v, rfl, hv, hcv, _⟩ := Ints.at_ hi (show m < m + 1 by omega)
   have e2 : lastI x = v := lastI_of hxl hv.out
   have fv := hxf v (List.mem_of_getElem? hv.out)
   have hwm : IntKind.i64.wrap (((m + 1 : Nat) : Int) - 1) = (m : Int) := by rw [IntKind.wrap_i64]; omega
   have hwm2 : IntKind.i64.wrap ((m : Int) + 1 - 1) = (m : Int) := by rw [IntKind.wrap_i64]; omega
   have hwm3 : IntKind.i64.wrap (m : Int) = (m : Int) := by rw [IntKind.wrap_i64]; omega
   have hm1 : (m : Int) < (m : Int) + 1 := by omega
   have hvi := findI_bd t v
   obtain ⟨i, hfi⟩ := Int.eq_ofNat_of_zero_le fv
   have hi64 : (i : Int) ≤ 64 := by have := H8.out; omega
   have hi0 : (0 : Int) ≤ (i : Int) := by omega
   have hbit := cutBit_at (cut := cut) hfi
   have HI := Lib.hid hfi
   have hui : IntKind.u64.wrap (i : Int) = (i : Int) := by rw [IntKind.wrap_u64]; omega
   clear hvi hfi fv
   clear hi hxl hxp hxf hv
   by_cases cB : cutBit t cut v = true
   ·rw [cB] at hbit
    have hbit2 := hbit.symm
    have hbit3 : bits .and .i64 (cut / 2 ^ i) 1 = 1 := by simpa using hbit2
    have HR : Hid (okCut t bs cut = false) := by show _ = _; rw [HO2.out]; exact all_not' hx.out (by rw [e2, cB]; rfl)
    clear cB hbit hx HV e2
    go_wp2_with fail
    go_region_held3 (fun w' => Later wb w' ∧ Later wr w') (exact ⟨inferInstance, inferInstance⟩) (first | (go_at_call 28; refine (spec_l5Find H.out (hwb0.trans inferInstance) v).mono ?_; rw [HI.out]; rintro e w6 ⟨rfl, L6⟩; have X6 := Later.trans (w := wb) inferInstance L6; have Z6 := Later.trans (w := wr) inferInstance L6))
    clear hwm hwm2 hwm3
    go_wp2
    go_ret
    exact ⟨ret_bool HR.out.symm, hww.trans inferInstance⟩
   ·have cB' : cutBit t cut v = false := by simpa using cB
    rw [cB'] at hbit
    have hbit2 := hbit.symm
    have hbit3 : ¬ bits .and .i64 (cut / 2 ^ i) 1 = 1 := by simpa using hbit2
    have HV2 := Lib.hid (all_snoc' (p := fun b => !cutBit t cut (lastI b)) hx.out HV.out (by show (!cutBit t cut (lastI x)) = true; rw [e2, cB']; rfl))
    clear cB cB' hbit hx HV e2
    go_wp2_with fail
    go_region_held3 (fun w' => Later wb w' ∧ Later wr w') (exact ⟨inferInstance, inferInstance⟩) (first | (go_at_call 28; refine (spec_l5Find H.out (hwb0.trans inferInstance) v).mono ?_; rw [HI.out]; rintro e w6 ⟨rfl, L6⟩; have X6 := Later.trans (w := wb) inferInstance L6; have Z6 := Later.trans (w := wr) inferInstance L6))
    clear hwm hwm2 hwm3
    go_wp2
    go_roundw
    case rel => exact ⟨k + 1, by omega, by go_num, HV2, inferInstance⟩
    case measure => simp [intOf]; omega
  ·have HR : Hid (okCut t bs cut = true) := by show _ = _; rw [HO2.out, ← HV.out, List.take_of_length_le (by have := Hbl.out; omega)]
   clear HV
   go_wp2
   go_ret
   exact ⟨ret_bool HR.out.symm, hww.trans inferInstance⟩
set_option maxHeartbeats 2000000 in
theorem impl_cutPieces {w0 w : World} {sA0 : Option Addr} {sn0 sc0 : Nat} {sA1 : Option Addr} {sn1 sc1 : Nat} {sA2 : Option Addr} {sn2 sc2 : Nat} {t : Timetable} (h : TimetableAt w0 sA0 sn0 sc0 sA1 sn1 sc1 sA2 sn2 sc2 t) (hl : Later w0 w) {f : Fleet} {w3 : World} {bA : Option Addr} {bn bc : Nat} {bs : List (List Int)} (h3 : Sl 1 (rSl 1 rInt) w3 bA bn bc bs) (hl3 : Later w3 w) (df : DeadFacts t f bs) (h8 : t.Trips.length ≤ 8) (cut : Int) (h12 : bs.flatten.length ≤ 12) :
  Calls Tryz.prog 73 #[.agg #[.slice sA0 sn0 sc0, .slice sA1 sn1 sc1, .slice sA2 sn2 sc2], .slice bA bn bc, .int .i64 cut] w (RetO 1 (oSl 1 oInt) (cutAll t cut bs) w) := by
 have hB := h3.later hl3
 have hT := h.l_Trips.later hl
 have HB0 : ∀ W [Later (w.alloc (.cells #[.slice sA0 sn0 sc0, .slice sA1 sn1 sc1, .slice sA2 sn2 sc2] 44)) W] (j : Nat), W.cell? ⟨w.heap.size, j, none⟩ = #[.slice sA0 sn0 sc0, .slice sA1 sn1 sc1, .slice sA2 sn2 sc2][j]? := Later.boxes (t := 44) (fr := (0, 0)) (heap_new (by simp; try omega)); obtain ⟨wb, hwb⟩ : ∃ wb : World, wb = (w.alloc (.cells #[.slice sA0 sn0 sc0, .slice sA1 sn1 sc1, .slice sA2 sn2 sc2] 44)) := ⟨_, rfl⟩; haveI hbW : Later wb (w.alloc (.cells #[.slice sA0 sn0 sc0, .slice sA1 sn1 sc1, .slice sA2 sn2 sc2] 44)) := (by rw [hwb]; exact Later.rfl_); haveI hww : Later w wb := (by rw [hwb]; infer_instance); rw [← hwb] at HB0; have hbE := Lib.hid (congrArg (fun x : World => x.heap.size) hwb); clear hwb
 have hwb0 := hl.trans hww
 have H := Lib.hid h
 clear h
 replace hB := hB.later hww
 replace hT := hT.later hww
 have hbl := hB.le
 have Hbl := Lib.hid hB.len
 have hsl := hT.le
 have Htl := Lib.hid hT.len
 have DF := Lib.hid df
 have H8 := Lib.hid h8
 have hbs : wb.heap.size ≤ w.heap.size + 1 := by have := hbE.out; simp at this; omega
 have hbs2 : w.heap.size + 1 ≤ wb.heap.size := by have := hbE.out; simp at this; omega
 have H12 := Lib.hid h12
 clear h3 df h8 hT h12
 go_enter Tryz.func73, Tryz.ntmps73
 go_wp2_with fail
 go_loopw [7, 15] (fun ov i wr => ∃ k : Nat, k ≤ bn ∧ i = .int .i64 k ∧ Hid (ORows wr (w.heap.size + 1) 66 ov (cutAll t cut (bs.take k))) ∧ Later wb wr) (fun _ i _ => bn - (intOf i).toNat)
 case atStart => exact ⟨0, by omega, rfl, Lib.hid (by simpa [cutAll] using ORows.nil_ _ _ _), inferInstance⟩
 case round =>
  obtain ⟨k, hk, rfl, hown, hX⟩ := hrel
  by_cases hlt : k < bn
  ·obtain ⟨b, o, A1, n1, c1', x, rfl, hx, hc0, hi⟩ := Sl.row_ hB hlt
   have hn1 := hi.le
   have hcap := hi.cap
   have Hxl := Lib.hid hi.len
   have HXF := Lib.hid (DF.out.found x (List.mem_of_getElem? hx.out))
   have hxp := DF.out.pos k x hx.out
   have hn1p : 0 < n1 := by rw [hi.len]; exact hxp
   have HCS := Lib.hid (cutAll_snoc (t := t) (cut := cut) hx.out)
   have hx12 : x.length ≤ 12 := by have := len_flat (List.mem_of_getElem? hx.out); have := H12.out; omega
   have hkl : (cutAll t cut (bs.take k)).length ≤ 12 := by have h5 := (cutAll_sum t cut (bs.take k)).1; have h6 := flat_take_le' bs k; have := H12.out; omega
   clear hxp
   have hwn : IntKind.i64.wrap ((n1 : Int) - 1) = (n1 : Int) - 1 := by rw [IntKind.wrap_i64]; omega
   have hn12 : n1 ≤ 12 := by rw [hi.len]; exact hx12
   have Hx12 := Lib.hid hx12
   have Hkl := Lib.hid hkl
   obtain ⟨b0, o0, y0, rfl, _, _, _⟩ := Ints.at_ hi hn1p
   clear hx hx12 hkl
   go_wp2_with fail
   go_loopw [7, 10, 21] (fun ov fo i ws => ∃ (j fr : Nat) (done : List (List Int)), fr ≤ j ∧ j ≤ n1 ∧ i = .int .i64 j ∧ fo = .int .i64 fr ∧ done.length ≤ j ∧ Hid (done ++ cutGo t cut ((x.drop fr).take (j - fr)) (x.drop j) = cutRow t cut x) ∧ Hid (ORows ws (w.heap.size + 1) 66 ov (cutAll t cut (bs.take k) ++ done)) ∧ Later wb ws) (fun _ _ i _ => n1 - (intOf i).toNat)
   case atStart => exact ⟨0, 0, [], by omega, by omega, rfl, rfl, by simp, by show _ = _; simp [cutRow], by show ORows _ _ _ _ _; rw [List.append_nil]; exact hown.out.later inferInstance, inferInstance⟩
   case round =>
    obtain ⟨j, fr, done, hfj, hjn, rfl, rfl, hdl, HG, hown2, hY⟩ := hrel
    by_cases hjt : j < n1
    ·obtain ⟨b4, o4, v, hA4, hv, hcv, _⟩ := Ints.at_ hi hjt
     cases hA4
     have fv := HXF.out v (List.mem_of_getElem? hv.out)
     have HD := Lib.hid (drop_at hv.out)
     have HPC : Hid ((x.drop fr).take (j - fr) ++ [v] = (x.drop fr).take (j + 1 - fr)) := by
      show _ = _
      rw [show j + 1 - fr = (j - fr) + 1 by omega, take_succ_at (show (x.drop fr)[j - fr]? = some v by rw [List.getElem?_drop, show fr + (j - fr) = j by omega]; exact hv.out)]
     have hvi := findI_bd t v
     obtain ⟨i, hfi⟩ := Int.eq_ofNat_of_zero_le fv
     have hi64 : (i : Int) ≤ 64 := by have := H8.out; omega
     have hi0 : (0 : Int) ≤ (i : Int) := by omega
     have hbit := cutBit_at (cut := cut) hfi
     have HI := Lib.hid hfi
     have hui : IntKind.u64.wrap (i : Int) = (i : Int) := by rw [IntKind.wrap_u64]; omega
     clear hvi hfi fv
     clear hv
     by_cases cE : x.drop (j + 1) = [] ∨ cutBit t cut v = true
     ·have HG2 : Hid ((done ++ [(x.drop fr).take (j + 1 - fr)]) ++ cutGo t cut ((x.drop (j + 1)).take (j + 1 - (j + 1))) (x.drop (j + 1)) = cutRow t cut x) := by
       show _ = _
       rw [← HG.out, HD.out, cutGo_cut cE, HPC.out, Nat.sub_self, List.take_zero, List.append_assoc]
       rfl
      have HS := Lib.hid (Sl.sub_ hi (show fr + (j + 1 - fr) ≤ n1 by omega))
      have hlen : (cutAll t cut (bs.take k) ++ done).length ≤ 1073741824 := by rw [List.length_append]; have := Hkl.out; have := Hx12.out; have := Hxl.out; omega
      have hwj : IntKind.i64.wrap ((j : Int) + 1) = ((j + 1 : Nat) : Int) := by rw [IntKind.wrap_i64]; omega
      have c1i : ((j + 1 : Nat) : Int) ≤ (n1 : Int) := by omega
      have c2i : ((j + 1 : Nat) : Int) ≤ (c1' : Int) := by omega
      have c3i : (fr : Int) ≤ ((j + 1 : Nat) : Int) := by omega
      have hsub : (((j + 1 : Nat) : Int) - (fr : Int)).toNat = j + 1 - fr := by omega
      have hdl2 : (done ++ [(x.drop fr).take (j + 1 - fr)]).length ≤ j + 1 := by simp; omega
      clear HG hdl
      by_cases cL : j + 1 = n1
      ·have hj2 := (beqi_t (show (j : Int) = (n1 : Int) - 1 by omega)).1
       have CL := Lib.hid cL
       clear cE hbit cL
       go_wp2_with first
        | (go_at_call 33; refine (impl_tripIndex H.out (hwb0.trans inferInstance) v).mono ?_; rw [HI.out]; rintro e w6 ⟨rfl, L6⟩; have X6 := Later.trans (w := wb) inferInstance L6; have Z6 := Later.trans (w := wr) inferInstance L6)
        | (go_at_call 98; refine (slices_CloneInts HS.out inferInstance (by omega)).mono ?_; rintro e7 w7 ⟨A7, n7, c7, fp7, rfl, ho7, nd7, lo7, L7⟩; have X7 := Later.trans (w := wb) inferInstance L7; have Z7 := Later.trans (w := wr) inferInstance L7)
        | (at_builtin; refine wpList_app_R rfl _ _ 29 rfl Tryz.underlying29 infoRow (by decide) (w0 := wb) (w1 := wr) rfl hown2.out inferInstance inferInstance hbs (Nat.le_trans hbs2 hY.size) (ho7.later inferInstance) nd7 (fun g hg => Nat.le_trans (Later.size (w := wr) inferInstance) (lo7 g hg)) rfl hlen ?_; intro v' w9 hown' hX9)
       go_roundw
       case rel => exact ⟨j + 1, j + 1, _, by omega, by omega, by go_num, by first | rfl | go_num, hdl2, HG2, by show ORows _ _ _ _ _; rw [← List.append_assoc]; exact hown', inferInstance⟩
       case measure => simp [intOf]; omega
      ·have hne : x.drop (j + 1) ≠ [] := by intro e; have := congrArg List.length e; simp at this; have := Hxl.out; omega
       have hbit2 : (bits .and .i64 (cut / 2 ^ i) 1 == 1) = true := by rw [← hbit]; exact cE.resolve_left hne
       have hbit3 : bits .and .i64 (cut / 2 ^ i) 1 = 1 := by simpa using hbit2
       have hj1 : ¬ ((j : Int) = (n1 : Int) - 1) := by omega
       have hj2 := (beqi_f hj1).1
       clear cE hbit hne
       go_wp2_with first
        | (go_at_call 33; refine (impl_tripIndex H.out (hwb0.trans inferInstance) v).mono ?_; rw [HI.out]; rintro e w6 ⟨rfl, L6⟩; have X6 := Later.trans (w := wb) inferInstance L6; have Z6 := Later.trans (w := wr) inferInstance L6)
        | (go_at_call 98; refine (slices_CloneInts HS.out inferInstance (by omega)).mono ?_; rintro e7 w7 ⟨A7, n7, c7, fp7, rfl, ho7, nd7, lo7, L7⟩; have X7 := Later.trans (w := wb) inferInstance L7; have Z7 := Later.trans (w := wr) inferInstance L7)
        | (at_builtin; refine wpList_app_R rfl _ _ 29 rfl Tryz.underlying29 infoRow (by decide) (w0 := wb) (w1 := wr) rfl hown2.out inferInstance inferInstance hbs (Nat.le_trans hbs2 hY.size) (ho7.later inferInstance) nd7 (fun g hg => Nat.le_trans (Later.size (w := wr) inferInstance) (lo7 g hg)) rfl hlen ?_; intro v' w9 hown' hX9)
       go_roundw
       case rel => exact ⟨j + 1, j + 1, _, by omega, by omega, by go_num, by first | rfl | go_num, hdl2, HG2, by show ORows _ _ _ _ _; rw [← List.append_assoc]; exact hown', inferInstance⟩
       case measure => simp [intOf]; omega
     ·have hne : x.drop (j + 1) ≠ [] := fun e => cE (.inl e)
      have cB' : cutBit t cut v = false := by
       cases hh : cutBit t cut v with
       | false => rfl
       | true => exact absurd (.inr hh) cE
      have HG2 : Hid (done ++ cutGo t cut ((x.drop fr).take (j + 1 - fr)) (x.drop (j + 1)) = cutRow t cut x) := by show _ = _; rw [← HG.out, HD.out, cutGo_on hne cB', HPC.out]
      have hbit2 : (bits .and .i64 (cut / 2 ^ i) 1 == 1) = false := by rw [← hbit]; exact cB'
      have hbit3 : ¬ bits .and .i64 (cut / 2 ^ i) 1 = 1 := by simpa using hbit2
      have hjl : j + 1 ≠ n1 := by intro e; apply hne; exact List.drop_eq_nil_of_le (by have := Hxl.out; omega)
      have hj1 : ¬ ((j : Int) = (n1 : Int) - 1) := by omega
      have hj2 := (beqi_f hj1).1
      clear cE hbit hne cB' HG hjl
      go_wp2_with first
       | (go_at_call 33; refine (impl_tripIndex H.out (hwb0.trans inferInstance) v).mono ?_; rw [HI.out]; rintro e w6 ⟨rfl, L6⟩; have X6 := Later.trans (w := wb) inferInstance L6; have Z6 := Later.trans (w := wr) inferInstance L6)
      go_roundw
      case rel => exact ⟨j + 1, fr, done, by omega, by omega, by go_num, rfl, by omega, HG2, hown2.out.later inferInstance, inferInstance⟩
      case measure => simp [intOf]; omega
    ·have hE : Hid (cutAll t cut (bs.take k) ++ done = cutAll t cut (bs.take (k + 1))) := by
      show _ = _
      have h5 := HG.out
      rw [(List.drop_eq_nil_of_le (by have := Hxl.out; omega) : x.drop j = [])] at h5
      rw [HCS.out, ← h5]
      simp [cutGo]
     rw [hE.out] at hown2
     clear HG hE
     go_wp2
     go_roundw
     case rel => exact ⟨k + 1, by omega, by go_num, hown2, inferInstance⟩
     case measure => simp [intOf]; omega
  ·have hE : bs.take k = bs := List.take_of_length_le (by have := Hbl.out; omega)
   rw [hE] at hown
   clear hE
   go_wp2
   go_ret
   obtain ⟨A, c, fp, rfl, ho, hnd, hlo⟩ := hown.out.shut
   exact ⟨A, _, c, fp, rfl, ho, hnd, fun g hg => by have := hlo g hg; omega, hww.trans inferInstance⟩
set_option maxHeartbeats 3000000 in
theorem spec_l13Pieces {w0 w : World} {sA0 : Option Addr} {sn0 sc0 : Nat} {sA1 : Option Addr} {sn1 sc1 : Nat} {sA2 : Option Addr} {sn2 sc2 : Nat} {t : Timetable} (h : TimetableAt w0 sA0 sn0 sc0 sA1 sn1 sc1 sA2 sn2 sc2 t) (hl : Later w0 w) {f : Fleet} {w3 : World} {bA : Option Addr} {bn bc : Nat} {bs : List (List Int)} (h3 : Sl 1 (rSl 1 rInt) w3 bA bn bc bs) (hl3 : Later w3 w) (df : DeadFacts t f bs) (h8 : t.Trips.length ≤ 8) (cut : Int) (h12 : bs.flatten.length ≤ 12) :
  Calls Tryz.prog 88 #[.agg #[.slice sA0 sn0 sc0, .slice sA1 sn1 sc1, .slice sA2 sn2 sc2], .slice bA bn bc, .int .i64 cut] w (RetO 1 (oSl 1 oInt) (cutAll t cut bs) w) := by
 have hB := h3.later hl3
 have hT := h.l_Trips.later hl
 have HB0 : ∀ W [Later (w.alloc (.cells #[.slice sA0 sn0 sc0, .slice sA1 sn1 sc1, .slice sA2 sn2 sc2] 44)) W] (j : Nat), W.cell? ⟨w.heap.size, j, none⟩ = #[.slice sA0 sn0 sc0, .slice sA1 sn1 sc1, .slice sA2 sn2 sc2][j]? := Later.boxes (t := 44) (fr := (0, 0)) (heap_new (by simp; try omega)); obtain ⟨wb, hwb⟩ : ∃ wb : World, wb = (w.alloc (.cells #[.slice sA0 sn0 sc0, .slice sA1 sn1 sc1, .slice sA2 sn2 sc2] 44)) := ⟨_, rfl⟩; haveI hbW : Later wb (w.alloc (.cells #[.slice sA0 sn0 sc0, .slice sA1 sn1 sc1, .slice sA2 sn2 sc2] 44)) := (by rw [hwb]; exact Later.rfl_); haveI hww : Later w wb := (by rw [hwb]; infer_instance); rw [← hwb] at HB0; have hbE := Lib.hid (congrArg (fun x : World => x.heap.size) hwb); clear hwb
 have hwb0 := hl.trans hww
 have H := Lib.hid h
 clear h
 replace hB := hB.later hww
 replace hT := hT.later hww
 have hbl := hB.le
 have Hbl := Lib.hid hB.len
 have hsl := hT.le
 have Htl := Lib.hid hT.len
 have DF := Lib.hid df
 have H8 := Lib.hid h8
 have hbs : wb.heap.size ≤ w.heap.size + 1 := by have := hbE.out; simp at this; omega
 have hbs2 : w.heap.size + 1 ≤ wb.heap.size := by have := hbE.out; simp at this; omega
 have H12 := Lib.hid h12
 clear h3 df h8 hT h12
 go_enter Tryz.func88, Tryz.ntmps88
 go_wp2_with fail
 go_loopw [7, 8] (fun ov i wr => ∃ k : Nat, k ≤ bn ∧ i = .int .i64 k ∧ Hid (ORows wr (w.heap.size + 1) 66 ov (cutAll t cut (bs.take k))) ∧ Later wb wr) (fun _ i _ => bn - (intOf i).toNat)
 case atStart => exact ⟨0, by omega, rfl, Lib.hid (show ORows _ _ _ _ [] from ORows.of0 (ownsRow_later (by simpa using World.ownsRow_lit (base := w.heap.size + 1) (e := 66) (size := 1) (w.alloc (.cells #[.slice sA0 sn0 sc0, .slice sA1 sn1 sc1, .slice sA2 sn2 sc2] 44)) #[] 0 (by simp; try omega) (by simp [maxLen]) rfl) (inferInstance : Later ((w.alloc (.cells #[.slice sA0 sn0 sc0, .slice sA1 sn1 sc1, .slice sA2 sn2 sc2] 44)).alloc (.cells #[] 66)) _))), inferInstance⟩
 case round =>
  obtain ⟨k, hk, rfl, hown, hX⟩ := hrel
  by_cases hlt : k < bn
  ·obtain ⟨b, o, A1, n1, c1', x, rfl, hx, hc0, hi⟩ := Sl.row_ hB hlt
   have hn1 := hi.le
   have Hxl := Lib.hid hi.len
   have HXF := Lib.hid (DF.out.found x (List.mem_of_getElem? hx.out))
   have HCS := Lib.hid (cutAll_snoc (t := t) (cut := cut) hx.out)
   have hx12 : x.length ≤ 12 := by have := len_flat (List.mem_of_getElem? hx.out); have := H12.out; omega
   have hkl : (cutAll t cut (bs.take k)).length ≤ 12 := by have h5 := (cutAll_sum t cut (bs.take k)).1; have h6 := flat_take_le' bs k; have := H12.out; omega
   have hwn : IntKind.i64.wrap ((n1 : Int) - 1) = (n1 : Int) - 1 := by rw [IntKind.wrap_i64]; omega
   have hn12 : n1 ≤ 12 := by rw [hi.len]; exact hx12
   have Hkl := Lib.hid hkl
   clear hx hx12 hkl
   go_wp2_with fail
   go_loopw [7, 9, 10] (fun ov pv i ws => ∃ (j : Nat) (acc : List Int) (done : List (List Int)) (wq : World), j ≤ n1 ∧ i = .int .i64 j ∧ acc.length ≤ j ∧ done.length ≤ j ∧ Hid (done ++ cutGo t cut acc (x.drop j) = cutRow t cut x) ∧ Hid (∀ y, y ∈ acc → I64 y) ∧ Hid (ORows wq (w.heap.size + 1) 66 ov (cutAll t cut (bs.take k) ++ done)) ∧ Hid (ws.ownsRow wq.heap.size 3 1 pv acc.length (acc.map (Value.int .i64))) ∧ Later wb wq ∧ Later wq ws ∧ Later wb ws) (fun _ _ i _ => n1 - (intOf i).toNat)
   case atStart => exact ⟨0, [], [], wr, by omega, rfl, by simp, by simp, by show _ = _; simp [cutRow], by show ∀ y, _; simp, by show ORows _ _ _ _ _; rw [List.append_nil]; exact hown.out, Lib.hid (by simpa using World.ownsRow_lit (base := wr.heap.size) (e := 3) (size := 1) wr #[] 0 (Nat.le_refl _) (by simp [maxLen]) rfl), inferInstance, inferInstance, inferInstance⟩
   case round =>
    obtain ⟨j, acc, done, wq, hjn, rfl, hal, hdl, HG, HA6, hown2, hpc, hq1, hq2, hY⟩ := hrel
    by_cases hjt : j < n1
    ·obtain ⟨b4, o4, v, rfl, hv, hcv, hv64⟩ := Ints.at_ hi hjt
     have fv := HXF.out v (List.mem_of_getElem? hv.out)
     have HD := Lib.hid (drop_at hv.out)
     have HA7 : Hid (∀ y, y ∈ acc ++ [v] → I64 y) := by
      show ∀ y, _
      intro y hy
      rcases List.mem_append.1 hy with hy | hy
      ·exact HA6.out y hy
      ·simp at hy; subst hy; exact hv64
     have hvi := findI_bd t v
     obtain ⟨i, hfi⟩ := Int.eq_ofNat_of_zero_le fv
     have hi64 : (i : Int) ≤ 64 := by have := H8.out; omega
     have hi0 : (0 : Int) ≤ (i : Int) := by omega
     have hbit := cutBit_at (cut := cut) hfi
     have HI := Lib.hid hfi
     have hui : IntKind.u64.wrap (i : Int) = (i : Int) := by rw [IntKind.wrap_u64]; omega
     clear hvi hfi fv
     have hal2 : acc.length ≤ 1073741824 := by omega
     have hal3 : (acc ++ [v]).length ≤ j + 1 := by simp; omega
     clear hv hv64
     by_cases cE : x.drop (j + 1) = [] ∨ cutBit t cut v = true
     ·have HG2 : Hid ((done ++ [acc ++ [v]]) ++ cutGo t cut [] (x.drop (j + 1)) = cutRow t cut x) := by
       show _ = _
       rw [← HG.out, HD.out, cutGo_cut cE, List.append_assoc]
       rfl
      have hlen : (cutAll t cut (bs.take k) ++ done).length ≤ 1073741824 := by rw [List.length_append]; have := Hkl.out; omega
      have hdl2 : (done ++ [acc ++ [v]]).length ≤ j + 1 := by simp; omega
      clear HG hdl
      by_cases cL : j + 1 = n1
      ·have hj2 := (beqi_t (show (j : Int) = (n1 : Int) - 1 by omega)).1
       have CL := Lib.hid cL
       clear cE hbit cL
       go_wp2_with (at_builtin; refine wpList_app_B (w0 := wq) (base := wq.heap.size) rfl _ _ 66 rfl Tryz.underlying66 infoInt rfl (by decide) (by decide) rfl (by exact ownsRow_later hpc.out (inferInstance : Later wr _)) (inferInstance : Later wq _) (Nat.le_refl _) (Later.size (w := wq) inferInstance) rfl rfl (one_cell _ _) hal2 ?_; intro v' w9 hown' hX9; have hY9 : Later wb w9 := Later.trans hq1 hX9)
       refine gO (S := (fun w' => Later wb w' ∧ Later wq w' ∧ Later w9 w')) (by kernel_rfl) (by exact ⟨inferInstance, inferInstance, inferInstance⟩) (fun _ _ _ _ _ h => h) (fun hHeld hZq => ?_)
       refine gT 0 rfl (by kernel_rfl) (by intro w' hSw; go_simp <;> rfl) hZq hHeld ?_; simp only [Act.put, sA, sZ, sS]
       refine gT 1 rfl (by kernel_rfl) (by intro w' hSw; go_simp <;> rfl) hZq hHeld ?_; simp only [Act.put, sA, sZ, sS]
       refine gT 2 rfl (by kernel_rfl) (by intro w' hSw; go_simp <;> rfl) hZq hHeld ?_; simp only [Act.put, sA, sZ, sS]
       refine gT 3 rfl (by kernel_rfl) (by intro w' hSw; go_simp <;> rfl) hZq hHeld ?_; simp only [Act.put, sA, sZ, sS]
       refine gT 4 rfl (by kernel_rfl) (by intro w' hSw; go_simp <;> rfl) hZq hHeld ?_; simp only [Act.put, sA, sZ, sS]
       refine gT 5 rfl (by kernel_rfl) (by intro w' hSw; go_simp <;> rfl) hZq hHeld ?_; simp only [Act.put, sA, sZ, sS]
       refine gT 6 rfl (by kernel_rfl) (by intro w' hSw; go_simp <;> rfl) hZq hHeld ?_; simp only [Act.put, sA, sZ, sS]
       refine gT 7 rfl (by kernel_rfl) (by intro w' hSw; go_simp <;> rfl) hZq hHeld ?_; simp only [Act.put, sA, sZ, sS]
       refine gT 8 rfl (by kernel_rfl) (by intro w' hSw; go_simp <;> rfl) hZq hHeld ?_; simp only [Act.put, sA, sZ, sS]
       refine gU 9 rfl (by kernel_rfl) hZq hHeld ?_; simp only [Act.put, sA, sZ, sS]
       refine gU 10 rfl (by kernel_rfl) hZq hHeld ?_; simp only [Act.put, sA, sZ, sS]
       refine gU 11 rfl (by kernel_rfl) hZq hHeld ?_; simp only [Act.put, sA, sZ, sS]
       refine gU 12 rfl (by kernel_rfl) hZq hHeld ?_; simp only [Act.put, sA, sZ, sS]
       refine gU 13 rfl (by kernel_rfl) hZq hHeld ?_; simp only [Act.put, sA, sZ, sS]
       refine gU 14 rfl (by kernel_rfl) hZq hHeld ?_; simp only [Act.put, sA, sZ, sS]
       refine gU 15 rfl (by kernel_rfl) hZq hHeld ?_; simp only [Act.put, sA, sZ, sS]
       refine gU 16 rfl (by kernel_rfl) hZq hHeld ?_; simp only [Act.put, sA, sZ, sS]
       refine gU 17 rfl (by kernel_rfl) hZq hHeld ?_; simp only [Act.put, sA, sZ, sS]
       refine gU 18 rfl (by kernel_rfl) hZq hHeld ?_; simp only [Act.put, sA, sZ, sS]
       refine gU 19 rfl (by kernel_rfl) hZq hHeld ?_; simp only [Act.put, sA, sZ, sS]
       refine gU 20 rfl (by kernel_rfl) hZq hHeld ?_; simp only [Act.put, sA, sZ, sS]
       refine gU 21 rfl (by kernel_rfl) hZq hHeld ?_; simp only [Act.put, sA, sZ, sS]
       refine gU 22 rfl (by kernel_rfl) hZq hHeld ?_; simp only [Act.put, sA, sZ, sS]
       refine gT 23 rfl (by kernel_rfl) (by intro w' hSw; go_simp <;> rfl) hZq hHeld ?_; simp only [Act.put, sA, sZ, sS]
       refine wpAnyH_done (by kernel_rfl) ?_ _
       generalize hwd : w9.drew = wd
       have D9 : Later w9 wd := by rw [← hwd]; infer_instance
       have DB : Later wb wd := by rw [← hwd]; infer_instance
       have DQ : Later wq wd := by rw [← hwd]; infer_instance
       clear hwd
       obtain ⟨A9, c9, fp9, hov9, ho9, hnd9, hlo9⟩ := OSl.ints_of_own (l := acc ++ [v]) (by rw [List.map_append]; exact hown') HA7.out
       subst hov9
       go_wp2_with (at_builtin; refine wpList_app_R rfl _ _ 29 rfl Tryz.underlying29 infoRow (by decide) (w0 := wb) (w1 := wq) rfl hown2.out inferInstance inferInstance hbs (Nat.le_trans hbs2 hq1.size) (ho9.later inferInstance) hnd9 hlo9 rfl hlen ?_; intro v2' w10 hown3 hX10)
       go_roundw
       case rel => exact ⟨j + 1, [], _, w10, by omega, by go_num, by simp, hdl2, HG2, by show ∀ y, _; simp, by show ORows _ _ _ _ _; rw [← List.append_assoc]; exact hown3, Lib.hid (by simpa using World.ownsRow_lit (base := w10.heap.size) (e := 3) (size := 1) w10 #[] 0 (Nat.le_refl _) (by simp [maxLen]) rfl), inferInstance, inferInstance, inferInstance⟩
       case measure => simp [intOf]; omega
      ·have hne : x.drop (j + 1) ≠ [] := by intro e; have := congrArg List.length e; simp at this; have := Hxl.out; omega
       have hbit2 : (bits .and .i64 (cut / 2 ^ i) 1 == 1) = true := by rw [← hbit]; exact cE.resolve_left hne
       have hbit3 : bits .and .i64 (cut / 2 ^ i) 1 = 1 := by simpa using hbit2
       have hj1 : ¬ ((j : Int) = (n1 : Int) - 1) := by omega
       have hj2 := (beqi_f hj1).1
       clear cE hbit hne
       go_wp2_with (at_builtin; refine wpList_app_B (w0 := wq) (base := wq.heap.size) rfl _ _ 66 rfl Tryz.underlying66 infoInt rfl (by decide) (by decide) rfl (by exact ownsRow_later hpc.out (inferInstance : Later wr _)) (inferInstance : Later wq _) (Nat.le_refl _) (Later.size (w := wq) inferInstance) rfl rfl (one_cell _ _) hal2 ?_; intro v' w9 hown' hX9; have hY9 : Later wb w9 := Later.trans hq1 hX9)
       refine gO (S := (fun w' => Later wb w' ∧ Later wq w' ∧ Later w9 w')) (by kernel_rfl) (by exact ⟨inferInstance, inferInstance, inferInstance⟩) (fun _ _ _ _ _ h => h) (fun hHeld hZq => ?_)
       refine gT 0 rfl (by kernel_rfl) (by intro w' hSw; go_simp <;> rfl) hZq hHeld ?_; simp only [Act.put, sA, sZ, sS]
       refine gT 1 rfl (by kernel_rfl) (by intro w' hSw; go_simp <;> rfl) hZq hHeld ?_; simp only [Act.put, sA, sZ, sS]
       refine gT 2 rfl (by kernel_rfl) (by intro w' hSw; go_simp <;> rfl) hZq hHeld ?_; simp only [Act.put, sA, sZ, sS]
       refine gT 3 rfl (by kernel_rfl) (by intro w' hSw; go_simp <;> rfl) hZq hHeld ?_; simp only [Act.put, sA, sZ, sS]
       refine gT 4 rfl (by kernel_rfl) (by intro w' hSw; go_simp <;> rfl) hZq hHeld ?_; simp only [Act.put, sA, sZ, sS]
       refine gT 5 rfl (by kernel_rfl) (by intro w' hSw; go_simp <;> rfl) hZq hHeld ?_; simp only [Act.put, sA, sZ, sS]
       refine gT 6 rfl (by kernel_rfl) (by intro w' hSw; go_simp <;> rfl) hZq hHeld ?_; simp only [Act.put, sA, sZ, sS]
       refine gT 7 rfl (by kernel_rfl) (by intro w' hSw; go_simp <;> rfl) hZq hHeld ?_; simp only [Act.put, sA, sZ, sS]
       refine gT 8 rfl (by kernel_rfl) (by intro w' hSw; go_simp <;> rfl) hZq hHeld ?_; simp only [Act.put, sA, sZ, sS]
       refine gT 9 rfl (by kernel_rfl) (by intro w' hSw; go_simp <;> rfl) hZq hHeld ?_; simp only [Act.put, sA, sZ, sS]
       refine gT 10 rfl (by kernel_rfl) (by intro w' hSw; go_simp <;> rfl) hZq hHeld ?_; simp only [Act.put, sA, sZ, sS]
       refine gT 11 rfl (by kernel_rfl) (by intro w' hSw; go_simp <;> rfl) hZq hHeld ?_; simp only [Act.put, sA, sZ, sS]
       refine gT 12 rfl (by kernel_rfl) (by intro w' hSw; go_simp <;> rfl) hZq hHeld ?_; simp only [Act.put, sA, sZ, sS]
       refine gT 13 rfl (by kernel_rfl) (by intro w' hSw; go_simp <;> rfl) hZq hHeld ?_; simp only [Act.put, sA, sZ, sS]
       refine gT 14 rfl (by kernel_rfl) (by intro w' hSw; go_simp <;> rfl) hZq hHeld ?_; simp only [Act.put, sA, sZ, sS]
       refine gT 15 rfl (by kernel_rfl) (by intro w' hSw; go_simp <;> rfl) hZq hHeld ?_; simp only [Act.put, sA, sZ, sS]
       refine gT 16 rfl (by kernel_rfl) (by intro w' hSw; go_simp <;> rfl) hZq hHeld ?_; simp only [Act.put, sA, sZ, sS]
       refine gT 17 rfl (by kernel_rfl) (by intro w' hSw; go_simp <;> rfl) hZq hHeld ?_; simp only [Act.put, sA, sZ, sS]
       refine gE 18 rfl (by kernel_rfl) (fun K hK => ?_)
       go_simp
       (go_at_call 28; refine (spec_l5Find H.out (hwb0.trans inferInstance) v).mono ?_; rw [HI.out]; rintro e w6 ⟨rfl, L6⟩; have X6 := Later.trans (w := wb) inferInstance L6; have V6 := Later.trans (w := w9) inferInstance L6; have Q6 := Later.trans (w := wq) inferInstance L6)
       refine hK.out _ _ (by exact ⟨inferInstance, inferInstance, inferInstance⟩) (fun hHeld => ?_)
       try simp only [Act.put, sA, sZ, sS]
       refine gT 19 rfl (by kernel_rfl) (by intro w' hSw; go_simp <;> rfl) hZq hHeld ?_; simp only [Act.put, sA, sZ, sS]
       refine gT 20 rfl (by kernel_rfl) (by intro w' hSw; go_simp <;> rfl) hZq hHeld ?_; simp only [Act.put, sA, sZ, sS]
       refine gT 21 rfl (by kernel_rfl) (by intro w' hSw; go_simp <;> rfl) hZq hHeld ?_; simp only [Act.put, sA, sZ, sS]
       refine gT 22 rfl (by kernel_rfl) (by intro w' hSw; go_simp <;> rfl) hZq hHeld ?_; simp only [Act.put, sA, sZ, sS]
       refine gT 23 rfl (by kernel_rfl) (by intro w' hSw; go_simp <;> rfl) hZq hHeld ?_; simp only [Act.put, sA, sZ, sS]
       refine wpAnyH_done (by kernel_rfl) ?_ _
       obtain ⟨A9, c9, fp9, hov9, ho9, hnd9, hlo9⟩ := OSl.ints_of_own (l := acc ++ [v]) (by rw [List.map_append]; exact hown') HA7.out
       subst hov9
       go_wp2_with (at_builtin; refine wpList_app_R rfl _ _ 29 rfl Tryz.underlying29 infoRow (by decide) (w0 := wb) (w1 := wq) rfl hown2.out inferInstance inferInstance hbs (Nat.le_trans hbs2 hq1.size) (ho9.later inferInstance) hnd9 hlo9 rfl hlen ?_; intro v2' w10 hown3 hX10)
       go_roundw
       case rel => exact ⟨j + 1, [], _, w10, by omega, by go_num, by simp, hdl2, HG2, by show ∀ y, _; simp, by show ORows _ _ _ _ _; rw [← List.append_assoc]; exact hown3, Lib.hid (by simpa using World.ownsRow_lit (base := w10.heap.size) (e := 3) (size := 1) w10 #[] 0 (Nat.le_refl _) (by simp [maxLen]) rfl), inferInstance, inferInstance, inferInstance⟩
       case measure => simp [intOf]; omega
     ·have hne : x.drop (j + 1) ≠ [] := fun e => cE (.inl e)
      have cB' : cutBit t cut v = false := by
       cases hh : cutBit t cut v with
       | false => rfl
       | true => exact absurd (.inr hh) cE
      have HG2 : Hid (done ++ cutGo t cut (acc ++ [v]) (x.drop (j + 1)) = cutRow t cut x) := by show _ = _; rw [← HG.out, HD.out, cutGo_on hne cB']
      have hbit2 : (bits .and .i64 (cut / 2 ^ i) 1 == 1) = false := by rw [← hbit]; exact cB'
      have hbit3 : ¬ bits .and .i64 (cut / 2 ^ i) 1 = 1 := by simpa using hbit2
      have hjl : j + 1 ≠ n1 := by intro e; apply hne; exact List.drop_eq_nil_of_le (by have := Hxl.out; omega)
      have hj1 : ¬ ((j : Int) = (n1 : Int) - 1) := by omega
      have hj2 := (beqi_f hj1).1
      clear cE hbit hne cB' HG hjl
      go_wp2_with (at_builtin; refine wpList_app_B (w0 := wq) (base := wq.heap.size) rfl _ _ 66 rfl Tryz.underlying66 infoInt rfl (by decide) (by decide) rfl (by exact ownsRow_later hpc.out (inferInstance : Later wr _)) (inferInstance : Later wq _) (Nat.le_refl _) (Later.size (w := wq) inferInstance) rfl rfl (one_cell _ _) hal2 ?_; intro v' w9 hown' hX9; have hY9 : Later wb w9 := Later.trans hq1 hX9)
      refine gO (S := (fun w' => Later wb w' ∧ Later wq w' ∧ Later w9 w')) (by kernel_rfl) (by exact ⟨inferInstance, inferInstance, inferInstance⟩) (fun _ _ _ _ _ h => h) (fun hHeld hZq => ?_)
      refine gT 0 rfl (by kernel_rfl) (by intro w' hSw; go_simp <;> rfl) hZq hHeld ?_; simp only [Act.put, sA, sZ, sS]
      refine gT 1 rfl (by kernel_rfl) (by intro w' hSw; go_simp <;> rfl) hZq hHeld ?_; simp only [Act.put, sA, sZ, sS]
      refine gT 2 rfl (by kernel_rfl) (by intro w' hSw; go_simp <;> rfl) hZq hHeld ?_; simp only [Act.put, sA, sZ, sS]
      refine gT 3 rfl (by kernel_rfl) (by intro w' hSw; go_simp <;> rfl) hZq hHeld ?_; simp only [Act.put, sA, sZ, sS]
      refine gT 4 rfl (by kernel_rfl) (by intro w' hSw; go_simp <;> rfl) hZq hHeld ?_; simp only [Act.put, sA, sZ, sS]
      refine gT 5 rfl (by kernel_rfl) (by intro w' hSw; go_simp <;> rfl) hZq hHeld ?_; simp only [Act.put, sA, sZ, sS]
      refine gT 6 rfl (by kernel_rfl) (by intro w' hSw; go_simp <;> rfl) hZq hHeld ?_; simp only [Act.put, sA, sZ, sS]
      refine gT 7 rfl (by kernel_rfl) (by intro w' hSw; go_simp <;> rfl) hZq hHeld ?_; simp only [Act.put, sA, sZ, sS]
      refine gT 8 rfl (by kernel_rfl) (by intro w' hSw; go_simp <;> rfl) hZq hHeld ?_; simp only [Act.put, sA, sZ, sS]
      refine gT 9 rfl (by kernel_rfl) (by intro w' hSw; go_simp <;> rfl) hZq hHeld ?_; simp only [Act.put, sA, sZ, sS]
      refine gT 10 rfl (by kernel_rfl) (by intro w' hSw; go_simp <;> rfl) hZq hHeld ?_; simp only [Act.put, sA, sZ, sS]
      refine gT 11 rfl (by kernel_rfl) (by intro w' hSw; go_simp <;> rfl) hZq hHeld ?_; simp only [Act.put, sA, sZ, sS]
      refine gT 12 rfl (by kernel_rfl) (by intro w' hSw; go_simp <;> rfl) hZq hHeld ?_; simp only [Act.put, sA, sZ, sS]
      refine gT 13 rfl (by kernel_rfl) (by intro w' hSw; go_simp <;> rfl) hZq hHeld ?_; simp only [Act.put, sA, sZ, sS]
      refine gT 14 rfl (by kernel_rfl) (by intro w' hSw; go_simp <;> rfl) hZq hHeld ?_; simp only [Act.put, sA, sZ, sS]
      refine gT 15 rfl (by kernel_rfl) (by intro w' hSw; go_simp <;> rfl) hZq hHeld ?_; simp only [Act.put, sA, sZ, sS]
      refine gT 16 rfl (by kernel_rfl) (by intro w' hSw; go_simp <;> rfl) hZq hHeld ?_; simp only [Act.put, sA, sZ, sS]
      refine gT 17 rfl (by kernel_rfl) (by intro w' hSw; go_simp <;> rfl) hZq hHeld ?_; simp only [Act.put, sA, sZ, sS]
      refine gE 18 rfl (by kernel_rfl) (fun K hK => ?_)
      go_simp
      (go_at_call 28; refine (spec_l5Find H.out (hwb0.trans inferInstance) v).mono ?_; rw [HI.out]; rintro e w6 ⟨rfl, L6⟩; have X6 := Later.trans (w := wb) inferInstance L6; have V6 := Later.trans (w := w9) inferInstance L6; have Q6 := Later.trans (w := wq) inferInstance L6)
      refine hK.out _ _ (by exact ⟨inferInstance, inferInstance, inferInstance⟩) (fun hHeld => ?_)
      try simp only [Act.put, sA, sZ, sS]
      refine gT 19 rfl (by kernel_rfl) (by intro w' hSw; go_simp <;> rfl) hZq hHeld ?_; simp only [Act.put, sA, sZ, sS]
      refine gT 20 rfl (by kernel_rfl) (by intro w' hSw; go_simp <;> rfl) hZq hHeld ?_; simp only [Act.put, sA, sZ, sS]
      refine gT 21 rfl (by kernel_rfl) (by intro w' hSw; go_simp <;> rfl) hZq hHeld ?_; simp only [Act.put, sA, sZ, sS]
      refine gT 22 rfl (by kernel_rfl) (by intro w' hSw; go_simp <;> rfl) hZq hHeld ?_; simp only [Act.put, sA, sZ, sS]
      refine gT 23 rfl (by kernel_rfl) (by intro w' hSw; go_simp <;> rfl) hZq hHeld ?_; simp only [Act.put, sA, sZ, sS]
      refine wpAnyH_done (by kernel_rfl) ?_ _
      go_wp2_with fail
      go_roundw
      case rel => exact ⟨j + 1, acc ++ [v], done, wq, by omega, by go_num, hal3, by omega, HG2, HA7, hown2, by show World.ownsRow _ _ _ _ _ _ _; rw [List.map_append, List.length_append]; exact ownsRow_later hown' (inferInstance : Later w9 _), inferInstance, inferInstance, inferInstance⟩
      case measure => simp [intOf]; omega
    ·have hE : Hid (cutAll t cut (bs.take k) ++ done = cutAll t cut (bs.take (k + 1))) := by
      show _ = _
      have h5 := HG.out
      rw [(List.drop_eq_nil_of_le (by have := Hxl.out; omega) : x.drop j = [])] at h5
      rw [HCS.out, ← h5]
      simp [cutGo]
     rw [hE.out] at hown2
     clear HG hE
     go_wp2
     go_roundw
     case rel => exact ⟨k + 1, by omega, by go_num, hown2.out.later inferInstance, inferInstance⟩
     case measure => simp [intOf]; omega
  ·have hE : bs.take k = bs := List.take_of_length_le (by have := Hbl.out; omega)
   rw [hE] at hown
   clear hE
   go_wp2
   go_ret
   obtain ⟨A, c, fp, rfl, ho, hnd, hlo⟩ := hown.out.shut
   exact ⟨A, _, c, fp, rfl, ho, hnd, fun g hg => by have := hlo g hg; omega, hww.trans inferInstance⟩
end Go.Proofs.YtknhebakebmlcaaGreat
