/-
 slices.Sort and slices.Compact on numbers: the shelf's contracts at this program.
 Duties: the first rule that a duty breaks (brokenRule, l12Pieces, l12Broken).
 Duties: valid duties, what rule they break, their length, their paid minutes.
-/
import Derived.Test.YtknhebakebmlcaaGreatDb
import Derived.Test.YtknhebakebmlcaaGreatSortLay
import Derived.Sort.OwnSortedInts
import Derived.Test.YtknhebakebmlcaaGreatDa
import Derived.Test.YtknhebakebmlcaaGreatBlkC
import Derived.Lib.OwnBridge
namespace Go.Proofs.YtknhebakebmlcaaGreat
open Go Go.RowKit Go.Sort
set_option linter.unusedVariables false
set_option maxRecDepth 100000
theorem ints_of_holds {w : World} {g n c : Nat} {l : List Int} (h : Holds (Value.int .i64) w g 0 l.toArray) (hn : n = l.length) (hc : n ≤ c) (hm : c ≤ 9223372036854775807) (hi : ∀ x, x ∈ l → I64 x) : Ints w (some ⟨g, 0, none⟩) n c l := by
 refine ⟨hn, hc, hm, fun k x hx => ⟨g, 0, [.int .i64 x], rfl, rfl, fun j v hv => ?_, rfl, hi x (List.mem_of_getElem? hx)⟩⟩
 obtain ⟨hk, rfl⟩ := List.getElem?_eq_some_iff.1 hx
 match j, hv with
 | 0, hv =>
  simp at hv; subst hv
  have := (h k (by simpa using hk)).1
  simpa [hk] using this
theorem holds_of_osl {w : World} {A : Option Addr} {n c : Nat} {l : List Int} {fp : List Nat} (h : OSl 1 oInt w A n c l fp) (hne : 0 < l.length) :
  ∃ g o, A = some ⟨g, o, none⟩ ∧ g ∈ fp ∧ Holds (Value.int .i64) w g o l.toArray := by
 rcases h.own with ⟨rfl, _⟩ | ⟨g, o, t, cs, fps, hA, hb, rfl, hfl, hel⟩
 ·simp at hne
 refine ⟨g, o, hA, by simp, fun j hj => ?_⟩
 have hj' : j < l.length := by simpa using hj
 obtain ⟨es, f, hf, he, hc, hr⟩ := hel j l[j] (List.getElem?_eq_getElem hj')
 have h1 : es = [.int .i64 l[j]] := (hr.1 w).1
 subst h1
 refine ⟨?_, hb.frozen _⟩
 rw [hb.cell]
 have := hc 0 _ rfl
 simp only [Nat.mul_one, Nat.add_zero] at this
 rw [this]; simp [hj']
theorem impl_Sort {w0 w : World} {g c : Nat} {l : List Int} (h : Holds (Value.int .i64) w g 0 l.toArray) (hl : Later w0 w) (hg : w0.heap.size ≤ g) (hlt : g < w.heap.size) {n : Nat} (hn : n = l.length) (hs : n ≤ 1073741824) :
  Calls Tryz.prog 116 #[.slice (some ⟨g, 0, none⟩) n c] w fun e w' => e = .returned (.tuple #[]) ∧ Later w0 w' ∧ Holds (Value.int .i64) w' g 0 (l.mergeSort fun x y => decide (x ≤ y)).toArray := by
 subst hn
 refine (Any.slices_Sort_int Tryz.sortI g 0 c l w h hlt (by omega)).mono ?_
 rintro e w' ⟨rfl, n, os, rfl⟩
 refine ⟨rfl, hl.of_grown (grownBy_sortedI _) (fun g' hg' => by cases hg'; exact hg), ?_⟩
 exact holds_grow _ _ os g 0 _ (by simpa [putRow, mapBlock, Sort.ahead] using hlt) (holds_putRow _ _ g 0 _ _ (holds_ahead _ w n g 0 _ h) (by simp))
theorem grownBy_put {w : World} {g o n : Nat} (d : Array Int) : w.grownBy (putRow (Value.int .i64) (Sort.ahead w n) g o d) (some g) := by
 refine ⟨rfl, rfl, rfl, by simp, fun k hk hne => ?_⟩
 have : g ≠ k := fun e => hne (by rw [e])
 simp [putRow, mapBlock, Sort.ahead, Array.getElem?_modify, this]
theorem impl_Compact {w0 w : World} {g o c : Nat} {l : List Int} (h : Holds (Value.int .i64) w g o l.toArray) (hl : Later w0 w) (hg : w0.heap.size ≤ g) {n : Nat} (hn : n = l.length) (hs : n ≤ 1073741824) (hc : n ≤ c) :
  Calls Tryz.prog 117 #[.slice (some ⟨g, o, none⟩) n c] w fun e w' => e = .returned (.slice (some ⟨g, o, none⟩) (Lib.compact l).length c) ∧ Later w0 w' := by
 subst hn
 refine (Any.slices_Compact_int Tryz.compI g o c l w h (by omega) hc).mono ?_
 rintro e w' ⟨rfl, q, rfl⟩
 exact ⟨rfl, hl.of_grown (grownBy_put _) (fun g' hg' => by cases hg'; exact hg)⟩
end Go.Proofs.YtknhebakebmlcaaGreat
namespace Go.Proofs.YtknhebakebmlcaaGreat
open Go Go.RowKit Go.Sort
set_option linter.unusedVariables false
set_option maxRecDepth 100000
theorem rows_i64 {w : World} {A : Option Addr} {n c : Nat} {l : List (List Int)} (h : Sl 1 (rSl 1 rInt) w A n c l) : ∀ x, x ∈ l → ∀ v, v ∈ x → I64 v := by
 intro x hx v hv
 obtain ⟨k, hk⟩ := List.getElem?_of_mem hx
 obtain ⟨j, hj⟩ := List.getElem?_of_mem hv
 obtain ⟨b, o, es, _, _, _, A1, n1, c1, _, h1⟩ := h.el k x hk
 obtain ⟨_, _, _, _, _, _, _, h2⟩ := h1.el j v hj
 exact h2
theorem own_nn {w : World} {base : Nat} {e : TypeId} {v : Value} {n : Nat} {xs : List Value} (h : w.ownsRow base e 1 v n xs) (hn : 0 < n) : v ≠ .slice none 0 0 := by
 rintro rfl
 rcases h.2 with ⟨_, h0⟩ | ⟨g, cap, cur, e0, _⟩
 ·omega
 ·cases e0
set_option maxHeartbeats 4000000 in
theorem impl_brokenRule {w0 w w2 w3 : World} {sA0 : Option Addr} {sn0 sc0 : Nat} {sA1 : Option Addr} {sn1 sc1 : Nat} {sA2 : Option Addr} {sn2 sc2 : Nat} {t : Timetable} (h : TimetableAt w0 sA0 sn0 sc0 sA1 sn1 sc1 sA2 sn2 sc2 t) (hl : Later w0 w) {qA0 : Option Addr} {qn0 qc0 : Nat} {f : Fleet} (h2 : FleetAt w2 qA0 qn0 qc0 f) (hl2 : Later w2 w) {bA : Option Addr} {bn bc : Nat} {bs : List (List Int)} (h3 : Sl 1 (rSl 1 rInt) w3 bA bn bc bs) (hl3 : Later w3 w) {r : Rules} {eA0 : Option Addr} {en0 ec0 : Nat} {d : Duty} {w4 : World} (h4 : DutyAt w4 eA0 en0 ec0 d) (hl4 : Later w4 w) (hok : okBlocks t f bs = true) (rr : RulesFacts r) (hps : Fits d.Pieces) :
  Calls Tryz.prog 96 #[.agg #[.slice sA0 sn0 sc0, .slice sA1 sn1 sc1, .slice sA2 sn2 sc2], .agg #[.slice qA0 qn0 qc0, .int .i64 f.Turn], .slice bA bn bc, .agg #[.int .i64 r.SignOn, .int .i64 r.SignOff, .int .i64 r.MaxDrive, .int .i64 r.MinBreak, .int .i64 r.PaidBreak, .int .i64 r.MaxLength], .agg #[.slice eA0 en0 ec0]] w (Ret (.int .i64 (brokenD t f bs r d.Pieces)) w) := by
 have hP := h4.l_Pieces.later hl4
 have HB0 : ∀ W [Later ((((w.alloc (.cells #[.slice sA0 sn0 sc0, .slice sA1 sn1 sc1, .slice sA2 sn2 sc2] 44)).alloc (.cells #[.slice qA0 qn0 qc0, .int .i64 f.Turn] 46)).alloc (.cells #[.int .i64 r.SignOn, .int .i64 r.SignOff, .int .i64 r.MaxDrive, .int .i64 r.MinBreak, .int .i64 r.PaidBreak, .int .i64 r.MaxLength] 49)).alloc (.cells #[.slice eA0 en0 ec0] 76)) W] (j : Nat), W.cell? ⟨w.heap.size, j, none⟩ = #[.slice sA0 sn0 sc0, .slice sA1 sn1 sc1, .slice sA2 sn2 sc2][j]? := Later.boxes (t := 44) (fr := (0, 0)) ((heap_old (by simp; try omega)).trans ((heap_old (by simp; try omega)).trans ((heap_old (by simp; try omega)).trans (heap_new (by simp; try omega))))); have HB1 : ∀ W [Later ((((w.alloc (.cells #[.slice sA0 sn0 sc0, .slice sA1 sn1 sc1, .slice sA2 sn2 sc2] 44)).alloc (.cells #[.slice qA0 qn0 qc0, .int .i64 f.Turn] 46)).alloc (.cells #[.int .i64 r.SignOn, .int .i64 r.SignOff, .int .i64 r.MaxDrive, .int .i64 r.MinBreak, .int .i64 r.PaidBreak, .int .i64 r.MaxLength] 49)).alloc (.cells #[.slice eA0 en0 ec0] 76)) W] (j : Nat), W.cell? ⟨w.heap.size + 1, j, none⟩ = #[.slice qA0 qn0 qc0, .int .i64 f.Turn][j]? := Later.boxes (t := 46) (fr := (0, 0)) ((heap_old (by simp; try omega)).trans ((heap_old (by simp; try omega)).trans (heap_new (by simp; try omega)))); have HB2 : ∀ W [Later ((((w.alloc (.cells #[.slice sA0 sn0 sc0, .slice sA1 sn1 sc1, .slice sA2 sn2 sc2] 44)).alloc (.cells #[.slice qA0 qn0 qc0, .int .i64 f.Turn] 46)).alloc (.cells #[.int .i64 r.SignOn, .int .i64 r.SignOff, .int .i64 r.MaxDrive, .int .i64 r.MinBreak, .int .i64 r.PaidBreak, .int .i64 r.MaxLength] 49)).alloc (.cells #[.slice eA0 en0 ec0] 76)) W] (j : Nat), W.cell? ⟨w.heap.size + 1 + 1, j, none⟩ = #[.int .i64 r.SignOn, .int .i64 r.SignOff, .int .i64 r.MaxDrive, .int .i64 r.MinBreak, .int .i64 r.PaidBreak, .int .i64 r.MaxLength][j]? := Later.boxes (t := 49) (fr := (0, 0)) ((heap_old (by simp; try omega)).trans (heap_new (by simp; try omega))); have HB3 : ∀ W [Later ((((w.alloc (.cells #[.slice sA0 sn0 sc0, .slice sA1 sn1 sc1, .slice sA2 sn2 sc2] 44)).alloc (.cells #[.slice qA0 qn0 qc0, .int .i64 f.Turn] 46)).alloc (.cells #[.int .i64 r.SignOn, .int .i64 r.SignOff, .int .i64 r.MaxDrive, .int .i64 r.MinBreak, .int .i64 r.PaidBreak, .int .i64 r.MaxLength] 49)).alloc (.cells #[.slice eA0 en0 ec0] 76)) W] (j : Nat), W.cell? ⟨w.heap.size + 1 + 1 + 1, j, none⟩ = #[.slice eA0 en0 ec0][j]? := Later.boxes (t := 76) (fr := (0, 0)) (heap_new (by simp; try omega)); obtain ⟨wb, hwb⟩ : ∃ wb : World, wb = ((((w.alloc (.cells #[.slice sA0 sn0 sc0, .slice sA1 sn1 sc1, .slice sA2 sn2 sc2] 44)).alloc (.cells #[.slice qA0 qn0 qc0, .int .i64 f.Turn] 46)).alloc (.cells #[.int .i64 r.SignOn, .int .i64 r.SignOff, .int .i64 r.MaxDrive, .int .i64 r.MinBreak, .int .i64 r.PaidBreak, .int .i64 r.MaxLength] 49)).alloc (.cells #[.slice eA0 en0 ec0] 76)) := ⟨_, rfl⟩; haveI hbW : Later wb ((((w.alloc (.cells #[.slice sA0 sn0 sc0, .slice sA1 sn1 sc1, .slice sA2 sn2 sc2] 44)).alloc (.cells #[.slice qA0 qn0 qc0, .int .i64 f.Turn] 46)).alloc (.cells #[.int .i64 r.SignOn, .int .i64 r.SignOff, .int .i64 r.MaxDrive, .int .i64 r.MinBreak, .int .i64 r.PaidBreak, .int .i64 r.MaxLength] 49)).alloc (.cells #[.slice eA0 en0 ec0] 76)) := (by rw [hwb]; exact Later.rfl_); haveI hww : Later w wb := (by rw [hwb]; infer_instance); rw [← hwb] at HB0; rw [← hwb] at HB1; rw [← hwb] at HB2; rw [← hwb] at HB3; have hbE := Lib.hid (congrArg (fun x : World => x.heap.size) hwb); clear hwb
 have hwb0 := hl.trans hww
 have hwb2 := hl2.trans hww
 have hwb3 := hl3.trans hww
 have hwb4 := hl4.trans hww
 have H := Lib.hid h
 have H2 := Lib.hid h2
 have H3 := Lib.hid h3
 have H4 := Lib.hid h4
 replace hP := hP.later hww
 have hpl := hP.le
 have Hpl := Lib.hid hP.len
 have HP64 := Lib.hid (rows_i64 hP)
 have RW := Lib.hid (rows12 hok)
 have RR := Lib.hid rr
 have RF := Lib.hid (deadFacts hok).run
 have HPS := Lib.hid hps
 have HOK := Lib.hid hok
 have hbs : wb.heap.size ≤ w.heap.size + 4 := by have := hbE.out; simp at this; omega
 have hbs2 : w.heap.size + 4 ≤ wb.heap.size := by have := hbE.out; simp at this; omega
 have hf0 := field_Span0
 have hf1 := field_Span1
 clear h h2 h3 h4 rr hok hps
 by_cases cN : inB (d.Pieces.length : Int) 1 3 = true
 rotate_left
 ·have c1 : inB (d.Pieces.length : Int) 1 3 = false := by simpa using cN
  have c2 : inB (en0 : Int) 1 3 = false := by rw [Hpl.out]; exact c1
  have HR : Hid (brokenD t f bs r d.Pieces = 1) := brokenD_1 (okPieces_len c1)
  clear cN c1
  go_enter Tryz.func96, Tryz.ntmps96
  go_wp2_with (go_at_call 94; refine (impl_within _ _ _ _).mono ?_; rintro e w' ⟨rfl, rfl⟩)
  go_ret
  exact ⟨ret_int HR.out.symm, hww.trans inferInstance⟩
 have c2 : inB (en0 : Int) 1 3 = true := by rw [Hpl.out]; exact cN
 have hN : 1 ≤ d.Pieces.length ∧ d.Pieces.length ≤ 3 := by have := cN; simp only [inB_t] at this; omega
 have CN := Lib.hid cN
 have HN := Lib.hid hN
 clear cN hN
 go_enter Tryz.func96, Tryz.ntmps96
 go_wp2_with (go_at_call 94; refine (impl_within _ _ _ _).mono ?_; rintro e w' ⟨rfl, rfl⟩)
 clear c2
 go_loopw [11, 27] (fun ov i wr => ∃ k : Nat, k ≤ en0 ∧ i = .int .i64 k ∧ Hid ((d.Pieces.take k).all (pieceOk bs) = true) ∧ Hid (wr.ownsRow (w.heap.size + 4) 3 1 ov (d.Pieces.take k).flatten.length ((d.Pieces.take k).flatten.map (Value.int .i64))) ∧ Later wb wr) (fun _ i _ => en0 - (intOf i).toNat)
 case atStart => exact ⟨0, by omega, rfl, rfl, Lib.hid (by simpa using World.ownsRow_nil _ (w.heap.size + 4) 3 1), inferInstance⟩
 case round =>
  obtain ⟨k, hk, rfl, HA, hown, hX⟩ := hrel
  by_cases hlt : k < en0
  ·obtain ⟨b, o, A1, n1, c1, x, rfl, hx, hc0, hi⟩ := Sl.row_ hP hlt
   have HI := Lib.hid hi
   have Hx1 := Lib.hid hi.len
   have hxl : x.length ≤ 1048576 := HPS.out.each x (List.mem_of_getElem? hx.out)
   have HXL := Lib.hid hxl
   clear hxl
   by_cases cP : pieceOk bs x = true
   ·have HCP := Lib.hid cP
    have hn1 : 0 < n1 := by rw [hi.len]; exact pieceOk_pos cP
    have HT := Lib.hid (flat_snoc hx.out)
    have HA2 := Lib.hid (all_snoc hx.out HA.out cP)
    have hle : (d.Pieces.take k).flatten.length + n1 ≤ 1073741824 := by
     have h5 := flat_take_le d.Pieces (k + 1)
     rw [HT.out, List.length_append] at h5
     have := HPS.out.all
     have := Hx1.out
     omega
    clear hi cP hx HA
    go_wp2_with first
     | (go_at_call 115; refine (impl_isPiece H3.out (hwb3.trans inferInstance) RW.out HI.out inferInstance HXL.out).mono ?_; rw [HCP.out]; rintro e w6 ⟨rfl, L6⟩; have X6 := Later.trans (w := wb) inferInstance L6; have Z6 := Later.trans (w := wr) inferInstance L6)
     | (at_builtin; refine wpList_app_N rfl _ _ 66 rfl Tryz.underlying66 infoInt rfl (by exact ownsRow_later hown.out (inferInstance : Later wr _)) (inferInstance : Later wb _) hbs (Nat.le_trans hbs2 (Later.size (w := wb) inferInstance)) rfl (HI.out.later inferInstance) hn1 hle ?_; intro v' w8 hown' hX8)
    go_roundw
    case rel => exact ⟨k + 1, by omega, by go_num, HA2, by show World.ownsRow _ _ _ _ _ _ _; rw [HT.out, List.map_append, List.length_append, ← Hx1.out]; exact hown', inferInstance⟩
    case measure => simp [intOf]; omega
   ·have c0 : pieceOk bs x = false := by simpa using cP
    have HCP := Lib.hid c0
    have HR : Hid (brokenD t f bs r d.Pieces = 1) := brokenD_1 (okPieces_all (all_not hx.out c0))
    clear hi cP hx HA c0
    go_wp2_with (go_at_call 115; refine (impl_isPiece H3.out (hwb3.trans inferInstance) RW.out HI.out inferInstance HXL.out).mono ?_; rw [HCP.out]; rintro e w6 ⟨rfl, L6⟩; have X6 := Later.trans (w := wb) inferInstance L6; have Z6 := Later.trans (w := wr) inferInstance L6)
    go_ret
    exact ⟨ret_int HR.out.symm, hww.trans inferInstance⟩
  have hke : d.Pieces.take k = d.Pieces := List.take_of_length_le (by have := Hpl.out; omega)
  rw [hke] at HA hown
  clear hke
  obtain ⟨L, hL⟩ : ∃ L, L = d.Pieces.flatten := ⟨_, rfl⟩
  have HL := Lib.hid hL
  rw [← hL] at hown
  have hLs : L.length ≤ 4194304 := by rw [hL]; exact HPS.out.all
  have hL0 : 0 < L.length := by
   obtain ⟨x0, hx0⟩ : ∃ x0, d.Pieces[0]? = some x0 := ⟨_, List.getElem?_eq_getElem (by have := HN.out; omega)⟩
   have h5 := len_flat (List.mem_of_getElem? hx0)
   have h6 := pieceOk_pos (List.all_eq_true.1 HA.out x0 (List.mem_of_getElem? hx0))
   rw [hL]; omega
  have hL64 : ∀ v, v ∈ L → I64 v := by
   intro v hv
   rw [hL] at hv
   obtain ⟨x, hx, hvx⟩ := List.mem_flatten.1 hv
   exact HP64.out x hx v hvx
  obtain ⟨g, cap, hov, hbg, hgl, hncap, hcm, hlen, hH⟩ := Lib.holds_of_ownsRow hown.out (own_nn hown.out hL0)
  subst hov
  obtain ⟨S, hS⟩ : ∃ S, S = L.mergeSort (fun x y => decide (x ≤ y)) := ⟨_, rfl⟩
  have hSL : S.length = L.length := by rw [hS, List.length_mergeSort]
  have hS64 : ∀ v, v ∈ S → I64 v := fun v hv => hL64 v (by rw [hS] at hv; exact List.mem_mergeSort.1 hv)
  have hcs := compact_short L
  rw [← hS] at hcs
  have hcm' : cap ≤ 9223372036854775807 := by simpa [maxLen] using hcm
  have HH := Lib.hid hH
  have HSL := Lib.hid hSL
  have HS64 := Lib.hid hS64
  have HS := Lib.hid hS
  have hwg : wb.heap.size ≤ g := Nat.le_trans hbs hbg
  clear hown hH hL hS hL64 hSL hS64 hcm hbg hlen
  by_cases cD : L.Nodup
  rotate_left
  ·have HR : Hid (brokenD t f bs r d.Pieces = 1) := brokenD_1 (okPieces_dup (by rw [← HL.out]; exact cD))
   have hcmp : ((Lib.compact S).length : Int) < (L.length : Int) := by have := hcs.2 cD; omega
   clear hcs cD
   go_wp2_with first
    | (go_at_call 116; refine (impl_Sort (w0 := wb) HH.out inferInstance hwg hgl rfl (by omega)).mono ?_; rw [← HS.out]; rintro e w5 ⟨rfl, L5, hH5⟩; have hI5 := ints_of_holds hH5 HSL.out.symm hncap hcm' HS64.out; clear hH5)
    | (go_at_call 98; refine (slices_CloneInts hI5 inferInstance (by omega)).mono ?_; rintro e w6 ⟨A6, c5, c6, fp6, rfl, ho6, nd6, lo6, L6⟩; have X6 := Later.trans (w := wb) inferInstance L6; obtain ⟨g6, o6, hA6, hg6, hH6⟩ := holds_of_osl ho6 (by have := HSL.out; omega); subst hA6; have hwg6 : wb.heap.size ≤ g6 := Nat.le_trans L5.size (lo6 g6 hg6); have hn6 := ho6.len; subst hn6; have hc6 := ho6.cap; have hs6 : S.length ≤ 1073741824 := (by have := HSL.out; omega); clear ho6 nd6 lo6 hg6 hI5)
    | (go_at_call 117; refine (impl_Compact (w0 := wb) hH6 inferInstance hwg6 rfl hs6 hc6).mono ?_; rintro e w7 ⟨rfl, L7⟩; clear hH6 hwg6 hs6 hc6)
   go_ret
   exact ⟨ret_int HR.out.symm, hww.trans inferInstance⟩
  have hcmp : ¬ (((Lib.compact S).length : Int) < (L.length : Int)) := by have := mt hcs.1 (by simpa using cD); omega
  have hcmpn : ¬ ((Lib.compact S).length < L.length) := by omega
  have hcmpd : decide ((Lib.compact S).length < L.length) = false := decide_eq_false hcmpn
  have hcmpe : decide (((Lib.compact S).length : Int) < (L.length : Int)) = false := decide_eq_false hcmp
  have hop : okPieces bs d.Pieces = true := okPieces_yes CN.out HA.out (by rw [← HL.out]; exact cD)
  have OP := Lib.hid hop
  have BF := Lib.hid (brkFacts HOK.out hop)
  clear hcs cD hop
  go_wp2_with first
   | (go_at_call 116; refine (impl_Sort (w0 := wb) HH.out inferInstance hwg hgl rfl (by omega)).mono ?_; rw [← HS.out]; rintro e w5 ⟨rfl, L5, hH5⟩; have hI5 := ints_of_holds hH5 HSL.out.symm hncap hcm' HS64.out; clear hH5)
   | (go_at_call 98; refine (slices_CloneInts hI5 inferInstance (by omega)).mono ?_; rintro e w6 ⟨A6, c5, c6, fp6, rfl, ho6, nd6, lo6, L6⟩; have X6 := Later.trans (w := wb) inferInstance L6; obtain ⟨g6, o6, hA6, hg6, hH6⟩ := holds_of_osl ho6 (by have := HSL.out; omega); subst hA6; have hwg6 : wb.heap.size ≤ g6 := Nat.le_trans L5.size (lo6 g6 hg6); have hn6 := ho6.len; subst hn6; have hc6 := ho6.cap; have hs6 : S.length ≤ 1073741824 := (by have := HSL.out; omega); clear ho6 nd6 lo6 hg6 hI5)
   | (go_at_call 117; refine (impl_Compact (w0 := wb) hH6 inferInstance hwg6 rfl hs6 hc6).mono ?_; rintro e w7 ⟨rfl, L7⟩; clear hH6 hwg6 hs6 hc6)
  clear hcmp hcmpn hcmpd hcmpe
  go_loopw [51] (fun i wr => ∃ k : Nat, k ≤ en0 ∧ i = .int .i64 k ∧ Hid ((d.Pieces.take k).any (overD t r) = false) ∧ Later wb wr) (fun i _ => en0 - (intOf i).toNat)
  case atStart => exact ⟨0, by omega, rfl, rfl, inferInstance⟩
  case round =>
   obtain ⟨k, hk, rfl, HV, hX⟩ := hrel
   by_cases hlt : k < en0
   ·obtain ⟨b, o, A1, n1, c1, x, rfl, hx, hc0, hi⟩ := Sl.row_ hP hlt
    have HI := Lib.hid hi
    have hxf := BF.out.at_ hx.out
    have HXP := Lib.hid hxf.1
    have HXF := Lib.hid hxf.2
    have q1 := begP_bd RF.out.time hxf.1 hxf.2
    have q2 := finP_bd RF.out.time hxf.1 hxf.2
    have hw1 : IntKind.i64.wrap (finP t x - begP t x) = finP t x - begP t x := by rw [IntKind.wrap_i64]; omega
    clear hi hxf q1 q2
    by_cases cO : r.MaxDrive < finP t x - begP t x
    ·have HR : Hid (brokenD t f bs r d.Pieces = 2) := brokenD_2 OP.out (any_at hx.out (decide_eq_true cO))
     clear hx
     go_wp2_with (go_at_call 118; refine (impl_spanOf H.out (hwb0.trans inferInstance) RF.out.time HI.out inferInstance HXP.out HXF.out).mono ?_; rintro e w9 ⟨rfl, L9⟩; have X9 := Later.trans (w := wb) inferInstance L9; have Z9 := Later.trans (w := wr) inferInstance L9)
     go_ret
     exact ⟨ret_int HR.out.symm, hww.trans inferInstance⟩
    ·have HV2 := Lib.hid (any_snoc hx.out HV.out (decide_eq_false cO : overD t r x = false))
     clear hx HV
     go_wp2_with (go_at_call 118; refine (impl_spanOf H.out (hwb0.trans inferInstance) RF.out.time HI.out inferInstance HXP.out HXF.out).mono ?_; rintro e w9 ⟨rfl, L9⟩; have X9 := Later.trans (w := wb) inferInstance L9; have Z9 := Later.trans (w := wr) inferInstance L9)
     clear hw1
     go_roundw
     case rel => exact ⟨k + 1, by omega, by go_num, HV2, inferInstance⟩
     case measure => simp [intOf]; omega
   have HV2 : Hid (d.Pieces.any (overD t r) = false) := by show _ = _; rw [← HV.out, List.take_of_length_le (by have := Hpl.out; omega)]
   clear HV
   go_wp2_with (go_at_call 119; refine (impl_gapsIn H.out (hwb0.trans inferInstance) H2.out (hwb2.trans inferInstance) H4.out.l_Pieces (hwb4.trans inferInstance) RF.out BF.out).mono ?_; rintro e w10 ⟨A9, n9, c9, fp9, rfl, ho9, nd9, lo9, L10⟩; have X10 := Later.trans (w := wb) inferInstance L10; have hG : Ints w10 A9 n9 c9 (gapsP t f d.Pieces) := ho9.reads; have hgl9 := hG.le; have Hgn := Lib.hid hG.len; clear ho9 nd9 lo9)
   go_loopw [73] (fun i wr => ∃ k : Nat, k ≤ n9 ∧ i = .int .i64 k ∧ Hid (((gapsP t f d.Pieces).take k).any (shortB r) = false) ∧ Later wb wr ∧ Later w10 wr) (fun i _ => n9 - (intOf i).toNat)
   case atStart => exact ⟨0, by omega, rfl, rfl, inferInstance, inferInstance⟩
   case round =>
    obtain ⟨k, hk, rfl, HV, hX, hX2⟩ := hrel
    by_cases hlt : k < n9
    ·obtain ⟨b, o, y, rfl, hy, hc0, _⟩ := Ints.at_ hG hlt
     by_cases cO : y < r.MinBreak
     ·have HR : Hid (brokenD t f bs r d.Pieces = 3) := brokenD_3 OP.out HV2.out (any_at hy.out (decide_eq_true cO))
      clear hy
      go_wp2_with fail
      go_ret
      exact ⟨ret_int HR.out.symm, hww.trans inferInstance⟩
     ·have HV3 := Lib.hid (any_snoc hy.out HV.out (decide_eq_false cO : shortB r y = false))
      clear hy HV
      go_wp2_with fail
      go_roundw
      case rel => exact ⟨k + 1, by omega, by go_num, HV3, inferInstance, inferInstance⟩
      case measure => simp [intOf]; omega
    have HV3 : Hid ((gapsP t f d.Pieces).any (shortB r) = false) := by show _ = _; rw [← HV.out, List.take_of_length_le (by have := Hgn.out; omega)]
    clear HV
    by_cases cL : r.MaxLength < lenD t r d.Pieces
    ·have HR : Hid (brokenD t f bs r d.Pieces = 4) := brokenD_4 OP.out HV2.out HV3.out cL
     go_wp2_with fail
     go_region_held3 (fun w' => Later wb w' ∧ Later wr w') (exact ⟨inferInstance, inferInstance⟩) (first | (go_at_call 120; refine (impl_lengthOf H.out (hwb0.trans inferInstance) H4.out (hwb4.trans inferInstance) RF.out.time RR.out BF.out).mono ?_; rintro e w11 ⟨rfl, L11⟩; have X11 := Later.trans (w := wb) inferInstance L11; have Z11 := Later.trans (w := wr) inferInstance L11))
     go_wp2
     go_ret
     exact ⟨ret_int HR.out.symm, hww.trans inferInstance⟩
    ·have HR : Hid (brokenD t f bs r d.Pieces = 0) := brokenD_0 OP.out HV2.out HV3.out cL
     go_wp2_with fail
     go_region_held3 (fun w' => Later wb w' ∧ Later wr w') (exact ⟨inferInstance, inferInstance⟩) (first | (go_at_call 120; refine (impl_lengthOf H.out (hwb0.trans inferInstance) H4.out (hwb4.trans inferInstance) RF.out.time RR.out BF.out).mono ?_; rintro e w11 ⟨rfl, L11⟩; have X11 := Later.trans (w := wb) inferInstance L11; have Z11 := Later.trans (w := wr) inferInstance L11))
     go_wp2
     go_ret
     exact ⟨ret_int HR.out.symm, hww.trans inferInstance⟩
set_option maxHeartbeats 4000000 in
theorem spec_l12Pieces {w w3 w4 : World} {bA : Option Addr} {bn bc : Nat} {bs : List (List Int)} (h3 : Sl 1 (rSl 1 rInt) w3 bA bn bc bs) (hl3 : Later w3 w) (hb3 : ∀ x, x ∈ bs → x.length ≤ 1048576) {eA0 : Option Addr} {en0 ec0 : Nat} {d : Duty} (h4 : DutyAt w4 eA0 en0 ec0 d) (hl4 : Later w4 w) (hps : Fits d.Pieces) :
  Calls Tryz.prog 128 #[.slice bA bn bc, .agg #[.slice eA0 en0 ec0]] w (Ret (.bool (okPieces bs d.Pieces)) w) := by
 have hP := h4.l_Pieces.later hl4
 have HB0 : ∀ W [Later (w.alloc (.cells #[.slice eA0 en0 ec0] 76)) W] (j : Nat), W.cell? ⟨w.heap.size, j, none⟩ = #[.slice eA0 en0 ec0][j]? := Later.boxes (t := 76) (fr := (0, 0)) (heap_new (by simp; try omega)); obtain ⟨wb, hwb⟩ : ∃ wb : World, wb = (w.alloc (.cells #[.slice eA0 en0 ec0] 76)) := ⟨_, rfl⟩; haveI hbW : Later wb (w.alloc (.cells #[.slice eA0 en0 ec0] 76)) := (by rw [hwb]; exact Later.rfl_); haveI hww : Later w wb := (by rw [hwb]; infer_instance); rw [← hwb] at HB0; have hbE := Lib.hid (congrArg (fun x : World => x.heap.size) hwb); clear hwb
 have hwb3 := hl3.trans hww
 have H3 := Lib.hid h3
 replace hP := hP.later hww
 have hpl := hP.le
 have Hpl := Lib.hid hP.len
 have HP64 := Lib.hid (rows_i64 hP)
 have RW := Lib.hid hb3
 have HPS := Lib.hid hps
 have HOG := Lib.hid (okPieces_go bs d.Pieces)
 have hbs : wb.heap.size ≤ w.heap.size + 1 := by have := hbE.out; simp at this; omega
 have hbs2 : w.heap.size + 1 ≤ wb.heap.size := by have := hbE.out; simp at this; omega
 clear h3 h4 hb3 hps
 go_enter Tryz.func128, Tryz.ntmps128
 go_wp2_with fail
 go_loopw [5, 6] (fun ov i wr => ∃ (k : Nat) (seen : List Int), k ≤ en0 ∧ i = .int .i64 k ∧ Hid (pcsGo bs (d.Pieces.drop k) seen = pcsGo bs d.Pieces []) ∧ Hid (seen.length + (d.Pieces.drop k).flatten.length ≤ 4194304) ∧ Hid (∀ y, y ∈ seen → I64 y) ∧ Hid (wr.ownsRow (w.heap.size + 1) 3 1 ov seen.length (seen.map (Value.int .i64))) ∧ Later wb wr) (fun _ i _ => en0 - (intOf i).toNat)
 case atStart => exact ⟨0, [], by omega, rfl, rfl, by show _ ≤ _; simpa using HPS.out.all, by show ∀ y, _; simp, Lib.hid (by simpa using World.ownsRow_lit (base := w.heap.size + 1) (e := 3) (size := 1) (w.alloc (.cells #[.slice eA0 en0 ec0] 76)) #[] 0 (by simp; try omega) (by simp [maxLen]) rfl), inferInstance⟩
 case round =>
  obtain ⟨k, seen, hk, rfl, HF, HZ, HY, hown, hX⟩ := hrel
  by_cases hlt : k < en0
  ·obtain ⟨b, o, A1, n1, c1, x, rfl, hx, hc0, hi⟩ := Sl.row_ hP hlt
   have HI := Lib.hid hi
   have hi0 := hi
   have hn1 := hi.le
   have Hx1 := Lib.hid hi.len
   have hxl : x.length ≤ 1048576 := HPS.out.each x (List.mem_of_getElem? hx.out)
   have HXL := Lib.hid hxl
   have HX64 := Lib.hid (HP64.out x (List.mem_of_getElem? hx.out))
   have HD := Lib.hid (drop_at hx.out)
   clear hxl hi
   by_cases cP : pieceOk bs x = true
   ·have HCP := Lib.hid cP
    have HF1 : Hid (pcsThen bs (d.Pieces.drop (k + 1)) x seen = pcsGo bs d.Pieces []) := by show _ = _; rw [← HF.out, HD.out, pcsGo_good cP]
    have HZ1 : Hid (seen.length + x.length + (d.Pieces.drop (k + 1)).flatten.length ≤ 4194304) := by have := HZ.out; rw [HD.out, List.flatten_cons, List.length_append] at this; show _ ≤ _; omega
    clear cP hx HF HZ
    go_wp2_with (go_at_call 156; refine (spec_l12Piece H3.out (hwb3.trans inferInstance) RW.out HI.out inferInstance HXL.out).mono ?_; rw [HCP.out]; rintro e w6 ⟨rfl, L6⟩; have X6 := Later.trans (w := wb) inferInstance L6; have Z6 := Later.trans (w := wr) inferInstance L6)
    go_loopw [5, 7] (fun ov i ws => ∃ (j : Nat) (sn : List Int), j ≤ n1 ∧ i = .int .i64 j ∧ Hid (pcsThen bs (d.Pieces.drop (k + 1)) (x.drop j) sn = pcsGo bs d.Pieces []) ∧ Hid (sn.length + (x.drop j).length + (d.Pieces.drop (k + 1)).flatten.length ≤ 4194304) ∧ Hid (∀ y, y ∈ sn → I64 y) ∧ Hid (ws.ownsRow (w.heap.size + 1) 3 1 ov sn.length (sn.map (Value.int .i64))) ∧ Later wb ws) (fun _ i _ => n1 - (intOf i).toNat)
    case atStart => exact ⟨0, seen, by omega, rfl, HF1, HZ1, HY, ownsRow_later hown.out (inferInstance : Later wr _), inferInstance⟩
    case round =>
     obtain ⟨j, sn, hj, rfl, HG, HW, HY2, hown2, hY⟩ := hrel
     by_cases hjt : j < n1
     ·obtain ⟨b4, o4, v, hA4, hv, hcv, _⟩ := Ints.at_ hi0 hjt
      cases hA4
      have hv64 := HX64.out v (List.mem_of_getElem? hv.out)
      have HD2 := Lib.hid (drop_at hv.out)
      obtain ⟨A9, c9, fp9, hov, ho9, _, _⟩ := OSl.ints_of_own hown2.out HY2.out
      subst hov
      have h9 : Ints wr _ _ _ _ := ho9.reads
      have HO9 := Lib.hid h9
      clear ho9 hv
      by_cases cB : v ∈ sn
      ·have HB9 : Hid (decide (v ∈ sn) = true) := decide_eq_true cB
       have HR : Hid (okPieces bs d.Pieces = false) := by show _ = _; rw [HOG.out, ← HG.out, HD2.out, pcsThen_cons_in cB]; rfl
       clear cB HG HW
       go_wp2_with (go_at_call 49; refine (spec_l1Has HO9.out inferInstance _).mono ?_; rw [HB9.out]; rintro e w8 ⟨rfl, L8⟩; have X8 := Later.trans (w := wb) inferInstance L8; have Z8 := Later.trans (w := wr) inferInstance L8)
       go_ret
       exact ⟨ret_bool HR.out.symm, hww.trans inferInstance⟩
      ·have HB9 : Hid (decide (v ∈ sn) = false) := decide_eq_false cB
       have HG2 : Hid (pcsThen bs (d.Pieces.drop (k + 1)) (x.drop (j + 1)) (sn ++ [v]) = pcsGo bs d.Pieces []) := by show _ = _; rw [← HG.out, HD2.out, pcsThen_cons_out cB]
       have HW2 : Hid ((sn ++ [v]).length + (x.drop (j + 1)).length + (d.Pieces.drop (k + 1)).flatten.length ≤ 4194304) := by have := HW.out; rw [HD2.out] at this; simp only [List.length_append, List.length_cons, List.length_nil] at this ⊢; show _ ≤ _; omega
       have HY3 : Hid (∀ y, y ∈ sn ++ [v] → I64 y) := by
        show ∀ y, _
        intro y hy
        rcases List.mem_append.1 hy with hy | hy
        ·exact HY2.out y hy
        ·simp at hy; subst hy; exact hv64
       have hsn : sn.length ≤ 1073741824 := by have := HW.out; omega
       clear cB HG HW
       go_wp2_with first
        | (go_at_call 49; refine (spec_l1Has HO9.out inferInstance _).mono ?_; rw [HB9.out]; rintro e w8 ⟨rfl, L8⟩; have X8 := Later.trans (w := wb) inferInstance L8; have Z8 := Later.trans (w := wr) inferInstance L8)
        | (at_builtin; refine wpList_app_B rfl _ _ 66 rfl Tryz.underlying66 infoInt rfl (by decide) (by decide) rfl (by exact ownsRow_later hown2.out (inferInstance : Later wr _)) (inferInstance : Later wb _) hbs (Nat.le_trans hbs2 (Later.size (w := wb) inferInstance)) rfl rfl (one_cell _ _) hsn ?_; intro v' w9 hown' hX9)
       go_roundw
       case rel => exact ⟨j + 1, sn ++ [v], by omega, by go_num, HG2, HW2, HY3, by show World.ownsRow _ _ _ _ _ _ _; rw [List.map_append, List.length_append]; exact hown', inferInstance⟩
       case measure => simp [intOf]; omega
     ·have hjn : x.drop j = [] := List.drop_eq_nil_of_le (by have := Hx1.out; omega)
      have HG2 : Hid (pcsGo bs (d.Pieces.drop (k + 1)) sn = pcsGo bs d.Pieces []) := by show _ = _; rw [← HG.out, hjn, pcsThen_nil]
      have HW2 : Hid (sn.length + (d.Pieces.drop (k + 1)).flatten.length ≤ 4194304) := by have := HW.out; show _ ≤ _; omega
      clear HG HW hjn
      go_wp2_with fail
      go_roundw
      case rel => exact ⟨k + 1, sn, by omega, by go_num, HG2, HW2, HY2, hown2, inferInstance⟩
      case measure => simp [intOf]; omega
   ·have c0 : pieceOk bs x = false := by simpa using cP
    have HCP := Lib.hid c0
    have HR : Hid (okPieces bs d.Pieces = false) := okPieces_all (all_not hx.out c0)
    clear cP hx HF HZ c0
    go_wp2_with (go_at_call 156; refine (spec_l12Piece H3.out (hwb3.trans inferInstance) RW.out HI.out inferInstance HXL.out).mono ?_; rw [HCP.out]; rintro e w6 ⟨rfl, L6⟩; have X6 := Later.trans (w := wb) inferInstance L6; have Z6 := Later.trans (w := wr) inferInstance L6)
    go_ret
    exact ⟨ret_bool HR.out.symm, hww.trans inferInstance⟩
  ·have HR : Hid (inB (en0 : Int) 1 3 = okPieces bs d.Pieces) := by
    show _ = _
    have h3 := HF.out
    rw [List.drop_eq_nil_of_le (by have := Hpl.out; omega)] at h3
    rw [HOG.out, ← h3, Hpl.out]
    rfl
   clear HF HZ
   go_wp2_with (go_at_call 87; refine (spec_l1In _ _ _ _).mono ?_; rintro e w' ⟨rfl, rfl⟩)
   go_ret
   exact ⟨ret_bool HR.out, hww.trans inferInstance⟩
set_option maxHeartbeats 4000000 in
theorem spec_l12Broken {w0 w w2 w3 : World} {sA0 : Option Addr} {sn0 sc0 : Nat} {sA1 : Option Addr} {sn1 sc1 : Nat} {sA2 : Option Addr} {sn2 sc2 : Nat} {t : Timetable} (h : TimetableAt w0 sA0 sn0 sc0 sA1 sn1 sc1 sA2 sn2 sc2 t) (hl : Later w0 w) {qA0 : Option Addr} {qn0 qc0 : Nat} {f : Fleet} (h2 : FleetAt w2 qA0 qn0 qc0 f) (hl2 : Later w2 w) {bA : Option Addr} {bn bc : Nat} {bs : List (List Int)} (h3 : Sl 1 (rSl 1 rInt) w3 bA bn bc bs) (hl3 : Later w3 w) {r : Rules} {eA0 : Option Addr} {en0 ec0 : Nat} {d : Duty} {w4 : World} (h4 : DutyAt w4 eA0 en0 ec0 d) (hl4 : Later w4 w) (hok : okBlocks t f bs = true) (rr : RulesFacts r) (hps : Fits d.Pieces) :
  Calls Tryz.prog 109 #[.agg #[.slice sA0 sn0 sc0, .slice sA1 sn1 sc1, .slice sA2 sn2 sc2], .agg #[.slice qA0 qn0 qc0, .int .i64 f.Turn], .slice bA bn bc, .agg #[.int .i64 r.SignOn, .int .i64 r.SignOff, .int .i64 r.MaxDrive, .int .i64 r.MinBreak, .int .i64 r.PaidBreak, .int .i64 r.MaxLength], .agg #[.slice eA0 en0 ec0]] w (Ret (.int .i64 (brokenD t f bs r d.Pieces)) w) := by
 have hP := h4.l_Pieces.later hl4
 have HB0 : ∀ W [Later ((((w.alloc (.cells #[.slice sA0 sn0 sc0, .slice sA1 sn1 sc1, .slice sA2 sn2 sc2] 44)).alloc (.cells #[.slice qA0 qn0 qc0, .int .i64 f.Turn] 46)).alloc (.cells #[.int .i64 r.SignOn, .int .i64 r.SignOff, .int .i64 r.MaxDrive, .int .i64 r.MinBreak, .int .i64 r.PaidBreak, .int .i64 r.MaxLength] 49)).alloc (.cells #[.slice eA0 en0 ec0] 76)) W] (j : Nat), W.cell? ⟨w.heap.size, j, none⟩ = #[.slice sA0 sn0 sc0, .slice sA1 sn1 sc1, .slice sA2 sn2 sc2][j]? := Later.boxes (t := 44) (fr := (0, 0)) ((heap_old (by simp; try omega)).trans ((heap_old (by simp; try omega)).trans ((heap_old (by simp; try omega)).trans (heap_new (by simp; try omega))))); have HB1 : ∀ W [Later ((((w.alloc (.cells #[.slice sA0 sn0 sc0, .slice sA1 sn1 sc1, .slice sA2 sn2 sc2] 44)).alloc (.cells #[.slice qA0 qn0 qc0, .int .i64 f.Turn] 46)).alloc (.cells #[.int .i64 r.SignOn, .int .i64 r.SignOff, .int .i64 r.MaxDrive, .int .i64 r.MinBreak, .int .i64 r.PaidBreak, .int .i64 r.MaxLength] 49)).alloc (.cells #[.slice eA0 en0 ec0] 76)) W] (j : Nat), W.cell? ⟨w.heap.size + 1, j, none⟩ = #[.slice qA0 qn0 qc0, .int .i64 f.Turn][j]? := Later.boxes (t := 46) (fr := (0, 0)) ((heap_old (by simp; try omega)).trans ((heap_old (by simp; try omega)).trans (heap_new (by simp; try omega)))); have HB2 : ∀ W [Later ((((w.alloc (.cells #[.slice sA0 sn0 sc0, .slice sA1 sn1 sc1, .slice sA2 sn2 sc2] 44)).alloc (.cells #[.slice qA0 qn0 qc0, .int .i64 f.Turn] 46)).alloc (.cells #[.int .i64 r.SignOn, .int .i64 r.SignOff, .int .i64 r.MaxDrive, .int .i64 r.MinBreak, .int .i64 r.PaidBreak, .int .i64 r.MaxLength] 49)).alloc (.cells #[.slice eA0 en0 ec0] 76)) W] (j : Nat), W.cell? ⟨w.heap.size + 1 + 1, j, none⟩ = #[.int .i64 r.SignOn, .int .i64 r.SignOff, .int .i64 r.MaxDrive, .int .i64 r.MinBreak, .int .i64 r.PaidBreak, .int .i64 r.MaxLength][j]? := Later.boxes (t := 49) (fr := (0, 0)) ((heap_old (by simp; try omega)).trans (heap_new (by simp; try omega))); have HB3 : ∀ W [Later ((((w.alloc (.cells #[.slice sA0 sn0 sc0, .slice sA1 sn1 sc1, .slice sA2 sn2 sc2] 44)).alloc (.cells #[.slice qA0 qn0 qc0, .int .i64 f.Turn] 46)).alloc (.cells #[.int .i64 r.SignOn, .int .i64 r.SignOff, .int .i64 r.MaxDrive, .int .i64 r.MinBreak, .int .i64 r.PaidBreak, .int .i64 r.MaxLength] 49)).alloc (.cells #[.slice eA0 en0 ec0] 76)) W] (j : Nat), W.cell? ⟨w.heap.size + 1 + 1 + 1, j, none⟩ = #[.slice eA0 en0 ec0][j]? := Later.boxes (t := 76) (fr := (0, 0)) (heap_new (by simp; try omega)); obtain ⟨wb, hwb⟩ : ∃ wb : World, wb = ((((w.alloc (.cells #[.slice sA0 sn0 sc0, .slice sA1 sn1 sc1, .slice sA2 sn2 sc2] 44)).alloc (.cells #[.slice qA0 qn0 qc0, .int .i64 f.Turn] 46)).alloc (.cells #[.int .i64 r.SignOn, .int .i64 r.SignOff, .int .i64 r.MaxDrive, .int .i64 r.MinBreak, .int .i64 r.PaidBreak, .int .i64 r.MaxLength] 49)).alloc (.cells #[.slice eA0 en0 ec0] 76)) := ⟨_, rfl⟩; haveI hbW : Later wb ((((w.alloc (.cells #[.slice sA0 sn0 sc0, .slice sA1 sn1 sc1, .slice sA2 sn2 sc2] 44)).alloc (.cells #[.slice qA0 qn0 qc0, .int .i64 f.Turn] 46)).alloc (.cells #[.int .i64 r.SignOn, .int .i64 r.SignOff, .int .i64 r.MaxDrive, .int .i64 r.MinBreak, .int .i64 r.PaidBreak, .int .i64 r.MaxLength] 49)).alloc (.cells #[.slice eA0 en0 ec0] 76)) := (by rw [hwb]; exact Later.rfl_); haveI hww : Later w wb := (by rw [hwb]; infer_instance); rw [← hwb] at HB0; rw [← hwb] at HB1; rw [← hwb] at HB2; rw [← hwb] at HB3; have hbE := Lib.hid (congrArg (fun x : World => x.heap.size) hwb); clear hwb
 have hwb0 := hl.trans hww
 have hwb2 := hl2.trans hww
 have hwb3 := hl3.trans hww
 have hwb4 := hl4.trans hww
 have H := Lib.hid h
 have H2 := Lib.hid h2
 have H3 := Lib.hid h3
 have H4 := Lib.hid h4
 replace hP := hP.later hww
 have hpl := hP.le
 have Hpl := Lib.hid hP.len
 have RW := Lib.hid (rows12 hok)
 have RR := Lib.hid rr
 have RF := Lib.hid (deadFacts hok).run
 have HPS := Lib.hid hps
 have HOK := Lib.hid hok
 clear h h2 h3 h4 rr hok hps
 by_cases cP : okPieces bs d.Pieces = true
 rotate_left
 ·have c1 : okPieces bs d.Pieces = false := by simpa using cP
  have HCP := Lib.hid c1
  have HR : Hid (brokenD t f bs r d.Pieces = 1) := brokenD_1 c1
  clear cP c1
  go_enter Tryz.func109, Tryz.ntmps109
  go_wp2_with (go_at_call 128; refine (spec_l12Pieces H3.out (hwb3.trans inferInstance) RW.out H4.out (hwb4.trans inferInstance) HPS.out).mono ?_; rw [HCP.out]; rintro e w6 ⟨rfl, L6⟩; have X6 := Later.trans (w := wb) inferInstance L6)
  go_ret
  exact ⟨ret_int HR.out.symm, hww.trans inferInstance⟩
 have OP := Lib.hid cP
 have BF := Lib.hid (brkFacts HOK.out cP)
 have hN3 : en0 ≤ 3 := by rw [hP.len]; exact BF.out.max
 have hN1 : 0 < en0 := by rw [hP.len]; exact BF.out.pos
 clear cP
 go_enter Tryz.func109, Tryz.ntmps109
 go_wp2_with (go_at_call 128; refine (spec_l12Pieces H3.out (hwb3.trans inferInstance) RW.out H4.out (hwb4.trans inferInstance) HPS.out).mono ?_; rw [OP.out]; rintro e w6 ⟨rfl, L6⟩; have X6 := Later.trans (w := wb) inferInstance L6)
 go_loopw [11] (fun i wr => ∃ k : Nat, k ≤ en0 ∧ i = .int .i64 k ∧ Hid ((d.Pieces.take k).any (overD t r) = false) ∧ Later wb wr) (fun i _ => en0 - (intOf i).toNat)
 case atStart => exact ⟨0, by omega, rfl, rfl, inferInstance⟩
 case round =>
  obtain ⟨k, hk, rfl, HV, hX⟩ := hrel
  by_cases hlt : k < en0
  ·obtain ⟨b, o, A1, n1, c1, x, rfl, hx, hc0, hi⟩ := Sl.row_ hP hlt
   have HI := Lib.hid hi
   have hxf := BF.out.at_ hx.out
   have HXP := Lib.hid hxf.1
   have HXF := Lib.hid hxf.2
   have q1 := begP_bd RF.out.time hxf.1 hxf.2
   have q2 := finP_bd RF.out.time hxf.1 hxf.2
   have hw1 : IntKind.i64.wrap (finP t x - begP t x) = finP t x - begP t x := by rw [IntKind.wrap_i64]; omega
   clear hi hxf q1 q2
   by_cases cO : r.MaxDrive < finP t x - begP t x
   ·have HR : Hid (brokenD t f bs r d.Pieces = 2) := brokenD_2 OP.out (any_at hx.out (decide_eq_true cO))
    clear hx
    go_wp2_with fail
    go_region_held3 (fun w' => Later wb w' ∧ Later wr w') (exact ⟨inferInstance, inferInstance⟩) (first
     | (go_at_call 130; refine (spec_l12Start H.out (hwb0.trans inferInstance) RF.out.time HI.out inferInstance HXP.out HXF.out).mono ?_; rintro e w7 ⟨rfl, L7⟩; have X7 := Later.trans (w := wb) inferInstance L7; have Z7 := Later.trans (w := wr) inferInstance L7)
     | (go_at_call 129; refine (spec_l12End H.out (hwb0.trans inferInstance) RF.out.time HI.out inferInstance HXP.out HXF.out).mono ?_; rintro e w8 ⟨rfl, L8⟩; have X8 := Later.trans (w := wb) inferInstance L8; have Z8 := Later.trans (w := wr) inferInstance L8))
    clear hw1
    go_wp2
    go_ret
    exact ⟨ret_int HR.out.symm, hww.trans inferInstance⟩
   ·have HV2 := Lib.hid (any_snoc hx.out HV.out (decide_eq_false cO : overD t r x = false))
    clear hx HV
    go_wp2_with fail
    go_region_held3 (fun w' => Later wb w' ∧ Later wr w') (exact ⟨inferInstance, inferInstance⟩) (first
     | (go_at_call 130; refine (spec_l12Start H.out (hwb0.trans inferInstance) RF.out.time HI.out inferInstance HXP.out HXF.out).mono ?_; rintro e w7 ⟨rfl, L7⟩; have X7 := Later.trans (w := wb) inferInstance L7; have Z7 := Later.trans (w := wr) inferInstance L7)
     | (go_at_call 129; refine (spec_l12End H.out (hwb0.trans inferInstance) RF.out.time HI.out inferInstance HXP.out HXF.out).mono ?_; rintro e w8 ⟨rfl, L8⟩; have X8 := Later.trans (w := wb) inferInstance L8; have Z8 := Later.trans (w := wr) inferInstance L8))
    clear hw1
    go_wp2
    go_roundw
    case rel => exact ⟨k + 1, by omega, by go_num, HV2, inferInstance⟩
    case measure => simp [intOf]; omega
  have HV2 : Hid (d.Pieces.any (overD t r) = false) := by show _ = _; rw [← HV.out, List.take_of_length_le (by have := Hpl.out; omega)]
  clear HV
  go_wp2_with fail
  go_loopw [12] (fun i wr => ∃ (j m : Nat), j = m + 1 ∧ m < en0 ∧ i = .int .i64 j ∧ Hid ((gapsP t f (d.Pieces.take j)).any (shortB r) = false) ∧ Later wb wr) (fun i _ => en0 - (intOf i).toNat)
  case atStart => exact ⟨1, 0, rfl, hN1, rfl, by show _ = _; rw [gapsP_one]; rfl, inferInstance⟩
  case round =>
   obtain ⟨j, m, hjm, hm, rfl, HV, hX⟩ := hrel
   by_cases hjt : j < en0
   ·obtain ⟨b, o, A1, n1, c1, x, rfl, hx, hc0, hi⟩ := Sl.row_ hP hm
    obtain ⟨b', o', A2, n2, c2, z, hA', hz, hc0', hi'⟩ := Sl.row_ hP hjt
    cases hA'
    have hxf := BF.out.at_ hx.out
    have hzf := BF.out.at_ hz.out
    have HI := Lib.hid hi
    have HI' := Lib.hid hi'
    have HXP := Lib.hid hxf.1
    have HXF := Lib.hid hxf.2
    have HZP := Lib.hid hzf.1
    have HZF := Lib.hid hzf.2
    have HGA : Hid (gapsP t f (d.Pieces.take (j + 1)) = gapsP t f (d.Pieces.take j) ++ [gapP t f x z]) := by show _ = _; subst hjm; exact gapsP_take hx.out hz.out
    have HGM : Hid ((gapsP t f d.Pieces)[m]? = some (gapP t f x z)) := by show _ = _; subst hjm; exact gapsP_at hx.out hz.out
    have hwm : IntKind.i64.wrap ((j : Int) - 1) = (m : Int) := by rw [IntKind.wrap_i64]; omega
    have hjt' : (j : Int) < en0 := by omega
    have hm' : (m : Int) < en0 := by omega
    have Hjm := Lib.hid hjm
    clear hi hi' hxf hzf hx hz hjm
    by_cases cO : gapP t f x z < r.MinBreak
    ·have HR : Hid (brokenD t f bs r d.Pieces = 3) := brokenD_3 OP.out HV2.out (any_at HGM.out (decide_eq_true cO))
     clear HV
     go_wp2_with fail
     go_region_held3 (fun w' => Later wb w' ∧ Later wr w') (exact ⟨inferInstance, inferInstance⟩) (first
      | (go_at_call 131; refine (spec_l12Gap H.out (hwb0.trans inferInstance) H2.out (hwb2.trans inferInstance) RF.out HI.out inferInstance HXP.out HXF.out HI'.out inferInstance HZP.out HZF.out).mono ?_; rintro e w9 ⟨rfl, L9⟩; have X9 := Later.trans (w := wb) inferInstance L9; have Z9 := Later.trans (w := wr) inferInstance L9))
     clear hwm
     go_wp2
     go_ret
     exact ⟨ret_int HR.out.symm, hww.trans inferInstance⟩
    ·have HV3 : Hid ((gapsP t f (d.Pieces.take (j + 1))).any (shortB r) = false) := by show _ = _; rw [HGA.out, List.any_append, HV.out]; simp [shortB]; omega
     clear HV
     go_wp2_with fail
     go_region_held3 (fun w' => Later wb w' ∧ Later wr w') (exact ⟨inferInstance, inferInstance⟩) (first
      | (go_at_call 131; refine (spec_l12Gap H.out (hwb0.trans inferInstance) H2.out (hwb2.trans inferInstance) RF.out HI.out inferInstance HXP.out HXF.out HI'.out inferInstance HZP.out HZF.out).mono ?_; rintro e w9 ⟨rfl, L9⟩; have X9 := Later.trans (w := wb) inferInstance L9; have Z9 := Later.trans (w := wr) inferInstance L9))
     clear hwm
     go_wp2
     go_roundw
     case rel => exact ⟨j + 1, j, rfl, hjt, by go_num, HV3, inferInstance⟩
     case measure => simp [intOf]; omega
   have HV3 : Hid ((gapsP t f d.Pieces).any (shortB r) = false) := by show _ = _; rw [← HV.out, List.take_of_length_le (by have := Hpl.out; omega)]
   have hjt' : ¬ ((j : Int) < en0) := by omega
   clear HV
   by_cases cL : r.MaxLength < lenD t r d.Pieces
   ·have HR : Hid (brokenD t f bs r d.Pieces = 4) := brokenD_4 OP.out HV2.out HV3.out cL
    go_wp2_with fail
    go_region_held3 (fun w' => Later wb w' ∧ Later wr w') (exact ⟨inferInstance, inferInstance⟩) (first
     | (go_at_call 132; refine (spec_l12Length H.out (hwb0.trans inferInstance) H4.out (hwb4.trans inferInstance) RF.out.time RR.out BF.out).mono ?_; rintro e w10 ⟨rfl, L10⟩; have X10 := Later.trans (w := wb) inferInstance L10; have Z10 := Later.trans (w := wr) inferInstance L10))
    go_wp2
    go_ret
    exact ⟨ret_int HR.out.symm, hww.trans inferInstance⟩
   ·have HR : Hid (brokenD t f bs r d.Pieces = 0) := brokenD_0 OP.out HV2.out HV3.out cL
    go_wp2_with fail
    go_region_held3 (fun w' => Later wb w' ∧ Later wr w') (exact ⟨inferInstance, inferInstance⟩) (first
     | (go_at_call 132; refine (spec_l12Length H.out (hwb0.trans inferInstance) H4.out (hwb4.trans inferInstance) RF.out.time RR.out BF.out).mono ?_; rintro e w10 ⟨rfl, L10⟩; have X10 := Later.trans (w := wb) inferInstance L10; have Z10 := Later.trans (w := wr) inferInstance L10))
    go_wp2
    go_ret
    exact ⟨ret_int HR.out.symm, hww.trans inferInstance⟩
end Go.Proofs.YtknhebakebmlcaaGreat
namespace Go.Proofs.YtknhebakebmlcaaGreat
open Go Go.RowKit
set_option linter.unusedVariables false
set_option maxRecDepth 100000
def dutyOk (t : Timetable) (f : Fleet) (bs : List (List Int)) (r : Rules) (ps : List (List Int)) : Bool := okRuled t f bs r && decide (brokenD t f bs r ps = 0)
structure DutyFacts (t : Timetable) (f : Fleet) (r : Rules) (ps : List (List Int)) : Prop where
 run : RunFacts t f
 rules : RulesFacts r
 brk : BrkFacts t ps
theorem dutyFacts {t : Timetable} {f : Fleet} {bs : List (List Int)} {r : Rules} {ps : List (List Int)} (h : dutyOk t f bs r ps = true) : DutyFacts t f r ps := by
 simp only [dutyOk, Bool.and_eq_true, decide_eq_true_eq] at h
 have h1 := okRuled_blocks h.1
 exact ⟨(deadFacts h1).run, okRuled_rules h.1, brkFacts h1 (brokenD_ok h.2)⟩
end Go.Proofs.YtknhebakebmlcaaGreat
