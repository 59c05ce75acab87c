/-
  Blocks: impl.SwapTails.
-/
import Derived.Test.YtbkeccpjcmhhjaaSwap
import Derived.Deep.RegionHeld3
namespace Go.Proofs.Ytbkeccpjcmhhjaa
open Go Go.RowKit
set_option linter.unusedVariables false
set_option maxRecDepth 100000
set_option linter.unusedSimpArgs false
theorem Blk.rows2 {w : World} {g : Nat} {t : TypeId} {A1 A2 : Option Addr} {n1 n2 c1 c2 : Nat} {x y : List Int} (h : Blk w g t #[.slice A1 n1 c1, .slice A2 n2 c2]) (h1 : Ints w A1 n1 c1 x) (h2 : Ints w A2 n2 c2 y) : Sl 1 (rSl 1 rInt) w (some ⟨g, 0, none⟩) 2 2 [x, y] :=
  ⟨rfl, Nat.le_refl _, by omega, fun k z hz => by
    match k, hz with
    | 0, hz =>
      simp at hz; subst hz
      exact ⟨g, 0, [.slice A1 n1 c1], rfl, rfl, fun j v hv => by
        match j, hv with
        | 0, hv => simp at hv; subst hv; exact h.cell 0, ⟨A1, n1, c1, rfl, h1⟩⟩
    | 1, hz =>
      simp at hz; subst hz
      exact ⟨g, 0, [.slice A2 n2 c2], rfl, rfl, fun j v hv => by
        match j, hv with
        | 0, hv => simp at hv; subst hv; exact h.cell 1, ⟨A2, n2, c2, rfl, h2⟩⟩⟩
theorem rows12b {t : Timetable} {f : Fleet} {bs : List (List Int)} (h : okBlocks t f bs = true) : ∀ x, x ∈ bs → x.length ≤ 12 := by
  have h1 := h
  simp only [okBlocks, Bool.and_eq_true] at h1
  have h2 := h1.2
  unfold okBlk at h2
  split at h2
  · cases h2
  · rename_i s hs
    have h3 : s.length = bs.flatten.length := by have := blkGo_len hs; simpa using this
    have h4 := (runFacts h1.1).time.len
    have h5 : s.length = t.Trips.length := by simpa using h2
    intro x hx
    have h6 := len_flat hx
    omega
theorem swapSum_le {l : List (List Int)} {m : Nat} (h : ∀ x, x ∈ l → x.length ≤ m) : sumLen l ≤ l.length * m := by
  induction l with
  | nil => simp [sumLen]
  | cons x l ih =>
    have h1 := h x (by simp)
    have h2 := ih fun y hy => h y (by simp [hy])
    simp only [sumLen, List.length_cons, Nat.succ_mul] at *
    omega
theorem swapRes_len (t : Timetable) (f : Fleet) (bs : List (List Int)) (a b : Int) : (swapRes t f bs a b).1.length ≤ 1048576 ∧ sumLen (swapRes t f bs a b).1 ≤ 1099511627776 := by
  unfold swapRes
  split
  · rename_i h
    simp only [Bool.and_eq_true] at h
    have hz : okBlocks t f (swapOf bs a b) = true := by
      have h1 := h.1.1
      simp only [okBlocks, Bool.and_eq_true] at h1 ⊢
      exact ⟨h1.1, h.2⟩
    have h2 : (swapOf bs a b).length ≤ 1048576 := Nat.le_trans (deadFacts hz).len (by omega)
    have h3 := swapSum_le (rows12 hz)
    have h4 : (swapOf bs a b).length * 1048576 ≤ 1048576 * 1048576 := Nat.mul_le_mul_right _ h2
    simp only
    omega
  · simp [sumLen]
set_option maxHeartbeats 8000000 in
theorem impl_SwapTails {w0 w w2 w3 : World} {sA0 : Option Addr} {sn0 sc0 : Nat} {sA1 : Option Addr} {sn1 sc1 : Nat} {sA2 : Option Addr} {sn2 sc2 : Nat} {t : Timetable} (h : TimetableAt w0 sA0 sn0 sc0 sA1 sn1 sc1 sA2 sn2 sc2 t) (hl : Later w0 w) {qA0 : Option Addr} {qn0 qc0 : Nat} {f : Fleet} (h2 : FleetAt w2 qA0 qn0 qc0 f) (hl2 : Later w2 w) {bA : Option Addr} {bn bc : Nat} {bs : List (List Int)} (h3 : Sl 1 (rSl 1 rInt) w3 bA bn bc bs) (hl3 : Later w3 w) (a b' : Int) :
    Calls Try.prog 52 #[.agg #[.slice sA0 sn0 sc0, .slice sA1 sn1 sc1, .slice sA2 sn2 sc2], .agg #[.slice qA0 qn0 qc0, .int .i64 f.Turn], .slice bA bn bc, .int .i64 a, .int .i64 b'] w (RetO2 1 (oSl 1 oInt) (swapRes t f bs a b').1 (swapRes t f bs a b').2 w) := by
  have hB := h3.later hl3
  have HB0 : ∀ W [Later ((w.alloc (.cells #[.slice sA0 sn0 sc0, .slice sA1 sn1 sc1, .slice sA2 sn2 sc2] 67)).alloc (.cells #[.slice qA0 qn0 qc0, .int .i64 f.Turn] 87)) W] (j : Nat), W.cell? ⟨w.heap.size, j, none⟩ = #[.slice sA0 sn0 sc0, .slice sA1 sn1 sc1, .slice sA2 sn2 sc2][j]? := Later.boxes (t := 67) (fr := (0, 0)) ((heap_old (by simp; try omega)).trans (heap_new (by simp; try omega))); have HB1 : ∀ W [Later ((w.alloc (.cells #[.slice sA0 sn0 sc0, .slice sA1 sn1 sc1, .slice sA2 sn2 sc2] 67)).alloc (.cells #[.slice qA0 qn0 qc0, .int .i64 f.Turn] 87)) W] (j : Nat), W.cell? ⟨w.heap.size + 1, j, none⟩ = #[.slice qA0 qn0 qc0, .int .i64 f.Turn][j]? := Later.boxes (t := 87) (fr := (0, 0)) (heap_new (by simp; try omega)); obtain ⟨wb, hwb⟩ : ∃ wb : World, wb = ((w.alloc (.cells #[.slice sA0 sn0 sc0, .slice sA1 sn1 sc1, .slice sA2 sn2 sc2] 67)).alloc (.cells #[.slice qA0 qn0 qc0, .int .i64 f.Turn] 87)) := ⟨_, rfl⟩; haveI hbW : Later wb ((w.alloc (.cells #[.slice sA0 sn0 sc0, .slice sA1 sn1 sc1, .slice sA2 sn2 sc2] 67)).alloc (.cells #[.slice qA0 qn0 qc0, .int .i64 f.Turn] 87)) := (by rw [hwb]; exact Later.rfl_); haveI hww : Later w wb := (by rw [hwb]; infer_instance); rw [← hwb] at HB0; rw [← hwb] at HB1; have hbE := Lib.hid (congrArg (fun x : World => x.heap.size) hwb); clear hwb
  have hwb0 := hl.trans hww
  have hwb2 := hl2.trans hww
  have hwb3 := hl3.trans hww
  have H := Lib.hid h
  have H2 := Lib.hid h2
  have H3 := Lib.hid h3
  clear h h2 h3
  replace hB := hB.later hww
  have hbl := hB.le
  have Hbl := Lib.hid hB.len
  have hbs : wb.heap.size ≤ w.heap.size + 2 := by have := hbE.out; simp at this; omega
  have hbs2 : w.heap.size + 2 ≤ wb.heap.size := by have := hbE.out; simp at this; omega
  by_cases c0 : okBlocks t f bs = true
  rotate_left
  · have c1 : okBlocks t f bs = false := by simpa using c0
    rw [show swapRes t f bs a b' = ([], false) from if_neg (by rw [c1]; simp)]
    clear c0
    go_enter Try.func52, Try.ntmps52
    go_wp2_with first
      | (go_at_call 148; refine (impl_IsValidBlocks H.out (hwb0.trans inferInstance) H2.out (hwb2.trans inferInstance) H3.out (hwb3.trans inferInstance)).mono ?_; rintro e w1 ⟨rfl, L1⟩; have X1 := Later.trans (w := wb) inferInstance L1)
      | ((with_reducible refine (impl_placeIn H3.out (hwb3.trans inferInstance) a).mono ?_); rintro e w2 ⟨rfl, L2⟩; have X2 := Later.trans (w := wb) inferInstance L2)
      | ((with_reducible refine (impl_placeIn H3.out (hwb3.trans inferInstance) b').mono ?_); rintro e w3 ⟨rfl, L3⟩; have X3 := Later.trans (w := wb) inferInstance L3)
    go_ret2
    exact ⟨_, _, _, [], rfl, OSl.nil_ _, by simp, by simp, hww.trans inferInstance⟩
  have RF := Lib.hid (runFacts (show okRun t f = true by have h9 := c0; simp only [okBlocks, Bool.and_eq_true] at h9; exact h9.1))
  by_cases ca : 0 ≤ (placeOf 0 a bs).1
  rotate_left
  · rw [show swapRes t f bs a b' = ([], false) from if_neg (by unfold swapPre; rw [decide_eq_false ca]; simp)]
    have c2 : (placeOf 0 a bs).1 < 0 := by omega
    have c3 : decide ((placeOf 0 a bs).1 < 0) = true := decide_eq_true c2
    clear ca
    go_enter Try.func52, Try.ntmps52
    go_wp2_with first
      | (go_at_call 148; refine (impl_IsValidBlocks H.out (hwb0.trans inferInstance) H2.out (hwb2.trans inferInstance) H3.out (hwb3.trans inferInstance)).mono ?_; rintro e w1 ⟨rfl, L1⟩; have X1 := Later.trans (w := wb) inferInstance L1)
      | ((with_reducible refine (impl_placeIn H3.out (hwb3.trans inferInstance) a).mono ?_); rintro e w2 ⟨rfl, L2⟩; have X2 := Later.trans (w := wb) inferInstance L2)
      | ((with_reducible refine (impl_placeIn H3.out (hwb3.trans inferInstance) b').mono ?_); rintro e w3 ⟨rfl, L3⟩; have X3 := Later.trans (w := wb) inferInstance L3)
    go_ret2
    exact ⟨_, _, _, [], rfl, OSl.nil_ _, by simp, by simp, hww.trans inferInstance⟩
  by_cases cc : 0 ≤ (placeOf 0 b' bs).1
  rotate_left
  · rw [show swapRes t f bs a b' = ([], false) from if_neg (by unfold swapPre; rw [decide_eq_false cc]; simp)]
    have c2 : (placeOf 0 b' bs).1 < 0 := by omega
    have c3 : decide ((placeOf 0 b' bs).1 < 0) = true := decide_eq_true c2
    have c4 : ¬ (placeOf 0 a bs).1 < 0 := by omega
    have c5 : decide ((placeOf 0 a bs).1 < 0) = false := decide_eq_false c4
    clear cc ca
    go_enter Try.func52, Try.ntmps52
    go_wp2_with first
      | (go_at_call 148; refine (impl_IsValidBlocks H.out (hwb0.trans inferInstance) H2.out (hwb2.trans inferInstance) H3.out (hwb3.trans inferInstance)).mono ?_; rintro e w1 ⟨rfl, L1⟩; have X1 := Later.trans (w := wb) inferInstance L1)
      | ((with_reducible refine (impl_placeIn H3.out (hwb3.trans inferInstance) a).mono ?_); rintro e w2 ⟨rfl, L2⟩; have X2 := Later.trans (w := wb) inferInstance L2)
      | ((with_reducible refine (impl_placeIn H3.out (hwb3.trans inferInstance) b').mono ?_); rintro e w3 ⟨rfl, L3⟩; have X3 := Later.trans (w := wb) inferInstance L3)
    go_ret2
    exact ⟨_, _, _, [], rfl, OSl.nil_ _, by simp, by simp, hww.trans inferInstance⟩
  obtain ⟨m, p, x, hpo, hx, hj⟩ := placeOf_at ca
  obtain ⟨k, q, y, hpo2, hy, hj2⟩ := placeOf_at cc
  have HPA := Lib.hid hpo
  have HPB := Lib.hid hpo2
  by_cases cm : m = k
  · rw [show swapRes t f bs a b' = ([], false) from if_neg (by unfold swapPre; rw [hpo, hpo2, cm]; simp)]
    have e1 := (beqi_t (show (m : Int) = (k : Int) by omega)).1
    subst cm
    clear ca cc hpo hpo2 hx hy hj hj2
    go_enter Try.func52, Try.ntmps52
    go_wp2_with first
      | (go_at_call 148; refine (impl_IsValidBlocks H.out (hwb0.trans inferInstance) H2.out (hwb2.trans inferInstance) H3.out (hwb3.trans inferInstance)).mono ?_; rintro e w1 ⟨rfl, L1⟩; have X1 := Later.trans (w := wb) inferInstance L1)
      | ((with_reducible refine (impl_placeIn H3.out (hwb3.trans inferInstance) a).mono ?_); rw [HPA.out]; rintro e w2 ⟨rfl, L2⟩; have X2 := Later.trans (w := wb) inferInstance L2)
      | ((with_reducible refine (impl_placeIn H3.out (hwb3.trans inferInstance) b').mono ?_); rw [HPB.out]; rintro e w3 ⟨rfl, L3⟩; have X3 := Later.trans (w := wb) inferInstance L3)
    go_ret2
    exact ⟨_, _, _, [], rfl, OSl.nil_ _, by simp, by simp, hww.trans inferInstance⟩
  have hso : swapOf bs a b' = swapA bs m k x y p q := by
    unfold swapOf
    rw [hpo, hpo2]
    simp only [blkI_of hx, blkI_of hy, Int.toNat_natCast]
  have hsr : swapRes t f bs a b' = if okBlk t f (swapA bs m k x y p q) = true then (swapA bs m k x y p q, true) else ([], false) := by
    unfold swapRes
    rw [hso, c0]
    have : swapPre bs a b' = true := by unfold swapPre; rw [hpo, hpo2]; simp; omega
    rw [this]
    simp
  have HSR := Lib.hid hsr
  have e1 := (beqi_f (show ¬ (m : Int) = (k : Int) by omega)).1
  have hmn : m < bn := by rw [hB.len]; exact (List.getElem?_eq_some_iff.1 hx).1
  have hkn : k < bn := by rw [hB.len]; exact (List.getElem?_eq_some_iff.1 hy).1
  obtain ⟨b, o, A1, n1, c1, x', rfl, hx', hc0, hi⟩ := Sl.row_ hB hmn
  obtain rfl : x' = x := Option.some.inj (hx'.out.symm.trans hx)
  obtain ⟨b2, o2, A2, n2, c2, y', hA2, hy', hc0', hi'⟩ := Sl.row_ hB hkn
  cases hA2
  obtain rfl : y' = y := Option.some.inj (hy'.out.symm.trans hy)
  have hpn : p < n1 := by rw [hi.len]; exact (List.getElem?_eq_some_iff.1 hj).1
  have hqn : q < n2 := by rw [hi'.len]; exact (List.getElem?_eq_some_iff.1 hj2).1
  obtain ⟨b3, o3, _, rfl, _, _, _⟩ := Ints.at_ hi hpn
  obtain ⟨b4, o4, _, rfl, _, _, _⟩ := Ints.at_ hi' hqn
  have hxl := rows12 c0 x' (List.mem_of_getElem? hx)
  have hyl := rows12 c0 y' (List.mem_of_getElem? hy)
  have hn1 : n1 ≤ 1048576 := by rw [hi.len]; exact hxl
  have hn2 : n2 ≤ 1048576 := by rw [hi'.len]; exact hyl
  obtain ⟨p1, hp1⟩ : ∃ z : Nat, z = p + 1 := ⟨_, rfl⟩
  obtain ⟨q1, hq1⟩ : ∃ z : Nat, z = q + 1 := ⟨_, rfl⟩
  have hcap1 := hi.cap
  have hcap2 := hi'.cap
  have hmx1 := hi.max
  have hmx2 := hi'.max
  have HX1 := Lib.hid (Sl.front hi (show p1 ≤ n1 by omega))
  have HX2 := Lib.hid (Sl.back hi (show p1 ≤ n1 by omega))
  have HY1 := Lib.hid (Sl.front hi' (show q1 ≤ n2 by omega))
  have HY2 := Lib.hid (Sl.back hi' (show q1 ≤ n2 by omega))
  have HR64 := Lib.hid (rows_i64' hB)
  have HX64 : Hid (∀ v, v ∈ x' → I64 v) := HR64.out x' (List.mem_of_getElem? hx)
  have HY64 : Hid (∀ v, v ∈ y' → I64 v) := HR64.out y' (List.mem_of_getElem? hy)
  have hwp : IntKind.i64.wrap ((p : Int) + 1) = (p1 : Int) := by rw [IntKind.wrap_i64]; omega
  have hwq : IntKind.i64.wrap ((q : Int) + 1) = (q1 : Int) := by rw [IntKind.wrap_i64]; omega
  have d0 : (0 : Int) ≤ (p1 : Int) := by omega
  have d00 : (0 : Int) ≤ (q1 : Int) := by omega
  have d1 : (p1 : Int) ≤ (n1 : Int) := by omega
  have d2 : (p1 : Int) ≤ (c1 : Int) := by omega
  have d3 : (q1 : Int) ≤ (n2 : Int) := by omega
  have d4 : (q1 : Int) ≤ (c2 : Int) := by omega
  have hm' : (m : Int) < bn := by omega
  have hk' : (k : Int) < bn := by omega
  have Hcm := Lib.hid cm
  have hb12 : bs.length ≤ 1048576 := Nat.le_trans (deadFacts c0).len (by omega)
  have hbn12 : bn ≤ 1048576 := by rw [hB.len]; exact hb12
  have HXB : Hid (bs[m]? = some x') := hx
  have HYB : Hid (bs[k]? = some y') := hy
  have HROW := Lib.hid (fun (j : Nat) (z : List Int) (hz : bs[j]? = some z) => rows12 c0 z (List.mem_of_getElem? hz))
  have hxl1 : Hid (x'.length = n1) := hi.len.symm
  have hyl1 : Hid (y'.length = n2) := hi'.len.symm
  have HBB := Lib.hid hB
  obtain ⟨BX, hBX⟩ : ∃ A : Option Addr, A = (if c1 = p1 then some ⟨b3, o3, none⟩ else some ⟨b3, o3 + p1, none⟩) := ⟨_, rfl⟩
  obtain ⟨BY, hBY⟩ : ∃ A : Option Addr, A = (if c2 = q1 then some ⟨b4, o4, none⟩ else some ⟨b4, o4 + q1, none⟩) := ⟨_, rfl⟩
  rw [← hBX] at HX2
  rw [← hBY] at HY2
  have HBXe := Lib.hid hBX
  have HBYe := Lib.hid hBY
  have hx12 : Hid (x'.length ≤ 12) := rows12b c0 x' (List.mem_of_getElem? hx)
  have hy12 : Hid (y'.length ≤ 12) := rows12b c0 y' (List.mem_of_getElem? hy)
  have HSW : Hid ((bs.set m (x'.take p1 ++ y'.drop q1)).set k (y'.take q1 ++ x'.drop p1) = swapA bs m k x' y' p q) := by show _ = _; rw [hp1, hq1]; rfl
  clear ca cc hpo hpo2 hx hy hj hj2 hso hsr hx' hy' hi hi' hxl hyl cm hb12 hp1 hq1 hBX hBY
  go_enter Try.func52, Try.ntmps52
  go_wp2_with first
    | (go_at_call 148; refine (impl_IsValidBlocks H.out (hwb0.trans inferInstance) H2.out (hwb2.trans inferInstance) H3.out (hwb3.trans inferInstance)).mono ?_; rintro e w1 ⟨rfl, L1⟩; have X1 := Later.trans (w := wb) inferInstance L1)
    | ((with_reducible refine (impl_placeIn H3.out (hwb3.trans inferInstance) a).mono ?_); rw [HPA.out]; rintro e w2 ⟨rfl, L2⟩; have X2 := Later.trans (w := wb) inferInstance L2)
    | ((with_reducible refine (impl_placeIn H3.out (hwb3.trans inferInstance) b').mono ?_); rw [HPB.out]; rintro e w3 ⟨rfl, L3⟩; have X3 := Later.trans (w := wb) inferInstance L3)
    | (go_at_call 150; refine (impl_copyLists HBB.out inferInstance hbn12 HROW.out).mono ?_; rintro e w4 ⟨A4, n4, c4, fp4, rfl, ho4, nd4, lo4, L4⟩; have HLO4 := Lib.hid (fun g hg => Nat.le_trans (Later.size (w := wb) inferInstance) (lo4 g hg)); have X4 := Later.trans (w := wb) inferInstance L4)
  obtain rfl : n4 = bn := by rw [ho4.len, Hbl.out]
  have HL4 : Hid (∀ g, g ∈ fp4 → w.heap.size + 2 ≤ g) := Lib.hid (fun g hg => by have := HLO4.out g hg; omega)
  obtain ⟨g5, o5, t5, cs, rfl, hBg, hgm, hsz, hrep⟩ := OSl.replace ho4 nd4 HXB.out
  have HREP := Lib.hid hrep
  have HSZ : Hid (o5 + m < cs.size) := by have := hsz 0 (by omega); show _ < _; omega
  haveI hNg : New wb g5 := ⟨HLO4.out _ hgm⟩
  clear hsz hrep ho4 nd4 lo4
  refine wp_region_held_drew (S := (fun w' => Later wb w')) (by kernel_rfl) (by exact inferInstance) (fun hHeld => ?_)
  refine wpAnyH_take (i := 0) (v := ?_) (by simp only [List.getElem?_toArray, List.getElem?_cons_zero] <;> rfl) (by kernel_rfl) (by kernel_rfl) (by kernel_rfl) (by exact fun _ _ _ h => h) (Or.inl ⟨by kernel_rfl, ?_⟩) (by assumption) ?_
  rotate_left
  · intro w' hSw; (try dsimp only at hSw); go_simp; try with_reducible rfl
  try simp only [Act.put, List.setIfInBounds_toArray, List.set_cons_zero, List.set_cons_succ]
  refine wpAnyH_take (i := 1) (v := ?_) (by simp only [List.getElem?_toArray, List.getElem?_cons_succ, List.getElem?_cons_zero] <;> rfl) (by kernel_rfl) (by kernel_rfl) (by kernel_rfl) (by exact fun _ _ _ h => h) (Or.inl ⟨by kernel_rfl, ?_⟩) (by assumption) ?_
  rotate_left
  · intro w' hSw; (try dsimp only at hSw); go_simp; try with_reducible rfl
  try simp only [Act.put, List.setIfInBounds_toArray, List.set_cons_zero, List.set_cons_succ]
  refine wpAnyH_take (i := 2) (v := ?_) (by simp only [List.getElem?_toArray, List.getElem?_cons_succ, List.getElem?_cons_zero] <;> rfl) (by kernel_rfl) (by kernel_rfl) (by kernel_rfl) (by exact fun _ _ _ h => h) (Or.inl ⟨by kernel_rfl, ?_⟩) (by assumption) ?_
  rotate_left
  · intro w' hSw; (try dsimp only at hSw); go_simp; try with_reducible rfl
  try simp only [Act.put, List.setIfInBounds_toArray, List.set_cons_zero, List.set_cons_succ]
  refine wpAnyH_take (i := 3) (v := ?_) (by simp only [List.getElem?_toArray, List.getElem?_cons_succ, List.getElem?_cons_zero] <;> rfl) (by kernel_rfl) (by kernel_rfl) (by kernel_rfl) (by exact fun _ _ _ h => h) (Or.inl ⟨by kernel_rfl, ?_⟩) (by assumption) ?_
  rotate_left
  · intro w' hSw; (try dsimp only at hSw); go_simp; try with_reducible rfl
  try simp only [Act.put, List.setIfInBounds_toArray, List.set_cons_zero, List.set_cons_succ]
  refine wpAnyH_take (i := 4) (v := ?_) (by simp only [List.getElem?_toArray, List.getElem?_cons_succ, List.getElem?_cons_zero] <;> rfl) (by kernel_rfl) (by kernel_rfl) (by kernel_rfl) (by exact fun _ _ _ h => h) (Or.inl ⟨by kernel_rfl, ?_⟩) (by assumption) ?_
  rotate_left
  · intro w' hSw; (try dsimp only at hSw); go_simp; try with_reducible rfl
  try simp only [Act.put, List.setIfInBounds_toArray, List.set_cons_zero, List.set_cons_succ]
  refine wpAnyH_take (i := 5) (v := ?_) (by simp only [List.getElem?_toArray, List.getElem?_cons_succ, List.getElem?_cons_zero] <;> rfl) (by kernel_rfl) (by kernel_rfl) (by kernel_rfl) (by exact fun _ _ _ h => h) (Or.inl ⟨by kernel_rfl, ?_⟩) (by assumption) ?_
  rotate_left
  · intro w' hSw; (try dsimp only at hSw); go_simp; try with_reducible rfl
  try simp only [Act.put, List.setIfInBounds_toArray, List.set_cons_zero, List.set_cons_succ]
  refine wpAnyH_take (i := 6) (v := ?_) (by simp only [List.getElem?_toArray, List.getElem?_cons_succ, List.getElem?_cons_zero] <;> rfl) (by kernel_rfl) (by kernel_rfl) (by kernel_rfl) (by exact fun _ _ _ h => h) (Or.inl ⟨by kernel_rfl, ?_⟩) (by assumption) ?_
  rotate_left
  · intro w' hSw; (try dsimp only at hSw); go_simp; try with_reducible rfl
  try simp only [Act.put, List.setIfInBounds_toArray, List.set_cons_zero, List.set_cons_succ]
  refine wpAnyH_take (i := 7) (v := ?_) (by simp only [List.getElem?_toArray, List.getElem?_cons_succ, List.getElem?_cons_zero] <;> rfl) (by kernel_rfl) (by kernel_rfl) (by kernel_rfl) (by exact fun _ _ _ h => h) (Or.inl ⟨by kernel_rfl, ?_⟩) (by assumption) ?_
  rotate_left
  · intro w' hSw; (try dsimp only at hSw); go_simp; try with_reducible rfl
  try simp only [Act.put, List.setIfInBounds_toArray, List.set_cons_zero, List.set_cons_succ]
  refine wpAnyH_take (i := 8) (v := ?_) (by simp only [List.getElem?_toArray, List.getElem?_cons_succ, List.getElem?_cons_zero] <;> rfl) (by kernel_rfl) (by kernel_rfl) (by kernel_rfl) (by exact fun _ _ _ h => h) (Or.inl ⟨by kernel_rfl, ?_⟩) (by assumption) ?_
  rotate_left
  · intro w' hSw; (try dsimp only at hSw); go_simp; try with_reducible rfl
  try simp only [Act.put, List.setIfInBounds_toArray, List.set_cons_zero, List.set_cons_succ]
  refine wpAnyH_take (i := 9) (v := ?_) (by simp only [List.getElem?_toArray, List.getElem?_cons_succ, List.getElem?_cons_zero] <;> rfl) (by kernel_rfl) (by kernel_rfl) (by kernel_rfl) (by exact fun _ _ _ h => h) (Or.inl ⟨by kernel_rfl, ?_⟩) (by assumption) ?_
  rotate_left
  · intro w' hSw; (try dsimp only at hSw); go_simp; try with_reducible rfl
  try simp only [Act.put, List.setIfInBounds_toArray, List.set_cons_zero, List.set_cons_succ]
  refine wpAnyH_take (i := 10) (v := ?_) (by simp only [List.getElem?_toArray, List.getElem?_cons_succ, List.getElem?_cons_zero] <;> rfl) (by kernel_rfl) (by kernel_rfl) (by kernel_rfl) (by exact fun _ _ _ h => h) (Or.inl ⟨by kernel_rfl, ?_⟩) (by assumption) ?_
  rotate_left
  · intro w' hSw; (try dsimp only at hSw); go_simp; try with_reducible rfl
  try simp only [Act.put, List.setIfInBounds_toArray, List.set_cons_zero, List.set_cons_succ]
  refine wpAnyH_take (i := 11) (v := ?_) (by simp only [List.getElem?_toArray, List.getElem?_cons_succ, List.getElem?_cons_zero] <;> rfl) (by kernel_rfl) (by kernel_rfl) (by kernel_rfl) (by exact fun _ _ _ h => h) (Or.inl ⟨by kernel_rfl, ?_⟩) (by assumption) ?_
  rotate_left
  · intro w' hSw; (try dsimp only at hSw); go_simp; try with_reducible rfl
  try simp only [Act.put, List.setIfInBounds_toArray, List.set_cons_zero, List.set_cons_succ]
  refine wpAnyH_take (i := 12) (v := ?_) (by simp only [List.getElem?_toArray, List.getElem?_cons_succ, List.getElem?_cons_zero] <;> rfl) (by kernel_rfl) (by kernel_rfl) (by kernel_rfl) (by exact fun _ _ _ h => h) (Or.inl ⟨by kernel_rfl, ?_⟩) (by assumption) ?_
  rotate_left
  · intro w' hSw; (try dsimp only at hSw); go_simp; try with_reducible rfl
  try simp only [Act.put, List.setIfInBounds_toArray, List.set_cons_zero, List.set_cons_succ]
  refine wpAnyH_take (i := 13) (v := ?_) (by simp only [List.getElem?_toArray, List.getElem?_cons_succ, List.getElem?_cons_zero] <;> rfl) (by kernel_rfl) (by kernel_rfl) (by kernel_rfl) (by exact fun _ _ _ h => h) (Or.inl ⟨by kernel_rfl, ?_⟩) (by assumption) ?_
  rotate_left
  · intro w' hSw; (try dsimp only at hSw); go_simp; try with_reducible rfl
  try simp only [Act.put, List.setIfInBounds_toArray, List.set_cons_zero, List.set_cons_succ]
  refine wpAnyH_take (i := 14) (v := ?_) (by simp only [List.getElem?_toArray, List.getElem?_cons_succ, List.getElem?_cons_zero] <;> rfl) (by kernel_rfl) (by kernel_rfl) (by kernel_rfl) (by exact fun _ _ _ h => h) (Or.inl ⟨by kernel_rfl, ?_⟩) (by assumption) ?_
  rotate_left
  · intro w' hSw; (try dsimp only at hSw); go_simp; try with_reducible rfl
  try simp only [Act.put, List.setIfInBounds_toArray, List.set_cons_zero, List.set_cons_succ]
  refine wpAnyH_take (i := 15) (v := ?_) (by simp only [List.getElem?_toArray, List.getElem?_cons_succ, List.getElem?_cons_zero] <;> rfl) (by kernel_rfl) (by kernel_rfl) (by kernel_rfl) (by exact fun _ _ _ h => h) (Or.inl ⟨by kernel_rfl, ?_⟩) (by assumption) ?_
  rotate_left
  · intro w' hSw; (try dsimp only at hSw); go_simp; try with_reducible rfl
  try simp only [Act.put, List.setIfInBounds_toArray, List.set_cons_zero, List.set_cons_succ]
  refine wpAnyH_ready (rs := [16]) (by kernel_rfl) (by simp) (AllReadyH.cons rfl (fun K hK => ?_) AllReadyH.nil)
  go_simp
  (rw [← HBYe.out]; obtain ⟨wc, hwc⟩ : ∃ W : World, W = (w4.alloc (.cells #[.slice (some ⟨b3, o3, none⟩) p1 c1, .slice BY (n2 - q1) (c2 - q1)] 111)).drew := ⟨_, rfl⟩; rw [← hwc]; have hbc : Blk wc w4.heap.size 111 #[.slice (some ⟨b3, o3, none⟩) p1 c1, .slice BY (n2 - q1) (c2 - q1)] := (by rw [hwc]; exact Blk.new _ _ _); haveI hlc : Later w4 wc := (by rw [hwc]; infer_instance); haveI hyc := Later.trans (w := wb) inferInstance hlc; have HRW := Lib.hid (hbc.rows2 (HX1.out.later inferInstance) (HY2.out.later inferInstance)); clear hwc hbc)
  refine hK.out _ _ (by exact inferInstance) (fun hHeld => ?_)
  try simp only [Act.put, List.setIfInBounds_toArray, List.set_cons_zero, List.set_cons_succ]
  refine wpAnyH_ready (rs := [17]) (by kernel_rfl) (by simp) (AllReadyH.cons rfl (fun K hK => ?_) AllReadyH.nil)
  go_simp
  (go_at_call 151; (refine (slices_ConcatInts HRW.out inferInstance (by have h1 := hx12.out; have h2 := hy12.out; simp; omega)).mono ?_; rintro e w5 ⟨A6, n6, c6, f6, rfl, o6, nd6, lo6, L5⟩; have X57 := Later.trans (w := wb) inferInstance L5; have Y57 := Later.trans (w := w4) inferInstance L5; have hBg5 := hBg.later Y57; obtain ⟨v0, hv0⟩ := hBg5.get HSZ.out; have hfz := hBg5.frozen (o5 + m); have H6 := Lib.hid o6; have N6 := Lib.hid nd6; have L6 : Hid (∀ g, g ∈ f6 → w4.heap.size ≤ g) := Lib.hid (fun g hg => Nat.le_trans (Later.size (w := w4) inferInstance) (lo6 g hg)); clear o6 nd6 lo6))
  refine hK.out _ _ (by exact inferInstance) (fun hHeld => ?_)
  try simp only [Act.put, List.setIfInBounds_toArray, List.set_cons_zero, List.set_cons_succ]
  refine wpAnyH_take (i := 18) (v := ?_) (by simp only [List.getElem?_toArray, List.getElem?_cons_succ, List.getElem?_cons_zero] <;> rfl) (by kernel_rfl) (by kernel_rfl) (by kernel_rfl) (by exact fun _ _ _ h => h) (Or.inl ⟨by kernel_rfl, ?_⟩) (by assumption) ?_
  rotate_left
  · intro w' hSw; (try dsimp only at hSw); go_simp; try with_reducible rfl
  try simp only [Act.put, List.setIfInBounds_toArray, List.set_cons_zero, List.set_cons_succ]
  refine wpAnyH_ready (rs := [19]) (by kernel_rfl) (by simp) (AllReadyH.cons rfl (fun K hK => ?_) AllReadyH.nil)
  go_simp
  (obtain ⟨wB, hwB⟩ : ∃ W : World, W = w5.setCell ⟨g5, o5 + m, none⟩ (.slice A6 n6 c6) := ⟨_, rfl⟩; rw [← hwB]; haveI hyB : Later wb wB := (by rw [hwB]; infer_instance))
  refine hK.out _ _ (by exact inferInstance) (fun hHeld => ?_)
  try simp only [Act.put, List.setIfInBounds_toArray, List.set_cons_zero, List.set_cons_succ]
  refine wpAnyH_done (by kernel_rfl) ?_ _
  obtain ⟨fp7, o7, nd7, hmem⟩ := HREP.out w5 wB (cs.setIfInBounds (o5 + m) (.slice A6 n6 c6)) [.slice A6 n6 c6] (x'.take p1 ++ y'.drop q1) f6 Y57 ⟨A6, n6, c6, rfl, by have h9 := H6.out; simpa using h9⟩ N6.out L6.out (by rw [hwB]; exact Touch.set_one _ _ _ _) (by rw [hwB]; exact hBg5.set_ _ _) (fun i hi => set_ne _ (by omega)) rfl (fun i v hv => by
    match i, hv with
    | 0, hv => simp at hv; subst hv; simpa using set_eq _ HSZ.out)
  have HO7 := Lib.hid o7
  have HN7 := Lib.hid nd7
  have HL7 : Hid (∀ g, g ∈ fp7 → w.heap.size + 2 ≤ g) := Lib.hid (fun g hg => by
    rcases hmem g hg with h | h
    · exact HL4.out g h
    · have h1 := L6.out g h
      have h2 : wb.heap.size ≤ w4.heap.size := Later.size (w := wb) (W := w4) inferInstance
      omega)
  clear hmem o7 nd7 hBg hBg5 HREP HSZ hwB hv0 hfz H6 N6 L6 hgm
  have hy2 : (bs.set m (x'.take p1 ++ y'.drop q1))[k]? = some y' := by rw [List.getElem?_set_ne Hcm.out]; exact HYB.out
  obtain ⟨g6, o6, t6, cs, hA6, hBg, hgm, hsz, hrep⟩ := OSl.replace HO7.out HN7.out hy2
  cases hA6
  have HREP := Lib.hid hrep
  have HSZ : Hid (o5 + k < cs.size) := by have := hsz 0 (by omega); show _ < _; omega
  clear hsz hrep
  go_wp2_with fail
  refine wp_region_held_drew (S := (fun w' => Later wb w')) (by kernel_rfl) (by exact inferInstance) (fun hHeld => ?_)
  refine wpAnyH_take (i := 0) (v := ?_) (by simp only [List.getElem?_toArray, List.getElem?_cons_zero] <;> rfl) (by kernel_rfl) (by kernel_rfl) (by kernel_rfl) (by exact fun _ _ _ h => h) (Or.inl ⟨by kernel_rfl, ?_⟩) (by assumption) ?_
  rotate_left
  · intro w' hSw; (try dsimp only at hSw); go_simp; try with_reducible rfl
  try simp only [Act.put, List.setIfInBounds_toArray, List.set_cons_zero, List.set_cons_succ]
  refine wpAnyH_take (i := 1) (v := ?_) (by simp only [List.getElem?_toArray, List.getElem?_cons_succ, List.getElem?_cons_zero] <;> rfl) (by kernel_rfl) (by kernel_rfl) (by kernel_rfl) (by exact fun _ _ _ h => h) (Or.inl ⟨by kernel_rfl, ?_⟩) (by assumption) ?_
  rotate_left
  · intro w' hSw; (try dsimp only at hSw); go_simp; try with_reducible rfl
  try simp only [Act.put, List.setIfInBounds_toArray, List.set_cons_zero, List.set_cons_succ]
  refine wpAnyH_take (i := 2) (v := ?_) (by simp only [List.getElem?_toArray, List.getElem?_cons_succ, List.getElem?_cons_zero] <;> rfl) (by kernel_rfl) (by kernel_rfl) (by kernel_rfl) (by exact fun _ _ _ h => h) (Or.inl ⟨by kernel_rfl, ?_⟩) (by assumption) ?_
  rotate_left
  · intro w' hSw; (try dsimp only at hSw); go_simp; try with_reducible rfl
  try simp only [Act.put, List.setIfInBounds_toArray, List.set_cons_zero, List.set_cons_succ]
  refine wpAnyH_take (i := 3) (v := ?_) (by simp only [List.getElem?_toArray, List.getElem?_cons_succ, List.getElem?_cons_zero] <;> rfl) (by kernel_rfl) (by kernel_rfl) (by kernel_rfl) (by exact fun _ _ _ h => h) (Or.inl ⟨by kernel_rfl, ?_⟩) (by assumption) ?_
  rotate_left
  · intro w' hSw; (try dsimp only at hSw); go_simp; try with_reducible rfl
  try simp only [Act.put, List.setIfInBounds_toArray, List.set_cons_zero, List.set_cons_succ]
  refine wpAnyH_take (i := 4) (v := ?_) (by simp only [List.getElem?_toArray, List.getElem?_cons_succ, List.getElem?_cons_zero] <;> rfl) (by kernel_rfl) (by kernel_rfl) (by kernel_rfl) (by exact fun _ _ _ h => h) (Or.inl ⟨by kernel_rfl, ?_⟩) (by assumption) ?_
  rotate_left
  · intro w' hSw; (try dsimp only at hSw); go_simp; try with_reducible rfl
  try simp only [Act.put, List.setIfInBounds_toArray, List.set_cons_zero, List.set_cons_succ]
  refine wpAnyH_take (i := 5) (v := ?_) (by simp only [List.getElem?_toArray, List.getElem?_cons_succ, List.getElem?_cons_zero] <;> rfl) (by kernel_rfl) (by kernel_rfl) (by kernel_rfl) (by exact fun _ _ _ h => h) (Or.inl ⟨by kernel_rfl, ?_⟩) (by assumption) ?_
  rotate_left
  · intro w' hSw; (try dsimp only at hSw); go_simp; try with_reducible rfl
  try simp only [Act.put, List.setIfInBounds_toArray, List.set_cons_zero, List.set_cons_succ]
  refine wpAnyH_take (i := 6) (v := ?_) (by simp only [List.getElem?_toArray, List.getElem?_cons_succ, List.getElem?_cons_zero] <;> rfl) (by kernel_rfl) (by kernel_rfl) (by kernel_rfl) (by exact fun _ _ _ h => h) (Or.inl ⟨by kernel_rfl, ?_⟩) (by assumption) ?_
  rotate_left
  · intro w' hSw; (try dsimp only at hSw); go_simp; try with_reducible rfl
  try simp only [Act.put, List.setIfInBounds_toArray, List.set_cons_zero, List.set_cons_succ]
  refine wpAnyH_take (i := 7) (v := ?_) (by simp only [List.getElem?_toArray, List.getElem?_cons_succ, List.getElem?_cons_zero] <;> rfl) (by kernel_rfl) (by kernel_rfl) (by kernel_rfl) (by exact fun _ _ _ h => h) (Or.inl ⟨by kernel_rfl, ?_⟩) (by assumption) ?_
  rotate_left
  · intro w' hSw; (try dsimp only at hSw); go_simp; try with_reducible rfl
  try simp only [Act.put, List.setIfInBounds_toArray, List.set_cons_zero, List.set_cons_succ]
  refine wpAnyH_take (i := 8) (v := ?_) (by simp only [List.getElem?_toArray, List.getElem?_cons_succ, List.getElem?_cons_zero] <;> rfl) (by kernel_rfl) (by kernel_rfl) (by kernel_rfl) (by exact fun _ _ _ h => h) (Or.inl ⟨by kernel_rfl, ?_⟩) (by assumption) ?_
  rotate_left
  · intro w' hSw; (try dsimp only at hSw); go_simp; try with_reducible rfl
  try simp only [Act.put, List.setIfInBounds_toArray, List.set_cons_zero, List.set_cons_succ]
  refine wpAnyH_take (i := 9) (v := ?_) (by simp only [List.getElem?_toArray, List.getElem?_cons_succ, List.getElem?_cons_zero] <;> rfl) (by kernel_rfl) (by kernel_rfl) (by kernel_rfl) (by exact fun _ _ _ h => h) (Or.inl ⟨by kernel_rfl, ?_⟩) (by assumption) ?_
  rotate_left
  · intro w' hSw; (try dsimp only at hSw); go_simp; try with_reducible rfl
  try simp only [Act.put, List.setIfInBounds_toArray, List.set_cons_zero, List.set_cons_succ]
  refine wpAnyH_take (i := 10) (v := ?_) (by simp only [List.getElem?_toArray, List.getElem?_cons_succ, List.getElem?_cons_zero] <;> rfl) (by kernel_rfl) (by kernel_rfl) (by kernel_rfl) (by exact fun _ _ _ h => h) (Or.inl ⟨by kernel_rfl, ?_⟩) (by assumption) ?_
  rotate_left
  · intro w' hSw; (try dsimp only at hSw); go_simp; try with_reducible rfl
  try simp only [Act.put, List.setIfInBounds_toArray, List.set_cons_zero, List.set_cons_succ]
  refine wpAnyH_take (i := 11) (v := ?_) (by simp only [List.getElem?_toArray, List.getElem?_cons_succ, List.getElem?_cons_zero] <;> rfl) (by kernel_rfl) (by kernel_rfl) (by kernel_rfl) (by exact fun _ _ _ h => h) (Or.inl ⟨by kernel_rfl, ?_⟩) (by assumption) ?_
  rotate_left
  · intro w' hSw; (try dsimp only at hSw); go_simp; try with_reducible rfl
  try simp only [Act.put, List.setIfInBounds_toArray, List.set_cons_zero, List.set_cons_succ]
  refine wpAnyH_take (i := 12) (v := ?_) (by simp only [List.getElem?_toArray, List.getElem?_cons_succ, List.getElem?_cons_zero] <;> rfl) (by kernel_rfl) (by kernel_rfl) (by kernel_rfl) (by exact fun _ _ _ h => h) (Or.inl ⟨by kernel_rfl, ?_⟩) (by assumption) ?_
  rotate_left
  · intro w' hSw; (try dsimp only at hSw); go_simp; try with_reducible rfl
  try simp only [Act.put, List.setIfInBounds_toArray, List.set_cons_zero, List.set_cons_succ]
  refine wpAnyH_take (i := 13) (v := ?_) (by simp only [List.getElem?_toArray, List.getElem?_cons_succ, List.getElem?_cons_zero] <;> rfl) (by kernel_rfl) (by kernel_rfl) (by kernel_rfl) (by exact fun _ _ _ h => h) (Or.inl ⟨by kernel_rfl, ?_⟩) (by assumption) ?_
  rotate_left
  · intro w' hSw; (try dsimp only at hSw); go_simp; try with_reducible rfl
  try simp only [Act.put, List.setIfInBounds_toArray, List.set_cons_zero, List.set_cons_succ]
  refine wpAnyH_take (i := 14) (v := ?_) (by simp only [List.getElem?_toArray, List.getElem?_cons_succ, List.getElem?_cons_zero] <;> rfl) (by kernel_rfl) (by kernel_rfl) (by kernel_rfl) (by exact fun _ _ _ h => h) (Or.inl ⟨by kernel_rfl, ?_⟩) (by assumption) ?_
  rotate_left
  · intro w' hSw; (try dsimp only at hSw); go_simp; try with_reducible rfl
  try simp only [Act.put, List.setIfInBounds_toArray, List.set_cons_zero, List.set_cons_succ]
  refine wpAnyH_take (i := 15) (v := ?_) (by simp only [List.getElem?_toArray, List.getElem?_cons_succ, List.getElem?_cons_zero] <;> rfl) (by kernel_rfl) (by kernel_rfl) (by kernel_rfl) (by exact fun _ _ _ h => h) (Or.inl ⟨by kernel_rfl, ?_⟩) (by assumption) ?_
  rotate_left
  · intro w' hSw; (try dsimp only at hSw); go_simp; try with_reducible rfl
  try simp only [Act.put, List.setIfInBounds_toArray, List.set_cons_zero, List.set_cons_succ]
  refine wpAnyH_ready (rs := [16]) (by kernel_rfl) (by simp) (AllReadyH.cons rfl (fun K hK => ?_) AllReadyH.nil)
  go_simp
  (rw [← HBXe.out]; obtain ⟨wc2, hwc⟩ : ∃ W : World, W = (wB.alloc (.cells #[.slice (some ⟨b4, o4, none⟩) q1 c2, .slice BX (n1 - p1) (c1 - p1)] 111)).drew := ⟨_, rfl⟩; rw [← hwc]; have hbc : Blk wc2 wB.heap.size 111 #[.slice (some ⟨b4, o4, none⟩) q1 c2, .slice BX (n1 - p1) (c1 - p1)] := (by rw [hwc]; exact Blk.new _ _ _); haveI hlc : Later wB wc2 := (by rw [hwc]; infer_instance); haveI hyc := Later.trans (w := wb) inferInstance hlc; have HRW := Lib.hid (hbc.rows2 (HY1.out.later inferInstance) (HX2.out.later inferInstance)); clear hwc hbc)
  refine hK.out _ _ (by exact inferInstance) (fun hHeld => ?_)
  try simp only [Act.put, List.setIfInBounds_toArray, List.set_cons_zero, List.set_cons_succ]
  refine wpAnyH_ready (rs := [17]) (by kernel_rfl) (by simp) (AllReadyH.cons rfl (fun K hK => ?_) AllReadyH.nil)
  go_simp
  (go_at_call 151; (refine (slices_ConcatInts HRW.out inferInstance (by have h1 := hx12.out; have h2 := hy12.out; simp; omega)).mono ?_; rintro e w7 ⟨A6, n6, c6, f6, rfl, o6, nd6, lo6, L5⟩; have X58 := Later.trans (w := wb) inferInstance L5; have Y58 := Later.trans (w := wB) inferInstance L5; have hBg5 := hBg.later Y58; obtain ⟨v0, hv0⟩ := hBg5.get HSZ.out; have hfz := hBg5.frozen (o5 + k); have H6 := Lib.hid o6; have N6 := Lib.hid nd6; have L6 : Hid (∀ g, g ∈ f6 → wB.heap.size ≤ g) := Lib.hid (fun g hg => Nat.le_trans (Later.size (w := wB) inferInstance) (lo6 g hg)); clear o6 nd6 lo6))
  refine hK.out _ _ (by exact inferInstance) (fun hHeld => ?_)
  try simp only [Act.put, List.setIfInBounds_toArray, List.set_cons_zero, List.set_cons_succ]
  refine wpAnyH_take (i := 18) (v := ?_) (by simp only [List.getElem?_toArray, List.getElem?_cons_succ, List.getElem?_cons_zero] <;> rfl) (by kernel_rfl) (by kernel_rfl) (by kernel_rfl) (by exact fun _ _ _ h => h) (Or.inl ⟨by kernel_rfl, ?_⟩) (by assumption) ?_
  rotate_left
  · intro w' hSw; (try dsimp only at hSw); go_simp; try with_reducible rfl
  try simp only [Act.put, List.setIfInBounds_toArray, List.set_cons_zero, List.set_cons_succ]
  refine wpAnyH_ready (rs := [19]) (by kernel_rfl) (by simp) (AllReadyH.cons rfl (fun K hK => ?_) AllReadyH.nil)
  go_simp
  (obtain ⟨wD, hwB⟩ : ∃ W : World, W = w7.setCell ⟨g5, o5 + k, none⟩ (.slice A6 n6 c6) := ⟨_, rfl⟩; rw [← hwB]; haveI hyB : Later wb wD := (by rw [hwB]; infer_instance))
  refine hK.out _ _ (by exact inferInstance) (fun hHeld => ?_)
  try simp only [Act.put, List.setIfInBounds_toArray, List.set_cons_zero, List.set_cons_succ]
  refine wpAnyH_done (by kernel_rfl) ?_ _
  obtain ⟨fp8, o8, nd8, hmem⟩ := HREP.out w7 wD (cs.setIfInBounds (o5 + k) (.slice A6 n6 c6)) [.slice A6 n6 c6] (y'.take q1 ++ x'.drop p1) f6 Y58 ⟨A6, n6, c6, rfl, by have h9 := H6.out; simpa using h9⟩ N6.out L6.out (by rw [hwB]; exact Touch.set_one _ _ _ _) (by rw [hwB]; exact hBg5.set_ _ _) (fun i hi => set_ne _ (by omega)) rfl (fun i v hv => by
    match i, hv with
    | 0, hv => simp at hv; subst hv; simpa using set_eq _ HSZ.out)
  have HO8 := Lib.hid o8
  have HN8 := Lib.hid nd8
  have HL8 : Hid (∀ g, g ∈ fp8 → w.heap.size + 2 ≤ g) := Lib.hid (fun g hg => by
    rcases hmem g hg with h | h
    · exact HL7.out g h
    · have h1 := L6.out g h
      have h2 : wb.heap.size ≤ wB.heap.size := Later.size (w := wb) (W := wB) inferInstance
      omega)
  clear hmem o8 nd8 hBg hBg5 HREP HSZ hwB hv0 hfz H6 N6 L6 hgm
  rw [HSW.out] at HO8
  have HRD : Hid (Sl 1 (rSl 1 rInt) wD _ _ _ (swapA bs m k x' y' p q)) := Lib.hid HO8.out.reads
  by_cases co : okBlk t f (swapA bs m k x' y' p q) = true
  · have HCO := Lib.hid co
    clear co
    go_wp2_with (go_at_call 152; refine (impl_areBlocks H.out (hwb0.trans inferInstance) H2.out (hwb2.trans inferInstance) HRD.out inferInstance RF.out.time RF.out.fleet).mono ?_; rw [HCO.out]; rintro e w8 ⟨rfl, L8⟩; have X8 := Later.trans (w := wb) inferInstance L8; have Z8 := Later.trans (w := wD) inferInstance L8)
    go_ret2
    rw [HSR.out, if_pos HCO.out]
    exact ⟨_, _, _, fp8, rfl, HO8.out.later inferInstance, HN8.out, fun g hg => by have := HL8.out g hg; omega, hww.trans inferInstance⟩
  · have co' : okBlk t f (swapA bs m k x' y' p q) = false := by simpa using co
    have HCO := Lib.hid co'
    clear co co'
    go_wp2_with (go_at_call 152; refine (impl_areBlocks H.out (hwb0.trans inferInstance) H2.out (hwb2.trans inferInstance) HRD.out inferInstance RF.out.time RF.out.fleet).mono ?_; rw [HCO.out]; rintro e w8 ⟨rfl, L8⟩; have X8 := Later.trans (w := wb) inferInstance L8)
    go_ret2
    rw [HSR.out, if_neg (by rw [HCO.out]; simp)]
    exact ⟨_, _, _, [], rfl, OSl.nil_ _, by simp, by simp, hww.trans inferInstance⟩
end Go.Proofs.Ytbkeccpjcmhhjaa
