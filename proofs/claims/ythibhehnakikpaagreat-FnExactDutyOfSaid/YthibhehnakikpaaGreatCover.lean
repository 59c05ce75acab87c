/-
  Duties: whether a list of duties covers the blocks (isCover, l13Covers, IsCover).
-/
import Derived.Test.YthibhehnakikpaaGreatDc
namespace Go.Proofs.YthibhehnakikpaaGreat
open Go Go.RowKit
set_option linter.unusedVariables false
set_option maxRecDepth 100000
section
variable {t : Timetable} {f : Fleet} {bs : List (List Int)} {r : Rules}
def idsThen (t : Timetable) (f : Fleet) (bs : List (List Int)) (r : Rules) (l : List Duty) (lst : Int) (ids seen : List Int) : Option (List Int) := match idsGo ids seen with | none => none | some s => coverGo t f bs r l lst s
theorem idsThen_in {l : List Duty} {lst v : Int} {ids seen : List Int} (h : v ∈ seen) : idsThen t f bs r l lst (v :: ids) seen = none := by unfold idsThen; simp [idsGo, h]
theorem idsThen_out {l : List Duty} {lst v : Int} {ids seen : List Int} (h : ¬ v ∈ seen) : idsThen t f bs r l lst (v :: ids) seen = idsThen t f bs r l lst ids (seen ++ [v]) := by unfold idsThen; simp [idsGo, h]
theorem idsThen_nil {l : List Duty} {lst : Int} {seen : List Int} : idsThen t f bs r l lst [] seen = coverGo t f bs r l lst seen := rfl
theorem coverGo_good {d : Duty} {l : List Duty} {last : Int} {seen : List Int} (h1 : brokenD t f bs r d.Pieces = 0) (h2 : ¬ headI (d.Pieces.headD []) ≤ last) : coverGo t f bs r (d :: l) last seen = idsThen t f bs r l (headI (d.Pieces.headD [])) d.Pieces.flatten seen := by
  simp only [coverGo]
  rw [if_neg (by rw [h1]; simp), if_neg h2]
  rfl
theorem coverGo_bad1 {d : Duty} {l : List Duty} {last : Int} {seen : List Int} (h : brokenD t f bs r d.Pieces ≠ 0) : coverGo t f bs r (d :: l) last seen = none := by
  simp only [coverGo]
  rw [if_pos h]
theorem coverGo_bad2 {d : Duty} {l : List Duty} {last : Int} {seen : List Int} (h1 : brokenD t f bs r d.Pieces = 0) (h2 : headI (d.Pieces.headD []) ≤ last) : coverGo t f bs r (d :: l) last seen = none := by
  simp only [coverGo]
  rw [if_neg (by rw [h1]; simp), if_pos h2]
theorem okCover_none {l : List Duty} (h : coverGo t f bs r l 0 [] = none) : okCover t f bs r l = false := by unfold okCover; rw [h]
theorem okCover_some {l : List Duty} {s : List Int} (h : coverGo t f bs r l 0 [] = some s) : okCover t f bs r l = decide (s.length = t.Trips.length) := by unfold okCover; rw [h]
end
structure SeenI (t : Timetable) (sn : List Int) : Prop where
  ok : SeenOk t (sn.map (findI t))
  found : ∀ v, v ∈ sn → 0 ≤ findI t v
theorem SeenI.nil (t : Timetable) : SeenI t [] := ⟨SeenOk.nil t, by simp⟩
theorem SeenI.len {t : Timetable} {sn : List Int} (h : SeenI t sn) (tf : TimeFacts t) : sn.length ≤ 12 := by have := h.ok.len tf; simpa using this
theorem SeenI.mem {t : Timetable} {sn : List Int} (h : SeenI t sn) {v : Int} (hv : 0 ≤ findI t v) : findI t v ∈ sn.map (findI t) ↔ v ∈ sn := by
  rw [List.mem_map]
  constructor
  · rintro ⟨u, hu, he⟩
    rw [find_eq (h.found u hu)] at he
    exact he ▸ hu
  · exact fun hm => ⟨v, hm, rfl⟩
theorem SeenI.snoc {t : Timetable} {sn : List Int} (h : SeenI t sn) {v : Int} (hv : 0 ≤ findI t v) (hn : v ∉ sn) : SeenI t (sn ++ [v]) := by
  refine ⟨?_, fun u hu => ?_⟩
  · rw [List.map_append]
    exact h.ok.snoc hv (findI_bd t v).2 (fun hm => hn ((h.mem hv).1 hm))
  · rcases List.mem_append.1 hu with hu | hu
    · exact h.found u hu
    · simp at hu; subst hu; exact hv
theorem SeenI.i64 {t : Timetable} {sn : List Int} (h : SeenI t sn) (tf : TimeFacts t) : ∀ v, v ∈ sn → I64 v := by
  intro v hv
  have h0 := h.found v hv
  have h1 := findI_id h0
  have h2 := (tripI_facts tf h0 (findI_bd t v).2).id
  unfold I64
  omega
theorem flat_drop {ps : List (List Int)} {k : Nat} {x : List Int} (hx : ps[k]? = some x) : (ps.drop k).flatten = x ++ (ps.drop (k + 1)).flatten := by rw [drop_at hx]; rfl
set_option maxHeartbeats 4000000 in
theorem impl_isCover {w0 w w2 w3 : World} {sA0 : Option Addr} {sn0 sc0 : Nat} {sA1 : Option Addr} {sn1 sc1 : Nat} {sA2 : Option Addr} {sn2 sc2 : Nat} {t : Timetable} (h : TimetableAt w0 sA0 sn0 sc0 sA1 sn1 sc1 sA2 sn2 sc2 t) (hl : Later w0 w) {qA0 : Option Addr} {qn0 qc0 : Nat} {f : Fleet} (h2 : FleetAt w2 qA0 qn0 qc0 f) (hl2 : Later w2 w) {bA : Option Addr} {bn bc : Nat} {bs : List (List Int)} (h3 : Sl 1 (rSl 1 rInt) w3 bA bn bc bs) (hl3 : Later w3 w) (r : Rules) {w5 : World} {lA : Option Addr} {ln lc : Nat} {ls : List Duty} (h5 : Sl 1 rDuty w5 lA ln lc ls) (hl5 : Later w5 w) (hfit : ∀ d, d ∈ ls → Fits d.Pieces) (hok : okBlocks t f bs = true) (rr : RulesFacts r) :
    Calls Tryz.prog 64 #[.agg #[.slice sA0 sn0 sc0, .slice sA1 sn1 sc1, .slice sA2 sn2 sc2], .agg #[.slice qA0 qn0 qc0, .int .i64 f.Turn], .slice bA bn bc, .agg #[.int .i64 r.SignOn, .int .i64 r.SignOff, .int .i64 r.MaxDrive, .int .i64 r.MinBreak, .int .i64 r.PaidBreak, .int .i64 r.MaxLength], .slice lA ln lc] w (Ret (.bool (okCover t f bs r ls)) w) := by
  have hL := h5.later hl5
  have hT := h.l_Trips.later hl
  have HB0 : ∀ W [Later (((w.alloc (.cells #[.slice sA0 sn0 sc0, .slice sA1 sn1 sc1, .slice sA2 sn2 sc2] 46)).alloc (.cells #[.slice qA0 qn0 qc0, .int .i64 f.Turn] 48)).alloc (.cells #[.int .i64 r.SignOn, .int .i64 r.SignOff, .int .i64 r.MaxDrive, .int .i64 r.MinBreak, .int .i64 r.PaidBreak, .int .i64 r.MaxLength] 51)) W] (j : Nat), W.cell? ⟨w.heap.size, j, none⟩ = #[.slice sA0 sn0 sc0, .slice sA1 sn1 sc1, .slice sA2 sn2 sc2][j]? := Later.boxes (t := 46) (fr := (0, 0)) ((heap_old (by simp; try omega)).trans ((heap_old (by simp; try omega)).trans (heap_new (by simp; try omega)))); have HB1 : ∀ W [Later (((w.alloc (.cells #[.slice sA0 sn0 sc0, .slice sA1 sn1 sc1, .slice sA2 sn2 sc2] 46)).alloc (.cells #[.slice qA0 qn0 qc0, .int .i64 f.Turn] 48)).alloc (.cells #[.int .i64 r.SignOn, .int .i64 r.SignOff, .int .i64 r.MaxDrive, .int .i64 r.MinBreak, .int .i64 r.PaidBreak, .int .i64 r.MaxLength] 51)) W] (j : Nat), W.cell? ⟨w.heap.size + 1, j, none⟩ = #[.slice qA0 qn0 qc0, .int .i64 f.Turn][j]? := Later.boxes (t := 48) (fr := (0, 0)) ((heap_old (by simp; try omega)).trans (heap_new (by simp; try omega))); have HB2 : ∀ W [Later (((w.alloc (.cells #[.slice sA0 sn0 sc0, .slice sA1 sn1 sc1, .slice sA2 sn2 sc2] 46)).alloc (.cells #[.slice qA0 qn0 qc0, .int .i64 f.Turn] 48)).alloc (.cells #[.int .i64 r.SignOn, .int .i64 r.SignOff, .int .i64 r.MaxDrive, .int .i64 r.MinBreak, .int .i64 r.PaidBreak, .int .i64 r.MaxLength] 51)) W] (j : Nat), W.cell? ⟨w.heap.size + 1 + 1, j, none⟩ = #[.int .i64 r.SignOn, .int .i64 r.SignOff, .int .i64 r.MaxDrive, .int .i64 r.MinBreak, .int .i64 r.PaidBreak, .int .i64 r.MaxLength][j]? := Later.boxes (t := 51) (fr := (0, 0)) (heap_new (by simp; try omega)); obtain ⟨wb, hwb⟩ : ∃ wb : World, wb = (((w.alloc (.cells #[.slice sA0 sn0 sc0, .slice sA1 sn1 sc1, .slice sA2 sn2 sc2] 46)).alloc (.cells #[.slice qA0 qn0 qc0, .int .i64 f.Turn] 48)).alloc (.cells #[.int .i64 r.SignOn, .int .i64 r.SignOff, .int .i64 r.MaxDrive, .int .i64 r.MinBreak, .int .i64 r.PaidBreak, .int .i64 r.MaxLength] 51)) := ⟨_, rfl⟩; haveI hbW : Later wb (((w.alloc (.cells #[.slice sA0 sn0 sc0, .slice sA1 sn1 sc1, .slice sA2 sn2 sc2] 46)).alloc (.cells #[.slice qA0 qn0 qc0, .int .i64 f.Turn] 48)).alloc (.cells #[.int .i64 r.SignOn, .int .i64 r.SignOff, .int .i64 r.MaxDrive, .int .i64 r.MinBreak, .int .i64 r.PaidBreak, .int .i64 r.MaxLength] 51)) := (by rw [hwb]; exact Later.rfl_); haveI hww : Later w wb := (by rw [hwb]; infer_instance); rw [← hwb] at HB0; rw [← hwb] at HB1; rw [← hwb] at HB2; have hbE := Lib.hid (congrArg (fun x : World => x.heap.size) hwb); clear hwb
  have hwb0 := hl.trans hww
  have hwb2 := hl2.trans hww
  have hwb3 := hl3.trans hww
  have H := Lib.hid h
  have H2 := Lib.hid h2
  have H3 := Lib.hid h3
  clear h h2 h3
  replace hL := hL.later hww
  replace hT := hT.later hww
  have hll := hL.le
  have hsl := hT.le
  have Hll := Lib.hid hL.len
  have Htl := Lib.hid hT.len
  have HFIT := Lib.hid hfit
  have HK := Lib.hid hok
  have RR := Lib.hid rr
  have RF := Lib.hid (deadFacts hok).run
  have ht12 : sn2 ≤ 12 := by rw [hT.len]; exact RF.out.time.len
  have hbs : wb.heap.size ≤ w.heap.size + 3 := by have := hbE.out; simp at this; omega
  have hbs2 : w.heap.size + 3 ≤ wb.heap.size := by have := hbE.out; simp at this; omega
  clear h5 hfit hok rr hT
  haveI hN : New wb (w.heap.size + 3) := ⟨hbs⟩
  obtain ⟨tyA, htyA⟩ : ∃ q : TypeId, q = 122 := ⟨_, rfl⟩
  go_enter Tryz.func64, Tryz.ntmps64
  go_wp2_with fail
  go_loopw [12, 13, 23] (fun no lo i wr => ∃ (k : Nat) (seen : List Int) (lst : Int), k ≤ ln ∧ i = .int .i64 k ∧ no = .int .i64 seen.length ∧ lo = .int .i64 lst ∧ Hid (coverGo t f bs r (ls.drop k) lst seen = coverGo t f bs r ls 0 []) ∧ Hid (SeenI t seen) ∧ Hid (UsedAt wr (w.heap.size + 3) 122 (seen.map (findI t))) ∧ Later wb wr) (fun _ _ i _ => ln - (intOf i).toNat)
  case atStart => exact ⟨0, [], 0, by omega, rfl, rfl, rfl, rfl, SeenI.nil t, ⟨_, heap_new (by simp; try omega), by simp, used_start⟩, inferInstance⟩
  case round =>
    obtain ⟨k, seen, lst, hk, rfl, rfl, rfl, HF, HS, HU, hX⟩ := hrel
    by_cases hlt : k < ln
    · obtain ⟨b, o, zA0, zn0, zc0, d, hlA, hd, hcd, hDu⟩ := Dutys.at_ hL hlt
      have HDU := Lib.hid hDu
      have HFI := Lib.hid (HFIT.out d (List.mem_of_getElem? hd.out))
      have HF1 : Hid (coverGo t f bs r (d :: ls.drop (k + 1)) lst seen = coverGo t f bs r ls 0 []) := by show _ = _; rw [← HF.out, drop_at hd.out]
      have HDA := Lib.hid hd.out
      clear HF hd
      have hP := hDu.l_Pieces
      have hpl := hP.le
      have Hpl := Lib.hid hP.len
      subst hlA
      have HBX : ∀ W [Later (wr.alloc (.cells #[.slice zA0 zn0 zc0] 75)) W] (j : Nat), W.cell? ⟨wr.heap.size, j, none⟩ = #[.slice zA0 zn0 zc0][j]? := Later.boxes (t := 75) (fr := (0, 0)) (heap_new (by simp; try omega)); obtain ⟨wx, hwx⟩ : ∃ wx : World, wx = (wr.alloc (.cells #[.slice zA0 zn0 zc0] 75)) := ⟨_, rfl⟩; haveI hxW : Later wx (wr.alloc (.cells #[.slice zA0 zn0 zc0] 75)) := (by rw [hwx]; exact Later.rfl_); haveI hbx : Later wb wx := (by rw [hwx]; infer_instance); rw [← hwx] at HBX; clear hwx
      by_cases cb : brokenD t f bs r d.Pieces = 0
      rotate_left
      · obtain ⟨q, hq⟩ : ∃ q, q = brokenD t f bs r d.Pieces := ⟨_, rfl⟩
        have HQ := Lib.hid hq
        have cq : (q != 0) = true := by rw [bne_iff_ne, hq]; exact cb
        have HR : Hid (okCover t f bs r ls = false) := okCover_none (HF1.out.symm.trans (coverGo_bad1 cb))
        clear cb hq HF1 hP
        go_wp2_with (go_at_call 78; refine (impl_brokenRule H.out (hwb0.trans inferInstance) H2.out (hwb2.trans inferInstance) H3.out (hwb3.trans inferInstance) HDU.out inferInstance HK.out RR.out HFI.out).mono ?_; rw [← HQ.out]; rintro e w5 ⟨rfl, L5⟩; have X5 := Later.trans (w := wb) inferInstance L5; have Z5 := Later.trans (w := wr) inferInstance L5; have Y5 := Later.trans (w := wx) inferInstance L5)
        go_ret
        exact ⟨ret_bool HR.out.symm, hww.trans inferInstance⟩
      have BF := Lib.hid (brkFacts HK.out (brokenD_ok cb))
      have hz0 : 0 < zn0 := by rw [Hpl.out]; exact BF.out.pos
      obtain ⟨b1, o1, A1, n1, c1, x0, rfl, hx0, hc1, hi1⟩ := Sl.row_ hP hz0
      simp only [Nat.add_zero] at hc1
      have hx0f := BF.out.at_ hx0.out
      have hn10 : 0 < n1 := by rw [hi1.len]; exact hx0f.1
      have hn1l := hi1.le
      obtain ⟨b2, o2, v0, rfl, hv0, hc2, _⟩ := Ints.at_ hi1 hn10
      simp only [Nat.add_zero] at hc2
      have HH : Hid (headI (d.Pieces.headD []) = v0) := by show _ = _; rw [headP_of hx0.out, headI_of hv0.out]
      have HV0 := Lib.hid (hx0f.2 v0 (List.mem_of_getElem? hv0.out))
      clear hi1 hx0 hx0f hv0
      have CB := Lib.hid cb
      by_cases ch : v0 ≤ lst
      · have HR : Hid (okCover t f bs r ls = false) := okCover_none (HF1.out.symm.trans (coverGo_bad2 cb (by rw [HH.out]; exact ch)))
        clear cb HF1 hP
        go_wp2_with (go_at_call 78; refine (impl_brokenRule H.out (hwb0.trans inferInstance) H2.out (hwb2.trans inferInstance) H3.out (hwb3.trans inferInstance) HDU.out inferInstance HK.out RR.out HFI.out).mono ?_; rw [CB.out]; rintro e w5 ⟨rfl, L5⟩; have X5 := Later.trans (w := wb) inferInstance L5; have Z5 := Later.trans (w := wr) inferInstance L5; have Y5 := Later.trans (w := wx) inferInstance L5)
        go_ret
        exact ⟨ret_bool HR.out.symm, hww.trans inferInstance⟩
      have HF2 : Hid (idsThen t f bs r (ls.drop (k + 1)) v0 (d.Pieces.drop 0).flatten seen = coverGo t f bs r ls 0 []) := by
        show _ = _
        rw [← HF1.out, coverGo_good cb (by rw [HH.out]; exact ch), HH.out, List.drop_zero]
      clear cb HF1
      go_wp2_with (go_at_call 78; refine (impl_brokenRule H.out (hwb0.trans inferInstance) H2.out (hwb2.trans inferInstance) H3.out (hwb3.trans inferInstance) HDU.out inferInstance HK.out RR.out HFI.out).mono ?_; rw [CB.out]; rintro e w5 ⟨rfl, L5⟩; have X5 := Later.trans (w := wb) inferInstance L5; have Z5 := Later.trans (w := wr) inferInstance L5; have Y5 := Later.trans (w := wx) inferInstance L5)
      go_loopw [12, 53] (fun no i wr' => ∃ (m : Nat) (sn : List Int), m ≤ zn0 ∧ i = .int .i64 m ∧ no = .int .i64 sn.length ∧ Hid (idsThen t f bs r (ls.drop (k + 1)) v0 (d.Pieces.drop m).flatten sn = coverGo t f bs r ls 0 []) ∧ Hid (SeenI t sn) ∧ Hid (UsedAt wr' (w.heap.size + 3) 122 (sn.map (findI t))) ∧ Later wb wr') (fun _ i _ => zn0 - (intOf i).toNat)
      case atStart => exact ⟨0, seen, by omega, rfl, rfl, HF2, HS, HU.out.later inferInstance, inferInstance⟩
      case round =>
        obtain ⟨m, sn, hm, rfl, rfl, HG, HS2, HU2, hY⟩ := hrel
        by_cases hmt : m < zn0
        · obtain ⟨b3, o3, A3, n3, c3, x, hA3, hx, hc3, hi⟩ := Sl.row_ hP hmt
          cases hA3
          have hn3 := hi.le
          have Hx3 := Lib.hid hi.len
          have HXF := Lib.hid (BF.out.found x (List.mem_of_getElem? hx.out))
          have HG1 : Hid (idsThen t f bs r (ls.drop (k + 1)) v0 (x.drop 0 ++ (d.Pieces.drop (m + 1)).flatten) sn = coverGo t f bs r ls 0 []) := by show _ = _; rw [← HG.out, flat_drop hx.out, List.drop_zero]
          clear HG hx
          go_wp2_with fail
          go_loopw [12, 59] (fun no i ws => ∃ (j : Nat) (s2 : List Int), j ≤ n3 ∧ i = .int .i64 j ∧ no = .int .i64 s2.length ∧ Hid (idsThen t f bs r (ls.drop (k + 1)) v0 (x.drop j ++ (d.Pieces.drop (m + 1)).flatten) s2 = coverGo t f bs r ls 0 []) ∧ Hid (SeenI t s2) ∧ Hid (UsedAt ws (w.heap.size + 3) 122 (s2.map (findI t))) ∧ Later wb ws) (fun _ i _ => n3 - (intOf i).toNat)
          case atStart => exact ⟨0, sn, by omega, rfl, rfl, HG1, HS2, HU2.out.later inferInstance, inferInstance⟩
          case round =>
            obtain ⟨j, s2, hj, rfl, rfl, HW, HS3, HU3, hZ⟩ := hrel
            have hs2 := HS3.out.len RF.out.time
            by_cases hjt : j < n3
            · obtain ⟨b4, o4, v, hA4, hv, hcv, _⟩ := Ints.at_ hi hjt
              cases hA4
              have hvf := HXF.out v (List.mem_of_getElem? hv.out)
              obtain ⟨i, hfi⟩ := Int.eq_ofNat_of_zero_le hvf
              have hin : i < sn2 := by rw [Htl.out]; have := (findI_bd t v).2; omega
              have hi12 : i < 12 := by omega
              have hi12' : (i : Int) < 12 := by omega
              have HI := Lib.hid hfi
              have hfz := HU3.out.frozen i
              have hu := HU3.out.cell hi12
              have HW1 : Hid (idsThen t f bs r (ls.drop (k + 1)) v0 (v :: (x.drop (j + 1) ++ (d.Pieces.drop (m + 1)).flatten)) s2 = coverGo t f bs r ls 0 []) := by show _ = _; rw [← HW.out, drop_at hv.out]; rfl
              have hmem := HS3.out.mem hvf
              rw [hfi] at hmem
              clear HW hv
              by_cases cB : v ∈ s2
              · rw [decide_eq_true (hmem.2 cB)] at hu
                have HR : Hid (okCover t f bs r ls = false) := okCover_none (HW1.out.symm.trans (idsThen_in cB))
                clear cB HW1 hmem hfi hvf
                go_wp2_with (go_at_call 99; refine (impl_tripIndex H.out (hwb0.trans inferInstance) v).mono ?_; rw [HI.out]; rintro e w6 ⟨rfl, L6⟩; have X6 := Later.trans (w := wb) inferInstance L6; have Z6 := Later.trans (w := wr) inferInstance L6)
                go_ret
                exact ⟨ret_bool HR.out.symm, hww.trans inferInstance⟩
              · rw [decide_eq_false (fun h => cB (hmem.1 h))] at hu
                have HW2 : Hid (idsThen t f bs r (ls.drop (k + 1)) v0 (x.drop (j + 1) ++ (d.Pieces.drop (m + 1)).flatten) (s2 ++ [v]) = coverGo t f bs r ls 0 []) := by show _ = _; rw [← HW1.out, idsThen_out cB]
                have HS4 := Lib.hid (HS3.out.snoc hvf cB)
                have HMP : Hid ((s2 ++ [v]).map (findI t) = s2.map (findI t) ++ [(i : Int)]) := by show _ = _; rw [List.map_append]; simp [hfi]
                clear cB HW1 hmem hfi hvf
                go_wp2_with (go_at_call 99; refine (impl_tripIndex H.out (hwb0.trans inferInstance) v).mono ?_; rw [HI.out]; rintro e w6 ⟨rfl, L6⟩; have X6 := Later.trans (w := wb) inferInstance L6; have Z6 := Later.trans (w := wr) inferInstance L6)
                go_roundw
                case rel => exact ⟨j + 1, s2 ++ [v], by omega, by go_num, by rw [List.length_append]; go_num, HW2, HS4, by show UsedAt _ _ _ _; rw [HMP.out]; exact (HU3.out.later (inferInstance : Later wr _)).set hi12, inferInstance⟩
                case measure => simp [intOf]; omega
            · have HG2 : Hid (idsThen t f bs r (ls.drop (k + 1)) v0 (d.Pieces.drop (m + 1)).flatten s2 = coverGo t f bs r ls 0 []) := by show _ = _; rw [← HW.out, (List.drop_eq_nil_of_le (by have := Hx3.out; omega) : x.drop j = [])]; rfl
              clear HW
              go_wp2
              go_roundw
              case rel => exact ⟨m + 1, s2, by omega, by go_num, rfl, HG2, HS3, HU3, inferInstance⟩
              case measure => simp [intOf]; omega
        · have HF3 : Hid (coverGo t f bs r (ls.drop (k + 1)) v0 sn = coverGo t f bs r ls 0 []) := by show _ = _; rw [← HG.out, (List.drop_eq_nil_of_le (by have := Hpl.out; omega) : d.Pieces.drop m = [])]; rfl
          clear HG
          go_wp2
          go_roundw
          case rel => exact ⟨k + 1, sn, v0, by omega, by go_num, rfl, rfl, HF3, HS2, HU2, inferInstance⟩
          case measure => simp [intOf]; omega
    · have HF1 : Hid (okCover t f bs r ls = decide (seen.length = t.Trips.length)) := by
        have h3 := HF.out
        rw [List.drop_eq_nil_of_le (by have := Hll.out; omega)] at h3
        exact okCover_some h3.symm
      clear HF
      go_wp2
      go_ret
      exact ⟨ret_bool (by rw [HF1.out, Htl.out, Bool.eq_iff_iff]; simp <;> omega), hww.trans inferInstance⟩
theorem headV_pos {t : Timetable} (tf : TimeFacts t) {v : Int} (h : 0 ≤ findI t v) : 0 < v := by
  by_cases c : v ≤ 0
  · have := find_neg tf c; omega
  · omega
/-- The duty before the k-th, of which the first id is lst. -/
def LastAt (t : Timetable) (f : Fleet) (bs : List (List Int)) (r : Rules) (ls : List Duty) (k : Nat) (lst : Int) : Prop :=
  (k = 0 ∧ lst = 0) ∨ ∃ m d, k = m + 1 ∧ ls[m]? = some d ∧ lst = headI (d.Pieces.headD []) ∧ brokenD t f bs r d.Pieces = 0
set_option maxHeartbeats 4000000 in
theorem spec_l13Covers {w0 w w2 w3 : World} {sA0 : Option Addr} {sn0 sc0 : Nat} {sA1 : Option Addr} {sn1 sc1 : Nat} {sA2 : Option Addr} {sn2 sc2 : Nat} {t : Timetable} (h : TimetableAt w0 sA0 sn0 sc0 sA1 sn1 sc1 sA2 sn2 sc2 t) (hl : Later w0 w) {qA0 : Option Addr} {qn0 qc0 : Nat} {f : Fleet} (h2 : FleetAt w2 qA0 qn0 qc0 f) (hl2 : Later w2 w) {bA : Option Addr} {bn bc : Nat} {bs : List (List Int)} (h3 : Sl 1 (rSl 1 rInt) w3 bA bn bc bs) (hl3 : Later w3 w) (r : Rules) {w5 : World} {lA : Option Addr} {ln lc : Nat} {ls : List Duty} (h5 : Sl 1 rDuty w5 lA ln lc ls) (hl5 : Later w5 w) (hfit : ∀ d, d ∈ ls → Fits d.Pieces) (hok : okBlocks t f bs = true) (rr : RulesFacts r) :
    Calls Tryz.prog 59 #[.agg #[.slice sA0 sn0 sc0, .slice sA1 sn1 sc1, .slice sA2 sn2 sc2], .agg #[.slice qA0 qn0 qc0, .int .i64 f.Turn], .slice bA bn bc, .agg #[.int .i64 r.SignOn, .int .i64 r.SignOff, .int .i64 r.MaxDrive, .int .i64 r.MinBreak, .int .i64 r.PaidBreak, .int .i64 r.MaxLength], .slice lA ln lc] w (Ret (.bool (okCover t f bs r ls)) w) := by
  have hL := h5.later hl5
  have hT := h.l_Trips.later hl
  have HB0 : ∀ W [Later (((w.alloc (.cells #[.slice sA0 sn0 sc0, .slice sA1 sn1 sc1, .slice sA2 sn2 sc2] 46)).alloc (.cells #[.slice qA0 qn0 qc0, .int .i64 f.Turn] 48)).alloc (.cells #[.int .i64 r.SignOn, .int .i64 r.SignOff, .int .i64 r.MaxDrive, .int .i64 r.MinBreak, .int .i64 r.PaidBreak, .int .i64 r.MaxLength] 51)) W] (j : Nat), W.cell? ⟨w.heap.size, j, none⟩ = #[.slice sA0 sn0 sc0, .slice sA1 sn1 sc1, .slice sA2 sn2 sc2][j]? := Later.boxes (t := 46) (fr := (0, 0)) ((heap_old (by simp; try omega)).trans ((heap_old (by simp; try omega)).trans (heap_new (by simp; try omega)))); have HB1 : ∀ W [Later (((w.alloc (.cells #[.slice sA0 sn0 sc0, .slice sA1 sn1 sc1, .slice sA2 sn2 sc2] 46)).alloc (.cells #[.slice qA0 qn0 qc0, .int .i64 f.Turn] 48)).alloc (.cells #[.int .i64 r.SignOn, .int .i64 r.SignOff, .int .i64 r.MaxDrive, .int .i64 r.MinBreak, .int .i64 r.PaidBreak, .int .i64 r.MaxLength] 51)) W] (j : Nat), W.cell? ⟨w.heap.size + 1, j, none⟩ = #[.slice qA0 qn0 qc0, .int .i64 f.Turn][j]? := Later.boxes (t := 48) (fr := (0, 0)) ((heap_old (by simp; try omega)).trans (heap_new (by simp; try omega))); have HB2 : ∀ W [Later (((w.alloc (.cells #[.slice sA0 sn0 sc0, .slice sA1 sn1 sc1, .slice sA2 sn2 sc2] 46)).alloc (.cells #[.slice qA0 qn0 qc0, .int .i64 f.Turn] 48)).alloc (.cells #[.int .i64 r.SignOn, .int .i64 r.SignOff, .int .i64 r.MaxDrive, .int .i64 r.MinBreak, .int .i64 r.PaidBreak, .int .i64 r.MaxLength] 51)) W] (j : Nat), W.cell? ⟨w.heap.size + 1 + 1, j, none⟩ = #[.int .i64 r.SignOn, .int .i64 r.SignOff, .int .i64 r.MaxDrive, .int .i64 r.MinBreak, .int .i64 r.PaidBreak, .int .i64 r.MaxLength][j]? := Later.boxes (t := 51) (fr := (0, 0)) (heap_new (by simp; try omega)); obtain ⟨wb, hwb⟩ : ∃ wb : World, wb = (((w.alloc (.cells #[.slice sA0 sn0 sc0, .slice sA1 sn1 sc1, .slice sA2 sn2 sc2] 46)).alloc (.cells #[.slice qA0 qn0 qc0, .int .i64 f.Turn] 48)).alloc (.cells #[.int .i64 r.SignOn, .int .i64 r.SignOff, .int .i64 r.MaxDrive, .int .i64 r.MinBreak, .int .i64 r.PaidBreak, .int .i64 r.MaxLength] 51)) := ⟨_, rfl⟩; haveI hbW : Later wb (((w.alloc (.cells #[.slice sA0 sn0 sc0, .slice sA1 sn1 sc1, .slice sA2 sn2 sc2] 46)).alloc (.cells #[.slice qA0 qn0 qc0, .int .i64 f.Turn] 48)).alloc (.cells #[.int .i64 r.SignOn, .int .i64 r.SignOff, .int .i64 r.MaxDrive, .int .i64 r.MinBreak, .int .i64 r.PaidBreak, .int .i64 r.MaxLength] 51)) := (by rw [hwb]; exact Later.rfl_); haveI hww : Later w wb := (by rw [hwb]; infer_instance); rw [← hwb] at HB0; rw [← hwb] at HB1; rw [← hwb] at HB2; have hbE := Lib.hid (congrArg (fun x : World => x.heap.size) hwb); clear hwb
  have hwb0 := hl.trans hww
  have hwb2 := hl2.trans hww
  have hwb3 := hl3.trans hww
  have H := Lib.hid h
  have H2 := Lib.hid h2
  have H3 := Lib.hid h3
  clear h h2 h3
  replace hL := hL.later hww
  replace hT := hT.later hww
  have hll := hL.le
  have hsl := hT.le
  have Hll := Lib.hid hL.len
  have Htl := Lib.hid hT.len
  have HFIT := Lib.hid hfit
  have HK := Lib.hid hok
  have RR := Lib.hid rr
  have RF := Lib.hid (deadFacts hok).run
  have ht12 : sn2 ≤ 12 := by rw [hT.len]; exact RF.out.time.len
  have hbs : wb.heap.size ≤ w.heap.size + 3 := by have := hbE.out; simp at this; omega
  have hbs2 : w.heap.size + 3 ≤ wb.heap.size := by have := hbE.out; simp at this; omega
  clear h5 hfit hok rr hT
  go_enter Tryz.func59, Tryz.ntmps59
  go_wp2_with fail
  go_loopw [11, 12] (fun ov i wr => ∃ (k : Nat) (seen : List Int) (lst : Int), k ≤ ln ∧ i = .int .i64 k ∧ Hid (coverGo t f bs r (ls.drop k) lst seen = coverGo t f bs r ls 0 []) ∧ Hid (LastAt t f bs r ls k lst) ∧ Hid (SeenI t seen) ∧ Hid (wr.ownsRow (w.heap.size + 3) 3 1 ov seen.length (seen.map (Value.int .i64))) ∧ Later wb wr) (fun _ i _ => ln - (intOf i).toNat)
  case atStart => exact ⟨0, [], 0, by omega, rfl, rfl, .inl ⟨rfl, rfl⟩, SeenI.nil t, Lib.hid (ownsRow_later (by simpa using World.ownsRow_lit (base := w.heap.size + 3) (e := 3) (size := 1) (((w.alloc (.cells #[.slice sA0 sn0 sc0, .slice sA1 sn1 sc1, .slice sA2 sn2 sc2] 46)).alloc (.cells #[.slice qA0 qn0 qc0, .int .i64 f.Turn] 48)).alloc (.cells #[.int .i64 r.SignOn, .int .i64 r.SignOff, .int .i64 r.MaxDrive, .int .i64 r.MinBreak, .int .i64 r.PaidBreak, .int .i64 r.MaxLength] 51)) #[] 0 (by simp; try omega) (by simp [maxLen]) rfl) (inferInstance : Later ((((w.alloc (.cells #[.slice sA0 sn0 sc0, .slice sA1 sn1 sc1, .slice sA2 sn2 sc2] 46)).alloc (.cells #[.slice qA0 qn0 qc0, .int .i64 f.Turn] 48)).alloc (.cells #[.int .i64 r.SignOn, .int .i64 r.SignOff, .int .i64 r.MaxDrive, .int .i64 r.MinBreak, .int .i64 r.PaidBreak, .int .i64 r.MaxLength] 51)).alloc (.cells #[] 3)) _)), inferInstance⟩
  case round =>
    obtain ⟨k, seen, lst, hk, rfl, HF, HLA, HS, hown, hX⟩ := hrel
    by_cases hlt : k < ln
    · have HLL := Lib.hid hL
      obtain ⟨b, o, zA0, zn0, zc0, d, hlA, hd, hcd, hDu⟩ := Dutys.at_ hL hlt
      have HDU := Lib.hid hDu
      have HFI := Lib.hid (HFIT.out d (List.mem_of_getElem? hd.out))
      have HF1 : Hid (coverGo t f bs r (d :: ls.drop (k + 1)) lst seen = coverGo t f bs r ls 0 []) := by show _ = _; rw [← HF.out, drop_at hd.out]
      have HDA := Lib.hid hd.out
      clear HF hd
      have hP := hDu.l_Pieces
      have hpl := hP.le
      have Hpl := Lib.hid hP.len
      subst hlA
      by_cases cb : brokenD t f bs r d.Pieces = 0
      rotate_left
      · obtain ⟨q, hq⟩ : ∃ q, q = brokenD t f bs r d.Pieces := ⟨_, rfl⟩
        have HQ := Lib.hid hq
        have cq : (q != 0) = true := by rw [bne_iff_ne, hq]; exact cb
        have HR : Hid (okCover t f bs r ls = false) := okCover_none (HF1.out.symm.trans (coverGo_bad1 cb))
        clear cb hq HF1 hP
        go_wp2_with fail
        refine wp_region_held_drew (S := (fun w' => Later wb w' ∧ Later wr w')) (by kernel_rfl) (by exact ⟨inferInstance, inferInstance⟩) (fun hHeld => ?_)
        refine wpAnyH_take (i := 0) (v := ?_) (by simp only [List.getElem?_toArray, List.getElem?_cons_zero] <;> rfl) (by kernel_rfl) (by kernel_rfl) (by kernel_rfl) (by exact fun _ _ _ h => h) (Or.inl ⟨by kernel_rfl, ?_⟩) (by assumption) ?_
        rotate_left
        · intro w' hSw; (try dsimp only at hSw); go_simp; try with_reducible rfl
        try simp only [Act.put, List.setIfInBounds_toArray, List.set_cons_zero, List.set_cons_succ]
        refine wpAnyH_take (i := 1) (v := ?_) (by simp only [List.getElem?_toArray, List.getElem?_cons_succ, List.getElem?_cons_zero] <;> rfl) (by kernel_rfl) (by kernel_rfl) (by kernel_rfl) (by exact fun _ _ _ h => h) (Or.inl ⟨by kernel_rfl, ?_⟩) (by assumption) ?_
        rotate_left
        · intro w' hSw; (try dsimp only at hSw); go_simp; try with_reducible rfl
        try simp only [Act.put, List.setIfInBounds_toArray, List.set_cons_zero, List.set_cons_succ]
        refine wpAnyH_take (i := 2) (v := ?_) (by simp only [List.getElem?_toArray, List.getElem?_cons_succ, List.getElem?_cons_zero] <;> rfl) (by kernel_rfl) (by kernel_rfl) (by kernel_rfl) (by exact fun _ _ _ h => h) (Or.inl ⟨by kernel_rfl, ?_⟩) (by assumption) ?_
        rotate_left
        · intro w' hSw; (try dsimp only at hSw); go_simp; try with_reducible rfl
        try simp only [Act.put, List.setIfInBounds_toArray, List.set_cons_zero, List.set_cons_succ]
        refine wpAnyH_take (i := 3) (v := ?_) (by simp only [List.getElem?_toArray, List.getElem?_cons_succ, List.getElem?_cons_zero] <;> rfl) (by kernel_rfl) (by kernel_rfl) (by kernel_rfl) (by exact fun _ _ _ h => h) (Or.inl ⟨by kernel_rfl, ?_⟩) (by assumption) ?_
        rotate_left
        · intro w' hSw; (try dsimp only at hSw); go_simp; try with_reducible rfl
        try simp only [Act.put, List.setIfInBounds_toArray, List.set_cons_zero, List.set_cons_succ]
        refine wpAnyH_take (i := 4) (v := ?_) (by simp only [List.getElem?_toArray, List.getElem?_cons_succ, List.getElem?_cons_zero] <;> rfl) (by kernel_rfl) (by kernel_rfl) (by kernel_rfl) (by exact fun _ _ _ h => h) (Or.inl ⟨by kernel_rfl, ?_⟩) (by assumption) ?_
        rotate_left
        · intro w' hSw; (try dsimp only at hSw); go_simp; try with_reducible rfl
        try simp only [Act.put, List.setIfInBounds_toArray, List.set_cons_zero, List.set_cons_succ]
        refine wpAnyH_take (i := 5) (v := ?_) (by simp only [List.getElem?_toArray, List.getElem?_cons_succ, List.getElem?_cons_zero] <;> rfl) (by kernel_rfl) (by kernel_rfl) (by kernel_rfl) (by exact fun _ _ _ h => h) (Or.inl ⟨by kernel_rfl, ?_⟩) (by assumption) ?_
        rotate_left
        · intro w' hSw; (try dsimp only at hSw); go_simp; try with_reducible rfl
        try simp only [Act.put, List.setIfInBounds_toArray, List.set_cons_zero, List.set_cons_succ]
        refine wpAnyH_take (i := 6) (v := ?_) (by simp only [List.getElem?_toArray, List.getElem?_cons_succ, List.getElem?_cons_zero] <;> rfl) (by kernel_rfl) (by kernel_rfl) (by kernel_rfl) (by exact fun _ _ _ h => h) (Or.inl ⟨by kernel_rfl, ?_⟩) (by assumption) ?_
        rotate_left
        · intro w' hSw; (try dsimp only at hSw); go_simp; try with_reducible rfl
        try simp only [Act.put, List.setIfInBounds_toArray, List.set_cons_zero, List.set_cons_succ]
        refine wpAnyH_take (i := 7) (v := ?_) (by simp only [List.getElem?_toArray, List.getElem?_cons_succ, List.getElem?_cons_zero] <;> rfl) (by kernel_rfl) (by kernel_rfl) (by kernel_rfl) (by exact fun _ _ _ h => h) (Or.inl ⟨by kernel_rfl, ?_⟩) (by assumption) ?_
        rotate_left
        · intro w' hSw; (try dsimp only at hSw); go_simp; try with_reducible rfl
        try simp only [Act.put, List.setIfInBounds_toArray, List.set_cons_zero, List.set_cons_succ]
        refine wpAnyH_ready (rs := [8]) (by kernel_rfl) (by simp) (AllReadyH.cons rfl (fun K hK => ?_) AllReadyH.nil)
        go_simp
        (go_at_call 77; refine (spec_l12Broken H.out (hwb0.trans inferInstance) H2.out (hwb2.trans inferInstance) H3.out (hwb3.trans inferInstance) HDU.out inferInstance HK.out RR.out HFI.out).mono ?_; rw [← HQ.out]; rintro e w5 ⟨rfl, L5⟩; have X5 := Later.trans (w := wb) inferInstance L5; have Z5 := Later.trans (w := wr) inferInstance L5)
        refine hK.out _ _ (by exact ⟨inferInstance, inferInstance⟩) (fun hHeld => ?_)
        try simp only [Act.put, List.setIfInBounds_toArray, List.set_cons_zero, List.set_cons_succ]
        refine wpAnyH_take (i := 9) (v := ?_) (by simp only [List.getElem?_toArray, List.getElem?_cons_succ, List.getElem?_cons_zero] <;> rfl) (by kernel_rfl) (by kernel_rfl) (by kernel_rfl) (by exact fun _ _ _ h => h) (Or.inl ⟨by kernel_rfl, ?_⟩) (by assumption) ?_
        rotate_left
        · intro w' hSw; (try dsimp only at hSw); go_simp; try with_reducible rfl
        try simp only [Act.put, List.setIfInBounds_toArray, List.set_cons_zero, List.set_cons_succ]
        refine wpAnyH_take (i := 10) (v := ?_) (by simp only [List.getElem?_toArray, List.getElem?_cons_succ, List.getElem?_cons_zero] <;> rfl) (by kernel_rfl) (by kernel_rfl) (by kernel_rfl) (by exact fun _ _ _ h => h) (Or.inl ⟨by kernel_rfl, ?_⟩) (by assumption) ?_
        rotate_left
        · intro w' hSw; (try dsimp only at hSw); go_simp; try with_reducible rfl
        try simp only [Act.put, List.setIfInBounds_toArray, List.set_cons_zero, List.set_cons_succ]
        refine wpAnyH_take (i := 11) (v := undef) (by simp only [List.getElem?_toArray, List.getElem?_cons_succ, List.getElem?_cons_zero] <;> rfl) (by kernel_rfl) (by kernel_rfl) (by kernel_rfl) (by exact fun _ _ _ h => h) (Or.inr ⟨by kernel_rfl, rfl⟩) (by assumption) ?_
        try simp only [Act.put, List.setIfInBounds_toArray, List.set_cons_zero, List.set_cons_succ]
        refine wpAnyH_take (i := 12) (v := undef) (by simp only [List.getElem?_toArray, List.getElem?_cons_succ, List.getElem?_cons_zero] <;> rfl) (by kernel_rfl) (by kernel_rfl) (by kernel_rfl) (by exact fun _ _ _ h => h) (Or.inr ⟨by kernel_rfl, rfl⟩) (by assumption) ?_
        try simp only [Act.put, List.setIfInBounds_toArray, List.set_cons_zero, List.set_cons_succ]
        refine wpAnyH_take (i := 13) (v := undef) (by simp only [List.getElem?_toArray, List.getElem?_cons_succ, List.getElem?_cons_zero] <;> rfl) (by kernel_rfl) (by kernel_rfl) (by kernel_rfl) (by exact fun _ _ _ h => h) (Or.inr ⟨by kernel_rfl, rfl⟩) (by assumption) ?_
        try simp only [Act.put, List.setIfInBounds_toArray, List.set_cons_zero, List.set_cons_succ]
        refine wpAnyH_take (i := 14) (v := undef) (by simp only [List.getElem?_toArray, List.getElem?_cons_succ, List.getElem?_cons_zero] <;> rfl) (by kernel_rfl) (by kernel_rfl) (by kernel_rfl) (by exact fun _ _ _ h => h) (Or.inr ⟨by kernel_rfl, rfl⟩) (by assumption) ?_
        try simp only [Act.put, List.setIfInBounds_toArray, List.set_cons_zero, List.set_cons_succ]
        refine wpAnyH_take (i := 15) (v := undef) (by simp only [List.getElem?_toArray, List.getElem?_cons_succ, List.getElem?_cons_zero] <;> rfl) (by kernel_rfl) (by kernel_rfl) (by kernel_rfl) (by exact fun _ _ _ h => h) (Or.inr ⟨by kernel_rfl, rfl⟩) (by assumption) ?_
        try simp only [Act.put, List.setIfInBounds_toArray, List.set_cons_zero, List.set_cons_succ]
        refine wpAnyH_take (i := 16) (v := undef) (by simp only [List.getElem?_toArray, List.getElem?_cons_succ, List.getElem?_cons_zero] <;> rfl) (by kernel_rfl) (by kernel_rfl) (by kernel_rfl) (by exact fun _ _ _ h => h) (Or.inr ⟨by kernel_rfl, rfl⟩) (by assumption) ?_
        try simp only [Act.put, List.setIfInBounds_toArray, List.set_cons_zero, List.set_cons_succ]
        refine wpAnyH_take (i := 17) (v := undef) (by simp only [List.getElem?_toArray, List.getElem?_cons_succ, List.getElem?_cons_zero] <;> rfl) (by kernel_rfl) (by kernel_rfl) (by kernel_rfl) (by exact fun _ _ _ h => h) (Or.inr ⟨by kernel_rfl, rfl⟩) (by assumption) ?_
        try simp only [Act.put, List.setIfInBounds_toArray, List.set_cons_zero, List.set_cons_succ]
        refine wpAnyH_take (i := 18) (v := undef) (by simp only [List.getElem?_toArray, List.getElem?_cons_succ, List.getElem?_cons_zero] <;> rfl) (by kernel_rfl) (by kernel_rfl) (by kernel_rfl) (by exact fun _ _ _ h => h) (Or.inr ⟨by kernel_rfl, rfl⟩) (by assumption) ?_
        try simp only [Act.put, List.setIfInBounds_toArray, List.set_cons_zero, List.set_cons_succ]
        refine wpAnyH_take (i := 19) (v := undef) (by simp only [List.getElem?_toArray, List.getElem?_cons_succ, List.getElem?_cons_zero] <;> rfl) (by kernel_rfl) (by kernel_rfl) (by kernel_rfl) (by exact fun _ _ _ h => h) (Or.inr ⟨by kernel_rfl, rfl⟩) (by assumption) ?_
        try simp only [Act.put, List.setIfInBounds_toArray, List.set_cons_zero, List.set_cons_succ]
        refine wpAnyH_take (i := 20) (v := undef) (by simp only [List.getElem?_toArray, List.getElem?_cons_succ, List.getElem?_cons_zero] <;> rfl) (by kernel_rfl) (by kernel_rfl) (by kernel_rfl) (by exact fun _ _ _ h => h) (Or.inr ⟨by kernel_rfl, rfl⟩) (by assumption) ?_
        try simp only [Act.put, List.setIfInBounds_toArray, List.set_cons_zero, List.set_cons_succ]
        refine wpAnyH_take (i := 21) (v := undef) (by simp only [List.getElem?_toArray, List.getElem?_cons_succ, List.getElem?_cons_zero] <;> rfl) (by kernel_rfl) (by kernel_rfl) (by kernel_rfl) (by exact fun _ _ _ h => h) (Or.inr ⟨by kernel_rfl, rfl⟩) (by assumption) ?_
        try simp only [Act.put, List.setIfInBounds_toArray, List.set_cons_zero, List.set_cons_succ]
        refine wpAnyH_take (i := 22) (v := undef) (by simp only [List.getElem?_toArray, List.getElem?_cons_succ, List.getElem?_cons_zero] <;> rfl) (by kernel_rfl) (by kernel_rfl) (by kernel_rfl) (by exact fun _ _ _ h => h) (Or.inr ⟨by kernel_rfl, rfl⟩) (by assumption) ?_
        try simp only [Act.put, List.setIfInBounds_toArray, List.set_cons_zero, List.set_cons_succ]
        refine wpAnyH_take (i := 23) (v := undef) (by simp only [List.getElem?_toArray, List.getElem?_cons_succ, List.getElem?_cons_zero] <;> rfl) (by kernel_rfl) (by kernel_rfl) (by kernel_rfl) (by exact fun _ _ _ h => h) (Or.inr ⟨by kernel_rfl, rfl⟩) (by assumption) ?_
        try simp only [Act.put, List.setIfInBounds_toArray, List.set_cons_zero, List.set_cons_succ]
        refine wpAnyH_take (i := 24) (v := undef) (by simp only [List.getElem?_toArray, List.getElem?_cons_succ, List.getElem?_cons_zero] <;> rfl) (by kernel_rfl) (by kernel_rfl) (by kernel_rfl) (by exact fun _ _ _ h => h) (Or.inr ⟨by kernel_rfl, rfl⟩) (by assumption) ?_
        try simp only [Act.put, List.setIfInBounds_toArray, List.set_cons_zero, List.set_cons_succ]
        refine wpAnyH_take (i := 25) (v := undef) (by simp only [List.getElem?_toArray, List.getElem?_cons_succ, List.getElem?_cons_zero] <;> rfl) (by kernel_rfl) (by kernel_rfl) (by kernel_rfl) (by exact fun _ _ _ h => h) (Or.inr ⟨by kernel_rfl, rfl⟩) (by assumption) ?_
        try simp only [Act.put, List.setIfInBounds_toArray, List.set_cons_zero, List.set_cons_succ]
        refine wpAnyH_take (i := 26) (v := undef) (by simp only [List.getElem?_toArray, List.getElem?_cons_succ, List.getElem?_cons_zero] <;> rfl) (by kernel_rfl) (by kernel_rfl) (by kernel_rfl) (by exact fun _ _ _ h => h) (Or.inr ⟨by kernel_rfl, rfl⟩) (by assumption) ?_
        try simp only [Act.put, List.setIfInBounds_toArray, List.set_cons_zero, List.set_cons_succ]
        refine wpAnyH_take (i := 27) (v := undef) (by simp only [List.getElem?_toArray, List.getElem?_cons_succ, List.getElem?_cons_zero] <;> rfl) (by kernel_rfl) (by kernel_rfl) (by kernel_rfl) (by exact fun _ _ _ h => h) (Or.inr ⟨by kernel_rfl, rfl⟩) (by assumption) ?_
        try simp only [Act.put, List.setIfInBounds_toArray, List.set_cons_zero, List.set_cons_succ]
        refine wpAnyH_take (i := 28) (v := undef) (by simp only [List.getElem?_toArray, List.getElem?_cons_succ, List.getElem?_cons_zero] <;> rfl) (by kernel_rfl) (by kernel_rfl) (by kernel_rfl) (by exact fun _ _ _ h => h) (Or.inr ⟨by kernel_rfl, rfl⟩) (by assumption) ?_
        try simp only [Act.put, List.setIfInBounds_toArray, List.set_cons_zero, List.set_cons_succ]
        refine wpAnyH_take (i := 29) (v := undef) (by simp only [List.getElem?_toArray, List.getElem?_cons_succ, List.getElem?_cons_zero] <;> rfl) (by kernel_rfl) (by kernel_rfl) (by kernel_rfl) (by exact fun _ _ _ h => h) (Or.inr ⟨by kernel_rfl, rfl⟩) (by assumption) ?_
        try simp only [Act.put, List.setIfInBounds_toArray, List.set_cons_zero, List.set_cons_succ]
        refine wpAnyH_take (i := 30) (v := undef) (by simp only [List.getElem?_toArray, List.getElem?_cons_succ, List.getElem?_cons_zero] <;> rfl) (by kernel_rfl) (by kernel_rfl) (by kernel_rfl) (by exact fun _ _ _ h => h) (Or.inr ⟨by kernel_rfl, rfl⟩) (by assumption) ?_
        try simp only [Act.put, List.setIfInBounds_toArray, List.set_cons_zero, List.set_cons_succ]
        refine wpAnyH_take (i := 31) (v := undef) (by simp only [List.getElem?_toArray, List.getElem?_cons_succ, List.getElem?_cons_zero] <;> rfl) (by kernel_rfl) (by kernel_rfl) (by kernel_rfl) (by exact fun _ _ _ h => h) (Or.inr ⟨by kernel_rfl, rfl⟩) (by assumption) ?_
        try simp only [Act.put, List.setIfInBounds_toArray, List.set_cons_zero, List.set_cons_succ]
        refine wpAnyH_take (i := 32) (v := undef) (by simp only [List.getElem?_toArray, List.getElem?_cons_succ, List.getElem?_cons_zero] <;> rfl) (by kernel_rfl) (by kernel_rfl) (by kernel_rfl) (by exact fun _ _ _ h => h) (Or.inr ⟨by kernel_rfl, rfl⟩) (by assumption) ?_
        try simp only [Act.put, List.setIfInBounds_toArray, List.set_cons_zero, List.set_cons_succ]
        refine wpAnyH_take (i := 33) (v := undef) (by simp only [List.getElem?_toArray, List.getElem?_cons_succ, List.getElem?_cons_zero] <;> rfl) (by kernel_rfl) (by kernel_rfl) (by kernel_rfl) (by exact fun _ _ _ h => h) (Or.inr ⟨by kernel_rfl, rfl⟩) (by assumption) ?_
        try simp only [Act.put, List.setIfInBounds_toArray, List.set_cons_zero, List.set_cons_succ]
        refine wpAnyH_take (i := 34) (v := undef) (by simp only [List.getElem?_toArray, List.getElem?_cons_succ, List.getElem?_cons_zero] <;> rfl) (by kernel_rfl) (by kernel_rfl) (by kernel_rfl) (by exact fun _ _ _ h => h) (Or.inr ⟨by kernel_rfl, rfl⟩) (by assumption) ?_
        try simp only [Act.put, List.setIfInBounds_toArray, List.set_cons_zero, List.set_cons_succ]
        refine wpAnyH_take (i := 35) (v := ?_) (by simp only [List.getElem?_toArray, List.getElem?_cons_succ, List.getElem?_cons_zero] <;> rfl) (by kernel_rfl) (by kernel_rfl) (by kernel_rfl) (by exact fun _ _ _ h => h) (Or.inl ⟨by kernel_rfl, ?_⟩) (by assumption) ?_
        rotate_left
        · intro w' hSw; (try dsimp only at hSw); go_simp; try with_reducible rfl
        try simp only [Act.put, List.setIfInBounds_toArray, List.set_cons_zero, List.set_cons_succ]
        refine wpAnyH_done (by kernel_rfl) ?_ _
        go_wp2
        go_ret
        exact ⟨ret_bool HR.out.symm, hww.trans inferInstance⟩
      have BF := Lib.hid (brkFacts HK.out (brokenD_ok cb))
      have hz0 : 0 < zn0 := by rw [Hpl.out]; exact BF.out.pos
      obtain ⟨b1, o1, A1, n1, c1, x0, rfl, hx0, hc1, hi1⟩ := Sl.row_ hP hz0
      simp only [Nat.add_zero] at hc1
      have hx0f := BF.out.at_ hx0.out
      have hn10 : 0 < n1 := by rw [hi1.len]; exact hx0f.1
      have hn1l := hi1.le
      obtain ⟨b2, o2, v0, rfl, hv0, hc2, _⟩ := Ints.at_ hi1 hn10
      simp only [Nat.add_zero] at hc2
      have HH : Hid (headI (d.Pieces.headD []) = v0) := by show _ = _; rw [headP_of hx0.out, headI_of hv0.out]
      have HV0 := Lib.hid (hx0f.2 v0 (List.mem_of_getElem? hv0.out))
      clear hi1 hx0 hx0f hv0
      have CB := Lib.hid cb
      rcases HLA.out with ⟨hk0, hl0⟩ | ⟨m0, d0, hkm, hd0, hl0, hb0⟩
      · have ch : ¬ v0 ≤ lst := by have := headV_pos RF.out.time HV0.out; omega
        have HF2 : Hid (idsThen t f bs r (ls.drop (k + 1)) v0 (d.Pieces.drop 0).flatten seen = coverGo t f bs r ls 0 []) := by
          show _ = _
          rw [← HF1.out, coverGo_good cb (by rw [HH.out]; exact ch), HH.out, List.drop_zero]
        have hk0' : ¬ (0 < (k : Int)) := by omega
        have hk0n : ¬ (0 < k) := by omega
        have hk0d : decide (0 < k) = false := decide_eq_false hk0n
        clear cb HF1 hk0 hl0 ch
        go_wp2_with fail
        refine wp_region_held_drew (S := (fun w' => Later wb w' ∧ Later wr w')) (by kernel_rfl) (by exact ⟨inferInstance, inferInstance⟩) (fun hHeld => ?_)
        refine wpAnyH_take (i := 0) (v := ?_) (by simp only [List.getElem?_toArray, List.getElem?_cons_zero] <;> rfl) (by kernel_rfl) (by kernel_rfl) (by kernel_rfl) (by exact fun _ _ _ h => h) (Or.inl ⟨by kernel_rfl, ?_⟩) (by assumption) ?_
        rotate_left
        · intro w' hSw; (try dsimp only at hSw); go_simp; try with_reducible rfl
        try simp only [Act.put, List.setIfInBounds_toArray, List.set_cons_zero, List.set_cons_succ]
        refine wpAnyH_take (i := 1) (v := ?_) (by simp only [List.getElem?_toArray, List.getElem?_cons_succ, List.getElem?_cons_zero] <;> rfl) (by kernel_rfl) (by kernel_rfl) (by kernel_rfl) (by exact fun _ _ _ h => h) (Or.inl ⟨by kernel_rfl, ?_⟩) (by assumption) ?_
        rotate_left
        · intro w' hSw; (try dsimp only at hSw); go_simp; try with_reducible rfl
        try simp only [Act.put, List.setIfInBounds_toArray, List.set_cons_zero, List.set_cons_succ]
        refine wpAnyH_take (i := 2) (v := ?_) (by simp only [List.getElem?_toArray, List.getElem?_cons_succ, List.getElem?_cons_zero] <;> rfl) (by kernel_rfl) (by kernel_rfl) (by kernel_rfl) (by exact fun _ _ _ h => h) (Or.inl ⟨by kernel_rfl, ?_⟩) (by assumption) ?_
        rotate_left
        · intro w' hSw; (try dsimp only at hSw); go_simp; try with_reducible rfl
        try simp only [Act.put, List.setIfInBounds_toArray, List.set_cons_zero, List.set_cons_succ]
        refine wpAnyH_take (i := 3) (v := ?_) (by simp only [List.getElem?_toArray, List.getElem?_cons_succ, List.getElem?_cons_zero] <;> rfl) (by kernel_rfl) (by kernel_rfl) (by kernel_rfl) (by exact fun _ _ _ h => h) (Or.inl ⟨by kernel_rfl, ?_⟩) (by assumption) ?_
        rotate_left
        · intro w' hSw; (try dsimp only at hSw); go_simp; try with_reducible rfl
        try simp only [Act.put, List.setIfInBounds_toArray, List.set_cons_zero, List.set_cons_succ]
        refine wpAnyH_take (i := 4) (v := ?_) (by simp only [List.getElem?_toArray, List.getElem?_cons_succ, List.getElem?_cons_zero] <;> rfl) (by kernel_rfl) (by kernel_rfl) (by kernel_rfl) (by exact fun _ _ _ h => h) (Or.inl ⟨by kernel_rfl, ?_⟩) (by assumption) ?_
        rotate_left
        · intro w' hSw; (try dsimp only at hSw); go_simp; try with_reducible rfl
        try simp only [Act.put, List.setIfInBounds_toArray, List.set_cons_zero, List.set_cons_succ]
        refine wpAnyH_take (i := 5) (v := ?_) (by simp only [List.getElem?_toArray, List.getElem?_cons_succ, List.getElem?_cons_zero] <;> rfl) (by kernel_rfl) (by kernel_rfl) (by kernel_rfl) (by exact fun _ _ _ h => h) (Or.inl ⟨by kernel_rfl, ?_⟩) (by assumption) ?_
        rotate_left
        · intro w' hSw; (try dsimp only at hSw); go_simp; try with_reducible rfl
        try simp only [Act.put, List.setIfInBounds_toArray, List.set_cons_zero, List.set_cons_succ]
        refine wpAnyH_take (i := 6) (v := ?_) (by simp only [List.getElem?_toArray, List.getElem?_cons_succ, List.getElem?_cons_zero] <;> rfl) (by kernel_rfl) (by kernel_rfl) (by kernel_rfl) (by exact fun _ _ _ h => h) (Or.inl ⟨by kernel_rfl, ?_⟩) (by assumption) ?_
        rotate_left
        · intro w' hSw; (try dsimp only at hSw); go_simp; try with_reducible rfl
        try simp only [Act.put, List.setIfInBounds_toArray, List.set_cons_zero, List.set_cons_succ]
        refine wpAnyH_take (i := 7) (v := ?_) (by simp only [List.getElem?_toArray, List.getElem?_cons_succ, List.getElem?_cons_zero] <;> rfl) (by kernel_rfl) (by kernel_rfl) (by kernel_rfl) (by exact fun _ _ _ h => h) (Or.inl ⟨by kernel_rfl, ?_⟩) (by assumption) ?_
        rotate_left
        · intro w' hSw; (try dsimp only at hSw); go_simp; try with_reducible rfl
        try simp only [Act.put, List.setIfInBounds_toArray, List.set_cons_zero, List.set_cons_succ]
        refine wpAnyH_ready (rs := [8]) (by kernel_rfl) (by simp) (AllReadyH.cons rfl (fun K hK => ?_) AllReadyH.nil)
        go_simp
        (go_at_call 77; refine (spec_l12Broken H.out (hwb0.trans inferInstance) H2.out (hwb2.trans inferInstance) H3.out (hwb3.trans inferInstance) HDU.out inferInstance HK.out RR.out HFI.out).mono ?_; rw [CB.out]; rintro e w5 ⟨rfl, L5⟩; have X5 := Later.trans (w := wb) inferInstance L5; have Z5 := Later.trans (w := wr) inferInstance L5)
        refine hK.out _ _ (by exact ⟨inferInstance, inferInstance⟩) (fun hHeld => ?_)
        try simp only [Act.put, List.setIfInBounds_toArray, List.set_cons_zero, List.set_cons_succ]
        refine wpAnyH_take (i := 9) (v := ?_) (by simp only [List.getElem?_toArray, List.getElem?_cons_succ, List.getElem?_cons_zero] <;> rfl) (by kernel_rfl) (by kernel_rfl) (by kernel_rfl) (by exact fun _ _ _ h => h) (Or.inl ⟨by kernel_rfl, ?_⟩) (by assumption) ?_
        rotate_left
        · intro w' hSw; (try dsimp only at hSw); go_simp; try with_reducible rfl
        try simp only [Act.put, List.setIfInBounds_toArray, List.set_cons_zero, List.set_cons_succ]
        refine wpAnyH_take (i := 10) (v := ?_) (by simp only [List.getElem?_toArray, List.getElem?_cons_succ, List.getElem?_cons_zero] <;> rfl) (by kernel_rfl) (by kernel_rfl) (by kernel_rfl) (by exact fun _ _ _ h => h) (Or.inl ⟨by kernel_rfl, ?_⟩) (by assumption) ?_
        rotate_left
        · intro w' hSw; (try dsimp only at hSw); go_simp; try with_reducible rfl
        try simp only [Act.put, List.setIfInBounds_toArray, List.set_cons_zero, List.set_cons_succ]
        refine wpAnyH_take (i := 11) (v := ?_) (by simp only [List.getElem?_toArray, List.getElem?_cons_succ, List.getElem?_cons_zero] <;> rfl) (by kernel_rfl) (by kernel_rfl) (by kernel_rfl) (by exact fun _ _ _ h => h) (Or.inl ⟨by kernel_rfl, ?_⟩) (by assumption) ?_
        rotate_left
        · intro w' hSw; (try dsimp only at hSw); go_simp; try with_reducible rfl
        try simp only [Act.put, List.setIfInBounds_toArray, List.set_cons_zero, List.set_cons_succ]
        refine wpAnyH_take (i := 12) (v := ?_) (by simp only [List.getElem?_toArray, List.getElem?_cons_succ, List.getElem?_cons_zero] <;> rfl) (by kernel_rfl) (by kernel_rfl) (by kernel_rfl) (by exact fun _ _ _ h => h) (Or.inl ⟨by kernel_rfl, ?_⟩) (by assumption) ?_
        rotate_left
        · intro w' hSw; (try dsimp only at hSw); go_simp; try with_reducible rfl
        try simp only [Act.put, List.setIfInBounds_toArray, List.set_cons_zero, List.set_cons_succ]
        refine wpAnyH_take (i := 13) (v := ?_) (by simp only [List.getElem?_toArray, List.getElem?_cons_succ, List.getElem?_cons_zero] <;> rfl) (by kernel_rfl) (by kernel_rfl) (by kernel_rfl) (by exact fun _ _ _ h => h) (Or.inl ⟨by kernel_rfl, ?_⟩) (by assumption) ?_
        rotate_left
        · intro w' hSw; (try dsimp only at hSw); go_simp; try with_reducible rfl
        try simp only [Act.put, List.setIfInBounds_toArray, List.set_cons_zero, List.set_cons_succ]
        refine wpAnyH_take (i := 14) (v := undef) (by simp only [List.getElem?_toArray, List.getElem?_cons_succ, List.getElem?_cons_zero] <;> rfl) (by kernel_rfl) (by kernel_rfl) (by kernel_rfl) (by exact fun _ _ _ h => h) (Or.inr ⟨by kernel_rfl, rfl⟩) (by assumption) ?_
        try simp only [Act.put, List.setIfInBounds_toArray, List.set_cons_zero, List.set_cons_succ]
        refine wpAnyH_take (i := 15) (v := undef) (by simp only [List.getElem?_toArray, List.getElem?_cons_succ, List.getElem?_cons_zero] <;> rfl) (by kernel_rfl) (by kernel_rfl) (by kernel_rfl) (by exact fun _ _ _ h => h) (Or.inr ⟨by kernel_rfl, rfl⟩) (by assumption) ?_
        try simp only [Act.put, List.setIfInBounds_toArray, List.set_cons_zero, List.set_cons_succ]
        refine wpAnyH_take (i := 16) (v := undef) (by simp only [List.getElem?_toArray, List.getElem?_cons_succ, List.getElem?_cons_zero] <;> rfl) (by kernel_rfl) (by kernel_rfl) (by kernel_rfl) (by exact fun _ _ _ h => h) (Or.inr ⟨by kernel_rfl, rfl⟩) (by assumption) ?_
        try simp only [Act.put, List.setIfInBounds_toArray, List.set_cons_zero, List.set_cons_succ]
        refine wpAnyH_take (i := 17) (v := undef) (by simp only [List.getElem?_toArray, List.getElem?_cons_succ, List.getElem?_cons_zero] <;> rfl) (by kernel_rfl) (by kernel_rfl) (by kernel_rfl) (by exact fun _ _ _ h => h) (Or.inr ⟨by kernel_rfl, rfl⟩) (by assumption) ?_
        try simp only [Act.put, List.setIfInBounds_toArray, List.set_cons_zero, List.set_cons_succ]
        refine wpAnyH_take (i := 18) (v := undef) (by simp only [List.getElem?_toArray, List.getElem?_cons_succ, List.getElem?_cons_zero] <;> rfl) (by kernel_rfl) (by kernel_rfl) (by kernel_rfl) (by exact fun _ _ _ h => h) (Or.inr ⟨by kernel_rfl, rfl⟩) (by assumption) ?_
        try simp only [Act.put, List.setIfInBounds_toArray, List.set_cons_zero, List.set_cons_succ]
        refine wpAnyH_take (i := 19) (v := undef) (by simp only [List.getElem?_toArray, List.getElem?_cons_succ, List.getElem?_cons_zero] <;> rfl) (by kernel_rfl) (by kernel_rfl) (by kernel_rfl) (by exact fun _ _ _ h => h) (Or.inr ⟨by kernel_rfl, rfl⟩) (by assumption) ?_
        try simp only [Act.put, List.setIfInBounds_toArray, List.set_cons_zero, List.set_cons_succ]
        refine wpAnyH_take (i := 20) (v := undef) (by simp only [List.getElem?_toArray, List.getElem?_cons_succ, List.getElem?_cons_zero] <;> rfl) (by kernel_rfl) (by kernel_rfl) (by kernel_rfl) (by exact fun _ _ _ h => h) (Or.inr ⟨by kernel_rfl, rfl⟩) (by assumption) ?_
        try simp only [Act.put, List.setIfInBounds_toArray, List.set_cons_zero, List.set_cons_succ]
        refine wpAnyH_take (i := 21) (v := undef) (by simp only [List.getElem?_toArray, List.getElem?_cons_succ, List.getElem?_cons_zero] <;> rfl) (by kernel_rfl) (by kernel_rfl) (by kernel_rfl) (by exact fun _ _ _ h => h) (Or.inr ⟨by kernel_rfl, rfl⟩) (by assumption) ?_
        try simp only [Act.put, List.setIfInBounds_toArray, List.set_cons_zero, List.set_cons_succ]
        refine wpAnyH_take (i := 22) (v := undef) (by simp only [List.getElem?_toArray, List.getElem?_cons_succ, List.getElem?_cons_zero] <;> rfl) (by kernel_rfl) (by kernel_rfl) (by kernel_rfl) (by exact fun _ _ _ h => h) (Or.inr ⟨by kernel_rfl, rfl⟩) (by assumption) ?_
        try simp only [Act.put, List.setIfInBounds_toArray, List.set_cons_zero, List.set_cons_succ]
        refine wpAnyH_take (i := 23) (v := undef) (by simp only [List.getElem?_toArray, List.getElem?_cons_succ, List.getElem?_cons_zero] <;> rfl) (by kernel_rfl) (by kernel_rfl) (by kernel_rfl) (by exact fun _ _ _ h => h) (Or.inr ⟨by kernel_rfl, rfl⟩) (by assumption) ?_
        try simp only [Act.put, List.setIfInBounds_toArray, List.set_cons_zero, List.set_cons_succ]
        refine wpAnyH_take (i := 24) (v := undef) (by simp only [List.getElem?_toArray, List.getElem?_cons_succ, List.getElem?_cons_zero] <;> rfl) (by kernel_rfl) (by kernel_rfl) (by kernel_rfl) (by exact fun _ _ _ h => h) (Or.inr ⟨by kernel_rfl, rfl⟩) (by assumption) ?_
        try simp only [Act.put, List.setIfInBounds_toArray, List.set_cons_zero, List.set_cons_succ]
        refine wpAnyH_take (i := 25) (v := undef) (by simp only [List.getElem?_toArray, List.getElem?_cons_succ, List.getElem?_cons_zero] <;> rfl) (by kernel_rfl) (by kernel_rfl) (by kernel_rfl) (by exact fun _ _ _ h => h) (Or.inr ⟨by kernel_rfl, rfl⟩) (by assumption) ?_
        try simp only [Act.put, List.setIfInBounds_toArray, List.set_cons_zero, List.set_cons_succ]
        refine wpAnyH_take (i := 26) (v := undef) (by simp only [List.getElem?_toArray, List.getElem?_cons_succ, List.getElem?_cons_zero] <;> rfl) (by kernel_rfl) (by kernel_rfl) (by kernel_rfl) (by exact fun _ _ _ h => h) (Or.inr ⟨by kernel_rfl, rfl⟩) (by assumption) ?_
        try simp only [Act.put, List.setIfInBounds_toArray, List.set_cons_zero, List.set_cons_succ]
        refine wpAnyH_take (i := 27) (v := undef) (by simp only [List.getElem?_toArray, List.getElem?_cons_succ, List.getElem?_cons_zero] <;> rfl) (by kernel_rfl) (by kernel_rfl) (by kernel_rfl) (by exact fun _ _ _ h => h) (Or.inr ⟨by kernel_rfl, rfl⟩) (by assumption) ?_
        try simp only [Act.put, List.setIfInBounds_toArray, List.set_cons_zero, List.set_cons_succ]
        refine wpAnyH_take (i := 28) (v := undef) (by simp only [List.getElem?_toArray, List.getElem?_cons_succ, List.getElem?_cons_zero] <;> rfl) (by kernel_rfl) (by kernel_rfl) (by kernel_rfl) (by exact fun _ _ _ h => h) (Or.inr ⟨by kernel_rfl, rfl⟩) (by assumption) ?_
        try simp only [Act.put, List.setIfInBounds_toArray, List.set_cons_zero, List.set_cons_succ]
        refine wpAnyH_take (i := 29) (v := undef) (by simp only [List.getElem?_toArray, List.getElem?_cons_succ, List.getElem?_cons_zero] <;> rfl) (by kernel_rfl) (by kernel_rfl) (by kernel_rfl) (by exact fun _ _ _ h => h) (Or.inr ⟨by kernel_rfl, rfl⟩) (by assumption) ?_
        try simp only [Act.put, List.setIfInBounds_toArray, List.set_cons_zero, List.set_cons_succ]
        refine wpAnyH_take (i := 30) (v := undef) (by simp only [List.getElem?_toArray, List.getElem?_cons_succ, List.getElem?_cons_zero] <;> rfl) (by kernel_rfl) (by kernel_rfl) (by kernel_rfl) (by exact fun _ _ _ h => h) (Or.inr ⟨by kernel_rfl, rfl⟩) (by assumption) ?_
        try simp only [Act.put, List.setIfInBounds_toArray, List.set_cons_zero, List.set_cons_succ]
        refine wpAnyH_take (i := 31) (v := undef) (by simp only [List.getElem?_toArray, List.getElem?_cons_succ, List.getElem?_cons_zero] <;> rfl) (by kernel_rfl) (by kernel_rfl) (by kernel_rfl) (by exact fun _ _ _ h => h) (Or.inr ⟨by kernel_rfl, rfl⟩) (by assumption) ?_
        try simp only [Act.put, List.setIfInBounds_toArray, List.set_cons_zero, List.set_cons_succ]
        refine wpAnyH_take (i := 32) (v := undef) (by simp only [List.getElem?_toArray, List.getElem?_cons_succ, List.getElem?_cons_zero] <;> rfl) (by kernel_rfl) (by kernel_rfl) (by kernel_rfl) (by exact fun _ _ _ h => h) (Or.inr ⟨by kernel_rfl, rfl⟩) (by assumption) ?_
        try simp only [Act.put, List.setIfInBounds_toArray, List.set_cons_zero, List.set_cons_succ]
        refine wpAnyH_take (i := 33) (v := undef) (by simp only [List.getElem?_toArray, List.getElem?_cons_succ, List.getElem?_cons_zero] <;> rfl) (by kernel_rfl) (by kernel_rfl) (by kernel_rfl) (by exact fun _ _ _ h => h) (Or.inr ⟨by kernel_rfl, rfl⟩) (by assumption) ?_
        try simp only [Act.put, List.setIfInBounds_toArray, List.set_cons_zero, List.set_cons_succ]
        refine wpAnyH_take (i := 34) (v := ?_) (by simp only [List.getElem?_toArray, List.getElem?_cons_succ, List.getElem?_cons_zero] <;> rfl) (by kernel_rfl) (by kernel_rfl) (by kernel_rfl) (by exact fun _ _ _ h => h) (Or.inl ⟨by kernel_rfl, ?_⟩) (by assumption) ?_
        rotate_left
        · intro w' hSw; (try dsimp only at hSw); go_simp; try with_reducible rfl
        try simp only [Act.put, List.setIfInBounds_toArray, List.set_cons_zero, List.set_cons_succ]
        refine wpAnyH_take (i := 35) (v := ?_) (by simp only [List.getElem?_toArray, List.getElem?_cons_succ, List.getElem?_cons_zero] <;> rfl) (by kernel_rfl) (by kernel_rfl) (by kernel_rfl) (by exact fun _ _ _ h => h) (Or.inl ⟨by kernel_rfl, ?_⟩) (by assumption) ?_
        rotate_left
        · intro w' hSw; (try dsimp only at hSw); go_simp; try with_reducible rfl
        try simp only [Act.put, List.setIfInBounds_toArray, List.set_cons_zero, List.set_cons_succ]
        refine wpAnyH_done (by kernel_rfl) ?_ _
        go_wp2_with fail
        go_loopw [11, 13] (fun ov i wr' => ∃ (m : Nat) (sn : List Int), m ≤ zn0 ∧ i = .int .i64 m ∧ Hid (idsThen t f bs r (ls.drop (k + 1)) v0 (d.Pieces.drop m).flatten sn = coverGo t f bs r ls 0 []) ∧ Hid (SeenI t sn) ∧ Hid (wr'.ownsRow (w.heap.size + 3) 3 1 ov sn.length (sn.map (Value.int .i64))) ∧ Later wb wr') (fun _ i _ => zn0 - (intOf i).toNat)
        case atStart => exact ⟨0, seen, by omega, rfl, HF2, HS, ownsRow_later hown.out (inferInstance : Later wr _), inferInstance⟩
        case round =>
          obtain ⟨m, sn, hm, rfl, HG, HS2, hown2, hY⟩ := hrel
          by_cases hmt : m < zn0
          · obtain ⟨b3, o3, A3, n3, c3, x, hA3, hx, hc3, hi⟩ := Sl.row_ hP hmt
            cases hA3
            have hn3 := hi.le
            have Hx3 := Lib.hid hi.len
            have HXF := Lib.hid (BF.out.found x (List.mem_of_getElem? hx.out))
            have HG1 : Hid (idsThen t f bs r (ls.drop (k + 1)) v0 (x.drop 0 ++ (d.Pieces.drop (m + 1)).flatten) sn = coverGo t f bs r ls 0 []) := by show _ = _; rw [← HG.out, flat_drop hx.out, List.drop_zero]
            clear HG hx
            go_wp2_with fail
            go_loopw [11, 14] (fun ov i ws => ∃ (j : Nat) (s2 : List Int), j ≤ n3 ∧ i = .int .i64 j ∧ Hid (idsThen t f bs r (ls.drop (k + 1)) v0 (x.drop j ++ (d.Pieces.drop (m + 1)).flatten) s2 = coverGo t f bs r ls 0 []) ∧ Hid (SeenI t s2) ∧ Hid (ws.ownsRow (w.heap.size + 3) 3 1 ov s2.length (s2.map (Value.int .i64))) ∧ Later wb ws) (fun _ i _ => n3 - (intOf i).toNat)
            case atStart => exact ⟨0, sn, by omega, rfl, HG1, HS2, hown2, inferInstance⟩
            case round =>
              obtain ⟨j, s2, hj, rfl, HW, HS3, hown3, hZ⟩ := hrel
              have hs2 := HS3.out.len RF.out.time
              by_cases hjt : j < n3
              · obtain ⟨b4, o4, v, hA4, hv, hcv, _⟩ := Ints.at_ hi hjt
                cases hA4
                have hvf := HXF.out v (List.mem_of_getElem? hv.out)
                have HW1 : Hid (idsThen t f bs r (ls.drop (k + 1)) v0 (v :: (x.drop (j + 1) ++ (d.Pieces.drop (m + 1)).flatten)) s2 = coverGo t f bs r ls 0 []) := by show _ = _; rw [← HW.out, drop_at hv.out]; rfl
                obtain ⟨A9, c9, fp9, hov, ho9, _, _⟩ := OSl.ints_of_own hown3.out (HS3.out.i64 RF.out.time)
                subst hov
                have h9 : Ints wr _ _ _ _ := ho9.reads
                have HO9 := Lib.hid h9
                clear HW hv ho9
                by_cases cB : v ∈ s2
                · have HB9 : Hid (decide (v ∈ s2) = true) := decide_eq_true cB
                  have HR : Hid (okCover t f bs r ls = false) := okCover_none (HW1.out.symm.trans (idsThen_in cB))
                  clear cB HW1 hvf
                  go_wp2_with (go_at_call 92; refine (spec_l1Has HO9.out inferInstance _).mono ?_; rw [HB9.out]; rintro e w8 ⟨rfl, L8⟩; have X8 := Later.trans (w := wb) inferInstance L8; have Z8 := Later.trans (w := wr) inferInstance L8)
                  go_ret
                  exact ⟨ret_bool HR.out.symm, hww.trans inferInstance⟩
                · have HB9 : Hid (decide (v ∈ s2) = false) := decide_eq_false cB
                  have HW2 : Hid (idsThen t f bs r (ls.drop (k + 1)) v0 (x.drop (j + 1) ++ (d.Pieces.drop (m + 1)).flatten) (s2 ++ [v]) = coverGo t f bs r ls 0 []) := by show _ = _; rw [← HW1.out, idsThen_out cB]
                  have HS4 := Lib.hid (HS3.out.snoc hvf cB)
                  have hsn : s2.length ≤ 1073741824 := by omega
                  clear cB HW1 hvf
                  go_wp2_with first
                    | (go_at_call 92; refine (spec_l1Has HO9.out inferInstance _).mono ?_; rw [HB9.out]; rintro e w8 ⟨rfl, L8⟩; have X8 := Later.trans (w := wb) inferInstance L8; have Z8 := Later.trans (w := wr) inferInstance L8)
                    | (at_builtin; refine wpList_app_B rfl _ _ 65 rfl Tryz.underlying65 infoInt rfl (by decide) (by decide) rfl (by exact ownsRow_later hown3.out (inferInstance : Later wr _)) (inferInstance : Later wb _) hbs (Nat.le_trans hbs2 (Later.size (w := wb) inferInstance)) rfl rfl (one_cell _ _) hsn ?_; intro v' w9 hown' hX9)
                  go_roundw
                  case rel => exact ⟨j + 1, s2 ++ [v], by omega, by go_num, HW2, HS4, by show World.ownsRow _ _ _ _ _ _ _; rw [List.map_append, List.length_append]; exact hown', inferInstance⟩
                  case measure => simp [intOf]; omega
              · have HG2 : Hid (idsThen t f bs r (ls.drop (k + 1)) v0 (d.Pieces.drop (m + 1)).flatten s2 = coverGo t f bs r ls 0 []) := by show _ = _; rw [← HW.out, (List.drop_eq_nil_of_le (by have := Hx3.out; omega) : x.drop j = [])]; rfl
                clear HW
                go_wp2_with fail
                go_roundw
                case rel => exact ⟨m + 1, s2, by omega, by go_num, HG2, HS3, hown3, inferInstance⟩
                case measure => simp [intOf]; omega
          · have HF3 : Hid (coverGo t f bs r (ls.drop (k + 1)) v0 sn = coverGo t f bs r ls 0 []) := by show _ = _; rw [← HG.out, (List.drop_eq_nil_of_le (by have := Hpl.out; omega) : d.Pieces.drop m = [])]; rfl
            clear HG
            go_wp2_with fail
            go_roundw
            case rel => exact ⟨k + 1, sn, v0, by omega, by go_num, HF3, .inr ⟨k, d, rfl, HDA.out, HH.out.symm, CB.out⟩, HS2, hown2, inferInstance⟩
            case measure => simp [intOf]; omega
      · have hm0n : m0 < ln := by omega
        obtain ⟨b', o', yA0, yn0, yc0, d0', hlA', hd0', hcd', hDu'⟩ := Dutys.at_ HLL.out hm0n
        cases hlA'
        obtain rfl : d0' = d0 := Option.some.inj (hd0'.out.symm.trans hd0)
        have BF' := Lib.hid (brkFacts HK.out (brokenD_ok hb0))
        have hP' := hDu'.l_Pieces
        have hpl' := hP'.le
        have hz0' : 0 < yn0 := by rw [hP'.len]; exact BF'.out.pos
        obtain ⟨b1', o1', A1', n1', c1', x0', rfl, hx0', hc1', hi1'⟩ := Sl.row_ hP' hz0'
        simp only [Nat.add_zero] at hc1'
        have hx0f' := BF'.out.at_ hx0'.out
        have hn10' : 0 < n1' := by rw [hi1'.len]; exact hx0f'.1
        have hn1l' := hi1'.le
        obtain ⟨b2', o2', v0', rfl, hv0', hc2', _⟩ := Ints.at_ hi1' hn10'
        simp only [Nat.add_zero] at hc2'
        obtain rfl : lst = v0' := by rw [hl0, headP_of hx0'.out, headI_of hv0'.out]
        have hwk : IntKind.i64.wrap ((k : Int) - 1) = (m0 : Int) := by rw [IntKind.wrap_i64]; omega
        have hk0' : 0 < (k : Int) := by omega
        have hk0n : 0 < k := by omega
        clear hi1' hx0' hx0f' hv0' hP' hDu' hd0' hb0 hl0 hkm
        by_cases ch : v0 ≤ lst
        · have HR : Hid (okCover t f bs r ls = false) := okCover_none (HF1.out.symm.trans (coverGo_bad2 cb (by rw [HH.out]; exact ch)))
          clear cb HF1 hP
          go_wp2_with fail
          refine wp_region_held_drew (S := (fun w' => Later wb w' ∧ Later wr w')) (by kernel_rfl) (by exact ⟨inferInstance, inferInstance⟩) (fun hHeld => ?_)
          refine wpAnyH_take (i := 0) (v := ?_) (by simp only [List.getElem?_toArray, List.getElem?_cons_zero] <;> rfl) (by kernel_rfl) (by kernel_rfl) (by kernel_rfl) (by exact fun _ _ _ h => h) (Or.inl ⟨by kernel_rfl, ?_⟩) (by assumption) ?_
          rotate_left
          · intro w' hSw; (try dsimp only at hSw); go_simp; try with_reducible rfl
          try simp only [Act.put, List.setIfInBounds_toArray, List.set_cons_zero, List.set_cons_succ]
          refine wpAnyH_take (i := 1) (v := ?_) (by simp only [List.getElem?_toArray, List.getElem?_cons_succ, List.getElem?_cons_zero] <;> rfl) (by kernel_rfl) (by kernel_rfl) (by kernel_rfl) (by exact fun _ _ _ h => h) (Or.inl ⟨by kernel_rfl, ?_⟩) (by assumption) ?_
          rotate_left
          · intro w' hSw; (try dsimp only at hSw); go_simp; try with_reducible rfl
          try simp only [Act.put, List.setIfInBounds_toArray, List.set_cons_zero, List.set_cons_succ]
          refine wpAnyH_take (i := 2) (v := ?_) (by simp only [List.getElem?_toArray, List.getElem?_cons_succ, List.getElem?_cons_zero] <;> rfl) (by kernel_rfl) (by kernel_rfl) (by kernel_rfl) (by exact fun _ _ _ h => h) (Or.inl ⟨by kernel_rfl, ?_⟩) (by assumption) ?_
          rotate_left
          · intro w' hSw; (try dsimp only at hSw); go_simp; try with_reducible rfl
          try simp only [Act.put, List.setIfInBounds_toArray, List.set_cons_zero, List.set_cons_succ]
          refine wpAnyH_take (i := 3) (v := ?_) (by simp only [List.getElem?_toArray, List.getElem?_cons_succ, List.getElem?_cons_zero] <;> rfl) (by kernel_rfl) (by kernel_rfl) (by kernel_rfl) (by exact fun _ _ _ h => h) (Or.inl ⟨by kernel_rfl, ?_⟩) (by assumption) ?_
          rotate_left
          · intro w' hSw; (try dsimp only at hSw); go_simp; try with_reducible rfl
          try simp only [Act.put, List.setIfInBounds_toArray, List.set_cons_zero, List.set_cons_succ]
          refine wpAnyH_take (i := 4) (v := ?_) (by simp only [List.getElem?_toArray, List.getElem?_cons_succ, List.getElem?_cons_zero] <;> rfl) (by kernel_rfl) (by kernel_rfl) (by kernel_rfl) (by exact fun _ _ _ h => h) (Or.inl ⟨by kernel_rfl, ?_⟩) (by assumption) ?_
          rotate_left
          · intro w' hSw; (try dsimp only at hSw); go_simp; try with_reducible rfl
          try simp only [Act.put, List.setIfInBounds_toArray, List.set_cons_zero, List.set_cons_succ]
          refine wpAnyH_take (i := 5) (v := ?_) (by simp only [List.getElem?_toArray, List.getElem?_cons_succ, List.getElem?_cons_zero] <;> rfl) (by kernel_rfl) (by kernel_rfl) (by kernel_rfl) (by exact fun _ _ _ h => h) (Or.inl ⟨by kernel_rfl, ?_⟩) (by assumption) ?_
          rotate_left
          · intro w' hSw; (try dsimp only at hSw); go_simp; try with_reducible rfl
          try simp only [Act.put, List.setIfInBounds_toArray, List.set_cons_zero, List.set_cons_succ]
          refine wpAnyH_take (i := 6) (v := ?_) (by simp only [List.getElem?_toArray, List.getElem?_cons_succ, List.getElem?_cons_zero] <;> rfl) (by kernel_rfl) (by kernel_rfl) (by kernel_rfl) (by exact fun _ _ _ h => h) (Or.inl ⟨by kernel_rfl, ?_⟩) (by assumption) ?_
          rotate_left
          · intro w' hSw; (try dsimp only at hSw); go_simp; try with_reducible rfl
          try simp only [Act.put, List.setIfInBounds_toArray, List.set_cons_zero, List.set_cons_succ]
          refine wpAnyH_take (i := 7) (v := ?_) (by simp only [List.getElem?_toArray, List.getElem?_cons_succ, List.getElem?_cons_zero] <;> rfl) (by kernel_rfl) (by kernel_rfl) (by kernel_rfl) (by exact fun _ _ _ h => h) (Or.inl ⟨by kernel_rfl, ?_⟩) (by assumption) ?_
          rotate_left
          · intro w' hSw; (try dsimp only at hSw); go_simp; try with_reducible rfl
          try simp only [Act.put, List.setIfInBounds_toArray, List.set_cons_zero, List.set_cons_succ]
          refine wpAnyH_ready (rs := [8]) (by kernel_rfl) (by simp) (AllReadyH.cons rfl (fun K hK => ?_) AllReadyH.nil)
          go_simp
          (go_at_call 77; refine (spec_l12Broken H.out (hwb0.trans inferInstance) H2.out (hwb2.trans inferInstance) H3.out (hwb3.trans inferInstance) HDU.out inferInstance HK.out RR.out HFI.out).mono ?_; rw [CB.out]; rintro e w5 ⟨rfl, L5⟩; have X5 := Later.trans (w := wb) inferInstance L5; have Z5 := Later.trans (w := wr) inferInstance L5)
          refine hK.out _ _ (by exact ⟨inferInstance, inferInstance⟩) (fun hHeld => ?_)
          try simp only [Act.put, List.setIfInBounds_toArray, List.set_cons_zero, List.set_cons_succ]
          refine wpAnyH_take (i := 9) (v := ?_) (by simp only [List.getElem?_toArray, List.getElem?_cons_succ, List.getElem?_cons_zero] <;> rfl) (by kernel_rfl) (by kernel_rfl) (by kernel_rfl) (by exact fun _ _ _ h => h) (Or.inl ⟨by kernel_rfl, ?_⟩) (by assumption) ?_
          rotate_left
          · intro w' hSw; (try dsimp only at hSw); go_simp; try with_reducible rfl
          try simp only [Act.put, List.setIfInBounds_toArray, List.set_cons_zero, List.set_cons_succ]
          refine wpAnyH_take (i := 10) (v := ?_) (by simp only [List.getElem?_toArray, List.getElem?_cons_succ, List.getElem?_cons_zero] <;> rfl) (by kernel_rfl) (by kernel_rfl) (by kernel_rfl) (by exact fun _ _ _ h => h) (Or.inl ⟨by kernel_rfl, ?_⟩) (by assumption) ?_
          rotate_left
          · intro w' hSw; (try dsimp only at hSw); go_simp; try with_reducible rfl
          try simp only [Act.put, List.setIfInBounds_toArray, List.set_cons_zero, List.set_cons_succ]
          refine wpAnyH_take (i := 11) (v := ?_) (by simp only [List.getElem?_toArray, List.getElem?_cons_succ, List.getElem?_cons_zero] <;> rfl) (by kernel_rfl) (by kernel_rfl) (by kernel_rfl) (by exact fun _ _ _ h => h) (Or.inl ⟨by kernel_rfl, ?_⟩) (by assumption) ?_
          rotate_left
          · intro w' hSw; (try dsimp only at hSw); go_simp; try with_reducible rfl
          try simp only [Act.put, List.setIfInBounds_toArray, List.set_cons_zero, List.set_cons_succ]
          refine wpAnyH_take (i := 12) (v := ?_) (by simp only [List.getElem?_toArray, List.getElem?_cons_succ, List.getElem?_cons_zero] <;> rfl) (by kernel_rfl) (by kernel_rfl) (by kernel_rfl) (by exact fun _ _ _ h => h) (Or.inl ⟨by kernel_rfl, ?_⟩) (by assumption) ?_
          rotate_left
          · intro w' hSw; (try dsimp only at hSw); go_simp; try with_reducible rfl
          try simp only [Act.put, List.setIfInBounds_toArray, List.set_cons_zero, List.set_cons_succ]
          refine wpAnyH_take (i := 13) (v := ?_) (by simp only [List.getElem?_toArray, List.getElem?_cons_succ, List.getElem?_cons_zero] <;> rfl) (by kernel_rfl) (by kernel_rfl) (by kernel_rfl) (by exact fun _ _ _ h => h) (Or.inl ⟨by kernel_rfl, ?_⟩) (by assumption) ?_
          rotate_left
          · intro w' hSw; (try dsimp only at hSw); go_simp; try with_reducible rfl
          try simp only [Act.put, List.setIfInBounds_toArray, List.set_cons_zero, List.set_cons_succ]
          refine wpAnyH_take (i := 14) (v := ?_) (by simp only [List.getElem?_toArray, List.getElem?_cons_succ, List.getElem?_cons_zero] <;> rfl) (by kernel_rfl) (by kernel_rfl) (by kernel_rfl) (by exact fun _ _ _ h => h) (Or.inl ⟨by kernel_rfl, ?_⟩) (by assumption) ?_
          rotate_left
          · intro w' hSw; (try dsimp only at hSw); go_simp; try with_reducible rfl
          try simp only [Act.put, List.setIfInBounds_toArray, List.set_cons_zero, List.set_cons_succ]
          refine wpAnyH_take (i := 15) (v := ?_) (by simp only [List.getElem?_toArray, List.getElem?_cons_succ, List.getElem?_cons_zero] <;> rfl) (by kernel_rfl) (by kernel_rfl) (by kernel_rfl) (by exact fun _ _ _ h => h) (Or.inl ⟨by kernel_rfl, ?_⟩) (by assumption) ?_
          rotate_left
          · intro w' hSw; (try dsimp only at hSw); go_simp; try with_reducible rfl
          try simp only [Act.put, List.setIfInBounds_toArray, List.set_cons_zero, List.set_cons_succ]
          refine wpAnyH_take (i := 16) (v := ?_) (by simp only [List.getElem?_toArray, List.getElem?_cons_succ, List.getElem?_cons_zero] <;> rfl) (by kernel_rfl) (by kernel_rfl) (by kernel_rfl) (by exact fun _ _ _ h => h) (Or.inl ⟨by kernel_rfl, ?_⟩) (by assumption) ?_
          rotate_left
          · intro w' hSw; (try dsimp only at hSw); go_simp; try with_reducible rfl
          try simp only [Act.put, List.setIfInBounds_toArray, List.set_cons_zero, List.set_cons_succ]
          refine wpAnyH_take (i := 17) (v := ?_) (by simp only [List.getElem?_toArray, List.getElem?_cons_succ, List.getElem?_cons_zero] <;> rfl) (by kernel_rfl) (by kernel_rfl) (by kernel_rfl) (by exact fun _ _ _ h => h) (Or.inl ⟨by kernel_rfl, ?_⟩) (by assumption) ?_
          rotate_left
          · intro w' hSw; (try dsimp only at hSw); go_simp; try with_reducible rfl
          try simp only [Act.put, List.setIfInBounds_toArray, List.set_cons_zero, List.set_cons_succ]
          refine wpAnyH_take (i := 18) (v := ?_) (by simp only [List.getElem?_toArray, List.getElem?_cons_succ, List.getElem?_cons_zero] <;> rfl) (by kernel_rfl) (by kernel_rfl) (by kernel_rfl) (by exact fun _ _ _ h => h) (Or.inl ⟨by kernel_rfl, ?_⟩) (by assumption) ?_
          rotate_left
          · intro w' hSw; (try dsimp only at hSw); go_simp; try with_reducible rfl
          try simp only [Act.put, List.setIfInBounds_toArray, List.set_cons_zero, List.set_cons_succ]
          refine wpAnyH_take (i := 19) (v := ?_) (by simp only [List.getElem?_toArray, List.getElem?_cons_succ, List.getElem?_cons_zero] <;> rfl) (by kernel_rfl) (by kernel_rfl) (by kernel_rfl) (by exact fun _ _ _ h => h) (Or.inl ⟨by kernel_rfl, ?_⟩) (by assumption) ?_
          rotate_left
          · intro w' hSw; (try dsimp only at hSw); go_simp; try with_reducible rfl
          try simp only [Act.put, List.setIfInBounds_toArray, List.set_cons_zero, List.set_cons_succ]
          refine wpAnyH_take (i := 20) (v := ?_) (by simp only [List.getElem?_toArray, List.getElem?_cons_succ, List.getElem?_cons_zero] <;> rfl) (by kernel_rfl) (by kernel_rfl) (by kernel_rfl) (by exact fun _ _ _ h => h) (Or.inl ⟨by kernel_rfl, ?_⟩) (by assumption) ?_
          rotate_left
          · intro w' hSw; (try dsimp only at hSw); go_simp; try with_reducible rfl
          try simp only [Act.put, List.setIfInBounds_toArray, List.set_cons_zero, List.set_cons_succ]
          refine wpAnyH_take (i := 21) (v := ?_) (by simp only [List.getElem?_toArray, List.getElem?_cons_succ, List.getElem?_cons_zero] <;> rfl) (by kernel_rfl) (by kernel_rfl) (by kernel_rfl) (by exact fun _ _ _ h => h) (Or.inl ⟨by kernel_rfl, ?_⟩) (by assumption) ?_
          rotate_left
          · intro w' hSw; (try dsimp only at hSw); go_simp; try with_reducible rfl
          try simp only [Act.put, List.setIfInBounds_toArray, List.set_cons_zero, List.set_cons_succ]
          refine wpAnyH_take (i := 22) (v := ?_) (by simp only [List.getElem?_toArray, List.getElem?_cons_succ, List.getElem?_cons_zero] <;> rfl) (by kernel_rfl) (by kernel_rfl) (by kernel_rfl) (by exact fun _ _ _ h => h) (Or.inl ⟨by kernel_rfl, ?_⟩) (by assumption) ?_
          rotate_left
          · intro w' hSw; (try dsimp only at hSw); go_simp; try with_reducible rfl
          try simp only [Act.put, List.setIfInBounds_toArray, List.set_cons_zero, List.set_cons_succ]
          refine wpAnyH_take (i := 23) (v := ?_) (by simp only [List.getElem?_toArray, List.getElem?_cons_succ, List.getElem?_cons_zero] <;> rfl) (by kernel_rfl) (by kernel_rfl) (by kernel_rfl) (by exact fun _ _ _ h => h) (Or.inl ⟨by kernel_rfl, ?_⟩) (by assumption) ?_
          rotate_left
          · intro w' hSw; (try dsimp only at hSw); go_simp; try with_reducible rfl
          try simp only [Act.put, List.setIfInBounds_toArray, List.set_cons_zero, List.set_cons_succ]
          refine wpAnyH_take (i := 24) (v := ?_) (by simp only [List.getElem?_toArray, List.getElem?_cons_succ, List.getElem?_cons_zero] <;> rfl) (by kernel_rfl) (by kernel_rfl) (by kernel_rfl) (by exact fun _ _ _ h => h) (Or.inl ⟨by kernel_rfl, ?_⟩) (by assumption) ?_
          rotate_left
          · intro w' hSw; (try dsimp only at hSw); go_simp; try with_reducible rfl
          try simp only [Act.put, List.setIfInBounds_toArray, List.set_cons_zero, List.set_cons_succ]
          refine wpAnyH_take (i := 25) (v := ?_) (by simp only [List.getElem?_toArray, List.getElem?_cons_succ, List.getElem?_cons_zero] <;> rfl) (by kernel_rfl) (by kernel_rfl) (by kernel_rfl) (by exact fun _ _ _ h => h) (Or.inl ⟨by kernel_rfl, ?_⟩) (by assumption) ?_
          rotate_left
          · intro w' hSw; (try dsimp only at hSw); go_simp; try with_reducible rfl
          try simp only [Act.put, List.setIfInBounds_toArray, List.set_cons_zero, List.set_cons_succ]
          refine wpAnyH_take (i := 26) (v := ?_) (by simp only [List.getElem?_toArray, List.getElem?_cons_succ, List.getElem?_cons_zero] <;> rfl) (by kernel_rfl) (by kernel_rfl) (by kernel_rfl) (by exact fun _ _ _ h => h) (Or.inl ⟨by kernel_rfl, ?_⟩) (by assumption) ?_
          rotate_left
          · intro w' hSw; (try dsimp only at hSw); go_simp; try with_reducible rfl
          try simp only [Act.put, List.setIfInBounds_toArray, List.set_cons_zero, List.set_cons_succ]
          refine wpAnyH_take (i := 27) (v := ?_) (by simp only [List.getElem?_toArray, List.getElem?_cons_succ, List.getElem?_cons_zero] <;> rfl) (by kernel_rfl) (by kernel_rfl) (by kernel_rfl) (by exact fun _ _ _ h => h) (Or.inl ⟨by kernel_rfl, ?_⟩) (by assumption) ?_
          rotate_left
          · intro w' hSw; (try dsimp only at hSw); go_simp; try with_reducible rfl
          try simp only [Act.put, List.setIfInBounds_toArray, List.set_cons_zero, List.set_cons_succ]
          refine wpAnyH_take (i := 28) (v := ?_) (by simp only [List.getElem?_toArray, List.getElem?_cons_succ, List.getElem?_cons_zero] <;> rfl) (by kernel_rfl) (by kernel_rfl) (by kernel_rfl) (by exact fun _ _ _ h => h) (Or.inl ⟨by kernel_rfl, ?_⟩) (by assumption) ?_
          rotate_left
          · intro w' hSw; (try dsimp only at hSw); go_simp; try with_reducible rfl
          try simp only [Act.put, List.setIfInBounds_toArray, List.set_cons_zero, List.set_cons_succ]
          refine wpAnyH_take (i := 29) (v := ?_) (by simp only [List.getElem?_toArray, List.getElem?_cons_succ, List.getElem?_cons_zero] <;> rfl) (by kernel_rfl) (by kernel_rfl) (by kernel_rfl) (by exact fun _ _ _ h => h) (Or.inl ⟨by kernel_rfl, ?_⟩) (by assumption) ?_
          rotate_left
          · intro w' hSw; (try dsimp only at hSw); go_simp; try with_reducible rfl
          try simp only [Act.put, List.setIfInBounds_toArray, List.set_cons_zero, List.set_cons_succ]
          refine wpAnyH_take (i := 30) (v := ?_) (by simp only [List.getElem?_toArray, List.getElem?_cons_succ, List.getElem?_cons_zero] <;> rfl) (by kernel_rfl) (by kernel_rfl) (by kernel_rfl) (by exact fun _ _ _ h => h) (Or.inl ⟨by kernel_rfl, ?_⟩) (by assumption) ?_
          rotate_left
          · intro w' hSw; (try dsimp only at hSw); go_simp; try with_reducible rfl
          try simp only [Act.put, List.setIfInBounds_toArray, List.set_cons_zero, List.set_cons_succ]
          refine wpAnyH_take (i := 31) (v := ?_) (by simp only [List.getElem?_toArray, List.getElem?_cons_succ, List.getElem?_cons_zero] <;> rfl) (by kernel_rfl) (by kernel_rfl) (by kernel_rfl) (by exact fun _ _ _ h => h) (Or.inl ⟨by kernel_rfl, ?_⟩) (by assumption) ?_
          rotate_left
          · intro w' hSw; (try dsimp only at hSw); go_simp; try with_reducible rfl
          try simp only [Act.put, List.setIfInBounds_toArray, List.set_cons_zero, List.set_cons_succ]
          refine wpAnyH_take (i := 32) (v := ?_) (by simp only [List.getElem?_toArray, List.getElem?_cons_succ, List.getElem?_cons_zero] <;> rfl) (by kernel_rfl) (by kernel_rfl) (by kernel_rfl) (by exact fun _ _ _ h => h) (Or.inl ⟨by kernel_rfl, ?_⟩) (by assumption) ?_
          rotate_left
          · intro w' hSw; (try dsimp only at hSw); go_simp; try with_reducible rfl
          try simp only [Act.put, List.setIfInBounds_toArray, List.set_cons_zero, List.set_cons_succ]
          refine wpAnyH_take (i := 33) (v := ?_) (by simp only [List.getElem?_toArray, List.getElem?_cons_succ, List.getElem?_cons_zero] <;> rfl) (by kernel_rfl) (by kernel_rfl) (by kernel_rfl) (by exact fun _ _ _ h => h) (Or.inl ⟨by kernel_rfl, ?_⟩) (by assumption) ?_
          rotate_left
          · intro w' hSw; (try dsimp only at hSw); go_simp; try with_reducible rfl
          try simp only [Act.put, List.setIfInBounds_toArray, List.set_cons_zero, List.set_cons_succ]
          refine wpAnyH_take (i := 34) (v := ?_) (by simp only [List.getElem?_toArray, List.getElem?_cons_succ, List.getElem?_cons_zero] <;> rfl) (by kernel_rfl) (by kernel_rfl) (by kernel_rfl) (by exact fun _ _ _ h => h) (Or.inl ⟨by kernel_rfl, ?_⟩) (by assumption) ?_
          rotate_left
          · intro w' hSw; (try dsimp only at hSw); go_simp; try with_reducible rfl
          try simp only [Act.put, List.setIfInBounds_toArray, List.set_cons_zero, List.set_cons_succ]
          refine wpAnyH_take (i := 35) (v := ?_) (by simp only [List.getElem?_toArray, List.getElem?_cons_succ, List.getElem?_cons_zero] <;> rfl) (by kernel_rfl) (by kernel_rfl) (by kernel_rfl) (by exact fun _ _ _ h => h) (Or.inl ⟨by kernel_rfl, ?_⟩) (by assumption) ?_
          rotate_left
          · intro w' hSw; (try dsimp only at hSw); go_simp; try with_reducible rfl
          try simp only [Act.put, List.setIfInBounds_toArray, List.set_cons_zero, List.set_cons_succ]
          refine wpAnyH_done (by kernel_rfl) ?_ _
          clear hwk
          go_wp2
          go_ret
          exact ⟨ret_bool HR.out.symm, hww.trans inferInstance⟩
        · have HF2 : Hid (idsThen t f bs r (ls.drop (k + 1)) v0 (d.Pieces.drop 0).flatten seen = coverGo t f bs r ls 0 []) := by
            show _ = _
            rw [← HF1.out, coverGo_good cb (by rw [HH.out]; exact ch), HH.out, List.drop_zero]
          clear cb HF1
          go_wp2_with fail
          refine wp_region_held_drew (S := (fun w' => Later wb w' ∧ Later wr w')) (by kernel_rfl) (by exact ⟨inferInstance, inferInstance⟩) (fun hHeld => ?_)
          refine wpAnyH_take (i := 0) (v := ?_) (by simp only [List.getElem?_toArray, List.getElem?_cons_zero] <;> rfl) (by kernel_rfl) (by kernel_rfl) (by kernel_rfl) (by exact fun _ _ _ h => h) (Or.inl ⟨by kernel_rfl, ?_⟩) (by assumption) ?_
          rotate_left
          · intro w' hSw; (try dsimp only at hSw); go_simp; try with_reducible rfl
          try simp only [Act.put, List.setIfInBounds_toArray, List.set_cons_zero, List.set_cons_succ]
          refine wpAnyH_take (i := 1) (v := ?_) (by simp only [List.getElem?_toArray, List.getElem?_cons_succ, List.getElem?_cons_zero] <;> rfl) (by kernel_rfl) (by kernel_rfl) (by kernel_rfl) (by exact fun _ _ _ h => h) (Or.inl ⟨by kernel_rfl, ?_⟩) (by assumption) ?_
          rotate_left
          · intro w' hSw; (try dsimp only at hSw); go_simp; try with_reducible rfl
          try simp only [Act.put, List.setIfInBounds_toArray, List.set_cons_zero, List.set_cons_succ]
          refine wpAnyH_take (i := 2) (v := ?_) (by simp only [List.getElem?_toArray, List.getElem?_cons_succ, List.getElem?_cons_zero] <;> rfl) (by kernel_rfl) (by kernel_rfl) (by kernel_rfl) (by exact fun _ _ _ h => h) (Or.inl ⟨by kernel_rfl, ?_⟩) (by assumption) ?_
          rotate_left
          · intro w' hSw; (try dsimp only at hSw); go_simp; try with_reducible rfl
          try simp only [Act.put, List.setIfInBounds_toArray, List.set_cons_zero, List.set_cons_succ]
          refine wpAnyH_take (i := 3) (v := ?_) (by simp only [List.getElem?_toArray, List.getElem?_cons_succ, List.getElem?_cons_zero] <;> rfl) (by kernel_rfl) (by kernel_rfl) (by kernel_rfl) (by exact fun _ _ _ h => h) (Or.inl ⟨by kernel_rfl, ?_⟩) (by assumption) ?_
          rotate_left
          · intro w' hSw; (try dsimp only at hSw); go_simp; try with_reducible rfl
          try simp only [Act.put, List.setIfInBounds_toArray, List.set_cons_zero, List.set_cons_succ]
          refine wpAnyH_take (i := 4) (v := ?_) (by simp only [List.getElem?_toArray, List.getElem?_cons_succ, List.getElem?_cons_zero] <;> rfl) (by kernel_rfl) (by kernel_rfl) (by kernel_rfl) (by exact fun _ _ _ h => h) (Or.inl ⟨by kernel_rfl, ?_⟩) (by assumption) ?_
          rotate_left
          · intro w' hSw; (try dsimp only at hSw); go_simp; try with_reducible rfl
          try simp only [Act.put, List.setIfInBounds_toArray, List.set_cons_zero, List.set_cons_succ]
          refine wpAnyH_take (i := 5) (v := ?_) (by simp only [List.getElem?_toArray, List.getElem?_cons_succ, List.getElem?_cons_zero] <;> rfl) (by kernel_rfl) (by kernel_rfl) (by kernel_rfl) (by exact fun _ _ _ h => h) (Or.inl ⟨by kernel_rfl, ?_⟩) (by assumption) ?_
          rotate_left
          · intro w' hSw; (try dsimp only at hSw); go_simp; try with_reducible rfl
          try simp only [Act.put, List.setIfInBounds_toArray, List.set_cons_zero, List.set_cons_succ]
          refine wpAnyH_take (i := 6) (v := ?_) (by simp only [List.getElem?_toArray, List.getElem?_cons_succ, List.getElem?_cons_zero] <;> rfl) (by kernel_rfl) (by kernel_rfl) (by kernel_rfl) (by exact fun _ _ _ h => h) (Or.inl ⟨by kernel_rfl, ?_⟩) (by assumption) ?_
          rotate_left
          · intro w' hSw; (try dsimp only at hSw); go_simp; try with_reducible rfl
          try simp only [Act.put, List.setIfInBounds_toArray, List.set_cons_zero, List.set_cons_succ]
          refine wpAnyH_take (i := 7) (v := ?_) (by simp only [List.getElem?_toArray, List.getElem?_cons_succ, List.getElem?_cons_zero] <;> rfl) (by kernel_rfl) (by kernel_rfl) (by kernel_rfl) (by exact fun _ _ _ h => h) (Or.inl ⟨by kernel_rfl, ?_⟩) (by assumption) ?_
          rotate_left
          · intro w' hSw; (try dsimp only at hSw); go_simp; try with_reducible rfl
          try simp only [Act.put, List.setIfInBounds_toArray, List.set_cons_zero, List.set_cons_succ]
          refine wpAnyH_ready (rs := [8]) (by kernel_rfl) (by simp) (AllReadyH.cons rfl (fun K hK => ?_) AllReadyH.nil)
          go_simp
          (go_at_call 77; refine (spec_l12Broken H.out (hwb0.trans inferInstance) H2.out (hwb2.trans inferInstance) H3.out (hwb3.trans inferInstance) HDU.out inferInstance HK.out RR.out HFI.out).mono ?_; rw [CB.out]; rintro e w5 ⟨rfl, L5⟩; have X5 := Later.trans (w := wb) inferInstance L5; have Z5 := Later.trans (w := wr) inferInstance L5)
          refine hK.out _ _ (by exact ⟨inferInstance, inferInstance⟩) (fun hHeld => ?_)
          try simp only [Act.put, List.setIfInBounds_toArray, List.set_cons_zero, List.set_cons_succ]
          refine wpAnyH_take (i := 9) (v := ?_) (by simp only [List.getElem?_toArray, List.getElem?_cons_succ, List.getElem?_cons_zero] <;> rfl) (by kernel_rfl) (by kernel_rfl) (by kernel_rfl) (by exact fun _ _ _ h => h) (Or.inl ⟨by kernel_rfl, ?_⟩) (by assumption) ?_
          rotate_left
          · intro w' hSw; (try dsimp only at hSw); go_simp; try with_reducible rfl
          try simp only [Act.put, List.setIfInBounds_toArray, List.set_cons_zero, List.set_cons_succ]
          refine wpAnyH_take (i := 10) (v := ?_) (by simp only [List.getElem?_toArray, List.getElem?_cons_succ, List.getElem?_cons_zero] <;> rfl) (by kernel_rfl) (by kernel_rfl) (by kernel_rfl) (by exact fun _ _ _ h => h) (Or.inl ⟨by kernel_rfl, ?_⟩) (by assumption) ?_
          rotate_left
          · intro w' hSw; (try dsimp only at hSw); go_simp; try with_reducible rfl
          try simp only [Act.put, List.setIfInBounds_toArray, List.set_cons_zero, List.set_cons_succ]
          refine wpAnyH_take (i := 11) (v := ?_) (by simp only [List.getElem?_toArray, List.getElem?_cons_succ, List.getElem?_cons_zero] <;> rfl) (by kernel_rfl) (by kernel_rfl) (by kernel_rfl) (by exact fun _ _ _ h => h) (Or.inl ⟨by kernel_rfl, ?_⟩) (by assumption) ?_
          rotate_left
          · intro w' hSw; (try dsimp only at hSw); go_simp; try with_reducible rfl
          try simp only [Act.put, List.setIfInBounds_toArray, List.set_cons_zero, List.set_cons_succ]
          refine wpAnyH_take (i := 12) (v := ?_) (by simp only [List.getElem?_toArray, List.getElem?_cons_succ, List.getElem?_cons_zero] <;> rfl) (by kernel_rfl) (by kernel_rfl) (by kernel_rfl) (by exact fun _ _ _ h => h) (Or.inl ⟨by kernel_rfl, ?_⟩) (by assumption) ?_
          rotate_left
          · intro w' hSw; (try dsimp only at hSw); go_simp; try with_reducible rfl
          try simp only [Act.put, List.setIfInBounds_toArray, List.set_cons_zero, List.set_cons_succ]
          refine wpAnyH_take (i := 13) (v := ?_) (by simp only [List.getElem?_toArray, List.getElem?_cons_succ, List.getElem?_cons_zero] <;> rfl) (by kernel_rfl) (by kernel_rfl) (by kernel_rfl) (by exact fun _ _ _ h => h) (Or.inl ⟨by kernel_rfl, ?_⟩) (by assumption) ?_
          rotate_left
          · intro w' hSw; (try dsimp only at hSw); go_simp; try with_reducible rfl
          try simp only [Act.put, List.setIfInBounds_toArray, List.set_cons_zero, List.set_cons_succ]
          refine wpAnyH_take (i := 14) (v := ?_) (by simp only [List.getElem?_toArray, List.getElem?_cons_succ, List.getElem?_cons_zero] <;> rfl) (by kernel_rfl) (by kernel_rfl) (by kernel_rfl) (by exact fun _ _ _ h => h) (Or.inl ⟨by kernel_rfl, ?_⟩) (by assumption) ?_
          rotate_left
          · intro w' hSw; (try dsimp only at hSw); go_simp; try with_reducible rfl
          try simp only [Act.put, List.setIfInBounds_toArray, List.set_cons_zero, List.set_cons_succ]
          refine wpAnyH_take (i := 15) (v := ?_) (by simp only [List.getElem?_toArray, List.getElem?_cons_succ, List.getElem?_cons_zero] <;> rfl) (by kernel_rfl) (by kernel_rfl) (by kernel_rfl) (by exact fun _ _ _ h => h) (Or.inl ⟨by kernel_rfl, ?_⟩) (by assumption) ?_
          rotate_left
          · intro w' hSw; (try dsimp only at hSw); go_simp; try with_reducible rfl
          try simp only [Act.put, List.setIfInBounds_toArray, List.set_cons_zero, List.set_cons_succ]
          refine wpAnyH_take (i := 16) (v := ?_) (by simp only [List.getElem?_toArray, List.getElem?_cons_succ, List.getElem?_cons_zero] <;> rfl) (by kernel_rfl) (by kernel_rfl) (by kernel_rfl) (by exact fun _ _ _ h => h) (Or.inl ⟨by kernel_rfl, ?_⟩) (by assumption) ?_
          rotate_left
          · intro w' hSw; (try dsimp only at hSw); go_simp; try with_reducible rfl
          try simp only [Act.put, List.setIfInBounds_toArray, List.set_cons_zero, List.set_cons_succ]
          refine wpAnyH_take (i := 17) (v := ?_) (by simp only [List.getElem?_toArray, List.getElem?_cons_succ, List.getElem?_cons_zero] <;> rfl) (by kernel_rfl) (by kernel_rfl) (by kernel_rfl) (by exact fun _ _ _ h => h) (Or.inl ⟨by kernel_rfl, ?_⟩) (by assumption) ?_
          rotate_left
          · intro w' hSw; (try dsimp only at hSw); go_simp; try with_reducible rfl
          try simp only [Act.put, List.setIfInBounds_toArray, List.set_cons_zero, List.set_cons_succ]
          refine wpAnyH_take (i := 18) (v := ?_) (by simp only [List.getElem?_toArray, List.getElem?_cons_succ, List.getElem?_cons_zero] <;> rfl) (by kernel_rfl) (by kernel_rfl) (by kernel_rfl) (by exact fun _ _ _ h => h) (Or.inl ⟨by kernel_rfl, ?_⟩) (by assumption) ?_
          rotate_left
          · intro w' hSw; (try dsimp only at hSw); go_simp; try with_reducible rfl
          try simp only [Act.put, List.setIfInBounds_toArray, List.set_cons_zero, List.set_cons_succ]
          refine wpAnyH_take (i := 19) (v := ?_) (by simp only [List.getElem?_toArray, List.getElem?_cons_succ, List.getElem?_cons_zero] <;> rfl) (by kernel_rfl) (by kernel_rfl) (by kernel_rfl) (by exact fun _ _ _ h => h) (Or.inl ⟨by kernel_rfl, ?_⟩) (by assumption) ?_
          rotate_left
          · intro w' hSw; (try dsimp only at hSw); go_simp; try with_reducible rfl
          try simp only [Act.put, List.setIfInBounds_toArray, List.set_cons_zero, List.set_cons_succ]
          refine wpAnyH_take (i := 20) (v := ?_) (by simp only [List.getElem?_toArray, List.getElem?_cons_succ, List.getElem?_cons_zero] <;> rfl) (by kernel_rfl) (by kernel_rfl) (by kernel_rfl) (by exact fun _ _ _ h => h) (Or.inl ⟨by kernel_rfl, ?_⟩) (by assumption) ?_
          rotate_left
          · intro w' hSw; (try dsimp only at hSw); go_simp; try with_reducible rfl
          try simp only [Act.put, List.setIfInBounds_toArray, List.set_cons_zero, List.set_cons_succ]
          refine wpAnyH_take (i := 21) (v := ?_) (by simp only [List.getElem?_toArray, List.getElem?_cons_succ, List.getElem?_cons_zero] <;> rfl) (by kernel_rfl) (by kernel_rfl) (by kernel_rfl) (by exact fun _ _ _ h => h) (Or.inl ⟨by kernel_rfl, ?_⟩) (by assumption) ?_
          rotate_left
          · intro w' hSw; (try dsimp only at hSw); go_simp; try with_reducible rfl
          try simp only [Act.put, List.setIfInBounds_toArray, List.set_cons_zero, List.set_cons_succ]
          refine wpAnyH_take (i := 22) (v := ?_) (by simp only [List.getElem?_toArray, List.getElem?_cons_succ, List.getElem?_cons_zero] <;> rfl) (by kernel_rfl) (by kernel_rfl) (by kernel_rfl) (by exact fun _ _ _ h => h) (Or.inl ⟨by kernel_rfl, ?_⟩) (by assumption) ?_
          rotate_left
          · intro w' hSw; (try dsimp only at hSw); go_simp; try with_reducible rfl
          try simp only [Act.put, List.setIfInBounds_toArray, List.set_cons_zero, List.set_cons_succ]
          refine wpAnyH_take (i := 23) (v := ?_) (by simp only [List.getElem?_toArray, List.getElem?_cons_succ, List.getElem?_cons_zero] <;> rfl) (by kernel_rfl) (by kernel_rfl) (by kernel_rfl) (by exact fun _ _ _ h => h) (Or.inl ⟨by kernel_rfl, ?_⟩) (by assumption) ?_
          rotate_left
          · intro w' hSw; (try dsimp only at hSw); go_simp; try with_reducible rfl
          try simp only [Act.put, List.setIfInBounds_toArray, List.set_cons_zero, List.set_cons_succ]
          refine wpAnyH_take (i := 24) (v := ?_) (by simp only [List.getElem?_toArray, List.getElem?_cons_succ, List.getElem?_cons_zero] <;> rfl) (by kernel_rfl) (by kernel_rfl) (by kernel_rfl) (by exact fun _ _ _ h => h) (Or.inl ⟨by kernel_rfl, ?_⟩) (by assumption) ?_
          rotate_left
          · intro w' hSw; (try dsimp only at hSw); go_simp; try with_reducible rfl
          try simp only [Act.put, List.setIfInBounds_toArray, List.set_cons_zero, List.set_cons_succ]
          refine wpAnyH_take (i := 25) (v := ?_) (by simp only [List.getElem?_toArray, List.getElem?_cons_succ, List.getElem?_cons_zero] <;> rfl) (by kernel_rfl) (by kernel_rfl) (by kernel_rfl) (by exact fun _ _ _ h => h) (Or.inl ⟨by kernel_rfl, ?_⟩) (by assumption) ?_
          rotate_left
          · intro w' hSw; (try dsimp only at hSw); go_simp; try with_reducible rfl
          try simp only [Act.put, List.setIfInBounds_toArray, List.set_cons_zero, List.set_cons_succ]
          refine wpAnyH_take (i := 26) (v := ?_) (by simp only [List.getElem?_toArray, List.getElem?_cons_succ, List.getElem?_cons_zero] <;> rfl) (by kernel_rfl) (by kernel_rfl) (by kernel_rfl) (by exact fun _ _ _ h => h) (Or.inl ⟨by kernel_rfl, ?_⟩) (by assumption) ?_
          rotate_left
          · intro w' hSw; (try dsimp only at hSw); go_simp; try with_reducible rfl
          try simp only [Act.put, List.setIfInBounds_toArray, List.set_cons_zero, List.set_cons_succ]
          refine wpAnyH_take (i := 27) (v := ?_) (by simp only [List.getElem?_toArray, List.getElem?_cons_succ, List.getElem?_cons_zero] <;> rfl) (by kernel_rfl) (by kernel_rfl) (by kernel_rfl) (by exact fun _ _ _ h => h) (Or.inl ⟨by kernel_rfl, ?_⟩) (by assumption) ?_
          rotate_left
          · intro w' hSw; (try dsimp only at hSw); go_simp; try with_reducible rfl
          try simp only [Act.put, List.setIfInBounds_toArray, List.set_cons_zero, List.set_cons_succ]
          refine wpAnyH_take (i := 28) (v := ?_) (by simp only [List.getElem?_toArray, List.getElem?_cons_succ, List.getElem?_cons_zero] <;> rfl) (by kernel_rfl) (by kernel_rfl) (by kernel_rfl) (by exact fun _ _ _ h => h) (Or.inl ⟨by kernel_rfl, ?_⟩) (by assumption) ?_
          rotate_left
          · intro w' hSw; (try dsimp only at hSw); go_simp; try with_reducible rfl
          try simp only [Act.put, List.setIfInBounds_toArray, List.set_cons_zero, List.set_cons_succ]
          refine wpAnyH_take (i := 29) (v := ?_) (by simp only [List.getElem?_toArray, List.getElem?_cons_succ, List.getElem?_cons_zero] <;> rfl) (by kernel_rfl) (by kernel_rfl) (by kernel_rfl) (by exact fun _ _ _ h => h) (Or.inl ⟨by kernel_rfl, ?_⟩) (by assumption) ?_
          rotate_left
          · intro w' hSw; (try dsimp only at hSw); go_simp; try with_reducible rfl
          try simp only [Act.put, List.setIfInBounds_toArray, List.set_cons_zero, List.set_cons_succ]
          refine wpAnyH_take (i := 30) (v := ?_) (by simp only [List.getElem?_toArray, List.getElem?_cons_succ, List.getElem?_cons_zero] <;> rfl) (by kernel_rfl) (by kernel_rfl) (by kernel_rfl) (by exact fun _ _ _ h => h) (Or.inl ⟨by kernel_rfl, ?_⟩) (by assumption) ?_
          rotate_left
          · intro w' hSw; (try dsimp only at hSw); go_simp; try with_reducible rfl
          try simp only [Act.put, List.setIfInBounds_toArray, List.set_cons_zero, List.set_cons_succ]
          refine wpAnyH_take (i := 31) (v := ?_) (by simp only [List.getElem?_toArray, List.getElem?_cons_succ, List.getElem?_cons_zero] <;> rfl) (by kernel_rfl) (by kernel_rfl) (by kernel_rfl) (by exact fun _ _ _ h => h) (Or.inl ⟨by kernel_rfl, ?_⟩) (by assumption) ?_
          rotate_left
          · intro w' hSw; (try dsimp only at hSw); go_simp; try with_reducible rfl
          try simp only [Act.put, List.setIfInBounds_toArray, List.set_cons_zero, List.set_cons_succ]
          refine wpAnyH_take (i := 32) (v := ?_) (by simp only [List.getElem?_toArray, List.getElem?_cons_succ, List.getElem?_cons_zero] <;> rfl) (by kernel_rfl) (by kernel_rfl) (by kernel_rfl) (by exact fun _ _ _ h => h) (Or.inl ⟨by kernel_rfl, ?_⟩) (by assumption) ?_
          rotate_left
          · intro w' hSw; (try dsimp only at hSw); go_simp; try with_reducible rfl
          try simp only [Act.put, List.setIfInBounds_toArray, List.set_cons_zero, List.set_cons_succ]
          refine wpAnyH_take (i := 33) (v := ?_) (by simp only [List.getElem?_toArray, List.getElem?_cons_succ, List.getElem?_cons_zero] <;> rfl) (by kernel_rfl) (by kernel_rfl) (by kernel_rfl) (by exact fun _ _ _ h => h) (Or.inl ⟨by kernel_rfl, ?_⟩) (by assumption) ?_
          rotate_left
          · intro w' hSw; (try dsimp only at hSw); go_simp; try with_reducible rfl
          try simp only [Act.put, List.setIfInBounds_toArray, List.set_cons_zero, List.set_cons_succ]
          refine wpAnyH_take (i := 34) (v := ?_) (by simp only [List.getElem?_toArray, List.getElem?_cons_succ, List.getElem?_cons_zero] <;> rfl) (by kernel_rfl) (by kernel_rfl) (by kernel_rfl) (by exact fun _ _ _ h => h) (Or.inl ⟨by kernel_rfl, ?_⟩) (by assumption) ?_
          rotate_left
          · intro w' hSw; (try dsimp only at hSw); go_simp; try with_reducible rfl
          try simp only [Act.put, List.setIfInBounds_toArray, List.set_cons_zero, List.set_cons_succ]
          refine wpAnyH_take (i := 35) (v := ?_) (by simp only [List.getElem?_toArray, List.getElem?_cons_succ, List.getElem?_cons_zero] <;> rfl) (by kernel_rfl) (by kernel_rfl) (by kernel_rfl) (by exact fun _ _ _ h => h) (Or.inl ⟨by kernel_rfl, ?_⟩) (by assumption) ?_
          rotate_left
          · intro w' hSw; (try dsimp only at hSw); go_simp; try with_reducible rfl
          try simp only [Act.put, List.setIfInBounds_toArray, List.set_cons_zero, List.set_cons_succ]
          refine wpAnyH_done (by kernel_rfl) ?_ _
          clear hwk
          go_wp2_with fail
          go_loopw [11, 13] (fun ov i wr' => ∃ (m : Nat) (sn : List Int), m ≤ zn0 ∧ i = .int .i64 m ∧ Hid (idsThen t f bs r (ls.drop (k + 1)) v0 (d.Pieces.drop m).flatten sn = coverGo t f bs r ls 0 []) ∧ Hid (SeenI t sn) ∧ Hid (wr'.ownsRow (w.heap.size + 3) 3 1 ov sn.length (sn.map (Value.int .i64))) ∧ Later wb wr') (fun _ i _ => zn0 - (intOf i).toNat)
          case atStart => exact ⟨0, seen, by omega, rfl, HF2, HS, ownsRow_later hown.out (inferInstance : Later wr _), inferInstance⟩
          case round =>
            obtain ⟨m, sn, hm, rfl, HG, HS2, hown2, hY⟩ := hrel
            by_cases hmt : m < zn0
            · obtain ⟨b3, o3, A3, n3, c3, x, hA3, hx, hc3, hi⟩ := Sl.row_ hP hmt
              cases hA3
              have hn3 := hi.le
              have Hx3 := Lib.hid hi.len
              have HXF := Lib.hid (BF.out.found x (List.mem_of_getElem? hx.out))
              have HG1 : Hid (idsThen t f bs r (ls.drop (k + 1)) v0 (x.drop 0 ++ (d.Pieces.drop (m + 1)).flatten) sn = coverGo t f bs r ls 0 []) := by show _ = _; rw [← HG.out, flat_drop hx.out, List.drop_zero]
              clear HG hx
              go_wp2_with fail
              go_loopw [11, 14] (fun ov i ws => ∃ (j : Nat) (s2 : List Int), j ≤ n3 ∧ i = .int .i64 j ∧ Hid (idsThen t f bs r (ls.drop (k + 1)) v0 (x.drop j ++ (d.Pieces.drop (m + 1)).flatten) s2 = coverGo t f bs r ls 0 []) ∧ Hid (SeenI t s2) ∧ Hid (ws.ownsRow (w.heap.size + 3) 3 1 ov s2.length (s2.map (Value.int .i64))) ∧ Later wb ws) (fun _ i _ => n3 - (intOf i).toNat)
              case atStart => exact ⟨0, sn, by omega, rfl, HG1, HS2, hown2, inferInstance⟩
              case round =>
                obtain ⟨j, s2, hj, rfl, HW, HS3, hown3, hZ⟩ := hrel
                have hs2 := HS3.out.len RF.out.time
                by_cases hjt : j < n3
                · obtain ⟨b4, o4, v, hA4, hv, hcv, _⟩ := Ints.at_ hi hjt
                  cases hA4
                  have hvf := HXF.out v (List.mem_of_getElem? hv.out)
                  have HW1 : Hid (idsThen t f bs r (ls.drop (k + 1)) v0 (v :: (x.drop (j + 1) ++ (d.Pieces.drop (m + 1)).flatten)) s2 = coverGo t f bs r ls 0 []) := by show _ = _; rw [← HW.out, drop_at hv.out]; rfl
                  obtain ⟨A9, c9, fp9, hov, ho9, _, _⟩ := OSl.ints_of_own hown3.out (HS3.out.i64 RF.out.time)
                  subst hov
                  have h9 : Ints wr _ _ _ _ := ho9.reads
                  have HO9 := Lib.hid h9
                  clear HW hv ho9
                  by_cases cB : v ∈ s2
                  · have HB9 : Hid (decide (v ∈ s2) = true) := decide_eq_true cB
                    have HR : Hid (okCover t f bs r ls = false) := okCover_none (HW1.out.symm.trans (idsThen_in cB))
                    clear cB HW1 hvf
                    go_wp2_with (go_at_call 92; refine (spec_l1Has HO9.out inferInstance _).mono ?_; rw [HB9.out]; rintro e w8 ⟨rfl, L8⟩; have X8 := Later.trans (w := wb) inferInstance L8; have Z8 := Later.trans (w := wr) inferInstance L8)
                    go_ret
                    exact ⟨ret_bool HR.out.symm, hww.trans inferInstance⟩
                  · have HB9 : Hid (decide (v ∈ s2) = false) := decide_eq_false cB
                    have HW2 : Hid (idsThen t f bs r (ls.drop (k + 1)) v0 (x.drop (j + 1) ++ (d.Pieces.drop (m + 1)).flatten) (s2 ++ [v]) = coverGo t f bs r ls 0 []) := by show _ = _; rw [← HW1.out, idsThen_out cB]
                    have HS4 := Lib.hid (HS3.out.snoc hvf cB)
                    have hsn : s2.length ≤ 1073741824 := by omega
                    clear cB HW1 hvf
                    go_wp2_with first
                      | (go_at_call 92; refine (spec_l1Has HO9.out inferInstance _).mono ?_; rw [HB9.out]; rintro e w8 ⟨rfl, L8⟩; have X8 := Later.trans (w := wb) inferInstance L8; have Z8 := Later.trans (w := wr) inferInstance L8)
                      | (at_builtin; refine wpList_app_B rfl _ _ 65 rfl Tryz.underlying65 infoInt rfl (by decide) (by decide) rfl (by exact ownsRow_later hown3.out (inferInstance : Later wr _)) (inferInstance : Later wb _) hbs (Nat.le_trans hbs2 (Later.size (w := wb) inferInstance)) rfl rfl (one_cell _ _) hsn ?_; intro v' w9 hown' hX9)
                    go_roundw
                    case rel => exact ⟨j + 1, s2 ++ [v], by omega, by go_num, HW2, HS4, by show World.ownsRow _ _ _ _ _ _ _; rw [List.map_append, List.length_append]; exact hown', inferInstance⟩
                    case measure => simp [intOf]; omega
                · have HG2 : Hid (idsThen t f bs r (ls.drop (k + 1)) v0 (d.Pieces.drop (m + 1)).flatten s2 = coverGo t f bs r ls 0 []) := by show _ = _; rw [← HW.out, (List.drop_eq_nil_of_le (by have := Hx3.out; omega) : x.drop j = [])]; rfl
                  clear HW
                  go_wp2_with fail
                  go_roundw
                  case rel => exact ⟨m + 1, s2, by omega, by go_num, HG2, HS3, hown3, inferInstance⟩
                  case measure => simp [intOf]; omega
            · have HF3 : Hid (coverGo t f bs r (ls.drop (k + 1)) v0 sn = coverGo t f bs r ls 0 []) := by show _ = _; rw [← HG.out, (List.drop_eq_nil_of_le (by have := Hpl.out; omega) : d.Pieces.drop m = [])]; rfl
              clear HG
              go_wp2_with fail
              go_roundw
              case rel => exact ⟨k + 1, sn, v0, by omega, by go_num, HF3, .inr ⟨k, d, rfl, HDA.out, HH.out.symm, CB.out⟩, HS2, hown2, inferInstance⟩
              case measure => simp [intOf]; omega
    · have HF1 : Hid (okCover t f bs r ls = decide (seen.length = t.Trips.length)) := by
        have h3 := HF.out
        rw [List.drop_eq_nil_of_le (by have := Hll.out; omega)] at h3
        exact okCover_some h3.symm
      clear HF
      obtain ⟨A9, c9, fp9, hov, ho9, _, _⟩ := OSl.ints_of_own hown.out (HS.out.i64 RF.out.time)
      subst hov
      have hl9 := HS.out.len RF.out.time
      clear ho9
      go_wp2
      go_ret
      exact ⟨ret_bool (by rw [HF1.out, Htl.out, Bool.eq_iff_iff]; simp <;> omega), hww.trans inferInstance⟩
def coverRes (t : Timetable) (f : Fleet) (bs : List (List Int)) (r : Rules) (ls : List Duty) : Bool × Bool := if okRuled t f bs r = true then (okCover t f bs r ls, true) else (false, false)
set_option maxHeartbeats 800000 in
theorem impl_IsCover {w0 w w2 w3 : World} {sA0 : Option Addr} {sn0 sc0 : Nat} {sA1 : Option Addr} {sn1 sc1 : Nat} {sA2 : Option Addr} {sn2 sc2 : Nat} {t : Timetable} (h : TimetableAt w0 sA0 sn0 sc0 sA1 sn1 sc1 sA2 sn2 sc2 t) (hl : Later w0 w) {qA0 : Option Addr} {qn0 qc0 : Nat} {f : Fleet} (h2 : FleetAt w2 qA0 qn0 qc0 f) (hl2 : Later w2 w) {bA : Option Addr} {bn bc : Nat} {bs : List (List Int)} (h3 : Sl 1 (rSl 1 rInt) w3 bA bn bc bs) (hl3 : Later w3 w) (r : Rules) {w5 : World} {lA : Option Addr} {ln lc : Nat} {ls : List Duty} (h5 : Sl 1 rDuty w5 lA ln lc ls) (hl5 : Later w5 w) (hfit : ∀ d, d ∈ ls → Fits d.Pieces) :
    Calls Tryz.prog 47 #[.agg #[.slice sA0 sn0 sc0, .slice sA1 sn1 sc1, .slice sA2 sn2 sc2], .agg #[.slice qA0 qn0 qc0, .int .i64 f.Turn], .slice bA bn bc, .agg #[.int .i64 r.SignOn, .int .i64 r.SignOff, .int .i64 r.MaxDrive, .int .i64 r.MinBreak, .int .i64 r.PaidBreak, .int .i64 r.MaxLength], .slice lA ln lc] w (Ret (.tuple #[.bool (coverRes t f bs r ls).1, .bool (coverRes t f bs r ls).2]) w) := by
  have HB0 : ∀ W [Later (((w.alloc (.cells #[.slice sA0 sn0 sc0, .slice sA1 sn1 sc1, .slice sA2 sn2 sc2] 46)).alloc (.cells #[.slice qA0 qn0 qc0, .int .i64 f.Turn] 48)).alloc (.cells #[.int .i64 r.SignOn, .int .i64 r.SignOff, .int .i64 r.MaxDrive, .int .i64 r.MinBreak, .int .i64 r.PaidBreak, .int .i64 r.MaxLength] 51)) W] (j : Nat), W.cell? ⟨w.heap.size, j, none⟩ = #[.slice sA0 sn0 sc0, .slice sA1 sn1 sc1, .slice sA2 sn2 sc2][j]? := Later.boxes (t := 46) (fr := (0, 0)) ((heap_old (by simp; try omega)).trans ((heap_old (by simp; try omega)).trans (heap_new (by simp; try omega)))); have HB1 : ∀ W [Later (((w.alloc (.cells #[.slice sA0 sn0 sc0, .slice sA1 sn1 sc1, .slice sA2 sn2 sc2] 46)).alloc (.cells #[.slice qA0 qn0 qc0, .int .i64 f.Turn] 48)).alloc (.cells #[.int .i64 r.SignOn, .int .i64 r.SignOff, .int .i64 r.MaxDrive, .int .i64 r.MinBreak, .int .i64 r.PaidBreak, .int .i64 r.MaxLength] 51)) W] (j : Nat), W.cell? ⟨w.heap.size + 1, j, none⟩ = #[.slice qA0 qn0 qc0, .int .i64 f.Turn][j]? := Later.boxes (t := 48) (fr := (0, 0)) ((heap_old (by simp; try omega)).trans (heap_new (by simp; try omega))); have HB2 : ∀ W [Later (((w.alloc (.cells #[.slice sA0 sn0 sc0, .slice sA1 sn1 sc1, .slice sA2 sn2 sc2] 46)).alloc (.cells #[.slice qA0 qn0 qc0, .int .i64 f.Turn] 48)).alloc (.cells #[.int .i64 r.SignOn, .int .i64 r.SignOff, .int .i64 r.MaxDrive, .int .i64 r.MinBreak, .int .i64 r.PaidBreak, .int .i64 r.MaxLength] 51)) W] (j : Nat), W.cell? ⟨w.heap.size + 1 + 1, j, none⟩ = #[.int .i64 r.SignOn, .int .i64 r.SignOff, .int .i64 r.MaxDrive, .int .i64 r.MinBreak, .int .i64 r.PaidBreak, .int .i64 r.MaxLength][j]? := Later.boxes (t := 51) (fr := (0, 0)) (heap_new (by simp; try omega)); obtain ⟨wb, hwb⟩ : ∃ wb : World, wb = (((w.alloc (.cells #[.slice sA0 sn0 sc0, .slice sA1 sn1 sc1, .slice sA2 sn2 sc2] 46)).alloc (.cells #[.slice qA0 qn0 qc0, .int .i64 f.Turn] 48)).alloc (.cells #[.int .i64 r.SignOn, .int .i64 r.SignOff, .int .i64 r.MaxDrive, .int .i64 r.MinBreak, .int .i64 r.PaidBreak, .int .i64 r.MaxLength] 51)) := ⟨_, rfl⟩; haveI hbW : Later wb (((w.alloc (.cells #[.slice sA0 sn0 sc0, .slice sA1 sn1 sc1, .slice sA2 sn2 sc2] 46)).alloc (.cells #[.slice qA0 qn0 qc0, .int .i64 f.Turn] 48)).alloc (.cells #[.int .i64 r.SignOn, .int .i64 r.SignOff, .int .i64 r.MaxDrive, .int .i64 r.MinBreak, .int .i64 r.PaidBreak, .int .i64 r.MaxLength] 51)) := (by rw [hwb]; exact Later.rfl_); haveI hww : Later w wb := (by rw [hwb]; infer_instance); rw [← hwb] at HB0; rw [← hwb] at HB1; rw [← hwb] at HB2; have hbE := Lib.hid (congrArg (fun x : World => x.heap.size) hwb); clear hwb
  have hwb0 := hl.trans hww
  have hwb2 := hl2.trans hww
  have hwb3 := hl3.trans hww
  have H := Lib.hid h
  have H2 := Lib.hid h2
  have H3 := Lib.hid h3
  clear h h2 h3
  have hwb5 := hl5.trans hww
  have H5 := Lib.hid h5
  have HFIT := Lib.hid hfit
  clear h5 hfit
  by_cases c0 : okRuled t f bs r = true
  · have HK := Lib.hid (okRuled_blocks c0)
    have RR := Lib.hid (okRuled_rules c0)
    rw [show coverRes t f bs r ls = (okCover t f bs r ls, true) from if_pos c0]
    go_enter Tryz.func47, Tryz.ntmps47
    go_wp2_with first
      | (go_at_call 63; refine (impl_areRuled H.out (hwb0.trans inferInstance) H2.out (hwb2.trans inferInstance) H3.out (hwb3.trans inferInstance) r).mono ?_; rintro e w1 ⟨rfl, L1⟩; have X1 := Later.trans (w := wb) inferInstance L1)
      | (go_at_call 64; refine (impl_isCover H.out (hwb0.trans inferInstance) H2.out (hwb2.trans inferInstance) H3.out (hwb3.trans inferInstance) r H5.out (hwb5.trans inferInstance) HFIT.out HK.out RR.out).mono ?_; rintro e w2 ⟨rfl, L2⟩; have X2 := Later.trans (w := wb) inferInstance L2)
    go_ret2
    exact ⟨rfl, hww.trans inferInstance⟩
  · have c1 : okRuled t f bs r = false := by simpa using c0
    rw [show coverRes t f bs r ls = (false, false) from if_neg c0]
    clear c0
    go_enter Tryz.func47, Tryz.ntmps47
    go_wp2_with (go_at_call 63; refine (impl_areRuled H.out (hwb0.trans inferInstance) H2.out (hwb2.trans inferInstance) H3.out (hwb3.trans inferInstance) r).mono ?_; rintro e w1 ⟨rfl, L1⟩; have X1 := Later.trans (w := wb) inferInstance L1)
    go_ret2
    exact ⟨rfl, hww.trans inferInstance⟩
set_option maxHeartbeats 800000 in
theorem spec_IsCover {w0 w w2 w3 : World} {sA0 : Option Addr} {sn0 sc0 : Nat} {sA1 : Option Addr} {sn1 sc1 : Nat} {sA2 : Option Addr} {sn2 sc2 : Nat} {t : Timetable} (h : TimetableAt w0 sA0 sn0 sc0 sA1 sn1 sc1 sA2 sn2 sc2 t) (hl : Later w0 w) {qA0 : Option Addr} {qn0 qc0 : Nat} {f : Fleet} (h2 : FleetAt w2 qA0 qn0 qc0 f) (hl2 : Later w2 w) {bA : Option Addr} {bn bc : Nat} {bs : List (List Int)} (h3 : Sl 1 (rSl 1 rInt) w3 bA bn bc bs) (hl3 : Later w3 w) (r : Rules) {w5 : World} {lA : Option Addr} {ln lc : Nat} {ls : List Duty} (h5 : Sl 1 rDuty w5 lA ln lc ls) (hl5 : Later w5 w) (hfit : ∀ d, d ∈ ls → Fits d.Pieces) :
    Calls Tryz.prog 46 #[.agg #[.slice sA0 sn0 sc0, .slice sA1 sn1 sc1, .slice sA2 sn2 sc2], .agg #[.slice qA0 qn0 qc0, .int .i64 f.Turn], .slice bA bn bc, .agg #[.int .i64 r.SignOn, .int .i64 r.SignOff, .int .i64 r.MaxDrive, .int .i64 r.MinBreak, .int .i64 r.PaidBreak, .int .i64 r.MaxLength], .slice lA ln lc] w (Ret (.tuple #[.bool (coverRes t f bs r ls).1, .bool (coverRes t f bs r ls).2]) w) := by
  have HB0 : ∀ W [Later (((w.alloc (.cells #[.slice sA0 sn0 sc0, .slice sA1 sn1 sc1, .slice sA2 sn2 sc2] 46)).alloc (.cells #[.slice qA0 qn0 qc0, .int .i64 f.Turn] 48)).alloc (.cells #[.int .i64 r.SignOn, .int .i64 r.SignOff, .int .i64 r.MaxDrive, .int .i64 r.MinBreak, .int .i64 r.PaidBreak, .int .i64 r.MaxLength] 51)) W] (j : Nat), W.cell? ⟨w.heap.size, j, none⟩ = #[.slice sA0 sn0 sc0, .slice sA1 sn1 sc1, .slice sA2 sn2 sc2][j]? := Later.boxes (t := 46) (fr := (0, 0)) ((heap_old (by simp; try omega)).trans ((heap_old (by simp; try omega)).trans (heap_new (by simp; try omega)))); have HB1 : ∀ W [Later (((w.alloc (.cells #[.slice sA0 sn0 sc0, .slice sA1 sn1 sc1, .slice sA2 sn2 sc2] 46)).alloc (.cells #[.slice qA0 qn0 qc0, .int .i64 f.Turn] 48)).alloc (.cells #[.int .i64 r.SignOn, .int .i64 r.SignOff, .int .i64 r.MaxDrive, .int .i64 r.MinBreak, .int .i64 r.PaidBreak, .int .i64 r.MaxLength] 51)) W] (j : Nat), W.cell? ⟨w.heap.size + 1, j, none⟩ = #[.slice qA0 qn0 qc0, .int .i64 f.Turn][j]? := Later.boxes (t := 48) (fr := (0, 0)) ((heap_old (by simp; try omega)).trans (heap_new (by simp; try omega))); have HB2 : ∀ W [Later (((w.alloc (.cells #[.slice sA0 sn0 sc0, .slice sA1 sn1 sc1, .slice sA2 sn2 sc2] 46)).alloc (.cells #[.slice qA0 qn0 qc0, .int .i64 f.Turn] 48)).alloc (.cells #[.int .i64 r.SignOn, .int .i64 r.SignOff, .int .i64 r.MaxDrive, .int .i64 r.MinBreak, .int .i64 r.PaidBreak, .int .i64 r.MaxLength] 51)) W] (j : Nat), W.cell? ⟨w.heap.size + 1 + 1, j, none⟩ = #[.int .i64 r.SignOn, .int .i64 r.SignOff, .int .i64 r.MaxDrive, .int .i64 r.MinBreak, .int .i64 r.PaidBreak, .int .i64 r.MaxLength][j]? := Later.boxes (t := 51) (fr := (0, 0)) (heap_new (by simp; try omega)); obtain ⟨wb, hwb⟩ : ∃ wb : World, wb = (((w.alloc (.cells #[.slice sA0 sn0 sc0, .slice sA1 sn1 sc1, .slice sA2 sn2 sc2] 46)).alloc (.cells #[.slice qA0 qn0 qc0, .int .i64 f.Turn] 48)).alloc (.cells #[.int .i64 r.SignOn, .int .i64 r.SignOff, .int .i64 r.MaxDrive, .int .i64 r.MinBreak, .int .i64 r.PaidBreak, .int .i64 r.MaxLength] 51)) := ⟨_, rfl⟩; haveI hbW : Later wb (((w.alloc (.cells #[.slice sA0 sn0 sc0, .slice sA1 sn1 sc1, .slice sA2 sn2 sc2] 46)).alloc (.cells #[.slice qA0 qn0 qc0, .int .i64 f.Turn] 48)).alloc (.cells #[.int .i64 r.SignOn, .int .i64 r.SignOff, .int .i64 r.MaxDrive, .int .i64 r.MinBreak, .int .i64 r.PaidBreak, .int .i64 r.MaxLength] 51)) := (by rw [hwb]; exact Later.rfl_); haveI hww : Later w wb := (by rw [hwb]; infer_instance); rw [← hwb] at HB0; rw [← hwb] at HB1; rw [← hwb] at HB2; have hbE := Lib.hid (congrArg (fun x : World => x.heap.size) hwb); clear hwb
  have hwb0 := hl.trans hww
  have hwb2 := hl2.trans hww
  have hwb3 := hl3.trans hww
  have H := Lib.hid h
  have H2 := Lib.hid h2
  have H3 := Lib.hid h3
  clear h h2 h3
  have hwb5 := hl5.trans hww
  have H5 := Lib.hid h5
  have HFIT := Lib.hid hfit
  clear h5 hfit
  by_cases c0 : okRuled t f bs r = true
  · have HK := Lib.hid (okRuled_blocks c0)
    have RR := Lib.hid (okRuled_rules c0)
    rw [show coverRes t f bs r ls = (okCover t f bs r ls, true) from if_pos c0]
    go_enter Tryz.func46, Tryz.ntmps46
    go_wp2_with first
      | (go_at_call 58; refine (spec_l12Asked H.out (hwb0.trans inferInstance) H2.out (hwb2.trans inferInstance) H3.out (hwb3.trans inferInstance) r).mono ?_; rintro e w1 ⟨rfl, L1⟩; have X1 := Later.trans (w := wb) inferInstance L1)
      | (go_at_call 59; refine (spec_l13Covers H.out (hwb0.trans inferInstance) H2.out (hwb2.trans inferInstance) H3.out (hwb3.trans inferInstance) r H5.out (hwb5.trans inferInstance) HFIT.out HK.out RR.out).mono ?_; rintro e w2 ⟨rfl, L2⟩; have X2 := Later.trans (w := wb) inferInstance L2)
    go_ret2
    exact ⟨rfl, hww.trans inferInstance⟩
  · have c1 : okRuled t f bs r = false := by simpa using c0
    rw [show coverRes t f bs r ls = (false, false) from if_neg c0]
    clear c0
    go_enter Tryz.func46, Tryz.ntmps46
    go_wp2_with (go_at_call 58; refine (spec_l12Asked H.out (hwb0.trans inferInstance) H2.out (hwb2.trans inferInstance) H3.out (hwb3.trans inferInstance) r).mono ?_; rintro e w1 ⟨rfl, L1⟩; have X1 := Later.trans (w := wb) inferInstance L1)
    go_ret2
    exact ⟨rfl, hww.trans inferInstance⟩
end Go.Proofs.YthibhehnakikpaaGreat
