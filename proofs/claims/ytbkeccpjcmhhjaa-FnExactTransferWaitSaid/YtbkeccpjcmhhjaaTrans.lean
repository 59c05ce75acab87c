/-
  Headways: TransferWait on both sides.
-/
import Derived.Test.YtbkeccpjcmhhjaaTransP
import Derived.Test.YtbkeccpjcmhhjaaHeadD
import Derived.Test.YtbkeccpjcmhhjaaHeadC
import Derived.Deep.RegionHeld3
namespace Go.Proofs.Ytbkeccpjcmhhjaa
open Go Go.RowKit
set_option linter.unusedVariables false
set_option maxRecDepth 100000
set_option linter.unusedSimpArgs false
set_option maxHeartbeats 16000000 in
theorem impl_TransferWait {w0 w w2 : World} {sA0 : Option Addr} {sn0 sc0 : Nat} {sA1 : Option Addr} {sn1 sc1 : Nat} {n : Network} (h : NetworkAt w0 sA0 sn0 sc0 sA1 sn1 sc1 n) (hl : Later w0 w) (period : Int) {qA : Option Addr} {qn qc : Nat} {l : List Pattern} (h2 : Patterns w2 qA qn qc l) (hl2 : Later w2 w) (a b' stop walk : Int) : Calls Try.prog 30 #[.agg #[.slice sA0 sn0 sc0, .slice sA1 sn1 sc1], .int .i64 period, .slice qA qn qc, .int .i64 a, .int .i64 b', .int .i64 stop, .int .i64 walk] w (Ret (.tuple #[.int .i64 (twRes n period l a b' stop walk).1, .bool (twRes n period l a b' stop walk).2]) w) := by
  have Hl := Lib.hid h2.len
  by_cases c1 : okPassed n period l stop = true
  rotate_left
  · have g1 : okPassed n period l stop = false := by simpa using c1
    clear c1
    have hP := h2.later hl2
    have HSL := Lib.hid h.l_Stops.len
    have HB0 : ∀ W [Later (w.alloc (.cells #[.slice sA0 sn0 sc0, .slice sA1 sn1 sc1] 50)) W] (j : Nat), W.cell? ⟨w.heap.size, j, none⟩ = #[.slice sA0 sn0 sc0, .slice sA1 sn1 sc1][j]? := Later.boxes (t := 50) (fr := (0, 0)) (heap_new (by simp; try omega)); obtain ⟨wb, hwb⟩ : ∃ wb : World, wb = (w.alloc (.cells #[.slice sA0 sn0 sc0, .slice sA1 sn1 sc1] 50)) := ⟨_, rfl⟩; haveI hbW : Later wb (w.alloc (.cells #[.slice sA0 sn0 sc0, .slice sA1 sn1 sc1] 50)) := (by rw [hwb]; exact Later.rfl_); haveI hww : Later w wb := (by rw [hwb]; infer_instance); rw [← hwb] at HB0; have hbE := Lib.hid (congrArg (fun x : World => x.heap.size) hwb); clear hwb
    have hwb0 := hl.trans hww
    have hwb2 := hl2.trans hww
    have H := Lib.hid h
    have H2 := Lib.hid h2
    replace hP := hP.later hww
    have hq := hP.le
    have Hl := Lib.hid hP.len
    clear h h2
    have HRES := Lib.hid (trans_no1 (a := a) (b := b') (walk := walk) g1)
    rw [HRES.out]
    go_enter Try.func30, Try.ntmps30
    go_wp2_with first
      | (go_at_call 113; refine (impl_arePassed H.out (hwb0.trans inferInstance) _ H2.out (hwb2.trans inferInstance) _).mono ?_; rintro e w1 ⟨rfl, L1⟩; have X1 := Later.trans (w := wb) inferInstance L1)
      | (go_at_call 107; refine (spec_l10Asked H.out (hwb0.trans inferInstance) _ H2.out (hwb2.trans inferInstance) _).mono ?_; rintro e w1 ⟨rfl, L1⟩; have X1 := Later.trans (w := wb) inferInstance L1)
      | (go_at_call 114; refine (impl_isPattern hq _).mono ?_; rintro e w' ⟨rfl, rfl⟩)
      | (go_at_call 98; refine (impl_within _ _ _ _).mono ?_; rintro e w' ⟨rfl, rfl⟩)
      | (go_at_call 93; refine (spec_l1In _ _ _ _).mono ?_; rintro e w' ⟨rfl, rfl⟩)
    go_ret2
    exact ⟨rfl, hww.trans inferInstance⟩
  by_cases c2 : inB a 0 ((qn : Int) - 1) = true
  rotate_left
  · have g1 : inB a 0 ((qn : Int) - 1) = false := by simpa using c2
    clear c2
    have hP := h2.later hl2
    have HSL := Lib.hid h.l_Stops.len
    have HB0 : ∀ W [Later (w.alloc (.cells #[.slice sA0 sn0 sc0, .slice sA1 sn1 sc1] 50)) W] (j : Nat), W.cell? ⟨w.heap.size, j, none⟩ = #[.slice sA0 sn0 sc0, .slice sA1 sn1 sc1][j]? := Later.boxes (t := 50) (fr := (0, 0)) (heap_new (by simp; try omega)); obtain ⟨wb, hwb⟩ : ∃ wb : World, wb = (w.alloc (.cells #[.slice sA0 sn0 sc0, .slice sA1 sn1 sc1] 50)) := ⟨_, rfl⟩; haveI hbW : Later wb (w.alloc (.cells #[.slice sA0 sn0 sc0, .slice sA1 sn1 sc1] 50)) := (by rw [hwb]; exact Later.rfl_); haveI hww : Later w wb := (by rw [hwb]; infer_instance); rw [← hwb] at HB0; have hbE := Lib.hid (congrArg (fun x : World => x.heap.size) hwb); clear hwb
    have hwb0 := hl.trans hww
    have hwb2 := hl2.trans hww
    have H := Lib.hid h
    have H2 := Lib.hid h2
    replace hP := hP.later hww
    have hq := hP.le
    have Hl := Lib.hid hP.len
    clear h h2
    have HRES := Lib.hid (trans_no2 (period := period) (n := n) (stop := stop) (b := b') (walk := walk) (l := l) (by rw [← Hl.out]; exact g1))
    rw [HRES.out]
    go_enter Try.func30, Try.ntmps30
    go_wp2_with first
      | (go_at_call 113; refine (impl_arePassed H.out (hwb0.trans inferInstance) _ H2.out (hwb2.trans inferInstance) _).mono ?_; rintro e w1 ⟨rfl, L1⟩; have X1 := Later.trans (w := wb) inferInstance L1)
      | (go_at_call 107; refine (spec_l10Asked H.out (hwb0.trans inferInstance) _ H2.out (hwb2.trans inferInstance) _).mono ?_; rintro e w1 ⟨rfl, L1⟩; have X1 := Later.trans (w := wb) inferInstance L1)
      | (go_at_call 114; refine (impl_isPattern hq _).mono ?_; rintro e w' ⟨rfl, rfl⟩)
      | (go_at_call 98; refine (impl_within _ _ _ _).mono ?_; rintro e w' ⟨rfl, rfl⟩)
      | (go_at_call 93; refine (spec_l1In _ _ _ _).mono ?_; rintro e w' ⟨rfl, rfl⟩)
    go_ret2
    exact ⟨rfl, hww.trans inferInstance⟩
  by_cases c3 : inB b' 0 ((qn : Int) - 1) = true
  rotate_left
  · have g1 : inB b' 0 ((qn : Int) - 1) = false := by simpa using c3
    clear c3
    have hP := h2.later hl2
    have HSL := Lib.hid h.l_Stops.len
    have HB0 : ∀ W [Later (w.alloc (.cells #[.slice sA0 sn0 sc0, .slice sA1 sn1 sc1] 50)) W] (j : Nat), W.cell? ⟨w.heap.size, j, none⟩ = #[.slice sA0 sn0 sc0, .slice sA1 sn1 sc1][j]? := Later.boxes (t := 50) (fr := (0, 0)) (heap_new (by simp; try omega)); obtain ⟨wb, hwb⟩ : ∃ wb : World, wb = (w.alloc (.cells #[.slice sA0 sn0 sc0, .slice sA1 sn1 sc1] 50)) := ⟨_, rfl⟩; haveI hbW : Later wb (w.alloc (.cells #[.slice sA0 sn0 sc0, .slice sA1 sn1 sc1] 50)) := (by rw [hwb]; exact Later.rfl_); haveI hww : Later w wb := (by rw [hwb]; infer_instance); rw [← hwb] at HB0; have hbE := Lib.hid (congrArg (fun x : World => x.heap.size) hwb); clear hwb
    have hwb0 := hl.trans hww
    have hwb2 := hl2.trans hww
    have H := Lib.hid h
    have H2 := Lib.hid h2
    replace hP := hP.later hww
    have hq := hP.le
    have Hl := Lib.hid hP.len
    clear h h2
    have HRES := Lib.hid (trans_no3 (period := period) (n := n) (stop := stop) (a := a) (walk := walk) (l := l) (by rw [← Hl.out]; exact g1))
    rw [HRES.out]
    go_enter Try.func30, Try.ntmps30
    go_wp2_with first
      | (go_at_call 113; refine (impl_arePassed H.out (hwb0.trans inferInstance) _ H2.out (hwb2.trans inferInstance) _).mono ?_; rintro e w1 ⟨rfl, L1⟩; have X1 := Later.trans (w := wb) inferInstance L1)
      | (go_at_call 107; refine (spec_l10Asked H.out (hwb0.trans inferInstance) _ H2.out (hwb2.trans inferInstance) _).mono ?_; rintro e w1 ⟨rfl, L1⟩; have X1 := Later.trans (w := wb) inferInstance L1)
      | (go_at_call 114; refine (impl_isPattern hq _).mono ?_; rintro e w' ⟨rfl, rfl⟩)
      | (go_at_call 98; refine (impl_within _ _ _ _).mono ?_; rintro e w' ⟨rfl, rfl⟩)
      | (go_at_call 93; refine (spec_l1In _ _ _ _).mono ?_; rintro e w' ⟨rfl, rfl⟩)
    go_ret2
    exact ⟨rfl, hww.trans inferInstance⟩
  by_cases c4 : a = b'
  · have e1 := (beqi_t c4).1
    have e2 := (beqi_t c4).2
    have HC4 := Lib.hid c4
    clear c4
    have hP := h2.later hl2
    have HSL := Lib.hid h.l_Stops.len
    have HB0 : ∀ W [Later (w.alloc (.cells #[.slice sA0 sn0 sc0, .slice sA1 sn1 sc1] 50)) W] (j : Nat), W.cell? ⟨w.heap.size, j, none⟩ = #[.slice sA0 sn0 sc0, .slice sA1 sn1 sc1][j]? := Later.boxes (t := 50) (fr := (0, 0)) (heap_new (by simp; try omega)); obtain ⟨wb, hwb⟩ : ∃ wb : World, wb = (w.alloc (.cells #[.slice sA0 sn0 sc0, .slice sA1 sn1 sc1] 50)) := ⟨_, rfl⟩; haveI hbW : Later wb (w.alloc (.cells #[.slice sA0 sn0 sc0, .slice sA1 sn1 sc1] 50)) := (by rw [hwb]; exact Later.rfl_); haveI hww : Later w wb := (by rw [hwb]; infer_instance); rw [← hwb] at HB0; have hbE := Lib.hid (congrArg (fun x : World => x.heap.size) hwb); clear hwb
    have hwb0 := hl.trans hww
    have hwb2 := hl2.trans hww
    have H := Lib.hid h
    have H2 := Lib.hid h2
    replace hP := hP.later hww
    have hq := hP.le
    have Hl := Lib.hid hP.len
    clear h h2
    have HRES := Lib.hid (trans_no4 (period := period) (n := n) (stop := stop) (l := l) (walk := walk) HC4.out)
    rw [HRES.out]
    go_enter Try.func30, Try.ntmps30
    go_wp2_with first
      | (go_at_call 113; refine (impl_arePassed H.out (hwb0.trans inferInstance) _ H2.out (hwb2.trans inferInstance) _).mono ?_; rintro e w1 ⟨rfl, L1⟩; have X1 := Later.trans (w := wb) inferInstance L1)
      | (go_at_call 107; refine (spec_l10Asked H.out (hwb0.trans inferInstance) _ H2.out (hwb2.trans inferInstance) _).mono ?_; rintro e w1 ⟨rfl, L1⟩; have X1 := Later.trans (w := wb) inferInstance L1)
      | (go_at_call 114; refine (impl_isPattern hq _).mono ?_; rintro e w' ⟨rfl, rfl⟩)
      | (go_at_call 98; refine (impl_within _ _ _ _).mono ?_; rintro e w' ⟨rfl, rfl⟩)
      | (go_at_call 93; refine (spec_l1In _ _ _ _).mono ?_; rintro e w' ⟨rfl, rfl⟩)
    go_ret2
    exact ⟨rfl, hww.trans inferInstance⟩
  have e1 := (beqi_f c4).1
  have e2 := (beqi_f c4).2
  by_cases c5 : inB walk 0 60 = true
  rotate_left
  · have g1 : inB walk 0 60 = false := by simpa using c5
    clear c5
    have hP := h2.later hl2
    have HSL := Lib.hid h.l_Stops.len
    have HB0 : ∀ W [Later (w.alloc (.cells #[.slice sA0 sn0 sc0, .slice sA1 sn1 sc1] 50)) W] (j : Nat), W.cell? ⟨w.heap.size, j, none⟩ = #[.slice sA0 sn0 sc0, .slice sA1 sn1 sc1][j]? := Later.boxes (t := 50) (fr := (0, 0)) (heap_new (by simp; try omega)); obtain ⟨wb, hwb⟩ : ∃ wb : World, wb = (w.alloc (.cells #[.slice sA0 sn0 sc0, .slice sA1 sn1 sc1] 50)) := ⟨_, rfl⟩; haveI hbW : Later wb (w.alloc (.cells #[.slice sA0 sn0 sc0, .slice sA1 sn1 sc1] 50)) := (by rw [hwb]; exact Later.rfl_); haveI hww : Later w wb := (by rw [hwb]; infer_instance); rw [← hwb] at HB0; have hbE := Lib.hid (congrArg (fun x : World => x.heap.size) hwb); clear hwb
    have hwb0 := hl.trans hww
    have hwb2 := hl2.trans hww
    have H := Lib.hid h
    have H2 := Lib.hid h2
    replace hP := hP.later hww
    have hq := hP.le
    have Hl := Lib.hid hP.len
    clear h h2
    have HRES := Lib.hid (trans_no5 (period := period) (n := n) (stop := stop) (l := l) (a := a) (b := b') g1)
    rw [HRES.out]
    go_enter Try.func30, Try.ntmps30
    go_wp2_with first
      | (go_at_call 113; refine (impl_arePassed H.out (hwb0.trans inferInstance) _ H2.out (hwb2.trans inferInstance) _).mono ?_; rintro e w1 ⟨rfl, L1⟩; have X1 := Later.trans (w := wb) inferInstance L1)
      | (go_at_call 107; refine (spec_l10Asked H.out (hwb0.trans inferInstance) _ H2.out (hwb2.trans inferInstance) _).mono ?_; rintro e w1 ⟨rfl, L1⟩; have X1 := Later.trans (w := wb) inferInstance L1)
      | (go_at_call 114; refine (impl_isPattern hq _).mono ?_; rintro e w' ⟨rfl, rfl⟩)
      | (go_at_call 98; refine (impl_within _ _ _ _).mono ?_; rintro e w' ⟨rfl, rfl⟩)
      | (go_at_call 93; refine (spec_l1In _ _ _ _).mono ?_; rintro e w' ⟨rfl, rfl⟩)
    go_ret2
    exact ⟨rfl, hww.trans inferInstance⟩
  replace h := h.later hl
  replace h2 := h2.later hl2
  have hq := h2.le
  have hP := h.l_Lines
  have pf := okPassed_pat c1
  have d2 := inB_t.1 c2
  have d3 := inB_t.1 c3
  have d5 := inB_t.1 c5
  have hw0 := d5.1
  have hw60 := d5.2
  have HYES := Lib.hid (trans_yes c1 (by rw [← Hl.out]; exact c2) (by rw [← Hl.out]; exact c3) c4 c5)
  obtain ⟨ma, rfl⟩ := Int.eq_ofNat_of_zero_le d2.1
  obtain ⟨mb, rfl⟩ := Int.eq_ofNat_of_zero_le d3.1
  have hma : ma < qn := by omega
  have hmb : mb < qn := by omega
  obtain ⟨ba, oa, ⟨lna, ofa⟩, rfl, hxa, ha0, ha1, hia⟩ := Patterns.at_ h2 hma
  obtain ⟨bb, ob, ⟨lnb, ofb⟩, hAb, hxb, hb0, hb1, hib⟩ := Patterns.at_ h2 hmb
  cases hAb
  simp only at ha0 ha1 hb0 hb1
  have qa := pf.pat ma _ hxa.out
  have qb := pf.pat mb _ hxb.out
  simp only at qa qb
  rw [patI_of hxa.out, patI_of hxb.out] at HYES
  obtain ⟨p, rfl⟩ := Int.eq_ofNat_of_zero_le qa.1
  obtain ⟨q, rfl⟩ := Int.eq_ofNat_of_zero_le qb.1
  have hp : p < sn1 := by rw [hP.len]; omega
  have hqq : q < sn1 := by rw [hP.len]; omega
  have hsn : sn1 ≤ 9223372036854775807 := hP.le
  obtain ⟨b, o, xA0, xn0, xc0, xA1, xn1, xc1, y, rfl, hy, hc0, hc1, hc2, hi⟩ := Lines.at_ hP hp
  obtain ⟨b2, o2, zA0, zn0, zc0, zA1, zn1, zc1, z, hA2, hz, hd0, hd1, hd2, hiz⟩ := Lines.at_ hP hqq
  cases hA2
  have lf := (netFacts pf.net).line p y hy.out
  have lz := (netFacts pf.net).line q z hz.out
  have hly : lineN n (p : Int) = y := lineN_of hy.out
  have hlz : lineN n (q : Int) = z := lineN_of hz.out
  have hp1 := pf.per.1
  have hp2 := pf.per.2
  have hpz : ¬ period = 0 := by omega
  have NF := Lib.hid (netFacts pf.net)
  have QA := Lib.hid qa
  have QB := Lib.hid qb
  obtain ⟨vx, hvx⟩ : ∃ v, restOf n period ⟨p, ofa⟩ stop = v := ⟨_, rfl⟩
  obtain ⟨vy, hvy⟩ : ∃ v, restOf n period ⟨q, ofb⟩ stop = v := ⟨_, rfl⟩
  have bx := restOf_bd n period ⟨p, ofa⟩ stop hp1
  have by_ := restOf_bd n period ⟨q, ofb⟩ stop hp1
  rw [hvx] at bx
  rw [hvy] at by_
  have nx := rest_neg_iff (n := n) (stop := stop) hp1 (p := ⟨p, ofa⟩)
  have ny := rest_neg_iff (n := n) (stop := stop) hp1 (p := ⟨q, ofb⟩)
  simp only at nx ny
  rw [hvx, hly] at nx
  rw [hvy, hlz] at ny
  have HX := Lib.hid hvx
  have HY := Lib.hid hvy
  have HGO : Hid (transGo n period ⟨p, ofa⟩ ⟨q, ofb⟩ stop walk = if placeIn y stop < 1 ∨ placeIn z stop < 0 ∨ placeIn z stop = (z.Stops.length : Int) - 1 then (0, false) else (walk + gapTo vx vy walk period, true)) := by
    show _ = _
    unfold transGo
    simp only [hly, hlz, hvx, hvy]
  rw [HYES.out, HGO.out]
  have HNX := Lib.hid nx
  have HNY := Lib.hid ny
  have hS := hi.l_Stops
  have hZ := hiz.l_Stops
  have hn6 : xn0 ≤ 6 := by rw [hS.len]; exact lf.stops.2
  have hz6 : zn0 ≤ 6 := by rw [hZ.len]; exact lz.stops.2
  have Hsl : Hid (xn0 = y.Stops.length) := hS.len
  have Hzl : Hid (zn0 = z.Stops.length) := hZ.len
  have LF := Lib.hid lf
  have LZ := Lib.hid lz
  clear nx ny hvx hvy
  obtain ⟨m, rfl⟩ : ∃ m, zn0 = m + 1 := ⟨zn0 - 1, by have := LZ.out.stops; have := Hzl.out; omega⟩
  obtain ⟨b3, o3, s0, rfl, hs0, hcs, _⟩ := Ints.at_ hS (show 0 < xn0 by have := LF.out.stops; have := Hsl.out; omega)
  obtain ⟨b4, o4, sl, rfl, hsl, hcl, _⟩ := Ints.at_ hZ (show m < m + 1 by omega)
  have hx0n : 0 < xn0 := by have := LF.out.stops; have := Hsl.out; omega
  have hm1 : (m : Int) < (m : Int) + 1 := by omega
  have hwm1 : IntKind.i64.wrap ((m : Int) + 1 - 1) = (m : Int) := by rw [IntKind.wrap_i64]; omega
  have hwm2 : IntKind.i64.wrap (m : Int) = (m : Int) := by rw [IntKind.wrap_i64]; omega
  have P0 := Lib.hid (place_iff (stop := stop) LF.out hs0.out)
  have PL := Lib.hid (place_iff (stop := stop) LZ.out hsl.out)
  have hpx := Lib.hid (placeIn_bd LF.out stop)
  simp only [Nat.add_zero] at hcs
  clear hs0 hsl
  by_cases k1 : vx < 0
  · have HNO := Lib.hid (show placeIn y stop < 1 from by have := HNX.out.1 k1; omega)
    rw [if_pos (Or.inl HNO.out)]
    have HB0 : ∀ W [Later (w.alloc (.cells #[.slice sA0 sn0 sc0, .slice (some ⟨b, o, none⟩) sn1 sc1] 50)) W] (j : Nat), W.cell? ⟨w.heap.size, j, none⟩ = #[.slice sA0 sn0 sc0, .slice (some ⟨b, o, none⟩) sn1 sc1][j]? := Later.boxes (t := 50) (fr := (0, 0)) (heap_new (by simp; try omega)); obtain ⟨wb, hwb⟩ : ∃ wb : World, wb = (w.alloc (.cells #[.slice sA0 sn0 sc0, .slice (some ⟨b, o, none⟩) sn1 sc1] 50)) := ⟨_, rfl⟩; haveI hbW : Later wb (w.alloc (.cells #[.slice sA0 sn0 sc0, .slice (some ⟨b, o, none⟩) sn1 sc1] 50)) := (by rw [hwb]; exact Later.rfl_); haveI hww : Later w wb := (by rw [hwb]; infer_instance); rw [← hwb] at HB0; have hbE := Lib.hid (congrArg (fun x : World => x.heap.size) hwb); clear hwb
    replace h := h.later hww
    replace h2 := h2.later hww
    replace ha0 := shift hww ha0
    replace ha1 := shift hww ha1
    replace hb0 := shift hww hb0
    replace hb1 := shift hww hb1
    replace hc0 := shift hww hc0
    replace hc1 := shift hww hc1
    replace hc2 := shift hww hc2
    replace hd0 := shift hww hd0
    replace hd1 := shift hww hd1
    replace hd2 := shift hww hd2
    (try replace hcs := shift hww hcs)
    (try replace hcl := shift hww hcl)
    replace hS := hS.later hww
    replace hZ := hZ.later hww
    have H := Lib.hid h
    have H2 := Lib.hid h2
    have hwb0 : Later wb wb := inferInstance
    have hwb2 : Later wb wb := inferInstance
    clear h h2 hxa hxb hia hib qa qb hy hz hi hiz lf lz pf d2 d3 d5 hP
    go_enter Try.func30, Try.ntmps30
    go_wp2_with first
      | (go_at_call 113; refine (impl_arePassed H.out (hwb0.trans inferInstance) _ H2.out (hwb2.trans inferInstance) _).mono ?_; rintro e w1 ⟨rfl, L1⟩; have X1 := Later.trans (w := wb) inferInstance L1)
      | (go_at_call 107; refine (spec_l10Asked H.out (hwb0.trans inferInstance) _ H2.out (hwb2.trans inferInstance) _).mono ?_; rintro e w1 ⟨rfl, L1⟩; have X1 := Later.trans (w := wb) inferInstance L1)
      | (go_at_call 114; refine (impl_isPattern hq _).mono ?_; rintro e w' ⟨rfl, rfl⟩)
      | (go_at_call 98; refine (impl_within _ _ _ _).mono ?_; rintro e w' ⟨rfl, rfl⟩)
      | (go_at_call 93; refine (spec_l1In _ _ _ _).mono ?_; rintro e w' ⟨rfl, rfl⟩)
    go_region_held3 (fun w' => Later wb w') (exact inferInstance) (first
      | ((with_reducible refine (impl_restAt H.out inferInstance NF.out period hp1 hp2 ⟨p, ofa⟩ QA.out.1 QA.out.2.1 QA.out.2.2.1 QA.out.2.2.2 stop).mono ?_); rw [HX.out]; rintro e w2 ⟨rfl, L2⟩; have X2 := Later.trans (w := wb) inferInstance L2)
      | ((with_reducible refine (impl_restAt H.out inferInstance NF.out period hp1 hp2 ⟨q, ofb⟩ QB.out.1 QB.out.2.1 QB.out.2.2.1 QB.out.2.2.2 stop).mono ?_); rw [HY.out]; rintro e w3 ⟨rfl, L3⟩; have X3 := Later.trans (w := wb) inferInstance L3))
    go_wp2_with fail
    go_quiet (fail)
    go_wp2_with fail
    go_quiet (fail)
    go_wp2
    go_ret2
    exact ⟨rfl, hww.trans inferInstance⟩
  have k1d : decide (vx < 0) = false := decide_eq_false k1
  by_cases k2 : vy < 0
  · have k2d : decide (vy < 0) = true := decide_eq_true k2
    have HNO := Lib.hid (HNY.out.1 k2)
    rw [if_pos (Or.inr (Or.inl HNO.out))]
    have HB0 : ∀ W [Later (w.alloc (.cells #[.slice sA0 sn0 sc0, .slice (some ⟨b, o, none⟩) sn1 sc1] 50)) W] (j : Nat), W.cell? ⟨w.heap.size, j, none⟩ = #[.slice sA0 sn0 sc0, .slice (some ⟨b, o, none⟩) sn1 sc1][j]? := Later.boxes (t := 50) (fr := (0, 0)) (heap_new (by simp; try omega)); obtain ⟨wb, hwb⟩ : ∃ wb : World, wb = (w.alloc (.cells #[.slice sA0 sn0 sc0, .slice (some ⟨b, o, none⟩) sn1 sc1] 50)) := ⟨_, rfl⟩; haveI hbW : Later wb (w.alloc (.cells #[.slice sA0 sn0 sc0, .slice (some ⟨b, o, none⟩) sn1 sc1] 50)) := (by rw [hwb]; exact Later.rfl_); haveI hww : Later w wb := (by rw [hwb]; infer_instance); rw [← hwb] at HB0; have hbE := Lib.hid (congrArg (fun x : World => x.heap.size) hwb); clear hwb
    replace h := h.later hww
    replace h2 := h2.later hww
    replace ha0 := shift hww ha0
    replace ha1 := shift hww ha1
    replace hb0 := shift hww hb0
    replace hb1 := shift hww hb1
    replace hc0 := shift hww hc0
    replace hc1 := shift hww hc1
    replace hc2 := shift hww hc2
    replace hd0 := shift hww hd0
    replace hd1 := shift hww hd1
    replace hd2 := shift hww hd2
    (try replace hcs := shift hww hcs)
    (try replace hcl := shift hww hcl)
    replace hS := hS.later hww
    replace hZ := hZ.later hww
    have H := Lib.hid h
    have H2 := Lib.hid h2
    have hwb0 : Later wb wb := inferInstance
    have hwb2 : Later wb wb := inferInstance
    clear h h2 hxa hxb hia hib qa qb hy hz hi hiz lf lz pf d2 d3 d5 hP
    go_enter Try.func30, Try.ntmps30
    go_wp2_with first
      | (go_at_call 113; refine (impl_arePassed H.out (hwb0.trans inferInstance) _ H2.out (hwb2.trans inferInstance) _).mono ?_; rintro e w1 ⟨rfl, L1⟩; have X1 := Later.trans (w := wb) inferInstance L1)
      | (go_at_call 107; refine (spec_l10Asked H.out (hwb0.trans inferInstance) _ H2.out (hwb2.trans inferInstance) _).mono ?_; rintro e w1 ⟨rfl, L1⟩; have X1 := Later.trans (w := wb) inferInstance L1)
      | (go_at_call 114; refine (impl_isPattern hq _).mono ?_; rintro e w' ⟨rfl, rfl⟩)
      | (go_at_call 98; refine (impl_within _ _ _ _).mono ?_; rintro e w' ⟨rfl, rfl⟩)
      | (go_at_call 93; refine (spec_l1In _ _ _ _).mono ?_; rintro e w' ⟨rfl, rfl⟩)
    go_region_held3 (fun w' => Later wb w') (exact inferInstance) (first
      | ((with_reducible refine (impl_restAt H.out inferInstance NF.out period hp1 hp2 ⟨p, ofa⟩ QA.out.1 QA.out.2.1 QA.out.2.2.1 QA.out.2.2.2 stop).mono ?_); rw [HX.out]; rintro e w2 ⟨rfl, L2⟩; have X2 := Later.trans (w := wb) inferInstance L2)
      | ((with_reducible refine (impl_restAt H.out inferInstance NF.out period hp1 hp2 ⟨q, ofb⟩ QB.out.1 QB.out.2.1 QB.out.2.2.1 QB.out.2.2.2 stop).mono ?_); rw [HY.out]; rintro e w3 ⟨rfl, L3⟩; have X3 := Later.trans (w := wb) inferInstance L3))
    go_wp2_with fail
    go_quiet (fail)
    go_wp2_with fail
    refine wp_region_held_drew (S := (fun w' => Later wb w')) (by kernel_rfl) (by exact inferInstance) (fun hHeld => ?_)
    refine wpAnyH_take (i := 0) (v := ?_) (by simp only [List.getElem?_toArray, List.getElem?_cons_zero] <;> rfl) (by kernel_rfl) (by kernel_rfl) (by kernel_rfl) (by exact fun _ _ _ h => h) (Or.inl ⟨by kernel_rfl, ?_⟩) (by assumption) ?_
    rotate_left
    · intro w' hSw; (try dsimp only at hSw); go_simp; try with_reducible rfl
    try simp only [Act.put, List.setIfInBounds_toArray, List.set_cons_zero, List.set_cons_succ]
    refine wpAnyH_take (i := 1) (v := ?_) (by simp only [List.getElem?_toArray, List.getElem?_cons_succ, List.getElem?_cons_zero] <;> rfl) (by kernel_rfl) (by kernel_rfl) (by kernel_rfl) (by exact fun _ _ _ h => h) (Or.inl ⟨by kernel_rfl, ?_⟩) (by assumption) ?_
    rotate_left
    · intro w' hSw; (try dsimp only at hSw); go_simp; try with_reducible rfl
    try simp only [Act.put, List.setIfInBounds_toArray, List.set_cons_zero, List.set_cons_succ]
    refine wpAnyH_take (i := 2) (v := ?_) (by simp only [List.getElem?_toArray, List.getElem?_cons_succ, List.getElem?_cons_zero] <;> rfl) (by kernel_rfl) (by kernel_rfl) (by kernel_rfl) (by exact fun _ _ _ h => h) (Or.inl ⟨by kernel_rfl, ?_⟩) (by assumption) ?_
    rotate_left
    · intro w' hSw; (try dsimp only at hSw); go_simp; try with_reducible rfl
    try simp only [Act.put, List.setIfInBounds_toArray, List.set_cons_zero, List.set_cons_succ]
    refine wpAnyH_take (i := 3) (v := ?_) (by simp only [List.getElem?_toArray, List.getElem?_cons_succ, List.getElem?_cons_zero] <;> rfl) (by kernel_rfl) (by kernel_rfl) (by kernel_rfl) (by exact fun _ _ _ h => h) (Or.inl ⟨by kernel_rfl, ?_⟩) (by assumption) ?_
    rotate_left
    · intro w' hSw; (try dsimp only at hSw); go_simp; try with_reducible rfl
    try simp only [Act.put, List.setIfInBounds_toArray, List.set_cons_zero, List.set_cons_succ]
    refine wpAnyH_take (i := 4) (v := ?_) (by simp only [List.getElem?_toArray, List.getElem?_cons_succ, List.getElem?_cons_zero] <;> rfl) (by kernel_rfl) (by kernel_rfl) (by kernel_rfl) (by exact fun _ _ _ h => h) (Or.inl ⟨by kernel_rfl, ?_⟩) (by assumption) ?_
    rotate_left
    · intro w' hSw; (try dsimp only at hSw); go_simp; try with_reducible rfl
    try simp only [Act.put, List.setIfInBounds_toArray, List.set_cons_zero, List.set_cons_succ]
    refine wpAnyH_take (i := 5) (v := ?_) (by simp only [List.getElem?_toArray, List.getElem?_cons_succ, List.getElem?_cons_zero] <;> rfl) (by kernel_rfl) (by kernel_rfl) (by kernel_rfl) (by exact fun _ _ _ h => h) (Or.inl ⟨by kernel_rfl, ?_⟩) (by assumption) ?_
    rotate_left
    · intro w' hSw; (try dsimp only at hSw); go_simp; try with_reducible rfl
    try simp only [Act.put, List.setIfInBounds_toArray, List.set_cons_zero, List.set_cons_succ]
    refine wpAnyH_take (i := 6) (v := ?_) (by simp only [List.getElem?_toArray, List.getElem?_cons_succ, List.getElem?_cons_zero] <;> rfl) (by kernel_rfl) (by kernel_rfl) (by kernel_rfl) (by exact fun _ _ _ h => h) (Or.inl ⟨by kernel_rfl, ?_⟩) (by assumption) ?_
    rotate_left
    · intro w' hSw; (try dsimp only at hSw); go_simp; try with_reducible rfl
    try simp only [Act.put, List.setIfInBounds_toArray, List.set_cons_zero, List.set_cons_succ]
    refine wpAnyH_take (i := 7) (v := undef) (by simp only [List.getElem?_toArray, List.getElem?_cons_succ, List.getElem?_cons_zero] <;> rfl) (by kernel_rfl) (by kernel_rfl) (by kernel_rfl) (by exact fun _ _ _ h => h) (Or.inr ⟨by kernel_rfl, rfl⟩) (by assumption) ?_
    try simp only [Act.put, List.setIfInBounds_toArray, List.set_cons_zero, List.set_cons_succ]
    refine wpAnyH_take (i := 8) (v := undef) (by simp only [List.getElem?_toArray, List.getElem?_cons_succ, List.getElem?_cons_zero] <;> rfl) (by kernel_rfl) (by kernel_rfl) (by kernel_rfl) (by exact fun _ _ _ h => h) (Or.inr ⟨by kernel_rfl, rfl⟩) (by assumption) ?_
    try simp only [Act.put, List.setIfInBounds_toArray, List.set_cons_zero, List.set_cons_succ]
    refine wpAnyH_take (i := 9) (v := undef) (by simp only [List.getElem?_toArray, List.getElem?_cons_succ, List.getElem?_cons_zero] <;> rfl) (by kernel_rfl) (by kernel_rfl) (by kernel_rfl) (by exact fun _ _ _ h => h) (Or.inr ⟨by kernel_rfl, rfl⟩) (by assumption) ?_
    try simp only [Act.put, List.setIfInBounds_toArray, List.set_cons_zero, List.set_cons_succ]
    refine wpAnyH_take (i := 10) (v := undef) (by simp only [List.getElem?_toArray, List.getElem?_cons_succ, List.getElem?_cons_zero] <;> rfl) (by kernel_rfl) (by kernel_rfl) (by kernel_rfl) (by exact fun _ _ _ h => h) (Or.inr ⟨by kernel_rfl, rfl⟩) (by assumption) ?_
    try simp only [Act.put, List.setIfInBounds_toArray, List.set_cons_zero, List.set_cons_succ]
    refine wpAnyH_take (i := 11) (v := undef) (by simp only [List.getElem?_toArray, List.getElem?_cons_succ, List.getElem?_cons_zero] <;> rfl) (by kernel_rfl) (by kernel_rfl) (by kernel_rfl) (by exact fun _ _ _ h => h) (Or.inr ⟨by kernel_rfl, rfl⟩) (by assumption) ?_
    try simp only [Act.put, List.setIfInBounds_toArray, List.set_cons_zero, List.set_cons_succ]
    refine wpAnyH_take (i := 12) (v := undef) (by simp only [List.getElem?_toArray, List.getElem?_cons_succ, List.getElem?_cons_zero] <;> rfl) (by kernel_rfl) (by kernel_rfl) (by kernel_rfl) (by exact fun _ _ _ h => h) (Or.inr ⟨by kernel_rfl, rfl⟩) (by assumption) ?_
    try simp only [Act.put, List.setIfInBounds_toArray, List.set_cons_zero, List.set_cons_succ]
    refine wpAnyH_take (i := 13) (v := undef) (by simp only [List.getElem?_toArray, List.getElem?_cons_succ, List.getElem?_cons_zero] <;> rfl) (by kernel_rfl) (by kernel_rfl) (by kernel_rfl) (by exact fun _ _ _ h => h) (Or.inr ⟨by kernel_rfl, rfl⟩) (by assumption) ?_
    try simp only [Act.put, List.setIfInBounds_toArray, List.set_cons_zero, List.set_cons_succ]
    refine wpAnyH_take (i := 14) (v := undef) (by simp only [List.getElem?_toArray, List.getElem?_cons_succ, List.getElem?_cons_zero] <;> rfl) (by kernel_rfl) (by kernel_rfl) (by kernel_rfl) (by exact fun _ _ _ h => h) (Or.inr ⟨by kernel_rfl, rfl⟩) (by assumption) ?_
    try simp only [Act.put, List.setIfInBounds_toArray, List.set_cons_zero, List.set_cons_succ]
    refine wpAnyH_take (i := 15) (v := undef) (by simp only [List.getElem?_toArray, List.getElem?_cons_succ, List.getElem?_cons_zero] <;> rfl) (by kernel_rfl) (by kernel_rfl) (by kernel_rfl) (by exact fun _ _ _ h => h) (Or.inr ⟨by kernel_rfl, rfl⟩) (by assumption) ?_
    try simp only [Act.put, List.setIfInBounds_toArray, List.set_cons_zero, List.set_cons_succ]
    refine wpAnyH_take (i := 16) (v := undef) (by simp only [List.getElem?_toArray, List.getElem?_cons_succ, List.getElem?_cons_zero] <;> rfl) (by kernel_rfl) (by kernel_rfl) (by kernel_rfl) (by exact fun _ _ _ h => h) (Or.inr ⟨by kernel_rfl, rfl⟩) (by assumption) ?_
    try simp only [Act.put, List.setIfInBounds_toArray, List.set_cons_zero, List.set_cons_succ]
    refine wpAnyH_take (i := 17) (v := undef) (by simp only [List.getElem?_toArray, List.getElem?_cons_succ, List.getElem?_cons_zero] <;> rfl) (by kernel_rfl) (by kernel_rfl) (by kernel_rfl) (by exact fun _ _ _ h => h) (Or.inr ⟨by kernel_rfl, rfl⟩) (by assumption) ?_
    try simp only [Act.put, List.setIfInBounds_toArray, List.set_cons_zero, List.set_cons_succ]
    refine wpAnyH_take (i := 18) (v := undef) (by simp only [List.getElem?_toArray, List.getElem?_cons_succ, List.getElem?_cons_zero] <;> rfl) (by kernel_rfl) (by kernel_rfl) (by kernel_rfl) (by exact fun _ _ _ h => h) (Or.inr ⟨by kernel_rfl, rfl⟩) (by assumption) ?_
    try simp only [Act.put, List.setIfInBounds_toArray, List.set_cons_zero, List.set_cons_succ]
    refine wpAnyH_take (i := 19) (v := undef) (by simp only [List.getElem?_toArray, List.getElem?_cons_succ, List.getElem?_cons_zero] <;> rfl) (by kernel_rfl) (by kernel_rfl) (by kernel_rfl) (by exact fun _ _ _ h => h) (Or.inr ⟨by kernel_rfl, rfl⟩) (by assumption) ?_
    try simp only [Act.put, List.setIfInBounds_toArray, List.set_cons_zero, List.set_cons_succ]
    refine wpAnyH_take (i := 20) (v := undef) (by simp only [List.getElem?_toArray, List.getElem?_cons_succ, List.getElem?_cons_zero] <;> rfl) (by kernel_rfl) (by kernel_rfl) (by kernel_rfl) (by exact fun _ _ _ h => h) (Or.inr ⟨by kernel_rfl, rfl⟩) (by assumption) ?_
    try simp only [Act.put, List.setIfInBounds_toArray, List.set_cons_zero, List.set_cons_succ]
    refine wpAnyH_take (i := 21) (v := ?_) (by simp only [List.getElem?_toArray, List.getElem?_cons_succ, List.getElem?_cons_zero] <;> rfl) (by kernel_rfl) (by kernel_rfl) (by kernel_rfl) (by exact fun _ _ _ h => h) (Or.inl ⟨by kernel_rfl, ?_⟩) (by assumption) ?_
    rotate_left
    · intro w' hSw; (try dsimp only at hSw); go_simp; try with_reducible rfl
    try simp only [Act.put, List.setIfInBounds_toArray, List.set_cons_zero, List.set_cons_succ]
    refine wpAnyH_take (i := 22) (v := ?_) (by simp only [List.getElem?_toArray, List.getElem?_cons_succ, List.getElem?_cons_zero] <;> rfl) (by kernel_rfl) (by kernel_rfl) (by kernel_rfl) (by exact fun _ _ _ h => h) (Or.inl ⟨by kernel_rfl, ?_⟩) (by assumption) ?_
    rotate_left
    · intro w' hSw; (try dsimp only at hSw); go_simp; try with_reducible rfl
    try simp only [Act.put, List.setIfInBounds_toArray, List.set_cons_zero, List.set_cons_succ]
    refine wpAnyH_take (i := 23) (v := undef) (by simp only [List.getElem?_toArray, List.getElem?_cons_succ, List.getElem?_cons_zero] <;> rfl) (by kernel_rfl) (by kernel_rfl) (by kernel_rfl) (by exact fun _ _ _ h => h) (Or.inr ⟨by kernel_rfl, rfl⟩) (by assumption) ?_
    try simp only [Act.put, List.setIfInBounds_toArray, List.set_cons_zero, List.set_cons_succ]
    refine wpAnyH_take (i := 24) (v := undef) (by simp only [List.getElem?_toArray, List.getElem?_cons_succ, List.getElem?_cons_zero] <;> rfl) (by kernel_rfl) (by kernel_rfl) (by kernel_rfl) (by exact fun _ _ _ h => h) (Or.inr ⟨by kernel_rfl, rfl⟩) (by assumption) ?_
    try simp only [Act.put, List.setIfInBounds_toArray, List.set_cons_zero, List.set_cons_succ]
    refine wpAnyH_take (i := 25) (v := undef) (by simp only [List.getElem?_toArray, List.getElem?_cons_succ, List.getElem?_cons_zero] <;> rfl) (by kernel_rfl) (by kernel_rfl) (by kernel_rfl) (by exact fun _ _ _ h => h) (Or.inr ⟨by kernel_rfl, rfl⟩) (by assumption) ?_
    try simp only [Act.put, List.setIfInBounds_toArray, List.set_cons_zero, List.set_cons_succ]
    refine wpAnyH_take (i := 26) (v := undef) (by simp only [List.getElem?_toArray, List.getElem?_cons_succ, List.getElem?_cons_zero] <;> rfl) (by kernel_rfl) (by kernel_rfl) (by kernel_rfl) (by exact fun _ _ _ h => h) (Or.inr ⟨by kernel_rfl, rfl⟩) (by assumption) ?_
    try simp only [Act.put, List.setIfInBounds_toArray, List.set_cons_zero, List.set_cons_succ]
    refine wpAnyH_take (i := 27) (v := undef) (by simp only [List.getElem?_toArray, List.getElem?_cons_succ, List.getElem?_cons_zero] <;> rfl) (by kernel_rfl) (by kernel_rfl) (by kernel_rfl) (by exact fun _ _ _ h => h) (Or.inr ⟨by kernel_rfl, rfl⟩) (by assumption) ?_
    try simp only [Act.put, List.setIfInBounds_toArray, List.set_cons_zero, List.set_cons_succ]
    refine wpAnyH_take (i := 28) (v := undef) (by simp only [List.getElem?_toArray, List.getElem?_cons_succ, List.getElem?_cons_zero] <;> rfl) (by kernel_rfl) (by kernel_rfl) (by kernel_rfl) (by exact fun _ _ _ h => h) (Or.inr ⟨by kernel_rfl, rfl⟩) (by assumption) ?_
    try simp only [Act.put, List.setIfInBounds_toArray, List.set_cons_zero, List.set_cons_succ]
    refine wpAnyH_take (i := 29) (v := undef) (by simp only [List.getElem?_toArray, List.getElem?_cons_succ, List.getElem?_cons_zero] <;> rfl) (by kernel_rfl) (by kernel_rfl) (by kernel_rfl) (by exact fun _ _ _ h => h) (Or.inr ⟨by kernel_rfl, rfl⟩) (by assumption) ?_
    try simp only [Act.put, List.setIfInBounds_toArray, List.set_cons_zero, List.set_cons_succ]
    refine wpAnyH_take (i := 30) (v := undef) (by simp only [List.getElem?_toArray, List.getElem?_cons_succ, List.getElem?_cons_zero] <;> rfl) (by kernel_rfl) (by kernel_rfl) (by kernel_rfl) (by exact fun _ _ _ h => h) (Or.inr ⟨by kernel_rfl, rfl⟩) (by assumption) ?_
    try simp only [Act.put, List.setIfInBounds_toArray, List.set_cons_zero, List.set_cons_succ]
    refine wpAnyH_take (i := 31) (v := ?_) (by simp only [List.getElem?_toArray, List.getElem?_cons_succ, List.getElem?_cons_zero] <;> rfl) (by kernel_rfl) (by kernel_rfl) (by kernel_rfl) (by exact fun _ _ _ h => h) (Or.inl ⟨by kernel_rfl, ?_⟩) (by assumption) ?_
    rotate_left
    · intro w' hSw; (try dsimp only at hSw); go_simp; try with_reducible rfl
    try simp only [Act.put, List.setIfInBounds_toArray, List.set_cons_zero, List.set_cons_succ]
    refine wpAnyH_done (by kernel_rfl) ?_ _
    go_wp2
    go_ret2
    exact ⟨rfl, hww.trans inferInstance⟩
  have k2d : decide (vy < 0) = false := decide_eq_false k2
  by_cases k3 : s0 = stop
  · have f1 := (beqi_t k3).1
    have f2 := (beqi_t k3).2
    have HNO := Lib.hid (show placeIn y stop < 1 from by have := P0.out.1 k3; omega)
    clear k3
    rw [if_pos (Or.inl HNO.out)]
    have HB0 : ∀ W [Later (w.alloc (.cells #[.slice sA0 sn0 sc0, .slice (some ⟨b, o, none⟩) sn1 sc1] 50)) W] (j : Nat), W.cell? ⟨w.heap.size, j, none⟩ = #[.slice sA0 sn0 sc0, .slice (some ⟨b, o, none⟩) sn1 sc1][j]? := Later.boxes (t := 50) (fr := (0, 0)) (heap_new (by simp; try omega)); obtain ⟨wb, hwb⟩ : ∃ wb : World, wb = (w.alloc (.cells #[.slice sA0 sn0 sc0, .slice (some ⟨b, o, none⟩) sn1 sc1] 50)) := ⟨_, rfl⟩; haveI hbW : Later wb (w.alloc (.cells #[.slice sA0 sn0 sc0, .slice (some ⟨b, o, none⟩) sn1 sc1] 50)) := (by rw [hwb]; exact Later.rfl_); haveI hww : Later w wb := (by rw [hwb]; infer_instance); rw [← hwb] at HB0; have hbE := Lib.hid (congrArg (fun x : World => x.heap.size) hwb); clear hwb
    replace h := h.later hww
    replace h2 := h2.later hww
    replace ha0 := shift hww ha0
    replace ha1 := shift hww ha1
    replace hb0 := shift hww hb0
    replace hb1 := shift hww hb1
    replace hc0 := shift hww hc0
    replace hc1 := shift hww hc1
    replace hc2 := shift hww hc2
    replace hd0 := shift hww hd0
    replace hd1 := shift hww hd1
    replace hd2 := shift hww hd2
    (try replace hcs := shift hww hcs)
    (try replace hcl := shift hww hcl)
    replace hS := hS.later hww
    replace hZ := hZ.later hww
    have H := Lib.hid h
    have H2 := Lib.hid h2
    have hwb0 : Later wb wb := inferInstance
    have hwb2 : Later wb wb := inferInstance
    clear h h2 hxa hxb hia hib qa qb hy hz hi hiz lf lz pf d2 d3 d5 hP
    go_enter Try.func30, Try.ntmps30
    go_wp2_with first
      | (go_at_call 113; refine (impl_arePassed H.out (hwb0.trans inferInstance) _ H2.out (hwb2.trans inferInstance) _).mono ?_; rintro e w1 ⟨rfl, L1⟩; have X1 := Later.trans (w := wb) inferInstance L1)
      | (go_at_call 107; refine (spec_l10Asked H.out (hwb0.trans inferInstance) _ H2.out (hwb2.trans inferInstance) _).mono ?_; rintro e w1 ⟨rfl, L1⟩; have X1 := Later.trans (w := wb) inferInstance L1)
      | (go_at_call 114; refine (impl_isPattern hq _).mono ?_; rintro e w' ⟨rfl, rfl⟩)
      | (go_at_call 98; refine (impl_within _ _ _ _).mono ?_; rintro e w' ⟨rfl, rfl⟩)
      | (go_at_call 93; refine (spec_l1In _ _ _ _).mono ?_; rintro e w' ⟨rfl, rfl⟩)
    go_region_held3 (fun w' => Later wb w') (exact inferInstance) (first
      | ((with_reducible refine (impl_restAt H.out inferInstance NF.out period hp1 hp2 ⟨p, ofa⟩ QA.out.1 QA.out.2.1 QA.out.2.2.1 QA.out.2.2.2 stop).mono ?_); rw [HX.out]; rintro e w2 ⟨rfl, L2⟩; have X2 := Later.trans (w := wb) inferInstance L2)
      | ((with_reducible refine (impl_restAt H.out inferInstance NF.out period hp1 hp2 ⟨q, ofb⟩ QB.out.1 QB.out.2.1 QB.out.2.2.1 QB.out.2.2.2 stop).mono ?_); rw [HY.out]; rintro e w3 ⟨rfl, L3⟩; have X3 := Later.trans (w := wb) inferInstance L3))
    go_wp2_with fail
    go_quiet (fail)
    go_wp2_with fail
    refine wp_region_held_drew (S := (fun w' => Later wb w')) (by kernel_rfl) (by exact inferInstance) (fun hHeld => ?_)
    refine wpAnyH_take (i := 0) (v := ?_) (by simp only [List.getElem?_toArray, List.getElem?_cons_zero] <;> rfl) (by kernel_rfl) (by kernel_rfl) (by kernel_rfl) (by exact fun _ _ _ h => h) (Or.inl ⟨by kernel_rfl, ?_⟩) (by assumption) ?_
    rotate_left
    · intro w' hSw; (try dsimp only at hSw); go_simp; try with_reducible rfl
    try simp only [Act.put, List.setIfInBounds_toArray, List.set_cons_zero, List.set_cons_succ]
    refine wpAnyH_take (i := 1) (v := ?_) (by simp only [List.getElem?_toArray, List.getElem?_cons_succ, List.getElem?_cons_zero] <;> rfl) (by kernel_rfl) (by kernel_rfl) (by kernel_rfl) (by exact fun _ _ _ h => h) (Or.inl ⟨by kernel_rfl, ?_⟩) (by assumption) ?_
    rotate_left
    · intro w' hSw; (try dsimp only at hSw); go_simp; try with_reducible rfl
    try simp only [Act.put, List.setIfInBounds_toArray, List.set_cons_zero, List.set_cons_succ]
    refine wpAnyH_take (i := 2) (v := ?_) (by simp only [List.getElem?_toArray, List.getElem?_cons_succ, List.getElem?_cons_zero] <;> rfl) (by kernel_rfl) (by kernel_rfl) (by kernel_rfl) (by exact fun _ _ _ h => h) (Or.inl ⟨by kernel_rfl, ?_⟩) (by assumption) ?_
    rotate_left
    · intro w' hSw; (try dsimp only at hSw); go_simp; try with_reducible rfl
    try simp only [Act.put, List.setIfInBounds_toArray, List.set_cons_zero, List.set_cons_succ]
    refine wpAnyH_take (i := 3) (v := ?_) (by simp only [List.getElem?_toArray, List.getElem?_cons_succ, List.getElem?_cons_zero] <;> rfl) (by kernel_rfl) (by kernel_rfl) (by kernel_rfl) (by exact fun _ _ _ h => h) (Or.inl ⟨by kernel_rfl, ?_⟩) (by assumption) ?_
    rotate_left
    · intro w' hSw; (try dsimp only at hSw); go_simp; try with_reducible rfl
    try simp only [Act.put, List.setIfInBounds_toArray, List.set_cons_zero, List.set_cons_succ]
    refine wpAnyH_take (i := 4) (v := ?_) (by simp only [List.getElem?_toArray, List.getElem?_cons_succ, List.getElem?_cons_zero] <;> rfl) (by kernel_rfl) (by kernel_rfl) (by kernel_rfl) (by exact fun _ _ _ h => h) (Or.inl ⟨by kernel_rfl, ?_⟩) (by assumption) ?_
    rotate_left
    · intro w' hSw; (try dsimp only at hSw); go_simp; try with_reducible rfl
    try simp only [Act.put, List.setIfInBounds_toArray, List.set_cons_zero, List.set_cons_succ]
    refine wpAnyH_take (i := 5) (v := ?_) (by simp only [List.getElem?_toArray, List.getElem?_cons_succ, List.getElem?_cons_zero] <;> rfl) (by kernel_rfl) (by kernel_rfl) (by kernel_rfl) (by exact fun _ _ _ h => h) (Or.inl ⟨by kernel_rfl, ?_⟩) (by assumption) ?_
    rotate_left
    · intro w' hSw; (try dsimp only at hSw); go_simp; try with_reducible rfl
    try simp only [Act.put, List.setIfInBounds_toArray, List.set_cons_zero, List.set_cons_succ]
    refine wpAnyH_take (i := 6) (v := ?_) (by simp only [List.getElem?_toArray, List.getElem?_cons_succ, List.getElem?_cons_zero] <;> rfl) (by kernel_rfl) (by kernel_rfl) (by kernel_rfl) (by exact fun _ _ _ h => h) (Or.inl ⟨by kernel_rfl, ?_⟩) (by assumption) ?_
    rotate_left
    · intro w' hSw; (try dsimp only at hSw); go_simp; try with_reducible rfl
    try simp only [Act.put, List.setIfInBounds_toArray, List.set_cons_zero, List.set_cons_succ]
    refine wpAnyH_take (i := 7) (v := ?_) (by simp only [List.getElem?_toArray, List.getElem?_cons_succ, List.getElem?_cons_zero] <;> rfl) (by kernel_rfl) (by kernel_rfl) (by kernel_rfl) (by exact fun _ _ _ h => h) (Or.inl ⟨by kernel_rfl, ?_⟩) (by assumption) ?_
    rotate_left
    · intro w' hSw; (try dsimp only at hSw); go_simp; try with_reducible rfl
    try simp only [Act.put, List.setIfInBounds_toArray, List.set_cons_zero, List.set_cons_succ]
    refine wpAnyH_take (i := 8) (v := ?_) (by simp only [List.getElem?_toArray, List.getElem?_cons_succ, List.getElem?_cons_zero] <;> rfl) (by kernel_rfl) (by kernel_rfl) (by kernel_rfl) (by exact fun _ _ _ h => h) (Or.inl ⟨by kernel_rfl, ?_⟩) (by assumption) ?_
    rotate_left
    · intro w' hSw; (try dsimp only at hSw); go_simp; try with_reducible rfl
    try simp only [Act.put, List.setIfInBounds_toArray, List.set_cons_zero, List.set_cons_succ]
    refine wpAnyH_take (i := 9) (v := ?_) (by simp only [List.getElem?_toArray, List.getElem?_cons_succ, List.getElem?_cons_zero] <;> rfl) (by kernel_rfl) (by kernel_rfl) (by kernel_rfl) (by exact fun _ _ _ h => h) (Or.inl ⟨by kernel_rfl, ?_⟩) (by assumption) ?_
    rotate_left
    · intro w' hSw; (try dsimp only at hSw); go_simp; try with_reducible rfl
    try simp only [Act.put, List.setIfInBounds_toArray, List.set_cons_zero, List.set_cons_succ]
    refine wpAnyH_take (i := 10) (v := ?_) (by simp only [List.getElem?_toArray, List.getElem?_cons_succ, List.getElem?_cons_zero] <;> rfl) (by kernel_rfl) (by kernel_rfl) (by kernel_rfl) (by exact fun _ _ _ h => h) (Or.inl ⟨by kernel_rfl, ?_⟩) (by assumption) ?_
    rotate_left
    · intro w' hSw; (try dsimp only at hSw); go_simp; try with_reducible rfl
    try simp only [Act.put, List.setIfInBounds_toArray, List.set_cons_zero, List.set_cons_succ]
    refine wpAnyH_take (i := 11) (v := ?_) (by simp only [List.getElem?_toArray, List.getElem?_cons_succ, List.getElem?_cons_zero] <;> rfl) (by kernel_rfl) (by kernel_rfl) (by kernel_rfl) (by exact fun _ _ _ h => h) (Or.inl ⟨by kernel_rfl, ?_⟩) (by assumption) ?_
    rotate_left
    · intro w' hSw; (try dsimp only at hSw); go_simp; try with_reducible rfl
    try simp only [Act.put, List.setIfInBounds_toArray, List.set_cons_zero, List.set_cons_succ]
    refine wpAnyH_take (i := 12) (v := ?_) (by simp only [List.getElem?_toArray, List.getElem?_cons_succ, List.getElem?_cons_zero] <;> rfl) (by kernel_rfl) (by kernel_rfl) (by kernel_rfl) (by exact fun _ _ _ h => h) (Or.inl ⟨by kernel_rfl, ?_⟩) (by assumption) ?_
    rotate_left
    · intro w' hSw; (try dsimp only at hSw); go_simp; try with_reducible rfl
    try simp only [Act.put, List.setIfInBounds_toArray, List.set_cons_zero, List.set_cons_succ]
    refine wpAnyH_take (i := 13) (v := ?_) (by simp only [List.getElem?_toArray, List.getElem?_cons_succ, List.getElem?_cons_zero] <;> rfl) (by kernel_rfl) (by kernel_rfl) (by kernel_rfl) (by exact fun _ _ _ h => h) (Or.inl ⟨by kernel_rfl, ?_⟩) (by assumption) ?_
    rotate_left
    · intro w' hSw; (try dsimp only at hSw); go_simp; try with_reducible rfl
    try simp only [Act.put, List.setIfInBounds_toArray, List.set_cons_zero, List.set_cons_succ]
    refine wpAnyH_take (i := 14) (v := ?_) (by simp only [List.getElem?_toArray, List.getElem?_cons_succ, List.getElem?_cons_zero] <;> rfl) (by kernel_rfl) (by kernel_rfl) (by kernel_rfl) (by exact fun _ _ _ h => h) (Or.inl ⟨by kernel_rfl, ?_⟩) (by assumption) ?_
    rotate_left
    · intro w' hSw; (try dsimp only at hSw); go_simp; try with_reducible rfl
    try simp only [Act.put, List.setIfInBounds_toArray, List.set_cons_zero, List.set_cons_succ]
    refine wpAnyH_take (i := 15) (v := ?_) (by simp only [List.getElem?_toArray, List.getElem?_cons_succ, List.getElem?_cons_zero] <;> rfl) (by kernel_rfl) (by kernel_rfl) (by kernel_rfl) (by exact fun _ _ _ h => h) (Or.inl ⟨by kernel_rfl, ?_⟩) (by assumption) ?_
    rotate_left
    · intro w' hSw; (try dsimp only at hSw); go_simp; try with_reducible rfl
    try simp only [Act.put, List.setIfInBounds_toArray, List.set_cons_zero, List.set_cons_succ]
    refine wpAnyH_take (i := 16) (v := ?_) (by simp only [List.getElem?_toArray, List.getElem?_cons_succ, List.getElem?_cons_zero] <;> rfl) (by kernel_rfl) (by kernel_rfl) (by kernel_rfl) (by exact fun _ _ _ h => h) (Or.inl ⟨by kernel_rfl, ?_⟩) (by assumption) ?_
    rotate_left
    · intro w' hSw; (try dsimp only at hSw); go_simp; try with_reducible rfl
    try simp only [Act.put, List.setIfInBounds_toArray, List.set_cons_zero, List.set_cons_succ]
    refine wpAnyH_take (i := 17) (v := ?_) (by simp only [List.getElem?_toArray, List.getElem?_cons_succ, List.getElem?_cons_zero] <;> rfl) (by kernel_rfl) (by kernel_rfl) (by kernel_rfl) (by exact fun _ _ _ h => h) (Or.inl ⟨by kernel_rfl, ?_⟩) (by assumption) ?_
    rotate_left
    · intro w' hSw; (try dsimp only at hSw); go_simp; try with_reducible rfl
    try simp only [Act.put, List.setIfInBounds_toArray, List.set_cons_zero, List.set_cons_succ]
    refine wpAnyH_take (i := 18) (v := ?_) (by simp only [List.getElem?_toArray, List.getElem?_cons_succ, List.getElem?_cons_zero] <;> rfl) (by kernel_rfl) (by kernel_rfl) (by kernel_rfl) (by exact fun _ _ _ h => h) (Or.inl ⟨by kernel_rfl, ?_⟩) (by assumption) ?_
    rotate_left
    · intro w' hSw; (try dsimp only at hSw); go_simp; try with_reducible rfl
    try simp only [Act.put, List.setIfInBounds_toArray, List.set_cons_zero, List.set_cons_succ]
    refine wpAnyH_take (i := 19) (v := ?_) (by simp only [List.getElem?_toArray, List.getElem?_cons_succ, List.getElem?_cons_zero] <;> rfl) (by kernel_rfl) (by kernel_rfl) (by kernel_rfl) (by exact fun _ _ _ h => h) (Or.inl ⟨by kernel_rfl, ?_⟩) (by assumption) ?_
    rotate_left
    · intro w' hSw; (try dsimp only at hSw); go_simp; try with_reducible rfl
    try simp only [Act.put, List.setIfInBounds_toArray, List.set_cons_zero, List.set_cons_succ]
    refine wpAnyH_take (i := 20) (v := ?_) (by simp only [List.getElem?_toArray, List.getElem?_cons_succ, List.getElem?_cons_zero] <;> rfl) (by kernel_rfl) (by kernel_rfl) (by kernel_rfl) (by exact fun _ _ _ h => h) (Or.inl ⟨by kernel_rfl, ?_⟩) (by assumption) ?_
    rotate_left
    · intro w' hSw; (try dsimp only at hSw); go_simp; try with_reducible rfl
    try simp only [Act.put, List.setIfInBounds_toArray, List.set_cons_zero, List.set_cons_succ]
    refine wpAnyH_take (i := 21) (v := ?_) (by simp only [List.getElem?_toArray, List.getElem?_cons_succ, List.getElem?_cons_zero] <;> rfl) (by kernel_rfl) (by kernel_rfl) (by kernel_rfl) (by exact fun _ _ _ h => h) (Or.inl ⟨by kernel_rfl, ?_⟩) (by assumption) ?_
    rotate_left
    · intro w' hSw; (try dsimp only at hSw); go_simp; try with_reducible rfl
    try simp only [Act.put, List.setIfInBounds_toArray, List.set_cons_zero, List.set_cons_succ]
    refine wpAnyH_take (i := 22) (v := ?_) (by simp only [List.getElem?_toArray, List.getElem?_cons_succ, List.getElem?_cons_zero] <;> rfl) (by kernel_rfl) (by kernel_rfl) (by kernel_rfl) (by exact fun _ _ _ h => h) (Or.inl ⟨by kernel_rfl, ?_⟩) (by assumption) ?_
    rotate_left
    · intro w' hSw; (try dsimp only at hSw); go_simp; try with_reducible rfl
    try simp only [Act.put, List.setIfInBounds_toArray, List.set_cons_zero, List.set_cons_succ]
    refine wpAnyH_take (i := 23) (v := undef) (by simp only [List.getElem?_toArray, List.getElem?_cons_succ, List.getElem?_cons_zero] <;> rfl) (by kernel_rfl) (by kernel_rfl) (by kernel_rfl) (by exact fun _ _ _ h => h) (Or.inr ⟨by kernel_rfl, rfl⟩) (by assumption) ?_
    try simp only [Act.put, List.setIfInBounds_toArray, List.set_cons_zero, List.set_cons_succ]
    refine wpAnyH_take (i := 24) (v := undef) (by simp only [List.getElem?_toArray, List.getElem?_cons_succ, List.getElem?_cons_zero] <;> rfl) (by kernel_rfl) (by kernel_rfl) (by kernel_rfl) (by exact fun _ _ _ h => h) (Or.inr ⟨by kernel_rfl, rfl⟩) (by assumption) ?_
    try simp only [Act.put, List.setIfInBounds_toArray, List.set_cons_zero, List.set_cons_succ]
    refine wpAnyH_take (i := 25) (v := undef) (by simp only [List.getElem?_toArray, List.getElem?_cons_succ, List.getElem?_cons_zero] <;> rfl) (by kernel_rfl) (by kernel_rfl) (by kernel_rfl) (by exact fun _ _ _ h => h) (Or.inr ⟨by kernel_rfl, rfl⟩) (by assumption) ?_
    try simp only [Act.put, List.setIfInBounds_toArray, List.set_cons_zero, List.set_cons_succ]
    refine wpAnyH_take (i := 26) (v := undef) (by simp only [List.getElem?_toArray, List.getElem?_cons_succ, List.getElem?_cons_zero] <;> rfl) (by kernel_rfl) (by kernel_rfl) (by kernel_rfl) (by exact fun _ _ _ h => h) (Or.inr ⟨by kernel_rfl, rfl⟩) (by assumption) ?_
    try simp only [Act.put, List.setIfInBounds_toArray, List.set_cons_zero, List.set_cons_succ]
    refine wpAnyH_take (i := 27) (v := undef) (by simp only [List.getElem?_toArray, List.getElem?_cons_succ, List.getElem?_cons_zero] <;> rfl) (by kernel_rfl) (by kernel_rfl) (by kernel_rfl) (by exact fun _ _ _ h => h) (Or.inr ⟨by kernel_rfl, rfl⟩) (by assumption) ?_
    try simp only [Act.put, List.setIfInBounds_toArray, List.set_cons_zero, List.set_cons_succ]
    refine wpAnyH_take (i := 28) (v := undef) (by simp only [List.getElem?_toArray, List.getElem?_cons_succ, List.getElem?_cons_zero] <;> rfl) (by kernel_rfl) (by kernel_rfl) (by kernel_rfl) (by exact fun _ _ _ h => h) (Or.inr ⟨by kernel_rfl, rfl⟩) (by assumption) ?_
    try simp only [Act.put, List.setIfInBounds_toArray, List.set_cons_zero, List.set_cons_succ]
    refine wpAnyH_take (i := 29) (v := undef) (by simp only [List.getElem?_toArray, List.getElem?_cons_succ, List.getElem?_cons_zero] <;> rfl) (by kernel_rfl) (by kernel_rfl) (by kernel_rfl) (by exact fun _ _ _ h => h) (Or.inr ⟨by kernel_rfl, rfl⟩) (by assumption) ?_
    try simp only [Act.put, List.setIfInBounds_toArray, List.set_cons_zero, List.set_cons_succ]
    refine wpAnyH_take (i := 30) (v := undef) (by simp only [List.getElem?_toArray, List.getElem?_cons_succ, List.getElem?_cons_zero] <;> rfl) (by kernel_rfl) (by kernel_rfl) (by kernel_rfl) (by exact fun _ _ _ h => h) (Or.inr ⟨by kernel_rfl, rfl⟩) (by assumption) ?_
    try simp only [Act.put, List.setIfInBounds_toArray, List.set_cons_zero, List.set_cons_succ]
    refine wpAnyH_take (i := 31) (v := ?_) (by simp only [List.getElem?_toArray, List.getElem?_cons_succ, List.getElem?_cons_zero] <;> rfl) (by kernel_rfl) (by kernel_rfl) (by kernel_rfl) (by exact fun _ _ _ h => h) (Or.inl ⟨by kernel_rfl, ?_⟩) (by assumption) ?_
    rotate_left
    · intro w' hSw; (try dsimp only at hSw); go_simp; try with_reducible rfl
    try simp only [Act.put, List.setIfInBounds_toArray, List.set_cons_zero, List.set_cons_succ]
    refine wpAnyH_done (by kernel_rfl) ?_ _
    go_wp2
    go_ret2
    exact ⟨rfl, hww.trans inferInstance⟩
  have f1 := (beqi_f k3).1
  have f2 := (beqi_f k3).2
  by_cases k4 : sl = stop
  · have f3 := (beqi_t k4).1
    have f4 := (beqi_t k4).2
    have HNO := Lib.hid (show placeIn z stop = (z.Stops.length : Int) - 1 from by have := PL.out.1 k4; have := Hzl.out; omega)
    clear k4
    rw [if_pos (Or.inr (Or.inr HNO.out))]
    have HB0 : ∀ W [Later (w.alloc (.cells #[.slice sA0 sn0 sc0, .slice (some ⟨b, o, none⟩) sn1 sc1] 50)) W] (j : Nat), W.cell? ⟨w.heap.size, j, none⟩ = #[.slice sA0 sn0 sc0, .slice (some ⟨b, o, none⟩) sn1 sc1][j]? := Later.boxes (t := 50) (fr := (0, 0)) (heap_new (by simp; try omega)); obtain ⟨wb, hwb⟩ : ∃ wb : World, wb = (w.alloc (.cells #[.slice sA0 sn0 sc0, .slice (some ⟨b, o, none⟩) sn1 sc1] 50)) := ⟨_, rfl⟩; haveI hbW : Later wb (w.alloc (.cells #[.slice sA0 sn0 sc0, .slice (some ⟨b, o, none⟩) sn1 sc1] 50)) := (by rw [hwb]; exact Later.rfl_); haveI hww : Later w wb := (by rw [hwb]; infer_instance); rw [← hwb] at HB0; have hbE := Lib.hid (congrArg (fun x : World => x.heap.size) hwb); clear hwb
    replace h := h.later hww
    replace h2 := h2.later hww
    replace ha0 := shift hww ha0
    replace ha1 := shift hww ha1
    replace hb0 := shift hww hb0
    replace hb1 := shift hww hb1
    replace hc0 := shift hww hc0
    replace hc1 := shift hww hc1
    replace hc2 := shift hww hc2
    replace hd0 := shift hww hd0
    replace hd1 := shift hww hd1
    replace hd2 := shift hww hd2
    (try replace hcs := shift hww hcs)
    (try replace hcl := shift hww hcl)
    replace hS := hS.later hww
    replace hZ := hZ.later hww
    have H := Lib.hid h
    have H2 := Lib.hid h2
    have hwb0 : Later wb wb := inferInstance
    have hwb2 : Later wb wb := inferInstance
    clear h h2 hxa hxb hia hib qa qb hy hz hi hiz lf lz pf d2 d3 d5 hP
    go_enter Try.func30, Try.ntmps30
    go_wp2_with first
      | (go_at_call 113; refine (impl_arePassed H.out (hwb0.trans inferInstance) _ H2.out (hwb2.trans inferInstance) _).mono ?_; rintro e w1 ⟨rfl, L1⟩; have X1 := Later.trans (w := wb) inferInstance L1)
      | (go_at_call 107; refine (spec_l10Asked H.out (hwb0.trans inferInstance) _ H2.out (hwb2.trans inferInstance) _).mono ?_; rintro e w1 ⟨rfl, L1⟩; have X1 := Later.trans (w := wb) inferInstance L1)
      | (go_at_call 114; refine (impl_isPattern hq _).mono ?_; rintro e w' ⟨rfl, rfl⟩)
      | (go_at_call 98; refine (impl_within _ _ _ _).mono ?_; rintro e w' ⟨rfl, rfl⟩)
      | (go_at_call 93; refine (spec_l1In _ _ _ _).mono ?_; rintro e w' ⟨rfl, rfl⟩)
    go_region_held3 (fun w' => Later wb w') (exact inferInstance) (first
      | ((with_reducible refine (impl_restAt H.out inferInstance NF.out period hp1 hp2 ⟨p, ofa⟩ QA.out.1 QA.out.2.1 QA.out.2.2.1 QA.out.2.2.2 stop).mono ?_); rw [HX.out]; rintro e w2 ⟨rfl, L2⟩; have X2 := Later.trans (w := wb) inferInstance L2)
      | ((with_reducible refine (impl_restAt H.out inferInstance NF.out period hp1 hp2 ⟨q, ofb⟩ QB.out.1 QB.out.2.1 QB.out.2.2.1 QB.out.2.2.2 stop).mono ?_); rw [HY.out]; rintro e w3 ⟨rfl, L3⟩; have X3 := Later.trans (w := wb) inferInstance L3))
    go_wp2_with fail
    go_quiet (fail)
    go_wp2_with fail
    go_quiet (fail)
    go_wp2
    go_ret2
    exact ⟨rfl, hww.trans inferInstance⟩
  have f3 := (beqi_f k4).1
  have f4 := (beqi_f k4).2
  rw [if_neg (by
    rintro (c | c | c)
    · have c0 : ¬ placeIn y stop < 0 := fun e => k1 (HNX.out.2 e)
      have : placeIn y stop = ((0 : Nat) : Int) := by omega
      exact k3 (P0.out.2 this)
    · exact k2 (HNY.out.2 c)
    · exact k4 (PL.out.2 (by have := Hzl.out; omega)))]
  obtain ⟨g0, hg0⟩ : ∃ g : Nat, gapTo vx vy walk period = (g : Int) := by
    have := (gapTo_cases (x := vx) (walk := walk) hp1 (by omega) by_.2).2.2.1
    exact ⟨_, (Int.toNat_of_nonneg this).symm⟩
  have hg60 : g0 < 60 := by have := (gapTo_cases (x := vx) (walk := walk) hp1 (by omega) by_.2).2.2.2.1; omega
  have HG0 := Lib.hid hg0
  rw [HG0.out]
  have hx60 := bx.2
  clear hg0 k3 k4 c4
  have HB0 : ∀ W [Later (w.alloc (.cells #[.slice sA0 sn0 sc0, .slice (some ⟨b, o, none⟩) sn1 sc1] 50)) W] (j : Nat), W.cell? ⟨w.heap.size, j, none⟩ = #[.slice sA0 sn0 sc0, .slice (some ⟨b, o, none⟩) sn1 sc1][j]? := Later.boxes (t := 50) (fr := (0, 0)) (heap_new (by simp; try omega)); obtain ⟨wb, hwb⟩ : ∃ wb : World, wb = (w.alloc (.cells #[.slice sA0 sn0 sc0, .slice (some ⟨b, o, none⟩) sn1 sc1] 50)) := ⟨_, rfl⟩; haveI hbW : Later wb (w.alloc (.cells #[.slice sA0 sn0 sc0, .slice (some ⟨b, o, none⟩) sn1 sc1] 50)) := (by rw [hwb]; exact Later.rfl_); haveI hww : Later w wb := (by rw [hwb]; infer_instance); rw [← hwb] at HB0; have hbE := Lib.hid (congrArg (fun x : World => x.heap.size) hwb); clear hwb
  replace h := h.later hww
  replace h2 := h2.later hww
  replace ha0 := shift hww ha0
  replace ha1 := shift hww ha1
  replace hb0 := shift hww hb0
  replace hb1 := shift hww hb1
  replace hc0 := shift hww hc0
  replace hc1 := shift hww hc1
  replace hc2 := shift hww hc2
  replace hd0 := shift hww hd0
  replace hd1 := shift hww hd1
  replace hd2 := shift hww hd2
  (try replace hcs := shift hww hcs)
  (try replace hcl := shift hww hcl)
  replace hS := hS.later hww
  replace hZ := hZ.later hww
  have H := Lib.hid h
  have H2 := Lib.hid h2
  have hwb0 : Later wb wb := inferInstance
  have hwb2 : Later wb wb := inferInstance
  clear h h2 hxa hxb hia hib qa qb hy hz hi hiz lf lz pf d2 d3 d5 hP
  go_enter Try.func30, Try.ntmps30
  go_wp2_with first
    | (go_at_call 113; refine (impl_arePassed H.out (hwb0.trans inferInstance) _ H2.out (hwb2.trans inferInstance) _).mono ?_; rintro e w1 ⟨rfl, L1⟩; have X1 := Later.trans (w := wb) inferInstance L1)
    | (go_at_call 107; refine (spec_l10Asked H.out (hwb0.trans inferInstance) _ H2.out (hwb2.trans inferInstance) _).mono ?_; rintro e w1 ⟨rfl, L1⟩; have X1 := Later.trans (w := wb) inferInstance L1)
    | (go_at_call 114; refine (impl_isPattern hq _).mono ?_; rintro e w' ⟨rfl, rfl⟩)
    | (go_at_call 98; refine (impl_within _ _ _ _).mono ?_; rintro e w' ⟨rfl, rfl⟩)
    | (go_at_call 93; refine (spec_l1In _ _ _ _).mono ?_; rintro e w' ⟨rfl, rfl⟩)
  go_region_held3 (fun w' => Later wb w') (exact inferInstance) (first
    | ((with_reducible refine (impl_restAt H.out inferInstance NF.out period hp1 hp2 ⟨p, ofa⟩ QA.out.1 QA.out.2.1 QA.out.2.2.1 QA.out.2.2.2 stop).mono ?_); rw [HX.out]; rintro e w2 ⟨rfl, L2⟩; have X2 := Later.trans (w := wb) inferInstance L2)
    | ((with_reducible refine (impl_restAt H.out inferInstance NF.out period hp1 hp2 ⟨q, ofb⟩ QB.out.1 QB.out.2.1 QB.out.2.2.1 QB.out.2.2.2 stop).mono ?_); rw [HY.out]; rintro e w3 ⟨rfl, L3⟩; have X3 := Later.trans (w := wb) inferInstance L3))
  go_wp2_with fail
  go_quiet (fail)
  go_wp2_with fail
  go_quiet (fail)
  go_wp2_with fail
  go_loopw [19] (fun i wr => ∃ j : Nat, j ≤ g0 ∧ i = .int .i64 (walk + (j : Int)) ∧ Later wb wr) (fun i _ => (walk + (g0 : Int) - intOf i).toNat)
  case atStart => exact ⟨0, by omega, by simp, inferInstance⟩
  case round =>
    obtain ⟨j, hj, rfl, hX⟩ := hrel
    have hw1 : IntKind.i64.wrap (vx + (walk + (j : Int))) = vx + (walk + (j : Int)) := by rw [IntKind.wrap_i64]; omega
    have ht1 : (vx + (walk + (j : Int))).tmod period = (vx + (walk + (j : Int))) % period := tmod_pos (by omega)
    have hmb := Int.emod_nonneg (vx + (walk + (j : Int))) (show period ≠ 0 by omega)
    have hmb2 := Int.emod_lt_of_pos (vx + (walk + (j : Int))) (show 0 < period by omega)
    by_cases hlt : j < g0
    · have hne := bnei_t (gapTo_not (x := vx) (y := vy) (walk := walk) hp1 (by omega) by_.2 (j := (j : Int)) (by omega) (by rw [HG0.out]; omega))
      have hwj : IntKind.i64.wrap (walk + (j : Int) + 1) = walk + (j : Int) + 1 := by rw [IntKind.wrap_i64]; omega
      go_wp2
      go_roundw
      case rel => exact ⟨j + 1, by omega, by go_num, inferInstance⟩
      case measure => simp [intOf]; omega
    · obtain rfl : j = g0 := by omega
      have hne := bnei_f (show (vx + (walk + (j : Int))) % period = vy by rw [← HG0.out]; exact gapTo_end hp1 (by omega) by_.2)
      go_wp2
      go_ret2
      exact ⟨rfl, hww.trans inferInstance⟩
end Go.Proofs.Ytbkeccpjcmhhjaa
