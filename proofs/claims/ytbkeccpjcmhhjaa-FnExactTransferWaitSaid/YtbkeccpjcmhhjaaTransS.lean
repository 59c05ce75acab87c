/-
  Headways: spec.TransferWait.
-/
import Derived.Test.YtbkeccpjcmhhjaaTrans
namespace Go.Proofs.Ytbkeccpjcmhhjaa
open Go Go.RowKit
set_option linter.unusedVariables false
set_option maxRecDepth 100000
set_option linter.unusedSimpArgs false
theorem Blk.three {w : World} {g : Nat} {t : TypeId} {a b c : Value} (h : Blk w g t #[a, b, c]) : (∀ W [Later w W], W.cell? ⟨g, 0, none⟩ = some a) ∧ (∀ W [Later w W], W.cell? ⟨g, 1, none⟩ = some b) ∧ (∀ W [Later w W], W.cell? ⟨g, 2, none⟩ = some c) :=
  ⟨fun W hW => (h.later hW).cell 0, fun W hW => (h.later hW).cell 1, fun W hW => (h.later hW).cell 2⟩
theorem Blk.put {w : World} {g : Nat} {t : TypeId} {a b c a' b' c' : Value} (h : Blk w g t #[a, b, c]) : Blk (((w.setCell ⟨g, 0, none⟩ a').setCell ⟨g, 1, none⟩ b').setCell ⟨g, 2, none⟩ c') g t #[a', b', c'] :=
  ((h.set_ 0 a').set_ 1 b').set_ 2 c'
theorem Blk.by {w : World} {g k : Nat} {t : TypeId} {cs : Array Value} {a' b' c' : Value} (h : Blk w g t cs) (hne : ¬ g = k) : Blk (((w.setCell ⟨k, 0, none⟩ a').setCell ⟨k, 1, none⟩ b').setCell ⟨k, 2, none⟩ c') g t cs :=
  ((h.far (p := ⟨k, 0, none⟩) hne a').far (p := ⟨k, 1, none⟩) hne b').far (p := ⟨k, 2, none⟩) hne c'
set_option maxHeartbeats 16000000 in
theorem spec_TransferWait {w0 w w2 : World} {sA0 : Option Addr} {sn0 sc0 : Nat} {sA1 : Option Addr} {sn1 sc1 : Nat} {n : Network} (h : NetworkAt w0 sA0 sn0 sc0 sA1 sn1 sc1 n) (hl : Later w0 w) (period : Int) {qA : Option Addr} {qn qc : Nat} {l : List Pattern} (h2 : Patterns w2 qA qn qc l) (hl2 : Later w2 w) (a b' stop walk : Int) : Calls Try.prog 27 #[.agg #[.slice sA0 sn0 sc0, .slice sA1 sn1 sc1], .int .i64 period, .slice qA qn qc, .int .i64 a, .int .i64 b', .int .i64 stop, .int .i64 walk] w (Ret (.tuple #[.int .i64 (twRes n period l a b' stop walk).1, .bool (twRes n period l a b' stop walk).2]) w) := by
  have Hl := Lib.hid h2.len
  by_cases c1 : okPassed n period l stop = true
  rotate_left
  · have g1 : okPassed n period l stop = false := by simpa using c1
    clear c1
    have hP := h2.later hl2
    have HSL := Lib.hid h.l_Stops.len
    have HB0 : ∀ W [Later (w.alloc (.cells #[.slice sA0 sn0 sc0, .slice sA1 sn1 sc1] 50)) W] (j : Nat), W.cell? ⟨w.heap.size, j, none⟩ = #[.slice sA0 sn0 sc0, .slice sA1 sn1 sc1][j]? := Later.boxes (t := 50) (fr := (0, 0)) (heap_new (by simp; try omega)); obtain ⟨wb, hwb⟩ : ∃ wb : World, wb = (w.alloc (.cells #[.slice sA0 sn0 sc0, .slice sA1 sn1 sc1] 50)) := ⟨_, rfl⟩; haveI hbW : Later wb (w.alloc (.cells #[.slice sA0 sn0 sc0, .slice sA1 sn1 sc1] 50)) := (by rw [hwb]; exact Later.rfl_); haveI hww : Later w wb := (by rw [hwb]; infer_instance); rw [← hwb] at HB0; have hbE := Lib.hid (congrArg (fun x : World => x.heap.size) hwb); clear hwb
    have hwb0 := hl.trans hww
    have hwb2 := hl2.trans hww
    have H := Lib.hid h
    have H2 := Lib.hid h2
    replace hP := hP.later hww
    have hq := hP.le
    have Hl := Lib.hid hP.len
    clear h h2
    have HRES := Lib.hid (trans_no1 (a := a) (b := b') (walk := walk) g1)
    rw [HRES.out]
    go_enter Try.func27, Try.ntmps27
    go_wp2_with first
      | (go_at_call 113; refine (impl_arePassed H.out (hwb0.trans inferInstance) _ H2.out (hwb2.trans inferInstance) _).mono ?_; rintro e w1 ⟨rfl, L1⟩; have X1 := Later.trans (w := wb) inferInstance L1)
      | (go_at_call 107; refine (spec_l10Asked H.out (hwb0.trans inferInstance) _ H2.out (hwb2.trans inferInstance) _).mono ?_; rintro e w1 ⟨rfl, L1⟩; have X1 := Later.trans (w := wb) inferInstance L1)
      | (go_at_call 114; refine (impl_isPattern hq _).mono ?_; rintro e w' ⟨rfl, rfl⟩)
      | (go_at_call 98; refine (impl_within _ _ _ _).mono ?_; rintro e w' ⟨rfl, rfl⟩)
      | (go_at_call 93; refine (spec_l1In _ _ _ _).mono ?_; rintro e w' ⟨rfl, rfl⟩)
    go_ret2
    exact ⟨rfl, hww.trans inferInstance⟩
  by_cases c2 : inB a 0 ((qn : Int) - 1) = true
  rotate_left
  · have g1 : inB a 0 ((qn : Int) - 1) = false := by simpa using c2
    clear c2
    have hP := h2.later hl2
    have HSL := Lib.hid h.l_Stops.len
    have HB0 : ∀ W [Later (w.alloc (.cells #[.slice sA0 sn0 sc0, .slice sA1 sn1 sc1] 50)) W] (j : Nat), W.cell? ⟨w.heap.size, j, none⟩ = #[.slice sA0 sn0 sc0, .slice sA1 sn1 sc1][j]? := Later.boxes (t := 50) (fr := (0, 0)) (heap_new (by simp; try omega)); obtain ⟨wb, hwb⟩ : ∃ wb : World, wb = (w.alloc (.cells #[.slice sA0 sn0 sc0, .slice sA1 sn1 sc1] 50)) := ⟨_, rfl⟩; haveI hbW : Later wb (w.alloc (.cells #[.slice sA0 sn0 sc0, .slice sA1 sn1 sc1] 50)) := (by rw [hwb]; exact Later.rfl_); haveI hww : Later w wb := (by rw [hwb]; infer_instance); rw [← hwb] at HB0; have hbE := Lib.hid (congrArg (fun x : World => x.heap.size) hwb); clear hwb
    have hwb0 := hl.trans hww
    have hwb2 := hl2.trans hww
    have H := Lib.hid h
    have H2 := Lib.hid h2
    replace hP := hP.later hww
    have hq := hP.le
    have Hl := Lib.hid hP.len
    clear h h2
    have HRES := Lib.hid (trans_no2 (period := period) (n := n) (stop := stop) (b := b') (walk := walk) (l := l) (by rw [← Hl.out]; exact g1))
    rw [HRES.out]
    go_enter Try.func27, Try.ntmps27
    go_wp2_with first
      | (go_at_call 113; refine (impl_arePassed H.out (hwb0.trans inferInstance) _ H2.out (hwb2.trans inferInstance) _).mono ?_; rintro e w1 ⟨rfl, L1⟩; have X1 := Later.trans (w := wb) inferInstance L1)
      | (go_at_call 107; refine (spec_l10Asked H.out (hwb0.trans inferInstance) _ H2.out (hwb2.trans inferInstance) _).mono ?_; rintro e w1 ⟨rfl, L1⟩; have X1 := Later.trans (w := wb) inferInstance L1)
      | (go_at_call 114; refine (impl_isPattern hq _).mono ?_; rintro e w' ⟨rfl, rfl⟩)
      | (go_at_call 98; refine (impl_within _ _ _ _).mono ?_; rintro e w' ⟨rfl, rfl⟩)
      | (go_at_call 93; refine (spec_l1In _ _ _ _).mono ?_; rintro e w' ⟨rfl, rfl⟩)
    go_ret2
    exact ⟨rfl, hww.trans inferInstance⟩
  by_cases c3 : inB b' 0 ((qn : Int) - 1) = true
  rotate_left
  · have g1 : inB b' 0 ((qn : Int) - 1) = false := by simpa using c3
    clear c3
    have hP := h2.later hl2
    have HSL := Lib.hid h.l_Stops.len
    have HB0 : ∀ W [Later (w.alloc (.cells #[.slice sA0 sn0 sc0, .slice sA1 sn1 sc1] 50)) W] (j : Nat), W.cell? ⟨w.heap.size, j, none⟩ = #[.slice sA0 sn0 sc0, .slice sA1 sn1 sc1][j]? := Later.boxes (t := 50) (fr := (0, 0)) (heap_new (by simp; try omega)); obtain ⟨wb, hwb⟩ : ∃ wb : World, wb = (w.alloc (.cells #[.slice sA0 sn0 sc0, .slice sA1 sn1 sc1] 50)) := ⟨_, rfl⟩; haveI hbW : Later wb (w.alloc (.cells #[.slice sA0 sn0 sc0, .slice sA1 sn1 sc1] 50)) := (by rw [hwb]; exact Later.rfl_); haveI hww : Later w wb := (by rw [hwb]; infer_instance); rw [← hwb] at HB0; have hbE := Lib.hid (congrArg (fun x : World => x.heap.size) hwb); clear hwb
    have hwb0 := hl.trans hww
    have hwb2 := hl2.trans hww
    have H := Lib.hid h
    have H2 := Lib.hid h2
    replace hP := hP.later hww
    have hq := hP.le
    have Hl := Lib.hid hP.len
    clear h h2
    have HRES := Lib.hid (trans_no3 (period := period) (n := n) (stop := stop) (a := a) (walk := walk) (l := l) (by rw [← Hl.out]; exact g1))
    rw [HRES.out]
    go_enter Try.func27, Try.ntmps27
    go_wp2_with first
      | (go_at_call 113; refine (impl_arePassed H.out (hwb0.trans inferInstance) _ H2.out (hwb2.trans inferInstance) _).mono ?_; rintro e w1 ⟨rfl, L1⟩; have X1 := Later.trans (w := wb) inferInstance L1)
      | (go_at_call 107; refine (spec_l10Asked H.out (hwb0.trans inferInstance) _ H2.out (hwb2.trans inferInstance) _).mono ?_; rintro e w1 ⟨rfl, L1⟩; have X1 := Later.trans (w := wb) inferInstance L1)
      | (go_at_call 114; refine (impl_isPattern hq _).mono ?_; rintro e w' ⟨rfl, rfl⟩)
      | (go_at_call 98; refine (impl_within _ _ _ _).mono ?_; rintro e w' ⟨rfl, rfl⟩)
      | (go_at_call 93; refine (spec_l1In _ _ _ _).mono ?_; rintro e w' ⟨rfl, rfl⟩)
    go_ret2
    exact ⟨rfl, hww.trans inferInstance⟩
  by_cases c4 : a = b'
  · have e1 := (beqi_t c4).1
    have e2 := (beqi_t c4).2
    have HC4 := Lib.hid c4
    clear c4
    have hP := h2.later hl2
    have HSL := Lib.hid h.l_Stops.len
    have HB0 : ∀ W [Later (w.alloc (.cells #[.slice sA0 sn0 sc0, .slice sA1 sn1 sc1] 50)) W] (j : Nat), W.cell? ⟨w.heap.size, j, none⟩ = #[.slice sA0 sn0 sc0, .slice sA1 sn1 sc1][j]? := Later.boxes (t := 50) (fr := (0, 0)) (heap_new (by simp; try omega)); obtain ⟨wb, hwb⟩ : ∃ wb : World, wb = (w.alloc (.cells #[.slice sA0 sn0 sc0, .slice sA1 sn1 sc1] 50)) := ⟨_, rfl⟩; haveI hbW : Later wb (w.alloc (.cells #[.slice sA0 sn0 sc0, .slice sA1 sn1 sc1] 50)) := (by rw [hwb]; exact Later.rfl_); haveI hww : Later w wb := (by rw [hwb]; infer_instance); rw [← hwb] at HB0; have hbE := Lib.hid (congrArg (fun x : World => x.heap.size) hwb); clear hwb
    have hwb0 := hl.trans hww
    have hwb2 := hl2.trans hww
    have H := Lib.hid h
    have H2 := Lib.hid h2
    replace hP := hP.later hww
    have hq := hP.le
    have Hl := Lib.hid hP.len
    clear h h2
    have HRES := Lib.hid (trans_no4 (period := period) (n := n) (stop := stop) (l := l) (walk := walk) HC4.out)
    rw [HRES.out]
    go_enter Try.func27, Try.ntmps27
    go_wp2_with first
      | (go_at_call 113; refine (impl_arePassed H.out (hwb0.trans inferInstance) _ H2.out (hwb2.trans inferInstance) _).mono ?_; rintro e w1 ⟨rfl, L1⟩; have X1 := Later.trans (w := wb) inferInstance L1)
      | (go_at_call 107; refine (spec_l10Asked H.out (hwb0.trans inferInstance) _ H2.out (hwb2.trans inferInstance) _).mono ?_; rintro e w1 ⟨rfl, L1⟩; have X1 := Later.trans (w := wb) inferInstance L1)
      | (go_at_call 114; refine (impl_isPattern hq _).mono ?_; rintro e w' ⟨rfl, rfl⟩)
      | (go_at_call 98; refine (impl_within _ _ _ _).mono ?_; rintro e w' ⟨rfl, rfl⟩)
      | (go_at_call 93; refine (spec_l1In _ _ _ _).mono ?_; rintro e w' ⟨rfl, rfl⟩)
    go_ret2
    exact ⟨rfl, hww.trans inferInstance⟩
  have e1 := (beqi_f c4).1
  have e2 := (beqi_f c4).2
  by_cases c5 : inB walk 0 60 = true
  rotate_left
  · have g1 : inB walk 0 60 = false := by simpa using c5
    clear c5
    have hP := h2.later hl2
    have HSL := Lib.hid h.l_Stops.len
    have HB0 : ∀ W [Later (w.alloc (.cells #[.slice sA0 sn0 sc0, .slice sA1 sn1 sc1] 50)) W] (j : Nat), W.cell? ⟨w.heap.size, j, none⟩ = #[.slice sA0 sn0 sc0, .slice sA1 sn1 sc1][j]? := Later.boxes (t := 50) (fr := (0, 0)) (heap_new (by simp; try omega)); obtain ⟨wb, hwb⟩ : ∃ wb : World, wb = (w.alloc (.cells #[.slice sA0 sn0 sc0, .slice sA1 sn1 sc1] 50)) := ⟨_, rfl⟩; haveI hbW : Later wb (w.alloc (.cells #[.slice sA0 sn0 sc0, .slice sA1 sn1 sc1] 50)) := (by rw [hwb]; exact Later.rfl_); haveI hww : Later w wb := (by rw [hwb]; infer_instance); rw [← hwb] at HB0; have hbE := Lib.hid (congrArg (fun x : World => x.heap.size) hwb); clear hwb
    have hwb0 := hl.trans hww
    have hwb2 := hl2.trans hww
    have H := Lib.hid h
    have H2 := Lib.hid h2
    replace hP := hP.later hww
    have hq := hP.le
    have Hl := Lib.hid hP.len
    clear h h2
    have HRES := Lib.hid (trans_no5 (period := period) (n := n) (stop := stop) (l := l) (a := a) (b := b') g1)
    rw [HRES.out]
    go_enter Try.func27, Try.ntmps27
    go_wp2_with first
      | (go_at_call 113; refine (impl_arePassed H.out (hwb0.trans inferInstance) _ H2.out (hwb2.trans inferInstance) _).mono ?_; rintro e w1 ⟨rfl, L1⟩; have X1 := Later.trans (w := wb) inferInstance L1)
      | (go_at_call 107; refine (spec_l10Asked H.out (hwb0.trans inferInstance) _ H2.out (hwb2.trans inferInstance) _).mono ?_; rintro e w1 ⟨rfl, L1⟩; have X1 := Later.trans (w := wb) inferInstance L1)
      | (go_at_call 114; refine (impl_isPattern hq _).mono ?_; rintro e w' ⟨rfl, rfl⟩)
      | (go_at_call 98; refine (impl_within _ _ _ _).mono ?_; rintro e w' ⟨rfl, rfl⟩)
      | (go_at_call 93; refine (spec_l1In _ _ _ _).mono ?_; rintro e w' ⟨rfl, rfl⟩)
    go_ret2
    exact ⟨rfl, hww.trans inferInstance⟩
  replace h := h.later hl
  replace h2 := h2.later hl2
  have hq := h2.le
  have hP := h.l_Lines
  have pf := okPassed_pat c1
  have d2 := inB_t.1 c2
  have d3 := inB_t.1 c3
  have d5 := inB_t.1 c5
  have hw0 := d5.1
  have hw60 := d5.2
  have HYES := Lib.hid (trans_yes c1 (by rw [← Hl.out]; exact c2) (by rw [← Hl.out]; exact c3) c4 c5)
  obtain ⟨ma, rfl⟩ := Int.eq_ofNat_of_zero_le d2.1
  obtain ⟨mb, rfl⟩ := Int.eq_ofNat_of_zero_le d3.1
  have hma : ma < qn := by omega
  have hmb : mb < qn := by omega
  obtain ⟨ba, oa, ⟨lna, ofa⟩, rfl, hxa, ha0, ha1, hia⟩ := Patterns.at_ h2 hma
  obtain ⟨bb, ob, ⟨lnb, ofb⟩, hAb, hxb, hb0, hb1, hib⟩ := Patterns.at_ h2 hmb
  cases hAb
  simp only at ha0 ha1 hb0 hb1
  have qa := pf.pat ma _ hxa.out
  have qb := pf.pat mb _ hxb.out
  simp only at qa qb
  rw [patI_of hxa.out, patI_of hxb.out] at HYES
  obtain ⟨p, rfl⟩ := Int.eq_ofNat_of_zero_le qa.1
  obtain ⟨q, rfl⟩ := Int.eq_ofNat_of_zero_le qb.1
  have hp : p < sn1 := by rw [hP.len]; omega
  have hqq : q < sn1 := by rw [hP.len]; omega
  have hsn : sn1 ≤ 9223372036854775807 := hP.le
  obtain ⟨b, o, xA0, xn0, xc0, xA1, xn1, xc1, y, rfl, hy, hc0, hc1, hc2, hi⟩ := Lines.at_ hP hp
  obtain ⟨b2, o2, zA0, zn0, zc0, zA1, zn1, zc1, z, hA2, hz, hd0, hd1, hd2, hiz⟩ := Lines.at_ hP hqq
  cases hA2
  have lf := (netFacts pf.net).line p y hy.out
  have lz := (netFacts pf.net).line q z hz.out
  have hly : lineN n (p : Int) = y := lineN_of hy.out
  have hlz : lineN n (q : Int) = z := lineN_of hz.out
  have hp1 := pf.per.1
  have hp2 := pf.per.2
  have hpz : ¬ period = 0 := by omega
  have NF := Lib.hid (netFacts pf.net)
  have QA := Lib.hid qa
  have QB := Lib.hid qb
  obtain ⟨vx, hvx⟩ : ∃ v, restOf n period ⟨p, ofa⟩ stop = v := ⟨_, rfl⟩
  obtain ⟨vy, hvy⟩ : ∃ v, restOf n period ⟨q, ofb⟩ stop = v := ⟨_, rfl⟩
  have bx := restOf_bd n period ⟨p, ofa⟩ stop hp1
  have by_ := restOf_bd n period ⟨q, ofb⟩ stop hp1
  rw [hvx] at bx
  rw [hvy] at by_
  have nx := rest_neg_iff (n := n) (stop := stop) hp1 (p := ⟨p, ofa⟩)
  have ny := rest_neg_iff (n := n) (stop := stop) hp1 (p := ⟨q, ofb⟩)
  simp only at nx ny
  rw [hvx, hly] at nx
  rw [hvy, hlz] at ny
  have HX := Lib.hid hvx
  have HY := Lib.hid hvy
  have HGO : Hid (transGo n period ⟨p, ofa⟩ ⟨q, ofb⟩ stop walk = if placeIn y stop < 1 ∨ placeIn z stop < 0 ∨ placeIn z stop = (z.Stops.length : Int) - 1 then (0, false) else (walk + gapTo vx vy walk period, true)) := by
    show _ = _
    unfold transGo
    simp only [hly, hlz, hvx, hvy]
  rw [HYES.out, HGO.out]
  have HNX := Lib.hid nx
  have HNY := Lib.hid ny
  have hS := hi.l_Stops
  have hZ := hiz.l_Stops
  have hn6 : xn0 ≤ 6 := by rw [hS.len]; exact lf.stops.2
  have hz6 : zn0 ≤ 6 := by rw [hZ.len]; exact lz.stops.2
  have Hsl : Hid (xn0 = y.Stops.length) := hS.len
  have Hzl : Hid (zn0 = z.Stops.length) := hZ.len
  have LF := Lib.hid lf
  have LZ := Lib.hid lz
  clear nx ny hvx hvy
  have Hi := Lib.hid hi
  have Hiz := Lib.hid hiz
  have hpbx := placeIn_bd LF.out stop
  have hpbz := placeIn_bd LZ.out stop
  obtain ⟨px, hpx⟩ : ∃ v, placeIn y stop = v := ⟨_, rfl⟩
  obtain ⟨pz, hpz2⟩ : ∃ v, placeIn z stop = v := ⟨_, rfl⟩
  rw [hpx] at hpbx HNX ⊢
  rw [hpz2] at hpbz HNY ⊢
  have HPX : Hid (idx (intIs stop) y.Stops = px) := hpx
  have HPZ : Hid (idx (intIs stop) z.Stops = pz) := hpz2
  rw [← Hzl.out]
  have hpx1 := hpbx.1
  have hpz1 := hpbz.1
  clear hpx hpz2
  have hwzm : IntKind.i64.wrap ((zn0 : Int) - 1) = (zn0 : Int) - 1 := by rw [IntKind.wrap_i64]; omega
  by_cases k1 : px < 1
  · rw [if_pos (Or.inl k1)]
    have HB0 : ∀ W [Later (w.alloc (.cells #[.slice sA0 sn0 sc0, .slice (some ⟨b, o, none⟩) sn1 sc1] 50)) W] (j : Nat), W.cell? ⟨w.heap.size, j, none⟩ = #[.slice sA0 sn0 sc0, .slice (some ⟨b, o, none⟩) sn1 sc1][j]? := Later.boxes (t := 50) (fr := (0, 0)) (heap_new (by simp; try omega)); obtain ⟨wb, hwb⟩ : ∃ wb : World, wb = (w.alloc (.cells #[.slice sA0 sn0 sc0, .slice (some ⟨b, o, none⟩) sn1 sc1] 50)) := ⟨_, rfl⟩; haveI hbW : Later wb (w.alloc (.cells #[.slice sA0 sn0 sc0, .slice (some ⟨b, o, none⟩) sn1 sc1] 50)) := (by rw [hwb]; exact Later.rfl_); haveI hww : Later w wb := (by rw [hwb]; infer_instance); rw [← hwb] at HB0; have hbE := Lib.hid (congrArg (fun x : World => x.heap.size) hwb); clear hwb
    replace h := h.later hww
    replace h2 := h2.later hww
    replace ha0 := shift hww ha0
    replace ha1 := shift hww ha1
    replace hb0 := shift hww hb0
    replace hb1 := shift hww hb1
    replace hc0 := shift hww hc0
    replace hc1 := shift hww hc1
    replace hc2 := shift hww hc2
    replace hd0 := shift hww hd0
    replace hd1 := shift hww hd1
    replace hd2 := shift hww hd2
    (try replace hcs := shift hww hcs)
    (try replace hcl := shift hww hcl)
    replace hS := hS.later hww
    replace hZ := hZ.later hww
    have H := Lib.hid h
    have H2 := Lib.hid h2
    have hwb0 : Later wb wb := inferInstance
    have hwb2 : Later wb wb := inferInstance
    clear h h2 hxa hxb hia hib qa qb hy hz hi hiz lf lz pf d2 d3 d5 hP
    have Hi := Lib.hid (Hi.out.later hww)
    have Hiz := Lib.hid (Hiz.out.later hww)
    go_enter Try.func27, Try.ntmps27
    go_wp2_with first
      | (go_at_call 113; refine (impl_arePassed H.out (hwb0.trans inferInstance) _ H2.out (hwb2.trans inferInstance) _).mono ?_; rintro e w1 ⟨rfl, L1⟩; have X1 := Later.trans (w := wb) inferInstance L1)
      | (go_at_call 107; refine (spec_l10Asked H.out (hwb0.trans inferInstance) _ H2.out (hwb2.trans inferInstance) _).mono ?_; rintro e w1 ⟨rfl, L1⟩; have X1 := Later.trans (w := wb) inferInstance L1)
      | (go_at_call 114; refine (impl_isPattern hq _).mono ?_; rintro e w' ⟨rfl, rfl⟩)
      | (go_at_call 98; refine (impl_within _ _ _ _).mono ?_; rintro e w' ⟨rfl, rfl⟩)
      | (go_at_call 93; refine (spec_l1In _ _ _ _).mono ?_; rintro e w' ⟨rfl, rfl⟩)
    refine wp_region_held_drew (S := (fun w' => Later wb w')) (by kernel_rfl) (by exact inferInstance) (fun hHeld => ?_)
    refine wpAnyH_take (i := 0) (v := ?_) (by simp only [List.getElem?_toArray, List.getElem?_cons_zero] <;> rfl) (by kernel_rfl) (by kernel_rfl) (by kernel_rfl) (by exact fun _ _ _ h => h) (Or.inl ⟨by kernel_rfl, ?_⟩) (by assumption) ?_
    rotate_left
    · intro w' hSw; (try dsimp only at hSw); go_simp; try with_reducible rfl
    try simp only [Act.put, List.setIfInBounds_toArray, List.set_cons_zero, List.set_cons_succ]
    refine wpAnyH_take (i := 1) (v := ?_) (by simp only [List.getElem?_toArray, List.getElem?_cons_succ, List.getElem?_cons_zero] <;> rfl) (by kernel_rfl) (by kernel_rfl) (by kernel_rfl) (by exact fun _ _ _ h => h) (Or.inl ⟨by kernel_rfl, ?_⟩) (by assumption) ?_
    rotate_left
    · intro w' hSw; (try dsimp only at hSw); go_simp; try with_reducible rfl
    try simp only [Act.put, List.setIfInBounds_toArray, List.set_cons_zero, List.set_cons_succ]
    refine wpAnyH_take (i := 2) (v := ?_) (by simp only [List.getElem?_toArray, List.getElem?_cons_succ, List.getElem?_cons_zero] <;> rfl) (by kernel_rfl) (by kernel_rfl) (by kernel_rfl) (by exact fun _ _ _ h => h) (Or.inl ⟨by kernel_rfl, ?_⟩) (by assumption) ?_
    rotate_left
    · intro w' hSw; (try dsimp only at hSw); go_simp; try with_reducible rfl
    try simp only [Act.put, List.setIfInBounds_toArray, List.set_cons_zero, List.set_cons_succ]
    refine wpAnyH_take (i := 3) (v := ?_) (by simp only [List.getElem?_toArray, List.getElem?_cons_succ, List.getElem?_cons_zero] <;> rfl) (by kernel_rfl) (by kernel_rfl) (by kernel_rfl) (by exact fun _ _ _ h => h) (Or.inl ⟨by kernel_rfl, ?_⟩) (by assumption) ?_
    rotate_left
    · intro w' hSw; (try dsimp only at hSw); go_simp; try with_reducible rfl
    try simp only [Act.put, List.setIfInBounds_toArray, List.set_cons_zero, List.set_cons_succ]
    refine wpAnyH_take (i := 4) (v := ?_) (by simp only [List.getElem?_toArray, List.getElem?_cons_succ, List.getElem?_cons_zero] <;> rfl) (by kernel_rfl) (by kernel_rfl) (by kernel_rfl) (by exact fun _ _ _ h => h) (Or.inl ⟨by kernel_rfl, ?_⟩) (by assumption) ?_
    rotate_left
    · intro w' hSw; (try dsimp only at hSw); go_simp; try with_reducible rfl
    try simp only [Act.put, List.setIfInBounds_toArray, List.set_cons_zero, List.set_cons_succ]
    refine wpAnyH_take (i := 5) (v := ?_) (by simp only [List.getElem?_toArray, List.getElem?_cons_succ, List.getElem?_cons_zero] <;> rfl) (by kernel_rfl) (by kernel_rfl) (by kernel_rfl) (by exact fun _ _ _ h => h) (Or.inl ⟨by kernel_rfl, ?_⟩) (by assumption) ?_
    rotate_left
    · intro w' hSw; (try dsimp only at hSw); go_simp; try with_reducible rfl
    try simp only [Act.put, List.setIfInBounds_toArray, List.set_cons_zero, List.set_cons_succ]
    refine wpAnyH_take (i := 6) (v := ?_) (by simp only [List.getElem?_toArray, List.getElem?_cons_succ, List.getElem?_cons_zero] <;> rfl) (by kernel_rfl) (by kernel_rfl) (by kernel_rfl) (by exact fun _ _ _ h => h) (Or.inl ⟨by kernel_rfl, ?_⟩) (by assumption) ?_
    rotate_left
    · intro w' hSw; (try dsimp only at hSw); go_simp; try with_reducible rfl
    try simp only [Act.put, List.setIfInBounds_toArray, List.set_cons_zero, List.set_cons_succ]
    refine wpAnyH_take (i := 7) (v := ?_) (by simp only [List.getElem?_toArray, List.getElem?_cons_succ, List.getElem?_cons_zero] <;> rfl) (by kernel_rfl) (by kernel_rfl) (by kernel_rfl) (by exact fun _ _ _ h => h) (Or.inl ⟨by kernel_rfl, ?_⟩) (by assumption) ?_
    rotate_left
    · intro w' hSw; (try dsimp only at hSw); go_simp; try with_reducible rfl
    try simp only [Act.put, List.setIfInBounds_toArray, List.set_cons_zero, List.set_cons_succ]
    refine wpAnyH_take (i := 8) (v := ?_) (by simp only [List.getElem?_toArray, List.getElem?_cons_succ, List.getElem?_cons_zero] <;> rfl) (by kernel_rfl) (by kernel_rfl) (by kernel_rfl) (by exact fun _ _ _ h => h) (Or.inl ⟨by kernel_rfl, ?_⟩) (by assumption) ?_
    rotate_left
    · intro w' hSw; (try dsimp only at hSw); go_simp; try with_reducible rfl
    try simp only [Act.put, List.setIfInBounds_toArray, List.set_cons_zero, List.set_cons_succ]
    refine wpAnyH_take (i := 9) (v := ?_) (by simp only [List.getElem?_toArray, List.getElem?_cons_succ, List.getElem?_cons_zero] <;> rfl) (by kernel_rfl) (by kernel_rfl) (by kernel_rfl) (by exact fun _ _ _ h => h) (Or.inl ⟨by kernel_rfl, ?_⟩) (by assumption) ?_
    rotate_left
    · intro w' hSw; (try dsimp only at hSw); go_simp; try with_reducible rfl
    try simp only [Act.put, List.setIfInBounds_toArray, List.set_cons_zero, List.set_cons_succ]
    refine wpAnyH_take (i := 10) (v := ?_) (by simp only [List.getElem?_toArray, List.getElem?_cons_succ, List.getElem?_cons_zero] <;> rfl) (by kernel_rfl) (by kernel_rfl) (by kernel_rfl) (by exact fun _ _ _ h => h) (Or.inl ⟨by kernel_rfl, ?_⟩) (by assumption) ?_
    rotate_left
    · intro w' hSw; (try dsimp only at hSw); go_simp; try with_reducible rfl
    try simp only [Act.put, List.setIfInBounds_toArray, List.set_cons_zero, List.set_cons_succ]
    refine wpAnyH_take (i := 11) (v := ?_) (by simp only [List.getElem?_toArray, List.getElem?_cons_succ, List.getElem?_cons_zero] <;> rfl) (by kernel_rfl) (by kernel_rfl) (by kernel_rfl) (by exact fun _ _ _ h => h) (Or.inl ⟨by kernel_rfl, ?_⟩) (by assumption) ?_
    rotate_left
    · intro w' hSw; (try dsimp only at hSw); go_simp; try with_reducible rfl
    try simp only [Act.put, List.setIfInBounds_toArray, List.set_cons_zero, List.set_cons_succ]
    refine wpAnyH_take (i := 12) (v := ?_) (by simp only [List.getElem?_toArray, List.getElem?_cons_succ, List.getElem?_cons_zero] <;> rfl) (by kernel_rfl) (by kernel_rfl) (by kernel_rfl) (by exact fun _ _ _ h => h) (Or.inl ⟨by kernel_rfl, ?_⟩) (by assumption) ?_
    rotate_left
    · intro w' hSw; (try dsimp only at hSw); go_simp; try with_reducible rfl
    try simp only [Act.put, List.setIfInBounds_toArray, List.set_cons_zero, List.set_cons_succ]
    refine wpAnyH_take (i := 13) (v := ?_) (by simp only [List.getElem?_toArray, List.getElem?_cons_succ, List.getElem?_cons_zero] <;> rfl) (by kernel_rfl) (by kernel_rfl) (by kernel_rfl) (by exact fun _ _ _ h => h) (Or.inl ⟨by kernel_rfl, ?_⟩) (by assumption) ?_
    rotate_left
    · intro w' hSw; (try dsimp only at hSw); go_simp; try with_reducible rfl
    try simp only [Act.put, List.setIfInBounds_toArray, List.set_cons_zero, List.set_cons_succ]
    refine wpAnyH_take (i := 14) (v := ?_) (by simp only [List.getElem?_toArray, List.getElem?_cons_succ, List.getElem?_cons_zero] <;> rfl) (by kernel_rfl) (by kernel_rfl) (by kernel_rfl) (by exact fun _ _ _ h => h) (Or.inl ⟨by kernel_rfl, ?_⟩) (by assumption) ?_
    rotate_left
    · intro w' hSw; (try dsimp only at hSw); go_simp; try with_reducible rfl
    try simp only [Act.put, List.setIfInBounds_toArray, List.set_cons_zero, List.set_cons_succ]
    refine wpAnyH_take (i := 15) (v := ?_) (by simp only [List.getElem?_toArray, List.getElem?_cons_succ, List.getElem?_cons_zero] <;> rfl) (by kernel_rfl) (by kernel_rfl) (by kernel_rfl) (by exact fun _ _ _ h => h) (Or.inl ⟨by kernel_rfl, ?_⟩) (by assumption) ?_
    rotate_left
    · intro w' hSw; (try dsimp only at hSw); go_simp; try with_reducible rfl
    try simp only [Act.put, List.setIfInBounds_toArray, List.set_cons_zero, List.set_cons_succ]
    refine wpAnyH_take (i := 16) (v := ?_) (by simp only [List.getElem?_toArray, List.getElem?_cons_succ, List.getElem?_cons_zero] <;> rfl) (by kernel_rfl) (by kernel_rfl) (by kernel_rfl) (by exact fun _ _ _ h => h) (Or.inl ⟨by kernel_rfl, ?_⟩) (by assumption) ?_
    rotate_left
    · intro w' hSw; (try dsimp only at hSw); go_simp; try with_reducible rfl
    try simp only [Act.put, List.setIfInBounds_toArray, List.set_cons_zero, List.set_cons_succ]
    refine wpAnyH_take (i := 17) (v := ?_) (by simp only [List.getElem?_toArray, List.getElem?_cons_succ, List.getElem?_cons_zero] <;> rfl) (by kernel_rfl) (by kernel_rfl) (by kernel_rfl) (by exact fun _ _ _ h => h) (Or.inl ⟨by kernel_rfl, ?_⟩) (by assumption) ?_
    rotate_left
    · intro w' hSw; (try dsimp only at hSw); go_simp; try with_reducible rfl
    try simp only [Act.put, List.setIfInBounds_toArray, List.set_cons_zero, List.set_cons_succ]
    refine wpAnyH_ready (rs := [18, 19]) (by kernel_rfl) (by simp) (AllReadyH.cons rfl (fun K hK => ?rx0_1_2_3_4_5_6_7_8_9_10_11_12_13_14_15_16_17_18) (AllReadyH.cons rfl (fun K hK => ?rx0_1_2_3_4_5_6_7_8_9_10_11_12_13_14_15_16_17_19) AllReadyH.nil))
    case' rx0_1_2_3_4_5_6_7_8_9_10_11_12_13_14_15_16_17_18 =>
      go_simp
      (first | (obtain ⟨wp, hwwp⟩ : ∃ W : World, W = (w1.alloc (.cells #[.string ⟨#[]⟩, .slice none 0 0, .slice none 0 0] 142)).drew := ⟨_, rfl⟩; rw [← hwwp]; have hbgx : Blk wp w1.heap.size 142 #[.string ⟨#[]⟩, .slice none 0 0, .slice none 0 0] := (by rw [hwwp]; exact Blk.new _ _ _); haveI hLwp : Later w1 wp := (by rw [hwwp]; infer_instance); have hywp := Later.trans (w := wb) inferInstance hLwp; have hGgx := Later.size (w := wb) (W := w1) inferInstance; obtain ⟨gx, hgx⟩ : ∃ g : Nat, g = w1.heap.size := ⟨_, rfl⟩; rw [← hgx] at hbgx hGgx; rw [← hgx]; clear hwwp hgx; skip) | (obtain ⟨wq, hwwq⟩ : ∃ W : World, W = (wp.alloc (.cells #[.string ⟨#[]⟩, .slice none 0 0, .slice none 0 0] 142)) := ⟨_, rfl⟩; rw [← hwwq]; have hbgx : Blk wq wp.heap.size 142 #[.string ⟨#[]⟩, .slice none 0 0, .slice none 0 0] := (by rw [hwwq]; exact Blk.new _ _ _); haveI hLwq : Later wp wq := (by rw [hwwq]; infer_instance); have hywq := Later.trans (w := wb) inferInstance hLwq; have hGgx := Later.size (w := wb) (W := wp) inferInstance; have hlt := hbgy.lt; replace hbgy := hbgy.later hLwq; obtain ⟨gx, hgx⟩ : ∃ g : Nat, g = wp.heap.size := ⟨_, rfl⟩; rw [← hgx] at hbgx hGgx hlt; rw [← hgx]; clear hwwq hgx; have hxy : ¬ gx = gy := (by omega); have hyx : ¬ gy = gx := (by omega); haveI hNx : New wb gx := ⟨hGgx⟩; haveI hNy : New wb gy := ⟨hGgy⟩; have hcx := (fun i => hbgx.cell i); have hcy := (fun i => hbgy.cell i); have hfx := (fun i => hbgx.frozen i); have hfy := (fun i => hbgy.frozen i)))
      refine hK.out _ _ (by exact inferInstance) (fun hHeld => ?_)
      try simp only [Act.put, List.setIfInBounds_toArray, List.set_cons_zero, List.set_cons_succ]
      refine wpAnyH_ready (rs := [19]) (by kernel_rfl) (by simp) (AllReadyH.cons rfl (fun K hK => ?_) AllReadyH.nil)
      go_simp
      (first | (obtain ⟨wp, hwwp⟩ : ∃ W : World, W = (w1.alloc (.cells #[.string ⟨#[]⟩, .slice none 0 0, .slice none 0 0] 142)).drew := ⟨_, rfl⟩; rw [← hwwp]; have hbgy : Blk wp w1.heap.size 142 #[.string ⟨#[]⟩, .slice none 0 0, .slice none 0 0] := (by rw [hwwp]; exact Blk.new _ _ _); haveI hLwp : Later w1 wp := (by rw [hwwp]; infer_instance); have hywp := Later.trans (w := wb) inferInstance hLwp; have hGgy := Later.size (w := wb) (W := w1) inferInstance; obtain ⟨gy, hgy⟩ : ∃ g : Nat, g = w1.heap.size := ⟨_, rfl⟩; rw [← hgy] at hbgy hGgy; rw [← hgy]; clear hwwp hgy; skip) | (obtain ⟨wq, hwwq⟩ : ∃ W : World, W = (wp.alloc (.cells #[.string ⟨#[]⟩, .slice none 0 0, .slice none 0 0] 142)) := ⟨_, rfl⟩; rw [← hwwq]; have hbgy : Blk wq wp.heap.size 142 #[.string ⟨#[]⟩, .slice none 0 0, .slice none 0 0] := (by rw [hwwq]; exact Blk.new _ _ _); haveI hLwq : Later wp wq := (by rw [hwwq]; infer_instance); have hywq := Later.trans (w := wb) inferInstance hLwq; have hGgy := Later.size (w := wb) (W := wp) inferInstance; have hlt := hbgx.lt; replace hbgx := hbgx.later hLwq; obtain ⟨gy, hgy⟩ : ∃ g : Nat, g = wp.heap.size := ⟨_, rfl⟩; rw [← hgy] at hbgy hGgy hlt; rw [← hgy]; clear hwwq hgy; have hxy : ¬ gx = gy := (by omega); have hyx : ¬ gy = gx := (by omega); haveI hNx : New wb gx := ⟨hGgx⟩; haveI hNy : New wb gy := ⟨hGgy⟩; have hcx := (fun i => hbgx.cell i); have hcy := (fun i => hbgy.cell i); have hfx := (fun i => hbgx.frozen i); have hfy := (fun i => hbgy.frozen i)))
      refine hK.out _ _ (by exact inferInstance) (fun hHeld => ?_)
      try simp only [Act.put, List.setIfInBounds_toArray, List.set_cons_zero, List.set_cons_succ]
      refine wpAnyH_ready (rs := [20]) (by kernel_rfl) (by simp) (AllReadyH.cons rfl (fun K hK => ?_) AllReadyH.nil)
      go_simp
      skip
      refine hK.out _ _ (by exact inferInstance) (fun hHeld => ?_)
      try simp only [Act.put, List.setIfInBounds_toArray, List.set_cons_zero, List.set_cons_succ]
      refine wpAnyH_ready (rs := [21]) (by kernel_rfl) (by simp) (AllReadyH.cons rfl (fun K hK => ?_) AllReadyH.nil)
      go_simp
      (obtain ⟨wf, hwf⟩ : ∃ W : World, W = ((((((wq.setCell ⟨gx, 0, none⟩ (.string y.Name)).setCell ⟨gx, 1, none⟩ (.slice xA0 xn0 xc0)).setCell ⟨gx, 2, none⟩ (.slice xA1 xn1 xc1)).setCell ⟨gy, 0, none⟩ (.string z.Name)).setCell ⟨gy, 1, none⟩ (.slice zA0 zn0 zc0)).setCell ⟨gy, 2, none⟩ (.slice zA1 zn1 zc1)) := ⟨_, rfl⟩; rw [← hwf]; have hbX : Blk wf gx 142 #[.string y.Name, .slice xA0 xn0 xc0, .slice xA1 xn1 xc1] := (by rw [hwf]; exact hbgx.put.by hxy); have hbY : Blk wf gy 142 #[.string z.Name, .slice zA0 zn0 zc0, .slice zA1 zn1 zc1] := (by rw [hwf]; exact (hbgy.by hyx).put); haveI hyf : Later wb wf := (by rw [hwf]; infer_instance); clear hwf hcx hcy hfx hfy)
      refine hK.out _ _ (by exact inferInstance) (fun hHeld => ?_)
      try simp only [Act.put, List.setIfInBounds_toArray, List.set_cons_zero, List.set_cons_succ]
      refine wpAnyH_done (by kernel_rfl) ?_ _
    case' rx0_1_2_3_4_5_6_7_8_9_10_11_12_13_14_15_16_17_19 =>
      go_simp
      (first | (obtain ⟨wp, hwwp⟩ : ∃ W : World, W = (w1.alloc (.cells #[.string ⟨#[]⟩, .slice none 0 0, .slice none 0 0] 142)).drew := ⟨_, rfl⟩; rw [← hwwp]; have hbgy : Blk wp w1.heap.size 142 #[.string ⟨#[]⟩, .slice none 0 0, .slice none 0 0] := (by rw [hwwp]; exact Blk.new _ _ _); haveI hLwp : Later w1 wp := (by rw [hwwp]; infer_instance); have hywp := Later.trans (w := wb) inferInstance hLwp; have hGgy := Later.size (w := wb) (W := w1) inferInstance; obtain ⟨gy, hgy⟩ : ∃ g : Nat, g = w1.heap.size := ⟨_, rfl⟩; rw [← hgy] at hbgy hGgy; rw [← hgy]; clear hwwp hgy; skip) | (obtain ⟨wq, hwwq⟩ : ∃ W : World, W = (wp.alloc (.cells #[.string ⟨#[]⟩, .slice none 0 0, .slice none 0 0] 142)) := ⟨_, rfl⟩; rw [← hwwq]; have hbgy : Blk wq wp.heap.size 142 #[.string ⟨#[]⟩, .slice none 0 0, .slice none 0 0] := (by rw [hwwq]; exact Blk.new _ _ _); haveI hLwq : Later wp wq := (by rw [hwwq]; infer_instance); have hywq := Later.trans (w := wb) inferInstance hLwq; have hGgy := Later.size (w := wb) (W := wp) inferInstance; have hlt := hbgx.lt; replace hbgx := hbgx.later hLwq; obtain ⟨gy, hgy⟩ : ∃ g : Nat, g = wp.heap.size := ⟨_, rfl⟩; rw [← hgy] at hbgy hGgy hlt; rw [← hgy]; clear hwwq hgy; have hxy : ¬ gx = gy := (by omega); have hyx : ¬ gy = gx := (by omega); haveI hNx : New wb gx := ⟨hGgx⟩; haveI hNy : New wb gy := ⟨hGgy⟩; have hcx := (fun i => hbgx.cell i); have hcy := (fun i => hbgy.cell i); have hfx := (fun i => hbgx.frozen i); have hfy := (fun i => hbgy.frozen i)))
      refine hK.out _ _ (by exact inferInstance) (fun hHeld => ?_)
      try simp only [Act.put, List.setIfInBounds_toArray, List.set_cons_zero, List.set_cons_succ]
      refine wpAnyH_ready (rs := [18]) (by kernel_rfl) (by simp) (AllReadyH.cons rfl (fun K hK => ?_) AllReadyH.nil)
      go_simp
      (first | (obtain ⟨wp, hwwp⟩ : ∃ W : World, W = (w1.alloc (.cells #[.string ⟨#[]⟩, .slice none 0 0, .slice none 0 0] 142)).drew := ⟨_, rfl⟩; rw [← hwwp]; have hbgx : Blk wp w1.heap.size 142 #[.string ⟨#[]⟩, .slice none 0 0, .slice none 0 0] := (by rw [hwwp]; exact Blk.new _ _ _); haveI hLwp : Later w1 wp := (by rw [hwwp]; infer_instance); have hywp := Later.trans (w := wb) inferInstance hLwp; have hGgx := Later.size (w := wb) (W := w1) inferInstance; obtain ⟨gx, hgx⟩ : ∃ g : Nat, g = w1.heap.size := ⟨_, rfl⟩; rw [← hgx] at hbgx hGgx; rw [← hgx]; clear hwwp hgx; skip) | (obtain ⟨wq, hwwq⟩ : ∃ W : World, W = (wp.alloc (.cells #[.string ⟨#[]⟩, .slice none 0 0, .slice none 0 0] 142)) := ⟨_, rfl⟩; rw [← hwwq]; have hbgx : Blk wq wp.heap.size 142 #[.string ⟨#[]⟩, .slice none 0 0, .slice none 0 0] := (by rw [hwwq]; exact Blk.new _ _ _); haveI hLwq : Later wp wq := (by rw [hwwq]; infer_instance); have hywq := Later.trans (w := wb) inferInstance hLwq; have hGgx := Later.size (w := wb) (W := wp) inferInstance; have hlt := hbgy.lt; replace hbgy := hbgy.later hLwq; obtain ⟨gx, hgx⟩ : ∃ g : Nat, g = wp.heap.size := ⟨_, rfl⟩; rw [← hgx] at hbgx hGgx hlt; rw [← hgx]; clear hwwq hgx; have hxy : ¬ gx = gy := (by omega); have hyx : ¬ gy = gx := (by omega); haveI hNx : New wb gx := ⟨hGgx⟩; haveI hNy : New wb gy := ⟨hGgy⟩; have hcx := (fun i => hbgx.cell i); have hcy := (fun i => hbgy.cell i); have hfx := (fun i => hbgx.frozen i); have hfy := (fun i => hbgy.frozen i)))
      refine hK.out _ _ (by exact inferInstance) (fun hHeld => ?_)
      try simp only [Act.put, List.setIfInBounds_toArray, List.set_cons_zero, List.set_cons_succ]
      refine wpAnyH_ready (rs := [20]) (by kernel_rfl) (by simp) (AllReadyH.cons rfl (fun K hK => ?_) AllReadyH.nil)
      go_simp
      skip
      refine hK.out _ _ (by exact inferInstance) (fun hHeld => ?_)
      try simp only [Act.put, List.setIfInBounds_toArray, List.set_cons_zero, List.set_cons_succ]
      refine wpAnyH_ready (rs := [21]) (by kernel_rfl) (by simp) (AllReadyH.cons rfl (fun K hK => ?_) AllReadyH.nil)
      go_simp
      (obtain ⟨wf, hwf⟩ : ∃ W : World, W = ((((((wq.setCell ⟨gx, 0, none⟩ (.string y.Name)).setCell ⟨gx, 1, none⟩ (.slice xA0 xn0 xc0)).setCell ⟨gx, 2, none⟩ (.slice xA1 xn1 xc1)).setCell ⟨gy, 0, none⟩ (.string z.Name)).setCell ⟨gy, 1, none⟩ (.slice zA0 zn0 zc0)).setCell ⟨gy, 2, none⟩ (.slice zA1 zn1 zc1)) := ⟨_, rfl⟩; rw [← hwf]; have hbX : Blk wf gx 142 #[.string y.Name, .slice xA0 xn0 xc0, .slice xA1 xn1 xc1] := (by rw [hwf]; exact hbgx.put.by hxy); have hbY : Blk wf gy 142 #[.string z.Name, .slice zA0 zn0 zc0, .slice zA1 zn1 zc1] := (by rw [hwf]; exact (hbgy.by hyx).put); haveI hyf : Later wb wf := (by rw [hwf]; infer_instance); clear hwf hcx hcy hfx hfy)
      refine hK.out _ _ (by exact inferInstance) (fun hHeld => ?_)
      try simp only [Act.put, List.setIfInBounds_toArray, List.set_cons_zero, List.set_cons_succ]
      refine wpAnyH_done (by kernel_rfl) ?_ _
    all_goals obtain ⟨hX0, hX1, hX2⟩ := hbX.three
    all_goals obtain ⟨hY0, hY1, hY2⟩ := hbY.three
    all_goals go_wp2_with fail
    all_goals go_region_held3 (fun w' => Later wb w' ∧ Later wf w') (exact ⟨inferInstance, inferInstance⟩) (first | ((with_reducible refine (spec_l2Place Hi.out inferInstance stop).mono ?_); rw [HPX.out]; rintro e w6 ⟨rfl, L6⟩; have X6 := Later.trans (w := wb) inferInstance L6; have Y6 := Later.trans (w := wf) inferInstance L6) | ((with_reducible refine (spec_l2Place Hiz.out inferInstance stop).mono ?_); rw [HPZ.out]; rintro e w7 ⟨rfl, L7⟩; have X7 := Later.trans (w := wb) inferInstance L7; have Y7 := Later.trans (w := wf) inferInstance L7))
    all_goals go_wp2
    all_goals go_ret2
    all_goals exact ⟨rfl, hww.trans inferInstance⟩
  by_cases k2 : pz < 0
  · rw [if_pos (Or.inr (Or.inl k2))]
    have HB0 : ∀ W [Later (w.alloc (.cells #[.slice sA0 sn0 sc0, .slice (some ⟨b, o, none⟩) sn1 sc1] 50)) W] (j : Nat), W.cell? ⟨w.heap.size, j, none⟩ = #[.slice sA0 sn0 sc0, .slice (some ⟨b, o, none⟩) sn1 sc1][j]? := Later.boxes (t := 50) (fr := (0, 0)) (heap_new (by simp; try omega)); obtain ⟨wb, hwb⟩ : ∃ wb : World, wb = (w.alloc (.cells #[.slice sA0 sn0 sc0, .slice (some ⟨b, o, none⟩) sn1 sc1] 50)) := ⟨_, rfl⟩; haveI hbW : Later wb (w.alloc (.cells #[.slice sA0 sn0 sc0, .slice (some ⟨b, o, none⟩) sn1 sc1] 50)) := (by rw [hwb]; exact Later.rfl_); haveI hww : Later w wb := (by rw [hwb]; infer_instance); rw [← hwb] at HB0; have hbE := Lib.hid (congrArg (fun x : World => x.heap.size) hwb); clear hwb
    replace h := h.later hww
    replace h2 := h2.later hww
    replace ha0 := shift hww ha0
    replace ha1 := shift hww ha1
    replace hb0 := shift hww hb0
    replace hb1 := shift hww hb1
    replace hc0 := shift hww hc0
    replace hc1 := shift hww hc1
    replace hc2 := shift hww hc2
    replace hd0 := shift hww hd0
    replace hd1 := shift hww hd1
    replace hd2 := shift hww hd2
    (try replace hcs := shift hww hcs)
    (try replace hcl := shift hww hcl)
    replace hS := hS.later hww
    replace hZ := hZ.later hww
    have H := Lib.hid h
    have H2 := Lib.hid h2
    have hwb0 : Later wb wb := inferInstance
    have hwb2 : Later wb wb := inferInstance
    clear h h2 hxa hxb hia hib qa qb hy hz hi hiz lf lz pf d2 d3 d5 hP
    have Hi := Lib.hid (Hi.out.later hww)
    have Hiz := Lib.hid (Hiz.out.later hww)
    go_enter Try.func27, Try.ntmps27
    go_wp2_with first
      | (go_at_call 113; refine (impl_arePassed H.out (hwb0.trans inferInstance) _ H2.out (hwb2.trans inferInstance) _).mono ?_; rintro e w1 ⟨rfl, L1⟩; have X1 := Later.trans (w := wb) inferInstance L1)
      | (go_at_call 107; refine (spec_l10Asked H.out (hwb0.trans inferInstance) _ H2.out (hwb2.trans inferInstance) _).mono ?_; rintro e w1 ⟨rfl, L1⟩; have X1 := Later.trans (w := wb) inferInstance L1)
      | (go_at_call 114; refine (impl_isPattern hq _).mono ?_; rintro e w' ⟨rfl, rfl⟩)
      | (go_at_call 98; refine (impl_within _ _ _ _).mono ?_; rintro e w' ⟨rfl, rfl⟩)
      | (go_at_call 93; refine (spec_l1In _ _ _ _).mono ?_; rintro e w' ⟨rfl, rfl⟩)
    refine wp_region_held_drew (S := (fun w' => Later wb w')) (by kernel_rfl) (by exact inferInstance) (fun hHeld => ?_)
    refine wpAnyH_take (i := 0) (v := ?_) (by simp only [List.getElem?_toArray, List.getElem?_cons_zero] <;> rfl) (by kernel_rfl) (by kernel_rfl) (by kernel_rfl) (by exact fun _ _ _ h => h) (Or.inl ⟨by kernel_rfl, ?_⟩) (by assumption) ?_
    rotate_left
    · intro w' hSw; (try dsimp only at hSw); go_simp; try with_reducible rfl
    try simp only [Act.put, List.setIfInBounds_toArray, List.set_cons_zero, List.set_cons_succ]
    refine wpAnyH_take (i := 1) (v := ?_) (by simp only [List.getElem?_toArray, List.getElem?_cons_succ, List.getElem?_cons_zero] <;> rfl) (by kernel_rfl) (by kernel_rfl) (by kernel_rfl) (by exact fun _ _ _ h => h) (Or.inl ⟨by kernel_rfl, ?_⟩) (by assumption) ?_
    rotate_left
    · intro w' hSw; (try dsimp only at hSw); go_simp; try with_reducible rfl
    try simp only [Act.put, List.setIfInBounds_toArray, List.set_cons_zero, List.set_cons_succ]
    refine wpAnyH_take (i := 2) (v := ?_) (by simp only [List.getElem?_toArray, List.getElem?_cons_succ, List.getElem?_cons_zero] <;> rfl) (by kernel_rfl) (by kernel_rfl) (by kernel_rfl) (by exact fun _ _ _ h => h) (Or.inl ⟨by kernel_rfl, ?_⟩) (by assumption) ?_
    rotate_left
    · intro w' hSw; (try dsimp only at hSw); go_simp; try with_reducible rfl
    try simp only [Act.put, List.setIfInBounds_toArray, List.set_cons_zero, List.set_cons_succ]
    refine wpAnyH_take (i := 3) (v := ?_) (by simp only [List.getElem?_toArray, List.getElem?_cons_succ, List.getElem?_cons_zero] <;> rfl) (by kernel_rfl) (by kernel_rfl) (by kernel_rfl) (by exact fun _ _ _ h => h) (Or.inl ⟨by kernel_rfl, ?_⟩) (by assumption) ?_
    rotate_left
    · intro w' hSw; (try dsimp only at hSw); go_simp; try with_reducible rfl
    try simp only [Act.put, List.setIfInBounds_toArray, List.set_cons_zero, List.set_cons_succ]
    refine wpAnyH_take (i := 4) (v := ?_) (by simp only [List.getElem?_toArray, List.getElem?_cons_succ, List.getElem?_cons_zero] <;> rfl) (by kernel_rfl) (by kernel_rfl) (by kernel_rfl) (by exact fun _ _ _ h => h) (Or.inl ⟨by kernel_rfl, ?_⟩) (by assumption) ?_
    rotate_left
    · intro w' hSw; (try dsimp only at hSw); go_simp; try with_reducible rfl
    try simp only [Act.put, List.setIfInBounds_toArray, List.set_cons_zero, List.set_cons_succ]
    refine wpAnyH_take (i := 5) (v := ?_) (by simp only [List.getElem?_toArray, List.getElem?_cons_succ, List.getElem?_cons_zero] <;> rfl) (by kernel_rfl) (by kernel_rfl) (by kernel_rfl) (by exact fun _ _ _ h => h) (Or.inl ⟨by kernel_rfl, ?_⟩) (by assumption) ?_
    rotate_left
    · intro w' hSw; (try dsimp only at hSw); go_simp; try with_reducible rfl
    try simp only [Act.put, List.setIfInBounds_toArray, List.set_cons_zero, List.set_cons_succ]
    refine wpAnyH_take (i := 6) (v := ?_) (by simp only [List.getElem?_toArray, List.getElem?_cons_succ, List.getElem?_cons_zero] <;> rfl) (by kernel_rfl) (by kernel_rfl) (by kernel_rfl) (by exact fun _ _ _ h => h) (Or.inl ⟨by kernel_rfl, ?_⟩) (by assumption) ?_
    rotate_left
    · intro w' hSw; (try dsimp only at hSw); go_simp; try with_reducible rfl
    try simp only [Act.put, List.setIfInBounds_toArray, List.set_cons_zero, List.set_cons_succ]
    refine wpAnyH_take (i := 7) (v := ?_) (by simp only [List.getElem?_toArray, List.getElem?_cons_succ, List.getElem?_cons_zero] <;> rfl) (by kernel_rfl) (by kernel_rfl) (by kernel_rfl) (by exact fun _ _ _ h => h) (Or.inl ⟨by kernel_rfl, ?_⟩) (by assumption) ?_
    rotate_left
    · intro w' hSw; (try dsimp only at hSw); go_simp; try with_reducible rfl
    try simp only [Act.put, List.setIfInBounds_toArray, List.set_cons_zero, List.set_cons_succ]
    refine wpAnyH_take (i := 8) (v := ?_) (by simp only [List.getElem?_toArray, List.getElem?_cons_succ, List.getElem?_cons_zero] <;> rfl) (by kernel_rfl) (by kernel_rfl) (by kernel_rfl) (by exact fun _ _ _ h => h) (Or.inl ⟨by kernel_rfl, ?_⟩) (by assumption) ?_
    rotate_left
    · intro w' hSw; (try dsimp only at hSw); go_simp; try with_reducible rfl
    try simp only [Act.put, List.setIfInBounds_toArray, List.set_cons_zero, List.set_cons_succ]
    refine wpAnyH_take (i := 9) (v := ?_) (by simp only [List.getElem?_toArray, List.getElem?_cons_succ, List.getElem?_cons_zero] <;> rfl) (by kernel_rfl) (by kernel_rfl) (by kernel_rfl) (by exact fun _ _ _ h => h) (Or.inl ⟨by kernel_rfl, ?_⟩) (by assumption) ?_
    rotate_left
    · intro w' hSw; (try dsimp only at hSw); go_simp; try with_reducible rfl
    try simp only [Act.put, List.setIfInBounds_toArray, List.set_cons_zero, List.set_cons_succ]
    refine wpAnyH_take (i := 10) (v := ?_) (by simp only [List.getElem?_toArray, List.getElem?_cons_succ, List.getElem?_cons_zero] <;> rfl) (by kernel_rfl) (by kernel_rfl) (by kernel_rfl) (by exact fun _ _ _ h => h) (Or.inl ⟨by kernel_rfl, ?_⟩) (by assumption) ?_
    rotate_left
    · intro w' hSw; (try dsimp only at hSw); go_simp; try with_reducible rfl
    try simp only [Act.put, List.setIfInBounds_toArray, List.set_cons_zero, List.set_cons_succ]
    refine wpAnyH_take (i := 11) (v := ?_) (by simp only [List.getElem?_toArray, List.getElem?_cons_succ, List.getElem?_cons_zero] <;> rfl) (by kernel_rfl) (by kernel_rfl) (by kernel_rfl) (by exact fun _ _ _ h => h) (Or.inl ⟨by kernel_rfl, ?_⟩) (by assumption) ?_
    rotate_left
    · intro w' hSw; (try dsimp only at hSw); go_simp; try with_reducible rfl
    try simp only [Act.put, List.setIfInBounds_toArray, List.set_cons_zero, List.set_cons_succ]
    refine wpAnyH_take (i := 12) (v := ?_) (by simp only [List.getElem?_toArray, List.getElem?_cons_succ, List.getElem?_cons_zero] <;> rfl) (by kernel_rfl) (by kernel_rfl) (by kernel_rfl) (by exact fun _ _ _ h => h) (Or.inl ⟨by kernel_rfl, ?_⟩) (by assumption) ?_
    rotate_left
    · intro w' hSw; (try dsimp only at hSw); go_simp; try with_reducible rfl
    try simp only [Act.put, List.setIfInBounds_toArray, List.set_cons_zero, List.set_cons_succ]
    refine wpAnyH_take (i := 13) (v := ?_) (by simp only [List.getElem?_toArray, List.getElem?_cons_succ, List.getElem?_cons_zero] <;> rfl) (by kernel_rfl) (by kernel_rfl) (by kernel_rfl) (by exact fun _ _ _ h => h) (Or.inl ⟨by kernel_rfl, ?_⟩) (by assumption) ?_
    rotate_left
    · intro w' hSw; (try dsimp only at hSw); go_simp; try with_reducible rfl
    try simp only [Act.put, List.setIfInBounds_toArray, List.set_cons_zero, List.set_cons_succ]
    refine wpAnyH_take (i := 14) (v := ?_) (by simp only [List.getElem?_toArray, List.getElem?_cons_succ, List.getElem?_cons_zero] <;> rfl) (by kernel_rfl) (by kernel_rfl) (by kernel_rfl) (by exact fun _ _ _ h => h) (Or.inl ⟨by kernel_rfl, ?_⟩) (by assumption) ?_
    rotate_left
    · intro w' hSw; (try dsimp only at hSw); go_simp; try with_reducible rfl
    try simp only [Act.put, List.setIfInBounds_toArray, List.set_cons_zero, List.set_cons_succ]
    refine wpAnyH_take (i := 15) (v := ?_) (by simp only [List.getElem?_toArray, List.getElem?_cons_succ, List.getElem?_cons_zero] <;> rfl) (by kernel_rfl) (by kernel_rfl) (by kernel_rfl) (by exact fun _ _ _ h => h) (Or.inl ⟨by kernel_rfl, ?_⟩) (by assumption) ?_
    rotate_left
    · intro w' hSw; (try dsimp only at hSw); go_simp; try with_reducible rfl
    try simp only [Act.put, List.setIfInBounds_toArray, List.set_cons_zero, List.set_cons_succ]
    refine wpAnyH_take (i := 16) (v := ?_) (by simp only [List.getElem?_toArray, List.getElem?_cons_succ, List.getElem?_cons_zero] <;> rfl) (by kernel_rfl) (by kernel_rfl) (by kernel_rfl) (by exact fun _ _ _ h => h) (Or.inl ⟨by kernel_rfl, ?_⟩) (by assumption) ?_
    rotate_left
    · intro w' hSw; (try dsimp only at hSw); go_simp; try with_reducible rfl
    try simp only [Act.put, List.setIfInBounds_toArray, List.set_cons_zero, List.set_cons_succ]
    refine wpAnyH_take (i := 17) (v := ?_) (by simp only [List.getElem?_toArray, List.getElem?_cons_succ, List.getElem?_cons_zero] <;> rfl) (by kernel_rfl) (by kernel_rfl) (by kernel_rfl) (by exact fun _ _ _ h => h) (Or.inl ⟨by kernel_rfl, ?_⟩) (by assumption) ?_
    rotate_left
    · intro w' hSw; (try dsimp only at hSw); go_simp; try with_reducible rfl
    try simp only [Act.put, List.setIfInBounds_toArray, List.set_cons_zero, List.set_cons_succ]
    refine wpAnyH_ready (rs := [18, 19]) (by kernel_rfl) (by simp) (AllReadyH.cons rfl (fun K hK => ?r2x0_1_2_3_4_5_6_7_8_9_10_11_12_13_14_15_16_17_18) (AllReadyH.cons rfl (fun K hK => ?r2x0_1_2_3_4_5_6_7_8_9_10_11_12_13_14_15_16_17_19) AllReadyH.nil))
    case' r2x0_1_2_3_4_5_6_7_8_9_10_11_12_13_14_15_16_17_18 =>
      go_simp
      (first | (obtain ⟨wp, hwwp⟩ : ∃ W : World, W = (w1.alloc (.cells #[.string ⟨#[]⟩, .slice none 0 0, .slice none 0 0] 142)).drew := ⟨_, rfl⟩; rw [← hwwp]; have hbgx : Blk wp w1.heap.size 142 #[.string ⟨#[]⟩, .slice none 0 0, .slice none 0 0] := (by rw [hwwp]; exact Blk.new _ _ _); haveI hLwp : Later w1 wp := (by rw [hwwp]; infer_instance); have hywp := Later.trans (w := wb) inferInstance hLwp; have hGgx := Later.size (w := wb) (W := w1) inferInstance; obtain ⟨gx, hgx⟩ : ∃ g : Nat, g = w1.heap.size := ⟨_, rfl⟩; rw [← hgx] at hbgx hGgx; rw [← hgx]; clear hwwp hgx; skip) | (obtain ⟨wq, hwwq⟩ : ∃ W : World, W = (wp.alloc (.cells #[.string ⟨#[]⟩, .slice none 0 0, .slice none 0 0] 142)) := ⟨_, rfl⟩; rw [← hwwq]; have hbgx : Blk wq wp.heap.size 142 #[.string ⟨#[]⟩, .slice none 0 0, .slice none 0 0] := (by rw [hwwq]; exact Blk.new _ _ _); haveI hLwq : Later wp wq := (by rw [hwwq]; infer_instance); have hywq := Later.trans (w := wb) inferInstance hLwq; have hGgx := Later.size (w := wb) (W := wp) inferInstance; have hlt := hbgy.lt; replace hbgy := hbgy.later hLwq; obtain ⟨gx, hgx⟩ : ∃ g : Nat, g = wp.heap.size := ⟨_, rfl⟩; rw [← hgx] at hbgx hGgx hlt; rw [← hgx]; clear hwwq hgx; have hxy : ¬ gx = gy := (by omega); have hyx : ¬ gy = gx := (by omega); haveI hNx : New wb gx := ⟨hGgx⟩; haveI hNy : New wb gy := ⟨hGgy⟩; have hcx := (fun i => hbgx.cell i); have hcy := (fun i => hbgy.cell i); have hfx := (fun i => hbgx.frozen i); have hfy := (fun i => hbgy.frozen i)))
      refine hK.out _ _ (by exact inferInstance) (fun hHeld => ?_)
      try simp only [Act.put, List.setIfInBounds_toArray, List.set_cons_zero, List.set_cons_succ]
      refine wpAnyH_ready (rs := [19]) (by kernel_rfl) (by simp) (AllReadyH.cons rfl (fun K hK => ?_) AllReadyH.nil)
      go_simp
      (first | (obtain ⟨wp, hwwp⟩ : ∃ W : World, W = (w1.alloc (.cells #[.string ⟨#[]⟩, .slice none 0 0, .slice none 0 0] 142)).drew := ⟨_, rfl⟩; rw [← hwwp]; have hbgy : Blk wp w1.heap.size 142 #[.string ⟨#[]⟩, .slice none 0 0, .slice none 0 0] := (by rw [hwwp]; exact Blk.new _ _ _); haveI hLwp : Later w1 wp := (by rw [hwwp]; infer_instance); have hywp := Later.trans (w := wb) inferInstance hLwp; have hGgy := Later.size (w := wb) (W := w1) inferInstance; obtain ⟨gy, hgy⟩ : ∃ g : Nat, g = w1.heap.size := ⟨_, rfl⟩; rw [← hgy] at hbgy hGgy; rw [← hgy]; clear hwwp hgy; skip) | (obtain ⟨wq, hwwq⟩ : ∃ W : World, W = (wp.alloc (.cells #[.string ⟨#[]⟩, .slice none 0 0, .slice none 0 0] 142)) := ⟨_, rfl⟩; rw [← hwwq]; have hbgy : Blk wq wp.heap.size 142 #[.string ⟨#[]⟩, .slice none 0 0, .slice none 0 0] := (by rw [hwwq]; exact Blk.new _ _ _); haveI hLwq : Later wp wq := (by rw [hwwq]; infer_instance); have hywq := Later.trans (w := wb) inferInstance hLwq; have hGgy := Later.size (w := wb) (W := wp) inferInstance; have hlt := hbgx.lt; replace hbgx := hbgx.later hLwq; obtain ⟨gy, hgy⟩ : ∃ g : Nat, g = wp.heap.size := ⟨_, rfl⟩; rw [← hgy] at hbgy hGgy hlt; rw [← hgy]; clear hwwq hgy; have hxy : ¬ gx = gy := (by omega); have hyx : ¬ gy = gx := (by omega); haveI hNx : New wb gx := ⟨hGgx⟩; haveI hNy : New wb gy := ⟨hGgy⟩; have hcx := (fun i => hbgx.cell i); have hcy := (fun i => hbgy.cell i); have hfx := (fun i => hbgx.frozen i); have hfy := (fun i => hbgy.frozen i)))
      refine hK.out _ _ (by exact inferInstance) (fun hHeld => ?_)
      try simp only [Act.put, List.setIfInBounds_toArray, List.set_cons_zero, List.set_cons_succ]
      refine wpAnyH_ready (rs := [20]) (by kernel_rfl) (by simp) (AllReadyH.cons rfl (fun K hK => ?_) AllReadyH.nil)
      go_simp
      skip
      refine hK.out _ _ (by exact inferInstance) (fun hHeld => ?_)
      try simp only [Act.put, List.setIfInBounds_toArray, List.set_cons_zero, List.set_cons_succ]
      refine wpAnyH_ready (rs := [21]) (by kernel_rfl) (by simp) (AllReadyH.cons rfl (fun K hK => ?_) AllReadyH.nil)
      go_simp
      (obtain ⟨wf, hwf⟩ : ∃ W : World, W = ((((((wq.setCell ⟨gx, 0, none⟩ (.string y.Name)).setCell ⟨gx, 1, none⟩ (.slice xA0 xn0 xc0)).setCell ⟨gx, 2, none⟩ (.slice xA1 xn1 xc1)).setCell ⟨gy, 0, none⟩ (.string z.Name)).setCell ⟨gy, 1, none⟩ (.slice zA0 zn0 zc0)).setCell ⟨gy, 2, none⟩ (.slice zA1 zn1 zc1)) := ⟨_, rfl⟩; rw [← hwf]; have hbX : Blk wf gx 142 #[.string y.Name, .slice xA0 xn0 xc0, .slice xA1 xn1 xc1] := (by rw [hwf]; exact hbgx.put.by hxy); have hbY : Blk wf gy 142 #[.string z.Name, .slice zA0 zn0 zc0, .slice zA1 zn1 zc1] := (by rw [hwf]; exact (hbgy.by hyx).put); haveI hyf : Later wb wf := (by rw [hwf]; infer_instance); clear hwf hcx hcy hfx hfy)
      refine hK.out _ _ (by exact inferInstance) (fun hHeld => ?_)
      try simp only [Act.put, List.setIfInBounds_toArray, List.set_cons_zero, List.set_cons_succ]
      refine wpAnyH_done (by kernel_rfl) ?_ _
    case' r2x0_1_2_3_4_5_6_7_8_9_10_11_12_13_14_15_16_17_19 =>
      go_simp
      (first | (obtain ⟨wp, hwwp⟩ : ∃ W : World, W = (w1.alloc (.cells #[.string ⟨#[]⟩, .slice none 0 0, .slice none 0 0] 142)).drew := ⟨_, rfl⟩; rw [← hwwp]; have hbgy : Blk wp w1.heap.size 142 #[.string ⟨#[]⟩, .slice none 0 0, .slice none 0 0] := (by rw [hwwp]; exact Blk.new _ _ _); haveI hLwp : Later w1 wp := (by rw [hwwp]; infer_instance); have hywp := Later.trans (w := wb) inferInstance hLwp; have hGgy := Later.size (w := wb) (W := w1) inferInstance; obtain ⟨gy, hgy⟩ : ∃ g : Nat, g = w1.heap.size := ⟨_, rfl⟩; rw [← hgy] at hbgy hGgy; rw [← hgy]; clear hwwp hgy; skip) | (obtain ⟨wq, hwwq⟩ : ∃ W : World, W = (wp.alloc (.cells #[.string ⟨#[]⟩, .slice none 0 0, .slice none 0 0] 142)) := ⟨_, rfl⟩; rw [← hwwq]; have hbgy : Blk wq wp.heap.size 142 #[.string ⟨#[]⟩, .slice none 0 0, .slice none 0 0] := (by rw [hwwq]; exact Blk.new _ _ _); haveI hLwq : Later wp wq := (by rw [hwwq]; infer_instance); have hywq := Later.trans (w := wb) inferInstance hLwq; have hGgy := Later.size (w := wb) (W := wp) inferInstance; have hlt := hbgx.lt; replace hbgx := hbgx.later hLwq; obtain ⟨gy, hgy⟩ : ∃ g : Nat, g = wp.heap.size := ⟨_, rfl⟩; rw [← hgy] at hbgy hGgy hlt; rw [← hgy]; clear hwwq hgy; have hxy : ¬ gx = gy := (by omega); have hyx : ¬ gy = gx := (by omega); haveI hNx : New wb gx := ⟨hGgx⟩; haveI hNy : New wb gy := ⟨hGgy⟩; have hcx := (fun i => hbgx.cell i); have hcy := (fun i => hbgy.cell i); have hfx := (fun i => hbgx.frozen i); have hfy := (fun i => hbgy.frozen i)))
      refine hK.out _ _ (by exact inferInstance) (fun hHeld => ?_)
      try simp only [Act.put, List.setIfInBounds_toArray, List.set_cons_zero, List.set_cons_succ]
      refine wpAnyH_ready (rs := [18]) (by kernel_rfl) (by simp) (AllReadyH.cons rfl (fun K hK => ?_) AllReadyH.nil)
      go_simp
      (first | (obtain ⟨wp, hwwp⟩ : ∃ W : World, W = (w1.alloc (.cells #[.string ⟨#[]⟩, .slice none 0 0, .slice none 0 0] 142)).drew := ⟨_, rfl⟩; rw [← hwwp]; have hbgx : Blk wp w1.heap.size 142 #[.string ⟨#[]⟩, .slice none 0 0, .slice none 0 0] := (by rw [hwwp]; exact Blk.new _ _ _); haveI hLwp : Later w1 wp := (by rw [hwwp]; infer_instance); have hywp := Later.trans (w := wb) inferInstance hLwp; have hGgx := Later.size (w := wb) (W := w1) inferInstance; obtain ⟨gx, hgx⟩ : ∃ g : Nat, g = w1.heap.size := ⟨_, rfl⟩; rw [← hgx] at hbgx hGgx; rw [← hgx]; clear hwwp hgx; skip) | (obtain ⟨wq, hwwq⟩ : ∃ W : World, W = (wp.alloc (.cells #[.string ⟨#[]⟩, .slice none 0 0, .slice none 0 0] 142)) := ⟨_, rfl⟩; rw [← hwwq]; have hbgx : Blk wq wp.heap.size 142 #[.string ⟨#[]⟩, .slice none 0 0, .slice none 0 0] := (by rw [hwwq]; exact Blk.new _ _ _); haveI hLwq : Later wp wq := (by rw [hwwq]; infer_instance); have hywq := Later.trans (w := wb) inferInstance hLwq; have hGgx := Later.size (w := wb) (W := wp) inferInstance; have hlt := hbgy.lt; replace hbgy := hbgy.later hLwq; obtain ⟨gx, hgx⟩ : ∃ g : Nat, g = wp.heap.size := ⟨_, rfl⟩; rw [← hgx] at hbgx hGgx hlt; rw [← hgx]; clear hwwq hgx; have hxy : ¬ gx = gy := (by omega); have hyx : ¬ gy = gx := (by omega); haveI hNx : New wb gx := ⟨hGgx⟩; haveI hNy : New wb gy := ⟨hGgy⟩; have hcx := (fun i => hbgx.cell i); have hcy := (fun i => hbgy.cell i); have hfx := (fun i => hbgx.frozen i); have hfy := (fun i => hbgy.frozen i)))
      refine hK.out _ _ (by exact inferInstance) (fun hHeld => ?_)
      try simp only [Act.put, List.setIfInBounds_toArray, List.set_cons_zero, List.set_cons_succ]
      refine wpAnyH_ready (rs := [20]) (by kernel_rfl) (by simp) (AllReadyH.cons rfl (fun K hK => ?_) AllReadyH.nil)
      go_simp
      skip
      refine hK.out _ _ (by exact inferInstance) (fun hHeld => ?_)
      try simp only [Act.put, List.setIfInBounds_toArray, List.set_cons_zero, List.set_cons_succ]
      refine wpAnyH_ready (rs := [21]) (by kernel_rfl) (by simp) (AllReadyH.cons rfl (fun K hK => ?_) AllReadyH.nil)
      go_simp
      (obtain ⟨wf, hwf⟩ : ∃ W : World, W = ((((((wq.setCell ⟨gx, 0, none⟩ (.string y.Name)).setCell ⟨gx, 1, none⟩ (.slice xA0 xn0 xc0)).setCell ⟨gx, 2, none⟩ (.slice xA1 xn1 xc1)).setCell ⟨gy, 0, none⟩ (.string z.Name)).setCell ⟨gy, 1, none⟩ (.slice zA0 zn0 zc0)).setCell ⟨gy, 2, none⟩ (.slice zA1 zn1 zc1)) := ⟨_, rfl⟩; rw [← hwf]; have hbX : Blk wf gx 142 #[.string y.Name, .slice xA0 xn0 xc0, .slice xA1 xn1 xc1] := (by rw [hwf]; exact hbgx.put.by hxy); have hbY : Blk wf gy 142 #[.string z.Name, .slice zA0 zn0 zc0, .slice zA1 zn1 zc1] := (by rw [hwf]; exact (hbgy.by hyx).put); haveI hyf : Later wb wf := (by rw [hwf]; infer_instance); clear hwf hcx hcy hfx hfy)
      refine hK.out _ _ (by exact inferInstance) (fun hHeld => ?_)
      try simp only [Act.put, List.setIfInBounds_toArray, List.set_cons_zero, List.set_cons_succ]
      refine wpAnyH_done (by kernel_rfl) ?_ _
    all_goals obtain ⟨hX0, hX1, hX2⟩ := hbX.three
    all_goals obtain ⟨hY0, hY1, hY2⟩ := hbY.three
    all_goals go_wp2_with fail
    all_goals go_region_held3 (fun w' => Later wb w' ∧ Later wf w') (exact ⟨inferInstance, inferInstance⟩) (first | ((with_reducible refine (spec_l2Place Hi.out inferInstance stop).mono ?_); rw [HPX.out]; rintro e w6 ⟨rfl, L6⟩; have X6 := Later.trans (w := wb) inferInstance L6; have Y6 := Later.trans (w := wf) inferInstance L6) | ((with_reducible refine (spec_l2Place Hiz.out inferInstance stop).mono ?_); rw [HPZ.out]; rintro e w7 ⟨rfl, L7⟩; have X7 := Later.trans (w := wb) inferInstance L7; have Y7 := Later.trans (w := wf) inferInstance L7))
    all_goals go_wp2
    all_goals go_ret2
    all_goals exact ⟨rfl, hww.trans inferInstance⟩
  by_cases k3 : pz = (zn0 : Int) - 1
  · have f1 := (beqi_t k3).1
    have f2 := (beqi_t k3).2
    rw [if_pos (Or.inr (Or.inr k3))]
    clear k3
    have HB0 : ∀ W [Later (w.alloc (.cells #[.slice sA0 sn0 sc0, .slice (some ⟨b, o, none⟩) sn1 sc1] 50)) W] (j : Nat), W.cell? ⟨w.heap.size, j, none⟩ = #[.slice sA0 sn0 sc0, .slice (some ⟨b, o, none⟩) sn1 sc1][j]? := Later.boxes (t := 50) (fr := (0, 0)) (heap_new (by simp; try omega)); obtain ⟨wb, hwb⟩ : ∃ wb : World, wb = (w.alloc (.cells #[.slice sA0 sn0 sc0, .slice (some ⟨b, o, none⟩) sn1 sc1] 50)) := ⟨_, rfl⟩; haveI hbW : Later wb (w.alloc (.cells #[.slice sA0 sn0 sc0, .slice (some ⟨b, o, none⟩) sn1 sc1] 50)) := (by rw [hwb]; exact Later.rfl_); haveI hww : Later w wb := (by rw [hwb]; infer_instance); rw [← hwb] at HB0; have hbE := Lib.hid (congrArg (fun x : World => x.heap.size) hwb); clear hwb
    replace h := h.later hww
    replace h2 := h2.later hww
    replace ha0 := shift hww ha0
    replace ha1 := shift hww ha1
    replace hb0 := shift hww hb0
    replace hb1 := shift hww hb1
    replace hc0 := shift hww hc0
    replace hc1 := shift hww hc1
    replace hc2 := shift hww hc2
    replace hd0 := shift hww hd0
    replace hd1 := shift hww hd1
    replace hd2 := shift hww hd2
    (try replace hcs := shift hww hcs)
    (try replace hcl := shift hww hcl)
    replace hS := hS.later hww
    replace hZ := hZ.later hww
    have H := Lib.hid h
    have H2 := Lib.hid h2
    have hwb0 : Later wb wb := inferInstance
    have hwb2 : Later wb wb := inferInstance
    clear h h2 hxa hxb hia hib qa qb hy hz hi hiz lf lz pf d2 d3 d5 hP
    have Hi := Lib.hid (Hi.out.later hww)
    have Hiz := Lib.hid (Hiz.out.later hww)
    go_enter Try.func27, Try.ntmps27
    go_wp2_with first
      | (go_at_call 113; refine (impl_arePassed H.out (hwb0.trans inferInstance) _ H2.out (hwb2.trans inferInstance) _).mono ?_; rintro e w1 ⟨rfl, L1⟩; have X1 := Later.trans (w := wb) inferInstance L1)
      | (go_at_call 107; refine (spec_l10Asked H.out (hwb0.trans inferInstance) _ H2.out (hwb2.trans inferInstance) _).mono ?_; rintro e w1 ⟨rfl, L1⟩; have X1 := Later.trans (w := wb) inferInstance L1)
      | (go_at_call 114; refine (impl_isPattern hq _).mono ?_; rintro e w' ⟨rfl, rfl⟩)
      | (go_at_call 98; refine (impl_within _ _ _ _).mono ?_; rintro e w' ⟨rfl, rfl⟩)
      | (go_at_call 93; refine (spec_l1In _ _ _ _).mono ?_; rintro e w' ⟨rfl, rfl⟩)
    refine wp_region_held_drew (S := (fun w' => Later wb w')) (by kernel_rfl) (by exact inferInstance) (fun hHeld => ?_)
    refine wpAnyH_take (i := 0) (v := ?_) (by simp only [List.getElem?_toArray, List.getElem?_cons_zero] <;> rfl) (by kernel_rfl) (by kernel_rfl) (by kernel_rfl) (by exact fun _ _ _ h => h) (Or.inl ⟨by kernel_rfl, ?_⟩) (by assumption) ?_
    rotate_left
    · intro w' hSw; (try dsimp only at hSw); go_simp; try with_reducible rfl
    try simp only [Act.put, List.setIfInBounds_toArray, List.set_cons_zero, List.set_cons_succ]
    refine wpAnyH_take (i := 1) (v := ?_) (by simp only [List.getElem?_toArray, List.getElem?_cons_succ, List.getElem?_cons_zero] <;> rfl) (by kernel_rfl) (by kernel_rfl) (by kernel_rfl) (by exact fun _ _ _ h => h) (Or.inl ⟨by kernel_rfl, ?_⟩) (by assumption) ?_
    rotate_left
    · intro w' hSw; (try dsimp only at hSw); go_simp; try with_reducible rfl
    try simp only [Act.put, List.setIfInBounds_toArray, List.set_cons_zero, List.set_cons_succ]
    refine wpAnyH_take (i := 2) (v := ?_) (by simp only [List.getElem?_toArray, List.getElem?_cons_succ, List.getElem?_cons_zero] <;> rfl) (by kernel_rfl) (by kernel_rfl) (by kernel_rfl) (by exact fun _ _ _ h => h) (Or.inl ⟨by kernel_rfl, ?_⟩) (by assumption) ?_
    rotate_left
    · intro w' hSw; (try dsimp only at hSw); go_simp; try with_reducible rfl
    try simp only [Act.put, List.setIfInBounds_toArray, List.set_cons_zero, List.set_cons_succ]
    refine wpAnyH_take (i := 3) (v := ?_) (by simp only [List.getElem?_toArray, List.getElem?_cons_succ, List.getElem?_cons_zero] <;> rfl) (by kernel_rfl) (by kernel_rfl) (by kernel_rfl) (by exact fun _ _ _ h => h) (Or.inl ⟨by kernel_rfl, ?_⟩) (by assumption) ?_
    rotate_left
    · intro w' hSw; (try dsimp only at hSw); go_simp; try with_reducible rfl
    try simp only [Act.put, List.setIfInBounds_toArray, List.set_cons_zero, List.set_cons_succ]
    refine wpAnyH_take (i := 4) (v := ?_) (by simp only [List.getElem?_toArray, List.getElem?_cons_succ, List.getElem?_cons_zero] <;> rfl) (by kernel_rfl) (by kernel_rfl) (by kernel_rfl) (by exact fun _ _ _ h => h) (Or.inl ⟨by kernel_rfl, ?_⟩) (by assumption) ?_
    rotate_left
    · intro w' hSw; (try dsimp only at hSw); go_simp; try with_reducible rfl
    try simp only [Act.put, List.setIfInBounds_toArray, List.set_cons_zero, List.set_cons_succ]
    refine wpAnyH_take (i := 5) (v := ?_) (by simp only [List.getElem?_toArray, List.getElem?_cons_succ, List.getElem?_cons_zero] <;> rfl) (by kernel_rfl) (by kernel_rfl) (by kernel_rfl) (by exact fun _ _ _ h => h) (Or.inl ⟨by kernel_rfl, ?_⟩) (by assumption) ?_
    rotate_left
    · intro w' hSw; (try dsimp only at hSw); go_simp; try with_reducible rfl
    try simp only [Act.put, List.setIfInBounds_toArray, List.set_cons_zero, List.set_cons_succ]
    refine wpAnyH_take (i := 6) (v := ?_) (by simp only [List.getElem?_toArray, List.getElem?_cons_succ, List.getElem?_cons_zero] <;> rfl) (by kernel_rfl) (by kernel_rfl) (by kernel_rfl) (by exact fun _ _ _ h => h) (Or.inl ⟨by kernel_rfl, ?_⟩) (by assumption) ?_
    rotate_left
    · intro w' hSw; (try dsimp only at hSw); go_simp; try with_reducible rfl
    try simp only [Act.put, List.setIfInBounds_toArray, List.set_cons_zero, List.set_cons_succ]
    refine wpAnyH_take (i := 7) (v := ?_) (by simp only [List.getElem?_toArray, List.getElem?_cons_succ, List.getElem?_cons_zero] <;> rfl) (by kernel_rfl) (by kernel_rfl) (by kernel_rfl) (by exact fun _ _ _ h => h) (Or.inl ⟨by kernel_rfl, ?_⟩) (by assumption) ?_
    rotate_left
    · intro w' hSw; (try dsimp only at hSw); go_simp; try with_reducible rfl
    try simp only [Act.put, List.setIfInBounds_toArray, List.set_cons_zero, List.set_cons_succ]
    refine wpAnyH_take (i := 8) (v := ?_) (by simp only [List.getElem?_toArray, List.getElem?_cons_succ, List.getElem?_cons_zero] <;> rfl) (by kernel_rfl) (by kernel_rfl) (by kernel_rfl) (by exact fun _ _ _ h => h) (Or.inl ⟨by kernel_rfl, ?_⟩) (by assumption) ?_
    rotate_left
    · intro w' hSw; (try dsimp only at hSw); go_simp; try with_reducible rfl
    try simp only [Act.put, List.setIfInBounds_toArray, List.set_cons_zero, List.set_cons_succ]
    refine wpAnyH_take (i := 9) (v := ?_) (by simp only [List.getElem?_toArray, List.getElem?_cons_succ, List.getElem?_cons_zero] <;> rfl) (by kernel_rfl) (by kernel_rfl) (by kernel_rfl) (by exact fun _ _ _ h => h) (Or.inl ⟨by kernel_rfl, ?_⟩) (by assumption) ?_
    rotate_left
    · intro w' hSw; (try dsimp only at hSw); go_simp; try with_reducible rfl
    try simp only [Act.put, List.setIfInBounds_toArray, List.set_cons_zero, List.set_cons_succ]
    refine wpAnyH_take (i := 10) (v := ?_) (by simp only [List.getElem?_toArray, List.getElem?_cons_succ, List.getElem?_cons_zero] <;> rfl) (by kernel_rfl) (by kernel_rfl) (by kernel_rfl) (by exact fun _ _ _ h => h) (Or.inl ⟨by kernel_rfl, ?_⟩) (by assumption) ?_
    rotate_left
    · intro w' hSw; (try dsimp only at hSw); go_simp; try with_reducible rfl
    try simp only [Act.put, List.setIfInBounds_toArray, List.set_cons_zero, List.set_cons_succ]
    refine wpAnyH_take (i := 11) (v := ?_) (by simp only [List.getElem?_toArray, List.getElem?_cons_succ, List.getElem?_cons_zero] <;> rfl) (by kernel_rfl) (by kernel_rfl) (by kernel_rfl) (by exact fun _ _ _ h => h) (Or.inl ⟨by kernel_rfl, ?_⟩) (by assumption) ?_
    rotate_left
    · intro w' hSw; (try dsimp only at hSw); go_simp; try with_reducible rfl
    try simp only [Act.put, List.setIfInBounds_toArray, List.set_cons_zero, List.set_cons_succ]
    refine wpAnyH_take (i := 12) (v := ?_) (by simp only [List.getElem?_toArray, List.getElem?_cons_succ, List.getElem?_cons_zero] <;> rfl) (by kernel_rfl) (by kernel_rfl) (by kernel_rfl) (by exact fun _ _ _ h => h) (Or.inl ⟨by kernel_rfl, ?_⟩) (by assumption) ?_
    rotate_left
    · intro w' hSw; (try dsimp only at hSw); go_simp; try with_reducible rfl
    try simp only [Act.put, List.setIfInBounds_toArray, List.set_cons_zero, List.set_cons_succ]
    refine wpAnyH_take (i := 13) (v := ?_) (by simp only [List.getElem?_toArray, List.getElem?_cons_succ, List.getElem?_cons_zero] <;> rfl) (by kernel_rfl) (by kernel_rfl) (by kernel_rfl) (by exact fun _ _ _ h => h) (Or.inl ⟨by kernel_rfl, ?_⟩) (by assumption) ?_
    rotate_left
    · intro w' hSw; (try dsimp only at hSw); go_simp; try with_reducible rfl
    try simp only [Act.put, List.setIfInBounds_toArray, List.set_cons_zero, List.set_cons_succ]
    refine wpAnyH_take (i := 14) (v := ?_) (by simp only [List.getElem?_toArray, List.getElem?_cons_succ, List.getElem?_cons_zero] <;> rfl) (by kernel_rfl) (by kernel_rfl) (by kernel_rfl) (by exact fun _ _ _ h => h) (Or.inl ⟨by kernel_rfl, ?_⟩) (by assumption) ?_
    rotate_left
    · intro w' hSw; (try dsimp only at hSw); go_simp; try with_reducible rfl
    try simp only [Act.put, List.setIfInBounds_toArray, List.set_cons_zero, List.set_cons_succ]
    refine wpAnyH_take (i := 15) (v := ?_) (by simp only [List.getElem?_toArray, List.getElem?_cons_succ, List.getElem?_cons_zero] <;> rfl) (by kernel_rfl) (by kernel_rfl) (by kernel_rfl) (by exact fun _ _ _ h => h) (Or.inl ⟨by kernel_rfl, ?_⟩) (by assumption) ?_
    rotate_left
    · intro w' hSw; (try dsimp only at hSw); go_simp; try with_reducible rfl
    try simp only [Act.put, List.setIfInBounds_toArray, List.set_cons_zero, List.set_cons_succ]
    refine wpAnyH_take (i := 16) (v := ?_) (by simp only [List.getElem?_toArray, List.getElem?_cons_succ, List.getElem?_cons_zero] <;> rfl) (by kernel_rfl) (by kernel_rfl) (by kernel_rfl) (by exact fun _ _ _ h => h) (Or.inl ⟨by kernel_rfl, ?_⟩) (by assumption) ?_
    rotate_left
    · intro w' hSw; (try dsimp only at hSw); go_simp; try with_reducible rfl
    try simp only [Act.put, List.setIfInBounds_toArray, List.set_cons_zero, List.set_cons_succ]
    refine wpAnyH_take (i := 17) (v := ?_) (by simp only [List.getElem?_toArray, List.getElem?_cons_succ, List.getElem?_cons_zero] <;> rfl) (by kernel_rfl) (by kernel_rfl) (by kernel_rfl) (by exact fun _ _ _ h => h) (Or.inl ⟨by kernel_rfl, ?_⟩) (by assumption) ?_
    rotate_left
    · intro w' hSw; (try dsimp only at hSw); go_simp; try with_reducible rfl
    try simp only [Act.put, List.setIfInBounds_toArray, List.set_cons_zero, List.set_cons_succ]
    refine wpAnyH_ready (rs := [18, 19]) (by kernel_rfl) (by simp) (AllReadyH.cons rfl (fun K hK => ?r3x0_1_2_3_4_5_6_7_8_9_10_11_12_13_14_15_16_17_18) (AllReadyH.cons rfl (fun K hK => ?r3x0_1_2_3_4_5_6_7_8_9_10_11_12_13_14_15_16_17_19) AllReadyH.nil))
    case' r3x0_1_2_3_4_5_6_7_8_9_10_11_12_13_14_15_16_17_18 =>
      go_simp
      (first | (obtain ⟨wp, hwwp⟩ : ∃ W : World, W = (w1.alloc (.cells #[.string ⟨#[]⟩, .slice none 0 0, .slice none 0 0] 142)).drew := ⟨_, rfl⟩; rw [← hwwp]; have hbgx : Blk wp w1.heap.size 142 #[.string ⟨#[]⟩, .slice none 0 0, .slice none 0 0] := (by rw [hwwp]; exact Blk.new _ _ _); haveI hLwp : Later w1 wp := (by rw [hwwp]; infer_instance); have hywp := Later.trans (w := wb) inferInstance hLwp; have hGgx := Later.size (w := wb) (W := w1) inferInstance; obtain ⟨gx, hgx⟩ : ∃ g : Nat, g = w1.heap.size := ⟨_, rfl⟩; rw [← hgx] at hbgx hGgx; rw [← hgx]; clear hwwp hgx; skip) | (obtain ⟨wq, hwwq⟩ : ∃ W : World, W = (wp.alloc (.cells #[.string ⟨#[]⟩, .slice none 0 0, .slice none 0 0] 142)) := ⟨_, rfl⟩; rw [← hwwq]; have hbgx : Blk wq wp.heap.size 142 #[.string ⟨#[]⟩, .slice none 0 0, .slice none 0 0] := (by rw [hwwq]; exact Blk.new _ _ _); haveI hLwq : Later wp wq := (by rw [hwwq]; infer_instance); have hywq := Later.trans (w := wb) inferInstance hLwq; have hGgx := Later.size (w := wb) (W := wp) inferInstance; have hlt := hbgy.lt; replace hbgy := hbgy.later hLwq; obtain ⟨gx, hgx⟩ : ∃ g : Nat, g = wp.heap.size := ⟨_, rfl⟩; rw [← hgx] at hbgx hGgx hlt; rw [← hgx]; clear hwwq hgx; have hxy : ¬ gx = gy := (by omega); have hyx : ¬ gy = gx := (by omega); haveI hNx : New wb gx := ⟨hGgx⟩; haveI hNy : New wb gy := ⟨hGgy⟩; have hcx := (fun i => hbgx.cell i); have hcy := (fun i => hbgy.cell i); have hfx := (fun i => hbgx.frozen i); have hfy := (fun i => hbgy.frozen i)))
      refine hK.out _ _ (by exact inferInstance) (fun hHeld => ?_)
      try simp only [Act.put, List.setIfInBounds_toArray, List.set_cons_zero, List.set_cons_succ]
      refine wpAnyH_ready (rs := [19]) (by kernel_rfl) (by simp) (AllReadyH.cons rfl (fun K hK => ?_) AllReadyH.nil)
      go_simp
      (first | (obtain ⟨wp, hwwp⟩ : ∃ W : World, W = (w1.alloc (.cells #[.string ⟨#[]⟩, .slice none 0 0, .slice none 0 0] 142)).drew := ⟨_, rfl⟩; rw [← hwwp]; have hbgy : Blk wp w1.heap.size 142 #[.string ⟨#[]⟩, .slice none 0 0, .slice none 0 0] := (by rw [hwwp]; exact Blk.new _ _ _); haveI hLwp : Later w1 wp := (by rw [hwwp]; infer_instance); have hywp := Later.trans (w := wb) inferInstance hLwp; have hGgy := Later.size (w := wb) (W := w1) inferInstance; obtain ⟨gy, hgy⟩ : ∃ g : Nat, g = w1.heap.size := ⟨_, rfl⟩; rw [← hgy] at hbgy hGgy; rw [← hgy]; clear hwwp hgy; skip) | (obtain ⟨wq, hwwq⟩ : ∃ W : World, W = (wp.alloc (.cells #[.string ⟨#[]⟩, .slice none 0 0, .slice none 0 0] 142)) := ⟨_, rfl⟩; rw [← hwwq]; have hbgy : Blk wq wp.heap.size 142 #[.string ⟨#[]⟩, .slice none 0 0, .slice none 0 0] := (by rw [hwwq]; exact Blk.new _ _ _); haveI hLwq : Later wp wq := (by rw [hwwq]; infer_instance); have hywq := Later.trans (w := wb) inferInstance hLwq; have hGgy := Later.size (w := wb) (W := wp) inferInstance; have hlt := hbgx.lt; replace hbgx := hbgx.later hLwq; obtain ⟨gy, hgy⟩ : ∃ g : Nat, g = wp.heap.size := ⟨_, rfl⟩; rw [← hgy] at hbgy hGgy hlt; rw [← hgy]; clear hwwq hgy; have hxy : ¬ gx = gy := (by omega); have hyx : ¬ gy = gx := (by omega); haveI hNx : New wb gx := ⟨hGgx⟩; haveI hNy : New wb gy := ⟨hGgy⟩; have hcx := (fun i => hbgx.cell i); have hcy := (fun i => hbgy.cell i); have hfx := (fun i => hbgx.frozen i); have hfy := (fun i => hbgy.frozen i)))
      refine hK.out _ _ (by exact inferInstance) (fun hHeld => ?_)
      try simp only [Act.put, List.setIfInBounds_toArray, List.set_cons_zero, List.set_cons_succ]
      refine wpAnyH_ready (rs := [20]) (by kernel_rfl) (by simp) (AllReadyH.cons rfl (fun K hK => ?_) AllReadyH.nil)
      go_simp
      skip
      refine hK.out _ _ (by exact inferInstance) (fun hHeld => ?_)
      try simp only [Act.put, List.setIfInBounds_toArray, List.set_cons_zero, List.set_cons_succ]
      refine wpAnyH_ready (rs := [21]) (by kernel_rfl) (by simp) (AllReadyH.cons rfl (fun K hK => ?_) AllReadyH.nil)
      go_simp
      (obtain ⟨wf, hwf⟩ : ∃ W : World, W = ((((((wq.setCell ⟨gx, 0, none⟩ (.string y.Name)).setCell ⟨gx, 1, none⟩ (.slice xA0 xn0 xc0)).setCell ⟨gx, 2, none⟩ (.slice xA1 xn1 xc1)).setCell ⟨gy, 0, none⟩ (.string z.Name)).setCell ⟨gy, 1, none⟩ (.slice zA0 zn0 zc0)).setCell ⟨gy, 2, none⟩ (.slice zA1 zn1 zc1)) := ⟨_, rfl⟩; rw [← hwf]; have hbX : Blk wf gx 142 #[.string y.Name, .slice xA0 xn0 xc0, .slice xA1 xn1 xc1] := (by rw [hwf]; exact hbgx.put.by hxy); have hbY : Blk wf gy 142 #[.string z.Name, .slice zA0 zn0 zc0, .slice zA1 zn1 zc1] := (by rw [hwf]; exact (hbgy.by hyx).put); haveI hyf : Later wb wf := (by rw [hwf]; infer_instance); clear hwf hcx hcy hfx hfy)
      refine hK.out _ _ (by exact inferInstance) (fun hHeld => ?_)
      try simp only [Act.put, List.setIfInBounds_toArray, List.set_cons_zero, List.set_cons_succ]
      refine wpAnyH_done (by kernel_rfl) ?_ _
    case' r3x0_1_2_3_4_5_6_7_8_9_10_11_12_13_14_15_16_17_19 =>
      go_simp
      (first | (obtain ⟨wp, hwwp⟩ : ∃ W : World, W = (w1.alloc (.cells #[.string ⟨#[]⟩, .slice none 0 0, .slice none 0 0] 142)).drew := ⟨_, rfl⟩; rw [← hwwp]; have hbgy : Blk wp w1.heap.size 142 #[.string ⟨#[]⟩, .slice none 0 0, .slice none 0 0] := (by rw [hwwp]; exact Blk.new _ _ _); haveI hLwp : Later w1 wp := (by rw [hwwp]; infer_instance); have hywp := Later.trans (w := wb) inferInstance hLwp; have hGgy := Later.size (w := wb) (W := w1) inferInstance; obtain ⟨gy, hgy⟩ : ∃ g : Nat, g = w1.heap.size := ⟨_, rfl⟩; rw [← hgy] at hbgy hGgy; rw [← hgy]; clear hwwp hgy; skip) | (obtain ⟨wq, hwwq⟩ : ∃ W : World, W = (wp.alloc (.cells #[.string ⟨#[]⟩, .slice none 0 0, .slice none 0 0] 142)) := ⟨_, rfl⟩; rw [← hwwq]; have hbgy : Blk wq wp.heap.size 142 #[.string ⟨#[]⟩, .slice none 0 0, .slice none 0 0] := (by rw [hwwq]; exact Blk.new _ _ _); haveI hLwq : Later wp wq := (by rw [hwwq]; infer_instance); have hywq := Later.trans (w := wb) inferInstance hLwq; have hGgy := Later.size (w := wb) (W := wp) inferInstance; have hlt := hbgx.lt; replace hbgx := hbgx.later hLwq; obtain ⟨gy, hgy⟩ : ∃ g : Nat, g = wp.heap.size := ⟨_, rfl⟩; rw [← hgy] at hbgy hGgy hlt; rw [← hgy]; clear hwwq hgy; have hxy : ¬ gx = gy := (by omega); have hyx : ¬ gy = gx := (by omega); haveI hNx : New wb gx := ⟨hGgx⟩; haveI hNy : New wb gy := ⟨hGgy⟩; have hcx := (fun i => hbgx.cell i); have hcy := (fun i => hbgy.cell i); have hfx := (fun i => hbgx.frozen i); have hfy := (fun i => hbgy.frozen i)))
      refine hK.out _ _ (by exact inferInstance) (fun hHeld => ?_)
      try simp only [Act.put, List.setIfInBounds_toArray, List.set_cons_zero, List.set_cons_succ]
      refine wpAnyH_ready (rs := [18]) (by kernel_rfl) (by simp) (AllReadyH.cons rfl (fun K hK => ?_) AllReadyH.nil)
      go_simp
      (first | (obtain ⟨wp, hwwp⟩ : ∃ W : World, W = (w1.alloc (.cells #[.string ⟨#[]⟩, .slice none 0 0, .slice none 0 0] 142)).drew := ⟨_, rfl⟩; rw [← hwwp]; have hbgx : Blk wp w1.heap.size 142 #[.string ⟨#[]⟩, .slice none 0 0, .slice none 0 0] := (by rw [hwwp]; exact Blk.new _ _ _); haveI hLwp : Later w1 wp := (by rw [hwwp]; infer_instance); have hywp := Later.trans (w := wb) inferInstance hLwp; have hGgx := Later.size (w := wb) (W := w1) inferInstance; obtain ⟨gx, hgx⟩ : ∃ g : Nat, g = w1.heap.size := ⟨_, rfl⟩; rw [← hgx] at hbgx hGgx; rw [← hgx]; clear hwwp hgx; skip) | (obtain ⟨wq, hwwq⟩ : ∃ W : World, W = (wp.alloc (.cells #[.string ⟨#[]⟩, .slice none 0 0, .slice none 0 0] 142)) := ⟨_, rfl⟩; rw [← hwwq]; have hbgx : Blk wq wp.heap.size 142 #[.string ⟨#[]⟩, .slice none 0 0, .slice none 0 0] := (by rw [hwwq]; exact Blk.new _ _ _); haveI hLwq : Later wp wq := (by rw [hwwq]; infer_instance); have hywq := Later.trans (w := wb) inferInstance hLwq; have hGgx := Later.size (w := wb) (W := wp) inferInstance; have hlt := hbgy.lt; replace hbgy := hbgy.later hLwq; obtain ⟨gx, hgx⟩ : ∃ g : Nat, g = wp.heap.size := ⟨_, rfl⟩; rw [← hgx] at hbgx hGgx hlt; rw [← hgx]; clear hwwq hgx; have hxy : ¬ gx = gy := (by omega); have hyx : ¬ gy = gx := (by omega); haveI hNx : New wb gx := ⟨hGgx⟩; haveI hNy : New wb gy := ⟨hGgy⟩; have hcx := (fun i => hbgx.cell i); have hcy := (fun i => hbgy.cell i); have hfx := (fun i => hbgx.frozen i); have hfy := (fun i => hbgy.frozen i)))
      refine hK.out _ _ (by exact inferInstance) (fun hHeld => ?_)
      try simp only [Act.put, List.setIfInBounds_toArray, List.set_cons_zero, List.set_cons_succ]
      refine wpAnyH_ready (rs := [20]) (by kernel_rfl) (by simp) (AllReadyH.cons rfl (fun K hK => ?_) AllReadyH.nil)
      go_simp
      skip
      refine hK.out _ _ (by exact inferInstance) (fun hHeld => ?_)
      try simp only [Act.put, List.setIfInBounds_toArray, List.set_cons_zero, List.set_cons_succ]
      refine wpAnyH_ready (rs := [21]) (by kernel_rfl) (by simp) (AllReadyH.cons rfl (fun K hK => ?_) AllReadyH.nil)
      go_simp
      (obtain ⟨wf, hwf⟩ : ∃ W : World, W = ((((((wq.setCell ⟨gx, 0, none⟩ (.string y.Name)).setCell ⟨gx, 1, none⟩ (.slice xA0 xn0 xc0)).setCell ⟨gx, 2, none⟩ (.slice xA1 xn1 xc1)).setCell ⟨gy, 0, none⟩ (.string z.Name)).setCell ⟨gy, 1, none⟩ (.slice zA0 zn0 zc0)).setCell ⟨gy, 2, none⟩ (.slice zA1 zn1 zc1)) := ⟨_, rfl⟩; rw [← hwf]; have hbX : Blk wf gx 142 #[.string y.Name, .slice xA0 xn0 xc0, .slice xA1 xn1 xc1] := (by rw [hwf]; exact hbgx.put.by hxy); have hbY : Blk wf gy 142 #[.string z.Name, .slice zA0 zn0 zc0, .slice zA1 zn1 zc1] := (by rw [hwf]; exact (hbgy.by hyx).put); haveI hyf : Later wb wf := (by rw [hwf]; infer_instance); clear hwf hcx hcy hfx hfy)
      refine hK.out _ _ (by exact inferInstance) (fun hHeld => ?_)
      try simp only [Act.put, List.setIfInBounds_toArray, List.set_cons_zero, List.set_cons_succ]
      refine wpAnyH_done (by kernel_rfl) ?_ _
    all_goals obtain ⟨hX0, hX1, hX2⟩ := hbX.three
    all_goals obtain ⟨hY0, hY1, hY2⟩ := hbY.three
    all_goals go_wp2_with fail
    all_goals go_region_held3 (fun w' => Later wb w' ∧ Later wf w') (exact ⟨inferInstance, inferInstance⟩) (first | ((with_reducible refine (spec_l2Place Hi.out inferInstance stop).mono ?_); rw [HPX.out]; rintro e w6 ⟨rfl, L6⟩; have X6 := Later.trans (w := wb) inferInstance L6; have Y6 := Later.trans (w := wf) inferInstance L6) | ((with_reducible refine (spec_l2Place Hiz.out inferInstance stop).mono ?_); rw [HPZ.out]; rintro e w7 ⟨rfl, L7⟩; have X7 := Later.trans (w := wb) inferInstance L7; have Y7 := Later.trans (w := wf) inferInstance L7))
    all_goals go_wp2
    all_goals go_ret2
    all_goals exact ⟨rfl, hww.trans inferInstance⟩
  have f1 := (beqi_f k3).1
  have f2 := (beqi_f k3).2
  rw [if_neg (by rintro (c | c | c); exact k1 c; exact k2 c; exact k3 c)]
  have vx0 : 0 ≤ vx := by have := HNX.out; omega
  have vy0 : 0 ≤ vy := by have := HNY.out; omega
  have vx1 := bx.2
  have vy1 := by_.2
  have ha : IntKind.i64.wrap (vx + walk) = vx + walk := by rw [IntKind.wrap_i64]; omega
  have ht : (vx + walk).tmod period = (vx + walk) % period := tmod_pos (by omega)
  have m0 := Int.emod_nonneg (vx + walk) (show period ≠ 0 by omega)
  have m1 := Int.emod_lt_of_pos (vx + walk) (show 0 < period by omega)
  have hb : IntKind.i64.wrap (vy - (vx + walk) % period) = vy - (vx + walk) % period := by rw [IntKind.wrap_i64]; omega
  have hc : IntKind.i64.wrap (vy - (vx + walk) % period + period) = vy - (vx + walk) % period + period := by rw [IntKind.wrap_i64]; omega
  have ht2 : (vy - (vx + walk) % period + period).tmod period = (vy - (vx + walk) % period + period) % period := tmod_pos (by omega)
  have g0 := Int.emod_nonneg (vy - (vx + walk)) (show period ≠ 0 by omega)
  have g1 := Int.emod_lt_of_pos (vy - (vx + walk)) (show 0 < period by omega)
  have hd : wrap64 (walk + (vy - (vx + walk)) % period) = walk + (vy - (vx + walk)) % period := by unfold wrap64; omega
  have HGT : Hid (gapTo vx vy walk period = (vy - (vx + walk)) % period) := by show _ = _; unfold gapTo; simp
  rw [HGT.out]
  clear k3 c4
  have HB0 : ∀ W [Later (w.alloc (.cells #[.slice sA0 sn0 sc0, .slice (some ⟨b, o, none⟩) sn1 sc1] 50)) W] (j : Nat), W.cell? ⟨w.heap.size, j, none⟩ = #[.slice sA0 sn0 sc0, .slice (some ⟨b, o, none⟩) sn1 sc1][j]? := Later.boxes (t := 50) (fr := (0, 0)) (heap_new (by simp; try omega)); obtain ⟨wb, hwb⟩ : ∃ wb : World, wb = (w.alloc (.cells #[.slice sA0 sn0 sc0, .slice (some ⟨b, o, none⟩) sn1 sc1] 50)) := ⟨_, rfl⟩; haveI hbW : Later wb (w.alloc (.cells #[.slice sA0 sn0 sc0, .slice (some ⟨b, o, none⟩) sn1 sc1] 50)) := (by rw [hwb]; exact Later.rfl_); haveI hww : Later w wb := (by rw [hwb]; infer_instance); rw [← hwb] at HB0; have hbE := Lib.hid (congrArg (fun x : World => x.heap.size) hwb); clear hwb
  replace h := h.later hww
  replace h2 := h2.later hww
  replace ha0 := shift hww ha0
  replace ha1 := shift hww ha1
  replace hb0 := shift hww hb0
  replace hb1 := shift hww hb1
  replace hc0 := shift hww hc0
  replace hc1 := shift hww hc1
  replace hc2 := shift hww hc2
  replace hd0 := shift hww hd0
  replace hd1 := shift hww hd1
  replace hd2 := shift hww hd2
  (try replace hcs := shift hww hcs)
  (try replace hcl := shift hww hcl)
  replace hS := hS.later hww
  replace hZ := hZ.later hww
  have H := Lib.hid h
  have H2 := Lib.hid h2
  have hwb0 : Later wb wb := inferInstance
  have hwb2 : Later wb wb := inferInstance
  clear h h2 hxa hxb hia hib qa qb hy hz hi hiz lf lz pf d2 d3 d5 hP
  have Hi := Lib.hid (Hi.out.later hww)
  have Hiz := Lib.hid (Hiz.out.later hww)
  go_enter Try.func27, Try.ntmps27
  go_wp2_with first
    | (go_at_call 113; refine (impl_arePassed H.out (hwb0.trans inferInstance) _ H2.out (hwb2.trans inferInstance) _).mono ?_; rintro e w1 ⟨rfl, L1⟩; have X1 := Later.trans (w := wb) inferInstance L1)
    | (go_at_call 107; refine (spec_l10Asked H.out (hwb0.trans inferInstance) _ H2.out (hwb2.trans inferInstance) _).mono ?_; rintro e w1 ⟨rfl, L1⟩; have X1 := Later.trans (w := wb) inferInstance L1)
    | (go_at_call 114; refine (impl_isPattern hq _).mono ?_; rintro e w' ⟨rfl, rfl⟩)
    | (go_at_call 98; refine (impl_within _ _ _ _).mono ?_; rintro e w' ⟨rfl, rfl⟩)
    | (go_at_call 93; refine (spec_l1In _ _ _ _).mono ?_; rintro e w' ⟨rfl, rfl⟩)
  refine wp_region_held_drew (S := (fun w' => Later wb w')) (by kernel_rfl) (by exact inferInstance) (fun hHeld => ?_)
  refine wpAnyH_take (i := 0) (v := ?_) (by simp only [List.getElem?_toArray, List.getElem?_cons_zero] <;> rfl) (by kernel_rfl) (by kernel_rfl) (by kernel_rfl) (by exact fun _ _ _ h => h) (Or.inl ⟨by kernel_rfl, ?_⟩) (by assumption) ?_
  rotate_left
  · intro w' hSw; (try dsimp only at hSw); go_simp; try with_reducible rfl
  try simp only [Act.put, List.setIfInBounds_toArray, List.set_cons_zero, List.set_cons_succ]
  refine wpAnyH_take (i := 1) (v := ?_) (by simp only [List.getElem?_toArray, List.getElem?_cons_succ, List.getElem?_cons_zero] <;> rfl) (by kernel_rfl) (by kernel_rfl) (by kernel_rfl) (by exact fun _ _ _ h => h) (Or.inl ⟨by kernel_rfl, ?_⟩) (by assumption) ?_
  rotate_left
  · intro w' hSw; (try dsimp only at hSw); go_simp; try with_reducible rfl
  try simp only [Act.put, List.setIfInBounds_toArray, List.set_cons_zero, List.set_cons_succ]
  refine wpAnyH_take (i := 2) (v := ?_) (by simp only [List.getElem?_toArray, List.getElem?_cons_succ, List.getElem?_cons_zero] <;> rfl) (by kernel_rfl) (by kernel_rfl) (by kernel_rfl) (by exact fun _ _ _ h => h) (Or.inl ⟨by kernel_rfl, ?_⟩) (by assumption) ?_
  rotate_left
  · intro w' hSw; (try dsimp only at hSw); go_simp; try with_reducible rfl
  try simp only [Act.put, List.setIfInBounds_toArray, List.set_cons_zero, List.set_cons_succ]
  refine wpAnyH_take (i := 3) (v := ?_) (by simp only [List.getElem?_toArray, List.getElem?_cons_succ, List.getElem?_cons_zero] <;> rfl) (by kernel_rfl) (by kernel_rfl) (by kernel_rfl) (by exact fun _ _ _ h => h) (Or.inl ⟨by kernel_rfl, ?_⟩) (by assumption) ?_
  rotate_left
  · intro w' hSw; (try dsimp only at hSw); go_simp; try with_reducible rfl
  try simp only [Act.put, List.setIfInBounds_toArray, List.set_cons_zero, List.set_cons_succ]
  refine wpAnyH_take (i := 4) (v := ?_) (by simp only [List.getElem?_toArray, List.getElem?_cons_succ, List.getElem?_cons_zero] <;> rfl) (by kernel_rfl) (by kernel_rfl) (by kernel_rfl) (by exact fun _ _ _ h => h) (Or.inl ⟨by kernel_rfl, ?_⟩) (by assumption) ?_
  rotate_left
  · intro w' hSw; (try dsimp only at hSw); go_simp; try with_reducible rfl
  try simp only [Act.put, List.setIfInBounds_toArray, List.set_cons_zero, List.set_cons_succ]
  refine wpAnyH_take (i := 5) (v := ?_) (by simp only [List.getElem?_toArray, List.getElem?_cons_succ, List.getElem?_cons_zero] <;> rfl) (by kernel_rfl) (by kernel_rfl) (by kernel_rfl) (by exact fun _ _ _ h => h) (Or.inl ⟨by kernel_rfl, ?_⟩) (by assumption) ?_
  rotate_left
  · intro w' hSw; (try dsimp only at hSw); go_simp; try with_reducible rfl
  try simp only [Act.put, List.setIfInBounds_toArray, List.set_cons_zero, List.set_cons_succ]
  refine wpAnyH_take (i := 6) (v := ?_) (by simp only [List.getElem?_toArray, List.getElem?_cons_succ, List.getElem?_cons_zero] <;> rfl) (by kernel_rfl) (by kernel_rfl) (by kernel_rfl) (by exact fun _ _ _ h => h) (Or.inl ⟨by kernel_rfl, ?_⟩) (by assumption) ?_
  rotate_left
  · intro w' hSw; (try dsimp only at hSw); go_simp; try with_reducible rfl
  try simp only [Act.put, List.setIfInBounds_toArray, List.set_cons_zero, List.set_cons_succ]
  refine wpAnyH_take (i := 7) (v := ?_) (by simp only [List.getElem?_toArray, List.getElem?_cons_succ, List.getElem?_cons_zero] <;> rfl) (by kernel_rfl) (by kernel_rfl) (by kernel_rfl) (by exact fun _ _ _ h => h) (Or.inl ⟨by kernel_rfl, ?_⟩) (by assumption) ?_
  rotate_left
  · intro w' hSw; (try dsimp only at hSw); go_simp; try with_reducible rfl
  try simp only [Act.put, List.setIfInBounds_toArray, List.set_cons_zero, List.set_cons_succ]
  refine wpAnyH_take (i := 8) (v := ?_) (by simp only [List.getElem?_toArray, List.getElem?_cons_succ, List.getElem?_cons_zero] <;> rfl) (by kernel_rfl) (by kernel_rfl) (by kernel_rfl) (by exact fun _ _ _ h => h) (Or.inl ⟨by kernel_rfl, ?_⟩) (by assumption) ?_
  rotate_left
  · intro w' hSw; (try dsimp only at hSw); go_simp; try with_reducible rfl
  try simp only [Act.put, List.setIfInBounds_toArray, List.set_cons_zero, List.set_cons_succ]
  refine wpAnyH_take (i := 9) (v := ?_) (by simp only [List.getElem?_toArray, List.getElem?_cons_succ, List.getElem?_cons_zero] <;> rfl) (by kernel_rfl) (by kernel_rfl) (by kernel_rfl) (by exact fun _ _ _ h => h) (Or.inl ⟨by kernel_rfl, ?_⟩) (by assumption) ?_
  rotate_left
  · intro w' hSw; (try dsimp only at hSw); go_simp; try with_reducible rfl
  try simp only [Act.put, List.setIfInBounds_toArray, List.set_cons_zero, List.set_cons_succ]
  refine wpAnyH_take (i := 10) (v := ?_) (by simp only [List.getElem?_toArray, List.getElem?_cons_succ, List.getElem?_cons_zero] <;> rfl) (by kernel_rfl) (by kernel_rfl) (by kernel_rfl) (by exact fun _ _ _ h => h) (Or.inl ⟨by kernel_rfl, ?_⟩) (by assumption) ?_
  rotate_left
  · intro w' hSw; (try dsimp only at hSw); go_simp; try with_reducible rfl
  try simp only [Act.put, List.setIfInBounds_toArray, List.set_cons_zero, List.set_cons_succ]
  refine wpAnyH_take (i := 11) (v := ?_) (by simp only [List.getElem?_toArray, List.getElem?_cons_succ, List.getElem?_cons_zero] <;> rfl) (by kernel_rfl) (by kernel_rfl) (by kernel_rfl) (by exact fun _ _ _ h => h) (Or.inl ⟨by kernel_rfl, ?_⟩) (by assumption) ?_
  rotate_left
  · intro w' hSw; (try dsimp only at hSw); go_simp; try with_reducible rfl
  try simp only [Act.put, List.setIfInBounds_toArray, List.set_cons_zero, List.set_cons_succ]
  refine wpAnyH_take (i := 12) (v := ?_) (by simp only [List.getElem?_toArray, List.getElem?_cons_succ, List.getElem?_cons_zero] <;> rfl) (by kernel_rfl) (by kernel_rfl) (by kernel_rfl) (by exact fun _ _ _ h => h) (Or.inl ⟨by kernel_rfl, ?_⟩) (by assumption) ?_
  rotate_left
  · intro w' hSw; (try dsimp only at hSw); go_simp; try with_reducible rfl
  try simp only [Act.put, List.setIfInBounds_toArray, List.set_cons_zero, List.set_cons_succ]
  refine wpAnyH_take (i := 13) (v := ?_) (by simp only [List.getElem?_toArray, List.getElem?_cons_succ, List.getElem?_cons_zero] <;> rfl) (by kernel_rfl) (by kernel_rfl) (by kernel_rfl) (by exact fun _ _ _ h => h) (Or.inl ⟨by kernel_rfl, ?_⟩) (by assumption) ?_
  rotate_left
  · intro w' hSw; (try dsimp only at hSw); go_simp; try with_reducible rfl
  try simp only [Act.put, List.setIfInBounds_toArray, List.set_cons_zero, List.set_cons_succ]
  refine wpAnyH_take (i := 14) (v := ?_) (by simp only [List.getElem?_toArray, List.getElem?_cons_succ, List.getElem?_cons_zero] <;> rfl) (by kernel_rfl) (by kernel_rfl) (by kernel_rfl) (by exact fun _ _ _ h => h) (Or.inl ⟨by kernel_rfl, ?_⟩) (by assumption) ?_
  rotate_left
  · intro w' hSw; (try dsimp only at hSw); go_simp; try with_reducible rfl
  try simp only [Act.put, List.setIfInBounds_toArray, List.set_cons_zero, List.set_cons_succ]
  refine wpAnyH_take (i := 15) (v := ?_) (by simp only [List.getElem?_toArray, List.getElem?_cons_succ, List.getElem?_cons_zero] <;> rfl) (by kernel_rfl) (by kernel_rfl) (by kernel_rfl) (by exact fun _ _ _ h => h) (Or.inl ⟨by kernel_rfl, ?_⟩) (by assumption) ?_
  rotate_left
  · intro w' hSw; (try dsimp only at hSw); go_simp; try with_reducible rfl
  try simp only [Act.put, List.setIfInBounds_toArray, List.set_cons_zero, List.set_cons_succ]
  refine wpAnyH_take (i := 16) (v := ?_) (by simp only [List.getElem?_toArray, List.getElem?_cons_succ, List.getElem?_cons_zero] <;> rfl) (by kernel_rfl) (by kernel_rfl) (by kernel_rfl) (by exact fun _ _ _ h => h) (Or.inl ⟨by kernel_rfl, ?_⟩) (by assumption) ?_
  rotate_left
  · intro w' hSw; (try dsimp only at hSw); go_simp; try with_reducible rfl
  try simp only [Act.put, List.setIfInBounds_toArray, List.set_cons_zero, List.set_cons_succ]
  refine wpAnyH_take (i := 17) (v := ?_) (by simp only [List.getElem?_toArray, List.getElem?_cons_succ, List.getElem?_cons_zero] <;> rfl) (by kernel_rfl) (by kernel_rfl) (by kernel_rfl) (by exact fun _ _ _ h => h) (Or.inl ⟨by kernel_rfl, ?_⟩) (by assumption) ?_
  rotate_left
  · intro w' hSw; (try dsimp only at hSw); go_simp; try with_reducible rfl
  try simp only [Act.put, List.setIfInBounds_toArray, List.set_cons_zero, List.set_cons_succ]
  refine wpAnyH_ready (rs := [18, 19]) (by kernel_rfl) (by simp) (AllReadyH.cons rfl (fun K hK => ?r4x0_1_2_3_4_5_6_7_8_9_10_11_12_13_14_15_16_17_18) (AllReadyH.cons rfl (fun K hK => ?r4x0_1_2_3_4_5_6_7_8_9_10_11_12_13_14_15_16_17_19) AllReadyH.nil))
  case' r4x0_1_2_3_4_5_6_7_8_9_10_11_12_13_14_15_16_17_18 =>
    go_simp
    (first | (obtain ⟨wp, hwwp⟩ : ∃ W : World, W = (w1.alloc (.cells #[.string ⟨#[]⟩, .slice none 0 0, .slice none 0 0] 142)).drew := ⟨_, rfl⟩; rw [← hwwp]; have hbgx : Blk wp w1.heap.size 142 #[.string ⟨#[]⟩, .slice none 0 0, .slice none 0 0] := (by rw [hwwp]; exact Blk.new _ _ _); haveI hLwp : Later w1 wp := (by rw [hwwp]; infer_instance); have hywp := Later.trans (w := wb) inferInstance hLwp; have hGgx := Later.size (w := wb) (W := w1) inferInstance; obtain ⟨gx, hgx⟩ : ∃ g : Nat, g = w1.heap.size := ⟨_, rfl⟩; rw [← hgx] at hbgx hGgx; rw [← hgx]; clear hwwp hgx; skip) | (obtain ⟨wq, hwwq⟩ : ∃ W : World, W = (wp.alloc (.cells #[.string ⟨#[]⟩, .slice none 0 0, .slice none 0 0] 142)) := ⟨_, rfl⟩; rw [← hwwq]; have hbgx : Blk wq wp.heap.size 142 #[.string ⟨#[]⟩, .slice none 0 0, .slice none 0 0] := (by rw [hwwq]; exact Blk.new _ _ _); haveI hLwq : Later wp wq := (by rw [hwwq]; infer_instance); have hywq := Later.trans (w := wb) inferInstance hLwq; have hGgx := Later.size (w := wb) (W := wp) inferInstance; have hlt := hbgy.lt; replace hbgy := hbgy.later hLwq; obtain ⟨gx, hgx⟩ : ∃ g : Nat, g = wp.heap.size := ⟨_, rfl⟩; rw [← hgx] at hbgx hGgx hlt; rw [← hgx]; clear hwwq hgx; have hxy : ¬ gx = gy := (by omega); have hyx : ¬ gy = gx := (by omega); haveI hNx : New wb gx := ⟨hGgx⟩; haveI hNy : New wb gy := ⟨hGgy⟩; have hcx := (fun i => hbgx.cell i); have hcy := (fun i => hbgy.cell i); have hfx := (fun i => hbgx.frozen i); have hfy := (fun i => hbgy.frozen i)))
    refine hK.out _ _ (by exact inferInstance) (fun hHeld => ?_)
    try simp only [Act.put, List.setIfInBounds_toArray, List.set_cons_zero, List.set_cons_succ]
    refine wpAnyH_ready (rs := [19]) (by kernel_rfl) (by simp) (AllReadyH.cons rfl (fun K hK => ?_) AllReadyH.nil)
    go_simp
    (first | (obtain ⟨wp, hwwp⟩ : ∃ W : World, W = (w1.alloc (.cells #[.string ⟨#[]⟩, .slice none 0 0, .slice none 0 0] 142)).drew := ⟨_, rfl⟩; rw [← hwwp]; have hbgy : Blk wp w1.heap.size 142 #[.string ⟨#[]⟩, .slice none 0 0, .slice none 0 0] := (by rw [hwwp]; exact Blk.new _ _ _); haveI hLwp : Later w1 wp := (by rw [hwwp]; infer_instance); have hywp := Later.trans (w := wb) inferInstance hLwp; have hGgy := Later.size (w := wb) (W := w1) inferInstance; obtain ⟨gy, hgy⟩ : ∃ g : Nat, g = w1.heap.size := ⟨_, rfl⟩; rw [← hgy] at hbgy hGgy; rw [← hgy]; clear hwwp hgy; skip) | (obtain ⟨wq, hwwq⟩ : ∃ W : World, W = (wp.alloc (.cells #[.string ⟨#[]⟩, .slice none 0 0, .slice none 0 0] 142)) := ⟨_, rfl⟩; rw [← hwwq]; have hbgy : Blk wq wp.heap.size 142 #[.string ⟨#[]⟩, .slice none 0 0, .slice none 0 0] := (by rw [hwwq]; exact Blk.new _ _ _); haveI hLwq : Later wp wq := (by rw [hwwq]; infer_instance); have hywq := Later.trans (w := wb) inferInstance hLwq; have hGgy := Later.size (w := wb) (W := wp) inferInstance; have hlt := hbgx.lt; replace hbgx := hbgx.later hLwq; obtain ⟨gy, hgy⟩ : ∃ g : Nat, g = wp.heap.size := ⟨_, rfl⟩; rw [← hgy] at hbgy hGgy hlt; rw [← hgy]; clear hwwq hgy; have hxy : ¬ gx = gy := (by omega); have hyx : ¬ gy = gx := (by omega); haveI hNx : New wb gx := ⟨hGgx⟩; haveI hNy : New wb gy := ⟨hGgy⟩; have hcx := (fun i => hbgx.cell i); have hcy := (fun i => hbgy.cell i); have hfx := (fun i => hbgx.frozen i); have hfy := (fun i => hbgy.frozen i)))
    refine hK.out _ _ (by exact inferInstance) (fun hHeld => ?_)
    try simp only [Act.put, List.setIfInBounds_toArray, List.set_cons_zero, List.set_cons_succ]
    refine wpAnyH_ready (rs := [20]) (by kernel_rfl) (by simp) (AllReadyH.cons rfl (fun K hK => ?_) AllReadyH.nil)
    go_simp
    skip
    refine hK.out _ _ (by exact inferInstance) (fun hHeld => ?_)
    try simp only [Act.put, List.setIfInBounds_toArray, List.set_cons_zero, List.set_cons_succ]
    refine wpAnyH_ready (rs := [21]) (by kernel_rfl) (by simp) (AllReadyH.cons rfl (fun K hK => ?_) AllReadyH.nil)
    go_simp
    (obtain ⟨wf, hwf⟩ : ∃ W : World, W = ((((((wq.setCell ⟨gx, 0, none⟩ (.string y.Name)).setCell ⟨gx, 1, none⟩ (.slice xA0 xn0 xc0)).setCell ⟨gx, 2, none⟩ (.slice xA1 xn1 xc1)).setCell ⟨gy, 0, none⟩ (.string z.Name)).setCell ⟨gy, 1, none⟩ (.slice zA0 zn0 zc0)).setCell ⟨gy, 2, none⟩ (.slice zA1 zn1 zc1)) := ⟨_, rfl⟩; rw [← hwf]; have hbX : Blk wf gx 142 #[.string y.Name, .slice xA0 xn0 xc0, .slice xA1 xn1 xc1] := (by rw [hwf]; exact hbgx.put.by hxy); have hbY : Blk wf gy 142 #[.string z.Name, .slice zA0 zn0 zc0, .slice zA1 zn1 zc1] := (by rw [hwf]; exact (hbgy.by hyx).put); haveI hyf : Later wb wf := (by rw [hwf]; infer_instance); clear hwf hcx hcy hfx hfy)
    refine hK.out _ _ (by exact inferInstance) (fun hHeld => ?_)
    try simp only [Act.put, List.setIfInBounds_toArray, List.set_cons_zero, List.set_cons_succ]
    refine wpAnyH_done (by kernel_rfl) ?_ _
  case' r4x0_1_2_3_4_5_6_7_8_9_10_11_12_13_14_15_16_17_19 =>
    go_simp
    (first | (obtain ⟨wp, hwwp⟩ : ∃ W : World, W = (w1.alloc (.cells #[.string ⟨#[]⟩, .slice none 0 0, .slice none 0 0] 142)).drew := ⟨_, rfl⟩; rw [← hwwp]; have hbgy : Blk wp w1.heap.size 142 #[.string ⟨#[]⟩, .slice none 0 0, .slice none 0 0] := (by rw [hwwp]; exact Blk.new _ _ _); haveI hLwp : Later w1 wp := (by rw [hwwp]; infer_instance); have hywp := Later.trans (w := wb) inferInstance hLwp; have hGgy := Later.size (w := wb) (W := w1) inferInstance; obtain ⟨gy, hgy⟩ : ∃ g : Nat, g = w1.heap.size := ⟨_, rfl⟩; rw [← hgy] at hbgy hGgy; rw [← hgy]; clear hwwp hgy; skip) | (obtain ⟨wq, hwwq⟩ : ∃ W : World, W = (wp.alloc (.cells #[.string ⟨#[]⟩, .slice none 0 0, .slice none 0 0] 142)) := ⟨_, rfl⟩; rw [← hwwq]; have hbgy : Blk wq wp.heap.size 142 #[.string ⟨#[]⟩, .slice none 0 0, .slice none 0 0] := (by rw [hwwq]; exact Blk.new _ _ _); haveI hLwq : Later wp wq := (by rw [hwwq]; infer_instance); have hywq := Later.trans (w := wb) inferInstance hLwq; have hGgy := Later.size (w := wb) (W := wp) inferInstance; have hlt := hbgx.lt; replace hbgx := hbgx.later hLwq; obtain ⟨gy, hgy⟩ : ∃ g : Nat, g = wp.heap.size := ⟨_, rfl⟩; rw [← hgy] at hbgy hGgy hlt; rw [← hgy]; clear hwwq hgy; have hxy : ¬ gx = gy := (by omega); have hyx : ¬ gy = gx := (by omega); haveI hNx : New wb gx := ⟨hGgx⟩; haveI hNy : New wb gy := ⟨hGgy⟩; have hcx := (fun i => hbgx.cell i); have hcy := (fun i => hbgy.cell i); have hfx := (fun i => hbgx.frozen i); have hfy := (fun i => hbgy.frozen i)))
    refine hK.out _ _ (by exact inferInstance) (fun hHeld => ?_)
    try simp only [Act.put, List.setIfInBounds_toArray, List.set_cons_zero, List.set_cons_succ]
    refine wpAnyH_ready (rs := [18]) (by kernel_rfl) (by simp) (AllReadyH.cons rfl (fun K hK => ?_) AllReadyH.nil)
    go_simp
    (first | (obtain ⟨wp, hwwp⟩ : ∃ W : World, W = (w1.alloc (.cells #[.string ⟨#[]⟩, .slice none 0 0, .slice none 0 0] 142)).drew := ⟨_, rfl⟩; rw [← hwwp]; have hbgx : Blk wp w1.heap.size 142 #[.string ⟨#[]⟩, .slice none 0 0, .slice none 0 0] := (by rw [hwwp]; exact Blk.new _ _ _); haveI hLwp : Later w1 wp := (by rw [hwwp]; infer_instance); have hywp := Later.trans (w := wb) inferInstance hLwp; have hGgx := Later.size (w := wb) (W := w1) inferInstance; obtain ⟨gx, hgx⟩ : ∃ g : Nat, g = w1.heap.size := ⟨_, rfl⟩; rw [← hgx] at hbgx hGgx; rw [← hgx]; clear hwwp hgx; skip) | (obtain ⟨wq, hwwq⟩ : ∃ W : World, W = (wp.alloc (.cells #[.string ⟨#[]⟩, .slice none 0 0, .slice none 0 0] 142)) := ⟨_, rfl⟩; rw [← hwwq]; have hbgx : Blk wq wp.heap.size 142 #[.string ⟨#[]⟩, .slice none 0 0, .slice none 0 0] := (by rw [hwwq]; exact Blk.new _ _ _); haveI hLwq : Later wp wq := (by rw [hwwq]; infer_instance); have hywq := Later.trans (w := wb) inferInstance hLwq; have hGgx := Later.size (w := wb) (W := wp) inferInstance; have hlt := hbgy.lt; replace hbgy := hbgy.later hLwq; obtain ⟨gx, hgx⟩ : ∃ g : Nat, g = wp.heap.size := ⟨_, rfl⟩; rw [← hgx] at hbgx hGgx hlt; rw [← hgx]; clear hwwq hgx; have hxy : ¬ gx = gy := (by omega); have hyx : ¬ gy = gx := (by omega); haveI hNx : New wb gx := ⟨hGgx⟩; haveI hNy : New wb gy := ⟨hGgy⟩; have hcx := (fun i => hbgx.cell i); have hcy := (fun i => hbgy.cell i); have hfx := (fun i => hbgx.frozen i); have hfy := (fun i => hbgy.frozen i)))
    refine hK.out _ _ (by exact inferInstance) (fun hHeld => ?_)
    try simp only [Act.put, List.setIfInBounds_toArray, List.set_cons_zero, List.set_cons_succ]
    refine wpAnyH_ready (rs := [20]) (by kernel_rfl) (by simp) (AllReadyH.cons rfl (fun K hK => ?_) AllReadyH.nil)
    go_simp
    skip
    refine hK.out _ _ (by exact inferInstance) (fun hHeld => ?_)
    try simp only [Act.put, List.setIfInBounds_toArray, List.set_cons_zero, List.set_cons_succ]
    refine wpAnyH_ready (rs := [21]) (by kernel_rfl) (by simp) (AllReadyH.cons rfl (fun K hK => ?_) AllReadyH.nil)
    go_simp
    (obtain ⟨wf, hwf⟩ : ∃ W : World, W = ((((((wq.setCell ⟨gx, 0, none⟩ (.string y.Name)).setCell ⟨gx, 1, none⟩ (.slice xA0 xn0 xc0)).setCell ⟨gx, 2, none⟩ (.slice xA1 xn1 xc1)).setCell ⟨gy, 0, none⟩ (.string z.Name)).setCell ⟨gy, 1, none⟩ (.slice zA0 zn0 zc0)).setCell ⟨gy, 2, none⟩ (.slice zA1 zn1 zc1)) := ⟨_, rfl⟩; rw [← hwf]; have hbX : Blk wf gx 142 #[.string y.Name, .slice xA0 xn0 xc0, .slice xA1 xn1 xc1] := (by rw [hwf]; exact hbgx.put.by hxy); have hbY : Blk wf gy 142 #[.string z.Name, .slice zA0 zn0 zc0, .slice zA1 zn1 zc1] := (by rw [hwf]; exact (hbgy.by hyx).put); haveI hyf : Later wb wf := (by rw [hwf]; infer_instance); clear hwf hcx hcy hfx hfy)
    refine hK.out _ _ (by exact inferInstance) (fun hHeld => ?_)
    try simp only [Act.put, List.setIfInBounds_toArray, List.set_cons_zero, List.set_cons_succ]
    refine wpAnyH_done (by kernel_rfl) ?_ _
  all_goals obtain ⟨hX0, hX1, hX2⟩ := hbX.three
  all_goals obtain ⟨hY0, hY1, hY2⟩ := hbY.three
  all_goals go_wp2_with fail
  all_goals go_region_held3 (fun w' => Later wb w' ∧ Later wf w') (exact ⟨inferInstance, inferInstance⟩) (first | ((with_reducible refine (spec_l2Place Hi.out inferInstance stop).mono ?_); rw [HPX.out]; rintro e w6 ⟨rfl, L6⟩; have X6 := Later.trans (w := wb) inferInstance L6; have Y6 := Later.trans (w := wf) inferInstance L6) | ((with_reducible refine (spec_l2Place Hiz.out inferInstance stop).mono ?_); rw [HPZ.out]; rintro e w7 ⟨rfl, L7⟩; have X7 := Later.trans (w := wb) inferInstance L7; have Y7 := Later.trans (w := wf) inferInstance L7))
  all_goals go_wp2_with fail
  all_goals go_region_held3 (fun w' => Later wb w') (exact inferInstance) (((with_reducible refine (spec_l10Rest H.out inferInstance NF.out period hp1 hp2 ⟨p, ofa⟩ QA.out.1 QA.out.2.1 QA.out.2.2.1 QA.out.2.2.2 stop).mono ?_); rw [HX.out]; rintro e w3 ⟨rfl, L3⟩; have X3 := Later.trans (w := wb) inferInstance L3))
  all_goals go_wp2_with fail
  all_goals go_region_held3 (fun w' => Later wb w') (exact inferInstance) (((with_reducible refine (spec_l10Rest H.out inferInstance NF.out period hp1 hp2 ⟨q, ofb⟩ QB.out.1 QB.out.2.1 QB.out.2.2.1 QB.out.2.2.2 stop).mono ?_); rw [HY.out]; rintro e w4 ⟨rfl, L4⟩; have X4 := Later.trans (w := wb) inferInstance L4))
  all_goals go_wp2
  all_goals go_ret2
  all_goals exact ⟨rfl, hww.trans inferInstance⟩
end Go.Proofs.Ytbkeccpjcmhhjaa
