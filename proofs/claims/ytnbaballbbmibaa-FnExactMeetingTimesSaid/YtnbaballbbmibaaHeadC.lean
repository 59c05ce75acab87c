/-
  Headways: the meeting times.
-/
import Derived.Test.YtnbaballbbmibaaHeadB
import Derived.Test.YtnbaballbbmibaaTimeE
import Derived.Test.YtnbaballbbmibaaNest
namespace Go.Proofs.Ytnbaballbbmibaa
open Go Go.RowKit
set_option linter.unusedVariables false
set_option maxRecDepth 100000
def meetGo (n : Network) (period : Int) (pa pb : Pattern) : List Int → Nat → List Int
  | [], _ => []
  | s :: r, k => if restOf n period pa s = restOf n period pb s then (k : Int) :: meetGo n period pa pb r (k + 1) else meetGo n period pa pb r (k + 1)
def patI (l : List Pattern) (i : Int) : Pattern := l.getD i.toNat default
theorem patI_of {l : List Pattern} {m : Nat} {x : Pattern} (h : l[m]? = some x) : patI l m = x := by simp [patI, List.getD, h]
def meetOk (n : Network) (period : Int) (l : List Pattern) (a b : Int) : Bool := okPatterns n period l && inB a 0 ((l.length : Int) - 1) && inB b 0 ((l.length : Int) - 1)
def meetRes (n : Network) (period : Int) (l : List Pattern) (a b : Int) : List Int × Bool :=
  if meetOk n period l a b then (meetGo n period (patI l a) (patI l b) (lineN n (patI l a).Line).Stops 0, true) else ([], false)
theorem meetGo_len (n : Network) (period : Int) (pa pb : Pattern) (l : List Int) (k : Nat) : (meetGo n period pa pb l k).length ≤ l.length := by
  induction l generalizing k with
  | nil => simp [meetGo]
  | cons s l ih =>
    simp only [meetGo, List.length_cons]
    split
    · have := ih (k + 1); simp; omega
    · have := ih (k + 1); omega
theorem meetGo_bd (n : Network) (period : Int) (pa pb : Pattern) (l : List Int) (k : Nat) : ∀ y, y ∈ meetGo n period pa pb l k → (k : Int) ≤ y ∧ y < (k : Int) + l.length := by
  induction l generalizing k with
  | nil => intro y hy; simp [meetGo] at hy
  | cons s l ih =>
    intro y hy
    simp only [meetGo] at hy
    simp only [List.length_cons]
    split at hy
    · rcases List.mem_cons.1 hy with h | h
      · omega
      · have := ih _ y h; omega
    · have := ih _ y hy; omega
theorem meetRes_len (n : Network) (period : Int) (l : List Pattern) (a b : Int) : (meetRes n period l a b).1.length ≤ 6 := by
  unfold meetRes
  split
  · rename_i h
    simp only [meetOk, Bool.and_eq_true, inB_t] at h
    have pf := patFacts h.1.1
    obtain ⟨m, rfl⟩ := Int.eq_ofNat_of_zero_le h.1.2.1
    have hm : m < l.length := by omega
    have h1 := patI_of (List.getElem?_eq_getElem hm)
    have h2 := pf.pat m _ (List.getElem?_eq_getElem hm)
    rw [h1]
    have lf := lineN_facts (netFacts pf.net) h2.1 h2.2.1
    have := meetGo_len n period l[m] (patI l b) (lineN n l[m].Line).Stops 0
    have := lf.stops
    simp only; omega
  · simp
set_option maxHeartbeats 1000000 in
theorem impl_MeetingTimes {w0 w w2 : World} {sA0 : Option Addr} {sn0 sc0 : Nat} {sA1 : Option Addr} {sn1 sc1 : Nat} {n : Network} (h : NetworkAt w0 sA0 sn0 sc0 sA1 sn1 sc1 n) (hl : Later w0 w) (period : Int) {qA : Option Addr} {qn qc : Nat} {l : List Pattern} (h2 : Patterns w2 qA qn qc l) (hl2 : Later w2 w) (a b' : Int) :
    Calls Try.prog 36 #[.agg #[.slice sA0 sn0 sc0, .slice sA1 sn1 sc1], .int .i64 period, .slice qA qn qc, .int .i64 a, .int .i64 b'] w (RetO2 1 oInt (meetRes n period l a b').1 (meetRes n period l a b').2 w) := by
  replace h := h.later hl
  replace h2 := h2.later hl2
  have Hl := Lib.hid h2.len
  have hq := h2.le
  have hP := h.l_Lines
  have h20 := h2
  by_cases c1 : okPatterns n period l = true
  rotate_left
  · have g1 : okPatterns n period l = false := by simpa using c1
    have HR : Hid (meetRes n period l a b' = ([], false)) := by show _ = _; unfold meetRes meetOk; rw [g1]; rfl
    clear c1
    have HB0 : ∀ W [Later (w.alloc (.cells #[.slice sA0 sn0 sc0, .slice sA1 sn1 sc1] 32)) W] (j : Nat), W.cell? ⟨w.heap.size, j, none⟩ = #[.slice sA0 sn0 sc0, .slice sA1 sn1 sc1][j]? := Later.boxes (t := 32) (fr := (0, 0)) (heap_new (by simp; try omega)); obtain ⟨wb, hwb⟩ : ∃ wb : World, wb = (w.alloc (.cells #[.slice sA0 sn0 sc0, .slice sA1 sn1 sc1] 32)) := ⟨_, rfl⟩; haveI hbW : Later wb (w.alloc (.cells #[.slice sA0 sn0 sc0, .slice sA1 sn1 sc1] 32)) := (by rw [hwb]; exact Later.rfl_); haveI hww : Later w wb := (by rw [hwb]; infer_instance); rw [← hwb] at HB0; have hbE := Lib.hid (congrArg (fun x : World => x.heap.size) hwb); clear hwb
    replace h := h.later hww
    replace h2 := h2.later hww
    have H := Lib.hid h
    have H2 := Lib.hid h2
    rw [HR.out]
    clear h h2
    go_enter Try.func36, Try.ntmps36
    go_wp2_with first
      | (go_at_call 20; refine (impl_IsValidPatterns H.out inferInstance _ H2.out inferInstance).mono ?_; rintro e w1 ⟨rfl, L1⟩; have X1 := Later.trans (w := wb) inferInstance L1)
      | (go_at_call 79; refine (impl_isPattern hq _).mono ?_; rintro e w' ⟨rfl, rfl⟩)
    go_ret2
    exact ⟨_, _, _, [], rfl, OSl.nil_ _, by simp, by simp, hww.trans inferInstance⟩
  by_cases c2 : inB a 0 ((qn : Int) - 1) = true
  rotate_left
  · have g1 : inB a 0 ((qn : Int) - 1) = false := by simpa using c2
    have HR : Hid (meetRes n period l a b' = ([], false)) := by show _ = _; unfold meetRes meetOk; rw [← Hl.out, g1]; simp
    clear c2
    have HB0 : ∀ W [Later (w.alloc (.cells #[.slice sA0 sn0 sc0, .slice sA1 sn1 sc1] 32)) W] (j : Nat), W.cell? ⟨w.heap.size, j, none⟩ = #[.slice sA0 sn0 sc0, .slice sA1 sn1 sc1][j]? := Later.boxes (t := 32) (fr := (0, 0)) (heap_new (by simp; try omega)); obtain ⟨wb, hwb⟩ : ∃ wb : World, wb = (w.alloc (.cells #[.slice sA0 sn0 sc0, .slice sA1 sn1 sc1] 32)) := ⟨_, rfl⟩; haveI hbW : Later wb (w.alloc (.cells #[.slice sA0 sn0 sc0, .slice sA1 sn1 sc1] 32)) := (by rw [hwb]; exact Later.rfl_); haveI hww : Later w wb := (by rw [hwb]; infer_instance); rw [← hwb] at HB0; have hbE := Lib.hid (congrArg (fun x : World => x.heap.size) hwb); clear hwb
    replace h := h.later hww
    replace h2 := h2.later hww
    have H := Lib.hid h
    have H2 := Lib.hid h2
    rw [HR.out]
    clear h h2
    go_enter Try.func36, Try.ntmps36
    go_wp2_with first
      | (go_at_call 20; refine (impl_IsValidPatterns H.out inferInstance _ H2.out inferInstance).mono ?_; rintro e w1 ⟨rfl, L1⟩; have X1 := Later.trans (w := wb) inferInstance L1)
      | (go_at_call 79; refine (impl_isPattern hq _).mono ?_; rintro e w' ⟨rfl, rfl⟩)
    go_ret2
    exact ⟨_, _, _, [], rfl, OSl.nil_ _, by simp, by simp, hww.trans inferInstance⟩
  by_cases c3 : inB b' 0 ((qn : Int) - 1) = true
  rotate_left
  · have g1 : inB b' 0 ((qn : Int) - 1) = false := by simpa using c3
    have HR : Hid (meetRes n period l a b' = ([], false)) := by show _ = _; unfold meetRes meetOk; rw [← Hl.out, g1]; simp
    clear c3
    have HB0 : ∀ W [Later (w.alloc (.cells #[.slice sA0 sn0 sc0, .slice sA1 sn1 sc1] 32)) W] (j : Nat), W.cell? ⟨w.heap.size, j, none⟩ = #[.slice sA0 sn0 sc0, .slice sA1 sn1 sc1][j]? := Later.boxes (t := 32) (fr := (0, 0)) (heap_new (by simp; try omega)); obtain ⟨wb, hwb⟩ : ∃ wb : World, wb = (w.alloc (.cells #[.slice sA0 sn0 sc0, .slice sA1 sn1 sc1] 32)) := ⟨_, rfl⟩; haveI hbW : Later wb (w.alloc (.cells #[.slice sA0 sn0 sc0, .slice sA1 sn1 sc1] 32)) := (by rw [hwb]; exact Later.rfl_); haveI hww : Later w wb := (by rw [hwb]; infer_instance); rw [← hwb] at HB0; have hbE := Lib.hid (congrArg (fun x : World => x.heap.size) hwb); clear hwb
    replace h := h.later hww
    replace h2 := h2.later hww
    have H := Lib.hid h
    have H2 := Lib.hid h2
    rw [HR.out]
    clear h h2
    go_enter Try.func36, Try.ntmps36
    go_wp2_with first
      | (go_at_call 20; refine (impl_IsValidPatterns H.out inferInstance _ H2.out inferInstance).mono ?_; rintro e w1 ⟨rfl, L1⟩; have X1 := Later.trans (w := wb) inferInstance L1)
      | (go_at_call 79; refine (impl_isPattern hq _).mono ?_; rintro e w' ⟨rfl, rfl⟩)
    go_ret2
    exact ⟨_, _, _, [], rfl, OSl.nil_ _, by simp, by simp, hww.trans inferInstance⟩
  have pf := patFacts c1
  have d2 := inB_t.1 c2
  have d3 := inB_t.1 c3
  obtain ⟨ma, rfl⟩ := Int.eq_ofNat_of_zero_le d2.1
  obtain ⟨mb, rfl⟩ := Int.eq_ofNat_of_zero_le d3.1
  have hma : ma < qn := by omega
  have hmb : mb < qn := by omega
  obtain ⟨ba, oa, ⟨lna, ofa⟩, rfl, hxa, ha0, ha1, hia⟩ := Patterns.at_ h2 hma
  obtain ⟨bb, ob, ⟨lnb, ofb⟩, hAb, hxb, hb0, hb1, hib⟩ := Patterns.at_ h2 hmb
  cases hAb
  simp only at ha0 ha1 hb0 hb1
  have qa := pf.pat ma _ hxa.out
  have qb := pf.pat mb _ hxb.out
  simp only at qa qb
  obtain ⟨p, rfl⟩ := Int.eq_ofNat_of_zero_le qa.1
  have hp : p < sn1 := by rw [hP.len]; omega
  have hsn : sn1 ≤ 9223372036854775807 := hP.le
  obtain ⟨b, o, xA0, xn0, xc0, xA1, xn1, xc1, y, rfl, hy, hc0, hc1, hc2, hi⟩ := Lines.at_ hP hp
  have lf := (netFacts pf.net).line p y hy.out
  have hS := hi.l_Stops
  have hn6 : xn0 ≤ 6 := by rw [hS.len]; exact lf.stops.2
  have Hsl : Hid (xn0 = y.Stops.length) := hS.len
  have hp1 := pf.per.1
  have hp2 := pf.per.2
  have NF := Lib.hid (netFacts pf.net)
  have QA := Lib.hid qa
  have QB := Lib.hid qb
  rw [show meetRes n period l ma mb = (meetGo n period ⟨p, ofa⟩ ⟨lnb, ofb⟩ y.Stops 0, true) from by
    unfold meetRes meetOk
    rw [c1, ← Hl.out, c2, c3, patI_of hxa.out, patI_of hxb.out, lineN_of hy.out]; rfl]
  have HB0 : ∀ W [Later (w.alloc (.cells #[.slice sA0 sn0 sc0, .slice (some ⟨b, o, none⟩) sn1 sc1] 32)) W] (j : Nat), W.cell? ⟨w.heap.size, j, none⟩ = #[.slice sA0 sn0 sc0, .slice (some ⟨b, o, none⟩) sn1 sc1][j]? := Later.boxes (t := 32) (fr := (0, 0)) (heap_new (by simp; try omega)); obtain ⟨wb, hwb⟩ : ∃ wb : World, wb = (w.alloc (.cells #[.slice sA0 sn0 sc0, .slice (some ⟨b, o, none⟩) sn1 sc1] 32)) := ⟨_, rfl⟩; haveI hbW : Later wb (w.alloc (.cells #[.slice sA0 sn0 sc0, .slice (some ⟨b, o, none⟩) sn1 sc1] 32)) := (by rw [hwb]; exact Later.rfl_); haveI hww : Later w wb := (by rw [hwb]; infer_instance); rw [← hwb] at HB0; have hbE := Lib.hid (congrArg (fun x : World => x.heap.size) hwb); clear hwb
  have hbs : wb.heap.size ≤ w.heap.size + 1 := by have := hbW.size; simpa using this
  have hbs2 : w.heap.size + 1 ≤ wb.heap.size := by have := hbE.out; simp at this; omega
  replace h := h.later hww
  replace h2 := h2.later hww
  replace hS := hS.later hww
  replace ha0 := shift hww ha0
  replace ha1 := shift hww ha1
  replace hb0 := shift hww hb0
  replace hb1 := shift hww hb1
  replace hc1 := shift hww hc1
  have H := Lib.hid h
  have H2 := Lib.hid h2
  clear h h2 hxa hxb hia hib qa qb hy hc0 hc2 hi lf pf d2 d3
  go_enter Try.func36, Try.ntmps36
  go_wp2_with first
    | (go_at_call 20; refine (impl_IsValidPatterns H.out inferInstance _ H2.out inferInstance).mono ?_; rintro e w1 ⟨rfl, L1⟩; have X1 := Later.trans (w := wb) inferInstance L1)
    | (go_at_call 79; refine (impl_isPattern hq _).mono ?_; rintro e w' ⟨rfl, rfl⟩)
  clear c1 c2 c3
  go_region_held3 (fun w' => Later wb w') (exact inferInstance) (fail)
  go_wp2_with fail
  go_loopw [12, 43] (fun ov i wr => ∃ (k : Nat) (acc : List Int), k ≤ xn0 ∧ i = .int .i64 k ∧ acc.length ≤ k ∧ Hid (acc ++ meetGo n period ⟨p, ofa⟩ ⟨lnb, ofb⟩ (y.Stops.drop k) k = meetGo n period ⟨p, ofa⟩ ⟨lnb, ofb⟩ y.Stops 0) ∧ Hid (wr.ownsRow (w.heap.size + 1) 3 1 ov acc.length (acc.map (Value.int .i64))) ∧ Later wb wr) (fun _ i _ => xn0 - (intOf i).toNat)
  case atStart => exact ⟨0, [], by omega, rfl, by simp, by show _ = _; simp, Lib.hid ⟨rfl, .inl ⟨rfl, rfl⟩⟩, inferInstance⟩
  case round =>
    obtain ⟨k, acc, hk, rfl, hal, HF, hown, hX⟩ := hrel
    have hU := hww.trans hX
    by_cases hlt : k < xn0
    · obtain ⟨b1, o1, s, rfl, hs0, hcs, hsi⟩ := Ints.at_ hS hlt
      have HF1 := HF.out
      rw [drop_at hs0.out] at HF1
      simp only [meetGo] at HF1
      clear HF hs0 hsi
      by_cases heq : restOf n period ⟨p, ofa⟩ s = restOf n period ⟨lnb, ofb⟩ s
      · rw [if_pos heq] at HF1
        have HF2 : Hid ((acc ++ [(k : Int)]) ++ meetGo n period ⟨p, ofa⟩ ⟨lnb, ofb⟩ (y.Stops.drop (k + 1)) (k + 1) = meetGo n period ⟨p, ofa⟩ ⟨lnb, ofb⟩ y.Stops 0) := by show _ = _; rw [← HF1]; simp
        have e1 := (beqi_t heq).1
        have e2 := (beqi_t heq).2
        clear HF1 heq
        go_wp2_with fail
        go_region_held3 (fun w' => Later wb w' ∧ Later wr w') (exact ⟨inferInstance, inferInstance⟩) (first | ((with_reducible refine (impl_restAt H.out inferInstance NF.out period hp1 hp2 ⟨p, ofa⟩ QA.out.1 QA.out.2.1 QA.out.2.2.1 QA.out.2.2.2 s).mono ?_); rintro e w2 ⟨rfl, L2⟩; have X2 := Later.trans (w := wb) inferInstance L2; have Z2 := Later.trans (w := wr) inferInstance L2) | ((with_reducible refine (impl_restAt H.out inferInstance NF.out period hp1 hp2 ⟨lnb, ofb⟩ QB.out.1 QB.out.2.1 QB.out.2.2.1 QB.out.2.2.2 s).mono ?_); rintro e w3 ⟨rfl, L3⟩; have X3 := Later.trans (w := wb) inferInstance L3; have Z3 := Later.trans (w := wr) inferInstance L3))
        go_wp2_with (at_builtin; refine wpList_app_B rfl _ _ 63 rfl Try.underlying63 infoInt rfl (by decide) (by decide) rfl (by exact ownsRow_later hown.out (inferInstance : Later wr w3)) (inferInstance : Later wb w3) hbs (by have := Later.size (w := wb) (W := w3) inferInstance; omega) rfl rfl (one_cell _ _) (by omega) ?_; intro v' w4 hown' hX'; have hU4 := hww.trans hX')
        go_roundw
        case rel => exact ⟨k + 1, acc ++ [(k : Int)], by omega, by go_num, by simp; omega, HF2, by show World.ownsRow _ _ _ _ _ _ _; rw [List.map_append, List.length_append]; exact hown', inferInstance⟩
        case measure => simp [intOf]; omega
      · rw [if_neg heq] at HF1
        have HF2 := Lib.hid HF1
        have e1 := (beqi_f heq).1
        have e2 := (beqi_f heq).2
        clear HF1 heq
        go_wp2_with fail
        go_region_held3 (fun w' => Later wb w' ∧ Later wr w') (exact ⟨inferInstance, inferInstance⟩) (first | ((with_reducible refine (impl_restAt H.out inferInstance NF.out period hp1 hp2 ⟨p, ofa⟩ QA.out.1 QA.out.2.1 QA.out.2.2.1 QA.out.2.2.2 s).mono ?_); rintro e w2 ⟨rfl, L2⟩; have X2 := Later.trans (w := wb) inferInstance L2; have Z2 := Later.trans (w := wr) inferInstance L2) | ((with_reducible refine (impl_restAt H.out inferInstance NF.out period hp1 hp2 ⟨lnb, ofb⟩ QB.out.1 QB.out.2.1 QB.out.2.2.1 QB.out.2.2.2 s).mono ?_); rintro e w3 ⟨rfl, L3⟩; have X3 := Later.trans (w := wb) inferInstance L3; have Z3 := Later.trans (w := wr) inferInstance L3))
        go_wp2_with fail
        go_roundw
        case rel => exact ⟨k + 1, acc, by omega, by go_num, by omega, HF2, ownsRow_later hown.out (inferInstance : Later wr _), inferInstance⟩
        case measure => simp [intOf]; omega
    · have HE : Hid (acc = meetGo n period ⟨p, ofa⟩ ⟨lnb, ofb⟩ y.Stops 0) := by
        have h3 := HF.out
        rw [List.drop_eq_nil_of_le (by have := Hsl.out; omega)] at h3
        exact (by simpa [meetGo] using h3 : acc = _)
      clear HF
      go_wp2
      go_ret2
      obtain ⟨A, c, fp, rfl, ho, hnd, hlo⟩ := OSl.ints_of_own hown.out (fun y' hy' => by
        have := meetGo_bd n period ⟨p, ofa⟩ ⟨lnb, ofb⟩ y.Stops 0 y' (by rw [← HE.out]; exact hy')
        have := Hsl.out
        unfold I64; omega)
      refine ⟨A, acc.length, c, fp, rfl, by rw [← HE.out]; exact ho, hnd, fun g hg => by have := hlo g hg; omega, hww.trans inferInstance⟩

set_option maxHeartbeats 1000000 in
theorem spec_MeetingTimes {w0 w w2 : World} {sA0 : Option Addr} {sn0 sc0 : Nat} {sA1 : Option Addr} {sn1 sc1 : Nat} {n : Network} (h : NetworkAt w0 sA0 sn0 sc0 sA1 sn1 sc1 n) (hl : Later w0 w) (period : Int) {qA : Option Addr} {qn qc : Nat} {l : List Pattern} (h2 : Patterns w2 qA qn qc l) (hl2 : Later w2 w) (a b' : Int) :
    Calls Try.prog 35 #[.agg #[.slice sA0 sn0 sc0, .slice sA1 sn1 sc1], .int .i64 period, .slice qA qn qc, .int .i64 a, .int .i64 b'] w (RetO2 1 oInt (meetRes n period l a b').1 (meetRes n period l a b').2 w) := by
  replace h := h.later hl
  replace h2 := h2.later hl2
  have Hl := Lib.hid h2.len
  have hq := h2.le
  have hP := h.l_Lines
  have h20 := h2
  by_cases c1 : okPatterns n period l = true
  rotate_left
  · have g1 : okPatterns n period l = false := by simpa using c1
    have HR : Hid (meetRes n period l a b' = ([], false)) := by show _ = _; unfold meetRes meetOk; rw [g1]; rfl
    clear c1
    have HB0 : ∀ W [Later (w.alloc (.cells #[.slice sA0 sn0 sc0, .slice sA1 sn1 sc1] 32)) W] (j : Nat), W.cell? ⟨w.heap.size, j, none⟩ = #[.slice sA0 sn0 sc0, .slice sA1 sn1 sc1][j]? := Later.boxes (t := 32) (fr := (0, 0)) (heap_new (by simp; try omega)); obtain ⟨wb, hwb⟩ : ∃ wb : World, wb = (w.alloc (.cells #[.slice sA0 sn0 sc0, .slice sA1 sn1 sc1] 32)) := ⟨_, rfl⟩; haveI hbW : Later wb (w.alloc (.cells #[.slice sA0 sn0 sc0, .slice sA1 sn1 sc1] 32)) := (by rw [hwb]; exact Later.rfl_); haveI hww : Later w wb := (by rw [hwb]; infer_instance); rw [← hwb] at HB0; have hbE := Lib.hid (congrArg (fun x : World => x.heap.size) hwb); clear hwb
    replace h := h.later hww
    replace h2 := h2.later hww
    have H := Lib.hid h
    have H2 := Lib.hid h2
    rw [HR.out]
    clear h h2
    go_enter Try.func35, Try.ntmps35
    go_wp2_with first
      | (go_at_call 59; refine (spec_l10Good H.out inferInstance _ H2.out inferInstance).mono ?_; rintro e w1 ⟨rfl, L1⟩; have X1 := Later.trans (w := wb) inferInstance L1)
      | (go_at_call 75; refine (spec_l1In _ _ _ _).mono ?_; rintro e w' ⟨rfl, rfl⟩)
    go_ret2
    exact ⟨_, _, _, [], rfl, OSl.nil_ _, by simp, by simp, hww.trans inferInstance⟩
  by_cases c2 : inB a 0 ((qn : Int) - 1) = true
  rotate_left
  · have g1 : inB a 0 ((qn : Int) - 1) = false := by simpa using c2
    have HR : Hid (meetRes n period l a b' = ([], false)) := by show _ = _; unfold meetRes meetOk; rw [← Hl.out, g1]; simp
    clear c2
    have HB0 : ∀ W [Later (w.alloc (.cells #[.slice sA0 sn0 sc0, .slice sA1 sn1 sc1] 32)) W] (j : Nat), W.cell? ⟨w.heap.size, j, none⟩ = #[.slice sA0 sn0 sc0, .slice sA1 sn1 sc1][j]? := Later.boxes (t := 32) (fr := (0, 0)) (heap_new (by simp; try omega)); obtain ⟨wb, hwb⟩ : ∃ wb : World, wb = (w.alloc (.cells #[.slice sA0 sn0 sc0, .slice sA1 sn1 sc1] 32)) := ⟨_, rfl⟩; haveI hbW : Later wb (w.alloc (.cells #[.slice sA0 sn0 sc0, .slice sA1 sn1 sc1] 32)) := (by rw [hwb]; exact Later.rfl_); haveI hww : Later w wb := (by rw [hwb]; infer_instance); rw [← hwb] at HB0; have hbE := Lib.hid (congrArg (fun x : World => x.heap.size) hwb); clear hwb
    replace h := h.later hww
    replace h2 := h2.later hww
    have H := Lib.hid h
    have H2 := Lib.hid h2
    rw [HR.out]
    clear h h2
    go_enter Try.func35, Try.ntmps35
    go_wp2_with first
      | (go_at_call 59; refine (spec_l10Good H.out inferInstance _ H2.out inferInstance).mono ?_; rintro e w1 ⟨rfl, L1⟩; have X1 := Later.trans (w := wb) inferInstance L1)
      | (go_at_call 75; refine (spec_l1In _ _ _ _).mono ?_; rintro e w' ⟨rfl, rfl⟩)
    go_ret2
    exact ⟨_, _, _, [], rfl, OSl.nil_ _, by simp, by simp, hww.trans inferInstance⟩
  by_cases c3 : inB b' 0 ((qn : Int) - 1) = true
  rotate_left
  · have g1 : inB b' 0 ((qn : Int) - 1) = false := by simpa using c3
    have HR : Hid (meetRes n period l a b' = ([], false)) := by show _ = _; unfold meetRes meetOk; rw [← Hl.out, g1]; simp
    clear c3
    have HB0 : ∀ W [Later (w.alloc (.cells #[.slice sA0 sn0 sc0, .slice sA1 sn1 sc1] 32)) W] (j : Nat), W.cell? ⟨w.heap.size, j, none⟩ = #[.slice sA0 sn0 sc0, .slice sA1 sn1 sc1][j]? := Later.boxes (t := 32) (fr := (0, 0)) (heap_new (by simp; try omega)); obtain ⟨wb, hwb⟩ : ∃ wb : World, wb = (w.alloc (.cells #[.slice sA0 sn0 sc0, .slice sA1 sn1 sc1] 32)) := ⟨_, rfl⟩; haveI hbW : Later wb (w.alloc (.cells #[.slice sA0 sn0 sc0, .slice sA1 sn1 sc1] 32)) := (by rw [hwb]; exact Later.rfl_); haveI hww : Later w wb := (by rw [hwb]; infer_instance); rw [← hwb] at HB0; have hbE := Lib.hid (congrArg (fun x : World => x.heap.size) hwb); clear hwb
    replace h := h.later hww
    replace h2 := h2.later hww
    have H := Lib.hid h
    have H2 := Lib.hid h2
    rw [HR.out]
    clear h h2
    go_enter Try.func35, Try.ntmps35
    go_wp2_with first
      | (go_at_call 59; refine (spec_l10Good H.out inferInstance _ H2.out inferInstance).mono ?_; rintro e w1 ⟨rfl, L1⟩; have X1 := Later.trans (w := wb) inferInstance L1)
      | (go_at_call 75; refine (spec_l1In _ _ _ _).mono ?_; rintro e w' ⟨rfl, rfl⟩)
    go_ret2
    exact ⟨_, _, _, [], rfl, OSl.nil_ _, by simp, by simp, hww.trans inferInstance⟩
  have pf := patFacts c1
  have d2 := inB_t.1 c2
  have d3 := inB_t.1 c3
  obtain ⟨ma, rfl⟩ := Int.eq_ofNat_of_zero_le d2.1
  obtain ⟨mb, rfl⟩ := Int.eq_ofNat_of_zero_le d3.1
  have hma : ma < qn := by omega
  have hmb : mb < qn := by omega
  obtain ⟨ba, oa, ⟨lna, ofa⟩, rfl, hxa, ha0, ha1, hia⟩ := Patterns.at_ h2 hma
  obtain ⟨bb, ob, ⟨lnb, ofb⟩, hAb, hxb, hb0, hb1, hib⟩ := Patterns.at_ h2 hmb
  cases hAb
  simp only at ha0 ha1 hb0 hb1
  have qa := pf.pat ma _ hxa.out
  have qb := pf.pat mb _ hxb.out
  simp only at qa qb
  obtain ⟨p, rfl⟩ := Int.eq_ofNat_of_zero_le qa.1
  have hp : p < sn1 := by rw [hP.len]; omega
  have hsn : sn1 ≤ 9223372036854775807 := hP.le
  obtain ⟨b, o, xA0, xn0, xc0, xA1, xn1, xc1, y, rfl, hy, hc0, hc1, hc2, hi⟩ := Lines.at_ hP hp
  have lf := (netFacts pf.net).line p y hy.out
  have hS := hi.l_Stops
  have hn6 : xn0 ≤ 6 := by rw [hS.len]; exact lf.stops.2
  have Hsl : Hid (xn0 = y.Stops.length) := hS.len
  have hp1 := pf.per.1
  have hp2 := pf.per.2
  have NF := Lib.hid (netFacts pf.net)
  have QA := Lib.hid qa
  have QB := Lib.hid qb
  rw [show meetRes n period l ma mb = (meetGo n period ⟨p, ofa⟩ ⟨lnb, ofb⟩ y.Stops 0, true) from by
    unfold meetRes meetOk
    rw [c1, ← Hl.out, c2, c3, patI_of hxa.out, patI_of hxb.out, lineN_of hy.out]; rfl]
  have HB0 : ∀ W [Later (w.alloc (.cells #[.slice sA0 sn0 sc0, .slice (some ⟨b, o, none⟩) sn1 sc1] 32)) W] (j : Nat), W.cell? ⟨w.heap.size, j, none⟩ = #[.slice sA0 sn0 sc0, .slice (some ⟨b, o, none⟩) sn1 sc1][j]? := Later.boxes (t := 32) (fr := (0, 0)) (heap_new (by simp; try omega)); obtain ⟨wb, hwb⟩ : ∃ wb : World, wb = (w.alloc (.cells #[.slice sA0 sn0 sc0, .slice (some ⟨b, o, none⟩) sn1 sc1] 32)) := ⟨_, rfl⟩; haveI hbW : Later wb (w.alloc (.cells #[.slice sA0 sn0 sc0, .slice (some ⟨b, o, none⟩) sn1 sc1] 32)) := (by rw [hwb]; exact Later.rfl_); haveI hww : Later w wb := (by rw [hwb]; infer_instance); rw [← hwb] at HB0; have hbE := Lib.hid (congrArg (fun x : World => x.heap.size) hwb); clear hwb
  have hbs : wb.heap.size ≤ w.heap.size + 1 := by have := hbW.size; simpa using this
  have hbs2 : w.heap.size + 1 ≤ wb.heap.size := by have := hbE.out; simp at this; omega
  replace h := h.later hww
  replace h2 := h2.later hww
  replace hS := hS.later hww
  replace ha0 := shift hww ha0
  replace ha1 := shift hww ha1
  replace hb0 := shift hww hb0
  replace hb1 := shift hww hb1
  replace hc1 := shift hww hc1
  have H := Lib.hid h
  have H2 := Lib.hid h2
  clear h h2 hxa hxb hia hib qa qb hy hc0 hc2 hi lf pf d2 d3
  go_enter Try.func35, Try.ntmps35
  go_wp2_with first
    | (go_at_call 59; refine (spec_l10Good H.out inferInstance _ H2.out inferInstance).mono ?_; rintro e w1 ⟨rfl, L1⟩; have X1 := Later.trans (w := wb) inferInstance L1)
    | (go_at_call 75; refine (spec_l1In _ _ _ _).mono ?_; rintro e w' ⟨rfl, rfl⟩)
  clear c1 c2 c3
  go_region_held3 (fun w' => Later wb w') (exact inferInstance) (fail)
  go_wp2_with fail
  go_loopw [12, 14] (fun ov i wr => ∃ (k : Nat) (acc : List Int), k ≤ xn0 ∧ i = .int .i64 k ∧ acc.length ≤ k ∧ Hid (acc ++ meetGo n period ⟨p, ofa⟩ ⟨lnb, ofb⟩ (y.Stops.drop k) k = meetGo n period ⟨p, ofa⟩ ⟨lnb, ofb⟩ y.Stops 0) ∧ Hid (wr.ownsRow (w.heap.size + 1) 3 1 ov acc.length (acc.map (Value.int .i64))) ∧ Later wb wr) (fun _ i _ => xn0 - (intOf i).toNat)
  case atStart => exact ⟨0, [], by omega, rfl, by simp, by show _ = _; simp, Lib.hid (ownsRow_later (by simpa using World.ownsRow_lit (base := w.heap.size + 1) (e := 3) (size := 1) (w.alloc (.cells #[.slice sA0 sn0 sc0, .slice (some ⟨b, o, none⟩) sn1 sc1] 32)) #[] 0 (by simp; try omega) (by simp [maxLen]) rfl) (inferInstance : Later ((w.alloc (.cells #[.slice sA0 sn0 sc0, .slice (some ⟨b, o, none⟩) sn1 sc1] 32)).alloc (.cells #[] 3)) _)), inferInstance⟩
  case round =>
    obtain ⟨k, acc, hk, rfl, hal, HF, hown, hX⟩ := hrel
    have hU := hww.trans hX
    by_cases hlt : k < xn0
    · obtain ⟨b1, o1, s, rfl, hs0, hcs, hsi⟩ := Ints.at_ hS hlt
      have HF1 := HF.out
      rw [drop_at hs0.out] at HF1
      simp only [meetGo] at HF1
      clear HF hs0 hsi
      by_cases heq : restOf n period ⟨p, ofa⟩ s = restOf n period ⟨lnb, ofb⟩ s
      · rw [if_pos heq] at HF1
        have HF2 : Hid ((acc ++ [(k : Int)]) ++ meetGo n period ⟨p, ofa⟩ ⟨lnb, ofb⟩ (y.Stops.drop (k + 1)) (k + 1) = meetGo n period ⟨p, ofa⟩ ⟨lnb, ofb⟩ y.Stops 0) := by show _ = _; rw [← HF1]; simp
        have e1 := (beqi_t heq).1
        have e2 := (beqi_t heq).2
        clear HF1 heq
        go_wp2_with fail
        go_region_held3 (fun w' => Later wb w' ∧ Later wr w') (exact ⟨inferInstance, inferInstance⟩) (first | ((with_reducible refine (spec_l10Rest H.out inferInstance NF.out period hp1 hp2 ⟨p, ofa⟩ QA.out.1 QA.out.2.1 QA.out.2.2.1 QA.out.2.2.2 s).mono ?_); rintro e w3 ⟨rfl, L3⟩; have X3 := Later.trans (w := wb) inferInstance L3; have Z3 := Later.trans (w := wr) inferInstance L3) | ((with_reducible refine (spec_l10Rest H.out inferInstance NF.out period hp1 hp2 ⟨lnb, ofb⟩ QB.out.1 QB.out.2.1 QB.out.2.2.1 QB.out.2.2.2 s).mono ?_); rintro e w2 ⟨rfl, L2⟩; have X2 := Later.trans (w := wb) inferInstance L2; have Z2 := Later.trans (w := wr) inferInstance L2))
        go_wp2_with (at_builtin; refine wpList_app_B rfl _ _ 63 rfl Try.underlying63 infoInt rfl (by decide) (by decide) rfl (by exact ownsRow_later hown.out (inferInstance : Later wr w3)) (inferInstance : Later wb w3) hbs (by have := Later.size (w := wb) (W := w3) inferInstance; omega) rfl rfl (one_cell _ _) (by omega) ?_; intro v' w4 hown' hX'; have hU4 := hww.trans hX')
        go_roundw
        case rel => exact ⟨k + 1, acc ++ [(k : Int)], by omega, by go_num, by simp; omega, HF2, by show World.ownsRow _ _ _ _ _ _ _; rw [List.map_append, List.length_append]; exact hown', inferInstance⟩
        case measure => simp [intOf]; omega
      · rw [if_neg heq] at HF1
        have HF2 := Lib.hid HF1
        have e1 := (beqi_f heq).1
        have e2 := (beqi_f heq).2
        clear HF1 heq
        go_wp2_with fail
        go_region_held3 (fun w' => Later wb w' ∧ Later wr w') (exact ⟨inferInstance, inferInstance⟩) (first | ((with_reducible refine (spec_l10Rest H.out inferInstance NF.out period hp1 hp2 ⟨p, ofa⟩ QA.out.1 QA.out.2.1 QA.out.2.2.1 QA.out.2.2.2 s).mono ?_); rintro e w3 ⟨rfl, L3⟩; have X3 := Later.trans (w := wb) inferInstance L3; have Z3 := Later.trans (w := wr) inferInstance L3) | ((with_reducible refine (spec_l10Rest H.out inferInstance NF.out period hp1 hp2 ⟨lnb, ofb⟩ QB.out.1 QB.out.2.1 QB.out.2.2.1 QB.out.2.2.2 s).mono ?_); rintro e w2 ⟨rfl, L2⟩; have X2 := Later.trans (w := wb) inferInstance L2; have Z2 := Later.trans (w := wr) inferInstance L2))
        go_wp2_with fail
        go_roundw
        case rel => exact ⟨k + 1, acc, by omega, by go_num, by omega, HF2, ownsRow_later hown.out (inferInstance : Later wr _), inferInstance⟩
        case measure => simp [intOf]; omega
    · have HE : Hid (acc = meetGo n period ⟨p, ofa⟩ ⟨lnb, ofb⟩ y.Stops 0) := by
        have h3 := HF.out
        rw [List.drop_eq_nil_of_le (by have := Hsl.out; omega)] at h3
        exact (by simpa [meetGo] using h3 : acc = _)
      clear HF
      go_wp2
      go_ret2
      obtain ⟨A, c, fp, rfl, ho, hnd, hlo⟩ := OSl.ints_of_own hown.out (fun y' hy' => by
        have := meetGo_bd n period ⟨p, ofa⟩ ⟨lnb, ofb⟩ y.Stops 0 y' (by rw [← HE.out]; exact hy')
        have := Hsl.out
        unfold I64; omega)
      refine ⟨A, acc.length, c, fp, rfl, by rw [← HE.out]; exact ho, hnd, fun g hg => by have := hlo g hg; omega, hww.trans inferInstance⟩
end Go.Proofs.Ytnbaballbbmibaa
