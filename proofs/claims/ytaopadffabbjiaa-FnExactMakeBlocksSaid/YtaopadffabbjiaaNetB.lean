/-
  Networks: lines, and when a network is valid.
-/
import Derived.Test.YtaopadffabbjiaaNet
import Derived.Deep.RegionHeld3
namespace Go.Proofs.Ytaopadffabbjiaa
open Go Go.RowKit
set_option linter.unusedVariables false
set_option maxRecDepth 100000
/-- The call returned a slice that reads as l. -/
def RetR {α : Type} (sz : Nat) (r : Rep α) (l : List α) (w : World) (e : Ending) (w' : World) : Prop := ∃ A n c, e = .returned (.slice A n c) ∧ Sl sz r w' A n c l ∧ Later w w'
def okLineS (ns : Nat) (x : Line) : Bool := okName x.Name && okLine ns x
theorem okNetwork_spec (n : Network) : okNetwork n = (inB n.Stops.length 2 8 && inB n.Lines.length 1 5 && okNames n.Stops && allFrom (fun i x => okLineS n.Stops.length x && decide (idx (fun y => nameIs x.Name y.Name) n.Lines = (i : Int))) n.Lines 0) := by
  unfold okNetwork
  rw [show okNames (n.Lines.map Line.Name) = allFrom (fun i x => okName x.Name && decide (idx (fun y => nameIs x.Name y.Name) n.Lines = (i : Int))) n.Lines 0 from by
    unfold okNames
    rw [allFrom_map]
    exact allFrom_congr fun j x _ => by simp only [nameAt, idx_map]]
  rw [Bool.and_assoc, ← allFrom_all (okLine n.Stops.length) n.Lines 0, ← allFrom_and]
  congr 1
  exact allFrom_congr fun j x _ => by
    unfold okLineS
    cases okName x.Name <;> cases okLine n.Stops.length x <;> simp
theorem bnei_f {a b : Int} (h : a = b) : (a != b) = false := by simp [h]
theorem bnei_t {a b : Int} (h : ¬ a = b) : (a != b) = true := by simp [h]
theorem impl_isStop {w0 w : World} {sA0 : Option Addr} {sn0 sc0 : Nat} {sA1 : Option Addr} {sn1 sc1 : Nat} {r : Network} (h : NetworkAt w0 sA0 sn0 sc0 sA1 sn1 sc1 r) (hl : Later w0 w) (v : Int) :
    Calls Try.prog 63 #[.agg #[.slice sA0 sn0 sc0, .slice sA1 sn1 sc1], .int .i64 v] w (Ret (.bool (inB v 0 ((r.Stops.length : Int) - 1))) w) := by
  replace h := h.later hl
  have hS := h.l_Stops
  have hn := hS.le
  have Hl := Lib.hid hS.len
  have HB0 : ∀ W [Later (w.alloc (.cells #[.slice sA0 sn0 sc0, .slice sA1 sn1 sc1] 38)) W] (j : Nat), W.cell? ⟨w.heap.size, j, none⟩ = #[.slice sA0 sn0 sc0, .slice sA1 sn1 sc1][j]? := Later.boxes (t := 38) (fr := (0, 0)) (heap_new (by simp; try omega))
  by_cases h0 : 0 ≤ v
  · by_cases h1 : v < sn0
    · have HN : Hid (inB v 0 ((r.Stops.length : Int) - 1) = true) := by show _ = _; rw [inB_t, ← Hl.out]; omega
      go_enter Try.func63, Try.ntmps63
      go_wp2
      go_ret
      exact ⟨ret_bool HN.out.symm, inferInstance⟩
    · have HN : Hid (inB v 0 ((r.Stops.length : Int) - 1) = false) := by show _ = _; rw [inB_f, ← Hl.out]; omega
      go_enter Try.func63, Try.ntmps63
      go_wp2
      go_ret
      exact ⟨ret_bool HN.out.symm, inferInstance⟩
  · have HN : Hid (inB v 0 ((r.Stops.length : Int) - 1) = false) := by show _ = _; rw [inB_f, ← Hl.out]; omega
    go_enter Try.func63, Try.ntmps63
    go_wp2
    go_ret
    exact ⟨ret_bool HN.out.symm, inferInstance⟩
theorem impl_isLine {w0 w : World} {sA0 : Option Addr} {sn0 sc0 : Nat} {sA1 : Option Addr} {sn1 sc1 : Nat} {r : Network} (h : NetworkAt w0 sA0 sn0 sc0 sA1 sn1 sc1 r) (hl : Later w0 w) (v : Int) :
    Calls Try.prog 136 #[.agg #[.slice sA0 sn0 sc0, .slice sA1 sn1 sc1], .int .i64 v] w (Ret (.bool (inB v 0 ((r.Lines.length : Int) - 1))) w) := by
  replace h := h.later hl
  have hS := h.l_Lines
  have hn := hS.le
  have Hl := Lib.hid hS.len
  have HB0 : ∀ W [Later (w.alloc (.cells #[.slice sA0 sn0 sc0, .slice sA1 sn1 sc1] 38)) W] (j : Nat), W.cell? ⟨w.heap.size, j, none⟩ = #[.slice sA0 sn0 sc0, .slice sA1 sn1 sc1][j]? := Later.boxes (t := 38) (fr := (0, 0)) (heap_new (by simp; try omega))
  by_cases h0 : 0 ≤ v
  · by_cases h1 : v < sn1
    · have HN : Hid (inB v 0 ((r.Lines.length : Int) - 1) = true) := by show _ = _; rw [inB_t, ← Hl.out]; omega
      go_enter Try.func136, Try.ntmps136
      go_wp2
      go_ret
      exact ⟨ret_bool HN.out.symm, inferInstance⟩
    · have HN : Hid (inB v 0 ((r.Lines.length : Int) - 1) = false) := by show _ = _; rw [inB_f, ← Hl.out]; omega
      go_enter Try.func136, Try.ntmps136
      go_wp2
      go_ret
      exact ⟨ret_bool HN.out.symm, inferInstance⟩
  · have HN : Hid (inB v 0 ((r.Lines.length : Int) - 1) = false) := by show _ = _; rw [inB_f, ← Hl.out]; omega
    go_enter Try.func136, Try.ntmps136
    go_wp2
    go_ret
    exact ⟨ret_bool HN.out.symm, inferInstance⟩
theorem impl_areNames {w0 w : World} {A : Option Addr} {n c : Nat} {l : List ByteArray} (h : Strs w0 A n c l) (hl : Later w0 w) :
    Calls Try.prog 133 #[.slice A n c] w (Ret (.bool (okNames l)) w) := by
  replace h := h.later hl
  have hn := h.le
  have Hl := Lib.hid h.len
  go_enter Try.func133, Try.ntmps133
  go_wp2
  go_loopw [7] (fun i wr => ∃ k : Nat, k ≤ n ∧ i = .int .i64 k ∧ Hid (allFrom (nameAt l) (l.drop k) k = okNames l) ∧ Later w wr) (fun i _ => n - (intOf i).toNat)
  case atStart => exact ⟨0, by omega, rfl, rfl, inferInstance⟩
  case round =>
    obtain ⟨k, hk, rfl, HF, hX⟩ := hrel
    by_cases hlt : k < n
    · have H := Lib.hid h
      obtain ⟨b, o, x, rfl, hx, hc, hi⟩ := Strs.at_ h hlt
      have HF1 : Hid (okNames l = (nameAt l k x && allFrom (nameAt l) (l.drop (k + 1)) (k + 1))) := by rw [← HF.out, drop_at hx.out]; rfl
      clear HF
      by_cases c1 : okName x = true
      · by_cases c2 : idx (nameIs x) l = k
        · have HF2 : Hid (allFrom (nameAt l) (l.drop (k + 1)) (k + 1) = okNames l) := by rw [HF1.out]; unfold nameAt; rw [c1, decide_eq_true c2]; rfl
          have e2 := bnei_f c2
          clear HF1 c2
          go_wp2_with first
            | (go_at_call 147; refine (impl_isName _ hi _).mono ?_; rintro e w' ⟨rfl, rfl⟩)
            | (go_at_call 148; refine (slices_IndexStr H.out inferInstance _).mono ?_; rintro e w1 ⟨rfl, L1⟩; have hY := Later.trans (w := w) inferInstance L1)
          go_roundw
          case rel => exact ⟨k + 1, by omega, by go_num, HF2, inferInstance⟩
          case measure => simp [intOf]; omega
        · have HF2 : Hid (okNames l = false) := by show _ = _; rw [HF1.out]; unfold nameAt; rw [decide_eq_false c2]; simp
          have e2 := bnei_t c2
          clear HF1 c2
          go_wp2_with first
            | (go_at_call 147; refine (impl_isName _ hi _).mono ?_; rintro e w' ⟨rfl, rfl⟩)
            | (go_at_call 148; refine (slices_IndexStr H.out inferInstance _).mono ?_; rintro e w1 ⟨rfl, L1⟩; have hY := Later.trans (w := w) inferInstance L1)
          go_ret
          exact ⟨ret_bool HF2.out.symm, inferInstance⟩
      · have c3 : okName x = false := by simpa using c1
        have HF2 : Hid (okNames l = false) := by show _ = _; rw [HF1.out]; unfold nameAt; rw [c3]; simp
        clear HF1 c1
        go_wp2_with (go_at_call 147; refine (impl_isName _ hi _).mono ?_; rintro e w' ⟨rfl, rfl⟩)
        go_ret
        exact ⟨ret_bool HF2.out.symm, inferInstance⟩
    · have HF2 : Hid (okNames l = true) := by show _ = _; rw [← HF.out, List.drop_eq_nil_of_le (by have := Hl.out; omega)]; rfl
      clear HF
      go_wp2
      go_ret
      exact ⟨ret_bool HF2.out.symm, inferInstance⟩
theorem impl_lineNames {w0 w : World} {sA0 : Option Addr} {sn0 sc0 : Nat} {sA1 : Option Addr} {sn1 sc1 : Nat} {r : Network} (h : NetworkAt w0 sA0 sn0 sc0 sA1 sn1 sc1 r) (hl : Later w0 w) (hn : sn1 ≤ 1048576) :
    Calls Try.prog 134 #[.agg #[.slice sA0 sn0 sc0, .slice sA1 sn1 sc1]] w (RetR 1 rStr (r.Lines.map Line.Name) w) := by
  obtain ⟨C0, hC0, hmk⟩ := make_row (P := Try.prog) 22 9 Try.underlying22 (show _ = some (some (.string ByteArray.empty), 1, 16) by kernel_rfl) sn1 (by omega) (by omega)
  replace h := h.later hl
  have hS := h.l_Lines
  have Hl := Lib.hid hS.len
  have HB0 : ∀ W [Later (w.alloc (.cells #[.slice sA0 sn0 sc0, .slice sA1 sn1 sc1] 38)) W] (j : Nat), W.cell? ⟨w.heap.size, j, none⟩ = #[.slice sA0 sn0 sc0, .slice sA1 sn1 sc1][j]? := Later.boxes (t := 38) (fr := (0, 0)) (heap_new (by simp; try omega))
  go_enter Try.func134, Try.ntmps134
  go_wp2
  go_loopw [13] (fun i wr => ∃ (k : Nat) (cs : Array Value), k ≤ sn1 ∧ i = .int .i64 k ∧ Blk wr (w.heap.size + 1) 9 cs ∧ cs.size = sn1 ∧ (∀ (j : Nat) (x : Line), j < k → r.Lines[j]? = some x → cs[j]? = some (.string x.Name) ∧ x.Name.size ≤ maxLen) ∧ Later (w.alloc (.cells #[.slice sA0 sn0 sc0, .slice sA1 sn1 sc1] 38)) wr) (fun i _ => sn1 - (intOf i).toNat)
  case atStart => exact ⟨0, C0, by omega, rfl, heap_new (by simp), by omega, fun j x hj => by omega, inferInstance⟩
  case round =>
    obtain ⟨k, cs, hk, rfl, hB, hsz, hcs, hX⟩ := hrel
    have hU := Later.trans (w := w) inferInstance hX
    have HB := Lib.hid hB
    have HS := Lib.hid hcs
    have Hsz := Lib.hid hsz
    haveI hN : New (w.alloc (.cells #[.slice sA0 sn0 sc0, .slice sA1 sn1 sc1] 38)) (w.heap.size + 1) := ⟨by simp⟩
    haveI hN2 : New w (w.heap.size + 1) := ⟨by omega⟩
    by_cases hlt : k < sn1
    · obtain ⟨b, o, xA0, xn0, xc0, xA1, xn1, xc1, x, rfl, hx, hc0, hc1, hc2, hi⟩ := Lines.at_ hS hlt
      obtain ⟨v0, hv0⟩ := hB.get (i := k) (by omega)
      have hfz := hB.frozen k
      have hbl := hB.lt
      have hs := hi.s_Name
      clear hB hcs hsz
      go_wp2
      go_roundw
      case rel =>
        refine ⟨k + 1, cs.setIfInBounds k (.string x.Name), by omega, by go_num, (HB.out.set_ k _).alloc _, by have := Hsz.out; simpa using this, fun j y hj hy => ?_, inferInstance⟩
        by_cases e : j = k
        · subst e
          rw [set_eq _ (by have := Hsz.out; omega), Option.some.inj (hx.out.symm.trans hy)]
          rw [Option.some.inj (hx.out.symm.trans hy)] at hs
          exact ⟨rfl, hs⟩
        · rw [set_ne _ e]; exact HS.out j y (by omega) hy
      case measure => simp [intOf]; omega
    · clear hB hcs hsz
      go_wp2
      go_ret
      refine ⟨_, _, _, rfl, (OSl.strs_blk HB.out (by have := Hl.out; simpa using this) (by omega) (fun j x hx => ?_)).reads, inferInstance⟩
      rw [List.getElem?_map] at hx
      obtain ⟨y, hy, rfl⟩ := Option.map_eq_some_iff.1 hx
      exact HS.out j y (by have := (List.getElem?_eq_some_iff.1 hy).1; have := Hl.out; omega) hy

theorem okLine_no1 {ns : Nat} {x : Line} (h : inB x.Stops.length 2 6 = false) : okLine ns x = false := by unfold okLine; rw [h]; rfl
theorem okLine_no2 {ns : Nat} {x : Line} (h : ¬ x.Runs.length + 1 = x.Stops.length) : okLine ns x = false := by unfold okLine; rw [decide_eq_false h]; simp
theorem okLine_no3 {ns : Nat} {x : Line} (h : allFrom (stopAt ns x.Stops) x.Stops 0 = false) : okLine ns x = false := by unfold okLine; rw [h]; simp
theorem okLine_no4 {ns : Nat} {x : Line} (h : x.Runs.all (fun r => inB r 1 60) = false) : okLine ns x = false := by unfold okLine; rw [h]; simp
theorem okLine_yes {ns : Nat} {x : Line} (h1 : inB x.Stops.length 2 6 = true) (h2 : x.Runs.length + 1 = x.Stops.length) (h3 : allFrom (stopAt ns x.Stops) x.Stops 0 = true) (h4 : x.Runs.all (fun r => inB r 1 60) = true) : okLine ns x = true := by
  unfold okLine; rw [h1, decide_eq_true h2, h3, h4]; rfl
theorem stopAt_no1 {ns : Nat} {l : List Int} {k : Nat} {x : Int} (h : inB x 0 ((ns : Int) - 1) = false) : stopAt ns l k x = false := by unfold stopAt; rw [h]; rfl
theorem stopAt_no2 {ns : Nat} {l : List Int} {k : Nat} {x : Int} (h : ¬ idx (intIs x) l = k) : stopAt ns l k x = false := by unfold stopAt; rw [decide_eq_false h]; simp
theorem stopAt_yes {ns : Nat} {l : List Int} {k : Nat} {x : Int} (h : inB x 0 ((ns : Int) - 1) = true) (h2 : idx (intIs x) l = k) : stopAt ns l k x = true := by unfold stopAt; rw [h, decide_eq_true h2]; rfl
set_option maxHeartbeats 400000 in
theorem impl_isValidLine {w0 w : World} {sA0 : Option Addr} {sn0 sc0 : Nat} {sA1 : Option Addr} {sn1 sc1 : Nat} {r : Network} (h : NetworkAt w0 sA0 sn0 sc0 sA1 sn1 sc1 r) (hl : Later w0 w) {qA0 : Option Addr} {qn0 qc0 : Nat} {qA1 : Option Addr} {qn1 qc1 : Nat} {x : Line} (h' : LineAt w0 qA0 qn0 qc0 qA1 qn1 qc1 x) :
    Calls Try.prog 135 #[.agg #[.slice sA0 sn0 sc0, .slice sA1 sn1 sc1], .agg #[.string x.Name, .slice qA0 qn0 qc0, .slice qA1 qn1 qc1]] w (Ret (.bool (okLine r.Stops.length x)) w) := by
  replace h := h.later hl
  replace h' := h'.later hl
  have hS := h'.l_Stops
  have hR := h'.l_Runs
  have hn0 := hS.le
  have hn1 := hR.le
  have Hls := Lib.hid hS.len
  have Hlr := Lib.hid hR.len
  have HB0 : ∀ W [Later ((w.alloc (.cells #[.slice sA0 sn0 sc0, .slice sA1 sn1 sc1] 38)).alloc (.cells #[.string x.Name, .slice qA0 qn0 qc0, .slice qA1 qn1 qc1] 109)) W] (j : Nat), W.cell? ⟨w.heap.size, j, none⟩ = #[.slice sA0 sn0 sc0, .slice sA1 sn1 sc1][j]? := Later.boxes (t := 38) (fr := (0, 0)) ((heap_old (by simp; try omega)).trans (heap_new (by simp; try omega))); have HB1 : ∀ W [Later ((w.alloc (.cells #[.slice sA0 sn0 sc0, .slice sA1 sn1 sc1] 38)).alloc (.cells #[.string x.Name, .slice qA0 qn0 qc0, .slice qA1 qn1 qc1] 109)) W] (j : Nat), W.cell? ⟨w.heap.size + 1, j, none⟩ = #[.string x.Name, .slice qA0 qn0 qc0, .slice qA1 qn1 qc1][j]? := Later.boxes (t := 109) (fr := (0, 0)) (heap_new (by simp; try omega))
  by_cases b1 : inB qn0 2 6 = true
  rotate_left
  · have g1 : inB qn0 2 6 = false := by simpa using b1
    have HN : Hid (okLine r.Stops.length x = false) := okLine_no1 (by rw [← Hls.out]; exact g1)
    clear b1
    go_enter Try.func135, Try.ntmps135
    go_wp2_with (go_at_call 112; refine (impl_within _ _ _ _).mono ?_; rintro e w' ⟨rfl, rfl⟩)
    go_ret
    exact ⟨ret_bool HN.out.symm, inferInstance⟩
  have c2 := inB_t.1 b1
  have hq1 : 2 ≤ qn0 := by omega
  have hq2 : qn0 ≤ 6 := by omega
  clear c2
  by_cases b2 : qn1 + 1 = qn0
  rotate_left
  · have g2 : ((qn1 : Int) != (qn0 : Int) - 1) = true := by rw [bne_iff_ne]; omega
    have HN : Hid (okLine r.Stops.length x = false) := okLine_no2 (by rw [← Hls.out, ← Hlr.out]; exact b2)
    clear b2
    go_enter Try.func135, Try.ntmps135
    go_wp2_with (go_at_call 112; refine (impl_within _ _ _ _).mono ?_; rintro e w' ⟨rfl, rfl⟩)
    go_ret
    exact ⟨ret_bool HN.out.symm, inferInstance⟩
  have g2 : ((qn1 : Int) != (qn0 : Int) - 1) = false := by rw [bne_eq_false_iff_eq]; omega
  have B1 : Hid (inB x.Stops.length 2 6 = true) := by rw [← Hls.out]; exact b1
  have B2 : Hid (x.Runs.length + 1 = x.Stops.length) := by rw [← Hls.out, ← Hlr.out]; exact b2
  clear b2
  go_enter Try.func135, Try.ntmps135
  go_wp2_with (go_at_call 112; refine (impl_within _ _ _ _).mono ?_; rintro e w' ⟨rfl, rfl⟩)
  clear b1 g2
  go_loopw [27] (fun i wr => ∃ k : Nat, k ≤ qn0 ∧ i = .int .i64 k ∧ Hid (allFrom (stopAt r.Stops.length x.Stops) (x.Stops.drop k) k = allFrom (stopAt r.Stops.length x.Stops) x.Stops 0) ∧ Later ((w.alloc (.cells #[.slice sA0 sn0 sc0, .slice sA1 sn1 sc1] 38)).alloc (.cells #[.string x.Name, .slice qA0 qn0 qc0, .slice qA1 qn1 qc1] 109)) wr) (fun i _ => qn0 - (intOf i).toNat)
  case atStart => exact ⟨0, by omega, rfl, rfl, inferInstance⟩
  case round =>
    obtain ⟨k, hk, rfl, HF, hX⟩ := hrel
    have hU := Later.trans (w := w) inferInstance hX
    by_cases hlt : k < qn0
    · have H := Lib.hid h
      have HS := Lib.hid hS
      obtain ⟨b, o, y, hA, hy, hc, hi⟩ := Ints.at_ hS hlt
      have HF1 : Hid (allFrom (stopAt r.Stops.length x.Stops) x.Stops 0 = (stopAt r.Stops.length x.Stops k y && allFrom (stopAt r.Stops.length x.Stops) (x.Stops.drop (k + 1)) (k + 1))) := by rw [← HF.out, drop_at hy.out]; rfl
      clear HF
      subst hA
      by_cases c1 : inB y 0 ((r.Stops.length : Int) - 1) = true
      · by_cases c2 : idx (intIs y) x.Stops = k
        · have HF2 : Hid (allFrom (stopAt r.Stops.length x.Stops) (x.Stops.drop (k + 1)) (k + 1) = allFrom (stopAt r.Stops.length x.Stops) x.Stops 0) := by rw [HF1.out, stopAt_yes c1 c2]; rfl
          have e2 := bnei_f c2
          clear HF1 c2
          go_wp2_with first
            | (go_at_call 63; refine (impl_isStop H.out inferInstance _).mono ?_; rintro e w1 ⟨rfl, L1⟩; have hX1 := hX.trans L1; have hU1 := hU.trans L1)
            | (go_at_call 104; refine (slices_IndexInt HS.out inferInstance _).mono ?_; rintro e w2 ⟨rfl, L2⟩; have hX2 := hX1.trans L2; have hU2 := hU1.trans L2)
          go_roundw
          case rel => exact ⟨k + 1, by omega, by go_num, HF2, inferInstance⟩
          case measure => simp [intOf]; omega
        · have HF2 : Hid (okLine r.Stops.length x = false) := okLine_no3 (by rw [HF1.out, stopAt_no2 c2]; rfl)
          have e2 := bnei_t c2
          clear HF1 c2
          go_wp2_with first
            | (go_at_call 63; refine (impl_isStop H.out inferInstance _).mono ?_; rintro e w1 ⟨rfl, L1⟩; have hX1 := hX.trans L1; have hU1 := hU.trans L1)
            | (go_at_call 104; refine (slices_IndexInt HS.out inferInstance _).mono ?_; rintro e w2 ⟨rfl, L2⟩; have hX2 := hX1.trans L2; have hU2 := hU1.trans L2)
          go_ret
          exact ⟨ret_bool HF2.out.symm, inferInstance⟩
      · have c3 : inB y 0 ((r.Stops.length : Int) - 1) = false := by simpa using c1
        have HF2 : Hid (okLine r.Stops.length x = false) := okLine_no3 (by rw [HF1.out, stopAt_no1 c3]; rfl)
        clear HF1 c1
        go_wp2_with (go_at_call 63; refine (impl_isStop H.out inferInstance _).mono ?_; rintro e w1 ⟨rfl, L1⟩; have hX1 := hX.trans L1; have hU1 := hU.trans L1)
        go_ret
        exact ⟨ret_bool HF2.out.symm, inferInstance⟩
    · have B3 : Hid (allFrom (stopAt r.Stops.length x.Stops) x.Stops 0 = true) := by show _ = _; rw [← HF.out, List.drop_eq_nil_of_le (by have := Hls.out; omega)]; rfl
      clear HF
      go_wp2_with fail
      go_loopw [48] (fun i wr => ∃ k : Nat, k ≤ qn1 ∧ i = .int .i64 k ∧ Hid ((x.Runs.drop k).all (fun r => inB r 1 60) = x.Runs.all (fun r => inB r 1 60)) ∧ Later ((w.alloc (.cells #[.slice sA0 sn0 sc0, .slice sA1 sn1 sc1] 38)).alloc (.cells #[.string x.Name, .slice qA0 qn0 qc0, .slice qA1 qn1 qc1] 109)) wr) (fun i _ => qn1 - (intOf i).toNat)
      case atStart => exact ⟨0, by omega, rfl, rfl, inferInstance⟩
      case round =>
        obtain ⟨k, hk, rfl, HF, hX⟩ := hrel
        have hU := Later.trans (w := w) inferInstance hX
        by_cases hlt : k < qn1
        · obtain ⟨b, o, y, rfl, hy, hc, hi⟩ := Ints.at_ hR hlt
          have HF1 : Hid (x.Runs.all (fun r => inB r 1 60) = (inB y 1 60 && (x.Runs.drop (k + 1)).all (fun r => inB r 1 60))) := by rw [← HF.out, drop_at hy.out]; rfl
          clear HF
          by_cases c1 : inB y 1 60 = true
          · have HF2 : Hid ((x.Runs.drop (k + 1)).all (fun r => inB r 1 60) = x.Runs.all (fun r => inB r 1 60)) := by rw [HF1.out, c1]; rfl
            clear HF1
            go_wp2_with (go_at_call 112; refine (impl_within _ _ _ _).mono ?_; rintro e w' ⟨rfl, rfl⟩)
            go_roundw
            case rel => exact ⟨k + 1, by omega, by go_num, HF2, inferInstance⟩
            case measure => simp [intOf]; omega
          · have c2 : inB y 1 60 = false := by simpa using c1
            have HG : x.Runs.all (fun r => inB r 1 60) = false := by rw [HF1.out, c2]; rfl
            have HF2 := Lib.hid HG
            clear HF1 c1 HG
            go_wp2_with (go_at_call 112; refine (impl_within _ _ _ _).mono ?_; rintro e w' ⟨rfl, rfl⟩)
            go_ret
            exact ⟨ret_bool (okLine_no4 HF2.out).symm, inferInstance⟩
        · have HF2 : Hid (x.Runs.all (fun r => inB r 1 60) = true) := by show _ = _; rw [← HF.out, List.drop_eq_nil_of_le (by have := Hlr.out; omega)]; rfl
          clear HF
          go_wp2
          go_ret
          exact ⟨ret_bool (okLine_yes B1.out B2.out B3.out HF2.out).symm, inferInstance⟩
end Go.Proofs.Ytaopadffabbjiaa
