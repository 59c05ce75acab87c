/-
  Fleets: when one is valid.
-/
import Derived.Test.YtaopadffabbjiaaNetD
import Derived.Test.YtaopadffabbjiaaNest
namespace Go.Proofs.Ytaopadffabbjiaa
open Go Go.RowKit
set_option linter.unusedVariables false
set_option maxRecDepth 100000
def okRowF (ns : Nat) (k : Nat) (row : List Int) : Bool := decide (row.length = ns) && decide (row.getD k 0 = 0) && row.all fun d => inB d 0 120
def okFleetN (ns : Nat) (f : Fleet) : Bool := decide (f.Dead.length = ns) && inB f.Turn 0 30 && allFrom (okRowF ns) f.Dead 0
def okFleet (n : Network) (f : Fleet) : Bool := okNetwork n && okFleetN n.Stops.length f
theorem okRowF_1 {ns k : Nat} {row : List Int} (h : ¬ row.length = ns) : okRowF ns k row = false := by unfold okRowF; rw [decide_eq_false h]; rfl
theorem okRowF_2 {ns k : Nat} {row : List Int} (h : ¬ row.getD k 0 = 0) : okRowF ns k row = false := by unfold okRowF; rw [decide_eq_false h]; simp
theorem okRowF_3 {ns k : Nat} {row : List Int} (h : (row.all fun d => inB d 0 120) = false) : okRowF ns k row = false := by unfold okRowF; rw [h]; simp
theorem okRowF_y {ns k : Nat} {row : List Int} (h1 : row.length = ns) (h2 : row.getD k 0 = 0) (h3 : (row.all fun d => inB d 0 120) = true) : okRowF ns k row = true := by unfold okRowF; rw [decide_eq_true h1, decide_eq_true h2, h3]; rfl
theorem okFl_1 {ns : Nat} {f : Fleet} (h : ¬ f.Dead.length = ns) : okFleetN ns f = false := by unfold okFleetN; rw [decide_eq_false h]; rfl
theorem okFl_2 {ns : Nat} {f : Fleet} (h : inB f.Turn 0 30 = false) : okFleetN ns f = false := by unfold okFleetN; rw [h]; simp
theorem okFl_3 {ns : Nat} {f : Fleet} (h : allFrom (okRowF ns) f.Dead 0 = false) : okFleetN ns f = false := by unfold okFleetN; rw [h]; simp
theorem okFl_y {ns : Nat} {f : Fleet} (h : f.Dead.length = ns) (h2 : inB f.Turn 0 30 = true) (h3 : allFrom (okRowF ns) f.Dead 0 = true) : okFleetN ns f = true := by unfold okFleetN; rw [decide_eq_true h, h2, h3]; rfl
structure FleetFacts (ns : Nat) (f : Fleet) : Prop where
  len : f.Dead.length = ns
  turn : 0 ≤ f.Turn ∧ f.Turn ≤ 30
  row : ∀ (i : Nat) (row : List Int), f.Dead[i]? = some row → row.length = ns ∧ ∀ (j : Nat) (d : Int), row[j]? = some d → 0 ≤ d ∧ d ≤ 120
theorem fleetFacts {ns : Nat} {f : Fleet} (h : okFleetN ns f = true) : FleetFacts ns f := by
  simp only [okFleetN, Bool.and_eq_true, decide_eq_true_eq, inB_t, allFrom_iff, okRowF, List.all_eq_true] at h
  obtain ⟨⟨h1, h2⟩, h3⟩ := h
  exact ⟨h1, h2, fun i row hr => ⟨(h3 i row hr).1.1, fun j d hd => (h3 i row hr).2 d (List.mem_of_getElem? hd)⟩⟩
set_option maxHeartbeats 800000 in
theorem impl_isFleet {w0 w w2 : World} {sA0 : Option Addr} {sn0 sc0 : Nat} {sA1 : Option Addr} {sn1 sc1 : Nat} {n : Network} (h : NetworkAt w0 sA0 sn0 sc0 sA1 sn1 sc1 n) (hl : Later w0 w) {qA0 : Option Addr} {qn0 qc0 : Nat} {f : Fleet} (h2 : FleetAt w2 qA0 qn0 qc0 f) (hl2 : Later w2 w) :
    Calls Try.prog 100 #[.agg #[.slice sA0 sn0 sc0, .slice sA1 sn1 sc1], .agg #[.slice qA0 qn0 qc0, .int .i64 f.Turn]] w (Ret (.bool (okFleetN n.Stops.length f)) w) := by
  replace h := h.later hl
  replace h2 := h2.later hl2
  have hS := h.l_Stops
  have hD := h2.l_Dead
  have hn0 := hS.le
  have hn1 := hD.le
  have Hs := Lib.hid hS.len
  have Hd := Lib.hid hD.len
  rw [← hS.len]
  have HB0 : ∀ W [Later ((w.alloc (.cells #[.slice sA0 sn0 sc0, .slice sA1 sn1 sc1] 38)).alloc (.cells #[.slice qA0 qn0 qc0, .int .i64 f.Turn] 43)) W] (j : Nat), W.cell? ⟨w.heap.size, j, none⟩ = #[.slice sA0 sn0 sc0, .slice sA1 sn1 sc1][j]? := Later.boxes (t := 38) (fr := (0, 0)) ((heap_old (by simp; try omega)).trans (heap_new (by simp; try omega))); have HB1 : ∀ W [Later ((w.alloc (.cells #[.slice sA0 sn0 sc0, .slice sA1 sn1 sc1] 38)).alloc (.cells #[.slice qA0 qn0 qc0, .int .i64 f.Turn] 43)) W] (j : Nat), W.cell? ⟨w.heap.size + 1, j, none⟩ = #[.slice qA0 qn0 qc0, .int .i64 f.Turn][j]? := Later.boxes (t := 43) (fr := (0, 0)) (heap_new (by simp; try omega)); obtain ⟨wb, hwb⟩ : ∃ wb : World, wb = ((w.alloc (.cells #[.slice sA0 sn0 sc0, .slice sA1 sn1 sc1] 38)).alloc (.cells #[.slice qA0 qn0 qc0, .int .i64 f.Turn] 43)) := ⟨_, rfl⟩; haveI hbW : Later wb ((w.alloc (.cells #[.slice sA0 sn0 sc0, .slice sA1 sn1 sc1] 38)).alloc (.cells #[.slice qA0 qn0 qc0, .int .i64 f.Turn] 43)) := (by rw [hwb]; exact Later.rfl_); haveI hww : Later w wb := (by rw [hwb]; infer_instance); rw [← hwb] at HB0; rw [← hwb] at HB1; have hbE := Lib.hid (congrArg (fun x : World => x.heap.size) hwb); clear hwb
  replace hD := hD.later hww
  clear h h2 hS
  by_cases b1 : qn0 = sn0
  rotate_left
  · have g1 : ((qn0 : Int) != (sn0 : Int)) = true := by rw [bne_iff_ne]; omega
    have HN : Hid (okFleetN sn0 f = false) := okFl_1 (by rw [← Hd.out]; exact b1)
    clear b1
    go_enter Try.func100, Try.ntmps100
    go_wp2
    go_ret
    exact ⟨ret_bool HN.out.symm, hww.trans inferInstance⟩
  have g1 : ((qn0 : Int) != (sn0 : Int)) = false := by rw [bne_eq_false_iff_eq]; omega
  by_cases b2 : inB f.Turn 0 30 = true
  rotate_left
  · have g2 : inB f.Turn 0 30 = false := by simpa using b2
    have HN := Lib.hid (okFl_2 (ns := sn0) g2)
    clear b2 b1
    go_enter Try.func100, Try.ntmps100
    go_wp2_with (go_at_call 112; refine (impl_within _ _ _ _).mono ?_; rintro e w' ⟨rfl, rfl⟩)
    go_ret
    exact ⟨ret_bool HN.out.symm, hww.trans inferInstance⟩
  have B1 : Hid (f.Dead.length = sn0) := by rw [← Hd.out]; exact b1
  have hqs : qn0 ≤ sn0 := by omega
  have B2 := Lib.hid b2
  have ENO : Hid (allFrom (okRowF sn0) f.Dead 0 = false → okFleetN sn0 f = false) := okFl_3
  clear b1
  go_enter Try.func100, Try.ntmps100
  go_wp2_with (go_at_call 112; refine (impl_within _ _ _ _).mono ?_; rintro e w' ⟨rfl, rfl⟩)
  clear b2 g1
  go_loopw [25] (fun i wr => ∃ k : Nat, k ≤ qn0 ∧ i = .int .i64 k ∧ Hid (allFrom (okRowF sn0) (f.Dead.drop k) k = allFrom (okRowF sn0) f.Dead 0) ∧ Later wb wr) (fun i _ => qn0 - (intOf i).toNat)
  case atStart => exact ⟨0, by omega, rfl, rfl, inferInstance⟩
  case round =>
    obtain ⟨k, hk, rfl, HF, hX⟩ := hrel
    by_cases hlt : k < qn0
    · obtain ⟨b, o, A1, n1, c1, x, rfl, hx, hc0, hi⟩ := Sl.row_ hD hlt
      have HF1 : Hid (allFrom (okRowF sn0) f.Dead 0 = (okRowF sn0 k x && allFrom (okRowF sn0) (f.Dead.drop (k + 1)) (k + 1))) := by rw [← HF.out, drop_at hx.out]; rfl
      have Hn1 := Lib.hid hi.len
      have hnn1 := hi.le
      have Hi := Lib.hid hi
      clear HF hi
      by_cases d1 : n1 = sn0
      rotate_left
      · have g3 : ((n1 : Int) != (sn0 : Int)) = true := by rw [bne_iff_ne]; omega
        have HF2 : Hid (okFleetN sn0 f = false) := ENO.out (by rw [HF1.out, okRowF_1 (by rw [← Hn1.out]; exact d1)]; rfl)
        clear HF1 d1
        go_wp2
        go_ret
        exact ⟨ret_bool HF2.out.symm, hww.trans inferInstance⟩
      have g3 : ((n1 : Int) != (sn0 : Int)) = false := by rw [bne_eq_false_iff_eq]; omega
      have hkn1 : k < n1 := by omega
      have C1 : Hid (x.length = sn0) := by rw [← Hn1.out]; exact d1
      clear d1
      obtain ⟨b3, o3, y0, rfl, hy0, hcy0, _⟩ := Ints.at_ Hi.out hkn1
      have hgd : x.getD k 0 = y0 := by simp [List.getD, hy0.out]
      by_cases d2 : y0 = 0
      rotate_left
      · have g4 : (y0 != 0) = true := by rw [bne_iff_ne]; exact d2
        have HF2 : Hid (okFleetN sn0 f = false) := ENO.out (by rw [HF1.out, okRowF_2 (by rw [hgd]; exact d2)]; rfl)
        clear HF1 d2 hgd
        go_wp2
        go_ret
        exact ⟨ret_bool HF2.out.symm, hww.trans inferInstance⟩
      have C2 : Hid (x.getD k 0 = 0) := by rw [hgd]; exact d2
      subst d2
      clear hgd
      go_wp2_with fail
      go_loopw [45] (fun i wr => ∃ j : Nat, j ≤ n1 ∧ i = .int .i64 j ∧ Hid ((x.drop j).all (fun d => inB d 0 120) = x.all (fun d => inB d 0 120)) ∧ Later wb wr) (fun i _ => n1 - (intOf i).toNat)
      case atStart => exact ⟨0, by omega, rfl, rfl, inferInstance⟩
      case round =>
        obtain ⟨j, hj, rfl, HG, hY⟩ := hrel
        by_cases hjt : j < n1
        · obtain ⟨b2, o2, y, hA2, hy, hcy, hyi⟩ := Ints.at_ Hi.out hjt
          cases hA2
          have HG1 : Hid (x.all (fun d => inB d 0 120) = (inB y 0 120 && (x.drop (j + 1)).all (fun d => inB d 0 120))) := by rw [← HG.out, drop_at hy.out]; rfl
          clear HG
          by_cases c1 : inB y 0 120 = true
          · have HG2 : Hid ((x.drop (j + 1)).all (fun d => inB d 0 120) = x.all (fun d => inB d 0 120)) := by rw [HG1.out, c1]; rfl
            clear HG1
            go_wp2_with (go_at_call 112; refine (impl_within _ _ _ _).mono ?_; rintro e w' ⟨rfl, rfl⟩)
            go_roundw
            case rel => exact ⟨j + 1, by omega, by go_num, HG2, inferInstance⟩
            case measure => simp [intOf]; omega
          · have c2 : inB y 0 120 = false := by simpa using c1
            have HG2 := Lib.hid (okRowF_3 (ns := sn0) (k := k) (row := x) (by rw [HG1.out, c2]; rfl))
            have HF2 : Hid (okFleetN sn0 f = false) := ENO.out (by rw [HF1.out, HG2.out]; rfl)
            clear HG1 c1
            go_wp2_with (go_at_call 112; refine (impl_within _ _ _ _).mono ?_; rintro e w' ⟨rfl, rfl⟩)
            go_ret
            exact ⟨ret_bool HF2.out.symm, hww.trans inferInstance⟩
        · have HG2 : Hid (x.all (fun d => inB d 0 120) = true) := by show _ = _; rw [← HG.out, List.drop_eq_nil_of_le (by have := Hn1.out; omega)]; rfl
          have HF2 : Hid (allFrom (okRowF sn0) (f.Dead.drop (k + 1)) (k + 1) = allFrom (okRowF sn0) f.Dead 0) := by rw [HF1.out, okRowF_y C1.out C2.out HG2.out]; rfl
          clear HF1 HG
          go_wp2
          go_roundw
          case rel => exact ⟨k + 1, by omega, by go_num, HF2, inferInstance⟩
          case measure => simp [intOf]; omega
    · have HF2 : Hid (okFleetN sn0 f = true) := okFl_y B1.out B2.out (by rw [← HF.out, List.drop_eq_nil_of_le (by have := Hd.out; omega)]; rfl)
      clear HF
      go_wp2
      go_ret
      exact ⟨ret_bool HF2.out.symm, hww.trans inferInstance⟩
set_option maxHeartbeats 800000 in
theorem spec_l11Fleet {w0 w w2 : World} {sA0 : Option Addr} {sn0 sc0 : Nat} {sA1 : Option Addr} {sn1 sc1 : Nat} {n : Network} (h : NetworkAt w0 sA0 sn0 sc0 sA1 sn1 sc1 n) (hl : Later w0 w) {qA0 : Option Addr} {qn0 qc0 : Nat} {f : Fleet} (h2 : FleetAt w2 qA0 qn0 qc0 f) (hl2 : Later w2 w) :
    Calls Try.prog 93 #[.agg #[.slice sA0 sn0 sc0, .slice sA1 sn1 sc1], .agg #[.slice qA0 qn0 qc0, .int .i64 f.Turn]] w (Ret (.bool (okFleet n f)) w) := by
  replace h := h.later hl
  replace h2 := h2.later hl2
  have hS := h.l_Stops
  have hD := h2.l_Dead
  have hn0 := hS.le
  have hn1 := hD.le
  have Hs := Lib.hid hS.len
  have Hd := Lib.hid hD.len
  unfold okFleet
  rw [← hS.len]
  have HB0 : ∀ W [Later ((w.alloc (.cells #[.slice sA0 sn0 sc0, .slice sA1 sn1 sc1] 38)).alloc (.cells #[.slice qA0 qn0 qc0, .int .i64 f.Turn] 43)) W] (j : Nat), W.cell? ⟨w.heap.size, j, none⟩ = #[.slice sA0 sn0 sc0, .slice sA1 sn1 sc1][j]? := Later.boxes (t := 38) (fr := (0, 0)) ((heap_old (by simp; try omega)).trans (heap_new (by simp; try omega))); have HB1 : ∀ W [Later ((w.alloc (.cells #[.slice sA0 sn0 sc0, .slice sA1 sn1 sc1] 38)).alloc (.cells #[.slice qA0 qn0 qc0, .int .i64 f.Turn] 43)) W] (j : Nat), W.cell? ⟨w.heap.size + 1, j, none⟩ = #[.slice qA0 qn0 qc0, .int .i64 f.Turn][j]? := Later.boxes (t := 43) (fr := (0, 0)) (heap_new (by simp; try omega)); obtain ⟨wb, hwb⟩ : ∃ wb : World, wb = ((w.alloc (.cells #[.slice sA0 sn0 sc0, .slice sA1 sn1 sc1] 38)).alloc (.cells #[.slice qA0 qn0 qc0, .int .i64 f.Turn] 43)) := ⟨_, rfl⟩; haveI hbW : Later wb ((w.alloc (.cells #[.slice sA0 sn0 sc0, .slice sA1 sn1 sc1] 38)).alloc (.cells #[.slice qA0 qn0 qc0, .int .i64 f.Turn] 43)) := (by rw [hwb]; exact Later.rfl_); haveI hww : Later w wb := (by rw [hwb]; infer_instance); rw [← hwb] at HB0; rw [← hwb] at HB1; have hbE := Lib.hid (congrArg (fun x : World => x.heap.size) hwb); clear hwb
  replace hD := hD.later hww
  replace h := h.later hww
  have H := Lib.hid h
  clear h h2 hS
  by_cases b0 : okNetwork n = true
  rotate_left
  · have g0 : okNetwork n = false := by simpa using b0
    clear b0
    go_enter Try.func93, Try.ntmps93
    go_wp2_with (go_at_call 106; refine (spec_l2Good H.out inferInstance).mono ?_; rintro e w1 ⟨rfl, L1⟩; have X1 := Later.trans (w := wb) inferInstance L1)
    go_ret
    exact ⟨ret_bool (by rw [g0]; rfl), hww.trans inferInstance⟩
  rw [b0, Bool.true_and]
  by_cases b1 : qn0 = sn0
  rotate_left
  · have g1 : ((qn0 : Int) != (sn0 : Int)) = true := by rw [bne_iff_ne]; omega
    have HN : Hid (okFleetN sn0 f = false) := okFl_1 (by rw [← Hd.out]; exact b1)
    clear b1
    go_enter Try.func93, Try.ntmps93
    go_wp2_with (go_at_call 106; refine (spec_l2Good H.out inferInstance).mono ?_; rintro e w1 ⟨rfl, L1⟩; have X1 := Later.trans (w := wb) inferInstance L1)
    go_ret
    exact ⟨ret_bool HN.out.symm, hww.trans inferInstance⟩
  have g1 : ((qn0 : Int) != (sn0 : Int)) = false := by rw [bne_eq_false_iff_eq]; omega
  by_cases b2 : inB f.Turn 0 30 = true
  rotate_left
  · have g2 : inB f.Turn 0 30 = false := by simpa using b2
    have HN := Lib.hid (okFl_2 (ns := sn0) g2)
    clear b2 b1
    go_enter Try.func93, Try.ntmps93
    go_wp2_with first
      | (go_at_call 106; refine (spec_l2Good H.out inferInstance).mono ?_; rintro e w1 ⟨rfl, L1⟩; have X1 := Later.trans (w := wb) inferInstance L1)
      | (go_at_call 55; refine (spec_l1In _ _ _ _).mono ?_; rintro e w' ⟨rfl, rfl⟩)
    go_ret
    exact ⟨ret_bool HN.out.symm, hww.trans inferInstance⟩
  have B1 : Hid (f.Dead.length = sn0) := by rw [← Hd.out]; exact b1
  have hqs : qn0 ≤ sn0 := by omega
  have B2 := Lib.hid b2
  have ENO : Hid (allFrom (okRowF sn0) f.Dead 0 = false → okFleetN sn0 f = false) := okFl_3
  clear b1
  go_enter Try.func93, Try.ntmps93
  go_wp2_with first
    | (go_at_call 106; refine (spec_l2Good H.out inferInstance).mono ?_; rintro e w1 ⟨rfl, L1⟩; have X1 := Later.trans (w := wb) inferInstance L1)
    | (go_at_call 55; refine (spec_l1In _ _ _ _).mono ?_; rintro e w' ⟨rfl, rfl⟩)
  clear b2 g1 b0
  go_loopw [5] (fun i wr => ∃ k : Nat, k ≤ qn0 ∧ i = .int .i64 k ∧ Hid (allFrom (okRowF sn0) (f.Dead.drop k) k = allFrom (okRowF sn0) f.Dead 0) ∧ Later wb wr) (fun i _ => qn0 - (intOf i).toNat)
  case atStart => exact ⟨0, by omega, rfl, rfl, inferInstance⟩
  case round =>
    obtain ⟨k, hk, rfl, HF, hX⟩ := hrel
    by_cases hlt : k < qn0
    · obtain ⟨b, o, A1, n1, c1, x, rfl, hx, hc0, hi⟩ := Sl.row_ hD hlt
      have HF1 : Hid (allFrom (okRowF sn0) f.Dead 0 = (okRowF sn0 k x && allFrom (okRowF sn0) (f.Dead.drop (k + 1)) (k + 1))) := by rw [← HF.out, drop_at hx.out]; rfl
      have Hn1 := Lib.hid hi.len
      have hnn1 := hi.le
      have Hi := Lib.hid hi
      clear HF hi
      by_cases d1 : n1 = sn0
      rotate_left
      · have g3 : ((n1 : Int) != (sn0 : Int)) = true := by rw [bne_iff_ne]; omega
        have HF2 : Hid (okFleetN sn0 f = false) := ENO.out (by rw [HF1.out, okRowF_1 (by rw [← Hn1.out]; exact d1)]; rfl)
        clear HF1 d1
        go_wp2_with fail
        refine wp_region_held_drew (S := (fun w' => Later wb w')) (by kernel_rfl) (by exact inferInstance) (fun hHeld => ?_)
        refine wpAnyH_take (i := 0) (v := ?_) (by simp only [List.getElem?_toArray, List.getElem?_cons_zero] <;> rfl) (by kernel_rfl) (by kernel_rfl) (by kernel_rfl) (by exact fun _ _ _ h => h) (Or.inl ⟨by kernel_rfl, ?_⟩) (by assumption) ?_
        rotate_left
        · intro w' hSw; (try dsimp only at hSw); go_simp; try with_reducible rfl
        try simp only [Act.put, List.setIfInBounds_toArray, List.set_cons_zero, List.set_cons_succ]
        refine wpAnyH_take (i := 1) (v := ?_) (by simp only [List.getElem?_toArray, List.getElem?_cons_succ, List.getElem?_cons_zero] <;> rfl) (by kernel_rfl) (by kernel_rfl) (by kernel_rfl) (by exact fun _ _ _ h => h) (Or.inl ⟨by kernel_rfl, ?_⟩) (by assumption) ?_
        rotate_left
        · intro w' hSw; (try dsimp only at hSw); go_simp; try with_reducible rfl
        try simp only [Act.put, List.setIfInBounds_toArray, List.set_cons_zero, List.set_cons_succ]
        refine wpAnyH_take (i := 2) (v := ?_) (by simp only [List.getElem?_toArray, List.getElem?_cons_succ, List.getElem?_cons_zero] <;> rfl) (by kernel_rfl) (by kernel_rfl) (by kernel_rfl) (by exact fun _ _ _ h => h) (Or.inl ⟨by kernel_rfl, ?_⟩) (by assumption) ?_
        rotate_left
        · intro w' hSw; (try dsimp only at hSw); go_simp; try with_reducible rfl
        try simp only [Act.put, List.setIfInBounds_toArray, List.set_cons_zero, List.set_cons_succ]
        refine wpAnyH_take (i := 3) (v := ?_) (by simp only [List.getElem?_toArray, List.getElem?_cons_succ, List.getElem?_cons_zero] <;> rfl) (by kernel_rfl) (by kernel_rfl) (by kernel_rfl) (by exact fun _ _ _ h => h) (Or.inl ⟨by kernel_rfl, ?_⟩) (by assumption) ?_
        rotate_left
        · intro w' hSw; (try dsimp only at hSw); go_simp; try with_reducible rfl
        try simp only [Act.put, List.setIfInBounds_toArray, List.set_cons_zero, List.set_cons_succ]
        refine wpAnyH_take (i := 4) (v := ?_) (by simp only [List.getElem?_toArray, List.getElem?_cons_succ, List.getElem?_cons_zero] <;> rfl) (by kernel_rfl) (by kernel_rfl) (by kernel_rfl) (by exact fun _ _ _ h => h) (Or.inl ⟨by kernel_rfl, ?_⟩) (by assumption) ?_
        rotate_left
        · intro w' hSw; (try dsimp only at hSw); go_simp; try with_reducible rfl
        try simp only [Act.put, List.setIfInBounds_toArray, List.set_cons_zero, List.set_cons_succ]
        refine wpAnyH_take (i := 5) (v := ?_) (by simp only [List.getElem?_toArray, List.getElem?_cons_succ, List.getElem?_cons_zero] <;> rfl) (by kernel_rfl) (by kernel_rfl) (by kernel_rfl) (by exact fun _ _ _ h => h) (Or.inl ⟨by kernel_rfl, ?_⟩) (by assumption) ?_
        rotate_left
        · intro w' hSw; (try dsimp only at hSw); go_simp; try with_reducible rfl
        try simp only [Act.put, List.setIfInBounds_toArray, List.set_cons_zero, List.set_cons_succ]
        refine wpAnyH_take (i := 6) (v := ?_) (by simp only [List.getElem?_toArray, List.getElem?_cons_succ, List.getElem?_cons_zero] <;> rfl) (by kernel_rfl) (by kernel_rfl) (by kernel_rfl) (by exact fun _ _ _ h => h) (Or.inl ⟨by kernel_rfl, ?_⟩) (by assumption) ?_
        rotate_left
        · intro w' hSw; (try dsimp only at hSw); go_simp; try with_reducible rfl
        try simp only [Act.put, List.setIfInBounds_toArray, List.set_cons_zero, List.set_cons_succ]
        refine wpAnyH_take (i := 7) (v := ?_) (by simp only [List.getElem?_toArray, List.getElem?_cons_succ, List.getElem?_cons_zero] <;> rfl) (by kernel_rfl) (by kernel_rfl) (by kernel_rfl) (by exact fun _ _ _ h => h) (Or.inl ⟨by kernel_rfl, ?_⟩) (by assumption) ?_
        rotate_left
        · intro w' hSw; (try dsimp only at hSw); go_simp; try with_reducible rfl
        try simp only [Act.put, List.setIfInBounds_toArray, List.set_cons_zero, List.set_cons_succ]
        refine wpAnyH_take (i := 8) (v := ?_) (by simp only [List.getElem?_toArray, List.getElem?_cons_succ, List.getElem?_cons_zero] <;> rfl) (by kernel_rfl) (by kernel_rfl) (by kernel_rfl) (by exact fun _ _ _ h => h) (Or.inl ⟨by kernel_rfl, ?_⟩) (by assumption) ?_
        rotate_left
        · intro w' hSw; (try dsimp only at hSw); go_simp; try with_reducible rfl
        try simp only [Act.put, List.setIfInBounds_toArray, List.set_cons_zero, List.set_cons_succ]
        refine wpAnyH_take (i := 9) (v := ?_) (by simp only [List.getElem?_toArray, List.getElem?_cons_succ, List.getElem?_cons_zero] <;> rfl) (by kernel_rfl) (by kernel_rfl) (by kernel_rfl) (by exact fun _ _ _ h => h) (Or.inl ⟨by kernel_rfl, ?_⟩) (by assumption) ?_
        rotate_left
        · intro w' hSw; (try dsimp only at hSw); go_simp; try with_reducible rfl
        try simp only [Act.put, List.setIfInBounds_toArray, List.set_cons_zero, List.set_cons_succ]
        refine wpAnyH_take (i := 10) (v := ?_) (by simp only [List.getElem?_toArray, List.getElem?_cons_succ, List.getElem?_cons_zero] <;> rfl) (by kernel_rfl) (by kernel_rfl) (by kernel_rfl) (by exact fun _ _ _ h => h) (Or.inl ⟨by kernel_rfl, ?_⟩) (by assumption) ?_
        rotate_left
        · intro w' hSw; (try dsimp only at hSw); go_simp; try with_reducible rfl
        try simp only [Act.put, List.setIfInBounds_toArray, List.set_cons_zero, List.set_cons_succ]
        refine wpAnyH_take (i := 11) (v := undef) (by simp only [List.getElem?_toArray, List.getElem?_cons_succ, List.getElem?_cons_zero] <;> rfl) (by kernel_rfl) (by kernel_rfl) (by kernel_rfl) (by exact fun _ _ _ h => h) (Or.inr ⟨by kernel_rfl, rfl⟩) (by assumption) ?_
        try simp only [Act.put, List.setIfInBounds_toArray, List.set_cons_zero, List.set_cons_succ]
        refine wpAnyH_take (i := 12) (v := undef) (by simp only [List.getElem?_toArray, List.getElem?_cons_succ, List.getElem?_cons_zero] <;> rfl) (by kernel_rfl) (by kernel_rfl) (by kernel_rfl) (by exact fun _ _ _ h => h) (Or.inr ⟨by kernel_rfl, rfl⟩) (by assumption) ?_
        try simp only [Act.put, List.setIfInBounds_toArray, List.set_cons_zero, List.set_cons_succ]
        refine wpAnyH_take (i := 13) (v := undef) (by simp only [List.getElem?_toArray, List.getElem?_cons_succ, List.getElem?_cons_zero] <;> rfl) (by kernel_rfl) (by kernel_rfl) (by kernel_rfl) (by exact fun _ _ _ h => h) (Or.inr ⟨by kernel_rfl, rfl⟩) (by assumption) ?_
        try simp only [Act.put, List.setIfInBounds_toArray, List.set_cons_zero, List.set_cons_succ]
        refine wpAnyH_take (i := 14) (v := undef) (by simp only [List.getElem?_toArray, List.getElem?_cons_succ, List.getElem?_cons_zero] <;> rfl) (by kernel_rfl) (by kernel_rfl) (by kernel_rfl) (by exact fun _ _ _ h => h) (Or.inr ⟨by kernel_rfl, rfl⟩) (by assumption) ?_
        try simp only [Act.put, List.setIfInBounds_toArray, List.set_cons_zero, List.set_cons_succ]
        refine wpAnyH_take (i := 15) (v := undef) (by simp only [List.getElem?_toArray, List.getElem?_cons_succ, List.getElem?_cons_zero] <;> rfl) (by kernel_rfl) (by kernel_rfl) (by kernel_rfl) (by exact fun _ _ _ h => h) (Or.inr ⟨by kernel_rfl, rfl⟩) (by assumption) ?_
        try simp only [Act.put, List.setIfInBounds_toArray, List.set_cons_zero, List.set_cons_succ]
        refine wpAnyH_take (i := 16) (v := undef) (by simp only [List.getElem?_toArray, List.getElem?_cons_succ, List.getElem?_cons_zero] <;> rfl) (by kernel_rfl) (by kernel_rfl) (by kernel_rfl) (by exact fun _ _ _ h => h) (Or.inr ⟨by kernel_rfl, rfl⟩) (by assumption) ?_
        try simp only [Act.put, List.setIfInBounds_toArray, List.set_cons_zero, List.set_cons_succ]
        refine wpAnyH_take (i := 17) (v := undef) (by simp only [List.getElem?_toArray, List.getElem?_cons_succ, List.getElem?_cons_zero] <;> rfl) (by kernel_rfl) (by kernel_rfl) (by kernel_rfl) (by exact fun _ _ _ h => h) (Or.inr ⟨by kernel_rfl, rfl⟩) (by assumption) ?_
        try simp only [Act.put, List.setIfInBounds_toArray, List.set_cons_zero, List.set_cons_succ]
        refine wpAnyH_take (i := 18) (v := undef) (by simp only [List.getElem?_toArray, List.getElem?_cons_succ, List.getElem?_cons_zero] <;> rfl) (by kernel_rfl) (by kernel_rfl) (by kernel_rfl) (by exact fun _ _ _ h => h) (Or.inr ⟨by kernel_rfl, rfl⟩) (by assumption) ?_
        try simp only [Act.put, List.setIfInBounds_toArray, List.set_cons_zero, List.set_cons_succ]
        refine wpAnyH_take (i := 19) (v := undef) (by simp only [List.getElem?_toArray, List.getElem?_cons_succ, List.getElem?_cons_zero] <;> rfl) (by kernel_rfl) (by kernel_rfl) (by kernel_rfl) (by exact fun _ _ _ h => h) (Or.inr ⟨by kernel_rfl, rfl⟩) (by assumption) ?_
        try simp only [Act.put, List.setIfInBounds_toArray, List.set_cons_zero, List.set_cons_succ]
        refine wpAnyH_take (i := 20) (v := ?_) (by simp only [List.getElem?_toArray, List.getElem?_cons_succ, List.getElem?_cons_zero] <;> rfl) (by kernel_rfl) (by kernel_rfl) (by kernel_rfl) (by exact fun _ _ _ h => h) (Or.inl ⟨by kernel_rfl, ?_⟩) (by assumption) ?_
        rotate_left
        · intro w' hSw; (try dsimp only at hSw); go_simp; try with_reducible rfl
        try simp only [Act.put, List.setIfInBounds_toArray, List.set_cons_zero, List.set_cons_succ]
        refine wpAnyH_done (by kernel_rfl) ?_ _
        go_wp2
        go_ret
        exact ⟨ret_bool HF2.out.symm, hww.trans inferInstance⟩
      have g3 : ((n1 : Int) != (sn0 : Int)) = false := by rw [bne_eq_false_iff_eq]; omega
      have hkn1 : k < n1 := by omega
      have C1 : Hid (x.length = sn0) := by rw [← Hn1.out]; exact d1
      clear d1
      obtain ⟨b3, o3, y0, rfl, hy0, hcy0, _⟩ := Ints.at_ Hi.out hkn1
      have hgd : x.getD k 0 = y0 := by simp [List.getD, hy0.out]
      by_cases d2 : y0 = 0
      rotate_left
      · have g4 : (y0 != 0) = true := by rw [bne_iff_ne]; exact d2
        have HF2 : Hid (okFleetN sn0 f = false) := ENO.out (by rw [HF1.out, okRowF_2 (by rw [hgd]; exact d2)]; rfl)
        clear HF1 d2 hgd
        go_wp2_with fail
        go_region_held3 (fun w' => Later wb w') (exact inferInstance) (fail)
        go_wp2
        go_ret
        exact ⟨ret_bool HF2.out.symm, hww.trans inferInstance⟩
      have C2 : Hid (x.getD k 0 = 0) := by rw [hgd]; exact d2
      subst d2
      clear hgd
      go_wp2_with fail
      go_region_held3 (fun w' => Later wb w') (exact inferInstance) (fail)
      go_wp2_with fail
      go_loopw [6] (fun i wr => ∃ j : Nat, j ≤ n1 ∧ i = .int .i64 j ∧ Hid ((x.drop j).all (fun d => inB d 0 120) = x.all (fun d => inB d 0 120)) ∧ Later wb wr) (fun i _ => n1 - (intOf i).toNat)
      case atStart => exact ⟨0, by omega, rfl, rfl, inferInstance⟩
      case round =>
        obtain ⟨j, hj, rfl, HG, hY⟩ := hrel
        by_cases hjt : j < n1
        · obtain ⟨b2, o2, y, hA2, hy, hcy, hyi⟩ := Ints.at_ Hi.out hjt
          cases hA2
          have HG1 : Hid (x.all (fun d => inB d 0 120) = (inB y 0 120 && (x.drop (j + 1)).all (fun d => inB d 0 120))) := by rw [← HG.out, drop_at hy.out]; rfl
          clear HG
          by_cases c1 : inB y 0 120 = true
          · have HG2 : Hid ((x.drop (j + 1)).all (fun d => inB d 0 120) = x.all (fun d => inB d 0 120)) := by rw [HG1.out, c1]; rfl
            clear HG1
            go_wp2_with (go_at_call 55; refine (spec_l1In _ _ _ _).mono ?_; rintro e w' ⟨rfl, rfl⟩)
            go_roundw
            case rel => exact ⟨j + 1, by omega, by go_num, HG2, inferInstance⟩
            case measure => simp [intOf]; omega
          · have c2 : inB y 0 120 = false := by simpa using c1
            have HG2 := Lib.hid (okRowF_3 (ns := sn0) (k := k) (row := x) (by rw [HG1.out, c2]; rfl))
            have HF2 : Hid (okFleetN sn0 f = false) := ENO.out (by rw [HF1.out, HG2.out]; rfl)
            clear HG1 c1
            go_wp2_with (go_at_call 55; refine (spec_l1In _ _ _ _).mono ?_; rintro e w' ⟨rfl, rfl⟩)
            go_ret
            exact ⟨ret_bool HF2.out.symm, hww.trans inferInstance⟩
        · have HG2 : Hid (x.all (fun d => inB d 0 120) = true) := by show _ = _; rw [← HG.out, List.drop_eq_nil_of_le (by have := Hn1.out; omega)]; rfl
          have HF2 : Hid (allFrom (okRowF sn0) (f.Dead.drop (k + 1)) (k + 1) = allFrom (okRowF sn0) f.Dead 0) := by rw [HF1.out, okRowF_y C1.out C2.out HG2.out]; rfl
          clear HF1 HG
          go_wp2
          go_roundw
          case rel => exact ⟨k + 1, by omega, by go_num, HF2, inferInstance⟩
          case measure => simp [intOf]; omega
    · have HF2 : Hid (okFleetN sn0 f = true) := okFl_y B1.out B2.out (by rw [← HF.out, List.drop_eq_nil_of_le (by have := Hd.out; omega)]; rfl)
      clear HF
      go_wp2
      go_ret
      exact ⟨ret_bool HF2.out.symm, hww.trans inferInstance⟩
end Go.Proofs.Ytaopadffabbjiaa
