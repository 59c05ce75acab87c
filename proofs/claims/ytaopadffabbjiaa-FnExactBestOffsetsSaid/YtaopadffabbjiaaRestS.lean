/-
  Headways: the rests at a stop, in order, in the reference (l10Rests).
-/
import Derived.Test.YtaopadffabbjiaaRests
namespace Go.Proofs.Ytaopadffabbjiaa
open Go Go.RowKit
set_option linter.unusedVariables false
set_option maxRecDepth 100000
set_option linter.unusedSimpArgs false
theorem insGo_pos {n : Network} {period : Int} {stop : Int} {p : Pattern} {l : List Pattern} {out : List Int} (h : ¬ restOf n period p stop < 0) : insGo n period stop (p :: l) out = insGo n period stop l (insI out (restOf n period p stop)) := by
  simp only [insGo]; rw [if_neg h]
theorem insGo_neg {n : Network} {period : Int} {stop : Int} {p : Pattern} {l : List Pattern} {out : List Int} (h : restOf n period p stop < 0) : insGo n period stop (p :: l) out = insGo n period stop l out := by
  simp only [insGo]; rw [if_pos h]
theorem insI_len (l : List Int) (x : Int) : (insI l x).length = l.length + 1 := by
  have := (insI_perm l x).length_eq
  simpa using this
theorem posI_stay {l : List Int} {x : Int} {j : Nat} (h : ¬ x < l.getD j 0) : posI l x (j + 1) = j + 1 := by simp only [posI]; rw [if_neg h]
theorem posI_go {l : List Int} {x : Int} {j : Nat} (h : x < l.getD j 0) : posI l x (j + 1) = posI l x j := by simp only [posI]; rw [if_pos h]
theorem own_some {W : World} {base : Nat} {e : TypeId} {v : Value} {n : Nat} {xs : List Value} (h : W.ownsRow base e 1 v n xs) (hn : 0 < n) : ∃ g c, v = .slice (some ⟨g, 0, none⟩) n c := by
  rcases h.2 with ⟨_, h0⟩ | ⟨g, cap, cur, h1, _⟩
  · omega
  · exact ⟨g, cap, h1⟩
theorem own_eq {W : World} {base : Nat} {e : TypeId} {v : Value} {n m : Nat} {xs ys : List Value} (h : W.ownsRow base e 1 v n xs) (hm : n = m) (hx : xs = ys) : W.ownsRow base e 1 v m ys := by subst hm; subst hx; exact h
set_option maxHeartbeats 4000000 in
theorem spec_l10Rests {w0 w w2 : World} {sA0 : Option Addr} {sn0 sc0 : Nat} {sA1 : Option Addr} {sn1 sc1 : Nat} {n : Network} (h : NetworkAt w0 sA0 sn0 sc0 sA1 sn1 sc1 n) (hl : Later w0 w) (period : Int) {qA : Option Addr} {qn qc : Nat} {l : List Pattern} (h2 : Patterns w2 qA qn qc l) (hl2 : Later w2 w) (pf : PatFacts n period l) (stop : Int) : Calls Try.prog 78 #[.agg #[.slice sA0 sn0 sc0, .slice sA1 sn1 sc1], .int .i64 period, .slice qA qn qc, .int .i64 stop] w (RetO 1 oInt (rests n period l stop) w) := by
  have hP := h2.later hl2
  have HSL := Lib.hid h.l_Stops.len
  have HB0 : ∀ W [Later (w.alloc (.cells #[.slice sA0 sn0 sc0, .slice sA1 sn1 sc1] 38)) W] (j : Nat), W.cell? ⟨w.heap.size, j, none⟩ = #[.slice sA0 sn0 sc0, .slice sA1 sn1 sc1][j]? := Later.boxes (t := 38) (fr := (0, 0)) (heap_new (by simp; try omega)); obtain ⟨wb, hwb⟩ : ∃ wb : World, wb = (w.alloc (.cells #[.slice sA0 sn0 sc0, .slice sA1 sn1 sc1] 38)) := ⟨_, rfl⟩; haveI hbW : Later wb (w.alloc (.cells #[.slice sA0 sn0 sc0, .slice sA1 sn1 sc1] 38)) := (by rw [hwb]; exact Later.rfl_); haveI hww : Later w wb := (by rw [hwb]; infer_instance); rw [← hwb] at HB0; have hbE := Lib.hid (congrArg (fun x : World => x.heap.size) hwb); clear hwb
  have hwb0 := hl.trans hww
  have hwb2 := hl2.trans hww
  have H := Lib.hid h
  have H2 := Lib.hid h2
  replace hP := hP.later hww
  have hq := hP.le
  have Hl := Lib.hid hP.len
  clear h h2
  have hp1 := pf.per.1
  have hp2 := pf.per.2
  have hq3 : qn ≤ 3 := by have := pf.len.2; have := Hl.out; omega
  have NF := Lib.hid (netFacts pf.net)
  have PF := Lib.hid pf
  have hbs : wb.heap.size ≤ w.heap.size + 1 := by have := hbE.out; simp at this; omega
  have hbs2 : w.heap.size + 1 ≤ wb.heap.size := by have := hbE.out; simp at this; omega
  clear pf
  go_enter Try.func78, Try.ntmps78
  go_wp2_with fail
  go_loopw [9, 10] (fun ov i wr => ∃ (k : Nat) (acc : List Int), k ≤ qn ∧ i = .int .i64 k ∧ acc.length ≤ k ∧ Hid (insGo n period stop (l.drop k) acc = rests n period l stop) ∧ Hid (∀ y, y ∈ acc → 0 ≤ y ∧ y < 60) ∧ Hid (∃ g c, ov = .slice (some ⟨g, 0, none⟩) acc.length c) ∧ Hid (wr.ownsRow (w.heap.size + 1) 3 1 ov acc.length (acc.map (Value.int .i64))) ∧ Later wb wr) (fun _ i _ => qn - (intOf i).toNat)
  case atStart => exact ⟨0, [], by omega, rfl, by simp, insGo_eq n period stop l, fun y hy => by simp at hy, ⟨_, _, rfl⟩, Lib.hid (by simpa using World.ownsRow_lit (base := w.heap.size + 1) (e := 3) (size := 1) (w.alloc (.cells #[.slice sA0 sn0 sc0, .slice sA1 sn1 sc1] 38)) #[] 0 (by simp) (by simp [maxLen]) rfl), inferInstance⟩
  case round =>
    obtain ⟨k, acc, hk, rfl, hal, HF, HBD, HOV, hown, hX⟩ := hrel
    obtain ⟨g, c, rfl⟩ := HOV.out
    by_cases hlt : k < qn
    · obtain ⟨b, o, x, rfl, hx, hc0, hc1, _⟩ := Patterns.at_ hP hlt
      have QF := Lib.hid (PF.out.pat k x hx.out)
      obtain ⟨r, hr⟩ : ∃ r, restOf n period x stop = r := ⟨_, rfl⟩
      have HR := Lib.hid hr
      have hrb := restOf_bd n period x stop hp1
      rw [hr] at hrb
      have HF1 := HF.out
      rw [drop_at hx.out] at HF1
      have hkt : (k : Int) < qn := by omega
      clear HF hx
      by_cases c0 : r < 0
      · rw [insGo_neg (by rw [hr]; exact c0)] at HF1
        have HF2 := Lib.hid HF1
        clear HF1 hr
        go_wp2_with fail
        go_region_held3 (fun w' => Later wb w' ∧ Later wr w') (exact ⟨inferInstance, inferInstance⟩) (first | (go_at_call 118; refine (spec_l10Rest H.out (hwb0.trans inferInstance) NF.out period hp1 hp2 x QF.out.1 QF.out.2.1 QF.out.2.2.1 QF.out.2.2.2 stop).mono ?_; rw [HR.out]; rintro e w4 ⟨rfl, L4⟩; have X4 := Later.trans (w := wb) inferInstance L4; have Z4 := Later.trans (w := wr) inferInstance L4))
        go_wp2
        go_roundw
        case rel => exact ⟨k + 1, acc, by omega, by go_num, by omega, HF2, HBD, ⟨_, _, rfl⟩, ownsRow_later hown.out (inferInstance : Later wr _), inferInstance⟩
        case measure => simp [intOf]; omega
      · rw [insGo_pos (by rw [hr]; exact c0), hr] at HF1
        have HF2 := Lib.hid HF1
        clear HF1 hr
        go_wp2_with fail
        go_region_held3 (fun w' => Later wb w' ∧ Later wr w') (exact ⟨inferInstance, inferInstance⟩) (first | (go_at_call 118; refine (spec_l10Rest H.out (hwb0.trans inferInstance) NF.out period hp1 hp2 x QF.out.1 QF.out.2.1 QF.out.2.2.1 QF.out.2.2.2 stop).mono ?_; rw [HR.out]; rintro e w4 ⟨rfl, L4⟩; have X4 := Later.trans (w := wb) inferInstance L4; have Z4 := Later.trans (w := wr) inferInstance L4))
        go_wp2_with fail
        obtain ⟨A', c', fp, hov, ho, hnd, hlo⟩ := OSl.ints_of_own (ownsRow_later hown.out (inferInstance : Later wr w4)) (fun y hy => by have := HBD.out y hy; unfold I64; omega)
        cases hov
        have hI4 : Ints w4 (some ⟨g, 0, none⟩) acc.length c acc := ho.reads
        have HI4 := Lib.hid hI4
        have HOW4 := Lib.hid (ownsRow_later hown.out (inferInstance : Later wr w4))
        have hac := hI4.cap
        have hacm := hI4.max
        clear hown ho hnd hlo
        go_loopw [12] (fun i wr2 => ∃ m : Nat, m ≤ acc.length ∧ i = .int .i64 m ∧ Hid (posI acc r m = posI acc r acc.length) ∧ Later wb wr2 ∧ Later w4 wr2) (fun i _ => (intOf i).toNat)
        case atStart => exact ⟨acc.length, Nat.le_refl _, rfl, rfl, inferInstance, inferInstance⟩
        case round =>
          obtain ⟨m, hm, rfl, HM, hX2, hX4⟩ := hrel
          by_cases hm0 : m = 0
          · have HPM : Hid (posI acc r acc.length = m) := by show _ = _; rw [← HM.out, hm0]; rfl
            subst hm0
            have hm1 : ¬ (0 : Int) < ((0 : Nat) : Int) := by omega
            have hm2 : ¬ 0 < (0 : Nat) := by omega
            have HIN : Hid (insI acc r = acc.take 0 ++ [r] ++ acc.drop 0) := by show _ = _; unfold insI; rw [HPM.out]
            have HIF := Lib.hid (HI4.out.front_ hm)
            have HIB := Lib.hid (HI4.out.back_ hm)
            have h49 := Later.size (w := w4) (W := wr) hX4
            have hr64 : I64 r := by unfold I64; omega
            have hmi : (0 : Int) ≤ acc.length := by omega
            have hmc : (0 : Int) ≤ c := by omega
            have hac3 : acc.length ≤ 3 := by omega
            clear HPM HM
            by_cases hcm : c = 0
            · have HIB2 : Hid (Ints w4 (some ⟨g, 0, none⟩) (acc.length - 0) (c - 0) (acc.drop 0)) := ⟨by rw [List.length_drop], by omega, by omega, fun j x hx => by rw [List.drop_eq_nil_of_le (by omega)] at hx; simp at hx⟩
              have HIB3 : Hid (Ints w4 (some ⟨g, 0, none⟩) (acc.length - 0) 0 (acc.drop 0)) := ⟨by rw [List.length_drop], by omega, by omega, fun j x hx => by rw [List.drop_eq_nil_of_le (by omega)] at hx; simp at hx⟩
              have HIB4 : Hid (Ints w4 (some ⟨g, 0, none⟩) 0 0 (acc.drop 0)) := ⟨by rw [List.length_drop]; omega, by omega, by omega, fun j x hx => by rw [List.drop_eq_nil_of_le (by omega)] at hx; simp at hx⟩
              clear HIB
              subst hcm
              go_wp2_with fail
              refine wp_region_held_drew (S := (fun w' => Later wb w' ∧ Later w4 w')) (by kernel_rfl) (by exact ⟨inferInstance, inferInstance⟩) (fun hHeld => ?_)
              refine wpAnyH_take (i := 1) (v := ?_) (by simp only [List.getElem?_toArray, List.getElem?_cons_succ, List.getElem?_cons_zero] <;> rfl) (by kernel_rfl) (by kernel_rfl) (by kernel_rfl) (by exact fun _ _ _ h => h) (Or.inl ⟨by kernel_rfl, ?_⟩) (by assumption) ?_
              rotate_left
              · intro w' hSw; (try dsimp only at hSw); go_simp; try with_reducible rfl
              try simp only [Act.put, List.setIfInBounds_toArray, List.set_cons_zero, List.set_cons_succ]
              refine wpAnyH_take (i := 2) (v := ?_) (by simp only [List.getElem?_toArray, List.getElem?_cons_succ, List.getElem?_cons_zero] <;> rfl) (by kernel_rfl) (by kernel_rfl) (by kernel_rfl) (by exact fun _ _ _ h => h) (Or.inl ⟨by kernel_rfl, ?_⟩) (by assumption) ?_
              rotate_left
              · intro w' hSw; (try dsimp only at hSw); go_simp; try with_reducible rfl
              try simp only [Act.put, List.setIfInBounds_toArray, List.set_cons_zero, List.set_cons_succ]
              refine wpAnyH_take (i := 3) (v := ?_) (by simp only [List.getElem?_toArray, List.getElem?_cons_succ, List.getElem?_cons_zero] <;> rfl) (by kernel_rfl) (by kernel_rfl) (by kernel_rfl) (by exact fun _ _ _ h => h) (Or.inl ⟨by kernel_rfl, ?_⟩) (by assumption) ?_
              rotate_left
              · intro w' hSw; (try dsimp only at hSw); go_simp; try with_reducible rfl
              try simp only [Act.put, List.setIfInBounds_toArray, List.set_cons_zero, List.set_cons_succ]
              refine wpAnyH_take (i := 5) (v := ?_) (by simp only [List.getElem?_toArray, List.getElem?_cons_succ, List.getElem?_cons_zero] <;> rfl) (by kernel_rfl) (by kernel_rfl) (by kernel_rfl) (by exact fun _ _ _ h => h) (Or.inl ⟨by kernel_rfl, ?_⟩) (by assumption) ?_
              rotate_left
              · intro w' hSw; (try dsimp only at hSw); go_simp; try with_reducible rfl
              try simp only [Act.put, List.setIfInBounds_toArray, List.set_cons_zero, List.set_cons_succ]
              refine wpAnyH_take (i := 8) (v := ?_) (by simp only [List.getElem?_toArray, List.getElem?_cons_succ, List.getElem?_cons_zero] <;> rfl) (by kernel_rfl) (by kernel_rfl) (by kernel_rfl) (by exact fun _ _ _ h => h) (Or.inl ⟨by kernel_rfl, ?_⟩) (by assumption) ?_
              rotate_left
              · intro w' hSw; (try dsimp only at hSw); go_simp; try with_reducible rfl
              try simp only [Act.put, List.setIfInBounds_toArray, List.set_cons_zero, List.set_cons_succ]
              refine wpAnyH_take (i := 9) (v := ?_) (by simp only [List.getElem?_toArray, List.getElem?_cons_succ, List.getElem?_cons_zero] <;> rfl) (by kernel_rfl) (by kernel_rfl) (by kernel_rfl) (by exact fun _ _ _ h => h) (Or.inl ⟨by kernel_rfl, ?_⟩) (by assumption) ?_
              rotate_left
              · intro w' hSw; (try dsimp only at hSw); go_simp; try with_reducible rfl
              try simp only [Act.put, List.setIfInBounds_toArray, List.set_cons_zero, List.set_cons_succ]
              refine wpAnyH_take (i := 10) (v := ?_) (by simp only [List.getElem?_toArray, List.getElem?_cons_succ, List.getElem?_cons_zero] <;> rfl) (by kernel_rfl) (by kernel_rfl) (by kernel_rfl) (by exact fun _ _ _ h => h) (Or.inl ⟨by kernel_rfl, ?_⟩) (by assumption) ?_
              rotate_left
              · intro w' hSw; (try dsimp only at hSw); go_simp; try with_reducible rfl
              try simp only [Act.put, List.setIfInBounds_toArray, List.set_cons_zero, List.set_cons_succ]
              refine wpAnyH_ready (rs := [0, 6]) (by kernel_rfl) (by simp) (AllReadyH.cons rfl (fun K hK => ?r5x1_2_3_5_8_9_10_0) (AllReadyH.cons rfl (fun K hK => ?r5x1_2_3_5_8_9_10_6) AllReadyH.nil))
              case' r5x1_2_3_5_8_9_10_0 =>
                go_simp
                skip
                refine hK.out _ _ (by exact ⟨inferInstance, inferInstance⟩) (fun hHeld => ?_)
                try simp only [Act.put, List.setIfInBounds_toArray, List.set_cons_zero, List.set_cons_succ]
                refine wpAnyH_ready (rs := [4, 6]) (by kernel_rfl) (by simp) (AllReadyH.cons rfl (fun K hK => ?r5x0_1_2_3_5_8_9_10_4) (AllReadyH.cons rfl (fun K hK => ?r5x0_1_2_3_5_8_9_10_6) AllReadyH.nil))
                case' r5x0_1_2_3_5_8_9_10_4 =>
                  refine wp_app_NG (w0 := w4) (base := w4.heap.size) _ _ 67 rfl Try.underlying67 infoInt rfl (v := .slice (some ⟨_, 0, none⟩) 0 0) (own_lit0 (by first | exact heap_new (by simp) | exact (heap_old (by simp)).trans (heap_new (by simp))) (by first | exact h49 | (simp; omega) | omega)) inferInstance (Nat.le_refl _) (Later.size (w := w4) inferInstance) rfl (HIF.out.later inferInstance) (by omega) ?_; intro v1 w11 hown1 hX1 hG1; have U1 := Later.trans X4 hX1; (first | (have h6 : Blk w11 (wr.heap.size + 1) 3 #[.int .i64 r] := grown_blk hG1 (by exact heap_new (by simp)) (fun k hk => by simp [Value.ownBlock] at hk; omega)) | (have h6 : Blk w11 wr.heap.size 3 #[.int .i64 r] := grown_blk hG1 (by exact (heap_old (by simp)).trans (heap_new (by simp))) (fun k hk => by simp [Value.ownBlock] at hk; omega)) | skip)
                  refine hK.out _ _ (by exact ⟨inferInstance, inferInstance⟩) (fun hHeld => ?_)
                  try simp only [Act.put, List.setIfInBounds_toArray, List.set_cons_zero, List.set_cons_succ]
                  refine wpAnyH_ready (rs := [6]) (by kernel_rfl) (by simp) (AllReadyH.cons rfl (fun K hK => ?_) AllReadyH.nil)
                  go_simp
                  skip
                  refine hK.out _ _ (by exact ⟨inferInstance, inferInstance⟩) (fun hHeld => ?_)
                  try simp only [Act.put, List.setIfInBounds_toArray, List.set_cons_zero, List.set_cons_succ]
                  refine wpAnyH_ready (rs := [7]) (by kernel_rfl) (by simp) (AllReadyH.cons rfl (fun K hK => ?_) AllReadyH.nil)
                  refine wp_app_NG (w0 := w4) (base := w4.heap.size) _ _ 67 rfl Try.underlying67 infoInt rfl (by exact ownsRow_later hown1 (inferInstance : Later w11 _)) inferInstance (Nat.le_refl _) (Later.size (w := w4) inferInstance) rfl (ints_lit1 (t := 3) (by first | exact h6 | exact heap_new (by simp)) hr64) (by omega) ?_; intro v2 w12 hown2 hX2' hG2; have U2 := Later.trans X4 hX2'
                  refine hK.out _ _ (by exact ⟨inferInstance, inferInstance⟩) (fun hHeld => ?_)
                  try simp only [Act.put, List.setIfInBounds_toArray, List.set_cons_zero, List.set_cons_succ]
                  refine wpAnyH_ready (rs := [11]) (by kernel_rfl) (by simp) (AllReadyH.cons rfl (fun K hK => ?_) AllReadyH.nil)
                  refine wp_app_NG (w0 := w4) (base := w4.heap.size) _ _ 67 rfl Try.underlying67 infoInt rfl (by exact ownsRow_later hown2 (inferInstance : Later w12 _)) inferInstance (Nat.le_refl _) (Later.size (w := w4) inferInstance) rfl (by first | exact HIB2.out.later inferInstance | exact HIB3.out.later inferInstance | exact HIB4.out.later inferInstance) (by omega) ?_; intro v3 w13 hown3 hX3 hG3; have U3 := Later.trans X4 hX3
                  refine hK.out _ _ (by exact ⟨inferInstance, inferInstance⟩) (fun hHeld => ?_)
                  try simp only [Act.put, List.setIfInBounds_toArray, List.set_cons_zero, List.set_cons_succ]
                  refine wpAnyH_take (i := 12) (v := ?_) (by simp only [List.getElem?_toArray, List.getElem?_cons_succ, List.getElem?_cons_zero] <;> rfl) (by kernel_rfl) (by kernel_rfl) (by kernel_rfl) (by exact fun _ _ _ h => h) (Or.inl ⟨by kernel_rfl, ?_⟩) (by assumption) ?_
                  rotate_left
                  · intro w' hSw; (try dsimp only at hSw); go_simp; try with_reducible rfl
                  try simp only [Act.put, List.setIfInBounds_toArray, List.set_cons_zero, List.set_cons_succ]
                  refine wpAnyH_done (by kernel_rfl) ?_ _
                case' r5x0_1_2_3_5_8_9_10_6 =>
                  go_simp
                  skip
                  refine hK.out _ _ (by exact ⟨inferInstance, inferInstance⟩) (fun hHeld => ?_)
                  try simp only [Act.put, List.setIfInBounds_toArray, List.set_cons_zero, List.set_cons_succ]
                  refine wpAnyH_ready (rs := [4]) (by kernel_rfl) (by simp) (AllReadyH.cons rfl (fun K hK => ?_) AllReadyH.nil)
                  refine wp_app_NG (w0 := w4) (base := w4.heap.size) _ _ 67 rfl Try.underlying67 infoInt rfl (v := .slice (some ⟨_, 0, none⟩) 0 0) (own_lit0 (by first | exact heap_new (by simp) | exact (heap_old (by simp)).trans (heap_new (by simp))) (by first | exact h49 | (simp; omega) | omega)) inferInstance (Nat.le_refl _) (Later.size (w := w4) inferInstance) rfl (HIF.out.later inferInstance) (by omega) ?_; intro v1 w11 hown1 hX1 hG1; have U1 := Later.trans X4 hX1; (first | (have h6 : Blk w11 (wr.heap.size + 1) 3 #[.int .i64 r] := grown_blk hG1 (by exact heap_new (by simp)) (fun k hk => by simp [Value.ownBlock] at hk; omega)) | (have h6 : Blk w11 wr.heap.size 3 #[.int .i64 r] := grown_blk hG1 (by exact (heap_old (by simp)).trans (heap_new (by simp))) (fun k hk => by simp [Value.ownBlock] at hk; omega)) | skip)
                  refine hK.out _ _ (by exact ⟨inferInstance, inferInstance⟩) (fun hHeld => ?_)
                  try simp only [Act.put, List.setIfInBounds_toArray, List.set_cons_zero, List.set_cons_succ]
                  refine wpAnyH_ready (rs := [7]) (by kernel_rfl) (by simp) (AllReadyH.cons rfl (fun K hK => ?_) AllReadyH.nil)
                  refine wp_app_NG (w0 := w4) (base := w4.heap.size) _ _ 67 rfl Try.underlying67 infoInt rfl (by exact ownsRow_later hown1 (inferInstance : Later w11 _)) inferInstance (Nat.le_refl _) (Later.size (w := w4) inferInstance) rfl (ints_lit1 (t := 3) (by first | exact h6 | exact heap_new (by simp)) hr64) (by omega) ?_; intro v2 w12 hown2 hX2' hG2; have U2 := Later.trans X4 hX2'
                  refine hK.out _ _ (by exact ⟨inferInstance, inferInstance⟩) (fun hHeld => ?_)
                  try simp only [Act.put, List.setIfInBounds_toArray, List.set_cons_zero, List.set_cons_succ]
                  refine wpAnyH_ready (rs := [11]) (by kernel_rfl) (by simp) (AllReadyH.cons rfl (fun K hK => ?_) AllReadyH.nil)
                  refine wp_app_NG (w0 := w4) (base := w4.heap.size) _ _ 67 rfl Try.underlying67 infoInt rfl (by exact ownsRow_later hown2 (inferInstance : Later w12 _)) inferInstance (Nat.le_refl _) (Later.size (w := w4) inferInstance) rfl (by first | exact HIB2.out.later inferInstance | exact HIB3.out.later inferInstance | exact HIB4.out.later inferInstance) (by omega) ?_; intro v3 w13 hown3 hX3 hG3; have U3 := Later.trans X4 hX3
                  refine hK.out _ _ (by exact ⟨inferInstance, inferInstance⟩) (fun hHeld => ?_)
                  try simp only [Act.put, List.setIfInBounds_toArray, List.set_cons_zero, List.set_cons_succ]
                  refine wpAnyH_take (i := 12) (v := ?_) (by simp only [List.getElem?_toArray, List.getElem?_cons_succ, List.getElem?_cons_zero] <;> rfl) (by kernel_rfl) (by kernel_rfl) (by kernel_rfl) (by exact fun _ _ _ h => h) (Or.inl ⟨by kernel_rfl, ?_⟩) (by assumption) ?_
                  rotate_left
                  · intro w' hSw; (try dsimp only at hSw); go_simp; try with_reducible rfl
                  try simp only [Act.put, List.setIfInBounds_toArray, List.set_cons_zero, List.set_cons_succ]
                  refine wpAnyH_done (by kernel_rfl) ?_ _
              case' r5x1_2_3_5_8_9_10_6 =>
                go_simp
                skip
                refine hK.out _ _ (by exact ⟨inferInstance, inferInstance⟩) (fun hHeld => ?_)
                try simp only [Act.put, List.setIfInBounds_toArray, List.set_cons_zero, List.set_cons_succ]
                refine wpAnyH_ready (rs := [0]) (by kernel_rfl) (by simp) (AllReadyH.cons rfl (fun K hK => ?_) AllReadyH.nil)
                go_simp
                skip
                refine hK.out _ _ (by exact ⟨inferInstance, inferInstance⟩) (fun hHeld => ?_)
                try simp only [Act.put, List.setIfInBounds_toArray, List.set_cons_zero, List.set_cons_succ]
                refine wpAnyH_ready (rs := [4]) (by kernel_rfl) (by simp) (AllReadyH.cons rfl (fun K hK => ?_) AllReadyH.nil)
                refine wp_app_NG (w0 := w4) (base := w4.heap.size) _ _ 67 rfl Try.underlying67 infoInt rfl (v := .slice (some ⟨_, 0, none⟩) 0 0) (own_lit0 (by first | exact heap_new (by simp) | exact (heap_old (by simp)).trans (heap_new (by simp))) (by first | exact h49 | (simp; omega) | omega)) inferInstance (Nat.le_refl _) (Later.size (w := w4) inferInstance) rfl (HIF.out.later inferInstance) (by omega) ?_; intro v1 w11 hown1 hX1 hG1; have U1 := Later.trans X4 hX1; (first | (have h6 : Blk w11 (wr.heap.size + 1) 3 #[.int .i64 r] := grown_blk hG1 (by exact heap_new (by simp)) (fun k hk => by simp [Value.ownBlock] at hk; omega)) | (have h6 : Blk w11 wr.heap.size 3 #[.int .i64 r] := grown_blk hG1 (by exact (heap_old (by simp)).trans (heap_new (by simp))) (fun k hk => by simp [Value.ownBlock] at hk; omega)) | skip)
                refine hK.out _ _ (by exact ⟨inferInstance, inferInstance⟩) (fun hHeld => ?_)
                try simp only [Act.put, List.setIfInBounds_toArray, List.set_cons_zero, List.set_cons_succ]
                refine wpAnyH_ready (rs := [7]) (by kernel_rfl) (by simp) (AllReadyH.cons rfl (fun K hK => ?_) AllReadyH.nil)
                refine wp_app_NG (w0 := w4) (base := w4.heap.size) _ _ 67 rfl Try.underlying67 infoInt rfl (by exact ownsRow_later hown1 (inferInstance : Later w11 _)) inferInstance (Nat.le_refl _) (Later.size (w := w4) inferInstance) rfl (ints_lit1 (t := 3) (by first | exact h6 | exact heap_new (by simp)) hr64) (by omega) ?_; intro v2 w12 hown2 hX2' hG2; have U2 := Later.trans X4 hX2'
                refine hK.out _ _ (by exact ⟨inferInstance, inferInstance⟩) (fun hHeld => ?_)
                try simp only [Act.put, List.setIfInBounds_toArray, List.set_cons_zero, List.set_cons_succ]
                refine wpAnyH_ready (rs := [11]) (by kernel_rfl) (by simp) (AllReadyH.cons rfl (fun K hK => ?_) AllReadyH.nil)
                refine wp_app_NG (w0 := w4) (base := w4.heap.size) _ _ 67 rfl Try.underlying67 infoInt rfl (by exact ownsRow_later hown2 (inferInstance : Later w12 _)) inferInstance (Nat.le_refl _) (Later.size (w := w4) inferInstance) rfl (by first | exact HIB2.out.later inferInstance | exact HIB3.out.later inferInstance | exact HIB4.out.later inferInstance) (by omega) ?_; intro v3 w13 hown3 hX3 hG3; have U3 := Later.trans X4 hX3
                refine hK.out _ _ (by exact ⟨inferInstance, inferInstance⟩) (fun hHeld => ?_)
                try simp only [Act.put, List.setIfInBounds_toArray, List.set_cons_zero, List.set_cons_succ]
                refine wpAnyH_take (i := 12) (v := ?_) (by simp only [List.getElem?_toArray, List.getElem?_cons_succ, List.getElem?_cons_zero] <;> rfl) (by kernel_rfl) (by kernel_rfl) (by kernel_rfl) (by exact fun _ _ _ h => h) (Or.inl ⟨by kernel_rfl, ?_⟩) (by assumption) ?_
                rotate_left
                · intro w' hSw; (try dsimp only at hSw); go_simp; try with_reducible rfl
                try simp only [Act.put, List.setIfInBounds_toArray, List.set_cons_zero, List.set_cons_succ]
                refine wpAnyH_done (by kernel_rfl) ?_ _
              all_goals
                obtain ⟨g3, c3, rfl⟩ := own_some hown3 (by omega)
                have HO3 := Lib.hid (own_eq (own_base hown3 (Nat.le_trans hbs2 X4.size)) (m := (insI acc r).length) (ys := (insI acc r).map (Value.int .i64)) (by rw [insI_len]; omega) (by rw [HIN.out]; simp))
                have HBD2 : Hid (∀ y, y ∈ insI acc r → 0 ≤ y ∧ y < 60) := fun y hy => by
                  rcases List.mem_cons.1 ((insI_perm acc r).mem_iff.1 hy) with rfl | h
                  · omega
                  · exact HBD.out y h
                clear hown1 hown2 hown3 hG1 hG2 hG3
                go_wp2_with fail
                go_roundw
                case rel => exact ⟨k + 1, insI acc r, by omega, by go_num, by rw [insI_len]; omega, HF2, HBD2, ⟨g3, c3, congrArg (fun z => Value.slice (some ⟨g3, 0, none⟩) z c3) (by rw [insI_len]; omega)⟩, by first | exact HO3 | (show World.ownsRow _ _ _ _ _ _ _; simpa only [Nat.zero_add, Nat.add_zero] using HO3.out), inferInstance⟩
                case measure => simp [intOf]; omega
            · have HIB2 : Hid (Ints w4 (some ⟨g, 0, none⟩) (acc.length - 0) (c - 0) (acc.drop 0)) := by have := HIB.out; simp only [Nat.zero_add] at this; exact this
              clear HIB
              go_wp2_with fail
              refine wp_region_held_drew (S := (fun w' => Later wb w' ∧ Later w4 w')) (by kernel_rfl) (by exact ⟨inferInstance, inferInstance⟩) (fun hHeld => ?_)
              refine wpAnyH_take (i := 1) (v := ?_) (by simp only [List.getElem?_toArray, List.getElem?_cons_succ, List.getElem?_cons_zero] <;> rfl) (by kernel_rfl) (by kernel_rfl) (by kernel_rfl) (by exact fun _ _ _ h => h) (Or.inl ⟨by kernel_rfl, ?_⟩) (by assumption) ?_
              rotate_left
              · intro w' hSw; (try dsimp only at hSw); go_simp; try with_reducible rfl
              try simp only [Act.put, List.setIfInBounds_toArray, List.set_cons_zero, List.set_cons_succ]
              refine wpAnyH_take (i := 2) (v := ?_) (by simp only [List.getElem?_toArray, List.getElem?_cons_succ, List.getElem?_cons_zero] <;> rfl) (by kernel_rfl) (by kernel_rfl) (by kernel_rfl) (by exact fun _ _ _ h => h) (Or.inl ⟨by kernel_rfl, ?_⟩) (by assumption) ?_
              rotate_left
              · intro w' hSw; (try dsimp only at hSw); go_simp; try with_reducible rfl
              try simp only [Act.put, List.setIfInBounds_toArray, List.set_cons_zero, List.set_cons_succ]
              refine wpAnyH_take (i := 3) (v := ?_) (by simp only [List.getElem?_toArray, List.getElem?_cons_succ, List.getElem?_cons_zero] <;> rfl) (by kernel_rfl) (by kernel_rfl) (by kernel_rfl) (by exact fun _ _ _ h => h) (Or.inl ⟨by kernel_rfl, ?_⟩) (by assumption) ?_
              rotate_left
              · intro w' hSw; (try dsimp only at hSw); go_simp; try with_reducible rfl
              try simp only [Act.put, List.setIfInBounds_toArray, List.set_cons_zero, List.set_cons_succ]
              refine wpAnyH_take (i := 5) (v := ?_) (by simp only [List.getElem?_toArray, List.getElem?_cons_succ, List.getElem?_cons_zero] <;> rfl) (by kernel_rfl) (by kernel_rfl) (by kernel_rfl) (by exact fun _ _ _ h => h) (Or.inl ⟨by kernel_rfl, ?_⟩) (by assumption) ?_
              rotate_left
              · intro w' hSw; (try dsimp only at hSw); go_simp; try with_reducible rfl
              try simp only [Act.put, List.setIfInBounds_toArray, List.set_cons_zero, List.set_cons_succ]
              refine wpAnyH_take (i := 8) (v := ?_) (by simp only [List.getElem?_toArray, List.getElem?_cons_succ, List.getElem?_cons_zero] <;> rfl) (by kernel_rfl) (by kernel_rfl) (by kernel_rfl) (by exact fun _ _ _ h => h) (Or.inl ⟨by kernel_rfl, ?_⟩) (by assumption) ?_
              rotate_left
              · intro w' hSw; (try dsimp only at hSw); go_simp; try with_reducible rfl
              try simp only [Act.put, List.setIfInBounds_toArray, List.set_cons_zero, List.set_cons_succ]
              refine wpAnyH_take (i := 9) (v := ?_) (by simp only [List.getElem?_toArray, List.getElem?_cons_succ, List.getElem?_cons_zero] <;> rfl) (by kernel_rfl) (by kernel_rfl) (by kernel_rfl) (by exact fun _ _ _ h => h) (Or.inl ⟨by kernel_rfl, ?_⟩) (by assumption) ?_
              rotate_left
              · intro w' hSw; (try dsimp only at hSw); go_simp; try with_reducible rfl
              try simp only [Act.put, List.setIfInBounds_toArray, List.set_cons_zero, List.set_cons_succ]
              refine wpAnyH_take (i := 10) (v := ?_) (by simp only [List.getElem?_toArray, List.getElem?_cons_succ, List.getElem?_cons_zero] <;> rfl) (by kernel_rfl) (by kernel_rfl) (by kernel_rfl) (by exact fun _ _ _ h => h) (Or.inl ⟨by kernel_rfl, ?_⟩) (by assumption) ?_
              rotate_left
              · intro w' hSw; (try dsimp only at hSw); go_simp; try with_reducible rfl
              try simp only [Act.put, List.setIfInBounds_toArray, List.set_cons_zero, List.set_cons_succ]
              refine wpAnyH_ready (rs := [0, 6]) (by kernel_rfl) (by simp) (AllReadyH.cons rfl (fun K hK => ?r6x1_2_3_5_8_9_10_0) (AllReadyH.cons rfl (fun K hK => ?r6x1_2_3_5_8_9_10_6) AllReadyH.nil))
              case' r6x1_2_3_5_8_9_10_0 =>
                go_simp
                skip
                refine hK.out _ _ (by exact ⟨inferInstance, inferInstance⟩) (fun hHeld => ?_)
                try simp only [Act.put, List.setIfInBounds_toArray, List.set_cons_zero, List.set_cons_succ]
                refine wpAnyH_ready (rs := [4, 6]) (by kernel_rfl) (by simp) (AllReadyH.cons rfl (fun K hK => ?r6x0_1_2_3_5_8_9_10_4) (AllReadyH.cons rfl (fun K hK => ?r6x0_1_2_3_5_8_9_10_6) AllReadyH.nil))
                case' r6x0_1_2_3_5_8_9_10_4 =>
                  refine wp_app_NG (w0 := w4) (base := w4.heap.size) _ _ 67 rfl Try.underlying67 infoInt rfl (v := .slice (some ⟨_, 0, none⟩) 0 0) (own_lit0 (by first | exact heap_new (by simp) | exact (heap_old (by simp)).trans (heap_new (by simp))) (by first | exact h49 | (simp; omega) | omega)) inferInstance (Nat.le_refl _) (Later.size (w := w4) inferInstance) rfl (HIF.out.later inferInstance) (by omega) ?_; intro v1 w11 hown1 hX1 hG1; have U1 := Later.trans X4 hX1; (first | (have h6 : Blk w11 (wr.heap.size + 1) 3 #[.int .i64 r] := grown_blk hG1 (by exact heap_new (by simp)) (fun k hk => by simp [Value.ownBlock] at hk; omega)) | (have h6 : Blk w11 wr.heap.size 3 #[.int .i64 r] := grown_blk hG1 (by exact (heap_old (by simp)).trans (heap_new (by simp))) (fun k hk => by simp [Value.ownBlock] at hk; omega)) | skip)
                  refine hK.out _ _ (by exact ⟨inferInstance, inferInstance⟩) (fun hHeld => ?_)
                  try simp only [Act.put, List.setIfInBounds_toArray, List.set_cons_zero, List.set_cons_succ]
                  refine wpAnyH_ready (rs := [6]) (by kernel_rfl) (by simp) (AllReadyH.cons rfl (fun K hK => ?_) AllReadyH.nil)
                  go_simp
                  skip
                  refine hK.out _ _ (by exact ⟨inferInstance, inferInstance⟩) (fun hHeld => ?_)
                  try simp only [Act.put, List.setIfInBounds_toArray, List.set_cons_zero, List.set_cons_succ]
                  refine wpAnyH_ready (rs := [7]) (by kernel_rfl) (by simp) (AllReadyH.cons rfl (fun K hK => ?_) AllReadyH.nil)
                  refine wp_app_NG (w0 := w4) (base := w4.heap.size) _ _ 67 rfl Try.underlying67 infoInt rfl (by exact ownsRow_later hown1 (inferInstance : Later w11 _)) inferInstance (Nat.le_refl _) (Later.size (w := w4) inferInstance) rfl (ints_lit1 (t := 3) (by first | exact h6 | exact heap_new (by simp)) hr64) (by omega) ?_; intro v2 w12 hown2 hX2' hG2; have U2 := Later.trans X4 hX2'
                  refine hK.out _ _ (by exact ⟨inferInstance, inferInstance⟩) (fun hHeld => ?_)
                  try simp only [Act.put, List.setIfInBounds_toArray, List.set_cons_zero, List.set_cons_succ]
                  refine wpAnyH_ready (rs := [11]) (by kernel_rfl) (by simp) (AllReadyH.cons rfl (fun K hK => ?_) AllReadyH.nil)
                  refine wp_app_NG (w0 := w4) (base := w4.heap.size) _ _ 67 rfl Try.underlying67 infoInt rfl (by exact ownsRow_later hown2 (inferInstance : Later w12 _)) inferInstance (Nat.le_refl _) (Later.size (w := w4) inferInstance) rfl (by first | exact HIB2.out.later inferInstance | exact HIB3.out.later inferInstance | exact HIB4.out.later inferInstance) (by omega) ?_; intro v3 w13 hown3 hX3 hG3; have U3 := Later.trans X4 hX3
                  refine hK.out _ _ (by exact ⟨inferInstance, inferInstance⟩) (fun hHeld => ?_)
                  try simp only [Act.put, List.setIfInBounds_toArray, List.set_cons_zero, List.set_cons_succ]
                  refine wpAnyH_take (i := 12) (v := ?_) (by simp only [List.getElem?_toArray, List.getElem?_cons_succ, List.getElem?_cons_zero] <;> rfl) (by kernel_rfl) (by kernel_rfl) (by kernel_rfl) (by exact fun _ _ _ h => h) (Or.inl ⟨by kernel_rfl, ?_⟩) (by assumption) ?_
                  rotate_left
                  · intro w' hSw; (try dsimp only at hSw); go_simp; try with_reducible rfl
                  try simp only [Act.put, List.setIfInBounds_toArray, List.set_cons_zero, List.set_cons_succ]
                  refine wpAnyH_done (by kernel_rfl) ?_ _
                case' r6x0_1_2_3_5_8_9_10_6 =>
                  go_simp
                  skip
                  refine hK.out _ _ (by exact ⟨inferInstance, inferInstance⟩) (fun hHeld => ?_)
                  try simp only [Act.put, List.setIfInBounds_toArray, List.set_cons_zero, List.set_cons_succ]
                  refine wpAnyH_ready (rs := [4]) (by kernel_rfl) (by simp) (AllReadyH.cons rfl (fun K hK => ?_) AllReadyH.nil)
                  refine wp_app_NG (w0 := w4) (base := w4.heap.size) _ _ 67 rfl Try.underlying67 infoInt rfl (v := .slice (some ⟨_, 0, none⟩) 0 0) (own_lit0 (by first | exact heap_new (by simp) | exact (heap_old (by simp)).trans (heap_new (by simp))) (by first | exact h49 | (simp; omega) | omega)) inferInstance (Nat.le_refl _) (Later.size (w := w4) inferInstance) rfl (HIF.out.later inferInstance) (by omega) ?_; intro v1 w11 hown1 hX1 hG1; have U1 := Later.trans X4 hX1; (first | (have h6 : Blk w11 (wr.heap.size + 1) 3 #[.int .i64 r] := grown_blk hG1 (by exact heap_new (by simp)) (fun k hk => by simp [Value.ownBlock] at hk; omega)) | (have h6 : Blk w11 wr.heap.size 3 #[.int .i64 r] := grown_blk hG1 (by exact (heap_old (by simp)).trans (heap_new (by simp))) (fun k hk => by simp [Value.ownBlock] at hk; omega)) | skip)
                  refine hK.out _ _ (by exact ⟨inferInstance, inferInstance⟩) (fun hHeld => ?_)
                  try simp only [Act.put, List.setIfInBounds_toArray, List.set_cons_zero, List.set_cons_succ]
                  refine wpAnyH_ready (rs := [7]) (by kernel_rfl) (by simp) (AllReadyH.cons rfl (fun K hK => ?_) AllReadyH.nil)
                  refine wp_app_NG (w0 := w4) (base := w4.heap.size) _ _ 67 rfl Try.underlying67 infoInt rfl (by exact ownsRow_later hown1 (inferInstance : Later w11 _)) inferInstance (Nat.le_refl _) (Later.size (w := w4) inferInstance) rfl (ints_lit1 (t := 3) (by first | exact h6 | exact heap_new (by simp)) hr64) (by omega) ?_; intro v2 w12 hown2 hX2' hG2; have U2 := Later.trans X4 hX2'
                  refine hK.out _ _ (by exact ⟨inferInstance, inferInstance⟩) (fun hHeld => ?_)
                  try simp only [Act.put, List.setIfInBounds_toArray, List.set_cons_zero, List.set_cons_succ]
                  refine wpAnyH_ready (rs := [11]) (by kernel_rfl) (by simp) (AllReadyH.cons rfl (fun K hK => ?_) AllReadyH.nil)
                  refine wp_app_NG (w0 := w4) (base := w4.heap.size) _ _ 67 rfl Try.underlying67 infoInt rfl (by exact ownsRow_later hown2 (inferInstance : Later w12 _)) inferInstance (Nat.le_refl _) (Later.size (w := w4) inferInstance) rfl (by first | exact HIB2.out.later inferInstance | exact HIB3.out.later inferInstance | exact HIB4.out.later inferInstance) (by omega) ?_; intro v3 w13 hown3 hX3 hG3; have U3 := Later.trans X4 hX3
                  refine hK.out _ _ (by exact ⟨inferInstance, inferInstance⟩) (fun hHeld => ?_)
                  try simp only [Act.put, List.setIfInBounds_toArray, List.set_cons_zero, List.set_cons_succ]
                  refine wpAnyH_take (i := 12) (v := ?_) (by simp only [List.getElem?_toArray, List.getElem?_cons_succ, List.getElem?_cons_zero] <;> rfl) (by kernel_rfl) (by kernel_rfl) (by kernel_rfl) (by exact fun _ _ _ h => h) (Or.inl ⟨by kernel_rfl, ?_⟩) (by assumption) ?_
                  rotate_left
                  · intro w' hSw; (try dsimp only at hSw); go_simp; try with_reducible rfl
                  try simp only [Act.put, List.setIfInBounds_toArray, List.set_cons_zero, List.set_cons_succ]
                  refine wpAnyH_done (by kernel_rfl) ?_ _
              case' r6x1_2_3_5_8_9_10_6 =>
                go_simp
                skip
                refine hK.out _ _ (by exact ⟨inferInstance, inferInstance⟩) (fun hHeld => ?_)
                try simp only [Act.put, List.setIfInBounds_toArray, List.set_cons_zero, List.set_cons_succ]
                refine wpAnyH_ready (rs := [0]) (by kernel_rfl) (by simp) (AllReadyH.cons rfl (fun K hK => ?_) AllReadyH.nil)
                go_simp
                skip
                refine hK.out _ _ (by exact ⟨inferInstance, inferInstance⟩) (fun hHeld => ?_)
                try simp only [Act.put, List.setIfInBounds_toArray, List.set_cons_zero, List.set_cons_succ]
                refine wpAnyH_ready (rs := [4]) (by kernel_rfl) (by simp) (AllReadyH.cons rfl (fun K hK => ?_) AllReadyH.nil)
                refine wp_app_NG (w0 := w4) (base := w4.heap.size) _ _ 67 rfl Try.underlying67 infoInt rfl (v := .slice (some ⟨_, 0, none⟩) 0 0) (own_lit0 (by first | exact heap_new (by simp) | exact (heap_old (by simp)).trans (heap_new (by simp))) (by first | exact h49 | (simp; omega) | omega)) inferInstance (Nat.le_refl _) (Later.size (w := w4) inferInstance) rfl (HIF.out.later inferInstance) (by omega) ?_; intro v1 w11 hown1 hX1 hG1; have U1 := Later.trans X4 hX1; (first | (have h6 : Blk w11 (wr.heap.size + 1) 3 #[.int .i64 r] := grown_blk hG1 (by exact heap_new (by simp)) (fun k hk => by simp [Value.ownBlock] at hk; omega)) | (have h6 : Blk w11 wr.heap.size 3 #[.int .i64 r] := grown_blk hG1 (by exact (heap_old (by simp)).trans (heap_new (by simp))) (fun k hk => by simp [Value.ownBlock] at hk; omega)) | skip)
                refine hK.out _ _ (by exact ⟨inferInstance, inferInstance⟩) (fun hHeld => ?_)
                try simp only [Act.put, List.setIfInBounds_toArray, List.set_cons_zero, List.set_cons_succ]
                refine wpAnyH_ready (rs := [7]) (by kernel_rfl) (by simp) (AllReadyH.cons rfl (fun K hK => ?_) AllReadyH.nil)
                refine wp_app_NG (w0 := w4) (base := w4.heap.size) _ _ 67 rfl Try.underlying67 infoInt rfl (by exact ownsRow_later hown1 (inferInstance : Later w11 _)) inferInstance (Nat.le_refl _) (Later.size (w := w4) inferInstance) rfl (ints_lit1 (t := 3) (by first | exact h6 | exact heap_new (by simp)) hr64) (by omega) ?_; intro v2 w12 hown2 hX2' hG2; have U2 := Later.trans X4 hX2'
                refine hK.out _ _ (by exact ⟨inferInstance, inferInstance⟩) (fun hHeld => ?_)
                try simp only [Act.put, List.setIfInBounds_toArray, List.set_cons_zero, List.set_cons_succ]
                refine wpAnyH_ready (rs := [11]) (by kernel_rfl) (by simp) (AllReadyH.cons rfl (fun K hK => ?_) AllReadyH.nil)
                refine wp_app_NG (w0 := w4) (base := w4.heap.size) _ _ 67 rfl Try.underlying67 infoInt rfl (by exact ownsRow_later hown2 (inferInstance : Later w12 _)) inferInstance (Nat.le_refl _) (Later.size (w := w4) inferInstance) rfl (by first | exact HIB2.out.later inferInstance | exact HIB3.out.later inferInstance | exact HIB4.out.later inferInstance) (by omega) ?_; intro v3 w13 hown3 hX3 hG3; have U3 := Later.trans X4 hX3
                refine hK.out _ _ (by exact ⟨inferInstance, inferInstance⟩) (fun hHeld => ?_)
                try simp only [Act.put, List.setIfInBounds_toArray, List.set_cons_zero, List.set_cons_succ]
                refine wpAnyH_take (i := 12) (v := ?_) (by simp only [List.getElem?_toArray, List.getElem?_cons_succ, List.getElem?_cons_zero] <;> rfl) (by kernel_rfl) (by kernel_rfl) (by kernel_rfl) (by exact fun _ _ _ h => h) (Or.inl ⟨by kernel_rfl, ?_⟩) (by assumption) ?_
                rotate_left
                · intro w' hSw; (try dsimp only at hSw); go_simp; try with_reducible rfl
                try simp only [Act.put, List.setIfInBounds_toArray, List.set_cons_zero, List.set_cons_succ]
                refine wpAnyH_done (by kernel_rfl) ?_ _
              all_goals
                obtain ⟨g3, c3, rfl⟩ := own_some hown3 (by omega)
                have HO3 := Lib.hid (own_eq (own_base hown3 (Nat.le_trans hbs2 X4.size)) (m := (insI acc r).length) (ys := (insI acc r).map (Value.int .i64)) (by rw [insI_len]; omega) (by rw [HIN.out]; simp))
                have HBD2 : Hid (∀ y, y ∈ insI acc r → 0 ≤ y ∧ y < 60) := fun y hy => by
                  rcases List.mem_cons.1 ((insI_perm acc r).mem_iff.1 hy) with rfl | h
                  · omega
                  · exact HBD.out y h
                clear hown1 hown2 hown3 hG1 hG2 hG3
                go_wp2_with fail
                go_roundw
                case rel => exact ⟨k + 1, insI acc r, by omega, by go_num, by rw [insI_len]; omega, HF2, HBD2, ⟨g3, c3, congrArg (fun z => Value.slice (some ⟨g3, 0, none⟩) z c3) (by rw [insI_len]; omega)⟩, by first | exact HO3 | (show World.ownsRow _ _ _ _ _ _ _; simpa only [Nat.zero_add, Nat.add_zero] using HO3.out), inferInstance⟩
                case measure => simp [intOf]; omega
          · obtain ⟨j, hjm⟩ : ∃ j, m = j + 1 := ⟨m - 1, by omega⟩
            have hj : j < acc.length := by omega
            obtain ⟨b1, o1, y, hA1, hy, hcy, _⟩ := Ints.at_ HI4.out hj
            cases hA1
            simp only [Nat.zero_add] at hcy
            have hgd : acc.getD j 0 = y := by rw [List.getD_eq_getElem?_getD, hy.out]; rfl
            have hwk : IntKind.i64.wrap ((m : Int) - 1) = (j : Int) := by rw [IntKind.wrap_i64]; omega
            have hm1 : (0 : Int) < m := by omega
            have hm2 : 0 < m := by omega
            have hjt : (j : Int) < acc.length := by omega
            by_cases cg : r < y
            · have HM2 : Hid (posI acc r j = posI acc r acc.length) := by show _ = _; rw [← HM.out, hjm, posI_go (by rw [hgd]; exact cg)]
              have hjl : j ≤ acc.length := by omega
              have hjd : j < m := by omega
              have HJD := Lib.hid hjd
              clear HM hgd hy hjm hjd hm0
              go_wp2_with fail
              go_roundw
              case rel => exact ⟨j, hjl, by go_num, HM2, inferInstance, inferInstance⟩
              case measure => have := HJD.out; simp [intOf]; omega
            · have HPM : Hid (posI acc r acc.length = m) := by show _ = _; rw [← HM.out, hjm, posI_stay (by rw [hgd]; exact cg)]
              clear hgd hy hjm
              have HIN : Hid (insI acc r = acc.take m ++ [r] ++ acc.drop m) := by show _ = _; unfold insI; rw [HPM.out]
              have HIF := Lib.hid (HI4.out.front_ hm)
              have HIB := Lib.hid (HI4.out.back_ hm)
              have h49 := Later.size (w := w4) (W := wr) hX4
              have hr64 : I64 r := by unfold I64; omega
              have hmi : (m : Int) ≤ acc.length := by omega
              have hmc : (m : Int) ≤ c := by omega
              have hac3 : acc.length ≤ 3 := by omega
              clear HPM HM
              by_cases hcm : c = m
              · have HIB2 : Hid (Ints w4 (some ⟨g, 0, none⟩) (acc.length - m) (c - m) (acc.drop m)) := ⟨by rw [List.length_drop], by omega, by omega, fun j x hx => by rw [List.drop_eq_nil_of_le (by omega)] at hx; simp at hx⟩
                have HIB3 : Hid (Ints w4 (some ⟨g, 0, none⟩) (acc.length - m) 0 (acc.drop m)) := ⟨by rw [List.length_drop], by omega, by omega, fun j x hx => by rw [List.drop_eq_nil_of_le (by omega)] at hx; simp at hx⟩
                have HIB4 : Hid (Ints w4 (some ⟨g, 0, none⟩) 0 0 (acc.drop m)) := ⟨by rw [List.length_drop]; omega, by omega, by omega, fun j x hx => by rw [List.drop_eq_nil_of_le (by omega)] at hx; simp at hx⟩
                clear HIB
                subst hcm
                go_wp2_with fail
                refine wp_region_held_drew (S := (fun w' => Later wb w' ∧ Later w4 w')) (by kernel_rfl) (by exact ⟨inferInstance, inferInstance⟩) (fun hHeld => ?_)
                refine wpAnyH_take (i := 1) (v := ?_) (by simp only [List.getElem?_toArray, List.getElem?_cons_succ, List.getElem?_cons_zero] <;> rfl) (by kernel_rfl) (by kernel_rfl) (by kernel_rfl) (by exact fun _ _ _ h => h) (Or.inl ⟨by kernel_rfl, ?_⟩) (by assumption) ?_
                rotate_left
                · intro w' hSw; (try dsimp only at hSw); go_simp; try with_reducible rfl
                try simp only [Act.put, List.setIfInBounds_toArray, List.set_cons_zero, List.set_cons_succ]
                refine wpAnyH_take (i := 2) (v := ?_) (by simp only [List.getElem?_toArray, List.getElem?_cons_succ, List.getElem?_cons_zero] <;> rfl) (by kernel_rfl) (by kernel_rfl) (by kernel_rfl) (by exact fun _ _ _ h => h) (Or.inl ⟨by kernel_rfl, ?_⟩) (by assumption) ?_
                rotate_left
                · intro w' hSw; (try dsimp only at hSw); go_simp; try with_reducible rfl
                try simp only [Act.put, List.setIfInBounds_toArray, List.set_cons_zero, List.set_cons_succ]
                refine wpAnyH_take (i := 3) (v := ?_) (by simp only [List.getElem?_toArray, List.getElem?_cons_succ, List.getElem?_cons_zero] <;> rfl) (by kernel_rfl) (by kernel_rfl) (by kernel_rfl) (by exact fun _ _ _ h => h) (Or.inl ⟨by kernel_rfl, ?_⟩) (by assumption) ?_
                rotate_left
                · intro w' hSw; (try dsimp only at hSw); go_simp; try with_reducible rfl
                try simp only [Act.put, List.setIfInBounds_toArray, List.set_cons_zero, List.set_cons_succ]
                refine wpAnyH_take (i := 5) (v := ?_) (by simp only [List.getElem?_toArray, List.getElem?_cons_succ, List.getElem?_cons_zero] <;> rfl) (by kernel_rfl) (by kernel_rfl) (by kernel_rfl) (by exact fun _ _ _ h => h) (Or.inl ⟨by kernel_rfl, ?_⟩) (by assumption) ?_
                rotate_left
                · intro w' hSw; (try dsimp only at hSw); go_simp; try with_reducible rfl
                try simp only [Act.put, List.setIfInBounds_toArray, List.set_cons_zero, List.set_cons_succ]
                refine wpAnyH_take (i := 8) (v := ?_) (by simp only [List.getElem?_toArray, List.getElem?_cons_succ, List.getElem?_cons_zero] <;> rfl) (by kernel_rfl) (by kernel_rfl) (by kernel_rfl) (by exact fun _ _ _ h => h) (Or.inl ⟨by kernel_rfl, ?_⟩) (by assumption) ?_
                rotate_left
                · intro w' hSw; (try dsimp only at hSw); go_simp; try with_reducible rfl
                try simp only [Act.put, List.setIfInBounds_toArray, List.set_cons_zero, List.set_cons_succ]
                refine wpAnyH_take (i := 9) (v := ?_) (by simp only [List.getElem?_toArray, List.getElem?_cons_succ, List.getElem?_cons_zero] <;> rfl) (by kernel_rfl) (by kernel_rfl) (by kernel_rfl) (by exact fun _ _ _ h => h) (Or.inl ⟨by kernel_rfl, ?_⟩) (by assumption) ?_
                rotate_left
                · intro w' hSw; (try dsimp only at hSw); go_simp; try with_reducible rfl
                try simp only [Act.put, List.setIfInBounds_toArray, List.set_cons_zero, List.set_cons_succ]
                refine wpAnyH_take (i := 10) (v := ?_) (by simp only [List.getElem?_toArray, List.getElem?_cons_succ, List.getElem?_cons_zero] <;> rfl) (by kernel_rfl) (by kernel_rfl) (by kernel_rfl) (by exact fun _ _ _ h => h) (Or.inl ⟨by kernel_rfl, ?_⟩) (by assumption) ?_
                rotate_left
                · intro w' hSw; (try dsimp only at hSw); go_simp; try with_reducible rfl
                try simp only [Act.put, List.setIfInBounds_toArray, List.set_cons_zero, List.set_cons_succ]
                refine wpAnyH_ready (rs := [0, 6]) (by kernel_rfl) (by simp) (AllReadyH.cons rfl (fun K hK => ?r7x1_2_3_5_8_9_10_0) (AllReadyH.cons rfl (fun K hK => ?r7x1_2_3_5_8_9_10_6) AllReadyH.nil))
                case' r7x1_2_3_5_8_9_10_0 =>
                  go_simp
                  skip
                  refine hK.out _ _ (by exact ⟨inferInstance, inferInstance⟩) (fun hHeld => ?_)
                  try simp only [Act.put, List.setIfInBounds_toArray, List.set_cons_zero, List.set_cons_succ]
                  refine wpAnyH_ready (rs := [4, 6]) (by kernel_rfl) (by simp) (AllReadyH.cons rfl (fun K hK => ?r7x0_1_2_3_5_8_9_10_4) (AllReadyH.cons rfl (fun K hK => ?r7x0_1_2_3_5_8_9_10_6) AllReadyH.nil))
                  case' r7x0_1_2_3_5_8_9_10_4 =>
                    refine wp_app_NG (w0 := w4) (base := w4.heap.size) _ _ 67 rfl Try.underlying67 infoInt rfl (v := .slice (some ⟨_, 0, none⟩) 0 0) (own_lit0 (by first | exact heap_new (by simp) | exact (heap_old (by simp)).trans (heap_new (by simp))) (by first | exact h49 | (simp; omega) | omega)) inferInstance (Nat.le_refl _) (Later.size (w := w4) inferInstance) rfl (HIF.out.later inferInstance) (by omega) ?_; intro v1 w11 hown1 hX1 hG1; have U1 := Later.trans X4 hX1; (first | (have h6 : Blk w11 (wr.heap.size + 1) 3 #[.int .i64 r] := grown_blk hG1 (by exact heap_new (by simp)) (fun k hk => by simp [Value.ownBlock] at hk; omega)) | (have h6 : Blk w11 wr.heap.size 3 #[.int .i64 r] := grown_blk hG1 (by exact (heap_old (by simp)).trans (heap_new (by simp))) (fun k hk => by simp [Value.ownBlock] at hk; omega)) | skip)
                    refine hK.out _ _ (by exact ⟨inferInstance, inferInstance⟩) (fun hHeld => ?_)
                    try simp only [Act.put, List.setIfInBounds_toArray, List.set_cons_zero, List.set_cons_succ]
                    refine wpAnyH_ready (rs := [6]) (by kernel_rfl) (by simp) (AllReadyH.cons rfl (fun K hK => ?_) AllReadyH.nil)
                    go_simp
                    skip
                    refine hK.out _ _ (by exact ⟨inferInstance, inferInstance⟩) (fun hHeld => ?_)
                    try simp only [Act.put, List.setIfInBounds_toArray, List.set_cons_zero, List.set_cons_succ]
                    refine wpAnyH_ready (rs := [7]) (by kernel_rfl) (by simp) (AllReadyH.cons rfl (fun K hK => ?_) AllReadyH.nil)
                    refine wp_app_NG (w0 := w4) (base := w4.heap.size) _ _ 67 rfl Try.underlying67 infoInt rfl (by exact ownsRow_later hown1 (inferInstance : Later w11 _)) inferInstance (Nat.le_refl _) (Later.size (w := w4) inferInstance) rfl (ints_lit1 (t := 3) (by first | exact h6 | exact heap_new (by simp)) hr64) (by omega) ?_; intro v2 w12 hown2 hX2' hG2; have U2 := Later.trans X4 hX2'
                    refine hK.out _ _ (by exact ⟨inferInstance, inferInstance⟩) (fun hHeld => ?_)
                    try simp only [Act.put, List.setIfInBounds_toArray, List.set_cons_zero, List.set_cons_succ]
                    refine wpAnyH_ready (rs := [11]) (by kernel_rfl) (by simp) (AllReadyH.cons rfl (fun K hK => ?_) AllReadyH.nil)
                    refine wp_app_NG (w0 := w4) (base := w4.heap.size) _ _ 67 rfl Try.underlying67 infoInt rfl (by exact ownsRow_later hown2 (inferInstance : Later w12 _)) inferInstance (Nat.le_refl _) (Later.size (w := w4) inferInstance) rfl (by first | exact HIB2.out.later inferInstance | exact HIB3.out.later inferInstance | exact HIB4.out.later inferInstance) (by omega) ?_; intro v3 w13 hown3 hX3 hG3; have U3 := Later.trans X4 hX3
                    refine hK.out _ _ (by exact ⟨inferInstance, inferInstance⟩) (fun hHeld => ?_)
                    try simp only [Act.put, List.setIfInBounds_toArray, List.set_cons_zero, List.set_cons_succ]
                    refine wpAnyH_take (i := 12) (v := ?_) (by simp only [List.getElem?_toArray, List.getElem?_cons_succ, List.getElem?_cons_zero] <;> rfl) (by kernel_rfl) (by kernel_rfl) (by kernel_rfl) (by exact fun _ _ _ h => h) (Or.inl ⟨by kernel_rfl, ?_⟩) (by assumption) ?_
                    rotate_left
                    · intro w' hSw; (try dsimp only at hSw); go_simp; try with_reducible rfl
                    try simp only [Act.put, List.setIfInBounds_toArray, List.set_cons_zero, List.set_cons_succ]
                    refine wpAnyH_done (by kernel_rfl) ?_ _
                  case' r7x0_1_2_3_5_8_9_10_6 =>
                    go_simp
                    skip
                    refine hK.out _ _ (by exact ⟨inferInstance, inferInstance⟩) (fun hHeld => ?_)
                    try simp only [Act.put, List.setIfInBounds_toArray, List.set_cons_zero, List.set_cons_succ]
                    refine wpAnyH_ready (rs := [4]) (by kernel_rfl) (by simp) (AllReadyH.cons rfl (fun K hK => ?_) AllReadyH.nil)
                    refine wp_app_NG (w0 := w4) (base := w4.heap.size) _ _ 67 rfl Try.underlying67 infoInt rfl (v := .slice (some ⟨_, 0, none⟩) 0 0) (own_lit0 (by first | exact heap_new (by simp) | exact (heap_old (by simp)).trans (heap_new (by simp))) (by first | exact h49 | (simp; omega) | omega)) inferInstance (Nat.le_refl _) (Later.size (w := w4) inferInstance) rfl (HIF.out.later inferInstance) (by omega) ?_; intro v1 w11 hown1 hX1 hG1; have U1 := Later.trans X4 hX1; (first | (have h6 : Blk w11 (wr.heap.size + 1) 3 #[.int .i64 r] := grown_blk hG1 (by exact heap_new (by simp)) (fun k hk => by simp [Value.ownBlock] at hk; omega)) | (have h6 : Blk w11 wr.heap.size 3 #[.int .i64 r] := grown_blk hG1 (by exact (heap_old (by simp)).trans (heap_new (by simp))) (fun k hk => by simp [Value.ownBlock] at hk; omega)) | skip)
                    refine hK.out _ _ (by exact ⟨inferInstance, inferInstance⟩) (fun hHeld => ?_)
                    try simp only [Act.put, List.setIfInBounds_toArray, List.set_cons_zero, List.set_cons_succ]
                    refine wpAnyH_ready (rs := [7]) (by kernel_rfl) (by simp) (AllReadyH.cons rfl (fun K hK => ?_) AllReadyH.nil)
                    refine wp_app_NG (w0 := w4) (base := w4.heap.size) _ _ 67 rfl Try.underlying67 infoInt rfl (by exact ownsRow_later hown1 (inferInstance : Later w11 _)) inferInstance (Nat.le_refl _) (Later.size (w := w4) inferInstance) rfl (ints_lit1 (t := 3) (by first | exact h6 | exact heap_new (by simp)) hr64) (by omega) ?_; intro v2 w12 hown2 hX2' hG2; have U2 := Later.trans X4 hX2'
                    refine hK.out _ _ (by exact ⟨inferInstance, inferInstance⟩) (fun hHeld => ?_)
                    try simp only [Act.put, List.setIfInBounds_toArray, List.set_cons_zero, List.set_cons_succ]
                    refine wpAnyH_ready (rs := [11]) (by kernel_rfl) (by simp) (AllReadyH.cons rfl (fun K hK => ?_) AllReadyH.nil)
                    refine wp_app_NG (w0 := w4) (base := w4.heap.size) _ _ 67 rfl Try.underlying67 infoInt rfl (by exact ownsRow_later hown2 (inferInstance : Later w12 _)) inferInstance (Nat.le_refl _) (Later.size (w := w4) inferInstance) rfl (by first | exact HIB2.out.later inferInstance | exact HIB3.out.later inferInstance | exact HIB4.out.later inferInstance) (by omega) ?_; intro v3 w13 hown3 hX3 hG3; have U3 := Later.trans X4 hX3
                    refine hK.out _ _ (by exact ⟨inferInstance, inferInstance⟩) (fun hHeld => ?_)
                    try simp only [Act.put, List.setIfInBounds_toArray, List.set_cons_zero, List.set_cons_succ]
                    refine wpAnyH_take (i := 12) (v := ?_) (by simp only [List.getElem?_toArray, List.getElem?_cons_succ, List.getElem?_cons_zero] <;> rfl) (by kernel_rfl) (by kernel_rfl) (by kernel_rfl) (by exact fun _ _ _ h => h) (Or.inl ⟨by kernel_rfl, ?_⟩) (by assumption) ?_
                    rotate_left
                    · intro w' hSw; (try dsimp only at hSw); go_simp; try with_reducible rfl
                    try simp only [Act.put, List.setIfInBounds_toArray, List.set_cons_zero, List.set_cons_succ]
                    refine wpAnyH_done (by kernel_rfl) ?_ _
                case' r7x1_2_3_5_8_9_10_6 =>
                  go_simp
                  skip
                  refine hK.out _ _ (by exact ⟨inferInstance, inferInstance⟩) (fun hHeld => ?_)
                  try simp only [Act.put, List.setIfInBounds_toArray, List.set_cons_zero, List.set_cons_succ]
                  refine wpAnyH_ready (rs := [0]) (by kernel_rfl) (by simp) (AllReadyH.cons rfl (fun K hK => ?_) AllReadyH.nil)
                  go_simp
                  skip
                  refine hK.out _ _ (by exact ⟨inferInstance, inferInstance⟩) (fun hHeld => ?_)
                  try simp only [Act.put, List.setIfInBounds_toArray, List.set_cons_zero, List.set_cons_succ]
                  refine wpAnyH_ready (rs := [4]) (by kernel_rfl) (by simp) (AllReadyH.cons rfl (fun K hK => ?_) AllReadyH.nil)
                  refine wp_app_NG (w0 := w4) (base := w4.heap.size) _ _ 67 rfl Try.underlying67 infoInt rfl (v := .slice (some ⟨_, 0, none⟩) 0 0) (own_lit0 (by first | exact heap_new (by simp) | exact (heap_old (by simp)).trans (heap_new (by simp))) (by first | exact h49 | (simp; omega) | omega)) inferInstance (Nat.le_refl _) (Later.size (w := w4) inferInstance) rfl (HIF.out.later inferInstance) (by omega) ?_; intro v1 w11 hown1 hX1 hG1; have U1 := Later.trans X4 hX1; (first | (have h6 : Blk w11 (wr.heap.size + 1) 3 #[.int .i64 r] := grown_blk hG1 (by exact heap_new (by simp)) (fun k hk => by simp [Value.ownBlock] at hk; omega)) | (have h6 : Blk w11 wr.heap.size 3 #[.int .i64 r] := grown_blk hG1 (by exact (heap_old (by simp)).trans (heap_new (by simp))) (fun k hk => by simp [Value.ownBlock] at hk; omega)) | skip)
                  refine hK.out _ _ (by exact ⟨inferInstance, inferInstance⟩) (fun hHeld => ?_)
                  try simp only [Act.put, List.setIfInBounds_toArray, List.set_cons_zero, List.set_cons_succ]
                  refine wpAnyH_ready (rs := [7]) (by kernel_rfl) (by simp) (AllReadyH.cons rfl (fun K hK => ?_) AllReadyH.nil)
                  refine wp_app_NG (w0 := w4) (base := w4.heap.size) _ _ 67 rfl Try.underlying67 infoInt rfl (by exact ownsRow_later hown1 (inferInstance : Later w11 _)) inferInstance (Nat.le_refl _) (Later.size (w := w4) inferInstance) rfl (ints_lit1 (t := 3) (by first | exact h6 | exact heap_new (by simp)) hr64) (by omega) ?_; intro v2 w12 hown2 hX2' hG2; have U2 := Later.trans X4 hX2'
                  refine hK.out _ _ (by exact ⟨inferInstance, inferInstance⟩) (fun hHeld => ?_)
                  try simp only [Act.put, List.setIfInBounds_toArray, List.set_cons_zero, List.set_cons_succ]
                  refine wpAnyH_ready (rs := [11]) (by kernel_rfl) (by simp) (AllReadyH.cons rfl (fun K hK => ?_) AllReadyH.nil)
                  refine wp_app_NG (w0 := w4) (base := w4.heap.size) _ _ 67 rfl Try.underlying67 infoInt rfl (by exact ownsRow_later hown2 (inferInstance : Later w12 _)) inferInstance (Nat.le_refl _) (Later.size (w := w4) inferInstance) rfl (by first | exact HIB2.out.later inferInstance | exact HIB3.out.later inferInstance | exact HIB4.out.later inferInstance) (by omega) ?_; intro v3 w13 hown3 hX3 hG3; have U3 := Later.trans X4 hX3
                  refine hK.out _ _ (by exact ⟨inferInstance, inferInstance⟩) (fun hHeld => ?_)
                  try simp only [Act.put, List.setIfInBounds_toArray, List.set_cons_zero, List.set_cons_succ]
                  refine wpAnyH_take (i := 12) (v := ?_) (by simp only [List.getElem?_toArray, List.getElem?_cons_succ, List.getElem?_cons_zero] <;> rfl) (by kernel_rfl) (by kernel_rfl) (by kernel_rfl) (by exact fun _ _ _ h => h) (Or.inl ⟨by kernel_rfl, ?_⟩) (by assumption) ?_
                  rotate_left
                  · intro w' hSw; (try dsimp only at hSw); go_simp; try with_reducible rfl
                  try simp only [Act.put, List.setIfInBounds_toArray, List.set_cons_zero, List.set_cons_succ]
                  refine wpAnyH_done (by kernel_rfl) ?_ _
                all_goals
                  obtain ⟨g3, c3, rfl⟩ := own_some hown3 (by omega)
                  have HO3 := Lib.hid (own_eq (own_base hown3 (Nat.le_trans hbs2 X4.size)) (m := (insI acc r).length) (ys := (insI acc r).map (Value.int .i64)) (by rw [insI_len]; omega) (by rw [HIN.out]; simp))
                  have HBD2 : Hid (∀ y, y ∈ insI acc r → 0 ≤ y ∧ y < 60) := fun y hy => by
                    rcases List.mem_cons.1 ((insI_perm acc r).mem_iff.1 hy) with rfl | h
                    · omega
                    · exact HBD.out y h
                  clear hown1 hown2 hown3 hG1 hG2 hG3
                  go_wp2_with fail
                  go_roundw
                  case rel => exact ⟨k + 1, insI acc r, by omega, by go_num, by rw [insI_len]; omega, HF2, HBD2, ⟨g3, c3, congrArg (fun z => Value.slice (some ⟨g3, 0, none⟩) z c3) (by rw [insI_len]; omega)⟩, by first | exact HO3 | (show World.ownsRow _ _ _ _ _ _ _; simpa only [Nat.zero_add, Nat.add_zero] using HO3.out), inferInstance⟩
                  case measure => simp [intOf]; omega
              · have HIB2 : Hid (Ints w4 (some ⟨g, m, none⟩) (acc.length - m) (c - m) (acc.drop m)) := by have := HIB.out; simp only [Nat.zero_add] at this; exact this
                clear HIB
                go_wp2_with fail
                refine wp_region_held_drew (S := (fun w' => Later wb w' ∧ Later w4 w')) (by kernel_rfl) (by exact ⟨inferInstance, inferInstance⟩) (fun hHeld => ?_)
                refine wpAnyH_take (i := 1) (v := ?_) (by simp only [List.getElem?_toArray, List.getElem?_cons_succ, List.getElem?_cons_zero] <;> rfl) (by kernel_rfl) (by kernel_rfl) (by kernel_rfl) (by exact fun _ _ _ h => h) (Or.inl ⟨by kernel_rfl, ?_⟩) (by assumption) ?_
                rotate_left
                · intro w' hSw; (try dsimp only at hSw); go_simp; try with_reducible rfl
                try simp only [Act.put, List.setIfInBounds_toArray, List.set_cons_zero, List.set_cons_succ]
                refine wpAnyH_take (i := 2) (v := ?_) (by simp only [List.getElem?_toArray, List.getElem?_cons_succ, List.getElem?_cons_zero] <;> rfl) (by kernel_rfl) (by kernel_rfl) (by kernel_rfl) (by exact fun _ _ _ h => h) (Or.inl ⟨by kernel_rfl, ?_⟩) (by assumption) ?_
                rotate_left
                · intro w' hSw; (try dsimp only at hSw); go_simp; try with_reducible rfl
                try simp only [Act.put, List.setIfInBounds_toArray, List.set_cons_zero, List.set_cons_succ]
                refine wpAnyH_take (i := 3) (v := ?_) (by simp only [List.getElem?_toArray, List.getElem?_cons_succ, List.getElem?_cons_zero] <;> rfl) (by kernel_rfl) (by kernel_rfl) (by kernel_rfl) (by exact fun _ _ _ h => h) (Or.inl ⟨by kernel_rfl, ?_⟩) (by assumption) ?_
                rotate_left
                · intro w' hSw; (try dsimp only at hSw); go_simp; try with_reducible rfl
                try simp only [Act.put, List.setIfInBounds_toArray, List.set_cons_zero, List.set_cons_succ]
                refine wpAnyH_take (i := 5) (v := ?_) (by simp only [List.getElem?_toArray, List.getElem?_cons_succ, List.getElem?_cons_zero] <;> rfl) (by kernel_rfl) (by kernel_rfl) (by kernel_rfl) (by exact fun _ _ _ h => h) (Or.inl ⟨by kernel_rfl, ?_⟩) (by assumption) ?_
                rotate_left
                · intro w' hSw; (try dsimp only at hSw); go_simp; try with_reducible rfl
                try simp only [Act.put, List.setIfInBounds_toArray, List.set_cons_zero, List.set_cons_succ]
                refine wpAnyH_take (i := 8) (v := ?_) (by simp only [List.getElem?_toArray, List.getElem?_cons_succ, List.getElem?_cons_zero] <;> rfl) (by kernel_rfl) (by kernel_rfl) (by kernel_rfl) (by exact fun _ _ _ h => h) (Or.inl ⟨by kernel_rfl, ?_⟩) (by assumption) ?_
                rotate_left
                · intro w' hSw; (try dsimp only at hSw); go_simp; try with_reducible rfl
                try simp only [Act.put, List.setIfInBounds_toArray, List.set_cons_zero, List.set_cons_succ]
                refine wpAnyH_take (i := 9) (v := ?_) (by simp only [List.getElem?_toArray, List.getElem?_cons_succ, List.getElem?_cons_zero] <;> rfl) (by kernel_rfl) (by kernel_rfl) (by kernel_rfl) (by exact fun _ _ _ h => h) (Or.inl ⟨by kernel_rfl, ?_⟩) (by assumption) ?_
                rotate_left
                · intro w' hSw; (try dsimp only at hSw); go_simp; try with_reducible rfl
                try simp only [Act.put, List.setIfInBounds_toArray, List.set_cons_zero, List.set_cons_succ]
                refine wpAnyH_take (i := 10) (v := ?_) (by simp only [List.getElem?_toArray, List.getElem?_cons_succ, List.getElem?_cons_zero] <;> rfl) (by kernel_rfl) (by kernel_rfl) (by kernel_rfl) (by exact fun _ _ _ h => h) (Or.inl ⟨by kernel_rfl, ?_⟩) (by assumption) ?_
                rotate_left
                · intro w' hSw; (try dsimp only at hSw); go_simp; try with_reducible rfl
                try simp only [Act.put, List.setIfInBounds_toArray, List.set_cons_zero, List.set_cons_succ]
                refine wpAnyH_ready (rs := [0, 6]) (by kernel_rfl) (by simp) (AllReadyH.cons rfl (fun K hK => ?r8x1_2_3_5_8_9_10_0) (AllReadyH.cons rfl (fun K hK => ?r8x1_2_3_5_8_9_10_6) AllReadyH.nil))
                case' r8x1_2_3_5_8_9_10_0 =>
                  go_simp
                  skip
                  refine hK.out _ _ (by exact ⟨inferInstance, inferInstance⟩) (fun hHeld => ?_)
                  try simp only [Act.put, List.setIfInBounds_toArray, List.set_cons_zero, List.set_cons_succ]
                  refine wpAnyH_ready (rs := [4, 6]) (by kernel_rfl) (by simp) (AllReadyH.cons rfl (fun K hK => ?r8x0_1_2_3_5_8_9_10_4) (AllReadyH.cons rfl (fun K hK => ?r8x0_1_2_3_5_8_9_10_6) AllReadyH.nil))
                  case' r8x0_1_2_3_5_8_9_10_4 =>
                    refine wp_app_NG (w0 := w4) (base := w4.heap.size) _ _ 67 rfl Try.underlying67 infoInt rfl (v := .slice (some ⟨_, 0, none⟩) 0 0) (own_lit0 (by first | exact heap_new (by simp) | exact (heap_old (by simp)).trans (heap_new (by simp))) (by first | exact h49 | (simp; omega) | omega)) inferInstance (Nat.le_refl _) (Later.size (w := w4) inferInstance) rfl (HIF.out.later inferInstance) (by omega) ?_; intro v1 w11 hown1 hX1 hG1; have U1 := Later.trans X4 hX1; (first | (have h6 : Blk w11 (wr.heap.size + 1) 3 #[.int .i64 r] := grown_blk hG1 (by exact heap_new (by simp)) (fun k hk => by simp [Value.ownBlock] at hk; omega)) | (have h6 : Blk w11 wr.heap.size 3 #[.int .i64 r] := grown_blk hG1 (by exact (heap_old (by simp)).trans (heap_new (by simp))) (fun k hk => by simp [Value.ownBlock] at hk; omega)) | skip)
                    refine hK.out _ _ (by exact ⟨inferInstance, inferInstance⟩) (fun hHeld => ?_)
                    try simp only [Act.put, List.setIfInBounds_toArray, List.set_cons_zero, List.set_cons_succ]
                    refine wpAnyH_ready (rs := [6]) (by kernel_rfl) (by simp) (AllReadyH.cons rfl (fun K hK => ?_) AllReadyH.nil)
                    go_simp
                    skip
                    refine hK.out _ _ (by exact ⟨inferInstance, inferInstance⟩) (fun hHeld => ?_)
                    try simp only [Act.put, List.setIfInBounds_toArray, List.set_cons_zero, List.set_cons_succ]
                    refine wpAnyH_ready (rs := [7]) (by kernel_rfl) (by simp) (AllReadyH.cons rfl (fun K hK => ?_) AllReadyH.nil)
                    refine wp_app_NG (w0 := w4) (base := w4.heap.size) _ _ 67 rfl Try.underlying67 infoInt rfl (by exact ownsRow_later hown1 (inferInstance : Later w11 _)) inferInstance (Nat.le_refl _) (Later.size (w := w4) inferInstance) rfl (ints_lit1 (t := 3) (by first | exact h6 | exact heap_new (by simp)) hr64) (by omega) ?_; intro v2 w12 hown2 hX2' hG2; have U2 := Later.trans X4 hX2'
                    refine hK.out _ _ (by exact ⟨inferInstance, inferInstance⟩) (fun hHeld => ?_)
                    try simp only [Act.put, List.setIfInBounds_toArray, List.set_cons_zero, List.set_cons_succ]
                    refine wpAnyH_ready (rs := [11]) (by kernel_rfl) (by simp) (AllReadyH.cons rfl (fun K hK => ?_) AllReadyH.nil)
                    refine wp_app_NG (w0 := w4) (base := w4.heap.size) _ _ 67 rfl Try.underlying67 infoInt rfl (by exact ownsRow_later hown2 (inferInstance : Later w12 _)) inferInstance (Nat.le_refl _) (Later.size (w := w4) inferInstance) rfl (by first | exact HIB2.out.later inferInstance | exact HIB3.out.later inferInstance | exact HIB4.out.later inferInstance) (by omega) ?_; intro v3 w13 hown3 hX3 hG3; have U3 := Later.trans X4 hX3
                    refine hK.out _ _ (by exact ⟨inferInstance, inferInstance⟩) (fun hHeld => ?_)
                    try simp only [Act.put, List.setIfInBounds_toArray, List.set_cons_zero, List.set_cons_succ]
                    refine wpAnyH_take (i := 12) (v := ?_) (by simp only [List.getElem?_toArray, List.getElem?_cons_succ, List.getElem?_cons_zero] <;> rfl) (by kernel_rfl) (by kernel_rfl) (by kernel_rfl) (by exact fun _ _ _ h => h) (Or.inl ⟨by kernel_rfl, ?_⟩) (by assumption) ?_
                    rotate_left
                    · intro w' hSw; (try dsimp only at hSw); go_simp; try with_reducible rfl
                    try simp only [Act.put, List.setIfInBounds_toArray, List.set_cons_zero, List.set_cons_succ]
                    refine wpAnyH_done (by kernel_rfl) ?_ _
                  case' r8x0_1_2_3_5_8_9_10_6 =>
                    go_simp
                    skip
                    refine hK.out _ _ (by exact ⟨inferInstance, inferInstance⟩) (fun hHeld => ?_)
                    try simp only [Act.put, List.setIfInBounds_toArray, List.set_cons_zero, List.set_cons_succ]
                    refine wpAnyH_ready (rs := [4]) (by kernel_rfl) (by simp) (AllReadyH.cons rfl (fun K hK => ?_) AllReadyH.nil)
                    refine wp_app_NG (w0 := w4) (base := w4.heap.size) _ _ 67 rfl Try.underlying67 infoInt rfl (v := .slice (some ⟨_, 0, none⟩) 0 0) (own_lit0 (by first | exact heap_new (by simp) | exact (heap_old (by simp)).trans (heap_new (by simp))) (by first | exact h49 | (simp; omega) | omega)) inferInstance (Nat.le_refl _) (Later.size (w := w4) inferInstance) rfl (HIF.out.later inferInstance) (by omega) ?_; intro v1 w11 hown1 hX1 hG1; have U1 := Later.trans X4 hX1; (first | (have h6 : Blk w11 (wr.heap.size + 1) 3 #[.int .i64 r] := grown_blk hG1 (by exact heap_new (by simp)) (fun k hk => by simp [Value.ownBlock] at hk; omega)) | (have h6 : Blk w11 wr.heap.size 3 #[.int .i64 r] := grown_blk hG1 (by exact (heap_old (by simp)).trans (heap_new (by simp))) (fun k hk => by simp [Value.ownBlock] at hk; omega)) | skip)
                    refine hK.out _ _ (by exact ⟨inferInstance, inferInstance⟩) (fun hHeld => ?_)
                    try simp only [Act.put, List.setIfInBounds_toArray, List.set_cons_zero, List.set_cons_succ]
                    refine wpAnyH_ready (rs := [7]) (by kernel_rfl) (by simp) (AllReadyH.cons rfl (fun K hK => ?_) AllReadyH.nil)
                    refine wp_app_NG (w0 := w4) (base := w4.heap.size) _ _ 67 rfl Try.underlying67 infoInt rfl (by exact ownsRow_later hown1 (inferInstance : Later w11 _)) inferInstance (Nat.le_refl _) (Later.size (w := w4) inferInstance) rfl (ints_lit1 (t := 3) (by first | exact h6 | exact heap_new (by simp)) hr64) (by omega) ?_; intro v2 w12 hown2 hX2' hG2; have U2 := Later.trans X4 hX2'
                    refine hK.out _ _ (by exact ⟨inferInstance, inferInstance⟩) (fun hHeld => ?_)
                    try simp only [Act.put, List.setIfInBounds_toArray, List.set_cons_zero, List.set_cons_succ]
                    refine wpAnyH_ready (rs := [11]) (by kernel_rfl) (by simp) (AllReadyH.cons rfl (fun K hK => ?_) AllReadyH.nil)
                    refine wp_app_NG (w0 := w4) (base := w4.heap.size) _ _ 67 rfl Try.underlying67 infoInt rfl (by exact ownsRow_later hown2 (inferInstance : Later w12 _)) inferInstance (Nat.le_refl _) (Later.size (w := w4) inferInstance) rfl (by first | exact HIB2.out.later inferInstance | exact HIB3.out.later inferInstance | exact HIB4.out.later inferInstance) (by omega) ?_; intro v3 w13 hown3 hX3 hG3; have U3 := Later.trans X4 hX3
                    refine hK.out _ _ (by exact ⟨inferInstance, inferInstance⟩) (fun hHeld => ?_)
                    try simp only [Act.put, List.setIfInBounds_toArray, List.set_cons_zero, List.set_cons_succ]
                    refine wpAnyH_take (i := 12) (v := ?_) (by simp only [List.getElem?_toArray, List.getElem?_cons_succ, List.getElem?_cons_zero] <;> rfl) (by kernel_rfl) (by kernel_rfl) (by kernel_rfl) (by exact fun _ _ _ h => h) (Or.inl ⟨by kernel_rfl, ?_⟩) (by assumption) ?_
                    rotate_left
                    · intro w' hSw; (try dsimp only at hSw); go_simp; try with_reducible rfl
                    try simp only [Act.put, List.setIfInBounds_toArray, List.set_cons_zero, List.set_cons_succ]
                    refine wpAnyH_done (by kernel_rfl) ?_ _
                case' r8x1_2_3_5_8_9_10_6 =>
                  go_simp
                  skip
                  refine hK.out _ _ (by exact ⟨inferInstance, inferInstance⟩) (fun hHeld => ?_)
                  try simp only [Act.put, List.setIfInBounds_toArray, List.set_cons_zero, List.set_cons_succ]
                  refine wpAnyH_ready (rs := [0]) (by kernel_rfl) (by simp) (AllReadyH.cons rfl (fun K hK => ?_) AllReadyH.nil)
                  go_simp
                  skip
                  refine hK.out _ _ (by exact ⟨inferInstance, inferInstance⟩) (fun hHeld => ?_)
                  try simp only [Act.put, List.setIfInBounds_toArray, List.set_cons_zero, List.set_cons_succ]
                  refine wpAnyH_ready (rs := [4]) (by kernel_rfl) (by simp) (AllReadyH.cons rfl (fun K hK => ?_) AllReadyH.nil)
                  refine wp_app_NG (w0 := w4) (base := w4.heap.size) _ _ 67 rfl Try.underlying67 infoInt rfl (v := .slice (some ⟨_, 0, none⟩) 0 0) (own_lit0 (by first | exact heap_new (by simp) | exact (heap_old (by simp)).trans (heap_new (by simp))) (by first | exact h49 | (simp; omega) | omega)) inferInstance (Nat.le_refl _) (Later.size (w := w4) inferInstance) rfl (HIF.out.later inferInstance) (by omega) ?_; intro v1 w11 hown1 hX1 hG1; have U1 := Later.trans X4 hX1; (first | (have h6 : Blk w11 (wr.heap.size + 1) 3 #[.int .i64 r] := grown_blk hG1 (by exact heap_new (by simp)) (fun k hk => by simp [Value.ownBlock] at hk; omega)) | (have h6 : Blk w11 wr.heap.size 3 #[.int .i64 r] := grown_blk hG1 (by exact (heap_old (by simp)).trans (heap_new (by simp))) (fun k hk => by simp [Value.ownBlock] at hk; omega)) | skip)
                  refine hK.out _ _ (by exact ⟨inferInstance, inferInstance⟩) (fun hHeld => ?_)
                  try simp only [Act.put, List.setIfInBounds_toArray, List.set_cons_zero, List.set_cons_succ]
                  refine wpAnyH_ready (rs := [7]) (by kernel_rfl) (by simp) (AllReadyH.cons rfl (fun K hK => ?_) AllReadyH.nil)
                  refine wp_app_NG (w0 := w4) (base := w4.heap.size) _ _ 67 rfl Try.underlying67 infoInt rfl (by exact ownsRow_later hown1 (inferInstance : Later w11 _)) inferInstance (Nat.le_refl _) (Later.size (w := w4) inferInstance) rfl (ints_lit1 (t := 3) (by first | exact h6 | exact heap_new (by simp)) hr64) (by omega) ?_; intro v2 w12 hown2 hX2' hG2; have U2 := Later.trans X4 hX2'
                  refine hK.out _ _ (by exact ⟨inferInstance, inferInstance⟩) (fun hHeld => ?_)
                  try simp only [Act.put, List.setIfInBounds_toArray, List.set_cons_zero, List.set_cons_succ]
                  refine wpAnyH_ready (rs := [11]) (by kernel_rfl) (by simp) (AllReadyH.cons rfl (fun K hK => ?_) AllReadyH.nil)
                  refine wp_app_NG (w0 := w4) (base := w4.heap.size) _ _ 67 rfl Try.underlying67 infoInt rfl (by exact ownsRow_later hown2 (inferInstance : Later w12 _)) inferInstance (Nat.le_refl _) (Later.size (w := w4) inferInstance) rfl (by first | exact HIB2.out.later inferInstance | exact HIB3.out.later inferInstance | exact HIB4.out.later inferInstance) (by omega) ?_; intro v3 w13 hown3 hX3 hG3; have U3 := Later.trans X4 hX3
                  refine hK.out _ _ (by exact ⟨inferInstance, inferInstance⟩) (fun hHeld => ?_)
                  try simp only [Act.put, List.setIfInBounds_toArray, List.set_cons_zero, List.set_cons_succ]
                  refine wpAnyH_take (i := 12) (v := ?_) (by simp only [List.getElem?_toArray, List.getElem?_cons_succ, List.getElem?_cons_zero] <;> rfl) (by kernel_rfl) (by kernel_rfl) (by kernel_rfl) (by exact fun _ _ _ h => h) (Or.inl ⟨by kernel_rfl, ?_⟩) (by assumption) ?_
                  rotate_left
                  · intro w' hSw; (try dsimp only at hSw); go_simp; try with_reducible rfl
                  try simp only [Act.put, List.setIfInBounds_toArray, List.set_cons_zero, List.set_cons_succ]
                  refine wpAnyH_done (by kernel_rfl) ?_ _
                all_goals
                  obtain ⟨g3, c3, rfl⟩ := own_some hown3 (by omega)
                  have HO3 := Lib.hid (own_eq (own_base hown3 (Nat.le_trans hbs2 X4.size)) (m := (insI acc r).length) (ys := (insI acc r).map (Value.int .i64)) (by rw [insI_len]; omega) (by rw [HIN.out]; simp))
                  have HBD2 : Hid (∀ y, y ∈ insI acc r → 0 ≤ y ∧ y < 60) := fun y hy => by
                    rcases List.mem_cons.1 ((insI_perm acc r).mem_iff.1 hy) with rfl | h
                    · omega
                    · exact HBD.out y h
                  clear hown1 hown2 hown3 hG1 hG2 hG3
                  go_wp2_with fail
                  go_roundw
                  case rel => exact ⟨k + 1, insI acc r, by omega, by go_num, by rw [insI_len]; omega, HF2, HBD2, ⟨g3, c3, congrArg (fun z => Value.slice (some ⟨g3, 0, none⟩) z c3) (by rw [insI_len]; omega)⟩, by first | exact HO3 | (show World.ownsRow _ _ _ _ _ _ _; simpa only [Nat.zero_add, Nat.add_zero] using HO3.out), inferInstance⟩
                  case measure => simp [intOf]; omega
    · have HE : Hid (acc = rests n period l stop) := by
        have h3 := HF.out
        rw [List.drop_eq_nil_of_le (by have := Hl.out; omega)] at h3
        exact h3
      clear HF
      go_wp2
      go_ret
      obtain ⟨A, c', fp, hov, ho, hnd, hlo⟩ := OSl.ints_of_own hown.out (fun y hy => by have := HBD.out y hy; unfold I64; omega)
      cases hov
      exact ⟨_, _, c, fp, rfl, by rw [← HE.out]; exact ho, hnd, fun g hg => by have := hlo g hg; omega, hww.trans inferInstance⟩
end Go.Proofs.Ytaopadffabbjiaa
