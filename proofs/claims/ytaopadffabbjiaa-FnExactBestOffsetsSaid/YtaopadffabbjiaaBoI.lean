/-
  Headways: impl.BestOffsets.
-/
import Derived.Test.YtaopadffabbjiaaBoW
namespace Go.Proofs.Ytaopadffabbjiaa
open Go Go.RowKit
set_option linter.unusedVariables false
set_option maxRecDepth 100000
set_option linter.unusedSimpArgs false
def TryC (n : Network) (p : Nat) (l : List Pattern) (stop : Int) (wb : World) (b g tq tc : Nat) (tY : TypeId) (k : Nat) : Prop :=
  ∀ (W : World) (iv : Int) (i u : Nat) (os : List Int), iv = (i : Int) → i + k = l.length → 1 ≤ i → os.take i = (l.headD default).Offset :: digs p u (i - 1) → OffSt n (p : Int) l stop wb b g tq l.length tc tY W os (u * p ^ k) →
    Calls Try.prog 85 #[.int .i64 iv, .pointer (some ⟨g, 0, none⟩), .pointer (some ⟨b + 1, 0, none⟩), .pointer (some ⟨g + 3, 0, none⟩), .pointer (some ⟨b, 0, none⟩), .pointer (some ⟨b + 2, 0, none⟩), .pointer (some ⟨g + 1, 0, none⟩), .pointer (some ⟨g + 2, 0, none⟩)] W (fun e W' => e = .returned (.tuple #[]) ∧ ∃ os', os'.take i = os.take i ∧ OffSt n (p : Int) l stop wb b g tq l.length tc tY W' os' ((u + 1) * p ^ k))
theorem off_take {os : List Int} {o : Int} {i u v p : Nat} (hi : 1 ≤ i) (hl : i < os.length) (h : os.take i = o :: digs p u (i - 1)) (hv : v < p) : (os.set i (v : Int)).take (i + 1) = o :: digs p (u * p + v) (i + 1 - 1) := by
  rw [List.take_add_one, List.getElem?_set_self hl, List.take_set_of_le (Nat.le_refl _), h]
  obtain ⟨m, rfl⟩ : ∃ m, i = m + 1 := ⟨i - 1, by omega⟩
  show (o :: digs p u m) ++ [(v : Int)] = o :: digs p (u * p + v) (m + 1)
  rw [digs_snoc u v m hv]
  rfl
theorem off_back {os os' : List Int} {i : Nat} {v : Int} (h : os'.take (i + 1) = (os.set i v).take (i + 1)) : os'.take i = os.take i := by
  have h2 := congrArg (List.take i) h
  rw [List.take_take, List.take_take, Nat.min_eq_left (by omega), List.take_set_of_le (Nat.le_refl _)] at h2
  exact h2
set_option maxHeartbeats 1600000 in
theorem try_step {w0 wb : World} {sA0 : Option Addr} {sn0 sc0 : Nat} {sA1 : Option Addr} {sn1 sc1 : Nat} {n : Network} (h : NetworkAt w0 sA0 sn0 sc0 sA1 sn1 sc1 n) (hl : Later w0 wb) {p : Nat} {l : List Pattern} {stop : Int} {b g tq tc : Nat} {tY : TypeId}
    (HBn : ∀ W [Later wb W] (j : Nat), W.cell? ⟨b, j, none⟩ = #[.slice sA0 sn0 sc0, .slice sA1 sn1 sc1][j]?) (HBp : ∀ W [Later wb W], W.cell? ⟨b + 1, 0, none⟩ = some (.int .i64 (p : Int))) (HBs : ∀ W [Later wb W], W.cell? ⟨b + 2, 0, none⟩ = some (.int .i64 stop))
    (pf : PatFacts n p l) (hne : 0 < (rests n p l stop).length) (hg : wb.heap.size ≤ g) (hnl : (n.Lines.length : Int) ≤ 1048576) (k : Nat) (ih : ∀ j, k = j + 1 → TryC n p l stop wb b g tq tc tY j) : TryC n p l stop wb b g tq tc tY k := by
  intro W iv i u os hiv hik hi1 htk hst
  subst hiv
  haveI hlat := hst.lat
  have hlo := hst.lo
  have hhi := hst.hi
  have hp1 := pf.per.1
  have hp2 := pf.per.2
  have hl3 := pf.len.2
  have HBP := Lib.hid HBp
  have HBS := Lib.hid HBs
  have HT : ∀ W' [Later W W'], W'.cell? ⟨g, 0, none⟩ = some (.slice (some ⟨tq, 0, none⟩) l.length tc) := fun W' hW' => (hst.bT.later hW').cell 0
  have HST := Lib.hid hst
  have IH := Lib.hid ih
  have HTK := Lib.hid htk
  have PF := Lib.hid pf
  clear hst ih htk pf
  by_cases hlt : i < l.length
  · obtain ⟨j, rfl⟩ : ∃ j, k = j + 1 := ⟨k - 1, by omega⟩
    go_enter Try.func85, Try.ntmps85
    go_wp2
    go_loopw [18] (fun iv wr => ∃ (v : Nat) (os' : List Int), v ≤ p ∧ iv = .int .i64 v ∧ Hid (os'.take i = os.take i) ∧ Hid (OffSt n (p : Int) l stop wb b g tq l.length tc tY wr os' ((u * p + v) * p ^ j))) (fun iv _ => p - (intOf iv).toNat)
    case atStart => exact ⟨0, os, by omega, rfl, Lib.hid rfl, Lib.hid (by have h1 := HST.out; simpa [Nat.pow_succ, Nat.mul_assoc, Nat.mul_comm, Nat.mul_left_comm] using h1)⟩
    case round =>
      obtain ⟨v, os', hv, rfl, HO, HS⟩ := hrel
      haveI hX : Later wb wr := HS.out.lat
      by_cases hvp : v < p
      · have hT2 : ∀ W' [Later wr W'], W'.cell? ⟨g, 0, none⟩ = some (.slice (some ⟨tq, 0, none⟩) l.length tc) := fun W' hW' => (HS.out.bT.later hW').cell 0
        obtain ⟨pt, hpt⟩ : ∃ q, (withO l os')[i]? = some q := ⟨_, List.getElem?_eq_getElem (by rw [withO_len HS.out.hin.len]; exact hlt)⟩
        have hcq := own_cellF HS.out.own (pt_at hpt).2
        obtain ⟨csq, hbq, _⟩ := own_blk HS.out.own
        have hfq : ∀ (j : Nat) W' [Later wr W'], W'.frozen? ⟨tq, j, none⟩ = false := fun j W' hW' => (hbq.later hW').frozen j
        clear hpt hbq
        have HS1 := Lib.hid (HS.out.put hlt (v := v) (by omega) (by omega))
        have HT1 := Lib.hid (off_take (v := v) hi1 (by rw [HS.out.hin.len]; exact hlt) (HO.out.trans HTK.out) hvp)
        have hY1 : ∀ W' [Later (wr.setCell ⟨tq, i * 2 + 1, none⟩ (.int .i64 v)) W'], W'.cell? ⟨g + 3, 0, none⟩ = some (.func (.func 85) #[] (offCaps b g)) := fun W' hW' => (HS1.out.bY.later hW').cell 0
        unfold offCaps at hY1
        go_wp2_with (go_at_call 85; refine (IH.out j rfl _ _ (i + 1) (u * p + v) (os'.set i v) (by omega) (by omega) (by omega) HT1.out HS1.out).mono ?_; rintro e w1 ⟨rfl, os2, ho2, hs2⟩)
        go_roundw
        case rel => exact ⟨v + 1, os2, by omega, by go_num, Lib.hid ((off_back ho2).trans HO.out), Lib.hid hs2⟩
        case measure => simp [intOf]; omega
      · obtain rfl : v = p := by omega
        go_wp2
        (try simp only [Exit.inBlock, Exit.then]); refine bodyPost_ret (results_none rfl _ _ _) rfl ?_
        exact ⟨rfl, os', HO.out, by have h1 := HS.out; simpa [Nat.pow_succ, Nat.mul_assoc, Nat.mul_comm, Nat.mul_left_comm, Nat.add_mul, Nat.mul_add] using h1⟩
  · obtain rfl : k = 0 := by omega
    have hil : i = l.length := by omega
    subst hil
    have hos : os = offsC l p u := by
      have h1 := HTK.out
      rw [List.take_of_length_le (by rw [HST.out.hin.len]; omega)] at h1
      exact h1
    have HS := Lib.hid (show OffSt n (p : Int) l stop wb b g tq l.length tc tY W os u by have h1 := HST.out; simpa using h1)
    have HSL := Lib.hid (HS.out.sl PF.out hnl rfl)
    have PF2 := Lib.hid (withO_pat PF.out HS.out.hin)
    have hne2 : Hid (0 < (rests n (p : Int) (withO l os) stop).length) := by show 0 < _; rw [rests_withO hp1 HS.out.hin.len]; exact hne
    have HG : Hid ((big (gapsO (rests n (p : Int) (withO l os) stop) (p : Int))).1 = gapC n (p : Int) l stop u) := by show _ = _; unfold gapC gapO; rw [Int.toNat_natCast, ← hos]
    have HSO := Lib.hid (rests_sorted n (p : Int) (withO l os) stop)
    have HH := Lib.hid h
    have HOS := Lib.hid hos
    clear h HST HTK hos
    go_enter Try.func85, Try.ntmps85
    go_wp2_with fail
    refine wp_region_held_drew (S := (fun w' => Later W w' ∧ Later wb w')) (by kernel_rfl) (by exact ⟨inferInstance, inferInstance⟩) (fun hHeld => ?_)
    refine wpAnyH_take (i := 0) (v := ?_) (by simp only [List.getElem?_toArray, List.getElem?_cons_zero] <;> rfl) (by kernel_rfl) (by kernel_rfl) (by kernel_rfl) (by exact fun _ _ _ h => h) (Or.inl ⟨by kernel_rfl, ?_⟩) (by assumption) ?_
    rotate_left
    · intro w' hSw; (try dsimp only at hSw); go_simp; try with_reducible rfl
    try simp only [Act.put, List.setIfInBounds_toArray, List.set_cons_zero, List.set_cons_succ]
    refine wpAnyH_take (i := 1) (v := ?_) (by simp only [List.getElem?_toArray, List.getElem?_cons_succ, List.getElem?_cons_zero] <;> rfl) (by kernel_rfl) (by kernel_rfl) (by kernel_rfl) (by exact fun _ _ _ h => h) (Or.inl ⟨by kernel_rfl, ?_⟩) (by assumption) ?_
    rotate_left
    · intro w' hSw; (try dsimp only at hSw); go_simp; try with_reducible rfl
    try simp only [Act.put, List.setIfInBounds_toArray, List.set_cons_zero, List.set_cons_succ]
    refine wpAnyH_take (i := 2) (v := ?_) (by simp only [List.getElem?_toArray, List.getElem?_cons_succ, List.getElem?_cons_zero] <;> rfl) (by kernel_rfl) (by kernel_rfl) (by kernel_rfl) (by exact fun _ _ _ h => h) (Or.inl ⟨by kernel_rfl, ?_⟩) (by assumption) ?_
    rotate_left
    · intro w' hSw; (try dsimp only at hSw); go_simp; try with_reducible rfl
    try simp only [Act.put, List.setIfInBounds_toArray, List.set_cons_zero, List.set_cons_succ]
    refine wpAnyH_take (i := 3) (v := ?_) (by simp only [List.getElem?_toArray, List.getElem?_cons_succ, List.getElem?_cons_zero] <;> rfl) (by kernel_rfl) (by kernel_rfl) (by kernel_rfl) (by exact fun _ _ _ h => h) (Or.inl ⟨by kernel_rfl, ?_⟩) (by assumption) ?_
    rotate_left
    · intro w' hSw; (try dsimp only at hSw); go_simp; try with_reducible rfl
    try simp only [Act.put, List.setIfInBounds_toArray, List.set_cons_zero, List.set_cons_succ]
    refine wpAnyH_take (i := 5) (v := ?_) (by simp only [List.getElem?_toArray, List.getElem?_cons_succ, List.getElem?_cons_zero] <;> rfl) (by kernel_rfl) (by kernel_rfl) (by kernel_rfl) (by exact fun _ _ _ h => h) (Or.inl ⟨by kernel_rfl, ?_⟩) (by assumption) ?_
    rotate_left
    · intro w' hSw; (try dsimp only at hSw); go_simp; try with_reducible rfl
    try simp only [Act.put, List.setIfInBounds_toArray, List.set_cons_zero, List.set_cons_succ]
    refine wpAnyH_ready (rs := [4]) (by kernel_rfl) (by simp) (AllReadyH.cons rfl (fun K hK => ?_) AllReadyH.nil)
    go_simp
    (go_at_call 83; refine (impl_passingRests HH.out (hl.trans inferInstance) _ HSL.out inferInstance PF2.out stop).mono ?_; rintro e w3 ⟨A3, n3, c3, fp3, rfl, ho3, hnd3, hlo3, L3⟩; have X3 := Later.trans (w := W) inferInstance L3; have Y3 := Later.trans (w := wb) inferInstance L3; have h3 : Ints w3 A3 n3 c3 (rests n (p : Int) (withO l os) stop) := ho3.reads; have H3 := Lib.hid h3; clear h3)
    refine hK.out _ _ (by exact ⟨inferInstance, inferInstance⟩) (fun hHeld => ?_)
    try simp only [Act.put, List.setIfInBounds_toArray, List.set_cons_zero, List.set_cons_succ]
    refine wpAnyH_ready (rs := [6]) (by kernel_rfl) (by simp) (AllReadyH.cons rfl (fun K hK => ?_) AllReadyH.nil)
    go_simp
    (go_at_call 86; refine (impl_largestGap H3.out inferInstance (restsIn PF2.out) hne2.out HSO.out).mono ?_; rintro e w4 ⟨rfl, L4⟩; have X4 := Later.trans (w := W) inferInstance L4; have Y4 := Later.trans (w := wb) inferInstance L4)
    refine hK.out _ _ (by exact ⟨inferInstance, inferInstance⟩) (fun hHeld => ?_)
    try simp only [Act.put, List.setIfInBounds_toArray, List.set_cons_zero, List.set_cons_succ]
    refine wpAnyH_take (i := 7) (v := ?_) (by simp only [List.getElem?_toArray, List.getElem?_cons_succ, List.getElem?_cons_zero] <;> rfl) (by kernel_rfl) (by kernel_rfl) (by kernel_rfl) (by exact fun _ _ _ h => h) (Or.inl ⟨by kernel_rfl, ?_⟩) (by assumption) ?_
    rotate_left
    · intro w' hSw; (try dsimp only at hSw); go_simp; try with_reducible rfl
    try simp only [Act.put, List.setIfInBounds_toArray, List.set_cons_zero, List.set_cons_succ]
    refine wpAnyH_take (i := 8) (v := ?_) (by simp only [List.getElem?_toArray, List.getElem?_cons_succ, List.getElem?_cons_zero] <;> rfl) (by kernel_rfl) (by kernel_rfl) (by kernel_rfl) (by exact fun _ _ _ h => h) (Or.inl ⟨by kernel_rfl, ?_⟩) (by assumption) ?_
    rotate_left
    · intro w' hSw; (try dsimp only at hSw); go_simp; try with_reducible rfl
    try simp only [Act.put, List.setIfInBounds_toArray, List.set_cons_zero, List.set_cons_succ]
    refine wpAnyH_take (i := 9) (v := ?_) (by simp only [List.getElem?_toArray, List.getElem?_cons_succ, List.getElem?_cons_zero] <;> rfl) (by kernel_rfl) (by kernel_rfl) (by kernel_rfl) (by exact fun _ _ _ h => h) (Or.inl ⟨by kernel_rfl, ?_⟩) (by assumption) ?_
    rotate_left
    · intro w' hSw; (try dsimp only at hSw); go_simp; try with_reducible rfl
    try simp only [Act.put, List.setIfInBounds_toArray, List.set_cons_zero, List.set_cons_succ]
    refine wpAnyH_take (i := 10) (v := ?_) (by simp only [List.getElem?_toArray, List.getElem?_cons_succ, List.getElem?_cons_zero] <;> rfl) (by kernel_rfl) (by kernel_rfl) (by kernel_rfl) (by exact fun _ _ _ h => h) (Or.inl ⟨by kernel_rfl, ?_⟩) (by assumption) ?_
    rotate_left
    · intro w' hSw; (try dsimp only at hSw); go_simp; try with_reducible rfl
    try simp only [Act.put, List.setIfInBounds_toArray, List.set_cons_zero, List.set_cons_succ]
    refine wpAnyH_take (i := 11) (v := ?_) (by simp only [List.getElem?_toArray, List.getElem?_cons_succ, List.getElem?_cons_zero] <;> rfl) (by kernel_rfl) (by kernel_rfl) (by kernel_rfl) (by exact fun _ _ _ h => h) (Or.inl ⟨by kernel_rfl, ?_⟩) (by assumption) ?_
    rotate_left
    · intro w' hSw; (try dsimp only at hSw); go_simp; try with_reducible rfl
    try simp only [Act.put, List.setIfInBounds_toArray, List.set_cons_zero, List.set_cons_succ]
    refine wpAnyH_done (by kernel_rfl) ?_ _
    rw [HG.out]
    have HS4 := Lib.hid (HS.out.later X4)
    obtain ⟨v, hvB, hvo, hvn⟩ := HS4.out.best
    have hBc : ∀ W' [Later w4 W'], W'.cell? ⟨g + 1, 0, none⟩ = some v := fun W' hW' => (hvB.later hW').cell 0
    have hLc : ∀ W' [Later w4 W'], W'.cell? ⟨g + 2, 0, none⟩ = some (.int .i64 (offAt n (p : Int) l stop u).2) := fun W' hW' => (HS4.out.bL.later hW').cell 0
    have hBf : ∀ (j : Nat) W' [Later w4 W'], W'.frozen? ⟨g + 1, j, none⟩ = false := fun j W' hW' => (hvB.later hW').frozen j
    have hLf : ∀ (j : Nat) W' [Later w4 W'], W'.frozen? ⟨g + 2, j, none⟩ = false := fun j W' hW' => (HS4.out.bL.later hW').frozen j
    cases hb : bstC (gapC n (p : Int) l stop) u with
    | none =>
      have hv0 := hvn hb
      subst hv0
      have hq9 : ∀ (w : World), (binOp .eql 67 (.slice none 0 0) (.slice none 0 0)).run Try.prog w = .ok (.bool true) w := fun w => eql_nil w 67 _ _ _ _ Try.underlying67
      have hnew := Lib.hid (bstC_new (F := gapC n (p : Int) l stop) (c := u) (.inl hb))
      have HM0 := Lib.hid (HS4.out.mid hg (gapC n (p : Int) l stop u))
      have hTn : ∀ W' [Later ((w4.setCell ⟨g + 1, 0, none⟩ (.slice none 0 0)).setCell ⟨g + 2, 0, none⟩ (.int .i64 (gapC n (p : Int) l stop u))) W'], W'.cell? ⟨g, 0, none⟩ = some (.slice (some ⟨tq, 0, none⟩) l.length tc) := fun W' hW' => (HM0.out.bT.later hW').cell 0
      go_wp2
      go_loopw [50] (fun iv wr => ∃ (k : Nat) (v : Value), k ≤ l.length ∧ iv = .int .i64 k ∧ Hid (OffMid n (p : Int) l stop wb b g tq l.length tc tY wr os (gapC n (p : Int) l stop u) v (os.take k))) (fun iv _ => l.length - (intOf iv).toNat)
      case atStart => exact ⟨0, _, by omega, rfl, HM0⟩
      case round =>
        obtain ⟨k, v, hk, rfl, HM⟩ := hrel
        haveI hX : Later wb wr := HM.out.lat
        by_cases hkl : k < l.length
        · obtain ⟨pt, hpt⟩ : ∃ q, (withO l os)[k]? = some q := ⟨_, List.getElem?_eq_getElem (by rw [withO_len HS.out.hin.len]; exact hkl)⟩
          have hos1 : os[k]? = some pt.Offset := by
            have h1 := congrArg (fun x : List Int => x[k]?) (withO_offs HS.out.hin.len)
            simp only [List.getElem?_map, hpt] at h1
            exact h1.symm
          have htk : Hid (os.take (k + 1) = os.take k ++ [pt.Offset]) := by show _ = _; rw [List.take_add_one, hos1]; rfl
          have hcq1 := own_cellF HM.out.own (pt_at hpt).1
          have hcq2 := own_cellF HM.out.own (pt_at hpt).2
          have hlk : (os.take k).length = k := by rw [List.length_take, HS.out.hin.len]; omega
          have hnw := HM.out.new
          rw [hlk] at hnw
          obtain ⟨A5, c5, hv5⟩ := own_shape hnw
          subst hv5
          have HLK := Lib.hid hlk
          have HNW := Lib.hid hnw
          have hBc5 : ∀ W' [Later wr W'], W'.cell? ⟨g + 1, 0, none⟩ = some (.slice A5 k c5) := fun W' hW' => (HM.out.bB.later hW').cell 0
          have hgs : Hid (g + 4 ≤ wr.heap.size) := by show _ ≤ _; have := HM.out.bY.lt; omega
          clear hpt hos1 hlk hnw
          go_wp2_with (at_builtin; go_loud (refine wpList_app_G rfl _ _ 67 rfl Try.underlying67 infoInt rfl (by decide) (by decide) (base := g + 4) rfl (by exact ownsRow_later HNW.out (inferInstance : Later wr _)) (inferInstance : Later wb _) (by omega) (Nat.le_trans hgs.out (Later.size (w := wr) inferInstance)) (by show Value.slice (some ⟨wr.heap.size + 1, 0, none⟩) 1 1 = _; simp) rfl (one_cell _ _) (by omega) ?_; intro v' w9 hown' hX9 hG9; have hB9 := blk_grown (HM.out.bB.later (inferInstance : Later wr _)) hG9 (fun j hj => by have := (HNW.out.lt j hj).1; omega); have hB9c := hB9.cell 0; have hB9f := hB9.frozen 0; obtain ⟨A9, c9', hv9⟩ := own_shape hown'; subst hv9))
          go_roundw
          case rel => exact ⟨k + 1, _, by omega, by go_num, Lib.hid (by rw [htk.out]; exact (HM.out.later (inferInstance : Later wr _)).step hg (Nat.le_trans hgs.out (Later.size (w := wr) inferInstance)) hG9 (by rw [HLK.out]; exact hown'))⟩
          case measure => simp [intOf]; omega
        · obtain rfl : k = l.length := by omega
          go_wp2
          (first | go_end0 | ((try simp only [Exit.inBlock, Exit.then]); refine bodyPost_ret (results_none rfl _ _ _) rfl ?_))
          have h1 := HM.out
          rw [List.take_of_length_le (by rw [HS.out.hin.len]; omega)] at h1
          exact ⟨rfl, os, rfl, by simpa using h1.done (by rw [Int.toNat_natCast]; exact HOS.out) hnew.out⟩
    | some bb =>
      have e1 : offAt n (p : Int) l stop u = (offsC l p bb, gapC n (p : Int) l stop bb) := by unfold offAt; rw [hb]; unfold bestO; simp only [Int.toNat_natCast]
      rw [e1] at hvo hLc
      obtain ⟨q9, c9, rfl⟩ := own_some hvo (by rw [offsC_len (PF.out.len.1)]; exact PF.out.len.1)
      have hq9 : ∀ (w : World), (binOp .eql 67 (.slice (some ⟨q9, 0, none⟩) (offsC l p bb).length c9) (.slice none 0 0)).run Try.prog w = .ok (.bool false) w := fun w => eql_nil w 67 _ _ _ _ Try.underlying67
      by_cases hlt : gapC n (p : Int) l stop u < gapC n (p : Int) l stop bb
      · have hnew := Lib.hid (bstC_new (F := gapC n (p : Int) l stop) (c := u) (.inr ⟨bb, hb, hlt⟩))
        have HM0 := Lib.hid (HS4.out.mid hg (gapC n (p : Int) l stop u))
        have hTn : ∀ W' [Later ((w4.setCell ⟨g + 1, 0, none⟩ (.slice none 0 0)).setCell ⟨g + 2, 0, none⟩ (.int .i64 (gapC n (p : Int) l stop u))) W'], W'.cell? ⟨g, 0, none⟩ = some (.slice (some ⟨tq, 0, none⟩) l.length tc) := fun W' hW' => (HM0.out.bT.later hW').cell 0
        go_wp2
        go_loopw [50] (fun iv wr => ∃ (k : Nat) (v : Value), k ≤ l.length ∧ iv = .int .i64 k ∧ Hid (OffMid n (p : Int) l stop wb b g tq l.length tc tY wr os (gapC n (p : Int) l stop u) v (os.take k))) (fun iv _ => l.length - (intOf iv).toNat)
        case atStart => exact ⟨0, _, by omega, rfl, HM0⟩
        case round =>
          obtain ⟨k, v, hk, rfl, HM⟩ := hrel
          haveI hX : Later wb wr := HM.out.lat
          by_cases hkl : k < l.length
          · obtain ⟨pt, hpt⟩ : ∃ q, (withO l os)[k]? = some q := ⟨_, List.getElem?_eq_getElem (by rw [withO_len HS.out.hin.len]; exact hkl)⟩
            have hos1 : os[k]? = some pt.Offset := by
              have h1 := congrArg (fun x : List Int => x[k]?) (withO_offs HS.out.hin.len)
              simp only [List.getElem?_map, hpt] at h1
              exact h1.symm
            have htk : Hid (os.take (k + 1) = os.take k ++ [pt.Offset]) := by show _ = _; rw [List.take_add_one, hos1]; rfl
            have hcq1 := own_cellF HM.out.own (pt_at hpt).1
            have hcq2 := own_cellF HM.out.own (pt_at hpt).2
            have hlk : (os.take k).length = k := by rw [List.length_take, HS.out.hin.len]; omega
            have hnw := HM.out.new
            rw [hlk] at hnw
            obtain ⟨A5, c5, hv5⟩ := own_shape hnw
            subst hv5
            have HLK := Lib.hid hlk
            have HNW := Lib.hid hnw
            have hBc5 : ∀ W' [Later wr W'], W'.cell? ⟨g + 1, 0, none⟩ = some (.slice A5 k c5) := fun W' hW' => (HM.out.bB.later hW').cell 0
            have hgs : Hid (g + 4 ≤ wr.heap.size) := by show _ ≤ _; have := HM.out.bY.lt; omega
            clear hpt hos1 hlk hnw
            go_wp2_with (at_builtin; go_loud (refine wpList_app_G rfl _ _ 67 rfl Try.underlying67 infoInt rfl (by decide) (by decide) (base := g + 4) rfl (by exact ownsRow_later HNW.out (inferInstance : Later wr _)) (inferInstance : Later wb _) (by omega) (Nat.le_trans hgs.out (Later.size (w := wr) inferInstance)) (by show Value.slice (some ⟨wr.heap.size + 1, 0, none⟩) 1 1 = _; simp) rfl (one_cell _ _) (by omega) ?_; intro v' w9 hown' hX9 hG9; have hB9 := blk_grown (HM.out.bB.later (inferInstance : Later wr _)) hG9 (fun j hj => by have := (HNW.out.lt j hj).1; omega); have hB9c := hB9.cell 0; have hB9f := hB9.frozen 0; obtain ⟨A9, c9', hv9⟩ := own_shape hown'; subst hv9))
            go_roundw
            case rel => exact ⟨k + 1, _, by omega, by go_num, Lib.hid (by rw [htk.out]; exact (HM.out.later (inferInstance : Later wr _)).step hg (Nat.le_trans hgs.out (Later.size (w := wr) inferInstance)) hG9 (by rw [HLK.out]; exact hown'))⟩
            case measure => simp [intOf]; omega
          · obtain rfl : k = l.length := by omega
            go_wp2
            (first | go_end0 | ((try simp only [Exit.inBlock, Exit.then]); refine bodyPost_ret (results_none rfl _ _ _) rfl ?_))
            have h1 := HM.out
            rw [List.take_of_length_le (by rw [HS.out.hin.len]; omega)] at h1
            exact ⟨rfl, os, rfl, by simpa using h1.done (by rw [Int.toNat_natCast]; exact HOS.out) hnew.out⟩
      · have hold := Lib.hid (show bstC (gapC n (p : Int) l stop) (u + 1) = bstC (gapC n (p : Int) l stop) u by rw [bstC_old hb hlt, hb])
        go_wp2
        (first | go_end0 | ((try simp only [Exit.inBlock, Exit.then]); refine bodyPost_ret (results_none rfl _ _ _) rfl ?_))
        exact ⟨rfl, os, rfl, by simpa using HS4.out.old hold.out⟩
theorem try_all {w0 wb : World} {sA0 : Option Addr} {sn0 sc0 : Nat} {sA1 : Option Addr} {sn1 sc1 : Nat} {n : Network} (h : NetworkAt w0 sA0 sn0 sc0 sA1 sn1 sc1 n) (hl : Later w0 wb) {p : Nat} {l : List Pattern} {stop : Int} {b g tq tc : Nat} {tY : TypeId}
    (HBn : ∀ W [Later wb W] (j : Nat), W.cell? ⟨b, j, none⟩ = #[.slice sA0 sn0 sc0, .slice sA1 sn1 sc1][j]?) (HBp : ∀ W [Later wb W], W.cell? ⟨b + 1, 0, none⟩ = some (.int .i64 (p : Int))) (HBs : ∀ W [Later wb W], W.cell? ⟨b + 2, 0, none⟩ = some (.int .i64 stop))
    (pf : PatFacts n p l) (hne : 0 < (rests n p l stop).length) (hg : wb.heap.size ≤ g) (hnl : (n.Lines.length : Int) ≤ 1048576) (k : Nat) : TryC n p l stop wb b g tq tc tY k := by
  induction k with
  | zero => exact try_step h hl HBn HBp HBs pf hne hg hnl 0 (fun j hj => by omega)
  | succ k ih => exact try_step h hl HBn HBp HBs pf hne hg hnl (k + 1) (fun j hj => by cases hj; exact ih)
theorem offSt_start {n : Network} {period : Int} {l : List Pattern} {stop : Int} {wb w4 W : World} {b tq tn tc : Nat} (hW : W = ((((w4.alloc (.cells #[.slice (some ⟨tq, 0, none⟩) tn tc] 71)).alloc (.cells #[.slice none 0 0] 67)).alloc (.cells #[.int .i64 0] 3)).alloc (.cells #[.func (.func 85) #[] (offCaps b w4.heap.size)] 133))) (lat : Later wb w4) (own : w4.ownsRow wb.heap.size 122 2 (.slice (some ⟨tq, 0, none⟩) tn tc) tn (l.flatMap encPt)) (pf : PatFacts n period l) :
    OffSt n period l stop wb b w4.heap.size tq tn tc 133 W (l.map (·.Offset)) 0 := by
  obtain ⟨cs, hb, hlo⟩ := own_blk own
  have hz := lat.size
  haveI hlw : Later w4 W := by rw [hW]; infer_instance
  haveI hlb : Later wb W := by rw [hW]; infer_instance
  have b0 : Blk W w4.heap.size 71 #[.slice (some ⟨tq, 0, none⟩) tn tc] := by rw [hW]; exact (((Blk.new w4 _ _).alloc _).alloc _).alloc _
  have b1 : Blk W (w4.heap.size + 1) 67 #[.slice none 0 0] := by
    have h1 := ((Blk.new (w4.alloc (.cells #[.slice (some ⟨tq, 0, none⟩) tn tc] 71)) 67 #[.slice none 0 0]).alloc (.cells #[.int .i64 0] 3)).alloc (.cells #[.func (.func 85) #[] (offCaps b w4.heap.size)] 133)
    rw [hW]; simpa using h1
  have b2 : Blk W (w4.heap.size + 2) 3 #[.int .i64 0] := by
    have h1 := (Blk.new ((w4.alloc (.cells #[.slice (some ⟨tq, 0, none⟩) tn tc] 71)).alloc (.cells #[.slice none 0 0] 67)) 3 #[.int .i64 0]).alloc (.cells #[.func (.func 85) #[] (offCaps b w4.heap.size)] 133)
    rw [hW]; simpa [Nat.add_assoc] using h1
  have b3 : Blk W (w4.heap.size + 3) 133 #[.func (.func 85) #[] (offCaps b w4.heap.size)] := by
    have h1 := Blk.new (((w4.alloc (.cells #[.slice (some ⟨tq, 0, none⟩) tn tc] 71)).alloc (.cells #[.slice none 0 0] 67)).alloc (.cells #[.int .i64 0] 3)) 133 #[.func (.func 85) #[] (offCaps b w4.heap.size)]
    rw [hW]; simpa [Nat.add_assoc] using h1
  refine ⟨inferInstance, self_in pf, hlo, hb.lt, b0, b3, ?_, ?_, .slice none 0 0, b1, ?_, fun _ => rfl⟩
  · rw [withO_self]; exact ownsRow_later own inferInstance
  · simpa [offAt, bstC, bestO] using b2
  · exact ⟨rfl, .inl ⟨rfl, rfl⟩⟩
theorem slices_ClonePat {w0 w : World} {A : Option Addr} {n c : Nat} {l : List Pattern} (h : Patterns w0 A n c l) (hl : Later w0 w) (hn : n ≤ 1073741824) (h0 : 0 < n) :
    Calls Try.prog 84 #[.slice A n c] w (fun e w' => ∃ v, e = .returned v ∧ w'.ownsRow w.heap.size 122 2 v n (l.flatMap encPt) ∧ Later w w') := by
  replace h := h.later hl
  obtain ⟨b, o, x, rfl, _, _, _, _⟩ := Patterns.at_ h h0
  have hq : ∀ w : World, (binOp .eql 71 (.slice (some ⟨b, o, none⟩) n c) (.slice none 0 0)).run Try.prog w = .ok (.bool false) w := fun w => eql_nil w 71 _ (some ⟨b, o, none⟩) n c Try.underlying71
  go_enter Try.func84, Try.ntmps84
  go_wp2_with (at_builtin; refine wpList_app_F (w0 := w) (base := w.heap.size) rfl _ _ 71 rfl Try.underlying71 infoPt rfl (by decide) (by decide) rfl (World.ownsRow_lit w #[] 0 (Nat.le_refl _) (by simp [maxLen]) rfl) inferInstance (Nat.le_refl _) (by simp) rfl (h.later inferInstance) (by omega) ?_; intro v' w1 hown hX hG)
  go_ret
  exact ⟨_, rfl, by simpa using hown, hX⟩
set_option maxHeartbeats 1600000 in
theorem impl_BestOffsets {w0 w w2 : World} {sA0 : Option Addr} {sn0 sc0 : Nat} {sA1 : Option Addr} {sn1 sc1 : Nat} {n : Network} (h : NetworkAt w0 sA0 sn0 sc0 sA1 sn1 sc1 n) (hl : Later w0 w) (period : Int) {qA : Option Addr} {qn qc : Nat} {l : List Pattern} (h2 : Patterns w2 qA qn qc l) (hl2 : Later w2 w) (stop : Int) : Calls Try.prog 33 #[.agg #[.slice sA0 sn0 sc0, .slice sA1 sn1 sc1], .int .i64 period, .slice qA qn qc, .int .i64 stop] w (RetO3 1 oInt (offRes n period l stop).1 (offRes n period l stop).2.1 (offRes n period l stop).2.2 w) := by
  have hP := h2.later hl2
  have HSL := Lib.hid h.l_Stops.len
  have HB0 : ∀ W [Later (((w.alloc (.cells #[.slice sA0 sn0 sc0, .slice sA1 sn1 sc1] 38)).alloc (.cells #[.int .i64 period] 3)).alloc (.cells #[.int .i64 stop] 3)) W] (j : Nat), W.cell? ⟨w.heap.size, j, none⟩ = #[.slice sA0 sn0 sc0, .slice sA1 sn1 sc1][j]? := Later.boxes (t := 38) (fr := (0, 0)) ((heap_old (by simp; try omega)).trans ((heap_old (by simp; try omega)).trans (heap_new (by simp; try omega)))); have HB1 : ∀ W [Later (((w.alloc (.cells #[.slice sA0 sn0 sc0, .slice sA1 sn1 sc1] 38)).alloc (.cells #[.int .i64 period] 3)).alloc (.cells #[.int .i64 stop] 3)) W] (j : Nat), W.cell? ⟨w.heap.size + 1, j, none⟩ = #[.int .i64 period][j]? := Later.boxes (t := 3) (fr := (0, 0)) ((heap_old (by simp; try omega)).trans (heap_new (by simp; try omega))); have HB2 : ∀ W [Later (((w.alloc (.cells #[.slice sA0 sn0 sc0, .slice sA1 sn1 sc1] 38)).alloc (.cells #[.int .i64 period] 3)).alloc (.cells #[.int .i64 stop] 3)) W] (j : Nat), W.cell? ⟨w.heap.size + 1 + 1, j, none⟩ = #[.int .i64 stop][j]? := Later.boxes (t := 3) (fr := (0, 0)) (heap_new (by simp; try omega)); obtain ⟨wb, hwb⟩ : ∃ wb : World, wb = (((w.alloc (.cells #[.slice sA0 sn0 sc0, .slice sA1 sn1 sc1] 38)).alloc (.cells #[.int .i64 period] 3)).alloc (.cells #[.int .i64 stop] 3)) := ⟨_, rfl⟩; haveI hbW : Later wb (((w.alloc (.cells #[.slice sA0 sn0 sc0, .slice sA1 sn1 sc1] 38)).alloc (.cells #[.int .i64 period] 3)).alloc (.cells #[.int .i64 stop] 3)) := (by rw [hwb]; exact Later.rfl_); haveI hww : Later w wb := (by rw [hwb]; infer_instance); rw [← hwb] at HB0; rw [← hwb] at HB1; rw [← hwb] at HB2; have hbE := Lib.hid (congrArg (fun x : World => x.heap.size) hwb); clear hwb
  have hwb0 := hl.trans hww
  have hwb2 := hl2.trans hww
  have H := Lib.hid h
  have H2 := Lib.hid h2
  replace hP := hP.later hww
  have hq := hP.le
  have Hl := Lib.hid hP.len
  have hbs := hbE.out
  simp at hbs
  clear h h2 hbE
  by_cases c0 : okPassed n period l stop = true
  rotate_left
  · have c1 : okPassed n period l stop = false := by simpa using c0
    rw [show offRes n period l stop = ([], 0, false) from if_neg (fun hh => c0 hh.1)]
    clear c0
    go_enter Try.func33, Try.ntmps33
    go_wp2_with (go_at_call 82; refine (impl_arePassed H.out (hwb0.trans inferInstance) _ H2.out (hwb2.trans inferInstance) _).mono ?_; rintro e w1 ⟨rfl, L1⟩; have X1 := Later.trans (w := wb) inferInstance L1)
    go_ret3
    exact ⟨_, _, _, [], rfl, OSl.nil_ _, by simp, by simp, hww.trans inferInstance⟩
  have PF := Lib.hid (okPassed_pat c0)
  by_cases c1 : period ≤ 20
  rotate_left
  · rw [show offRes n period l stop = ([], 0, false) from if_neg (fun hh => c1 hh.2.1)]
    go_enter Try.func33, Try.ntmps33
    go_wp2_with (go_at_call 82; refine (impl_arePassed H.out (hwb0.trans inferInstance) _ H2.out (hwb2.trans inferInstance) _).mono ?_; rintro e w1 ⟨rfl, L1⟩; have X1 := Later.trans (w := wb) inferInstance L1)
    go_ret3
    exact ⟨_, _, _, [], rfl, OSl.nil_ _, by simp, by simp, hww.trans inferInstance⟩
  by_cases c2 : rests n period l stop = []
  · rw [show offRes n period l stop = ([], 0, false) from if_neg (fun hh => hh.2.2 c2)]
    go_enter Try.func33, Try.ntmps33
    go_wp2_with first
      | (go_at_call 82; refine (impl_arePassed H.out (hwb0.trans inferInstance) _ H2.out (hwb2.trans inferInstance) _).mono ?_; rintro e w1 ⟨rfl, L1⟩; have X1 := Later.trans (w := wb) inferInstance L1)
      | ((go_at_call 83; refine (impl_passingRests H.out (hwb0.trans inferInstance) _ H2.out (hwb2.trans inferInstance) PF.out stop).mono ?_; rintro e w3 ⟨A3, n3, c3, fp3, rfl, ho3, hnd3, hlo3, L3⟩; have X3 := Later.trans (w := wb) inferInstance L3; have h3 : Ints w3 A3 n3 c3 (rests n period l stop) := ho3.reads; have H3 := Lib.hid h3; have hn3 := h3.len; clear h3); rw [c2] at hn3; simp only [List.length_nil] at hn3; subst hn3)
    go_ret3
    exact ⟨_, _, _, [], rfl, OSl.nil_ _, by simp, by simp, hww.trans inferInstance⟩
  obtain rfl : qn = l.length := Hl.out
  have hq3 := PF.out.len.2
  have hq1 := PF.out.len.1
  have hp1 := PF.out.per.1
  obtain ⟨p, rfl⟩ := Int.eq_ofNat_of_zero_le (show 0 ≤ period by omega)
  have hnl : Hid ((n.Lines.length : Int) ≤ 1048576) := by have := (netFacts PF.out.net).lines; show _ ≤ _; omega
  have hne : Hid (0 < (rests n (p : Int) l stop).length) := by show 0 < _; exact Nat.pos_of_ne_zero (fun e => c2 (List.length_eq_zero_iff.1 e))
  have hne2 : ¬ (rests n (p : Int) l stop).length = 0 := fun e => c2 (List.length_eq_zero_iff.1 e)
  have HBn := Lib.hid @HB0
  have HBp : Hid (∀ W [Later wb W], W.cell? ⟨w.heap.size + 1, 0, none⟩ = some (.int .i64 (p : Int))) := fun W hW => @HB1 W hW 0
  have HBs : Hid (∀ W [Later wb W], W.cell? ⟨w.heap.size + 2, 0, none⟩ = some (.int .i64 stop)) := fun W hW => @HB2 W hW 0
  have hmn : (0 + 1) * p ^ (l.length - 1) = manyC l p := by unfold manyC; omega
  rw [show offRes n (p : Int) l stop = ((offAt n (p : Int) l stop (manyC l p)).1, (offAt n (p : Int) l stop (manyC l p)).2, true) from by unfold offRes offAt; rw [if_pos ⟨c0, c1, c2⟩, Int.toNat_natCast]]
  obtain ⟨ls, z, hA⟩ : ∃ ls z, offAt n (p : Int) l stop (manyC l p) = (ls, z) := ⟨_, _, rfl⟩
  rw [hA]
  have HBD : Hid (∀ y, y ∈ ls → I64 y) := fun y hy => offAt_bd PF.out (manyC l p) y (by rw [hA]; exact hy)
  have HA := Lib.hid hA
  clear hA
  have htk1 : Hid ((l.map (·.Offset)).take 1 = (l.headD default).Offset :: digs p 0 (1 - 1)) := by
    show _ = _
    obtain ⟨x, l', rfl⟩ : ∃ x l', l = x :: l' := by
      cases l with
      | nil => simp at hq1
      | cons x l' => exact ⟨x, l', rfl⟩
    simp [digs]
  have hsf : ∀ (a : Addr) (fn : Fn) (x y : Array Value) (w : World), (store a (.func fn x y)).run Try.prog w = stored Try.prog w a (.func fn x y) .plain := fun a fn x y w => run_store _ w a _ _ rfl
  go_enter Try.func33, Try.ntmps33
  go_wp2_with first
    | (go_at_call 82; refine (impl_arePassed H.out (hwb0.trans inferInstance) _ H2.out (hwb2.trans inferInstance) _).mono ?_; rintro e w1 ⟨rfl, L1⟩; have X1 := Later.trans (w := wb) inferInstance L1)
    | ((go_at_call 83; refine (impl_passingRests H.out (hwb0.trans inferInstance) _ H2.out (hwb2.trans inferInstance) PF.out stop).mono ?_; rintro e w3 ⟨A3, n3, c3, fp3, rfl, ho3, hnd3, hlo3, L3⟩; have X3 := Later.trans (w := wb) inferInstance L3; have h3 : Ints w3 A3 n3 c3 (rests n (p : Int) l stop) := ho3.reads; have H3 := Lib.hid h3; have hn3 := h3.len; clear h3); have hn30 : ¬ n3 = 0 := (by rw [hn3]; exact hne2); have hn31 : ¬ (n3 : Int) = 0 := (by omega); have ge1 := (beqi_f hn31).1; have ge2 := (beqi_f hn31).2; clear hn3 hn31)
    | (go_at_call 84; go_loud (refine (slices_ClonePat H2.out (hwb2.trans inferInstance) (by omega) (by omega)).mono ?_; rintro e w4 ⟨v4, rfl, hown4, L4⟩; have X4 := Later.trans (w := wb) inferInstance L4; obtain ⟨q4, c4, rfl⟩ := own_someP hown4 (by omega); have hown5 := Lib.hid (own_lower hown4 (Later.size (w := wb) inferInstance)); have hz4 : wb.heap.size ≤ w4.heap.size := X4.size))
    | (go_at_call 85; go_loud (refine (try_all H.out hwb0 HBn.out HBp.out HBs.out PF.out hne.out hz4 hnl.out (l.length - 1) _ 1 1 0 (l.map (·.Offset)) rfl (by omega) (by omega) htk1.out (by rw [Nat.zero_mul]; exact offSt_start rfl X4 hown5.out PF.out)).mono ?_; rintro e w5 ⟨rfl, os5, ho5, hs5⟩; haveI X5 : Later wb w5 := hs5.lat; rw [hmn] at hs5; obtain ⟨v5, hvB, hvo, hvn⟩ := hs5.best; rw [HA.out] at hvo; obtain ⟨A5, c5, fp5, rfl, ho9, hnd9, hlo9⟩ := OSl.ints_of_own hvo HBD.out; have hvc : ∀ W' [Later w5 W'], W'.cell? ⟨w4.heap.size + 1, 0, none⟩ = some (.slice A5 ls.length c5) := fun W' hW' => (hvB.later hW').cell 0; have hlc : ∀ W' [Later w5 W'], W'.cell? ⟨w4.heap.size + 2, 0, none⟩ = some (.int .i64 z) := (fun W' hW' => by have h9 := (hs5.bL.later hW').cell 0; rw [HA.out] at h9; exact h9)))
  go_quiet (fail)
  go_wp2
  go_ret3
  exact ⟨A5, _, c5, fp5, rfl, ho9.later (inferInstance : Later w5 _), hnd9, fun g hg => by have := hlo9 g hg; have := (hww.trans X4).size; omega, hww.trans inferInstance⟩
end Go.Proofs.Ytaopadffabbjiaa
