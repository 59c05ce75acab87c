/-
  Headways: gaps, their squares, the largest one, on both sides.
-/
import Derived.Test.YtaopadffabbjiaaRestP
import Derived.Test.YtaopadffabbjiaaTimeE
import Derived.Test.YtaopadffabbjiaaApp
namespace Go.Proofs.Ytaopadffabbjiaa
open Go Go.RowKit
set_option linter.unusedVariables false
set_option maxRecDepth 100000
set_option linter.unusedSimpArgs false
theorem gapAt_in {rs : List Int} {period : Int} {k : Nat} {x y : Int} (hx : rs[k]? = some x) (hy : rs[k + 1]? = some y) : gapAt rs period k = y - x := by
  have h1 := (List.getElem?_eq_some_iff.1 hy).1
  unfold gapAt
  rw [if_pos h1, List.getD_eq_getElem?_getD, List.getD_eq_getElem?_getD, hx, hy]; rfl
theorem gapAt_end {rs : List Int} {period : Int} {k : Nat} {x y : Int} (hk : ¬ k + 1 < rs.length) (hx : rs[k]? = some x) (hy : rs[0]? = some y) : gapAt rs period k = y + period - x := by
  unfold gapAt
  rw [if_neg hk, List.getD_eq_getElem?_getD, List.getD_eq_getElem?_getD, hx, hy]; rfl
theorem RestsIn.get {rs : List Int} {period : Int} (h : RestsIn rs period) {k : Nat} {x : Int} (hx : rs[k]? = some x) : 0 ≤ x ∧ x < period := h.mem x (List.mem_of_getElem? hx)
theorem impl_gapsOf {w0 w : World} {A : Option Addr} {n c : Nat} {rs : List Int} {period : Int} (h : Ints w0 A n c rs) (hl : Later w0 w) (ri : RestsIn rs period) :
    Calls Try.prog 123 #[.slice A n c, .int .i64 period] w (RetO 1 oInt (gapsO rs period) w) := by
  have hS := h.later hl
  have hn : n ≤ 60 := by rw [hS.len]; exact ri.len
  have Hn := Lib.hid hS.len
  have hp1 := ri.per.1
  have hp2 := ri.per.2
  have RI := Lib.hid ri
  have hsn := hS.le
  obtain ⟨C0, hC0, hmk⟩ := make_row (P := Try.prog) 67 3 Try.underlying67 infoInt n (by omega) (by omega)
  clear h ri
  go_enter Try.func123, Try.ntmps123
  go_wp2_with fail
  go_loopw [13] (fun i wr => ∃ (k : Nat) (cs : Array Value), k ≤ n ∧ i = .int .i64 k ∧ Hid (Blk wr w.heap.size 3 cs) ∧ Hid (cs.size = n) ∧ Hid (∀ (j : Nat), j < k → cs[j]? = some (.int .i64 (gapAt rs period j))) ∧ Later w wr) (fun i _ => n - (intOf i).toNat)
  case atStart => exact ⟨0, C0, by omega, rfl, Blk.new _ _ _, by show _ = _; omega, fun j hj => by omega, inferInstance⟩
  case round =>
    obtain ⟨k, cs, hk, rfl, HB, Hsz, HS, hX⟩ := hrel
    by_cases hlt : k < n
    · obtain ⟨v0, hv0⟩ := HB.out.get (i := k) (by have := Hsz.out; omega)
      have hfz := HB.out.frozen k
      obtain ⟨b, o, x, rfl, hx, hcx, _⟩ := Ints.at_ hS hlt
      have hxb := RI.out.get hx.out
      have hwk : IntKind.i64.wrap ((k : Int) + 1) = (k : Int) + 1 := by rw [IntKind.wrap_i64]; omega
      by_cases hk1 : k + 1 < n
      · obtain ⟨b1, o1, y, hA, hy, hcy, _⟩ := Ints.at_ hS hk1
        cases hA
        have hyb := RI.out.get hy.out
        have HG : Hid (gapAt rs period k = y - x) := gapAt_in hx.out hy.out
        have hw1 : IntKind.i64.wrap (y - x) = y - x := by rw [IntKind.wrap_i64]; omega
        have hk2 : (k : Int) + 1 < n := by omega
        clear hx hy hxb hyb
        go_wp2
        go_roundw
        case rel =>
          refine ⟨k + 1, cs.setIfInBounds k (.int .i64 (y - x)), by omega, by go_num, HB.out.set_ k _, by have := Hsz.out; show _ = _; simpa using this, fun j hj => ?_, inferInstance⟩
          by_cases e : j = k
          · subst e
            rw [set_eq _ (by have := Hsz.out; omega), HG.out]
          · rw [set_ne _ e]; exact HS.out j (by omega)
        case measure => simp [intOf]; omega
      · obtain ⟨b1, o1, y, hA, hy, hcy, _⟩ := Ints.at_ hS (k := 0) (by omega)
        cases hA
        simp only [Nat.add_zero] at hcy
        have hyb := RI.out.get hy.out
        have HG : Hid (gapAt rs period k = y + period - x) := gapAt_end (by rw [← Hn.out]; exact hk1) hx.out hy.out
        have hw1 : IntKind.i64.wrap (y + period) = y + period := by rw [IntKind.wrap_i64]; omega
        have hw2 : IntKind.i64.wrap (y + period - x) = y + period - x := by rw [IntKind.wrap_i64]; omega
        have hk2 : ¬ (k : Int) + 1 < n := by omega
        have hn0 : (0 : Int) < n := by omega
        clear hx hy hxb hyb
        go_wp2
        go_roundw
        case rel =>
          refine ⟨k + 1, cs.setIfInBounds k (.int .i64 (y + period - x)), by omega, by go_num, HB.out.set_ k _, by have := Hsz.out; show _ = _; simpa using this, fun j hj => ?_, inferInstance⟩
          by_cases e : j = k
          · subst e
            rw [set_eq _ (by have := Hsz.out; omega), HG.out]
          · rw [set_ne _ e]; exact HS.out j (by omega)
        case measure => simp [intOf]; omega
    · have hkn : k = n := by omega
      go_wp2
      go_ret
      subst hkn
      exact ⟨_, _, _, _, rfl, OSl.ints_blk HB.out (by rw [gapsO_len]; exact Hn.out) (by omega) (fun j x hx => by
        have hj := (List.getElem?_eq_some_iff.1 hx).1
        rw [gapsO_len] at hj
        rw [gapsO_at hj] at hx
        cases hx
        refine ⟨HS.out j (by have := Hn.out; omega), ?_⟩
        have := gapAt_bd RI.out hj
        unfold I64; omega), by simp, by simp, inferInstance⟩
theorem gapsO_take {rs : List Int} {period : Int} {k : Nat} (h : k < rs.length) : (gapsO rs period).take (k + 1) = (gapsO rs period).take k ++ [gapAt rs period k] := by
  rw [List.take_add_one, gapsO_at h]; rfl
set_option maxHeartbeats 1000000 in
theorem spec_l10Gaps {w0 w : World} {A : Option Addr} {n c : Nat} {rs : List Int} {period : Int} (h : Ints w0 A n c rs) (hl : Later w0 w) (ri : RestsIn rs period) :
    Calls Try.prog 77 #[.slice A n c, .int .i64 period] w (RetO 1 oInt (gapsO rs period) w) := by
  have hS := h.later hl
  have hn : n ≤ 60 := by rw [hS.len]; exact ri.len
  have Hn := Lib.hid hS.len
  have hp1 := ri.per.1
  have hp2 := ri.per.2
  have RI := Lib.hid ri
  have hsn := hS.le
  clear h ri
  go_enter Try.func77, Try.ntmps77
  go_wp2_with fail
  go_loopw [5, 6] (fun ov i wr => ∃ (k : Nat), k ≤ n ∧ i = .int .i64 k ∧ Hid (wr.ownsRow w.heap.size 3 1 ov k (((gapsO rs period).take k).map (Value.int .i64))) ∧ Later w wr) (fun _ i _ => n - (intOf i).toNat)
  case atStart => exact ⟨0, by omega, rfl, Lib.hid (World.ownsRow_lit w #[] 0 (Nat.le_refl _) (by simp [maxLen]) rfl), inferInstance⟩
  case round =>
    obtain ⟨k, hk, rfl, hown, hX⟩ := hrel
    by_cases hlt : k < n
    · obtain ⟨b, o, x, rfl, hx, hcx, _⟩ := Ints.at_ hS hlt
      have hxb := RI.out.get hx.out
      obtain ⟨b1, o1, y, hA, hy, hcy, _⟩ := Ints.at_ hS (k := 0) (by omega)
      cases hA
      simp only [Nat.add_zero] at hcy
      have hyb := RI.out.get hy.out
      have hwk : IntKind.i64.wrap ((k : Int) + 1) = (k : Int) + 1 := by rw [IntKind.wrap_i64]; omega
      have hw1 : IntKind.i64.wrap (y + period) = y + period := by rw [IntKind.wrap_i64]; omega
      have hw2 : IntKind.i64.wrap (y + period - x) = y + period - x := by rw [IntKind.wrap_i64]; omega
      have HT := Lib.hid (gapsO_take (rs := rs) (period := period) (k := k) (by have := Hn.out; omega))
      have hn0 : (0 : Int) < n := by omega
      by_cases hk1 : k + 1 < n
      · obtain ⟨b2, o2, z, hA, hz, hcz, _⟩ := Ints.at_ hS hk1
        cases hA
        have hzb := RI.out.get hz.out
        have HG : Hid (gapAt rs period k = z - x) := gapAt_in hx.out hz.out
        have hw3 : IntKind.i64.wrap (z - x) = z - x := by rw [IntKind.wrap_i64]; omega
        have hk2 : (k : Int) + 1 < n := by omega
        clear hx hy hz hxb hyb hzb
        go_wp2_with (at_builtin; refine wpList_app_one rfl _ _ 67 rfl Try.underlying67 infoInt rfl (by decide) (by decide) rfl (by exact ownsRow_later hown.out (inferInstance : Later wr _)) (inferInstance : Later w _) rfl rfl (one_cell _ _) (by omega) ?_; intro v' w1 hown' hX')
        go_roundw
        case rel => exact ⟨k + 1, by omega, by go_num, by show World.ownsRow _ _ _ _ _ _ _; rw [HT.out, HG.out, List.map_append]; exact hown', hX'⟩
        case measure => simp [intOf]; omega
      · have HG : Hid (gapAt rs period k = y + period - x) := gapAt_end (by rw [← Hn.out]; exact hk1) hx.out hy.out
        have hk2 : ¬ (k : Int) + 1 < n := by omega
        clear hx hy hxb hyb
        go_wp2_with (at_builtin; refine wpList_app_one rfl _ _ 67 rfl Try.underlying67 infoInt rfl (by decide) (by decide) rfl (by exact ownsRow_later hown.out (inferInstance : Later wr _)) (inferInstance : Later w _) rfl rfl (one_cell _ _) (by omega) ?_; intro v' w1 hown' hX')
        go_roundw
        case rel => exact ⟨k + 1, by omega, by go_num, by show World.ownsRow _ _ _ _ _ _ _; rw [HT.out, HG.out, List.map_append]; exact hown', hX'⟩
        case measure => simp [intOf]; omega
    · have hkn : k = n := by omega
      subst hkn
      have HE : Hid ((gapsO rs period).take k = gapsO rs period) := List.take_of_length_le (by rw [gapsO_len]; exact Nat.le_of_eq Hn.out.symm)
      go_wp2
      go_ret
      rw [HE.out] at hown
      obtain ⟨A, c, fp, rfl, ho, hnd, hlo⟩ := OSl.ints_of_own hown.out (fun g hg => by have := gapsO_mem RI.out g hg; unfold I64; omega)
      exact ⟨A, _, c, fp, rfl, ho, hnd, hlo, hX⟩
theorem sqSum_at {l : List Int} {k : Nat} {x : Int} (h : l[k]? = some x) : sqSum (l.drop k) = x * x + sqSum (l.drop (k + 1)) := by rw [drop_at h]; rfl
theorem argGo_at {l : List Int} {k : Nat} {x b : Int} {i : Nat} (h : l[k]? = some x) : argGo (l.drop k) k b i = if b < x then argGo (l.drop (k + 1)) (k + 1) x k else argGo (l.drop (k + 1)) (k + 1) b i := by rw [drop_at h]; rfl
set_option maxHeartbeats 1000000 in
theorem impl_largestGap {w0 w : World} {A : Option Addr} {n c : Nat} {rs : List Int} {period : Int} (h : Ints w0 A n c rs) (hl : Later w0 w) (ri : RestsIn rs period) (hpos : 0 < rs.length) (hsrt : rs.Pairwise (fun a b => a ≤ b)) :
    Calls Try.prog 86 #[.slice A n c, .int .i64 period] w (Ret (.tuple #[.int .i64 (big (gapsO rs period)).1, .int .i64 (rs.getD (big (gapsO rs period)).2 0)]) w) := by
  have hS := h.later hl
  have HS := Lib.hid hS
  have hn : n ≤ 60 := by rw [hS.len]; exact ri.len
  have Hn := Lib.hid hS.len
  have hn1 : 0 < n := by rw [hS.len]; exact hpos
  have RI := Lib.hid ri
  have HSR := Lib.hid hsrt
  have HGL := Lib.hid (gapsO_len rs period)
  have hsn := hS.le
  clear h ri hsrt hpos
  go_enter Try.func86, Try.ntmps86
  go_wp2_with (go_at_call 123; refine (impl_gapsOf HS.out inferInstance RI.out).mono ?_; rintro e w1 ⟨A1, n1, c1, fp, rfl, ho, hnd, hlo, L1⟩; have hG : Ints w1 A1 n1 c1 (gapsO rs period) := ho.reads; have HG := Lib.hid hG; have Hn1 := Lib.hid hG.len; have hgn := hG.le; clear ho hnd hlo)
  have hgn1 : n1 = n := by rw [Hn1.out, gapsO_len, ← Hn.out]
  subst hgn1
  go_loopw [6, 7, 14] (fun bs at_ i wr => ∃ (k a : Nat) (v z : Int), k ≤ n1 ∧ i = .int .i64 k ∧ bs = .int .i64 v ∧ a < n1 ∧ at_ = .int .i64 z ∧ Hid (k ≠ 0 → z = rs.getD a 0) ∧ -1 ≤ v ∧ v ≤ 120 ∧ Hid (k = 0 → v = -1) ∧ Hid (argGo ((gapsO rs period).drop k) k v a = big (gapsO rs period)) ∧ Later w wr ∧ Later w1 wr) (fun _ _ i _ => n1 - (intOf i).toNat)
  case atStart => exact ⟨0, 0, -1, 0, by omega, rfl, rfl, hn1, rfl, fun e => absurd rfl e, by omega, by omega, fun _ => rfl, rfl, inferInstance, inferInstance⟩
  case round =>
    obtain ⟨k, a, v, z, hk, rfl, rfl, ha, rfl, HZ, hv0, hv1, HV0, HF, hX, hX1⟩ := hrel
    by_cases hlt : k < n1
    · obtain ⟨b, o, x, rfl, hx, hcx, _⟩ := Ints.at_ HG.out hlt
      obtain ⟨b1, o1, y, rfl, hy, hcy, _⟩ := Ints.at_ HS.out hlt
      have hg := gapAt_bd RI.out (i := k) (by have := Hn.out; omega)
      have hg2 := gapAt_pos RI.out HSR.out (i := k) (by have := Hn.out; omega)
      have hxe : x = gapAt rs period k := by
        have h1 := hx.out
        rw [gapsO_at (by have := Hn.out; omega)] at h1
        exact (Option.some.inj h1).symm
      rw [← hxe] at hg hg2
      have hyd : rs.getD k 0 = y := by rw [List.getD_eq_getElem?_getD, hy.out]; rfl
      have hkt : (k : Int) < n1 := by omega
      have HF1 := HF.out
      rw [argGo_at hx.out] at HF1
      by_cases cg : v < x
      · rw [if_pos cg] at HF1
        have HF2 := Lib.hid HF1
        have HY := Lib.hid hyd
        clear HF HF1 hx hy hxe hyd
        go_wp2_with fail
        go_region_held3 (fun w' => Later w w' ∧ Later w1 w') (exact ⟨inferInstance, inferInstance⟩) (fail)
        go_wp2
        go_roundw
        case rel => exact ⟨k + 1, k, x, y, by omega, by go_num, rfl, hlt, rfl, fun _ => HY.out.symm, by omega, by omega, fun e => by omega, HF2, inferInstance, inferInstance⟩
        case measure => simp [intOf]; omega
      · rw [if_neg cg] at HF1
        have HF2 := Lib.hid HF1
        have hk0 : ¬ k = 0 := by
          intro e
          have h5 := HV0.out e
          omega
        clear HF HF1 hx hy hxe hyd
        go_wp2_with fail
        go_roundw
        case rel => exact ⟨k + 1, a, v, z, by omega, by go_num, rfl, ha, rfl, fun _ => HZ.out hk0, by omega, by omega, fun e => by omega, HF2, inferInstance, inferInstance⟩
        case measure => simp [intOf]; omega
    · have HE : Hid (big (gapsO rs period) = (v, a)) := by
        have h3 := HF.out
        rw [List.drop_eq_nil_of_le (by have := Hn.out; rw [gapsO_len]; omega)] at h3
        exact h3.symm
      have hk0 : ¬ k = 0 := by omega
      clear HF
      go_wp2
      go_ret2
      exact ⟨by rw [HE.out, ← HZ.out hk0]; first | done | rfl, inferInstance⟩
theorem argGo_get {l : List Int} (full : List Int) {k : Nat} {b : Int} {i : Nat} (hb : full.getD i 0 = b) (hl : ∀ j x, l[j]? = some x → full[k + j]? = some x) : full.getD (argGo l k b i).2 0 = (argGo l k b i).1 := by
  induction l generalizing k b i with
  | nil => exact hb
  | cons g l ih =>
    simp only [argGo]
    have h0 := hl 0 g rfl
    split
    · exact ih (by rw [List.getD_eq_getElem?_getD, show full[k]? = some g from h0]; rfl) fun j x hx => by have := hl (j + 1) x hx; rw [show k + 1 + j = k + (j + 1) by omega]; exact this
    · exact ih hb fun j x hx => by have := hl (j + 1) x hx; rw [show k + 1 + j = k + (j + 1) by omega]; exact this
set_option maxHeartbeats 1000000 in
theorem spec_l10Largest {w0 w : World} {A : Option Addr} {n c : Nat} {l : List Int} (h : Ints w0 A n c l) (hl : Later w0 w) (hn : n ≤ 60) (hpos : 0 < l.length) (hb : ∀ x, x ∈ l → 0 ≤ x ∧ x ≤ 120) :
    Calls Try.prog 76 #[.slice A n c] w (Ret (.tuple #[.int .i64 (big l).1, .int .i64 ((big l).2 : Int)]) w) := by
  have hS := h.later hl
  have HS := Lib.hid hS
  have Hn := Lib.hid hS.len
  have hn1 : 0 < n := by rw [hS.len]; exact hpos
  have HB := Lib.hid hb
  have hsn := hS.le
  clear h hb hpos
  go_enter Try.func76, Try.ntmps76
  go_wp2_with fail
  go_loopw [4, 5] (fun at_ i wr => ∃ (k a j : Nat) (v : Int), k = j + 1 ∧ k ≤ n ∧ i = .int .i64 k ∧ a < n ∧ at_ = .int .i64 a ∧ Hid (l[a]? = some v) ∧ Hid (argGo (l.drop k) k v a = big l) ∧ Later w wr) (fun _ i _ => n - (intOf i).toNat)
  case atStart =>
    obtain ⟨b, o, x, rfl, hx, hcx, _⟩ := Ints.at_ HS.out hn1
    refine ⟨1, 0, 0, x, rfl, hn1, rfl, hn1, rfl, hx.out, ?_, inferInstance⟩
    show _ = _
    cases l with
    | nil => have := hx.out; simp at this
    | cons g l =>
      have := hx.out
      simp at this
      subst this
      rw [big_cons (HB.out g (by simp)).1]; rfl
  case round =>
    obtain ⟨k, a, j, v, hkj, hk, rfl, ha, rfl, HA, HF, hX⟩ := hrel
    have HKJ := Lib.hid hkj
    obtain ⟨b1, o1, y, rfl, hy, hcy, _⟩ := Ints.at_ hS ha
    obtain rfl : y = v := Option.some.inj (hy.out.symm.trans HA.out)
    have hat : (a : Int) < n := by omega
    by_cases hlt : k < n
    · obtain ⟨b, o, x, hA1, hx, hcx, _⟩ := Ints.at_ HS.out hlt
      cases hA1
      have hkt : (k : Int) < n := by omega
      have HX := hx
      have HF1 := HF.out
      rw [show l.drop k = x :: l.drop (k + 1) from drop_at hx.out] at HF1
      simp only [argGo] at HF1
      by_cases cg : y < x
      · rw [if_pos cg] at HF1
        have HF2 := Lib.hid HF1
        clear HF HF1 hx hy hkj
        go_wp2_with fail
        go_quiet (fail)
        go_wp2
        go_roundw
        case rel => exact ⟨k + 1, k, k, x, rfl, by omega, by go_num, hlt, rfl, HX, HF2, inferInstance⟩
        case measure => simp [intOf]; omega
      · rw [if_neg cg] at HF1
        have HF2 := Lib.hid HF1
        clear HF HF1 hx hy hkj
        go_wp2_with fail
        go_quiet (fail)
        go_wp2
        go_roundw
        case rel => exact ⟨k + 1, a, k, y, rfl, by omega, by go_num, ha, rfl, HA, HF2, inferInstance⟩
        case measure => simp [intOf]; omega
    · have HE : Hid (big l = (y, a)) := by
        have h3 := HF.out
        rw [List.drop_eq_nil_of_le (by have := Hn.out; omega)] at h3
        exact h3.symm
      clear HF hy hkj
      go_wp2
      go_ret2
      exact ⟨by rw [HE.out]; first | done | rfl, inferInstance⟩
end Go.Proofs.Ytaopadffabbjiaa
