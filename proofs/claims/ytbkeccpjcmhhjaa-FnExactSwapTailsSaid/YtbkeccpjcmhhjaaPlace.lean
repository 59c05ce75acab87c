/-
  Blocks: where a trip lies in them.
-/
import Derived.Test.YtbkeccpjcmhhjaaBlkP
import Derived.Test.YtbkeccpjcmhhjaaTime
namespace Go.Proofs.Ytbkeccpjcmhhjaa
open Go Go.RowKit
set_option linter.unusedVariables false
set_option maxRecDepth 100000
/-- d: what stands for the place where there is none. -/
def placeGo (d v : Int) : List (List Int) → Nat → Int × Int
  | [], _ => (-1, d)
  | x :: l, k => if 0 ≤ idx (intIs v) x then ((k : Int), idx (intIs v) x) else placeGo d v l (k + 1)
def placeOf (d v : Int) (bs : List (List Int)) : Int × Int := placeGo d v bs 0
theorem placeGo_any (v : Int) (bs : List (List Int)) (k : Nat) : ((placeGo 0 v bs k).1 < 0 ∧ (placeGo (-1) v bs k).1 < 0) ∨ (0 ≤ (placeGo 0 v bs k).1 ∧ placeGo (-1) v bs k = placeGo 0 v bs k) := by
  induction bs generalizing k with
  | nil => left; simp [placeGo]
  | cons x l ih =>
    simp only [placeGo]
    split
    · right; exact ⟨by simp, rfl⟩
    · exact ih (k + 1)
theorem placeOf_any (v : Int) (bs : List (List Int)) : ((placeOf 0 v bs).1 < 0 ∧ (placeOf (-1) v bs).1 < 0) ∨ (0 ≤ (placeOf 0 v bs).1 ∧ placeOf (-1) v bs = placeOf 0 v bs) := placeGo_any v bs 0
theorem impl_placeIn {w0 w : World} {bA : Option Addr} {bn bc : Nat} {bs : List (List Int)} (h : Sl 1 (rSl 1 rInt) w0 bA bn bc bs) (hl : Later w0 w) (v : Int) :
    Calls Try.prog 149 #[.slice bA bn bc, .int .i64 v] w (Ret (.tuple #[.int .i64 (placeOf 0 v bs).1, .int .i64 (placeOf 0 v bs).2]) w) := by
  have hB := h.later hl
  have hbl := hB.le
  have Hbl := Lib.hid hB.len
  clear h
  go_enter Try.func149, Try.ntmps149
  go_wp2
  go_loopw [11] (fun i wr => ∃ k : Nat, k ≤ bn ∧ i = .int .i64 k ∧ Hid (placeGo 0 v (bs.drop k) k = placeOf 0 v bs) ∧ Later w wr) (fun i _ => bn - (intOf i).toNat)
  case atStart => exact ⟨0, by omega, rfl, rfl, inferInstance⟩
  case round =>
    obtain ⟨k, hk, rfl, HF, hX⟩ := hrel
    by_cases hlt : k < bn
    · obtain ⟨b, o, A1, n1, c1, x, rfl, hx, hc0, hi⟩ := Sl.row_ hB hlt
      have HI := Lib.hid hi
      have hn1 := hi.le
      have HF1 := HF.out
      rw [drop_at hx.out] at HF1
      simp only [placeGo] at HF1
      clear HF hx hi
      by_cases c : 0 ≤ idx (intIs v) x
      · rw [if_pos c] at HF1
        have HF2 := Lib.hid HF1
        clear HF1
        go_wp2_with (go_at_call 200; refine (slices_IndexInt HI.out hX v).mono ?_; rintro e w2 ⟨rfl, L2⟩; have X2 := hX.trans L2)
        go_ret2
        exact ⟨by rw [← HF2.out]; rfl, inferInstance⟩
      · rw [if_neg c] at HF1
        have HF2 := Lib.hid HF1
        have cd : decide (0 ≤ idx (intIs v) x) = false := decide_eq_false c
        clear HF1
        go_wp2_with (go_at_call 200; refine (slices_IndexInt HI.out hX v).mono ?_; rintro e w2 ⟨rfl, L2⟩; have X2 := hX.trans L2)
        go_roundw
        case rel => exact ⟨k + 1, by omega, by go_num, HF2, inferInstance⟩
        case measure => simp [intOf]; omega
    · have HF2 : Hid ((-1, 0) = placeOf 0 v bs) := by
        have h3 := HF.out
        rw [List.drop_eq_nil_of_le (by have := Hbl.out; omega)] at h3
        exact h3
      clear HF
      go_wp2
      go_ret2
      exact ⟨by rw [← HF2.out]; rfl, inferInstance⟩
theorem spec_l11Place {w0 w : World} {bA : Option Addr} {bn bc : Nat} {bs : List (List Int)} (h : Sl 1 (rSl 1 rInt) w0 bA bn bc bs) (hl : Later w0 w) (v : Int) :
    Calls Try.prog 144 #[.slice bA bn bc, .int .i64 v] w (Ret (.tuple #[.int .i64 (placeOf (-1) v bs).1, .int .i64 (placeOf (-1) v bs).2]) w) := by
  have hB := h.later hl
  have hbl := hB.le
  have Hbl := Lib.hid hB.len
  clear h
  go_enter Try.func144, Try.ntmps144
  go_wp2
  go_loopw [6] (fun i wr => ∃ k : Nat, k ≤ bn ∧ i = .int .i64 k ∧ Hid (placeGo (-1) v (bs.drop k) k = placeOf (-1) v bs) ∧ Later w wr) (fun i _ => bn - (intOf i).toNat)
  case atStart => exact ⟨0, by omega, rfl, rfl, inferInstance⟩
  case round =>
    obtain ⟨k, hk, rfl, HF, hX⟩ := hrel
    by_cases hlt : k < bn
    · obtain ⟨b, o, A1, n1, c1, x, rfl, hx, hc0, hi⟩ := Sl.row_ hB hlt
      have hn1 := hi.le
      have Hxl := Lib.hid hi.len
      have HF1 := HF.out
      rw [drop_at hx.out] at HF1
      simp only [placeGo] at HF1
      have HG := Lib.hid HF1
      clear HF hx HF1
      go_wp2
      go_loopw [7] (fun i wr => ∃ j : Nat, j ≤ n1 ∧ i = .int .i64 j ∧ Hid (idxGo (intIs v) (x.drop j) j = idx (intIs v) x) ∧ Later w wr) (fun i _ => n1 - (intOf i).toNat)
      case atStart => exact ⟨0, by omega, rfl, rfl, inferInstance⟩
      case round =>
        obtain ⟨j, hj, rfl, HQ, hY⟩ := hrel
        by_cases hjt : j < n1
        · obtain ⟨b2, o2, y, rfl, hy, hcy, _⟩ := Ints.at_ hi hjt
          have HQ1 := HQ.out
          rw [drop_at hy.out] at HQ1
          simp only [idxGo] at HQ1
          clear HQ
          by_cases e : y = v
          · rw [if_pos (by simpa [intIs] using e)] at HQ1
            have HE : Hid (placeOf (-1) v bs = ((k : Int), (j : Int))) := by
              show _ = _; rw [← HG.out, ← HQ1, if_pos (by omega)]
            have e1 := (beqi_t e).1
            clear e HQ1 HG hy
            go_wp2
            go_ret2
            exact ⟨by rw [HE.out]; rfl, inferInstance⟩
          · rw [if_neg (by simpa [intIs] using e)] at HQ1
            have HQ2 := Lib.hid HQ1
            have e1 := (beqi_f e).1
            clear e HQ1 hy
            go_wp2
            go_roundw
            case rel => exact ⟨j + 1, by omega, by go_num, HQ2, inferInstance⟩
            case measure => simp [intOf]; omega
        · have HF2 : Hid (placeGo (-1) v (bs.drop (k + 1)) (k + 1) = placeOf (-1) v bs) := by
            have h3 := HQ.out
            rw [List.drop_eq_nil_of_le (by have := Hxl.out; omega)] at h3
            have h4 : (-1 : Int) = idx (intIs v) x := h3
            have h5 := HG.out
            rw [← h4, if_neg (by omega)] at h5
            exact h5
          clear HQ HG
          go_wp2
          go_roundw
          case rel => exact ⟨k + 1, by omega, by go_num, HF2, inferInstance⟩
          case measure => simp [intOf]; omega
    · have HF2 : Hid ((-1, -1) = placeOf (-1) v bs) := by
        have h3 := HF.out
        rw [List.drop_eq_nil_of_le (by have := Hbl.out; omega)] at h3
        exact h3
      clear HF
      go_wp2
      go_ret2
      exact ⟨by rw [← HF2.out]; rfl, inferInstance⟩
end Go.Proofs.Ytbkeccpjcmhhjaa
