/-
  Helpers of the statements on slices of duties: copy, size, equality.
-/
import Derived.Test.YthibhehnakikpaaGreatHDuty
import Derived.Test.YthibhehnakikpaaGreatMarkText
namespace Go.Proofs.YthibhehnakikpaaGreat
open Go Go.RowKit
set_option linter.unusedVariables false
set_option maxRecDepth 100000
def sumDuty : List Duty → Nat
  | [] => 0
  | x :: l => totDuty x + sumDuty l
def totDutys (l : List Duty) : Nat := l.length + sumDuty l
theorem sumDuty_drop {l : List Duty} {k : Nat} {x : Duty} (h : l[k]? = some x) : sumDuty (l.drop k) = totDuty x + sumDuty (l.drop (k + 1)) := by rw [drop_at h]; rfl
theorem sumDuty_append (a b : List Duty) : sumDuty (a ++ b) = sumDuty a + sumDuty b := by
  induction a with
  | nil => simp [sumDuty]
  | cons x a ih => simp only [List.cons_append, sumDuty, ih]; omega
theorem tot_le_sumDuty {l : List Duty} {k : Nat} {x : Duty} (h : l[k]? = some x) : totDuty x ≤ sumDuty l := by
  have h1 : sumDuty l = sumDuty (l.take k) + sumDuty (l.drop k) := by rw [← sumDuty_append, List.take_append_drop]
  rw [sumDuty_drop h] at h1
  omega
theorem info_Duty : (Tryz.prog.info? 75).map (fun i => (i.zero, i.size, i.bytes)) = some (some (.agg #[.slice none 0 0]), 1, 24) := by kernel_rfl
theorem laws_toDutyS {w0 w : World} {A : Option Addr} {n c : Nat} {l : List Duty} (h : Dutys w0 A n c l) (hl : Later w0 w) (hn : totDutys l ≤ 1048576) :
    Calls Tryz.prog 21 #[.slice A n c] w (RetO 1 oDuty l w) := by
  have hn0 : n ≤ 1048576 := by have := h.len; unfold totDutys at hn; omega
  obtain ⟨C0, hC0, hmk⟩ := make_row (P := Tryz.prog) 53 75 Tryz.underlying53 info_Duty n (by omega) (by omega)
  replace h := h.later hl
  go_enter Tryz.func21, Tryz.ntmps21
  go_wp2
  go_loopw [4] (fun i wr => ∃ (k : Nat) (cs : Array Value) (fps : List (List Nat)), k ≤ n ∧ i = .int .i64 k ∧ Built 1 oDuty w wr w.heap.size 75 l n k cs fps ∧ Later w wr) (fun i _ => n - (intOf i).toNat)
  case atStart => exact ⟨0, C0, [], by omega, rfl, Built.start (Blk.new _ _ _) hC0 (Nat.le_refl _), inferInstance⟩
  case round =>
    obtain ⟨k, cs, fps, hk, rfl, hB, hX⟩ := hrel
    by_cases hlt : k < n
    · obtain ⟨b, o, xA0, xn0, xc0, x, rfl, hx, hc0, hi⟩ := Dutys.at_ h hlt
      have hn1 : totDuty x ≤ 1048576 := by have := tot_le_sumDuty hx.out; unfold totDutys at hn; omega
      go_wp2_with fail
      refine (laws_toDuty hi hX hn1).mono ?_
      rintro e w1 ⟨A0, n0, c0, f0, rfl, ho, hnd, hlo, hL⟩
      have hY : Later w w1 := hX.trans hL
      have hB1 := Lib.hid (hB.blk.later hL)
      obtain ⟨v0, hv0⟩ := hB1.out.get (i := k) (by have := hB.size; omega)
      have hf0 := hB1.out.frozen k
      go_wp2
      go_roundw
      case rel =>
        have hs := hB.size
        exact ⟨k + 1, cs.setIfInBounds k (.slice A0 n0 c0), fps ++ [f0], by omega, by go_num, hB.step hL hx.out ⟨A0, n0, c0, f0, rfl, ho, rfl⟩ hnd hlo (Touch.set_one _ _ _ _) hX (hB1.out.set_ k _) (by simpa using hs) rfl
          (fun i hi => set_ne _ (by omega)) (fun i v hv => by
            match i, hv with
            | 0, hv => simp at hv; subst hv; simpa using set_eq _ (by omega)), inferInstance⟩
      case measure => simp [intOf]; omega
    · go_wp2
      go_ret
      have hkn : k = n := by omega
      exact ⟨_, _, _, _, rfl, hB.done hkn h.len (by omega), hB.nodup, hB.lo, inferInstance⟩
theorem laws_szDutyS {w0 w : World} {A : Option Addr} {n c : Nat} {l : List Duty} {left : Int} (h : Dutys w0 A n c l) (hl : Later w0 w) (h0 : 0 ≤ left) (h1 : left ≤ 1048576) :
    Calls Tryz.prog 15 #[.slice A n c, .int .i64 left] w (RetSz (totDutys l) left w) := by
  replace h := h.later hl
  have hn := h.le
  have hl := Lib.hid h.len
  go_enter Tryz.func15, Tryz.ntmps15
  go_wp2_with fail
  · go_ret
    exact ⟨_, rfl, .inl (by omega), inferInstance⟩
  go_loopw [5, 1] (fun i q wr => ∃ (k : Nat) (r : Int), k ≤ n ∧ i = .int .i64 k ∧ q = .int .i64 r ∧ 0 ≤ r ∧ r ≤ 1048576 ∧ Hid (r - sumDuty (l.drop k) = left - totDutys l) ∧ Later w wr) (fun i _ _ => n - (intOf i).toNat)
  case atStart => exact ⟨0, left - n, by omega, rfl, rfl, by omega, by omega, by unfold totDutys; rw [← hl.out]; show _ = _; simp only [List.drop_zero]; omega, inferInstance⟩
  case round =>
    obtain ⟨k, r, hk, rfl, rfl, hr0, hr1, HF, hX⟩ := hrel
    by_cases hlt : k < n
    · obtain ⟨b, o, xA0, xn0, xc0, x, rfl, hx, hc0, hi⟩ := Dutys.at_ h hlt
      have hd := Lib.hid (sumDuty_drop hx.out)
      have HI := Lib.hid hi
      clear hi
      go_wp2_with fail
      refine (laws_szDuty HI.out hX hr0 hr1).mono ?_
      rintro e w1 ⟨r1, rfl, hr2, hL⟩
      have hY : Later w w1 := hX.trans hL
      rcases hr2 with hr2 | ⟨hr3, hr4⟩
      · go_wp2
        go_ret
        exact ⟨_, rfl, .inl (by omega), inferInstance⟩
      · have HF2 : Hid (r1 - sumDuty (l.drop (k + 1)) = left - totDutys l) := by have := HF.out; have := hd.out; show _ = _; omega
        have hr5 : r1 ≤ 1048576 := by omega
        clear hr4
        go_wp2
        go_roundw
        case rel => exact ⟨k + 1, r1, by omega, by go_num, rfl, hr3, hr5, HF2, inferInstance⟩
        case measure => simp [intOf]; omega
    · have HF2 := HF.out
      have hkn : k = n := by omega
      rw [List.drop_eq_nil_of_le (by have := hl.out; omega)] at HF2
      have HF3 : Hid (r + totDutys l = left) := by show _ = _; simp only [sumDuty] at HF2; omega
      clear HF2
      go_wp2
      go_ret
      exact ⟨_, rfl, .inr ⟨hr0, HF3.out⟩, inferInstance⟩
theorem laws_eqDutyS {w0 w1 w : World} {A B : Option Addr} {n c m d : Nat} {l r : List Duty} (h : Dutys w0 A n c l) (hl : Later w0 w) (h1 : Dutys w1 B m d r) (hl1 : Later w1 w) :
    Calls Tryz.prog 26 #[.slice A n c, .slice B m d] w (Ret (.bool (decide (l = r))) w) := by
  replace h := h.later hl
  replace h1 := h1.later hl1
  have hn := h.le
  have hm := h1.le
  by_cases hnm : n = m
  · subst hnm
    have hcont : ((n : Int) != n) = false := by simp
    go_enter Tryz.func26, Tryz.ntmps26
    go_wp2
    go_loopw [5] (fun i wr => ∃ k : Nat, k ≤ n ∧ i = .int .i64 k ∧ Hid (l.drop k = r.drop k ↔ l = r) ∧ Later w wr) (fun i _ => n - (intOf i).toNat)
    case atStart => exact ⟨0, by omega, rfl, Iff.rfl, inferInstance⟩
    case round =>
      obtain ⟨k, hk, rfl, HF, hX⟩ := hrel
      by_cases hlt : k < n
      · obtain ⟨b, o, xA0, xn0, xc0, x, rfl, hx, hc0, hi⟩ := Dutys.at_ h hlt
        obtain ⟨b', o', yA0, yn0, yc0, y, rfl, hy, hc0', hi'⟩ := Dutys.at_ h1 hlt
        have hd := drop_at hx.out
        have hd' := drop_at hy.out
        have HI := Lib.hid hi
        have HI' := Lib.hid hi'
        clear hi hi'
        by_cases hxy : x = y
        · have HF2 : Hid (l.drop (k + 1) = r.drop (k + 1) ↔ l = r) := by rw [← HF.out, hd, hd', hxy]; show _ ↔ _; simp
          have hb : decide (x = y) = true := by simpa using hxy
          clear hxy hd hd'
          go_wp2_with fail
          go_still_tail 8, (by kernel_rfl)
          change wpList _ _ _ _ _ wr.drew
          go_wp2_with fail
          refine (laws_eqDuty HI.out inferInstance HI'.out inferInstance).mono ?_
          rintro e w2 ⟨rfl, hL⟩
          have hY := Later.trans (w := w) inferInstance hL
          go_wp2
          go_roundw
          case rel => exact ⟨k + 1, by omega, by go_num, HF2, inferInstance⟩
          case measure => simp [intOf]; omega
        · have HF2 : Hid (l ≠ r) := by rw [hd, hd'] at HF; intro e; have := HF.out.2 e; simp at this; exact hxy this.1
          have hb : decide (x = y) = false := by simpa using hxy
          clear hxy hd hd'
          go_wp2_with fail
          go_still_tail 8, (by kernel_rfl)
          change wpList _ _ _ _ _ wr.drew
          go_wp2_with fail
          refine (laws_eqDuty HI.out inferInstance HI'.out inferInstance).mono ?_
          rintro e w2 ⟨rfl, hL⟩
          have hY := Later.trans (w := w) inferInstance hL
          go_wp2
          go_ret
          exact ⟨ret_bool (by rw [decide_eq_false HF2.out]), inferInstance⟩
      · have H2 : Hid (l = r) := by
          rw [List.drop_eq_nil_of_le (by have := h.len; omega), List.drop_eq_nil_of_le (by have := h1.len; omega)] at HF
          exact HF.out.1 rfl
        go_wp2
        go_ret
        exact ⟨ret_bool (by rw [decide_eq_true H2.out]), inferInstance⟩
  · have H2 : Hid (l ≠ r) := by intro e; apply hnm; rw [h.len, h1.len, e]
    have hb : ((n : Int) != m) = true := by rw [bne_iff_ne]; omega
    clear hnm
    go_enter Tryz.func26, Tryz.ntmps26
    go_wp2
    go_ret
    exact ⟨ret_bool (by rw [decide_eq_false H2.out]), inferInstance⟩
end Go.Proofs.YthibhehnakikpaaGreat
