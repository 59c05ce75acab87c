/-
  Helpers of the statements on slices of slices of numbers: copy, size, equality, marks.
-/
import Derived.Test.YtnbaballbbmibaaNest
import Derived.StillTailTactics
namespace Go.Proofs.Ytnbaballbbmibaa
open Go Go.RowKit
set_option linter.unusedVariables false
set_option maxRecDepth 100000
def sumLen : List (List Int) → Nat
  | [] => 0
  | x :: l => x.length + sumLen l
def totRows (l : List (List Int)) : Nat := l.length + sumLen l
theorem sumLen_drop {l : List (List Int)} {k : Nat} {x : List Int} (h : l[k]? = some x) : sumLen (l.drop k) = x.length + sumLen (l.drop (k + 1)) := by rw [drop_at h]; rfl
theorem sumLen_append (a b : List (List Int)) : sumLen (a ++ b) = sumLen a + sumLen b := by
  induction a with
  | nil => simp [sumLen]
  | cons x a ih => simp only [List.cons_append, sumLen, ih]; omega
theorem len_le_sumLen {l : List (List Int)} {k : Nat} {x : List Int} (h : l[k]? = some x) : x.length ≤ sumLen l := by
  have h1 : sumLen l = sumLen (l.take k) + sumLen (l.drop k) := by rw [← sumLen_append, List.take_append_drop]
  rw [sumLen_drop h] at h1
  omega
abbrev oRows : ORep (List Int) := oSl 1 oInt
theorem info_ints : (Try.prog.info? 63).map (fun i => (i.zero, i.size, i.bytes)) = some (some (.slice none 0 0), 1, 24) := by kernel_rfl
theorem laws_toIntSS {w0 w : World} {A : Option Addr} {n c : Nat} {l : List (List Int)} (h : Rows w0 A n c l) (hl : Later w0 w) (hn : totRows l ≤ 1048576) :
    Calls Try.prog 71 #[.slice A n c] w (RetO 1 oRows l w) := by
  have hn0 : n ≤ 1048576 := by have := h.len; unfold totRows at hn; omega
  obtain ⟨C0, hC0, hmk⟩ := make_row (P := Try.prog) 39 63 Try.underlying39 info_ints n (by omega) (by omega)
  replace h := h.later hl
  go_enter Try.func71, Try.ntmps71
  go_wp2
  go_loopw [4] (fun i wr => ∃ (k : Nat) (cs : Array Value) (fps : List (List Nat)), k ≤ n ∧ i = .int .i64 k ∧ Built 1 oRows w wr w.heap.size 63 l n k cs fps ∧ Later w wr) (fun i _ => n - (intOf i).toNat)
  case atStart => exact ⟨0, C0, [], by omega, rfl, Built.start (Blk.new _ _ _) hC0 (Nat.le_refl _), inferInstance⟩
  case round =>
    obtain ⟨k, cs, fps, hk, rfl, hB, hX⟩ := hrel
    by_cases hlt : k < n
    · obtain ⟨b, o, A1, n1, c1, x, rfl, hx, hc, hi⟩ := Sl.row_ h hlt
      have hn1 : n1 ≤ 1048576 := by have := len_le_sumLen hx.out; have := hi.len; unfold totRows at hn; omega
      go_wp2_with fail
      refine (laws_toIntS hi hX hn1).mono ?_
      rintro e w1 ⟨A2, n2, c2, f, rfl, ho, hnd, hlo, hL⟩
      have hY : Later w w1 := hX.trans hL
      have hB1 := Lib.hid (hB.blk.later hL)
      obtain ⟨v0, hv0⟩ := hB1.out.get (i := k) (by have := hB.size; omega)
      have hf0 := hB1.out.frozen k
      go_wp2
      go_roundw
      case rel =>
        have hs := hB.size
        exact ⟨k + 1, cs.setIfInBounds k (.slice A2 n2 c2), fps ++ [f], by omega, by go_num, hB.step hL hx.out ⟨A2, n2, c2, rfl, ho⟩ hnd hlo (Touch.set_one _ _ _ _) hX (hB1.out.set_ k _) (by simpa using hs) rfl
          (fun i hi => set_ne _ (by omega)) (fun i v hv => by
            match i, hv with
            | 0, hv => simp at hv; subst hv; simpa using set_eq _ (by omega)), inferInstance⟩
      case measure => simp [intOf]; omega
    · go_wp2
      go_ret
      have hkn : k = n := by omega
      exact ⟨_, _, _, _, rfl, hB.done hkn h.len (by omega), hB.nodup, hB.lo, inferInstance⟩
theorem laws_szIntSS {w0 w : World} {A : Option Addr} {n c : Nat} {l : List (List Int)} {left : Int} (h : Rows w0 A n c l) (hl : Later w0 w) (h0 : 0 ≤ left) (h1 : left ≤ 1048576) :
    Calls Try.prog 69 #[.slice A n c, .int .i64 left] w (RetSz (totRows l) left w) := by
  replace h := h.later hl
  have hn := h.le
  have hl := Lib.hid h.len
  go_enter Try.func69, Try.ntmps69
  go_wp2_with fail
  · go_ret
    exact ⟨_, rfl, .inl (by omega), inferInstance⟩
  go_loopw [5, 1] (fun i q wr => ∃ (k : Nat) (r : Int), k ≤ n ∧ i = .int .i64 k ∧ q = .int .i64 r ∧ 0 ≤ r ∧ r ≤ 1048576 ∧ Hid (r - sumLen (l.drop k) = left - totRows l) ∧ Later w wr) (fun i _ _ => n - (intOf i).toNat)
  case atStart => exact ⟨0, left - n, by omega, rfl, rfl, by omega, by omega, by unfold totRows; rw [← hl.out]; show _ = _; simp only [List.drop_zero]; omega, inferInstance⟩
  case round =>
    obtain ⟨k, r, hk, rfl, rfl, hr0, hr1, HF, hX⟩ := hrel
    by_cases hlt : k < n
    · obtain ⟨b, o, A1, n1, c1, x, rfl, hx, hc, hi⟩ := Sl.row_ h hlt
      have hd := Lib.hid (sumLen_drop hx.out)
      have HI := Lib.hid hi
      clear hi
      go_wp2_with fail
      refine (laws_szIntS HI.out hr0 hr1).mono ?_
      rintro e w1 ⟨r1, rfl, hr2, hL⟩
      have hY : Later w w1 := hX.trans hL
      rcases hr2 with hr2 | ⟨hr3, hr4⟩
      · go_wp2
        go_ret
        exact ⟨_, rfl, .inl (by omega), inferInstance⟩
      · have HF2 : Hid (r1 - sumLen (l.drop (k + 1)) = left - totRows l) := by have := HF.out; have := hd.out; show _ = _; omega
        have hr5 : r1 ≤ 1048576 := by omega
        clear hr4
        go_wp2
        go_roundw
        case rel => exact ⟨k + 1, r1, by omega, by go_num, rfl, hr3, hr5, HF2, inferInstance⟩
        case measure => simp [intOf]; omega
    · have HF2 := HF.out
      have hkn : k = n := by omega
      rw [List.drop_eq_nil_of_le (by have := hl.out; omega)] at HF2
      have HF3 : Hid (r + totRows l = left) := by show _ = _; simp only [sumLen] at HF2; omega
      clear HF2
      go_wp2
      go_ret
      exact ⟨_, rfl, .inr ⟨hr0, HF3.out⟩, inferInstance⟩
theorem laws_eqIntSS {w0 w1 w : World} {A B : Option Addr} {n c m d : Nat} {l r : List (List Int)} (h : Rows w0 A n c l) (hl : Later w0 w) (h1 : Rows w1 B m d r) (hl1 : Later w1 w) :
    Calls Try.prog 73 #[.slice A n c, .slice B m d] w (Ret (.bool (decide (l = r))) w) := by
  replace h := h.later hl
  replace h1 := h1.later hl1
  have hn := h.le
  have hm := h1.le
  by_cases hnm : n = m
  · subst hnm
    have hcont : ((n : Int) != n) = false := by simp
    go_enter Try.func73, Try.ntmps73
    go_wp2
    go_loopw [5] (fun i wr => ∃ k : Nat, k ≤ n ∧ i = .int .i64 k ∧ Hid (l.drop k = r.drop k ↔ l = r) ∧ Later w wr) (fun i _ => n - (intOf i).toNat)
    case atStart => exact ⟨0, by omega, rfl, Iff.rfl, inferInstance⟩
    case round =>
      obtain ⟨k, hk, rfl, HF, hX⟩ := hrel
      by_cases hlt : k < n
      · obtain ⟨b, o, A1, n1, c1, x, rfl, hx, hc0, hi⟩ := Sl.row_ h hlt
        obtain ⟨b', o', A2, n2, c2, y, rfl, hy, hc0', hi'⟩ := Sl.row_ h1 hlt
        have hd := drop_at hx.out
        have hd' := drop_at hy.out
        have HI := Lib.hid hi
        have HI' := Lib.hid hi'
        clear hi hi'
        by_cases hxy : x = y
        · have HF2 : Hid (l.drop (k + 1) = r.drop (k + 1) ↔ l = r) := by rw [← HF.out, hd, hd', hxy]; show _ ↔ _; simp
          have hb : decide (x = y) = true := by simpa using hxy
          clear hxy hd hd'
          go_wp2_with fail
          go_still_tail 8, (by kernel_rfl)
          change wpList _ _ _ _ _ wr.drew
          go_wp2_with fail
          refine (laws_eqIntS HI.out inferInstance HI'.out inferInstance).mono ?_
          rintro e w2 ⟨rfl, hL⟩
          have hY := Later.trans (w := w) inferInstance hL
          go_wp2
          go_roundw
          case rel => exact ⟨k + 1, by omega, by go_num, HF2, inferInstance⟩
          case measure => simp [intOf]; omega
        · have HF2 : Hid (l ≠ r) := by rw [hd, hd'] at HF; intro e; have := HF.out.2 e; simp at this; exact hxy this.1
          have hb : decide (x = y) = false := by simpa using hxy
          clear hxy hd hd'
          go_wp2_with fail
          go_still_tail 8, (by kernel_rfl)
          change wpList _ _ _ _ _ wr.drew
          go_wp2_with fail
          refine (laws_eqIntS HI.out inferInstance HI'.out inferInstance).mono ?_
          rintro e w2 ⟨rfl, hL⟩
          have hY := Later.trans (w := w) inferInstance hL
          go_wp2
          go_ret
          exact ⟨ret_bool (by rw [decide_eq_false HF2.out]), inferInstance⟩
      · have H2 : Hid (l = r) := by
          rw [List.drop_eq_nil_of_le (by have := h.len; omega), List.drop_eq_nil_of_le (by have := h1.len; omega)] at HF
          exact HF.out.1 rfl
        go_wp2
        go_ret
        exact ⟨ret_bool (by rw [decide_eq_true H2.out]), inferInstance⟩
  · have H2 : Hid (l ≠ r) := by intro e; apply hnm; rw [h.len, h1.len, e]
    have hb : ((n : Int) != m) = true := by rw [bne_iff_ne]; omega
    clear hnm
    go_enter Try.func73, Try.ntmps73
    go_wp2
    go_ret
    exact ⟨ret_bool (by rw [decide_eq_false H2.out]), inferInstance⟩
def mkRows : Int → List (List Int) → List (List Int)
  | _, [] => []
  | k, x :: l => mkInts k x.length :: mkRows (k + x.length) l
theorem mkRows_len (k : Int) (l : List (List Int)) : (mkRows k l).length = l.length := by
  induction l generalizing k with
  | nil => rfl
  | cons x l ih => simp [mkRows, ih]
end Go.Proofs.Ytnbaballbbmibaa
