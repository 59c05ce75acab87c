/-
  Helpers of the statements on slices of strings: copy, size, equality, marks.
-/
import Derived.Test.YtaopadffabbjiaaNest
import Derived.StillTailTactics
namespace Go.Proofs.Ytaopadffabbjiaa
open Go Go.RowKit
set_option linter.unusedVariables false
set_option maxRecDepth 100000
def sumStr : List ByteArray → Nat
  | [] => 0
  | x :: l => x.size + sumStr l
def totStrs (l : List ByteArray) : Nat := l.length + sumStr l
theorem sumStr_drop {l : List ByteArray} {k : Nat} {x : ByteArray} (h : l[k]? = some x) : sumStr (l.drop k) = x.size + sumStr (l.drop (k + 1)) := by rw [drop_at h]; rfl
theorem sumStr_append (a b : List ByteArray) : sumStr (a ++ b) = sumStr a + sumStr b := by
  induction a with
  | nil => simp [sumStr]
  | cons x a ih => simp only [List.cons_append, sumStr, ih]; omega
abbrev Strs := Sl 1 rStr
theorem Strs.at_ {w : World} {A : Option Addr} {n c : Nat} {l : List ByteArray} (h : Strs w A n c l) {k : Nat} (hk : k < n) :
    ∃ b o x, A = some ⟨b, o, none⟩ ∧ Hid (l[k]? = some x) ∧ (∀ W [Later w W], W.cell? ⟨b, o + k, none⟩ = some (.string x)) ∧ x.size ≤ 9223372036854775807 := by
  obtain ⟨b, o, v, x, ha, hx, hc, hr⟩ := h.at1 hk
  obtain ⟨he, hi⟩ := hr
  cases he
  exact ⟨b, o, x, ha, hx, hc, by simpa [maxLen] using hi⟩
theorem str_ne {x y : ByteArray} (h : x ≠ y) : (x.data.toList == y.data.toList) = false := by rw [beq_eq_false_iff_ne]; intro e; exact h (ByteArray.ext (Array.toList_inj.1 e))
theorem str_eq {x y : ByteArray} (h : x = y) : (x.data.toList == y.data.toList) = true := by rw [h]; simp
theorem strL_ne {x y : ByteArray} (h : x ≠ y) : (x.toList == y.toList) = false := by rw [ByteArray.toList_eq, ByteArray.toList_eq]; exact str_ne h
theorem strL_eq {x y : ByteArray} (h : x = y) : (x.toList == y.toList) = true := by rw [h]; simp
theorem OSl.strs_blk {w : World} {g n : Nat} {t : TypeId} {cs : Array Value} {l : List ByteArray} (hb : Blk w g t cs) (hn : n = l.length) (hm : n ≤ 9223372036854775807)
    (hel : ∀ (k : Nat) (x : ByteArray), l[k]? = some x → cs[k]? = some (.string x) ∧ x.size ≤ maxLen) : OSl 1 oStr w (some ⟨g, 0, none⟩) n n l [g] := by
  obtain ⟨fp, ho, hfp⟩ := OSl.of_blk (sz := 1) (r := rStr) (l := l) (n := n) (c := n) hb hn (Nat.le_refl _) hm (fun j x hx => by
    obtain ⟨h1, h2⟩ := hel j x hx
    exact ⟨[.string x], rfl, fun j' v hv => by
      match j', hv with
      | 0, hv => simp at hv; subst hv; simpa using h1, fun _ => ⟨rfl, h2⟩⟩)
  subst hfp
  exact ho
theorem infoStr : (Try.prog.info? 9).map (fun i => (i.zero, i.size, i.bytes)) = some (some (.string ByteArray.empty), 1, 16) := by kernel_rfl
theorem laws_toStringS {w0 w : World} {A : Option Addr} {n c : Nat} {l : List ByteArray} (h : Strs w0 A n c l) (hl : Later w0 w) (hn : totStrs l ≤ 1048576) :
    Calls Try.prog 79 #[.slice A n c] w (RetO 1 oStr l w) := by
  have hn0 : n ≤ 1048576 := by have := h.len; unfold totStrs at hn; omega
  obtain ⟨C0, hC0, hmk⟩ := make_row (P := Try.prog) 22 9 Try.underlying22 infoStr n (by omega) (by omega)
  replace h := h.later hl
  go_enter Try.func79, Try.ntmps79
  go_wp2
  go_loopw [4] (fun i wr => ∃ (k : Nat) (cs : Array Value), k ≤ n ∧ i = .int .i64 k ∧ Blk wr w.heap.size 9 cs ∧ cs.size = n ∧ (∀ (j : Nat) (x : ByteArray), j < k → l[j]? = some x → cs[j]? = some (.string x) ∧ x.size ≤ maxLen) ∧ Later w wr) (fun i _ => n - (intOf i).toNat)
  case atStart => exact ⟨0, C0, by omega, rfl, Blk.new _ _ _, by omega, fun j x hj => by omega, inferInstance⟩
  case round =>
    obtain ⟨k, cs, hk, rfl, hB, hsz, hcs, hX⟩ := hrel
    have HB := Lib.hid hB
    have HS := Lib.hid hcs
    have Hsz := Lib.hid hsz
    by_cases hlt : k < n
    · obtain ⟨b, o, x, rfl, hx, hc, hi⟩ := Strs.at_ h hlt
      obtain ⟨v0, hv0⟩ := hB.get (i := k) (by omega)
      have hfz := hB.frozen k
      clear hB hcs hsz
      go_wp2
      go_roundw
      case rel =>
        refine ⟨k + 1, cs.setIfInBounds k (.string x), by omega, by go_num, HB.out.set_ k _, by have := Hsz.out; simpa using this, fun j y hj hy => ?_, inferInstance⟩
        by_cases e : j = k
        · subst e
          rw [set_eq _ (by have := Hsz.out; omega), Option.some.inj (hx.out.symm.trans hy)]
          rw [Option.some.inj (hx.out.symm.trans hy)] at hi
          exact ⟨rfl, hi⟩
        · rw [set_ne _ e]; exact HS.out j y (by omega) hy
      case measure => simp [intOf]; omega
    · clear hB hcs hsz
      go_wp2
      go_ret
      exact ⟨_, _, _, _, rfl, OSl.strs_blk HB.out h.len (by omega) (fun j x hx => HS.out j x (by have := (List.getElem?_eq_some_iff.1 hx).1; have := h.len; omega) hx), by simp, by simp, inferInstance⟩
theorem laws_szStringS {w0 w : World} {A : Option Addr} {n c : Nat} {l : List ByteArray} {left : Int} (h : Strs w0 A n c l) (hl : Later w0 w) (h0 : 0 ≤ left) (h1 : left ≤ 1048576) :
    Calls Try.prog 73 #[.slice A n c, .int .i64 left] w (RetSz (totStrs l) left w) := by
  replace h := h.later hl
  have hn := h.le
  have hl := Lib.hid h.len
  go_enter Try.func73, Try.ntmps73
  go_wp2_with fail
  · go_ret
    exact ⟨_, rfl, .inl (by omega), inferInstance⟩
  go_loopw [5, 1] (fun i q wr => ∃ (k : Nat) (r : Int), k ≤ n ∧ i = .int .i64 k ∧ q = .int .i64 r ∧ 0 ≤ r ∧ r ≤ 1048576 ∧ Hid (r - sumStr (l.drop k) = left - totStrs l) ∧ Later w wr) (fun i _ _ => n - (intOf i).toNat)
  case atStart => exact ⟨0, left - n, by omega, rfl, rfl, by omega, by omega, by unfold totStrs; rw [← hl.out]; show _ = _; simp only [List.drop_zero]; omega, inferInstance⟩
  case round =>
    obtain ⟨k, r, hk, rfl, rfl, hr0, hr1, HF, hX⟩ := hrel
    by_cases hlt : k < n
    · obtain ⟨b, o, x, rfl, hx, hc, hi⟩ := Strs.at_ h hlt
      have hd := Lib.hid (sumStr_drop hx.out)
      by_cases hneg : r - (x.size : Int) < 0
      · go_wp2
        go_ret
        exact ⟨_, rfl, .inl (by omega), inferInstance⟩
      · have HF2 : Hid ((r - x.size) - sumStr (l.drop (k + 1)) = left - totStrs l) := by have := HF.out; have := hd.out; show _ = _; omega
        go_wp2
        go_roundw
        case rel => exact ⟨k + 1, r - x.size, by omega, by go_num, rfl, by omega, by omega, HF2, inferInstance⟩
        case measure => simp [intOf]; omega
    · have HF2 := HF.out
      have hkn : k = n := by omega
      rw [List.drop_eq_nil_of_le (by have := hl.out; omega)] at HF2
      have HF3 : Hid (r + totStrs l = left) := by show _ = _; simp only [sumStr] at HF2; omega
      clear HF2
      go_wp2
      go_ret
      exact ⟨_, rfl, .inr ⟨hr0, HF3.out⟩, inferInstance⟩
theorem laws_eqStringS {w0 w1 w : World} {A B : Option Addr} {n c m d : Nat} {l r : List ByteArray} (h : Strs w0 A n c l) (hl : Later w0 w) (h1 : Strs w1 B m d r) (hl1 : Later w1 w) :
    Calls Try.prog 87 #[.slice A n c, .slice B m d] w (Ret (.bool (decide (l = r))) w) := by
  replace h := h.later hl
  replace h1 := h1.later hl1
  have hn := h.le
  have hm := h1.le
  by_cases hnm : n = m
  · subst hnm
    have hcont : ((n : Int) != n) = false := by simp
    go_enter Try.func87, Try.ntmps87
    go_wp2
    go_loopw [5] (fun i wr => ∃ k : Nat, k ≤ n ∧ i = .int .i64 k ∧ Hid (l.drop k = r.drop k ↔ l = r) ∧ Later w wr) (fun i _ => n - (intOf i).toNat)
    case atStart => exact ⟨0, by omega, rfl, Iff.rfl, inferInstance⟩
    case round =>
      obtain ⟨k, hk, rfl, HF, hX⟩ := hrel
      by_cases hlt : k < n
      · obtain ⟨b, o, x, rfl, hx, hc, hi⟩ := Strs.at_ h hlt
        obtain ⟨b', o', y, rfl, hy, hc', hi'⟩ := Strs.at_ h1 hlt
        have hd := drop_at hx.out
        have hd' := drop_at hy.out
        by_cases hxy : x = y
        · have HF2 : Hid (l.drop (k + 1) = r.drop (k + 1) ↔ l = r) := by rw [← HF.out, hd, hd', hxy]; show _ ↔ _; simp
          have hb := strL_eq hxy
          clear hxy hd hd'
          go_wp2
          go_quiet (fail)
          go_wp2
          go_roundw
          case rel => exact ⟨k + 1, by omega, by go_num, HF2, inferInstance⟩
          case measure => simp [intOf]; omega
        · have HF2 : Hid (l ≠ r) := by rw [hd, hd'] at HF; intro e; have := HF.out.2 e; simp at this; exact hxy this.1
          have hb := strL_ne hxy
          clear hxy hd hd'
          go_wp2
          go_quiet (fail)
          go_wp2
          go_ret
          exact ⟨ret_bool (by rw [decide_eq_false HF2.out]), inferInstance⟩
      · have H2 : Hid (l = r) := by
          rw [List.drop_eq_nil_of_le (by have := h.len; omega), List.drop_eq_nil_of_le (by have := h1.len; omega)] at HF
          exact HF.out.1 rfl
        go_wp2
        go_ret
        exact ⟨ret_bool (by rw [decide_eq_true H2.out]), inferInstance⟩
  · have H2 : Hid (l ≠ r) := by intro e; apply hnm; rw [h.len, h1.len, e]
    have hb : ((n : Int) != m) = true := by rw [bne_iff_ne]; omega
    clear hnm
    go_enter Try.func87, Try.ntmps87
    go_wp2
    go_ret
    exact ⟨ret_bool (by rw [decide_eq_false H2.out]), inferInstance⟩
end Go.Proofs.Ytaopadffabbjiaa
