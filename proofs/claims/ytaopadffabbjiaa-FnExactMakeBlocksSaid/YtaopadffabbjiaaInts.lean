/-
  The helpers of the statements on slices of numbers: copy, size, equality, marks.
-/
import Derived.Test.YtaopadffabbjiaaNum
namespace Go.Proofs.Ytaopadffabbjiaa
open Go Go.RowKit
set_option linter.unusedVariables false
set_option maxRecDepth 100000
/-- A size check: below 0, or what is left after tot. -/
def RetSz (tot : Nat) (left : Int) (w : World) (e : Ending) (w' : World) : Prop := ∃ r : Int, e = .returned (.int .i64 r) ∧ (r < 0 ∨ 0 ≤ r ∧ r + tot = left) ∧ Later w w'
/-- A mark: the next number; the blocks fp alone have changed, and hold now what Q says. -/
def RetMk (k : Int) (fp : List Nat) (Q : World → Prop) (w : World) (e : Ending) (w' : World) : Prop := e = .returned (.int .i64 k) ∧ Touch fp w w' ∧ Q w'
/-- n numbers from k on. -/
def mkInts (k : Int) (n : Nat) : List Int := (List.range n).map fun (i : Nat) => k + (i : Int)
theorem mkInts_len (k : Int) (n : Nat) : (mkInts k n).length = n := by simp [mkInts]
theorem mkInts_at {k : Int} {n j : Nat} {x : Int} (h : (mkInts k n)[j]? = some x) : j < n ∧ x = k + j := by
  unfold mkInts at h
  rw [List.getElem?_map] at h
  by_cases hj : j < n
  · rw [List.getElem?_range hj] at h; simp at h; exact ⟨hj, h.symm⟩
  · rw [List.getElem?_eq_none (by simpa using hj)] at h; simp at h
theorem laws_toIntS {w0 w : World} {A : Option Addr} {n c : Nat} {l : List Int} (h : Ints w0 A n c l) (hl : Later w0 w) (hn : n ≤ 1048576) :
    Calls Try.prog 99 #[.slice A n c] w (RetO 1 oInt l w) := by
  obtain ⟨C0, hC0, hmk⟩ := make_row (P := Try.prog) 67 3 Try.underlying67 (show _ = some (some (.int .i64 0), 1, 8) by kernel_rfl) n (by omega) (by omega)
  replace h := h.later hl
  go_enter Try.func99, Try.ntmps99
  go_wp2
  go_loopw [4] (fun i wr => ∃ (k : Nat) (cs : Array Value), k ≤ n ∧ i = .int .i64 k ∧ Blk wr w.heap.size 3 cs ∧ cs.size = n ∧ (∀ (j : Nat) (x : Int), j < k → l[j]? = some x → cs[j]? = some (.int .i64 x) ∧ I64 x) ∧ Later w wr) (fun i _ => n - (intOf i).toNat)
  case atStart => exact ⟨0, C0, by omega, rfl, Blk.new _ _ _, by omega, fun j x hj => by omega, inferInstance⟩
  case round =>
    obtain ⟨k, cs, hk, rfl, hB, hsz, hcs, hX⟩ := hrel
    have HB := Lib.hid hB
    have HS := Lib.hid hcs
    have Hsz := Lib.hid hsz
    by_cases hlt : k < n
    · obtain ⟨b, o, x, rfl, hx, hc, hi⟩ := Ints.at_ h hlt
      obtain ⟨v0, hv0⟩ := hB.get (i := k) (by omega)
      have hfz := hB.frozen k
      clear hB hcs hsz
      go_wp2
      go_roundw
      case rel =>
        refine ⟨k + 1, cs.setIfInBounds k (.int .i64 x), by omega, by go_num, HB.out.set_ k _, by have := Hsz.out; simpa using this, fun j y hj hy => ?_, inferInstance⟩
        by_cases e : j = k
        · subst e
          rw [set_eq _ (by have := Hsz.out; omega), Option.some.inj (hx.out.symm.trans hy)]
          rw [Option.some.inj (hx.out.symm.trans hy)] at hi
          exact ⟨rfl, hi⟩
        · rw [set_ne _ e]; exact HS.out j y (by omega) hy
      case measure => simp [intOf]; omega
    · clear hB hcs hsz
      go_wp2
      go_ret
      exact ⟨_, _, _, _, rfl, OSl.ints_blk HB.out h.len (by omega) (fun j x hx => HS.out j x (by have := (List.getElem?_eq_some_iff.1 hx).1; have := h.len; omega) hx), by simp, by simp, inferInstance⟩
theorem laws_szIntS {w0 w : World} {A : Option Addr} {n c : Nat} {l : List Int} {left : Int} (h : Ints w0 A n c l) (h0 : 0 ≤ left) (h1 : left ≤ 1048576) :
    Calls Try.prog 92 #[.slice A n c, .int .i64 left] w (RetSz l.length left w) := by
  have hn := h.le
  have hl := Lib.hid h.len
  clear h
  go_enter Try.func92, Try.ntmps92
  go_wp2
  · go_ret
    exact ⟨_, rfl, .inl (by omega), inferInstance⟩
  · go_ret
    exact ⟨_, rfl, .inr ⟨by have := hl.out; omega, by rw [← hl.out]; simp⟩, inferInstance⟩
theorem laws_eqIntS {w0 w1 w : World} {A B : Option Addr} {n c m d : Nat} {l r : List Int} (h : Ints w0 A n c l) (hl : Later w0 w) (h1 : Ints w1 B m d r) (hl1 : Later w1 w) :
    Calls Try.prog 34 #[.slice A n c, .slice B m d] w (Ret (.bool (decide (l = r))) w) := by
  replace h := h.later hl
  replace h1 := h1.later hl1
  have hn := h.le
  have hm := h1.le
  by_cases hnm : n = m
  · subst hnm
    have hcont : ((n : Int) != n) = false := by simp
    go_enter Try.func34, Try.ntmps34
    go_wp2
    go_loopw [5] (fun i wr => ∃ k : Nat, k ≤ n ∧ i = .int .i64 k ∧ Hid (l.drop k = r.drop k ↔ l = r) ∧ Later w wr) (fun i _ => n - (intOf i).toNat)
    case atStart => exact ⟨0, by omega, rfl, Iff.rfl, inferInstance⟩
    case round =>
      obtain ⟨k, hk, rfl, HF, hX⟩ := hrel
      by_cases hlt : k < n
      · obtain ⟨b, o, x, rfl, hx, hc, hi⟩ := Ints.at_ h hlt
        obtain ⟨b', o', y, rfl, hy, hc', hi'⟩ := Ints.at_ h1 hlt
        have hd := drop_at hx.out
        have hd' := drop_at hy.out
        by_cases hxy : x = y
        · have HF2 : Hid (l.drop (k + 1) = r.drop (k + 1) ↔ l = r) := by rw [← HF.out, hd, hd', hxy]; show _ ↔ _; simp
          have hb : (x != y) = false := by simpa using hxy
          clear hxy hd hd'
          go_wp2
          go_quiet (fail)
          go_wp2
          go_roundw
          case rel => exact ⟨k + 1, by omega, by go_num, HF2, inferInstance⟩
          case measure => simp [intOf]; omega
        · have HF2 : Hid (l ≠ r) := by rw [hd, hd'] at HF; intro e; have := HF.out.2 e; simp at this; exact hxy this.1
          have hb : (x != y) = true := by simpa using hxy
          clear hxy hd hd'
          go_wp2
          go_quiet (fail)
          go_wp2
          go_ret
          exact ⟨ret_bool (by rw [decide_eq_false HF2.out]), inferInstance⟩
      · have H2 : Hid (l = r) := by
          rw [List.drop_eq_nil_of_le (by have := h.len; omega), List.drop_eq_nil_of_le (by have := h1.len; omega)] at HF
          exact HF.out.1 rfl
        go_wp2
        go_ret
        exact ⟨ret_bool (by rw [decide_eq_true H2.out]), inferInstance⟩
  · have H2 : Hid (l ≠ r) := by intro e; apply hnm; rw [h.len, h1.len, e]
    have hb : ((n : Int) != m) = true := by rw [bne_iff_ne]; omega
    clear hnm
    go_enter Try.func34, Try.ntmps34
    go_wp2
    go_ret
    exact ⟨ret_bool (by rw [decide_eq_false H2.out]), inferInstance⟩
theorem laws_markIntS {w : World} {A : Option Addr} {n c : Nat} {l : List Int} {fp : List Nat} {k0 : Int} (h : OSl 1 oInt w A n c l fp) (h0 : 0 ≤ k0) (h1 : k0 + n ≤ 4611686018427387904) :
    Calls Try.prog 39 #[.slice A n c, .int .i64 k0] w (RetMk (k0 + n) fp (fun w' => OSl 1 oInt w' A n c (mkInts k0 n) fp) w) := by
  have hn : n ≤ 9223372036854775807 := Nat.le_trans h.cap h.max
  have Hh := Lib.hid h
  rcases h.own with ⟨rfl, rfl⟩ | ⟨g, o, t, cs0, fps, rfl, hB0, rfl, hfl, hel⟩
  · obtain rfl : n = 0 := Hh.out.len
    clear h
    go_enter Try.func39, Try.ntmps39
    go_wp2
    go_loop [1, 5] (fun q i => i = .int .i64 0 ∧ q = .int .i64 k0) (fun q i => 0)
    case atStart => exact ⟨rfl, rfl⟩
    case round =>
      obtain ⟨rfl, rfl⟩ := hrel
      go_wp2
      go_ret
      exact ⟨rfl, Touch.refl_, by simpa [mkInts] using Hh.out⟩
  · have hlen := Lib.hid h.len
    have HC : Hid (∀ j, j < n → ∃ v, cs0[o + j]? = some v) := fun j hj => by
      obtain ⟨es, f, _, he, hc, _⟩ := hel j l[j]?.get! (by rw [List.getElem?_eq_getElem (by have := hlen.out; omega)]; rfl)
      match es, he with
      | [v], _ => exact ⟨v, by simpa using hc 0 v rfl⟩
    have HE : Hid (∀ (k : Nat) (x : Int), l[k]? = some x → fps[k]? = some []) := fun k x hx => by
      obtain ⟨es, f, hf, _, _, hr⟩ := hel k x hx
      rw [hf, hr.2]
    have HB0 := Lib.hid hB0
    have Hfl := Lib.hid hfl
    clear h hel hB0 hfl
    go_enter Try.func39, Try.ntmps39
    go_wp2
    go_loopw [1, 5] (fun q i wr => ∃ (k : Nat) (cs : Array Value), k ≤ n ∧ i = .int .i64 k ∧ q = .int .i64 (k0 + k) ∧ Blk wr g t cs ∧ cs.size = cs0.size ∧ (∀ j : Nat, j < k → cs[o + j]? = some (.int .i64 (k0 + j))) ∧ Touch (g :: fps.flatten) w wr) (fun _ i _ => n - (intOf i).toNat)
    case atStart => exact ⟨0, cs0, by omega, rfl, by simp, HB0.out, rfl, fun j hj => by omega, Touch.refl_⟩
    case round =>
      obtain ⟨k, cs, hk, rfl, rfl, hB, hsz, hcs, hX⟩ := hrel
      have HB := Lib.hid hB
      have HS := Lib.hid hcs
      have Hsz := Lib.hid hsz
      by_cases hlt : k < n
      · have hok : o + k < cs.size := by
          obtain ⟨v, hv⟩ := HC.out k hlt
          have := (Array.getElem?_eq_some_iff.1 hv).1
          have := Hsz.out
          omega
        obtain ⟨v0, hv0⟩ := hB.get (i := o + k) hok
        have hfz := hB.frozen (o + k)
        clear hB hcs hsz
        go_wp2
        go_roundw
        case rel =>
          refine ⟨k + 1, cs.setIfInBounds (o + k) (.int .i64 (k0 + k)), by omega, by go_num, by go_num, HB.out.set_ _ _, by have := Hsz.out; simpa using this, fun j hj => ?_, hX.set_ (by simp) _ _⟩
          by_cases e : j = k
          · subst e; exact set_eq _ hok
          · rw [set_ne _ (by omega)]; exact HS.out j (by omega)
        case measure => simp [intOf]; omega
      · have hkn : k = n := by omega
        clear hB hcs hsz
        go_wp2
        go_ret
        subst hkn
        refine ⟨rfl, hX, ⟨by rw [mkInts_len], Hh.out.cap, Hh.out.max, .inr ⟨g, o, t, cs, fps, rfl, HB.out, rfl, by rw [mkInts_len, Hfl.out, hlen.out], fun j x hx => ?_⟩⟩⟩
        obtain ⟨hj, rfl⟩ := mkInts_at hx
        refine ⟨[.int .i64 (k0 + j)], [], HE.out j l[j]?.get! (by rw [List.getElem?_eq_getElem (by have := hlen.out; omega)]; rfl), rfl, fun j' v hv => ?_, fun _ => ⟨rfl, by unfold I64; omega⟩, rfl⟩
        match j', hv with
        | 0, hv => simp at hv; subst hv; simpa using HS.out j hj
theorem laws_heldIntS {w0 w : World} {A : Option Addr} {n c : Nat} {m : Nat} {k0 : Int} (h : Ints w0 A n c (mkInts k0 m)) (hl : Later w0 w) (h0 : 0 ≤ k0) (h1 : k0 + m ≤ 4611686018427387904) :
    Calls Try.prog 40 #[.slice A n c, .int .i64 k0] w (Ret (.int .i64 (k0 + m)) w) := by
  replace h := h.later hl
  have hn := h.le
  obtain rfl : n = m := by rw [h.len, mkInts_len]
  go_enter Try.func40, Try.ntmps40
  go_wp2
  go_loopw [1, 5] (fun q i wr => ∃ (k : Nat), k ≤ n ∧ i = .int .i64 k ∧ q = .int .i64 (k0 + k) ∧ Later w wr) (fun _ i _ => n - (intOf i).toNat)
  case atStart => exact ⟨0, by omega, rfl, by simp, inferInstance⟩
  case round =>
    obtain ⟨k, hk, rfl, rfl, hX⟩ := hrel
    by_cases hlt : k < n
    · obtain ⟨b, o, x, rfl, hx, hc, hi⟩ := Ints.at_ h hlt
      obtain ⟨_, rfl⟩ := mkInts_at hx.out
      clear hx
      have hb : (k0 + (k : Int) != k0 + k) = false := by simp
      go_wp2
      go_roundw
      case rel => exact ⟨k + 1, by omega, by go_num, by go_num, inferInstance⟩
      case measure => simp [intOf]; omega
    · have hkn : k = n := by omega
      go_wp2
      go_ret
      subst hkn
      exact ⟨rfl, inferInstance⟩
end Go.Proofs.Ytaopadffabbjiaa
