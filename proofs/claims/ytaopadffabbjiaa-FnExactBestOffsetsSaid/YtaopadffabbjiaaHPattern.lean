/-
  Helpers of the statements on Pattern and slices of it. Printed by a program of ours (gen_flat.py).
-/
import Derived.Test.YtaopadffabbjiaaInts
import Derived.StillTailTactics
namespace Go.Proofs.Ytaopadffabbjiaa
open Go Go.RowKit
set_option linter.unusedVariables false
set_option maxRecDepth 100000
theorem laws_toPattern (t : Pattern) (w : World) : Calls Try.prog 81 #[.agg #[.int .i64 t.Line, .int .i64 t.Offset]] w (Ret (.agg #[.int .i64 t.Line, .int .i64 t.Offset]) w) := by
  go_enter Try.func81, Try.ntmps81
  go_wp2
  exact bodyPost_ret (by simp [results, Try.results81, go_sem]) rfl ⟨rfl, inferInstance⟩
theorem laws_eqPattern (a b : Pattern) (w : World) : Calls Try.prog 89 #[.agg #[.int .i64 a.Line, .int .i64 a.Offset], .agg #[.int .i64 b.Line, .int .i64 b.Offset]] w (Ret (.bool (decide (a = b))) w) := by
  go_enter Try.func89, Try.ntmps89
  go_wp2
  all_goals
    go_ret
    exact ⟨ret_bool (by cases a; cases b; simp_all), inferInstance⟩
theorem info_Pattern : (Try.prog.info? 122).map (fun i => (i.zero, i.size, i.bytes)) = some (some (.agg #[.int .i64 0, .int .i64 0]), 2, 16) := by kernel_rfl
theorem laws_toPatternS {w0 w : World} {A : Option Addr} {n c : Nat} {l : List Pattern} (h : Patterns w0 A n c l) (hl : Later w0 w) (hn : n ≤ 1048576) :
    Calls Try.prog 32 #[.slice A n c] w (RetO 2 (oFlat rPattern) l w) := by
  obtain ⟨C0, hC0, hmk⟩ := make_row (P := Try.prog) 71 122 Try.underlying71 info_Pattern n (by omega) (by omega)
  replace h := h.later hl
  go_enter Try.func32, Try.ntmps32
  go_wp2
  go_loopw [4] (fun i wr => ∃ (k : Nat) (cs : Array Value), k ≤ n ∧ i = .int .i64 k ∧ Blk wr w.heap.size 122 cs ∧ cs.size = n * 2 ∧ (∀ (j : Nat) (x : Pattern), j < k → l[j]? = some x → (cs[j * 2]? = some (.int .i64 x.Line) ∧ cs[j * 2 + 1]? = some (.int .i64 x.Offset)) ∧ PatternOk x) ∧ Later w wr) (fun i _ => n - (intOf i).toNat)
  case atStart => exact ⟨0, C0, by omega, rfl, Blk.new _ _ _, by omega, fun j x hj => by omega, inferInstance⟩
  case round =>
    obtain ⟨k, cs, hk, rfl, hB, hsz, hcs, hX⟩ := hrel
    have HB := Lib.hid hB
    have HS := Lib.hid hcs
    have Hsz := Lib.hid hsz
    by_cases hlt : k < n
    · obtain ⟨b, o, x, rfl, hx, hc0, hc1, hi⟩ := Patterns.at_ h hlt
      clear hB hcs hsz
      have Hi := Lib.hid hi
      clear hi
      go_wp2_with fail
      refine (laws_toPattern _ _).mono ?_
      rintro e w1 ⟨rfl, hL⟩
      have hY : Later w w1 := hX.trans hL
      have HB1 := Lib.hid (HB.out.later hL)
      obtain ⟨v0, hv0⟩ := HB1.out.get (i := k * 2) (by have := Hsz.out; omega)
      obtain ⟨v1, hv1⟩ := HB1.out.get (i := k * 2 + 1) (by have := Hsz.out; omega)
      have hf0 := HB1.out.frozen (k * 2)
      have hf1 := HB1.out.frozen (k * 2 + 1)
      go_wp2
      go_roundw
      case rel =>
        refine ⟨k + 1, ((cs.setIfInBounds (k * 2) (.int .i64 x.Line)).setIfInBounds (k * 2 + 1) (.int .i64 x.Offset)), by omega, by go_num, ((HB1.out.set_ _ _).set_ _ _), by have := Hsz.out; simpa using this, fun j y hj hy => ?_, inferInstance⟩
        by_cases e : j = k
        · subst e
          obtain rfl := Option.some.inj (hx.out.symm.trans hy)
          have hs := Hsz.out
          exact ⟨⟨by rw [set_ne _ (by omega), set_eq _ (by (try simp only [Array.size_setIfInBounds]); omega)], by rw [set_eq _ (by (try simp only [Array.size_setIfInBounds]); omega)]⟩, Hi.out⟩
        · have h3 := HS.out j y (by omega) hy
          exact ⟨⟨by rw [set_ne _ (by omega), set_ne _ (by omega)]; exact h3.1.1, by rw [set_ne _ (by omega), set_ne _ (by omega)]; exact h3.1.2⟩, h3.2⟩
      case measure => simp [intOf]; omega
    · clear hB hcs hsz
      go_wp2
      go_ret
      obtain ⟨fp, ho, hfp⟩ := OSl.of_blk (sz := 2) (r := rPattern) (l := l) (n := n) (c := n) HB.out h.len (Nat.le_refl _) (by omega) (fun j x hx => by
        obtain ⟨h1, h2⟩ := HS.out j x (by have := (List.getElem?_eq_some_iff.1 hx).1; have := h.len; omega) hx
        exact ⟨[.int .i64 x.Line, .int .i64 x.Offset], rfl, fun j' v hv => by
          match j', hv with
          | 0, hv => simp at hv; subst hv; exact h1.1
          | 1, hv => simp at hv; subst hv; exact h1.2
          , fun _ => ⟨rfl, h2⟩⟩)
      subst hfp
      exact ⟨_, _, _, _, rfl, ho, by simp, by simp, inferInstance⟩
theorem laws_szPatternS {w0 w : World} {A : Option Addr} {n c : Nat} {l : List Pattern} {left : Int} (h : Patterns w0 A n c l) (h0 : 0 ≤ left) (h1 : left ≤ 1048576) :
    Calls Try.prog 29 #[.slice A n c, .int .i64 left] w (RetSz l.length left w) := by
  have hn := h.le
  have hl := Lib.hid h.len
  clear h
  go_enter Try.func29, Try.ntmps29
  go_wp2
  · go_ret
    exact ⟨_, rfl, .inl (by omega), inferInstance⟩
  · go_ret
    exact ⟨_, rfl, .inr ⟨by have := hl.out; omega, by rw [← hl.out]; simp⟩, inferInstance⟩
theorem laws_eqPatternS {w0 w1 w : World} {A B : Option Addr} {n c m d : Nat} {l r : List Pattern} (h : Patterns w0 A n c l) (hl : Later w0 w) (h1 : Patterns w1 B m d r) (hl1 : Later w1 w) :
    Calls Try.prog 36 #[.slice A n c, .slice B m d] w (Ret (.bool (decide (l = r))) w) := by
  replace h := h.later hl
  replace h1 := h1.later hl1
  have hn := h.le
  have hm := h1.le
  by_cases hnm : n = m
  · subst hnm
    have hcont : ((n : Int) != n) = false := by simp
    go_enter Try.func36, Try.ntmps36
    go_wp2
    go_loopw [5] (fun i wr => ∃ k : Nat, k ≤ n ∧ i = .int .i64 k ∧ Hid (l.drop k = r.drop k ↔ l = r) ∧ Later w wr) (fun i _ => n - (intOf i).toNat)
    case atStart => exact ⟨0, by omega, rfl, Iff.rfl, inferInstance⟩
    case round =>
      obtain ⟨k, hk, rfl, HF, hX⟩ := hrel
      by_cases hlt : k < n
      · obtain ⟨b, o, x, rfl, hx, hc0, hc1, hi⟩ := Patterns.at_ h hlt
        obtain ⟨b', o', y, rfl, hy, hc0', hc1', hi'⟩ := Patterns.at_ h1 hlt
        have hd := drop_at hx.out
        have hd' := drop_at hy.out
        clear hi hi'
        by_cases hxy : x = y
        · have HF2 : Hid (l.drop (k + 1) = r.drop (k + 1) ↔ l = r) := by rw [← HF.out, hd, hd', hxy]; show _ ↔ _; simp
          have hb : decide (x = y) = true := by simpa using hxy
          clear hxy hd hd'
          go_wp2_with fail
          go_still_tail 8, (by kernel_rfl)
          change wpList _ _ _ _ _ wr.drew
          go_wp2_with fail
          refine (laws_eqPattern _ _ _).mono ?_
          rintro e w2 ⟨rfl, hL⟩
          have hY := Later.trans (w := w) inferInstance hL
          go_wp2
          go_roundw
          case rel => exact ⟨k + 1, by omega, by go_num, HF2, inferInstance⟩
          case measure => simp [intOf]; omega
        · have HF2 : Hid (l ≠ r) := by rw [hd, hd'] at HF; intro e; have := HF.out.2 e; simp at this; exact hxy this.1
          have hb : decide (x = y) = false := by simpa using hxy
          clear hxy hd hd'
          go_wp2_with fail
          go_still_tail 8, (by kernel_rfl)
          change wpList _ _ _ _ _ wr.drew
          go_wp2_with fail
          refine (laws_eqPattern _ _ _).mono ?_
          rintro e w2 ⟨rfl, hL⟩
          have hY := Later.trans (w := w) inferInstance hL
          go_wp2
          go_ret
          exact ⟨ret_bool (by rw [decide_eq_false HF2.out]), inferInstance⟩
      · have H2 : Hid (l = r) := by
          rw [List.drop_eq_nil_of_le (by have := h.len; omega), List.drop_eq_nil_of_le (by have := h1.len; omega)] at HF
          exact HF.out.1 rfl
        go_wp2
        go_ret
        exact ⟨ret_bool (by rw [decide_eq_true H2.out]), inferInstance⟩
  · have H2 : Hid (l ≠ r) := by intro e; apply hnm; rw [h.len, h1.len, e]
    have hb : ((n : Int) != m) = true := by rw [bne_iff_ne]; omega
    clear hnm
    go_enter Try.func36, Try.ntmps36
    go_wp2
    go_ret
    exact ⟨ret_bool (by rw [decide_eq_false H2.out]), inferInstance⟩
def mkPatterns (k : Int) (n : Nat) : List Pattern := (List.range n).map fun (i : Nat) => ⟨k + 2 * (i : Int), k + 2 * (i : Int) + 1⟩
theorem mkPatterns_len (k : Int) (n : Nat) : (mkPatterns k n).length = n := by simp [mkPatterns]
theorem mkPatterns_at {k : Int} {n j : Nat} {x : Pattern} (h : (mkPatterns k n)[j]? = some x) : j < n ∧ x = ⟨k + 2 * (j : Int), k + 2 * (j : Int) + 1⟩ := by
  unfold mkPatterns at h
  rw [List.getElem?_map] at h
  by_cases hj : j < n
  · rw [List.getElem?_range hj] at h; simp only [Option.map_some, Option.some.injEq] at h; exact ⟨hj, h.symm⟩
  · rw [List.getElem?_eq_none (by simpa using hj)] at h; simp at h
theorem laws_markPatternS {w : World} {A : Option Addr} {n c : Nat} {l : List Pattern} {fp : List Nat} {k0 : Int} (h : OSl 2 (oFlat rPattern) w A n c l fp) (h0 : 0 ≤ k0) (h1 : k0 + 2 * n ≤ 4611686018427387904) :
    Calls Try.prog 38 #[.slice A n c, .int .i64 k0] w (RetMk (k0 + 2 * n) fp (fun w' => OSl 2 (oFlat rPattern) w' A n c (mkPatterns k0 n) fp) w) := by
  have hn : n ≤ 9223372036854775807 := Nat.le_trans h.cap h.max
  have Hh := Lib.hid h
  rcases h.own with ⟨rfl, rfl⟩ | ⟨g, o, t, cs0, fps, rfl, hB0, rfl, hfl, hel⟩
  · obtain rfl : n = 0 := Hh.out.len
    clear h
    go_enter Try.func38, Try.ntmps38
    go_wp2
    go_loop [1, 5] (fun q i => i = .int .i64 0 ∧ q = .int .i64 k0) (fun q i => 0)
    case atStart => exact ⟨rfl, rfl⟩
    case round =>
      obtain ⟨rfl, rfl⟩ := hrel
      go_wp2
      go_ret
      exact ⟨ret_int (by simp), Touch.refl_, by simpa [mkPatterns] using Hh.out⟩
  · have hlen := Lib.hid h.len
    have HC : Hid (∀ j t, j < n → t < 2 → ∃ v, cs0[o + j * 2 + t]? = some v) := fun j t hj ht => by
      obtain ⟨es, f, _, he, hc, _⟩ := hel j l[j]?.get! (by rw [List.getElem?_eq_getElem (by have := hlen.out; omega)]; rfl)
      exact ⟨es[t], hc t _ (List.getElem?_eq_getElem (by omega))⟩
    have HE : Hid (∀ (k : Nat) (x : Pattern), l[k]? = some x → fps[k]? = some []) := fun k x hx => by
      obtain ⟨es, f, hf, _, _, hr⟩ := hel k x hx
      rw [hf, hr.2]
    have HB0 := Lib.hid hB0
    have Hfl := Lib.hid hfl
    clear h hel hB0 hfl
    go_enter Try.func38, Try.ntmps38
    go_wp2
    go_loopw [1, 5] (fun q i wr => ∃ (k : Nat) (cs : Array Value), k ≤ n ∧ i = .int .i64 k ∧ q = .int .i64 (k0 + 2 * k) ∧ Blk wr g t cs ∧ cs.size = cs0.size ∧ (∀ j : Nat, j < k → cs[o + j * 2]? = some (.int .i64 (k0 + 2 * (j : Int))) ∧ cs[o + j * 2 + 1]? = some (.int .i64 (k0 + 2 * (j : Int) + 1))) ∧ Touch (g :: fps.flatten) w wr) (fun _ i _ => n - (intOf i).toNat)
    case atStart => exact ⟨0, cs0, by omega, rfl, by simp, HB0.out, rfl, fun j hj => by omega, Touch.refl_⟩
    case round =>
      obtain ⟨k, cs, hk, rfl, rfl, hB, hsz, hcs, hX⟩ := hrel
      have HB := Lib.hid hB
      have HS := Lib.hid hcs
      have Hsz := Lib.hid hsz
      by_cases hlt : k < n
      · have hok : o + k * 2 + 1 < cs.size := by
          obtain ⟨v, hv⟩ := HC.out k 1 hlt (by omega)
          have := (Array.getElem?_eq_some_iff.1 hv).1
          have := Hsz.out
          omega
        obtain ⟨v0, hv0⟩ := hB.get (i := o + k * 2) (by omega)
        obtain ⟨v1, hv1⟩ := hB.get (i := o + k * 2 + 1) (by omega)
        have hf0 := hB.frozen (o + k * 2)
        have hf1 := hB.frozen (o + k * 2 + 1)
        clear hB hcs hsz
        go_wp2
        go_roundw
        case rel =>
          refine ⟨k + 1, ((cs.setIfInBounds (o + k * 2) (.int .i64 (k0 + 2 * k))).setIfInBounds (o + k * 2 + 1) (.int .i64 (k0 + 2 * k + 1))), by omega, by go_num, by go_num, ?_, by have := Hsz.out; simpa using this, fun j hj => ?_, ?_⟩
          · exact ((HB.out.set_ _ _).set_ _ _)
          · by_cases e : j = k
            · subst e
              exact ⟨by rw [set_ne _ (by omega), set_eq _ (by (try simp only [Array.size_setIfInBounds]); omega)], by rw [set_eq _ (by (try simp only [Array.size_setIfInBounds]); omega)]⟩
            · have h3 := HS.out j (by omega)
              exact ⟨by rw [set_ne _ (by omega), set_ne _ (by omega)]; exact h3.1, by rw [set_ne _ (by omega), set_ne _ (by omega)]; exact h3.2⟩
          · exact ((hX.set_ (by simp) _ _).set_ (by simp) _ _)
        case measure => simp [intOf]; omega
      · have hkn : k = n := by omega
        clear hB hcs hsz
        go_wp2
        go_ret
        subst hkn
        refine ⟨rfl, hX, ⟨by rw [mkPatterns_len], Hh.out.cap, Hh.out.max, .inr ⟨g, o, t, cs, fps, rfl, HB.out, rfl, by rw [mkPatterns_len, Hfl.out, hlen.out], fun j x hx => ?_⟩⟩⟩
        obtain ⟨hj, rfl⟩ := mkPatterns_at hx
        have h3 := HS.out j hj
        refine ⟨[.int .i64 (k0 + 2 * (j : Int)), .int .i64 (k0 + 2 * (j : Int) + 1)], [], HE.out j l[j]?.get! (by rw [List.getElem?_eq_getElem (by have := hlen.out; omega)]; rfl), rfl, fun j' v hv => ?_, fun _ => ⟨rfl, ⟨by unfold I64; simp only; omega, by unfold I64; simp only; omega⟩⟩, rfl⟩
        match j', hv with
        | 0, hv => simp at hv; subst hv; simpa [Nat.add_assoc] using h3.1
        | 1, hv => simp at hv; subst hv; simpa [Nat.add_assoc] using h3.2
end Go.Proofs.Ytaopadffabbjiaa
