/-
  Helpers of the statements on Span and slices of it. Printed by a program of ours (gen_flat.py).
-/
import Derived.Test.YtbkeccpjcmhhjaaInts
import Derived.StillTailTactics
namespace Go.Proofs.Ytbkeccpjcmhhjaa
open Go Go.RowKit
set_option linter.unusedVariables false
set_option maxRecDepth 100000
theorem laws_toSpan (t : Span) (w : World) : Calls Try.prog 191 #[.agg #[.int .i64 t.From, .int .i64 t.To]] w (Ret (.agg #[.int .i64 t.From, .int .i64 t.To]) w) := by
  go_enter Try.func191, Try.ntmps191
  go_wp2
  exact bodyPost_ret (by simp [results, Try.results191, go_sem]) rfl ⟨rfl, inferInstance⟩
theorem laws_eqSpan (a b : Span) (w : World) : Calls Try.prog 194 #[.agg #[.int .i64 a.From, .int .i64 a.To], .agg #[.int .i64 b.From, .int .i64 b.To]] w (Ret (.bool (decide (a = b))) w) := by
  go_enter Try.func194, Try.ntmps194
  go_wp2
  all_goals
    go_ret
    exact ⟨ret_bool (by cases a; cases b; simp_all), inferInstance⟩
theorem info_Span : (Try.prog.info? 224).map (fun i => (i.zero, i.size, i.bytes)) = some (some (.agg #[.int .i64 0, .int .i64 0]), 2, 16) := by kernel_rfl
theorem laws_toSpanS {w0 w : World} {A : Option Addr} {n c : Nat} {l : List Span} (h : Spans w0 A n c l) (hl : Later w0 w) (hn : n ≤ 1048576) :
    Calls Try.prog 95 #[.slice A n c] w (RetO 2 (oFlat rSpan) l w) := by
  obtain ⟨C0, hC0, hmk⟩ := make_row (P := Try.prog) 29 224 Try.underlying29 info_Span n (by omega) (by omega)
  replace h := h.later hl
  go_enter Try.func95, Try.ntmps95
  go_wp2
  go_loopw [4] (fun i wr => ∃ (k : Nat) (cs : Array Value), k ≤ n ∧ i = .int .i64 k ∧ Blk wr w.heap.size 224 cs ∧ cs.size = n * 2 ∧ (∀ (j : Nat) (x : Span), j < k → l[j]? = some x → (cs[j * 2]? = some (.int .i64 x.From) ∧ cs[j * 2 + 1]? = some (.int .i64 x.To)) ∧ SpanOk x) ∧ Later w wr) (fun i _ => n - (intOf i).toNat)
  case atStart => exact ⟨0, C0, by omega, rfl, Blk.new _ _ _, by omega, fun j x hj => by omega, inferInstance⟩
  case round =>
    obtain ⟨k, cs, hk, rfl, hB, hsz, hcs, hX⟩ := hrel
    have HB := Lib.hid hB
    have HS := Lib.hid hcs
    have Hsz := Lib.hid hsz
    by_cases hlt : k < n
    · obtain ⟨b, o, x, rfl, hx, hc0, hc1, hi⟩ := Spans.at_ h hlt
      clear hB hcs hsz
      have Hi := Lib.hid hi
      clear hi
      go_wp2_with fail
      refine (laws_toSpan _ _).mono ?_
      rintro e w1 ⟨rfl, hL⟩
      have hY : Later w w1 := hX.trans hL
      have HB1 := Lib.hid (HB.out.later hL)
      obtain ⟨v0, hv0⟩ := HB1.out.get (i := k * 2) (by have := Hsz.out; omega)
      obtain ⟨v1, hv1⟩ := HB1.out.get (i := k * 2 + 1) (by have := Hsz.out; omega)
      have hf0 := HB1.out.frozen (k * 2)
      have hf1 := HB1.out.frozen (k * 2 + 1)
      go_wp2
      go_roundw
      case rel =>
        refine ⟨k + 1, ((cs.setIfInBounds (k * 2) (.int .i64 x.From)).setIfInBounds (k * 2 + 1) (.int .i64 x.To)), by omega, by go_num, ((HB1.out.set_ _ _).set_ _ _), by have := Hsz.out; simpa using this, fun j y hj hy => ?_, inferInstance⟩
        by_cases e : j = k
        · subst e
          obtain rfl := Option.some.inj (hx.out.symm.trans hy)
          have hs := Hsz.out
          exact ⟨⟨by rw [set_ne _ (by omega), set_eq _ (by (try simp only [Array.size_setIfInBounds]); omega)], by rw [set_eq _ (by (try simp only [Array.size_setIfInBounds]); omega)]⟩, Hi.out⟩
        · have h3 := HS.out j y (by omega) hy
          exact ⟨⟨by rw [set_ne _ (by omega), set_ne _ (by omega)]; exact h3.1.1, by rw [set_ne _ (by omega), set_ne _ (by omega)]; exact h3.1.2⟩, h3.2⟩
      case measure => simp [intOf]; omega
    · clear hB hcs hsz
      go_wp2
      go_ret
      obtain ⟨fp, ho, hfp⟩ := OSl.of_blk (sz := 2) (r := rSpan) (l := l) (n := n) (c := n) HB.out h.len (Nat.le_refl _) (by omega) (fun j x hx => by
        obtain ⟨h1, h2⟩ := HS.out j x (by have := (List.getElem?_eq_some_iff.1 hx).1; have := h.len; omega) hx
        exact ⟨[.int .i64 x.From, .int .i64 x.To], rfl, fun j' v hv => by
          match j', hv with
          | 0, hv => simp at hv; subst hv; exact h1.1
          | 1, hv => simp at hv; subst hv; exact h1.2
          , fun _ => ⟨rfl, h2⟩⟩)
      subst hfp
      exact ⟨_, _, _, _, rfl, ho, by simp, by simp, inferInstance⟩
theorem laws_szSpanS {w0 w : World} {A : Option Addr} {n c : Nat} {l : List Span} {left : Int} (h : Spans w0 A n c l) (h0 : 0 ≤ left) (h1 : left ≤ 1048576) :
    Calls Try.prog 91 #[.slice A n c, .int .i64 left] w (RetSz l.length left w) := by
  have hn := h.le
  have hl := Lib.hid h.len
  clear h
  go_enter Try.func91, Try.ntmps91
  go_wp2
  · go_ret
    exact ⟨_, rfl, .inl (by omega), inferInstance⟩
  · go_ret
    exact ⟨_, rfl, .inr ⟨by have := hl.out; omega, by rw [← hl.out]; simp⟩, inferInstance⟩
theorem laws_eqSpanS {w0 w1 w : World} {A B : Option Addr} {n c m d : Nat} {l r : List Span} (h : Spans w0 A n c l) (hl : Later w0 w) (h1 : Spans w1 B m d r) (hl1 : Later w1 w) :
    Calls Try.prog 101 #[.slice A n c, .slice B m d] w (Ret (.bool (decide (l = r))) w) := by
  replace h := h.later hl
  replace h1 := h1.later hl1
  have hn := h.le
  have hm := h1.le
  by_cases hnm : n = m
  · subst hnm
    have hcont : ((n : Int) != n) = false := by simp
    go_enter Try.func101, Try.ntmps101
    go_wp2
    go_loopw [5] (fun i wr => ∃ k : Nat, k ≤ n ∧ i = .int .i64 k ∧ Hid (l.drop k = r.drop k ↔ l = r) ∧ Later w wr) (fun i _ => n - (intOf i).toNat)
    case atStart => exact ⟨0, by omega, rfl, Iff.rfl, inferInstance⟩
    case round =>
      obtain ⟨k, hk, rfl, HF, hX⟩ := hrel
      by_cases hlt : k < n
      · obtain ⟨b, o, x, rfl, hx, hc0, hc1, hi⟩ := Spans.at_ h hlt
        obtain ⟨b', o', y, rfl, hy, hc0', hc1', hi'⟩ := Spans.at_ h1 hlt
        have hd := drop_at hx.out
        have hd' := drop_at hy.out
        clear hi hi'
        by_cases hxy : x = y
        · have HF2 : Hid (l.drop (k + 1) = r.drop (k + 1) ↔ l = r) := by rw [← HF.out, hd, hd', hxy]; show _ ↔ _; simp
          have hb : decide (x = y) = true := by simpa using hxy
          clear hxy hd hd'
          go_wp2_with fail
          go_still_tail 8, (by kernel_rfl)
          change wpList _ _ _ _ _ wr.drew
          go_wp2_with fail
          refine (laws_eqSpan _ _ _).mono ?_
          rintro e w2 ⟨rfl, hL⟩
          have hY := Later.trans (w := w) inferInstance hL
          go_wp2
          go_roundw
          case rel => exact ⟨k + 1, by omega, by go_num, HF2, inferInstance⟩
          case measure => simp [intOf]; omega
        · have HF2 : Hid (l ≠ r) := by rw [hd, hd'] at HF; intro e; have := HF.out.2 e; simp at this; exact hxy this.1
          have hb : decide (x = y) = false := by simpa using hxy
          clear hxy hd hd'
          go_wp2_with fail
          go_still_tail 8, (by kernel_rfl)
          change wpList _ _ _ _ _ wr.drew
          go_wp2_with fail
          refine (laws_eqSpan _ _ _).mono ?_
          rintro e w2 ⟨rfl, hL⟩
          have hY := Later.trans (w := w) inferInstance hL
          go_wp2
          go_ret
          exact ⟨ret_bool (by rw [decide_eq_false HF2.out]), inferInstance⟩
      · have H2 : Hid (l = r) := by
          rw [List.drop_eq_nil_of_le (by have := h.len; omega), List.drop_eq_nil_of_le (by have := h1.len; omega)] at HF
          exact HF.out.1 rfl
        go_wp2
        go_ret
        exact ⟨ret_bool (by rw [decide_eq_true H2.out]), inferInstance⟩
  · have H2 : Hid (l ≠ r) := by intro e; apply hnm; rw [h.len, h1.len, e]
    have hb : ((n : Int) != m) = true := by rw [bne_iff_ne]; omega
    clear hnm
    go_enter Try.func101, Try.ntmps101
    go_wp2
    go_ret
    exact ⟨ret_bool (by rw [decide_eq_false H2.out]), inferInstance⟩
def mkSpans (k : Int) (n : Nat) : List Span := (List.range n).map fun (i : Nat) => ⟨k + 2 * (i : Int), k + 2 * (i : Int) + 1⟩
theorem mkSpans_len (k : Int) (n : Nat) : (mkSpans k n).length = n := by simp [mkSpans]
theorem mkSpans_at {k : Int} {n j : Nat} {x : Span} (h : (mkSpans k n)[j]? = some x) : j < n ∧ x = ⟨k + 2 * (j : Int), k + 2 * (j : Int) + 1⟩ := by
  unfold mkSpans at h
  rw [List.getElem?_map] at h
  by_cases hj : j < n
  · rw [List.getElem?_range hj] at h; simp only [Option.map_some, Option.some.injEq] at h; exact ⟨hj, h.symm⟩
  · rw [List.getElem?_eq_none (by simpa using hj)] at h; simp at h
theorem laws_markSpanS {w : World} {A : Option Addr} {n c : Nat} {l : List Span} {fp : List Nat} {k0 : Int} (h : OSl 2 (oFlat rSpan) w A n c l fp) (h0 : 0 ≤ k0) (h1 : k0 + 2 * n ≤ 4611686018427387904) :
    Calls Try.prog 103 #[.slice A n c, .int .i64 k0] w (RetMk (k0 + 2 * n) fp (fun w' => OSl 2 (oFlat rSpan) w' A n c (mkSpans k0 n) fp) w) := by
  have hn : n ≤ 9223372036854775807 := Nat.le_trans h.cap h.max
  have Hh := Lib.hid h
  rcases h.own with ⟨rfl, rfl⟩ | ⟨g, o, t, cs0, fps, rfl, hB0, rfl, hfl, hel⟩
  · obtain rfl : n = 0 := Hh.out.len
    clear h
    go_enter Try.func103, Try.ntmps103
    go_wp2
    go_loop [1, 5] (fun q i => i = .int .i64 0 ∧ q = .int .i64 k0) (fun q i => 0)
    case atStart => exact ⟨rfl, rfl⟩
    case round =>
      obtain ⟨rfl, rfl⟩ := hrel
      go_wp2
      go_ret
      exact ⟨ret_int (by simp), Touch.refl_, by simpa [mkSpans] using Hh.out⟩
  · have hlen := Lib.hid h.len
    have HC : Hid (∀ j t, j < n → t < 2 → ∃ v, cs0[o + j * 2 + t]? = some v) := fun j t hj ht => by
      obtain ⟨es, f, _, he, hc, _⟩ := hel j l[j]?.get! (by rw [List.getElem?_eq_getElem (by have := hlen.out; omega)]; rfl)
      exact ⟨es[t], hc t _ (List.getElem?_eq_getElem (by omega))⟩
    have HE : Hid (∀ (k : Nat) (x : Span), l[k]? = some x → fps[k]? = some []) := fun k x hx => by
      obtain ⟨es, f, hf, _, _, hr⟩ := hel k x hx
      rw [hf, hr.2]
    have HB0 := Lib.hid hB0
    have Hfl := Lib.hid hfl
    clear h hel hB0 hfl
    go_enter Try.func103, Try.ntmps103
    go_wp2
    go_loopw [1, 5] (fun q i wr => ∃ (k : Nat) (cs : Array Value), k ≤ n ∧ i = .int .i64 k ∧ q = .int .i64 (k0 + 2 * k) ∧ Blk wr g t cs ∧ cs.size = cs0.size ∧ (∀ j : Nat, j < k → cs[o + j * 2]? = some (.int .i64 (k0 + 2 * (j : Int))) ∧ cs[o + j * 2 + 1]? = some (.int .i64 (k0 + 2 * (j : Int) + 1))) ∧ Touch (g :: fps.flatten) w wr) (fun _ i _ => n - (intOf i).toNat)
    case atStart => exact ⟨0, cs0, by omega, rfl, by simp, HB0.out, rfl, fun j hj => by omega, Touch.refl_⟩
    case round =>
      obtain ⟨k, cs, hk, rfl, rfl, hB, hsz, hcs, hX⟩ := hrel
      have HB := Lib.hid hB
      have HS := Lib.hid hcs
      have Hsz := Lib.hid hsz
      by_cases hlt : k < n
      · have hok : o + k * 2 + 1 < cs.size := by
          obtain ⟨v, hv⟩ := HC.out k 1 hlt (by omega)
          have := (Array.getElem?_eq_some_iff.1 hv).1
          have := Hsz.out
          omega
        obtain ⟨v0, hv0⟩ := hB.get (i := o + k * 2) (by omega)
        obtain ⟨v1, hv1⟩ := hB.get (i := o + k * 2 + 1) (by omega)
        have hf0 := hB.frozen (o + k * 2)
        have hf1 := hB.frozen (o + k * 2 + 1)
        clear hB hcs hsz
        go_wp2
        go_roundw
        case rel =>
          refine ⟨k + 1, ((cs.setIfInBounds (o + k * 2) (.int .i64 (k0 + 2 * k))).setIfInBounds (o + k * 2 + 1) (.int .i64 (k0 + 2 * k + 1))), by omega, by go_num, by go_num, ?_, by have := Hsz.out; simpa using this, fun j hj => ?_, ?_⟩
          · exact ((HB.out.set_ _ _).set_ _ _)
          · by_cases e : j = k
            · subst e
              exact ⟨by rw [set_ne _ (by omega), set_eq _ (by (try simp only [Array.size_setIfInBounds]); omega)], by rw [set_eq _ (by (try simp only [Array.size_setIfInBounds]); omega)]⟩
            · have h3 := HS.out j (by omega)
              exact ⟨by rw [set_ne _ (by omega), set_ne _ (by omega)]; exact h3.1, by rw [set_ne _ (by omega), set_ne _ (by omega)]; exact h3.2⟩
          · exact ((hX.set_ (by simp) _ _).set_ (by simp) _ _)
        case measure => simp [intOf]; omega
      · have hkn : k = n := by omega
        clear hB hcs hsz
        go_wp2
        go_ret
        subst hkn
        refine ⟨rfl, hX, ⟨by rw [mkSpans_len], Hh.out.cap, Hh.out.max, .inr ⟨g, o, t, cs, fps, rfl, HB.out, rfl, by rw [mkSpans_len, Hfl.out, hlen.out], fun j x hx => ?_⟩⟩⟩
        obtain ⟨hj, rfl⟩ := mkSpans_at hx
        have h3 := HS.out j hj
        refine ⟨[.int .i64 (k0 + 2 * (j : Int)), .int .i64 (k0 + 2 * (j : Int) + 1)], [], HE.out j l[j]?.get! (by rw [List.getElem?_eq_getElem (by have := hlen.out; omega)]; rfl), rfl, fun j' v hv => ?_, fun _ => ⟨rfl, ⟨by unfold I64; simp only; omega, by unfold I64; simp only; omega⟩⟩, rfl⟩
        match j', hv with
        | 0, hv => simp at hv; subst hv; simpa [Nat.add_assoc] using h3.1
        | 1, hv => simp at hv; subst hv; simpa [Nat.add_assoc] using h3.2
theorem laws_heldSpanS {w0 w : World} {A : Option Addr} {n c : Nat} {m : Nat} {k0 : Int} (h : Spans w0 A n c (mkSpans k0 m)) (hl : Later w0 w) (h0 : 0 ≤ k0) (h1 : k0 + 2 * m ≤ 4611686018427387904) :
    Calls Try.prog 104 #[.slice A n c, .int .i64 k0] w (Ret (.int .i64 (k0 + 2 * m)) w) := by
  replace h := h.later hl
  have hn := h.le
  obtain rfl : n = m := by rw [h.len, mkSpans_len]
  go_enter Try.func104, Try.ntmps104
  go_wp2
  go_loopw [1, 5] (fun q i wr => ∃ (k : Nat), k ≤ n ∧ i = .int .i64 k ∧ q = .int .i64 (k0 + 2 * k) ∧ Later w wr) (fun _ i _ => n - (intOf i).toNat)
  case atStart => exact ⟨0, by omega, rfl, by simp, inferInstance⟩
  case round =>
    obtain ⟨k, hk, rfl, rfl, hX⟩ := hrel
    by_cases hlt : k < n
    · obtain ⟨b, o, x, rfl, hx, hc0, hc1, hi⟩ := Spans.at_ h hlt
      obtain ⟨_, rfl⟩ := mkSpans_at hx.out
      clear hx hi
      have hb0 : ∀ a : Int, (a != a) = false := by simp
      go_wp2
      go_roundw
      case rel => exact ⟨k + 1, by omega, by go_num, by go_num, inferInstance⟩
      case measure => simp [intOf]; omega
    · have hkn : k = n := by omega
      go_wp2
      go_ret
      subst hkn
      exact ⟨rfl, inferInstance⟩
end Go.Proofs.Ytbkeccpjcmhhjaa
