/-
  Helpers of the statements on Walk and slices of it. Printed by a program of ours (gen_flat.py).
-/
import Derived.Test.YtaopadffabbjiaaInts
import Derived.StillTailTactics
namespace Go.Proofs.Ytaopadffabbjiaa
open Go Go.RowKit
set_option linter.unusedVariables false
set_option maxRecDepth 100000
theorem laws_toWalk (t : Walk) (w : World) : Calls Try.prog 60 #[.agg #[.int .i64 t.A, .int .i64 t.B, .int .i64 t.Minutes]] w (Ret (.agg #[.int .i64 t.A, .int .i64 t.B, .int .i64 t.Minutes]) w) := by
  go_enter Try.func60, Try.ntmps60
  go_wp2
  exact bodyPost_ret (by simp [results, Try.results60, go_sem]) rfl ⟨rfl, inferInstance⟩
theorem laws_eqWalk (a b : Walk) (w : World) : Calls Try.prog 72 #[.agg #[.int .i64 a.A, .int .i64 a.B, .int .i64 a.Minutes], .agg #[.int .i64 b.A, .int .i64 b.B, .int .i64 b.Minutes]] w (Ret (.bool (decide (a = b))) w) := by
  go_enter Try.func72, Try.ntmps72
  go_wp2
  all_goals
    go_ret
    exact ⟨ret_bool (by cases a; cases b; simp_all), inferInstance⟩
theorem info_Walk : (Try.prog.info? 103).map (fun i => (i.zero, i.size, i.bytes)) = some (some (.agg #[.int .i64 0, .int .i64 0, .int .i64 0]), 3, 24) := by kernel_rfl
theorem laws_toWalkS {w0 w : World} {A : Option Addr} {n c : Nat} {l : List Walk} (h : Walks w0 A n c l) (hl : Later w0 w) (hn : n ≤ 1048576) :
    Calls Try.prog 21 #[.slice A n c] w (RetO 3 (oFlat rWalk) l w) := by
  obtain ⟨C0, hC0, hmk⟩ := make_row (P := Try.prog) 57 103 Try.underlying57 info_Walk n (by omega) (by omega)
  replace h := h.later hl
  go_enter Try.func21, Try.ntmps21
  go_wp2
  go_loopw [4] (fun i wr => ∃ (k : Nat) (cs : Array Value), k ≤ n ∧ i = .int .i64 k ∧ Blk wr w.heap.size 103 cs ∧ cs.size = n * 3 ∧ (∀ (j : Nat) (x : Walk), j < k → l[j]? = some x → (cs[j * 3]? = some (.int .i64 x.A) ∧ cs[j * 3 + 1]? = some (.int .i64 x.B) ∧ cs[j * 3 + 2]? = some (.int .i64 x.Minutes)) ∧ WalkOk x) ∧ Later w wr) (fun i _ => n - (intOf i).toNat)
  case atStart => exact ⟨0, C0, by omega, rfl, Blk.new _ _ _, by omega, fun j x hj => by omega, inferInstance⟩
  case round =>
    obtain ⟨k, cs, hk, rfl, hB, hsz, hcs, hX⟩ := hrel
    have HB := Lib.hid hB
    have HS := Lib.hid hcs
    have Hsz := Lib.hid hsz
    by_cases hlt : k < n
    · obtain ⟨b, o, x, rfl, hx, hc0, hc1, hc2, hi⟩ := Walks.at_ h hlt
      clear hB hcs hsz
      have Hi := Lib.hid hi
      clear hi
      go_wp2_with fail
      refine (laws_toWalk _ _).mono ?_
      rintro e w1 ⟨rfl, hL⟩
      have hY : Later w w1 := hX.trans hL
      have HB1 := Lib.hid (HB.out.later hL)
      obtain ⟨v0, hv0⟩ := HB1.out.get (i := k * 3) (by have := Hsz.out; omega)
      obtain ⟨v1, hv1⟩ := HB1.out.get (i := k * 3 + 1) (by have := Hsz.out; omega)
      obtain ⟨v2, hv2⟩ := HB1.out.get (i := k * 3 + 2) (by have := Hsz.out; omega)
      have hf0 := HB1.out.frozen (k * 3)
      have hf1 := HB1.out.frozen (k * 3 + 1)
      have hf2 := HB1.out.frozen (k * 3 + 2)
      go_wp2
      go_roundw
      case rel =>
        refine ⟨k + 1, (((cs.setIfInBounds (k * 3) (.int .i64 x.A)).setIfInBounds (k * 3 + 1) (.int .i64 x.B)).setIfInBounds (k * 3 + 2) (.int .i64 x.Minutes)), by omega, by go_num, (((HB1.out.set_ _ _).set_ _ _).set_ _ _), by have := Hsz.out; simpa using this, fun j y hj hy => ?_, inferInstance⟩
        by_cases e : j = k
        · subst e
          obtain rfl := Option.some.inj (hx.out.symm.trans hy)
          have hs := Hsz.out
          exact ⟨⟨by rw [set_ne _ (by omega), set_ne _ (by omega), set_eq _ (by (try simp only [Array.size_setIfInBounds]); omega)], by rw [set_ne _ (by omega), set_eq _ (by (try simp only [Array.size_setIfInBounds]); omega)], by rw [set_eq _ (by (try simp only [Array.size_setIfInBounds]); omega)]⟩, Hi.out⟩
        · have h3 := HS.out j y (by omega) hy
          exact ⟨⟨by rw [set_ne _ (by omega), set_ne _ (by omega), set_ne _ (by omega)]; exact h3.1.1, by rw [set_ne _ (by omega), set_ne _ (by omega), set_ne _ (by omega)]; exact h3.1.2.1, by rw [set_ne _ (by omega), set_ne _ (by omega), set_ne _ (by omega)]; exact h3.1.2.2⟩, h3.2⟩
      case measure => simp [intOf]; omega
    · clear hB hcs hsz
      go_wp2
      go_ret
      obtain ⟨fp, ho, hfp⟩ := OSl.of_blk (sz := 3) (r := rWalk) (l := l) (n := n) (c := n) HB.out h.len (Nat.le_refl _) (by omega) (fun j x hx => by
        obtain ⟨h1, h2⟩ := HS.out j x (by have := (List.getElem?_eq_some_iff.1 hx).1; have := h.len; omega) hx
        exact ⟨[.int .i64 x.A, .int .i64 x.B, .int .i64 x.Minutes], rfl, fun j' v hv => by
          match j', hv with
          | 0, hv => simp at hv; subst hv; exact h1.1
          | 1, hv => simp at hv; subst hv; exact h1.2.1
          | 2, hv => simp at hv; subst hv; exact h1.2.2
          , fun _ => ⟨rfl, h2⟩⟩)
      subst hfp
      exact ⟨_, _, _, _, rfl, ho, by simp, by simp, inferInstance⟩
theorem laws_szWalkS {w0 w : World} {A : Option Addr} {n c : Nat} {l : List Walk} {left : Int} (h : Walks w0 A n c l) (h0 : 0 ≤ left) (h1 : left ≤ 1048576) :
    Calls Try.prog 19 #[.slice A n c, .int .i64 left] w (RetSz l.length left w) := by
  have hn := h.le
  have hl := Lib.hid h.len
  clear h
  go_enter Try.func19, Try.ntmps19
  go_wp2
  · go_ret
    exact ⟨_, rfl, .inl (by omega), inferInstance⟩
  · go_ret
    exact ⟨_, rfl, .inr ⟨by have := hl.out; omega, by rw [← hl.out]; simp⟩, inferInstance⟩
theorem laws_eqWalkS {w0 w1 w : World} {A B : Option Addr} {n c m d : Nat} {l r : List Walk} (h : Walks w0 A n c l) (hl : Later w0 w) (h1 : Walks w1 B m d r) (hl1 : Later w1 w) :
    Calls Try.prog 24 #[.slice A n c, .slice B m d] w (Ret (.bool (decide (l = r))) w) := by
  replace h := h.later hl
  replace h1 := h1.later hl1
  have hn := h.le
  have hm := h1.le
  by_cases hnm : n = m
  · subst hnm
    have hcont : ((n : Int) != n) = false := by simp
    go_enter Try.func24, Try.ntmps24
    go_wp2
    go_loopw [5] (fun i wr => ∃ k : Nat, k ≤ n ∧ i = .int .i64 k ∧ Hid (l.drop k = r.drop k ↔ l = r) ∧ Later w wr) (fun i _ => n - (intOf i).toNat)
    case atStart => exact ⟨0, by omega, rfl, Iff.rfl, inferInstance⟩
    case round =>
      obtain ⟨k, hk, rfl, HF, hX⟩ := hrel
      by_cases hlt : k < n
      · obtain ⟨b, o, x, rfl, hx, hc0, hc1, hc2, hi⟩ := Walks.at_ h hlt
        obtain ⟨b', o', y, rfl, hy, hc0', hc1', hc2', hi'⟩ := Walks.at_ h1 hlt
        have hd := drop_at hx.out
        have hd' := drop_at hy.out
        clear hi hi'
        by_cases hxy : x = y
        · have HF2 : Hid (l.drop (k + 1) = r.drop (k + 1) ↔ l = r) := by rw [← HF.out, hd, hd', hxy]; show _ ↔ _; simp
          have hb : decide (x = y) = true := by simpa using hxy
          clear hxy hd hd'
          go_wp2_with fail
          go_still_tail 8, (by kernel_rfl)
          change wpList _ _ _ _ _ wr.drew
          go_wp2_with fail
          refine (laws_eqWalk _ _ _).mono ?_
          rintro e w2 ⟨rfl, hL⟩
          have hY := Later.trans (w := w) inferInstance hL
          go_wp2
          go_roundw
          case rel => exact ⟨k + 1, by omega, by go_num, HF2, inferInstance⟩
          case measure => simp [intOf]; omega
        · have HF2 : Hid (l ≠ r) := by rw [hd, hd'] at HF; intro e; have := HF.out.2 e; simp at this; exact hxy this.1
          have hb : decide (x = y) = false := by simpa using hxy
          clear hxy hd hd'
          go_wp2_with fail
          go_still_tail 8, (by kernel_rfl)
          change wpList _ _ _ _ _ wr.drew
          go_wp2_with fail
          refine (laws_eqWalk _ _ _).mono ?_
          rintro e w2 ⟨rfl, hL⟩
          have hY := Later.trans (w := w) inferInstance hL
          go_wp2
          go_ret
          exact ⟨ret_bool (by rw [decide_eq_false HF2.out]), inferInstance⟩
      · have H2 : Hid (l = r) := by
          rw [List.drop_eq_nil_of_le (by have := h.len; omega), List.drop_eq_nil_of_le (by have := h1.len; omega)] at HF
          exact HF.out.1 rfl
        go_wp2
        go_ret
        exact ⟨ret_bool (by rw [decide_eq_true H2.out]), inferInstance⟩
  · have H2 : Hid (l ≠ r) := by intro e; apply hnm; rw [h.len, h1.len, e]
    have hb : ((n : Int) != m) = true := by rw [bne_iff_ne]; omega
    clear hnm
    go_enter Try.func24, Try.ntmps24
    go_wp2
    go_ret
    exact ⟨ret_bool (by rw [decide_eq_false H2.out]), inferInstance⟩
def mkWalks (k : Int) (n : Nat) : List Walk := (List.range n).map fun (i : Nat) => ⟨k + 3 * (i : Int), k + 3 * (i : Int) + 1, k + 3 * (i : Int) + 2⟩
theorem mkWalks_len (k : Int) (n : Nat) : (mkWalks k n).length = n := by simp [mkWalks]
theorem mkWalks_at {k : Int} {n j : Nat} {x : Walk} (h : (mkWalks k n)[j]? = some x) : j < n ∧ x = ⟨k + 3 * (j : Int), k + 3 * (j : Int) + 1, k + 3 * (j : Int) + 2⟩ := by
  unfold mkWalks at h
  rw [List.getElem?_map] at h
  by_cases hj : j < n
  · rw [List.getElem?_range hj] at h; simp only [Option.map_some, Option.some.injEq] at h; exact ⟨hj, h.symm⟩
  · rw [List.getElem?_eq_none (by simpa using hj)] at h; simp at h
theorem laws_markWalkS {w : World} {A : Option Addr} {n c : Nat} {l : List Walk} {fp : List Nat} {k0 : Int} (h : OSl 3 (oFlat rWalk) w A n c l fp) (h0 : 0 ≤ k0) (h1 : k0 + 3 * n ≤ 4611686018427387904) :
    Calls Try.prog 25 #[.slice A n c, .int .i64 k0] w (RetMk (k0 + 3 * n) fp (fun w' => OSl 3 (oFlat rWalk) w' A n c (mkWalks k0 n) fp) w) := by
  have hn : n ≤ 9223372036854775807 := Nat.le_trans h.cap h.max
  have Hh := Lib.hid h
  rcases h.own with ⟨rfl, rfl⟩ | ⟨g, o, t, cs0, fps, rfl, hB0, rfl, hfl, hel⟩
  · obtain rfl : n = 0 := Hh.out.len
    clear h
    go_enter Try.func25, Try.ntmps25
    go_wp2
    go_loop [1, 5] (fun q i => i = .int .i64 0 ∧ q = .int .i64 k0) (fun q i => 0)
    case atStart => exact ⟨rfl, rfl⟩
    case round =>
      obtain ⟨rfl, rfl⟩ := hrel
      go_wp2
      go_ret
      exact ⟨ret_int (by simp), Touch.refl_, by simpa [mkWalks] using Hh.out⟩
  · have hlen := Lib.hid h.len
    have HC : Hid (∀ j t, j < n → t < 3 → ∃ v, cs0[o + j * 3 + t]? = some v) := fun j t hj ht => by
      obtain ⟨es, f, _, he, hc, _⟩ := hel j l[j]?.get! (by rw [List.getElem?_eq_getElem (by have := hlen.out; omega)]; rfl)
      exact ⟨es[t], hc t _ (List.getElem?_eq_getElem (by omega))⟩
    have HE : Hid (∀ (k : Nat) (x : Walk), l[k]? = some x → fps[k]? = some []) := fun k x hx => by
      obtain ⟨es, f, hf, _, _, hr⟩ := hel k x hx
      rw [hf, hr.2]
    have HB0 := Lib.hid hB0
    have Hfl := Lib.hid hfl
    clear h hel hB0 hfl
    go_enter Try.func25, Try.ntmps25
    go_wp2
    go_loopw [1, 5] (fun q i wr => ∃ (k : Nat) (cs : Array Value), k ≤ n ∧ i = .int .i64 k ∧ q = .int .i64 (k0 + 3 * k) ∧ Blk wr g t cs ∧ cs.size = cs0.size ∧ (∀ j : Nat, j < k → cs[o + j * 3]? = some (.int .i64 (k0 + 3 * (j : Int))) ∧ cs[o + j * 3 + 1]? = some (.int .i64 (k0 + 3 * (j : Int) + 1)) ∧ cs[o + j * 3 + 2]? = some (.int .i64 (k0 + 3 * (j : Int) + 2))) ∧ Touch (g :: fps.flatten) w wr) (fun _ i _ => n - (intOf i).toNat)
    case atStart => exact ⟨0, cs0, by omega, rfl, by simp, HB0.out, rfl, fun j hj => by omega, Touch.refl_⟩
    case round =>
      obtain ⟨k, cs, hk, rfl, rfl, hB, hsz, hcs, hX⟩ := hrel
      have HB := Lib.hid hB
      have HS := Lib.hid hcs
      have Hsz := Lib.hid hsz
      by_cases hlt : k < n
      · have hok : o + k * 3 + 2 < cs.size := by
          obtain ⟨v, hv⟩ := HC.out k 2 hlt (by omega)
          have := (Array.getElem?_eq_some_iff.1 hv).1
          have := Hsz.out
          omega
        obtain ⟨v0, hv0⟩ := hB.get (i := o + k * 3) (by omega)
        obtain ⟨v1, hv1⟩ := hB.get (i := o + k * 3 + 1) (by omega)
        obtain ⟨v2, hv2⟩ := hB.get (i := o + k * 3 + 2) (by omega)
        have hf0 := hB.frozen (o + k * 3)
        have hf1 := hB.frozen (o + k * 3 + 1)
        have hf2 := hB.frozen (o + k * 3 + 2)
        clear hB hcs hsz
        go_wp2
        go_roundw
        case rel =>
          refine ⟨k + 1, (((cs.setIfInBounds (o + k * 3) (.int .i64 (k0 + 3 * k))).setIfInBounds (o + k * 3 + 1) (.int .i64 (k0 + 3 * k + 1))).setIfInBounds (o + k * 3 + 2) (.int .i64 (k0 + 3 * k + 2))), by omega, by go_num, by go_num, ?_, by have := Hsz.out; simpa using this, fun j hj => ?_, ?_⟩
          · first | (rw [show (k0 + 3 * (k : Int) + 2) = k0 + 3 * (k : Int) + 1 + 1 from by omega]; exact (((HB.out.set_ _ _).set_ _ _).set_ _ _)) | exact (((HB.out.set_ _ _).set_ _ _).set_ _ _)
          · by_cases e : j = k
            · subst e
              exact ⟨by rw [set_ne _ (by omega), set_ne _ (by omega), set_eq _ (by (try simp only [Array.size_setIfInBounds]); omega)], by rw [set_ne _ (by omega), set_eq _ (by (try simp only [Array.size_setIfInBounds]); omega)], by rw [set_eq _ (by (try simp only [Array.size_setIfInBounds]); omega)]⟩
            · have h3 := HS.out j (by omega)
              exact ⟨by rw [set_ne _ (by omega), set_ne _ (by omega), set_ne _ (by omega)]; exact h3.1, by rw [set_ne _ (by omega), set_ne _ (by omega), set_ne _ (by omega)]; exact h3.2.1, by rw [set_ne _ (by omega), set_ne _ (by omega), set_ne _ (by omega)]; exact h3.2.2⟩
          · exact (((hX.set_ (by simp) _ _).set_ (by simp) _ _).set_ (by simp) _ _)
        case measure => simp [intOf]; omega
      · have hkn : k = n := by omega
        clear hB hcs hsz
        go_wp2
        go_ret
        subst hkn
        refine ⟨rfl, hX, ⟨by rw [mkWalks_len], Hh.out.cap, Hh.out.max, .inr ⟨g, o, t, cs, fps, rfl, HB.out, rfl, by rw [mkWalks_len, Hfl.out, hlen.out], fun j x hx => ?_⟩⟩⟩
        obtain ⟨hj, rfl⟩ := mkWalks_at hx
        have h3 := HS.out j hj
        refine ⟨[.int .i64 (k0 + 3 * (j : Int)), .int .i64 (k0 + 3 * (j : Int) + 1), .int .i64 (k0 + 3 * (j : Int) + 2)], [], HE.out j l[j]?.get! (by rw [List.getElem?_eq_getElem (by have := hlen.out; omega)]; rfl), rfl, fun j' v hv => ?_, fun _ => ⟨rfl, ⟨by unfold I64; simp only; omega, by unfold I64; simp only; omega, by unfold I64; simp only; omega⟩⟩, rfl⟩
        match j', hv with
        | 0, hv => simp at hv; subst hv; simpa [Nat.add_assoc] using h3.1
        | 1, hv => simp at hv; subst hv; simpa [Nat.add_assoc] using h3.2.1
        | 2, hv => simp at hv; subst hv; simpa [Nat.add_assoc] using h3.2.2
end Go.Proofs.Ytaopadffabbjiaa
