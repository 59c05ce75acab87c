/-
  Helpers of the statements on Trip and slices of it. Printed by a program of ours (gen_flat.py).
-/
import Derived.Test.YtnbaballbbmibaaInts
import Derived.StillTailTactics
namespace Go.Proofs.Ytnbaballbbmibaa
open Go Go.RowKit
set_option linter.unusedVariables false
set_option maxRecDepth 100000
theorem laws_toTrip (t : Trip) (w : World) : Calls Try.prog 121 #[.agg #[.int .i64 t.Id, .int .i64 t.Line, .int .i64 t.Start]] w (Ret (.agg #[.int .i64 t.Id, .int .i64 t.Line, .int .i64 t.Start]) w) := by
  go_enter Try.func121, Try.ntmps121
  go_wp2
  exact bodyPost_ret (by simp [results, Try.results121, go_sem]) rfl ⟨rfl, inferInstance⟩
theorem laws_eqTrip (a b : Trip) (w : World) : Calls Try.prog 124 #[.agg #[.int .i64 a.Id, .int .i64 a.Line, .int .i64 a.Start], .agg #[.int .i64 b.Id, .int .i64 b.Line, .int .i64 b.Start]] w (Ret (.bool (decide (a = b))) w) := by
  go_enter Try.func124, Try.ntmps124
  go_wp2
  all_goals
    go_ret
    exact ⟨ret_bool (by cases a; cases b; simp_all), inferInstance⟩
theorem info_Trip : (Try.prog.info? 109).map (fun i => (i.zero, i.size, i.bytes)) = some (some (.agg #[.int .i64 0, .int .i64 0, .int .i64 0]), 3, 24) := by kernel_rfl
theorem laws_toTripS {w0 w : World} {A : Option Addr} {n c : Nat} {l : List Trip} (h : Trips w0 A n c l) (hl : Later w0 w) (hn : n ≤ 1048576) :
    Calls Try.prog 84 #[.slice A n c] w (RetO 3 (oFlat rTrip) l w) := by
  obtain ⟨C0, hC0, hmk⟩ := make_row (P := Try.prog) 57 109 Try.underlying57 info_Trip n (by omega) (by omega)
  replace h := h.later hl
  go_enter Try.func84, Try.ntmps84
  go_wp2
  go_loopw [4] (fun i wr => ∃ (k : Nat) (cs : Array Value), k ≤ n ∧ i = .int .i64 k ∧ Blk wr w.heap.size 109 cs ∧ cs.size = n * 3 ∧ (∀ (j : Nat) (x : Trip), j < k → l[j]? = some x → (cs[j * 3]? = some (.int .i64 x.Id) ∧ cs[j * 3 + 1]? = some (.int .i64 x.Line) ∧ cs[j * 3 + 2]? = some (.int .i64 x.Start)) ∧ TripOk x) ∧ Later w wr) (fun i _ => n - (intOf i).toNat)
  case atStart => exact ⟨0, C0, by omega, rfl, Blk.new _ _ _, by omega, fun j x hj => by omega, inferInstance⟩
  case round =>
    obtain ⟨k, cs, hk, rfl, hB, hsz, hcs, hX⟩ := hrel
    have HB := Lib.hid hB
    have HS := Lib.hid hcs
    have Hsz := Lib.hid hsz
    by_cases hlt : k < n
    · obtain ⟨b, o, x, rfl, hx, hc0, hc1, hc2, hi⟩ := Trips.at_ h hlt
      clear hB hcs hsz
      have Hi := Lib.hid hi
      clear hi
      go_wp2_with fail
      refine (laws_toTrip _ _).mono ?_
      rintro e w1 ⟨rfl, hL⟩
      have hY : Later w w1 := hX.trans hL
      have HB1 := Lib.hid (HB.out.later hL)
      obtain ⟨v0, hv0⟩ := HB1.out.get (i := k * 3) (by have := Hsz.out; omega)
      obtain ⟨v1, hv1⟩ := HB1.out.get (i := k * 3 + 1) (by have := Hsz.out; omega)
      obtain ⟨v2, hv2⟩ := HB1.out.get (i := k * 3 + 2) (by have := Hsz.out; omega)
      have hf0 := HB1.out.frozen (k * 3)
      have hf1 := HB1.out.frozen (k * 3 + 1)
      have hf2 := HB1.out.frozen (k * 3 + 2)
      go_wp2
      go_roundw
      case rel =>
        refine ⟨k + 1, (((cs.setIfInBounds (k * 3) (.int .i64 x.Id)).setIfInBounds (k * 3 + 1) (.int .i64 x.Line)).setIfInBounds (k * 3 + 2) (.int .i64 x.Start)), by omega, by go_num, (((HB1.out.set_ _ _).set_ _ _).set_ _ _), by have := Hsz.out; simpa using this, fun j y hj hy => ?_, inferInstance⟩
        by_cases e : j = k
        · subst e
          obtain rfl := Option.some.inj (hx.out.symm.trans hy)
          have hs := Hsz.out
          exact ⟨⟨by rw [set_ne _ (by omega), set_ne _ (by omega), set_eq _ (by (try simp only [Array.size_setIfInBounds]); omega)], by rw [set_ne _ (by omega), set_eq _ (by (try simp only [Array.size_setIfInBounds]); omega)], by rw [set_eq _ (by (try simp only [Array.size_setIfInBounds]); omega)]⟩, Hi.out⟩
        · have h3 := HS.out j y (by omega) hy
          exact ⟨⟨by rw [set_ne _ (by omega), set_ne _ (by omega), set_ne _ (by omega)]; exact h3.1.1, by rw [set_ne _ (by omega), set_ne _ (by omega), set_ne _ (by omega)]; exact h3.1.2.1, by rw [set_ne _ (by omega), set_ne _ (by omega), set_ne _ (by omega)]; exact h3.1.2.2⟩, h3.2⟩
      case measure => simp [intOf]; omega
    · clear hB hcs hsz
      go_wp2
      go_ret
      obtain ⟨fp, ho, hfp⟩ := OSl.of_blk (sz := 3) (r := rTrip) (l := l) (n := n) (c := n) HB.out h.len (Nat.le_refl _) (by omega) (fun j x hx => by
        obtain ⟨h1, h2⟩ := HS.out j x (by have := (List.getElem?_eq_some_iff.1 hx).1; have := h.len; omega) hx
        exact ⟨[.int .i64 x.Id, .int .i64 x.Line, .int .i64 x.Start], rfl, fun j' v hv => by
          match j', hv with
          | 0, hv => simp at hv; subst hv; exact h1.1
          | 1, hv => simp at hv; subst hv; exact h1.2.1
          | 2, hv => simp at hv; subst hv; exact h1.2.2
          , fun _ => ⟨rfl, h2⟩⟩)
      subst hfp
      exact ⟨_, _, _, _, rfl, ho, by simp, by simp, inferInstance⟩
theorem laws_szTripS {w0 w : World} {A : Option Addr} {n c : Nat} {l : List Trip} {left : Int} (h : Trips w0 A n c l) (h0 : 0 ≤ left) (h1 : left ≤ 1048576) :
    Calls Try.prog 81 #[.slice A n c, .int .i64 left] w (RetSz l.length left w) := by
  have hn := h.le
  have hl := Lib.hid h.len
  clear h
  go_enter Try.func81, Try.ntmps81
  go_wp2
  · go_ret
    exact ⟨_, rfl, .inl (by omega), inferInstance⟩
  · go_ret
    exact ⟨_, rfl, .inr ⟨by have := hl.out; omega, by rw [← hl.out]; simp⟩, inferInstance⟩
theorem laws_eqTripS {w0 w1 w : World} {A B : Option Addr} {n c m d : Nat} {l r : List Trip} (h : Trips w0 A n c l) (hl : Later w0 w) (h1 : Trips w1 B m d r) (hl1 : Later w1 w) :
    Calls Try.prog 87 #[.slice A n c, .slice B m d] w (Ret (.bool (decide (l = r))) w) := by
  replace h := h.later hl
  replace h1 := h1.later hl1
  have hn := h.le
  have hm := h1.le
  by_cases hnm : n = m
  · subst hnm
    have hcont : ((n : Int) != n) = false := by simp
    go_enter Try.func87, Try.ntmps87
    go_wp2
    go_loopw [5] (fun i wr => ∃ k : Nat, k ≤ n ∧ i = .int .i64 k ∧ Hid (l.drop k = r.drop k ↔ l = r) ∧ Later w wr) (fun i _ => n - (intOf i).toNat)
    case atStart => exact ⟨0, by omega, rfl, Iff.rfl, inferInstance⟩
    case round =>
      obtain ⟨k, hk, rfl, HF, hX⟩ := hrel
      by_cases hlt : k < n
      · obtain ⟨b, o, x, rfl, hx, hc0, hc1, hc2, hi⟩ := Trips.at_ h hlt
        obtain ⟨b', o', y, rfl, hy, hc0', hc1', hc2', hi'⟩ := Trips.at_ h1 hlt
        have hd := drop_at hx.out
        have hd' := drop_at hy.out
        clear hi hi'
        by_cases hxy : x = y
        · have HF2 : Hid (l.drop (k + 1) = r.drop (k + 1) ↔ l = r) := by rw [← HF.out, hd, hd', hxy]; show _ ↔ _; simp
          have hb : decide (x = y) = true := by simpa using hxy
          clear hxy hd hd'
          go_wp2_with fail
          go_still_tail 8, (by kernel_rfl)
          change wpList _ _ _ _ _ wr.drew
          go_wp2_with fail
          refine (laws_eqTrip _ _ _).mono ?_
          rintro e w2 ⟨rfl, hL⟩
          have hY := Later.trans (w := w) inferInstance hL
          go_wp2
          go_roundw
          case rel => exact ⟨k + 1, by omega, by go_num, HF2, inferInstance⟩
          case measure => simp [intOf]; omega
        · have HF2 : Hid (l ≠ r) := by rw [hd, hd'] at HF; intro e; have := HF.out.2 e; simp at this; exact hxy this.1
          have hb : decide (x = y) = false := by simpa using hxy
          clear hxy hd hd'
          go_wp2_with fail
          go_still_tail 8, (by kernel_rfl)
          change wpList _ _ _ _ _ wr.drew
          go_wp2_with fail
          refine (laws_eqTrip _ _ _).mono ?_
          rintro e w2 ⟨rfl, hL⟩
          have hY := Later.trans (w := w) inferInstance hL
          go_wp2
          go_ret
          exact ⟨ret_bool (by rw [decide_eq_false HF2.out]), inferInstance⟩
      · have H2 : Hid (l = r) := by
          rw [List.drop_eq_nil_of_le (by have := h.len; omega), List.drop_eq_nil_of_le (by have := h1.len; omega)] at HF
          exact HF.out.1 rfl
        go_wp2
        go_ret
        exact ⟨ret_bool (by rw [decide_eq_true H2.out]), inferInstance⟩
  · have H2 : Hid (l ≠ r) := by intro e; apply hnm; rw [h.len, h1.len, e]
    have hb : ((n : Int) != m) = true := by rw [bne_iff_ne]; omega
    clear hnm
    go_enter Try.func87, Try.ntmps87
    go_wp2
    go_ret
    exact ⟨ret_bool (by rw [decide_eq_false H2.out]), inferInstance⟩
end Go.Proofs.Ytnbaballbbmibaa
