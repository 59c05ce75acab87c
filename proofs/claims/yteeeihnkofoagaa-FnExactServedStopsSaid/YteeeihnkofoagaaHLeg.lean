/-
  Helpers of the statements on Leg and slices of it. Printed by a program of ours (gen_flat.py).
-/
import Derived.Test.YteeeihnkofoagaaInts
import Derived.StillTailTactics
namespace Go.Proofs.Yteeeihnkofoagaa
open Go Go.RowKit
set_option linter.unusedVariables false
set_option maxRecDepth 100000
theorem laws_toLeg (t : Leg) (w : World) : Calls Try.prog 80 #[.agg #[.int .i64 t.Trip, .int .i64 t.From, .int .i64 t.To, .int .i64 t.Depart, .int .i64 t.Arrive]] w (Ret (.agg #[.int .i64 t.Trip, .int .i64 t.From, .int .i64 t.To, .int .i64 t.Depart, .int .i64 t.Arrive]) w) := by
  go_enter Try.func80, Try.ntmps80
  go_wp2
  exact bodyPost_ret (by simp [results, Try.results80, go_sem]) rfl ⟨rfl, inferInstance⟩
theorem laws_eqLeg (a b : Leg) (w : World) : Calls Try.prog 85 #[.agg #[.int .i64 a.Trip, .int .i64 a.From, .int .i64 a.To, .int .i64 a.Depart, .int .i64 a.Arrive], .agg #[.int .i64 b.Trip, .int .i64 b.From, .int .i64 b.To, .int .i64 b.Depart, .int .i64 b.Arrive]] w (Ret (.bool (decide (a = b))) w) := by
  go_enter Try.func85, Try.ntmps85
  go_wp2
  all_goals
    go_ret
    exact ⟨ret_bool (by cases a; cases b; simp_all), inferInstance⟩
theorem info_Leg : (Try.prog.info? 100).map (fun i => (i.zero, i.size, i.bytes)) = some (some (.agg #[.int .i64 0, .int .i64 0, .int .i64 0, .int .i64 0, .int .i64 0]), 5, 40) := by kernel_rfl
theorem laws_toLegS {w0 w : World} {A : Option Addr} {n c : Nat} {l : List Leg} (h : Legs w0 A n c l) (hl : Later w0 w) (hn : n ≤ 1048576) :
    Calls Try.prog 27 #[.slice A n c] w (RetO 5 (oFlat rLeg) l w) := by
  obtain ⟨C0, hC0, hmk⟩ := make_row (P := Try.prog) 52 100 Try.underlying52 info_Leg n (by omega) (by omega)
  replace h := h.later hl
  go_enter Try.func27, Try.ntmps27
  go_wp2
  go_loopw [4] (fun i wr => ∃ (k : Nat) (cs : Array Value), k ≤ n ∧ i = .int .i64 k ∧ Blk wr w.heap.size 100 cs ∧ cs.size = n * 5 ∧ (∀ (j : Nat) (x : Leg), j < k → l[j]? = some x → (cs[j * 5]? = some (.int .i64 x.Trip) ∧ cs[j * 5 + 1]? = some (.int .i64 x.From) ∧ cs[j * 5 + 2]? = some (.int .i64 x.To) ∧ cs[j * 5 + 3]? = some (.int .i64 x.Depart) ∧ cs[j * 5 + 4]? = some (.int .i64 x.Arrive)) ∧ LegOk x) ∧ Later w wr) (fun i _ => n - (intOf i).toNat)
  case atStart => exact ⟨0, C0, by omega, rfl, Blk.new _ _ _, by omega, fun j x hj => by omega, inferInstance⟩
  case round =>
    obtain ⟨k, cs, hk, rfl, hB, hsz, hcs, hX⟩ := hrel
    have HB := Lib.hid hB
    have HS := Lib.hid hcs
    have Hsz := Lib.hid hsz
    by_cases hlt : k < n
    · obtain ⟨b, o, x, rfl, hx, hc0, hc1, hc2, hc3, hc4, hi⟩ := Legs.at_ h hlt
      clear hB hcs hsz
      have Hi := Lib.hid hi
      clear hi
      go_wp2_with fail
      refine (laws_toLeg _ _).mono ?_
      rintro e w1 ⟨rfl, hL⟩
      have hY : Later w w1 := hX.trans hL
      have HB1 := Lib.hid (HB.out.later hL)
      obtain ⟨v0, hv0⟩ := HB1.out.get (i := k * 5) (by have := Hsz.out; omega)
      obtain ⟨v1, hv1⟩ := HB1.out.get (i := k * 5 + 1) (by have := Hsz.out; omega)
      obtain ⟨v2, hv2⟩ := HB1.out.get (i := k * 5 + 2) (by have := Hsz.out; omega)
      obtain ⟨v3, hv3⟩ := HB1.out.get (i := k * 5 + 3) (by have := Hsz.out; omega)
      obtain ⟨v4, hv4⟩ := HB1.out.get (i := k * 5 + 4) (by have := Hsz.out; omega)
      have hf0 := HB1.out.frozen (k * 5)
      have hf1 := HB1.out.frozen (k * 5 + 1)
      have hf2 := HB1.out.frozen (k * 5 + 2)
      have hf3 := HB1.out.frozen (k * 5 + 3)
      have hf4 := HB1.out.frozen (k * 5 + 4)
      go_wp2
      go_roundw
      case rel =>
        refine ⟨k + 1, (((((cs.setIfInBounds (k * 5) (.int .i64 x.Trip)).setIfInBounds (k * 5 + 1) (.int .i64 x.From)).setIfInBounds (k * 5 + 2) (.int .i64 x.To)).setIfInBounds (k * 5 + 3) (.int .i64 x.Depart)).setIfInBounds (k * 5 + 4) (.int .i64 x.Arrive)), by omega, by go_num, (((((HB1.out.set_ _ _).set_ _ _).set_ _ _).set_ _ _).set_ _ _), by have := Hsz.out; simpa using this, fun j y hj hy => ?_, inferInstance⟩
        by_cases e : j = k
        · subst e
          obtain rfl := Option.some.inj (hx.out.symm.trans hy)
          have hs := Hsz.out
          exact ⟨⟨by rw [set_ne _ (by omega), set_ne _ (by omega), set_ne _ (by omega), set_ne _ (by omega), set_eq _ (by (try simp only [Array.size_setIfInBounds]); omega)], by rw [set_ne _ (by omega), set_ne _ (by omega), set_ne _ (by omega), set_eq _ (by (try simp only [Array.size_setIfInBounds]); omega)], by rw [set_ne _ (by omega), set_ne _ (by omega), set_eq _ (by (try simp only [Array.size_setIfInBounds]); omega)], by rw [set_ne _ (by omega), set_eq _ (by (try simp only [Array.size_setIfInBounds]); omega)], by rw [set_eq _ (by (try simp only [Array.size_setIfInBounds]); omega)]⟩, Hi.out⟩
        · have h3 := HS.out j y (by omega) hy
          exact ⟨⟨by rw [set_ne _ (by omega), set_ne _ (by omega), set_ne _ (by omega), set_ne _ (by omega), set_ne _ (by omega)]; exact h3.1.1, by rw [set_ne _ (by omega), set_ne _ (by omega), set_ne _ (by omega), set_ne _ (by omega), set_ne _ (by omega)]; exact h3.1.2.1, by rw [set_ne _ (by omega), set_ne _ (by omega), set_ne _ (by omega), set_ne _ (by omega), set_ne _ (by omega)]; exact h3.1.2.2.1, by rw [set_ne _ (by omega), set_ne _ (by omega), set_ne _ (by omega), set_ne _ (by omega), set_ne _ (by omega)]; exact h3.1.2.2.2.1, by rw [set_ne _ (by omega), set_ne _ (by omega), set_ne _ (by omega), set_ne _ (by omega), set_ne _ (by omega)]; exact h3.1.2.2.2.2⟩, h3.2⟩
      case measure => simp [intOf]; omega
    · clear hB hcs hsz
      go_wp2
      go_ret
      obtain ⟨fp, ho, hfp⟩ := OSl.of_blk (sz := 5) (r := rLeg) (l := l) (n := n) (c := n) HB.out h.len (Nat.le_refl _) (by omega) (fun j x hx => by
        obtain ⟨h1, h2⟩ := HS.out j x (by have := (List.getElem?_eq_some_iff.1 hx).1; have := h.len; omega) hx
        exact ⟨[.int .i64 x.Trip, .int .i64 x.From, .int .i64 x.To, .int .i64 x.Depart, .int .i64 x.Arrive], rfl, fun j' v hv => by
          match j', hv with
          | 0, hv => simp at hv; subst hv; exact h1.1
          | 1, hv => simp at hv; subst hv; exact h1.2.1
          | 2, hv => simp at hv; subst hv; exact h1.2.2.1
          | 3, hv => simp at hv; subst hv; exact h1.2.2.2.1
          | 4, hv => simp at hv; subst hv; exact h1.2.2.2.2
          , fun _ => ⟨rfl, h2⟩⟩)
      subst hfp
      exact ⟨_, _, _, _, rfl, ho, by simp, by simp, inferInstance⟩
theorem laws_szLegS {w0 w : World} {A : Option Addr} {n c : Nat} {l : List Leg} {left : Int} (h : Legs w0 A n c l) (h0 : 0 ≤ left) (h1 : left ≤ 1048576) :
    Calls Try.prog 24 #[.slice A n c, .int .i64 left] w (RetSz l.length left w) := by
  have hn := h.le
  have hl := Lib.hid h.len
  clear h
  go_enter Try.func24, Try.ntmps24
  go_wp2
  · go_ret
    exact ⟨_, rfl, .inl (by omega), inferInstance⟩
  · go_ret
    exact ⟨_, rfl, .inr ⟨by have := hl.out; omega, by rw [← hl.out]; simp⟩, inferInstance⟩
theorem laws_eqLegS {w0 w1 w : World} {A B : Option Addr} {n c m d : Nat} {l r : List Leg} (h : Legs w0 A n c l) (hl : Later w0 w) (h1 : Legs w1 B m d r) (hl1 : Later w1 w) :
    Calls Try.prog 30 #[.slice A n c, .slice B m d] w (Ret (.bool (decide (l = r))) w) := by
  replace h := h.later hl
  replace h1 := h1.later hl1
  have hn := h.le
  have hm := h1.le
  by_cases hnm : n = m
  · subst hnm
    have hcont : ((n : Int) != n) = false := by simp
    go_enter Try.func30, Try.ntmps30
    go_wp2
    go_loopw [5] (fun i wr => ∃ k : Nat, k ≤ n ∧ i = .int .i64 k ∧ Hid (l.drop k = r.drop k ↔ l = r) ∧ Later w wr) (fun i _ => n - (intOf i).toNat)
    case atStart => exact ⟨0, by omega, rfl, Iff.rfl, inferInstance⟩
    case round =>
      obtain ⟨k, hk, rfl, HF, hX⟩ := hrel
      by_cases hlt : k < n
      · obtain ⟨b, o, x, rfl, hx, hc0, hc1, hc2, hc3, hc4, hi⟩ := Legs.at_ h hlt
        obtain ⟨b', o', y, rfl, hy, hc0', hc1', hc2', hc3', hc4', hi'⟩ := Legs.at_ h1 hlt
        have hd := drop_at hx.out
        have hd' := drop_at hy.out
        clear hi hi'
        by_cases hxy : x = y
        · have HF2 : Hid (l.drop (k + 1) = r.drop (k + 1) ↔ l = r) := by rw [← HF.out, hd, hd', hxy]; show _ ↔ _; simp
          have hb : decide (x = y) = true := by simpa using hxy
          clear hxy hd hd'
          go_wp2_with fail
          go_still_tail 8, (by kernel_rfl)
          change wpList _ _ _ _ _ wr.drew
          go_wp2_with fail
          refine (laws_eqLeg _ _ _).mono ?_
          rintro e w2 ⟨rfl, hL⟩
          have hY := Later.trans (w := w) inferInstance hL
          go_wp2
          go_roundw
          case rel => exact ⟨k + 1, by omega, by go_num, HF2, inferInstance⟩
          case measure => simp [intOf]; omega
        · have HF2 : Hid (l ≠ r) := by rw [hd, hd'] at HF; intro e; have := HF.out.2 e; simp at this; exact hxy this.1
          have hb : decide (x = y) = false := by simpa using hxy
          clear hxy hd hd'
          go_wp2_with fail
          go_still_tail 8, (by kernel_rfl)
          change wpList _ _ _ _ _ wr.drew
          go_wp2_with fail
          refine (laws_eqLeg _ _ _).mono ?_
          rintro e w2 ⟨rfl, hL⟩
          have hY := Later.trans (w := w) inferInstance hL
          go_wp2
          go_ret
          exact ⟨ret_bool (by rw [decide_eq_false HF2.out]), inferInstance⟩
      · have H2 : Hid (l = r) := by
          rw [List.drop_eq_nil_of_le (by have := h.len; omega), List.drop_eq_nil_of_le (by have := h1.len; omega)] at HF
          exact HF.out.1 rfl
        go_wp2
        go_ret
        exact ⟨ret_bool (by rw [decide_eq_true H2.out]), inferInstance⟩
  · have H2 : Hid (l ≠ r) := by intro e; apply hnm; rw [h.len, h1.len, e]
    have hb : ((n : Int) != m) = true := by rw [bne_iff_ne]; omega
    clear hnm
    go_enter Try.func30, Try.ntmps30
    go_wp2
    go_ret
    exact ⟨ret_bool (by rw [decide_eq_false H2.out]), inferInstance⟩
def mkLegs (k : Int) (n : Nat) : List Leg := (List.range n).map fun (i : Nat) => ⟨k + 5 * (i : Int), k + 5 * (i : Int) + 1, k + 5 * (i : Int) + 2, k + 5 * (i : Int) + 3, k + 5 * (i : Int) + 4⟩
theorem mkLegs_len (k : Int) (n : Nat) : (mkLegs k n).length = n := by simp [mkLegs]
theorem mkLegs_at {k : Int} {n j : Nat} {x : Leg} (h : (mkLegs k n)[j]? = some x) : j < n ∧ x = ⟨k + 5 * (j : Int), k + 5 * (j : Int) + 1, k + 5 * (j : Int) + 2, k + 5 * (j : Int) + 3, k + 5 * (j : Int) + 4⟩ := by
  unfold mkLegs at h
  rw [List.getElem?_map] at h
  by_cases hj : j < n
  · rw [List.getElem?_range hj] at h; simp only [Option.map_some, Option.some.injEq] at h; exact ⟨hj, h.symm⟩
  · rw [List.getElem?_eq_none (by simpa using hj)] at h; simp at h
theorem laws_markLegS {w : World} {A : Option Addr} {n c : Nat} {l : List Leg} {fp : List Nat} {k0 : Int} (h : OSl 5 (oFlat rLeg) w A n c l fp) (h0 : 0 ≤ k0) (h1 : k0 + 5 * n ≤ 4611686018427387904) :
    Calls Try.prog 35 #[.slice A n c, .int .i64 k0] w (RetMk (k0 + 5 * n) fp (fun w' => OSl 5 (oFlat rLeg) w' A n c (mkLegs k0 n) fp) w) := by
  have hn : n ≤ 9223372036854775807 := Nat.le_trans h.cap h.max
  have Hh := Lib.hid h
  rcases h.own with ⟨rfl, rfl⟩ | ⟨g, o, t, cs0, fps, rfl, hB0, rfl, hfl, hel⟩
  · obtain rfl : n = 0 := Hh.out.len
    clear h
    go_enter Try.func35, Try.ntmps35
    go_wp2
    go_loop [1, 5] (fun q i => i = .int .i64 0 ∧ q = .int .i64 k0) (fun q i => 0)
    case atStart => exact ⟨rfl, rfl⟩
    case round =>
      obtain ⟨rfl, rfl⟩ := hrel
      go_wp2
      go_ret
      exact ⟨ret_int (by simp), Touch.refl_, by simpa [mkLegs] using Hh.out⟩
  · have hlen := Lib.hid h.len
    have HC : Hid (∀ j t, j < n → t < 5 → ∃ v, cs0[o + j * 5 + t]? = some v) := fun j t hj ht => by
      obtain ⟨es, f, _, he, hc, _⟩ := hel j l[j]?.get! (by rw [List.getElem?_eq_getElem (by have := hlen.out; omega)]; rfl)
      exact ⟨es[t], hc t _ (List.getElem?_eq_getElem (by omega))⟩
    have HE : Hid (∀ (k : Nat) (x : Leg), l[k]? = some x → fps[k]? = some []) := fun k x hx => by
      obtain ⟨es, f, hf, _, _, hr⟩ := hel k x hx
      rw [hf, hr.2]
    have HB0 := Lib.hid hB0
    have Hfl := Lib.hid hfl
    clear h hel hB0 hfl
    go_enter Try.func35, Try.ntmps35
    go_wp2
    go_loopw [1, 5] (fun q i wr => ∃ (k : Nat) (cs : Array Value), k ≤ n ∧ i = .int .i64 k ∧ q = .int .i64 (k0 + 5 * k) ∧ Blk wr g t cs ∧ cs.size = cs0.size ∧ (∀ j : Nat, j < k → cs[o + j * 5]? = some (.int .i64 (k0 + 5 * (j : Int))) ∧ cs[o + j * 5 + 1]? = some (.int .i64 (k0 + 5 * (j : Int) + 1)) ∧ cs[o + j * 5 + 2]? = some (.int .i64 (k0 + 5 * (j : Int) + 2)) ∧ cs[o + j * 5 + 3]? = some (.int .i64 (k0 + 5 * (j : Int) + 3)) ∧ cs[o + j * 5 + 4]? = some (.int .i64 (k0 + 5 * (j : Int) + 4))) ∧ Touch (g :: fps.flatten) w wr) (fun _ i _ => n - (intOf i).toNat)
    case atStart => exact ⟨0, cs0, by omega, rfl, by simp, HB0.out, rfl, fun j hj => by omega, Touch.refl_⟩
    case round =>
      obtain ⟨k, cs, hk, rfl, rfl, hB, hsz, hcs, hX⟩ := hrel
      have HB := Lib.hid hB
      have HS := Lib.hid hcs
      have Hsz := Lib.hid hsz
      by_cases hlt : k < n
      · have hok : o + k * 5 + 4 < cs.size := by
          obtain ⟨v, hv⟩ := HC.out k 4 hlt (by omega)
          have := (Array.getElem?_eq_some_iff.1 hv).1
          have := Hsz.out
          omega
        obtain ⟨v0, hv0⟩ := hB.get (i := o + k * 5) (by omega)
        obtain ⟨v1, hv1⟩ := hB.get (i := o + k * 5 + 1) (by omega)
        obtain ⟨v2, hv2⟩ := hB.get (i := o + k * 5 + 2) (by omega)
        obtain ⟨v3, hv3⟩ := hB.get (i := o + k * 5 + 3) (by omega)
        obtain ⟨v4, hv4⟩ := hB.get (i := o + k * 5 + 4) (by omega)
        have hf0 := hB.frozen (o + k * 5)
        have hf1 := hB.frozen (o + k * 5 + 1)
        have hf2 := hB.frozen (o + k * 5 + 2)
        have hf3 := hB.frozen (o + k * 5 + 3)
        have hf4 := hB.frozen (o + k * 5 + 4)
        clear hB hcs hsz
        go_wp2
        go_roundw
        case rel =>
          refine ⟨k + 1, (((((cs.setIfInBounds (o + k * 5) (.int .i64 (k0 + 5 * k))).setIfInBounds (o + k * 5 + 1) (.int .i64 (k0 + 5 * k + 1))).setIfInBounds (o + k * 5 + 2) (.int .i64 (k0 + 5 * k + 2))).setIfInBounds (o + k * 5 + 3) (.int .i64 (k0 + 5 * k + 3))).setIfInBounds (o + k * 5 + 4) (.int .i64 (k0 + 5 * k + 4))), by omega, by go_num, by go_num, ?_, by have := Hsz.out; simpa using this, fun j hj => ?_, ?_⟩
          · first | (rw [show (k0 + 5 * (k : Int) + 2) = k0 + 5 * (k : Int) + 1 + 1 from by omega, show (k0 + 5 * (k : Int) + 3) = k0 + 5 * (k : Int) + 1 + 1 + 1 from by omega, show (k0 + 5 * (k : Int) + 4) = k0 + 5 * (k : Int) + 1 + 1 + 1 + 1 from by omega]; exact (((((HB.out.set_ _ _).set_ _ _).set_ _ _).set_ _ _).set_ _ _)) | exact (((((HB.out.set_ _ _).set_ _ _).set_ _ _).set_ _ _).set_ _ _)
          · by_cases e : j = k
            · subst e
              exact ⟨by rw [set_ne _ (by omega), set_ne _ (by omega), set_ne _ (by omega), set_ne _ (by omega), set_eq _ (by (try simp only [Array.size_setIfInBounds]); omega)], by rw [set_ne _ (by omega), set_ne _ (by omega), set_ne _ (by omega), set_eq _ (by (try simp only [Array.size_setIfInBounds]); omega)], by rw [set_ne _ (by omega), set_ne _ (by omega), set_eq _ (by (try simp only [Array.size_setIfInBounds]); omega)], by rw [set_ne _ (by omega), set_eq _ (by (try simp only [Array.size_setIfInBounds]); omega)], by rw [set_eq _ (by (try simp only [Array.size_setIfInBounds]); omega)]⟩
            · have h3 := HS.out j (by omega)
              exact ⟨by rw [set_ne _ (by omega), set_ne _ (by omega), set_ne _ (by omega), set_ne _ (by omega), set_ne _ (by omega)]; exact h3.1, by rw [set_ne _ (by omega), set_ne _ (by omega), set_ne _ (by omega), set_ne _ (by omega), set_ne _ (by omega)]; exact h3.2.1, by rw [set_ne _ (by omega), set_ne _ (by omega), set_ne _ (by omega), set_ne _ (by omega), set_ne _ (by omega)]; exact h3.2.2.1, by rw [set_ne _ (by omega), set_ne _ (by omega), set_ne _ (by omega), set_ne _ (by omega), set_ne _ (by omega)]; exact h3.2.2.2.1, by rw [set_ne _ (by omega), set_ne _ (by omega), set_ne _ (by omega), set_ne _ (by omega), set_ne _ (by omega)]; exact h3.2.2.2.2⟩
          · exact (((((hX.set_ (by simp) _ _).set_ (by simp) _ _).set_ (by simp) _ _).set_ (by simp) _ _).set_ (by simp) _ _)
        case measure => simp [intOf]; omega
      · have hkn : k = n := by omega
        clear hB hcs hsz
        go_wp2
        go_ret
        subst hkn
        refine ⟨rfl, hX, ⟨by rw [mkLegs_len], Hh.out.cap, Hh.out.max, .inr ⟨g, o, t, cs, fps, rfl, HB.out, rfl, by rw [mkLegs_len, Hfl.out, hlen.out], fun j x hx => ?_⟩⟩⟩
        obtain ⟨hj, rfl⟩ := mkLegs_at hx
        have h3 := HS.out j hj
        refine ⟨[.int .i64 (k0 + 5 * (j : Int)), .int .i64 (k0 + 5 * (j : Int) + 1), .int .i64 (k0 + 5 * (j : Int) + 2), .int .i64 (k0 + 5 * (j : Int) + 3), .int .i64 (k0 + 5 * (j : Int) + 4)], [], HE.out j l[j]?.get! (by rw [List.getElem?_eq_getElem (by have := hlen.out; omega)]; rfl), rfl, fun j' v hv => ?_, fun _ => ⟨rfl, ⟨by unfold I64; simp only; omega, by unfold I64; simp only; omega, by unfold I64; simp only; omega, by unfold I64; simp only; omega, by unfold I64; simp only; omega⟩⟩, rfl⟩
        match j', hv with
        | 0, hv => simp at hv; subst hv; simpa [Nat.add_assoc] using h3.1
        | 1, hv => simp at hv; subst hv; simpa [Nat.add_assoc] using h3.2.1
        | 2, hv => simp at hv; subst hv; simpa [Nat.add_assoc] using h3.2.2.1
        | 3, hv => simp at hv; subst hv; simpa [Nat.add_assoc] using h3.2.2.2.1
        | 4, hv => simp at hv; subst hv; simpa [Nat.add_assoc] using h3.2.2.2.2
theorem laws_heldLegS {w0 w : World} {A : Option Addr} {n c : Nat} {m : Nat} {k0 : Int} (h : Legs w0 A n c (mkLegs k0 m)) (hl : Later w0 w) (h0 : 0 ≤ k0) (h1 : k0 + 5 * m ≤ 4611686018427387904) :
    Calls Try.prog 42 #[.slice A n c, .int .i64 k0] w (Ret (.int .i64 (k0 + 5 * m)) w) := by
  replace h := h.later hl
  have hn := h.le
  obtain rfl : n = m := by rw [h.len, mkLegs_len]
  go_enter Try.func42, Try.ntmps42
  go_wp2
  go_loopw [1, 5] (fun q i wr => ∃ (k : Nat), k ≤ n ∧ i = .int .i64 k ∧ q = .int .i64 (k0 + 5 * k) ∧ Later w wr) (fun _ i _ => n - (intOf i).toNat)
  case atStart => exact ⟨0, by omega, rfl, by simp, inferInstance⟩
  case round =>
    obtain ⟨k, hk, rfl, rfl, hX⟩ := hrel
    by_cases hlt : k < n
    · obtain ⟨b, o, x, rfl, hx, hc0, hc1, hc2, hc3, hc4, hi⟩ := Legs.at_ h hlt
      obtain ⟨_, rfl⟩ := mkLegs_at hx.out
      clear hx hi
      have hb0 : ∀ a : Int, (a != a) = false := by simp
      go_wp2
      go_roundw
      case rel => exact ⟨k + 1, by omega, by go_num, by go_num, inferInstance⟩
      case measure => simp [intOf]; omega
    · have hkn : k = n := by omega
      go_wp2
      go_ret
      subst hkn
      exact ⟨rfl, inferInstance⟩
end Go.Proofs.Yteeeihnkofoagaa
