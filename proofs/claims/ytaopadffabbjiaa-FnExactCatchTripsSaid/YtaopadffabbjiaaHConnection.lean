/-
  Helpers of the statements on Connection and slices of it. Printed by a program of ours (gen_flat.py).
-/
import Derived.Test.YtaopadffabbjiaaInts
import Derived.StillTailTactics
namespace Go.Proofs.Ytaopadffabbjiaa
open Go Go.RowKit
set_option linter.unusedVariables false
set_option maxRecDepth 100000
theorem laws_eqConnection (a b : Connection) (w : World) : Calls Try.prog 71 #[.agg #[.int .i64 a.Id, .int .i64 a.Stop, .int .i64 a.Place, .int .i64 a.Time], .agg #[.int .i64 b.Id, .int .i64 b.Stop, .int .i64 b.Place, .int .i64 b.Time]] w (Ret (.bool (decide (a = b))) w) := by
  go_enter Try.func71, Try.ntmps71
  go_wp2
  all_goals
    go_ret
    exact ⟨ret_bool (by cases a; cases b; simp_all), inferInstance⟩
theorem laws_eqConnectionS {w0 w1 w : World} {A B : Option Addr} {n c m d : Nat} {l r : List Connection} (h : Connections w0 A n c l) (hl : Later w0 w) (h1 : Connections w1 B m d r) (hl1 : Later w1 w) :
    Calls Try.prog 23 #[.slice A n c, .slice B m d] w (Ret (.bool (decide (l = r))) w) := by
  replace h := h.later hl
  replace h1 := h1.later hl1
  have hn := h.le
  have hm := h1.le
  by_cases hnm : n = m
  · subst hnm
    have hcont : ((n : Int) != n) = false := by simp
    go_enter Try.func23, Try.ntmps23
    go_wp2
    go_loopw [5] (fun i wr => ∃ k : Nat, k ≤ n ∧ i = .int .i64 k ∧ Hid (l.drop k = r.drop k ↔ l = r) ∧ Later w wr) (fun i _ => n - (intOf i).toNat)
    case atStart => exact ⟨0, by omega, rfl, Iff.rfl, inferInstance⟩
    case round =>
      obtain ⟨k, hk, rfl, HF, hX⟩ := hrel
      by_cases hlt : k < n
      · obtain ⟨b, o, x, rfl, hx, hc0, hc1, hc2, hc3, hi⟩ := Connections.at_ h hlt
        obtain ⟨b', o', y, rfl, hy, hc0', hc1', hc2', hc3', hi'⟩ := Connections.at_ h1 hlt
        have hd := drop_at hx.out
        have hd' := drop_at hy.out
        clear hi hi'
        by_cases hxy : x = y
        · have HF2 : Hid (l.drop (k + 1) = r.drop (k + 1) ↔ l = r) := by rw [← HF.out, hd, hd', hxy]; show _ ↔ _; simp
          have hb : decide (x = y) = true := by simpa using hxy
          clear hxy hd hd'
          go_wp2_with fail
          go_still_tail 8, (by kernel_rfl)
          change wpList _ _ _ _ _ wr.drew
          go_wp2_with fail
          refine (laws_eqConnection _ _ _).mono ?_
          rintro e w2 ⟨rfl, hL⟩
          have hY := Later.trans (w := w) inferInstance hL
          go_wp2
          go_roundw
          case rel => exact ⟨k + 1, by omega, by go_num, HF2, inferInstance⟩
          case measure => simp [intOf]; omega
        · have HF2 : Hid (l ≠ r) := by rw [hd, hd'] at HF; intro e; have := HF.out.2 e; simp at this; exact hxy this.1
          have hb : decide (x = y) = false := by simpa using hxy
          clear hxy hd hd'
          go_wp2_with fail
          go_still_tail 8, (by kernel_rfl)
          change wpList _ _ _ _ _ wr.drew
          go_wp2_with fail
          refine (laws_eqConnection _ _ _).mono ?_
          rintro e w2 ⟨rfl, hL⟩
          have hY := Later.trans (w := w) inferInstance hL
          go_wp2
          go_ret
          exact ⟨ret_bool (by rw [decide_eq_false HF2.out]), inferInstance⟩
      · have H2 : Hid (l = r) := by
          rw [List.drop_eq_nil_of_le (by have := h.len; omega), List.drop_eq_nil_of_le (by have := h1.len; omega)] at HF
          exact HF.out.1 rfl
        go_wp2
        go_ret
        exact ⟨ret_bool (by rw [decide_eq_true H2.out]), inferInstance⟩
  · have H2 : Hid (l ≠ r) := by intro e; apply hnm; rw [h.len, h1.len, e]
    have hb : ((n : Int) != m) = true := by rw [bne_iff_ne]; omega
    clear hnm
    go_enter Try.func23, Try.ntmps23
    go_wp2
    go_ret
    exact ⟨ret_bool (by rw [decide_eq_false H2.out]), inferInstance⟩
def mkConnections (k : Int) (n : Nat) : List Connection := (List.range n).map fun (i : Nat) => ⟨k + 4 * (i : Int), k + 4 * (i : Int) + 1, k + 4 * (i : Int) + 2, k + 4 * (i : Int) + 3⟩
theorem mkConnections_len (k : Int) (n : Nat) : (mkConnections k n).length = n := by simp [mkConnections]
theorem mkConnections_at {k : Int} {n j : Nat} {x : Connection} (h : (mkConnections k n)[j]? = some x) : j < n ∧ x = ⟨k + 4 * (j : Int), k + 4 * (j : Int) + 1, k + 4 * (j : Int) + 2, k + 4 * (j : Int) + 3⟩ := by
  unfold mkConnections at h
  rw [List.getElem?_map] at h
  by_cases hj : j < n
  · rw [List.getElem?_range hj] at h; simp only [Option.map_some, Option.some.injEq] at h; exact ⟨hj, h.symm⟩
  · rw [List.getElem?_eq_none (by simpa using hj)] at h; simp at h
theorem laws_markConnectionS {w : World} {A : Option Addr} {n c : Nat} {l : List Connection} {fp : List Nat} {k0 : Int} (h : OSl 4 (oFlat rConnection) w A n c l fp) (h0 : 0 ≤ k0) (h1 : k0 + 4 * n ≤ 4611686018427387904) :
    Calls Try.prog 26 #[.slice A n c, .int .i64 k0] w (RetMk (k0 + 4 * n) fp (fun w' => OSl 4 (oFlat rConnection) w' A n c (mkConnections k0 n) fp) w) := by
  have hn : n ≤ 9223372036854775807 := Nat.le_trans h.cap h.max
  have Hh := Lib.hid h
  rcases h.own with ⟨rfl, rfl⟩ | ⟨g, o, t, cs0, fps, rfl, hB0, rfl, hfl, hel⟩
  · obtain rfl : n = 0 := Hh.out.len
    clear h
    go_enter Try.func26, Try.ntmps26
    go_wp2
    go_loop [1, 5] (fun q i => i = .int .i64 0 ∧ q = .int .i64 k0) (fun q i => 0)
    case atStart => exact ⟨rfl, rfl⟩
    case round =>
      obtain ⟨rfl, rfl⟩ := hrel
      go_wp2
      go_ret
      exact ⟨ret_int (by simp), Touch.refl_, by simpa [mkConnections] using Hh.out⟩
  · have hlen := Lib.hid h.len
    have HC : Hid (∀ j t, j < n → t < 4 → ∃ v, cs0[o + j * 4 + t]? = some v) := fun j t hj ht => by
      obtain ⟨es, f, _, he, hc, _⟩ := hel j l[j]?.get! (by rw [List.getElem?_eq_getElem (by have := hlen.out; omega)]; rfl)
      exact ⟨es[t], hc t _ (List.getElem?_eq_getElem (by omega))⟩
    have HE : Hid (∀ (k : Nat) (x : Connection), l[k]? = some x → fps[k]? = some []) := fun k x hx => by
      obtain ⟨es, f, hf, _, _, hr⟩ := hel k x hx
      rw [hf, hr.2]
    have HB0 := Lib.hid hB0
    have Hfl := Lib.hid hfl
    clear h hel hB0 hfl
    go_enter Try.func26, Try.ntmps26
    go_wp2
    go_loopw [1, 5] (fun q i wr => ∃ (k : Nat) (cs : Array Value), k ≤ n ∧ i = .int .i64 k ∧ q = .int .i64 (k0 + 4 * k) ∧ Blk wr g t cs ∧ cs.size = cs0.size ∧ (∀ j : Nat, j < k → cs[o + j * 4]? = some (.int .i64 (k0 + 4 * (j : Int))) ∧ cs[o + j * 4 + 1]? = some (.int .i64 (k0 + 4 * (j : Int) + 1)) ∧ cs[o + j * 4 + 2]? = some (.int .i64 (k0 + 4 * (j : Int) + 2)) ∧ cs[o + j * 4 + 3]? = some (.int .i64 (k0 + 4 * (j : Int) + 3))) ∧ Touch (g :: fps.flatten) w wr) (fun _ i _ => n - (intOf i).toNat)
    case atStart => exact ⟨0, cs0, by omega, rfl, by simp, HB0.out, rfl, fun j hj => by omega, Touch.refl_⟩
    case round =>
      obtain ⟨k, cs, hk, rfl, rfl, hB, hsz, hcs, hX⟩ := hrel
      have HB := Lib.hid hB
      have HS := Lib.hid hcs
      have Hsz := Lib.hid hsz
      by_cases hlt : k < n
      · have hok : o + k * 4 + 3 < cs.size := by
          obtain ⟨v, hv⟩ := HC.out k 3 hlt (by omega)
          have := (Array.getElem?_eq_some_iff.1 hv).1
          have := Hsz.out
          omega
        obtain ⟨v0, hv0⟩ := hB.get (i := o + k * 4) (by omega)
        obtain ⟨v1, hv1⟩ := hB.get (i := o + k * 4 + 1) (by omega)
        obtain ⟨v2, hv2⟩ := hB.get (i := o + k * 4 + 2) (by omega)
        obtain ⟨v3, hv3⟩ := hB.get (i := o + k * 4 + 3) (by omega)
        have hf0 := hB.frozen (o + k * 4)
        have hf1 := hB.frozen (o + k * 4 + 1)
        have hf2 := hB.frozen (o + k * 4 + 2)
        have hf3 := hB.frozen (o + k * 4 + 3)
        clear hB hcs hsz
        go_wp2
        go_roundw
        case rel =>
          refine ⟨k + 1, ((((cs.setIfInBounds (o + k * 4) (.int .i64 (k0 + 4 * k))).setIfInBounds (o + k * 4 + 1) (.int .i64 (k0 + 4 * k + 1))).setIfInBounds (o + k * 4 + 2) (.int .i64 (k0 + 4 * k + 2))).setIfInBounds (o + k * 4 + 3) (.int .i64 (k0 + 4 * k + 3))), by omega, by go_num, by go_num, ?_, by have := Hsz.out; simpa using this, fun j hj => ?_, ?_⟩
          · first | (rw [show (k0 + 4 * (k : Int) + 2) = k0 + 4 * (k : Int) + 1 + 1 from by omega, show (k0 + 4 * (k : Int) + 3) = k0 + 4 * (k : Int) + 1 + 1 + 1 from by omega]; exact ((((HB.out.set_ _ _).set_ _ _).set_ _ _).set_ _ _)) | exact ((((HB.out.set_ _ _).set_ _ _).set_ _ _).set_ _ _)
          · by_cases e : j = k
            · subst e
              exact ⟨by rw [set_ne _ (by omega), set_ne _ (by omega), set_ne _ (by omega), set_eq _ (by (try simp only [Array.size_setIfInBounds]); omega)], by rw [set_ne _ (by omega), set_ne _ (by omega), set_eq _ (by (try simp only [Array.size_setIfInBounds]); omega)], by rw [set_ne _ (by omega), set_eq _ (by (try simp only [Array.size_setIfInBounds]); omega)], by rw [set_eq _ (by (try simp only [Array.size_setIfInBounds]); omega)]⟩
            · have h3 := HS.out j (by omega)
              exact ⟨by rw [set_ne _ (by omega), set_ne _ (by omega), set_ne _ (by omega), set_ne _ (by omega)]; exact h3.1, by rw [set_ne _ (by omega), set_ne _ (by omega), set_ne _ (by omega), set_ne _ (by omega)]; exact h3.2.1, by rw [set_ne _ (by omega), set_ne _ (by omega), set_ne _ (by omega), set_ne _ (by omega)]; exact h3.2.2.1, by rw [set_ne _ (by omega), set_ne _ (by omega), set_ne _ (by omega), set_ne _ (by omega)]; exact h3.2.2.2⟩
          · exact ((((hX.set_ (by simp) _ _).set_ (by simp) _ _).set_ (by simp) _ _).set_ (by simp) _ _)
        case measure => simp [intOf]; omega
      · have hkn : k = n := by omega
        clear hB hcs hsz
        go_wp2
        go_ret
        subst hkn
        refine ⟨rfl, hX, ⟨by rw [mkConnections_len], Hh.out.cap, Hh.out.max, .inr ⟨g, o, t, cs, fps, rfl, HB.out, rfl, by rw [mkConnections_len, Hfl.out, hlen.out], fun j x hx => ?_⟩⟩⟩
        obtain ⟨hj, rfl⟩ := mkConnections_at hx
        have h3 := HS.out j hj
        refine ⟨[.int .i64 (k0 + 4 * (j : Int)), .int .i64 (k0 + 4 * (j : Int) + 1), .int .i64 (k0 + 4 * (j : Int) + 2), .int .i64 (k0 + 4 * (j : Int) + 3)], [], HE.out j l[j]?.get! (by rw [List.getElem?_eq_getElem (by have := hlen.out; omega)]; rfl), rfl, fun j' v hv => ?_, fun _ => ⟨rfl, ⟨by unfold I64; simp only; omega, by unfold I64; simp only; omega, by unfold I64; simp only; omega, by unfold I64; simp only; omega⟩⟩, rfl⟩
        match j', hv with
        | 0, hv => simp at hv; subst hv; simpa [Nat.add_assoc] using h3.1
        | 1, hv => simp at hv; subst hv; simpa [Nat.add_assoc] using h3.2.1
        | 2, hv => simp at hv; subst hv; simpa [Nat.add_assoc] using h3.2.2.1
        | 3, hv => simp at hv; subst hv; simpa [Nat.add_assoc] using h3.2.2.2
theorem laws_heldConnectionS {w0 w : World} {A : Option Addr} {n c : Nat} {m : Nat} {k0 : Int} (h : Connections w0 A n c (mkConnections k0 m)) (hl : Later w0 w) (h0 : 0 ≤ k0) (h1 : k0 + 4 * m ≤ 4611686018427387904) :
    Calls Try.prog 27 #[.slice A n c, .int .i64 k0] w (Ret (.int .i64 (k0 + 4 * m)) w) := by
  replace h := h.later hl
  have hn := h.le
  obtain rfl : n = m := by rw [h.len, mkConnections_len]
  go_enter Try.func27, Try.ntmps27
  go_wp2
  go_loopw [1, 5] (fun q i wr => ∃ (k : Nat), k ≤ n ∧ i = .int .i64 k ∧ q = .int .i64 (k0 + 4 * k) ∧ Later w wr) (fun _ i _ => n - (intOf i).toNat)
  case atStart => exact ⟨0, by omega, rfl, by simp, inferInstance⟩
  case round =>
    obtain ⟨k, hk, rfl, rfl, hX⟩ := hrel
    by_cases hlt : k < n
    · obtain ⟨b, o, x, rfl, hx, hc0, hc1, hc2, hc3, hi⟩ := Connections.at_ h hlt
      obtain ⟨_, rfl⟩ := mkConnections_at hx.out
      clear hx hi
      have hb0 : ∀ a : Int, (a != a) = false := by simp
      go_wp2
      go_roundw
      case rel => exact ⟨k + 1, by omega, by go_num, by go_num, inferInstance⟩
      case measure => simp [intOf]; omega
    · have hkn : k = n := by omega
      go_wp2
      go_ret
      subst hkn
      exact ⟨rfl, inferInstance⟩
end Go.Proofs.Ytaopadffabbjiaa
