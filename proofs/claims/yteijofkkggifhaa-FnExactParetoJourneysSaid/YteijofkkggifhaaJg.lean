/-
  Helpers of the statements on Leg and slices of it. Printed by a program of ours (gen_flat.py).
  Helpers of the statements on slices of slices of legs: equality, marks.
-/
import Derived.Test.YteijofkkggifhaaInts
import Derived.StillTailTactics
import Derived.Test.YteijofkkggifhaaNest
import Derived.Test.YteijofkkggifhaaFirstQ
namespace Go.Proofs.Yteijofkkggifhaa
open Go Go.RowKit
set_option linter.unusedVariables false
set_option maxRecDepth 100000
theorem laws_eqLeg (a b : Leg) (w : World) : Calls Try.prog 81 #[.agg #[.int .i64 a.Trip, .int .i64 a.From, .int .i64 a.To, .int .i64 a.Depart, .int .i64 a.Arrive], .agg #[.int .i64 b.Trip, .int .i64 b.From, .int .i64 b.To, .int .i64 b.Depart, .int .i64 b.Arrive]] w (Ret (.bool (decide (a = b))) w) := by
  go_enter Try.func81, Try.ntmps81
  go_wp2
  all_goals
    go_ret
    exact ⟨ret_bool (by cases a; cases b; simp_all), inferInstance⟩
theorem laws_eqLegS {w0 w1 w : World} {A B : Option Addr} {n c m d : Nat} {l r : List Leg} (h : Legs w0 A n c l) (hl : Later w0 w) (h1 : Legs w1 B m d r) (hl1 : Later w1 w) :
    Calls Try.prog 20 #[.slice A n c, .slice B m d] w (Ret (.bool (decide (l = r))) w) := by
  replace h := h.later hl
  replace h1 := h1.later hl1
  have hn := h.le
  have hm := h1.le
  by_cases hnm : n = m
  · subst hnm
    have hcont : ((n : Int) != n) = false := by simp
    go_enter Try.func20, Try.ntmps20
    go_wp2
    go_loopw [5] (fun i wr => ∃ k : Nat, k ≤ n ∧ i = .int .i64 k ∧ Hid (l.drop k = r.drop k ↔ l = r) ∧ Later w wr) (fun i _ => n - (intOf i).toNat)
    case atStart => exact ⟨0, by omega, rfl, Iff.rfl, inferInstance⟩
    case round =>
      obtain ⟨k, hk, rfl, HF, hX⟩ := hrel
      by_cases hlt : k < n
      · obtain ⟨b, o, x, rfl, hx, hc0, hc1, hc2, hc3, hc4, hi⟩ := Legs.at_ h hlt
        obtain ⟨b', o', y, rfl, hy, hc0', hc1', hc2', hc3', hc4', hi'⟩ := Legs.at_ h1 hlt
        have hd := drop_at hx.out
        have hd' := drop_at hy.out
        clear hi hi'
        by_cases hxy : x = y
        · have HF2 : Hid (l.drop (k + 1) = r.drop (k + 1) ↔ l = r) := by rw [← HF.out, hd, hd', hxy]; show _ ↔ _; simp
          have hb : decide (x = y) = true := by simpa using hxy
          clear hxy hd hd'
          go_wp2_with fail
          go_still_tail 8, (by kernel_rfl)
          change wpList _ _ _ _ _ wr.drew
          go_wp2_with fail
          refine (laws_eqLeg _ _ _).mono ?_
          rintro e w2 ⟨rfl, hL⟩
          have hY := Later.trans (w := w) inferInstance hL
          go_wp2
          go_roundw
          case rel => exact ⟨k + 1, by omega, by go_num, HF2, inferInstance⟩
          case measure => simp [intOf]; omega
        · have HF2 : Hid (l ≠ r) := by rw [hd, hd'] at HF; intro e; have := HF.out.2 e; simp at this; exact hxy this.1
          have hb : decide (x = y) = false := by simpa using hxy
          clear hxy hd hd'
          go_wp2_with fail
          go_still_tail 8, (by kernel_rfl)
          change wpList _ _ _ _ _ wr.drew
          go_wp2_with fail
          refine (laws_eqLeg _ _ _).mono ?_
          rintro e w2 ⟨rfl, hL⟩
          have hY := Later.trans (w := w) inferInstance hL
          go_wp2
          go_ret
          exact ⟨ret_bool (by rw [decide_eq_false HF2.out]), inferInstance⟩
      · have H2 : Hid (l = r) := by
          rw [List.drop_eq_nil_of_le (by have := h.len; omega), List.drop_eq_nil_of_le (by have := h1.len; omega)] at HF
          exact HF.out.1 rfl
        go_wp2
        go_ret
        exact ⟨ret_bool (by rw [decide_eq_true H2.out]), inferInstance⟩
  · have H2 : Hid (l ≠ r) := by intro e; apply hnm; rw [h.len, h1.len, e]
    have hb : ((n : Int) != m) = true := by rw [bne_iff_ne]; omega
    clear hnm
    go_enter Try.func20, Try.ntmps20
    go_wp2
    go_ret
    exact ⟨ret_bool (by rw [decide_eq_false H2.out]), inferInstance⟩
def mkLegs (k : Int) (n : Nat) : List Leg := (List.range n).map fun (i : Nat) => ⟨k + 5 * (i : Int), k + 5 * (i : Int) + 1, k + 5 * (i : Int) + 2, k + 5 * (i : Int) + 3, k + 5 * (i : Int) + 4⟩
theorem mkLegs_len (k : Int) (n : Nat) : (mkLegs k n).length = n := by simp [mkLegs]
theorem mkLegs_at {k : Int} {n j : Nat} {x : Leg} (h : (mkLegs k n)[j]? = some x) : j < n ∧ x = ⟨k + 5 * (j : Int), k + 5 * (j : Int) + 1, k + 5 * (j : Int) + 2, k + 5 * (j : Int) + 3, k + 5 * (j : Int) + 4⟩ := by
  unfold mkLegs at h
  rw [List.getElem?_map] at h
  by_cases hj : j < n
  · rw [List.getElem?_range hj] at h; simp only [Option.map_some, Option.some.injEq] at h; exact ⟨hj, h.symm⟩
  · rw [List.getElem?_eq_none (by simpa using hj)] at h; simp at h
theorem laws_markLegS {w : World} {A : Option Addr} {n c : Nat} {l : List Leg} {fp : List Nat} {k0 : Int} (h : OSl 5 (oFlat rLeg) w A n c l fp) (h0 : 0 ≤ k0) (h1 : k0 + 5 * n ≤ 4611686018427387904) :
    Calls Try.prog 22 #[.slice A n c, .int .i64 k0] w (RetMk (k0 + 5 * n) fp (fun w' => OSl 5 (oFlat rLeg) w' A n c (mkLegs k0 n) fp) w) := by
  have hn : n ≤ 9223372036854775807 := Nat.le_trans h.cap h.max
  have Hh := Lib.hid h
  rcases h.own with ⟨rfl, rfl⟩ | ⟨g, o, t, cs0, fps, rfl, hB0, rfl, hfl, hel⟩
  · obtain rfl : n = 0 := Hh.out.len
    clear h
    go_enter Try.func22, Try.ntmps22
    go_wp2
    go_loop [1, 5] (fun q i => i = .int .i64 0 ∧ q = .int .i64 k0) (fun q i => 0)
    case atStart => exact ⟨rfl, rfl⟩
    case round =>
      obtain ⟨rfl, rfl⟩ := hrel
      go_wp2
      go_ret
      exact ⟨ret_int (by simp), Touch.refl_, by simpa [mkLegs] using Hh.out⟩
  · have hlen := Lib.hid h.len
    have HC : Hid (∀ j t, j < n → t < 5 → ∃ v, cs0[o + j * 5 + t]? = some v) := fun j t hj ht => by
      obtain ⟨es, f, _, he, hc, _⟩ := hel j l[j]?.get! (by rw [List.getElem?_eq_getElem (by have := hlen.out; omega)]; rfl)
      exact ⟨es[t], hc t _ (List.getElem?_eq_getElem (by omega))⟩
    have HE : Hid (∀ (k : Nat) (x : Leg), l[k]? = some x → fps[k]? = some []) := fun k x hx => by
      obtain ⟨es, f, hf, _, _, hr⟩ := hel k x hx
      rw [hf, hr.2]
    have HB0 := Lib.hid hB0
    have Hfl := Lib.hid hfl
    clear h hel hB0 hfl
    go_enter Try.func22, Try.ntmps22
    go_wp2
    go_loopw [1, 5] (fun q i wr => ∃ (k : Nat) (cs : Array Value), k ≤ n ∧ i = .int .i64 k ∧ q = .int .i64 (k0 + 5 * k) ∧ Blk wr g t cs ∧ cs.size = cs0.size ∧ (∀ j : Nat, j < k → cs[o + j * 5]? = some (.int .i64 (k0 + 5 * (j : Int))) ∧ cs[o + j * 5 + 1]? = some (.int .i64 (k0 + 5 * (j : Int) + 1)) ∧ cs[o + j * 5 + 2]? = some (.int .i64 (k0 + 5 * (j : Int) + 2)) ∧ cs[o + j * 5 + 3]? = some (.int .i64 (k0 + 5 * (j : Int) + 3)) ∧ cs[o + j * 5 + 4]? = some (.int .i64 (k0 + 5 * (j : Int) + 4))) ∧ Touch (g :: fps.flatten) w wr) (fun _ i _ => n - (intOf i).toNat)
    case atStart => exact ⟨0, cs0, by omega, rfl, by simp, HB0.out, rfl, fun j hj => by omega, Touch.refl_⟩
    case round =>
      obtain ⟨k, cs, hk, rfl, rfl, hB, hsz, hcs, hX⟩ := hrel
      have HB := Lib.hid hB
      have HS := Lib.hid hcs
      have Hsz := Lib.hid hsz
      by_cases hlt : k < n
      · have hok : o + k * 5 + 4 < cs.size := by
          obtain ⟨v, hv⟩ := HC.out k 4 hlt (by omega)
          have := (Array.getElem?_eq_some_iff.1 hv).1
          have := Hsz.out
          omega
        obtain ⟨v0, hv0⟩ := hB.get (i := o + k * 5) (by omega)
        obtain ⟨v1, hv1⟩ := hB.get (i := o + k * 5 + 1) (by omega)
        obtain ⟨v2, hv2⟩ := hB.get (i := o + k * 5 + 2) (by omega)
        obtain ⟨v3, hv3⟩ := hB.get (i := o + k * 5 + 3) (by omega)
        obtain ⟨v4, hv4⟩ := hB.get (i := o + k * 5 + 4) (by omega)
        have hf0 := hB.frozen (o + k * 5)
        have hf1 := hB.frozen (o + k * 5 + 1)
        have hf2 := hB.frozen (o + k * 5 + 2)
        have hf3 := hB.frozen (o + k * 5 + 3)
        have hf4 := hB.frozen (o + k * 5 + 4)
        clear hB hcs hsz
        go_wp2
        go_roundw
        case rel =>
          refine ⟨k + 1, (((((cs.setIfInBounds (o + k * 5) (.int .i64 (k0 + 5 * k))).setIfInBounds (o + k * 5 + 1) (.int .i64 (k0 + 5 * k + 1))).setIfInBounds (o + k * 5 + 2) (.int .i64 (k0 + 5 * k + 2))).setIfInBounds (o + k * 5 + 3) (.int .i64 (k0 + 5 * k + 3))).setIfInBounds (o + k * 5 + 4) (.int .i64 (k0 + 5 * k + 4))), by omega, by go_num, by go_num, ?_, by have := Hsz.out; simpa using this, fun j hj => ?_, ?_⟩
          · first | (rw [show (k0 + 5 * (k : Int) + 2) = k0 + 5 * (k : Int) + 1 + 1 from by omega, show (k0 + 5 * (k : Int) + 3) = k0 + 5 * (k : Int) + 1 + 1 + 1 from by omega, show (k0 + 5 * (k : Int) + 4) = k0 + 5 * (k : Int) + 1 + 1 + 1 + 1 from by omega]; exact (((((HB.out.set_ _ _).set_ _ _).set_ _ _).set_ _ _).set_ _ _)) | exact (((((HB.out.set_ _ _).set_ _ _).set_ _ _).set_ _ _).set_ _ _)
          · by_cases e : j = k
            · subst e
              exact ⟨by rw [set_ne _ (by omega), set_ne _ (by omega), set_ne _ (by omega), set_ne _ (by omega), set_eq _ (by (try simp only [Array.size_setIfInBounds]); omega)], by rw [set_ne _ (by omega), set_ne _ (by omega), set_ne _ (by omega), set_eq _ (by (try simp only [Array.size_setIfInBounds]); omega)], by rw [set_ne _ (by omega), set_ne _ (by omega), set_eq _ (by (try simp only [Array.size_setIfInBounds]); omega)], by rw [set_ne _ (by omega), set_eq _ (by (try simp only [Array.size_setIfInBounds]); omega)], by rw [set_eq _ (by (try simp only [Array.size_setIfInBounds]); omega)]⟩
            · have h3 := HS.out j (by omega)
              exact ⟨by rw [set_ne _ (by omega), set_ne _ (by omega), set_ne _ (by omega), set_ne _ (by omega), set_ne _ (by omega)]; exact h3.1, by rw [set_ne _ (by omega), set_ne _ (by omega), set_ne _ (by omega), set_ne _ (by omega), set_ne _ (by omega)]; exact h3.2.1, by rw [set_ne _ (by omega), set_ne _ (by omega), set_ne _ (by omega), set_ne _ (by omega), set_ne _ (by omega)]; exact h3.2.2.1, by rw [set_ne _ (by omega), set_ne _ (by omega), set_ne _ (by omega), set_ne _ (by omega), set_ne _ (by omega)]; exact h3.2.2.2.1, by rw [set_ne _ (by omega), set_ne _ (by omega), set_ne _ (by omega), set_ne _ (by omega), set_ne _ (by omega)]; exact h3.2.2.2.2⟩
          · exact (((((hX.set_ (by simp) _ _).set_ (by simp) _ _).set_ (by simp) _ _).set_ (by simp) _ _).set_ (by simp) _ _)
        case measure => simp [intOf]; omega
      · have hkn : k = n := by omega
        clear hB hcs hsz
        go_wp2
        go_ret
        subst hkn
        refine ⟨rfl, hX, ⟨by rw [mkLegs_len], Hh.out.cap, Hh.out.max, .inr ⟨g, o, t, cs, fps, rfl, HB.out, rfl, by rw [mkLegs_len, Hfl.out, hlen.out], fun j x hx => ?_⟩⟩⟩
        obtain ⟨hj, rfl⟩ := mkLegs_at hx
        have h3 := HS.out j hj
        refine ⟨[.int .i64 (k0 + 5 * (j : Int)), .int .i64 (k0 + 5 * (j : Int) + 1), .int .i64 (k0 + 5 * (j : Int) + 2), .int .i64 (k0 + 5 * (j : Int) + 3), .int .i64 (k0 + 5 * (j : Int) + 4)], [], HE.out j l[j]?.get! (by rw [List.getElem?_eq_getElem (by have := hlen.out; omega)]; rfl), rfl, fun j' v hv => ?_, fun _ => ⟨rfl, ⟨by unfold I64; simp only; omega, by unfold I64; simp only; omega, by unfold I64; simp only; omega, by unfold I64; simp only; omega, by unfold I64; simp only; omega⟩⟩, rfl⟩
        match j', hv with
        | 0, hv => simp at hv; subst hv; simpa [Nat.add_assoc] using h3.1
        | 1, hv => simp at hv; subst hv; simpa [Nat.add_assoc] using h3.2.1
        | 2, hv => simp at hv; subst hv; simpa [Nat.add_assoc] using h3.2.2.1
        | 3, hv => simp at hv; subst hv; simpa [Nat.add_assoc] using h3.2.2.2.1
        | 4, hv => simp at hv; subst hv; simpa [Nat.add_assoc] using h3.2.2.2.2
theorem laws_heldLegS {w0 w : World} {A : Option Addr} {n c : Nat} {m : Nat} {k0 : Int} (h : Legs w0 A n c (mkLegs k0 m)) (hl : Later w0 w) (h0 : 0 ≤ k0) (h1 : k0 + 5 * m ≤ 4611686018427387904) :
    Calls Try.prog 23 #[.slice A n c, .int .i64 k0] w (Ret (.int .i64 (k0 + 5 * m)) w) := by
  replace h := h.later hl
  have hn := h.le
  obtain rfl : n = m := by rw [h.len, mkLegs_len]
  go_enter Try.func23, Try.ntmps23
  go_wp2
  go_loopw [1, 5] (fun q i wr => ∃ (k : Nat), k ≤ n ∧ i = .int .i64 k ∧ q = .int .i64 (k0 + 5 * k) ∧ Later w wr) (fun _ i _ => n - (intOf i).toNat)
  case atStart => exact ⟨0, by omega, rfl, by simp, inferInstance⟩
  case round =>
    obtain ⟨k, hk, rfl, rfl, hX⟩ := hrel
    by_cases hlt : k < n
    · obtain ⟨b, o, x, rfl, hx, hc0, hc1, hc2, hc3, hc4, hi⟩ := Legs.at_ h hlt
      obtain ⟨_, rfl⟩ := mkLegs_at hx.out
      clear hx hi
      have hb0 : ∀ a : Int, (a != a) = false := by simp
      go_wp2
      go_roundw
      case rel => exact ⟨k + 1, by omega, by go_num, by go_num, inferInstance⟩
      case measure => simp [intOf]; omega
    · have hkn : k = n := by omega
      go_wp2
      go_ret
      subst hkn
      exact ⟨rfl, inferInstance⟩
end Go.Proofs.Yteijofkkggifhaa
namespace Go.Proofs.Yteijofkkggifhaa
open Go Go.RowKit
set_option linter.unusedVariables false
set_option maxRecDepth 100000
def sumLegs : List (List Leg) → Nat
  | [] => 0
  | x :: l => 5 * x.length + sumLegs l
theorem sumLegs_drop {l : List (List Leg)} {k : Nat} {x : List Leg} (h : l[k]? = some x) : sumLegs (l.drop k) = 5 * x.length + sumLegs (l.drop (k + 1)) := by rw [drop_at h]; rfl
abbrev oLRows : ORep (List Leg) := oSl 5 (oFlat rLeg)
abbrev LRows := Sl 1 (rSl 5 rLeg)
theorem parGo_sum (t : Timetable) (change from_ to at_ : Int) (f : Nat) : ∀ m best, 1 ≤ m → m + f ≤ 5 → sumLegs (parGo t change from_ to at_ f m best) ≤ 20 * f := by
  induction f with
  | zero => intro m best _ _; simp [parGo, sumLegs]
  | succ f ih =>
    intro m best hm hf
    simp only [parGo]
    split
    · have h1 := ih (m + 1) (arrV t change from_ at_ m to) (by omega) (by omega)
      have h2 := firstJ_len (t := t) (change := change) (from_ := from_) (to := to) (at_ := at_) m hm
      simp only [sumLegs]; omega
    · have := ih (m + 1) best (by omega) (by omega); omega
theorem parRes_bd (t : Timetable) (change from_ to at_ : Int) : (parRes t change from_ to at_).1.length ≤ 4 ∧ sumLegs (parRes t change from_ to at_).1 ≤ 80 := by
  refine ⟨parRes_len t change from_ to at_, ?_⟩
  unfold parRes
  split
  · exact parGo_sum t change from_ to at_ 4 1 never (by omega) (by omega)
  · simp [sumLegs]
theorem laws_eqLegSS {w0 w1 w : World} {A B : Option Addr} {n c m d : Nat} {l r : List (List Leg)} (h : LRows w0 A n c l) (hl : Later w0 w) (h1 : LRows w1 B m d r) (hl1 : Later w1 w) :
    Calls Try.prog 26 #[.slice A n c, .slice B m d] w (Ret (.bool (decide (l = r))) w) := by
  replace h := h.later hl
  replace h1 := h1.later hl1
  have hn := h.le
  have hm := h1.le
  by_cases hnm : n = m
  · subst hnm
    have hcont : ((n : Int) != n) = false := by simp
    go_enter Try.func26, Try.ntmps26
    go_wp2
    go_loopw [5] (fun i wr => ∃ k : Nat, k ≤ n ∧ i = .int .i64 k ∧ Hid (l.drop k = r.drop k ↔ l = r) ∧ Later w wr) (fun i _ => n - (intOf i).toNat)
    case atStart => exact ⟨0, by omega, rfl, Iff.rfl, inferInstance⟩
    case round =>
      obtain ⟨k, hk, rfl, HF, hX⟩ := hrel
      by_cases hlt : k < n
      · obtain ⟨b, o, A1, n1, c1, x, rfl, hx, hc0, hi⟩ := Sl.row_ h hlt
        obtain ⟨b', o', A2, n2, c2, y, rfl, hy, hc0', hi'⟩ := Sl.row_ h1 hlt
        have hd := drop_at hx.out
        have hd' := drop_at hy.out
        have HI := Lib.hid hi
        have HI' := Lib.hid hi'
        clear hi hi'
        by_cases hxy : x = y
        · have HF2 : Hid (l.drop (k + 1) = r.drop (k + 1) ↔ l = r) := by rw [← HF.out, hd, hd', hxy]; show _ ↔ _; simp
          have hb : decide (x = y) = true := by simpa using hxy
          clear hxy hd hd'
          go_wp2_with fail
          go_still_tail 8, (by kernel_rfl)
          change wpList _ _ _ _ _ wr.drew
          go_wp2_with fail
          refine (laws_eqLegS HI.out inferInstance HI'.out inferInstance).mono ?_
          rintro e w2 ⟨rfl, hL⟩
          have hY := Later.trans (w := w) inferInstance hL
          go_wp2
          go_roundw
          case rel => exact ⟨k + 1, by omega, by go_num, HF2, inferInstance⟩
          case measure => simp [intOf]; omega
        · have HF2 : Hid (l ≠ r) := by rw [hd, hd'] at HF; intro e; have := HF.out.2 e; simp at this; exact hxy this.1
          have hb : decide (x = y) = false := by simpa using hxy
          clear hxy hd hd'
          go_wp2_with fail
          go_still_tail 8, (by kernel_rfl)
          change wpList _ _ _ _ _ wr.drew
          go_wp2_with fail
          refine (laws_eqLegS HI.out inferInstance HI'.out inferInstance).mono ?_
          rintro e w2 ⟨rfl, hL⟩
          have hY := Later.trans (w := w) inferInstance hL
          go_wp2
          go_ret
          exact ⟨ret_bool (by rw [decide_eq_false HF2.out]), inferInstance⟩
      · have H2 : Hid (l = r) := by
          rw [List.drop_eq_nil_of_le (by have := h.len; omega), List.drop_eq_nil_of_le (by have := h1.len; omega)] at HF
          exact HF.out.1 rfl
        go_wp2
        go_ret
        exact ⟨ret_bool (by rw [decide_eq_true H2.out]), inferInstance⟩
  · have H2 : Hid (l ≠ r) := by intro e; apply hnm; rw [h.len, h1.len, e]
    have hb : ((n : Int) != m) = true := by rw [bne_iff_ne]; omega
    clear hnm
    go_enter Try.func26, Try.ntmps26
    go_wp2
    go_ret
    exact ⟨ret_bool (by rw [decide_eq_false H2.out]), inferInstance⟩
def mkLRows : Int → List (List Leg) → List (List Leg)
  | _, [] => []
  | k, x :: l => mkLegs k x.length :: mkLRows (k + 5 * x.length) l
theorem mkLRows_len (k : Int) (l : List (List Leg)) : (mkLRows k l).length = l.length := by
  induction l generalizing k with
  | nil => rfl
  | cons x l ih => simp [mkLRows, ih]
theorem laws_markLegSS {w : World} {A : Option Addr} {n c : Nat} {l : List (List Leg)} {fp : List Nat} {k0 : Int} (h : OSl 1 oLRows w A n c l fp) (hnd : fp.Nodup) (h0 : 0 ≤ k0) (h1 : k0 + sumLegs l ≤ 4611686018427387904) :
    Calls Try.prog 27 #[.slice A n c, .int .i64 k0] w (RetMk (k0 + sumLegs l) fp (fun w' => OSl 1 oLRows w' A n c (mkLRows k0 l) fp) w) := by
  have hn : n ≤ 9223372036854775807 := Nat.le_trans h.cap h.max
  go_enter Try.func27, Try.ntmps27
  go_wp2
  go_loopw [1, 5] (fun q i wr => ∃ (k : Nat) (r : Int) (cur : List (List Leg)), k ≤ n ∧ i = .int .i64 k ∧ q = .int .i64 r ∧ 0 ≤ r ∧ Hid (r + sumLegs (l.drop k) = k0 + sumLegs l) ∧ Hid (cur.drop k = l.drop k ∧ cur.take k ++ mkLRows r (l.drop k) = mkLRows k0 l) ∧ OSl 1 oLRows wr A n c cur fp ∧ Touch fp w wr) (fun _ i _ => n - (intOf i).toNat)
  case atStart => exact ⟨0, k0, l, by omega, rfl, rfl, h0, rfl, ⟨rfl, by simp⟩, h, Touch.refl_⟩
  case round =>
    obtain ⟨k, r, cur, hk, rfl, rfl, hr0, HF, HD, ho, hT⟩ := hrel
    by_cases hlt : k < n
    · have hlen := ho.len
      have hcl : k < cur.length := by omega
      have hx : cur[k]? = some cur[k] := List.getElem?_eq_getElem hcl
      generalize cur[k] = x at hx
      have hlx : l[k]? = some x := by
        have h2 : (cur.drop k)[0]? = some x := by simpa using hx
        rw [HD.out.1] at h2; simpa using h2
      obtain ⟨g, o, t, cs, es, f, rfl, hB, hgf, hgn, hfs, hfn, hes, hcs, ⟨A1, n1, c1, rfl, hro⟩, hset⟩ := ho.elem hnd hx
      have hc : wr.cell? ⟨g, o + k, none⟩ = some (.slice A1 n1 c1) := by rw [hB.cell]; simpa using hcs 0 _ rfl
      have hxl := hro.len
      have hsd := sumLegs_drop hlx
      have HS := Lib.hid hset
      have Hx := Lib.hid hx
      have Hlx := Lib.hid hlx
      have HB := Lib.hid hB
      have hb1 : r + 5 * (n1 : Int) ≤ 4611686018427387904 := by have := HF.out; omega
      have HF2 : Hid (r + 5 * n1 + sumLegs (l.drop (k + 1)) = k0 + sumLegs l) := by have := HF.out; show _ = _; omega
      have Hxl := Lib.hid hxl
      clear hset hx hlx hB hxl hsd hlen hcs
      go_wp2_with fail
      refine (laws_markLegS hro hr0 hb1).mono ?_
      rintro e w1 ⟨rfl, T1, o1⟩
      have o2 := HS.out w1 cs [.slice A1 n1 c1] (mkLegs r n1) (T1.mono fun b hb => List.mem_cons_of_mem _ hb) ((T1.block g HB.out.lt hgn).trans HB.out) (fun _ _ => rfl) rfl (fun j v hv => by
        match j, hv with
        | 0, hv =>
          simp at hv; subst hv
          have := HB.out.cell (o + k)
          rw [hc] at this
          simpa using this.symm) ⟨A1, n1, c1, rfl, o1⟩
      have T2 := hT.trans (T1.mono hfs)
      clear T1 o1
      go_wp2
      go_roundw
      case rel =>
        refine ⟨k + 1, r + 5 * n1, cur.set k (mkLegs r n1), by omega, by go_num, rfl, by omega, HF2, ⟨?_, ?_⟩, o2, T2⟩
        · have h3 := HD.out.1
          rw [drop_at Hx.out, drop_at Hlx.out] at h3
          rw [List.drop_set_of_lt (by omega)]
          exact (List.cons.inj h3).2
        · have h3 := HD.out.2
          rw [drop_at Hlx.out] at h3
          rw [← h3, List.take_set, List.take_succ_eq_append_getElem hcl, List.set_append_right _ _ (by simp; omega)]
          simp [mkLRows, ← Hxl.out, Nat.min_eq_left (Nat.le_of_lt hcl)]
      case measure => simp [intOf]; omega
    · have hkn : k = n := by omega
      have hlen := ho.len
      have hll := h.len
      have H3 : Hid (r = k0 + sumLegs l ∧ cur = mkLRows k0 l) := by
        have h3 := HF.out
        have h4 := HD.out.2
        rw [List.drop_eq_nil_of_le (by omega)] at h3 h4
        refine ⟨by simpa [sumLegs] using h3, ?_⟩
        rw [← h4, List.take_of_length_le (by omega)]
        simp [mkLRows]
      clear hlen hll
      go_wp2
      go_ret
      obtain ⟨h3, h4⟩ := H3
      subst h4
      exact ⟨ret_int h3, hT, ho⟩
theorem laws_heldLegSS {w0 w : World} {A : Option Addr} {n c : Nat} {m : List (List Leg)} {k0 : Int} (h : LRows w0 A n c (mkLRows k0 m)) (hl : Later w0 w) (h0 : 0 ≤ k0) (h1 : k0 + sumLegs m ≤ 4611686018427387904) :
    Calls Try.prog 28 #[.slice A n c, .int .i64 k0] w (Ret (.int .i64 (k0 + sumLegs m)) w) := by
  replace h := h.later hl
  have hn := h.le
  have hlen := h.len
  rw [mkLRows_len] at hlen
  have Hlen := Lib.hid hlen
  clear hlen
  go_enter Try.func28, Try.ntmps28
  go_wp2
  go_loopw [1, 5] (fun q i wr => ∃ (k : Nat) (r : Int), k ≤ n ∧ i = .int .i64 k ∧ q = .int .i64 r ∧ 0 ≤ r ∧ Hid (r + sumLegs (m.drop k) = k0 + sumLegs m ∧ (mkLRows k0 m).drop k = mkLRows r (m.drop k)) ∧ Later w wr) (fun _ i _ => n - (intOf i).toNat)
  case atStart => exact ⟨0, k0, by omega, rfl, rfl, h0, ⟨rfl, rfl⟩, inferInstance⟩
  case round =>
    obtain ⟨k, r, hk, rfl, rfl, hr0, HF, hX⟩ := hrel
    by_cases hlt : k < n
    · obtain ⟨b, o, A1, n1, c1, x, rfl, hx, hc, hi⟩ := Sl.row_ h hlt
      have hkm : k < m.length := by have := Hlen.out; omega
      obtain ⟨y, hy⟩ : ∃ y, m[k]? = some y := ⟨_, List.getElem?_eq_getElem hkm⟩
      have h3 := HF.out.2
      rw [drop_at hx.out, drop_at hy] at h3
      obtain ⟨h4, h5⟩ := List.cons.inj h3
      subst h4
      have hsd := sumLegs_drop hy
      have hb1 : r + 5 * (y.length : Int) ≤ 4611686018427387904 := by have := HF.out.1; omega
      have HF2 : Hid (r + 5 * y.length + sumLegs (m.drop (k + 1)) = k0 + sumLegs m ∧ (mkLRows k0 m).drop (k + 1) = mkLRows (r + 5 * y.length) (m.drop (k + 1))) := ⟨by have := HF.out.1; omega, h5⟩
      have HI := Lib.hid hi
      clear h3 h5 hsd hy hi
      go_wp2_with fail
      refine (laws_heldLegS HI.out hX hr0 hb1).mono ?_
      rintro e w1 ⟨rfl, hL⟩
      have hY : Later w w1 := hX.trans hL
      go_wp2
      go_roundw
      case rel => exact ⟨k + 1, r + 5 * y.length, by omega, by go_num, rfl, by omega, HF2, inferInstance⟩
      case measure => simp [intOf]; omega
    · have H3 : Hid (r = k0 + sumLegs m) := by
        have h3 := HF.out.1
        rw [List.drop_eq_nil_of_le (by have := Hlen.out; omega)] at h3
        exact (by simpa [sumLegs] using h3 : r = k0 + sumLegs m)
      go_wp2
      go_ret
      exact ⟨ret_int H3.out, inferInstance⟩
end Go.Proofs.Yteijofkkggifhaa
