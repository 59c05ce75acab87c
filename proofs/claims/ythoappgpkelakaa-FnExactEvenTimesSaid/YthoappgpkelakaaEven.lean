/-
  Even times: what both functions return, and the statement's call.
-/
import Derived.Test.YthoappgpkelakaaInts
namespace Go.Proofs.Ythoappgpkelakaa
open Go Go.RowKit
set_option linter.unusedVariables false
theorem infoInt : (Try.prog.info? 3).map (fun i => (i.zero, i.size, i.bytes)) = some (some (.int .i64 0), 1, 8) := by kernel_rfl
def evenAt (count period i : Int) : Int := i * period / count
def evenUpto (k count : Nat) (period : Int) : List Int := (List.range k).map fun (i : Nat) => evenAt count period i
theorem evenUpto_succ (k count : Nat) (period : Int) : evenUpto (k + 1) count period = evenUpto k count period ++ [evenAt count period k] := by simp [evenUpto, List.range_succ]
def okEven (count period : Int) : Bool := inB period 1 60 && inB count 1 period
theorem even_i64 {count period : Int} {i : Nat} (h1 : 1 ≤ count) (h2 : count ≤ 60) (h3 : 1 ≤ period) (h4 : period ≤ 60) (hi : (i : Int) ≤ 60) : 0 ≤ (i : Int) * period ∧ (i : Int) * period ≤ 3600 ∧ I64 (evenAt count period i) := by
  have a : 0 ≤ (i : Int) * period := Int.mul_nonneg (by omega) (by omega)
  have b : (i : Int) * period ≤ 60 * 60 := Int.mul_le_mul hi h4 (by omega) (by omega)
  refine ⟨a, by omega, ?_⟩
  unfold evenAt I64
  have c := Int.ediv_nonneg a (by omega : 0 ≤ count)
  have d : (i : Int) * period / count ≤ (i : Int) * period := Int.ediv_le_self _ a
  omega
theorem spec_l10Even (count : Nat) (period : Int) (w : World) (h1 : 1 ≤ count) (h2 : count ≤ 60) (h3 : 1 ≤ period) (h4 : period ≤ 60) :
    Calls Try.prog 45 #[.int .i64 count, .int .i64 period] w (RetO 1 oInt (evenUpto count count period) w) := by
  go_enter Try.func45, Try.ntmps45
  go_wp2
  go_loopw [5, 6] (fun v i wr => ∃ k : Nat, k ≤ count ∧ i = .int .i64 k ∧ wr.ownsRow w.heap.size 3 1 v k ((evenUpto k count period).map (Value.int .i64)) ∧ Later w wr) (fun _ i _ => count - (intOf i).toNat)
  case atStart => exact ⟨0, by omega, rfl, World.ownsRow_lit w #[] 0 (Nat.le_refl _) (by simp [maxLen]) rfl, inferInstance⟩
  case round =>
    obtain ⟨k, hk, rfl, hown, hX⟩ := hrel
    by_cases hlt : k < count
    · obtain ⟨e1, e2, e3⟩ := even_i64 (i := k) (count := count) (period := period) (by omega) (by omega) h3 h4 (by omega)
      go_wp2_with (at_builtin; refine wpList_app_one rfl _ _ 28 rfl Try.underlying28 infoInt rfl (by decide) (by decide) rfl hown hX rfl rfl (one_cell _ _) (by omega) ?_; intro v' w1 hown' hX')
      go_roundw
      case rel => exact ⟨k + 1, by omega, by go_num, by rw [evenUpto_succ, List.map_append]; exact hown', hX'⟩
      case measure => simp [intOf]; omega
    · have hkn : k = count := by omega
      go_wp2
      go_ret
      subst hkn
      obtain ⟨A, c, fp, rfl, ho, hnd, hlo⟩ := OSl.ints_of_own hown (fun x hx => by
        simp only [evenUpto, List.mem_map, List.mem_range] at hx
        obtain ⟨i, hi, rfl⟩ := hx
        exact (even_i64 (by omega) (by omega) h3 h4 (by omega)).2.2)
      exact ⟨A, k, c, fp, rfl, ho, hnd, hlo, hX⟩
def evenRes (count period : Int) : List Int × Bool := if okEven count period then (evenUpto count.toNat count.toNat period, true) else ([], false)
theorem spec_EvenTimes (count period : Int) (w : World) : Calls Try.prog 16 #[.int .i64 count, .int .i64 period] w (RetO2 1 oInt (evenRes count period).1 (evenRes count period).2 w) := by
  by_cases h : okEven count period = true
  · have hr : evenRes count period = (evenUpto count.toNat count.toNat period, true) := by simp [evenRes, h]
    simp only [okEven, Bool.and_eq_true, inB_t] at h
    obtain ⟨n, rfl⟩ := Int.eq_ofNat_of_zero_le (show 0 ≤ count by omega)
    rw [hr]
    have hb1 : inB period 1 60 = true := inB_t.2 h.1
    have hb2 : inB n 1 period = true := inB_t.2 h.2
    clear hr
    go_enter Try.func16, Try.ntmps16
    go_wp2_with first
      | (go_at_call 44; refine (spec_l1In _ _ _ _).mono ?_; rintro e w' ⟨rfl, rfl⟩)
      | (go_at_call 45; refine (spec_l10Even _ _ _ (by omega) (by omega) (by omega) (by omega)).mono ?_; rintro e w1 ⟨A, m, c, fp, rfl, ho, hnd, hlo, hL⟩)
    go_ret2
    exact ⟨A, m, c, fp, rfl, ho, hnd, hlo, hL⟩
  · have hr : evenRes count period = ([], false) := by simp [evenRes, h]
    rw [hr]
    simp only [okEven, Bool.and_eq_true, not_and, Bool.not_eq_true] at h
    clear hr
    go_enter Try.func16, Try.ntmps16
    go_wp2_with (go_at_call 44; refine (spec_l1In _ _ _ _).mono ?_; rintro e w' ⟨rfl, rfl⟩)
    all_goals
      go_ret2
      exact ⟨_, _, _, [], rfl, OSl.nil_ _, by simp, by simp, inferInstance⟩
theorem impl_EvenTimes (count period : Int) (w : World) : Calls Try.prog 17 #[.int .i64 count, .int .i64 period] w (RetO2 1 oInt (evenRes count period).1 (evenRes count period).2 w) := by
  by_cases h : okEven count period = true
  · have hr : evenRes count period = (evenUpto count.toNat count.toNat period, true) := by simp [evenRes, h]
    simp only [okEven, Bool.and_eq_true, inB_t] at h
    obtain ⟨n, rfl⟩ := Int.eq_ofNat_of_zero_le (show 0 ≤ count by omega)
    rw [hr]
    have hb1 : inB period 1 60 = true := inB_t.2 h.1
    have hb2 : inB n 1 period = true := inB_t.2 h.2
    obtain ⟨C0, hC0, hmk⟩ := make_row (P := Try.prog) 28 3 Try.underlying28 infoInt n (by omega) (by omega)
    clear hr
    go_enter Try.func17, Try.ntmps17
    go_wp2_with (go_at_call 43; refine (impl_within _ _ _ _).mono ?_; rintro e w' ⟨rfl, rfl⟩)
    go_loopw [21] (fun i wr => ∃ (k : Nat) (cs : Array Value), k ≤ n ∧ i = .int .i64 k ∧ Blk wr w.heap.size 3 cs ∧ cs.size = n ∧ (∀ (j : Nat), j < k → cs[j]? = some (.int .i64 (evenAt n period j))) ∧ Later w wr) (fun i _ => n - (intOf i).toNat)
    case atStart => exact ⟨0, C0, by omega, rfl, Blk.new _ _ _, by omega, fun j hj => by omega, inferInstance⟩
    case round =>
      obtain ⟨k, cs, hk, rfl, hB, hsz, hcs, hX⟩ := hrel
      have HB := Lib.hid hB
      have HS := Lib.hid hcs
      have Hsz := Lib.hid hsz
      by_cases hlt : k < n
      · obtain ⟨v0, hv0⟩ := hB.get (i := k) (by omega)
        have hfz := hB.frozen k
        obtain ⟨e1, e2, e3⟩ := even_i64 (i := k) (count := n) (period := period) (by omega) (by omega) (by omega) (by omega) (by omega)
        clear hB hcs hsz e3
        go_wp2
        go_roundw
        case rel =>
          refine ⟨k + 1, cs.setIfInBounds k (.int .i64 (evenAt n period k)), by omega, by go_num, HB.out.set_ k _, by have := Hsz.out; simpa using this, fun j hj => ?_, inferInstance⟩
          by_cases e : j = k
          · subst e
            rw [set_eq _ (by have := Hsz.out; omega)]
          · rw [set_ne _ e]; exact HS.out j (by omega)
        case measure => simp [intOf]; omega
      · have hkn : k = n := by omega
        clear hB hcs hsz
        go_wp2
        go_ret2
        subst hkn
        exact ⟨_, _, _, _, rfl, OSl.ints_blk HB.out (by simp [evenUpto]) (by omega) (fun j x hx => by
          have hj := (List.getElem?_eq_some_iff.1 hx).1
          simp [evenUpto] at hj
          have hx2 : x = evenAt k period j := by simp [evenUpto, hj] at hx; exact hx.symm
          subst hx2
          exact ⟨HS.out j hj, (even_i64 (by omega) (by omega) (by omega) (by omega) (by omega)).2.2⟩), by simp, by simp, inferInstance⟩
  · have hr : evenRes count period = ([], false) := by simp [evenRes, h]
    rw [hr]
    simp only [okEven, Bool.and_eq_true, not_and, Bool.not_eq_true] at h
    clear hr
    go_enter Try.func17, Try.ntmps17
    go_wp2_with (go_at_call 43; refine (impl_within _ _ _ _).mono ?_; rintro e w' ⟨rfl, rfl⟩)
    all_goals
      go_ret2
      exact ⟨_, _, _, [], rfl, OSl.nil_ _, by simp, by simp, inferInstance⟩
theorem evenRes_len (a b : Int) : (evenRes a b).1.length ≤ 60 := by
  unfold evenRes
  split
  · rename_i h; simp only [okEven, Bool.and_eq_true, inB_t] at h; simp [evenUpto]; omega
  · simp
theorem w_FnExactEvenTimes {a b : Int} {w : World} (ha : I64 a) (hb : I64 b) : Calls Try.prog 4 #[.int .i64 a, .int .i64 b] w (Ret (.bool true) w) := by
  have hlen := evenRes_len a b
  go_enter Try.func4, Try.ntmps4
  go_wp2_with fail
  refine (spec_EvenTimes _ _ _).mono ?_
  rintro e w1 ⟨A0, n0, c0, f0, rfl, o0, _, _, L0⟩
  go_wp2_with fail
  refine (impl_EvenTimes _ _ _).mono ?_
  rintro e w2 ⟨A1, n1, c1, f1, rfl, o1, nd1, lo1, L1⟩
  have hn1 : n1 ≤ 60 := by have := o1.len; omega
  go_wp2_with fail
  refine (laws_eqIntS o1.reads Later.rfl_ o0.reads L1).mono ?_
  rintro e w3 ⟨rfl, L3⟩
  go_wp2_with fail
  replace o1 := o1.later L3
  refine (laws_markIntS o1 (by omega) (by omega)).mono ?_
  rintro e w4 ⟨rfl, T4, o4⟩
  go_wp2_with fail
  have L14 : Later w1 w4 := T4.later (L1.trans L3) lo1
  clear o1 T4
  refine (laws_heldIntS o4.reads Later.rfl_ (by omega) (by omega)).mono ?_
  rintro e w5 ⟨rfl, L5⟩
  go_wp2_with fail
  refine (impl_EvenTimes _ _ _).mono ?_
  rintro e w6 ⟨A6, n6, c6, f6, rfl, o6, nd6, lo6, L6⟩
  go_wp2_with fail
  refine (laws_eqIntS o6.reads Later.rfl_ o0.reads (L14.trans (L5.trans L6))).mono ?_
  rintro e w7 ⟨rfl, L7⟩
  go_wp2_with fail
  refine (laws_heldIntS o4.reads (L5.trans (L6.trans L7)) (by omega) (by omega)).mono ?_
  rintro e w8 ⟨rfl, L8⟩
  go_wp2_with fail
  have LL := L0.trans (L14.trans (L5.trans (L6.trans (L7.trans L8))))
  go_ret
  exact ⟨rfl, LL⟩
end Go.Proofs.Ythoappgpkelakaa
