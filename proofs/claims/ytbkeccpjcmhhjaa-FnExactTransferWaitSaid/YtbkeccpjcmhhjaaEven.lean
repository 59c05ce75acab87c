/-
  Even times: what both functions return, and the statement's call.
-/
import Derived.Test.YtbkeccpjcmhhjaaInts
namespace Go.Proofs.Ytbkeccpjcmhhjaa
open Go Go.RowKit
set_option linter.unusedVariables false
set_option maxRecDepth 100000
theorem infoInt : (Try.prog.info? 3).map (fun i => (i.zero, i.size, i.bytes)) = some (some (.int .i64 0), 1, 8) := by kernel_rfl
def evenAt (count period i : Int) : Int := i * period / count
def evenUpto (k count : Nat) (period : Int) : List Int := (List.range k).map fun (i : Nat) => evenAt count period i
theorem evenUpto_succ (k count : Nat) (period : Int) : evenUpto (k + 1) count period = evenUpto k count period ++ [evenAt count period k] := by simp [evenUpto, List.range_succ]
def okEven (count period : Int) : Bool := inB period 1 60 && inB count 1 period
theorem even_i64 {count period : Int} {i : Nat} (h1 : 1 ≤ count) (h2 : count ≤ 60) (h3 : 1 ≤ period) (h4 : period ≤ 60) (hi : (i : Int) ≤ 60) : 0 ≤ (i : Int) * period ∧ (i : Int) * period ≤ 3600 ∧ I64 (evenAt count period i) := by
  have a : 0 ≤ (i : Int) * period := Int.mul_nonneg (by omega) (by omega)
  have b : (i : Int) * period ≤ 60 * 60 := Int.mul_le_mul hi h4 (by omega) (by omega)
  refine ⟨a, by omega, ?_⟩
  unfold evenAt I64
  have c := Int.ediv_nonneg a (by omega : 0 ≤ count)
  have d : (i : Int) * period / count ≤ (i : Int) * period := Int.ediv_le_self _ a
  omega
theorem spec_l10Even (count : Nat) (period : Int) (w : World) (h1 : 1 ≤ count) (h2 : count ≤ 60) (h3 : 1 ≤ period) (h4 : period ≤ 60) :
    Calls Try.prog 171 #[.int .i64 count, .int .i64 period] w (RetO 1 oInt (evenUpto count count period) w) := by
  go_enter Try.func171, Try.ntmps171
  go_wp2
  go_loopw [5, 6] (fun v i wr => ∃ k : Nat, k ≤ count ∧ i = .int .i64 k ∧ wr.ownsRow w.heap.size 3 1 v k ((evenUpto k count period).map (Value.int .i64)) ∧ Later w wr) (fun _ i _ => count - (intOf i).toNat)
  case atStart => exact ⟨0, by omega, rfl, World.ownsRow_lit w #[] 0 (Nat.le_refl _) (by simp [maxLen]) rfl, inferInstance⟩
  case round =>
    obtain ⟨k, hk, rfl, hown, hX⟩ := hrel
    by_cases hlt : k < count
    · obtain ⟨e1, e2, e3⟩ := even_i64 (i := k) (count := count) (period := period) (by omega) (by omega) h3 h4 (by omega)
      go_wp2_with (at_builtin; refine wpList_app_one rfl _ _ 111 rfl Try.underlying111 infoInt rfl (by decide) (by decide) rfl hown hX rfl rfl (one_cell _ _) (by omega) ?_; intro v' w1 hown' hX')
      go_roundw
      case rel => exact ⟨k + 1, by omega, by go_num, by rw [evenUpto_succ, List.map_append]; exact hown', hX'⟩
      case measure => simp [intOf]; omega
    · have hkn : k = count := by omega
      go_wp2
      go_ret
      subst hkn
      obtain ⟨A, c, fp, rfl, ho, hnd, hlo⟩ := OSl.ints_of_own hown (fun x hx => by
        simp only [evenUpto, List.mem_map, List.mem_range] at hx
        obtain ⟨i, hi, rfl⟩ := hx
        exact (even_i64 (by omega) (by omega) h3 h4 (by omega)).2.2)
      exact ⟨A, k, c, fp, rfl, ho, hnd, hlo, hX⟩
def evenRes (count period : Int) : List Int × Bool := if okEven count period then (evenUpto count.toNat count.toNat period, true) else ([], false)
theorem impl_EvenTimes (count period : Int) (w : World) : Calls Try.prog 172 #[.int .i64 count, .int .i64 period] w (RetO2 1 oInt (evenRes count period).1 (evenRes count period).2 w) := by
  by_cases h : okEven count period = true
  · have hr : evenRes count period = (evenUpto count.toNat count.toNat period, true) := by simp [evenRes, h]
    simp only [okEven, Bool.and_eq_true, inB_t] at h
    obtain ⟨n, rfl⟩ := Int.eq_ofNat_of_zero_le (show 0 ≤ count by omega)
    rw [hr]
    have hb1 : inB period 1 60 = true := inB_t.2 h.1
    have hb2 : inB n 1 period = true := inB_t.2 h.2
    obtain ⟨C0, hC0, hmk⟩ := make_row (P := Try.prog) 111 3 Try.underlying111 infoInt n (by omega) (by omega)
    clear hr
    go_enter Try.func172, Try.ntmps172
    go_wp2_with (go_at_call 98; refine (impl_within _ _ _ _).mono ?_; rintro e w' ⟨rfl, rfl⟩)
    go_loopw [21] (fun i wr => ∃ (k : Nat) (cs : Array Value), k ≤ n ∧ i = .int .i64 k ∧ Blk wr w.heap.size 3 cs ∧ cs.size = n ∧ (∀ (j : Nat), j < k → cs[j]? = some (.int .i64 (evenAt n period j))) ∧ Later w wr) (fun i _ => n - (intOf i).toNat)
    case atStart => exact ⟨0, C0, by omega, rfl, Blk.new _ _ _, by omega, fun j hj => by omega, inferInstance⟩
    case round =>
      obtain ⟨k, cs, hk, rfl, hB, hsz, hcs, hX⟩ := hrel
      have HB := Lib.hid hB
      have HS := Lib.hid hcs
      have Hsz := Lib.hid hsz
      by_cases hlt : k < n
      · obtain ⟨v0, hv0⟩ := hB.get (i := k) (by omega)
        have hfz := hB.frozen k
        obtain ⟨e1, e2, e3⟩ := even_i64 (i := k) (count := n) (period := period) (by omega) (by omega) (by omega) (by omega) (by omega)
        clear hB hcs hsz e3
        go_wp2
        go_roundw
        case rel =>
          refine ⟨k + 1, cs.setIfInBounds k (.int .i64 (evenAt n period k)), by omega, by go_num, HB.out.set_ k _, by have := Hsz.out; simpa using this, fun j hj => ?_, inferInstance⟩
          by_cases e : j = k
          · subst e
            rw [set_eq _ (by have := Hsz.out; omega)]
          · rw [set_ne _ e]; exact HS.out j (by omega)
        case measure => simp [intOf]; omega
      · have hkn : k = n := by omega
        clear hB hcs hsz
        go_wp2
        go_ret2
        subst hkn
        exact ⟨_, _, _, _, rfl, OSl.ints_blk HB.out (by simp [evenUpto]) (by omega) (fun j x hx => by
          have hj := (List.getElem?_eq_some_iff.1 hx).1
          simp [evenUpto] at hj
          have hx2 : x = evenAt k period j := by simp [evenUpto, hj] at hx; exact hx.symm
          subst hx2
          exact ⟨HS.out j hj, (even_i64 (by omega) (by omega) (by omega) (by omega) (by omega)).2.2⟩), by simp, by simp, inferInstance⟩
  · have hr : evenRes count period = ([], false) := by simp [evenRes, h]
    rw [hr]
    simp only [okEven, Bool.and_eq_true, not_and, Bool.not_eq_true] at h
    clear hr
    go_enter Try.func172, Try.ntmps172
    go_wp2_with (go_at_call 98; refine (impl_within _ _ _ _).mono ?_; rintro e w' ⟨rfl, rfl⟩)
    all_goals
      go_ret2
      exact ⟨_, _, _, [], rfl, OSl.nil_ _, by simp, by simp, inferInstance⟩
end Go.Proofs.Ytbkeccpjcmhhjaa
