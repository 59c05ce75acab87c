/-
  slices.Backward over a slice of numbers: the iterator's contract.
-/
import Derived.Test.YteijofkkggifhaaInRound
import Derived.Test.YteijofkkggifhaaInts
namespace Go.Proofs.Yteijofkkggifhaa
open Go Go.RowKit Go.Shelf
set_option linter.unusedVariables false
set_option maxRecDepth 100000
set_option linter.unusedSimpArgs false
attribute [local go_sem] Oper.semAt_some
def upto {α : Type} (f : Nat → α) (k : Nat) : List α := (List.range k).map f
theorem upto_succ {α : Type} (f : Nat → α) (k : Nat) : upto f (k + 1) = upto f k ++ [f k] := by simp [upto, List.range_succ]
theorem upto_length {α : Type} (f : Nat → α) (k : Nat) : (upto f k).length = k := by simp [upto]
set_option maxRecDepth 100000 in
set_option maxHeartbeats 2000000 in
theorem back1_in {α : Type} (encs : α → Array Value) (it : Nat → α) (n : Nat) (hn : 1 ≤ n) (l Bs n₀ b off len cap : Nat) (zs : List Int) (hit : ∀ k, k < len → encs (it k) = #[.int .i64 ((len - 1 - k : Nat) : Int), .int .i64 (zs.getD (len - 1 - k) 0)]) (hreach : len ≤ 1073741824) (hb : b < n₀) (J Jx : List α → World → Prop)
    (hY : ∀ pre x W, J pre W → pre.length < len → YieldAt Fence.wide (n - 1) Try.prog l (encs x) W fun e W' =>
      (e = .returned (.bool true) ∧ J (pre ++ [x]) W' ∧ Below n₀ W W') ∨ (e = .returned (.bool false) ∧ Jx (pre ++ [x]) W'))
    (W : World) (hBs0 : Bs < n₀) (hBs : W.cell? ⟨Bs, 0, none⟩ = some (.slice (some ⟨b, off, none⟩) len cap)) (hc : ∀ j, j < len → W.cell? ⟨b, off + j, none⟩ = some (.int .i64 (zs.getD j 0))) (h0 : J [] W) :
    CallsIn Fence.wide n Try.prog 167 #[.func (.yield l) #[] #[], .pointer (some ⟨Bs, 0, none⟩)] W fun e W' => (∃ v, e = .returned v) ∧
      ((∃ ys, ys = upto it len ∧ J ys W') ∨ (∃ pre, (∃ k, k ≤ len ∧ pre = upto it k) ∧ Jx pre W')) := by
  refine callsIn_of_wp Try.func167 rfl trivial ?_ rfl
  simp only [Try.ntmps167, List.size_toArray, List.length_cons, List.length_nil, Nat.reduceAdd, Nat.reduceSub, Array.replicate_succ, Array.replicate_zero, List.push_toArray, List.append_toArray, List.nil_append, List.cons_append]
  have hw0 : IntKind.i64.wrap ((len : Int) - 1) = (len : Int) - 1 := by rw [IntKind.wrap_i64]; omega
  gi_wp2
  gi_loopw [3] (fun iv wr => ∃ (k : Nat) (i : Int), k ≤ len ∧ iv = .int .i64 i ∧ i = (len : Int) - 1 - k ∧ J (upto it k) wr ∧ Below n₀ W wr)
    (fun iv _ => (intOf iv + 1).toNat)
  case atStart => exact ⟨0, _, Nat.zero_le _, rfl, by omega, h0, Below.refl _ _⟩
  case round =>
    obtain ⟨k, i, hk, rfl, hi, hJs, hnx⟩ := hrel
    by_cases hlt : k < len
    · obtain ⟨m, rfl⟩ := Int.eq_ofNat_of_zero_le (show 0 ≤ i by omega)
      have hml : m < len := by omega
      have hx := hit k hlt
      rw [show len - 1 - k = m by omega] at hx
      have hcx : wr.cell? ⟨b, off + m, none⟩ = some (.int .i64 (zs.getD m 0)) := (hnx.cell (p := ⟨b, off + m, none⟩) hb).trans (hc m hml)
      have hcs : wr.cell? ⟨Bs, 0, none⟩ = some (.slice (some ⟨b, off, none⟩) len cap) := (hnx.cell (p := ⟨Bs, 0, none⟩) hBs0).trans hBs
      obtain ⟨v, hv⟩ : ∃ v, zs.getD m 0 = v := ⟨_, rfl⟩
      rw [hv] at hcx hx
      have h9 := hY _ (it k) wr hJs (by rw [upto_length]; exact hlt)
      rw [hx] at h9
      obtain ⟨fn, tmps, assign, body, hy, hR⟩ := h9
      clear hx
      have hwm : IntKind.i64.wrap ((m : Int) - 1) = (m : Int) - 1 := by rw [IntKind.wrap_i64]; omega
      have hmi : (m : Int) < len := by omega
      have hm0 : (0 : Int) ≤ m := by omega
      have HI := Lib.hid hi
      clear hv hi
      gi_wp2
      refine hR.mono ?_
      rintro e W3 (⟨rfl, hJ3, hk3⟩ | ⟨rfl, hJx3⟩)
      · gi_wp2
        go_roundw
        case rel => exact ⟨k + 1, (m : Int) - 1, by omega, by first | rfl | simp [hwm], by have := HI.out; omega, by rw [upto_succ]; exact hJ3, hnx.trans hk3⟩
        case measure => simp [intOf, hwm]
      · gi_wp2
        refine bodyPost_ret (results_none rfl _ _ _) rfl ?_
        exact ⟨⟨_, rfl⟩, .inr ⟨_, ⟨k + 1, by omega, by rw [upto_succ]⟩, hJx3⟩⟩
    · have hkl : k = len := by omega
      have hneg : i < 0 := by omega
      have hneg2 : ¬ 0 ≤ i := by omega
      rw [hkl] at hJs
      clear hi hkl
      gi_wp2
      go_end0
      first
        | exact ⟨⟨_, rfl⟩, .inl ⟨_, rfl, hJs⟩⟩
        | exact ⟨⟨_, rfl⟩, .inl hJs⟩
set_option maxRecDepth 100000 in
set_option maxHeartbeats 1000000 in
/-- .. at a slice of no element: no round. -/
theorem back0_in {α : Type} (n : Nat) (l Bs : Nat) (A : Option Addr) (cap : Nat) (J : List α → World → Prop) (W : World) (hBs : W.cell? ⟨Bs, 0, none⟩ = some (.slice A 0 cap)) (h0 : J [] W) :
    CallsIn Fence.wide n Try.prog 167 #[.func (.yield l) #[] #[], .pointer (some ⟨Bs, 0, none⟩)] W fun e W' => (∃ v, e = .returned v) ∧ J [] W' := by
  refine callsIn_of_wp Try.func167 rfl trivial ?_ rfl
  simp only [Try.ntmps167, List.size_toArray, List.length_cons, List.length_nil, Nat.reduceAdd, Nat.reduceSub, Array.replicate_succ, Array.replicate_zero, List.push_toArray, List.append_toArray, List.nil_append, List.cons_append]
  gi_wp2
  gi_loopw [3] (fun i wr => i = .int .i64 (-1) ∧ J [] wr) (fun _ _ => 0)
  case atStart => exact ⟨rfl, h0⟩
  case round =>
    obtain ⟨rfl, hJs⟩ := hrel
    gi_wp2
    go_end0
    exact ⟨⟨_, rfl⟩, hJs⟩
/-- slices.Backward(s): the slice value is boxed; the function value captures the box. -/
theorem backward_in (A : Option Addr) (len cap : Nat) (w : World) :
    Calls Try.prog 121 #[.slice A len cap] w fun e w' => e = .returned (.func (.func 167) #[] #[.pointer (some ⟨w.heap.size, 0, none⟩)]) ∧ w' = w.alloc (.cells #[.slice A len cap] 80) := by
  go_enter Try.func121, Try.ntmps121
  go_wp2
  go_ret
  exact ⟨rfl, rfl⟩
theorem back_stops {α : Type} (encs : α → Array Value) (it : Nat → α) (n : Nat) (hn : 1 ≤ n) (Bs n₀ : Nat) (A : Option Addr) (len cap : Nat) (zs : List Int) (hit : ∀ k, k < len → encs (it k) = #[.int .i64 ((len - 1 - k : Nat) : Int), .int .i64 (zs.getD (len - 1 - k) 0)]) (hreach : len ≤ 1073741824) (w : World) (hBs : Bs < n₀) (hn₀ : n₀ ≤ w.heap.size)
    (hc : w.cell? ⟨Bs, 0, none⟩ = some (.slice A len cap)) (hI : Ints w A len cap zs) (hA : ∀ ad, A = some ad → 0 < len → ad.block < n₀) :
    SeqStopsK Fence.wide n Try.prog 167 #[.pointer (some ⟨Bs, 0, none⟩)] encs (Below n₀) (fun ys => ys = upto it len)
      (fun pre => ∃ k, k ≤ len ∧ pre = upto it k) len w := fun l J Jx W hW _ _ hY h0 => by
  have hc' := (hW.cell (p := ⟨Bs, 0, none⟩) (by show Bs < w.heap.size; omega)).trans hc
  by_cases hz : len = 0
  · subst hz
    exact (back0_in n l Bs A cap J W hc' h0).mono fun e W' ⟨he, hj⟩ => ⟨he, .inl ⟨_, rfl, hj⟩⟩
  · obtain ⟨b, o, _, rfl, _⟩ := Ints.at_ hI (k := 0) (by omega)
    refine back1_in encs it n hn l Bs n₀ b o len cap zs hit hreach (hA _ rfl (by omega)) J Jx hY W hBs hc' (fun j hj => ?_) h0
    obtain ⟨b', o', x, hA', hx, hcx, _⟩ := Ints.at_ hI hj
    cases hA'
    have h1 : w.cell? ⟨b, o + j, none⟩ = some (.int .i64 x) := hcx w
    refine (hW.cell (p := ⟨b, o + j, none⟩) (by have := hA _ rfl (by omega); show b < w.heap.size; simp at this; omega)).trans ?_
    rw [h1, List.getD_eq_getElem?_getD, hx.out]; rfl
end Go.Proofs.Yteijofkkggifhaa
