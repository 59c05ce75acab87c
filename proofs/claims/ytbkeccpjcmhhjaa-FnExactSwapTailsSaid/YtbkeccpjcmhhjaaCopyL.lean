/-
  Lists of lists: copies (copyLists).
-/
import Derived.Test.YtbkeccpjcmhhjaaCopy
import Derived.Test.YtbkeccpjcmhhjaaJh
namespace Go.Proofs.Ytbkeccpjcmhhjaa
open Go Go.RowKit
set_option linter.unusedVariables false
set_option maxRecDepth 100000
theorem impl_copyLists {w0 w : World} {A : Option Addr} {n c : Nat} {l : List (List Int)} (h : Rows w0 A n c l) (hl : Later w0 w) (hn0 : n ≤ 1048576) (hr : ∀ (k : Nat) (x : List Int), l[k]? = some x → x.length ≤ 1048576) :
    Calls Try.prog 150 #[.slice A n c] w (RetO 1 oRows l w) := by
  obtain ⟨C0, hC0, hmk⟩ := make_row (P := Try.prog) 25 111 Try.underlying25 info_ints n (by omega) (by omega)
  replace h := h.later hl
  have HR := Lib.hid hr
  clear hr
  go_enter Try.func150, Try.ntmps150
  go_wp2
  go_loopw [11] (fun i wr => ∃ (k : Nat) (cs : Array Value) (fps : List (List Nat)), k ≤ n ∧ i = .int .i64 k ∧ Built 1 oRows w wr w.heap.size 111 l n k cs fps ∧ Later w wr) (fun i _ => n - (intOf i).toNat)
  case atStart => exact ⟨0, C0, [], by omega, rfl, Built.start (Blk.new _ _ _) hC0 (Nat.le_refl _), inferInstance⟩
  case round =>
    obtain ⟨k, cs, fps, hk, rfl, hB, hX⟩ := hrel
    by_cases hlt : k < n
    · obtain ⟨b, o, A1, n1, c1, x, rfl, hx, hc, hi⟩ := Sl.row_ h hlt
      have hn1 : n1 ≤ 1073741824 := by have := HR.out k x hx.out; have := hi.len; omega
      go_wp2_with fail
      refine (slices_CloneInts hi hX hn1).mono ?_
      rintro e w1 ⟨A2, n2, c2, f, rfl, ho, hnd, hlo, hL⟩
      have hY : Later w w1 := hX.trans hL
      have hB1 := Lib.hid (hB.blk.later hL)
      obtain ⟨v0, hv0⟩ := hB1.out.get (i := k) (by have := hB.size; omega)
      have hf0 := hB1.out.frozen k
      go_wp2
      go_roundw
      case rel =>
        have hs := hB.size
        exact ⟨k + 1, cs.setIfInBounds k (.slice A2 n2 c2), fps ++ [f], by omega, by go_num, hB.step hL hx.out ⟨A2, n2, c2, rfl, ho⟩ hnd hlo (Touch.set_one _ _ _ _) hX (hB1.out.set_ k _) (by simpa using hs) rfl
          (fun i hi => set_ne _ (by omega)) (fun i v hv => by
            match i, hv with
            | 0, hv => simp at hv; subst hv; simpa using set_eq _ (by omega)), inferInstance⟩
      case measure => simp [intOf]; omega
    · go_wp2
      go_ret
      have hkn : k = n := by omega
      exact ⟨_, _, _, _, rfl, hB.done hkn h.len (by omega), hB.nodup, hB.lo, inferInstance⟩
end Go.Proofs.Ytbkeccpjcmhhjaa
