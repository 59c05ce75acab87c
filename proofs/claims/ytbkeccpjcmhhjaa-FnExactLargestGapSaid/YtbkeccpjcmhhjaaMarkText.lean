/-
  The text of a mark: some short string.
-/
import Derived.Test.YtbkeccpjcmhhjaaHStringS
import Derived.Laws.BytesArg
namespace Go.Proofs.Ytbkeccpjcmhhjaa
open Go Go.RowKit
set_option linter.unusedVariables false
set_option maxRecDepth 100000
/-- Some short string. -/
def RetStr (w : World) (e : Ending) (w' : World) : Prop := ∃ s : ByteArray, e = .returned (.string s) ∧ s.size ≤ 64 ∧ Later w w'
theorem laws_markText (k : Int) (h0 : 0 ≤ k) (h1 : k ≤ 4611686018427387904) (w : World) : Calls Try.prog 232 #[.int .i64 k] w (RetStr w) := by
  by_cases hz : k ≤ 0
  · go_enter Try.func232, Try.ntmps232
    go_wp2
    go_ret
    exact ⟨_, rfl, by decide, inferInstance⟩
  go_enter Try.func232, Try.ntmps232
  go_wp2
  go_loopw [0, 3] (fun i s wr => ∃ (q : Int) (t : ByteArray) (j : Nat), i = .int .i64 q ∧ s = .string t ∧ 0 ≤ q ∧ q ≤ 4611686018427387904 ∧ j ≤ 19 ∧ t.size ≤ j ∧ Hid (q < 10 ^ (19 - j)) ∧ Later w wr) (fun i _ _ => (intOf i).toNat)
  case atStart => exact ⟨k, ByteArray.empty, 0, rfl, rfl, h0, h1, by omega, by simp, by show _ < _; omega, inferInstance⟩
  case round =>
    obtain ⟨q, t, j, rfl, rfl, hq0, hq1, hj, ht, HQ, hX⟩ := hrel
    by_cases hlt : 0 < q
    · have hm0 : 0 ≤ q % 10 := by omega
      have hm1 : q % 10 < 10 := by omega
      obtain ⟨d, hd, hcv⟩ : ∃ d : ByteArray, d.size = 1 ∧ (convert 295 9 (.slice (some ⟨wr.heap.size, 0, none⟩) 1 1)).run Try.prog (wr.alloc (.cells #[.int .u8 (48 + q % 10)] 5)) = .ok (.string d) (wr.alloc (.cells #[.int .u8 (48 + q % 10)] 5)) :=
        ⟨strOfNums [48 + q % 10], by simp [strOfNums, ByteArray.size], run_convert_bytes_arg _ 295 5 Try.underlying295 Try.underlying5 _ 0 1 1 [48 + q % 10] rfl (fun i hi => by
          obtain rfl : i = 0 := by omega
          rw [World.cell?_alloc_new]; rfl) _ Try.underlying9⟩
      have HD : Hid ((d ++ t).size ≤ j + 1) := by show _ ≤ _; rw [ByteArray.size_append]; omega
      have hj2 : j + 1 ≤ 19 := by
        rcases Nat.lt_or_ge j 19 with h | h
        · omega
        · have := HQ.out
          rw [show 19 - j = 0 by omega] at this
          omega
      have HQ2 : Hid (q / 10 < 10 ^ (19 - (j + 1))) := by
        have h3 := HQ.out
        rw [show 19 - j = (19 - (j + 1)) + 1 by omega, Int.pow_succ] at h3
        show _ < _
        omega
      have hd1 : d.size ≤ 1 := by omega
      clear hd
      go_wp2
      go_roundw
      case rel => exact ⟨q / 10, d ++ t, j + 1, rfl, rfl, by omega, by omega, hj2, HD.out, HQ2, inferInstance⟩
      case measure => simp [intOf]; omega
    · go_wp2
      go_ret
      exact ⟨_, rfl, by rw [ByteArray.size_append]; show 1 + _ ≤ _; omega, inferInstance⟩
end Go.Proofs.Ytbkeccpjcmhhjaa
