/-
  slices.Sort of no element (nil, or empty): nothing is read or written; the sorted row as an owned slice.
-/
import Derived.Test.YtaopadffabbjiaaSort
import Derived.Lib.OwnBridge
namespace Go.Proofs.Ytaopadffabbjiaa
open Go Go.RowKit Go.Sort
set_option linter.unusedVariables false
set_option maxRecDepth 100000
theorem bits_Len64_0 (w : World) : Calls Try.prog 161 #[.int .u64 0] w (RetS (.int .i64 0) w) := by
  go_enter Try.func161, Try.ntmps161
  go_wp2
  go_ret
  exact ⟨congrArg (fun x : Int => Ending.returned (Value.int .i64 x)) (by kernel_rfl), rfl⟩
theorem bits_Len_0 (w : World) : Calls Try.prog 144 #[.int .u64 0] w (RetS (.int .i64 0) w) := by
  go_enter Try.func144, Try.ntmps144
  go_wp2_with (go_at_call 161; refine (bits_Len64_0 _).mono ?_; rintro e w' ⟨rfl, rfl⟩)
  go_ret
  exact ⟨rfl, rfl⟩
theorem ins_nil (p : Option Addr) (cap : Nat) (w : World) : Calls Try.prog 151 #[.slice p 0 cap, .int .i64 0, .int .i64 0] w (fun e w' => e = .returned (.tuple #[]) ∧ w' = w) := by
  go_enter Try.func151, Try.ntmps151
  go_wp2
  refine wp_loop_rounds 1 ?_
  rw [rounds_succ]
  go_wp2
  go_end0
  exact ⟨rfl, rfl⟩
theorem pdq_nil (p : Option Addr) (cap : Nat) (w : World) : Calls Try.prog 143 #[.slice p 0 cap, .int .i64 0, .int .i64 0, .int .i64 0] w (fun e w' => e = .returned (.tuple #[]) ∧ w' = w) := by
  go_enter Try.func143, Try.ntmps143
  go_wp2
  refine wp_loop_rounds 1 ?_
  rw [rounds_succ]
  go_wp2_with (go_at_call 151; refine (ins_nil p cap _).mono ?_; rintro e w' ⟨rfl, rfl⟩)
  (try simp only [Exit.inBlock, Exit.then]); refine bodyPost_ret (results_none rfl _ _ _) rfl ?_
  exact ⟨rfl, rfl⟩
theorem impl_SortNil (p : Option Addr) (cap : Nat) (w : World) : Calls Try.prog 122 #[.slice p 0 cap] w (fun e w' => e = .returned (.tuple #[]) ∧ w' = w) := by
  go_enter Try.func122, Try.ntmps122
  go_wp2_with (first
    | (go_at_call 144; refine (bits_Len_0 _).mono ?_; rintro e w' ⟨rfl, rfl⟩)
    | (go_at_call 143; refine (pdq_nil p cap _).mono ?_; rintro e w' ⟨rfl, rfl⟩))
  go_end0
  exact ⟨rfl, rfl⟩
theorem impl_SortOwn {w0 w : World} {base : Nat} {v : Value} {n : Nat} {l : List Int} (hown : w.ownsRow base 3 1 v n (l.map (Value.int .i64))) (hl : Later w0 w) (hb0 : w0.heap.size ≤ base) (hn : n ≤ 1073741824) :
    Calls Try.prog 122 #[v] w fun e w' => e = .returned (.tuple #[]) ∧ Later w0 w' ∧ w'.ownsRow base 3 1 v n ((l.mergeSort fun x y => decide (x ≤ y)).map (Value.int .i64)) := by
  have hlen : l.length = n := by have := hown.1; simpa using this
  by_cases h0 : n = 0
  · subst h0
    have h9 : l = [] := List.length_eq_zero_iff.1 hlen
    subst h9
    have hv : ∃ p c, v = .slice p 0 c := by
      rcases hown.2 with ⟨h1, _⟩ | ⟨g, cap, cur, h1, _⟩
      · exact ⟨none, 0, h1⟩
      · exact ⟨_, cap, h1⟩
    obtain ⟨p, c, rfl⟩ := hv
    refine (impl_SortNil p c w).mono ?_
    rintro e w' ⟨rfl, rfl⟩
    exact ⟨rfl, hl, by simpa using hown⟩
  · have hne : v ≠ .slice none 0 0 := by
      rintro rfl
      rcases hown.2 with ⟨_, h1⟩ | ⟨g, cap, cur, h1, _⟩
      · exact h0 h1
      · cases h1
    obtain ⟨g, cap, hov, hbg, hgl, hncap, hcm, _, hH⟩ := Lib.holds_of_ownsRow hown hne
    rcases hown.2 with ⟨h1, _⟩ | ⟨g', cap', cur, h1, h2, h3, h4, h5, h6, h7⟩
    · exact absurd h1 hne
    · subst hov
      cases h1
      subst hlen
      refine (Any.slices_Sort_int Try.sortI g 0 cap l w hH hgl (by omega)).mono ?_
      rintro e w' ⟨rfl, m, os, rfl⟩
      refine ⟨rfl, hl.of_grown (grownBy_sortedI _) (fun g' hg' => by cases hg'; exact Nat.le_trans hb0 h2), ?_⟩
      exact ownsRow_sortedI (by rw [List.length_mergeSort]) h2 h3 h4 h5 h6
end Go.Proofs.Ytaopadffabbjiaa
