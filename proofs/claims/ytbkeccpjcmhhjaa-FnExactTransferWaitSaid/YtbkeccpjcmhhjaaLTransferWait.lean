/-
  The statement's call FnExactTransferWait: it returns true, out of what both functions return. Printed by a program of ours (gen_law.py).
-/
import Derived.Test.YtbkeccpjcmhhjaaTransS
import Derived.Test.YtbkeccpjcmhhjaaJh
import Derived.Test.YtbkeccpjcmhhjaaHPattern
import Derived.Deep.RegionHeld3
namespace Go.Proofs.Ytbkeccpjcmhhjaa
open Go Go.RowKit
set_option linter.unusedVariables false
set_option maxRecDepth 100000
set_option linter.unusedSimpArgs false
set_option maxHeartbeats 4000000 in
theorem w_FnExactTransferWait {w : World} {aNA0 : Option Addr} {aNn0 aNc0 : Nat} {aNA1 : Option Addr} {aNn1 aNc1 : Nat} {daN : Network} {aPeriod : Int} {aListA : Option Addr} {aListn aListc : Nat} {daList : List Pattern} {aA : Int} {aB : Int} {aStop : Int} {aWalk : Int} (h_aN : NetworkAt w aNA0 aNn0 aNc0 aNA1 aNn1 aNc1 daN) (i_aPeriod : I64 aPeriod) (h_aList : Sl 2 rPattern w aListA aListn aListc daList) (i_aA : I64 aA) (i_aB : I64 aB) (i_aStop : I64 aStop) (i_aWalk : I64 aWalk) : Calls Try.prog 4 #[.agg #[.slice aNA0 aNn0 aNc0, .slice aNA1 aNn1 aNc1], .int .i64 aPeriod, .slice aListA aListn aListc, .int .i64 aA, .int .i64 aB, .int .i64 aStop, .int .i64 aWalk] w (Ret (.bool true) w) := by
  have HB0 : ∀ W [Later (w.alloc (.cells #[.slice aNA0 aNn0 aNc0, .slice aNA1 aNn1 aNc1] 42)) W] (j : Nat), W.cell? ⟨w.heap.size, j, none⟩ = #[.slice aNA0 aNn0 aNc0, .slice aNA1 aNn1 aNc1][j]? := Later.boxes (t := 42) (fr := (0, 0)) (heap_new (by simp; try omega))
  have hbb : ∀ a : Bool, (a != a) = false := by simp
  have hii : ∀ a : Int, (a != a) = false := by simp
  go_enter Try.func4, Try.ntmps4
  go_wp2_with fail
  refine (laws_szNetwork h_aN inferInstance (by omega) (by omega)).mono ?_
  rintro e w1 ⟨r1, rfl, hr1, L1⟩
  have U1 := Later.trans (w := w) inferInstance L1
  have X1 := Later.trans (w := (w.alloc (.cells #[.slice aNA0 aNn0 aNc0, .slice aNA1 aNn1 aNc1] 42))) inferInstance L1
  rcases hr1 with hr1 | ⟨hp1, hq1⟩
  · go_wp2
    go_ret
    exact ⟨rfl, inferInstance⟩
  have hb1 : r1 ≤ 1048576 := by omega
  have hq_aN : totNetwork daN ≤ 1048576 := by omega
  clear hq1
  go_wp2_with fail
  refine (laws_szPatternS h_aList hp1 hb1).mono ?_
  rintro e w2 ⟨r2, rfl, hr2, L2⟩
  have U2 := Later.trans (w := w) inferInstance L2
  have X2 := Later.trans (w := (w.alloc (.cells #[.slice aNA0 aNn0 aNc0, .slice aNA1 aNn1 aNc1] 42))) inferInstance L2
  rcases hr2 with hr2 | ⟨hp2, hq2⟩
  · go_wp2
    go_ret
    exact ⟨rfl, inferInstance⟩
  have hb2 : r2 ≤ 1048576 := by omega
  have hq_aList : daList.length ≤ 1048576 := by omega
  clear hq2
  go_wp2_with fail
  refine (laws_toNetwork h_aN inferInstance hq_aN).mono ?_
  rintro e w3 ⟨z3A0, z3n0, z3c0, z3A1, z3n1, z3c1, z3f0, z3f1, rfl, o3, nd3, lo3, L3⟩
  have U3 := Later.trans (w := w) inferInstance L3
  have X3 := Later.trans (w := (w.alloc (.cells #[.slice aNA0 aNn0 aNc0, .slice aNA1 aNn1 aNc1] 42))) inferInstance L3
  go_wp2_with fail
  refine (laws_toPatternS h_aList inferInstance (by have := h_aList.len; have := hq_aList; omega)).mono ?_
  rintro e w4 ⟨z4A, z4n, z4c, z4f, rfl, o4, nd4, lo4, L4⟩
  have U4 := Later.trans (w := w) inferInstance L4
  have X4 := Later.trans (w := (w.alloc (.cells #[.slice aNA0 aNn0 aNc0, .slice aNA1 aNn1 aNc1] 42))) inferInstance L4
  have V3_4 := Later.trans (w := w3) inferInstance L4
  go_wp2_with fail
  refine (spec_TransferWait o3.reads inferInstance aPeriod o4.reads inferInstance aA aB aStop aWalk).mono ?_
  rintro e w5 ⟨rfl, L5⟩
  have U5 := Later.trans (w := w) inferInstance L5
  have X5 := Later.trans (w := (w.alloc (.cells #[.slice aNA0 aNn0 aNc0, .slice aNA1 aNn1 aNc1] 42))) inferInstance L5
  have V3_5 := Later.trans (w := w3) inferInstance L5
  have V4_5 := Later.trans (w := w4) inferInstance L5
  go_wp2_with fail
  refine (laws_toNetwork h_aN inferInstance hq_aN).mono ?_
  rintro e w6 ⟨z6A0, z6n0, z6c0, z6A1, z6n1, z6c1, z6f0, z6f1, rfl, o6, nd6, lo6, L6⟩
  have U6 := Later.trans (w := w) inferInstance L6
  have X6 := Later.trans (w := (w.alloc (.cells #[.slice aNA0 aNn0 aNc0, .slice aNA1 aNn1 aNc1] 42))) inferInstance L6
  have V3_6 := Later.trans (w := w3) inferInstance L6
  have V4_6 := Later.trans (w := w4) inferInstance L6
  have HBx6 : ∀ W [Later (w6.alloc (.cells #[.slice z6A0 z6n0 z6c0, .slice z6A1 z6n1 z6c1] 50)) W] (j : Nat), W.cell? ⟨w6.heap.size, j, none⟩ = #[.slice z6A0 z6n0 z6c0, .slice z6A1 z6n1 z6c1][j]? := Later.boxes (t := 50) (fr := (0, 0)) (heap_new rfl)
  go_wp2_with fail
  refine (laws_toPatternS h_aList inferInstance (by have := h_aList.len; have := hq_aList; omega)).mono ?_
  rintro e w7 ⟨z7A, z7n, z7c, z7f, rfl, o7, nd7, lo7, L7⟩
  have U7 := Later.trans (w := w) inferInstance L7
  have X7 := Later.trans (w := (w.alloc (.cells #[.slice aNA0 aNn0 aNc0, .slice aNA1 aNn1 aNc1] 42))) inferInstance L7
  have V3_7 := Later.trans (w := w3) inferInstance L7
  have V4_7 := Later.trans (w := w4) inferInstance L7
  have V6_7 := Later.trans (w := w6) inferInstance L7
  have Y6_7 := Later.trans (w := (w6.alloc (.cells #[.slice z6A0 z6n0 z6c0, .slice z6A1 z6n1 z6c1] 50))) inferInstance L7
  go_wp2_with fail
  refine (impl_TransferWait o6.reads inferInstance aPeriod o7.reads inferInstance aA aB aStop aWalk).mono ?_
  rintro e w8 ⟨rfl, L8⟩
  have U8 := Later.trans (w := w) inferInstance L8
  have X8 := Later.trans (w := (w.alloc (.cells #[.slice aNA0 aNn0 aNc0, .slice aNA1 aNn1 aNc1] 42))) inferInstance L8
  have V3_8 := Later.trans (w := w3) inferInstance L8
  have V4_8 := Later.trans (w := w4) inferInstance L8
  have V6_8 := Later.trans (w := w6) inferInstance L8
  have Y6_8 := Later.trans (w := (w6.alloc (.cells #[.slice z6A0 z6n0 z6c0, .slice z6A1 z6n1 z6c1] 50))) inferInstance L8
  have V7_8 := Later.trans (w := w7) inferInstance L8
  go_wp2_with fail
  go_region_held3 (fun w' => Later w w' ∧ Later (w.alloc (.cells #[.slice aNA0 aNn0 aNc0, .slice aNA1 aNn1 aNc1] 42)) w' ∧ Later w3 w' ∧ Later w4 w' ∧ Later w6 w' ∧ Later (w6.alloc (.cells #[.slice z6A0 z6n0 z6c0, .slice z6A1 z6n1 z6c1] 50)) w' ∧ Later w7 w') (first | exact ⟨inferInstance, inferInstance, inferInstance, inferInstance, inferInstance, inferInstance, inferInstance⟩) (first | (go_at_call 28; refine (laws_toNetwork h_aN inferInstance hq_aN).mono ?_; rintro e w9 ⟨z9A0, z9n0, z9c0, z9A1, z9n1, z9c1, z9f0, z9f1, rfl, o9, nd9, lo9, L9⟩; have U9 := Later.trans (w := w) inferInstance L9; have X9 := Later.trans (w := (w.alloc (.cells #[.slice aNA0 aNn0 aNc0, .slice aNA1 aNn1 aNc1] 42))) inferInstance L9; have V3_9 := Later.trans (w := w3) inferInstance L9; have V4_9 := Later.trans (w := w4) inferInstance L9; have V6_9 := Later.trans (w := w6) inferInstance L9; have Y6_9 := Later.trans (w := (w6.alloc (.cells #[.slice z6A0 z6n0 z6c0, .slice z6A1 z6n1 z6c1] 50))) inferInstance L9; have V7_9 := Later.trans (w := w7) inferInstance L9) | (go_at_call 31; refine (laws_eqNetwork o6.reads inferInstance o9.reads inferInstance).mono ?_; rintro e w10 ⟨rfl, L10⟩; have U10 := Later.trans (w := w) inferInstance L10; have X10 := Later.trans (w := (w.alloc (.cells #[.slice aNA0 aNn0 aNc0, .slice aNA1 aNn1 aNc1] 42))) inferInstance L10; have V3_10 := Later.trans (w := w3) inferInstance L10; have V4_10 := Later.trans (w := w4) inferInstance L10; have V6_10 := Later.trans (w := w6) inferInstance L10; have Y6_10 := Later.trans (w := (w6.alloc (.cells #[.slice z6A0 z6n0 z6c0, .slice z6A1 z6n1 z6c1] 50))) inferInstance L10; have V7_10 := Later.trans (w := w7) inferInstance L10; have V9_10 := Later.trans (w := w9) inferInstance L10))
  go_wp2_with first | (go_at_call 29; refine (laws_toPatternS h_aList inferInstance (by have := h_aList.len; have := hq_aList; omega)).mono ?_; rintro e w11 ⟨z11A, z11n, z11c, z11f, rfl, o11, nd11, lo11, L11⟩; have U11 := Later.trans (w := w) inferInstance L11; have X11 := Later.trans (w := (w.alloc (.cells #[.slice aNA0 aNn0 aNc0, .slice aNA1 aNn1 aNc1] 42))) inferInstance L11; have V3_11 := Later.trans (w := w3) inferInstance L11; have V4_11 := Later.trans (w := w4) inferInstance L11; have V6_11 := Later.trans (w := w6) inferInstance L11; have Y6_11 := Later.trans (w := (w6.alloc (.cells #[.slice z6A0 z6n0 z6c0, .slice z6A1 z6n1 z6c1] 50))) inferInstance L11; have V7_11 := Later.trans (w := w7) inferInstance L11) | (go_at_call 32; refine (laws_eqPatternS o7.reads inferInstance o11.reads inferInstance).mono ?_; rintro e w12 ⟨rfl, L12⟩; have U12 := Later.trans (w := w) inferInstance L12; have X12 := Later.trans (w := (w.alloc (.cells #[.slice aNA0 aNn0 aNc0, .slice aNA1 aNn1 aNc1] 42))) inferInstance L12; have V3_12 := Later.trans (w := w3) inferInstance L12; have V4_12 := Later.trans (w := w4) inferInstance L12; have V6_12 := Later.trans (w := w6) inferInstance L12; have Y6_12 := Later.trans (w := (w6.alloc (.cells #[.slice z6A0 z6n0 z6c0, .slice z6A1 z6n1 z6c1] 50))) inferInstance L12; have V7_12 := Later.trans (w := w7) inferInstance L12; have V11_12 := Later.trans (w := w11) inferInstance L12)
  go_wp2
  go_ret
  exact ⟨rfl, inferInstance⟩
end Go.Proofs.Ytbkeccpjcmhhjaa
