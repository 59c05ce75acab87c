/-
  The statement's call FnExactBestOffsets: it returns true, out of what both functions return. Printed by a program of ours (gen_law.py).
-/
import Derived.Test.YtaopadffabbjiaaBoS
import Derived.Test.YtaopadffabbjiaaBoI
import Derived.Test.YtaopadffabbjiaaJh
import Derived.Test.YtaopadffabbjiaaHPattern
import Derived.Deep.RegionHeld3
namespace Go.Proofs.Ytaopadffabbjiaa
open Go Go.RowKit
set_option linter.unusedVariables false
set_option maxRecDepth 100000
set_option linter.unusedSimpArgs false
set_option maxHeartbeats 4000000 in
theorem w_FnExactBestOffsets {w : World} {aNA0 : Option Addr} {aNn0 aNc0 : Nat} {aNA1 : Option Addr} {aNn1 aNc1 : Nat} {daN : Network} {aPeriod : Int} {aListA : Option Addr} {aListn aListc : Nat} {daList : List Pattern} {aStop : Int} (h_aN : NetworkAt w aNA0 aNn0 aNc0 aNA1 aNn1 aNc1 daN) (i_aPeriod : I64 aPeriod) (h_aList : Sl 2 rPattern w aListA aListn aListc daList) (i_aStop : I64 aStop) : Calls Try.prog 5 #[.agg #[.slice aNA0 aNn0 aNc0, .slice aNA1 aNn1 aNc1], .int .i64 aPeriod, .slice aListA aListn aListc, .int .i64 aStop] w (Ret (.bool true) w) := by
  have HB0 : ∀ W [Later (w.alloc (.cells #[.slice aNA0 aNn0 aNc0, .slice aNA1 aNn1 aNc1] 25)) W] (j : Nat), W.cell? ⟨w.heap.size, j, none⟩ = #[.slice aNA0 aNn0 aNc0, .slice aNA1 aNn1 aNc1][j]? := Later.boxes (t := 25) (fr := (0, 0)) (heap_new (by simp; try omega))
  have hbb : ∀ a : Bool, (a != a) = false := by simp
  have hii : ∀ a : Int, (a != a) = false := by simp
  go_enter Try.func5, Try.ntmps5
  go_wp2_with fail
  refine (laws_szNetwork h_aN inferInstance (by omega) (by omega)).mono ?_
  rintro e w1 ⟨r1, rfl, hr1, L1⟩
  have U1 := Later.trans (w := w) inferInstance L1
  have X1 := Later.trans (w := (w.alloc (.cells #[.slice aNA0 aNn0 aNc0, .slice aNA1 aNn1 aNc1] 25))) inferInstance L1
  rcases hr1 with hr1 | ⟨hp1, hq1⟩
  · go_wp2
    go_ret
    exact ⟨rfl, inferInstance⟩
  have hb1 : r1 ≤ 1048576 := by omega
  have hq_aN : totNetwork daN ≤ 1048576 := by omega
  clear hq1
  go_wp2_with fail
  refine (laws_szPatternS h_aList hp1 hb1).mono ?_
  rintro e w2 ⟨r2, rfl, hr2, L2⟩
  have U2 := Later.trans (w := w) inferInstance L2
  have X2 := Later.trans (w := (w.alloc (.cells #[.slice aNA0 aNn0 aNc0, .slice aNA1 aNn1 aNc1] 25))) inferInstance L2
  rcases hr2 with hr2 | ⟨hp2, hq2⟩
  · go_wp2
    go_ret
    exact ⟨rfl, inferInstance⟩
  have hb2 : r2 ≤ 1048576 := by omega
  have hq_aList : daList.length ≤ 1048576 := by omega
  clear hq2
  go_wp2_with fail
  refine (laws_toNetwork h_aN inferInstance hq_aN).mono ?_
  rintro e w3 ⟨z3A0, z3n0, z3c0, z3A1, z3n1, z3c1, z3f0, z3f1, rfl, o3, nd3, lo3, L3⟩
  have U3 := Later.trans (w := w) inferInstance L3
  have X3 := Later.trans (w := (w.alloc (.cells #[.slice aNA0 aNn0 aNc0, .slice aNA1 aNn1 aNc1] 25))) inferInstance L3
  go_wp2_with fail
  refine (laws_toPatternS h_aList inferInstance (by have := h_aList.len; have := hq_aList; omega)).mono ?_
  rintro e w4 ⟨z4A, z4n, z4c, z4f, rfl, o4, nd4, lo4, L4⟩
  have U4 := Later.trans (w := w) inferInstance L4
  have X4 := Later.trans (w := (w.alloc (.cells #[.slice aNA0 aNn0 aNc0, .slice aNA1 aNn1 aNc1] 25))) inferInstance L4
  have V3_4 := Later.trans (w := w3) inferInstance L4
  go_wp2_with fail
  refine (spec_BestOffsets o3.reads inferInstance aPeriod o4.reads inferInstance aStop).mono ?_
  rintro e w5 ⟨z5A, z5n, z5c, z5f, rfl, o5, nd5, lo5, L5⟩
  have U5 := Later.trans (w := w) inferInstance L5
  have X5 := Later.trans (w := (w.alloc (.cells #[.slice aNA0 aNn0 aNc0, .slice aNA1 aNn1 aNc1] 25))) inferInstance L5
  have V3_5 := Later.trans (w := w3) inferInstance L5
  have V4_5 := Later.trans (w := w4) inferInstance L5
  go_wp2_with fail
  refine (laws_toNetwork h_aN inferInstance hq_aN).mono ?_
  rintro e w6 ⟨z6A0, z6n0, z6c0, z6A1, z6n1, z6c1, z6f0, z6f1, rfl, o6, nd6, lo6, L6⟩
  have U6 := Later.trans (w := w) inferInstance L6
  have X6 := Later.trans (w := (w.alloc (.cells #[.slice aNA0 aNn0 aNc0, .slice aNA1 aNn1 aNc1] 25))) inferInstance L6
  have V3_6 := Later.trans (w := w3) inferInstance L6
  have V4_6 := Later.trans (w := w4) inferInstance L6
  have V5_6 := Later.trans (w := w5) inferInstance L6
  have HBx6 : ∀ W [Later (w6.alloc (.cells #[.slice z6A0 z6n0 z6c0, .slice z6A1 z6n1 z6c1] 38)) W] (j : Nat), W.cell? ⟨w6.heap.size, j, none⟩ = #[.slice z6A0 z6n0 z6c0, .slice z6A1 z6n1 z6c1][j]? := Later.boxes (t := 38) (fr := (0, 0)) (heap_new rfl)
  go_wp2_with fail
  refine (laws_toPatternS h_aList inferInstance (by have := h_aList.len; have := hq_aList; omega)).mono ?_
  rintro e w7 ⟨z7A, z7n, z7c, z7f, rfl, o7, nd7, lo7, L7⟩
  have U7 := Later.trans (w := w) inferInstance L7
  have X7 := Later.trans (w := (w.alloc (.cells #[.slice aNA0 aNn0 aNc0, .slice aNA1 aNn1 aNc1] 25))) inferInstance L7
  have V3_7 := Later.trans (w := w3) inferInstance L7
  have V4_7 := Later.trans (w := w4) inferInstance L7
  have V5_7 := Later.trans (w := w5) inferInstance L7
  have V6_7 := Later.trans (w := w6) inferInstance L7
  have Y6_7 := Later.trans (w := (w6.alloc (.cells #[.slice z6A0 z6n0 z6c0, .slice z6A1 z6n1 z6c1] 38))) inferInstance L7
  go_wp2_with fail
  refine (impl_BestOffsets o6.reads inferInstance aPeriod o7.reads inferInstance aStop).mono ?_
  rintro e w8 ⟨z8A, z8n, z8c, z8f, rfl, o8, nd8, lo8, L8⟩
  have U8 := Later.trans (w := w) inferInstance L8
  have X8 := Later.trans (w := (w.alloc (.cells #[.slice aNA0 aNn0 aNc0, .slice aNA1 aNn1 aNc1] 25))) inferInstance L8
  have V3_8 := Later.trans (w := w3) inferInstance L8
  have V4_8 := Later.trans (w := w4) inferInstance L8
  have V5_8 := Later.trans (w := w5) inferInstance L8
  have V6_8 := Later.trans (w := w6) inferInstance L8
  have Y6_8 := Later.trans (w := (w6.alloc (.cells #[.slice z6A0 z6n0 z6c0, .slice z6A1 z6n1 z6c1] 38))) inferInstance L8
  have V7_8 := Later.trans (w := w7) inferInstance L8
  go_wp2_with fail
  refine (laws_eqIntS o8.reads inferInstance o5.reads inferInstance).mono ?_
  rintro e w9 ⟨rfl, L9⟩
  have U9 := Later.trans (w := w) inferInstance L9
  have X9 := Later.trans (w := (w.alloc (.cells #[.slice aNA0 aNn0 aNc0, .slice aNA1 aNn1 aNc1] 25))) inferInstance L9
  have V3_9 := Later.trans (w := w3) inferInstance L9
  have V4_9 := Later.trans (w := w4) inferInstance L9
  have V5_9 := Later.trans (w := w5) inferInstance L9
  have V6_9 := Later.trans (w := w6) inferInstance L9
  have Y6_9 := Later.trans (w := (w6.alloc (.cells #[.slice z6A0 z6n0 z6c0, .slice z6A1 z6n1 z6c1] 38))) inferInstance L9
  have V7_9 := Later.trans (w := w7) inferInstance L9
  have V8_9 := Later.trans (w := w8) inferInstance L9
  go_wp2_with fail
  go_region_held3 (fun w' => Later w w' ∧ Later (w.alloc (.cells #[.slice aNA0 aNn0 aNc0, .slice aNA1 aNn1 aNc1] 25)) w' ∧ Later w3 w' ∧ Later w4 w' ∧ Later w5 w' ∧ Later w6 w' ∧ Later (w6.alloc (.cells #[.slice z6A0 z6n0 z6c0, .slice z6A1 z6n1 z6c1] 38)) w' ∧ Later w7 w' ∧ Later w8 w') (first | exact ⟨inferInstance, inferInstance, inferInstance, inferInstance, inferInstance, inferInstance, inferInstance, inferInstance, inferInstance⟩) (first | (go_at_call 31; refine (laws_toNetwork h_aN inferInstance hq_aN).mono ?_; rintro e w10 ⟨z10A0, z10n0, z10c0, z10A1, z10n1, z10c1, z10f0, z10f1, rfl, o10, nd10, lo10, L10⟩; have U10 := Later.trans (w := w) inferInstance L10; have X10 := Later.trans (w := (w.alloc (.cells #[.slice aNA0 aNn0 aNc0, .slice aNA1 aNn1 aNc1] 25))) inferInstance L10; have V3_10 := Later.trans (w := w3) inferInstance L10; have V4_10 := Later.trans (w := w4) inferInstance L10; have V5_10 := Later.trans (w := w5) inferInstance L10; have V6_10 := Later.trans (w := w6) inferInstance L10; have Y6_10 := Later.trans (w := (w6.alloc (.cells #[.slice z6A0 z6n0 z6c0, .slice z6A1 z6n1 z6c1] 38))) inferInstance L10; have V7_10 := Later.trans (w := w7) inferInstance L10; have V8_10 := Later.trans (w := w8) inferInstance L10) | (go_at_call 35; refine (laws_eqNetwork o6.reads inferInstance o10.reads inferInstance).mono ?_; rintro e w11 ⟨rfl, L11⟩; have U11 := Later.trans (w := w) inferInstance L11; have X11 := Later.trans (w := (w.alloc (.cells #[.slice aNA0 aNn0 aNc0, .slice aNA1 aNn1 aNc1] 25))) inferInstance L11; have V3_11 := Later.trans (w := w3) inferInstance L11; have V4_11 := Later.trans (w := w4) inferInstance L11; have V5_11 := Later.trans (w := w5) inferInstance L11; have V6_11 := Later.trans (w := w6) inferInstance L11; have Y6_11 := Later.trans (w := (w6.alloc (.cells #[.slice z6A0 z6n0 z6c0, .slice z6A1 z6n1 z6c1] 38))) inferInstance L11; have V7_11 := Later.trans (w := w7) inferInstance L11; have V8_11 := Later.trans (w := w8) inferInstance L11; have V10_11 := Later.trans (w := w10) inferInstance L11))
  go_wp2_with first | (go_at_call 32; refine (laws_toPatternS h_aList inferInstance (by have := h_aList.len; have := hq_aList; omega)).mono ?_; rintro e w12 ⟨z12A, z12n, z12c, z12f, rfl, o12, nd12, lo12, L12⟩; have U12 := Later.trans (w := w) inferInstance L12; have X12 := Later.trans (w := (w.alloc (.cells #[.slice aNA0 aNn0 aNc0, .slice aNA1 aNn1 aNc1] 25))) inferInstance L12; have V3_12 := Later.trans (w := w3) inferInstance L12; have V4_12 := Later.trans (w := w4) inferInstance L12; have V5_12 := Later.trans (w := w5) inferInstance L12; have V6_12 := Later.trans (w := w6) inferInstance L12; have Y6_12 := Later.trans (w := (w6.alloc (.cells #[.slice z6A0 z6n0 z6c0, .slice z6A1 z6n1 z6c1] 38))) inferInstance L12; have V7_12 := Later.trans (w := w7) inferInstance L12; have V8_12 := Later.trans (w := w8) inferInstance L12) | (go_at_call 36; refine (laws_eqPatternS o7.reads inferInstance o12.reads inferInstance).mono ?_; rintro e w13 ⟨rfl, L13⟩; have U13 := Later.trans (w := w) inferInstance L13; have X13 := Later.trans (w := (w.alloc (.cells #[.slice aNA0 aNn0 aNc0, .slice aNA1 aNn1 aNc1] 25))) inferInstance L13; have V3_13 := Later.trans (w := w3) inferInstance L13; have V4_13 := Later.trans (w := w4) inferInstance L13; have V5_13 := Later.trans (w := w5) inferInstance L13; have V6_13 := Later.trans (w := w6) inferInstance L13; have Y6_13 := Later.trans (w := (w6.alloc (.cells #[.slice z6A0 z6n0 z6c0, .slice z6A1 z6n1 z6c1] 38))) inferInstance L13; have V7_13 := Later.trans (w := w7) inferInstance L13; have V8_13 := Later.trans (w := w8) inferInstance L13; have V12_13 := Later.trans (w := w12) inferInstance L13)
  go_wp2_with fail
  have hcb14 := cntNetwork_le daN
  refine (laws_markNetwork (o6.later inferInstance) nd6 (by omega) (by have hqq := hq_aN; have hcl := cntNetwork_le daN; omega)).mono ?_
  rintro e w14 ⟨rfl, T14, p14⟩
  have U14 := T14.later (inferInstance : Later w _) (fun g hg => Nat.le_trans (Later.size (w := w) inferInstance) (lo6 g hg))
  have X14 := T14.later (inferInstance : Later (w.alloc (.cells #[.slice aNA0 aNn0 aNc0, .slice aNA1 aNn1 aNc1] 25)) _) (fun g hg => Nat.le_trans (Later.size (w := (w.alloc (.cells #[.slice aNA0 aNn0 aNc0, .slice aNA1 aNn1 aNc1] 25))) inferInstance) (lo6 g hg))
  have V3_14 := T14.later (inferInstance : Later w3 _) (fun g hg => Nat.le_trans (Later.size (w := w3) inferInstance) (lo6 g hg))
  have V4_14 := T14.later (inferInstance : Later w4 _) (fun g hg => Nat.le_trans (Later.size (w := w4) inferInstance) (lo6 g hg))
  have V5_14 := T14.later (inferInstance : Later w5 _) (fun g hg => Nat.le_trans (Later.size (w := w5) inferInstance) (lo6 g hg))
  have p14_7 := (o7.later (inferInstance : Later w7 _)).touch T14 (fun b hb hx => absurd (o6.lt b hx) (Nat.not_lt.2 (Nat.le_trans (Later.size (w := w6) inferInstance) (lo7 b hb))))
  have p14_8 := (o8.later (inferInstance : Later w8 _)).touch T14 (fun b hb hx => absurd (o6.lt b hx) (Nat.not_lt.2 (Nat.le_trans (Later.size (w := w6) inferInstance) (lo8 b hb))))
  have hk14 : ¬ ((1 + (cntNetwork daN : Int)) < 0) := by omega
  go_wp2_with fail
  have hcb15 : z7n ≤ 1048576 := by have := o7.len; have := hq_aList; omega
  refine (laws_markPatternS (p14_7.later inferInstance) (by omega) (by have hqq := hq_aList; have hql := o7.len; first | omega | ((try simp only [totNetwork, cntNetwork, totPatterns, cntLines, totLines, totStrs, totLine, cntLine] at hqq); (try simp only [totNetwork, cntNetwork, totPatterns, cntLines, totLines, totStrs, totLine, cntLine]); omega))).mono ?_
  rintro e w15 ⟨rfl, T15, p15⟩
  have U15 := T15.later (inferInstance : Later w _) (fun g hg => Nat.le_trans (Later.size (w := w) inferInstance) (lo7 g hg))
  have X15 := T15.later (inferInstance : Later (w.alloc (.cells #[.slice aNA0 aNn0 aNc0, .slice aNA1 aNn1 aNc1] 25)) _) (fun g hg => Nat.le_trans (Later.size (w := (w.alloc (.cells #[.slice aNA0 aNn0 aNc0, .slice aNA1 aNn1 aNc1] 25))) inferInstance) (lo7 g hg))
  have V3_15 := T15.later (inferInstance : Later w3 _) (fun g hg => Nat.le_trans (Later.size (w := w3) inferInstance) (lo7 g hg))
  have V4_15 := T15.later (inferInstance : Later w4 _) (fun g hg => Nat.le_trans (Later.size (w := w4) inferInstance) (lo7 g hg))
  have V5_15 := T15.later (inferInstance : Later w5 _) (fun g hg => Nat.le_trans (Later.size (w := w5) inferInstance) (lo7 g hg))
  have p15_8 := (p14_8.later (inferInstance : Later w14 _)).touch T15 (fun b hb hx => absurd (o7.lt b hx) (Nat.not_lt.2 (Nat.le_trans (Later.size (w := w7) inferInstance) (lo8 b hb))))
  have hk15 : ¬ (((1 + (cntNetwork daN : Int)) + 2 * (z7n : Int)) < 0) := by omega
  go_wp2_with fail
  refine (laws_eqIntS p15_8.reads inferInstance o5.reads inferInstance).mono ?_
  rintro e w16 ⟨rfl, L16⟩
  have U16 := Later.trans (w := w) inferInstance L16
  have X16 := Later.trans (w := (w.alloc (.cells #[.slice aNA0 aNn0 aNc0, .slice aNA1 aNn1 aNc1] 25))) inferInstance L16
  have V3_16 := Later.trans (w := w3) inferInstance L16
  have V4_16 := Later.trans (w := w4) inferInstance L16
  have V5_16 := Later.trans (w := w5) inferInstance L16
  have P15_16 := Later.trans (w := w15) inferInstance L16
  go_wp2_with fail
  refine (laws_markIntS (p15_8.later inferInstance) (by omega) (by have hqq := offRes_len daN aPeriod daList aStop; have hql := o8.len; first | omega | ((try simp only [totNetwork, cntNetwork, totPatterns, cntLines, totLines, totStrs, totLine, cntLine] at hqq); (try simp only [totNetwork, cntNetwork, totPatterns, cntLines, totLines, totStrs, totLine, cntLine]); omega))).mono ?_
  rintro e w17 ⟨rfl, T17, p17⟩
  have U17 := T17.later (inferInstance : Later w _) (fun g hg => Nat.le_trans (Later.size (w := w) inferInstance) (lo8 g hg))
  have X17 := T17.later (inferInstance : Later (w.alloc (.cells #[.slice aNA0 aNn0 aNc0, .slice aNA1 aNn1 aNc1] 25)) _) (fun g hg => Nat.le_trans (Later.size (w := (w.alloc (.cells #[.slice aNA0 aNn0 aNc0, .slice aNA1 aNn1 aNc1] 25))) inferInstance) (lo8 g hg))
  have V3_17 := T17.later (inferInstance : Later w3 _) (fun g hg => Nat.le_trans (Later.size (w := w3) inferInstance) (lo8 g hg))
  have V4_17 := T17.later (inferInstance : Later w4 _) (fun g hg => Nat.le_trans (Later.size (w := w4) inferInstance) (lo8 g hg))
  have V5_17 := T17.later (inferInstance : Later w5 _) (fun g hg => Nat.le_trans (Later.size (w := w5) inferInstance) (lo8 g hg))
  have hk17 : ¬ ((1 + (z8n : Int)) < 0) := by omega
  go_wp2_with fail
  refine (laws_heldIntS p17.reads inferInstance (by omega) (by have hqq := offRes_len daN aPeriod daList aStop; have hql := o8.len; first | omega | ((try simp only [totNetwork, cntNetwork, totPatterns, cntLines, totLines, totStrs, totLine, cntLine] at hqq); (try simp only [totNetwork, cntNetwork, totPatterns, cntLines, totLines, totStrs, totLine, cntLine]); omega))).mono ?_
  rintro e w18 ⟨rfl, L18⟩
  have U18 := Later.trans (w := w) inferInstance L18
  have X18 := Later.trans (w := (w.alloc (.cells #[.slice aNA0 aNn0 aNc0, .slice aNA1 aNn1 aNc1] 25))) inferInstance L18
  have V3_18 := Later.trans (w := w3) inferInstance L18
  have V4_18 := Later.trans (w := w4) inferInstance L18
  have V5_18 := Later.trans (w := w5) inferInstance L18
  have P17_18 := Later.trans (w := w17) inferInstance L18
  go_wp2_with fail
  refine (laws_toNetwork h_aN inferInstance hq_aN).mono ?_
  rintro e w19 ⟨z19A0, z19n0, z19c0, z19A1, z19n1, z19c1, z19f0, z19f1, rfl, o19, nd19, lo19, L19⟩
  have U19 := Later.trans (w := w) inferInstance L19
  have X19 := Later.trans (w := (w.alloc (.cells #[.slice aNA0 aNn0 aNc0, .slice aNA1 aNn1 aNc1] 25))) inferInstance L19
  have V3_19 := Later.trans (w := w3) inferInstance L19
  have V4_19 := Later.trans (w := w4) inferInstance L19
  have V5_19 := Later.trans (w := w5) inferInstance L19
  have P17_19 := Later.trans (w := w17) inferInstance L19
  go_wp2_with fail
  refine (laws_toPatternS h_aList inferInstance (by have := h_aList.len; have := hq_aList; omega)).mono ?_
  rintro e w20 ⟨z20A, z20n, z20c, z20f, rfl, o20, nd20, lo20, L20⟩
  have U20 := Later.trans (w := w) inferInstance L20
  have X20 := Later.trans (w := (w.alloc (.cells #[.slice aNA0 aNn0 aNc0, .slice aNA1 aNn1 aNc1] 25))) inferInstance L20
  have V3_20 := Later.trans (w := w3) inferInstance L20
  have V4_20 := Later.trans (w := w4) inferInstance L20
  have V5_20 := Later.trans (w := w5) inferInstance L20
  have P17_20 := Later.trans (w := w17) inferInstance L20
  have V19_20 := Later.trans (w := w19) inferInstance L20
  go_wp2_with fail
  refine (impl_BestOffsets o19.reads inferInstance aPeriod o20.reads inferInstance aStop).mono ?_
  rintro e w21 ⟨z21A, z21n, z21c, z21f, rfl, o21, nd21, lo21, L21⟩
  have U21 := Later.trans (w := w) inferInstance L21
  have X21 := Later.trans (w := (w.alloc (.cells #[.slice aNA0 aNn0 aNc0, .slice aNA1 aNn1 aNc1] 25))) inferInstance L21
  have V3_21 := Later.trans (w := w3) inferInstance L21
  have V4_21 := Later.trans (w := w4) inferInstance L21
  have V5_21 := Later.trans (w := w5) inferInstance L21
  have P17_21 := Later.trans (w := w17) inferInstance L21
  have V19_21 := Later.trans (w := w19) inferInstance L21
  have V20_21 := Later.trans (w := w20) inferInstance L21
  go_wp2_with fail
  refine (laws_eqIntS o21.reads inferInstance o5.reads inferInstance).mono ?_
  rintro e w22 ⟨rfl, L22⟩
  have U22 := Later.trans (w := w) inferInstance L22
  have X22 := Later.trans (w := (w.alloc (.cells #[.slice aNA0 aNn0 aNc0, .slice aNA1 aNn1 aNc1] 25))) inferInstance L22
  have V3_22 := Later.trans (w := w3) inferInstance L22
  have V4_22 := Later.trans (w := w4) inferInstance L22
  have V5_22 := Later.trans (w := w5) inferInstance L22
  have P17_22 := Later.trans (w := w17) inferInstance L22
  have V19_22 := Later.trans (w := w19) inferInstance L22
  have V20_22 := Later.trans (w := w20) inferInstance L22
  have V21_22 := Later.trans (w := w21) inferInstance L22
  go_wp2_with fail
  refine (laws_heldIntS p17.reads inferInstance (by omega) (by have hqq := offRes_len daN aPeriod daList aStop; have hql := o8.len; first | omega | ((try simp only [totNetwork, cntNetwork, totPatterns, cntLines, totLines, totStrs, totLine, cntLine] at hqq); (try simp only [totNetwork, cntNetwork, totPatterns, cntLines, totLines, totStrs, totLine, cntLine]); omega))).mono ?_
  rintro e w23 ⟨rfl, L23⟩
  have U23 := Later.trans (w := w) inferInstance L23
  have X23 := Later.trans (w := (w.alloc (.cells #[.slice aNA0 aNn0 aNc0, .slice aNA1 aNn1 aNc1] 25))) inferInstance L23
  have V3_23 := Later.trans (w := w3) inferInstance L23
  have V4_23 := Later.trans (w := w4) inferInstance L23
  have V5_23 := Later.trans (w := w5) inferInstance L23
  have P17_23 := Later.trans (w := w17) inferInstance L23
  have V19_23 := Later.trans (w := w19) inferInstance L23
  have V20_23 := Later.trans (w := w20) inferInstance L23
  have V21_23 := Later.trans (w := w21) inferInstance L23
  go_wp2
  go_ret
  exact ⟨rfl, inferInstance⟩
end Go.Proofs.Ytaopadffabbjiaa
