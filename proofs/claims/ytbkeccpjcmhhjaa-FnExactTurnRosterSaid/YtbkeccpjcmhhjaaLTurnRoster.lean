/-
  The statement's call FnExactTurnRoster: it returns true, out of what both functions return. Printed by a program of ours (gen_law.py).
-/
import Derived.Test.YtbkeccpjcmhhjaaTurnS
import Derived.Test.YtbkeccpjcmhhjaaHRoster
import Derived.Deep.RegionHeld3
namespace Go.Proofs.Ytbkeccpjcmhhjaa
open Go Go.RowKit
set_option linter.unusedVariables false
set_option maxRecDepth 100000
set_option linter.unusedSimpArgs false
theorem sumLen_le {l : List (List Int)} {b : Nat} (h : ∀ x, x ∈ l → x.length ≤ b) : sumLen l ≤ l.length * b := by
  induction l with
  | nil => simp [sumLen]
  | cons x l ih =>
    have h1 := h x (by simp)
    have h2 := ih fun y hy => h y (by simp [hy])
    simp only [sumLen, List.map_cons, List.sum_cons, List.length_cons, Nat.succ_mul] at *
    omega
theorem turn_cnt (r : Roster) (t : Int) : cntRoster (turnRes r t).1 ≤ 1000 := by
  unfold turnRes
  split
  · rename_i h
    simp only [Bool.and_eq_true] at h
    have ok := rosterFacts h.1
    have h1 := ok.shifts
    have h2 := ok.plan
    have h3 := ok.days
    have hs : sumLen (turned r t.toNat) ≤ (turned r t.toNat).length * 14 := sumLen_le fun x hx => by
      obtain ⟨i, hi, rfl⟩ := List.mem_map.1 hx
      have hq : (i + t.toNat) % r.Plan.length < r.Plan.length := Nat.mod_lt _ (by omega)
      have he := List.getElem?_eq_getElem hq
      rw [rowOf_eq he]
      have := (ok.row _ _ he).1
      unfold days at h3
      omega
    rw [turned_len] at hs
    show 2 * r.Shifts.length + sumLen (turned r t.toNat) ≤ 1000
    omega
  · show 2 * 0 + sumLen [] ≤ 1000
    simp [sumLen]
set_option maxHeartbeats 4000000 in
theorem w_FnExactTurnRoster {w : World} {aRA0 : Option Addr} {aRn0 aRc0 : Nat} {aRA1 : Option Addr} {aRn1 aRc1 : Nat} {daR : Roster} {aTurns : Int} (h_aR : RosterAt w aRA0 aRn0 aRc0 aRA1 aRn1 aRc1 daR) (i_aTurns : I64 aTurns) : Calls Try.prog 3 #[.agg #[.slice aRA0 aRn0 aRc0, .int .i64 daR.Rules.MinRest, .int .i64 daR.Rules.MaxRow, .int .i64 daR.Rules.MaxWeek, .slice aRA1 aRn1 aRc1], .int .i64 aTurns] w (Ret (.bool true) w) := by
  have HB0 : ∀ W [Later (w.alloc (.cells #[.slice aRA0 aRn0 aRc0, .int .i64 daR.Rules.MinRest, .int .i64 daR.Rules.MaxRow, .int .i64 daR.Rules.MaxWeek, .slice aRA1 aRn1 aRc1] 27)) W] (j : Nat), W.cell? ⟨w.heap.size, j, none⟩ = #[.slice aRA0 aRn0 aRc0, .int .i64 daR.Rules.MinRest, .int .i64 daR.Rules.MaxRow, .int .i64 daR.Rules.MaxWeek, .slice aRA1 aRn1 aRc1][j]? := Later.boxes (t := 27) (fr := (0, 0)) (heap_new (by simp; try omega))
  obtain ⟨D, Bb, hDB⟩ : ∃ D Bb, turnRes daR aTurns = (D, Bb) := ⟨_, _, rfl⟩
  have hcD : cntRoster D ≤ 1000 := by have := turn_cnt daR aTurns; rw [hDB] at this; exact this
  have hbb : ∀ a : Bool, (a != a) = false := by simp
  have hii : ∀ a : Int, (a != a) = false := by simp
  go_enter Try.func3, Try.ntmps3
  go_wp2_with fail
  refine (laws_szRoster h_aR inferInstance (by omega) (by omega)).mono ?_
  rintro e w1 ⟨r1, rfl, hr1, L1⟩
  have U1 := Later.trans (w := w) inferInstance L1
  have X1 := Later.trans (w := (w.alloc (.cells #[.slice aRA0 aRn0 aRc0, .int .i64 daR.Rules.MinRest, .int .i64 daR.Rules.MaxRow, .int .i64 daR.Rules.MaxWeek, .slice aRA1 aRn1 aRc1] 27))) inferInstance L1
  rcases hr1 with hr1 | ⟨hp1, hq1⟩
  · go_wp2
    go_ret
    exact ⟨rfl, inferInstance⟩
  have hb1 : r1 ≤ 1048576 := by omega
  have hq_aR : totRoster daR ≤ 1048576 := by omega
  clear hq1
  go_wp2_with fail
  refine (laws_toRoster h_aR inferInstance hq_aR).mono ?_
  rintro e w2 ⟨z2A0, z2n0, z2c0, z2A1, z2n1, z2c1, z2f0, z2f1, rfl, o2, nd2, lo2, L2⟩
  have U2 := Later.trans (w := w) inferInstance L2
  have X2 := Later.trans (w := (w.alloc (.cells #[.slice aRA0 aRn0 aRc0, .int .i64 daR.Rules.MinRest, .int .i64 daR.Rules.MaxRow, .int .i64 daR.Rules.MaxWeek, .slice aRA1 aRn1 aRc1] 27))) inferInstance L2
  go_wp2_with fail
  refine (spec_TurnRoster o2.reads inferInstance aTurns).mono ?_
  rw [hDB]
  rintro e w3 ⟨z3A0, z3n0, z3c0, z3A1, z3n1, z3c1, z3f0, z3f1, rfl, o3, nd3, lo3, L3⟩
  have U3 := Later.trans (w := w) inferInstance L3
  have X3 := Later.trans (w := (w.alloc (.cells #[.slice aRA0 aRn0 aRc0, .int .i64 daR.Rules.MinRest, .int .i64 daR.Rules.MaxRow, .int .i64 daR.Rules.MaxWeek, .slice aRA1 aRn1 aRc1] 27))) inferInstance L3
  have V2_3 := Later.trans (w := w2) inferInstance L3
  have HBx3 : ∀ W [Later (w3.alloc (.cells #[.slice z3A0 z3n0 z3c0, .int .i64 D.Rules.MinRest, .int .i64 D.Rules.MaxRow, .int .i64 D.Rules.MaxWeek, .slice z3A1 z3n1 z3c1] 32)) W] (j : Nat), W.cell? ⟨w3.heap.size, j, none⟩ = #[.slice z3A0 z3n0 z3c0, .int .i64 D.Rules.MinRest, .int .i64 D.Rules.MaxRow, .int .i64 D.Rules.MaxWeek, .slice z3A1 z3n1 z3c1][j]? := Later.boxes (t := 32) (fr := (0, 0)) (heap_new rfl)
  go_wp2_with fail
  refine (laws_toRoster h_aR inferInstance hq_aR).mono ?_
  rintro e w4 ⟨z4A0, z4n0, z4c0, z4A1, z4n1, z4c1, z4f0, z4f1, rfl, o4, nd4, lo4, L4⟩
  have U4 := Later.trans (w := w) inferInstance L4
  have X4 := Later.trans (w := (w.alloc (.cells #[.slice aRA0 aRn0 aRc0, .int .i64 daR.Rules.MinRest, .int .i64 daR.Rules.MaxRow, .int .i64 daR.Rules.MaxWeek, .slice aRA1 aRn1 aRc1] 27))) inferInstance L4
  have V2_4 := Later.trans (w := w2) inferInstance L4
  have V3_4 := Later.trans (w := w3) inferInstance L4
  have Y3_4 := Later.trans (w := (w3.alloc (.cells #[.slice z3A0 z3n0 z3c0, .int .i64 D.Rules.MinRest, .int .i64 D.Rules.MaxRow, .int .i64 D.Rules.MaxWeek, .slice z3A1 z3n1 z3c1] 32))) inferInstance L4
  have HBx4 : ∀ W [Later (w4.alloc (.cells #[.slice z4A0 z4n0 z4c0, .int .i64 daR.Rules.MinRest, .int .i64 daR.Rules.MaxRow, .int .i64 daR.Rules.MaxWeek, .slice z4A1 z4n1 z4c1] 32)) W] (j : Nat), W.cell? ⟨w4.heap.size, j, none⟩ = #[.slice z4A0 z4n0 z4c0, .int .i64 daR.Rules.MinRest, .int .i64 daR.Rules.MaxRow, .int .i64 daR.Rules.MaxWeek, .slice z4A1 z4n1 z4c1][j]? := Later.boxes (t := 32) (fr := (0, 0)) (heap_new rfl)
  go_wp2_with fail
  refine (impl_TurnRoster o4.reads inferInstance aTurns).mono ?_
  rw [hDB]
  rintro e w5 ⟨z5A0, z5n0, z5c0, z5A1, z5n1, z5c1, z5f0, z5f1, rfl, o5, nd5, lo5, L5⟩
  have U5 := Later.trans (w := w) inferInstance L5
  have X5 := Later.trans (w := (w.alloc (.cells #[.slice aRA0 aRn0 aRc0, .int .i64 daR.Rules.MinRest, .int .i64 daR.Rules.MaxRow, .int .i64 daR.Rules.MaxWeek, .slice aRA1 aRn1 aRc1] 27))) inferInstance L5
  have V2_5 := Later.trans (w := w2) inferInstance L5
  have V3_5 := Later.trans (w := w3) inferInstance L5
  have Y3_5 := Later.trans (w := (w3.alloc (.cells #[.slice z3A0 z3n0 z3c0, .int .i64 D.Rules.MinRest, .int .i64 D.Rules.MaxRow, .int .i64 D.Rules.MaxWeek, .slice z3A1 z3n1 z3c1] 32))) inferInstance L5
  have V4_5 := Later.trans (w := w4) inferInstance L5
  have Y4_5 := Later.trans (w := (w4.alloc (.cells #[.slice z4A0 z4n0 z4c0, .int .i64 daR.Rules.MinRest, .int .i64 daR.Rules.MaxRow, .int .i64 daR.Rules.MaxWeek, .slice z4A1 z4n1 z4c1] 32))) inferInstance L5
  have HBx5 : ∀ W [Later (w5.alloc (.cells #[.slice z5A0 z5n0 z5c0, .int .i64 D.Rules.MinRest, .int .i64 D.Rules.MaxRow, .int .i64 D.Rules.MaxWeek, .slice z5A1 z5n1 z5c1] 32)) W] (j : Nat), W.cell? ⟨w5.heap.size, j, none⟩ = #[.slice z5A0 z5n0 z5c0, .int .i64 D.Rules.MinRest, .int .i64 D.Rules.MaxRow, .int .i64 D.Rules.MaxWeek, .slice z5A1 z5n1 z5c1][j]? := Later.boxes (t := 32) (fr := (0, 0)) (heap_new rfl)
  go_wp2_with fail
  refine (laws_eqRoster o5.reads inferInstance o3.reads inferInstance).mono ?_
  rintro e w6 ⟨rfl, L6⟩
  have U6 := Later.trans (w := w) inferInstance L6
  have X6 := Later.trans (w := (w.alloc (.cells #[.slice aRA0 aRn0 aRc0, .int .i64 daR.Rules.MinRest, .int .i64 daR.Rules.MaxRow, .int .i64 daR.Rules.MaxWeek, .slice aRA1 aRn1 aRc1] 27))) inferInstance L6
  have V2_6 := Later.trans (w := w2) inferInstance L6
  have V3_6 := Later.trans (w := w3) inferInstance L6
  have Y3_6 := Later.trans (w := (w3.alloc (.cells #[.slice z3A0 z3n0 z3c0, .int .i64 D.Rules.MinRest, .int .i64 D.Rules.MaxRow, .int .i64 D.Rules.MaxWeek, .slice z3A1 z3n1 z3c1] 32))) inferInstance L6
  have V4_6 := Later.trans (w := w4) inferInstance L6
  have Y4_6 := Later.trans (w := (w4.alloc (.cells #[.slice z4A0 z4n0 z4c0, .int .i64 daR.Rules.MinRest, .int .i64 daR.Rules.MaxRow, .int .i64 daR.Rules.MaxWeek, .slice z4A1 z4n1 z4c1] 32))) inferInstance L6
  have V5_6 := Later.trans (w := w5) inferInstance L6
  have Y5_6 := Later.trans (w := (w5.alloc (.cells #[.slice z5A0 z5n0 z5c0, .int .i64 D.Rules.MinRest, .int .i64 D.Rules.MaxRow, .int .i64 D.Rules.MaxWeek, .slice z5A1 z5n1 z5c1] 32))) inferInstance L6
  go_wp2_with fail
  go_region_held3 (fun w' => Later w w' ∧ Later (w.alloc (.cells #[.slice aRA0 aRn0 aRc0, .int .i64 daR.Rules.MinRest, .int .i64 daR.Rules.MaxRow, .int .i64 daR.Rules.MaxWeek, .slice aRA1 aRn1 aRc1] 27)) w' ∧ Later w2 w' ∧ Later w3 w' ∧ Later w4 w' ∧ Later (w4.alloc (.cells #[.slice z4A0 z4n0 z4c0, .int .i64 daR.Rules.MinRest, .int .i64 daR.Rules.MaxRow, .int .i64 daR.Rules.MaxWeek, .slice z4A1 z4n1 z4c1] 32)) w' ∧ Later w5 w' ∧ Later (w3.alloc (.cells #[.slice z3A0 z3n0 z3c0, .int .i64 D.Rules.MinRest, .int .i64 D.Rules.MaxRow, .int .i64 D.Rules.MaxWeek, .slice z3A1 z3n1 z3c1] 32)) w' ∧ Later (w5.alloc (.cells #[.slice z5A0 z5n0 z5c0, .int .i64 D.Rules.MinRest, .int .i64 D.Rules.MaxRow, .int .i64 D.Rules.MaxWeek, .slice z5A1 z5n1 z5c1] 32)) w') (first | exact ⟨inferInstance, inferInstance, inferInstance, inferInstance, inferInstance, inferInstance, inferInstance, inferInstance, inferInstance⟩) (first | (go_at_call 20; refine (laws_toRoster h_aR inferInstance hq_aR).mono ?_; rintro e w7 ⟨z7A0, z7n0, z7c0, z7A1, z7n1, z7c1, z7f0, z7f1, rfl, o7, nd7, lo7, L7⟩; have U7 := Later.trans (w := w) inferInstance L7; have X7 := Later.trans (w := (w.alloc (.cells #[.slice aRA0 aRn0 aRc0, .int .i64 daR.Rules.MinRest, .int .i64 daR.Rules.MaxRow, .int .i64 daR.Rules.MaxWeek, .slice aRA1 aRn1 aRc1] 27))) inferInstance L7; have V2_7 := Later.trans (w := w2) inferInstance L7; have V3_7 := Later.trans (w := w3) inferInstance L7; have Y3_7 := Later.trans (w := (w3.alloc (.cells #[.slice z3A0 z3n0 z3c0, .int .i64 D.Rules.MinRest, .int .i64 D.Rules.MaxRow, .int .i64 D.Rules.MaxWeek, .slice z3A1 z3n1 z3c1] 32))) inferInstance L7; have V4_7 := Later.trans (w := w4) inferInstance L7; have Y4_7 := Later.trans (w := (w4.alloc (.cells #[.slice z4A0 z4n0 z4c0, .int .i64 daR.Rules.MinRest, .int .i64 daR.Rules.MaxRow, .int .i64 daR.Rules.MaxWeek, .slice z4A1 z4n1 z4c1] 32))) inferInstance L7; have V5_7 := Later.trans (w := w5) inferInstance L7; have Y5_7 := Later.trans (w := (w5.alloc (.cells #[.slice z5A0 z5n0 z5c0, .int .i64 D.Rules.MinRest, .int .i64 D.Rules.MaxRow, .int .i64 D.Rules.MaxWeek, .slice z5A1 z5n1 z5c1] 32))) inferInstance L7) | (go_at_call 22; refine (laws_eqRoster o4.reads inferInstance o7.reads inferInstance).mono ?_; rintro e w8 ⟨rfl, L8⟩; have U8 := Later.trans (w := w) inferInstance L8; have X8 := Later.trans (w := (w.alloc (.cells #[.slice aRA0 aRn0 aRc0, .int .i64 daR.Rules.MinRest, .int .i64 daR.Rules.MaxRow, .int .i64 daR.Rules.MaxWeek, .slice aRA1 aRn1 aRc1] 27))) inferInstance L8; have V2_8 := Later.trans (w := w2) inferInstance L8; have V3_8 := Later.trans (w := w3) inferInstance L8; have Y3_8 := Later.trans (w := (w3.alloc (.cells #[.slice z3A0 z3n0 z3c0, .int .i64 D.Rules.MinRest, .int .i64 D.Rules.MaxRow, .int .i64 D.Rules.MaxWeek, .slice z3A1 z3n1 z3c1] 32))) inferInstance L8; have V4_8 := Later.trans (w := w4) inferInstance L8; have Y4_8 := Later.trans (w := (w4.alloc (.cells #[.slice z4A0 z4n0 z4c0, .int .i64 daR.Rules.MinRest, .int .i64 daR.Rules.MaxRow, .int .i64 daR.Rules.MaxWeek, .slice z4A1 z4n1 z4c1] 32))) inferInstance L8; have V5_8 := Later.trans (w := w5) inferInstance L8; have Y5_8 := Later.trans (w := (w5.alloc (.cells #[.slice z5A0 z5n0 z5c0, .int .i64 D.Rules.MinRest, .int .i64 D.Rules.MaxRow, .int .i64 D.Rules.MaxWeek, .slice z5A1 z5n1 z5c1] 32))) inferInstance L8; have V7_8 := Later.trans (w := w7) inferInstance L8))
  have hb5 : Blk (w5.alloc (.cells #[.slice z5A0 z5n0 z5c0, .int .i64 D.Rules.MinRest, .int .i64 D.Rules.MaxRow, .int .i64 D.Rules.MaxWeek, .slice z5A1 z5n1 z5c1] 32)) w5.heap.size 32 #[.slice z5A0 z5n0 z5c0, .int .i64 D.Rules.MinRest, .int .i64 D.Rules.MaxRow, .int .i64 D.Rules.MaxWeek, .slice z5A1 z5n1 z5c1] := Blk.new _ _ _
  go_wp2_with fail
  refine (laws_markRoster (o4.later inferInstance) nd4 (by omega) (by have hqq := hq_aR; (try simp only [totRoster, cntRoster, totRows] at hqq); (try simp only [totRoster, cntRoster, totRows]); omega)).mono ?_
  rintro e w9 ⟨rfl, T9, p9⟩
  have U9 := T9.later (inferInstance : Later w _) (fun g hg => Nat.le_trans (Later.size (w := w) inferInstance) (lo4 g hg))
  have X9 := T9.later (inferInstance : Later (w.alloc (.cells #[.slice aRA0 aRn0 aRc0, .int .i64 daR.Rules.MinRest, .int .i64 daR.Rules.MaxRow, .int .i64 daR.Rules.MaxWeek, .slice aRA1 aRn1 aRc1] 27)) _) (fun g hg => Nat.le_trans (Later.size (w := (w.alloc (.cells #[.slice aRA0 aRn0 aRc0, .int .i64 daR.Rules.MinRest, .int .i64 daR.Rules.MaxRow, .int .i64 daR.Rules.MaxWeek, .slice aRA1 aRn1 aRc1] 27))) inferInstance) (lo4 g hg))
  have V2_9 := T9.later (inferInstance : Later w2 _) (fun g hg => Nat.le_trans (Later.size (w := w2) inferInstance) (lo4 g hg))
  have V3_9 := T9.later (inferInstance : Later w3 _) (fun g hg => Nat.le_trans (Later.size (w := w3) inferInstance) (lo4 g hg))
  have Y3_9 := T9.later (inferInstance : Later (w3.alloc (.cells #[.slice z3A0 z3n0 z3c0, .int .i64 D.Rules.MinRest, .int .i64 D.Rules.MaxRow, .int .i64 D.Rules.MaxWeek, .slice z3A1 z3n1 z3c1] 32)) _) (fun g hg => Nat.le_trans (Later.size (w := (w3.alloc (.cells #[.slice z3A0 z3n0 z3c0, .int .i64 D.Rules.MinRest, .int .i64 D.Rules.MaxRow, .int .i64 D.Rules.MaxWeek, .slice z3A1 z3n1 z3c1] 32))) inferInstance) (lo4 g hg))
  have p9_5 := (o5.later (inferInstance : Later w5 _)).touch T9 (fun b hb hx => absurd (o4.lt b hx) (Nat.not_lt.2 (Nat.le_trans (Later.size (w := w4) inferInstance) (lo5 b hb))))
  have hb9 : Blk w9 w5.heap.size 32 #[.slice z5A0 z5n0 z5c0, .int .i64 D.Rules.MinRest, .int .i64 D.Rules.MaxRow, .int .i64 D.Rules.MaxWeek, .slice z5A1 z5n1 z5c1] := (T9.block _ ((hb5.later inferInstance).lt) (fun hx => absurd (o4.lt _ hx) (Nat.not_lt.2 (Later.size (w := w4) inferInstance)))).trans (hb5.later inferInstance)
  have HBx9 : ∀ W [Later w9 W] (j : Nat), W.cell? ⟨w5.heap.size, j, none⟩ = #[.slice z5A0 z5n0 z5c0, .int .i64 D.Rules.MinRest, .int .i64 D.Rules.MaxRow, .int .i64 D.Rules.MaxWeek, .slice z5A1 z5n1 z5c1][j]? := Later.boxes (t := 32) (fr := (0, 0)) hb9
  have hk9 : ¬ ((1 + (cntRoster daR : Int)) < 0) := by omega
  go_wp2_with fail
  refine (laws_eqRoster p9_5.reads inferInstance o3.reads inferInstance).mono ?_
  rintro e w10 ⟨rfl, L10⟩
  have U10 := Later.trans (w := w) inferInstance L10
  have X10 := Later.trans (w := (w.alloc (.cells #[.slice aRA0 aRn0 aRc0, .int .i64 daR.Rules.MinRest, .int .i64 daR.Rules.MaxRow, .int .i64 daR.Rules.MaxWeek, .slice aRA1 aRn1 aRc1] 27))) inferInstance L10
  have V2_10 := Later.trans (w := w2) inferInstance L10
  have V3_10 := Later.trans (w := w3) inferInstance L10
  have Y3_10 := Later.trans (w := (w3.alloc (.cells #[.slice z3A0 z3n0 z3c0, .int .i64 D.Rules.MinRest, .int .i64 D.Rules.MaxRow, .int .i64 D.Rules.MaxWeek, .slice z3A1 z3n1 z3c1] 32))) inferInstance L10
  have P9_10 := Later.trans (w := w9) inferInstance L10
  go_wp2_with fail
  refine (laws_markRoster (p9_5.later inferInstance) nd5 (by omega) (by omega)).mono ?_
  rintro e w11 ⟨rfl, T11, p11⟩
  have U11 := T11.later (inferInstance : Later w _) (fun g hg => Nat.le_trans (Later.size (w := w) inferInstance) (lo5 g hg))
  have X11 := T11.later (inferInstance : Later (w.alloc (.cells #[.slice aRA0 aRn0 aRc0, .int .i64 daR.Rules.MinRest, .int .i64 daR.Rules.MaxRow, .int .i64 daR.Rules.MaxWeek, .slice aRA1 aRn1 aRc1] 27)) _) (fun g hg => Nat.le_trans (Later.size (w := (w.alloc (.cells #[.slice aRA0 aRn0 aRc0, .int .i64 daR.Rules.MinRest, .int .i64 daR.Rules.MaxRow, .int .i64 daR.Rules.MaxWeek, .slice aRA1 aRn1 aRc1] 27))) inferInstance) (lo5 g hg))
  have V2_11 := T11.later (inferInstance : Later w2 _) (fun g hg => Nat.le_trans (Later.size (w := w2) inferInstance) (lo5 g hg))
  have V3_11 := T11.later (inferInstance : Later w3 _) (fun g hg => Nat.le_trans (Later.size (w := w3) inferInstance) (lo5 g hg))
  have Y3_11 := T11.later (inferInstance : Later (w3.alloc (.cells #[.slice z3A0 z3n0 z3c0, .int .i64 D.Rules.MinRest, .int .i64 D.Rules.MaxRow, .int .i64 D.Rules.MaxWeek, .slice z3A1 z3n1 z3c1] 32)) _) (fun g hg => Nat.le_trans (Later.size (w := (w3.alloc (.cells #[.slice z3A0 z3n0 z3c0, .int .i64 D.Rules.MinRest, .int .i64 D.Rules.MaxRow, .int .i64 D.Rules.MaxWeek, .slice z3A1 z3n1 z3c1] 32))) inferInstance) (lo5 g hg))
  have hb11 : Blk w11 w5.heap.size 32 #[.slice z5A0 z5n0 z5c0, .int .i64 D.Rules.MinRest, .int .i64 D.Rules.MaxRow, .int .i64 D.Rules.MaxWeek, .slice z5A1 z5n1 z5c1] := (T11.block _ ((hb9.later inferInstance).lt) (fun hx => Nat.lt_irrefl _ (o5.lt _ hx))).trans (hb9.later inferInstance)
  have HBx11 : ∀ W [Later w11 W] (j : Nat), W.cell? ⟨w5.heap.size, j, none⟩ = #[.slice z5A0 z5n0 z5c0, .int .i64 D.Rules.MinRest, .int .i64 D.Rules.MaxRow, .int .i64 D.Rules.MaxWeek, .slice z5A1 z5n1 z5c1][j]? := Later.boxes (t := 32) (fr := (0, 0)) hb11
  have hk11 : ¬ ((1 + (cntRoster D : Int)) < 0) := by omega
  go_wp2_with fail
  refine (laws_heldRoster p11.reads inferInstance (by omega) (by omega)).mono ?_
  rintro e w12 ⟨rfl, L12⟩
  have U12 := Later.trans (w := w) inferInstance L12
  have X12 := Later.trans (w := (w.alloc (.cells #[.slice aRA0 aRn0 aRc0, .int .i64 daR.Rules.MinRest, .int .i64 daR.Rules.MaxRow, .int .i64 daR.Rules.MaxWeek, .slice aRA1 aRn1 aRc1] 27))) inferInstance L12
  have V2_12 := Later.trans (w := w2) inferInstance L12
  have V3_12 := Later.trans (w := w3) inferInstance L12
  have Y3_12 := Later.trans (w := (w3.alloc (.cells #[.slice z3A0 z3n0 z3c0, .int .i64 D.Rules.MinRest, .int .i64 D.Rules.MaxRow, .int .i64 D.Rules.MaxWeek, .slice z3A1 z3n1 z3c1] 32))) inferInstance L12
  have P11_12 := Later.trans (w := w11) inferInstance L12
  go_wp2_with fail
  refine (laws_toRoster h_aR inferInstance hq_aR).mono ?_
  rintro e w13 ⟨z13A0, z13n0, z13c0, z13A1, z13n1, z13c1, z13f0, z13f1, rfl, o13, nd13, lo13, L13⟩
  have U13 := Later.trans (w := w) inferInstance L13
  have X13 := Later.trans (w := (w.alloc (.cells #[.slice aRA0 aRn0 aRc0, .int .i64 daR.Rules.MinRest, .int .i64 daR.Rules.MaxRow, .int .i64 daR.Rules.MaxWeek, .slice aRA1 aRn1 aRc1] 27))) inferInstance L13
  have V2_13 := Later.trans (w := w2) inferInstance L13
  have V3_13 := Later.trans (w := w3) inferInstance L13
  have Y3_13 := Later.trans (w := (w3.alloc (.cells #[.slice z3A0 z3n0 z3c0, .int .i64 D.Rules.MinRest, .int .i64 D.Rules.MaxRow, .int .i64 D.Rules.MaxWeek, .slice z3A1 z3n1 z3c1] 32))) inferInstance L13
  have P11_13 := Later.trans (w := w11) inferInstance L13
  go_wp2_with fail
  refine (impl_TurnRoster o13.reads inferInstance aTurns).mono ?_
  rw [hDB]
  rintro e w14 ⟨z14A0, z14n0, z14c0, z14A1, z14n1, z14c1, z14f0, z14f1, rfl, o14, nd14, lo14, L14⟩
  have U14 := Later.trans (w := w) inferInstance L14
  have X14 := Later.trans (w := (w.alloc (.cells #[.slice aRA0 aRn0 aRc0, .int .i64 daR.Rules.MinRest, .int .i64 daR.Rules.MaxRow, .int .i64 daR.Rules.MaxWeek, .slice aRA1 aRn1 aRc1] 27))) inferInstance L14
  have V2_14 := Later.trans (w := w2) inferInstance L14
  have V3_14 := Later.trans (w := w3) inferInstance L14
  have Y3_14 := Later.trans (w := (w3.alloc (.cells #[.slice z3A0 z3n0 z3c0, .int .i64 D.Rules.MinRest, .int .i64 D.Rules.MaxRow, .int .i64 D.Rules.MaxWeek, .slice z3A1 z3n1 z3c1] 32))) inferInstance L14
  have P11_14 := Later.trans (w := w11) inferInstance L14
  have V13_14 := Later.trans (w := w13) inferInstance L14
  have HBx14 : ∀ W [Later (w14.alloc (.cells #[.slice z14A0 z14n0 z14c0, .int .i64 D.Rules.MinRest, .int .i64 D.Rules.MaxRow, .int .i64 D.Rules.MaxWeek, .slice z14A1 z14n1 z14c1] 32)) W] (j : Nat), W.cell? ⟨w14.heap.size, j, none⟩ = #[.slice z14A0 z14n0 z14c0, .int .i64 D.Rules.MinRest, .int .i64 D.Rules.MaxRow, .int .i64 D.Rules.MaxWeek, .slice z14A1 z14n1 z14c1][j]? := Later.boxes (t := 32) (fr := (0, 0)) (heap_new rfl)
  go_wp2_with fail
  refine (laws_eqRoster o14.reads inferInstance o3.reads inferInstance).mono ?_
  rintro e w15 ⟨rfl, L15⟩
  have U15 := Later.trans (w := w) inferInstance L15
  have X15 := Later.trans (w := (w.alloc (.cells #[.slice aRA0 aRn0 aRc0, .int .i64 daR.Rules.MinRest, .int .i64 daR.Rules.MaxRow, .int .i64 daR.Rules.MaxWeek, .slice aRA1 aRn1 aRc1] 27))) inferInstance L15
  have V2_15 := Later.trans (w := w2) inferInstance L15
  have V3_15 := Later.trans (w := w3) inferInstance L15
  have Y3_15 := Later.trans (w := (w3.alloc (.cells #[.slice z3A0 z3n0 z3c0, .int .i64 D.Rules.MinRest, .int .i64 D.Rules.MaxRow, .int .i64 D.Rules.MaxWeek, .slice z3A1 z3n1 z3c1] 32))) inferInstance L15
  have P11_15 := Later.trans (w := w11) inferInstance L15
  have V13_15 := Later.trans (w := w13) inferInstance L15
  have V14_15 := Later.trans (w := w14) inferInstance L15
  have Y14_15 := Later.trans (w := (w14.alloc (.cells #[.slice z14A0 z14n0 z14c0, .int .i64 D.Rules.MinRest, .int .i64 D.Rules.MaxRow, .int .i64 D.Rules.MaxWeek, .slice z14A1 z14n1 z14c1] 32))) inferInstance L15
  go_wp2_with fail
  refine (laws_heldRoster p11.reads inferInstance (by omega) (by omega)).mono ?_
  rintro e w16 ⟨rfl, L16⟩
  have U16 := Later.trans (w := w) inferInstance L16
  have X16 := Later.trans (w := (w.alloc (.cells #[.slice aRA0 aRn0 aRc0, .int .i64 daR.Rules.MinRest, .int .i64 daR.Rules.MaxRow, .int .i64 daR.Rules.MaxWeek, .slice aRA1 aRn1 aRc1] 27))) inferInstance L16
  have V2_16 := Later.trans (w := w2) inferInstance L16
  have V3_16 := Later.trans (w := w3) inferInstance L16
  have Y3_16 := Later.trans (w := (w3.alloc (.cells #[.slice z3A0 z3n0 z3c0, .int .i64 D.Rules.MinRest, .int .i64 D.Rules.MaxRow, .int .i64 D.Rules.MaxWeek, .slice z3A1 z3n1 z3c1] 32))) inferInstance L16
  have P11_16 := Later.trans (w := w11) inferInstance L16
  have V13_16 := Later.trans (w := w13) inferInstance L16
  have V14_16 := Later.trans (w := w14) inferInstance L16
  have Y14_16 := Later.trans (w := (w14.alloc (.cells #[.slice z14A0 z14n0 z14c0, .int .i64 D.Rules.MinRest, .int .i64 D.Rules.MaxRow, .int .i64 D.Rules.MaxWeek, .slice z14A1 z14n1 z14c1] 32))) inferInstance L16
  go_wp2
  go_ret
  exact ⟨rfl, inferInstance⟩
end Go.Proofs.Ytbkeccpjcmhhjaa
