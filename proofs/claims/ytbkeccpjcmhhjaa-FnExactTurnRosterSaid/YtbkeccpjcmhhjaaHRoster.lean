/-
  Helpers of the statements on Roster. Printed by a program of ours (gen_struct.py).
-/
import Derived.Test.YtbkeccpjcmhhjaaHSpan
import Derived.Test.YtbkeccpjcmhhjaaHRosterRules
import Derived.Test.YtbkeccpjcmhhjaaJh
namespace Go.Proofs.Ytbkeccpjcmhhjaa
open Go Go.RowKit
set_option linter.unusedVariables false
set_option maxRecDepth 100000
def totRoster (t : Roster) : Nat := t.Shifts.length + (totRows t.Plan)
theorem laws_szRoster {w0 w : World} {sA0 : Option Addr} {sn0 sc0 : Nat} {sA1 : Option Addr} {sn1 sc1 : Nat} {t : Roster} {left : Int} (h : RosterAt w0 sA0 sn0 sc0 sA1 sn1 sc1 t) (hl : Later w0 w) (h0 : 0 ≤ left) (h1 : left ≤ 1048576) :
    Calls Try.prog 18 #[.agg #[.slice sA0 sn0 sc0, .int .i64 t.Rules.MinRest, .int .i64 t.Rules.MaxRow, .int .i64 t.Rules.MaxWeek, .slice sA1 sn1 sc1], .int .i64 left] w (RetSz (totRoster t) left w) := by
  replace h := h.later hl
  have HB0 : ∀ W [Later (w.alloc (.cells #[.slice sA0 sn0 sc0, .int .i64 t.Rules.MinRest, .int .i64 t.Rules.MaxRow, .int .i64 t.Rules.MaxWeek, .slice sA1 sn1 sc1] 27)) W] (j : Nat), W.cell? ⟨w.heap.size, j, none⟩ = #[.slice sA0 sn0 sc0, .int .i64 t.Rules.MinRest, .int .i64 t.Rules.MaxRow, .int .i64 t.Rules.MaxWeek, .slice sA1 sn1 sc1][j]? := Later.boxes (t := 27) (fr := (0, 0)) (heap_new (by simp; try omega))
  go_enter Try.func18, Try.ntmps18
  go_wp2_with fail
  refine (laws_szSpanS h.l_Shifts h0 h1).mono ?_
  rintro e w0 ⟨r0, rfl, hr0, hL0⟩
  have hX0 := Later.trans (w := (w.alloc (.cells #[.slice sA0 sn0 sc0, .int .i64 t.Rules.MinRest, .int .i64 t.Rules.MaxRow, .int .i64 t.Rules.MaxWeek, .slice sA1 sn1 sc1] 27))) inferInstance hL0
  have hU0 := Later.trans (w := w) inferInstance hX0
  rcases hr0 with hr0 | ⟨hp0, hq0⟩
  · go_wp2
    go_ret
    exact ⟨_, rfl, .inl (by omega), inferInstance⟩
  have hb0 : r0 ≤ 1048576 := by omega
  have HQ0 := Lib.hid hq0
  clear hq0
  go_wp2_with fail
  refine (laws_szIntSS h.l_Plan inferInstance hp0 hb0).mono ?_
  rintro e w1 ⟨r1, rfl, hr1, hL1⟩
  have hX1 := Later.trans (w := (w.alloc (.cells #[.slice sA0 sn0 sc0, .int .i64 t.Rules.MinRest, .int .i64 t.Rules.MaxRow, .int .i64 t.Rules.MaxWeek, .slice sA1 sn1 sc1] 27))) inferInstance hL1
  have hU1 := Later.trans (w := w) inferInstance hX1
  rcases hr1 with hr1 | ⟨hp1, hq1⟩
  · go_wp2
    go_ret
    exact ⟨_, rfl, .inl (by omega), inferInstance⟩
  have hb1 : r1 ≤ 1048576 := by omega
  have HQ1 := Lib.hid hq1
  clear hq1
  go_wp2_with fail
  go_ret
  exact ⟨_, rfl, .inr ⟨hp1, by have := HQ0.out; have := HQ1.out; unfold totRoster; omega⟩, inferInstance⟩
theorem laws_toRoster {w0 w : World} {sA0 : Option Addr} {sn0 sc0 : Nat} {sA1 : Option Addr} {sn1 sc1 : Nat} {t : Roster} (h : RosterAt w0 sA0 sn0 sc0 sA1 sn1 sc1 t) (hl : Later w0 w) (hn : totRoster t ≤ 1048576) :
    Calls Try.prog 20 #[.agg #[.slice sA0 sn0 sc0, .int .i64 t.Rules.MinRest, .int .i64 t.Rules.MaxRow, .int .i64 t.Rules.MaxWeek, .slice sA1 sn1 sc1]] w (RetORoster t w) := by
  replace h := h.later hl
  have HB0 : ∀ W [Later (w.alloc (.cells #[.slice sA0 sn0 sc0, .int .i64 t.Rules.MinRest, .int .i64 t.Rules.MaxRow, .int .i64 t.Rules.MaxWeek, .slice sA1 sn1 sc1] 27)) W] (j : Nat), W.cell? ⟨w.heap.size, j, none⟩ = #[.slice sA0 sn0 sc0, .int .i64 t.Rules.MinRest, .int .i64 t.Rules.MaxRow, .int .i64 t.Rules.MaxWeek, .slice sA1 sn1 sc1][j]? := Later.boxes (t := 27) (fr := (0, 0)) (heap_new (by simp; try omega))
  unfold totRoster at hn
  have HB : Blk (((w.alloc (.cells #[.slice sA0 sn0 sc0, .int .i64 t.Rules.MinRest, .int .i64 t.Rules.MaxRow, .int .i64 t.Rules.MaxWeek, .slice sA1 sn1 sc1] 27)).alloc (.cells #[.slice none 0 0, .int .i64 0, .int .i64 0, .int .i64 0, .slice none 0 0] 32)).alloc (.cells #[.slice none 0 0, .int .i64 0, .int .i64 0, .int .i64 0, .slice none 0 0] 32)) (w.heap.size + 1 + 1) 32 #[.slice none 0 0, .int .i64 0, .int .i64 0, .int .i64 0, .slice none 0 0] := heap_new (by simp; try omega)
  go_enter Try.func20, Try.ntmps20
  have HR : Blk (((w.alloc (.cells #[.slice sA0 sn0 sc0, .int .i64 t.Rules.MinRest, .int .i64 t.Rules.MaxRow, .int .i64 t.Rules.MaxWeek, .slice sA1 sn1 sc1] 27)).alloc (.cells #[.slice none 0 0, .int .i64 0, .int .i64 0, .int .i64 0, .slice none 0 0] 32)).alloc (.cells #[.slice none 0 0, .int .i64 0, .int .i64 0, .int .i64 0, .slice none 0 0] 32)) (w.heap.size + 1) 32 #[.slice none 0 0, .int .i64 0, .int .i64 0, .int .i64 0, .slice none 0 0] := (heap_old (by simp; try omega)).trans (heap_new (by simp; try omega))
  have hZ : w.heap.size + 3 ≤ (((w.alloc (.cells #[.slice sA0 sn0 sc0, .int .i64 t.Rules.MinRest, .int .i64 t.Rules.MaxRow, .int .i64 t.Rules.MaxWeek, .slice sA1 sn1 sc1] 27)).alloc (.cells #[.slice none 0 0, .int .i64 0, .int .i64 0, .int .i64 0, .slice none 0 0] 32)).alloc (.cells #[.slice none 0 0, .int .i64 0, .int .i64 0, .int .i64 0, .slice none 0 0] 32)).heap.size := by simp; try omega
  go_wp2_with fail
  refine (laws_toSpanS h.l_Shifts inferInstance (by have := h.l_Shifts.len; omega)).mono ?_
  rintro e w0 ⟨A0, n0, c0, f0, rfl, o0, nd0, lo0, hL0⟩
  have hX0 := Later.trans (w := (w.alloc (.cells #[.slice sA0 sn0 sc0, .int .i64 t.Rules.MinRest, .int .i64 t.Rules.MaxRow, .int .i64 t.Rules.MaxWeek, .slice sA1 sn1 sc1] 27))) inferInstance hL0
  have hU0 := Later.trans (w := w) inferInstance hX0
  replace HB : Blk w0 (w.heap.size + 1 + 1) 32 #[.slice none 0 0, .int .i64 0, .int .i64 0, .int .i64 0, .slice none 0 0] := HB.later hL0
  replace HR : Blk w0 (w.heap.size + 1) 32 #[.slice none 0 0, .int .i64 0, .int .i64 0, .int .i64 0, .slice none 0 0] := HR.later hL0
  have hn0 : (w.heap.size + 1 + 1) ∉ f0 := fun hh => by have := lo0 _ hh; simp at this; omega
  have hm0 : (w.heap.size + 1) ∉ f0 := fun hh => by have := lo0 _ hh; simp at this; omega
  have lq0 : ∀ g, g ∈ f0 → w.heap.size ≤ g := fun g hh => by have := lo0 _ hh; simp at this; omega
  obtain ⟨N0, hN0⟩ : ∃ N, N = w0.heap.size := ⟨_, rfl⟩
  have lt0 : ∀ g, g ∈ f0 → g < N0 := fun g hh => by rw [hN0]; exact o0.lt g hh
  replace hZ : w.heap.size + 3 ≤ w0.heap.size := by have := hL0.size; simp at this; omega
  have hc0 := fun j => HB.cell j
  have hf0 := fun j => HB.frozen j
  go_wp2_with fail
  refine (laws_toRosterRules _ _).mono ?_
  rintro e w1 ⟨rfl, hL1⟩
  have hX1 := Later.trans (w := (w.alloc (.cells #[.slice sA0 sn0 sc0, .int .i64 t.Rules.MinRest, .int .i64 t.Rules.MaxRow, .int .i64 t.Rules.MaxWeek, .slice sA1 sn1 sc1] 27))) inferInstance hL1
  have hU1 := Later.trans (w := w) inferInstance hX1
  replace HB : Blk w1 (w.heap.size + 1 + 1) 32 #[.slice A0 n0 c0, .int .i64 0, .int .i64 0, .int .i64 0, .slice none 0 0] := (HB.set_ 0 _).later hL1
  replace HR : Blk w1 (w.heap.size + 1) 32 #[.slice none 0 0, .int .i64 0, .int .i64 0, .int .i64 0, .slice none 0 0] := (HR.far (by simp) _).later hL1
  replace o0 := (o0.setc hn0 _ _).later hL1
  replace hZ : w.heap.size + 3 ≤ w1.heap.size := by have := hL1.size; simp at this; omega
  have hNN1 : N0 ≤ w1.heap.size := by have := hL1.size; simp at this; omega
  have hc1 := fun j => HB.cell j
  have hf1 := fun j => HB.frozen j
  go_wp2_with fail
  refine (laws_toIntSS h.l_Plan inferInstance (by omega)).mono ?_
  rintro e w2 ⟨A2, n2, c2, f2, rfl, o2, nd2, lo2, hL2⟩
  have hX2 := Later.trans (w := (w.alloc (.cells #[.slice sA0 sn0 sc0, .int .i64 t.Rules.MinRest, .int .i64 t.Rules.MaxRow, .int .i64 t.Rules.MaxWeek, .slice sA1 sn1 sc1] 27))) inferInstance hL2
  have hU2 := Later.trans (w := w) inferInstance hX2
  replace HB : Blk w2 (w.heap.size + 1 + 1) 32 #[.slice A0 n0 c0, .int .i64 t.Rules.MinRest, .int .i64 t.Rules.MaxRow, .int .i64 t.Rules.MaxWeek, .slice none 0 0] := (((HB.set_ 1 _).set_ 2 _).set_ 3 _).later hL2
  replace HR : Blk w2 (w.heap.size + 1) 32 #[.slice none 0 0, .int .i64 0, .int .i64 0, .int .i64 0, .slice none 0 0] := (((HR.far (by simp) _).far (by simp) _).far (by simp) _).later hL2
  replace o0 := (((o0.setc hn0 _ _).setc hn0 _ _).setc hn0 _ _).later hL2
  have hn2 : (w.heap.size + 1 + 1) ∉ f2 := fun hh => by have := lo2 _ hh; simp at this; omega
  have hm2 : (w.heap.size + 1) ∉ f2 := fun hh => by have := lo2 _ hh; simp at this; omega
  have lq2 : ∀ g, g ∈ f2 → w.heap.size ≤ g := fun g hh => by have := lo2 _ hh; simp at this; omega
  have lr2 : ∀ g, g ∈ f2 → N0 ≤ g := fun g hh => by have := lo2 _ hh; simp at this; omega
  obtain ⟨N2, hN2⟩ : ∃ N, N = w2.heap.size := ⟨_, rfl⟩
  have lt2 : ∀ g, g ∈ f2 → g < N2 := fun g hh => by rw [hN2]; exact o2.lt g hh
  replace hZ : w.heap.size + 3 ≤ w2.heap.size := by have := hL2.size; simp at this; omega
  have hc2 := fun j => HB.cell j
  have hf2 := fun j => HB.frozen j
  clear lo0
  clear lo2
  have hcr := fun j => HR.cell j
  have hfr := fun j => HR.frozen j
  go_wp2
  have hr0 := (((HR.far (p := ⟨w.heap.size + 1 + 1, 4, none⟩) (by simp) (.slice A2 n2 c2)).set_ 0 (.slice A0 n0 c0)).cell 0).trans (show _ = some (.slice A0 n0 c0 : Value) from rfl)
  have hr1 := ((((HR.far (p := ⟨w.heap.size + 1 + 1, 4, none⟩) (by simp) (.slice A2 n2 c2)).set_ 0 (.slice A0 n0 c0)).set_ 1 (.int .i64 t.Rules.MinRest)).cell 1).trans (show _ = some (.int .i64 t.Rules.MinRest : Value) from rfl)
  have hr2 := (((((HR.far (p := ⟨w.heap.size + 1 + 1, 4, none⟩) (by simp) (.slice A2 n2 c2)).set_ 0 (.slice A0 n0 c0)).set_ 1 (.int .i64 t.Rules.MinRest)).set_ 2 (.int .i64 t.Rules.MaxRow)).cell 2).trans (show _ = some (.int .i64 t.Rules.MaxRow : Value) from rfl)
  have hr3 := ((((((HR.far (p := ⟨w.heap.size + 1 + 1, 4, none⟩) (by simp) (.slice A2 n2 c2)).set_ 0 (.slice A0 n0 c0)).set_ 1 (.int .i64 t.Rules.MinRest)).set_ 2 (.int .i64 t.Rules.MaxRow)).set_ 3 (.int .i64 t.Rules.MaxWeek)).cell 3).trans (show _ = some (.int .i64 t.Rules.MaxWeek : Value) from rfl)
  have hr4 := (((((((HR.far (p := ⟨w.heap.size + 1 + 1, 4, none⟩) (by simp) (.slice A2 n2 c2)).set_ 0 (.slice A0 n0 c0)).set_ 1 (.int .i64 t.Rules.MinRest)).set_ 2 (.int .i64 t.Rules.MaxRow)).set_ 3 (.int .i64 t.Rules.MaxWeek)).set_ 4 (.slice A2 n2 c2)).cell 4).trans (show _ = some (.slice A2 n2 c2 : Value) from rfl)
  refine bodyPost_ret (v := .agg #[.slice A0 n0 c0, .int .i64 t.Rules.MinRest, .int .i64 t.Rules.MaxRow, .int .i64 t.Rules.MaxWeek, .slice A2 n2 c2]) (by simp [results, Try.results20, go_sem, hr0, hr1, hr2, hr3, hr4]) rfl ?_
  exact ⟨A0, n0, c0, A2, n2, c2, f0, f2, rfl, ⟨((((((o0.setc hn0 _ _).setc hm0 _ _).setc hm0 _ _).setc hm0 _ _).setc hm0 _ _).setc hm0 _ _), h.i_Rules_MinRest, h.i_Rules_MaxRow, h.i_Rules_MaxWeek, ((((((o2.setc hn2 _ _).setc hm2 _ _).setc hm2 _ _).setc hm2 _ _).setc hm2 _ _).setc hm2 _ _)⟩, nodup_app nd0 nd2 lt0 lr2, fun g hg => by rcases List.mem_append.1 hg with hg | hg; exact lq0 g hg; exact lq2 g hg, inferInstance⟩
theorem laws_eqRoster {w0 w1 w : World} {sA0 : Option Addr} {sn0 sc0 : Nat} {sA1 : Option Addr} {sn1 sc1 : Nat} {qA0 : Option Addr} {qn0 qc0 : Nat} {qA1 : Option Addr} {qn1 qc1 : Nat} {a b : Roster} (ha : RosterAt w0 sA0 sn0 sc0 sA1 sn1 sc1 a) (hla : Later w0 w) (hb : RosterAt w1 qA0 qn0 qc0 qA1 qn1 qc1 b) (hlb : Later w1 w) :
    Calls Try.prog 22 #[.agg #[.slice sA0 sn0 sc0, .int .i64 a.Rules.MinRest, .int .i64 a.Rules.MaxRow, .int .i64 a.Rules.MaxWeek, .slice sA1 sn1 sc1], .agg #[.slice qA0 qn0 qc0, .int .i64 b.Rules.MinRest, .int .i64 b.Rules.MaxRow, .int .i64 b.Rules.MaxWeek, .slice qA1 qn1 qc1]] w (Ret (.bool (decide (a = b))) w) := by
  replace ha := ha.later hla
  replace hb := hb.later hlb
  have HB0 : ∀ W [Later ((w.alloc (.cells #[.slice sA0 sn0 sc0, .int .i64 a.Rules.MinRest, .int .i64 a.Rules.MaxRow, .int .i64 a.Rules.MaxWeek, .slice sA1 sn1 sc1] 32)).alloc (.cells #[.slice qA0 qn0 qc0, .int .i64 b.Rules.MinRest, .int .i64 b.Rules.MaxRow, .int .i64 b.Rules.MaxWeek, .slice qA1 qn1 qc1] 32)) W] (j : Nat), W.cell? ⟨w.heap.size, j, none⟩ = #[.slice sA0 sn0 sc0, .int .i64 a.Rules.MinRest, .int .i64 a.Rules.MaxRow, .int .i64 a.Rules.MaxWeek, .slice sA1 sn1 sc1][j]? := Later.boxes (t := 32) (fr := (0, 0)) ((heap_old (by simp; try omega)).trans (heap_new (by simp; try omega))); have HB1 : ∀ W [Later ((w.alloc (.cells #[.slice sA0 sn0 sc0, .int .i64 a.Rules.MinRest, .int .i64 a.Rules.MaxRow, .int .i64 a.Rules.MaxWeek, .slice sA1 sn1 sc1] 32)).alloc (.cells #[.slice qA0 qn0 qc0, .int .i64 b.Rules.MinRest, .int .i64 b.Rules.MaxRow, .int .i64 b.Rules.MaxWeek, .slice qA1 qn1 qc1] 32)) W] (j : Nat), W.cell? ⟨w.heap.size + 1, j, none⟩ = #[.slice qA0 qn0 qc0, .int .i64 b.Rules.MinRest, .int .i64 b.Rules.MaxRow, .int .i64 b.Rules.MaxWeek, .slice qA1 qn1 qc1][j]? := Later.boxes (t := 32) (fr := (0, 0)) (heap_new (by simp; try omega))
  go_enter Try.func22, Try.ntmps22
  go_wp2_with fail
  refine (laws_eqSpanS ha.l_Shifts inferInstance hb.l_Shifts inferInstance).mono ?_
  rintro e w2 ⟨rfl, hL0⟩
  have hX0 := Later.trans (w := ((w.alloc (.cells #[.slice sA0 sn0 sc0, .int .i64 a.Rules.MinRest, .int .i64 a.Rules.MaxRow, .int .i64 a.Rules.MaxWeek, .slice sA1 sn1 sc1] 32)).alloc (.cells #[.slice qA0 qn0 qc0, .int .i64 b.Rules.MinRest, .int .i64 b.Rules.MaxRow, .int .i64 b.Rules.MaxWeek, .slice qA1 qn1 qc1] 32))) inferInstance hL0
  have hU0 := Later.trans (w := w) inferInstance hX0
  by_cases q0 : a.Shifts = b.Shifts
  rotate_left
  · have hd0 : decide (a.Shifts = b.Shifts) = false := decide_eq_false q0
    have HN : Hid (a ≠ b) := fun e => q0 (by rw [e])
    clear q0
    go_wp2
    go_ret
    exact ⟨ret_bool (decide_eq_false HN.out).symm, inferInstance⟩
  have hd0 : decide (a.Shifts = b.Shifts) = true := decide_eq_true q0
  have HQ0 := Lib.hid q0
  clear q0
  go_wp2_with fail
  refine (laws_eqRosterRules _ _ _).mono ?_
  rintro e w3 ⟨rfl, hL1⟩
  have hX1 := Later.trans (w := ((w.alloc (.cells #[.slice sA0 sn0 sc0, .int .i64 a.Rules.MinRest, .int .i64 a.Rules.MaxRow, .int .i64 a.Rules.MaxWeek, .slice sA1 sn1 sc1] 32)).alloc (.cells #[.slice qA0 qn0 qc0, .int .i64 b.Rules.MinRest, .int .i64 b.Rules.MaxRow, .int .i64 b.Rules.MaxWeek, .slice qA1 qn1 qc1] 32))) inferInstance hL1
  have hU1 := Later.trans (w := w) inferInstance hX1
  by_cases q1 : a.Rules = b.Rules
  rotate_left
  · have hd1 : decide (a.Rules = b.Rules) = false := decide_eq_false q1
    have HN : Hid (a ≠ b) := fun e => q1 (by rw [e])
    clear q1
    go_wp2
    go_ret
    exact ⟨ret_bool (decide_eq_false HN.out).symm, inferInstance⟩
  have hd1 : decide (a.Rules = b.Rules) = true := decide_eq_true q1
  have HQ1 := Lib.hid q1
  clear q1
  go_wp2_with fail
  refine (laws_eqIntSS ha.l_Plan inferInstance hb.l_Plan inferInstance).mono ?_
  rintro e w4 ⟨rfl, hL2⟩
  have hX2 := Later.trans (w := ((w.alloc (.cells #[.slice sA0 sn0 sc0, .int .i64 a.Rules.MinRest, .int .i64 a.Rules.MaxRow, .int .i64 a.Rules.MaxWeek, .slice sA1 sn1 sc1] 32)).alloc (.cells #[.slice qA0 qn0 qc0, .int .i64 b.Rules.MinRest, .int .i64 b.Rules.MaxRow, .int .i64 b.Rules.MaxWeek, .slice qA1 qn1 qc1] 32))) inferInstance hL2
  have hU2 := Later.trans (w := w) inferInstance hX2
  by_cases q2 : a.Plan = b.Plan
  rotate_left
  · have hd2 : decide (a.Plan = b.Plan) = false := decide_eq_false q2
    have HN : Hid (a ≠ b) := fun e => q2 (by rw [e])
    clear q2
    go_wp2
    go_ret
    exact ⟨ret_bool (decide_eq_false HN.out).symm, inferInstance⟩
  have hd2 : decide (a.Plan = b.Plan) = true := decide_eq_true q2
  have HQ2 := Lib.hid q2
  clear q2
  go_wp2
  go_ret
  refine ⟨ret_bool (decide_eq_true ?_).symm, inferInstance⟩
  have e0 := HQ0.out
  have e1 := HQ1.out
  have e2 := HQ2.out
  cases a; cases b; simp_all
def cntRoster (t : Roster) : Nat := (2 * t.Shifts.length) + (sumLen t.Plan)
def mkRoster (k : Int) (t : Roster) : Roster := { t with Shifts := mkSpans k t.Shifts.length, Plan := mkRows (k + 2 * (t.Shifts.length : Int)) t.Plan }
theorem laws_markRoster {w : World} {sA0 : Option Addr} {sn0 sc0 : Nat} {sA1 : Option Addr} {sn1 sc1 : Nat} {t : Roster} {sf0 sf1 : List Nat} {k0 : Int} (h : RosterOw w sA0 sn0 sc0 sA1 sn1 sc1 t sf0 sf1) (hnd : (sf0 ++ sf1).Nodup) (h0 : 0 ≤ k0) (h1 : k0 + cntRoster t ≤ 4611686018427387904) :
    Calls Try.prog 23 #[.agg #[.slice sA0 sn0 sc0, .int .i64 t.Rules.MinRest, .int .i64 t.Rules.MaxRow, .int .i64 t.Rules.MaxWeek, .slice sA1 sn1 sc1], .int .i64 k0] w (RetMk (k0 + cntRoster t) (sf0 ++ sf1) (fun w' => RosterOw w' sA0 sn0 sc0 sA1 sn1 sc1 (mkRoster k0 t) sf0 sf1) w) := by
  unfold cntRoster at h1
  obtain rfl := h.l_Shifts.len
  have hlt := h.lt
  have HB : Blk (w.alloc (.cells #[.slice sA0 t.Shifts.length sc0, .int .i64 t.Rules.MinRest, .int .i64 t.Rules.MaxRow, .int .i64 t.Rules.MaxWeek, .slice sA1 sn1 sc1] 32)) w.heap.size 32 #[.slice sA0 t.Shifts.length sc0, .int .i64 t.Rules.MinRest, .int .i64 t.Rules.MaxRow, .int .i64 t.Rules.MaxWeek, .slice sA1 sn1 sc1] := heap_new rfl
  have hT : Touch (sf0 ++ sf1) w (w.alloc (.cells #[.slice sA0 t.Shifts.length sc0, .int .i64 t.Rules.MinRest, .int .i64 t.Rules.MaxRow, .int .i64 t.Rules.MaxWeek, .slice sA1 sn1 sc1] 32)) := Touch.of_later inferInstance
  have hB_Shifts : w.heap.size ∉ sf0 := fun hh => Nat.lt_irrefl _ (hlt _ (List.mem_append_left _ hh))
  have hB_Plan : w.heap.size ∉ sf1 := fun hh => Nat.lt_irrefl _ (hlt _ (List.mem_append_right _ hh))
  obtain ⟨nd0, nd1, dj⟩ := List.nodup_append.1 hnd
  have o0 := (h.l_Shifts).later (inferInstance : Later w (w.alloc (.cells #[.slice sA0 t.Shifts.length sc0, .int .i64 t.Rules.MinRest, .int .i64 t.Rules.MaxRow, .int .i64 t.Rules.MaxWeek, .slice sA1 sn1 sc1] 32)))
  have o1 := (h.l_Plan).later (inferInstance : Later w (w.alloc (.cells #[.slice sA0 t.Shifts.length sc0, .int .i64 t.Rules.MinRest, .int .i64 t.Rules.MaxRow, .int .i64 t.Rules.MaxWeek, .slice sA1 sn1 sc1] 32)))
  go_enter Try.func23, Try.ntmps23
  have hc0 := fun j => HB.cell j
  go_wp2_with fail
  refine (laws_markSpanS o0 h0 (by omega)).mono ?_
  rintro e w0 ⟨rfl, T0, p0⟩
  replace HB := T0.blk HB hB_Shifts
  replace hT := hT.trans (T0.mono (fun g hg => (List.mem_append_left _ hg)))
  replace o1 := o1.touch T0 (fun g hg hh => dj g hh g hg rfl)
  have hc1 := fun j => HB.cell j
  go_wp2_with fail
  refine (laws_markIntSS o1 nd1 (by omega) (by omega)).mono ?_
  rintro e w1 ⟨rfl, T1, p1⟩
  replace HB := T1.blk HB hB_Plan
  replace hT := hT.trans (T1.mono (fun g hg => (List.mem_append_right _ hg)))
  replace p0 := p0.touch T1 (fun g hg hh => dj g hg g hh rfl)
  go_wp2
  go_ret
  refine ⟨ret_int (by unfold cntRoster; omega), hT, ?_⟩
  exact ⟨p0, h.i_Rules_MinRest, h.i_Rules_MaxRow, h.i_Rules_MaxWeek, p1⟩
theorem laws_heldRoster {w0 w : World} {sA0 : Option Addr} {sn0 sc0 : Nat} {sA1 : Option Addr} {sn1 sc1 : Nat} {t : Roster} {k0 : Int} (h : RosterAt w0 sA0 sn0 sc0 sA1 sn1 sc1 (mkRoster k0 t)) (hl : Later w0 w) (h0 : 0 ≤ k0) (h1 : k0 + cntRoster t ≤ 4611686018427387904) :
    Calls Try.prog 24 #[.agg #[.slice sA0 sn0 sc0, .int .i64 (mkRoster k0 t).Rules.MinRest, .int .i64 (mkRoster k0 t).Rules.MaxRow, .int .i64 (mkRoster k0 t).Rules.MaxWeek, .slice sA1 sn1 sc1], .int .i64 k0] w (Ret (.int .i64 (k0 + cntRoster t)) w) := by
  replace h := h.later hl
  unfold cntRoster at h1 ⊢
  have HB0 : ∀ W [Later (w.alloc (.cells #[.slice sA0 sn0 sc0, .int .i64 (mkRoster k0 t).Rules.MinRest, .int .i64 (mkRoster k0 t).Rules.MaxRow, .int .i64 (mkRoster k0 t).Rules.MaxWeek, .slice sA1 sn1 sc1] 32)) W] (j : Nat), W.cell? ⟨w.heap.size, j, none⟩ = #[.slice sA0 sn0 sc0, .int .i64 (mkRoster k0 t).Rules.MinRest, .int .i64 (mkRoster k0 t).Rules.MaxRow, .int .i64 (mkRoster k0 t).Rules.MaxWeek, .slice sA1 sn1 sc1][j]? := Later.boxes (t := 32) (fr := (0, 0)) (heap_new (by simp; try omega))
  go_enter Try.func24, Try.ntmps24
  go_wp2_with fail
  refine (laws_heldSpanS (m := t.Shifts.length) (h.l_Shifts) inferInstance h0 (by omega)).mono ?_
  rintro e w1 ⟨rfl, hL0⟩
  have hX0 := Later.trans (w := (w.alloc (.cells #[.slice sA0 sn0 sc0, .int .i64 (mkRoster k0 t).Rules.MinRest, .int .i64 (mkRoster k0 t).Rules.MaxRow, .int .i64 (mkRoster k0 t).Rules.MaxWeek, .slice sA1 sn1 sc1] 32))) inferInstance hL0
  have hU0 := Later.trans (w := w) inferInstance hX0
  go_wp2_with fail
  refine (laws_heldIntSS (m := t.Plan) (h.l_Plan) inferInstance (by omega) (by omega)).mono ?_
  rintro e w2 ⟨rfl, hL1⟩
  have hX1 := Later.trans (w := (w.alloc (.cells #[.slice sA0 sn0 sc0, .int .i64 (mkRoster k0 t).Rules.MinRest, .int .i64 (mkRoster k0 t).Rules.MaxRow, .int .i64 (mkRoster k0 t).Rules.MaxWeek, .slice sA1 sn1 sc1] 32))) inferInstance hL1
  have hU1 := Later.trans (w := w) inferInstance hX1
  go_wp2
  go_ret
  exact ⟨ret_int (by omega), inferInstance⟩
end Go.Proofs.Ytbkeccpjcmhhjaa
