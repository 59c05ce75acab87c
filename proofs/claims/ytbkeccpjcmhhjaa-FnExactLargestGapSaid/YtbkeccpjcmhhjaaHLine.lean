/-
  Helpers of the statements on Line. Printed by a program of ours (gen_struct.py).
-/
import Derived.Test.YtbkeccpjcmhhjaaHStringS
namespace Go.Proofs.Ytbkeccpjcmhhjaa
open Go Go.RowKit
set_option linter.unusedVariables false
set_option maxRecDepth 100000
def totLine (t : Line) : Nat := t.Name.size + t.Stops.length + t.Runs.length
theorem laws_szLine {w0 w : World} {sA0 : Option Addr} {sn0 sc0 : Nat} {sA1 : Option Addr} {sn1 sc1 : Nat} {t : Line} {left : Int} (h : LineAt w0 sA0 sn0 sc0 sA1 sn1 sc1 t) (hl : Later w0 w) (h0 : 0 ≤ left) (h1 : left ≤ 1048576) :
    Calls Try.prog 195 #[.agg #[.string t.Name, .slice sA0 sn0 sc0, .slice sA1 sn1 sc1], .int .i64 left] w (RetSz (totLine t) left w) := by
  replace h := h.later hl
  have HB0 : ∀ W [Later (w.alloc (.cells #[.string t.Name, .slice sA0 sn0 sc0, .slice sA1 sn1 sc1] 231)) W] (j : Nat), W.cell? ⟨w.heap.size, j, none⟩ = #[.string t.Name, .slice sA0 sn0 sc0, .slice sA1 sn1 sc1][j]? := Later.boxes (t := 231) (fr := (0, 0)) (heap_new (by simp; try omega))
  go_enter Try.func195, Try.ntmps195
  have hs := h.s_Name
  unfold maxLen at hs
  go_wp2_with fail
  · go_ret
    exact ⟨_, rfl, .inl (by omega), inferInstance⟩
  obtain ⟨r0, hr0⟩ : ∃ r : Int, r = left - t.Name.size := ⟨_, rfl⟩
  refine (laws_szIntS h.l_Stops (by omega) (by omega)).mono ?_
  rintro e w1 ⟨r1, rfl, hr1, hL1⟩
  have hX1 := Later.trans (w := (w.alloc (.cells #[.string t.Name, .slice sA0 sn0 sc0, .slice sA1 sn1 sc1] 231))) inferInstance hL1
  have hU1 := Later.trans (w := w) inferInstance hX1
  rcases hr1 with hr1 | ⟨hp1, hq1⟩
  · go_wp2
    go_ret
    exact ⟨_, rfl, .inl (by omega), inferInstance⟩
  have hb1 : r1 ≤ 1048576 := by omega
  have HQ1 := Lib.hid hq1
  clear hq1
  go_wp2_with fail
  refine (laws_szIntS h.l_Runs hp1 hb1).mono ?_
  rintro e w2 ⟨r2, rfl, hr2, hL2⟩
  have hX2 := Later.trans (w := (w.alloc (.cells #[.string t.Name, .slice sA0 sn0 sc0, .slice sA1 sn1 sc1] 231))) inferInstance hL2
  have hU2 := Later.trans (w := w) inferInstance hX2
  rcases hr2 with hr2 | ⟨hp2, hq2⟩
  · go_wp2
    go_ret
    exact ⟨_, rfl, .inl (by omega), inferInstance⟩
  have hb2 : r2 ≤ 1048576 := by omega
  have HQ2 := Lib.hid hq2
  clear hq2
  go_wp2_with fail
  go_ret
  exact ⟨_, rfl, .inr ⟨hp2, by have := HQ1.out; have := HQ2.out; unfold totLine; omega⟩, inferInstance⟩
theorem laws_toLine {w0 w : World} {sA0 : Option Addr} {sn0 sc0 : Nat} {sA1 : Option Addr} {sn1 sc1 : Nat} {t : Line} (h : LineAt w0 sA0 sn0 sc0 sA1 sn1 sc1 t) (hl : Later w0 w) (hn : totLine t ≤ 1048576) :
    Calls Try.prog 198 #[.agg #[.string t.Name, .slice sA0 sn0 sc0, .slice sA1 sn1 sc1]] w (RetOLine t w) := by
  replace h := h.later hl
  have HB0 : ∀ W [Later (w.alloc (.cells #[.string t.Name, .slice sA0 sn0 sc0, .slice sA1 sn1 sc1] 231)) W] (j : Nat), W.cell? ⟨w.heap.size, j, none⟩ = #[.string t.Name, .slice sA0 sn0 sc0, .slice sA1 sn1 sc1][j]? := Later.boxes (t := 231) (fr := (0, 0)) (heap_new (by simp; try omega))
  unfold totLine at hn
  have HB : Blk (((w.alloc (.cells #[.string t.Name, .slice sA0 sn0 sc0, .slice sA1 sn1 sc1] 231)).alloc (.cells #[.string ByteArray.empty, .slice none 0 0, .slice none 0 0] 142)).alloc (.cells #[.string t.Name, .slice none 0 0, .slice none 0 0] 142)) (w.heap.size + 1 + 1) 142 #[.string t.Name, .slice none 0 0, .slice none 0 0] := heap_new (by simp; try omega)
  go_enter Try.func198, Try.ntmps198
  have HR : Blk (((w.alloc (.cells #[.string t.Name, .slice sA0 sn0 sc0, .slice sA1 sn1 sc1] 231)).alloc (.cells #[.string ByteArray.empty, .slice none 0 0, .slice none 0 0] 142)).alloc (.cells #[.string t.Name, .slice none 0 0, .slice none 0 0] 142)) (w.heap.size + 1) 142 #[.string ByteArray.empty, .slice none 0 0, .slice none 0 0] := (heap_old (by simp; try omega)).trans (heap_new (by simp; try omega))
  have hZ : w.heap.size + 3 ≤ (((w.alloc (.cells #[.string t.Name, .slice sA0 sn0 sc0, .slice sA1 sn1 sc1] 231)).alloc (.cells #[.string ByteArray.empty, .slice none 0 0, .slice none 0 0] 142)).alloc (.cells #[.string t.Name, .slice none 0 0, .slice none 0 0] 142)).heap.size := by simp; try omega
  go_wp2_with fail
  refine (laws_toIntS h.l_Stops inferInstance (by have := h.l_Stops.len; omega)).mono ?_
  rintro e w0 ⟨A0, n0, c0, f0, rfl, o0, nd0, lo0, hL0⟩
  have hX0 := Later.trans (w := (w.alloc (.cells #[.string t.Name, .slice sA0 sn0 sc0, .slice sA1 sn1 sc1] 231))) inferInstance hL0
  have hU0 := Later.trans (w := w) inferInstance hX0
  replace HB : Blk w0 (w.heap.size + 1 + 1) 142 #[.string t.Name, .slice none 0 0, .slice none 0 0] := HB.later hL0
  replace HR : Blk w0 (w.heap.size + 1) 142 #[.string ByteArray.empty, .slice none 0 0, .slice none 0 0] := HR.later hL0
  have hn0 : (w.heap.size + 1 + 1) ∉ f0 := fun hh => by have := lo0 _ hh; simp at this; omega
  have hm0 : (w.heap.size + 1) ∉ f0 := fun hh => by have := lo0 _ hh; simp at this; omega
  have lq0 : ∀ g, g ∈ f0 → w.heap.size ≤ g := fun g hh => by have := lo0 _ hh; simp at this; omega
  obtain ⟨N0, hN0⟩ : ∃ N, N = w0.heap.size := ⟨_, rfl⟩
  have lt0 : ∀ g, g ∈ f0 → g < N0 := fun g hh => by rw [hN0]; exact o0.lt g hh
  replace hZ : w.heap.size + 3 ≤ w0.heap.size := by have := hL0.size; simp at this; omega
  have hc0 := fun j => HB.cell j
  have hf0 := fun j => HB.frozen j
  go_wp2_with fail
  refine (laws_toIntS h.l_Runs inferInstance (by have := h.l_Runs.len; omega)).mono ?_
  rintro e w1 ⟨A1, n1, c1, f1, rfl, o1, nd1, lo1, hL1⟩
  have hX1 := Later.trans (w := (w.alloc (.cells #[.string t.Name, .slice sA0 sn0 sc0, .slice sA1 sn1 sc1] 231))) inferInstance hL1
  have hU1 := Later.trans (w := w) inferInstance hX1
  replace HB : Blk w1 (w.heap.size + 1 + 1) 142 #[.string t.Name, .slice A0 n0 c0, .slice none 0 0] := (HB.set_ 1 _).later hL1
  replace HR : Blk w1 (w.heap.size + 1) 142 #[.string ByteArray.empty, .slice none 0 0, .slice none 0 0] := (HR.far (by simp) _).later hL1
  replace o0 := (o0.setc hn0 _ _).later hL1
  have hn1 : (w.heap.size + 1 + 1) ∉ f1 := fun hh => by have := lo1 _ hh; simp at this; omega
  have hm1 : (w.heap.size + 1) ∉ f1 := fun hh => by have := lo1 _ hh; simp at this; omega
  have lq1 : ∀ g, g ∈ f1 → w.heap.size ≤ g := fun g hh => by have := lo1 _ hh; simp at this; omega
  have lr1 : ∀ g, g ∈ f1 → N0 ≤ g := fun g hh => by have := lo1 _ hh; simp at this; omega
  obtain ⟨N1, hN1⟩ : ∃ N, N = w1.heap.size := ⟨_, rfl⟩
  have lt1 : ∀ g, g ∈ f1 → g < N1 := fun g hh => by rw [hN1]; exact o1.lt g hh
  replace hZ : w.heap.size + 3 ≤ w1.heap.size := by have := hL1.size; simp at this; omega
  have hc1 := fun j => HB.cell j
  have hf1 := fun j => HB.frozen j
  clear lo0
  clear lo1
  have hcr := fun j => HR.cell j
  have hfr := fun j => HR.frozen j
  go_wp2
  have hr0 := (((HR.far (p := ⟨w.heap.size + 1 + 1, 2, none⟩) (by simp) (.slice A1 n1 c1)).set_ 0 (.string t.Name)).cell 0).trans (show _ = some (.string t.Name : Value) from rfl)
  have hr1 := ((((HR.far (p := ⟨w.heap.size + 1 + 1, 2, none⟩) (by simp) (.slice A1 n1 c1)).set_ 0 (.string t.Name)).set_ 1 (.slice A0 n0 c0)).cell 1).trans (show _ = some (.slice A0 n0 c0 : Value) from rfl)
  have hr2 := (((((HR.far (p := ⟨w.heap.size + 1 + 1, 2, none⟩) (by simp) (.slice A1 n1 c1)).set_ 0 (.string t.Name)).set_ 1 (.slice A0 n0 c0)).set_ 2 (.slice A1 n1 c1)).cell 2).trans (show _ = some (.slice A1 n1 c1 : Value) from rfl)
  refine bodyPost_ret (v := .agg #[.string t.Name, .slice A0 n0 c0, .slice A1 n1 c1]) (by simp [results, Try.results198, go_sem, hr0, hr1, hr2]) rfl ?_
  exact ⟨A0, n0, c0, A1, n1, c1, f0, f1, rfl, ⟨h.s_Name, ((((o0.setc hn0 _ _).setc hm0 _ _).setc hm0 _ _).setc hm0 _ _), ((((o1.setc hn1 _ _).setc hm1 _ _).setc hm1 _ _).setc hm1 _ _)⟩, nodup_app nd0 nd1 lt0 lr1, fun g hg => by rcases List.mem_append.1 hg with hg | hg; exact lq0 g hg; exact lq1 g hg, inferInstance⟩
theorem laws_eqLine {w0 w1 w : World} {sA0 : Option Addr} {sn0 sc0 : Nat} {sA1 : Option Addr} {sn1 sc1 : Nat} {qA0 : Option Addr} {qn0 qc0 : Nat} {qA1 : Option Addr} {qn1 qc1 : Nat} {a b : Line} (ha : LineAt w0 sA0 sn0 sc0 sA1 sn1 sc1 a) (hla : Later w0 w) (hb : LineAt w1 qA0 qn0 qc0 qA1 qn1 qc1 b) (hlb : Later w1 w) :
    Calls Try.prog 202 #[.agg #[.string a.Name, .slice sA0 sn0 sc0, .slice sA1 sn1 sc1], .agg #[.string b.Name, .slice qA0 qn0 qc0, .slice qA1 qn1 qc1]] w (Ret (.bool (decide (a = b))) w) := by
  replace ha := ha.later hla
  replace hb := hb.later hlb
  have HB0 : ∀ W [Later ((w.alloc (.cells #[.string a.Name, .slice sA0 sn0 sc0, .slice sA1 sn1 sc1] 142)).alloc (.cells #[.string b.Name, .slice qA0 qn0 qc0, .slice qA1 qn1 qc1] 142)) W] (j : Nat), W.cell? ⟨w.heap.size, j, none⟩ = #[.string a.Name, .slice sA0 sn0 sc0, .slice sA1 sn1 sc1][j]? := Later.boxes (t := 142) (fr := (0, 0)) ((heap_old (by simp; try omega)).trans (heap_new (by simp; try omega))); have HB1 : ∀ W [Later ((w.alloc (.cells #[.string a.Name, .slice sA0 sn0 sc0, .slice sA1 sn1 sc1] 142)).alloc (.cells #[.string b.Name, .slice qA0 qn0 qc0, .slice qA1 qn1 qc1] 142)) W] (j : Nat), W.cell? ⟨w.heap.size + 1, j, none⟩ = #[.string b.Name, .slice qA0 qn0 qc0, .slice qA1 qn1 qc1][j]? := Later.boxes (t := 142) (fr := (0, 0)) (heap_new (by simp; try omega))
  go_enter Try.func202, Try.ntmps202
  by_cases q0 : a.Name = b.Name
  rotate_left
  · have hd0 : (a.Name.data.toList == b.Name.data.toList) = false := by exact str_ne q0
    have hl0 := strL_ne q0
    have HN : Hid (a ≠ b) := fun e => q0 (by rw [e])
    clear q0
    go_wp2
    go_ret
    exact ⟨ret_bool (decide_eq_false HN.out).symm, inferInstance⟩
  have hd0 : (a.Name.data.toList == b.Name.data.toList) = true := by rw [q0]; simp
  have hl0 := strL_eq q0
  have HQ0 := Lib.hid q0
  clear q0
  go_wp2_with fail
  refine (laws_eqIntS ha.l_Stops inferInstance hb.l_Stops inferInstance).mono ?_
  rintro e w3 ⟨rfl, hL1⟩
  have hX1 := Later.trans (w := ((w.alloc (.cells #[.string a.Name, .slice sA0 sn0 sc0, .slice sA1 sn1 sc1] 142)).alloc (.cells #[.string b.Name, .slice qA0 qn0 qc0, .slice qA1 qn1 qc1] 142))) inferInstance hL1
  have hU1 := Later.trans (w := w) inferInstance hX1
  by_cases q1 : a.Stops = b.Stops
  rotate_left
  · have hd1 : decide (a.Stops = b.Stops) = false := decide_eq_false q1
    have HN : Hid (a ≠ b) := fun e => q1 (by rw [e])
    clear q1
    go_wp2
    go_ret
    exact ⟨ret_bool (decide_eq_false HN.out).symm, inferInstance⟩
  have hd1 : decide (a.Stops = b.Stops) = true := decide_eq_true q1
  have HQ1 := Lib.hid q1
  clear q1
  go_wp2_with fail
  refine (laws_eqIntS ha.l_Runs inferInstance hb.l_Runs inferInstance).mono ?_
  rintro e w4 ⟨rfl, hL2⟩
  have hX2 := Later.trans (w := ((w.alloc (.cells #[.string a.Name, .slice sA0 sn0 sc0, .slice sA1 sn1 sc1] 142)).alloc (.cells #[.string b.Name, .slice qA0 qn0 qc0, .slice qA1 qn1 qc1] 142))) inferInstance hL2
  have hU2 := Later.trans (w := w) inferInstance hX2
  by_cases q2 : a.Runs = b.Runs
  rotate_left
  · have hd2 : decide (a.Runs = b.Runs) = false := decide_eq_false q2
    have HN : Hid (a ≠ b) := fun e => q2 (by rw [e])
    clear q2
    go_wp2
    go_ret
    exact ⟨ret_bool (decide_eq_false HN.out).symm, inferInstance⟩
  have hd2 : decide (a.Runs = b.Runs) = true := decide_eq_true q2
  have HQ2 := Lib.hid q2
  clear q2
  go_wp2
  go_ret
  refine ⟨ret_bool (decide_eq_true ?_).symm, inferInstance⟩
  have e0 := HQ0.out
  have e1 := HQ1.out
  have e2 := HQ2.out
  cases a; cases b; simp_all
def cntLine (t : Line) : Nat := t.Stops.length + t.Runs.length
end Go.Proofs.Ytbkeccpjcmhhjaa
