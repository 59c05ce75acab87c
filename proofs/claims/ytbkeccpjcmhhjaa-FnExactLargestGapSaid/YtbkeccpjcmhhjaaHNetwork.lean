/-
  Helpers of the statements on Network. Printed by a program of ours (gen_struct.py).
-/
import Derived.Test.YtbkeccpjcmhhjaaHStringS
import Derived.Test.YtbkeccpjcmhhjaaHLine
import Derived.Test.YtbkeccpjcmhhjaaHLineS
namespace Go.Proofs.Ytbkeccpjcmhhjaa
open Go Go.RowKit
set_option linter.unusedVariables false
set_option maxRecDepth 100000
def totNetwork (t : Network) : Nat := (totStrs t.Stops) + (totLines t.Lines)
theorem laws_szNetwork {w0 w : World} {sA0 : Option Addr} {sn0 sc0 : Nat} {sA1 : Option Addr} {sn1 sc1 : Nat} {t : Network} {left : Int} (h : NetworkAt w0 sA0 sn0 sc0 sA1 sn1 sc1 t) (hl : Later w0 w) (h0 : 0 ≤ left) (h1 : left ≤ 1048576) :
    Calls Try.prog 25 #[.agg #[.slice sA0 sn0 sc0, .slice sA1 sn1 sc1], .int .i64 left] w (RetSz (totNetwork t) left w) := by
  replace h := h.later hl
  have HB0 : ∀ W [Later (w.alloc (.cells #[.slice sA0 sn0 sc0, .slice sA1 sn1 sc1] 42)) W] (j : Nat), W.cell? ⟨w.heap.size, j, none⟩ = #[.slice sA0 sn0 sc0, .slice sA1 sn1 sc1][j]? := Later.boxes (t := 42) (fr := (0, 0)) (heap_new (by simp; try omega))
  go_enter Try.func25, Try.ntmps25
  go_wp2_with fail
  refine (laws_szStringS h.l_Stops inferInstance h0 h1).mono ?_
  rintro e w0 ⟨r0, rfl, hr0, hL0⟩
  have hX0 := Later.trans (w := (w.alloc (.cells #[.slice sA0 sn0 sc0, .slice sA1 sn1 sc1] 42))) inferInstance hL0
  have hU0 := Later.trans (w := w) inferInstance hX0
  rcases hr0 with hr0 | ⟨hp0, hq0⟩
  · go_wp2
    go_ret
    exact ⟨_, rfl, .inl (by omega), inferInstance⟩
  have hb0 : r0 ≤ 1048576 := by omega
  have HQ0 := Lib.hid hq0
  clear hq0
  go_wp2_with fail
  refine (laws_szLineS h.l_Lines inferInstance hp0 hb0).mono ?_
  rintro e w1 ⟨r1, rfl, hr1, hL1⟩
  have hX1 := Later.trans (w := (w.alloc (.cells #[.slice sA0 sn0 sc0, .slice sA1 sn1 sc1] 42))) inferInstance hL1
  have hU1 := Later.trans (w := w) inferInstance hX1
  rcases hr1 with hr1 | ⟨hp1, hq1⟩
  · go_wp2
    go_ret
    exact ⟨_, rfl, .inl (by omega), inferInstance⟩
  have hb1 : r1 ≤ 1048576 := by omega
  have HQ1 := Lib.hid hq1
  clear hq1
  go_wp2_with fail
  go_ret
  exact ⟨_, rfl, .inr ⟨hp1, by have := HQ0.out; have := HQ1.out; unfold totNetwork; omega⟩, inferInstance⟩
theorem laws_toNetwork {w0 w : World} {sA0 : Option Addr} {sn0 sc0 : Nat} {sA1 : Option Addr} {sn1 sc1 : Nat} {t : Network} (h : NetworkAt w0 sA0 sn0 sc0 sA1 sn1 sc1 t) (hl : Later w0 w) (hn : totNetwork t ≤ 1048576) :
    Calls Try.prog 28 #[.agg #[.slice sA0 sn0 sc0, .slice sA1 sn1 sc1]] w (RetONetwork t w) := by
  replace h := h.later hl
  have HB0 : ∀ W [Later (w.alloc (.cells #[.slice sA0 sn0 sc0, .slice sA1 sn1 sc1] 42)) W] (j : Nat), W.cell? ⟨w.heap.size, j, none⟩ = #[.slice sA0 sn0 sc0, .slice sA1 sn1 sc1][j]? := Later.boxes (t := 42) (fr := (0, 0)) (heap_new (by simp; try omega))
  unfold totNetwork at hn
  have HB : Blk (((w.alloc (.cells #[.slice sA0 sn0 sc0, .slice sA1 sn1 sc1] 42)).alloc (.cells #[.slice none 0 0, .slice none 0 0] 50)).alloc (.cells #[.slice none 0 0, .slice none 0 0] 50)) (w.heap.size + 1 + 1) 50 #[.slice none 0 0, .slice none 0 0] := heap_new (by simp; try omega)
  go_enter Try.func28, Try.ntmps28
  have HR : Blk (((w.alloc (.cells #[.slice sA0 sn0 sc0, .slice sA1 sn1 sc1] 42)).alloc (.cells #[.slice none 0 0, .slice none 0 0] 50)).alloc (.cells #[.slice none 0 0, .slice none 0 0] 50)) (w.heap.size + 1) 50 #[.slice none 0 0, .slice none 0 0] := (heap_old (by simp; try omega)).trans (heap_new (by simp; try omega))
  have hZ : w.heap.size + 3 ≤ (((w.alloc (.cells #[.slice sA0 sn0 sc0, .slice sA1 sn1 sc1] 42)).alloc (.cells #[.slice none 0 0, .slice none 0 0] 50)).alloc (.cells #[.slice none 0 0, .slice none 0 0] 50)).heap.size := by simp; try omega
  go_wp2_with fail
  refine (laws_toStringS h.l_Stops inferInstance (by omega)).mono ?_
  rintro e w0 ⟨A0, n0, c0, f0, rfl, o0, nd0, lo0, hL0⟩
  have hX0 := Later.trans (w := (w.alloc (.cells #[.slice sA0 sn0 sc0, .slice sA1 sn1 sc1] 42))) inferInstance hL0
  have hU0 := Later.trans (w := w) inferInstance hX0
  replace HB : Blk w0 (w.heap.size + 1 + 1) 50 #[.slice none 0 0, .slice none 0 0] := HB.later hL0
  replace HR : Blk w0 (w.heap.size + 1) 50 #[.slice none 0 0, .slice none 0 0] := HR.later hL0
  have hn0 : (w.heap.size + 1 + 1) ∉ f0 := fun hh => by have := lo0 _ hh; simp at this; omega
  have hm0 : (w.heap.size + 1) ∉ f0 := fun hh => by have := lo0 _ hh; simp at this; omega
  have lq0 : ∀ g, g ∈ f0 → w.heap.size ≤ g := fun g hh => by have := lo0 _ hh; simp at this; omega
  obtain ⟨N0, hN0⟩ : ∃ N, N = w0.heap.size := ⟨_, rfl⟩
  have lt0 : ∀ g, g ∈ f0 → g < N0 := fun g hh => by rw [hN0]; exact o0.lt g hh
  replace hZ : w.heap.size + 3 ≤ w0.heap.size := by have := hL0.size; simp at this; omega
  have hc0 := fun j => HB.cell j
  have hf0 := fun j => HB.frozen j
  go_wp2_with fail
  refine (laws_toLineS h.l_Lines inferInstance (by omega)).mono ?_
  rintro e w1 ⟨A1, n1, c1, f1, rfl, o1, nd1, lo1, hL1⟩
  have hX1 := Later.trans (w := (w.alloc (.cells #[.slice sA0 sn0 sc0, .slice sA1 sn1 sc1] 42))) inferInstance hL1
  have hU1 := Later.trans (w := w) inferInstance hX1
  replace HB : Blk w1 (w.heap.size + 1 + 1) 50 #[.slice A0 n0 c0, .slice none 0 0] := (HB.set_ 0 _).later hL1
  replace HR : Blk w1 (w.heap.size + 1) 50 #[.slice none 0 0, .slice none 0 0] := (HR.far (by simp) _).later hL1
  replace o0 := (o0.setc hn0 _ _).later hL1
  have hn1 : (w.heap.size + 1 + 1) ∉ f1 := fun hh => by have := lo1 _ hh; simp at this; omega
  have hm1 : (w.heap.size + 1) ∉ f1 := fun hh => by have := lo1 _ hh; simp at this; omega
  have lq1 : ∀ g, g ∈ f1 → w.heap.size ≤ g := fun g hh => by have := lo1 _ hh; simp at this; omega
  have lr1 : ∀ g, g ∈ f1 → N0 ≤ g := fun g hh => by have := lo1 _ hh; simp at this; omega
  obtain ⟨N1, hN1⟩ : ∃ N, N = w1.heap.size := ⟨_, rfl⟩
  have lt1 : ∀ g, g ∈ f1 → g < N1 := fun g hh => by rw [hN1]; exact o1.lt g hh
  replace hZ : w.heap.size + 3 ≤ w1.heap.size := by have := hL1.size; simp at this; omega
  have hc1 := fun j => HB.cell j
  have hf1 := fun j => HB.frozen j
  clear lo0
  clear lo1
  have hcr := fun j => HR.cell j
  have hfr := fun j => HR.frozen j
  go_wp2
  have hr0 := (((HR.far (p := ⟨w.heap.size + 1 + 1, 1, none⟩) (by simp) (.slice A1 n1 c1)).set_ 0 (.slice A0 n0 c0)).cell 0).trans (show _ = some (.slice A0 n0 c0 : Value) from rfl)
  have hr1 := ((((HR.far (p := ⟨w.heap.size + 1 + 1, 1, none⟩) (by simp) (.slice A1 n1 c1)).set_ 0 (.slice A0 n0 c0)).set_ 1 (.slice A1 n1 c1)).cell 1).trans (show _ = some (.slice A1 n1 c1 : Value) from rfl)
  refine bodyPost_ret (v := .agg #[.slice A0 n0 c0, .slice A1 n1 c1]) (by simp [results, Try.results28, go_sem, hr0, hr1]) rfl ?_
  exact ⟨A0, n0, c0, A1, n1, c1, f0, f1, rfl, ⟨(((o0.setc hn0 _ _).setc hm0 _ _).setc hm0 _ _), (((o1.setc hn1 _ _).setc hm1 _ _).setc hm1 _ _)⟩, nodup_app nd0 nd1 lt0 lr1, fun g hg => by rcases List.mem_append.1 hg with hg | hg; exact lq0 g hg; exact lq1 g hg, inferInstance⟩
theorem laws_eqNetwork {w0 w1 w : World} {sA0 : Option Addr} {sn0 sc0 : Nat} {sA1 : Option Addr} {sn1 sc1 : Nat} {qA0 : Option Addr} {qn0 qc0 : Nat} {qA1 : Option Addr} {qn1 qc1 : Nat} {a b : Network} (ha : NetworkAt w0 sA0 sn0 sc0 sA1 sn1 sc1 a) (hla : Later w0 w) (hb : NetworkAt w1 qA0 qn0 qc0 qA1 qn1 qc1 b) (hlb : Later w1 w) :
    Calls Try.prog 31 #[.agg #[.slice sA0 sn0 sc0, .slice sA1 sn1 sc1], .agg #[.slice qA0 qn0 qc0, .slice qA1 qn1 qc1]] w (Ret (.bool (decide (a = b))) w) := by
  replace ha := ha.later hla
  replace hb := hb.later hlb
  have HB0 : ∀ W [Later ((w.alloc (.cells #[.slice sA0 sn0 sc0, .slice sA1 sn1 sc1] 50)).alloc (.cells #[.slice qA0 qn0 qc0, .slice qA1 qn1 qc1] 50)) W] (j : Nat), W.cell? ⟨w.heap.size, j, none⟩ = #[.slice sA0 sn0 sc0, .slice sA1 sn1 sc1][j]? := Later.boxes (t := 50) (fr := (0, 0)) ((heap_old (by simp; try omega)).trans (heap_new (by simp; try omega))); have HB1 : ∀ W [Later ((w.alloc (.cells #[.slice sA0 sn0 sc0, .slice sA1 sn1 sc1] 50)).alloc (.cells #[.slice qA0 qn0 qc0, .slice qA1 qn1 qc1] 50)) W] (j : Nat), W.cell? ⟨w.heap.size + 1, j, none⟩ = #[.slice qA0 qn0 qc0, .slice qA1 qn1 qc1][j]? := Later.boxes (t := 50) (fr := (0, 0)) (heap_new (by simp; try omega))
  go_enter Try.func31, Try.ntmps31
  go_wp2_with fail
  refine (laws_eqStringS ha.l_Stops inferInstance hb.l_Stops inferInstance).mono ?_
  rintro e w2 ⟨rfl, hL0⟩
  have hX0 := Later.trans (w := ((w.alloc (.cells #[.slice sA0 sn0 sc0, .slice sA1 sn1 sc1] 50)).alloc (.cells #[.slice qA0 qn0 qc0, .slice qA1 qn1 qc1] 50))) inferInstance hL0
  have hU0 := Later.trans (w := w) inferInstance hX0
  by_cases q0 : a.Stops = b.Stops
  rotate_left
  · have hd0 : decide (a.Stops = b.Stops) = false := decide_eq_false q0
    have HN : Hid (a ≠ b) := fun e => q0 (by rw [e])
    clear q0
    go_wp2
    go_ret
    exact ⟨ret_bool (decide_eq_false HN.out).symm, inferInstance⟩
  have hd0 : decide (a.Stops = b.Stops) = true := decide_eq_true q0
  have HQ0 := Lib.hid q0
  clear q0
  go_wp2_with fail
  refine (laws_eqLineS ha.l_Lines inferInstance hb.l_Lines inferInstance).mono ?_
  rintro e w3 ⟨rfl, hL1⟩
  have hX1 := Later.trans (w := ((w.alloc (.cells #[.slice sA0 sn0 sc0, .slice sA1 sn1 sc1] 50)).alloc (.cells #[.slice qA0 qn0 qc0, .slice qA1 qn1 qc1] 50))) inferInstance hL1
  have hU1 := Later.trans (w := w) inferInstance hX1
  by_cases q1 : a.Lines = b.Lines
  rotate_left
  · have hd1 : decide (a.Lines = b.Lines) = false := decide_eq_false q1
    have HN : Hid (a ≠ b) := fun e => q1 (by rw [e])
    clear q1
    go_wp2
    go_ret
    exact ⟨ret_bool (decide_eq_false HN.out).symm, inferInstance⟩
  have hd1 : decide (a.Lines = b.Lines) = true := decide_eq_true q1
  have HQ1 := Lib.hid q1
  clear q1
  go_wp2
  go_ret
  refine ⟨ret_bool (decide_eq_true ?_).symm, inferInstance⟩
  have e0 := HQ0.out
  have e1 := HQ1.out
  cases a; cases b; simp_all
def cntNetwork (t : Network) : Nat := t.Stops.length + (cntLines t.Lines)
theorem laws_markNetwork {w : World} {sA0 : Option Addr} {sn0 sc0 : Nat} {sA1 : Option Addr} {sn1 sc1 : Nat} {t : Network} {sf0 sf1 : List Nat} {k0 : Int} (h : NetworkOw w sA0 sn0 sc0 sA1 sn1 sc1 t sf0 sf1) (hnd : (sf0 ++ sf1).Nodup) (h0 : 0 ≤ k0) (h1 : k0 + cntNetwork t ≤ 4611686018427387904) :
    Calls Try.prog 80 #[.agg #[.slice sA0 sn0 sc0, .slice sA1 sn1 sc1], .int .i64 k0] w (RetMk (k0 + cntNetwork t) (sf0 ++ sf1) (fun w' => True) w) := by
  unfold cntNetwork at h1
  obtain rfl := h.l_Stops.len
  have hlt := h.lt
  have HB : Blk (w.alloc (.cells #[.slice sA0 t.Stops.length sc0, .slice sA1 sn1 sc1] 50)) w.heap.size 50 #[.slice sA0 t.Stops.length sc0, .slice sA1 sn1 sc1] := heap_new rfl
  have hT : Touch (sf0 ++ sf1) w (w.alloc (.cells #[.slice sA0 t.Stops.length sc0, .slice sA1 sn1 sc1] 50)) := Touch.of_later inferInstance
  have hB_Stops : w.heap.size ∉ sf0 := fun hh => Nat.lt_irrefl _ (hlt _ (List.mem_append_left _ hh))
  have hB_Lines : w.heap.size ∉ sf1 := fun hh => Nat.lt_irrefl _ (hlt _ (List.mem_append_right _ hh))
  obtain ⟨nd0, nd1, dj⟩ := List.nodup_append.1 hnd
  have o0 := (h.l_Stops).later (inferInstance : Later w (w.alloc (.cells #[.slice sA0 t.Stops.length sc0, .slice sA1 sn1 sc1] 50)))
  have o1 := (h.l_Lines).later (inferInstance : Later w (w.alloc (.cells #[.slice sA0 t.Stops.length sc0, .slice sA1 sn1 sc1] 50)))
  go_enter Try.func80, Try.ntmps80
  have hc0 := fun j => HB.cell j
  go_wp2_with fail
  refine (laws_markStringS o0 h0 (by omega)).mono ?_
  rintro e w0 ⟨rfl, T0, p0⟩
  replace HB := T0.blk HB hB_Stops
  replace hT := hT.trans (T0.mono (fun g hg => (List.mem_append_left _ hg)))
  replace o1 := o1.touch T0 (fun g hg hh => dj g hh g hg rfl)
  have hc1 := fun j => HB.cell j
  go_wp2_with fail
  refine (laws_markLineS o1 nd1 (by omega) (by omega)).mono ?_
  rintro e w1 ⟨rfl, T1, p1⟩
  replace HB := T1.blk HB hB_Lines
  replace hT := hT.trans (T1.mono (fun g hg => (List.mem_append_right _ hg)))
  go_wp2
  go_ret
  exact ⟨ret_int (by unfold cntNetwork; omega), hT, trivial⟩
end Go.Proofs.Ytbkeccpjcmhhjaa
