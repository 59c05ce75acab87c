/-
 Helpers of the statements on Line. Printed by a program of ours (gen_struct.py).
 The text of a mark: some short string.
 Helpers of the statements on slices of lines: copy, size, equality; marks on slices of strings and of lines.
 Helpers of the statements on Network. Printed by a program of ours (gen_struct.py).
 Helpers of the statements on Trip and slices of it. Printed by a program of ours (gen_flat.py).
 Helpers of the statements on Timetable. Printed by a program of ours (gen_struct.py).
 Helpers of the statements on slices of slices of numbers: copy, size, equality, marks.
 Helpers of the statements on Fleet. Printed by a program of ours (gen_struct.py).
 The marks that a datum takes are no more than its size.
-/
import Derived.Test.YtknhebakebmlcaaGreatKa
import Derived.Laws.BytesArg
import Derived.StillTailTactics
namespace Go.Proofs.YtknhebakebmlcaaGreat
open Go Go.RowKit
set_option linter.unusedVariables false
set_option maxRecDepth 100000
def totLine (t : Line) : Nat := t.Name.size + t.Stops.length + t.Runs.length
theorem laws_szLine {w0 w : World} {sA0 : Option Addr} {sn0 sc0 : Nat} {sA1 : Option Addr} {sn1 sc1 : Nat} {t : Line} {left : Int} (h : LineAt w0 sA0 sn0 sc0 sA1 sn1 sc1 t) (hl : Later w0 w) (h0 : 0 ≤ left) (h1 : left ≤ 1048576) :
  Calls Tryz.prog 80 #[.agg #[.string t.Name, .slice sA0 sn0 sc0, .slice sA1 sn1 sc1], .int .i64 left] w (RetSz (totLine t) left w) := by
 replace h := h.later hl
 have HB0 : ∀ W [Later (w.alloc (.cells #[.string t.Name, .slice sA0 sn0 sc0, .slice sA1 sn1 sc1] 119)) W] (j : Nat), W.cell? ⟨w.heap.size, j, none⟩ = #[.string t.Name, .slice sA0 sn0 sc0, .slice sA1 sn1 sc1][j]? := Later.boxes (t := 119) (fr := (0, 0)) (heap_new (by simp; try omega))
 go_enter Tryz.func80, Tryz.ntmps80
 have hs := h.s_Name
 unfold maxLen at hs
 go_wp2_with fail
 ·go_ret
  exact ⟨_, rfl, .inl (by omega), inferInstance⟩
 obtain ⟨r0, hr0⟩ : ∃ r : Int, r = left - t.Name.size := ⟨_, rfl⟩
 refine (laws_szIntS h.l_Stops (by omega) (by omega)).mono ?_
 rintro e w1 ⟨r1, rfl, hr1, hL1⟩
 have hX1 := Later.trans (w := (w.alloc (.cells #[.string t.Name, .slice sA0 sn0 sc0, .slice sA1 sn1 sc1] 119))) inferInstance hL1
 have hU1 := Later.trans (w := w) inferInstance hX1
 rcases hr1 with hr1 | ⟨hp1, hq1⟩
 ·go_wp2
  go_ret
  exact ⟨_, rfl, .inl (by omega), inferInstance⟩
 have hb1 : r1 ≤ 1048576 := by omega
 have HQ1 := Lib.hid hq1
 clear hq1
 go_wp2_with fail
 refine (laws_szIntS h.l_Runs hp1 hb1).mono ?_
 rintro e w2 ⟨r2, rfl, hr2, hL2⟩
 have hX2 := Later.trans (w := (w.alloc (.cells #[.string t.Name, .slice sA0 sn0 sc0, .slice sA1 sn1 sc1] 119))) inferInstance hL2
 have hU2 := Later.trans (w := w) inferInstance hX2
 rcases hr2 with hr2 | ⟨hp2, hq2⟩
 ·go_wp2
  go_ret
  exact ⟨_, rfl, .inl (by omega), inferInstance⟩
 have hb2 : r2 ≤ 1048576 := by omega
 have HQ2 := Lib.hid hq2
 clear hq2
 go_wp2_with fail
 go_ret
 exact ⟨_, rfl, .inr ⟨hp2, by have := HQ1.out; have := HQ2.out; unfold totLine; omega⟩, inferInstance⟩
theorem laws_toLine {w0 w : World} {sA0 : Option Addr} {sn0 sc0 : Nat} {sA1 : Option Addr} {sn1 sc1 : Nat} {t : Line} (h : LineAt w0 sA0 sn0 sc0 sA1 sn1 sc1 t) (hl : Later w0 w) (hn : totLine t ≤ 1048576) :
  Calls Tryz.prog 81 #[.agg #[.string t.Name, .slice sA0 sn0 sc0, .slice sA1 sn1 sc1]] w (RetOLine t w) := by
 replace h := h.later hl
 have HB0 : ∀ W [Later (w.alloc (.cells #[.string t.Name, .slice sA0 sn0 sc0, .slice sA1 sn1 sc1] 119)) W] (j : Nat), W.cell? ⟨w.heap.size, j, none⟩ = #[.string t.Name, .slice sA0 sn0 sc0, .slice sA1 sn1 sc1][j]? := Later.boxes (t := 119) (fr := (0, 0)) (heap_new (by simp; try omega))
 unfold totLine at hn
 have HB : Blk (((w.alloc (.cells #[.string t.Name, .slice sA0 sn0 sc0, .slice sA1 sn1 sc1] 119)).alloc (.cells #[.string ByteArray.empty, .slice none 0 0, .slice none 0 0] 120)).alloc (.cells #[.string t.Name, .slice none 0 0, .slice none 0 0] 120)) (w.heap.size + 1 + 1) 120 #[.string t.Name, .slice none 0 0, .slice none 0 0] := heap_new (by simp; try omega)
 go_enter Tryz.func81, Tryz.ntmps81
 have HR : Blk (((w.alloc (.cells #[.string t.Name, .slice sA0 sn0 sc0, .slice sA1 sn1 sc1] 119)).alloc (.cells #[.string ByteArray.empty, .slice none 0 0, .slice none 0 0] 120)).alloc (.cells #[.string t.Name, .slice none 0 0, .slice none 0 0] 120)) (w.heap.size + 1) 120 #[.string ByteArray.empty, .slice none 0 0, .slice none 0 0] := (heap_old (by simp; try omega)).trans (heap_new (by simp; try omega))
 have hZ : w.heap.size + 3 ≤ (((w.alloc (.cells #[.string t.Name, .slice sA0 sn0 sc0, .slice sA1 sn1 sc1] 119)).alloc (.cells #[.string ByteArray.empty, .slice none 0 0, .slice none 0 0] 120)).alloc (.cells #[.string t.Name, .slice none 0 0, .slice none 0 0] 120)).heap.size := by simp; try omega
 go_wp2_with fail
 refine (laws_toIntS h.l_Stops inferInstance (by have := h.l_Stops.len; omega)).mono ?_
 rintro e w0 ⟨A0, n0, c0, f0, rfl, o0, nd0, lo0, hL0⟩
 have hX0 := Later.trans (w := (w.alloc (.cells #[.string t.Name, .slice sA0 sn0 sc0, .slice sA1 sn1 sc1] 119))) inferInstance hL0
 have hU0 := Later.trans (w := w) inferInstance hX0
 replace HB : Blk w0 (w.heap.size + 1 + 1) 120 #[.string t.Name, .slice none 0 0, .slice none 0 0] := HB.later hL0
 replace HR : Blk w0 (w.heap.size + 1) 120 #[.string ByteArray.empty, .slice none 0 0, .slice none 0 0] := HR.later hL0
 have hn0 : (w.heap.size + 1 + 1) ∉ f0 := fun hh => by have := lo0 _ hh; simp at this; omega
 have hm0 : (w.heap.size + 1) ∉ f0 := fun hh => by have := lo0 _ hh; simp at this; omega
 have lq0 : ∀ g, g ∈ f0 → w.heap.size ≤ g := fun g hh => by have := lo0 _ hh; simp at this; omega
 obtain ⟨N0, hN0⟩ : ∃ N, N = w0.heap.size := ⟨_, rfl⟩
 have lt0 : ∀ g, g ∈ f0 → g < N0 := fun g hh => by rw [hN0]; exact o0.lt g hh
 replace hZ : w.heap.size + 3 ≤ w0.heap.size := by have := hL0.size; simp at this; omega
 have hc0 := fun j => HB.cell j
 have hf0 := fun j => HB.frozen j
 go_wp2_with fail
 refine (laws_toIntS h.l_Runs inferInstance (by have := h.l_Runs.len; omega)).mono ?_
 rintro e w1 ⟨A1, n1, c1, f1, rfl, o1, nd1, lo1, hL1⟩
 have hX1 := Later.trans (w := (w.alloc (.cells #[.string t.Name, .slice sA0 sn0 sc0, .slice sA1 sn1 sc1] 119))) inferInstance hL1
 have hU1 := Later.trans (w := w) inferInstance hX1
 replace HB : Blk w1 (w.heap.size + 1 + 1) 120 #[.string t.Name, .slice A0 n0 c0, .slice none 0 0] := (HB.set_ 1 _).later hL1
 replace HR : Blk w1 (w.heap.size + 1) 120 #[.string ByteArray.empty, .slice none 0 0, .slice none 0 0] := (HR.far (by simp) _).later hL1
 replace o0 := (o0.setc hn0 _ _).later hL1
 have hn1 : (w.heap.size + 1 + 1) ∉ f1 := fun hh => by have := lo1 _ hh; simp at this; omega
 have hm1 : (w.heap.size + 1) ∉ f1 := fun hh => by have := lo1 _ hh; simp at this; omega
 have lq1 : ∀ g, g ∈ f1 → w.heap.size ≤ g := fun g hh => by have := lo1 _ hh; simp at this; omega
 have lr1 : ∀ g, g ∈ f1 → N0 ≤ g := fun g hh => by have := lo1 _ hh; simp at this; omega
 obtain ⟨N1, hN1⟩ : ∃ N, N = w1.heap.size := ⟨_, rfl⟩
 have lt1 : ∀ g, g ∈ f1 → g < N1 := fun g hh => by rw [hN1]; exact o1.lt g hh
 replace hZ : w.heap.size + 3 ≤ w1.heap.size := by have := hL1.size; simp at this; omega
 have hc1 := fun j => HB.cell j
 have hf1 := fun j => HB.frozen j
 clear lo0
 clear lo1
 have hcr := fun j => HR.cell j
 have hfr := fun j => HR.frozen j
 go_wp2
 have hr0 := (((HR.far (p := ⟨w.heap.size + 1 + 1, 2, none⟩) (by simp) (.slice A1 n1 c1)).set_ 0 (.string t.Name)).cell 0).trans (show _ = some (.string t.Name : Value) from rfl)
 have hr1 := ((((HR.far (p := ⟨w.heap.size + 1 + 1, 2, none⟩) (by simp) (.slice A1 n1 c1)).set_ 0 (.string t.Name)).set_ 1 (.slice A0 n0 c0)).cell 1).trans (show _ = some (.slice A0 n0 c0 : Value) from rfl)
 have hr2 := (((((HR.far (p := ⟨w.heap.size + 1 + 1, 2, none⟩) (by simp) (.slice A1 n1 c1)).set_ 0 (.string t.Name)).set_ 1 (.slice A0 n0 c0)).set_ 2 (.slice A1 n1 c1)).cell 2).trans (show _ = some (.slice A1 n1 c1 : Value) from rfl)
 refine bodyPost_ret (v := .agg #[.string t.Name, .slice A0 n0 c0, .slice A1 n1 c1]) (by simp [results, Tryz.results81, go_sem, hr0, hr1, hr2]) rfl ?_
 exact ⟨A0, n0, c0, A1, n1, c1, f0, f1, rfl, ⟨h.s_Name, ((((o0.setc hn0 _ _).setc hm0 _ _).setc hm0 _ _).setc hm0 _ _), ((((o1.setc hn1 _ _).setc hm1 _ _).setc hm1 _ _).setc hm1 _ _)⟩, nodup_app nd0 nd1 lt0 lr1, fun g hg => by rcases List.mem_append.1 hg with hg | hg; exact lq0 g hg; exact lq1 g hg, inferInstance⟩
theorem laws_eqLine {w0 w1 w : World} {sA0 : Option Addr} {sn0 sc0 : Nat} {sA1 : Option Addr} {sn1 sc1 : Nat} {qA0 : Option Addr} {qn0 qc0 : Nat} {qA1 : Option Addr} {qn1 qc1 : Nat} {a b : Line} (ha : LineAt w0 sA0 sn0 sc0 sA1 sn1 sc1 a) (hla : Later w0 w) (hb : LineAt w1 qA0 qn0 qc0 qA1 qn1 qc1 b) (hlb : Later w1 w) :
  Calls Tryz.prog 83 #[.agg #[.string a.Name, .slice sA0 sn0 sc0, .slice sA1 sn1 sc1], .agg #[.string b.Name, .slice qA0 qn0 qc0, .slice qA1 qn1 qc1]] w (Ret (.bool (decide (a = b))) w) := by
 replace ha := ha.later hla
 replace hb := hb.later hlb
 have HB0 : ∀ W [Later ((w.alloc (.cells #[.string a.Name, .slice sA0 sn0 sc0, .slice sA1 sn1 sc1] 120)).alloc (.cells #[.string b.Name, .slice qA0 qn0 qc0, .slice qA1 qn1 qc1] 120)) W] (j : Nat), W.cell? ⟨w.heap.size, j, none⟩ = #[.string a.Name, .slice sA0 sn0 sc0, .slice sA1 sn1 sc1][j]? := Later.boxes (t := 120) (fr := (0, 0)) ((heap_old (by simp; try omega)).trans (heap_new (by simp; try omega))); have HB1 : ∀ W [Later ((w.alloc (.cells #[.string a.Name, .slice sA0 sn0 sc0, .slice sA1 sn1 sc1] 120)).alloc (.cells #[.string b.Name, .slice qA0 qn0 qc0, .slice qA1 qn1 qc1] 120)) W] (j : Nat), W.cell? ⟨w.heap.size + 1, j, none⟩ = #[.string b.Name, .slice qA0 qn0 qc0, .slice qA1 qn1 qc1][j]? := Later.boxes (t := 120) (fr := (0, 0)) (heap_new (by simp; try omega))
 go_enter Tryz.func83, Tryz.ntmps83
 by_cases q0 : a.Name = b.Name
 rotate_left
 ·have hd0 : (a.Name.data.toList == b.Name.data.toList) = false := by exact str_ne q0
  have hl0 := strL_ne q0
  have HN : Hid (a ≠ b) := fun e => q0 (by rw [e])
  clear q0
  go_wp2
  go_ret
  exact ⟨ret_bool (decide_eq_false HN.out).symm, inferInstance⟩
 have hd0 : (a.Name.data.toList == b.Name.data.toList) = true := by rw [q0]; simp
 have hl0 := strL_eq q0
 have HQ0 := Lib.hid q0
 clear q0
 go_wp2_with fail
 refine (laws_eqIntS ha.l_Stops inferInstance hb.l_Stops inferInstance).mono ?_
 rintro e w3 ⟨rfl, hL1⟩
 have hX1 := Later.trans (w := ((w.alloc (.cells #[.string a.Name, .slice sA0 sn0 sc0, .slice sA1 sn1 sc1] 120)).alloc (.cells #[.string b.Name, .slice qA0 qn0 qc0, .slice qA1 qn1 qc1] 120))) inferInstance hL1
 have hU1 := Later.trans (w := w) inferInstance hX1
 by_cases q1 : a.Stops = b.Stops
 rotate_left
 ·have hd1 : decide (a.Stops = b.Stops) = false := decide_eq_false q1
  have HN : Hid (a ≠ b) := fun e => q1 (by rw [e])
  clear q1
  go_wp2
  go_ret
  exact ⟨ret_bool (decide_eq_false HN.out).symm, inferInstance⟩
 have hd1 : decide (a.Stops = b.Stops) = true := decide_eq_true q1
 have HQ1 := Lib.hid q1
 clear q1
 go_wp2_with fail
 refine (laws_eqIntS ha.l_Runs inferInstance hb.l_Runs inferInstance).mono ?_
 rintro e w4 ⟨rfl, hL2⟩
 have hX2 := Later.trans (w := ((w.alloc (.cells #[.string a.Name, .slice sA0 sn0 sc0, .slice sA1 sn1 sc1] 120)).alloc (.cells #[.string b.Name, .slice qA0 qn0 qc0, .slice qA1 qn1 qc1] 120))) inferInstance hL2
 have hU2 := Later.trans (w := w) inferInstance hX2
 by_cases q2 : a.Runs = b.Runs
 rotate_left
 ·have hd2 : decide (a.Runs = b.Runs) = false := decide_eq_false q2
  have HN : Hid (a ≠ b) := fun e => q2 (by rw [e])
  clear q2
  go_wp2
  go_ret
  exact ⟨ret_bool (decide_eq_false HN.out).symm, inferInstance⟩
 have hd2 : decide (a.Runs = b.Runs) = true := decide_eq_true q2
 have HQ2 := Lib.hid q2
 clear q2
 go_wp2
 go_ret
 refine ⟨ret_bool (decide_eq_true ?_).symm, inferInstance⟩
 have e0 := HQ0.out
 have e1 := HQ1.out
 have e2 := HQ2.out
 cases a; cases b; simp_all
end Go.Proofs.YtknhebakebmlcaaGreat
namespace Go.Proofs.YtknhebakebmlcaaGreat
open Go Go.RowKit
set_option linter.unusedVariables false
set_option maxRecDepth 100000
/-- Some short string. -/
def RetStr (w : World) (e : Ending) (w' : World) : Prop := ∃ s : ByteArray, e = .returned (.string s) ∧ s.size ≤ 64 ∧ Later w w'
theorem laws_markText (k : Int) (h0 : 0 ≤ k) (h1 : k ≤ 4611686018427387904) (w : World) : Calls Tryz.prog 105 #[.int .i64 k] w (RetStr w) := by
 by_cases hz : k ≤ 0
 ·go_enter Tryz.func105, Tryz.ntmps105
  go_wp2
  go_ret
  exact ⟨_, rfl, by decide, inferInstance⟩
 go_enter Tryz.func105, Tryz.ntmps105
 go_wp2
 go_loopw [0, 3] (fun i s wr => ∃ (q : Int) (t : ByteArray) (j : Nat), i = .int .i64 q ∧ s = .string t ∧ 0 ≤ q ∧ q ≤ 4611686018427387904 ∧ j ≤ 19 ∧ t.size ≤ j ∧ Hid (q < 10 ^ (19 - j)) ∧ Later w wr) (fun i _ _ => (intOf i).toNat)
 case atStart => exact ⟨k, ByteArray.empty, 0, rfl, rfl, h0, h1, by omega, by simp, by show _ < _; omega, inferInstance⟩
 case round =>
  obtain ⟨q, t, j, rfl, rfl, hq0, hq1, hj, ht, HQ, hX⟩ := hrel
  by_cases hlt : 0 < q
  ·have hm0 : 0 ≤ q % 10 := by omega
   have hm1 : q % 10 < 10 := by omega
   obtain ⟨d, hd, hcv⟩ : ∃ d : ByteArray, d.size = 1 ∧ (convert 161 9 (.slice (some ⟨wr.heap.size, 0, none⟩) 1 1)).run Tryz.prog (wr.alloc (.cells #[.int .u8 (48 + q % 10)] 5)) = .ok (.string d) (wr.alloc (.cells #[.int .u8 (48 + q % 10)] 5)) :=
    ⟨strOfNums [48 + q % 10], by simp [strOfNums, ByteArray.size], run_convert_bytes_arg _ 161 5 Tryz.underlying161 Tryz.underlying5 _ 0 1 1 [48 + q % 10] rfl (fun i hi => by
     obtain rfl : i = 0 := by omega
     rw [World.cell?_alloc_new]; rfl) _ Tryz.underlying9⟩
   have HD : Hid ((d ++ t).size ≤ j + 1) := by show _ ≤ _; rw [ByteArray.size_append]; omega
   have hj2 : j + 1 ≤ 19 := by
    rcases Nat.lt_or_ge j 19 with h | h
    ·omega
    ·have := HQ.out
     rw [show 19 - j = 0 by omega] at this
     omega
   have HQ2 : Hid (q / 10 < 10 ^ (19 - (j + 1))) := by
    have h3 := HQ.out
    rw [show 19 - j = (19 - (j + 1)) + 1 by omega, Int.pow_succ] at h3
    show _ < _
    omega
   have hd1 : d.size ≤ 1 := by omega
   clear hd
   go_wp2
   go_roundw
   case rel => exact ⟨q / 10, d ++ t, j + 1, rfl, rfl, by omega, by omega, hj2, HD.out, HQ2, inferInstance⟩
   case measure => simp [intOf]; omega
  ·go_wp2
   go_ret
   exact ⟨_, rfl, by rw [ByteArray.size_append]; show 1 + _ ≤ _; omega, inferInstance⟩
end Go.Proofs.YtknhebakebmlcaaGreat
namespace Go.Proofs.YtknhebakebmlcaaGreat
open Go Go.RowKit
set_option linter.unusedVariables false
set_option maxRecDepth 100000
def sumLine : List Line → Nat
 | [] => 0
 | x :: l => totLine x + sumLine l
def totLines (l : List Line) : Nat := l.length + sumLine l
theorem sumLine_drop {l : List Line} {k : Nat} {x : Line} (h : l[k]? = some x) : sumLine (l.drop k) = totLine x + sumLine (l.drop (k + 1)) := by rw [drop_at h]; rfl
theorem sumLine_append (a b : List Line) : sumLine (a ++ b) = sumLine a + sumLine b := by
 induction a with
 | nil => simp [sumLine]
 | cons x a ih => simp only [List.cons_append, sumLine, ih]; omega
theorem tot_le_sumLine {l : List Line} {k : Nat} {x : Line} (h : l[k]? = some x) : totLine x ≤ sumLine l := by
 have h1 : sumLine l = sumLine (l.take k) + sumLine (l.drop k) := by rw [← sumLine_append, List.take_append_drop]
 rw [sumLine_drop h] at h1
 omega
theorem info_Line : (Tryz.prog.info? 120).map (fun i => (i.zero, i.size, i.bytes)) = some (some (.agg #[.string ByteArray.empty, .slice none 0 0, .slice none 0 0]), 3, 64) := by kernel_rfl
theorem laws_toLineS {w0 w : World} {A : Option Addr} {n c : Nat} {l : List Line} (h : Lines w0 A n c l) (hl : Later w0 w) (hn : totLines l ≤ 1048576) :
  Calls Tryz.prog 51 #[.slice A n c] w (RetO 3 oLine l w) := by
 have hn0 : n ≤ 1048576 := by have := h.len; unfold totLines at hn; omega
 obtain ⟨C0, hC0, hmk⟩ := make_row (P := Tryz.prog) 39 120 Tryz.underlying39 info_Line n (by omega) (by omega)
 replace h := h.later hl
 go_enter Tryz.func51, Tryz.ntmps51
 go_wp2
 go_loopw [4] (fun i wr => ∃ (k : Nat) (cs : Array Value) (fps : List (List Nat)), k ≤ n ∧ i = .int .i64 k ∧ Built 3 oLine w wr w.heap.size 120 l n k cs fps ∧ Later w wr) (fun i _ => n - (intOf i).toNat)
 case atStart => exact ⟨0, C0, [], by omega, rfl, Built.start (Blk.new _ _ _) hC0 (Nat.le_refl _), inferInstance⟩
 case round =>
  obtain ⟨k, cs, fps, hk, rfl, hB, hX⟩ := hrel
  by_cases hlt : k < n
  ·obtain ⟨b, o, xA0, xn0, xc0, xA1, xn1, xc1, x, rfl, hx, hc0, hc1, hc2, hi⟩ := Lines.at_ h hlt
   have hn1 : totLine x ≤ 1048576 := by have := tot_le_sumLine hx.out; unfold totLines at hn; omega
   go_wp2_with fail
   refine (laws_toLine hi hX hn1).mono ?_
   rintro e w1 ⟨A0, n0, c0, A1, n1, c1, f0, f1, rfl, ho, hnd, hlo, hL⟩
   have hY : Later w w1 := hX.trans hL
   have hB1 := Lib.hid (hB.blk.later hL)
   have hz := hB.size
   obtain ⟨v0, hv0⟩ := hB1.out.get (i := k * 3) (by omega)
   obtain ⟨v1, hv1⟩ := hB1.out.get (i := k * 3 + 1) (by omega)
   obtain ⟨v2, hv2⟩ := hB1.out.get (i := k * 3 + 2) (by omega)
   have hf0 := hB1.out.frozen (k * 3)
   have hf1 := hB1.out.frozen (k * 3 + 1)
   have hf2 := hB1.out.frozen (k * 3 + 2)
   have Hz := Lib.hid hz
   clear hz
   go_wp2
   go_roundw
   case rel =>
    have hs := hB.size
    refine ⟨k + 1, ((cs.setIfInBounds (k * 3) (.string x.Name)).setIfInBounds (k * 3 + 1) (.slice A0 n0 c0)).setIfInBounds (k * 3 + 2) (.slice A1 n1 c1), fps ++ [f0 ++ f1], by omega, by go_num,
     hB.step hL hx.out ⟨A0, n0, c0, A1, n1, c1, f0, f1, rfl, ho, rfl⟩ hnd hlo (((Touch.refl_.set_ (by simp) _ _).set_ (by simp) _ _).set_ (by simp) _ _) hX (((hB1.out.set_ _ _).set_ _ _).set_ _ _) (by simpa using hs) rfl
     (fun i hi => by rw [set_ne _ (by omega), set_ne _ (by omega), set_ne _ (by omega)]) (fun i v hv => ?_), inferInstance⟩
    match i, hv with
    | 0, hv => simp at hv; subst hv; rw [set_ne _ (by omega), set_ne _ (by omega)]; exact set_eq _ (by omega)
    | 1, hv => simp at hv; subst hv; rw [set_ne _ (by omega)]; exact set_eq _ (by simp; omega)
    | 2, hv => simp at hv; subst hv; exact set_eq _ (by simp; omega)
   case measure => simp [intOf]; omega
  ·go_wp2
   go_ret
   have hkn : k = n := by omega
   exact ⟨_, _, _, _, rfl, hB.done hkn h.len (by omega), hB.nodup, hB.lo, inferInstance⟩
theorem laws_szLineS {w0 w : World} {A : Option Addr} {n c : Nat} {l : List Line} {left : Int} (h : Lines w0 A n c l) (hl : Later w0 w) (h0 : 0 ≤ left) (h1 : left ≤ 1048576) :
  Calls Tryz.prog 48 #[.slice A n c, .int .i64 left] w (RetSz (totLines l) left w) := by
 replace h := h.later hl
 have hn := h.le
 have hl := Lib.hid h.len
 go_enter Tryz.func48, Tryz.ntmps48
 go_wp2_with fail
 ·go_ret
  exact ⟨_, rfl, .inl (by omega), inferInstance⟩
 go_loopw [5, 1] (fun i q wr => ∃ (k : Nat) (r : Int), k ≤ n ∧ i = .int .i64 k ∧ q = .int .i64 r ∧ 0 ≤ r ∧ r ≤ 1048576 ∧ Hid (r - sumLine (l.drop k) = left - totLines l) ∧ Later w wr) (fun i _ _ => n - (intOf i).toNat)
 case atStart => exact ⟨0, left - n, by omega, rfl, rfl, by omega, by omega, by unfold totLines; rw [← hl.out]; show _ = _; simp only [List.drop_zero]; omega, inferInstance⟩
 case round =>
  obtain ⟨k, r, hk, rfl, rfl, hr0, hr1, HF, hX⟩ := hrel
  by_cases hlt : k < n
  ·obtain ⟨b, o, xA0, xn0, xc0, xA1, xn1, xc1, x, rfl, hx, hc0, hc1, hc2, hi⟩ := Lines.at_ h hlt
   have hd := Lib.hid (sumLine_drop hx.out)
   have HI := Lib.hid hi
   clear hi
   go_wp2_with fail
   refine (laws_szLine HI.out hX hr0 hr1).mono ?_
   rintro e w1 ⟨r1, rfl, hr2, hL⟩
   have hY : Later w w1 := hX.trans hL
   rcases hr2 with hr2 | ⟨hr3, hr4⟩
   ·go_wp2
    go_ret
    exact ⟨_, rfl, .inl (by omega), inferInstance⟩
   ·have HF2 : Hid (r1 - sumLine (l.drop (k + 1)) = left - totLines l) := by have := HF.out; have := hd.out; show _ = _; omega
    have hr5 : r1 ≤ 1048576 := by omega
    clear hr4
    go_wp2
    go_roundw
    case rel => exact ⟨k + 1, r1, by omega, by go_num, rfl, hr3, hr5, HF2, inferInstance⟩
    case measure => simp [intOf]; omega
  ·have HF2 := HF.out
   have hkn : k = n := by omega
   rw [List.drop_eq_nil_of_le (by have := hl.out; omega)] at HF2
   have HF3 : Hid (r + totLines l = left) := by show _ = _; simp only [sumLine] at HF2; omega
   clear HF2
   go_wp2
   go_ret
   exact ⟨_, rfl, .inr ⟨hr0, HF3.out⟩, inferInstance⟩
theorem laws_eqLineS {w0 w1 w : World} {A B : Option Addr} {n c m d : Nat} {l r : List Line} (h : Lines w0 A n c l) (hl : Later w0 w) (h1 : Lines w1 B m d r) (hl1 : Later w1 w) :
  Calls Tryz.prog 59 #[.slice A n c, .slice B m d] w (Ret (.bool (decide (l = r))) w) := by
 replace h := h.later hl
 replace h1 := h1.later hl1
 have hn := h.le
 have hm := h1.le
 by_cases hnm : n = m
 ·subst hnm
  have hcont : ((n : Int) != n) = false := by simp
  go_enter Tryz.func59, Tryz.ntmps59
  go_wp2
  go_loopw [5] (fun i wr => ∃ k : Nat, k ≤ n ∧ i = .int .i64 k ∧ Hid (l.drop k = r.drop k ↔ l = r) ∧ Later w wr) (fun i _ => n - (intOf i).toNat)
  case atStart => exact ⟨0, by omega, rfl, Iff.rfl, inferInstance⟩
  case round =>
   obtain ⟨k, hk, rfl, HF, hX⟩ := hrel
   by_cases hlt : k < n
   ·obtain ⟨b, o, xA0, xn0, xc0, xA1, xn1, xc1, x, rfl, hx, hc0, hc1, hc2, hi⟩ := Lines.at_ h hlt
    obtain ⟨b', o', yA0, yn0, yc0, yA1, yn1, yc1, y, rfl, hy, hc0', hc1', hc2', hi'⟩ := Lines.at_ h1 hlt
    have hd := drop_at hx.out
    have hd' := drop_at hy.out
    have HI := Lib.hid hi
    have HI' := Lib.hid hi'
    clear hi hi'
    by_cases hxy : x = y
    ·have HF2 : Hid (l.drop (k + 1) = r.drop (k + 1) ↔ l = r) := by rw [← HF.out, hd, hd', hxy]; show _ ↔ _; simp
     have hb : decide (x = y) = true := by simpa using hxy
     clear hxy hd hd'
     go_wp2_with fail
     go_still_tail 8, (by kernel_rfl)
     change wpList _ _ _ _ _ wr.drew
     go_wp2_with fail
     refine (laws_eqLine HI.out inferInstance HI'.out inferInstance).mono ?_
     rintro e w2 ⟨rfl, hL⟩
     have hY := Later.trans (w := w) inferInstance hL
     go_wp2
     go_roundw
     case rel => exact ⟨k + 1, by omega, by go_num, HF2, inferInstance⟩
     case measure => simp [intOf]; omega
    ·have HF2 : Hid (l ≠ r) := by rw [hd, hd'] at HF; intro e; have := HF.out.2 e; simp at this; exact hxy this.1
     have hb : decide (x = y) = false := by simpa using hxy
     clear hxy hd hd'
     go_wp2_with fail
     go_still_tail 8, (by kernel_rfl)
     change wpList _ _ _ _ _ wr.drew
     go_wp2_with fail
     refine (laws_eqLine HI.out inferInstance HI'.out inferInstance).mono ?_
     rintro e w2 ⟨rfl, hL⟩
     have hY := Later.trans (w := w) inferInstance hL
     go_wp2
     go_ret
     exact ⟨ret_bool (by rw [decide_eq_false HF2.out]), inferInstance⟩
   ·have H2 : Hid (l = r) := by
     rw [List.drop_eq_nil_of_le (by have := h.len; omega), List.drop_eq_nil_of_le (by have := h1.len; omega)] at HF
     exact HF.out.1 rfl
    go_wp2
    go_ret
    exact ⟨ret_bool (by rw [decide_eq_true H2.out]), inferInstance⟩
 ·have H2 : Hid (l ≠ r) := by intro e; apply hnm; rw [h.len, h1.len, e]
  have hb : ((n : Int) != m) = true := by rw [bne_iff_ne]; omega
  clear hnm
  go_enter Tryz.func59, Tryz.ntmps59
  go_wp2
  go_ret
  exact ⟨ret_bool (by rw [decide_eq_false H2.out]), inferInstance⟩
theorem laws_markStringS {w : World} {A : Option Addr} {n c : Nat} {l : List ByteArray} {fp : List Nat} {k0 : Int} (h : OSl 1 oStr w A n c l fp) (h0 : 0 ≤ k0) (h1 : k0 + n ≤ 4611686018427387904) :
  Calls Tryz.prog 77 #[.slice A n c, .int .i64 k0] w (RetMk (k0 + n) fp (fun w' => True) w) := by
 have hn : n ≤ 9223372036854775807 := Nat.le_trans h.cap h.max
 have Hh := Lib.hid h
 rcases h.own with ⟨rfl, rfl⟩ | ⟨g, o, t, cs0, fps, rfl, hB0, rfl, hfl, hel⟩
 ·obtain rfl : n = 0 := Hh.out.len
  clear h
  go_enter Tryz.func77, Tryz.ntmps77
  go_wp2
  go_loop [1, 5] (fun q i => i = .int .i64 0 ∧ q = .int .i64 k0) (fun q i => 0)
  case atStart => exact ⟨rfl, rfl⟩
  case round =>
   obtain ⟨rfl, rfl⟩ := hrel
   go_wp2
   go_ret
   exact ⟨ret_int (by simp), Touch.refl_, trivial⟩
 ·have hlen := Lib.hid h.len
  have HC : Hid (∀ j, j < n → ∃ v, cs0[o + j]? = some v) := fun j hj => by
   obtain ⟨es, f, _, he, hc, _⟩ := hel j l[j]?.get! (by rw [List.getElem?_eq_getElem (by have := hlen.out; omega)]; rfl)
   match es, he with
   | [v], _ => exact ⟨v, by simpa using hc 0 v rfl⟩
  have HB0 := Lib.hid hB0
  have Hglt := hB0.lt
  clear h hel hB0 hfl
  go_enter Tryz.func77, Tryz.ntmps77
  go_wp2
  go_loopw [1, 5] (fun q i wr => ∃ (k : Nat) (cs : Array Value), k ≤ n ∧ i = .int .i64 k ∧ q = .int .i64 (k0 + k) ∧ Blk wr g t cs ∧ cs.size = cs0.size ∧ Touch (g :: fps.flatten) w wr) (fun _ i _ => n - (intOf i).toNat)
  case atStart => exact ⟨0, cs0, by omega, rfl, by simp, HB0.out, rfl, Touch.refl_⟩
  case round =>
   obtain ⟨k, cs, hk, rfl, rfl, hB, hsz, hX⟩ := hrel
   have HB := Lib.hid hB
   have Hsz := Lib.hid hsz
   by_cases hlt : k < n
   ·have hok : o + k < cs.size := by
     obtain ⟨v, hv⟩ := HC.out k hlt
     have := (Array.getElem?_eq_some_iff.1 hv).1
     have := Hsz.out
     omega
    clear hB hsz
    go_wp2_with fail
    refine (laws_markText (k0 + k) (by omega) (by omega) _).mono ?_
    rintro e w1 ⟨s, rfl, hs, L1⟩
    have HB1 := Lib.hid (HB.out.later L1)
    obtain ⟨v0, hv0⟩ := HB1.out.get (i := o + k) hok
    have hfz := HB1.out.frozen (o + k)
    have hX1 := hX.trans (Touch.of_later L1)
    go_wp2
    go_roundw
    case rel => exact ⟨k + 1, cs.setIfInBounds (o + k) (.string s), by omega, by go_num, by go_num, HB1.out.set_ _ _, by have := Hsz.out; simpa using this, hX1.set_ (by simp) _ _⟩
    case measure => simp [intOf]; omega
   ·have hkn : k = n := by omega
    clear hB hsz
    go_wp2
    go_ret
    subst hkn
    exact ⟨rfl, hX, trivial⟩
def cntLines : List Line → Nat
 | [] => 0
 | x :: l => 1 + x.Stops.length + x.Runs.length + cntLines l
theorem cntLines_drop {l : List Line} {k : Nat} {x : Line} (h : l[k]? = some x) : cntLines (l.drop k) = 1 + x.Stops.length + x.Runs.length + cntLines (l.drop (k + 1)) := by rw [drop_at h]; rfl
theorem laws_markLineS {w : World} {A : Option Addr} {n c : Nat} {l : List Line} {fp : List Nat} {k0 : Int} (h : OSl 3 oLine w A n c l fp) (hnd : fp.Nodup) (h0 : 0 ≤ k0) (h1 : k0 + cntLines l ≤ 4611686018427387904) :
  Calls Tryz.prog 78 #[.slice A n c, .int .i64 k0] w (RetMk (k0 + cntLines l) fp (fun w' => True) w) := by
 have hn : n ≤ 9223372036854775807 := Nat.le_trans h.cap h.max
 go_enter Tryz.func78, Tryz.ntmps78
 go_wp2
 go_loopw [1, 5] (fun q i wr => ∃ (k : Nat) (r : Int) (cur : List Line), k ≤ n ∧ i = .int .i64 k ∧ q = .int .i64 r ∧ 0 ≤ r ∧ Hid (r + cntLines (l.drop k) = k0 + cntLines l) ∧ Hid (cur.drop k = l.drop k) ∧ OSl 3 oLine wr A n c cur fp ∧ Touch fp w wr) (fun _ i _ => n - (intOf i).toNat)
 case atStart => exact ⟨0, k0, l, by omega, rfl, rfl, h0, rfl, rfl, h, Touch.refl_⟩
 case round =>
  obtain ⟨k, r, cur, hk, rfl, rfl, hr0, HF, HD, ho, hT⟩ := hrel
  by_cases hlt : k < n
  ·have hlen := ho.len
   have hcl : k < cur.length := by omega
   have hx : cur[k]? = some cur[k] := List.getElem?_eq_getElem hcl
   generalize cur[k] = x at hx
   have hlx : l[k]? = some x := by
    have h2 : (cur.drop k)[0]? = some x := by simpa using hx
    rw [HD.out] at h2; simpa using h2
   obtain ⟨g, o, t, cs, es, f, rfl, hB, hgf, hgn, hfs, hfn, hes, hcs, ⟨A0, n0, c0, A1, n1, c1, f0, f1, rfl, hro, rfl⟩, hset⟩ := ho.elem hnd hx
   have hsd := cntLines_drop hlx
   have hl0 := hro.l_Stops.len
   have hl1 := hro.l_Runs.len
   have hb0 : r + 1 + (n0 : Int) + n1 + cntLines (l.drop (k + 1)) ≤ 4611686018427387904 := by have := HF.out; omega
   have HF2 : Hid (r + 1 + n0 + n1 + cntLines (l.drop (k + 1)) = k0 + cntLines l) := by have := HF.out; show _ = _; omega
   have hb1 : r + 1 + (n0 : Int) + n1 ≤ 4611686018427387904 := by omega
   have HS := Lib.hid hset
   have Hx := Lib.hid hx
   have Hlx := Lib.hid hlx
   have HB := Lib.hid hB
   have q0 : cs[o + k * 3]? = some (.string x.Name) := by simpa using hcs 0 _ rfl
   have q1 : cs[o + k * 3 + 1]? = some (.slice A0 n0 c0) := by simpa using hcs 1 _ rfl
   have q2 : cs[o + k * 3 + 2]? = some (.slice A1 n1 c1) := by simpa using hcs 2 _ rfl
   have hz : o + k * 3 + 2 < cs.size := (Array.getElem?_eq_some_iff.1 q2).1
   obtain ⟨nd0, nd1, dj⟩ := List.nodup_append.1 hfn
   have g0 : g ∉ f0 := fun hh => hgn (List.mem_append_left _ hh)
   have g1 : g ∉ f1 := fun hh => hgn (List.mem_append_right _ hh)
   have HQ := Lib.hid (And.intro q0 (And.intro q1 q2))
   have Hro := Lib.hid hro
   clear hset hx hlx hB hsd hlen hcs hl0 hl1 q0 q1 q2 hro hb0
   go_wp2_with fail
   refine (laws_markText r hr0 (by omega) _).mono ?_
   rintro e w1 ⟨s, rfl, hs, L1⟩
   have HB1 := Lib.hid (HB.out.later L1)
   have hv0 := (HB1.out.cell (o + k * 3)).trans HQ.out.1
   have hfz := HB1.out.frozen (o + k * 3)
   have o0 := (Hro.out.l_Stops.later L1).setc g0 (o + k * 3) (.string s)
   have o1 := (Hro.out.l_Runs.later L1).setc g1 (o + k * 3) (.string s)
   have B2 := Lib.hid (HB1.out.set_ (o + k * 3) (.string s))
   have hv1 := (B2.out.cell (o + k * 3 + 1)).trans ((set_ne _ (by omega)).trans HQ.out.2.1)
   have T2 : Touch (g :: (f0 ++ f1)) wr (w1.setCell ⟨g, o + k * 3, none⟩ (.string s)) := (Touch.of_later L1).set_ (by simp) _ _
   go_wp2_with fail
   refine (laws_markIntS o0 (by omega) (by omega)).mono ?_
   rintro e w2 ⟨rfl, T3, p0⟩
   have B3 := Lib.hid (T3.blk B2.out g0)
   have o1' := o1.touch T3 (fun b hb hh => dj b hh b hb rfl)
   have hv2 := (B3.out.cell (o + k * 3 + 2)).trans ((set_ne _ (by omega)).trans HQ.out.2.2)
   go_wp2_with fail
   refine (laws_markIntS o1' (by omega) (by omega)).mono ?_
   rintro e w3 ⟨rfl, T4, p1⟩
   have B4 := Lib.hid (T4.blk B3.out g1)
   have p0' := p0.touch T4 (fun b hb hh => dj b hb b hh rfl)
   have T5 : Touch (g :: (f0 ++ f1)) wr w3 := (T2.trans (T3.mono fun b hb => List.mem_cons_of_mem _ (List.mem_append_left _ hb))).trans (T4.mono fun b hb => List.mem_cons_of_mem _ (List.mem_append_right _ hb))
   have o5 := HS.out w3 (cs.setIfInBounds (o + k * 3) (.string s)) [.string s, .slice A0 n0 c0, .slice A1 n1 c1] ⟨s, mkInts (r + 1) n0, mkInts (r + 1 + n0) n1⟩ T5 B4.out (fun i hi => set_ne _ (by omega)) rfl (fun j v hv => by
    match j, hv with
    | 0, hv => simp at hv; subst hv; exact set_eq _ (by omega)
    | 1, hv => simp at hv; subst hv; exact (set_ne _ (by omega)).trans HQ.out.2.1
    | 2, hv => simp at hv; subst hv; exact (set_ne _ (by omega)).trans HQ.out.2.2) ⟨A0, n0, c0, A1, n1, c1, f0, f1, rfl, ⟨by simp only [maxLen]; omega, p0', p1⟩, rfl⟩
   have T6 := hT.trans (T5.mono fun b hb => by
    rcases List.mem_cons.1 hb with rfl | hb
    ·exact hgf
    ·exact hfs b hb)
   clear o0 o1 o1' p0 p0' p1 T5 T4 T3 T2 hv0 hv1 hv2 L1
   go_wp2
   go_roundw
   case rel =>
    refine ⟨k + 1, r + 1 + n0 + n1, cur.set k _, by omega, by go_num, rfl, by omega, HF2, ?_, o5, T6⟩
    have h3 := HD.out
    rw [drop_at Hx.out, drop_at Hlx.out] at h3
    show _ = _
    rw [List.drop_set_of_lt (by omega)]
    exact (List.cons.inj h3).2
   case measure => simp [intOf]; omega
  ·have H3 : Hid (r = k0 + cntLines l) := by
    have h3 := HF.out
    have hll := h.len
    rw [List.drop_eq_nil_of_le (by omega)] at h3
    exact (by simpa [cntLines] using h3 : r = k0 + cntLines l)
   go_wp2
   go_ret
   exact ⟨ret_int H3.out, hT, trivial⟩
end Go.Proofs.YtknhebakebmlcaaGreat
namespace Go.Proofs.YtknhebakebmlcaaGreat
open Go Go.RowKit
set_option linter.unusedVariables false
set_option maxRecDepth 100000
def totNetwork (t : Network) : Nat := (totStrs t.Stops) + (totLines t.Lines)
theorem laws_szNetwork {w0 w : World} {sA0 : Option Addr} {sn0 sc0 : Nat} {sA1 : Option Addr} {sn1 sc1 : Nat} {t : Network} {left : Int} (h : NetworkAt w0 sA0 sn0 sc0 sA1 sn1 sc1 t) (hl : Later w0 w) (h0 : 0 ≤ left) (h1 : left ≤ 1048576) :
  Calls Tryz.prog 25 #[.agg #[.slice sA0 sn0 sc0, .slice sA1 sn1 sc1], .int .i64 left] w (RetSz (totNetwork t) left w) := by
 replace h := h.later hl
 have HB0 : ∀ W [Later (w.alloc (.cells #[.slice sA0 sn0 sc0, .slice sA1 sn1 sc1] 25)) W] (j : Nat), W.cell? ⟨w.heap.size, j, none⟩ = #[.slice sA0 sn0 sc0, .slice sA1 sn1 sc1][j]? := Later.boxes (t := 25) (fr := (0, 0)) (heap_new (by simp; try omega))
 go_enter Tryz.func25, Tryz.ntmps25
 go_wp2_with fail
 refine (laws_szStringS h.l_Stops inferInstance h0 h1).mono ?_
 rintro e w0 ⟨r0, rfl, hr0, hL0⟩
 have hX0 := Later.trans (w := (w.alloc (.cells #[.slice sA0 sn0 sc0, .slice sA1 sn1 sc1] 25))) inferInstance hL0
 have hU0 := Later.trans (w := w) inferInstance hX0
 rcases hr0 with hr0 | ⟨hp0, hq0⟩
 ·go_wp2
  go_ret
  exact ⟨_, rfl, .inl (by omega), inferInstance⟩
 have hb0 : r0 ≤ 1048576 := by omega
 have HQ0 := Lib.hid hq0
 clear hq0
 go_wp2_with fail
 refine (laws_szLineS h.l_Lines inferInstance hp0 hb0).mono ?_
 rintro e w1 ⟨r1, rfl, hr1, hL1⟩
 have hX1 := Later.trans (w := (w.alloc (.cells #[.slice sA0 sn0 sc0, .slice sA1 sn1 sc1] 25))) inferInstance hL1
 have hU1 := Later.trans (w := w) inferInstance hX1
 rcases hr1 with hr1 | ⟨hp1, hq1⟩
 ·go_wp2
  go_ret
  exact ⟨_, rfl, .inl (by omega), inferInstance⟩
 have hb1 : r1 ≤ 1048576 := by omega
 have HQ1 := Lib.hid hq1
 clear hq1
 go_wp2_with fail
 go_ret
 exact ⟨_, rfl, .inr ⟨hp1, by have := HQ0.out; have := HQ1.out; unfold totNetwork; omega⟩, inferInstance⟩
theorem laws_toNetwork {w0 w : World} {sA0 : Option Addr} {sn0 sc0 : Nat} {sA1 : Option Addr} {sn1 sc1 : Nat} {t : Network} (h : NetworkAt w0 sA0 sn0 sc0 sA1 sn1 sc1 t) (hl : Later w0 w) (hn : totNetwork t ≤ 1048576) :
  Calls Tryz.prog 30 #[.agg #[.slice sA0 sn0 sc0, .slice sA1 sn1 sc1]] w (RetONetwork t w) := by
 replace h := h.later hl
 have HB0 : ∀ W [Later (w.alloc (.cells #[.slice sA0 sn0 sc0, .slice sA1 sn1 sc1] 25)) W] (j : Nat), W.cell? ⟨w.heap.size, j, none⟩ = #[.slice sA0 sn0 sc0, .slice sA1 sn1 sc1][j]? := Later.boxes (t := 25) (fr := (0, 0)) (heap_new (by simp; try omega))
 unfold totNetwork at hn
 have HB : Blk (((w.alloc (.cells #[.slice sA0 sn0 sc0, .slice sA1 sn1 sc1] 25)).alloc (.cells #[.slice none 0 0, .slice none 0 0] 41)).alloc (.cells #[.slice none 0 0, .slice none 0 0] 41)) (w.heap.size + 1 + 1) 41 #[.slice none 0 0, .slice none 0 0] := heap_new (by simp; try omega)
 go_enter Tryz.func30, Tryz.ntmps30
 have HR : Blk (((w.alloc (.cells #[.slice sA0 sn0 sc0, .slice sA1 sn1 sc1] 25)).alloc (.cells #[.slice none 0 0, .slice none 0 0] 41)).alloc (.cells #[.slice none 0 0, .slice none 0 0] 41)) (w.heap.size + 1) 41 #[.slice none 0 0, .slice none 0 0] := (heap_old (by simp; try omega)).trans (heap_new (by simp; try omega))
 have hZ : w.heap.size + 3 ≤ (((w.alloc (.cells #[.slice sA0 sn0 sc0, .slice sA1 sn1 sc1] 25)).alloc (.cells #[.slice none 0 0, .slice none 0 0] 41)).alloc (.cells #[.slice none 0 0, .slice none 0 0] 41)).heap.size := by simp; try omega
 go_wp2_with fail
 refine (laws_toStringS h.l_Stops inferInstance (by omega)).mono ?_
 rintro e w0 ⟨A0, n0, c0, f0, rfl, o0, nd0, lo0, hL0⟩
 have hX0 := Later.trans (w := (w.alloc (.cells #[.slice sA0 sn0 sc0, .slice sA1 sn1 sc1] 25))) inferInstance hL0
 have hU0 := Later.trans (w := w) inferInstance hX0
 replace HB : Blk w0 (w.heap.size + 1 + 1) 41 #[.slice none 0 0, .slice none 0 0] := HB.later hL0
 replace HR : Blk w0 (w.heap.size + 1) 41 #[.slice none 0 0, .slice none 0 0] := HR.later hL0
 have hn0 : (w.heap.size + 1 + 1) ∉ f0 := fun hh => by have := lo0 _ hh; simp at this; omega
 have hm0 : (w.heap.size + 1) ∉ f0 := fun hh => by have := lo0 _ hh; simp at this; omega
 have lq0 : ∀ g, g ∈ f0 → w.heap.size ≤ g := fun g hh => by have := lo0 _ hh; simp at this; omega
 obtain ⟨N0, hN0⟩ : ∃ N, N = w0.heap.size := ⟨_, rfl⟩
 have lt0 : ∀ g, g ∈ f0 → g < N0 := fun g hh => by rw [hN0]; exact o0.lt g hh
 replace hZ : w.heap.size + 3 ≤ w0.heap.size := by have := hL0.size; simp at this; omega
 have hc0 := fun j => HB.cell j
 have hf0 := fun j => HB.frozen j
 go_wp2_with fail
 refine (laws_toLineS h.l_Lines inferInstance (by omega)).mono ?_
 rintro e w1 ⟨A1, n1, c1, f1, rfl, o1, nd1, lo1, hL1⟩
 have hX1 := Later.trans (w := (w.alloc (.cells #[.slice sA0 sn0 sc0, .slice sA1 sn1 sc1] 25))) inferInstance hL1
 have hU1 := Later.trans (w := w) inferInstance hX1
 replace HB : Blk w1 (w.heap.size + 1 + 1) 41 #[.slice A0 n0 c0, .slice none 0 0] := (HB.set_ 0 _).later hL1
 replace HR : Blk w1 (w.heap.size + 1) 41 #[.slice none 0 0, .slice none 0 0] := (HR.far (by simp) _).later hL1
 replace o0 := (o0.setc hn0 _ _).later hL1
 have hn1 : (w.heap.size + 1 + 1) ∉ f1 := fun hh => by have := lo1 _ hh; simp at this; omega
 have hm1 : (w.heap.size + 1) ∉ f1 := fun hh => by have := lo1 _ hh; simp at this; omega
 have lq1 : ∀ g, g ∈ f1 → w.heap.size ≤ g := fun g hh => by have := lo1 _ hh; simp at this; omega
 have lr1 : ∀ g, g ∈ f1 → N0 ≤ g := fun g hh => by have := lo1 _ hh; simp at this; omega
 obtain ⟨N1, hN1⟩ : ∃ N, N = w1.heap.size := ⟨_, rfl⟩
 have lt1 : ∀ g, g ∈ f1 → g < N1 := fun g hh => by rw [hN1]; exact o1.lt g hh
 replace hZ : w.heap.size + 3 ≤ w1.heap.size := by have := hL1.size; simp at this; omega
 have hc1 := fun j => HB.cell j
 have hf1 := fun j => HB.frozen j
 clear lo0
 clear lo1
 have hcr := fun j => HR.cell j
 have hfr := fun j => HR.frozen j
 go_wp2
 have hr0 := (((HR.far (p := ⟨w.heap.size + 1 + 1, 1, none⟩) (by simp) (.slice A1 n1 c1)).set_ 0 (.slice A0 n0 c0)).cell 0).trans (show _ = some (.slice A0 n0 c0 : Value) from rfl)
 have hr1 := ((((HR.far (p := ⟨w.heap.size + 1 + 1, 1, none⟩) (by simp) (.slice A1 n1 c1)).set_ 0 (.slice A0 n0 c0)).set_ 1 (.slice A1 n1 c1)).cell 1).trans (show _ = some (.slice A1 n1 c1 : Value) from rfl)
 refine bodyPost_ret (v := .agg #[.slice A0 n0 c0, .slice A1 n1 c1]) (by simp [results, Tryz.results30, go_sem, hr0, hr1]) rfl ?_
 exact ⟨A0, n0, c0, A1, n1, c1, f0, f1, rfl, ⟨(((o0.setc hn0 _ _).setc hm0 _ _).setc hm0 _ _), (((o1.setc hn1 _ _).setc hm1 _ _).setc hm1 _ _)⟩, nodup_app nd0 nd1 lt0 lr1, fun g hg => by rcases List.mem_append.1 hg with hg | hg; exact lq0 g hg; exact lq1 g hg, inferInstance⟩
theorem laws_eqNetwork {w0 w1 w : World} {sA0 : Option Addr} {sn0 sc0 : Nat} {sA1 : Option Addr} {sn1 sc1 : Nat} {qA0 : Option Addr} {qn0 qc0 : Nat} {qA1 : Option Addr} {qn1 qc1 : Nat} {a b : Network} (ha : NetworkAt w0 sA0 sn0 sc0 sA1 sn1 sc1 a) (hla : Later w0 w) (hb : NetworkAt w1 qA0 qn0 qc0 qA1 qn1 qc1 b) (hlb : Later w1 w) :
  Calls Tryz.prog 35 #[.agg #[.slice sA0 sn0 sc0, .slice sA1 sn1 sc1], .agg #[.slice qA0 qn0 qc0, .slice qA1 qn1 qc1]] w (Ret (.bool (decide (a = b))) w) := by
 replace ha := ha.later hla
 replace hb := hb.later hlb
 have HB0 : ∀ W [Later ((w.alloc (.cells #[.slice sA0 sn0 sc0, .slice sA1 sn1 sc1] 41)).alloc (.cells #[.slice qA0 qn0 qc0, .slice qA1 qn1 qc1] 41)) W] (j : Nat), W.cell? ⟨w.heap.size, j, none⟩ = #[.slice sA0 sn0 sc0, .slice sA1 sn1 sc1][j]? := Later.boxes (t := 41) (fr := (0, 0)) ((heap_old (by simp; try omega)).trans (heap_new (by simp; try omega))); have HB1 : ∀ W [Later ((w.alloc (.cells #[.slice sA0 sn0 sc0, .slice sA1 sn1 sc1] 41)).alloc (.cells #[.slice qA0 qn0 qc0, .slice qA1 qn1 qc1] 41)) W] (j : Nat), W.cell? ⟨w.heap.size + 1, j, none⟩ = #[.slice qA0 qn0 qc0, .slice qA1 qn1 qc1][j]? := Later.boxes (t := 41) (fr := (0, 0)) (heap_new (by simp; try omega))
 go_enter Tryz.func35, Tryz.ntmps35
 go_wp2_with fail
 refine (laws_eqStringS ha.l_Stops inferInstance hb.l_Stops inferInstance).mono ?_
 rintro e w2 ⟨rfl, hL0⟩
 have hX0 := Later.trans (w := ((w.alloc (.cells #[.slice sA0 sn0 sc0, .slice sA1 sn1 sc1] 41)).alloc (.cells #[.slice qA0 qn0 qc0, .slice qA1 qn1 qc1] 41))) inferInstance hL0
 have hU0 := Later.trans (w := w) inferInstance hX0
 by_cases q0 : a.Stops = b.Stops
 rotate_left
 ·have hd0 : decide (a.Stops = b.Stops) = false := decide_eq_false q0
  have HN : Hid (a ≠ b) := fun e => q0 (by rw [e])
  clear q0
  go_wp2
  go_ret
  exact ⟨ret_bool (decide_eq_false HN.out).symm, inferInstance⟩
 have hd0 : decide (a.Stops = b.Stops) = true := decide_eq_true q0
 have HQ0 := Lib.hid q0
 clear q0
 go_wp2_with fail
 refine (laws_eqLineS ha.l_Lines inferInstance hb.l_Lines inferInstance).mono ?_
 rintro e w3 ⟨rfl, hL1⟩
 have hX1 := Later.trans (w := ((w.alloc (.cells #[.slice sA0 sn0 sc0, .slice sA1 sn1 sc1] 41)).alloc (.cells #[.slice qA0 qn0 qc0, .slice qA1 qn1 qc1] 41))) inferInstance hL1
 have hU1 := Later.trans (w := w) inferInstance hX1
 by_cases q1 : a.Lines = b.Lines
 rotate_left
 ·have hd1 : decide (a.Lines = b.Lines) = false := decide_eq_false q1
  have HN : Hid (a ≠ b) := fun e => q1 (by rw [e])
  clear q1
  go_wp2
  go_ret
  exact ⟨ret_bool (decide_eq_false HN.out).symm, inferInstance⟩
 have hd1 : decide (a.Lines = b.Lines) = true := decide_eq_true q1
 have HQ1 := Lib.hid q1
 clear q1
 go_wp2
 go_ret
 refine ⟨ret_bool (decide_eq_true ?_).symm, inferInstance⟩
 have e0 := HQ0.out
 have e1 := HQ1.out
 cases a; cases b; simp_all
def cntNetwork (t : Network) : Nat := t.Stops.length + (cntLines t.Lines)
theorem laws_markNetwork {w : World} {sA0 : Option Addr} {sn0 sc0 : Nat} {sA1 : Option Addr} {sn1 sc1 : Nat} {t : Network} {sf0 sf1 : List Nat} {k0 : Int} (h : NetworkOw w sA0 sn0 sc0 sA1 sn1 sc1 t sf0 sf1) (hnd : (sf0 ++ sf1).Nodup) (h0 : 0 ≤ k0) (h1 : k0 + cntNetwork t ≤ 4611686018427387904) :
  Calls Tryz.prog 43 #[.agg #[.slice sA0 sn0 sc0, .slice sA1 sn1 sc1], .int .i64 k0] w (RetMk (k0 + cntNetwork t) (sf0 ++ sf1) (fun w' => True) w) := by
 unfold cntNetwork at h1
 obtain rfl := h.l_Stops.len
 have hlt := h.lt
 have HB : Blk (w.alloc (.cells #[.slice sA0 t.Stops.length sc0, .slice sA1 sn1 sc1] 41)) w.heap.size 41 #[.slice sA0 t.Stops.length sc0, .slice sA1 sn1 sc1] := heap_new rfl
 have hT : Touch (sf0 ++ sf1) w (w.alloc (.cells #[.slice sA0 t.Stops.length sc0, .slice sA1 sn1 sc1] 41)) := Touch.of_later inferInstance
 have hB_Stops : w.heap.size ∉ sf0 := fun hh => Nat.lt_irrefl _ (hlt _ (List.mem_append_left _ hh))
 have hB_Lines : w.heap.size ∉ sf1 := fun hh => Nat.lt_irrefl _ (hlt _ (List.mem_append_right _ hh))
 obtain ⟨nd0, nd1, dj⟩ := List.nodup_append.1 hnd
 have o0 := (h.l_Stops).later (inferInstance : Later w (w.alloc (.cells #[.slice sA0 t.Stops.length sc0, .slice sA1 sn1 sc1] 41)))
 have o1 := (h.l_Lines).later (inferInstance : Later w (w.alloc (.cells #[.slice sA0 t.Stops.length sc0, .slice sA1 sn1 sc1] 41)))
 go_enter Tryz.func43, Tryz.ntmps43
 have hc0 := fun j => HB.cell j
 go_wp2_with fail
 refine (laws_markStringS o0 h0 (by omega)).mono ?_
 rintro e w0 ⟨rfl, T0, p0⟩
 replace HB := T0.blk HB hB_Stops
 replace hT := hT.trans (T0.mono (fun g hg => (List.mem_append_left _ hg)))
 replace o1 := o1.touch T0 (fun g hg hh => dj g hh g hg rfl)
 have hc1 := fun j => HB.cell j
 go_wp2_with fail
 refine (laws_markLineS o1 nd1 (by omega) (by omega)).mono ?_
 rintro e w1 ⟨rfl, T1, p1⟩
 replace HB := T1.blk HB hB_Lines
 replace hT := hT.trans (T1.mono (fun g hg => (List.mem_append_right _ hg)))
 go_wp2
 go_ret
 exact ⟨ret_int (by unfold cntNetwork; omega), hT, trivial⟩
end Go.Proofs.YtknhebakebmlcaaGreat
namespace Go.Proofs.YtknhebakebmlcaaGreat
open Go Go.RowKit
set_option linter.unusedVariables false
set_option maxRecDepth 100000
theorem laws_toTrip (t : Trip) (w : World) : Calls Tryz.prog 52 #[.agg #[.int .i64 t.Id, .int .i64 t.Line, .int .i64 t.Start]] w (Ret (.agg #[.int .i64 t.Id, .int .i64 t.Line, .int .i64 t.Start]) w) := by
 go_enter Tryz.func52, Tryz.ntmps52
 go_wp2
 exact bodyPost_ret (by simp [results, Tryz.results52, go_sem]) rfl ⟨rfl, inferInstance⟩
theorem laws_eqTrip (a b : Trip) (w : World) : Calls Tryz.prog 60 #[.agg #[.int .i64 a.Id, .int .i64 a.Line, .int .i64 a.Start], .agg #[.int .i64 b.Id, .int .i64 b.Line, .int .i64 b.Start]] w (Ret (.bool (decide (a = b))) w) := by
 go_enter Tryz.func60, Tryz.ntmps60
 go_wp2
 all_goals
  go_ret
  exact ⟨ret_bool (by cases a; cases b; simp_all), inferInstance⟩
theorem info_Trip : (Tryz.prog.info? 82).map (fun i => (i.zero, i.size, i.bytes)) = some (some (.agg #[.int .i64 0, .int .i64 0, .int .i64 0]), 3, 24) := by kernel_rfl
theorem laws_toTripS {w0 w : World} {A : Option Addr} {n c : Nat} {l : List Trip} (h : Trips w0 A n c l) (hl : Later w0 w) (hn : n ≤ 1048576) :
  Calls Tryz.prog 31 #[.slice A n c] w (RetO 3 (oFlat rTrip) l w) := by
 obtain ⟨C0, hC0, hmk⟩ := make_row (P := Tryz.prog) 42 82 Tryz.underlying42 info_Trip n (by omega) (by omega)
 replace h := h.later hl
 go_enter Tryz.func31, Tryz.ntmps31
 go_wp2
 go_loopw [4] (fun i wr => ∃ (k : Nat) (cs : Array Value), k ≤ n ∧ i = .int .i64 k ∧ Blk wr w.heap.size 82 cs ∧ cs.size = n * 3 ∧ (∀ (j : Nat) (x : Trip), j < k → l[j]? = some x → (cs[j * 3]? = some (.int .i64 x.Id) ∧ cs[j * 3 + 1]? = some (.int .i64 x.Line) ∧ cs[j * 3 + 2]? = some (.int .i64 x.Start)) ∧ TripOk x) ∧ Later w wr) (fun i _ => n - (intOf i).toNat)
 case atStart => exact ⟨0, C0, by omega, rfl, Blk.new _ _ _, by omega, fun j x hj => by omega, inferInstance⟩
 case round =>
  obtain ⟨k, cs, hk, rfl, hB, hsz, hcs, hX⟩ := hrel
  have HB := Lib.hid hB
  have HS := Lib.hid hcs
  have Hsz := Lib.hid hsz
  by_cases hlt : k < n
  ·obtain ⟨b, o, x, rfl, hx, hc0, hc1, hc2, hi⟩ := Trips.at_ h hlt
   clear hB hcs hsz
   have Hi := Lib.hid hi
   clear hi
   go_wp2_with fail
   refine (laws_toTrip _ _).mono ?_
   rintro e w1 ⟨rfl, hL⟩
   have hY : Later w w1 := hX.trans hL
   have HB1 := Lib.hid (HB.out.later hL)
   obtain ⟨v0, hv0⟩ := HB1.out.get (i := k * 3) (by have := Hsz.out; omega)
   obtain ⟨v1, hv1⟩ := HB1.out.get (i := k * 3 + 1) (by have := Hsz.out; omega)
   obtain ⟨v2, hv2⟩ := HB1.out.get (i := k * 3 + 2) (by have := Hsz.out; omega)
   have hf0 := HB1.out.frozen (k * 3)
   have hf1 := HB1.out.frozen (k * 3 + 1)
   have hf2 := HB1.out.frozen (k * 3 + 2)
   go_wp2
   go_roundw
   case rel =>
    refine ⟨k + 1, (((cs.setIfInBounds (k * 3) (.int .i64 x.Id)).setIfInBounds (k * 3 + 1) (.int .i64 x.Line)).setIfInBounds (k * 3 + 2) (.int .i64 x.Start)), by omega, by go_num, (((HB1.out.set_ _ _).set_ _ _).set_ _ _), by have := Hsz.out; simpa using this, fun j y hj hy => ?_, inferInstance⟩
    by_cases e : j = k
    ·subst e
     obtain rfl := Option.some.inj (hx.out.symm.trans hy)
     have hs := Hsz.out
     exact ⟨⟨by rw [set_ne _ (by omega), set_ne _ (by omega), set_eq _ (by (try simp only [Array.size_setIfInBounds]); omega)], by rw [set_ne _ (by omega), set_eq _ (by (try simp only [Array.size_setIfInBounds]); omega)], by rw [set_eq _ (by (try simp only [Array.size_setIfInBounds]); omega)]⟩, Hi.out⟩
    ·have h3 := HS.out j y (by omega) hy
     exact ⟨⟨by rw [set_ne _ (by omega), set_ne _ (by omega), set_ne _ (by omega)]; exact h3.1.1, by rw [set_ne _ (by omega), set_ne _ (by omega), set_ne _ (by omega)]; exact h3.1.2.1, by rw [set_ne _ (by omega), set_ne _ (by omega), set_ne _ (by omega)]; exact h3.1.2.2⟩, h3.2⟩
   case measure => simp [intOf]; omega
  ·clear hB hcs hsz
   go_wp2
   go_ret
   obtain ⟨fp, ho, hfp⟩ := OSl.of_blk (sz := 3) (r := rTrip) (l := l) (n := n) (c := n) HB.out h.len (Nat.le_refl _) (by omega) (fun j x hx => by
    obtain ⟨h1, h2⟩ := HS.out j x (by have := (List.getElem?_eq_some_iff.1 hx).1; have := h.len; omega) hx
    exact ⟨[.int .i64 x.Id, .int .i64 x.Line, .int .i64 x.Start], rfl, fun j' v hv => by
     match j', hv with
     | 0, hv => simp at hv; subst hv; exact h1.1
     | 1, hv => simp at hv; subst hv; exact h1.2.1
     | 2, hv => simp at hv; subst hv; exact h1.2.2
     , fun _ => ⟨rfl, h2⟩⟩)
   subst hfp
   exact ⟨_, _, _, _, rfl, ho, by simp, by simp, inferInstance⟩
theorem laws_szTripS {w0 w : World} {A : Option Addr} {n c : Nat} {l : List Trip} {left : Int} (h : Trips w0 A n c l) (h0 : 0 ≤ left) (h1 : left ≤ 1048576) :
  Calls Tryz.prog 26 #[.slice A n c, .int .i64 left] w (RetSz l.length left w) := by
 have hn := h.le
 have hl := Lib.hid h.len
 clear h
 go_enter Tryz.func26, Tryz.ntmps26
 go_wp2
 ·go_ret
  exact ⟨_, rfl, .inl (by omega), inferInstance⟩
 ·go_ret
  exact ⟨_, rfl, .inr ⟨by have := hl.out; omega, by rw [← hl.out]; simp⟩, inferInstance⟩
theorem laws_eqTripS {w0 w1 w : World} {A B : Option Addr} {n c m d : Nat} {l r : List Trip} (h : Trips w0 A n c l) (hl : Later w0 w) (h1 : Trips w1 B m d r) (hl1 : Later w1 w) :
  Calls Tryz.prog 36 #[.slice A n c, .slice B m d] w (Ret (.bool (decide (l = r))) w) := by
 replace h := h.later hl
 replace h1 := h1.later hl1
 have hn := h.le
 have hm := h1.le
 by_cases hnm : n = m
 ·subst hnm
  have hcont : ((n : Int) != n) = false := by simp
  go_enter Tryz.func36, Tryz.ntmps36
  go_wp2
  go_loopw [5] (fun i wr => ∃ k : Nat, k ≤ n ∧ i = .int .i64 k ∧ Hid (l.drop k = r.drop k ↔ l = r) ∧ Later w wr) (fun i _ => n - (intOf i).toNat)
  case atStart => exact ⟨0, by omega, rfl, Iff.rfl, inferInstance⟩
  case round =>
   obtain ⟨k, hk, rfl, HF, hX⟩ := hrel
   by_cases hlt : k < n
   ·obtain ⟨b, o, x, rfl, hx, hc0, hc1, hc2, hi⟩ := Trips.at_ h hlt
    obtain ⟨b', o', y, rfl, hy, hc0', hc1', hc2', hi'⟩ := Trips.at_ h1 hlt
    have hd := drop_at hx.out
    have hd' := drop_at hy.out
    clear hi hi'
    by_cases hxy : x = y
    ·have HF2 : Hid (l.drop (k + 1) = r.drop (k + 1) ↔ l = r) := by rw [← HF.out, hd, hd', hxy]; show _ ↔ _; simp
     have hb : decide (x = y) = true := by simpa using hxy
     clear hxy hd hd'
     go_wp2_with fail
     go_still_tail 8, (by kernel_rfl)
     change wpList _ _ _ _ _ wr.drew
     go_wp2_with fail
     refine (laws_eqTrip _ _ _).mono ?_
     rintro e w2 ⟨rfl, hL⟩
     have hY := Later.trans (w := w) inferInstance hL
     go_wp2
     go_roundw
     case rel => exact ⟨k + 1, by omega, by go_num, HF2, inferInstance⟩
     case measure => simp [intOf]; omega
    ·have HF2 : Hid (l ≠ r) := by rw [hd, hd'] at HF; intro e; have := HF.out.2 e; simp at this; exact hxy this.1
     have hb : decide (x = y) = false := by simpa using hxy
     clear hxy hd hd'
     go_wp2_with fail
     go_still_tail 8, (by kernel_rfl)
     change wpList _ _ _ _ _ wr.drew
     go_wp2_with fail
     refine (laws_eqTrip _ _ _).mono ?_
     rintro e w2 ⟨rfl, hL⟩
     have hY := Later.trans (w := w) inferInstance hL
     go_wp2
     go_ret
     exact ⟨ret_bool (by rw [decide_eq_false HF2.out]), inferInstance⟩
   ·have H2 : Hid (l = r) := by
     rw [List.drop_eq_nil_of_le (by have := h.len; omega), List.drop_eq_nil_of_le (by have := h1.len; omega)] at HF
     exact HF.out.1 rfl
    go_wp2
    go_ret
    exact ⟨ret_bool (by rw [decide_eq_true H2.out]), inferInstance⟩
 ·have H2 : Hid (l ≠ r) := by intro e; apply hnm; rw [h.len, h1.len, e]
  have hb : ((n : Int) != m) = true := by rw [bne_iff_ne]; omega
  clear hnm
  go_enter Tryz.func36, Tryz.ntmps36
  go_wp2
  go_ret
  exact ⟨ret_bool (by rw [decide_eq_false H2.out]), inferInstance⟩
def mkTrips (k : Int) (n : Nat) : List Trip := (List.range n).map fun (i : Nat) => ⟨k + 3 * (i : Int), k + 3 * (i : Int) + 1, k + 3 * (i : Int) + 2⟩
theorem mkTrips_len (k : Int) (n : Nat) : (mkTrips k n).length = n := by simp [mkTrips]
theorem mkTrips_at {k : Int} {n j : Nat} {x : Trip} (h : (mkTrips k n)[j]? = some x) : j < n ∧ x = ⟨k + 3 * (j : Int), k + 3 * (j : Int) + 1, k + 3 * (j : Int) + 2⟩ := by
 unfold mkTrips at h
 rw [List.getElem?_map] at h
 by_cases hj : j < n
 ·rw [List.getElem?_range hj] at h; simp only [Option.map_some, Option.some.injEq] at h; exact ⟨hj, h.symm⟩
 ·rw [List.getElem?_eq_none (by simpa using hj)] at h; simp at h
theorem laws_markTripS {w : World} {A : Option Addr} {n c : Nat} {l : List Trip} {fp : List Nat} {k0 : Int} (h : OSl 3 (oFlat rTrip) w A n c l fp) (h0 : 0 ≤ k0) (h1 : k0 + 3 * n ≤ 4611686018427387904) :
  Calls Tryz.prog 44 #[.slice A n c, .int .i64 k0] w (RetMk (k0 + 3 * n) fp (fun w' => OSl 3 (oFlat rTrip) w' A n c (mkTrips k0 n) fp) w) := by
 have hn : n ≤ 9223372036854775807 := Nat.le_trans h.cap h.max
 have Hh := Lib.hid h
 rcases h.own with ⟨rfl, rfl⟩ | ⟨g, o, t, cs0, fps, rfl, hB0, rfl, hfl, hel⟩
 ·obtain rfl : n = 0 := Hh.out.len
  clear h
  go_enter Tryz.func44, Tryz.ntmps44
  go_wp2
  go_loop [1, 5] (fun q i => i = .int .i64 0 ∧ q = .int .i64 k0) (fun q i => 0)
  case atStart => exact ⟨rfl, rfl⟩
  case round =>
   obtain ⟨rfl, rfl⟩ := hrel
   go_wp2
   go_ret
   exact ⟨ret_int (by simp), Touch.refl_, by simpa [mkTrips] using Hh.out⟩
 ·have hlen := Lib.hid h.len
  have HC : Hid (∀ j t, j < n → t < 3 → ∃ v, cs0[o + j * 3 + t]? = some v) := fun j t hj ht => by
   obtain ⟨es, f, _, he, hc, _⟩ := hel j l[j]?.get! (by rw [List.getElem?_eq_getElem (by have := hlen.out; omega)]; rfl)
   exact ⟨es[t], hc t _ (List.getElem?_eq_getElem (by omega))⟩
  have HE : Hid (∀ (k : Nat) (x : Trip), l[k]? = some x → fps[k]? = some []) := fun k x hx => by
   obtain ⟨es, f, hf, _, _, hr⟩ := hel k x hx
   rw [hf, hr.2]
  have HB0 := Lib.hid hB0
  have Hfl := Lib.hid hfl
  clear h hel hB0 hfl
  go_enter Tryz.func44, Tryz.ntmps44
  go_wp2
  go_loopw [1, 5] (fun q i wr => ∃ (k : Nat) (cs : Array Value), k ≤ n ∧ i = .int .i64 k ∧ q = .int .i64 (k0 + 3 * k) ∧ Blk wr g t cs ∧ cs.size = cs0.size ∧ (∀ j : Nat, j < k → cs[o + j * 3]? = some (.int .i64 (k0 + 3 * (j : Int))) ∧ cs[o + j * 3 + 1]? = some (.int .i64 (k0 + 3 * (j : Int) + 1)) ∧ cs[o + j * 3 + 2]? = some (.int .i64 (k0 + 3 * (j : Int) + 2))) ∧ Touch (g :: fps.flatten) w wr) (fun _ i _ => n - (intOf i).toNat)
  case atStart => exact ⟨0, cs0, by omega, rfl, by simp, HB0.out, rfl, fun j hj => by omega, Touch.refl_⟩
  case round =>
   obtain ⟨k, cs, hk, rfl, rfl, hB, hsz, hcs, hX⟩ := hrel
   have HB := Lib.hid hB
   have HS := Lib.hid hcs
   have Hsz := Lib.hid hsz
   by_cases hlt : k < n
   ·have hok : o + k * 3 + 2 < cs.size := by
     obtain ⟨v, hv⟩ := HC.out k 2 hlt (by omega)
     have := (Array.getElem?_eq_some_iff.1 hv).1
     have := Hsz.out
     omega
    obtain ⟨v0, hv0⟩ := hB.get (i := o + k * 3) (by omega)
    obtain ⟨v1, hv1⟩ := hB.get (i := o + k * 3 + 1) (by omega)
    obtain ⟨v2, hv2⟩ := hB.get (i := o + k * 3 + 2) (by omega)
    have hf0 := hB.frozen (o + k * 3)
    have hf1 := hB.frozen (o + k * 3 + 1)
    have hf2 := hB.frozen (o + k * 3 + 2)
    clear hB hcs hsz
    go_wp2
    go_roundw
    case rel =>
     refine ⟨k + 1, (((cs.setIfInBounds (o + k * 3) (.int .i64 (k0 + 3 * k))).setIfInBounds (o + k * 3 + 1) (.int .i64 (k0 + 3 * k + 1))).setIfInBounds (o + k * 3 + 2) (.int .i64 (k0 + 3 * k + 2))), by omega, by go_num, by go_num, ?_, by have := Hsz.out; simpa using this, fun j hj => ?_, ?_⟩
     ·first | (rw [show (k0 + 3 * (k : Int) + 2) = k0 + 3 * (k : Int) + 1 + 1 from by omega]; exact (((HB.out.set_ _ _).set_ _ _).set_ _ _)) | exact (((HB.out.set_ _ _).set_ _ _).set_ _ _)
     ·by_cases e : j = k
      ·subst e
       exact ⟨by rw [set_ne _ (by omega), set_ne _ (by omega), set_eq _ (by (try simp only [Array.size_setIfInBounds]); omega)], by rw [set_ne _ (by omega), set_eq _ (by (try simp only [Array.size_setIfInBounds]); omega)], by rw [set_eq _ (by (try simp only [Array.size_setIfInBounds]); omega)]⟩
      ·have h3 := HS.out j (by omega)
       exact ⟨by rw [set_ne _ (by omega), set_ne _ (by omega), set_ne _ (by omega)]; exact h3.1, by rw [set_ne _ (by omega), set_ne _ (by omega), set_ne _ (by omega)]; exact h3.2.1, by rw [set_ne _ (by omega), set_ne _ (by omega), set_ne _ (by omega)]; exact h3.2.2⟩
     ·exact (((hX.set_ (by simp) _ _).set_ (by simp) _ _).set_ (by simp) _ _)
    case measure => simp [intOf]; omega
   ·have hkn : k = n := by omega
    clear hB hcs hsz
    go_wp2
    go_ret
    subst hkn
    refine ⟨rfl, hX, ⟨by rw [mkTrips_len], Hh.out.cap, Hh.out.max, .inr ⟨g, o, t, cs, fps, rfl, HB.out, rfl, by rw [mkTrips_len, Hfl.out, hlen.out], fun j x hx => ?_⟩⟩⟩
    obtain ⟨hj, rfl⟩ := mkTrips_at hx
    have h3 := HS.out j hj
    refine ⟨[.int .i64 (k0 + 3 * (j : Int)), .int .i64 (k0 + 3 * (j : Int) + 1), .int .i64 (k0 + 3 * (j : Int) + 2)], [], HE.out j l[j]?.get! (by rw [List.getElem?_eq_getElem (by have := hlen.out; omega)]; rfl), rfl, fun j' v hv => ?_, fun _ => ⟨rfl, ⟨by unfold I64; simp only; omega, by unfold I64; simp only; omega, by unfold I64; simp only; omega⟩⟩, rfl⟩
    match j', hv with
    | 0, hv => simp at hv; subst hv; simpa [Nat.add_assoc] using h3.1
    | 1, hv => simp at hv; subst hv; simpa [Nat.add_assoc] using h3.2.1
    | 2, hv => simp at hv; subst hv; simpa [Nat.add_assoc] using h3.2.2
end Go.Proofs.YtknhebakebmlcaaGreat
namespace Go.Proofs.YtknhebakebmlcaaGreat
open Go Go.RowKit
set_option linter.unusedVariables false
set_option maxRecDepth 100000
def totTimetable (t : Timetable) : Nat := (totNetwork t.Network) + t.Trips.length
theorem laws_szTimetable {w0 w : World} {sA0 : Option Addr} {sn0 sc0 : Nat} {sA1 : Option Addr} {sn1 sc1 : Nat} {sA2 : Option Addr} {sn2 sc2 : Nat} {t : Timetable} {left : Int} (h : TimetableAt w0 sA0 sn0 sc0 sA1 sn1 sc1 sA2 sn2 sc2 t) (hl : Later w0 w) (h0 : 0 ≤ left) (h1 : left ≤ 1048576) :
  Calls Tryz.prog 5 #[.agg #[.slice sA0 sn0 sc0, .slice sA1 sn1 sc1, .slice sA2 sn2 sc2], .int .i64 left] w (RetSz (totTimetable t) left w) := by
 replace h := h.later hl
 have HB0 : ∀ W [Later (w.alloc (.cells #[.slice sA0 sn0 sc0, .slice sA1 sn1 sc1, .slice sA2 sn2 sc2] 28)) W] (j : Nat), W.cell? ⟨w.heap.size, j, none⟩ = #[.slice sA0 sn0 sc0, .slice sA1 sn1 sc1, .slice sA2 sn2 sc2][j]? := Later.boxes (t := 28) (fr := (0, 0)) (heap_new (by simp; try omega))
 go_enter Tryz.func5, Tryz.ntmps5
 go_wp2_with fail
 refine (laws_szNetwork ⟨h.l_Network_Stops, h.l_Network_Lines⟩ inferInstance h0 h1).mono ?_
 rintro e w0 ⟨r0, rfl, hr0, hL0⟩
 have hX0 := Later.trans (w := (w.alloc (.cells #[.slice sA0 sn0 sc0, .slice sA1 sn1 sc1, .slice sA2 sn2 sc2] 28))) inferInstance hL0
 have hU0 := Later.trans (w := w) inferInstance hX0
 rcases hr0 with hr0 | ⟨hp0, hq0⟩
 ·go_wp2
  go_ret
  exact ⟨_, rfl, .inl (by omega), inferInstance⟩
 have hb0 : r0 ≤ 1048576 := by omega
 have HQ0 := Lib.hid hq0
 clear hq0
 go_wp2_with fail
 refine (laws_szTripS h.l_Trips hp0 hb0).mono ?_
 rintro e w1 ⟨r1, rfl, hr1, hL1⟩
 have hX1 := Later.trans (w := (w.alloc (.cells #[.slice sA0 sn0 sc0, .slice sA1 sn1 sc1, .slice sA2 sn2 sc2] 28))) inferInstance hL1
 have hU1 := Later.trans (w := w) inferInstance hX1
 rcases hr1 with hr1 | ⟨hp1, hq1⟩
 ·go_wp2
  go_ret
  exact ⟨_, rfl, .inl (by omega), inferInstance⟩
 have hb1 : r1 ≤ 1048576 := by omega
 have HQ1 := Lib.hid hq1
 clear hq1
 go_wp2_with fail
 go_ret
 exact ⟨_, rfl, .inr ⟨hp1, by have := HQ0.out; have := HQ1.out; unfold totTimetable; omega⟩, inferInstance⟩
theorem laws_toTimetable {w0 w : World} {sA0 : Option Addr} {sn0 sc0 : Nat} {sA1 : Option Addr} {sn1 sc1 : Nat} {sA2 : Option Addr} {sn2 sc2 : Nat} {t : Timetable} (h : TimetableAt w0 sA0 sn0 sc0 sA1 sn1 sc1 sA2 sn2 sc2 t) (hl : Later w0 w) (hn : totTimetable t ≤ 1048576) :
  Calls Tryz.prog 9 #[.agg #[.slice sA0 sn0 sc0, .slice sA1 sn1 sc1, .slice sA2 sn2 sc2]] w (RetOTimetable t w) := by
 replace h := h.later hl
 have HB0 : ∀ W [Later (w.alloc (.cells #[.slice sA0 sn0 sc0, .slice sA1 sn1 sc1, .slice sA2 sn2 sc2] 28)) W] (j : Nat), W.cell? ⟨w.heap.size, j, none⟩ = #[.slice sA0 sn0 sc0, .slice sA1 sn1 sc1, .slice sA2 sn2 sc2][j]? := Later.boxes (t := 28) (fr := (0, 0)) (heap_new (by simp; try omega))
 unfold totTimetable at hn
 have HB : Blk (((w.alloc (.cells #[.slice sA0 sn0 sc0, .slice sA1 sn1 sc1, .slice sA2 sn2 sc2] 28)).alloc (.cells #[.slice none 0 0, .slice none 0 0, .slice none 0 0] 44)).alloc (.cells #[.slice none 0 0, .slice none 0 0, .slice none 0 0] 44)) (w.heap.size + 1 + 1) 44 #[.slice none 0 0, .slice none 0 0, .slice none 0 0] := heap_new (by simp; try omega)
 go_enter Tryz.func9, Tryz.ntmps9
 have HR : Blk (((w.alloc (.cells #[.slice sA0 sn0 sc0, .slice sA1 sn1 sc1, .slice sA2 sn2 sc2] 28)).alloc (.cells #[.slice none 0 0, .slice none 0 0, .slice none 0 0] 44)).alloc (.cells #[.slice none 0 0, .slice none 0 0, .slice none 0 0] 44)) (w.heap.size + 1) 44 #[.slice none 0 0, .slice none 0 0, .slice none 0 0] := (heap_old (by simp; try omega)).trans (heap_new (by simp; try omega))
 have hZ : w.heap.size + 3 ≤ (((w.alloc (.cells #[.slice sA0 sn0 sc0, .slice sA1 sn1 sc1, .slice sA2 sn2 sc2] 28)).alloc (.cells #[.slice none 0 0, .slice none 0 0, .slice none 0 0] 44)).alloc (.cells #[.slice none 0 0, .slice none 0 0, .slice none 0 0] 44)).heap.size := by simp; try omega
 go_wp2_with fail
 refine (laws_toNetwork ⟨h.l_Network_Stops, h.l_Network_Lines⟩ inferInstance (by omega)).mono ?_
 rintro e w0 ⟨A0_0, n0_0, c0_0, A0_1, n0_1, c0_1, f0_0, f0_1, rfl, o0, nd0, lo0, hL0⟩
 have hX0 := Later.trans (w := (w.alloc (.cells #[.slice sA0 sn0 sc0, .slice sA1 sn1 sc1, .slice sA2 sn2 sc2] 28))) inferInstance hL0
 have hU0 := Later.trans (w := w) inferInstance hX0
 replace HB : Blk w0 (w.heap.size + 1 + 1) 44 #[.slice none 0 0, .slice none 0 0, .slice none 0 0] := HB.later hL0
 replace HR : Blk w0 (w.heap.size + 1) 44 #[.slice none 0 0, .slice none 0 0, .slice none 0 0] := HR.later hL0
 have hn0 : (w.heap.size + 1 + 1) ∉ (f0_0 ++ f0_1) := fun hh => by have := lo0 _ hh; simp at this; omega
 have hm0 : (w.heap.size + 1) ∉ (f0_0 ++ f0_1) := fun hh => by have := lo0 _ hh; simp at this; omega
 have lq0 : ∀ g, g ∈ (f0_0 ++ f0_1) → w.heap.size ≤ g := fun g hh => by have := lo0 _ hh; simp at this; omega
 obtain ⟨N0, hN0⟩ : ∃ N, N = w0.heap.size := ⟨_, rfl⟩
 have lt0 : ∀ g, g ∈ (f0_0 ++ f0_1) → g < N0 := fun g hh => by rw [hN0]; exact o0.lt g hh
 replace hZ : w.heap.size + 3 ≤ w0.heap.size := by have := hL0.size; simp at this; omega
 have hc0 := fun j => HB.cell j
 have hf0 := fun j => HB.frozen j
 go_wp2_with fail
 refine (laws_toTripS h.l_Trips inferInstance (by have := h.l_Trips.len; omega)).mono ?_
 rintro e w1 ⟨A1, n1, c1, f1, rfl, o1, nd1, lo1, hL1⟩
 have hX1 := Later.trans (w := (w.alloc (.cells #[.slice sA0 sn0 sc0, .slice sA1 sn1 sc1, .slice sA2 sn2 sc2] 28))) inferInstance hL1
 have hU1 := Later.trans (w := w) inferInstance hX1
 replace HB : Blk w1 (w.heap.size + 1 + 1) 44 #[.slice A0_0 n0_0 c0_0, .slice A0_1 n0_1 c0_1, .slice none 0 0] := ((HB.set_ 0 _).set_ 1 _).later hL1
 replace HR : Blk w1 (w.heap.size + 1) 44 #[.slice none 0 0, .slice none 0 0, .slice none 0 0] := ((HR.far (by simp) _).far (by simp) _).later hL1
 replace o0 := ((o0.setc hn0 _ _).setc hn0 _ _).later hL1
 have hn1 : (w.heap.size + 1 + 1) ∉ f1 := fun hh => by have := lo1 _ hh; simp at this; omega
 have hm1 : (w.heap.size + 1) ∉ f1 := fun hh => by have := lo1 _ hh; simp at this; omega
 have lq1 : ∀ g, g ∈ f1 → w.heap.size ≤ g := fun g hh => by have := lo1 _ hh; simp at this; omega
 have lr1 : ∀ g, g ∈ f1 → N0 ≤ g := fun g hh => by have := lo1 _ hh; simp at this; omega
 obtain ⟨N1, hN1⟩ : ∃ N, N = w1.heap.size := ⟨_, rfl⟩
 have lt1 : ∀ g, g ∈ f1 → g < N1 := fun g hh => by rw [hN1]; exact o1.lt g hh
 replace hZ : w.heap.size + 3 ≤ w1.heap.size := by have := hL1.size; simp at this; omega
 have hc1 := fun j => HB.cell j
 have hf1 := fun j => HB.frozen j
 clear lo0
 clear lo1
 have hcr := fun j => HR.cell j
 have hfr := fun j => HR.frozen j
 go_wp2
 have hr0 := (((HR.far (p := ⟨w.heap.size + 1 + 1, 2, none⟩) (by simp) (.slice A1 n1 c1)).set_ 0 (.slice A0_0 n0_0 c0_0)).cell 0).trans (show _ = some (.slice A0_0 n0_0 c0_0 : Value) from rfl)
 have hr1 := ((((HR.far (p := ⟨w.heap.size + 1 + 1, 2, none⟩) (by simp) (.slice A1 n1 c1)).set_ 0 (.slice A0_0 n0_0 c0_0)).set_ 1 (.slice A0_1 n0_1 c0_1)).cell 1).trans (show _ = some (.slice A0_1 n0_1 c0_1 : Value) from rfl)
 have hr2 := (((((HR.far (p := ⟨w.heap.size + 1 + 1, 2, none⟩) (by simp) (.slice A1 n1 c1)).set_ 0 (.slice A0_0 n0_0 c0_0)).set_ 1 (.slice A0_1 n0_1 c0_1)).set_ 2 (.slice A1 n1 c1)).cell 2).trans (show _ = some (.slice A1 n1 c1 : Value) from rfl)
 refine bodyPost_ret (v := .agg #[.slice A0_0 n0_0 c0_0, .slice A0_1 n0_1 c0_1, .slice A1 n1 c1]) (by simp [results, Tryz.results9, go_sem, hr0, hr1, hr2]) rfl ?_
 exact ⟨A0_0, n0_0, c0_0, A0_1, n0_1, c0_1, A1, n1, c1, f0_0, f0_1, f1, rfl, ⟨((((o0.setc hn0 _ _).setc hm0 _ _).setc hm0 _ _).setc hm0 _ _).l_Stops, ((((o0.setc hn0 _ _).setc hm0 _ _).setc hm0 _ _).setc hm0 _ _).l_Lines, ((((o1.setc hn1 _ _).setc hm1 _ _).setc hm1 _ _).setc hm1 _ _)⟩, by rw [← List.append_assoc]; exact nodup_app nd0 nd1 lt0 lr1, fun g hg => by rw [← List.append_assoc] at hg; rcases List.mem_append.1 hg with hg | hg; exact lq0 g hg; exact lq1 g hg, inferInstance⟩
theorem laws_eqTimetable {w0 w1 w : World} {sA0 : Option Addr} {sn0 sc0 : Nat} {sA1 : Option Addr} {sn1 sc1 : Nat} {sA2 : Option Addr} {sn2 sc2 : Nat} {qA0 : Option Addr} {qn0 qc0 : Nat} {qA1 : Option Addr} {qn1 qc1 : Nat} {qA2 : Option Addr} {qn2 qc2 : Nat} {a b : Timetable} (ha : TimetableAt w0 sA0 sn0 sc0 sA1 sn1 sc1 sA2 sn2 sc2 a) (hla : Later w0 w) (hb : TimetableAt w1 qA0 qn0 qc0 qA1 qn1 qc1 qA2 qn2 qc2 b) (hlb : Later w1 w) :
  Calls Tryz.prog 14 #[.agg #[.slice sA0 sn0 sc0, .slice sA1 sn1 sc1, .slice sA2 sn2 sc2], .agg #[.slice qA0 qn0 qc0, .slice qA1 qn1 qc1, .slice qA2 qn2 qc2]] w (Ret (.bool (decide (a = b))) w) := by
 replace ha := ha.later hla
 replace hb := hb.later hlb
 have HB0 : ∀ W [Later ((w.alloc (.cells #[.slice sA0 sn0 sc0, .slice sA1 sn1 sc1, .slice sA2 sn2 sc2] 44)).alloc (.cells #[.slice qA0 qn0 qc0, .slice qA1 qn1 qc1, .slice qA2 qn2 qc2] 44)) W] (j : Nat), W.cell? ⟨w.heap.size, j, none⟩ = #[.slice sA0 sn0 sc0, .slice sA1 sn1 sc1, .slice sA2 sn2 sc2][j]? := Later.boxes (t := 44) (fr := (0, 0)) ((heap_old (by simp; try omega)).trans (heap_new (by simp; try omega))); have HB1 : ∀ W [Later ((w.alloc (.cells #[.slice sA0 sn0 sc0, .slice sA1 sn1 sc1, .slice sA2 sn2 sc2] 44)).alloc (.cells #[.slice qA0 qn0 qc0, .slice qA1 qn1 qc1, .slice qA2 qn2 qc2] 44)) W] (j : Nat), W.cell? ⟨w.heap.size + 1, j, none⟩ = #[.slice qA0 qn0 qc0, .slice qA1 qn1 qc1, .slice qA2 qn2 qc2][j]? := Later.boxes (t := 44) (fr := (0, 0)) (heap_new (by simp; try omega))
 go_enter Tryz.func14, Tryz.ntmps14
 go_wp2_with fail
 refine (laws_eqNetwork ⟨ha.l_Network_Stops, ha.l_Network_Lines⟩ inferInstance ⟨hb.l_Network_Stops, hb.l_Network_Lines⟩ inferInstance).mono ?_
 rintro e w2 ⟨rfl, hL0⟩
 have hX0 := Later.trans (w := ((w.alloc (.cells #[.slice sA0 sn0 sc0, .slice sA1 sn1 sc1, .slice sA2 sn2 sc2] 44)).alloc (.cells #[.slice qA0 qn0 qc0, .slice qA1 qn1 qc1, .slice qA2 qn2 qc2] 44))) inferInstance hL0
 have hU0 := Later.trans (w := w) inferInstance hX0
 by_cases q0 : a.Network = b.Network
 rotate_left
 ·have hd0 : decide (a.Network = b.Network) = false := decide_eq_false q0
  have HN : Hid (a ≠ b) := fun e => q0 (by rw [e])
  clear q0
  go_wp2
  go_ret
  exact ⟨ret_bool (decide_eq_false HN.out).symm, inferInstance⟩
 have hd0 : decide (a.Network = b.Network) = true := decide_eq_true q0
 have HQ0 := Lib.hid q0
 clear q0
 go_wp2_with fail
 refine (laws_eqTripS ha.l_Trips inferInstance hb.l_Trips inferInstance).mono ?_
 rintro e w3 ⟨rfl, hL1⟩
 have hX1 := Later.trans (w := ((w.alloc (.cells #[.slice sA0 sn0 sc0, .slice sA1 sn1 sc1, .slice sA2 sn2 sc2] 44)).alloc (.cells #[.slice qA0 qn0 qc0, .slice qA1 qn1 qc1, .slice qA2 qn2 qc2] 44))) inferInstance hL1
 have hU1 := Later.trans (w := w) inferInstance hX1
 by_cases q1 : a.Trips = b.Trips
 rotate_left
 ·have hd1 : decide (a.Trips = b.Trips) = false := decide_eq_false q1
  have HN : Hid (a ≠ b) := fun e => q1 (by rw [e])
  clear q1
  go_wp2
  go_ret
  exact ⟨ret_bool (decide_eq_false HN.out).symm, inferInstance⟩
 have hd1 : decide (a.Trips = b.Trips) = true := decide_eq_true q1
 have HQ1 := Lib.hid q1
 clear q1
 go_wp2
 go_ret
 refine ⟨ret_bool (decide_eq_true ?_).symm, inferInstance⟩
 have e0 := HQ0.out
 have e1 := HQ1.out
 cases a; cases b; simp_all
def cntTimetable (t : Timetable) : Nat := (cntNetwork t.Network) + (3 * t.Trips.length)
theorem laws_markTimetable {w : World} {sA0 : Option Addr} {sn0 sc0 : Nat} {sA1 : Option Addr} {sn1 sc1 : Nat} {sA2 : Option Addr} {sn2 sc2 : Nat} {t : Timetable} {sf0 sf1 sf2 : List Nat} {k0 : Int} (h : TimetableOw w sA0 sn0 sc0 sA1 sn1 sc1 sA2 sn2 sc2 t sf0 sf1 sf2) (hnd : (sf0 ++ (sf1 ++ sf2)).Nodup) (h0 : 0 ≤ k0) (h1 : k0 + cntTimetable t ≤ 4611686018427387904) :
  Calls Tryz.prog 20 #[.agg #[.slice sA0 sn0 sc0, .slice sA1 sn1 sc1, .slice sA2 sn2 sc2], .int .i64 k0] w (RetMk (k0 + cntTimetable t) (sf0 ++ (sf1 ++ sf2)) (fun w' => True) w) := by
 unfold cntTimetable at h1
 obtain rfl := h.l_Trips.len
 have hlt := h.lt
 have HB : Blk (w.alloc (.cells #[.slice sA0 sn0 sc0, .slice sA1 sn1 sc1, .slice sA2 t.Trips.length sc2] 44)) w.heap.size 44 #[.slice sA0 sn0 sc0, .slice sA1 sn1 sc1, .slice sA2 t.Trips.length sc2] := heap_new rfl
 have hT : Touch (sf0 ++ (sf1 ++ sf2)) w (w.alloc (.cells #[.slice sA0 sn0 sc0, .slice sA1 sn1 sc1, .slice sA2 t.Trips.length sc2] 44)) := Touch.of_later inferInstance
 have hB_Network : w.heap.size ∉ sf0 ++ sf1 := fun hh => Nat.lt_irrefl _ (hlt _ (by rw [← List.append_assoc]; exact List.mem_append_left _ hh))
 have hB_Trips : w.heap.size ∉ sf2 := fun hh => Nat.lt_irrefl _ (hlt _ (List.mem_append_right _ (List.mem_append_right _ hh)))
 obtain ⟨nd0, nd1, dj⟩ := List.nodup_append.1 (show ((sf0 ++ sf1) ++ sf2).Nodup by simpa using hnd)
 have o0 := ((⟨h.l_Network_Stops, h.l_Network_Lines⟩ : NetworkOw w sA0 sn0 sc0 sA1 sn1 sc1 t.Network sf0 sf1)).later (inferInstance : Later w (w.alloc (.cells #[.slice sA0 sn0 sc0, .slice sA1 sn1 sc1, .slice sA2 t.Trips.length sc2] 44)))
 have o1 := (h.l_Trips).later (inferInstance : Later w (w.alloc (.cells #[.slice sA0 sn0 sc0, .slice sA1 sn1 sc1, .slice sA2 t.Trips.length sc2] 44)))
 go_enter Tryz.func20, Tryz.ntmps20
 have hc0 := fun j => HB.cell j
 go_wp2_with fail
 refine (laws_markNetwork o0 nd0 h0 (by omega)).mono ?_
 rintro e w0 ⟨rfl, T0, p0⟩
 replace HB := T0.blk HB hB_Network
 replace hT := hT.trans (T0.mono (fun g hg => (by rw [← List.append_assoc]; exact List.mem_append_left _ hg)))
 replace o1 := o1.touch T0 (fun g hg hh => dj g hh g hg rfl)
 have hc1 := fun j => HB.cell j
 go_wp2_with fail
 refine (laws_markTripS o1 (by omega) (by omega)).mono ?_
 rintro e w1 ⟨rfl, T1, p1⟩
 replace HB := T1.blk HB hB_Trips
 replace hT := hT.trans (T1.mono (fun g hg => (List.mem_append_right _ (List.mem_append_right _ hg))))
 go_wp2
 go_ret
 exact ⟨ret_int (by unfold cntTimetable; omega), hT, trivial⟩
end Go.Proofs.YtknhebakebmlcaaGreat
namespace Go.Proofs.YtknhebakebmlcaaGreat
open Go Go.RowKit
set_option linter.unusedVariables false
set_option maxRecDepth 100000
def sumLen : List (List Int) → Nat
 | [] => 0
 | x :: l => x.length + sumLen l
def totRows (l : List (List Int)) : Nat := l.length + sumLen l
theorem sumLen_drop {l : List (List Int)} {k : Nat} {x : List Int} (h : l[k]? = some x) : sumLen (l.drop k) = x.length + sumLen (l.drop (k + 1)) := by rw [drop_at h]; rfl
theorem sumLen_append (a b : List (List Int)) : sumLen (a ++ b) = sumLen a + sumLen b := by
 induction a with
 | nil => simp [sumLen]
 | cons x a ih => simp only [List.cons_append, sumLen, ih]; omega
theorem len_le_sumLen {l : List (List Int)} {k : Nat} {x : List Int} (h : l[k]? = some x) : x.length ≤ sumLen l := by
 have h1 : sumLen l = sumLen (l.take k) + sumLen (l.drop k) := by rw [← sumLen_append, List.take_append_drop]
 rw [sumLen_drop h] at h1
 omega
abbrev oRows : ORep (List Int) := oSl 1 oInt
theorem info_ints : (Tryz.prog.info? 66).map (fun i => (i.zero, i.size, i.bytes)) = some (some (.slice none 0 0), 1, 24) := by kernel_rfl
theorem laws_toIntSS {w0 w : World} {A : Option Addr} {n c : Nat} {l : List (List Int)} (h : Rows w0 A n c l) (hl : Later w0 w) (hn : totRows l ≤ 1048576) :
  Calls Tryz.prog 11 #[.slice A n c] w (RetO 1 oRows l w) := by
 have hn0 : n ≤ 1048576 := by have := h.len; unfold totRows at hn; omega
 obtain ⟨C0, hC0, hmk⟩ := make_row (P := Tryz.prog) 29 66 Tryz.underlying29 info_ints n (by omega) (by omega)
 replace h := h.later hl
 go_enter Tryz.func11, Tryz.ntmps11
 go_wp2
 go_loopw [4] (fun i wr => ∃ (k : Nat) (cs : Array Value) (fps : List (List Nat)), k ≤ n ∧ i = .int .i64 k ∧ Built 1 oRows w wr w.heap.size 66 l n k cs fps ∧ Later w wr) (fun i _ => n - (intOf i).toNat)
 case atStart => exact ⟨0, C0, [], by omega, rfl, Built.start (Blk.new _ _ _) hC0 (Nat.le_refl _), inferInstance⟩
 case round =>
  obtain ⟨k, cs, fps, hk, rfl, hB, hX⟩ := hrel
  by_cases hlt : k < n
  ·obtain ⟨b, o, A1, n1, c1, x, rfl, hx, hc, hi⟩ := Sl.row_ h hlt
   have hn1 : n1 ≤ 1048576 := by have := len_le_sumLen hx.out; have := hi.len; unfold totRows at hn; omega
   go_wp2_with fail
   refine (laws_toIntS hi hX hn1).mono ?_
   rintro e w1 ⟨A2, n2, c2, f, rfl, ho, hnd, hlo, hL⟩
   have hY : Later w w1 := hX.trans hL
   have hB1 := Lib.hid (hB.blk.later hL)
   obtain ⟨v0, hv0⟩ := hB1.out.get (i := k) (by have := hB.size; omega)
   have hf0 := hB1.out.frozen k
   go_wp2
   go_roundw
   case rel =>
    have hs := hB.size
    exact ⟨k + 1, cs.setIfInBounds k (.slice A2 n2 c2), fps ++ [f], by omega, by go_num, hB.step hL hx.out ⟨A2, n2, c2, rfl, ho⟩ hnd hlo (Touch.set_one _ _ _ _) hX (hB1.out.set_ k _) (by simpa using hs) rfl
     (fun i hi => set_ne _ (by omega)) (fun i v hv => by
      match i, hv with
      | 0, hv => simp at hv; subst hv; simpa using set_eq _ (by omega)), inferInstance⟩
   case measure => simp [intOf]; omega
  ·go_wp2
   go_ret
   have hkn : k = n := by omega
   exact ⟨_, _, _, _, rfl, hB.done hkn h.len (by omega), hB.nodup, hB.lo, inferInstance⟩
theorem laws_szIntSS {w0 w : World} {A : Option Addr} {n c : Nat} {l : List (List Int)} {left : Int} (h : Rows w0 A n c l) (hl : Later w0 w) (h0 : 0 ≤ left) (h1 : left ≤ 1048576) :
  Calls Tryz.prog 7 #[.slice A n c, .int .i64 left] w (RetSz (totRows l) left w) := by
 replace h := h.later hl
 have hn := h.le
 have hl := Lib.hid h.len
 go_enter Tryz.func7, Tryz.ntmps7
 go_wp2_with fail
 ·go_ret
  exact ⟨_, rfl, .inl (by omega), inferInstance⟩
 go_loopw [5, 1] (fun i q wr => ∃ (k : Nat) (r : Int), k ≤ n ∧ i = .int .i64 k ∧ q = .int .i64 r ∧ 0 ≤ r ∧ r ≤ 1048576 ∧ Hid (r - sumLen (l.drop k) = left - totRows l) ∧ Later w wr) (fun i _ _ => n - (intOf i).toNat)
 case atStart => exact ⟨0, left - n, by omega, rfl, rfl, by omega, by omega, by unfold totRows; rw [← hl.out]; show _ = _; simp only [List.drop_zero]; omega, inferInstance⟩
 case round =>
  obtain ⟨k, r, hk, rfl, rfl, hr0, hr1, HF, hX⟩ := hrel
  by_cases hlt : k < n
  ·obtain ⟨b, o, A1, n1, c1, x, rfl, hx, hc, hi⟩ := Sl.row_ h hlt
   have hd := Lib.hid (sumLen_drop hx.out)
   have HI := Lib.hid hi
   clear hi
   go_wp2_with fail
   refine (laws_szIntS HI.out hr0 hr1).mono ?_
   rintro e w1 ⟨r1, rfl, hr2, hL⟩
   have hY : Later w w1 := hX.trans hL
   rcases hr2 with hr2 | ⟨hr3, hr4⟩
   ·go_wp2
    go_ret
    exact ⟨_, rfl, .inl (by omega), inferInstance⟩
   ·have HF2 : Hid (r1 - sumLen (l.drop (k + 1)) = left - totRows l) := by have := HF.out; have := hd.out; show _ = _; omega
    have hr5 : r1 ≤ 1048576 := by omega
    clear hr4
    go_wp2
    go_roundw
    case rel => exact ⟨k + 1, r1, by omega, by go_num, rfl, hr3, hr5, HF2, inferInstance⟩
    case measure => simp [intOf]; omega
  ·have HF2 := HF.out
   have hkn : k = n := by omega
   rw [List.drop_eq_nil_of_le (by have := hl.out; omega)] at HF2
   have HF3 : Hid (r + totRows l = left) := by show _ = _; simp only [sumLen] at HF2; omega
   clear HF2
   go_wp2
   go_ret
   exact ⟨_, rfl, .inr ⟨hr0, HF3.out⟩, inferInstance⟩
theorem laws_eqIntSS {w0 w1 w : World} {A B : Option Addr} {n c m d : Nat} {l r : List (List Int)} (h : Rows w0 A n c l) (hl : Later w0 w) (h1 : Rows w1 B m d r) (hl1 : Later w1 w) :
  Calls Tryz.prog 16 #[.slice A n c, .slice B m d] w (Ret (.bool (decide (l = r))) w) := by
 replace h := h.later hl
 replace h1 := h1.later hl1
 have hn := h.le
 have hm := h1.le
 by_cases hnm : n = m
 ·subst hnm
  have hcont : ((n : Int) != n) = false := by simp
  go_enter Tryz.func16, Tryz.ntmps16
  go_wp2
  go_loopw [5] (fun i wr => ∃ k : Nat, k ≤ n ∧ i = .int .i64 k ∧ Hid (l.drop k = r.drop k ↔ l = r) ∧ Later w wr) (fun i _ => n - (intOf i).toNat)
  case atStart => exact ⟨0, by omega, rfl, Iff.rfl, inferInstance⟩
  case round =>
   obtain ⟨k, hk, rfl, HF, hX⟩ := hrel
   by_cases hlt : k < n
   ·obtain ⟨b, o, A1, n1, c1, x, rfl, hx, hc0, hi⟩ := Sl.row_ h hlt
    obtain ⟨b', o', A2, n2, c2, y, rfl, hy, hc0', hi'⟩ := Sl.row_ h1 hlt
    have hd := drop_at hx.out
    have hd' := drop_at hy.out
    have HI := Lib.hid hi
    have HI' := Lib.hid hi'
    clear hi hi'
    by_cases hxy : x = y
    ·have HF2 : Hid (l.drop (k + 1) = r.drop (k + 1) ↔ l = r) := by rw [← HF.out, hd, hd', hxy]; show _ ↔ _; simp
     have hb : decide (x = y) = true := by simpa using hxy
     clear hxy hd hd'
     go_wp2_with fail
     go_still_tail 8, (by kernel_rfl)
     change wpList _ _ _ _ _ wr.drew
     go_wp2_with fail
     refine (laws_eqIntS HI.out inferInstance HI'.out inferInstance).mono ?_
     rintro e w2 ⟨rfl, hL⟩
     have hY := Later.trans (w := w) inferInstance hL
     go_wp2
     go_roundw
     case rel => exact ⟨k + 1, by omega, by go_num, HF2, inferInstance⟩
     case measure => simp [intOf]; omega
    ·have HF2 : Hid (l ≠ r) := by rw [hd, hd'] at HF; intro e; have := HF.out.2 e; simp at this; exact hxy this.1
     have hb : decide (x = y) = false := by simpa using hxy
     clear hxy hd hd'
     go_wp2_with fail
     go_still_tail 8, (by kernel_rfl)
     change wpList _ _ _ _ _ wr.drew
     go_wp2_with fail
     refine (laws_eqIntS HI.out inferInstance HI'.out inferInstance).mono ?_
     rintro e w2 ⟨rfl, hL⟩
     have hY := Later.trans (w := w) inferInstance hL
     go_wp2
     go_ret
     exact ⟨ret_bool (by rw [decide_eq_false HF2.out]), inferInstance⟩
   ·have H2 : Hid (l = r) := by
     rw [List.drop_eq_nil_of_le (by have := h.len; omega), List.drop_eq_nil_of_le (by have := h1.len; omega)] at HF
     exact HF.out.1 rfl
    go_wp2
    go_ret
    exact ⟨ret_bool (by rw [decide_eq_true H2.out]), inferInstance⟩
 ·have H2 : Hid (l ≠ r) := by intro e; apply hnm; rw [h.len, h1.len, e]
  have hb : ((n : Int) != m) = true := by rw [bne_iff_ne]; omega
  clear hnm
  go_enter Tryz.func16, Tryz.ntmps16
  go_wp2
  go_ret
  exact ⟨ret_bool (by rw [decide_eq_false H2.out]), inferInstance⟩
def mkRows : Int → List (List Int) → List (List Int)
 | _, [] => []
 | k, x :: l => mkInts k x.length :: mkRows (k + x.length) l
theorem mkRows_len (k : Int) (l : List (List Int)) : (mkRows k l).length = l.length := by
 induction l generalizing k with
 | nil => rfl
 | cons x l ih => simp [mkRows, ih]
theorem laws_markIntSS {w : World} {A : Option Addr} {n c : Nat} {l : List (List Int)} {fp : List Nat} {k0 : Int} (h : OSl 1 oRows w A n c l fp) (hnd : fp.Nodup) (h0 : 0 ≤ k0) (h1 : k0 + sumLen l ≤ 4611686018427387904) :
  Calls Tryz.prog 22 #[.slice A n c, .int .i64 k0] w (RetMk (k0 + sumLen l) fp (fun w' => OSl 1 oRows w' A n c (mkRows k0 l) fp) w) := by
 have hn : n ≤ 9223372036854775807 := Nat.le_trans h.cap h.max
 go_enter Tryz.func22, Tryz.ntmps22
 go_wp2
 go_loopw [1, 5] (fun q i wr => ∃ (k : Nat) (r : Int) (cur : List (List Int)), k ≤ n ∧ i = .int .i64 k ∧ q = .int .i64 r ∧ 0 ≤ r ∧ Hid (r + sumLen (l.drop k) = k0 + sumLen l) ∧ Hid (cur.drop k = l.drop k ∧ cur.take k ++ mkRows r (l.drop k) = mkRows k0 l) ∧ OSl 1 oRows wr A n c cur fp ∧ Touch fp w wr) (fun _ i _ => n - (intOf i).toNat)
 case atStart => exact ⟨0, k0, l, by omega, rfl, rfl, h0, rfl, ⟨rfl, by simp⟩, h, Touch.refl_⟩
 case round =>
  obtain ⟨k, r, cur, hk, rfl, rfl, hr0, HF, HD, ho, hT⟩ := hrel
  by_cases hlt : k < n
  ·have hlen := ho.len
   have hcl : k < cur.length := by omega
   have hx : cur[k]? = some cur[k] := List.getElem?_eq_getElem hcl
   generalize cur[k] = x at hx
   have hlx : l[k]? = some x := by
    have h2 : (cur.drop k)[0]? = some x := by simpa using hx
    rw [HD.out.1] at h2; simpa using h2
   obtain ⟨g, o, t, cs, es, f, rfl, hB, hgf, hgn, hfs, hfn, hes, hcs, ⟨A1, n1, c1, rfl, hro⟩, hset⟩ := ho.elem hnd hx
   have hc : wr.cell? ⟨g, o + k, none⟩ = some (.slice A1 n1 c1) := by rw [hB.cell]; simpa using hcs 0 _ rfl
   have hxl := hro.len
   have hsd := sumLen_drop hlx
   have HS := Lib.hid hset
   have Hx := Lib.hid hx
   have Hlx := Lib.hid hlx
   have HB := Lib.hid hB
   have hb1 : r + (n1 : Int) ≤ 4611686018427387904 := by have := HF.out; omega
   have HF2 : Hid (r + n1 + sumLen (l.drop (k + 1)) = k0 + sumLen l) := by have := HF.out; show _ = _; omega
   have Hxl := Lib.hid hxl
   clear hset hx hlx hB hxl hsd hlen hcs
   go_wp2_with fail
   refine (laws_markIntS hro hr0 hb1).mono ?_
   rintro e w1 ⟨rfl, T1, o1⟩
   have o2 := HS.out w1 cs [.slice A1 n1 c1] (mkInts r n1) (T1.mono fun b hb => List.mem_cons_of_mem _ hb) ((T1.block g HB.out.lt hgn).trans HB.out) (fun _ _ => rfl) rfl (fun j v hv => by
    match j, hv with
    | 0, hv =>
     simp at hv; subst hv
     have := HB.out.cell (o + k)
     rw [hc] at this
     simpa using this.symm) ⟨A1, n1, c1, rfl, o1⟩
   have T2 := hT.trans (T1.mono hfs)
   clear T1 o1
   go_wp2
   go_roundw
   case rel =>
    refine ⟨k + 1, r + n1, cur.set k (mkInts r n1), by omega, by go_num, rfl, by omega, HF2, ⟨?_, ?_⟩, o2, T2⟩
    ·have h3 := HD.out.1
     rw [drop_at Hx.out, drop_at Hlx.out] at h3
     rw [List.drop_set_of_lt (by omega)]
     exact (List.cons.inj h3).2
    ·have h3 := HD.out.2
     rw [drop_at Hlx.out] at h3
     rw [← h3, List.take_set, List.take_succ_eq_append_getElem hcl, List.set_append_right _ _ (by simp; omega)]
     simp [mkRows, ← Hxl.out, Nat.min_eq_left (Nat.le_of_lt hcl)]
   case measure => simp [intOf]; omega
  ·have hkn : k = n := by omega
   have hlen := ho.len
   have hll := h.len
   have H3 : Hid (r = k0 + sumLen l ∧ cur = mkRows k0 l) := by
    have h3 := HF.out
    have h4 := HD.out.2
    rw [List.drop_eq_nil_of_le (by omega)] at h3 h4
    refine ⟨by simpa [sumLen] using h3, ?_⟩
    rw [← h4, List.take_of_length_le (by omega)]
    simp [mkRows]
   clear hlen hll
   go_wp2
   go_ret
   obtain ⟨h3, h4⟩ := H3
   subst h4
   exact ⟨ret_int h3, hT, ho⟩
theorem laws_heldIntSS {w0 w : World} {A : Option Addr} {n c : Nat} {m : List (List Int)} {k0 : Int} (h : Rows w0 A n c (mkRows k0 m)) (hl : Later w0 w) (h0 : 0 ≤ k0) (h1 : k0 + sumLen m ≤ 4611686018427387904) :
  Calls Tryz.prog 46 #[.slice A n c, .int .i64 k0] w (Ret (.int .i64 (k0 + sumLen m)) w) := by
 replace h := h.later hl
 have hn := h.le
 have hlen := h.len
 rw [mkRows_len] at hlen
 have Hlen := Lib.hid hlen
 clear hlen
 go_enter Tryz.func46, Tryz.ntmps46
 go_wp2
 go_loopw [1, 5] (fun q i wr => ∃ (k : Nat) (r : Int), k ≤ n ∧ i = .int .i64 k ∧ q = .int .i64 r ∧ 0 ≤ r ∧ Hid (r + sumLen (m.drop k) = k0 + sumLen m ∧ (mkRows k0 m).drop k = mkRows r (m.drop k)) ∧ Later w wr) (fun _ i _ => n - (intOf i).toNat)
 case atStart => exact ⟨0, k0, by omega, rfl, rfl, h0, ⟨rfl, rfl⟩, inferInstance⟩
 case round =>
  obtain ⟨k, r, hk, rfl, rfl, hr0, HF, hX⟩ := hrel
  by_cases hlt : k < n
  ·obtain ⟨b, o, A1, n1, c1, x, rfl, hx, hc, hi⟩ := Sl.row_ h hlt
   have hkm : k < m.length := by have := Hlen.out; omega
   obtain ⟨y, hy⟩ : ∃ y, m[k]? = some y := ⟨_, List.getElem?_eq_getElem hkm⟩
   have h3 := HF.out.2
   rw [drop_at hx.out, drop_at hy] at h3
   obtain ⟨h4, h5⟩ := List.cons.inj h3
   subst h4
   have hsd := sumLen_drop hy
   have hb1 : r + (y.length : Int) ≤ 4611686018427387904 := by have := HF.out.1; omega
   have HF2 : Hid (r + y.length + sumLen (m.drop (k + 1)) = k0 + sumLen m ∧ (mkRows k0 m).drop (k + 1) = mkRows (r + y.length) (m.drop (k + 1))) := ⟨by have := HF.out.1; omega, h5⟩
   have HI := Lib.hid hi
   clear h3 h5 hsd hy hi
   go_wp2_with fail
   refine (laws_heldIntS HI.out hX hr0 hb1).mono ?_
   rintro e w1 ⟨rfl, hL⟩
   have hY : Later w w1 := hX.trans hL
   go_wp2
   go_roundw
   case rel => exact ⟨k + 1, r + y.length, by omega, by go_num, rfl, by omega, HF2, inferInstance⟩
   case measure => simp [intOf]; omega
  ·have H3 : Hid (r = k0 + sumLen m) := by
    have h3 := HF.out.1
    rw [List.drop_eq_nil_of_le (by have := Hlen.out; omega)] at h3
    exact (by simpa [sumLen] using h3 : r = k0 + sumLen m)
   go_wp2
   go_ret
   exact ⟨ret_int H3.out, inferInstance⟩
end Go.Proofs.YtknhebakebmlcaaGreat
namespace Go.Proofs.YtknhebakebmlcaaGreat
open Go Go.RowKit
set_option linter.unusedVariables false
set_option maxRecDepth 100000
def totFleet (t : Fleet) : Nat := (totRows t.Dead)
theorem laws_szFleet {w0 w : World} {sA0 : Option Addr} {sn0 sc0 : Nat} {t : Fleet} {left : Int} (h : FleetAt w0 sA0 sn0 sc0 t) (hl : Later w0 w) (h0 : 0 ≤ left) (h1 : left ≤ 1048576) :
  Calls Tryz.prog 6 #[.agg #[.slice sA0 sn0 sc0, .int .i64 t.Turn], .int .i64 left] w (RetSz (totFleet t) left w) := by
 replace h := h.later hl
 have HB0 : ∀ W [Later (w.alloc (.cells #[.slice sA0 sn0 sc0, .int .i64 t.Turn] 31)) W] (j : Nat), W.cell? ⟨w.heap.size, j, none⟩ = #[.slice sA0 sn0 sc0, .int .i64 t.Turn][j]? := Later.boxes (t := 31) (fr := (0, 0)) (heap_new (by simp; try omega))
 go_enter Tryz.func6, Tryz.ntmps6
 go_wp2_with fail
 refine (laws_szIntSS h.l_Dead inferInstance h0 h1).mono ?_
 rintro e w0 ⟨r0, rfl, hr0, hL0⟩
 have hX0 := Later.trans (w := (w.alloc (.cells #[.slice sA0 sn0 sc0, .int .i64 t.Turn] 31))) inferInstance hL0
 have hU0 := Later.trans (w := w) inferInstance hX0
 rcases hr0 with hr0 | ⟨hp0, hq0⟩
 ·go_wp2
  go_ret
  exact ⟨_, rfl, .inl (by omega), inferInstance⟩
 have hb0 : r0 ≤ 1048576 := by omega
 have HQ0 := Lib.hid hq0
 clear hq0
 go_wp2_with fail
 go_ret
 exact ⟨_, rfl, .inr ⟨hp0, by have := HQ0.out; unfold totFleet; omega⟩, inferInstance⟩
theorem laws_toFleet {w0 w : World} {sA0 : Option Addr} {sn0 sc0 : Nat} {t : Fleet} (h : FleetAt w0 sA0 sn0 sc0 t) (hl : Later w0 w) (hn : totFleet t ≤ 1048576) :
  Calls Tryz.prog 10 #[.agg #[.slice sA0 sn0 sc0, .int .i64 t.Turn]] w (RetOFleet t w) := by
 replace h := h.later hl
 have HB0 : ∀ W [Later (w.alloc (.cells #[.slice sA0 sn0 sc0, .int .i64 t.Turn] 31)) W] (j : Nat), W.cell? ⟨w.heap.size, j, none⟩ = #[.slice sA0 sn0 sc0, .int .i64 t.Turn][j]? := Later.boxes (t := 31) (fr := (0, 0)) (heap_new (by simp; try omega))
 unfold totFleet at hn
 have HB : Blk (((w.alloc (.cells #[.slice sA0 sn0 sc0, .int .i64 t.Turn] 31)).alloc (.cells #[.slice none 0 0, .int .i64 0] 46)).alloc (.cells #[.slice none 0 0, .int .i64 0] 46)) (w.heap.size + 1 + 1) 46 #[.slice none 0 0, .int .i64 0] := heap_new (by simp; try omega)
 go_enter Tryz.func10, Tryz.ntmps10
 have HR : Blk (((w.alloc (.cells #[.slice sA0 sn0 sc0, .int .i64 t.Turn] 31)).alloc (.cells #[.slice none 0 0, .int .i64 0] 46)).alloc (.cells #[.slice none 0 0, .int .i64 0] 46)) (w.heap.size + 1) 46 #[.slice none 0 0, .int .i64 0] := (heap_old (by simp; try omega)).trans (heap_new (by simp; try omega))
 have hZ : w.heap.size + 3 ≤ (((w.alloc (.cells #[.slice sA0 sn0 sc0, .int .i64 t.Turn] 31)).alloc (.cells #[.slice none 0 0, .int .i64 0] 46)).alloc (.cells #[.slice none 0 0, .int .i64 0] 46)).heap.size := by simp; try omega
 go_wp2_with fail
 refine (laws_toIntSS h.l_Dead inferInstance (by omega)).mono ?_
 rintro e w0 ⟨A0, n0, c0, f0, rfl, o0, nd0, lo0, hL0⟩
 have hX0 := Later.trans (w := (w.alloc (.cells #[.slice sA0 sn0 sc0, .int .i64 t.Turn] 31))) inferInstance hL0
 have hU0 := Later.trans (w := w) inferInstance hX0
 replace HB : Blk w0 (w.heap.size + 1 + 1) 46 #[.slice none 0 0, .int .i64 0] := HB.later hL0
 replace HR : Blk w0 (w.heap.size + 1) 46 #[.slice none 0 0, .int .i64 0] := HR.later hL0
 have hn0 : (w.heap.size + 1 + 1) ∉ f0 := fun hh => by have := lo0 _ hh; simp at this; omega
 have hm0 : (w.heap.size + 1) ∉ f0 := fun hh => by have := lo0 _ hh; simp at this; omega
 have lq0 : ∀ g, g ∈ f0 → w.heap.size ≤ g := fun g hh => by have := lo0 _ hh; simp at this; omega
 obtain ⟨N0, hN0⟩ : ∃ N, N = w0.heap.size := ⟨_, rfl⟩
 have lt0 : ∀ g, g ∈ f0 → g < N0 := fun g hh => by rw [hN0]; exact o0.lt g hh
 replace hZ : w.heap.size + 3 ≤ w0.heap.size := by have := hL0.size; simp at this; omega
 have hc0 := fun j => HB.cell j
 have hf0 := fun j => HB.frozen j
 clear lo0
 have hcr := fun j => HR.cell j
 have hfr := fun j => HR.frozen j
 go_wp2
 have hr0 := ((((HR.far (p := ⟨w.heap.size + 1 + 1, 0, none⟩) (by simp) (.slice A0 n0 c0)).far (p := ⟨w.heap.size + 1 + 1, 1, none⟩) (by simp) (.int .i64 t.Turn)).set_ 0 (.slice A0 n0 c0)).cell 0).trans (show _ = some (.slice A0 n0 c0 : Value) from rfl)
 have hr1 := (((((HR.far (p := ⟨w.heap.size + 1 + 1, 0, none⟩) (by simp) (.slice A0 n0 c0)).far (p := ⟨w.heap.size + 1 + 1, 1, none⟩) (by simp) (.int .i64 t.Turn)).set_ 0 (.slice A0 n0 c0)).set_ 1 (.int .i64 t.Turn)).cell 1).trans (show _ = some (.int .i64 t.Turn : Value) from rfl)
 refine bodyPost_ret (v := .agg #[.slice A0 n0 c0, .int .i64 t.Turn]) (by simp [results, Tryz.results10, go_sem, hr0, hr1]) rfl ?_
 exact ⟨A0, n0, c0, f0, rfl, ⟨((((o0.setc hn0 _ _).setc hn0 _ _).setc hm0 _ _).setc hm0 _ _), h.i_Turn⟩, nd0, lq0, inferInstance⟩
theorem laws_eqFleet {w0 w1 w : World} {sA0 : Option Addr} {sn0 sc0 : Nat} {qA0 : Option Addr} {qn0 qc0 : Nat} {a b : Fleet} (ha : FleetAt w0 sA0 sn0 sc0 a) (hla : Later w0 w) (hb : FleetAt w1 qA0 qn0 qc0 b) (hlb : Later w1 w) :
  Calls Tryz.prog 15 #[.agg #[.slice sA0 sn0 sc0, .int .i64 a.Turn], .agg #[.slice qA0 qn0 qc0, .int .i64 b.Turn]] w (Ret (.bool (decide (a = b))) w) := by
 replace ha := ha.later hla
 replace hb := hb.later hlb
 have HB0 : ∀ W [Later ((w.alloc (.cells #[.slice sA0 sn0 sc0, .int .i64 a.Turn] 46)).alloc (.cells #[.slice qA0 qn0 qc0, .int .i64 b.Turn] 46)) W] (j : Nat), W.cell? ⟨w.heap.size, j, none⟩ = #[.slice sA0 sn0 sc0, .int .i64 a.Turn][j]? := Later.boxes (t := 46) (fr := (0, 0)) ((heap_old (by simp; try omega)).trans (heap_new (by simp; try omega))); have HB1 : ∀ W [Later ((w.alloc (.cells #[.slice sA0 sn0 sc0, .int .i64 a.Turn] 46)).alloc (.cells #[.slice qA0 qn0 qc0, .int .i64 b.Turn] 46)) W] (j : Nat), W.cell? ⟨w.heap.size + 1, j, none⟩ = #[.slice qA0 qn0 qc0, .int .i64 b.Turn][j]? := Later.boxes (t := 46) (fr := (0, 0)) (heap_new (by simp; try omega))
 go_enter Tryz.func15, Tryz.ntmps15
 go_wp2_with fail
 refine (laws_eqIntSS ha.l_Dead inferInstance hb.l_Dead inferInstance).mono ?_
 rintro e w2 ⟨rfl, hL0⟩
 have hX0 := Later.trans (w := ((w.alloc (.cells #[.slice sA0 sn0 sc0, .int .i64 a.Turn] 46)).alloc (.cells #[.slice qA0 qn0 qc0, .int .i64 b.Turn] 46))) inferInstance hL0
 have hU0 := Later.trans (w := w) inferInstance hX0
 by_cases q0 : a.Dead = b.Dead
 rotate_left
 ·have hd0 : decide (a.Dead = b.Dead) = false := decide_eq_false q0
  have HN : Hid (a ≠ b) := fun e => q0 (by rw [e])
  clear q0
  go_wp2
  go_ret
  exact ⟨ret_bool (decide_eq_false HN.out).symm, inferInstance⟩
 have hd0 : decide (a.Dead = b.Dead) = true := decide_eq_true q0
 have HQ0 := Lib.hid q0
 clear q0
 by_cases q1 : a.Turn = b.Turn
 rotate_left
 ·have hd1 : (a.Turn != b.Turn) = true := by simpa using q1
  have HN : Hid (a ≠ b) := fun e => q1 (by rw [e])
  clear q1
  go_wp2
  go_ret
  exact ⟨ret_bool (decide_eq_false HN.out).symm, inferInstance⟩
 have hd1 : (a.Turn != b.Turn) = false := by simpa using q1
 have HQ1 := Lib.hid q1
 clear q1
 go_wp2
 go_ret
 refine ⟨ret_bool (decide_eq_true ?_).symm, inferInstance⟩
 have e0 := HQ0.out
 have e1 := HQ1.out
 cases a; cases b; simp_all
def cntFleet (t : Fleet) : Nat := (sumLen t.Dead)
def mkFleet (k : Int) (t : Fleet) : Fleet := { t with Dead := mkRows k t.Dead }
theorem laws_markFleet {w : World} {sA0 : Option Addr} {sn0 sc0 : Nat} {t : Fleet} {sf0 : List Nat} {k0 : Int} (h : FleetOw w sA0 sn0 sc0 t sf0) (hnd : (sf0).Nodup) (h0 : 0 ≤ k0) (h1 : k0 + cntFleet t ≤ 4611686018427387904) :
  Calls Tryz.prog 21 #[.agg #[.slice sA0 sn0 sc0, .int .i64 t.Turn], .int .i64 k0] w (RetMk (k0 + cntFleet t) (sf0) (fun w' => FleetOw w' sA0 sn0 sc0 (mkFleet k0 t) sf0) w) := by
 unfold cntFleet at h1
 have hlt := h.lt
 have HB : Blk (w.alloc (.cells #[.slice sA0 sn0 sc0, .int .i64 t.Turn] 46)) w.heap.size 46 #[.slice sA0 sn0 sc0, .int .i64 t.Turn] := heap_new rfl
 have hT : Touch (sf0) w (w.alloc (.cells #[.slice sA0 sn0 sc0, .int .i64 t.Turn] 46)) := Touch.of_later inferInstance
 have hB_Dead : w.heap.size ∉ sf0 := fun hh => Nat.lt_irrefl _ (hlt _ hh)
 have nd0 := hnd
 have o0 := (h.l_Dead).later (inferInstance : Later w (w.alloc (.cells #[.slice sA0 sn0 sc0, .int .i64 t.Turn] 46)))
 go_enter Tryz.func21, Tryz.ntmps21
 have hc0 := fun j => HB.cell j
 go_wp2_with fail
 refine (laws_markIntSS o0 nd0 h0 (by omega)).mono ?_
 rintro e w0 ⟨rfl, T0, p0⟩
 replace HB := T0.blk HB hB_Dead
 replace hT := hT.trans (T0.mono (fun g hg => hg))
 go_wp2
 go_ret
 refine ⟨ret_int (by unfold cntFleet; omega), hT, ?_⟩
 exact ⟨p0, h.i_Turn⟩
end Go.Proofs.YtknhebakebmlcaaGreat
namespace Go.Proofs.YtknhebakebmlcaaGreat
open Go Go.RowKit
set_option linter.unusedVariables false
set_option maxRecDepth 100000
theorem cntLines_le (l : List Line) : cntLines l ≤ l.length + sumLine l := by
 induction l with
 | nil => simp [cntLines, sumLine]
 | cons x l ih => simp only [cntLines, sumLine, List.length_cons, totLine]; omega
theorem cntNetwork_le (n : Network) : cntNetwork n ≤ totNetwork n := by
 have := cntLines_le n.Lines
 unfold cntNetwork totNetwork totStrs totLines
 omega
theorem cntTimetable_le (t : Timetable) : cntTimetable t ≤ 3 * totTimetable t := by
 have := cntNetwork_le t.Network
 unfold cntTimetable totTimetable
 omega
theorem cntFleet_le (f : Fleet) : cntFleet f ≤ totFleet f := by
 unfold cntFleet totFleet totRows
 omega
end Go.Proofs.YtknhebakebmlcaaGreat
