/-
  Helpers of the statements on Duty. Printed by a program of ours (gen_struct.py).
-/
import Derived.Test.YthibhehnakikpaaGreatHIntSS
namespace Go.Proofs.YthibhehnakikpaaGreat
open Go Go.RowKit
set_option linter.unusedVariables false
set_option maxRecDepth 100000
def totDuty (t : Duty) : Nat := (totRows t.Pieces)
theorem laws_szDuty {w0 w : World} {sA0 : Option Addr} {sn0 sc0 : Nat} {t : Duty} {left : Int} (h : DutyAt w0 sA0 sn0 sc0 t) (hl : Later w0 w) (h0 : 0 ≤ left) (h1 : left ≤ 1048576) :
    Calls Tryz.prog 37 #[.agg #[.slice sA0 sn0 sc0], .int .i64 left] w (RetSz (totDuty t) left w) := by
  replace h := h.later hl
  have HB0 : ∀ W [Later (w.alloc (.cells #[.slice sA0 sn0 sc0] 72)) W] (j : Nat), W.cell? ⟨w.heap.size, j, none⟩ = #[.slice sA0 sn0 sc0][j]? := Later.boxes (t := 72) (fr := (0, 0)) (heap_new (by simp; try omega))
  go_enter Tryz.func37, Tryz.ntmps37
  go_wp2_with fail
  refine (laws_szIntSS h.l_Pieces inferInstance h0 h1).mono ?_
  rintro e w0 ⟨r0, rfl, hr0, hL0⟩
  have hX0 := Later.trans (w := (w.alloc (.cells #[.slice sA0 sn0 sc0] 72))) inferInstance hL0
  have hU0 := Later.trans (w := w) inferInstance hX0
  rcases hr0 with hr0 | ⟨hp0, hq0⟩
  · go_wp2
    go_ret
    exact ⟨_, rfl, .inl (by omega), inferInstance⟩
  have hb0 : r0 ≤ 1048576 := by omega
  have HQ0 := Lib.hid hq0
  clear hq0
  go_wp2_with fail
  go_ret
  exact ⟨_, rfl, .inr ⟨hp0, by have := HQ0.out; unfold totDuty; omega⟩, inferInstance⟩
theorem laws_toDuty {w0 w : World} {sA0 : Option Addr} {sn0 sc0 : Nat} {t : Duty} (h : DutyAt w0 sA0 sn0 sc0 t) (hl : Later w0 w) (hn : totDuty t ≤ 1048576) :
    Calls Tryz.prog 39 #[.agg #[.slice sA0 sn0 sc0]] w (RetODuty t w) := by
  replace h := h.later hl
  have HB0 : ∀ W [Later (w.alloc (.cells #[.slice sA0 sn0 sc0] 72)) W] (j : Nat), W.cell? ⟨w.heap.size, j, none⟩ = #[.slice sA0 sn0 sc0][j]? := Later.boxes (t := 72) (fr := (0, 0)) (heap_new (by simp; try omega))
  unfold totDuty at hn
  have HB : Blk (((w.alloc (.cells #[.slice sA0 sn0 sc0] 72)).alloc (.cells #[.slice none 0 0] 75)).alloc (.cells #[.slice none 0 0] 75)) (w.heap.size + 1 + 1) 75 #[.slice none 0 0] := heap_new (by simp; try omega)
  go_enter Tryz.func39, Tryz.ntmps39
  have HR : Blk (((w.alloc (.cells #[.slice sA0 sn0 sc0] 72)).alloc (.cells #[.slice none 0 0] 75)).alloc (.cells #[.slice none 0 0] 75)) (w.heap.size + 1) 75 #[.slice none 0 0] := (heap_old (by simp; try omega)).trans (heap_new (by simp; try omega))
  have hZ : w.heap.size + 3 ≤ (((w.alloc (.cells #[.slice sA0 sn0 sc0] 72)).alloc (.cells #[.slice none 0 0] 75)).alloc (.cells #[.slice none 0 0] 75)).heap.size := by simp; try omega
  go_wp2_with fail
  refine (laws_toIntSS h.l_Pieces inferInstance (by omega)).mono ?_
  rintro e w0 ⟨A0, n0, c0, f0, rfl, o0, nd0, lo0, hL0⟩
  have hX0 := Later.trans (w := (w.alloc (.cells #[.slice sA0 sn0 sc0] 72))) inferInstance hL0
  have hU0 := Later.trans (w := w) inferInstance hX0
  replace HB : Blk w0 (w.heap.size + 1 + 1) 75 #[.slice none 0 0] := HB.later hL0
  replace HR : Blk w0 (w.heap.size + 1) 75 #[.slice none 0 0] := HR.later hL0
  have hn0 : (w.heap.size + 1 + 1) ∉ f0 := fun hh => by have := lo0 _ hh; simp at this; omega
  have hm0 : (w.heap.size + 1) ∉ f0 := fun hh => by have := lo0 _ hh; simp at this; omega
  have lq0 : ∀ g, g ∈ f0 → w.heap.size ≤ g := fun g hh => by have := lo0 _ hh; simp at this; omega
  obtain ⟨N0, hN0⟩ : ∃ N, N = w0.heap.size := ⟨_, rfl⟩
  have lt0 : ∀ g, g ∈ f0 → g < N0 := fun g hh => by rw [hN0]; exact o0.lt g hh
  replace hZ : w.heap.size + 3 ≤ w0.heap.size := by have := hL0.size; simp at this; omega
  have hc0 := fun j => HB.cell j
  have hf0 := fun j => HB.frozen j
  clear lo0
  have hcr := fun j => HR.cell j
  have hfr := fun j => HR.frozen j
  go_wp2
  have hr0 := (((HR.far (p := ⟨w.heap.size + 1 + 1, 0, none⟩) (by simp) (.slice A0 n0 c0)).set_ 0 (.slice A0 n0 c0)).cell 0).trans (show _ = some (.slice A0 n0 c0 : Value) from rfl)
  refine bodyPost_ret (v := .agg #[.slice A0 n0 c0]) (by simp [results, Tryz.results39, go_sem, hr0]) rfl ?_
  exact ⟨A0, n0, c0, f0, rfl, ⟨((o0.setc hn0 _ _).setc hm0 _ _)⟩, nd0, lq0, inferInstance⟩
theorem laws_eqDuty {w0 w1 w : World} {sA0 : Option Addr} {sn0 sc0 : Nat} {qA0 : Option Addr} {qn0 qc0 : Nat} {a b : Duty} (ha : DutyAt w0 sA0 sn0 sc0 a) (hla : Later w0 w) (hb : DutyAt w1 qA0 qn0 qc0 b) (hlb : Later w1 w) :
    Calls Tryz.prog 41 #[.agg #[.slice sA0 sn0 sc0], .agg #[.slice qA0 qn0 qc0]] w (Ret (.bool (decide (a = b))) w) := by
  replace ha := ha.later hla
  replace hb := hb.later hlb
  have HB0 : ∀ W [Later ((w.alloc (.cells #[.slice sA0 sn0 sc0] 75)).alloc (.cells #[.slice qA0 qn0 qc0] 75)) W] (j : Nat), W.cell? ⟨w.heap.size, j, none⟩ = #[.slice sA0 sn0 sc0][j]? := Later.boxes (t := 75) (fr := (0, 0)) ((heap_old (by simp; try omega)).trans (heap_new (by simp; try omega))); have HB1 : ∀ W [Later ((w.alloc (.cells #[.slice sA0 sn0 sc0] 75)).alloc (.cells #[.slice qA0 qn0 qc0] 75)) W] (j : Nat), W.cell? ⟨w.heap.size + 1, j, none⟩ = #[.slice qA0 qn0 qc0][j]? := Later.boxes (t := 75) (fr := (0, 0)) (heap_new (by simp; try omega))
  go_enter Tryz.func41, Tryz.ntmps41
  go_wp2_with fail
  refine (laws_eqIntSS ha.l_Pieces inferInstance hb.l_Pieces inferInstance).mono ?_
  rintro e w2 ⟨rfl, hL0⟩
  have hX0 := Later.trans (w := ((w.alloc (.cells #[.slice sA0 sn0 sc0] 75)).alloc (.cells #[.slice qA0 qn0 qc0] 75))) inferInstance hL0
  have hU0 := Later.trans (w := w) inferInstance hX0
  by_cases q0 : a.Pieces = b.Pieces
  rotate_left
  · have hd0 : decide (a.Pieces = b.Pieces) = false := decide_eq_false q0
    have HN : Hid (a ≠ b) := fun e => q0 (by rw [e])
    clear q0
    go_wp2
    go_ret
    exact ⟨ret_bool (decide_eq_false HN.out).symm, inferInstance⟩
  have hd0 : decide (a.Pieces = b.Pieces) = true := decide_eq_true q0
  have HQ0 := Lib.hid q0
  clear q0
  go_wp2
  go_ret
  refine ⟨ret_bool (decide_eq_true ?_).symm, inferInstance⟩
  have e0 := HQ0.out
  cases a; cases b; simp_all
def cntDuty (t : Duty) : Nat := (sumLen t.Pieces)
def mkDuty (k : Int) (t : Duty) : Duty := { t with Pieces := mkRows k t.Pieces }
theorem laws_markDuty {w : World} {sA0 : Option Addr} {sn0 sc0 : Nat} {t : Duty} {sf0 : List Nat} {k0 : Int} (h : DutyOw w sA0 sn0 sc0 t sf0) (hnd : (sf0).Nodup) (h0 : 0 ≤ k0) (h1 : k0 + cntDuty t ≤ 4611686018427387904) :
    Calls Tryz.prog 50 #[.agg #[.slice sA0 sn0 sc0], .int .i64 k0] w (RetMk (k0 + cntDuty t) (sf0) (fun w' => DutyOw w' sA0 sn0 sc0 (mkDuty k0 t) sf0) w) := by
  unfold cntDuty at h1
  have hlt := h.lt
  have HB : Blk (w.alloc (.cells #[.slice sA0 sn0 sc0] 75)) w.heap.size 75 #[.slice sA0 sn0 sc0] := heap_new rfl
  have hT : Touch (sf0) w (w.alloc (.cells #[.slice sA0 sn0 sc0] 75)) := Touch.of_later inferInstance
  have hB_Pieces : w.heap.size ∉ sf0 := fun hh => Nat.lt_irrefl _ (hlt _ hh)
  have nd0 := hnd
  have o0 := (h.l_Pieces).later (inferInstance : Later w (w.alloc (.cells #[.slice sA0 sn0 sc0] 75)))
  go_enter Tryz.func50, Tryz.ntmps50
  have hc0 := fun j => HB.cell j
  go_wp2_with fail
  refine (laws_markIntSS o0 nd0 h0 (by omega)).mono ?_
  rintro e w0 ⟨rfl, T0, p0⟩
  replace HB := T0.blk HB hB_Pieces
  replace hT := hT.trans (T0.mono (fun g hg => hg))
  go_wp2
  go_ret
  refine ⟨ret_int (by unfold cntDuty; omega), hT, ?_⟩
  exact ⟨p0⟩
end Go.Proofs.YthibhehnakikpaaGreat
