/-
  Helpers of the statements on Fleet. Printed by a program of ours (gen_struct.py).
-/
import Derived.Test.YtbkeccpjcmhhjaaHIntSS
namespace Go.Proofs.Ytbkeccpjcmhhjaa
open Go Go.RowKit
set_option linter.unusedVariables false
set_option maxRecDepth 100000
def totFleet (t : Fleet) : Nat := (totRows t.Dead)
theorem laws_szFleet {w0 w : World} {sA0 : Option Addr} {sn0 sc0 : Nat} {t : Fleet} {left : Int} (h : FleetAt w0 sA0 sn0 sc0 t) (hl : Later w0 w) (h0 : 0 ≤ left) (h1 : left ≤ 1048576) :
    Calls Try.prog 47 #[.agg #[.slice sA0 sn0 sc0, .int .i64 t.Turn], .int .i64 left] w (RetSz (totFleet t) left w) := by
  replace h := h.later hl
  have HB0 : ∀ W [Later (w.alloc (.cells #[.slice sA0 sn0 sc0, .int .i64 t.Turn] 82)) W] (j : Nat), W.cell? ⟨w.heap.size, j, none⟩ = #[.slice sA0 sn0 sc0, .int .i64 t.Turn][j]? := Later.boxes (t := 82) (fr := (0, 0)) (heap_new (by simp; try omega))
  go_enter Try.func47, Try.ntmps47
  go_wp2_with fail
  refine (laws_szIntSS h.l_Dead inferInstance h0 h1).mono ?_
  rintro e w0 ⟨r0, rfl, hr0, hL0⟩
  have hX0 := Later.trans (w := (w.alloc (.cells #[.slice sA0 sn0 sc0, .int .i64 t.Turn] 82))) inferInstance hL0
  have hU0 := Later.trans (w := w) inferInstance hX0
  rcases hr0 with hr0 | ⟨hp0, hq0⟩
  · go_wp2
    go_ret
    exact ⟨_, rfl, .inl (by omega), inferInstance⟩
  have hb0 : r0 ≤ 1048576 := by omega
  have HQ0 := Lib.hid hq0
  clear hq0
  go_wp2_with fail
  go_ret
  exact ⟨_, rfl, .inr ⟨hp0, by have := HQ0.out; unfold totFleet; omega⟩, inferInstance⟩
theorem laws_toFleet {w0 w : World} {sA0 : Option Addr} {sn0 sc0 : Nat} {t : Fleet} (h : FleetAt w0 sA0 sn0 sc0 t) (hl : Later w0 w) (hn : totFleet t ≤ 1048576) :
    Calls Try.prog 50 #[.agg #[.slice sA0 sn0 sc0, .int .i64 t.Turn]] w (RetOFleet t w) := by
  replace h := h.later hl
  have HB0 : ∀ W [Later (w.alloc (.cells #[.slice sA0 sn0 sc0, .int .i64 t.Turn] 82)) W] (j : Nat), W.cell? ⟨w.heap.size, j, none⟩ = #[.slice sA0 sn0 sc0, .int .i64 t.Turn][j]? := Later.boxes (t := 82) (fr := (0, 0)) (heap_new (by simp; try omega))
  unfold totFleet at hn
  have HB : Blk (((w.alloc (.cells #[.slice sA0 sn0 sc0, .int .i64 t.Turn] 82)).alloc (.cells #[.slice none 0 0, .int .i64 0] 87)).alloc (.cells #[.slice none 0 0, .int .i64 0] 87)) (w.heap.size + 1 + 1) 87 #[.slice none 0 0, .int .i64 0] := heap_new (by simp; try omega)
  go_enter Try.func50, Try.ntmps50
  have HR : Blk (((w.alloc (.cells #[.slice sA0 sn0 sc0, .int .i64 t.Turn] 82)).alloc (.cells #[.slice none 0 0, .int .i64 0] 87)).alloc (.cells #[.slice none 0 0, .int .i64 0] 87)) (w.heap.size + 1) 87 #[.slice none 0 0, .int .i64 0] := (heap_old (by simp; try omega)).trans (heap_new (by simp; try omega))
  have hZ : w.heap.size + 3 ≤ (((w.alloc (.cells #[.slice sA0 sn0 sc0, .int .i64 t.Turn] 82)).alloc (.cells #[.slice none 0 0, .int .i64 0] 87)).alloc (.cells #[.slice none 0 0, .int .i64 0] 87)).heap.size := by simp; try omega
  go_wp2_with fail
  refine (laws_toIntSS h.l_Dead inferInstance (by omega)).mono ?_
  rintro e w0 ⟨A0, n0, c0, f0, rfl, o0, nd0, lo0, hL0⟩
  have hX0 := Later.trans (w := (w.alloc (.cells #[.slice sA0 sn0 sc0, .int .i64 t.Turn] 82))) inferInstance hL0
  have hU0 := Later.trans (w := w) inferInstance hX0
  replace HB : Blk w0 (w.heap.size + 1 + 1) 87 #[.slice none 0 0, .int .i64 0] := HB.later hL0
  replace HR : Blk w0 (w.heap.size + 1) 87 #[.slice none 0 0, .int .i64 0] := HR.later hL0
  have hn0 : (w.heap.size + 1 + 1) ∉ f0 := fun hh => by have := lo0 _ hh; simp at this; omega
  have hm0 : (w.heap.size + 1) ∉ f0 := fun hh => by have := lo0 _ hh; simp at this; omega
  have lq0 : ∀ g, g ∈ f0 → w.heap.size ≤ g := fun g hh => by have := lo0 _ hh; simp at this; omega
  obtain ⟨N0, hN0⟩ : ∃ N, N = w0.heap.size := ⟨_, rfl⟩
  have lt0 : ∀ g, g ∈ f0 → g < N0 := fun g hh => by rw [hN0]; exact o0.lt g hh
  replace hZ : w.heap.size + 3 ≤ w0.heap.size := by have := hL0.size; simp at this; omega
  have hc0 := fun j => HB.cell j
  have hf0 := fun j => HB.frozen j
  clear lo0
  have hcr := fun j => HR.cell j
  have hfr := fun j => HR.frozen j
  go_wp2
  have hr0 := ((((HR.far (p := ⟨w.heap.size + 1 + 1, 0, none⟩) (by simp) (.slice A0 n0 c0)).far (p := ⟨w.heap.size + 1 + 1, 1, none⟩) (by simp) (.int .i64 t.Turn)).set_ 0 (.slice A0 n0 c0)).cell 0).trans (show _ = some (.slice A0 n0 c0 : Value) from rfl)
  have hr1 := (((((HR.far (p := ⟨w.heap.size + 1 + 1, 0, none⟩) (by simp) (.slice A0 n0 c0)).far (p := ⟨w.heap.size + 1 + 1, 1, none⟩) (by simp) (.int .i64 t.Turn)).set_ 0 (.slice A0 n0 c0)).set_ 1 (.int .i64 t.Turn)).cell 1).trans (show _ = some (.int .i64 t.Turn : Value) from rfl)
  refine bodyPost_ret (v := .agg #[.slice A0 n0 c0, .int .i64 t.Turn]) (by simp [results, Try.results50, go_sem, hr0, hr1]) rfl ?_
  exact ⟨A0, n0, c0, f0, rfl, ⟨((((o0.setc hn0 _ _).setc hn0 _ _).setc hm0 _ _).setc hm0 _ _), h.i_Turn⟩, nd0, lq0, inferInstance⟩
theorem laws_eqFleet {w0 w1 w : World} {sA0 : Option Addr} {sn0 sc0 : Nat} {qA0 : Option Addr} {qn0 qc0 : Nat} {a b : Fleet} (ha : FleetAt w0 sA0 sn0 sc0 a) (hla : Later w0 w) (hb : FleetAt w1 qA0 qn0 qc0 b) (hlb : Later w1 w) :
    Calls Try.prog 54 #[.agg #[.slice sA0 sn0 sc0, .int .i64 a.Turn], .agg #[.slice qA0 qn0 qc0, .int .i64 b.Turn]] w (Ret (.bool (decide (a = b))) w) := by
  replace ha := ha.later hla
  replace hb := hb.later hlb
  have HB0 : ∀ W [Later ((w.alloc (.cells #[.slice sA0 sn0 sc0, .int .i64 a.Turn] 87)).alloc (.cells #[.slice qA0 qn0 qc0, .int .i64 b.Turn] 87)) W] (j : Nat), W.cell? ⟨w.heap.size, j, none⟩ = #[.slice sA0 sn0 sc0, .int .i64 a.Turn][j]? := Later.boxes (t := 87) (fr := (0, 0)) ((heap_old (by simp; try omega)).trans (heap_new (by simp; try omega))); have HB1 : ∀ W [Later ((w.alloc (.cells #[.slice sA0 sn0 sc0, .int .i64 a.Turn] 87)).alloc (.cells #[.slice qA0 qn0 qc0, .int .i64 b.Turn] 87)) W] (j : Nat), W.cell? ⟨w.heap.size + 1, j, none⟩ = #[.slice qA0 qn0 qc0, .int .i64 b.Turn][j]? := Later.boxes (t := 87) (fr := (0, 0)) (heap_new (by simp; try omega))
  go_enter Try.func54, Try.ntmps54
  go_wp2_with fail
  refine (laws_eqIntSS ha.l_Dead inferInstance hb.l_Dead inferInstance).mono ?_
  rintro e w2 ⟨rfl, hL0⟩
  have hX0 := Later.trans (w := ((w.alloc (.cells #[.slice sA0 sn0 sc0, .int .i64 a.Turn] 87)).alloc (.cells #[.slice qA0 qn0 qc0, .int .i64 b.Turn] 87))) inferInstance hL0
  have hU0 := Later.trans (w := w) inferInstance hX0
  by_cases q0 : a.Dead = b.Dead
  rotate_left
  · have hd0 : decide (a.Dead = b.Dead) = false := decide_eq_false q0
    have HN : Hid (a ≠ b) := fun e => q0 (by rw [e])
    clear q0
    go_wp2
    go_ret
    exact ⟨ret_bool (decide_eq_false HN.out).symm, inferInstance⟩
  have hd0 : decide (a.Dead = b.Dead) = true := decide_eq_true q0
  have HQ0 := Lib.hid q0
  clear q0
  by_cases q1 : a.Turn = b.Turn
  rotate_left
  · have hd1 : (a.Turn != b.Turn) = true := by simpa using q1
    have HN : Hid (a ≠ b) := fun e => q1 (by rw [e])
    clear q1
    go_wp2
    go_ret
    exact ⟨ret_bool (decide_eq_false HN.out).symm, inferInstance⟩
  have hd1 : (a.Turn != b.Turn) = false := by simpa using q1
  have HQ1 := Lib.hid q1
  clear q1
  go_wp2
  go_ret
  refine ⟨ret_bool (decide_eq_true ?_).symm, inferInstance⟩
  have e0 := HQ0.out
  have e1 := HQ1.out
  cases a; cases b; simp_all
def cntFleet (t : Fleet) : Nat := (sumLen t.Dead)
def mkFleet (k : Int) (t : Fleet) : Fleet := { t with Dead := mkRows k t.Dead }
theorem laws_markFleet {w : World} {sA0 : Option Addr} {sn0 sc0 : Nat} {t : Fleet} {sf0 : List Nat} {k0 : Int} (h : FleetOw w sA0 sn0 sc0 t sf0) (hnd : (sf0).Nodup) (h0 : 0 ≤ k0) (h1 : k0 + cntFleet t ≤ 4611686018427387904) :
    Calls Try.prog 55 #[.agg #[.slice sA0 sn0 sc0, .int .i64 t.Turn], .int .i64 k0] w (RetMk (k0 + cntFleet t) (sf0) (fun w' => FleetOw w' sA0 sn0 sc0 (mkFleet k0 t) sf0) w) := by
  unfold cntFleet at h1
  have hlt := h.lt
  have HB : Blk (w.alloc (.cells #[.slice sA0 sn0 sc0, .int .i64 t.Turn] 87)) w.heap.size 87 #[.slice sA0 sn0 sc0, .int .i64 t.Turn] := heap_new rfl
  have hT : Touch (sf0) w (w.alloc (.cells #[.slice sA0 sn0 sc0, .int .i64 t.Turn] 87)) := Touch.of_later inferInstance
  have hB_Dead : w.heap.size ∉ sf0 := fun hh => Nat.lt_irrefl _ (hlt _ hh)
  have nd0 := hnd
  have o0 := (h.l_Dead).later (inferInstance : Later w (w.alloc (.cells #[.slice sA0 sn0 sc0, .int .i64 t.Turn] 87)))
  go_enter Try.func55, Try.ntmps55
  have hc0 := fun j => HB.cell j
  go_wp2_with fail
  refine (laws_markIntSS o0 nd0 h0 (by omega)).mono ?_
  rintro e w0 ⟨rfl, T0, p0⟩
  replace HB := T0.blk HB hB_Dead
  replace hT := hT.trans (T0.mono (fun g hg => hg))
  go_wp2
  go_ret
  refine ⟨ret_int (by unfold cntFleet; omega), hT, ?_⟩
  exact ⟨p0, h.i_Turn⟩
end Go.Proofs.Ytbkeccpjcmhhjaa
