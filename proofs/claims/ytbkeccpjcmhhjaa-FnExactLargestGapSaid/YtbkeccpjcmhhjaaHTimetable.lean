/-
  Helpers of the statements on Timetable. Printed by a program of ours (gen_struct.py).
-/
import Derived.Test.YtbkeccpjcmhhjaaHNetwork
import Derived.Test.YtbkeccpjcmhhjaaHTrip
namespace Go.Proofs.Ytbkeccpjcmhhjaa
open Go Go.RowKit
set_option linter.unusedVariables false
set_option maxRecDepth 100000
def totTimetable (t : Timetable) : Nat := (totNetwork t.Network) + t.Trips.length
theorem laws_szTimetable {w0 w : World} {sA0 : Option Addr} {sn0 sc0 : Nat} {sA1 : Option Addr} {sn1 sc1 : Nat} {sA2 : Option Addr} {sn2 sc2 : Nat} {t : Timetable} {left : Int} (h : TimetableAt w0 sA0 sn0 sc0 sA1 sn1 sc1 sA2 sn2 sc2 t) (hl : Later w0 w) (h0 : 0 ≤ left) (h1 : left ≤ 1048576) :
    Calls Try.prog 33 #[.agg #[.slice sA0 sn0 sc0, .slice sA1 sn1 sc1, .slice sA2 sn2 sc2], .int .i64 left] w (RetSz (totTimetable t) left w) := by
  replace h := h.later hl
  have HB0 : ∀ W [Later (w.alloc (.cells #[.slice sA0 sn0 sc0, .slice sA1 sn1 sc1, .slice sA2 sn2 sc2] 59)) W] (j : Nat), W.cell? ⟨w.heap.size, j, none⟩ = #[.slice sA0 sn0 sc0, .slice sA1 sn1 sc1, .slice sA2 sn2 sc2][j]? := Later.boxes (t := 59) (fr := (0, 0)) (heap_new (by simp; try omega))
  go_enter Try.func33, Try.ntmps33
  go_wp2_with fail
  refine (laws_szNetwork ⟨h.l_Network_Stops, h.l_Network_Lines⟩ inferInstance h0 h1).mono ?_
  rintro e w0 ⟨r0, rfl, hr0, hL0⟩
  have hX0 := Later.trans (w := (w.alloc (.cells #[.slice sA0 sn0 sc0, .slice sA1 sn1 sc1, .slice sA2 sn2 sc2] 59))) inferInstance hL0
  have hU0 := Later.trans (w := w) inferInstance hX0
  rcases hr0 with hr0 | ⟨hp0, hq0⟩
  · go_wp2
    go_ret
    exact ⟨_, rfl, .inl (by omega), inferInstance⟩
  have hb0 : r0 ≤ 1048576 := by omega
  have HQ0 := Lib.hid hq0
  clear hq0
  go_wp2_with fail
  refine (laws_szTripS h.l_Trips hp0 hb0).mono ?_
  rintro e w1 ⟨r1, rfl, hr1, hL1⟩
  have hX1 := Later.trans (w := (w.alloc (.cells #[.slice sA0 sn0 sc0, .slice sA1 sn1 sc1, .slice sA2 sn2 sc2] 59))) inferInstance hL1
  have hU1 := Later.trans (w := w) inferInstance hX1
  rcases hr1 with hr1 | ⟨hp1, hq1⟩
  · go_wp2
    go_ret
    exact ⟨_, rfl, .inl (by omega), inferInstance⟩
  have hb1 : r1 ≤ 1048576 := by omega
  have HQ1 := Lib.hid hq1
  clear hq1
  go_wp2_with fail
  go_ret
  exact ⟨_, rfl, .inr ⟨hp1, by have := HQ0.out; have := HQ1.out; unfold totTimetable; omega⟩, inferInstance⟩
theorem laws_toTimetable {w0 w : World} {sA0 : Option Addr} {sn0 sc0 : Nat} {sA1 : Option Addr} {sn1 sc1 : Nat} {sA2 : Option Addr} {sn2 sc2 : Nat} {t : Timetable} (h : TimetableAt w0 sA0 sn0 sc0 sA1 sn1 sc1 sA2 sn2 sc2 t) (hl : Later w0 w) (hn : totTimetable t ≤ 1048576) :
    Calls Try.prog 36 #[.agg #[.slice sA0 sn0 sc0, .slice sA1 sn1 sc1, .slice sA2 sn2 sc2]] w (RetOTimetable t w) := by
  replace h := h.later hl
  have HB0 : ∀ W [Later (w.alloc (.cells #[.slice sA0 sn0 sc0, .slice sA1 sn1 sc1, .slice sA2 sn2 sc2] 59)) W] (j : Nat), W.cell? ⟨w.heap.size, j, none⟩ = #[.slice sA0 sn0 sc0, .slice sA1 sn1 sc1, .slice sA2 sn2 sc2][j]? := Later.boxes (t := 59) (fr := (0, 0)) (heap_new (by simp; try omega))
  unfold totTimetable at hn
  have HB : Blk (((w.alloc (.cells #[.slice sA0 sn0 sc0, .slice sA1 sn1 sc1, .slice sA2 sn2 sc2] 59)).alloc (.cells #[.slice none 0 0, .slice none 0 0, .slice none 0 0] 67)).alloc (.cells #[.slice none 0 0, .slice none 0 0, .slice none 0 0] 67)) (w.heap.size + 1 + 1) 67 #[.slice none 0 0, .slice none 0 0, .slice none 0 0] := heap_new (by simp; try omega)
  go_enter Try.func36, Try.ntmps36
  have HR : Blk (((w.alloc (.cells #[.slice sA0 sn0 sc0, .slice sA1 sn1 sc1, .slice sA2 sn2 sc2] 59)).alloc (.cells #[.slice none 0 0, .slice none 0 0, .slice none 0 0] 67)).alloc (.cells #[.slice none 0 0, .slice none 0 0, .slice none 0 0] 67)) (w.heap.size + 1) 67 #[.slice none 0 0, .slice none 0 0, .slice none 0 0] := (heap_old (by simp; try omega)).trans (heap_new (by simp; try omega))
  have hZ : w.heap.size + 3 ≤ (((w.alloc (.cells #[.slice sA0 sn0 sc0, .slice sA1 sn1 sc1, .slice sA2 sn2 sc2] 59)).alloc (.cells #[.slice none 0 0, .slice none 0 0, .slice none 0 0] 67)).alloc (.cells #[.slice none 0 0, .slice none 0 0, .slice none 0 0] 67)).heap.size := by simp; try omega
  go_wp2_with fail
  refine (laws_toNetwork ⟨h.l_Network_Stops, h.l_Network_Lines⟩ inferInstance (by omega)).mono ?_
  rintro e w0 ⟨A0_0, n0_0, c0_0, A0_1, n0_1, c0_1, f0_0, f0_1, rfl, o0, nd0, lo0, hL0⟩
  have hX0 := Later.trans (w := (w.alloc (.cells #[.slice sA0 sn0 sc0, .slice sA1 sn1 sc1, .slice sA2 sn2 sc2] 59))) inferInstance hL0
  have hU0 := Later.trans (w := w) inferInstance hX0
  replace HB : Blk w0 (w.heap.size + 1 + 1) 67 #[.slice none 0 0, .slice none 0 0, .slice none 0 0] := HB.later hL0
  replace HR : Blk w0 (w.heap.size + 1) 67 #[.slice none 0 0, .slice none 0 0, .slice none 0 0] := HR.later hL0
  have hn0 : (w.heap.size + 1 + 1) ∉ (f0_0 ++ f0_1) := fun hh => by have := lo0 _ hh; simp at this; omega
  have hm0 : (w.heap.size + 1) ∉ (f0_0 ++ f0_1) := fun hh => by have := lo0 _ hh; simp at this; omega
  have lq0 : ∀ g, g ∈ (f0_0 ++ f0_1) → w.heap.size ≤ g := fun g hh => by have := lo0 _ hh; simp at this; omega
  obtain ⟨N0, hN0⟩ : ∃ N, N = w0.heap.size := ⟨_, rfl⟩
  have lt0 : ∀ g, g ∈ (f0_0 ++ f0_1) → g < N0 := fun g hh => by rw [hN0]; exact o0.lt g hh
  replace hZ : w.heap.size + 3 ≤ w0.heap.size := by have := hL0.size; simp at this; omega
  have hc0 := fun j => HB.cell j
  have hf0 := fun j => HB.frozen j
  go_wp2_with fail
  refine (laws_toTripS h.l_Trips inferInstance (by have := h.l_Trips.len; omega)).mono ?_
  rintro e w1 ⟨A1, n1, c1, f1, rfl, o1, nd1, lo1, hL1⟩
  have hX1 := Later.trans (w := (w.alloc (.cells #[.slice sA0 sn0 sc0, .slice sA1 sn1 sc1, .slice sA2 sn2 sc2] 59))) inferInstance hL1
  have hU1 := Later.trans (w := w) inferInstance hX1
  replace HB : Blk w1 (w.heap.size + 1 + 1) 67 #[.slice A0_0 n0_0 c0_0, .slice A0_1 n0_1 c0_1, .slice none 0 0] := ((HB.set_ 0 _).set_ 1 _).later hL1
  replace HR : Blk w1 (w.heap.size + 1) 67 #[.slice none 0 0, .slice none 0 0, .slice none 0 0] := ((HR.far (by simp) _).far (by simp) _).later hL1
  replace o0 := ((o0.setc hn0 _ _).setc hn0 _ _).later hL1
  have hn1 : (w.heap.size + 1 + 1) ∉ f1 := fun hh => by have := lo1 _ hh; simp at this; omega
  have hm1 : (w.heap.size + 1) ∉ f1 := fun hh => by have := lo1 _ hh; simp at this; omega
  have lq1 : ∀ g, g ∈ f1 → w.heap.size ≤ g := fun g hh => by have := lo1 _ hh; simp at this; omega
  have lr1 : ∀ g, g ∈ f1 → N0 ≤ g := fun g hh => by have := lo1 _ hh; simp at this; omega
  obtain ⟨N1, hN1⟩ : ∃ N, N = w1.heap.size := ⟨_, rfl⟩
  have lt1 : ∀ g, g ∈ f1 → g < N1 := fun g hh => by rw [hN1]; exact o1.lt g hh
  replace hZ : w.heap.size + 3 ≤ w1.heap.size := by have := hL1.size; simp at this; omega
  have hc1 := fun j => HB.cell j
  have hf1 := fun j => HB.frozen j
  clear lo0
  clear lo1
  have hcr := fun j => HR.cell j
  have hfr := fun j => HR.frozen j
  go_wp2
  have hr0 := (((HR.far (p := ⟨w.heap.size + 1 + 1, 2, none⟩) (by simp) (.slice A1 n1 c1)).set_ 0 (.slice A0_0 n0_0 c0_0)).cell 0).trans (show _ = some (.slice A0_0 n0_0 c0_0 : Value) from rfl)
  have hr1 := ((((HR.far (p := ⟨w.heap.size + 1 + 1, 2, none⟩) (by simp) (.slice A1 n1 c1)).set_ 0 (.slice A0_0 n0_0 c0_0)).set_ 1 (.slice A0_1 n0_1 c0_1)).cell 1).trans (show _ = some (.slice A0_1 n0_1 c0_1 : Value) from rfl)
  have hr2 := (((((HR.far (p := ⟨w.heap.size + 1 + 1, 2, none⟩) (by simp) (.slice A1 n1 c1)).set_ 0 (.slice A0_0 n0_0 c0_0)).set_ 1 (.slice A0_1 n0_1 c0_1)).set_ 2 (.slice A1 n1 c1)).cell 2).trans (show _ = some (.slice A1 n1 c1 : Value) from rfl)
  refine bodyPost_ret (v := .agg #[.slice A0_0 n0_0 c0_0, .slice A0_1 n0_1 c0_1, .slice A1 n1 c1]) (by simp [results, Try.results36, go_sem, hr0, hr1, hr2]) rfl ?_
  exact ⟨A0_0, n0_0, c0_0, A0_1, n0_1, c0_1, A1, n1, c1, f0_0, f0_1, f1, rfl, ⟨((((o0.setc hn0 _ _).setc hm0 _ _).setc hm0 _ _).setc hm0 _ _).l_Stops, ((((o0.setc hn0 _ _).setc hm0 _ _).setc hm0 _ _).setc hm0 _ _).l_Lines, ((((o1.setc hn1 _ _).setc hm1 _ _).setc hm1 _ _).setc hm1 _ _)⟩, by rw [← List.append_assoc]; exact nodup_app nd0 nd1 lt0 lr1, fun g hg => by rw [← List.append_assoc] at hg; rcases List.mem_append.1 hg with hg | hg; exact lq0 g hg; exact lq1 g hg, inferInstance⟩
theorem laws_eqTimetable {w0 w1 w : World} {sA0 : Option Addr} {sn0 sc0 : Nat} {sA1 : Option Addr} {sn1 sc1 : Nat} {sA2 : Option Addr} {sn2 sc2 : Nat} {qA0 : Option Addr} {qn0 qc0 : Nat} {qA1 : Option Addr} {qn1 qc1 : Nat} {qA2 : Option Addr} {qn2 qc2 : Nat} {a b : Timetable} (ha : TimetableAt w0 sA0 sn0 sc0 sA1 sn1 sc1 sA2 sn2 sc2 a) (hla : Later w0 w) (hb : TimetableAt w1 qA0 qn0 qc0 qA1 qn1 qc1 qA2 qn2 qc2 b) (hlb : Later w1 w) :
    Calls Try.prog 39 #[.agg #[.slice sA0 sn0 sc0, .slice sA1 sn1 sc1, .slice sA2 sn2 sc2], .agg #[.slice qA0 qn0 qc0, .slice qA1 qn1 qc1, .slice qA2 qn2 qc2]] w (Ret (.bool (decide (a = b))) w) := by
  replace ha := ha.later hla
  replace hb := hb.later hlb
  have HB0 : ∀ W [Later ((w.alloc (.cells #[.slice sA0 sn0 sc0, .slice sA1 sn1 sc1, .slice sA2 sn2 sc2] 67)).alloc (.cells #[.slice qA0 qn0 qc0, .slice qA1 qn1 qc1, .slice qA2 qn2 qc2] 67)) W] (j : Nat), W.cell? ⟨w.heap.size, j, none⟩ = #[.slice sA0 sn0 sc0, .slice sA1 sn1 sc1, .slice sA2 sn2 sc2][j]? := Later.boxes (t := 67) (fr := (0, 0)) ((heap_old (by simp; try omega)).trans (heap_new (by simp; try omega))); have HB1 : ∀ W [Later ((w.alloc (.cells #[.slice sA0 sn0 sc0, .slice sA1 sn1 sc1, .slice sA2 sn2 sc2] 67)).alloc (.cells #[.slice qA0 qn0 qc0, .slice qA1 qn1 qc1, .slice qA2 qn2 qc2] 67)) W] (j : Nat), W.cell? ⟨w.heap.size + 1, j, none⟩ = #[.slice qA0 qn0 qc0, .slice qA1 qn1 qc1, .slice qA2 qn2 qc2][j]? := Later.boxes (t := 67) (fr := (0, 0)) (heap_new (by simp; try omega))
  go_enter Try.func39, Try.ntmps39
  go_wp2_with fail
  refine (laws_eqNetwork ⟨ha.l_Network_Stops, ha.l_Network_Lines⟩ inferInstance ⟨hb.l_Network_Stops, hb.l_Network_Lines⟩ inferInstance).mono ?_
  rintro e w2 ⟨rfl, hL0⟩
  have hX0 := Later.trans (w := ((w.alloc (.cells #[.slice sA0 sn0 sc0, .slice sA1 sn1 sc1, .slice sA2 sn2 sc2] 67)).alloc (.cells #[.slice qA0 qn0 qc0, .slice qA1 qn1 qc1, .slice qA2 qn2 qc2] 67))) inferInstance hL0
  have hU0 := Later.trans (w := w) inferInstance hX0
  by_cases q0 : a.Network = b.Network
  rotate_left
  · have hd0 : decide (a.Network = b.Network) = false := decide_eq_false q0
    have HN : Hid (a ≠ b) := fun e => q0 (by rw [e])
    clear q0
    go_wp2
    go_ret
    exact ⟨ret_bool (decide_eq_false HN.out).symm, inferInstance⟩
  have hd0 : decide (a.Network = b.Network) = true := decide_eq_true q0
  have HQ0 := Lib.hid q0
  clear q0
  go_wp2_with fail
  refine (laws_eqTripS ha.l_Trips inferInstance hb.l_Trips inferInstance).mono ?_
  rintro e w3 ⟨rfl, hL1⟩
  have hX1 := Later.trans (w := ((w.alloc (.cells #[.slice sA0 sn0 sc0, .slice sA1 sn1 sc1, .slice sA2 sn2 sc2] 67)).alloc (.cells #[.slice qA0 qn0 qc0, .slice qA1 qn1 qc1, .slice qA2 qn2 qc2] 67))) inferInstance hL1
  have hU1 := Later.trans (w := w) inferInstance hX1
  by_cases q1 : a.Trips = b.Trips
  rotate_left
  · have hd1 : decide (a.Trips = b.Trips) = false := decide_eq_false q1
    have HN : Hid (a ≠ b) := fun e => q1 (by rw [e])
    clear q1
    go_wp2
    go_ret
    exact ⟨ret_bool (decide_eq_false HN.out).symm, inferInstance⟩
  have hd1 : decide (a.Trips = b.Trips) = true := decide_eq_true q1
  have HQ1 := Lib.hid q1
  clear q1
  go_wp2
  go_ret
  refine ⟨ret_bool (decide_eq_true ?_).symm, inferInstance⟩
  have e0 := HQ0.out
  have e1 := HQ1.out
  cases a; cases b; simp_all
def cntTimetable (t : Timetable) : Nat := (cntNetwork t.Network) + (3 * t.Trips.length)
theorem laws_markTimetable {w : World} {sA0 : Option Addr} {sn0 sc0 : Nat} {sA1 : Option Addr} {sn1 sc1 : Nat} {sA2 : Option Addr} {sn2 sc2 : Nat} {t : Timetable} {sf0 sf1 sf2 : List Nat} {k0 : Int} (h : TimetableOw w sA0 sn0 sc0 sA1 sn1 sc1 sA2 sn2 sc2 t sf0 sf1 sf2) (hnd : (sf0 ++ (sf1 ++ sf2)).Nodup) (h0 : 0 ≤ k0) (h1 : k0 + cntTimetable t ≤ 4611686018427387904) :
    Calls Try.prog 44 #[.agg #[.slice sA0 sn0 sc0, .slice sA1 sn1 sc1, .slice sA2 sn2 sc2], .int .i64 k0] w (RetMk (k0 + cntTimetable t) (sf0 ++ (sf1 ++ sf2)) (fun w' => True) w) := by
  unfold cntTimetable at h1
  obtain rfl := h.l_Trips.len
  have hlt := h.lt
  have HB : Blk (w.alloc (.cells #[.slice sA0 sn0 sc0, .slice sA1 sn1 sc1, .slice sA2 t.Trips.length sc2] 67)) w.heap.size 67 #[.slice sA0 sn0 sc0, .slice sA1 sn1 sc1, .slice sA2 t.Trips.length sc2] := heap_new rfl
  have hT : Touch (sf0 ++ (sf1 ++ sf2)) w (w.alloc (.cells #[.slice sA0 sn0 sc0, .slice sA1 sn1 sc1, .slice sA2 t.Trips.length sc2] 67)) := Touch.of_later inferInstance
  have hB_Network : w.heap.size ∉ sf0 ++ sf1 := fun hh => Nat.lt_irrefl _ (hlt _ (by rw [← List.append_assoc]; exact List.mem_append_left _ hh))
  have hB_Trips : w.heap.size ∉ sf2 := fun hh => Nat.lt_irrefl _ (hlt _ (List.mem_append_right _ (List.mem_append_right _ hh)))
  obtain ⟨nd0, nd1, dj⟩ := List.nodup_append.1 (show ((sf0 ++ sf1) ++ sf2).Nodup by simpa using hnd)
  have o0 := ((⟨h.l_Network_Stops, h.l_Network_Lines⟩ : NetworkOw w sA0 sn0 sc0 sA1 sn1 sc1 t.Network sf0 sf1)).later (inferInstance : Later w (w.alloc (.cells #[.slice sA0 sn0 sc0, .slice sA1 sn1 sc1, .slice sA2 t.Trips.length sc2] 67)))
  have o1 := (h.l_Trips).later (inferInstance : Later w (w.alloc (.cells #[.slice sA0 sn0 sc0, .slice sA1 sn1 sc1, .slice sA2 t.Trips.length sc2] 67)))
  go_enter Try.func44, Try.ntmps44
  have hc0 := fun j => HB.cell j
  go_wp2_with fail
  refine (laws_markNetwork o0 nd0 h0 (by omega)).mono ?_
  rintro e w0 ⟨rfl, T0, p0⟩
  replace HB := T0.blk HB hB_Network
  replace hT := hT.trans (T0.mono (fun g hg => (by rw [← List.append_assoc]; exact List.mem_append_left _ hg)))
  replace o1 := o1.touch T0 (fun g hg hh => dj g hh g hg rfl)
  have hc1 := fun j => HB.cell j
  go_wp2_with fail
  refine (laws_markTripS o1 (by omega) (by omega)).mono ?_
  rintro e w1 ⟨rfl, T1, p1⟩
  replace HB := T1.blk HB hB_Trips
  replace hT := hT.trans (T1.mono (fun g hg => (List.mem_append_right _ (List.mem_append_right _ hg))))
  go_wp2
  go_ret
  exact ⟨ret_int (by unfold cntTimetable; omega), hT, trivial⟩
end Go.Proofs.Ytbkeccpjcmhhjaa
